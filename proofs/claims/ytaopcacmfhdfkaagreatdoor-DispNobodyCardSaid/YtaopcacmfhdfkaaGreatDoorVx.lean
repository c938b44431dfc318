/- The walk, reckoned out over lists; for every program. -/
import Derived.Test.YtaopcacmfhdfkaaGreatDoorVw
import Derived.ProofKit
import Derived.ChangeOld
import Derived.Deep.Slices
namespace Go.Proofs.YtaopcacmfhdfkaaGreatDoor.Vc
open Go Go.RowKit
set_option linter.unusedSimpArgs false
set_option linter.unusedVariables false

/-! States as lists; what instructions do, as propositions that are reckoned out. -/

abbrev TL := List (Nat × TV)
abbrev OL := List (Nat × Ob)
def lk : TL → Nat → TV
  | [], _ => .dead
  | (d, v) :: l, t => bif Nat.beq t d then v else lk l t
def lo : OL → Nat → Option Ob
  | [], _ => none
  | (d, x) :: o, e => bif Nat.beq e d then some x else lo o e
def fr (l : TL) (o : OL) : St := ⟨lk l, lo o⟩

theorem beq_upd {α : Type} (f : Nat → α) (d : Nat) (v : α) : (fun t => bif Nat.beq t d then v else f t) = upd f d v := by
  funext t
  simp only [upd]
  by_cases h : t = d
  · simp [h]
  · have : Nat.beq t d = false := by rw [Bool.eq_false_iff]; intro h'; exact h (Nat.eq_of_beq_eq_true h')
    simp [h, this]
theorem lk_cons (d : Nat) (v : TV) (l : TL) : lk ((d, v) :: l) = upd (lk l) d v := beq_upd _ _ _
theorem lo_cons (d : Nat) (x : Ob) (o : OL) : lo ((d, x) :: o) = upd (lo o) d (some x) := beq_upd _ _ _
theorem fr_put (l : TL) (o : OL) (d : Nat) (v : TV) : fr ((d, v) :: l) o = (fr l o).put d v := by simp [fr, St.put, lk_cons]
theorem fr_app0 (l : TL) (o : OL) (d : Nat) (v : TV) : (fr l o).app d v [] = fr ((d, v) :: l) o := by simp [fr, St.app, lk_cons, addObs]
theorem fr_app1 (l : TL) (o : OL) (d e : Nat) (v : TV) (x : Ob) : (fr l o).app d v [(e, x)] = fr ((d, v) :: l) ((e, x) :: o) := by simp [fr, St.app, lk_cons, lo_cons, addObs]
theorem fr_ob (l : TL) (o : OL) (e : Nat) (x : Ob) : ({ fr l o with ob := upd (fr l o).ob e (some x) } : St) = fr l ((e, x) :: o) := by simp [fr, lo_cons]

def evL (l : TL) : Operand → TV
  | .tmp t => lk l t
  | .const v => bif plain v then .v v else .dead
  | .func f => .v (.func (.func f) #[] #[])
  | .global _ => .dead
theorem fr_ev (l : TL) (o : OL) (x : Operand) : (fr l o).ev x = evL l x := by cases x <;> rfl

/-- A value, reckoned out. -/
def frc (x : TV) (K : TV → Prop) : Prop :=
  match x with
  | .v u => K (.v u) | .a cs => K (.a cs) | .s z xs => K (.s z xs) | .r cs => K (.r cs) | .o d => K (.o d) | .p d i q => K (.p d i q)
  | .x t y => K (.x t y) | .f g c => K (.f g c) | .t xs => K (.t xs) | .dead => K .dead
theorem frc_eq (x : TV) (K : TV → Prop) : frc x K = K x := by cases x <;> rfl
/-- Cells, reckoned out. -/
def nrm : List TV → (List TV → Prop) → Prop
  | [], K => K []
  | x :: xs, K => frc x fun y => nrm xs fun ys => K (y :: ys)
theorem nrm_eq : ∀ (xs : List TV) (K : List TV → Prop), nrm xs K = K xs
  | [], _ => rfl
  | x :: xs, K => by simp only [nrm, frc_eq, nrm_eq xs]

/-- What is to be told, each under its own name. -/
inductive Bv2 {n : Nat} (a b : Int) (K : BitVec n → BitVec n → Prop) : Prop where
  | mk (x y : BitVec n) (h1 : a = Int.ofNat x.toNat) (h2 : b = Int.ofNat y.toNat) (h : K x y)
inductive Bv1 {n : Nat} (a : Int) (K : BitVec n → Prop) : Prop where
  | mk (x : BitVec n) (h1 : a = Int.ofNat x.toNat) (h : K x)
inductive Wr (a : Int) (K : Int → Prop) : Prop where
  | mk (r : Int) (h1 : a = r) (h : K r)
inductive Get {α : Type} (x : Option α) (K : α → Prop) : Prop where
  | mk (v : α) (h1 : x = some v) (h : K v)

/-- An unsigned kind's width. -/
def wd : IntKind → Option Nat
  | .u8 => some 8 | .u16 => some 16 | .u32 => some 32 | .u64 => some 64 | _ => none
theorem wd_bits {k : IntKind} {n : Nat} (h : wd k = some n) : k.bits = n ∧ k.signed = false := by
  cases k <;> simp [wd] at h <;> subst h <;> exact ⟨rfl, rfl⟩
theorem wrap_uns {k : IntKind} {n : Nat} (h : wd k = some n) (m : Int) : k.wrap m = m % 2 ^ n := by
  obtain ⟨h1, h2⟩ := wd_bits h
  simp [IntKind.wrap, h1, h2]
theorem ofInt_nat {n : Nat} (x : BitVec n) : BitVec.ofInt n (Int.ofNat x.toNat) = x := by
  apply BitVec.eq_of_toNat_eq
  simp
theorem wrap_nat {k : IntKind} {n : Nat} (h : wd k = some n) (x : BitVec n) : k.wrap (Int.ofNat x.toNat) = Int.ofNat x.toNat := by
  rw [wrap_uns h]
  have := x.isLt
  refine Int.emod_eq_of_lt (by simp) ?_
  show (x.toNat : Int) < _
  exact_mod_cast this

def binW (op : BinOp) (k : IntKind) {n : Nat} (x y : BitVec n) (K : Value → Prop) : Prop :=
  match op with
  | .add => K (.int k (Int.ofNat (x + y).toNat))
  | .sub => K (.int k (Int.ofNat (x - y).toNat))
  | .mul => K (.int k (Int.ofNat (x * y).toNat))
  | .quo => y ≠ 0#n ∧ K (.int k (Int.ofNat (x / y).toNat))
  | .rem => y ≠ 0#n ∧ K (.int k (Int.ofNat (x % y).toNat))
  | .and => K (.int k (Int.ofNat (x &&& y).toNat))
  | .or => K (.int k (Int.ofNat (x ||| y).toNat))
  | .xor => K (.int k (Int.ofNat (x ^^^ y).toNat))
  | .andNot => K (.int k (Int.ofNat (x &&& ~~~ y).toNat))
  | .eql => K (.bool (decide (x = y)))
  | .neq => K (.bool (!decide (x = y)))
  | .lss => K (.bool (decide (x.toNat < y.toNat)))
  | .leq => K (.bool (decide (x.toNat ≤ y.toNat)))
  | .gtr => K (.bool (decide (y.toNat < x.toNat)))
  | .geq => K (.bool (decide (y.toNat ≤ x.toNat)))
  | _ => False
def binS (op : BinOp) (k : IntKind) (a b : Int) (K : Value → Prop) : Prop :=
  match op with
  | .add => Wr (k.wrap (a + b)) fun r => K (.int k r)
  | .sub => Wr (k.wrap (a - b)) fun r => K (.int k r)
  | .mul => Wr (k.wrap (a * b)) fun r => K (.int k r)
  | .quo => b ≠ 0 ∧ Wr (k.wrap (a.tdiv b)) fun r => K (.int k r)
  | .rem => b ≠ 0 ∧ K (.int k (a.tmod b))
  | .and => Wr (k.wrap (BitVec.ofInt k.bits a &&& BitVec.ofInt k.bits b).toNat) fun r => K (.int k r)
  | .or => Wr (k.wrap (BitVec.ofInt k.bits a ||| BitVec.ofInt k.bits b).toNat) fun r => K (.int k r)
  | .xor => Wr (k.wrap (BitVec.ofInt k.bits a ^^^ BitVec.ofInt k.bits b).toNat) fun r => K (.int k r)
  | .andNot => Wr (k.wrap (BitVec.ofInt k.bits a &&& ~~~ BitVec.ofInt k.bits b).toNat) fun r => K (.int k r)
  | .eql => K (.bool (decide (a = b)))
  | .neq => K (.bool (!decide (a = b)))
  | .lss => K (.bool (decide (a < b)))
  | .leq => K (.bool (decide (a ≤ b)))
  | .gtr => K (.bool (decide (b < a)))
  | .geq => K (.bool (decide (b ≤ a)))
  | _ => False
def binX (op : BinOp) (u u' : Value) (K : Value → Prop) : Prop :=
  match op, u, u' with
  | .shl, .int k a, .int _ b => 0 ≤ b ∧ (match wd k with
    | some n => Bv1 (n := n) a fun x => K (.int k (Int.ofNat (x <<< b.toNat).toNat))
    | none => Wr (k.wrap (a * 2 ^ min b.toNat k.bits)) fun r => K (.int k r))
  | .shr, .int k a, .int _ b => 0 ≤ b ∧ (match wd k with
    | some n => Bv1 (n := n) a fun x => K (.int k (Int.ofNat (x >>> b.toNat).toNat))
    | none => K (.int k (a.fdiv (2 ^ min b.toNat k.bits))))
  | op, .int k a, .int k' b => k = k' ∧ (match wd k with
    | some n => Bv2 (n := n) a b fun x y => binW op k x y K
    | none => binS op k a b K)
  | .add, .string a, .string b => a.size + b.size ≤ 9223372036854775807 ∧ K (.string (a ++ b))
  | .eql, .string a, .string b => K (.bool (a.toList == b.toList))
  | .neq, .string a, .string b => K (.bool (!(a.toList == b.toList)))
  | .lss, .string a, .string b => K (.bool (Op.bytesLess a.toList b.toList))
  | .leq, .string a, .string b => K (.bool (Op.bytesLess a.toList b.toList || a.toList == b.toList))
  | .gtr, .string a, .string b => K (.bool !(Op.bytesLess a.toList b.toList || a.toList == b.toList))
  | .geq, .string a, .string b => K (.bool !(Op.bytesLess a.toList b.toList))
  | _, _, _ => False

theorem binW_ok {op : BinOp} {k : IntKind} {n : Nat} (hk : wd k = some n) {x y : BitVec n} {K : Value → Prop} (hs : op ≠ .shl ∧ op ≠ .shr) (h : binW op k x y K) : ∃ r, vint op k (Int.ofNat x.toNat) (Int.ofNat y.toNat) = some r ∧ K r := by
  obtain ⟨h1, _⟩ := wd_bits hk
  have hx := x.isLt
  have hy := y.isLt
  have hw : ∀ z : BitVec n, k.wrap (z.toNat : Int) = Int.ofNat z.toNat := fun z => wrap_nat hk z
  have hb : BitVec.ofInt k.bits (Int.ofNat x.toNat) = (x.cast h1.symm) := by subst h1; exact ofInt_nat x
  have hb' : BitVec.ofInt k.bits (Int.ofNat y.toNat) = (y.cast h1.symm) := by subst h1; exact ofInt_nat y
  subst h1
  have hdec : ∀ (p q : Prop) [Decidable p] [Decidable q], (p ↔ q) → decide p = decide q := fun p q _ _ hpq => by
    by_cases hp : p
    · have hq := hpq.1 hp; simp [hp, hq]
    · have hq : ¬ q := fun hq => hp (hpq.2 hq); simp [hp, hq]
  have heq : decide ((Int.ofNat x.toNat) = Int.ofNat y.toNat) = decide (x = y) := hdec _ _ ⟨fun h => BitVec.eq_of_toNat_eq (Int.ofNat.inj h), fun h => by rw [h]⟩
  have hlt : ∀ a b : Nat, decide (Int.ofNat a < Int.ofNat b) = decide (a < b) := fun a b => hdec _ _ (by simp)
  have hle : ∀ a b : Nat, decide (Int.ofNat a ≤ Int.ofNat b) = decide (a ≤ b) := fun a b => hdec _ _ (by simp)
  have hy0 : y ≠ 0#k.bits → Int.ofNat y.toNat ≠ 0 := fun h1 h2 => h1 (BitVec.eq_of_toNat_eq (by have := Int.ofNat.inj h2; simpa using this))
  cases op <;> simp only [binW] at h <;> simp only [vint, hb, hb', BitVec.cast_eq]
  case add => exact ⟨_, by rw [wrap_uns hk, BitVec.toNat_add]; simp, h⟩
  case sub =>
    refine ⟨_, ?_, h⟩
    rw [wrap_uns hk, BitVec.toNat_sub]
    have e1 : ((2 ^ k.bits - y.toNat + x.toNat : Nat) : Int) = (x.toNat : Int) - y.toNat + 2 ^ k.bits := by
      have : ((2 ^ k.bits - y.toNat : Nat) : Int) = 2 ^ k.bits - y.toNat := by
        rw [Int.ofNat_sub (by omega)]; simp
      rw [Int.natCast_add, this]; omega
    simp only [Option.some.injEq, Value.int.injEq, true_and]
    show _ = (((2 ^ k.bits - y.toNat + x.toNat) % 2 ^ k.bits : Nat) : Int)
    rw [Int.natCast_emod, e1]
    simp
  case mul => exact ⟨_, by rw [wrap_uns hk, BitVec.toNat_mul]; simp, h⟩
  case quo =>
    refine ⟨_, ?_, h.2⟩
    rw [if_neg (hy0 h.1)]
    have : (Int.ofNat x.toNat).tdiv (Int.ofNat y.toNat) = Int.ofNat (x / y).toNat := by simp
    rw [this, wrap_nat hk]
  case rem =>
    refine ⟨_, ?_, h.2⟩
    rw [if_neg (hy0 h.1)]
    have : (Int.ofNat x.toNat).tmod (Int.ofNat y.toNat) = Int.ofNat (x % y).toNat := by simp; rfl
    rw [this]
  case and => exact ⟨_, by rw [hw], h⟩
  case or => exact ⟨_, by rw [hw], h⟩
  case xor => exact ⟨_, by rw [hw], h⟩
  case andNot => exact ⟨_, by rw [hw], h⟩
  case eql => exact ⟨_, by rw [← heq]; rfl, h⟩
  case neq => exact ⟨_, by rw [← heq]; rfl, h⟩
  case lss => exact ⟨_, by rw [hlt], h⟩
  case leq => exact ⟨_, by rw [hle], h⟩
  case gtr => exact ⟨_, by simp only [gt_iff_lt]; rw [hlt], h⟩
  case geq => exact ⟨_, by simp only [ge_iff_le]; rw [hle], h⟩

theorem binS_ok {op : BinOp} {k : IntKind} {a b : Int} {K : Value → Prop} (h : binS op k a b K) : ∃ r, vint op k a b = some r ∧ K r := by
  cases op <;> simp only [binS] at h <;> simp only [vint]
  case add | sub | mul | and | or | xor | andNot => obtain ⟨r, rfl, h⟩ := h; exact ⟨_, rfl, h⟩
  case quo => obtain ⟨h0, r, rfl, h⟩ := h; exact ⟨_, by rw [if_neg h0], h⟩
  case rem => exact ⟨_, by rw [if_neg h.1], h.2⟩
  all_goals exact ⟨_, rfl, h⟩

theorem shl_nat {k : IntKind} {n : Nat} (hk : wd k = some n) (x : BitVec n) (m : Nat) : k.wrap (Int.ofNat x.toNat * 2 ^ min m k.bits) = Int.ofNat (x <<< m).toNat := by
  obtain ⟨h1, _⟩ := wd_bits hk
  rw [wrap_uns hk, h1, BitVec.toNat_shiftLeft, Nat.shiftLeft_eq]
  show ((x.toNat : Int) * 2 ^ min m n) % 2 ^ n = ((x.toNat * 2 ^ m % 2 ^ n : Nat) : Int)
  have h2 : ((x.toNat : Int) * 2 ^ min m n) % 2 ^ n = ((x.toNat * 2 ^ min m n % 2 ^ n : Nat) : Int) := by
    rw [Int.natCast_emod]; simp
  rw [h2]
  congr 1
  rcases Nat.le_total m n with h | h
  · rw [Nat.min_eq_left h]
  · rw [Nat.min_eq_right h]
    have : 2 ^ m = 2 ^ n * 2 ^ (m - n) := by rw [← Nat.pow_add]; congr 1; omega
    rw [this, ← Nat.mul_assoc, Nat.mul_right_comm]
    simp
theorem shr_nat {k : IntKind} {n : Nat} (hk : wd k = some n) (x : BitVec n) (m : Nat) : (Int.ofNat x.toNat).fdiv (2 ^ min m k.bits) = Int.ofNat (x >>> m).toNat := by
  obtain ⟨h1, _⟩ := wd_bits hk
  have hx := x.isLt
  rw [h1, BitVec.toNat_ushiftRight, Nat.shiftRight_eq_div_pow]
  have h2 : (Int.ofNat x.toNat).fdiv (2 ^ min m n) = ((x.toNat / 2 ^ min m n : Nat) : Int) := by
    rw [Int.fdiv_eq_ediv_of_nonneg _ (by exact Int.le_of_lt (Int.pow_pos (by omega)))]
    rw [Int.natCast_ediv]; simp
  rw [h2]
  show _ = ((x.toNat / 2 ^ m : Nat) : Int)
  congr 1
  rcases Nat.le_total m n with h | h
  · rw [Nat.min_eq_left h]
  · rw [Nat.min_eq_right h, Nat.div_eq_of_lt hx, Nat.div_eq_of_lt (Nat.lt_of_lt_of_le hx (Nat.pow_le_pow_right (by omega) h))]

theorem binX_ok {op : BinOp} {u u' : Value} {K : Value → Prop} (h : binX op u u' K) : ∃ r, vbin op u u' = some r ∧ K r := by
  unfold binX at h
  split at h
  · obtain ⟨hb, h⟩ := h
    have hb' : ¬ (_ : Int) < 0 := Int.not_lt.2 hb
    simp only [vbin, if_neg hb']
    split at h
    · rename_i n hk
      obtain ⟨x, rfl, h⟩ := h
      exact ⟨_, by rw [shl_nat hk], h⟩
    · obtain ⟨r, rfl, h⟩ := h
      exact ⟨_, rfl, h⟩
  · obtain ⟨hb, h⟩ := h
    have hb' : ¬ (_ : Int) < 0 := Int.not_lt.2 hb
    simp only [vbin, if_neg hb']
    split at h
    · rename_i n hk
      obtain ⟨x, rfl, h⟩ := h
      exact ⟨_, by rw [shr_nat hk], h⟩
    · exact ⟨_, rfl, h⟩
  · rename_i k a k' b h1 h2
    obtain ⟨rfl, h⟩ := h
    have hs : op ≠ .shl ∧ op ≠ .shr := ⟨fun e => h1 e, fun e => h2 e⟩
    have hv : ∀ a b, vbin op (.int k a) (.int k b) = vint op k a b := fun a b => by
      unfold vbin
      cases op <;> first | (simp; done) | (simp at hs; done)
    rw [hv]
    split at h
    · rename_i n hk
      obtain ⟨x, y, rfl, rfl, h⟩ := h
      exact binW_ok hk hs h
    · exact binS_ok h
  · obtain ⟨h1, h⟩ := h
    exact ⟨_, by simp only [vbin, vstr]; rw [if_pos h1], h⟩
  all_goals first
    | exact h.elim
    | exact ⟨_, rfl, h⟩
end Go.Proofs.YtaopcacmfhdfkaaGreatDoor.Vc

namespace Go.Proofs.YtaopcacmfhdfkaaGreatDoor.Vc
open Go Go.RowKit
set_option linter.unusedSimpArgs false
set_option linter.unusedVariables false

def unX (op : UnOp) (u : Value) (K : Value → Prop) : Prop :=
  match op, u with
  | .neg, .int k n => (match wd k with
    | some m => Bv1 (n := m) n fun x => K (.int k (Int.ofNat (-x).toNat))
    | none => Wr (k.wrap (0 - n)) fun r => K (.int k r))
  | .xor, .int k n => (match wd k with
    | some m => Bv1 (n := m) n fun x => K (.int k (Int.ofNat (~~~ x).toNat))
    | none => Wr (k.wrap (BitVec.ofInt k.bits (-1) ^^^ BitVec.ofInt k.bits n).toNat) fun r => K (.int k r))
  | .not, .bool b => K (.bool !b)
  | _, _ => False

/-- A conversion between kinds of whole numbers. -/
def convX (k k' : IntKind) (m : Int) (K : Value → Prop) : Prop :=
  match wd k, wd k' with
  | some n, some n' => Bv1 (n := n') m fun x => K (.int k (Int.ofNat (x.setWidth n).toNat))
  | some n, none => K (.int k (Int.ofNat (BitVec.ofInt n m).toNat))
  | none, _ => Wr (k.wrap m) fun r => K (.int k r)

/-- Equations, reckoned out: of an Option. -/
def whn {α : Type} (x : Option α) (K : α → Prop) : Prop := match x with | some y => K y | none => False
theorem whn_eq {α : Type} {x : Option α} {K : α → Prop} (h : whn x K) : ∃ y, x = some y ∧ K y := by
  cases x with
  | none => exact h.elim
  | some y => exact ⟨y, rfl, h⟩

def memX (o : OL) (x : TV) (K : List TV → Prop) : Prop :=
  match x with
  | .r cs => K cs
  | .p d i off => whn (lo o d) fun b => match b with
    | .var _ y => whn (cellsT y) fun cs => K (cs.drop off)
    | .row _ _ xs => Get (xs[i]?) fun y => whn (cellsT y) fun cs => K (cs.drop off)
  | _ => False
theorem memX_ok {l : TL} {o : OL} {x : TV} {K : List TV → Prop} (h : memX o x K) : ∃ cs, (fr l o).mem x = some cs ∧ K cs := by
  unfold memX at h
  split at h
  · exact ⟨_, rfl, h⟩
  · obtain ⟨b, h1, h⟩ := whn_eq h
    simp only [St.mem, fr, h1]
    cases b with
    | var ty y =>
      obtain ⟨cs, h2, h⟩ := whn_eq h
      exact ⟨_, by simp [h2], h⟩
    | row ty sz xs =>
      obtain ⟨y, h2, h⟩ := h
      obtain ⟨cs, h3, h⟩ := whn_eq h
      exact ⟨_, by simp [h2, h3], h⟩
  · exact h.elim

/-- An object's contents, reckoned out. -/
def frcO (b : Ob) (K : Ob → Prop) : Prop :=
  match b with
  | .var ty (.a cs) => nrm cs fun cs => K (.var ty (.a cs))
  | .var ty x => frc x fun x => K (.var ty x)
  | .row ty sz xs => K (.row ty sz xs)
theorem frcO_eq (b : Ob) (K : Ob → Prop) : frcO b K = K b := by
  unfold frcO
  split
  · rw [nrm_eq]
  · rw [frc_eq]
  · rfl

mutual
/-- Does it name an object? -/
def TV.has (d : Nat) : TV → Bool
  | .o e => Nat.beq e d
  | .p e _ _ => Nat.beq e d
  | .a cs => hasL d cs
  | .x _ y => y.has d
  | .f _ cs => hasL d cs
  | .t xs => hasL d xs
  | _ => false
def hasL (d : Nat) : List TV → Bool
  | [] => false
  | x :: xs => x.has d || hasL d xs
end
def Ob.has (d : Nat) : Ob → Bool
  | .var _ x => x.has d
  | .row _ _ _ => false
/-- Nothing names object d. -/
def fresh (d : Nat) (l : TL) (o : OL) : Bool := l.all (fun q => !q.2.has d) && o.all (fun q => !q.2.has d)

def lenX (o : OL) (x : TV) : Option Nat :=
  match x with
  | .s _ xs => some xs.length
  | .o d => match lo o d with | some (.row _ _ xs) => some xs.length | _ => none
  | .v (.slice none 0 0) => some 0
  | _ => none

def bndX (l : TL) (x : Option Operand) (dflt : Nat) (K : Nat → Prop) : Prop :=
  match x with
  | none => K dflt
  | some x => match evL l x with | .v (.int _ m) => 0 ≤ m ∧ K m.toNat | _ => False
theorem bndX_ok {l : TL} {o : OL} {x : Option Operand} {dflt : Nat} {K : Nat → Prop} (h : bndX l x dflt K) : ∃ m, bndT (fr l o) x dflt = some m ∧ K m := by
  unfold bndX at h
  unfold bndT
  split at h
  · exact ⟨_, rfl, h⟩
  · split at h
    · rename_i he
      obtain ⟨h1, h⟩ := h
      simp only [fr_ev, he, if_pos h1]
      exact ⟨_, rfl, h⟩
    · exact h.elim

def elemsX (o : OL) (sz : Nat) (x : TV) (K : List TV → Prop) : Prop :=
  match x with
  | .s z xs => z = sz ∧ K xs
  | .o d => whn (lo o d) fun b => match b with | .row _ z xs => z = sz ∧ K xs | _ => False
  | .v (.slice none 0 0) => K []
  | _ => False
theorem elemsX_ok {s : St} {o : OL} {sz : Nat} {x : TV} {K : List TV → Prop} (hs : ∀ d, lo o d ≠ none → s.ob d = lo o d) (h : elemsX o sz x K) : ∃ ys, elemsT s sz x = some ys ∧ K ys := by
  unfold elemsX at h
  unfold elemsT
  split at h
  · obtain ⟨rfl, h⟩ := h; exact ⟨_, by simp, h⟩
  · obtain ⟨b, h1, h⟩ := whn_eq h
    split at h
    · obtain ⟨hz, h'⟩ := h
      simp only [hs _ (by rw [h1]; simp), h1]
      exact ⟨_, by simp [hz], h'⟩
    · exact h.elim
  · exact ⟨_, rfl, h⟩
  · exact h.elim

/-- New objects of a call. -/
def putO (D : List Nat) (dst : Nat) : OL → Nat → List Ob → OL
  | o, _, [] => o
  | o, k, b :: bs => putO D dst ((back D dst k, b.sub (bkO D dst) (bkP D dst)) :: o) (k + 1) bs
theorem lo_putO {D : List Nat} {dst : Nat} : ∀ {bs : List Ob} {o : OL} {k : Nat}, lo (putO D dst o k bs) = putObs D dst (lo o) k bs
  | [], _, _ => rfl
  | b :: bs, o, k => by simp only [putO, putObs]; rw [lo_putO, lo_cons]
theorem fr_ret (l : TL) (o : OL) (d : Nat) (D : List Nat) (r : TV) (outs : List Ob) : (fr l o).ret d D r outs = fr ((d, r.sub (bkO D d) (bkP D d)) :: l) (putO D d o 0 outs) := by
  simp [St.ret, fr, lk_cons, lo_putO]

/-- A call's contract, and what it leaves. -/
def callX (P : Program) [Lay P] (f : Bool) (d g : Nat) (vs : List TV) (l : TL) (o : OL) (K : TL → OL → Prop) : Prop :=
  (f = true ∧ ∃ e args ty sz ys xs', vs = .o e :: args ∧ Nat.ble 16 e = true ∧ lo o e = some (.row ty sz ys) ∧ immL args = true ∧ SpecG P g ty sz ys args xs' ∧ K ((d, .o e) :: l.map fun q => (q.1, q.2.sub (killO e) (frzP e))) ((e, .row ty sz xs') :: o.map fun q => (q.1, q.2.sub (killO e) (frzP e)))) ∨
  (∃ vs' r, Spec P g vs' [] r [] ∧ leL vs vs' ∧ (idsL vs).isEmpty = true ∧ r.ids.isEmpty = true ∧ K ((d, r) :: l) o) ∨
  (∃ D vw r outs, Spec P g (vs.map (TV.exp (fr l o) D vw)) (insOf (fr l o) D vw) r outs ∧ (f = false → D = [] ∧ outs.length ≤ 16) ∧ D.Nodup ∧ (∀ e ∈ D, lo o e ≠ none) ∧ (vw = true → r.nim = true ∧ ∀ b ∈ outs, b.nim) ∧
    (∀ j, D.length + j < outs.length → lo o (sid d j) = none) ∧ K ((d, r.sub (bkO D d) (bkP D d)) :: l) (putO D d o 0 outs)) ∨
  (∃ D r, Spec P g (vs.map (TV.exp (fr l o) D false)) (insOf (fr l o) D false) r (insOf (fr l o) D false) ∧ peekOk (fr l o) D vs ∧ r.ids = [] ∧ K ((d, r) :: l) o)

/-- Bytes that become a string. -/
inductive Byt (xs : List TV) (K : ByteArray → Prop) : Prop where
  | mk (l : List (BitVec 8)) (h : xs = l.map bytTV) (k : K (strB l))
/-- A row that is made: one's own, or not to be written. -/
inductive Frz (d : Nat) (A B : Prop) : Prop where
  | own (h : A)
  | frz (h : B)
/-- A list, told anew. -/
inductive Lst {α : Type} (x : List α) (K : List α → Prop) : Prop where
  | mk (y : List α) (h : x = y) (k : K y)
/-- An object, written at a place. -/
def stX (b : Ob) (j off : Nat) (c : List TV) (K : Ob → Prop) : Prop :=
  match b with
  | .var ty (.a cs) => Nat.ble (off + c.length) cs.length = true ∧ Lst (setL cs off c) fun cs' => K (.var ty (.a cs'))
  | .var ty z => whn (wrT z off c) fun z' => K (.var ty z')
  | .row ty sz xs => immL c = true ∧ Get (xs[j]?) fun z => whn (wrT z off c) fun z' => Lst (xs.set j z') fun xs' => K (.row ty sz xs')
theorem stX_ok {b : Ob} {j off : Nat} {c : List TV} {K : Ob → Prop} (h : stX b j off c K) : ∃ b', storeOb b j off c = some b' ∧ K b' := by
  unfold stX at h
  split at h
  · obtain ⟨h1, y, rfl, h⟩ := h
    exact ⟨_, by simp [storeOb, wrT, Nat.le_of_ble_eq_true h1], h⟩
  · obtain ⟨z', h1, h⟩ := whn_eq h
    exact ⟨_, by simp [storeOb, h1], h⟩
  · obtain ⟨h1, z, h2, h⟩ := h
    obtain ⟨z', h3, y, rfl, h⟩ := whn_eq h
    exact ⟨_, by simp [storeOb, h1, h2, h3], h⟩

/-- An instruction, reckoned out. -/
def ex1 (P : Program) [Lay P] (f : Bool) (i : I) (l : TL) (o : OL) (K : TL → OL → Prop) : Prop :=
  match i with
  | .mov d x => frc (evL l x) fun v => K ((d, v) :: l) o
  | .pick d b x y => match evL l b with
    | .v (.bool t) => (t = true → frc (evL l x) fun v => K ((d, v) :: l) o) ∧ (t = false → frc (evL l y) fun v => K ((d, v) :: l) o)
    | _ => False
  | .bin d op x y => match evL l x, evL l y with
    | .v u, .v u' => binX op u u' fun r => K ((d, .v r) :: l) o
    | _, _ => False
  | .beq d ne x y => match evL l x, evL l y with
    | .v (.bool u), .v (.bool u') => K ((d, .v (.bool (bif ne then u != u' else u == u'))) :: l) o
    | _, _ => False
  | .nil d ne k x => match evL l x with
    | .s _ [] => f = true ∧ k = 1 ∧ ∀ b, K ((d, .v (.bool b)) :: l) o
    | y => whn (isNil k y) fun t => match t, ne with
      | true, false => K ((d, .v (.bool true)) :: l) o
      | true, true => K ((d, .v (.bool false)) :: l) o
      | false, false => K ((d, .v (.bool false)) :: l) o
      | false, true => K ((d, .v (.bool true)) :: l) o
  | .nck d x => match evL l x with
    | .p a j q => K ((d, .p a j q) :: l) o
    | .r cs => K ((d, .r cs) :: l) o
    | _ => False
  | .un d op x => match evL l x with
    | .v u => unX op u fun r => K ((d, .v r) :: l) o
    | _ => False
  | .conv d k x => match evL l x with
    | .v (.int k' m) => convX k k' m fun r => K ((d, .v r) :: l) o
    | _ => False
  | .box d ty x => lo o (sid d 0) = none ∧ frcO (.var ty (evL l x)) fun b => match b with
    | .var _ x => (cellsT x).isSome = true ∧ K ((d, .p (sid d 0) 0 0) :: l) ((sid d 0, b) :: o)
    | .row _ _ _ => False
  | .new d ty z => lo o (sid d 0) = none ∧ frcO (.var ty (tvOf z)) fun b => K ((d, .p (sid d 0) 0 0) :: l) ((sid d 0, b) :: o)
  | .load d m x => memX o (evL l x) fun cs => match m with
    | none => Get (cs[0]?) fun v => frc v fun v => K ((d, v) :: l) o
    | some m => Nat.ble m cs.length = true ∧ nrm (cs.take m) fun cs => K ((d, .a cs) :: l) o
  | .fad d off x => match evL l x with
    | .p a j q => K ((d, .p a j (q + off)) :: l) o
    | .r cs => K ((d, .r (cs.drop off)) :: l) o
    | _ => False
  | .iad d sz x i => match evL l x, evL l i with
    | .s z xs, .v (.int _ m) => z = sz ∧ 0 ≤ m ∧ Get (xs[m.toNat]?) fun y => whn (cellsT y) fun cs => K ((d, .r cs) :: l) o
    | .o e, .v (.int _ m) => whn (lo o e) fun b => match b with
      | .row _ z xs => z = sz ∧ 0 ≤ m ∧ m.toNat < xs.length ∧ K ((d, .p e m.toNat 0) :: l) o
      | _ => False
    | _, _ => False
  | .aad d sz ln x i => match evL l x, evL l i with
    | .p a j q, .v (.int _ m) => 0 ≤ m ∧ m < (ln : Int) ∧ K ((d, .p a j (q + m.toNat * sz)) :: l) o
    | .r cs, .v (.int _ m) => 0 ≤ m ∧ m < (ln : Int) ∧ K ((d, .r (cs.drop (m.toNat * sz))) :: l) o
    | _, _ => False
  | .fld d off m x => match evL l x with
    | .a cs => (match m with
      | none => Get (cs[off]?) fun v => frc v fun v => K ((d, v) :: l) o
      | some m => Nat.ble (off + m) cs.length = true ∧ nrm ((cs.drop off).take m) fun cs => K ((d, .a cs) :: l) o)
    | _ => False
  | .sidx d x i => match evL l x, evL l i with
    | .v (.string b), .v (.int _ m) => 0 ≤ m ∧ Get (b[m.toNat]?) fun (u : UInt8) => K ((d, .v (.int .u8 (Int.ofNat u.toBitVec.toNat))) :: l) o
    | _, _ => False
  | .ext d x k => match evL l x with
    | .t xs => Get (xs[k]?) fun v => frc v fun v => K ((d, v) :: l) o
    | _ => False
  | .bld d z ps => whn (fillT (z.map .v) (ps.map fun p => (p.1, p.2.1, evL l p.2.2))) fun r => nrm r fun r => K ((d, .a r) :: l) o
  | .bsl d ty sz xs => lo o (sid d 0) = none ∧ (xs.all fun x => (evL l x).imm && (match cellsT (evL l x) with | some cs => Nat.beq cs.length sz | none => false)) = true ∧ nrm (xs.map (evL l)) fun ys => Frz d (K ((d, .o (sid d 0)) :: l) ((sid d 0, .row ty sz ys) :: o)) (K ((d, .s sz ys) :: l) o)
  | .mks d ty sz bytes z x => match evL l x with
    | .v (.int _ m) => lo o (sid d 0) = none ∧ 0 ≤ m ∧ (bytes : Int) * m ≤ 281474976710656 ∧ m ≤ 9223372036854775807 ∧ K ((d, .o (sid d 0)) :: l) ((sid d 0, .row ty sz (List.replicate m.toNat (tvOf z))) :: o)
    | _ => False
  | .mkc d ty sz bytes x => match evL l x with
    | .v (.int _ m) => lo o (sid d 0) = none ∧ 0 ≤ m ∧ (bytes : Int) * m ≤ 281474976710656 ∧ m ≤ 9223372036854775807 ∧ K ((d, .o (sid d 0)) :: l) ((sid d 0, .row ty sz []) :: o)
    | _ => False
  | .aeq d ne fs x y => match evL l x, evL l y with
    | .a xs, .a ys => whn (eqA fs xs ys) fun r => K ((d, .v (.bool (bif ne then !r else r))) :: l) o
    | _, _ => False
  | .len d str x => match evL l x, str with
    | .v (.string b), true => K ((d, .v (.int .i64 ((b.size : Nat) : Int))) :: l) o
    | y, false => whn (lenX o y) fun m => K ((d, .v (.int .i64 ((m : Nat) : Int))) :: l) o
    | _, _ => False
  | .slc d sz x a b => match evL l x with
    | .s z xs => z = sz ∧ bndX l a 0 fun u => bndX l b xs.length fun m => u ≤ m ∧ m ≤ xs.length ∧ K ((d, .s sz ((xs.take m).drop u)) :: l) o
    | _ => False
  | .scut d x a b => match evL l x with
    | .v (.string s) => bndX l a 0 fun u => bndX l b s.size fun m => u ≤ m ∧ m ≤ s.size ∧ K ((d, .v (.string (s.extract u m))) :: l) o
    | _ => False
  | .bst d x => elemsX o 1 (evL l x) fun ys => Byt ys fun b => K ((d, .v (.string b)) :: l) o
  | .mkf d fn cap => nrm (cap.map (evL l)) fun cs => K ((d, .f fn cs) :: l) o
  | .mki d t x => frc (evL l x) fun v => K ((d, .x t v) :: l) o
  | .tas d t z x => match evL l x with
    | .x t' y => match Nat.beq t' t with
      | true => K ((d, .t [y, .v (.bool true)]) :: l) o
      | false => K ((d, .t [.v z, .v (.bool false)]) :: l) o
    | .v .nilIface => K ((d, .t [.v z, .v (.bool false)]) :: l) o
    | _ => False
  | .mm d mx x y => match evL l x, evL l y with
    | .v (.int k u), .v (.int k' u') => k = k' ∧ match mx with
      | true => Wr (max u u') fun r => K ((d, .v (.int k r)) :: l) o
      | false => Wr (min u u') fun r => K ((d, .v (.int k r)) :: l) o
    | _, _ => False
  | .call d fx xs => whn (calleeOf (evL l fx)) fun gc => callX P f d gc.1 (xs.map (evL l) ++ gc.2) l o K
  | .store sz x y => f = true ∧ match evL l x with
    | .p a j off => whn (lo o a) fun b => whn (cellsT (evL l y)) fun c => Nat.beq c.length sz = true ∧ stX b j off c fun b' => frcO b' fun b' => K l ((a, b') :: o)
    | _ => False
  | .app dst ty sz bytes x y => f = true ∧ match evL l x with
    | .o d => Nat.ble 16 d = true ∧ whn (lo o d) fun b => match b with
      | .row ty' z xs => ty' = ty ∧ z = sz ∧ elemsX o sz (evL l y) fun ys => (xs.length + ys.length) * bytes ≤ 140737488355328 ∧ K ((dst, .o d) :: l.map fun q => (q.1, q.2.sub (killO d) (frzP d))) ((d, .row ty sz (xs ++ ys)) :: o.map fun q => (q.1, q.2.sub (killO d) (frzP d)))
      | _ => False
    | .v (.slice none 0 0) => lo o (sid dst 0) = none ∧ fresh (sid dst 0) l o = true ∧ elemsX o sz (evL l y) fun ys => ys.length * bytes ≤ 140737488355328 ∧ K ((dst, .o (sid dst 0)) :: l) ((sid dst 0, .row ty sz ys) :: o)
    | _ => False
end Go.Proofs.YtaopcacmfhdfkaaGreatDoor.Vc

namespace Go.Proofs.YtaopcacmfhdfkaaGreatDoor.Vc
open Go Go.RowKit
set_option linter.unusedSimpArgs false
set_option linter.unusedVariables false

/-- One instruction's claim: told by itself, or as one of a run. -/
def stp (P : Program) [Lay P] (f : Bool) (g : GI) (s : St) (K : St → Prop) : Prop :=
  match f with
  | true => g.vc P s K
  | false => ∃ d v c, g.i.dst = some d ∧ g.res P s v c ∧ K (s.app d v c)
theorem draw_cons {P : Program} [Lay P] {g : GI} {f : Bool} {gs : List (GI × Bool)} {K : St → Prop} {s : St} (h : stp P f g s (drawVc P gs K)) : drawVc P ((g, f) :: gs) K s := by
  cases f <;> exact h
theorem reg_cons {P : Program} [Lay P] {g : GI} {gs : List GI} {K : St → Prop} {s : St} (h : stp P true g s (regVc P gs K)) : regVc P (g :: gs) K s := h

def I.plain : I → Bool
  | .store _ _ _ | .app _ _ _ _ _ _ | .call _ _ _ => false
  | _ => true
theorem stp_quiet {P : Program} [Lay P] {f : Bool} {i : I} {s : St} {K : St → Prop} {d : Nat} {v : TV} {c : Chg} (hp : i.plain = true) (hd : i.dst = some d) (h : i.res P s v c) (hK : K (s.app d v c)) : stp P f ⟨i, none⟩ s K := by
  cases f with
  | false => exact ⟨d, v, c, hd, h, hK⟩
  | true =>
    show i.vc P s K
    cases i <;> first
      | (simp [I.plain] at hp; done)
      | (simp only [I.dst, Option.some.injEq] at hd; subst hd; exact ⟨v, c, h, hK⟩)
      | (simp only [I.dst, Option.some.injEq] at hd; subst hd; exact .inr ⟨v, c, h, hK⟩)

theorem unX_ok {op : UnOp} {u : Value} {K : Value → Prop} (h : unX op u K) : ∃ r, vun op u = some r ∧ K r := by
  unfold unX at h
  split at h
  · split at h
    · rename_i n hk
      obtain ⟨x, rfl, h⟩ := h
      refine ⟨_, ?_, h⟩
      simp only [vun, Option.some.injEq, Value.int.injEq, true_and]
      rw [wrap_uns hk]
      have hx := x.isLt
      show _ = (((-x).toNat : Nat) : Int)
      rw [BitVec.toNat_neg, Int.natCast_emod, Int.ofNat_sub (by omega)]
      show (0 - (x.toNat : Int)) % _ = _
      push_cast
      rw [Int.sub_emod, Int.sub_emod (2 ^ _)]
      simp
    · obtain ⟨r, rfl, h⟩ := h
      exact ⟨_, rfl, h⟩
  · split at h
    · rename_i k _ _ n hk
      obtain ⟨x, rfl, h⟩ := h
      refine ⟨_, ?_, h⟩
      have key : BitVec.ofInt k.bits k.max = BitVec.allOnes k.bits := by cases k <;> first | (simp [wd] at hk; done) | rfl
      obtain ⟨h1, h2⟩ := wd_bits hk
      subst h1
      simp only [vun, Option.some.injEq, Value.int.injEq, true_and, h2, ofInt_nat, Bool.false_eq_true, if_false, key, BitVec.allOnes_xor]
      exact wrap_nat hk _
    · rename_i k _ _ hk
      obtain ⟨r, rfl, h⟩ := h
      refine ⟨_, ?_, h⟩
      have : k.signed = true := by cases k <;> first | rfl | (simp [wd] at hk; done)
      simp [vun, this]
  · exact ⟨_, rfl, h⟩
  · exact h.elim
end Go.Proofs.YtaopcacmfhdfkaaGreatDoor.Vc

namespace Go.Proofs.YtaopcacmfhdfkaaGreatDoor.Vc
open Go Go.RowKit
set_option linter.unusedSimpArgs false
set_option linter.unusedVariables false

theorem convX_ok {k k' : IntKind} {m : Int} {K : Value → Prop} (h : convX k k' m K) : K (.int k (k.wrap m)) := by
  unfold convX at h
  split at h
  · rename_i n n' hk hk'
    obtain ⟨x, rfl, h⟩ := h
    have : k.wrap (Int.ofNat x.toNat) = Int.ofNat (x.setWidth n).toNat := by
      rw [wrap_uns hk, BitVec.toNat_setWidth]
      show ((x.toNat : Int)) % _ = ((x.toNat % 2 ^ n : Nat) : Int)
      rw [Int.natCast_emod]; simp
    rw [this]; exact h
  · rename_i n hk hk'
    have : k.wrap m = Int.ofNat (BitVec.ofInt n m).toNat := by
      rw [wrap_uns hk, BitVec.toNat_ofInt]
      have : 0 ≤ m % (2 ^ n : Int) := Int.emod_nonneg _ (by exact Int.ne_of_gt (Int.pow_pos (by omega)))
      show _ = (((m % ((2 ^ n : Nat) : Int)).toNat : Nat) : Int)
      push_cast
      rw [Int.toNat_of_nonneg this]
    rw [this]; exact h
  · obtain ⟨r, rfl, h⟩ := h; exact h

theorem lk_map {g : TV → TV} (hg : g .dead = .dead) : ∀ (l : TL) (t : Nat), lk (l.map fun q => (q.1, g q.2)) t = g (lk l t)
  | [], t => hg.symm
  | (d, v) :: l, t => by
    simp only [List.map_cons, lk, lk_map hg l t]
    cases Nat.beq t d <;> rfl
theorem lo_map {g : Ob → Ob} : ∀ (o : OL) (e : Nat), lo (o.map fun q => (q.1, g q.2)) e = (lo o e).map g
  | [], e => rfl
  | (d, v) :: o, e => by
    simp only [List.map_cons, lo, lo_map o e]
    cases Nat.beq e d <;> rfl
theorem fr_grow (l : TL) (o : OL) (d : Nat) (b : Ob) : (fr l o).grow d b = fr (l.map fun q => (q.1, q.2.sub (killO d) (frzP d))) ((d, b) :: o.map fun q => (q.1, q.2.sub (killO d) (frzP d))) := by
  simp only [St.grow, fr, St.mk.injEq]
  constructor
  · funext t; rw [lk_map (g := fun x => x.sub (killO d) (frzP d)) rfl]
  · funext e
    rw [lo_cons, upd]
    split
    · rfl
    · rw [lo_map]

mutual
theorem has_sub {d : Nat} : ∀ (x : TV), x.has d = false → x.sub (killO d) (frzP d) = x
  | .o e, h => by
    have : e ≠ d := by rintro rfl; simp [TV.has] at h
    simp [TV.sub, killO, this]
  | .p e i off, h => by
    have : e ≠ d := by rintro rfl; simp [TV.has] at h
    simp [TV.sub, frzP, this]
  | .a cs, h => by simp only [TV.sub]; rw [hasL_sub cs (by simpa [TV.has] using h)]
  | .x t y, h => by simp only [TV.sub]; rw [has_sub y (by simpa [TV.has] using h)]
  | .f g cs, h => by simp only [TV.sub]; rw [hasL_sub cs (by simpa [TV.has] using h)]
  | .t cs, h => by simp only [TV.sub]; rw [hasL_sub cs (by simpa [TV.has] using h)]
  | .v _, _ | .s _ _, _ | .r _, _ | .dead, _ => rfl
theorem hasL_sub {d : Nat} : ∀ (xs : List TV), hasL d xs = false → subL (killO d) (frzP d) xs = xs
  | [], _ => rfl
  | x :: xs, h => by
    simp only [hasL, Bool.or_eq_false_iff] at h
    simp only [subL, has_sub x h.1, hasL_sub xs h.2]
end
theorem fresh_grow {d : Nat} {l : TL} {o : OL} {b c : Ob} (h : fresh d l o = true) : St.grow { fr l o with ob := upd (fr l o).ob d (some c) } d b = fr l ((d, b) :: o) := by
  simp only [fresh, Bool.and_eq_true, List.all_eq_true, Bool.not_eq_true'] at h
  have h1 : (l.map fun q => (q.1, q.2.sub (killO d) (frzP d))) = l := by
    conv => rhs; rw [← List.map_id l]
    refine List.map_congr_left fun q hq => ?_
    rw [has_sub _ (h.1 q hq)]; rfl
  have h2 : (o.map fun q => (q.1, q.2.sub (killO d) (frzP d))) = o := by
    conv => rhs; rw [← List.map_id o]
    refine List.map_congr_left fun q hq => ?_
    have := h.2 q hq
    obtain ⟨e, b⟩ := q
    cases b with
    | var ty x => simp only [Ob.has] at this; simp [Ob.sub, has_sub x this]
    | row ty sz xs => rfl
  have h3 := fr_grow l o d b
  rw [h1, h2] at h3
  rw [← h3]
  simp only [St.grow, St.mk.injEq, true_and]
  funext e
  simp only [upd]
  split <;> rfl

theorem exp_none {vs : List TV} (hvs : (idsL vs).isEmpty = true) (s : St) : vs.map (TV.exp s [] false) = vs := by
  have : ∀ x ∈ vs, TV.exp s [] false x = x := by
    intro x hx
    have hid : x.ids = [] := by
      rw [List.isEmpty_iff] at hvs
      have : ∀ (l : List TV), idsL l = [] → ∀ x ∈ l, x.ids = [] := by
        intro l
        induction l with
        | nil => simp
        | cons y ys ih =>
          intro h x hx
          simp only [idsL, List.append_eq_nil_iff] at h
          rcases List.mem_cons.1 hx with rfl | hx
          · exact h.1
          · exact ih h.2 x hx
      exact this vs hvs x hx
    unfold TV.exp
    rw [sub_congr (fo' := .o) (fp' := .p) x (by rw [hid]; simp), TV.sub_id]
  rw [List.map_congr_left this]; exact List.map_id _
theorem back_none {r : TV} (h : r.ids.isEmpty = true) (d : Nat) : r.sub (bkO [] d) (bkP [] d) = r := by
  rw [List.isEmpty_iff] at h
  rw [sub_congr (fo' := .o) (fp' := .p) r (by rw [h]; simp), TV.sub_id]

theorem callX_stp {P : Program} [Lay P] {f : Bool} {d g : Nat} {fx : Operand} {xs : List Operand} {cap : List TV} {l : TL} {o : OL} {K : TL → OL → Prop} {K' : St → Prop} (hg : calleeOf (evL l fx) = some (g, cap)) (h : callX P f d g (xs.map (evL l) ++ cap) l o K) (hK : ∀ l o, K l o → K' (fr l o)) : stp P f ⟨.call d fx xs, none⟩ (fr l o) K' := by
  have hev : xs.map (fr l o).ev = xs.map (evL l) := List.map_congr_left fun x _ => fr_ev l o x
  have hg' : calleeOf ((fr l o).ev fx) = some (g, cap) := by rw [fr_ev]; exact hg
  rcases h with ⟨rfl, e, args, ty, sz, ys, xs', h1, h2, h3, h4, h5, h6⟩ | ⟨vs', r, h1, hle, h2, h3, h4⟩ | ⟨D, vw, r, outs, h1, h0, h2, h3, h4, h5, h6⟩ | ⟨D, r, h1, hpk, h3, h4⟩
  · refine .inl ⟨g, cap, e, ty, sz, ys, args, xs', hg', by rw [hev]; exact h1, Nat.le_of_ble_eq_true h2, h3, h4, h5, ?_⟩
    rw [fr_grow, ← fr_put]; exact hK _ _ h6
  · have h7 : K' ((fr l o).ret d [] r []) := by
      rw [fr_ret, back_none h3]; exact hK _ _ h4
    have h8 : Spec P g ((xs.map (fr l o).ev ++ cap).map (TV.exp (fr l o) [] false)) [] r [] := by
      rw [hev, exp_none h2]; exact Spec_arg h1 hle
    cases f with
    | true => exact .inr ⟨g, cap, [], false, r, [], hg', h8, List.nodup_nil, by simp, by simp, by simp, h7⟩
    | false =>
      rw [ret_nil] at h7
      exact ⟨d, _, _, rfl, .inr ⟨g, cap, false, r, [], hg', h8, by simp, by simp, by simp, rfl, rfl⟩, h7⟩
  · have h7 : K' ((fr l o).ret d D r outs) := by rw [fr_ret]; exact hK _ _ h6
    rw [← hev] at h1
    cases f with
    | true => exact .inr ⟨g, cap, D, vw, r, outs, hg', h1, h2, h3, h4, h5, h7⟩
    | false =>
      obtain ⟨rfl, h8⟩ := h0 rfl
      rw [ret_nil] at h7
      exact ⟨d, _, _, rfl, .inr ⟨g, cap, vw, r, outs, hg', h1, h4, fun j hj => h5 j (by simpa using hj), h8, rfl, rfl⟩, h7⟩
  · rw [← hev] at h1 hpk
    have h7 : K' ((fr l o).app d r []) := by rw [fr_app0]; exact hK _ _ h4
    cases f with
    | true =>
      refine .inr ⟨g, cap, D, false, r, insOf (fr l o) D false, hg', h1, hpk.1, fun e he hn => ?_, by simp, fun j hj => by simp [insOf] at hj; omega, ?_⟩
      · obtain ⟨_, b, hb, _⟩ := hpk.2 e he; rw [hb] at hn; cases hn
      · rw [ret_peek hpk h3]; exact h7
    | false => exact ⟨d, _, _, rfl, .inl ⟨g, cap, D, r, hg', hpk, h1, h3, rfl, rfl⟩, h7⟩
end Go.Proofs.YtaopcacmfhdfkaaGreatDoor.Vc

namespace Go.Proofs.YtaopcacmfhdfkaaGreatDoor.Vc
open Go Go.RowKit
set_option linter.unusedSimpArgs false
set_option linter.unusedVariables false

theorem ex1_ok {P : Program} [Lay P] {f : Bool} {i : I} {l : TL} {o : OL} {K : TL → OL → Prop} {K' : St → Prop} (h : ex1 P f i l o K) (hK : ∀ l o, K l o → K' (fr l o)) : stp P f ⟨i, none⟩ (fr l o) K' := by
  have q0 : ∀ {d v}, i.plain = true → i.dst = some d → i.res P (fr l o) v [] → K ((d, v) :: l) o → stp P f ⟨i, none⟩ (fr l o) K' := fun hp hd hr hk => stp_quiet hp hd hr (by rw [fr_app0]; exact hK _ _ hk)
  have q1 : ∀ {d v e b}, i.plain = true → i.dst = some d → i.res P (fr l o) v [(e, b)] → K ((d, v) :: l) ((e, b) :: o) → stp P f ⟨i, none⟩ (fr l o) K' := fun hp hd hr hk => stp_quiet hp hd hr (by rw [fr_app1]; exact hK _ _ hk)
  cases i with
  | mov d x =>
    simp only [ex1, frc_eq] at h
    exact q0 rfl rfl ⟨(fr_ev l o x).symm, rfl⟩ h
  | pick d b x y =>
    simp only [ex1] at h
    split at h
    · rename_i t ht
      simp only [frc_eq] at h
      cases t with
      | true => exact q0 rfl rfl ⟨true, by rw [fr_ev, ht], rfl, rfl⟩ (by rw [cond_true, fr_ev]; exact h.1 rfl)
      | false => exact q0 rfl rfl ⟨false, by rw [fr_ev, ht], rfl, rfl⟩ (by rw [cond_false, fr_ev]; exact h.2 rfl)
    · exact h.elim
  | bin d op x y =>
    simp only [ex1] at h
    split at h
    · rename_i u u' hu hu'
      obtain ⟨r, h1, h2⟩ := binX_ok h
      exact q0 rfl rfl ⟨u, u', r, by rw [fr_ev, hu], by rw [fr_ev, hu'], h1, rfl, rfl⟩ h2
    · exact h.elim
  | beq d ne x y =>
    simp only [ex1] at h
    split at h
    · rename_i u u' hu hu'
      refine q0 rfl rfl ⟨u, u', by rw [fr_ev, hu], by rw [fr_ev, hu'], rfl, rfl⟩ ?_
      cases ne <;> exact h
    · exact h.elim
  | nil d ne k x =>
    simp only [ex1] at h
    split at h
    · rename_i z hx
      obtain ⟨rfl, rfl, h⟩ := h
      refine .inl ⟨rfl, ⟨z, by rw [fr_ev, hx]⟩, fun b => ?_⟩
      rw [← fr_put]; exact hK _ _ (h b)
    · obtain ⟨t, ht, h⟩ := whn_eq h
      refine q0 rfl rfl ⟨t, by rw [fr_ev, ht], rfl, rfl⟩ ?_
      cases t <;> cases ne <;> exact h
  | nck d x =>
    simp only [ex1] at h
    split at h
    · rename_i hx; exact q0 rfl rfl ⟨by rw [fr_ev, hx]; rfl, by rw [fr_ev, hx], rfl⟩ h
    · rename_i hx; exact q0 rfl rfl ⟨by rw [fr_ev, hx]; rfl, by rw [fr_ev, hx], rfl⟩ h
    · exact h.elim
  | un d op x =>
    simp only [ex1] at h
    split at h
    · rename_i u hu
      obtain ⟨r, h1, h2⟩ := unX_ok h
      exact q0 rfl rfl ⟨u, r, by rw [fr_ev, hu], h1, rfl, rfl⟩ h2
    · exact h.elim
  | conv d k x =>
    simp only [ex1] at h
    split at h
    · rename_i k' m hu
      exact q0 rfl rfl ⟨k', m, by rw [fr_ev, hu], rfl, rfl⟩ (convX_ok h)
    · exact h.elim
  | box d ty x =>
    simp only [ex1, frcO_eq] at h
    obtain ⟨h1, h2, h3⟩ := h
    exact q1 rfl rfl ⟨h1, by rw [fr_ev]; exact h2, rfl, by rw [fr_ev]⟩ h3
  | new d ty z =>
    simp only [ex1, frcO_eq] at h
    exact q1 rfl rfl ⟨h.1, rfl, rfl⟩ h.2
  | load d m x =>
    simp only [ex1] at h
    obtain ⟨cs, h1, h2⟩ := memX_ok (l := l) h
    cases m with
    | none =>
      simp only [frc_eq] at h2
      obtain ⟨v, h2, h3⟩ := h2
      exact q0 rfl rfl ⟨cs, by rw [fr_ev]; exact h1, h2, rfl⟩ h3
    | some m =>
      simp only [nrm_eq] at h2
      exact q0 rfl rfl ⟨cs, by rw [fr_ev]; exact h1, Nat.le_of_ble_eq_true h2.1, rfl, rfl⟩ h2.2
  | fad d off x =>
    simp only [ex1] at h
    split at h
    · rename_i hx; exact q0 rfl rfl ⟨.inl ⟨_, _, _, by rw [fr_ev, hx], rfl⟩, rfl⟩ h
    · rename_i hx; exact q0 rfl rfl ⟨.inr ⟨_, by rw [fr_ev, hx], rfl⟩, rfl⟩ h
    · exact h.elim
  | iad d sz x i =>
    simp only [ex1] at h
    split at h
    · rename_i hx hi
      obtain ⟨rfl, hm, y, hy, h⟩ := h
      obtain ⟨cs, hc, h⟩ := whn_eq h
      exact q0 rfl rfl ⟨_, _, by rw [fr_ev, hi], hm, .inl ⟨_, y, cs, by rw [fr_ev, hx], hy, hc, rfl⟩, rfl⟩ h
    · rename_i hx hi
      obtain ⟨b, hb, h⟩ := whn_eq h
      split at h
      · obtain ⟨rfl, hm, hy, h⟩ := h
        exact q0 rfl rfl ⟨_, _, by rw [fr_ev, hi], hm, .inr ⟨_, _, _, by rw [fr_ev, hx], hb, hy, rfl⟩, rfl⟩ h
      · exact h.elim
    · exact h.elim
  | aad d sz ln x i =>
    simp only [ex1] at h
    split at h
    · rename_i hx hi
      obtain ⟨h1, h2, h⟩ := h
      exact q0 rfl rfl ⟨_, _, by rw [fr_ev, hi], h1, h2, .inl ⟨_, _, _, by rw [fr_ev, hx], rfl⟩, rfl⟩ h
    · rename_i hx hi
      obtain ⟨h1, h2, h⟩ := h
      exact q0 rfl rfl ⟨_, _, by rw [fr_ev, hi], h1, h2, .inr ⟨_, by rw [fr_ev, hx], rfl⟩, rfl⟩ h
    · exact h.elim
  | fld d off m x =>
    simp only [ex1] at h
    split at h
    · rename_i cs hx
      cases m with
      | none =>
        simp only [frc_eq] at h
        obtain ⟨v, h2, h3⟩ := h
        exact q0 rfl rfl ⟨cs, by rw [fr_ev, hx], h2, rfl⟩ h3
      | some m =>
        simp only [nrm_eq] at h
        exact q0 rfl rfl ⟨cs, by rw [fr_ev, hx], Nat.le_of_ble_eq_true h.1, rfl, rfl⟩ h.2
    · exact h.elim
  | sidx d x i =>
    simp only [ex1] at h
    split at h
    · rename_i hx hi
      obtain ⟨hm, u, hu, h⟩ := h
      exact q0 rfl rfl ⟨_, _, _, u, by rw [fr_ev, hx], by rw [fr_ev, hi], hm, hu, rfl, rfl⟩ h
    · exact h.elim
  | ext d x k =>
    simp only [ex1] at h
    split at h
    · rename_i hx
      simp only [frc_eq] at h
      obtain ⟨v, hv, h⟩ := h
      exact q0 rfl rfl ⟨_, by rw [fr_ev, hx], hv, rfl⟩ h
    · exact h.elim
  | bld d z ps =>
    simp only [ex1] at h
    obtain ⟨r, hr, h⟩ := whn_eq h
    rw [nrm_eq] at h
    refine q0 rfl rfl ⟨r, ?_, rfl, rfl⟩ h
    rw [← hr]
    congr 1
  | bsl d ty sz xs =>
    simp only [ex1, nrm_eq] at h
    obtain ⟨h1, h2, h3⟩ := h
    have hev : xs.map (fr l o).ev = xs.map (evL l) := List.map_congr_left fun x _ => fr_ev l o x
    have h4 : ∀ x ∈ xs, ((fr l o).ev x).imm = true ∧ ∃ cs, cellsT ((fr l o).ev x) = some cs ∧ cs.length = sz := fun x hx => by
      rw [List.all_eq_true] at h2
      have := h2 x hx
      rw [Bool.and_eq_true] at this
      rw [fr_ev]
      refine ⟨this.1, ?_⟩
      split at this
      · rename_i cs hc; exact ⟨cs, hc, Nat.eq_of_beq_eq_true this.2⟩
      · exact absurd this.2 (by simp)
    cases h3 with
    | own h3 => exact q1 rfl rfl ⟨h1, h4, .inl ⟨rfl, by rw [hev]⟩⟩ h3
    | frz h3 => exact q0 rfl rfl ⟨h1, h4, .inr ⟨by rw [hev], rfl⟩⟩ h3
  | mks d ty sz bytes z x =>
    simp only [ex1] at h
    split at h
    · rename_i k m hx
      obtain ⟨h1, h2, h3, h4, h5⟩ := h
      exact q1 rfl rfl ⟨h1, k, m, by rw [fr_ev, hx], h2, h3, h4, rfl, rfl⟩ h5
    · exact h.elim
  | mkc d ty sz bytes x =>
    simp only [ex1] at h
    split at h
    · rename_i k m hx
      obtain ⟨h1, h2, h3, h4, h5⟩ := h
      exact q1 rfl rfl ⟨h1, k, m, by rw [fr_ev, hx], h2, h3, h4, rfl, rfl⟩ h5
    · exact h.elim
  | aeq d ne fs x y =>
    simp only [ex1] at h
    split at h
    · rename_i xs ys hx hy
      obtain ⟨r, h1, h2⟩ := whn_eq h
      refine q0 rfl rfl ⟨xs, ys, r, by rw [fr_ev, hx], by rw [fr_ev, hy], h1, rfl, rfl⟩ ?_
      cases ne <;> exact h2
    · exact h.elim
  | len d str x =>
    simp only [ex1] at h
    split at h
    · rename_i b hx
      exact q0 rfl rfl ⟨_, by rw [fr_ev, hx]; rfl, by rw [if_pos rfl]; exact ⟨b, by rw [fr_ev, hx]⟩, rfl, rfl⟩ h
    · rename_i y hx
      obtain ⟨m, hm, h⟩ := whn_eq h
      have h1 : lenT (fr l o) ((fr l o).ev x) = some m ∧ ∀ b, (fr l o).ev x ≠ .v (.string b) := by
        rw [fr_ev]
        unfold lenX at hm
        split at hm
        · rename_i hx; exact ⟨by rw [hx]; exact hm, by rw [hx]; simp⟩
        · rename_i hx; exact ⟨by rw [hx]; exact hm, by rw [hx]; simp⟩
        · rename_i hx; exact ⟨by rw [hx]; exact hm, by rw [hx]; simp⟩
        · cases hm
      exact q0 rfl rfl ⟨m, h1.1, by simpa using h1.2, rfl, rfl⟩ h
    · exact h.elim
  | slc d sz x a b =>
    simp only [ex1] at h
    split at h
    · rename_i z xs hx
      obtain ⟨rfl, h⟩ := h
      obtain ⟨u, hu, h⟩ := bndX_ok (o := o) h
      obtain ⟨m, hm, h1, h2, h⟩ := bndX_ok (o := o) h
      exact q0 rfl rfl ⟨xs, u, m, by rw [fr_ev, hx], hu, hm, h1, h2, rfl, rfl⟩ h
    · exact h.elim
  | scut d x a b =>
    simp only [ex1] at h
    split at h
    · rename_i s hx
      obtain ⟨u, hu, h⟩ := bndX_ok (o := o) h
      obtain ⟨m, hm, h1, h2, h⟩ := bndX_ok (o := o) h
      exact q0 rfl rfl ⟨s, u, m, by rw [fr_ev, hx], hu, hm, h1, h2, rfl, rfl⟩ h
    · exact h.elim
  | bst d x =>
    simp only [ex1] at h
    obtain ⟨ys, h1, l', rfl, h⟩ := elemsX_ok (s := fr l o) (fun _ _ => rfl) h
    exact q0 rfl rfl ⟨l', by rw [fr_ev]; exact h1, rfl, rfl⟩ h
  | mkf d fn cap =>
    simp only [ex1, nrm_eq] at h
    have hev : cap.map (fr l o).ev = cap.map (evL l) := List.map_congr_left fun x _ => fr_ev l o x
    exact q0 rfl rfl ⟨by rw [hev], rfl⟩ h
  | mki d t x =>
    simp only [ex1, frc_eq] at h
    exact q0 rfl rfl ⟨by rw [fr_ev], rfl⟩ h
  | tas d t z x =>
    simp only [ex1] at h
    split at h
    · rename_i t' y hx
      split at h
      · rename_i hb
        have := Nat.eq_of_beq_eq_true hb
        subst this
        exact q0 rfl rfl ⟨by rw [fr_ev, hx]; simp [asT], rfl⟩ h
      · rename_i hb
        have hne : t' ≠ t := fun e => by subst e; simp at hb
        exact q0 rfl rfl ⟨by rw [fr_ev, hx]; simp [asT, hne], rfl⟩ h
    · rename_i hx
      exact q0 rfl rfl ⟨by rw [fr_ev, hx]; rfl, rfl⟩ h
    · exact h.elim
  | mm d mx x y =>
    simp only [ex1] at h
    split at h
    · rename_i k u k' u' hx hy
      obtain ⟨rfl, h⟩ := h
      cases mx <;> (obtain ⟨r, rfl, h⟩ := h; exact q0 rfl rfl ⟨k, u, u', by rw [fr_ev, hx], by rw [fr_ev, hy], rfl, rfl⟩ h)
    · exact h.elim
  | call d fx xs =>
    simp only [ex1] at h
    obtain ⟨⟨g, cap⟩, hg, h⟩ := whn_eq h
    exact callX_stp hg h hK
  | store sz x y =>
    simp only [ex1, frcO_eq] at h
    obtain ⟨rfl, h⟩ := h
    split at h
    · rename_i a j off hx
      obtain ⟨b, hb, h⟩ := whn_eq h
      obtain ⟨c, hc, hl, h⟩ := whn_eq h
      obtain ⟨b', hb', h⟩ := stX_ok h
      refine ⟨a, j, off, b, c, b', by rw [fr_ev, hx], hb, by rw [fr_ev]; exact hc, Nat.eq_of_beq_eq_true hl, hb', ?_⟩
      rw [fr_ob]; exact hK _ _ h
    · exact h.elim
  | app dst ty sz bytes x y =>
    simp only [ex1] at h
    obtain ⟨rfl, h⟩ := h
    split at h
    · rename_i d hx
      obtain ⟨h16, h⟩ := h
      obtain ⟨b, hb, h⟩ := whn_eq h
      split at h
      · obtain ⟨rfl, rfl, h⟩ := h
        obtain ⟨ys, hys, h1, h2⟩ := elemsX_ok (s := fr l o) (fun _ _ => rfl) h
        refine .inl ⟨d, _, ys, by rw [fr_ev, hx], Nat.le_of_ble_eq_true h16, hb, by rw [fr_ev]; exact hys, h1, ?_⟩
        rw [fr_grow, ← fr_put]; exact hK _ _ h2
      · exact h.elim
    · rename_i hx
      obtain ⟨h1, h2, h⟩ := h
      obtain ⟨ys, hys, h3, h4⟩ := elemsX_ok (s := { fr l o with ob := upd (fr l o).ob (sid dst 0) (some (.row ty sz [])) }) (fun d hd => by
        simp only [fr]
        rw [upd_ne]
        rintro rfl
        exact hd h1) h
      refine .inr ⟨ys, by rw [fr_ev, hx], h1, by rw [fr_ev]; exact hys, h3, ?_⟩
      rw [fresh_grow h2, ← fr_put]; exact hK _ _ h4
    · exact h.elim
end Go.Proofs.YtaopcacmfhdfkaaGreatDoor.Vc

namespace Go.Proofs.YtaopcacmfhdfkaaGreatDoor.Vc
open Go Go.RowKit
set_option linter.unusedSimpArgs false
set_option linter.unusedVariables false

/-- Both ways of a guard. -/
def spl (b b' : Bool) (A B : Prop) : Prop :=
  match b with
  | true => (b' = true → A) ∧ (b' = false → B)
  | false => (b' = false → A) ∧ (b' = true → B)
theorem spl_eq {b b' : Bool} {A B : Prop} (h : spl b b' A B) : (b' = b → A) ∧ (b' = !b → B) := by
  cases b <;> exact h

/-- A guarded instruction, reckoned out. -/
def exG (P : Program) [Lay P] (f : Bool) (g : GI) (l : TL) (o : OL) (K : TL → OL → Prop) : Prop :=
  match g.g with
  | none => ex1 P f g.i l o K
  | some (t, b) => match lk l t with
    | .v (.bool b') => spl b b' (ex1 P f g.i ((t, .v (.bool b)) :: l) o K) (match g.i.dst with
      | some d => K ((d, .t []) :: (t, .v (.bool !b)) :: l) o
      | none => f = true ∧ K ((t, .v (.bool !b)) :: l) o)
    | .t [] => (match g.i.dst with
      | some d => K ((d, .t []) :: l) o
      | none => f = true ∧ K l o)
    | _ => False
def exR (P : Program) [Lay P] : List GI → (TL → OL → Prop) → TL → OL → Prop
  | [], K, l, o => K l o
  | g :: gs, K, l, o => exG P true g l o (exR P gs K)
def exD (P : Program) [Lay P] : List (GI × Bool) → (TL → OL → Prop) → TL → OL → Prop
  | [], K, l, o => K l o
  | (g, f) :: gs, K, l, o => exG P f g l o (exD P gs K)
/-- The store that may come early writes what those that may wait do not look at. -/
def sideB (us : List GI) (g : GI) (l : TL) : Bool :=
  match g with
  | ⟨.store _ x _, none⟩ => match evL l x with
    | .p e _ _ => us.all fun u => (u.looks.all fun z => !(evL l z).ids.contains e) && (match u.i.dst with
      | some d => (List.range 16).all fun k => !Nat.beq (sid d k) e
      | none => true)
    | _ => false
  | _ => false
def exDS (P : Program) [Lay P] (us : List GI) (m0 : Nat) : Nat → List (GI × Bool) → (TL → OL → Prop) → TL → OL → Prop
  | _, [], K, l, o => K l o
  | k, (g, f) :: gs, K, l, o => match f && Nat.beq k m0 with
    | true => sideB us g l = true ∧ exG P f g l o (exDS P us m0 (k + 1) gs K)
    | false => exG P f g l o (exDS P us m0 (k + 1) gs K)

theorem sideB_ok {us : List GI} {g : GI} {l : TL} {o : OL} (h : sideB us g l = true) : sideOk us g (fr l o) := by
  unfold sideB at h
  split at h
  · split at h
    · rename_i e j o' hx
      rw [List.all_eq_true] at h
      refine ⟨_, _, _, e, j, o', rfl, by rw [fr_ev]; exact hx, fun u hu => ?_⟩
      have := h u hu
      simp only [Bool.and_eq_true, List.all_eq_true, Bool.not_eq_true', List.contains_eq_mem, decide_eq_false_iff_not] at this
      refine ⟨fun z hz => by rw [fr_ev]; exact this.1 z hz, fun d hd k hk he => ?_⟩
      have h2 := this.2
      rw [hd] at h2
      simp only [List.all_eq_true, List.mem_range, Bool.not_eq_true'] at h2
      have := h2 k hk
      rw [he] at this
      simp [Nat.beq_refl] at this
    · cases h
  · cases h
theorem drawS_cons {P : Program} [Lay P] {us : List GI} {m0 k : Nat} {g : GI} {f : Bool} {gs : List (GI × Bool)} {K : St → Prop} {s : St} (hs : f = true → k = m0 → sideOk us g s) (h : stp P f g s (drawVcS P us m0 (k + 1) gs K)) : drawVcS P us m0 k ((g, f) :: gs) K s := by
  cases f
  · exact h
  · exact ⟨hs rfl, h⟩

theorem lk_same {l : TL} {t : Nat} {v : TV} (h : lk l t = v) (o : OL) : fr ((t, v) :: l) o = fr l o := by
  simp only [fr, St.mk.injEq, and_true]
  rw [lk_cons]
  funext x
  simp only [upd]
  split
  · rename_i hx; rw [hx, h]
  · rfl

theorem exG_ok {P : Program} [Lay P] {f : Bool} {g : GI} {l : TL} {o : OL} {K : TL → OL → Prop} {K' : St → Prop} (h : exG P f g l o K) (hK : ∀ l o, K l o → K' (fr l o)) : stp P f g (fr l o) K' := by
  obtain ⟨i, gd⟩ := g
  unfold exG at h
  cases gd with
  | none => exact ex1_ok h hK
  | some q =>
    obtain ⟨t, b⟩ := q
    simp only at h
    split at h
    · rename_i b' hb
      have h := spl_eq h
      by_cases hbb : b' = b
      · subst hbb
        have h1 := ex1_ok (h.1 rfl) hK
        rw [lk_same hb] at h1
        cases f with
        | true => exact .inl ⟨b', hb, fun _ => h1, fun h => absurd rfl h⟩
        | false =>
          obtain ⟨d, v, c, hd, hr, hk⟩ := h1
          exact ⟨d, v, c, hd, .inl ⟨b', hb, .inl ⟨rfl, hr⟩⟩, hk⟩
      · have hb' : b' = !b := by cases b <;> cases b' <;> simp_all
        have h1 := h.2 hb'
        rw [← hb'] at h1
        cases f with
        | true =>
          refine .inl ⟨b', hb, fun h => absurd h hbb, fun _ => ?_⟩
          split at h1
          · rename_i d hd
            simp only [hd]
            rw [← lk_same hb, ← fr_put]; exact hK _ _ h1
          · rename_i hd
            simp only [hd]
            rw [← lk_same hb]; exact hK _ _ h1.2
        | false =>
          split at h1
          · rename_i d hd
            refine ⟨d, .t [], [], hd, .inl ⟨b', hb, .inr ⟨hbb, rfl, rfl⟩⟩, ?_⟩
            rw [fr_app0, ← lk_same (l := (d, .t []) :: l) (t := d) rfl, lk_same rfl]
            have := hK _ _ h1
            have e : fr ((d, .t []) :: (t, .v (.bool b')) :: l) o = fr ((d, .t []) :: l) o := by
              rw [fr_put, lk_same hb, ← fr_put]
            rw [e] at this; exact this
          · exact absurd h1.1 (by simp)
    · rename_i hb
      cases f with
      | true =>
        refine .inr ⟨hb, ?_⟩
        split at h
        · rename_i d hd
          simp only [hd]
          rw [← fr_put]; exact hK _ _ h
        · rename_i hd
          simp only [hd]
          exact hK _ _ h.2
      | false =>
        split at h
        · rename_i d hd
          refine ⟨d, .t [], [], hd, .inr ⟨hb, rfl, rfl⟩, ?_⟩
          rw [fr_app0]; exact hK _ _ h
        · exact absurd h.1 (by simp)
    · exact h.elim
theorem exR_ok {P : Program} [Lay P] : ∀ {gs : List GI} {l : TL} {o : OL} {K : TL → OL → Prop} {K' : St → Prop}, exR P gs K l o → (∀ l o, K l o → K' (fr l o)) → regVc P gs K' (fr l o)
  | [], _, _, _, _, h, hK => hK _ _ h
  | _g :: _gs, _, _, _, _, h, hK => reg_cons (exG_ok h fun _ _ h => exR_ok h hK)
theorem exD_ok {P : Program} [Lay P] : ∀ {gs : List (GI × Bool)} {l : TL} {o : OL} {K : TL → OL → Prop} {K' : St → Prop}, exD P gs K l o → (∀ l o, K l o → K' (fr l o)) → drawVc P gs K' (fr l o)
  | [], _, _, _, _, h, hK => hK _ _ h
  | (_g, _f) :: _gs, _, _, _, _, h, hK => draw_cons (exG_ok h fun _ _ h => exD_ok h hK)
theorem exDS_ok {P : Program} [Lay P] {us : List GI} {m0 : Nat} : ∀ {gs : List (GI × Bool)} {k : Nat} {l : TL} {o : OL} {K : TL → OL → Prop} {K' : St → Prop}, exDS P us m0 k gs K l o → (∀ l o, K l o → K' (fr l o)) → drawVcS P us m0 k gs K' (fr l o)
  | [], _, _, _, _, _, h, hK => hK _ _ h
  | (_g, _f) :: _gs, _, _, _, _, _, h, hK => by
    simp only [exDS] at h
    split at h
    · exact drawS_cons (fun _ _ => sideB_ok h.1) (exG_ok h.2 fun _ _ h => exDS_ok h hK)
    · rename_i hb
      refine drawS_cons (fun hf hk => ?_) (exG_ok h fun _ _ h => exDS_ok h hK)
      subst hf; subst hk
      simp [Nat.beq_refl] at hb

/-- Which may come next. -/
def rdyN (dn : List Nat) : Nat → List (List Nat) → List Nat
  | _, [] => []
  | i, p :: ps => bif (bif memN i dn then false else allN dn p) then i :: rdyN dn (i + 1) ps else rdyN dn (i + 1) ps
theorem rdyN_mem {dn : List Nat} : ∀ {ps : List (List Nat)} {i j : Nat} {p : List Nat}, ps[j]? = some p → memN (i + j) dn = false → allN dn p = true → i + j ∈ rdyN dn i ps
  | [], i, j, p, h, _, _ => by simp at h
  | q :: ps, i, j, p, h, h1, h2 => by
    unfold rdyN
    cases j with
    | zero =>
      simp only [List.getElem?_cons_zero, Option.some.injEq] at h
      subst h
      rw [Nat.add_zero] at h1 ⊢
      rw [h1, h2]
      simp
    | succ j =>
      have h3 := rdyN_mem (i := i + 1) (j := j) (by simpa using h) (by rw [show i + 1 + j = i + (j + 1) by omega]; exact h1) h2
      rw [show i + 1 + j = i + (j + 1) by omega] at h3
      cases (bif memN i dn then false else allN dn q) with
      | true => exact List.mem_cons_of_mem _ h3
      | false => exact h3
def conjN (F : Nat → Prop) : List Nat → Prop
  | [] => True
  | [i] => F i
  | i :: j :: is => F i ∧ conjN F (j :: is)
theorem conjN_mem {F : Nat → Prop} : ∀ {l : List Nat}, conjN F l → ∀ i ∈ l, F i
  | [], _, i, hi => by simp at hi
  | [j], h, i, hi => by rw [List.mem_singleton.1 hi]; exact h
  | j :: k :: is, h, i, hi => by
    rcases List.mem_cons.1 hi with rfl | hi
    · exact h.1
    · exact conjN_mem h.2 i hi
def exAny (P : Program) [Lay P] (gs : List GI) (ps : List (List Nat)) : Nat → List Nat → (TL → OL → Prop) → TL → OL → Prop
  | 0, _, K, l, o => K l o
  | f + 1, dn, K, l, o => conjN (fun i => whn (gs[i]?) fun g => exG P true g l o (exAny P gs ps f (i :: dn) K)) (rdyN dn 0 ps)
theorem exAny_ok {P : Program} [Lay P] {gs : List GI} {ps : List (List Nat)} : ∀ {f : Nat} {dn : List Nat} {l : TL} {o : OL} {K : TL → OL → Prop} {K' : St → Prop}, exAny P gs ps f dn K l o → (∀ l o, K l o → K' (fr l o)) → anyVc P gs ps f dn K' (fr l o)
  | 0, _, _, _, _, _, h, hK => hK _ _ h
  | f + 1, dn, l, o, K, K', h, hK => fun i p g h1 h2 h3 h4 => by
    have h5 := conjN_mem h i (by simpa using rdyN_mem (i := 0) (j := i) h1 (by simpa using h3) h4)
    obtain ⟨g', h6, h7⟩ := whn_eq h5
    rw [h2] at h6
    obtain rfl := Option.some.inj h6
    have h8 := exG_ok h7 fun l o h => exAny_ok h hK
    exact h8
/-- What is to hold behind code, of states as lists. -/
abbrev KL := Exit → TL → OL → Prop
def lift (K : KL) : Exit → St → Prop := fun e s => ∃ l o, s = fr l o ∧ K e l o
def V (P : Program) [Lay P] (c : C) (K : KL) (l : TL) (o : OL) : Prop := c.vc P (lift K) (fr l o)

def seqK (k : TL → OL → Prop) (K : KL) : KL
  | .normal, l, o => k l o
  | e, l, o => K e l o
def blkK (id : Nat) (K : KL) : KL
  | .exit j, l, o => bif Nat.beq j id then K .normal l o else K (.exit j) l o
  | e, l, o => K e l o

theorem I.vc_mono {P : Program} [Lay P] {i : I} {s : St} {K K' : St → Prop} (hK : ∀ s, K s → K' s) (h : i.vc P s K) : i.vc P s K' := by
  cases i
  case store sz x y =>
    obtain ⟨d, j, off, ob, c, ob', h1, h2, h3, h4, h5, h6⟩ := h
    exact ⟨d, j, off, ob, c, ob', h1, h2, h3, h4, h5, hK _ h6⟩
  case app dst ty sz bytes x y =>
    rcases h with ⟨d, xs, ys, h1, h2, h3, h4, h5, h6⟩ | ⟨ys, h1, h2, h3, h4, h5⟩
    · exact .inl ⟨d, xs, ys, h1, h2, h3, h4, h5, hK _ h6⟩
    · exact .inr ⟨ys, h1, h2, h3, h4, hK _ h5⟩
  case call d fx xs =>
    rcases h with ⟨f, cap, e, ty, sz, ys, args, xs', h1, h2, h3, h4, h5, h6, h7⟩ | h
    · exact .inl ⟨f, cap, e, ty, sz, ys, args, xs', h1, h2, h3, h4, h5, h6, hK _ h7⟩
    refine .inr ?_
    obtain ⟨f, cap, D, vw, r, outs, h1, h2, h3, h4, h5, h6, h7⟩ := h
    exact ⟨f, cap, D, vw, r, outs, h1, h2, h3, h4, h5, h6, hK _ h7⟩
  case nil d ne k x =>
    rcases h with ⟨h1, h2, h3⟩ | ⟨v, c, h1, h2⟩
    · exact .inl ⟨h1, h2, fun b => hK _ (h3 b)⟩
    · exact .inr ⟨v, c, h1, hK _ h2⟩
  all_goals
    obtain ⟨v, c, h1, h2⟩ := h
    exact ⟨v, c, h1, hK _ h2⟩
theorem GI.vc_mono {P : Program} [Lay P] {g : GI} {s : St} {K K' : St → Prop} (hK : ∀ s, K s → K' s) (h : g.vc P s K) : g.vc P s K' := by
  unfold GI.vc at h ⊢
  split at h
  · exact I.vc_mono hK h
  · rcases h with ⟨b', h1, h2, h3⟩ | ⟨h1, h2⟩
    · exact .inl ⟨b', h1, fun e => I.vc_mono hK (h2 e), fun e => hK _ (h3 e)⟩
    · exact .inr ⟨h1, hK _ h2⟩
theorem regVc_mono {P : Program} [Lay P] : ∀ {gs : List GI} {s : St} {K K' : St → Prop}, (∀ s, K s → K' s) → regVc P gs K s → regVc P gs K' s
  | [], _, _, _, hK, h => hK _ h
  | _g :: _gs, _, _, _, hK, h => GI.vc_mono (fun _ h => regVc_mono hK h) h
theorem drawVc_mono {P : Program} [Lay P] : ∀ {gs : List (GI × Bool)} {s : St} {K K' : St → Prop}, (∀ s, K s → K' s) → drawVc P gs K s → drawVc P gs K' s
  | [], _, _, _, hK, h => hK _ h
  | (g, true) :: gs, _, _, _, hK, h => GI.vc_mono (fun _ h => drawVc_mono hK h) h
  | (g, false) :: gs, _, _, _, hK, h => by
    obtain ⟨d, v, c, h1, h2, h3⟩ := h
    exact ⟨d, v, c, h1, h2, drawVc_mono hK h3⟩
theorem anyVc_mono {P : Program} [Lay P] {gs : List GI} {ps : List (List Nat)} : ∀ {f : Nat} {dn : List Nat} {K K' : St → Prop} {s : St}, (∀ s, K s → K' s) → anyVc P gs ps f dn K s → anyVc P gs ps f dn K' s
  | 0, _, _, _, _, hK, h => hK _ h
  | _f + 1, _, _, _, _, hK, h => fun i p g h1 h2 h3 h4 => GI.vc_mono (fun _ h => anyVc_mono hK h) (h i p g h1 h2 h3 h4)
theorem C.vc_mono {P : Program} [Lay P] : ∀ (c : C) {K K' : Exit → St → Prop} {s : St}, (∀ e s, K e s → K' e s) → c.vc P K s → c.vc P K' s
  | .skip, _, _, _, hK, h => hK _ _ h
  | .reg gs, _, _, _, hK, h => regVc_mono (hK _) h
  | .draw gs, _, _, _, hK, h => drawVc_mono (hK _) h
  | .drw us m0 gs, _, _, _, hK, h => drawVcS_mono (hK _) (fun _ _ _ _ hK h => GI.vc_mono hK h) h
  | .any gs ps, _, _, _, hK, h => anyVc_mono (hK _) h
  | .exit id, _, _, _, hK, h => hK _ _ h
  | .ret, _, _, _, hK, h => hK _ _ h
  | .seq a b, _, _, _, hK, h => a.vc_mono (fun e s h => by
      cases e
      case normal => obtain ⟨s'', h1, h2⟩ := h; exact ⟨s'', h1, b.vc_mono hK h2⟩
      all_goals exact hK _ _ h) h
  | .cond x a b, _, _, _, hK, h => by
    obtain ⟨t, h1, h2, h3⟩ := h
    exact ⟨t, h1, fun e => a.vc_mono hK (h2 e), fun e => b.vc_mono hK (h3 e)⟩
  | .blk id a, _, _, _, hK, h => a.vc_mono (fun e s h => by
      cases e
      case exit j =>
        simp only at h ⊢
        split at h
        · rename_i hj; rw [if_pos hj]; exact hK _ _ h
        · rename_i hj; rw [if_neg hj]; exact hK _ _ h
      all_goals exact hK _ _ h) h
  | .loop a, _, _, _, hK, h => by
    obtain ⟨ι, F, R, x0, h1, h2, h3⟩ := h
    exact ⟨ι, F, R, x0, h1, h2, fun x => a.vc_mono (fun e s h => by
      cases e
      case normal => exact h
      all_goals exact hK _ _ h) (h3 x)⟩

theorem Weak.refl (s : St) : Weak s s := fun _ _ _ _ _ _ _ h => ⟨_, h⟩
theorem Weak.trans {s t u : St} (h : Weak s t) (k : Weak t u) : Weak s u := fun _ _ _ _ _ _ _ hi => by
  obtain ⟨E, h1⟩ := h _ _ _ _ _ _ _ hi
  exact k _ _ _ _ _ _ _ h1

section
variable {P : Program} [Lay P] {K : KL} {l : TL} {o : OL}
theorem V_drw {us : List GI} {m0 : Nat} {gs : List (GI × Bool)} (h : exDS P us m0 0 gs (K .normal) l o) : V P (.drw us m0 gs) K l o := exDS_ok h fun l o h => ⟨l, o, rfl, h⟩
theorem V_any {gs : List GI} {ps : List (List Nat)} (h : exAny P gs ps gs.length [] (K .normal) l o) : V P (.any gs ps) K l o := exAny_ok h fun l o h => ⟨l, o, rfl, h⟩
theorem V_mono {c : C} {K' : KL} (hK : ∀ e l o, K e l o → K' e l o) (h : V P c K l o) : V P c K' l o :=
  c.vc_mono (fun e s h => by obtain ⟨l, o, h1, h2⟩ := h; exact ⟨l, o, h1, hK _ _ _ h2⟩) h
theorem V_skip (h : K .normal l o) : V P .skip K l o := ⟨l, o, rfl, h⟩
theorem V_ret (h : K .ret l o) : V P .ret K l o := ⟨l, o, rfl, h⟩
theorem V_exit {id : Nat} (h : K (.exit id) l o) : V P (.exit id) K l o := ⟨l, o, rfl, h⟩
theorem V_reg {gs : List GI} (h : exR P gs (K .normal) l o) : V P (.reg gs) K l o := exR_ok h fun l o h => ⟨l, o, rfl, h⟩
theorem V_draw {gs : List (GI × Bool)} (h : exD P gs (K .normal) l o) : V P (.draw gs) K l o := exD_ok h fun l o h => ⟨l, o, rfl, h⟩
/-- Between two codes: what is no longer needed may be dropped. -/
theorem V_join {a b : C} {M : TL → OL → Prop} (h : V P a (seqK (fun l o => ∃ l' o', Weak (fr l o) (fr l' o') ∧ M l' o') K) l o) (hb : ∀ l o, M l o → V P b K l o) : V P (.seq a b) K l o :=
  a.vc_mono (fun e s h => by
    obtain ⟨l, o, rfl, h⟩ := h
    cases e
    case normal => obtain ⟨l', o', h1, h2⟩ := h; exact ⟨_, h1, hb _ _ h2⟩
    all_goals exact ⟨l, o, rfl, h⟩) h
theorem V_seq {a b : C} (h : V P a (seqK (V P b K) K) l o) : V P (.seq a b) K l o :=
  V_join (M := V P b K) (V_mono (fun e l o h => by
    cases e
    case normal => exact ⟨l, o, Weak.refl _, h⟩
    all_goals exact h) h) fun _ _ h => h
theorem V_cond {x : Operand} {a b : C} {t : Bool} (ht : evL l x = .v (.bool t)) (h1 : t = true → V P a K l o) (h2 : t = false → V P b K l o) : V P (.cond x a b) K l o :=
  ⟨t, by rw [fr_ev]; exact ht, h1, h2⟩
theorem V_blk {id : Nat} {a : C} (h : V P a (blkK id K) l o) : V P (.blk id a) K l o :=
  a.vc_mono (fun e s h => by
    obtain ⟨l, o, rfl, h⟩ := h
    cases e
    case exit j =>
      simp only [blkK] at h ⊢
      cases hj : Nat.beq j id with
      | true =>
        rw [hj] at h
        rw [if_pos (Nat.eq_of_beq_eq_true hj)]
        exact ⟨l, o, rfl, h⟩
      | false =>
        rw [hj] at h
        rw [if_neg (fun e => by subst e; simp at hj)]
        exact ⟨l, o, rfl, h⟩
    all_goals exact ⟨l, o, rfl, h⟩) h
/-- A loop's turn: on to a frame further down. -/
def loopK {ι : Type} (F : ι → TL × OL) (R : ι → ι → Prop) (x : ι) (K : KL) : KL
  | .normal, l, o => ∃ y, R y x ∧ Weak (fr l o) (fr (F y).1 (F y).2)
  | e, l, o => K e l o
theorem V_loop {a : C} {ι : Type} (F : ι → TL × OL) (R : ι → ι → Prop) (x0 : ι) (hR : WellFounded R) (h0 : Weak (fr l o) (fr (F x0).1 (F x0).2)) (h : ∀ x, V P a (loopK F R x K) (F x).1 (F x).2) : V P (.loop a) K l o :=
  ⟨ι, fun x => fr (F x).1 (F x).2, R, x0, hR, h0, fun x => a.vc_mono (fun e s h => by
    obtain ⟨l, o, rfl, h⟩ := h
    cases e
    case normal => exact h
    all_goals exact ⟨l, o, rfl, h⟩) (h x)⟩
end

/-- A loop, left as it is. -/
inductive VL (P : Program) [Lay P] (a : C) (K : KL) (l : TL) (o : OL) : Prop where
  | mk (h : V P (.loop a) K l o)

/-- Code, reckoned out, up to loops. -/
def xC (P : Program) [Lay P] : C → KL → TL → OL → Prop
  | .skip, K, l, o => K .normal l o
  | .reg gs, K, l, o => exR P gs (K .normal) l o
  | .draw gs, K, l, o => exD P gs (K .normal) l o
  | .drw us m0 gs, K, l, o => exDS P us m0 0 gs (K .normal) l o
  | .any gs ps, K, l, o => exAny P gs ps gs.length [] (K .normal) l o
  | .seq a b, K, l, o => xC P a (seqK (xC P b K) K) l o
  | .cond x a b, K, l, o => match evL l x with
    | .v (.bool t) => (t = true → xC P a K l o) ∧ (t = false → xC P b K l o)
    | _ => False
  | .blk id a, K, l, o => xC P a (blkK id K) l o
  | .loop a, K, l, o => VL P a K l o
  | .exit id, K, l, o => K (.exit id) l o
  | .ret, K, l, o => K .ret l o
theorem V_x {P : Program} [Lay P] : ∀ {c : C} {K : KL} {l : TL} {o : OL}, xC P c K l o → V P c K l o
  | .skip, _, _, _, h => V_skip h
  | .reg gs, _, _, _, h => V_reg h
  | .draw gs, _, _, _, h => V_draw h
  | .drw us m0 gs, _, _, _, h => V_drw h
  | .any gs ps, _, _, _, h => V_any h
  | .seq a b, K, _, _, h => V_seq (V_mono (fun e l o h => by
      cases e
      case normal => exact V_x h
      all_goals exact h) (V_x h))
  | .cond x a b, _, _, _, h => by
    simp only [xC] at h
    split at h
    · rename_i t ht
      exact V_cond ht (fun e => V_x (h.1 e)) (fun e => V_x (h.2 e))
    · exact h.elim
  | .blk id a, _, _, _, h => V_blk (V_x h)
  | .loop a, _, _, _, h => by obtain ⟨h⟩ := h; exact h
  | .exit id, _, _, _, h => V_exit h
  | .ret, _, _, _, h => V_ret h
end Go.Proofs.YtaopcacmfhdfkaaGreatDoor.Vc

namespace Go.Proofs.YtaopcacmfhdfkaaGreatDoor.Vc
open Go Go.RowKit
set_option linter.unusedSimpArgs false
set_option linter.unusedVariables false

/-- A state's values, one by one, as told. -/
def wkT (l : TL) : TL → Prop
  | [] => True
  | (t, v) :: l' => leX (lk l t) v ∧ wkT l l'
def leO : Ob → Ob → Prop
  | .var ty x, .var ty' y => ty = ty' ∧ leX x y
  | .row ty z xs, .row ty' z' ys => Two (ty = ty' ∧ z = z' ∧ xs = ys) (ty = ty' ∧ z = z' ∧ leL xs ys)
  | b, b' => b = b'
def wkO (o : OL) : OL → Prop
  | [] => True
  | (d, b) :: o' => whn (lo o d) (fun c => leO c b) ∧ wkO o o'
def allIn (o : OL) (ds : List Nat) : Bool := ds.all fun d => (lo o d).isSome
def Ob.ids : Ob → List Nat
  | .var _ x => x.ids
  | .row _ _ _ => []
/-- What is kept names only what is kept. -/
def shut (l : TL) (o : OL) : Bool := l.all (fun q => allIn o q.2.ids) && o.all (fun q => allIn o q.2.ids)

theorem wkT_get {l : TL} : ∀ {l' : TL}, wkT l l' → ∀ t, lk l' t = .dead ∨ (leX (lk l t) (lk l' t) ∧ (t, lk l' t) ∈ l')
  | [], _, t => .inl rfl
  | (d, v) :: l', h, t => by
    obtain ⟨h1, h2⟩ := h
    simp only [lk]
    cases hb : Nat.beq t d with
    | true =>
      have := Nat.eq_of_beq_eq_true hb
      subst this
      exact .inr ⟨by simpa using h1, by simp⟩
    | false =>
      rcases wkT_get h2 t with h3 | ⟨h3, h4⟩
      · exact .inl (by simp [h3])
      · exact .inr ⟨by simpa using h3, by simp [h4]⟩
theorem wkO_get {o : OL} : ∀ {o' : OL}, wkO o o' → ∀ d b, lo o' d = some b → (∃ c, lo o d = some c ∧ leO c b) ∧ (d, b) ∈ o'
  | [], _, d, b, h => by simp [lo] at h
  | (e, c) :: o', h, d, b, hb => by
    obtain ⟨h1, h2⟩ := h
    simp only [lo] at hb
    cases hde : Nat.beq d e with
    | true =>
      have := Nat.eq_of_beq_eq_true hde
      subst this
      rw [hde] at hb
      obtain rfl := Option.some.inj hb
      obtain ⟨c', h3, h4⟩ := whn_eq h1
      exact ⟨⟨c', h3, h4⟩, by simp⟩
    | false =>
      rw [hde] at hb
      obtain ⟨h3, h4⟩ := wkO_get h2 d b hb
      exact ⟨h3, by simp [h4]⟩

theorem leO_cases {c b : Ob} (h : leO c b) : (∃ ty x y, c = .var ty x ∧ b = .var ty y ∧ leX x y) ∨ (∃ ty z xs ys, c = .row ty z xs ∧ b = .row ty z ys ∧ leL xs ys) ∨ c = b := by
  unfold leO at h
  split at h
  · obtain ⟨rfl, h⟩ := h; exact .inl ⟨_, _, _, rfl, rfl, h⟩
  · rcases h with ⟨rfl, rfl, rfl⟩ | ⟨rfl, rfl, h⟩
    · exact .inr (.inr rfl)
    · exact .inr (.inl ⟨_, _, _, _, rfl, rfl, h⟩)
  · exact .inr (.inr h)
theorem RelF.le {w : World} {ok : Nat → Prop} {E : Nat → Value} {sz : Nat} {xs ys : List TV} {cs : List Value} (h : RelF w ok E sz xs cs) (hl : leL xs ys) : RelF w ok E sz ys cs := by
  have hlen := leL_len hl
  refine ⟨by rw [← hlen]; exact h.1, fun i y hy => ?_⟩
  have hget : ∀ (xs ys : List TV) (i : Nat) (y : TV), leL xs ys → ys[i]? = some y → ∃ x, xs[i]? = some x ∧ leX x y := by
    intro xs
    induction xs with
    | nil => intro ys i y hl hy; cases ys with
      | nil => simp at hy
      | cons _ _ => simp [leL] at hl
    | cons x xs ih =>
      intro ys i y hl hy
      cases ys with
      | nil => simp at hy
      | cons z zs =>
        simp only [leL] at hl
        cases i with
        | zero => simp at hy; subst hy; exact ⟨x, rfl, hl.1⟩
        | succ i => simpa using ih zs i y hl.2 (by simpa using hy)
  obtain ⟨x, h1, h2⟩ := hget xs ys i y hl hy
  obtain ⟨u, h3, h4⟩ := h.2 i x h1
  exact ⟨u, le_rel _ _ _ h2 h3, h4⟩

/-- First: the values are told less sharply. -/
theorem weak_le {s t : St} (h1 : ∀ i, t.tm i = .dead ∨ leX (s.tm i) (t.tm i)) (h2 : t.ob = s.ob) : Weak s t := by
  intro w0 X ok0 n E a w h
  refine ⟨E, { keep := h.keep, ob := by rw [h2]; exact h.ob, ext := by rw [h2]; exact h.ext, own := by rw [h2]; exact h.own, dis := by rw [h2]; exact h.dis, defers := h.defers, size := h.size, tm := fun i => ?_ }⟩
  rcases h1 i with h3 | h3
  · rw [h3]; simp only [Rel]
  · rw [h2]; exact le_rel _ _ _ h3 (h.tm i)

/-- Objects that aren't kept. -/
theorem weak_ob {s : St} {B : Obs} (h1 : ∀ d b, B d = some b → ∃ c, s.ob d = some c ∧ leO c b) (h2 : ∀ d b, B d = some b → ∀ e ∈ b.ids, B e ≠ none) :
    Weak s { tm := fun t => (s.tm t).sub (fun d => bif (B d).isSome then .o d else .dead) (fun d i off => bif (B d).isSome then .p d i off else .dead), ob := B } := by
  intro w0 X ok0 n E a w h
  have hsub : ∀ d, B d ≠ none → s.ob d ≠ none := fun d hd => by
    cases hb : B d with
    | none => exact absurd hb hd
    | some b => obtain ⟨c, hc, _⟩ := h1 d b hb; rw [hc]; simp
  have hk : ∀ k, okOf w0 ok0 E s.ob k → k < w.heap.size → okOf w0 ok0 E B k ∧ w.heap[k]? = w.heap[k]? := fun k hk _ => ⟨⟨hk.1, fun d hd => hk.2 d (hsub d hd)⟩, rfl⟩
  have hO : ∀ e y, Rel w (okOf w0 ok0 E s.ob) E s.ob (.o e) y → Rel w (okOf w0 ok0 E B) E B (bif (B e).isSome then .o e else .dead) y := by
    intro e y hr
    cases hs : (B e).isSome with
    | false => simp [Rel]
    | true =>
      obtain ⟨b, hb⟩ := Option.isSome_iff_exists.1 hs
      obtain ⟨c, hc, hle⟩ := h1 e b hb
      simp only [cond_true, Rel] at hr ⊢
      obtain ⟨⟨ty, sz, xs, h5⟩, h6⟩ := hr
      rw [hc] at h5
      obtain rfl := Option.some.inj h5
      rcases leO_cases hle with ⟨_, _, _, h7, _⟩ | ⟨_, _, _, _, _, rfl, _⟩ | rfl
      · cases h7
      · exact ⟨⟨_, _, _, hb⟩, h6⟩
      · exact ⟨⟨ty, sz, xs, hb⟩, h6⟩
  have hP : ∀ e i off y, Rel w (okOf w0 ok0 E s.ob) E s.ob (.p e i off) y → Rel w (okOf w0 ok0 E B) E B (bif (B e).isSome then .p e i off else .dead) y := by
    intro e i off y hr
    cases hs : (B e).isSome with
    | false => simp [Rel]
    | true =>
      obtain ⟨b, hb⟩ := Option.isSome_iff_exists.1 hs
      obtain ⟨c, hc, hle⟩ := h1 e b hb
      simp only [cond_true, Rel] at hr ⊢
      obtain ⟨od, h5, g, h6, h7⟩ := hr
      rw [hc] at h5
      obtain rfl := Option.some.inj h5
      refine ⟨b, hb, g, h6, ?_⟩
      rcases leO_cases hle with ⟨_, _, _, rfl, rfl, _⟩ | ⟨_, _, _, _, rfl, rfl, _⟩ | rfl
      · exact h7
      · exact h7
      · exact h7
  refine ⟨E, h.turn (w' := w) (E' := E) h.keep hk (Nat.le_refl _) hO hP (fun e b he => ?_) (fun d hd hd' => h.ext d hd (hsub d hd')) (fun d g hd hd' => h.own d g hd (hsub d hd')) (fun d e g hd he => h.dis d e g (hsub d hd) (hsub e he))⟩
  obtain ⟨c, hc, hle⟩ := h1 e b he
  have h3 := h.ob e c hc
  right
  rcases leO_cases hle with ⟨ty, x, y, rfl, rfl, hxy⟩ | ⟨ty, z, xs, ys, rfl, rfl, hxy⟩ | rfl
  · obtain ⟨g, u, hE, hr, hh, h4⟩ := h3
    have h5 := Rel.gen hk (Nat.le_refl _) hO hP _ _ (le_rel _ _ _ hxy hr)
    rw [sub_congr (fo' := .o) (fp' := .p) y (fun d hd => by
      have := h2 e _ he d (by simpa [Ob.ids] using hd)
      cases hB : B d with
      | none => exact absurd hB this
      | some _ => simp), TV.sub_id] at h5
    exact ⟨g, u, hE, h5, hh, h4⟩
  · obtain ⟨cs, hown, hF⟩ := h3
    exact ⟨cs, by rw [← leL_len hxy]; exact hown, (hF.imp hk (Nat.le_refl _)).le hxy⟩
  · cases c with
    | row ty sz xs =>
      obtain ⟨cs, hown, hF⟩ := h3
      exact ⟨cs, hown, hF.imp hk (Nat.le_refl _)⟩
    | var ty x =>
      obtain ⟨g, u, hE, hr, hh, h4⟩ := h3
      have h5 := Rel.gen hk (Nat.le_refl _) hO hP _ _ hr
      rw [sub_congr (fo' := .o) (fp' := .p) x (fun d hd => by
        have := h2 e _ he d (by simpa [Ob.ids] using hd)
        cases hB : B d with
        | none => exact absurd hB this
        | some _ => simp), TV.sub_id] at h5
      exact ⟨g, u, hE, h5, hh, h4⟩

theorem weak_fr {l l' : TL} {o o' : OL} (h1 : wkT l l') (h2 : wkO o o') (h3 : shut l' o' = true) : Weak (fr l o) (fr l' o') := by
  simp only [shut, Bool.and_eq_true, List.all_eq_true, allIn] at h3
  obtain ⟨h3, h4⟩ := h3
  have hd : Weak (fr l o) ⟨lk l', lo o⟩ := by
    refine weak_le (s := fr l o) (t := ⟨lk l', lo o⟩) (fun i => ?_) rfl
    rcases wkT_get h1 i with h | ⟨h, _⟩
    · exact .inl h
    · exact .inr h
  have h5 := weak_ob (s := ⟨lk l', lo o⟩) (B := lo o') (fun d b hb => (wkO_get h2 d b hb).1) (fun d b hb e he => by
    have := h4 _ (wkO_get h2 d b hb).2 e he
    intro hn; rw [hn] at this; simp at this)
  have h6 : Weak { tm := fun t => (lk l' t).sub (fun d => bif (lo o' d).isSome then .o d else .dead) (fun d i off => bif (lo o' d).isSome then .p d i off else .dead), ob := lo o' } (fr l' o') := by
    refine weak_le (fun i => ?_) rfl
    rcases wkT_get h1 i with h | ⟨_, h⟩
    · exact .inl h
    · refine .inr ?_
      simp only [fr]
      rw [sub_congr (fo' := .o) (fp' := .p) (lk l' i) (fun d hd => by simp [h3 _ h d hd]), TV.sub_id]
      exact leX_refl _
  exact (hd.trans h5).trans h6

/-- A nil slice, as an own row that is empty. -/
theorem weak_ghost {l : TL} {o : OL} (t d ty sz : Nat) (h : lk l t = .v (.slice none 0 0)) (hd : lo o d = none) (h16 : Nat.ble 16 d = true) : Weak (fr l o) (fr ((t, .o d) :: l) ((d, .row ty sz []) :: o)) := by
  intro w0 X ok0 n E a w hI
  have h1 := hI.ghost (d := d) (ty := ty) (sz := sz) hd (Nat.le_of_ble_eq_true h16)
  have e : ({ fr l o with ob := upd (fr l o).ob d (some (.row ty sz [])) } : St) = fr l ((d, .row ty sz []) :: o) := fr_ob _ _ _ _
  rw [e] at h1
  refine ⟨_, { keep := h1.keep, ob := h1.ob, ext := h1.ext, own := h1.own, dis := h1.dis, defers := h1.defers, size := h1.size, tm := fun i => ?_ }⟩
  have h2 := h1.tm i
  simp only [fr, lk] at h2 ⊢
  cases hb : Nat.beq i t with
  | false => exact h2
  | true =>
    have := Nat.eq_of_beq_eq_true hb
    subst this
    simp only [cond_true]
    rw [h] at h2
    have h3 : a.tmps.getD i undef = .slice none 0 0 := by simp only [Rel] at h2; exact h2.2
    rw [h3]
    simp only [Rel]
    refine ⟨⟨ty, sz, [], by simp [lo]⟩, by simp, none, 0, 0, rfl⟩

/-- A row that is no longer written. -/
theorem weak_frz {l : TL} {o : OL} {d ty sz : Nat} {xs : List TV} (h : lo o d = some (.row ty sz xs)) (h16 : 16 ≤ d ∧ d ≠ 31) :
    Weak (fr l o) (fr (l.map fun q => (q.1, q.2.sub (frzO d sz xs) (frzP d))) ((o.filter fun q => !Nat.beq q.1 d).map fun q => (q.1, q.2.sub (frzO d sz xs) (frzP d)))) := by
  intro w0 X ok0 n E a w hI
  have := hI.freeze (d := d) (ty := ty) (sz := sz) (xs := xs) h h16.1 h16.2
  have e : (fr l o).freeze d sz xs = fr (l.map fun q => (q.1, q.2.sub (frzO d sz xs) (frzP d))) ((o.filter fun q => !Nat.beq q.1 d).map fun q => (q.1, q.2.sub (frzO d sz xs) (frzP d))) := by
    simp only [St.freeze, fr, St.mk.injEq]
    constructor
    · funext t; rw [lk_map (g := fun x => x.sub (frzO d sz xs) (frzP d)) rfl]
    · funext e
      rw [lo_map]
      have hf : ∀ (o : OL), lo (o.filter fun q => !Nat.beq q.1 d) e = if e = d then none else lo o e := by
        intro o
        induction o with
        | nil => simp [lo]
        | cons q o ih =>
          obtain ⟨c, b⟩ := q
          rw [List.filter_cons]
          by_cases hcd : c = d
          · subst hcd
            simp only [Nat.beq_refl, Bool.not_true, Bool.false_eq_true, if_false, ih, lo]
            by_cases hed : e = c
            · simp [hed]
            · have : Nat.beq e c = false := by rw [Bool.eq_false_iff]; intro h'; exact hed (Nat.eq_of_beq_eq_true h')
              simp [hed, this]
          · have : Nat.beq c d = false := by rw [Bool.eq_false_iff]; intro h'; exact hcd (Nat.eq_of_beq_eq_true h')
            simp only [this, Bool.not_false, if_true, lo, ih]
            by_cases hec : e = c
            · subst hec; simp [hcd]
            · have : Nat.beq e c = false := by rw [Bool.eq_false_iff]; intro h'; exact hec (Nat.eq_of_beq_eq_true h')
              simp [this]
      rw [hf]
      split <;> simp
  rw [← e]
  exact ⟨E, this⟩
end Go.Proofs.YtaopcacmfhdfkaaGreatDoor.Vc

namespace Go.Proofs.YtaopcacmfhdfkaaGreatDoor.Vc
open Go Go.RowKit
set_option linter.unusedSimpArgs false
set_option linter.unusedVariables false

/-- Where a result lies. -/
inductive RV where
  | tmp (t : Nat)
  | cell (x : Nat) (m : Option Nat)
def trR (P : Program) [Lay P] : ResultVar → Option RV
  | .tmp t => some (.tmp t)
  | .cell x ty => (aggSize P ty).map (.cell x ·)

/-- A function, laid open. -/
def IsFn (P : Program) [Lay P] (f n : Nat) (c : C) (rs : List RV) : Prop :=
  ∃ fn code, P.funcs[f]? = some fn ∧ fn.body = some code ∧ (fn.name == "runtime.NumGoroutine") = false ∧ fn.ntmps = n ∧ trC P n code = some c ∧ fn.results.toList.mapM (trR P) = some rs

def resX (l : TL) (o : OL) : RV → (TV → Prop) → Prop
  | .tmp t, K => frc (lk l t) K
  | .cell x none, K => memX o (lk l x) fun cs => Get (cs[0]?) fun v => frc v K
  | .cell x (some m), K => memX o (lk l x) fun cs => Nat.ble m cs.length = true ∧ nrm (cs.take m) fun cs => K (.a cs)
def resXs (l : TL) (o : OL) : List RV → (List TV → Prop) → Prop
  | [], K => K []
  | r :: rs, K => resX l o r fun v => resXs l o rs fun vs => K (v :: vs)

theorem resX_ok {P : Program} [Lay P] {l : TL} {o : OL} {q : ResultVar} {r : RV} {K : TV → Prop} (hq : trR P q = some r) (h : resX l o r K) : ∃ v, resT P (fr l o) q = some v ∧ K v := by
  cases q with
  | tmp t =>
    obtain rfl := Option.some.inj hq
    simp only [resX, frc_eq] at h
    exact ⟨_, rfl, h⟩
  | cell x ty =>
    simp only [trR, Option.map_eq_some_iff] at hq
    obtain ⟨m, hm, rfl⟩ := hq
    cases m with
    | none =>
      obtain ⟨cs, h1, v, h2, h3⟩ := memX_ok (l := l) h
      rw [frc_eq] at h3
      refine ⟨v, ?_, h3⟩
      simp only [resT, hm]
      rw [show (fr l o).tm x = lk l x from rfl, h1]
      exact h2
    | some m =>
      obtain ⟨cs, h1, h2, h3⟩ := memX_ok (l := l) h
      rw [nrm_eq] at h3
      refine ⟨.a (cs.take m), ?_, h3⟩
      simp only [resT, hm]
      rw [show (fr l o).tm x = lk l x from rfl, h1]
      simp [Nat.le_of_ble_eq_true h2]
theorem resXs_ok {P : Program} [Lay P] {l : TL} {o : OL} : ∀ {qs : List ResultVar} {rs : List RV} {K : List TV → Prop}, qs.mapM (trR P) = some rs → resXs l o rs K → ∃ vs, qs.mapM (resT P (fr l o)) = some vs ∧ K vs
  | [], rs, K, hq, h => by
    simp at hq; subst hq
    exact ⟨[], by simp, h⟩
  | q :: qs, rs, K, hq, h => by
    simp only [List.mapM_cons, Option.bind_eq_bind, Option.bind_eq_some_iff, Option.pure_def, Option.some.injEq] at hq
    obtain ⟨r, h1, rs', h2, rfl⟩ := hq
    obtain ⟨v, h3, h⟩ := resX_ok h1 h
    obtain ⟨vs, h4, h⟩ := resXs_ok h2 h
    exact ⟨v :: vs, by simp [h3, h4], h⟩

/-- What a body that made nothing ends with. -/
def FinS (rs : List RV) (r : TV) : KL
  | .normal, l, o | .ret, l, o => resXs l o rs fun tvs => leX (TV.exp (fr l o) [] true (oneOr tvs)) r
  | _, _, _ => False
/-- What a body ends with. -/
def FinO (rs : List RV) (m : Nat) (N : List Nat) (r : TV) (outs : List Ob) : KL
  | .normal, l, o | .ret, l, o => resXs l o rs fun tvs => N.Nodup ∧ (∀ d ∈ N, 16 ≤ d ∧ lo o d ≠ none) ∧ (∀ d < m, lo o d ≠ none) ∧ leX (TV.exp (fr l o) (List.range m ++ N) true (oneOr tvs)) r ∧ insOf (fr l o) (List.range m ++ N) true = outs
  | _, _, _ => False

def argL : Nat → List TV → TL
  | _, [] => []
  | k, x :: xs => (k, x) :: argL (k + 1) xs
def obL : Nat → List Ob → OL
  | _, [] => []
  | k, x :: xs => (k, x) :: obL (k + 1) xs
theorem lk_argL : ∀ (xs : List TV) (k t : Nat), lk (argL k xs) t = if t < k then .dead else (xs[t - k]?).getD .dead
  | [], k, t => by simp [argL, lk]
  | x :: xs, k, t => by
    simp only [argL, lk, lk_argL xs (k + 1) t]
    by_cases h : t = k
    · subst h; simp
    · have : Nat.beq t k = false := by rw [Bool.eq_false_iff]; intro h'; exact h (Nat.eq_of_beq_eq_true h')
      rw [this, cond_false]
      by_cases h1 : t < k
      · rw [if_pos h1, if_pos (by omega)]
      · rw [if_neg h1, if_neg (by omega), show t - k = (t - (k + 1)) + 1 by omega, List.getElem?_cons_succ]
theorem lo_obL : ∀ (xs : List Ob) (k t : Nat), lo (obL k xs) t = if t < k then none else xs[t - k]?
  | [], k, t => by simp [obL, lo]
  | x :: xs, k, t => by
    simp only [obL, lo, lo_obL xs (k + 1) t]
    by_cases h : t = k
    · subst h; simp
    · have : Nat.beq t k = false := by rw [Bool.eq_false_iff]; intro h'; exact h (Nat.eq_of_beq_eq_true h')
      rw [this, cond_false]
      by_cases h1 : t < k
      · rw [if_pos h1, if_pos (by omega)]
      · rw [if_neg h1, if_neg (by omega), show t - k = (t - (k + 1)) + 1 by omega, List.getElem?_cons_succ]
theorem startT_fr (args : List TV) (ins : List Ob) : startT args ins = fr (argL 0 args) (obL 0 ins) := by
  simp only [startT, fr, St.mk.injEq]
  constructor
  · funext t; simp [lk_argL]
  · funext d; simp [lo_obL, obsOf]

theorem spec_o {P : Program} [Lay P] {f n : Nat} {c : C} {rs : List RV} (h : IsFn P f n c rs) (hm : P.follows .mixedOrders = true) {args : List TV} {ins : List Ob} (N : List Nat) {r : TV} {outs : List Ob} (hn : Nat.ble args.length n = true) (h16 : Nat.ble ins.length 16 = true)
    (hs : (outs.take ins.length).map Ob.shape = ins.map Ob.shape) (hv : V P c (FinO rs ins.length N r outs) (argL 0 args) (obL 0 ins)) : Spec P f args ins r outs := by
  obtain ⟨fn, code, h1, h2, h3, h4, h5, h6⟩ := h
  subst h4
  refine spec_intro hm h1 h2 h3 h5 (Nat.le_of_ble_eq_true hn) (Nat.le_of_ble_eq_true h16) hs ?_
  rw [startT_fr]
  refine c.vc_mono (fun e s hk => ?_) hv
  obtain ⟨l, o, rfl, hk⟩ := hk
  cases e
  case normal | ret =>
    obtain ⟨vs, h7, h8, h9, h10, h11, h12⟩ := resXs_ok h6 hk
    exact ⟨by simp, vs, N, h7, h8, h9, h10, h11, h12⟩
  all_goals exact hk.elim
theorem spec_s {P : Program} [Lay P] {f n : Nat} {c : C} {rs : List RV} (h : IsFn P f n c rs) (hm : P.follows .mixedOrders = true) {args : List TV} {r : TV} (hn : Nat.ble args.length n = true) (hv : V P c (FinS rs r) (argL 0 args) []) : Spec P f args [] r [] := by
  refine spec_o h hm [] hn rfl rfl (V_mono (fun e l o hk => ?_) hv)
  have key : ∀ {tvs : List TV → Prop} {K : List TV → Prop} (rs : List RV) (l : TL) (o : OL), resXs l o rs tvs → (∀ vs, tvs vs → K vs) → resXs l o rs K := by
    intro tvs K rs l o
    have h1 : ∀ (r : RV) (K K' : TV → Prop), resX l o r K → (∀ v, K v → K' v) → resX l o r K' := by
      intro r K K' h hK
      cases r with
      | tmp t => simp only [resX, frc_eq] at h ⊢; exact hK _ h
      | cell x m =>
        have hm : ∀ (y : TV) (K K' : List TV → Prop), memX o y K → (∀ v, K v → K' v) → memX o y K' := by
          intro y K K' h hK
          unfold memX at h ⊢
          split at h
          · exact hK _ h
          · obtain ⟨b, h1, h⟩ := whn_eq h
            simp only [whn, h1]
            cases b with
            | var ty z => obtain ⟨cs, h2, h⟩ := whn_eq h; simp only [h2]; exact hK _ h
            | row ty sz xs => obtain ⟨z, h2, h⟩ := h; obtain ⟨cs, h3, h⟩ := whn_eq h; exact ⟨z, h2, by simp only [h3]; exact hK _ h⟩
          · exact h.elim
        cases m with
        | none => exact hm _ _ _ h (fun cs ⟨v, h1, h2⟩ => ⟨v, h1, by simp only [frc_eq] at h2 ⊢; exact hK _ h2⟩)
        | some m => exact hm _ _ _ h (fun cs ⟨h1, h2⟩ => ⟨h1, by rw [nrm_eq] at h2 ⊢; exact hK _ h2⟩)
    induction rs generalizing tvs K with
    | nil => intro h hK; exact hK _ h
    | cons r rs ih => intro h hK; exact h1 _ _ _ h (fun v h => ih h (fun vs h => hK _ h))
  cases e
  case normal | ret => exact key rs l o hk (fun vs h => ⟨List.nodup_nil, by simp, by simp, h, rfl⟩)
  all_goals exact hk.elim

/-- A row, just so. -/
def leGX (b : Ob) (ty sz : Nat) (xs : List TV) : Prop := match b with
  | .row ty' sz' ys => ty' = ty ∧ sz' = sz ∧ ys = xs
  | _ => False
/-- What a body ends with that was handed a row. -/
def FinGX (rs : List RV) (ty sz : Nat) (xs' : List TV) : KL
  | .normal, l, o | .ret, l, o => resXs l o rs fun tvs => oneOr tvs = .o 31 ∧ whn (lo o 31) fun b => leGX b ty sz xs'
  | _, _, _ => False
theorem spec_g {P : Program} [Lay P] {f n : Nat} {c : C} {rs : List RV} (h : IsFn P f n c rs) (hm : P.follows .mixedOrders = true) {ty sz : Nat} {xs args xs' : List TV} (hn : Nat.ble (args.length + 1) n = true) (himm : immL args = true) (hnim : ∀ x ∈ xs', x.nim = true)
    (hv : V P c (FinGX rs ty sz xs') (argL 0 (.o 31 :: args)) [(31, .row ty sz xs)]) : SpecG P f ty sz xs args xs' := by
  obtain ⟨fn, code, h1, h2, h3, h4, h5, h6⟩ := h
  subst h4
  refine spec_intro_g hm h1 h2 h3 h5 (Nat.le_of_ble_eq_true hn) himm hnim ?_
  have e : startG ty sz xs args = fr (argL 0 (.o 31 :: args)) [(31, .row ty sz xs)] := by
    simp only [startG, fr, St.mk.injEq]
    constructor
    · funext t; simp [lk_argL]
    · funext d
      rw [lo_cons]
      rfl
  rw [e]
  refine c.vc_mono (fun e s hk => ?_) hv
  obtain ⟨l, o, rfl, hk⟩ := hk
  cases e
  case normal | ret =>
    obtain ⟨vs, h7, h8, h9⟩ := resXs_ok h6 hk
    obtain ⟨b, h10, h11⟩ := whn_eq h9
    refine ⟨by simp, vs, h7, h8, ?_⟩
    show lo o 31 = _
    rw [h10]
    unfold leGX at h11
    split at h11
    · obtain ⟨rfl, rfl, rfl⟩ := h11; rfl
    · exact h11.elim
  all_goals exact hk.elim
end Go.Proofs.YtaopcacmfhdfkaaGreatDoor.Vc

namespace Go.Proofs.YtaopcacmfhdfkaaGreatDoor.Vc
open Go Go.RowKit
set_option linter.unusedSimpArgs false
set_option linter.unusedVariables false

/-! Short words for code. -/

abbrev vi (n : Int) : Value := .int .i64 n
abbrev vu (n : Nat) : Value := .int .u64 (Int.ofNat (BitVec.ofNat 64 n).toNat)
abbrev vw (n : Nat) : Value := .int .u32 (Int.ofNat (BitVec.ofNat 32 n).toNat)
abbrev vh (n : Nat) : Value := .int .u16 (Int.ofNat (BitVec.ofNat 16 n).toNat)
abbrev vy (n : Nat) : Value := .int .u8 (Int.ofNat (BitVec.ofNat 8 n).toNat)
abbrev vb (b : Bool) : Value := .bool b
abbrev vnil : Value := .slice none 0 0
abbrev k (v : Value) : Operand := .const v
abbrev t (n : Nat) : Operand := .tmp n
abbrev nn (i : I) : GI := ⟨i, none⟩
abbrev gd (t : Nat) (b : Bool) (i : I) : GI := ⟨i, some (t, b)⟩
abbrev qn (i : I) : GI × Bool := (⟨i, none⟩, false)
abbrev bn (i : I) : GI × Bool := (⟨i, none⟩, true)
abbrev qg (t : Nat) (b : Bool) (i : I) : GI × Bool := (⟨i, some (t, b)⟩, false)
abbrev bg (t : Nat) (b : Bool) (i : I) : GI × Bool := (⟨i, some (t, b)⟩, true)

/-- Values of a program's types. -/
abbrev tI (n : Int) : TV := .v (.int .i64 n)
abbrev tU (x : BitVec 64) : TV := .v (.int .u64 (Int.ofNat x.toNat))
abbrev tW (x : BitVec 32) : TV := .v (.int .u32 (Int.ofNat x.toNat))
abbrev tY (x : BitVec 8) : TV := .v (.int .u8 (Int.ofNat x.toNat))
abbrev tB (b : Bool) : TV := .v (.bool b)

theorem wrap_i64 {x : Int} (h1 : -9223372036854775808 ≤ x) (h2 : x ≤ 9223372036854775807) : IntKind.wrap .i64 x = x := by
  simp only [IntKind.wrap, IntKind.bits, IntKind.signed, Bool.true_and, decide_eq_true_eq, show (2 : Int) ^ (64 - 1) = 9223372036854775808 from rfl, show (2 : Int) ^ 64 = 18446744073709551616 from rfl]
  split <;> omega
theorem map_get {α : Type} {l : List α} {f : α → TV} {m : Int} (h : m.toNat < l.length) : (l.map f)[m.toNat]? = some (f l[m.toNat]) := by
  rw [List.getElem?_map, List.getElem?_eq_getElem h]; rfl
theorem map_get' {α : Type} {l : List α} {f : α → TV} {i : Nat} (h : i < l.length) : (l.map f)[(Int.ofNat i).toNat]? = some (f l[i]) := by
  show (l.map f)[i]? = _
  rw [List.getElem?_map, List.getElem?_eq_getElem h]; rfl
end Go.Proofs.YtaopcacmfhdfkaaGreatDoor.Vc

namespace Go.Proofs.YtaopcacmfhdfkaaGreatDoor.Vc
open Go Go.RowKit
set_option linter.unusedSimpArgs false
set_option linter.unusedVariables false

theorem map_geti {α : Type} {l : List α} {f : α → TV} {i : Nat} (h : i < l.length) : (l.map f)[((i : Nat) : Int).toNat]? = some (f l[i]) := by
  show (l.map f)[i]? = _
  rw [List.getElem?_map, List.getElem?_eq_getElem h]; rfl

theorem len_map {α : Type} {f : α → TV} {l : List α} : TV.v (.int .i64 (((l.map f).length : Nat) : Int)) = tI (l.length : Nat) := by rw [List.length_map]

theorem sp1 {p A B : Prop} [Decidable p] (h1 : p → A) (h2 : ¬ p → B) : (decide p = true → A) ∧ (decide p = false → B) := ⟨fun h => h1 (of_decide_eq_true h), fun h => h2 (of_decide_eq_false h)⟩
theorem sp2 {p A B : Prop} [Decidable p] (h1 : ¬ p → A) (h2 : p → B) : (decide p = false → A) ∧ (decide p = true → B) := ⟨fun h => h1 (of_decide_eq_false h), fun h => h2 (of_decide_eq_true h)⟩
theorem sp3 {p A B : Prop} [Decidable p] (h1 : ¬ p → A) (h2 : p → B) : ((!decide p) = true → A) ∧ ((!decide p) = false → B) := ⟨fun h => h1 (by simpa using h), fun h => h2 (by simpa using h)⟩
theorem sp4 {p A B : Prop} [Decidable p] (h1 : p → A) (h2 : ¬ p → B) : ((!decide p) = false → A) ∧ ((!decide p) = true → B) := ⟨fun h => h1 (by simpa using h), fun h => h2 (by simpa using h)⟩
theorem sp5 {b : Bool} {A B : Prop} (h1 : b = false → A) (h2 : b = true → B) : ((!b) = true → A) ∧ ((!b) = false → B) := ⟨fun h => h1 (by simpa using h), fun h => h2 (by simpa using h)⟩
theorem sp6 {b : Bool} {A B : Prop} (h1 : b = true → A) (h2 : b = false → B) : ((!b) = false → A) ∧ ((!b) = true → B) := ⟨fun h => h1 (by simpa using h), fun h => h2 (by simpa using h)⟩

/-- Counting up. -/
theorem V_up {P : Program} [Lay P] {K : KL} {l : TL} {o : OL} {a : C} (n : Nat) (I : Nat → Prop) (F : Nat → TL × OL) (h0 : I 0) (hw : Weak (fr l o) (fr (F 0).1 (F 0).2))
    (h : ∀ i, i ≤ n → I i → V P a (fun e l o => match e with | .normal => i < n ∧ I (i + 1) ∧ Weak (fr l o) (fr (F (i + 1)).1 (F (i + 1)).2) | e => K e l o) (F i).1 (F i).2) : VL P a K l o := by
  refine .mk (V_loop (ι := { i : Nat // i ≤ n ∧ I i }) (fun i => F i.1) (fun x y => n - x.1 < n - y.1) ⟨0, Nat.zero_le _, h0⟩ (measure fun x : { i : Nat // i ≤ n ∧ I i } => n - x.1).wf hw ?_)
  rintro ⟨i, hi, hI⟩
  refine V_mono (fun e l o h => ?_) (h i hi hI)
  cases e
  case normal =>
    obtain ⟨h1, h2, h3⟩ := h
    exact ⟨⟨i + 1, h1, h2⟩, by show n - (i + 1) < n - i; omega, h3⟩
  all_goals exact h
end Go.Proofs.YtaopcacmfhdfkaaGreatDoor.Vc

namespace Go.Proofs.YtaopcacmfhdfkaaGreatDoor.Vc
open Go Go.RowKit
set_option linter.unusedSimpArgs false
set_option linter.unusedVariables false

theorem leI {a b : Int} (h : a = b) : leX (tI a) (tI b) := by subst h; exact leX_refl _
theorem leB {a b : Bool} (h : a = b) : leX (tB a) (tB b) := by subst h; exact leX_refl _
theorem leU {a b : BitVec 64} (h : a = b) : leX (tU a) (tU b) := by subst h; exact leX_refl _
theorem leS {z : Nat} {xs ys : List TV} (h : xs = ys) : leX (.s z xs) (.s z ys) := by subst h; exact leX_refl _
theorem leT {x y : TV} (h : x = y) : leX x y := by subst h; exact leX_refl _

theorem map_getp {α : Type} {l : List α} {f : α → TV} {i : Nat} (h0 : 0 < i) (h : i - 1 < l.length) : (l.map f)[((i : Nat) - 1 : Int).toNat]? = some (f l[i - 1]) := by
  rw [show ((i : Nat) - 1 : Int).toNat = i - 1 by omega, List.getElem?_map, List.getElem?_eq_getElem h]; rfl
/-- A fact that a walk leaves whole. -/
structure Fct (p : Prop) : Prop where
  out : p

/-- Any loop that comes down. -/
theorem V_ms {P : Program} [Lay P] {K : KL} {l : TL} {o : OL} {a : C} {α : Type} (μ : α → Nat) (I : α → Prop) (F : α → TL × OL) (x0 : α) (h0 : I x0) (hw : Weak (fr l o) (fr (F x0).1 (F x0).2))
    (h : ∀ x, I x → V P a (fun e l o => match e with | .normal => ∃ y, μ y < μ x ∧ I y ∧ Weak (fr l o) (fr (F y).1 (F y).2) | e => K e l o) (F x).1 (F x).2) : VL P a K l o := by
  refine .mk (V_loop (ι := { x : α // I x }) (fun x => F x.1) (fun x y => μ x.1 < μ y.1) ⟨x0, h0⟩ (measure fun x : { x : α // I x } => μ x.1).wf hw ?_)
  rintro ⟨x, hI⟩
  refine V_mono (fun e l o h => ?_) (h x hI)
  cases e
  case normal =>
    obtain ⟨y, h1, h2, h3⟩ := h
    exact ⟨⟨y, h2⟩, h1, h3⟩
  all_goals exact h

theorem take_succ' {α : Type} {l : List α} {i : Nat} (h : i < l.length) : l.take (i + 1) = l.take i ++ [l[i]] := by
  rw [List.take_succ_eq_append_getElem h]
theorem countP_take {α : Type} {l : List α} {f : α → Bool} {i : Nat} (h : i < l.length) : (l.take (i + 1)).countP f = (l.take i).countP f + if f l[i] = true then 1 else 0 := by
  rw [take_succ' h, List.countP_append]; simp [List.countP_cons]
theorem countP_take_le {α : Type} {l : List α} {f : α → Bool} {i : Nat} : (l.take i).countP f ≤ i := Nat.le_trans List.countP_le_length (by simp; omega)
theorem filter_take {α : Type} {l : List α} {f : α → Bool} {i : Nat} (h : i < l.length) : (l.take (i + 1)).filter f = (l.take i).filter f ++ if f l[i] = true then [l[i]] else [] := by
  rw [take_succ' h, List.filter_append]
  congr 1
  simp [List.filter_cons]

theorem leO_some (b : Ob) : whn (some b) (fun c => leO c b) := by
  cases b with
  | var ty x => exact ⟨rfl, leX_refl x⟩
  | row ty z xs => exact .l ⟨rfl, rfl, rfl⟩
theorem rowO {ty sz : Nat} {xs ys : List TV} (h : xs = ys) : whn (some (Ob.row ty sz xs)) (fun c => leO c (.row ty sz ys)) := by subst h; exact leO_some _
theorem filter_range {f : Int → Bool} {i : Nat} : ((List.range (i + 1)).map fun i : Nat => (i : Int)).filter f = (((List.range i).map fun i : Nat => (i : Int)).filter f) ++ if f i = true then [(i : Int)] else [] := by
  rw [List.range_succ, List.map_append, List.filter_append]
  congr 1
  simp [List.filter_cons]
theorem filter_range_le {f : Int → Bool} {i : Nat} : (((List.range i).map fun i : Nat => (i : Int)).filter f).length ≤ i := Nat.le_trans (List.length_filter_le _ _) (by simp)

/-- One tick of a set. -/
def hasT (m : BitVec 64) (t : Int) : Bool := decide (0 ≤ t) && m.getLsbD t.toNat

theorem bit_rem (m : BitVec 64) (n : Nat) : ((m >>> n) % BitVec.ofNat 64 2 = BitVec.ofNat 64 1) ↔ m.getLsbD n = true := by
  constructor
  · intro h
    have := congrArg BitVec.toNat h
    simp at this
    rw [BitVec.getLsbD, Nat.testBit]
    simp
    omega
  · intro h
    apply BitVec.eq_of_toNat_eq
    simp
    rw [BitVec.getLsbD, Nat.testBit] at h
    simp at h
    omega
theorem bit_and {w : Nat} (m : BitVec w) (n : Nat) (hw : 1 < w) : ((m >>> n) &&& BitVec.ofNat w 1 = BitVec.ofNat w 1) ↔ m.getLsbD n = true := by
  have h1 : 1 % 2 ^ w = 1 := Nat.mod_eq_of_lt (Nat.one_lt_two_pow (by omega))
  constructor
  · intro h
    have := congrArg BitVec.toNat h
    simp [h1, Nat.and_one_is_mod] at this
    rw [BitVec.getLsbD, Nat.testBit]
    simp [Nat.and_comm, Nat.and_one_is_mod]
    omega
  · intro h
    apply BitVec.eq_of_toNat_eq
    simp [h1, Nat.and_one_is_mod]
    rw [BitVec.getLsbD, Nat.testBit] at h
    simp [Nat.and_comm, Nat.and_one_is_mod] at h
    omega
end Go.Proofs.YtaopcacmfhdfkaaGreatDoor.Vc

namespace Go.Proofs.YtaopcacmfhdfkaaGreatDoor.Vc
open Go Go.RowKit Go.Deep Go.WideShapes
set_option linter.unusedSimpArgs false
set_option linter.unusedVariables false

/-- What a type's cells read as. -/
def Reads (P : Program) [Lay P] (t : TypeId) (z : Nat) (R : List TV → Prop) : Prop :=
  P.cellsOf t = z ∧ ∀ {H : Type} (enc : TypeId × Value → H) (w : World) (fuel : Nat) (cs : List Value) (x : DataW H × List MemPlace), DataW.trod enc P w 0 (fun _ => true) true fuel t cs = some x →
    cs.length = z ∧ (∀ u ∈ cs, u.oneCell' = true) ∧ ∃ tvs, R tvs ∧ ∀ E, RelL w (fun k => k < w.heap.size) E noObs tvs cs

theorem cell_lt {w : World} {a : Addr} {u : Value} (h : w.cell? a = some u) : a.block < w.heap.size := by
  unfold World.cell? at h
  split at h
  · rename_i hb; exact (Array.getElem?_eq_some_iff.1 hb).1
  · cases h
theorem add_block (a : Addr) (n : Nat) : (a.add n).block = a.block := by unfold Addr.add; split <;> rfl

theorem reads_int {P : Program} [Lay P] {t : TypeId} {k : IntKind} (ht : P.underlying t = some (.int k)) (hc : P.cellsOf t = 1) : Reads P t 1 fun l => ∃ n, l = [.v (.int k n)] ∧ (Lit.int k n).wf = true := by
  refine ⟨hc, fun enc w fuel cs x h => ?_⟩
  obtain ⟨n, rfl, _, hn⟩ := DataW.trod_int ht h
  exact ⟨rfl, by simp [Value.oneCell'], _, ⟨n, rfl, hn⟩, fun E => by simp [RelL, Rel, plain]⟩
theorem reads_bool {P : Program} [Lay P] {t : TypeId} (ht : P.underlying t = some .bool) (hc : P.cellsOf t = 1) : Reads P t 1 fun l => ∃ b, l = [.v (.bool b)] := by
  refine ⟨hc, fun enc w fuel cs x h => ?_⟩
  obtain ⟨n, rfl, _⟩ := DataW.trod_bool ht h
  exact ⟨rfl, by simp [Value.oneCell'], _, ⟨n, rfl⟩, fun E => by simp [RelL, Rel, plain]⟩
theorem reads_string {P : Program} [Lay P] {t : TypeId} (ht : P.underlying t = some .string) (hc : P.cellsOf t = 1) : Reads P t 1 fun l => ∃ s : ByteArray, l = [.v (.string s)] ∧ s.size ≤ maxLen := by
  refine ⟨hc, fun enc w fuel cs x h => ?_⟩
  obtain ⟨n, rfl, _, hn⟩ := DataW.trod_string ht h
  exact ⟨rfl, by simp [Value.oneCell'], _, ⟨n, rfl, hn⟩, fun E => by simp [RelL, Rel, plain]⟩

/-- A slice's element: a struct's cells, or one. -/
def elT (agg : Bool) (c : List TV) : TV := bif agg then .a c else c.headD .dead
theorem reads_slice {P : Program} [Lay P] {t e : TypeId} {z : Nat} {R : List TV → Prop} (agg : Bool) (ht : P.underlying t = some (.slice e)) (hc : P.cellsOf t = 1) (hz : 0 < z) (h1 : agg = false → z = 1) (he : Reads P e z R) :
    Reads P t 1 fun l => ∃ xs : List TV, l = [.s z xs] ∧ xs.length ≤ maxLen ∧ ∀ x ∈ xs, ∃ c, R c ∧ x = elT agg c := by
  obtain ⟨hz', he⟩ := he
  refine ⟨hc, fun enc w fuel cs x h => ?_⟩
  rcases open_slice ht h with ⟨rfl, _⟩ | ⟨a, len, cap, m, n, D, Pl, rfl, _, hl, hm, hmm, _, hx⟩
  · refine ⟨rfl, by simp [Value.oneCell'], _, ⟨[], rfl, by simp, by simp⟩, fun E => ?_⟩
    simp only [RelL]
    refine ⟨_, _, rfl, ?_, rfl⟩
    simp [Rel]
  · have hm' : len ≤ m := by rw [hmm]; simpa using hl
    obtain ⟨C, hC⟩ := choose_lt (α := List TV) (n := len) (p := fun i c => R c ∧ ∃ cs', cs'.length = z ∧ (∀ u ∈ cs', u.oneCell' = true) ∧ (∀ E, RelL w (fun k => k < w.heap.size) E noObs c cs') ∧ ∀ j u, cs'[j]? = some u → w.cell? (a.add (i * z + j)) = some u) (fun i hi => by
      obtain ⟨cs', h2, h3⟩ := hx i (by omega)
      rw [hz'] at h2
      obtain ⟨_, hlen, hcell⟩ := World.cells?_some h2
      obtain ⟨h4, h5, c, h6, h7⟩ := he enc w n cs' _ h3
      refine ⟨c, h6, cs', h4, h5, h7, fun j u hj => ?_⟩
      have hjl : j < z := by rw [← h4]; exact (List.getElem?_eq_some_iff.1 hj).1
      have := hcell j hjl
      rw [Go.Deep.add_add, hj] at this
      exact this)
    refine ⟨rfl, by simp [Value.oneCell'], _, ⟨(List.range len).map fun i => elT agg (C i), rfl, by simp; omega, fun x hx => ?_⟩, fun E => ?_⟩
    · simp only [List.mem_map, List.mem_range] at hx
      obtain ⟨i, hi, rfl⟩ := hx
      exact ⟨_, (hC i hi).1, rfl⟩
    · simp only [RelL]
      refine ⟨_, _, rfl, ?_, rfl⟩
      simp only [Rel]
      refine ⟨some a, cap, by simp, by simpa using hl, fun hne => ?_⟩
      have hlen0 : 0 < len := by
        rcases Nat.eq_zero_or_pos len with h0 | h0
        · subst h0; simp at hne
        · exact h0
      have hblk : a.block < w.heap.size := by
        obtain ⟨_, cs', h4, _, _, h6⟩ := hC 0 hlen0
        have := h6 0 cs'[0] (by rw [List.getElem?_eq_getElem (by omega)])
        have := cell_lt this
        rwa [add_block] at this
      refine ⟨a, rfl, hblk, hblk, RelE.of_get fun i x hix => ?_⟩
      rw [List.getElem?_map, Option.map_eq_some_iff] at hix
      obtain ⟨i', hi', rfl⟩ := hix
      obtain ⟨hi'', rfl⟩ := List.getElem?_eq_some_iff.1 hi'
      simp only [List.length_range] at hi''
      simp only [List.getElem_range]
      obtain ⟨_, cs', h4, h5, h6, h7⟩ := hC i hi''
      cases agg with
      | true =>
        refine ⟨.agg cs'.toArray, ?_, by simpa [Value.cells] using h4, by simpa [Value.cells] using h5, fun j u hj => ?_⟩
        · simp only [elT, cond_true, Rel]
          exact ⟨cs', rfl, h5, h6 E⟩
        · rw [Nat.zero_add]; exact h7 j u (by simpa [Value.cells] using hj)
      | false =>
        have hz1 := h1 rfl
        match cs', h4 with
        | [u], _ =>
          have hu := h5 u (by simp)
          have hcu : u.cells = #[u] := by cases u <;> first | rfl | (simp [Value.oneCell'] at hu)
          have h8 := h6 E
          refine ⟨u, ?_, by simp [hcu, hz1], by simp [hcu, hu], fun j v hj => ?_⟩
          · have hl1 := h8.length
            generalize hCi : C i = ci at h8 hl1
            match ci, hl1 with
            | [c], _ =>
              simp only [RelL] at h8
              obtain ⟨_, _, h9, h10, h11⟩ := h8
              simp only [List.cons.injEq] at h9
              obtain ⟨rfl, rfl⟩ := h9
              simpa [elT] using h10
          · rw [Nat.zero_add]; exact h7 j v (by simpa [hcu] using hj)
        | [], h4 => simp at h4; omega
        | _ :: _ :: _, h4 => simp at h4; omega

/-- Cells, field by field. -/
def catR : List (List TV → Prop) → List TV → Prop
  | [], l => l = []
  | R :: Rs, l => ∃ a b, l = a ++ b ∧ R a ∧ catR Rs b
/-- Fields that stand one behind the other. -/
def FR (P : Program) [Lay P] : Nat → List Field → List (List TV → Prop) → Nat → Prop
  | off, [], [], tot => off = tot
  | off, f :: fs, R :: Rs, tot => f.offset = off ∧ ∃ z, Reads P f.type z R ∧ FR P (off + z) fs Rs tot
  | _, _, _, _ => False
theorem fields_aux {P : Program} [Lay P] {H : Type} (enc : TypeId × Value → H) (w : World) (n : Nat) (cs : List Value) : ∀ (fs : List Field) (Rs : List (List TV → Prop)) (off tot : Nat), FR P off fs Rs tot → cs.length = tot →
    (∀ f ∈ fs, ∃ x, DataW.trod enc P w 0 (fun _ => true) true n f.type ((cs.drop f.offset).take (P.cellsOf f.type)) = some x) →
    (∀ u ∈ cs.drop off, u.oneCell' = true) ∧ ∃ tvs, catR Rs tvs ∧ ∀ E, RelL w (fun k => k < w.heap.size) E noObs tvs (cs.drop off)
  | [], [], off, tot, hF, hl, _ => by
    simp only [FR] at hF
    subst hF
    have : cs.drop off = [] := List.drop_eq_nil_of_le (by omega)
    rw [this]
    exact ⟨by simp, [], rfl, fun E => by simp [RelL]⟩
  | f :: fs, R :: Rs, off, tot, hF, hl, hx => by
    simp only [FR] at hF
    obtain ⟨ho, z, ⟨hz, hr⟩, hF⟩ := hF
    obtain ⟨h1, tvs, h2, h3⟩ := fields_aux enc w n cs fs Rs (off + z) tot hF hl (fun g hg => hx g (by simp [hg]))
    obtain ⟨x, hx0⟩ := hx f (by simp)
    rw [ho, hz] at hx0
    obtain ⟨h4, h5, tv, h6, h7⟩ := hr enc w n _ x hx0
    have e : cs.drop off = (cs.drop off).take z ++ cs.drop (off + z) := by
      rw [← List.drop_drop, List.take_append_drop]
    rw [e]
    refine ⟨fun u hu => ?_, tv ++ tvs, ⟨_, _, rfl, h6, h2⟩, fun E => (h7 E).append (h3 E)⟩
    rcases List.mem_append.1 hu with hu | hu
    · exact h5 u hu
    · exact h1 u hu
  | [], _ :: _, _, _, hF, _, _ => by simp [FR] at hF
  | _ :: _, [], _, _, hF, _, _ => by simp [FR] at hF
theorem reads_struct {P : Program} [Lay P] {t : TypeId} {fs : Array Field} {Rs : List (List TV → Prop)} {tot : Nat} (ht : P.underlying t = some (.struct fs)) (hc : P.cellsOf t = tot) (hF : FR P 0 fs.toList Rs tot) : Reads P t tot (catR Rs) := by
  refine ⟨hc, fun enc w fuel cs x h => ?_⟩
  obtain ⟨xs, n, _, _, hl, hlen, hf⟩ := DataW.trod_struct ht h
  rw [hc] at hl
  obtain ⟨h1, h2⟩ := fields_aux enc w n cs fs.toList Rs 0 tot hF hl (fun f hf' => by
    obtain ⟨i, hi, hfi⟩ := List.getElem_of_mem hf'
    have := hf i f (by rw [← Array.getElem?_toList, List.getElem?_eq_getElem hi, hfi])
    have hi' : i < xs.length := by rw [hlen]; simpa using hi
    exact ⟨xs[i], by rw [this, List.getElem?_eq_getElem hi']⟩)
  exact ⟨hl, by simpa using h1, by simpa using h2⟩

/-- A parameter. -/
theorem arg_agg {P : Program} [Lay P] {t : TypeId} {fs : Array Field} {z : Nat} {R : List TV → Prop} (hr : Reads P t z R) (ht : P.underlying t = some (.struct fs)) {H : Type} {enc : TypeId × Value → H} {w : World} {r : Reach} {b0 : Nat} {v : Value} {d : DataW H} {p : List MemPlace}
    (hv : Value.okWide P w r b0 t v) (h : DataW.Trod enc P w 0 (fun _ => true) true t v d p) : ∃ l, R l ∧ ∀ E, Rel w (fun k => k < w.heap.size) E noObs (.a l) v := by
  obtain ⟨cs, rfl, _⟩ := okWide_struct ht hv
  obtain ⟨fuel, hf⟩ := h
  obtain ⟨h1, h2, l, h3, h4⟩ := hr.2 enc w fuel _ _ hf
  refine ⟨l, h3, fun E => ?_⟩
  simp only [Rel]
  exact ⟨cs.toList, by simp, by simpa [Value.cells] using h2, by simpa [Value.cells] using h4 E⟩
theorem arg_one {P : Program} [Lay P] {t : TypeId} {R : List TV → Prop} (hr : Reads P t 1 R) {H : Type} {enc : TypeId × Value → H} {w : World} {v : Value} {d : DataW H} {p : List MemPlace} (hv : ∀ cs, v ≠ .agg cs)
    (h : DataW.Trod enc P w 0 (fun _ => true) true t v d p) : ∃ x, R [x] ∧ ∀ E, Rel w (fun k => k < w.heap.size) E noObs x v := by
  obtain ⟨fuel, hf⟩ := h
  obtain ⟨h1, h2, l, h3, h4⟩ := hr.2 enc w fuel _ _ hf
  have hc : v.cells = #[v] := by cases v <;> first | rfl | exact absurd rfl (hv _)
  rw [hc] at h4
  have h5 := (h4 fun _ => .nilIface).length
  match l, h5 with
  | [x], _ =>
    refine ⟨x, h3, fun E => ?_⟩
    have h6 := h4 E
    simp only [RelL] at h6
    obtain ⟨_, _, h7, h8, _⟩ := h6
    simp only [List.cons.injEq] at h7
    obtain ⟨rfl, _⟩ := h7
    exact h8

theorem exists_map {α : Type} {f : α → TV} {xs : List TV} (h : ∀ x ∈ xs, ∃ a, x = f a) : ∃ l : List α, xs = l.map f := by
  induction xs with
  | nil => exact ⟨[], rfl⟩
  | cons x xs ih =>
    obtain ⟨l, hl⟩ := ih fun y hy => h y (by simp [hy])
    obtain ⟨a, ha⟩ := h x (by simp)
    exact ⟨a :: l, by rw [ha, hl]; rfl⟩
theorem exists_mapP {α : Type} {f : α → TV} {Q : α → Prop} {xs : List TV} (h : ∀ x ∈ xs, ∃ a, x = f a ∧ Q a) : ∃ l : List α, xs = l.map f ∧ ∀ a ∈ l, Q a := by
  induction xs with
  | nil => exact ⟨[], rfl, by simp⟩
  | cons x xs ih =>
    obtain ⟨l, hl, hq⟩ := ih fun y hy => h y (by simp [hy])
    obtain ⟨a, ha, hqa⟩ := h x (by simp)
    exact ⟨a :: l, by rw [ha, hl]; rfl, by simpa [hqa] using hq⟩

/-- A contract, at a row's call. -/
theorem Spec.calls {P : Program} [Lay P] {f : FuncId} {args : List TV} {r : TV} (h : Spec P f args [] r []) {w : World} {vs : List Value} (ha : ∀ E, RelL w (fun k => k < w.heap.size) E noObs args vs) (hl : laidW P w (fun k => k < w.heap.size)) :
    Calls P f vs.toArray w fun e w' => ∃ v, e = .returned v ∧ Below w.heap.size w w' ∧ ∀ x, r = .v x → v = x := by
  obtain ⟨_, _, _, h4⟩ := h
  have e : obsOf [] = noObs := by funext d; simp [obsOf, noObs]
  refine (h4 w (fun k => k < w.heap.size) (fun _ => .nilIface) vs (by simp) (by simp) (by simp) (by rw [e]; exact ha _) hl).mono ?_
  rintro e' w' ⟨v, E, rfl, hk, _, hr, _⟩
  refine ⟨v, rfl, ⟨hk.os, hk.tape, hk.output, hk.size, fun k hlt => hk.block k hlt ?_⟩, fun x hx => ?_⟩
  · rintro ⟨d, hd⟩; simp [handed, blkOf] at hd
  · subst hx; simp only [Rel] at hr; exact hr.2
end Go.Proofs.YtaopcacmfhdfkaaGreatDoor.Vc
