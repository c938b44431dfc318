/- Plans, sets of ticks, and what the reference tells of them. -/
import Derived.Test.YtjmjolefhcjedaaVx
import Derived.Test.YtjmjolefhcjedaaFb
namespace Go.Proofs.Ytjmjolefhcjedaa.Vc
/-! Sets of ticks. -/

theorem hasT_nat (m : BitVec 64) (t : Nat) : hasT m t = m.getLsbD t := by simp [hasT]
theorem hasT_or (a b : BitVec 64) (t : Int) : hasT (a ||| b) t = (hasT a t || hasT b t) := by
  simp [hasT, Bool.and_or_distrib_left]
theorem hasT_and (a b : BitVec 64) (t : Int) : hasT (a &&& b) t = (hasT a t && hasT b t) := by
  unfold hasT; rw [BitVec.getLsbD_and]
  cases decide (0 ≤ t) <;> simp
theorem hasT_zero (t : Int) : hasT 0#64 t = false := by simp [hasT]
theorem bv_ext {a b : BitVec 64} (h : ∀ t : Nat, t < 64 → hasT a t = hasT b t) : a = b := by
  apply BitVec.eq_of_getLsbD_eq
  intro i hi
  have := h i hi
  simpa [hasT_nat] using this
theorem and_zero {a b : BitVec 64} : a &&& b = 0#64 ↔ ∀ t : Nat, t < 64 → ¬ (hasT a t = true ∧ hasT b t = true) := by
  constructor
  · intro h t _ ⟨h1, h2⟩
    have := hasT_and a b t
    rw [h, hasT_zero, h1, h2] at this
    cases this
  · intro h
    refine bv_ext fun t ht => ?_
    rw [hasT_and, hasT_zero]
    have := h t ht
    cases h1 : hasT a t <;> cases h2 : hasT b t <;> simp_all
theorem ne_zero {a : BitVec 64} : a ≠ 0#64 ↔ ∃ t : Nat, t < 64 ∧ hasT a t = true := by
  constructor
  · intro h
    refine Classical.byContradiction fun hn => h (bv_ext fun t ht => ?_)
    rw [hasT_zero]
    cases h1 : hasT a t with
    | false => rfl
    | true => exact absurd ⟨t, ht, h1⟩ hn
  · rintro ⟨t, _, h⟩ rfl
    rw [hasT_zero] at h; cases h

/-- All of them together. -/
def orAll (l : List (BitVec 64)) : BitVec 64 := l.foldl (· ||| ·) 0#64
def cnt (l : List (BitVec 64)) (t : Nat) : Nat := l.countP fun m => hasT m t
theorem hasT_foldl (l : List (BitVec 64)) : ∀ (a : BitVec 64) (t : Int), hasT (l.foldl (· ||| ·) a) t = (hasT a t || l.any fun m => hasT m t) := by
  induction l with
  | nil => intro a t; simp
  | cons m l ih => intro a t; rw [List.foldl_cons, ih, hasT_or, List.any_cons, Bool.or_assoc]
theorem hasT_orAll (l : List (BitVec 64)) (t : Int) : hasT (orAll l) t = l.any fun m => hasT m t := by
  unfold orAll; rw [hasT_foldl, hasT_zero, Bool.false_or]
theorem any_cnt (l : List (BitVec 64)) (t : Nat) : (l.any fun m => hasT m t) = decide (0 < cnt l t) := by
  rw [Bool.eq_iff_iff, decide_eq_true_eq, cnt, List.countP_pos_iff, List.any_eq_true]
theorem orAll_snoc (l : List (BitVec 64)) (m : BitVec 64) : orAll (l ++ [m]) = orAll l ||| m := by
  unfold orAll; rw [List.foldl_append]; rfl

/-- None meets those ahead of it. -/
def disj : BitVec 64 → List (BitVec 64) → Prop
  | _, [] => True
  | a, m :: l => a &&& m = 0#64 ∧ disj (a ||| m) l
theorem disj_snoc (l : List (BitVec 64)) : ∀ (a m : BitVec 64), disj a (l ++ [m]) ↔ disj a l ∧ (l.foldl (· ||| ·) a) &&& m = 0#64 := by
  induction l with
  | nil => intro a m; simp [disj]
  | cons x l ih => intro a m; simp only [List.cons_append, disj, List.foldl_cons, ih, and_assoc]
theorem disj_iff (l : List (BitVec 64)) : ∀ (a : BitVec 64), disj a l ↔ ∀ t : Nat, t < 64 → (hasT a t).toNat + cnt l t ≤ 1 := by
  induction l with
  | nil =>
    intro a
    simp only [disj, cnt, List.countP_nil, true_iff]
    intro t _
    cases hasT a t <;> simp
  | cons m l ih =>
    intro a
    simp only [disj, and_zero, ih]
    have key : ∀ t : Nat, (¬(hasT a t = true ∧ hasT m t = true) ∧ (hasT (a ||| m) t).toNat + cnt l t ≤ 1) ↔ (hasT a t).toNat + cnt (m :: l) t ≤ 1 := by
      intro t
      rw [hasT_or]
      unfold cnt
      rw [List.countP_cons]
      generalize List.countP (fun m => hasT m t) l = q
      cases hasT a t <;> cases hasT m t
      · simp
      · simp [Nat.add_comm]
      · simp
      · simp
    constructor
    · rintro ⟨h1, h2⟩ t ht
      exact (key t).1 ⟨h1 t ht, h2 t ht⟩
    · intro h
      exact ⟨fun t ht => ((key t).2 (h t ht)).1, fun t ht => ((key t).2 (h t ht)).2⟩
theorem disj_zero (l : List (BitVec 64)) : disj 0#64 l ↔ ∀ t : Nat, t < 64 → cnt l t ≤ 1 := by
  rw [disj_iff]
  simp [hasT_zero]

/-- How many. -/
def popN (m : BitVec 64) (n : Nat) : Nat := (List.range n).countP fun t : Nat => hasT m t
def sumTo (g : Nat → Nat) : Nat → Nat
  | 0 => 0
  | n + 1 => sumTo g n + g n
theorem countP_range (f : Nat → Bool) (n : Nat) : (List.range n).countP f = sumTo (fun t => (f t).toNat) n := by
  induction n with
  | zero => rfl
  | succ n ih => rw [List.range_succ, List.countP_append, ih, sumTo]; cases h : f n <;> simp [h]
theorem sumTo_congr {g h : Nat → Nat} {n : Nat} (e : ∀ t, t < n → g t = h t) : sumTo g n = sumTo h n := by
  induction n with
  | zero => rfl
  | succ n ih => rw [sumTo, sumTo, ih (fun t ht => e t (by omega)), e n (by omega)]
theorem sumTo_le {g h : Nat → Nat} {n : Nat} (e : ∀ t, t < n → g t ≤ h t) : sumTo g n ≤ sumTo h n := by
  induction n with
  | zero => exact Nat.le_refl _
  | succ n ih => have h1 := ih (fun t ht => e t (by omega)); have h2 := e n (by omega); simp only [sumTo]; omega
theorem sumTo_add {g h : Nat → Nat} {n : Nat} : sumTo (fun t => g t + h t) n = sumTo g n + sumTo h n := by
  induction n with
  | zero => rfl
  | succ n ih => simp only [sumTo]; omega
theorem sumTo_const (c n : Nat) : sumTo (fun _ => c) n = n * c := by
  induction n with
  | zero => simp [sumTo]
  | succ n ih => rw [sumTo, ih, Nat.succ_mul]
theorem pop_orAll {l : List (BitVec 64)} (h : ∀ t : Nat, t < 64 → cnt l t ≤ 1) : popN (orAll l) 64 = sumTo (cnt l) 64 := by
  unfold popN
  rw [countP_range]
  refine sumTo_congr fun t ht => ?_
  rw [hasT_orAll, any_cnt]
  have := h t ht
  by_cases h0 : 0 < cnt l t <;> simp [h0] <;> omega

/-! Round a frame. -/

/-- One tick more of a stretch's ticks. -/
theorem sum_one (_f : Nat) (b : Nat → Nat) (t0 : Nat) (n : Nat) : sumTo (fun t => if t = t0 then b t else 0) n = if t0 < n then b t0 else 0 := by
  induction n with
  | zero => rfl
  | succ n ih =>
    rw [sumTo, ih]
    by_cases h : n = t0
    · subst h; simp
    · rw [if_neg h]
      by_cases h2 : t0 < n
      · rw [if_pos h2, if_pos (by omega)]; rfl
      · rw [if_neg h2, if_neg (by omega)]
end Go.Proofs.Ytjmjolefhcjedaa.Vc

namespace Go.Proofs.Ytjmjolefhcjedaa.Vc
/-! How many bits a word has, by bytes. -/

def rep (c : Nat) : Nat → Nat
  | 0 => 0
  | k + 1 => 256 * rep c k + c
theorem land_step {a r m c : Nat} (hr : r < 256) (hc : c < 256) : (256 * a + r) &&& (256 * m + c) = 256 * (a &&& m) + (r &&& c) := by
  have h1 : ((256 * a + r) &&& (256 * m + c)) / 2 ^ 8 = (256 * a + r) / 2 ^ 8 &&& (256 * m + c) / 2 ^ 8 := Nat.and_div_two_pow
  have h2 : ((256 * a + r) &&& (256 * m + c)) % 2 ^ 8 = ((256 * a + r) % 2 ^ 8) &&& ((256 * m + c) % 2 ^ 8) := Nat.and_mod_two_pow
  rw [show (256 * a + r) / 2 ^ 8 = a by omega, show (256 * m + c) / 2 ^ 8 = m by omega] at h1
  rw [show (256 * a + r) % 2 ^ 8 = r by omega, show (256 * m + c) % 2 ^ 8 = c by omega] at h2
  omega

def F1 (k x : Nat) : Nat := (x / 2 &&& rep 85 k) + (x &&& rep 85 k)
def F2 (k x : Nat) : Nat := (x / 4 &&& rep 51 k) + (x &&& rep 51 k)
def F3 (k x : Nat) : Nat := (x / 16 + x) &&& rep 15 k
def g1 (r : Nat) : Nat := (r / 2 &&& 85) + (r &&& 85)
def g2 (r : Nat) : Nat := (r / 4 &&& 51) + (r &&& 51)
theorem q1 : ∀ q < 128, ∀ b < 2, (128 * b + q) &&& 85 = q &&& 85 := by decide +kernel
theorem q2 : ∀ q < 64, ∀ b < 4, (64 * b + q) &&& 51 = q &&& 51 := by decide +kernel
theorem q3 : ∀ h < 5, ∀ l < 5, ∀ n < 5, (16 * n + h + (16 * h + l)) &&& 15 = h + l := by decide +kernel
theorem F1_step {k a r : Nat} (hr : r < 256) : F1 (k + 1) (256 * a + r) = 256 * F1 k a + g1 r := by
  unfold F1 g1
  rw [show (256 * a + r) / 2 = 256 * (a / 2) + (128 * (a % 2) + r / 2) by omega, rep, land_step (by omega) (by omega), land_step hr (by omega), q1 _ (by omega) _ (by omega)]
  omega
theorem F2_step {k a r : Nat} (hr : r < 256) : F2 (k + 1) (256 * a + r) = 256 * F2 k a + g2 r := by
  unfold F2 g2
  rw [show (256 * a + r) / 4 = 256 * (a / 4) + (64 * (a % 4) + r / 4) by omega, rep, land_step (by omega) (by omega), land_step hr (by omega), q2 _ (by omega) _ (by omega)]
  omega
theorem F3_step {k a r : Nat} (h1 : r / 16 < 5) (h2 : r % 16 < 5) (h3 : a % 16 < 5) : F3 (k + 1) (256 * a + r) = 256 * F3 k a + (r / 16 + r % 16) := by
  unfold F3
  rw [show (256 * a + r) / 16 + (256 * a + r) = 256 * (a / 16 + a) + (16 * (a % 16) + r / 16 + (16 * (r / 16) + r % 16)) by omega, rep, land_step (by omega) (by omega), q3 _ h1 _ h2 _ h3]
/-- A byte's bits. -/
def pop8 (r : Nat) : Nat := sumTo (fun j => (r.testBit j).toNat) 8
theorem g_byte : ∀ r < 256, g1 r < 256 ∧ g2 (g1 r) < 256 ∧ g2 (g1 r) / 16 < 5 ∧ g2 (g1 r) % 16 < 5 ∧ g2 (g1 r) / 16 + g2 (g1 r) % 16 = pop8 r ∧ pop8 r ≤ 8 := by decide +kernel

theorem F_step {k a r : Nat} (hr : r < 256) (h : F2 k (F1 k a) % 16 < 5) : F3 (k + 1) (F2 (k + 1) (F1 (k + 1) (256 * a + r))) = 256 * F3 k (F2 k (F1 k a)) + pop8 r ∧ F2 (k + 1) (F1 (k + 1) (256 * a + r)) % 16 < 5 ∧ F1 (k + 1) (256 * a + r) = 256 * F1 k a + g1 r ∧ F2 (k + 1) (F1 (k + 1) (256 * a + r)) = 256 * F2 k (F1 k a) + g2 (g1 r) := by
  obtain ⟨b1, b2, b3, b4, b5, _⟩ := g_byte r hr
  rw [F1_step hr, F2_step b1, F3_step b3 b4 h, b5]
  exact ⟨rfl, by omega, rfl, rfl⟩

theorem testBit_byte (a r j : Nat) (hr : r < 256) (hj : j < 8) : (256 * a + r).testBit j = r.testBit j := by
  have := Nat.testBit_two_pow_mul_add (i := 8) a (b := r) (by omega) j
  rw [show (2 : Nat) ^ 8 = 256 from rfl] at this
  rw [this, if_pos hj]
theorem testBit_up (a r j : Nat) (hr : r < 256) : (256 * a + r).testBit (8 + j) = a.testBit j := by
  have := Nat.testBit_two_pow_mul_add (i := 8) a (b := r) (by omega) (8 + j)
  rw [show (2 : Nat) ^ 8 = 256 from rfl] at this
  rw [this, if_neg (by omega)]; congr 1; omega
def popNat (x n : Nat) : Nat := sumTo (fun j => (x.testBit j).toNat) n
theorem sumTo_split (g : Nat → Nat) (m n : Nat) : sumTo g (m + n) = sumTo g m + sumTo (fun j => g (m + j)) n := by
  induction n with
  | zero => rfl
  | succ n ih => rw [← Nat.add_assoc, sumTo, ih, sumTo]; omega
theorem popNat_step (a r n : Nat) (hr : r < 256) : popNat (256 * a + r) (8 + n) = popNat a n + pop8 r := by
  unfold popNat pop8
  rw [sumTo_split, sumTo_congr (fun j hj => by rw [testBit_byte a r j hr hj]), sumTo_congr (n := n) (fun j _ => by rw [testBit_up a r j hr])]
  omega

/-- Bytes' bits, side by side. -/
theorem swar_bytes (r0 r1 r2 r3 r4 r5 r6 r7 : Nat) (h0 : r0 < 256) (h1 : r1 < 256) (h2 : r2 < 256) (h3 : r3 < 256) (h4 : r4 < 256) (h5 : r5 < 256) (h6 : r6 < 256) (h7 : r7 < 256) (x : Nat)
    (hx : x = 256 * (256 * (256 * (256 * (256 * (256 * (256 * (256 * 0 + r7) + r6) + r5) + r4) + r3) + r2) + r1) + r0) :
    ∃ p0 p1 p2 p3 p4 p5 p6 p7, p0 ≤ 8 ∧ p1 ≤ 8 ∧ p2 ≤ 8 ∧ p3 ≤ 8 ∧ p4 ≤ 8 ∧ p5 ≤ 8 ∧ p6 ≤ 8 ∧ p7 ≤ 8 ∧ popNat x 64 = p0 + p1 + p2 + p3 + p4 + p5 + p6 + p7 ∧
      F1 8 x < 2 ^ 64 ∧ F2 8 (F1 8 x) < 2 ^ 63 ∧ F3 8 (F2 8 (F1 8 x)) = 256 * (256 * (256 * (256 * (256 * (256 * (256 * p7 + p6) + p5) + p4) + p3) + p2) + p1) + p0 := by
  obtain ⟨e7, a7, c7, d7⟩ := F_step (k := 0) (a := 0) h7 (by decide)
  obtain ⟨e6, a6, c6, d6⟩ := F_step (k := 1) h6 a7
  obtain ⟨e5, a5, c5, d5⟩ := F_step (k := 2) h5 a6
  obtain ⟨e4, a4, c4, d4⟩ := F_step (k := 3) h4 a5
  obtain ⟨e3, a3, c3, d3⟩ := F_step (k := 4) h3 a4
  obtain ⟨e2, a2, c2, d2⟩ := F_step (k := 5) h2 a3
  obtain ⟨e1, a1, c1, d1⟩ := F_step (k := 6) h1 a2
  obtain ⟨e0, a0, c0, d0⟩ := F_step (k := 7) h0 a1
  have z1 : F1 0 0 = 0 := rfl
  have z2 : F2 0 0 = 0 := rfl
  have z3 : F3 0 0 = 0 := rfl
  rw [z1, z2, z3] at e7
  rw [z1] at c7
  rw [z1, z2] at d7
  have p0 : popNat (256 * (256 * (256 * (256 * (256 * (256 * (256 * (256 * 0 + r7) + r6) + r5) + r4) + r3) + r2) + r1) + r0) 64 = _ := popNat_step _ r0 56 h0
  have p1 : popNat (256 * (256 * (256 * (256 * (256 * (256 * (256 * 0 + r7) + r6) + r5) + r4) + r3) + r2) + r1) 56 = _ := popNat_step _ r1 48 h1
  have p2 : popNat (256 * (256 * (256 * (256 * (256 * (256 * 0 + r7) + r6) + r5) + r4) + r3) + r2) 48 = _ := popNat_step _ r2 40 h2
  have p3 : popNat (256 * (256 * (256 * (256 * (256 * 0 + r7) + r6) + r5) + r4) + r3) 40 = _ := popNat_step _ r3 32 h3
  have p4 : popNat (256 * (256 * (256 * (256 * 0 + r7) + r6) + r5) + r4) 32 = _ := popNat_step _ r4 24 h4
  have p5 : popNat (256 * (256 * (256 * 0 + r7) + r6) + r5) 24 = _ := popNat_step _ r5 16 h5
  have p6 : popNat (256 * (256 * 0 + r7) + r6) 16 = _ := popNat_step _ r6 8 h6
  have p7 : popNat (256 * 0 + r7) 8 = _ := popNat_step 0 r7 0 h7
  have p8 : popNat 0 0 = 0 := rfl
  have hp : popNat x 64 = pop8 r0 + pop8 r1 + pop8 r2 + pop8 r3 + pop8 r4 + pop8 r5 + pop8 r6 + pop8 r7 := by
    rw [hx, p0, p1, p2, p3, p4, p5, p6, p7, p8]
    clear p0 p1 p2 p3 p4 p5 p6 p7 p8 e0 e1 e2 e3 e4 e5 e6 e7 a0 a1 a2 a3 a4 a5 a6 a7 c0 c1 c2 c3 c4 c5 c6 c7 d0 d1 d2 d3 d4 d5 d6 d7
    omega
  clear p0 p1 p2 p3 p4 p5 p6 p7 p8
  have g0 := g_byte r0 h0
  have g1' := g_byte r1 h1
  have g2' := g_byte r2 h2
  have g3' := g_byte r3 h3
  have g4' := g_byte r4 h4
  have g5' := g_byte r5 h5
  have g6' := g_byte r6 h6
  have g7' := g_byte r7 h7
  have hc : F1 8 x < 2 ^ 64 := by
    rw [hx, c0, c1, c2, c3, c4, c5, c6, c7]
    have := g0.1; have := g1'.1; have := g2'.1; have := g3'.1; have := g4'.1; have := g5'.1; have := g6'.1; have := g7'.1
    clear e0 e1 e2 e3 e4 e5 e6 e7 a0 a1 a2 a3 a4 a5 a6 a7 c0 c1 c2 c3 c4 c5 c6 c7 d0 d1 d2 d3 d4 d5 d6 d7 g0 g1' g2' g3' g4' g5' g6' g7' hp hx
    omega
  have hd : F2 8 (F1 8 x) < 2 ^ 63 := by
    rw [hx, d0, d1, d2, d3, d4, d5, d6, d7]
    have := g0.2.2.1; have := g1'.2.2.1; have := g2'.2.2.1; have := g3'.2.2.1; have := g4'.2.2.1; have := g5'.2.2.1; have := g6'.2.2.1; have := g7'.2.2.1
    clear e0 e1 e2 e3 e4 e5 e6 e7 a0 a1 a2 a3 a4 a5 a6 a7 c0 c1 c2 c3 c4 c5 c6 c7 d0 d1 d2 d3 d4 d5 d6 d7 g0 g1' g2' g3' g4' g5' g6' g7' hp hx hc
    omega
  refine ⟨pop8 r0, pop8 r1, pop8 r2, pop8 r3, pop8 r4, pop8 r5, pop8 r6, pop8 r7, g0.2.2.2.2.2, g1'.2.2.2.2.2, g2'.2.2.2.2.2, g3'.2.2.2.2.2, g4'.2.2.2.2.2, g5'.2.2.2.2.2, g6'.2.2.2.2.2, g7'.2.2.2.2.2, hp, hc, hd, ?_⟩
  rw [hx, e0, e1, e2, e3, e4, e5, e6, e7, Nat.mul_zero, Nat.zero_add]

theorem swar_sum {p0 p1 p2 p3 p4 p5 p6 p7 y : Nat} (h0 : p0 ≤ 8) (h1 : p1 ≤ 8) (h2 : p2 ≤ 8) (h3 : p3 ≤ 8) (h4 : p4 ≤ 8) (h5 : p5 ≤ 8) (h6 : p6 ≤ 8) (h7 : p7 ≤ 8)
    (hy : y = 256 * (256 * (256 * (256 * (256 * (256 * (256 * p7 + p6) + p5) + p4) + p3) + p2) + p1) + p0) :
    let z1 := y / 256 + y
    let z2 := z1 / 65536 + z1
    let z3 := z2 / 4294967296 + z2
    z1 < 2 ^ 64 ∧ z2 < 2 ^ 64 ∧ z3 < 2 ^ 64 ∧ z3 % 128 = p0 + p1 + p2 + p3 + p4 + p5 + p6 + p7 := by
  intro z1 z2 z3
  have e1 : y / 256 = 256 * (256 * (256 * (256 * (256 * (256 * p7 + p6) + p5) + p4) + p3) + p2) + p1 := by omega
  have f1 : z1 = 256 * (256 * (256 * (256 * (256 * (256 * (256 * p7 + (p7 + p6)) + (p6 + p5)) + (p5 + p4)) + (p4 + p3)) + (p3 + p2)) + (p2 + p1)) + (p1 + p0) := by
    show y / 256 + y = _
    rw [e1, hy]; clear e1 hy; omega
  clear_value z1
  have e2 : z1 / 65536 = 256 * (256 * (256 * (256 * (256 * p7 + (p7 + p6)) + (p6 + p5)) + (p5 + p4)) + (p4 + p3)) + (p3 + p2) := by clear e1 hy; omega
  have f2 : z2 = 4294967296 * (256 * (256 * (256 * p7 + (p7 + p6)) + (p7 + p6 + p5)) + (p7 + p6 + p5 + p4)) + (256 * (256 * (256 * (p6 + p5 + p4 + p3) + (p5 + p4 + p3 + p2)) + (p4 + p3 + p2 + p1)) + (p3 + p2 + p1 + p0)) := by
    show z1 / 65536 + z1 = _
    rw [e2, f1]; clear e1 hy e2 f1; omega
  clear_value z2
  have e3 : z2 / 4294967296 = 256 * (256 * (256 * p7 + (p7 + p6)) + (p7 + p6 + p5)) + (p7 + p6 + p5 + p4) := by clear e1 hy e2 f1; omega
  have f3 : z3 = z2 / 4294967296 + z2 := rfl
  clear_value z3
  refine ⟨by clear e1 hy e2 e3 f3 f2; omega, by clear e1 hy e2 f1 e3 f3; omega, by clear e1 hy e2 f1; omega, ?_⟩
  rw [f3, e3, f2]; clear e1 hy e2 f1 e3 f3 f2; omega
end Go.Proofs.Ytjmjolefhcjedaa.Vc

namespace Go.Proofs.Ytjmjolefhcjedaa.Vc
open Go Go.RowKit Go.Proofs.Try

structure Piece where
  core : Int
  ticks : BitVec 64
  deriving DecidableEq
structure Place where
  unit : Int
  share : Int
  core : Int
  pieces : List Piece
  deriving DecidableEq
structure Plan where
  frame : Int
  cores : BitVec 32
  places : List Place
  deriving DecidableEq
def Piece.tv (y : Piece) : TV := .a [tI y.core, tU y.ticks]
def Place.tv (x : Place) : TV := .a [tI x.unit, tI x.share, tI x.core, .s 2 (x.pieces.map Piece.tv)]
def Plan.tv (p : Plan) : TV := .a [tI p.frame, tW p.cores, .s 4 (p.places.map Place.tv)]
def Plan.light (p : Plan) : Prop := p.places.length ≤ 300 ∧ ∀ x ∈ p.places, x.pieces.length ≤ 20
def Plan.lite (p : Plan) : Prop := p.places.length ≤ 60 ∧ ∀ x ∈ p.places, x.pieces.length ≤ 20
theorem Plan.lite.light {p : Plan} (h : p.lite) : p.light := ⟨Nat.le_trans h.1 (by decide), h.2⟩

theorem mixed : prog.follows .mixedOrders = true := by kernel_rfl

def Place.split (x : Place) : Bool := !x.pieces.isEmpty
theorem Place.split_iff {x : Place} : x.split = true ↔ 0 < x.pieces.length := by cases x with | mk u s c l => cases l <;> simp [Place.split]
theorem s149 (x : Place) : Spec prog 149 [x.tv] [] (tB x.split) [] := by
  refine spec_s is149 mixed rfl (V_x ?_)
  repeat' (conv => whnf
           first | refine Frz.own ?_ | refine Get.mk _ rfl ?_ | refine Get.mk _ (map_geti (by omega)) ?_ | refine Get.mk _ (map_getp (by omega) (by omega)) ?_ | refine Get.mk _ (map_get (by omega)) ?_ | refine Bv2.mk _ _ rfl rfl ?_ | refine Bv1.mk _ rfl ?_ | refine Wr.mk _ (wrap_i64 (by omega) (by omega)) ?_ | refine Wr.mk _ rfl ?_ | refine And.intro len_map ?_ | refine And.intro (leX_refl _) ?_ | refine And.intro rfl ?_ | refine And.intro (leO_some _) ?_ | (refine And.intro (fun h => absurd h (by decide)) (fun h => ?_); clear h) | (refine And.intro (fun h => ?_) (fun h => absurd h (by decide)); clear h) | (with_reducible first | refine sp1 (fun h => ?_) (fun h => ?_) | refine sp2 (fun h => ?_) (fun h => ?_) | refine sp3 (fun h => ?_) (fun h => ?_) | refine sp4 (fun h => ?_) (fun h => ?_) | refine sp5 (fun h => ?_) (fun h => ?_) | refine sp6 (fun h => ?_) (fun h => ?_)) | with_reducible refine And.intro (fun h => ?_) (fun h => ?_) | refine And.intro (Int.natCast_nonneg _) ?_ | refine And.intro (by omega) ?_ | refine And.intro (by decide) ?_ | refine Lst.mk _ rfl ?_ | refine And.intro trivial ?_ | exact trivial | exact leX_refl _ | refine weak_fr ?_ ?_ rfl | refine And.intro ?_ ?_ | fail)
  refine leB ?_
  rw [Bool.eq_iff_iff, Place.split_iff]; simp

def Plan.splits (p : Plan) : Nat := p.places.countP Place.split
theorem s121 (p : Plan) (hp : p.light) : Spec prog 121 [p.tv] [] (tI p.splits) [] := by
  obtain ⟨hp1, hp2⟩ := hp
  refine spec_s is121 mixed rfl (V_x ?_)
  repeat' (conv => whnf
           first | refine Frz.own ?_ | refine Get.mk _ rfl ?_ | refine Get.mk _ (map_geti (by omega)) ?_ | refine Get.mk _ (map_getp (by omega) (by omega)) ?_ | refine Get.mk _ (map_get (by omega)) ?_ | refine Bv2.mk _ _ rfl rfl ?_ | refine Bv1.mk _ rfl ?_ | refine Wr.mk _ (wrap_i64 (by omega) (by omega)) ?_ | refine Wr.mk _ rfl ?_ | refine And.intro len_map ?_ | refine And.intro (leX_refl _) ?_ | refine And.intro rfl ?_ | refine And.intro (leO_some _) ?_ | (refine And.intro (fun h => absurd h (by decide)) (fun h => ?_); clear h) | (refine And.intro (fun h => ?_) (fun h => absurd h (by decide)); clear h) | (with_reducible first | refine sp1 (fun h => ?_) (fun h => ?_) | refine sp2 (fun h => ?_) (fun h => ?_) | refine sp3 (fun h => ?_) (fun h => ?_) | refine sp4 (fun h => ?_) (fun h => ?_) | refine sp5 (fun h => ?_) (fun h => ?_) | refine sp6 (fun h => ?_) (fun h => ?_)) | with_reducible refine And.intro (fun h => ?_) (fun h => ?_) | refine And.intro (Int.natCast_nonneg _) ?_ | refine And.intro (by omega) ?_ | refine And.intro (by decide) ?_ | refine Lst.mk _ rfl ?_ | refine And.intro trivial ?_ | exact trivial | exact leX_refl _ | refine weak_fr ?_ ?_ rfl | refine And.intro ?_ ?_ | fail)
  refine V_up p.places.length (fun _ => True) (fun i => ([(1, .p 32 0 0), (3, tI ((p.places.take i).countP Place.split : Nat)), (7, .s 4 (p.places.map Place.tv)), (8, tI (p.places.length : Nat)), (9, tI (i : Nat))], [(32, .var 25 p.tv)])) trivial
    ?_ ?_
  · repeat' (conv => whnf
             first | refine Frz.own ?_ | refine Get.mk _ rfl ?_ | refine Get.mk _ (map_geti (by omega)) ?_ | refine Get.mk _ (map_getp (by omega) (by omega)) ?_ | refine Get.mk _ (map_get (by omega)) ?_ | refine Bv2.mk _ _ rfl rfl ?_ | refine Bv1.mk _ rfl ?_ | refine Wr.mk _ (wrap_i64 (by omega) (by omega)) ?_ | refine Wr.mk _ rfl ?_ | refine And.intro len_map ?_ | refine And.intro (leX_refl _) ?_ | refine And.intro rfl ?_ | refine And.intro (leO_some _) ?_ | (refine And.intro (fun h => absurd h (by decide)) (fun h => ?_); clear h) | (refine And.intro (fun h => ?_) (fun h => absurd h (by decide)); clear h) | (with_reducible first | refine sp1 (fun h => ?_) (fun h => ?_) | refine sp2 (fun h => ?_) (fun h => ?_) | refine sp3 (fun h => ?_) (fun h => ?_) | refine sp4 (fun h => ?_) (fun h => ?_) | refine sp5 (fun h => ?_) (fun h => ?_) | refine sp6 (fun h => ?_) (fun h => ?_)) | with_reducible refine And.intro (fun h => ?_) (fun h => ?_) | refine And.intro (Int.natCast_nonneg _) ?_ | refine And.intro (by omega) ?_ | refine And.intro (by decide) ?_ | refine Lst.mk _ rfl ?_ | refine And.intro trivial ?_ | exact trivial | exact leX_refl _ | refine weak_fr ?_ ?_ rfl | refine And.intro ?_ ?_ | fail)
  rintro i hi -
  have hc := countP_take_le (l := p.places) (f := Place.split) (i := i)
  refine V_x ?_
  repeat' (conv => whnf
           first | refine Frz.own ?_ | refine Get.mk _ rfl ?_ | refine Get.mk _ (map_geti (by omega)) ?_ | refine Get.mk _ (map_getp (by omega) (by omega)) ?_ | refine Get.mk _ (map_get (by omega)) ?_ | refine Bv2.mk _ _ rfl rfl ?_ | refine Bv1.mk _ rfl ?_ | refine Wr.mk _ (wrap_i64 (by omega) (by omega)) ?_ | refine Wr.mk _ rfl ?_ | refine And.intro len_map ?_ | refine And.intro (leX_refl _) ?_ | refine And.intro rfl ?_ | refine And.intro (leO_some _) ?_ | (refine And.intro (fun h => absurd h (by decide)) (fun h => ?_); clear h) | (refine And.intro (fun h => ?_) (fun h => absurd h (by decide)); clear h) | (with_reducible first | refine sp1 (fun h => ?_) (fun h => ?_) | refine sp2 (fun h => ?_) (fun h => ?_) | refine sp3 (fun h => ?_) (fun h => ?_) | refine sp4 (fun h => ?_) (fun h => ?_) | refine sp5 (fun h => ?_) (fun h => ?_) | refine sp6 (fun h => ?_) (fun h => ?_)) | with_reducible refine And.intro (fun h => ?_) (fun h => ?_) | refine And.intro (Int.natCast_nonneg _) ?_ | refine And.intro (by omega) ?_ | refine And.intro (by decide) ?_ | refine Lst.mk _ rfl ?_ | refine Or.inr (Or.inl ⟨_, _, s149 _, leL_refl _, rfl, rfl, ?_⟩) | refine And.intro trivial ?_ | exact trivial | exact leX_refl _ | refine weak_fr ?_ ?_ rfl | refine And.intro ?_ ?_ | fail)
  · refine leI ?_
    rw [countP_take (by omega)]; simp_all
  · refine leI ?_
    rw [countP_take (by omega)]; simp_all
  · refine leI ?_
    rw [List.take_of_length_le (by omega)]; rfl

theorem s82 (m : BitVec 64) (t : Int) : Spec prog 82 [tU m, tI t] [] (tB (hasT m t)) [] := by
  refine spec_s is82 mixed rfl (V_x ?_)
  repeat' (conv => whnf
           first | refine Frz.own ?_ | refine Get.mk _ rfl ?_ | refine Get.mk _ (map_geti (by omega)) ?_ | refine Get.mk _ (map_getp (by omega) (by omega)) ?_ | refine Get.mk _ (map_get (by omega)) ?_ | refine Bv2.mk _ _ rfl rfl ?_ | refine Bv1.mk _ rfl ?_ | refine Wr.mk _ (wrap_i64 (by omega) (by omega)) ?_ | refine Wr.mk _ rfl ?_ | refine And.intro len_map ?_ | refine And.intro (leX_refl _) ?_ | refine And.intro rfl ?_ | refine And.intro (leO_some _) ?_ | (refine And.intro (fun h => absurd h (by decide)) (fun h => ?_); clear h) | (refine And.intro (fun h => ?_) (fun h => absurd h (by decide)); clear h) | (with_reducible first | refine sp1 (fun h => ?_) (fun h => ?_) | refine sp2 (fun h => ?_) (fun h => ?_) | refine sp3 (fun h => ?_) (fun h => ?_) | refine sp4 (fun h => ?_) (fun h => ?_) | refine sp5 (fun h => ?_) (fun h => ?_) | refine sp6 (fun h => ?_) (fun h => ?_)) | with_reducible refine And.intro (fun h => ?_) (fun h => ?_) | refine And.intro (Int.natCast_nonneg _) ?_ | refine And.intro (by omega) ?_ | refine And.intro (by decide) ?_ | refine Lst.mk _ rfl ?_ | refine And.intro trivial ?_ | exact trivial | exact leX_refl _ | refine weak_fr ?_ ?_ rfl | refine And.intro ?_ ?_ | fail)
  · refine leB ?_
    simp [hasT, BitVec.getLsbD_of_ge m t.toNat (by omega)]
  · refine leB ?_
    have h1 : (BitVec.ofInt 64 t).toNat = t.toNat := by
      rw [BitVec.toNat_ofInt, Int.emod_eq_of_lt (by omega) (by show t < 18446744073709551616; omega)]
    have h2 : (Int.ofNat (BitVec.ofInt 64 t).toNat).toNat = t.toNat := h1
    rw [h2, Bool.eq_iff_iff, decide_eq_true_eq, bit_rem]
    simp [hasT]; omega
  · exact leB (by simp [hasT]; omega)

def Plan.has (p : Plan) (core : Int) : Bool := decide (core ≤ 15) && hasT (p.cores.setWidth 64) core
theorem s40 (p : Plan) (core : Int) : Spec prog 40 [p.tv, tI core] [] (tB (p.has core)) [] := by
  refine spec_s is40 mixed rfl (V_x ?_)
  repeat' (conv => whnf
           first | refine Frz.own ?_ | refine Get.mk _ rfl ?_ | refine Get.mk _ (map_geti (by omega)) ?_ | refine Get.mk _ (map_getp (by omega) (by omega)) ?_ | refine Get.mk _ (map_get (by omega)) ?_ | refine Bv2.mk _ _ rfl rfl ?_ | refine Bv1.mk _ rfl ?_ | refine Wr.mk _ (wrap_i64 (by omega) (by omega)) ?_ | refine Wr.mk _ rfl ?_ | refine And.intro len_map ?_ | refine And.intro (leX_refl _) ?_ | refine And.intro rfl ?_ | refine And.intro (leO_some _) ?_ | (refine And.intro (fun h => absurd h (by decide)) (fun h => ?_); clear h) | (refine And.intro (fun h => ?_) (fun h => absurd h (by decide)); clear h) | (with_reducible first | refine sp1 (fun h => ?_) (fun h => ?_) | refine sp2 (fun h => ?_) (fun h => ?_) | refine sp3 (fun h => ?_) (fun h => ?_) | refine sp4 (fun h => ?_) (fun h => ?_) | refine sp5 (fun h => ?_) (fun h => ?_) | refine sp6 (fun h => ?_) (fun h => ?_)) | with_reducible refine And.intro (fun h => ?_) (fun h => ?_) | refine And.intro (Int.natCast_nonneg _) ?_ | refine And.intro (by omega) ?_ | refine And.intro (by decide) ?_ | refine Lst.mk _ rfl ?_ | refine Or.inr (Or.inl ⟨_, _, s82 _ _, leL_refl _, rfl, rfl, ?_⟩) | refine And.intro trivial ?_ | exact trivial | exact leX_refl _ | refine weak_fr ?_ ?_ rfl | refine And.intro ?_ ?_ | fail)
  all_goals refine leB ?_
  · simp_all [Plan.has, hasT]
  · simp [Plan.has, hasT]; omega
  · simp [Plan.has, hasT]; omega
theorem s108 (p : Plan) (core : Int) : Spec prog 108 [p.tv, tI core] [] (tB (p.has core)) [] := by
  refine spec_s is108 mixed rfl (V_x ?_)
  repeat' (conv => whnf
           first | refine Frz.own ?_ | refine Get.mk _ rfl ?_ | refine Get.mk _ (map_geti (by omega)) ?_ | refine Get.mk _ (map_getp (by omega) (by omega)) ?_ | refine Get.mk _ (map_get (by omega)) ?_ | refine Bv2.mk _ _ rfl rfl ?_ | refine Bv1.mk _ rfl ?_ | refine Wr.mk _ (wrap_i64 (by omega) (by omega)) ?_ | refine Wr.mk _ rfl ?_ | refine And.intro len_map ?_ | refine And.intro (leX_refl _) ?_ | refine And.intro rfl ?_ | refine And.intro (leO_some _) ?_ | (refine And.intro (fun h => absurd h (by decide)) (fun h => ?_); clear h) | (refine And.intro (fun h => ?_) (fun h => absurd h (by decide)); clear h) | (with_reducible first | refine sp1 (fun h => ?_) (fun h => ?_) | refine sp2 (fun h => ?_) (fun h => ?_) | refine sp3 (fun h => ?_) (fun h => ?_) | refine sp4 (fun h => ?_) (fun h => ?_) | refine sp5 (fun h => ?_) (fun h => ?_) | refine sp6 (fun h => ?_) (fun h => ?_)) | with_reducible refine And.intro (fun h => ?_) (fun h => ?_) | refine And.intro (Int.natCast_nonneg _) ?_ | refine And.intro (by omega) ?_ | refine And.intro (by decide) ?_ | refine Lst.mk _ rfl ?_ | refine And.intro trivial ?_ | exact trivial | exact leX_refl _ | refine weak_fr ?_ ?_ rfl | refine And.intro ?_ ?_ | fail)
  · refine leB ?_
    rw [Bool.eq_iff_iff, decide_eq_true_eq]
    refine (bit_and p.cores core.toNat (by decide)).trans ?_
    have h1 : core.toNat < 64 := by omega
    have h2 : core ≤ 15 := by omega
    simp [Plan.has, hasT, *]
  · exact leB (by simp [Plan.has, hasT]; omega)
  · exact leB (by simp [Plan.has, hasT]; omega)
def isUnit (u : Int) : Bool := decide (1 ≤ u ∧ u ≤ 200 ∨ 1001 ≤ u ∧ u ≤ 1040)
theorem s99 (u : Int) : Spec prog 99 [tI u] [] (tB (isUnit u)) [] := by
  refine spec_s is99 mixed rfl (V_x ?_)
  repeat' (conv => whnf
           first | refine Frz.own ?_ | refine Get.mk _ rfl ?_ | refine Get.mk _ (map_geti (by omega)) ?_ | refine Get.mk _ (map_getp (by omega) (by omega)) ?_ | refine Get.mk _ (map_get (by omega)) ?_ | refine Bv2.mk _ _ rfl rfl ?_ | refine Bv1.mk _ rfl ?_ | refine Wr.mk _ (wrap_i64 (by omega) (by omega)) ?_ | refine Wr.mk _ rfl ?_ | refine And.intro len_map ?_ | refine And.intro (leX_refl _) ?_ | refine And.intro rfl ?_ | refine And.intro (leO_some _) ?_ | (refine And.intro (fun h => absurd h (by decide)) (fun h => ?_); clear h) | (refine And.intro (fun h => ?_) (fun h => absurd h (by decide)); clear h) | (with_reducible first | refine sp1 (fun h => ?_) (fun h => ?_) | refine sp2 (fun h => ?_) (fun h => ?_) | refine sp3 (fun h => ?_) (fun h => ?_) | refine sp4 (fun h => ?_) (fun h => ?_) | refine sp5 (fun h => ?_) (fun h => ?_) | refine sp6 (fun h => ?_) (fun h => ?_)) | with_reducible refine And.intro (fun h => ?_) (fun h => ?_) | refine And.intro (Int.natCast_nonneg _) ?_ | refine And.intro (by omega) ?_ | refine And.intro (by decide) ?_ | refine Lst.mk _ rfl ?_ | refine And.intro trivial ?_ | exact trivial | exact leX_refl _ | refine weak_fr ?_ ?_ rfl | refine And.intro ?_ ?_ | fail)
  all_goals refine leB ?_
  all_goals rw [Bool.eq_iff_iff]
  all_goals simp [isUnit]
  all_goals omega
/-- What a unit is: its number, whether it is a group, whether it is one. -/
def kindOf (u : Int) : Int × Bool × Bool := if 1 ≤ u ∧ u ≤ 200 then (u, false, true) else if 1000 < u ∧ u ≤ 1040 then (u - 1000, true, true) else (0, false, false)
theorem s123 (u : Int) : Spec prog 123 [tI u] [] (.t [tI (kindOf u).1, tB (kindOf u).2.1, tB (kindOf u).2.2]) [] := by
  refine spec_s is123 mixed rfl (V_x ?_)
  repeat' (conv => whnf
           first | refine Frz.own ?_ | refine Get.mk _ rfl ?_ | refine Get.mk _ (map_geti (by omega)) ?_ | refine Get.mk _ (map_getp (by omega) (by omega)) ?_ | refine Get.mk _ (map_get (by omega)) ?_ | refine Bv2.mk _ _ rfl rfl ?_ | refine Bv1.mk _ rfl ?_ | refine Wr.mk _ (wrap_i64 (by omega) (by omega)) ?_ | refine Wr.mk _ rfl ?_ | refine And.intro len_map ?_ | refine And.intro (leX_refl _) ?_ | refine And.intro rfl ?_ | refine And.intro (leO_some _) ?_ | (refine And.intro (fun h => absurd h (by decide)) (fun h => ?_); clear h) | (refine And.intro (fun h => ?_) (fun h => absurd h (by decide)); clear h) | (with_reducible first | refine sp1 (fun h => ?_) (fun h => ?_) | refine sp2 (fun h => ?_) (fun h => ?_) | refine sp3 (fun h => ?_) (fun h => ?_) | refine sp4 (fun h => ?_) (fun h => ?_) | refine sp5 (fun h => ?_) (fun h => ?_) | refine sp6 (fun h => ?_) (fun h => ?_)) | with_reducible refine And.intro (fun h => ?_) (fun h => ?_) | refine And.intro (Int.natCast_nonneg _) ?_ | refine And.intro (by omega) ?_ | refine And.intro (by decide) ?_ | refine Lst.mk _ rfl ?_ | refine And.intro trivial ?_ | exact trivial | exact leX_refl _ | refine weak_fr ?_ ?_ rfl | refine And.intro ?_ ?_ | fail)
  all_goals first | refine leI ?_ | refine leB ?_
  all_goals
    unfold kindOf
    repeat' split
    all_goals first | rfl | omega
def frameOf (f : Int) : Int := min (max f 0) 64
theorem s139 (f : Int) : Spec prog 139 [tI f] [] (tI (frameOf f)) [] := by
  refine spec_s is139 mixed rfl (V_x ?_)
  repeat' (conv => whnf
           first | refine Frz.own ?_ | refine Get.mk _ rfl ?_ | refine Get.mk _ (map_geti (by omega)) ?_ | refine Get.mk _ (map_getp (by omega) (by omega)) ?_ | refine Get.mk _ (map_get (by omega)) ?_ | refine Bv2.mk _ _ rfl rfl ?_ | refine Bv1.mk _ rfl ?_ | refine Wr.mk _ (wrap_i64 (by omega) (by omega)) ?_ | refine Wr.mk _ rfl ?_ | refine And.intro len_map ?_ | refine And.intro (leX_refl _) ?_ | refine And.intro rfl ?_ | refine And.intro (leO_some _) ?_ | (refine And.intro (fun h => absurd h (by decide)) (fun h => ?_); clear h) | (refine And.intro (fun h => ?_) (fun h => absurd h (by decide)); clear h) | (with_reducible first | refine sp1 (fun h => ?_) (fun h => ?_) | refine sp2 (fun h => ?_) (fun h => ?_) | refine sp3 (fun h => ?_) (fun h => ?_) | refine sp4 (fun h => ?_) (fun h => ?_) | refine sp5 (fun h => ?_) (fun h => ?_) | refine sp6 (fun h => ?_) (fun h => ?_)) | with_reducible refine And.intro (fun h => ?_) (fun h => ?_) | refine And.intro (Int.natCast_nonneg _) ?_ | refine And.intro (by omega) ?_ | refine And.intro (by decide) ?_ | refine Lst.mk _ rfl ?_ | refine And.intro trivial ?_ | exact trivial | exact leX_refl _ | refine weak_fr ?_ ?_ rfl | refine And.intro ?_ ?_ | fail)
  exact leI rfl
theorem s156 (a : Int) : Spec prog 156 [tI a] [] (tB false) [] := by
  refine spec_s is156 mixed rfl (V_x ?_)
  repeat' (conv => whnf
           first | refine Frz.own ?_ | refine Get.mk _ rfl ?_ | refine Get.mk _ (map_geti (by omega)) ?_ | refine Get.mk _ (map_getp (by omega) (by omega)) ?_ | refine Get.mk _ (map_get (by omega)) ?_ | refine Bv2.mk _ _ rfl rfl ?_ | refine Bv1.mk _ rfl ?_ | refine Wr.mk _ (wrap_i64 (by omega) (by omega)) ?_ | refine Wr.mk _ rfl ?_ | refine And.intro len_map ?_ | refine And.intro (leX_refl _) ?_ | refine And.intro rfl ?_ | refine And.intro (leO_some _) ?_ | (refine And.intro (fun h => absurd h (by decide)) (fun h => ?_); clear h) | (refine And.intro (fun h => ?_) (fun h => absurd h (by decide)); clear h) | (with_reducible first | refine sp1 (fun h => ?_) (fun h => ?_) | refine sp2 (fun h => ?_) (fun h => ?_) | refine sp3 (fun h => ?_) (fun h => ?_) | refine sp4 (fun h => ?_) (fun h => ?_) | refine sp5 (fun h => ?_) (fun h => ?_) | refine sp6 (fun h => ?_) (fun h => ?_)) | with_reducible refine And.intro (fun h => ?_) (fun h => ?_) | refine And.intro (Int.natCast_nonneg _) ?_ | refine And.intro (by omega) ?_ | refine And.intro (by decide) ?_ | refine Lst.mk _ rfl ?_ | refine And.intro trivial ?_ | exact trivial | exact leX_refl _ | refine weak_fr ?_ ?_ rfl | refine And.intro ?_ ?_ | fail)
  exact leB (by simp)
def cmpI (a b : Int) : Int := if a < b then -1 else if b < a then 1 else 0
theorem s132 (a b : Int) : Spec prog 132 [tI a, tI b] [] (tI (cmpI a b)) [] := by
  refine spec_s is132 mixed rfl (V_x ?_)
  repeat' (conv => whnf
           first | refine Frz.own ?_ | refine Get.mk _ rfl ?_ | refine Get.mk _ (map_geti (by omega)) ?_ | refine Get.mk _ (map_getp (by omega) (by omega)) ?_ | refine Get.mk _ (map_get (by omega)) ?_ | refine Bv2.mk _ _ rfl rfl ?_ | refine Bv1.mk _ rfl ?_ | refine Wr.mk _ (wrap_i64 (by omega) (by omega)) ?_ | refine Wr.mk _ rfl ?_ | refine And.intro len_map ?_ | refine And.intro (leX_refl _) ?_ | refine And.intro rfl ?_ | refine And.intro (leO_some _) ?_ | (refine And.intro (fun h => absurd h (by decide)) (fun h => ?_); clear h) | (refine And.intro (fun h => ?_) (fun h => absurd h (by decide)); clear h) | (with_reducible first | refine sp1 (fun h => ?_) (fun h => ?_) | refine sp2 (fun h => ?_) (fun h => ?_) | refine sp3 (fun h => ?_) (fun h => ?_) | refine sp4 (fun h => ?_) (fun h => ?_) | refine sp5 (fun h => ?_) (fun h => ?_) | refine sp6 (fun h => ?_) (fun h => ?_)) | with_reducible refine And.intro (fun h => ?_) (fun h => ?_) | refine And.intro (Int.natCast_nonneg _) ?_ | refine And.intro (by omega) ?_ | refine And.intro (by decide) ?_ | refine Lst.mk _ rfl ?_ | refine Or.inr (Or.inl ⟨_, _, s156 _, leL_refl _, rfl, rfl, ?_⟩) | refine And.intro trivial ?_ | exact trivial | exact leX_refl _ | refine weak_fr ?_ ?_ rfl | refine And.intro ?_ ?_ | fail)
  all_goals refine leI ?_
  all_goals simp [cmpI, *]
theorem s146 (x : Place) (u : Int) : Spec prog 146 [x.tv, tI u] [] (tI (cmpI x.unit u)) [] := by
  refine spec_s is146 mixed rfl (V_x ?_)
  repeat' (conv => whnf
           first | refine Frz.own ?_ | refine Get.mk _ rfl ?_ | refine Get.mk _ (map_geti (by omega)) ?_ | refine Get.mk _ (map_getp (by omega) (by omega)) ?_ | refine Get.mk _ (map_get (by omega)) ?_ | refine Bv2.mk _ _ rfl rfl ?_ | refine Bv1.mk _ rfl ?_ | refine Wr.mk _ (wrap_i64 (by omega) (by omega)) ?_ | refine Wr.mk _ rfl ?_ | refine And.intro len_map ?_ | refine And.intro (leX_refl _) ?_ | refine And.intro rfl ?_ | refine And.intro (leO_some _) ?_ | (refine And.intro (fun h => absurd h (by decide)) (fun h => ?_); clear h) | (refine And.intro (fun h => ?_) (fun h => absurd h (by decide)); clear h) | (with_reducible first | refine sp1 (fun h => ?_) (fun h => ?_) | refine sp2 (fun h => ?_) (fun h => ?_) | refine sp3 (fun h => ?_) (fun h => ?_) | refine sp4 (fun h => ?_) (fun h => ?_) | refine sp5 (fun h => ?_) (fun h => ?_) | refine sp6 (fun h => ?_) (fun h => ?_)) | with_reducible refine And.intro (fun h => ?_) (fun h => ?_) | refine And.intro (Int.natCast_nonneg _) ?_ | refine And.intro (by omega) ?_ | refine And.intro (by decide) ?_ | refine Lst.mk _ rfl ?_ | refine Or.inr (Or.inl ⟨_, _, s132 _ _, leL_refl _, rfl, rfl, ?_⟩) | refine And.intro trivial ?_ | exact trivial | exact leX_refl _ | refine weak_fr ?_ ?_ rfl | refine And.intro ?_ ?_ | fail)
  exact leI rfl
theorem s160 (f k : Int) (hf : 0 < f) (hf' : f ≤ 64) (hk : 0 ≤ k) : Spec prog 160 [tI f, tI k] [] (tI (k % f)) [] := by
  refine spec_s is160 mixed rfl (V_x ?_)
  have h1 : k.tmod f = k % f := Int.tmod_eq_emod_of_nonneg hk
  have h2 := Int.emod_nonneg k (show f ≠ 0 by omega)
  have h3 := Int.emod_lt_of_pos k hf
  repeat' (conv => whnf
           first | refine Frz.own ?_ | refine Get.mk _ rfl ?_ | refine Get.mk _ (map_geti (by omega)) ?_ | refine Get.mk _ (map_getp (by omega) (by omega)) ?_ | refine Get.mk _ (map_get (by omega)) ?_ | refine Bv2.mk _ _ rfl rfl ?_ | refine Bv1.mk _ rfl ?_ | refine Wr.mk _ (wrap_i64 (by omega) (by omega)) ?_ | refine Wr.mk _ rfl ?_ | refine And.intro len_map ?_ | refine And.intro (leX_refl _) ?_ | refine And.intro rfl ?_ | refine And.intro (leO_some _) ?_ | (refine And.intro (fun h => absurd h (by decide)) (fun h => ?_); clear h) | (refine And.intro (fun h => ?_) (fun h => absurd h (by decide)); clear h) | (with_reducible first | refine sp1 (fun h => ?_) (fun h => ?_) | refine sp2 (fun h => ?_) (fun h => ?_) | refine sp3 (fun h => ?_) (fun h => ?_) | refine sp4 (fun h => ?_) (fun h => ?_) | refine sp5 (fun h => ?_) (fun h => ?_) | refine sp6 (fun h => ?_) (fun h => ?_)) | with_reducible refine And.intro (fun h => ?_) (fun h => ?_) | refine And.intro (Int.natCast_nonneg _) ?_ | refine And.intro (by omega) ?_ | refine And.intro (by decide) ?_ | refine Lst.mk _ rfl ?_ | refine And.intro trivial ?_ | exact trivial | exact leX_refl _ | refine weak_fr ?_ ?_ rfl | refine And.intro ?_ ?_ | fail)
  refine leI ?_
  rw [Int.tmod_eq_emod_of_nonneg (by rw [h1]; omega), h1, Int.add_emod_right, Int.emod_emod_of_dvd _ (Int.dvd_refl _)]
end Go.Proofs.Ytjmjolefhcjedaa.Vc

namespace Go.Proofs.Ytjmjolefhcjedaa.Vc
open Go Go.RowKit Go.Proofs.Try

def Plan.coresI (p : Plan) : List Int := ((List.range 16).map fun i : Nat => (i : Int)).filter p.has
theorem s73 (p : Plan) : Spec prog 73 [p.tv] [] (.s 1 (p.coresI.map fun c => tI c)) [] := by
  refine spec_s is73 mixed rfl (V_x ?_)
  repeat' (conv => whnf
           first | refine Frz.own ?_ | refine Get.mk _ rfl ?_ | refine Get.mk _ (map_geti (by omega)) ?_ | refine Get.mk _ (map_getp (by omega) (by omega)) ?_ | refine Get.mk _ (map_get (by omega)) ?_ | refine Bv2.mk _ _ rfl rfl ?_ | refine Bv1.mk _ rfl ?_ | refine Wr.mk _ (wrap_i64 (by omega) (by omega)) ?_ | refine Wr.mk _ rfl ?_ | refine And.intro len_map ?_ | refine And.intro (leX_refl _) ?_ | refine And.intro rfl ?_ | refine And.intro (leO_some _) ?_ | (refine And.intro (fun h => absurd h (by decide)) (fun h => ?_); clear h) | (refine And.intro (fun h => ?_) (fun h => absurd h (by decide)); clear h) | (with_reducible first | refine sp1 (fun h => ?_) (fun h => ?_) | refine sp2 (fun h => ?_) (fun h => ?_) | refine sp3 (fun h => ?_) (fun h => ?_) | refine sp4 (fun h => ?_) (fun h => ?_) | refine sp5 (fun h => ?_) (fun h => ?_) | refine sp6 (fun h => ?_) (fun h => ?_)) | with_reducible refine And.intro (fun h => ?_) (fun h => ?_) | refine And.intro (Int.natCast_nonneg _) ?_ | refine And.intro (by omega) ?_ | refine And.intro (by decide) ?_ | refine Lst.mk _ rfl ?_ | refine And.intro trivial ?_ | exact trivial | exact leX_refl _ | refine weak_fr ?_ ?_ rfl | refine And.intro ?_ ?_ | fail)
  refine V_up 16 (fun _ => True) (fun i => ([(1, .p 32 0 0), (3, .o 64), (5, tI (i : Nat))], [(32, .var 25 p.tv), (64, .row 3 1 ((((List.range i).map fun i : Nat => (i : Int)).filter p.has).map fun c => tI c))])) trivial ?_ ?_
  · refine Weak.trans (weak_ghost 3 64 3 1 rfl rfl rfl) ?_
    repeat' (conv => whnf
             first | refine Frz.own ?_ | refine Get.mk _ rfl ?_ | refine Get.mk _ (map_geti (by omega)) ?_ | refine Get.mk _ (map_getp (by omega) (by omega)) ?_ | refine Get.mk _ (map_get (by omega)) ?_ | refine Bv2.mk _ _ rfl rfl ?_ | refine Bv1.mk _ rfl ?_ | refine Wr.mk _ (wrap_i64 (by omega) (by omega)) ?_ | refine Wr.mk _ rfl ?_ | refine And.intro len_map ?_ | refine And.intro (leX_refl _) ?_ | refine And.intro rfl ?_ | refine And.intro (leO_some _) ?_ | (refine And.intro (fun h => absurd h (by decide)) (fun h => ?_); clear h) | (refine And.intro (fun h => ?_) (fun h => absurd h (by decide)); clear h) | (with_reducible first | refine sp1 (fun h => ?_) (fun h => ?_) | refine sp2 (fun h => ?_) (fun h => ?_) | refine sp3 (fun h => ?_) (fun h => ?_) | refine sp4 (fun h => ?_) (fun h => ?_) | refine sp5 (fun h => ?_) (fun h => ?_) | refine sp6 (fun h => ?_) (fun h => ?_)) | with_reducible refine And.intro (fun h => ?_) (fun h => ?_) | refine And.intro (Int.natCast_nonneg _) ?_ | refine And.intro (by omega) ?_ | refine And.intro (by decide) ?_ | refine Lst.mk _ rfl ?_ | refine And.intro trivial ?_ | exact trivial | exact leX_refl _ | refine weak_fr ?_ ?_ rfl | refine And.intro ?_ ?_ | fail)
  rintro i hi -
  refine V_x ?_
  repeat' (conv => whnf
           first | refine Frz.own ?_ | refine Get.mk _ rfl ?_ | refine Get.mk _ (map_geti (by omega)) ?_ | refine Get.mk _ (map_getp (by omega) (by omega)) ?_ | refine Get.mk _ (map_get (by omega)) ?_ | refine Bv2.mk _ _ rfl rfl ?_ | refine Bv1.mk _ rfl ?_ | refine Wr.mk _ (wrap_i64 (by omega) (by omega)) ?_ | refine Wr.mk _ rfl ?_ | refine And.intro len_map ?_ | refine And.intro (leX_refl _) ?_ | refine And.intro rfl ?_ | refine And.intro (leO_some _) ?_ | (refine And.intro (fun h => absurd h (by decide)) (fun h => ?_); clear h) | (refine And.intro (fun h => ?_) (fun h => absurd h (by decide)); clear h) | (with_reducible first | refine sp1 (fun h => ?_) (fun h => ?_) | refine sp2 (fun h => ?_) (fun h => ?_) | refine sp3 (fun h => ?_) (fun h => ?_) | refine sp4 (fun h => ?_) (fun h => ?_) | refine sp5 (fun h => ?_) (fun h => ?_) | refine sp6 (fun h => ?_) (fun h => ?_)) | with_reducible refine And.intro (fun h => ?_) (fun h => ?_) | refine And.intro (Int.natCast_nonneg _) ?_ | refine And.intro (by omega) ?_ | refine And.intro (by decide) ?_ | refine Lst.mk _ rfl ?_ | refine Or.inr (Or.inl ⟨_, _, s108 _ _, leL_refl _, rfl, rfl, ?_⟩) | refine And.intro trivial ?_ | exact trivial | exact leX_refl _ | refine weak_fr ?_ ?_ rfl | refine And.intro ?_ ?_ | fail)
  · have := filter_range_le (f := p.has) (i := i)
    simp only [List.length_map, List.length_cons, List.length_nil]; omega
  · refine rowO ?_
    rw [filter_range]; simp [*]
  · refine rowO ?_
    rw [filter_range]; simp [*]
  · have hi : i = 16 := by omega
    subst hi
    exact leS rfl
theorem s62 (p : Plan) : Spec prog 62 [p.tv] [] (.s 1 (p.coresI.map fun c => tI c)) [] := by
  refine spec_s is62 mixed rfl (V_x ?_)
  repeat' (conv => whnf
           first | refine Frz.own ?_ | refine Get.mk _ rfl ?_ | refine Get.mk _ (map_geti (by omega)) ?_ | refine Get.mk _ (map_getp (by omega) (by omega)) ?_ | refine Get.mk _ (map_get (by omega)) ?_ | refine Bv2.mk _ _ rfl rfl ?_ | refine Bv1.mk _ rfl ?_ | refine Wr.mk _ (wrap_i64 (by omega) (by omega)) ?_ | refine Wr.mk _ rfl ?_ | refine And.intro len_map ?_ | refine And.intro (leX_refl _) ?_ | refine And.intro rfl ?_ | refine And.intro (leO_some _) ?_ | (refine And.intro (fun h => absurd h (by decide)) (fun h => ?_); clear h) | (refine And.intro (fun h => ?_) (fun h => absurd h (by decide)); clear h) | (with_reducible first | refine sp1 (fun h => ?_) (fun h => ?_) | refine sp2 (fun h => ?_) (fun h => ?_) | refine sp3 (fun h => ?_) (fun h => ?_) | refine sp4 (fun h => ?_) (fun h => ?_) | refine sp5 (fun h => ?_) (fun h => ?_) | refine sp6 (fun h => ?_) (fun h => ?_)) | with_reducible refine And.intro (fun h => ?_) (fun h => ?_) | refine And.intro (Int.natCast_nonneg _) ?_ | refine And.intro (by omega) ?_ | refine And.intro (by decide) ?_ | refine Lst.mk _ rfl ?_ | refine And.intro trivial ?_ | exact trivial | exact leX_refl _ | refine weak_fr ?_ ?_ rfl | refine And.intro ?_ ?_ | fail)
  refine V_up 16 (fun _ => True) (fun i => ([(1, .p 32 0 0), (3, .o 96), (4, tI (i : Nat))], [(32, .var 25 p.tv), (96, .row 3 1 ((((List.range i).map fun i : Nat => (i : Int)).filter p.has).map fun c => tI c))])) trivial ?_ ?_
  · repeat' (conv => whnf
             first | refine Frz.own ?_ | refine Get.mk _ rfl ?_ | refine Get.mk _ (map_geti (by omega)) ?_ | refine Get.mk _ (map_getp (by omega) (by omega)) ?_ | refine Get.mk _ (map_get (by omega)) ?_ | refine Bv2.mk _ _ rfl rfl ?_ | refine Bv1.mk _ rfl ?_ | refine Wr.mk _ (wrap_i64 (by omega) (by omega)) ?_ | refine Wr.mk _ rfl ?_ | refine And.intro len_map ?_ | refine And.intro (leX_refl _) ?_ | refine And.intro rfl ?_ | refine And.intro (leO_some _) ?_ | (refine And.intro (fun h => absurd h (by decide)) (fun h => ?_); clear h) | (refine And.intro (fun h => ?_) (fun h => absurd h (by decide)); clear h) | (with_reducible first | refine sp1 (fun h => ?_) (fun h => ?_) | refine sp2 (fun h => ?_) (fun h => ?_) | refine sp3 (fun h => ?_) (fun h => ?_) | refine sp4 (fun h => ?_) (fun h => ?_) | refine sp5 (fun h => ?_) (fun h => ?_) | refine sp6 (fun h => ?_) (fun h => ?_)) | with_reducible refine And.intro (fun h => ?_) (fun h => ?_) | refine And.intro (Int.natCast_nonneg _) ?_ | refine And.intro (by omega) ?_ | refine And.intro (by decide) ?_ | refine Lst.mk _ rfl ?_ | refine And.intro trivial ?_ | exact trivial | exact leX_refl _ | refine weak_fr ?_ ?_ rfl | refine And.intro ?_ ?_ | fail)
  rintro i hi -
  refine V_x ?_
  repeat' (conv => whnf
           first | refine Frz.own ?_ | refine Get.mk _ rfl ?_ | refine Get.mk _ (map_geti (by omega)) ?_ | refine Get.mk _ (map_getp (by omega) (by omega)) ?_ | refine Get.mk _ (map_get (by omega)) ?_ | refine Bv2.mk _ _ rfl rfl ?_ | refine Bv1.mk _ rfl ?_ | refine Wr.mk _ (wrap_i64 (by omega) (by omega)) ?_ | refine Wr.mk _ rfl ?_ | refine And.intro len_map ?_ | refine And.intro (leX_refl _) ?_ | refine And.intro rfl ?_ | refine And.intro (leO_some _) ?_ | (refine And.intro (fun h => absurd h (by decide)) (fun h => ?_); clear h) | (refine And.intro (fun h => ?_) (fun h => absurd h (by decide)); clear h) | (with_reducible first | refine sp1 (fun h => ?_) (fun h => ?_) | refine sp2 (fun h => ?_) (fun h => ?_) | refine sp3 (fun h => ?_) (fun h => ?_) | refine sp4 (fun h => ?_) (fun h => ?_) | refine sp5 (fun h => ?_) (fun h => ?_) | refine sp6 (fun h => ?_) (fun h => ?_)) | with_reducible refine And.intro (fun h => ?_) (fun h => ?_) | refine And.intro (Int.natCast_nonneg _) ?_ | refine And.intro (by omega) ?_ | refine And.intro (by decide) ?_ | refine Lst.mk _ rfl ?_ | refine Or.inr (Or.inl ⟨_, _, s40 _ _, leL_refl _, rfl, rfl, ?_⟩) | refine And.intro trivial ?_ | exact trivial | exact leX_refl _ | refine weak_fr ?_ ?_ rfl | refine And.intro ?_ ?_ | fail)
  · have := filter_range_le (f := p.has) (i := i)
    simp only [List.length_map, List.length_cons, List.length_nil]; omega
  · refine rowO ?_
    rw [filter_range]; simp [*]
  · refine rowO ?_
    rw [filter_range]; simp [*]
  · have hi : i = 16 := by omega
    subst hi
    exact leS rfl
theorem s56 (p : Plan) (hp : p.light) : Spec prog 56 [p.tv] [] (tI p.splits) [] := by
  obtain ⟨hp1, hp2⟩ := hp
  refine spec_s is56 mixed rfl (V_x ?_)
  repeat' (conv => whnf
           first | refine Frz.own ?_ | refine Get.mk _ rfl ?_ | refine Get.mk _ (map_geti (by omega)) ?_ | refine Get.mk _ (map_getp (by omega) (by omega)) ?_ | refine Get.mk _ (map_get (by omega)) ?_ | refine Bv2.mk _ _ rfl rfl ?_ | refine Bv1.mk _ rfl ?_ | refine Wr.mk _ (wrap_i64 (by omega) (by omega)) ?_ | refine Wr.mk _ rfl ?_ | refine And.intro len_map ?_ | refine And.intro (leX_refl _) ?_ | refine And.intro rfl ?_ | refine And.intro (leO_some _) ?_ | (refine And.intro (fun h => absurd h (by decide)) (fun h => ?_); clear h) | (refine And.intro (fun h => ?_) (fun h => absurd h (by decide)); clear h) | (with_reducible first | refine sp1 (fun h => ?_) (fun h => ?_) | refine sp2 (fun h => ?_) (fun h => ?_) | refine sp3 (fun h => ?_) (fun h => ?_) | refine sp4 (fun h => ?_) (fun h => ?_) | refine sp5 (fun h => ?_) (fun h => ?_) | refine sp6 (fun h => ?_) (fun h => ?_)) | with_reducible refine And.intro (fun h => ?_) (fun h => ?_) | refine And.intro (Int.natCast_nonneg _) ?_ | refine And.intro (by omega) ?_ | refine And.intro (by decide) ?_ | refine Lst.mk _ rfl ?_ | refine And.intro trivial ?_ | exact trivial | exact leX_refl _ | refine weak_fr ?_ ?_ rfl | refine And.intro ?_ ?_ | fail)
  refine V_up p.places.length (fun _ => True) (fun i => ([(1, .p 32 0 0), (3, tI ((p.places.take i).countP Place.split : Nat)), (4, tI (i : Nat))], [(32, .var 25 p.tv)])) trivial ?_ ?_
  · repeat' (conv => whnf
             first | refine Frz.own ?_ | refine Get.mk _ rfl ?_ | refine Get.mk _ (map_geti (by omega)) ?_ | refine Get.mk _ (map_getp (by omega) (by omega)) ?_ | refine Get.mk _ (map_get (by omega)) ?_ | refine Bv2.mk _ _ rfl rfl ?_ | refine Bv1.mk _ rfl ?_ | refine Wr.mk _ (wrap_i64 (by omega) (by omega)) ?_ | refine Wr.mk _ rfl ?_ | refine And.intro len_map ?_ | refine And.intro (leX_refl _) ?_ | refine And.intro rfl ?_ | refine And.intro (leO_some _) ?_ | (refine And.intro (fun h => absurd h (by decide)) (fun h => ?_); clear h) | (refine And.intro (fun h => ?_) (fun h => absurd h (by decide)); clear h) | (with_reducible first | refine sp1 (fun h => ?_) (fun h => ?_) | refine sp2 (fun h => ?_) (fun h => ?_) | refine sp3 (fun h => ?_) (fun h => ?_) | refine sp4 (fun h => ?_) (fun h => ?_) | refine sp5 (fun h => ?_) (fun h => ?_) | refine sp6 (fun h => ?_) (fun h => ?_)) | with_reducible refine And.intro (fun h => ?_) (fun h => ?_) | refine And.intro (Int.natCast_nonneg _) ?_ | refine And.intro (by omega) ?_ | refine And.intro (by decide) ?_ | refine Lst.mk _ rfl ?_ | refine And.intro trivial ?_ | exact trivial | exact leX_refl _ | refine weak_fr ?_ ?_ rfl | refine And.intro ?_ ?_ | fail)
  rintro i hi -
  have hc := countP_take_le (l := p.places) (f := Place.split) (i := i)
  have hl : (p.places.map Place.tv).length = p.places.length := List.length_map _
  refine V_x ?_
  repeat' (conv => whnf
           first | refine Frz.own ?_ | refine Get.mk _ rfl ?_ | refine Get.mk _ (map_geti (by omega)) ?_ | refine Get.mk _ (map_getp (by omega) (by omega)) ?_ | refine Get.mk _ (map_get (by omega)) ?_ | refine Bv2.mk _ _ rfl rfl ?_ | refine Bv1.mk _ rfl ?_ | refine Wr.mk _ (wrap_i64 (by omega) (by omega)) ?_ | refine Wr.mk _ rfl ?_ | refine And.intro len_map ?_ | refine And.intro (leX_refl _) ?_ | refine And.intro rfl ?_ | refine And.intro (leO_some _) ?_ | (refine And.intro (fun h => absurd h (by decide)) (fun h => ?_); clear h) | (refine And.intro (fun h => ?_) (fun h => absurd h (by decide)); clear h) | (with_reducible first | refine sp1 (fun h => ?_) (fun h => ?_) | refine sp2 (fun h => ?_) (fun h => ?_) | refine sp3 (fun h => ?_) (fun h => ?_) | refine sp4 (fun h => ?_) (fun h => ?_) | refine sp5 (fun h => ?_) (fun h => ?_) | refine sp6 (fun h => ?_) (fun h => ?_)) | with_reducible refine And.intro (fun h => ?_) (fun h => ?_) | refine And.intro (Int.natCast_nonneg _) ?_ | refine And.intro (by omega) ?_ | refine And.intro (by decide) ?_ | refine Lst.mk _ rfl ?_ | refine And.intro trivial ?_ | exact trivial | exact leX_refl _ | refine weak_fr ?_ ?_ rfl | refine And.intro ?_ ?_ | fail)
  · refine leI ?_
    have := (Place.split_iff (x := p.places[i])).2 (by simpa using h)
    rw [countP_take (by omega)]; simp [this]
  · refine leI ?_
    have : ¬ p.places[i].split = true := fun h' => h (by simpa using Place.split_iff.1 h')
    rw [countP_take (by omega)]; simp [this]
  · refine leI ?_
    rw [List.take_of_length_le (by omega)]; rfl

/-- How many pieces of a place run at a tick. -/
def Place.at (x : Place) (core t : Int) : Nat := x.pieces.countP fun y => (decide (core < 0) || decide (y.core = core)) && hasT y.ticks t
theorem s107 (x : Place) (core t : Int) (hx : x.pieces.length ≤ 20) : Spec prog 107 [x.tv, tI core, tI t] [] (tI (x.at core t)) [] := by
  refine spec_s is107 mixed rfl (V_x ?_)
  repeat' (conv => whnf
           first | refine Frz.own ?_ | refine Get.mk _ rfl ?_ | refine Get.mk _ (map_geti (by omega)) ?_ | refine Get.mk _ (map_getp (by omega) (by omega)) ?_ | refine Get.mk _ (map_get (by omega)) ?_ | refine Bv2.mk _ _ rfl rfl ?_ | refine Bv1.mk _ rfl ?_ | refine Wr.mk _ (wrap_i64 (by omega) (by omega)) ?_ | refine Wr.mk _ rfl ?_ | refine And.intro len_map ?_ | refine And.intro (leX_refl _) ?_ | refine And.intro rfl ?_ | refine And.intro (leO_some _) ?_ | (refine And.intro (fun h => absurd h (by decide)) (fun h => ?_); clear h) | (refine And.intro (fun h => ?_) (fun h => absurd h (by decide)); clear h) | (with_reducible first | refine sp1 (fun h => ?_) (fun h => ?_) | refine sp2 (fun h => ?_) (fun h => ?_) | refine sp3 (fun h => ?_) (fun h => ?_) | refine sp4 (fun h => ?_) (fun h => ?_) | refine sp5 (fun h => ?_) (fun h => ?_) | refine sp6 (fun h => ?_) (fun h => ?_)) | with_reducible refine And.intro (fun h => ?_) (fun h => ?_) | refine And.intro (Int.natCast_nonneg _) ?_ | refine And.intro (by omega) ?_ | refine And.intro (by decide) ?_ | refine Lst.mk _ rfl ?_ | refine And.intro trivial ?_ | exact trivial | exact leX_refl _ | refine weak_fr ?_ ?_ rfl | refine And.intro ?_ ?_ | fail)
  refine V_up x.pieces.length (fun _ => True) (fun i => ([(1, tI core), (2, tI t), (3, .p 64 0 0), (7, tI ((x.pieces.take i).countP (fun y => (decide (core < 0) || decide (y.core = core)) && hasT y.ticks t) : Nat)), (8, tI (i : Nat))], [(64, .var 34 x.tv)])) trivial ?_ ?_
  · repeat' (conv => whnf
             first | refine Frz.own ?_ | refine Get.mk _ rfl ?_ | refine Get.mk _ (map_geti (by omega)) ?_ | refine Get.mk _ (map_getp (by omega) (by omega)) ?_ | refine Get.mk _ (map_get (by omega)) ?_ | refine Bv2.mk _ _ rfl rfl ?_ | refine Bv1.mk _ rfl ?_ | refine Wr.mk _ (wrap_i64 (by omega) (by omega)) ?_ | refine Wr.mk _ rfl ?_ | refine And.intro len_map ?_ | refine And.intro (leX_refl _) ?_ | refine And.intro rfl ?_ | refine And.intro (leO_some _) ?_ | (refine And.intro (fun h => absurd h (by decide)) (fun h => ?_); clear h) | (refine And.intro (fun h => ?_) (fun h => absurd h (by decide)); clear h) | (with_reducible first | refine sp1 (fun h => ?_) (fun h => ?_) | refine sp2 (fun h => ?_) (fun h => ?_) | refine sp3 (fun h => ?_) (fun h => ?_) | refine sp4 (fun h => ?_) (fun h => ?_) | refine sp5 (fun h => ?_) (fun h => ?_) | refine sp6 (fun h => ?_) (fun h => ?_)) | with_reducible refine And.intro (fun h => ?_) (fun h => ?_) | refine And.intro (Int.natCast_nonneg _) ?_ | refine And.intro (by omega) ?_ | refine And.intro (by decide) ?_ | refine Lst.mk _ rfl ?_ | refine And.intro trivial ?_ | exact trivial | exact leX_refl _ | refine weak_fr ?_ ?_ rfl | refine And.intro ?_ ?_ | fail)
  rintro i hi -
  have hc := countP_take_le (l := x.pieces) (f := (fun y => (decide (core < 0) || decide (y.core = core)) && hasT y.ticks t)) (i := i)
  have hl : (x.pieces.map Piece.tv).length = x.pieces.length := List.length_map _
  refine V_x ?_
  repeat' (conv => whnf
           first | refine Frz.own ?_ | refine Get.mk _ rfl ?_ | refine Get.mk _ (map_geti (by omega)) ?_ | refine Get.mk _ (map_getp (by omega) (by omega)) ?_ | refine Get.mk _ (map_get (by omega)) ?_ | refine Bv2.mk _ _ rfl rfl ?_ | refine Bv1.mk _ rfl ?_ | refine Wr.mk _ (wrap_i64 (by omega) (by omega)) ?_ | refine Wr.mk _ rfl ?_ | refine And.intro len_map ?_ | refine And.intro (leX_refl _) ?_ | refine And.intro rfl ?_ | refine And.intro (leO_some _) ?_ | (refine And.intro (fun h => absurd h (by decide)) (fun h => ?_); clear h) | (refine And.intro (fun h => ?_) (fun h => absurd h (by decide)); clear h) | (with_reducible first | refine sp1 (fun h => ?_) (fun h => ?_) | refine sp2 (fun h => ?_) (fun h => ?_) | refine sp3 (fun h => ?_) (fun h => ?_) | refine sp4 (fun h => ?_) (fun h => ?_) | refine sp5 (fun h => ?_) (fun h => ?_) | refine sp6 (fun h => ?_) (fun h => ?_)) | with_reducible refine And.intro (fun h => ?_) (fun h => ?_) | refine And.intro (Int.natCast_nonneg _) ?_ | refine And.intro (by omega) ?_ | refine And.intro (by decide) ?_ | refine Lst.mk _ rfl ?_ | refine Or.inr (Or.inl ⟨_, _, s82 _ _, leL_refl _, rfl, rfl, ?_⟩) | refine And.intro trivial ?_ | exact trivial | exact leX_refl _ | refine weak_fr ?_ ?_ rfl | refine And.intro ?_ ?_ | fail)
  all_goals refine leI ?_
  all_goals first
    | (rw [countP_take (by omega)]; simp [*]; done)
    | (rw [countP_take (by omega)]; simp_all; done)
    | (rw [List.take_of_length_le (by omega)]; rfl)
end Go.Proofs.Ytjmjolefhcjedaa.Vc

namespace Go.Proofs.Ytjmjolefhcjedaa.Vc
open Go Go.RowKit Go.Proofs.Try

instance (p : Plan) : Decidable p.lite := by unfold Plan.lite; infer_instance
theorem s18 (p : Plan) : Spec prog 18 [p.tv] [] (tB (decide p.lite)) [] := by
  refine spec_s is18 mixed rfl (V_x ?_)
  repeat' (conv => whnf
           first | refine Frz.own ?_ | refine Get.mk _ rfl ?_ | refine Get.mk _ (map_geti (by omega)) ?_ | refine Get.mk _ (map_getp (by omega) (by omega)) ?_ | refine Get.mk _ (map_get (by omega)) ?_ | refine Bv2.mk _ _ rfl rfl ?_ | refine Bv1.mk _ rfl ?_ | refine Wr.mk _ (wrap_i64 (by omega) (by omega)) ?_ | refine Wr.mk _ rfl ?_ | refine And.intro len_map ?_ | refine And.intro (leX_refl _) ?_ | refine And.intro rfl ?_ | refine And.intro (leO_some _) ?_ | (refine And.intro (fun h => absurd h (by decide)) (fun h => ?_); clear h) | (refine And.intro (fun h => ?_) (fun h => absurd h (by decide)); clear h) | (with_reducible first | refine sp1 (fun h => ?_) (fun h => ?_) | refine sp2 (fun h => ?_) (fun h => ?_) | refine sp3 (fun h => ?_) (fun h => ?_) | refine sp4 (fun h => ?_) (fun h => ?_) | refine sp5 (fun h => ?_) (fun h => ?_) | refine sp6 (fun h => ?_) (fun h => ?_)) | with_reducible refine And.intro (fun h => ?_) (fun h => ?_) | refine And.intro (Int.natCast_nonneg _) ?_ | refine And.intro (by omega) ?_ | refine And.intro (by decide) ?_ | refine Lst.mk _ rfl ?_ | refine And.intro trivial ?_ | exact trivial | exact leX_refl _ | refine weak_fr ?_ ?_ rfl | refine And.intro ?_ ?_ | fail)
  refine V_up (min p.places.length 300) (fun i => ∀ x ∈ p.places.take i, x.pieces.length ≤ 20) (fun i => ([(1, .p 32 0 0), (3, tI (i : Nat))], [(32, .var 25 p.tv)])) (by simp) ?_ ?_
  · repeat' (conv => whnf
             first | refine Frz.own ?_ | refine Get.mk _ rfl ?_ | refine Get.mk _ (map_geti (by omega)) ?_ | refine Get.mk _ (map_getp (by omega) (by omega)) ?_ | refine Get.mk _ (map_get (by omega)) ?_ | refine Bv2.mk _ _ rfl rfl ?_ | refine Bv1.mk _ rfl ?_ | refine Wr.mk _ (wrap_i64 (by omega) (by omega)) ?_ | refine Wr.mk _ rfl ?_ | refine And.intro len_map ?_ | refine And.intro (leX_refl _) ?_ | refine And.intro rfl ?_ | refine And.intro (leO_some _) ?_ | (refine And.intro (fun h => absurd h (by decide)) (fun h => ?_); clear h) | (refine And.intro (fun h => ?_) (fun h => absurd h (by decide)); clear h) | (with_reducible first | refine sp1 (fun h => ?_) (fun h => ?_) | refine sp2 (fun h => ?_) (fun h => ?_) | refine sp3 (fun h => ?_) (fun h => ?_) | refine sp4 (fun h => ?_) (fun h => ?_) | refine sp5 (fun h => ?_) (fun h => ?_) | refine sp6 (fun h => ?_) (fun h => ?_)) | with_reducible refine And.intro (fun h => ?_) (fun h => ?_) | refine And.intro (Int.natCast_nonneg _) ?_ | refine And.intro (by omega) ?_ | refine And.intro (by decide) ?_ | refine Lst.mk _ rfl ?_ | refine And.intro trivial ?_ | exact trivial | exact leX_refl _ | refine weak_fr ?_ ?_ rfl | refine And.intro ?_ ?_ | fail)
  rintro i hi hI
  have hl : (p.places.map Place.tv).length = p.places.length := List.length_map _
  refine V_x ?_
  repeat' (conv => whnf
           first | refine Frz.own ?_ | refine Get.mk _ rfl ?_ | refine Get.mk _ (map_geti (by omega)) ?_ | refine Get.mk _ (map_getp (by omega) (by omega)) ?_ | refine Get.mk _ (map_get (by omega)) ?_ | refine Bv2.mk _ _ rfl rfl ?_ | refine Bv1.mk _ rfl ?_ | refine Wr.mk _ (wrap_i64 (by omega) (by omega)) ?_ | refine Wr.mk _ rfl ?_ | refine And.intro len_map ?_ | refine And.intro (leX_refl _) ?_ | refine And.intro rfl ?_ | refine And.intro (leO_some _) ?_ | (refine And.intro (fun h => absurd h (by decide)) (fun h => ?_); clear h) | (refine And.intro (fun h => ?_) (fun h => absurd h (by decide)); clear h) | (with_reducible first | refine sp1 (fun h => ?_) (fun h => ?_) | refine sp2 (fun h => ?_) (fun h => ?_) | refine sp3 (fun h => ?_) (fun h => ?_) | refine sp4 (fun h => ?_) (fun h => ?_) | refine sp5 (fun h => ?_) (fun h => ?_) | refine sp6 (fun h => ?_) (fun h => ?_)) | with_reducible refine And.intro (fun h => ?_) (fun h => ?_) | refine And.intro (Int.natCast_nonneg _) ?_ | refine And.intro (by omega) ?_ | refine And.intro (by decide) ?_ | refine Lst.mk _ rfl ?_ | refine And.intro trivial ?_ | exact trivial | exact leX_refl _ | refine weak_fr ?_ ?_ rfl | refine And.intro ?_ ?_ | fail)
  · refine leB ?_
    rw [eq_comm, decide_eq_false_iff_not]
    intro hp
    have := hp.2 _ (List.getElem_mem (show i < p.places.length by omega))
    simp at h; omega
  · intro x hx
    rw [take_succ' (by omega), List.mem_append] at hx
    rcases hx with hx | hx
    · exact hI x hx
    · simp at hx h; subst hx; omega
  · refine leB ?_
    rw [Bool.eq_iff_iff, decide_eq_true_eq, decide_eq_true_eq, hl]
    have : ¬ p.places.length ≤ 60 := by omega
    exact ⟨fun h => by omega, fun h => absurd h.1 this⟩
  · refine leB ?_
    rw [Bool.eq_iff_iff, decide_eq_true_eq, decide_eq_true_eq, hl]
    rw [List.take_of_length_le (by omega)] at hI
    exact ⟨fun h => ⟨by omega, hI⟩, fun h => by have := h.1; omega⟩
def Plan.find (p : Plan) (u : Int) : Option Place := p.places.find? fun x => decide (x.unit = u)
theorem find_at {l : List Place} {u : Int} {i : Nat} (hi : i < l.length) (h1 : ∀ x ∈ l.take i, x.unit ≠ u) (h2 : l[i].unit = u) : (l.find? fun x => decide (x.unit = u)) = some l[i] := by
  rw [List.find?_eq_some_iff_getElem]
  refine ⟨by simp [h2], i, hi, rfl, fun j hj => ?_⟩
  have := h1 l[j] (by rw [List.mem_take_iff_getElem]; exact ⟨j, by omega, rfl⟩)
  simp [this]
theorem find_no {l : List Place} {u : Int} (h1 : ∀ x ∈ l, x.unit ≠ u) : (l.find? fun x => decide (x.unit = u)) = none := by
  rw [List.find?_eq_none]; intro x hx; simp [h1 x hx]
theorem s22 (p : Plan) (u : Int) (hp : p.light) : Spec prog 22 [p.tv, tI u] [] (.t [((p.find u).getD ⟨0, 0, 0, []⟩).tv, tB (p.find u).isSome]) [] := by
  obtain ⟨hp1, hp2⟩ := hp
  refine spec_s is22 mixed rfl (V_x ?_)
  repeat' (conv => whnf
           first | refine Frz.own ?_ | refine Get.mk _ rfl ?_ | refine Get.mk _ (map_geti (by omega)) ?_ | refine Get.mk _ (map_getp (by omega) (by omega)) ?_ | refine Get.mk _ (map_get (by omega)) ?_ | refine Bv2.mk _ _ rfl rfl ?_ | refine Bv1.mk _ rfl ?_ | refine Wr.mk _ (wrap_i64 (by omega) (by omega)) ?_ | refine Wr.mk _ rfl ?_ | refine And.intro len_map ?_ | refine And.intro (leX_refl _) ?_ | refine And.intro rfl ?_ | refine And.intro (leO_some _) ?_ | (refine And.intro (fun h => absurd h (by decide)) (fun h => ?_); clear h) | (refine And.intro (fun h => ?_) (fun h => absurd h (by decide)); clear h) | (with_reducible first | refine sp1 (fun h => ?_) (fun h => ?_) | refine sp2 (fun h => ?_) (fun h => ?_) | refine sp3 (fun h => ?_) (fun h => ?_) | refine sp4 (fun h => ?_) (fun h => ?_) | refine sp5 (fun h => ?_) (fun h => ?_) | refine sp6 (fun h => ?_) (fun h => ?_)) | with_reducible refine And.intro (fun h => ?_) (fun h => ?_) | refine And.intro (Int.natCast_nonneg _) ?_ | refine And.intro (by omega) ?_ | refine And.intro (by decide) ?_ | refine Lst.mk _ rfl ?_ | refine And.intro trivial ?_ | exact trivial | exact leX_refl _ | refine weak_fr ?_ ?_ rfl | refine And.intro ?_ ?_ | fail)
  refine V_up p.places.length (fun i => ∀ x ∈ p.places.take i, x.unit ≠ u) (fun i => ([(1, tI u), (2, .p 48 0 0), (4, .p 80 0 0), (6, tI (i : Nat))], [(48, .var 25 p.tv), (80, .var 34 (.a [tI 0, tI 0, tI 0, .v vnil]))])) (by simp) ?_ ?_
  · repeat' (conv => whnf
             first | refine Frz.own ?_ | refine Get.mk _ rfl ?_ | refine Get.mk _ (map_geti (by omega)) ?_ | refine Get.mk _ (map_getp (by omega) (by omega)) ?_ | refine Get.mk _ (map_get (by omega)) ?_ | refine Bv2.mk _ _ rfl rfl ?_ | refine Bv1.mk _ rfl ?_ | refine Wr.mk _ (wrap_i64 (by omega) (by omega)) ?_ | refine Wr.mk _ rfl ?_ | refine And.intro len_map ?_ | refine And.intro (leX_refl _) ?_ | refine And.intro rfl ?_ | refine And.intro (leO_some _) ?_ | (refine And.intro (fun h => absurd h (by decide)) (fun h => ?_); clear h) | (refine And.intro (fun h => ?_) (fun h => absurd h (by decide)); clear h) | (with_reducible first | refine sp1 (fun h => ?_) (fun h => ?_) | refine sp2 (fun h => ?_) (fun h => ?_) | refine sp3 (fun h => ?_) (fun h => ?_) | refine sp4 (fun h => ?_) (fun h => ?_) | refine sp5 (fun h => ?_) (fun h => ?_) | refine sp6 (fun h => ?_) (fun h => ?_)) | with_reducible refine And.intro (fun h => ?_) (fun h => ?_) | refine And.intro (Int.natCast_nonneg _) ?_ | refine And.intro (by omega) ?_ | refine And.intro (by decide) ?_ | refine Lst.mk _ rfl ?_ | refine And.intro trivial ?_ | exact trivial | exact leX_refl _ | refine weak_fr ?_ ?_ rfl | refine And.intro ?_ ?_ | fail)
  rintro i hi hI
  have hl : (p.places.map Place.tv).length = p.places.length := List.length_map _
  refine V_x ?_
  repeat' (conv => whnf
           first | refine Frz.own ?_ | refine Get.mk _ rfl ?_ | refine Get.mk _ (map_geti (by omega)) ?_ | refine Get.mk _ (map_getp (by omega) (by omega)) ?_ | refine Get.mk _ (map_get (by omega)) ?_ | refine Bv2.mk _ _ rfl rfl ?_ | refine Bv1.mk _ rfl ?_ | refine Wr.mk _ (wrap_i64 (by omega) (by omega)) ?_ | refine Wr.mk _ rfl ?_ | refine And.intro len_map ?_ | refine And.intro (leX_refl _) ?_ | refine And.intro rfl ?_ | refine And.intro (leO_some _) ?_ | (refine And.intro (fun h => absurd h (by decide)) (fun h => ?_); clear h) | (refine And.intro (fun h => ?_) (fun h => absurd h (by decide)); clear h) | (with_reducible first | refine sp1 (fun h => ?_) (fun h => ?_) | refine sp2 (fun h => ?_) (fun h => ?_) | refine sp3 (fun h => ?_) (fun h => ?_) | refine sp4 (fun h => ?_) (fun h => ?_) | refine sp5 (fun h => ?_) (fun h => ?_) | refine sp6 (fun h => ?_) (fun h => ?_)) | with_reducible refine And.intro (fun h => ?_) (fun h => ?_) | refine And.intro (Int.natCast_nonneg _) ?_ | refine And.intro (by omega) ?_ | refine And.intro (by decide) ?_ | refine Lst.mk _ rfl ?_ | refine And.intro trivial ?_ | exact trivial | exact leX_refl _ | refine weak_fr ?_ ?_ rfl | refine And.intro ?_ ?_ | fail)
  all_goals first
    | (have hf : p.find u = _ := find_at (by omega) hI (by assumption)
       rw [hf]; exact leX_refl _)
    | (have hf : p.find u = _ := find_no (by rw [List.take_of_length_le (by omega)] at hI; exact hI)
       rw [hf]; exact leX_refl _)
    | (have hf : p.find u = _ := find_no (by rw [List.take_of_length_le (by omega)] at hI; exact hI)
       rw [hf]; rfl)
    | (intro x hx
       rw [take_succ' (by omega), List.mem_append] at hx
       rcases hx with hx | hx
       · exact hI x hx
       · simp at hx; subst hx; assumption)
end Go.Proofs.Ytjmjolefhcjedaa.Vc

namespace Go.Proofs.Ytjmjolefhcjedaa.Vc
open Go Go.RowKit Go.Proofs.Try

structure Want where
  unit : Int
  share : Int
  deriving DecidableEq
def Want.tv (w : Want) : TV := .a [tI w.unit, tI w.share]
def Place.wholeAt (core : Int) (x : Place) : Bool := !x.split && decide (x.core = core)
def Place.want (x : Place) : Want := ⟨x.unit, x.share⟩
def Plan.wholes (p : Plan) (core : Int) : List Want := (p.places.filter (Place.wholeAt core)).map Place.want
def Plan.wholesTo (p : Plan) (core : Int) (i : Nat) : List Want := ((p.places.take i).filter (Place.wholeAt core)).map Place.want
theorem wholesTo_le (p : Plan) (core : Int) (i : Nat) : (p.wholesTo core i).length ≤ i := by
  unfold Plan.wholesTo; rw [List.length_map]; exact Nat.le_trans (List.length_filter_le _ _) (by simp; omega)
theorem wholesTo_yes {p : Plan} {core : Int} {i : Nat} (hi : i < p.places.length) (h1 : p.places[i].split = false) (h2 : p.places[i].core = core) : p.wholesTo core (i + 1) = p.wholesTo core i ++ [p.places[i].want] := by
  unfold Plan.wholesTo; rw [filter_take hi]; simp [Place.wholeAt, h1, h2]
theorem wholesTo_no {p : Plan} {core : Int} {i : Nat} (hi : i < p.places.length) (h1 : p.places[i].split = true ∨ p.places[i].core ≠ core) : p.wholesTo core (i + 1) = p.wholesTo core i := by
  unfold Plan.wholesTo; rw [filter_take hi]
  rcases h1 with h1 | h1 <;> simp [Place.wholeAt, h1]
theorem no_split {x : Place} (h : (((x.pieces.map Piece.tv).length : Nat) : Int) = 0) : x.split = false := by
  rw [Bool.eq_false_iff]; intro h'; have := Place.split_iff.1 h'; simp at h; simp [h] at this
theorem is_split {x : Place} (h : ¬ (((x.pieces.map Piece.tv).length : Nat) : Int) = 0) : x.split = true := by
  rw [Place.split_iff]; simp at h; exact List.length_pos_iff.2 h
theorem s117 (p : Plan) (core : Int) (hp : p.light) : Spec prog 117 [p.tv, tI core] [] (.s 2 ((p.wholes core).map Want.tv)) [] := by
  obtain ⟨hp1, hp2⟩ := hp
  refine spec_s is117 mixed rfl (V_x ?_)
  repeat' (conv => whnf
           first | refine Frz.own ?_ | refine Get.mk _ rfl ?_ | refine Get.mk _ (map_geti (by omega)) ?_ | refine Get.mk _ (map_getp (by omega) (by omega)) ?_ | refine Get.mk _ (map_get (by omega)) ?_ | refine Bv2.mk _ _ rfl rfl ?_ | refine Bv1.mk _ rfl ?_ | refine Wr.mk _ (wrap_i64 (by omega) (by omega)) ?_ | refine Wr.mk _ rfl ?_ | refine And.intro len_map ?_ | refine And.intro (leX_refl _) ?_ | refine And.intro rfl ?_ | refine And.intro (leO_some _) ?_ | (refine And.intro (fun h => absurd h (by decide)) (fun h => ?_); clear h) | (refine And.intro (fun h => ?_) (fun h => absurd h (by decide)); clear h) | (with_reducible first | refine sp1 (fun h => ?_) (fun h => ?_) | refine sp2 (fun h => ?_) (fun h => ?_) | refine sp3 (fun h => ?_) (fun h => ?_) | refine sp4 (fun h => ?_) (fun h => ?_) | refine sp5 (fun h => ?_) (fun h => ?_) | refine sp6 (fun h => ?_) (fun h => ?_)) | with_reducible refine And.intro (fun h => ?_) (fun h => ?_) | refine And.intro (Int.natCast_nonneg _) ?_ | refine And.intro (by omega) ?_ | refine And.intro (by decide) ?_ | refine Lst.mk _ rfl ?_ | refine And.intro trivial ?_ | exact trivial | exact leX_refl _ | refine weak_fr ?_ ?_ rfl | refine And.intro ?_ ?_ | fail)
  refine V_up p.places.length (fun _ => True) (fun i => ([(1, tI core), (2, .p 48 0 0), (5, .o 144), (6, tI (i : Nat))], [(48, .var 25 p.tv), (144, .row 63 2 ((p.wholesTo core i).map Want.tv))])) trivial ?_ ?_
  · repeat' (conv => whnf
             first | refine Frz.own ?_ | refine Get.mk _ rfl ?_ | refine Get.mk _ (map_geti (by omega)) ?_ | refine Get.mk _ (map_getp (by omega) (by omega)) ?_ | refine Get.mk _ (map_get (by omega)) ?_ | refine Bv2.mk _ _ rfl rfl ?_ | refine Bv1.mk _ rfl ?_ | refine Wr.mk _ (wrap_i64 (by omega) (by omega)) ?_ | refine Wr.mk _ rfl ?_ | refine And.intro len_map ?_ | refine And.intro (leX_refl _) ?_ | refine And.intro rfl ?_ | refine And.intro (leO_some _) ?_ | (refine And.intro (fun h => absurd h (by decide)) (fun h => ?_); clear h) | (refine And.intro (fun h => ?_) (fun h => absurd h (by decide)); clear h) | (with_reducible first | refine sp1 (fun h => ?_) (fun h => ?_) | refine sp2 (fun h => ?_) (fun h => ?_) | refine sp3 (fun h => ?_) (fun h => ?_) | refine sp4 (fun h => ?_) (fun h => ?_) | refine sp5 (fun h => ?_) (fun h => ?_) | refine sp6 (fun h => ?_) (fun h => ?_)) | with_reducible refine And.intro (fun h => ?_) (fun h => ?_) | refine And.intro (Int.natCast_nonneg _) ?_ | refine And.intro (by omega) ?_ | refine And.intro (by decide) ?_ | refine Lst.mk _ rfl ?_ | refine And.intro trivial ?_ | exact trivial | exact leX_refl _ | refine weak_fr ?_ ?_ rfl | refine And.intro ?_ ?_ | fail)
  rintro i hi -
  have hl : (p.places.map Place.tv).length = p.places.length := List.length_map _
  have hw := wholesTo_le p core i
  refine V_x ?_
  repeat' (conv => whnf
           first | refine Frz.own ?_ | refine Get.mk _ rfl ?_ | refine Get.mk _ (map_geti (by omega)) ?_ | refine Get.mk _ (map_getp (by omega) (by omega)) ?_ | refine Get.mk _ (map_get (by omega)) ?_ | refine Bv2.mk _ _ rfl rfl ?_ | refine Bv1.mk _ rfl ?_ | refine Wr.mk _ (wrap_i64 (by omega) (by omega)) ?_ | refine Wr.mk _ rfl ?_ | refine And.intro len_map ?_ | refine And.intro (leX_refl _) ?_ | refine And.intro rfl ?_ | refine And.intro (leO_some _) ?_ | (refine And.intro (fun h => absurd h (by decide)) (fun h => ?_); clear h) | (refine And.intro (fun h => ?_) (fun h => absurd h (by decide)); clear h) | (with_reducible first | refine sp1 (fun h => ?_) (fun h => ?_) | refine sp2 (fun h => ?_) (fun h => ?_) | refine sp3 (fun h => ?_) (fun h => ?_) | refine sp4 (fun h => ?_) (fun h => ?_) | refine sp5 (fun h => ?_) (fun h => ?_) | refine sp6 (fun h => ?_) (fun h => ?_)) | with_reducible refine And.intro (fun h => ?_) (fun h => ?_) | refine And.intro (Int.natCast_nonneg _) ?_ | refine And.intro (by omega) ?_ | refine And.intro (by decide) ?_ | refine Lst.mk _ rfl ?_ | refine And.intro trivial ?_ | exact trivial | exact leX_refl _ | refine weak_fr ?_ ?_ rfl | refine And.intro ?_ ?_ | fail)
  all_goals first
    | (simp only [List.length_map, List.length_cons, List.length_nil]; omega)
    | (refine rowO ?_; rw [wholesTo_yes (by omega) (no_split (by assumption)) (by assumption), List.map_append]; rfl)
    | (refine rowO ?_; rw [wholesTo_no (by omega) (.inr (by assumption))])
    | (refine rowO ?_; rw [wholesTo_no (by omega) (.inl (is_split (by assumption)))])
    | (refine leS ?_; unfold Plan.wholesTo Plan.wholes; rw [List.take_of_length_le (by omega)])
theorem s142 (p : Plan) (core : Int) (hp : p.light) : Spec prog 142 [p.tv, tI core] [] (.s 2 ((p.wholes core).map Want.tv)) [] := by
  obtain ⟨hp1, hp2⟩ := hp
  refine spec_s is142 mixed rfl (V_x ?_)
  repeat' (conv => whnf
           first | refine Frz.own ?_ | refine Get.mk _ rfl ?_ | refine Get.mk _ (map_geti (by omega)) ?_ | refine Get.mk _ (map_getp (by omega) (by omega)) ?_ | refine Get.mk _ (map_get (by omega)) ?_ | refine Bv2.mk _ _ rfl rfl ?_ | refine Bv1.mk _ rfl ?_ | refine Wr.mk _ (wrap_i64 (by omega) (by omega)) ?_ | refine Wr.mk _ rfl ?_ | refine And.intro len_map ?_ | refine And.intro (leX_refl _) ?_ | refine And.intro rfl ?_ | refine And.intro (leO_some _) ?_ | (refine And.intro (fun h => absurd h (by decide)) (fun h => ?_); clear h) | (refine And.intro (fun h => ?_) (fun h => absurd h (by decide)); clear h) | (with_reducible first | refine sp1 (fun h => ?_) (fun h => ?_) | refine sp2 (fun h => ?_) (fun h => ?_) | refine sp3 (fun h => ?_) (fun h => ?_) | refine sp4 (fun h => ?_) (fun h => ?_) | refine sp5 (fun h => ?_) (fun h => ?_) | refine sp6 (fun h => ?_) (fun h => ?_)) | with_reducible refine And.intro (fun h => ?_) (fun h => ?_) | refine And.intro (Int.natCast_nonneg _) ?_ | refine And.intro (by omega) ?_ | refine And.intro (by decide) ?_ | refine Lst.mk _ rfl ?_ | refine And.intro trivial ?_ | exact trivial | exact leX_refl _ | refine weak_fr ?_ ?_ rfl | refine And.intro ?_ ?_ | fail)
  refine V_up p.places.length (fun _ => True) (fun i => ([(1, tI core), (5, .o 96), (9, .s 4 (p.places.map Place.tv)), (10, tI (p.places.length : Nat)), (11, tI (i : Nat))], [(96, .row 63 2 ((p.wholesTo core i).map Want.tv))])) trivial ?_ ?_
  · refine Weak.trans (weak_ghost 5 96 63 2 rfl rfl rfl) ?_
    repeat' (conv => whnf
             first | refine Frz.own ?_ | refine Get.mk _ rfl ?_ | refine Get.mk _ (map_geti (by omega)) ?_ | refine Get.mk _ (map_getp (by omega) (by omega)) ?_ | refine Get.mk _ (map_get (by omega)) ?_ | refine Bv2.mk _ _ rfl rfl ?_ | refine Bv1.mk _ rfl ?_ | refine Wr.mk _ (wrap_i64 (by omega) (by omega)) ?_ | refine Wr.mk _ rfl ?_ | refine And.intro len_map ?_ | refine And.intro (leX_refl _) ?_ | refine And.intro rfl ?_ | refine And.intro (leO_some _) ?_ | (refine And.intro (fun h => absurd h (by decide)) (fun h => ?_); clear h) | (refine And.intro (fun h => ?_) (fun h => absurd h (by decide)); clear h) | (with_reducible first | refine sp1 (fun h => ?_) (fun h => ?_) | refine sp2 (fun h => ?_) (fun h => ?_) | refine sp3 (fun h => ?_) (fun h => ?_) | refine sp4 (fun h => ?_) (fun h => ?_) | refine sp5 (fun h => ?_) (fun h => ?_) | refine sp6 (fun h => ?_) (fun h => ?_)) | with_reducible refine And.intro (fun h => ?_) (fun h => ?_) | refine And.intro (Int.natCast_nonneg _) ?_ | refine And.intro (by omega) ?_ | refine And.intro (by decide) ?_ | refine Lst.mk _ rfl ?_ | refine And.intro trivial ?_ | exact trivial | exact leX_refl _ | refine weak_fr ?_ ?_ rfl | refine And.intro ?_ ?_ | fail)
  rintro i hi -
  have hw := wholesTo_le p core i
  refine V_x ?_
  repeat' (conv => whnf
           first | refine Frz.own ?_ | refine Get.mk _ rfl ?_ | refine Get.mk _ (map_geti (by omega)) ?_ | refine Get.mk _ (map_getp (by omega) (by omega)) ?_ | refine Get.mk _ (map_get (by omega)) ?_ | refine Bv2.mk _ _ rfl rfl ?_ | refine Bv1.mk _ rfl ?_ | refine Wr.mk _ (wrap_i64 (by omega) (by omega)) ?_ | refine Wr.mk _ rfl ?_ | refine And.intro len_map ?_ | refine And.intro (leX_refl _) ?_ | refine And.intro rfl ?_ | refine And.intro (leO_some _) ?_ | (refine And.intro (fun h => absurd h (by decide)) (fun h => ?_); clear h) | (refine And.intro (fun h => ?_) (fun h => absurd h (by decide)); clear h) | (with_reducible first | refine sp1 (fun h => ?_) (fun h => ?_) | refine sp2 (fun h => ?_) (fun h => ?_) | refine sp3 (fun h => ?_) (fun h => ?_) | refine sp4 (fun h => ?_) (fun h => ?_) | refine sp5 (fun h => ?_) (fun h => ?_) | refine sp6 (fun h => ?_) (fun h => ?_)) | with_reducible refine And.intro (fun h => ?_) (fun h => ?_) | refine And.intro (Int.natCast_nonneg _) ?_ | refine And.intro (by omega) ?_ | refine And.intro (by decide) ?_ | refine Lst.mk _ rfl ?_ | refine Or.inr (Or.inl ⟨_, _, s149 _, leL_refl _, rfl, rfl, ?_⟩) | refine And.intro trivial ?_ | exact trivial | exact leX_refl _ | refine weak_fr ?_ ?_ rfl | refine And.intro ?_ ?_ | fail)
  all_goals first
    | (simp only [List.length_map, List.length_cons, List.length_nil]; omega)
    | (refine rowO ?_; rw [wholesTo_yes (by omega) (by assumption) (by assumption), List.map_append]; rfl)
    | (refine rowO ?_; rw [wholesTo_no (by omega) (.inr (by assumption))])
    | (refine rowO ?_; rw [wholesTo_no (by omega) (.inl (by assumption))])
    | (refine leS ?_; unfold Plan.wholesTo Plan.wholes; rw [List.take_of_length_le (by omega)])
end Go.Proofs.Ytjmjolefhcjedaa.Vc

namespace Go.Proofs.Ytjmjolefhcjedaa.Vc
open Go Go.RowKit Go.Proofs.Try

def orAt (core : Int) (a : BitVec 64) (l : List Piece) : BitVec 64 := l.foldl (fun a y => if y.core = core then a ||| y.ticks else a) a
def winTo (core : Int) (l : List Place) : BitVec 64 := l.foldl (fun a x => orAt core a x.pieces) 0#64
def Plan.windows (p : Plan) (core : Int) : BitVec 64 := winTo core p.places
theorem orAt_succ {core : Int} {a : BitVec 64} {l : List Piece} {j : Nat} (h : j < l.length) : orAt core a (l.take (j + 1)) = if l[j].core = core then orAt core a (l.take j) ||| l[j].ticks else orAt core a (l.take j) := by
  unfold orAt; rw [take_succ' h, List.foldl_append]; rfl
theorem winTo_succ {core : Int} {l : List Place} {j : Nat} (h : j < l.length) : winTo core (l.take (j + 1)) = orAt core (winTo core (l.take j)) l[j].pieces := by
  unfold winTo; rw [take_succ' h, List.foldl_append]; rfl
theorem s151 (p : Plan) (core : Int) (hp : p.light) : Spec prog 151 [p.tv, tI core] [] (tU (p.windows core)) [] := by
  obtain ⟨hp1, hp2⟩ := hp
  refine spec_s is151 mixed rfl (V_x ?_)
  repeat' (conv => whnf
           first | refine Frz.own ?_ | refine Get.mk _ rfl ?_ | refine Get.mk _ (map_geti (by omega)) ?_ | refine Get.mk _ (map_getp (by omega) (by omega)) ?_ | refine Get.mk _ (map_get (by omega)) ?_ | refine Bv2.mk _ _ rfl rfl ?_ | refine Bv1.mk _ rfl ?_ | refine Wr.mk _ (wrap_i64 (by omega) (by omega)) ?_ | refine Wr.mk _ rfl ?_ | refine And.intro len_map ?_ | refine And.intro (leX_refl _) ?_ | refine And.intro rfl ?_ | refine And.intro (leO_some _) ?_ | (refine And.intro (fun h => absurd h (by decide)) (fun h => ?_); clear h) | (refine And.intro (fun h => ?_) (fun h => absurd h (by decide)); clear h) | (with_reducible first | refine sp1 (fun h => ?_) (fun h => ?_) | refine sp2 (fun h => ?_) (fun h => ?_) | refine sp3 (fun h => ?_) (fun h => ?_) | refine sp4 (fun h => ?_) (fun h => ?_) | refine sp5 (fun h => ?_) (fun h => ?_) | refine sp6 (fun h => ?_) (fun h => ?_)) | with_reducible refine And.intro (fun h => ?_) (fun h => ?_) | refine And.intro (Int.natCast_nonneg _) ?_ | refine And.intro (by omega) ?_ | refine And.intro (by decide) ?_ | refine Lst.mk _ rfl ?_ | refine And.intro trivial ?_ | exact trivial | exact leX_refl _ | refine weak_fr ?_ ?_ rfl | refine And.intro ?_ ?_ | fail)
  refine V_up p.places.length (fun _ => True) (fun i => ([(1, tI core), (5, tU (winTo core (p.places.take i))), (11, .s 4 (p.places.map Place.tv)), (12, tI (p.places.length : Nat)), (13, tI (i : Nat))], [])) trivial ?_ ?_
  · repeat' (conv => whnf
             first | refine Frz.own ?_ | refine Get.mk _ rfl ?_ | refine Get.mk _ (map_geti (by omega)) ?_ | refine Get.mk _ (map_getp (by omega) (by omega)) ?_ | refine Get.mk _ (map_get (by omega)) ?_ | refine Bv2.mk _ _ rfl rfl ?_ | refine Bv1.mk _ rfl ?_ | refine Wr.mk _ (wrap_i64 (by omega) (by omega)) ?_ | refine Wr.mk _ rfl ?_ | refine And.intro len_map ?_ | refine And.intro (leX_refl _) ?_ | refine And.intro rfl ?_ | refine And.intro (leO_some _) ?_ | (refine And.intro (fun h => absurd h (by decide)) (fun h => ?_); clear h) | (refine And.intro (fun h => ?_) (fun h => absurd h (by decide)); clear h) | (with_reducible first | refine sp1 (fun h => ?_) (fun h => ?_) | refine sp2 (fun h => ?_) (fun h => ?_) | refine sp3 (fun h => ?_) (fun h => ?_) | refine sp4 (fun h => ?_) (fun h => ?_) | refine sp5 (fun h => ?_) (fun h => ?_) | refine sp6 (fun h => ?_) (fun h => ?_)) | with_reducible refine And.intro (fun h => ?_) (fun h => ?_) | refine And.intro (Int.natCast_nonneg _) ?_ | refine And.intro (by omega) ?_ | refine And.intro (by decide) ?_ | refine Lst.mk _ rfl ?_ | refine And.intro trivial ?_ | exact trivial | exact leX_refl _ | refine weak_fr ?_ ?_ rfl | refine And.intro ?_ ?_ | fail)
  rintro i hi -
  refine V_x ?_
  repeat' (conv => whnf
           first | refine Frz.own ?_ | refine Get.mk _ rfl ?_ | refine Get.mk _ (map_geti (by omega)) ?_ | refine Get.mk _ (map_getp (by omega) (by omega)) ?_ | refine Get.mk _ (map_get (by omega)) ?_ | refine Bv2.mk _ _ rfl rfl ?_ | refine Bv1.mk _ rfl ?_ | refine Wr.mk _ (wrap_i64 (by omega) (by omega)) ?_ | refine Wr.mk _ rfl ?_ | refine And.intro len_map ?_ | refine And.intro (leX_refl _) ?_ | refine And.intro rfl ?_ | refine And.intro (leO_some _) ?_ | (refine And.intro (fun h => absurd h (by decide)) (fun h => ?_); clear h) | (refine And.intro (fun h => ?_) (fun h => absurd h (by decide)); clear h) | (with_reducible first | refine sp1 (fun h => ?_) (fun h => ?_) | refine sp2 (fun h => ?_) (fun h => ?_) | refine sp3 (fun h => ?_) (fun h => ?_) | refine sp4 (fun h => ?_) (fun h => ?_) | refine sp5 (fun h => ?_) (fun h => ?_) | refine sp6 (fun h => ?_) (fun h => ?_)) | with_reducible refine And.intro (fun h => ?_) (fun h => ?_) | refine And.intro (Int.natCast_nonneg _) ?_ | refine And.intro (by omega) ?_ | refine And.intro (by decide) ?_ | refine Lst.mk _ rfl ?_ | refine And.intro trivial ?_ | exact trivial | exact leX_refl _ | refine weak_fr ?_ ?_ rfl | refine And.intro ?_ ?_ | fail)
  · have hx := hp2 p.places[i] (List.getElem_mem (by omega))
    refine V_up p.places[i].pieces.length (fun _ => True) (fun j => ([(1, tI core), (5, tU (orAt core (winTo core (p.places.take i)) (p.places[i].pieces.take j))), (11, .s 4 (p.places.map Place.tv)), (12, tI (p.places.length : Nat)), (13, tI (i : Nat)), (18, .s 2 (p.places[i].pieces.map Piece.tv)), (19, tI (p.places[i].pieces.length : Nat)), (20, tI (j : Nat))], [])) trivial ?_ ?_
    · repeat' (conv => whnf
               first | refine Frz.own ?_ | refine Get.mk _ rfl ?_ | refine Get.mk _ (map_geti (by omega)) ?_ | refine Get.mk _ (map_getp (by omega) (by omega)) ?_ | refine Get.mk _ (map_get (by omega)) ?_ | refine Bv2.mk _ _ rfl rfl ?_ | refine Bv1.mk _ rfl ?_ | refine Wr.mk _ (wrap_i64 (by omega) (by omega)) ?_ | refine Wr.mk _ rfl ?_ | refine And.intro len_map ?_ | refine And.intro (leX_refl _) ?_ | refine And.intro rfl ?_ | refine And.intro (leO_some _) ?_ | (refine And.intro (fun h => absurd h (by decide)) (fun h => ?_); clear h) | (refine And.intro (fun h => ?_) (fun h => absurd h (by decide)); clear h) | (with_reducible first | refine sp1 (fun h => ?_) (fun h => ?_) | refine sp2 (fun h => ?_) (fun h => ?_) | refine sp3 (fun h => ?_) (fun h => ?_) | refine sp4 (fun h => ?_) (fun h => ?_) | refine sp5 (fun h => ?_) (fun h => ?_) | refine sp6 (fun h => ?_) (fun h => ?_)) | with_reducible refine And.intro (fun h => ?_) (fun h => ?_) | refine And.intro (Int.natCast_nonneg _) ?_ | refine And.intro (by omega) ?_ | refine And.intro (by decide) ?_ | refine Lst.mk _ rfl ?_ | refine And.intro trivial ?_ | exact trivial | exact leX_refl _ | refine weak_fr ?_ ?_ rfl | refine And.intro ?_ ?_ | fail)
    rintro j hj -
    refine V_x ?_
    repeat' (conv => whnf
             first | refine Frz.own ?_ | refine Get.mk _ rfl ?_ | refine Get.mk _ (map_geti (by omega)) ?_ | refine Get.mk _ (map_getp (by omega) (by omega)) ?_ | refine Get.mk _ (map_get (by omega)) ?_ | refine Bv2.mk _ _ rfl rfl ?_ | refine Bv1.mk _ rfl ?_ | refine Wr.mk _ (wrap_i64 (by omega) (by omega)) ?_ | refine Wr.mk _ rfl ?_ | refine And.intro len_map ?_ | refine And.intro (leX_refl _) ?_ | refine And.intro rfl ?_ | refine And.intro (leO_some _) ?_ | (refine And.intro (fun h => absurd h (by decide)) (fun h => ?_); clear h) | (refine And.intro (fun h => ?_) (fun h => absurd h (by decide)); clear h) | (with_reducible first | refine sp1 (fun h => ?_) (fun h => ?_) | refine sp2 (fun h => ?_) (fun h => ?_) | refine sp3 (fun h => ?_) (fun h => ?_) | refine sp4 (fun h => ?_) (fun h => ?_) | refine sp5 (fun h => ?_) (fun h => ?_) | refine sp6 (fun h => ?_) (fun h => ?_)) | with_reducible refine And.intro (fun h => ?_) (fun h => ?_) | refine And.intro (Int.natCast_nonneg _) ?_ | refine And.intro (by omega) ?_ | refine And.intro (by decide) ?_ | refine Lst.mk _ rfl ?_ | refine And.intro trivial ?_ | exact trivial | exact leX_refl _ | refine weak_fr ?_ ?_ rfl | refine And.intro ?_ ?_ | fail)
    all_goals refine leU ?_
    · rw [orAt_succ (by omega), if_pos (by assumption)]
    · rw [orAt_succ (by omega), if_neg (by assumption)]
    · rw [winTo_succ (by omega), List.take_of_length_le (i := j) (by omega)]
  · refine leU ?_
    rw [List.take_of_length_le (by omega)]; rfl
end Go.Proofs.Ytjmjolefhcjedaa.Vc

namespace Go.Proofs.Ytjmjolefhcjedaa.Vc
open Go Go.RowKit Go.Proofs.Try

def ticksOf (m : BitVec 64) : List Int := ((List.range 64).map fun i : Nat => (i : Int)).filter (hasT m)
def pop (m : BitVec 64) : Nat := (ticksOf m).length
theorem s147 (m : BitVec 64) : Spec prog 147 [tU m] [] (.s 1 ((ticksOf m).map fun c => tI c)) [] := by
  refine spec_s is147 mixed rfl (V_x ?_)
  repeat' (conv => whnf
           first | refine Frz.own ?_ | refine Get.mk _ rfl ?_ | refine Get.mk _ (map_geti (by omega)) ?_ | refine Get.mk _ (map_getp (by omega) (by omega)) ?_ | refine Get.mk _ (map_get (by omega)) ?_ | refine Bv2.mk _ _ rfl rfl ?_ | refine Bv1.mk _ rfl ?_ | refine Wr.mk _ (wrap_i64 (by omega) (by omega)) ?_ | refine Wr.mk _ rfl ?_ | refine And.intro len_map ?_ | refine And.intro (leX_refl _) ?_ | refine And.intro rfl ?_ | refine And.intro (leO_some _) ?_ | (refine And.intro (fun h => absurd h (by decide)) (fun h => ?_); clear h) | (refine And.intro (fun h => ?_) (fun h => absurd h (by decide)); clear h) | (with_reducible first | refine sp1 (fun h => ?_) (fun h => ?_) | refine sp2 (fun h => ?_) (fun h => ?_) | refine sp3 (fun h => ?_) (fun h => ?_) | refine sp4 (fun h => ?_) (fun h => ?_) | refine sp5 (fun h => ?_) (fun h => ?_) | refine sp6 (fun h => ?_) (fun h => ?_)) | with_reducible refine And.intro (fun h => ?_) (fun h => ?_) | refine And.intro (Int.natCast_nonneg _) ?_ | refine And.intro (by omega) ?_ | refine And.intro (by decide) ?_ | refine Lst.mk _ rfl ?_ | refine And.intro trivial ?_ | exact trivial | exact leX_refl _ | refine weak_fr ?_ ?_ rfl | refine And.intro ?_ ?_ | fail)
  refine V_up 64 (fun _ => True) (fun i => ([(0, tU m), (3, .o 96), (4, tI (i : Nat))], [(96, .row 3 1 ((((List.range i).map fun i : Nat => (i : Int)).filter (hasT m)).map fun c => tI c))])) trivial ?_ ?_
  · repeat' (conv => whnf
             first | refine Frz.own ?_ | refine Get.mk _ rfl ?_ | refine Get.mk _ (map_geti (by omega)) ?_ | refine Get.mk _ (map_getp (by omega) (by omega)) ?_ | refine Get.mk _ (map_get (by omega)) ?_ | refine Bv2.mk _ _ rfl rfl ?_ | refine Bv1.mk _ rfl ?_ | refine Wr.mk _ (wrap_i64 (by omega) (by omega)) ?_ | refine Wr.mk _ rfl ?_ | refine And.intro len_map ?_ | refine And.intro (leX_refl _) ?_ | refine And.intro rfl ?_ | refine And.intro (leO_some _) ?_ | (refine And.intro (fun h => absurd h (by decide)) (fun h => ?_); clear h) | (refine And.intro (fun h => ?_) (fun h => absurd h (by decide)); clear h) | (with_reducible first | refine sp1 (fun h => ?_) (fun h => ?_) | refine sp2 (fun h => ?_) (fun h => ?_) | refine sp3 (fun h => ?_) (fun h => ?_) | refine sp4 (fun h => ?_) (fun h => ?_) | refine sp5 (fun h => ?_) (fun h => ?_) | refine sp6 (fun h => ?_) (fun h => ?_)) | with_reducible refine And.intro (fun h => ?_) (fun h => ?_) | refine And.intro (Int.natCast_nonneg _) ?_ | refine And.intro (by omega) ?_ | refine And.intro (by decide) ?_ | refine Lst.mk _ rfl ?_ | refine And.intro trivial ?_ | exact trivial | exact leX_refl _ | refine weak_fr ?_ ?_ rfl | refine And.intro ?_ ?_ | fail)
  rintro i hi -
  refine V_x ?_
  repeat' (conv => whnf
           first | refine Frz.own ?_ | refine Get.mk _ rfl ?_ | refine Get.mk _ (map_geti (by omega)) ?_ | refine Get.mk _ (map_getp (by omega) (by omega)) ?_ | refine Get.mk _ (map_get (by omega)) ?_ | refine Bv2.mk _ _ rfl rfl ?_ | refine Bv1.mk _ rfl ?_ | refine Wr.mk _ (wrap_i64 (by omega) (by omega)) ?_ | refine Wr.mk _ rfl ?_ | refine And.intro len_map ?_ | refine And.intro (leX_refl _) ?_ | refine And.intro rfl ?_ | refine And.intro (leO_some _) ?_ | (refine And.intro (fun h => absurd h (by decide)) (fun h => ?_); clear h) | (refine And.intro (fun h => ?_) (fun h => absurd h (by decide)); clear h) | (with_reducible first | refine sp1 (fun h => ?_) (fun h => ?_) | refine sp2 (fun h => ?_) (fun h => ?_) | refine sp3 (fun h => ?_) (fun h => ?_) | refine sp4 (fun h => ?_) (fun h => ?_) | refine sp5 (fun h => ?_) (fun h => ?_) | refine sp6 (fun h => ?_) (fun h => ?_)) | with_reducible refine And.intro (fun h => ?_) (fun h => ?_) | refine And.intro (Int.natCast_nonneg _) ?_ | refine And.intro (by omega) ?_ | refine And.intro (by decide) ?_ | refine Lst.mk _ rfl ?_ | refine Or.inr (Or.inl ⟨_, _, s82 _ _, leL_refl _, rfl, rfl, ?_⟩) | refine And.intro trivial ?_ | exact trivial | exact leX_refl _ | refine weak_fr ?_ ?_ rfl | refine And.intro ?_ ?_ | fail)
  · have := filter_range_le (f := hasT m) (i := i)
    simp only [List.length_map, List.length_cons, List.length_nil]; omega
  · refine rowO ?_
    rw [filter_range]; simp [*]
  · refine rowO ?_
    rw [filter_range]; simp [*]
  · have hi : i = 64 := by omega
    subst hi
    exact leS rfl
theorem s115 (m : BitVec 64) : Spec prog 115 [tU m] [] (tI (pop m)) [] := by
  refine spec_s is115 mixed rfl (V_x ?_)
  repeat' (conv => whnf
           first | refine Frz.own ?_ | refine Get.mk _ rfl ?_ | refine Get.mk _ (map_geti (by omega)) ?_ | refine Get.mk _ (map_getp (by omega) (by omega)) ?_ | refine Get.mk _ (map_get (by omega)) ?_ | refine Bv2.mk _ _ rfl rfl ?_ | refine Bv1.mk _ rfl ?_ | refine Wr.mk _ (wrap_i64 (by omega) (by omega)) ?_ | refine Wr.mk _ rfl ?_ | refine And.intro len_map ?_ | refine And.intro (leX_refl _) ?_ | refine And.intro rfl ?_ | refine And.intro (leO_some _) ?_ | (refine And.intro (fun h => absurd h (by decide)) (fun h => ?_); clear h) | (refine And.intro (fun h => ?_) (fun h => absurd h (by decide)); clear h) | (with_reducible first | refine sp1 (fun h => ?_) (fun h => ?_) | refine sp2 (fun h => ?_) (fun h => ?_) | refine sp3 (fun h => ?_) (fun h => ?_) | refine sp4 (fun h => ?_) (fun h => ?_) | refine sp5 (fun h => ?_) (fun h => ?_) | refine sp6 (fun h => ?_) (fun h => ?_)) | with_reducible refine And.intro (fun h => ?_) (fun h => ?_) | refine And.intro (Int.natCast_nonneg _) ?_ | refine And.intro (by omega) ?_ | refine And.intro (by decide) ?_ | refine Lst.mk _ rfl ?_ | refine Or.inr (Or.inl ⟨_, _, s147 _, leL_refl _, rfl, rfl, ?_⟩) | refine And.intro trivial ?_ | exact trivial | exact leX_refl _ | refine weak_fr ?_ ?_ rfl | refine And.intro ?_ ?_ | fail)
  refine leI ?_
  simp [pop]
theorem s124 (xs : List Piece) (hx : xs.length ≤ 20) : Spec prog 124 [.s 2 (xs.map Piece.tv)] [] (.s 2 (xs.map Piece.tv)) [] := by
  cases xs with
  | nil =>
    refine spec_s is124 mixed rfl (V_x ?_)
    repeat' (conv => whnf
             first | refine Frz.own ?_ | refine Get.mk _ rfl ?_ | refine Get.mk _ (map_geti (by omega)) ?_ | refine Get.mk _ (map_getp (by omega) (by omega)) ?_ | refine Get.mk _ (map_get (by omega)) ?_ | refine Bv2.mk _ _ rfl rfl ?_ | refine Bv1.mk _ rfl ?_ | refine Wr.mk _ (wrap_i64 (by omega) (by omega)) ?_ | refine Wr.mk _ rfl ?_ | refine And.intro len_map ?_ | refine And.intro (leX_refl _) ?_ | refine And.intro rfl ?_ | refine And.intro (leO_some _) ?_ | (refine And.intro (fun h => absurd h (by decide)) (fun h => ?_); clear h) | (refine And.intro (fun h => ?_) (fun h => absurd h (by decide)); clear h) | (with_reducible first | refine sp1 (fun h => ?_) (fun h => ?_) | refine sp2 (fun h => ?_) (fun h => ?_) | refine sp3 (fun h => ?_) (fun h => ?_) | refine sp4 (fun h => ?_) (fun h => ?_) | refine sp5 (fun h => ?_) (fun h => ?_) | refine sp6 (fun h => ?_) (fun h => ?_)) | with_reducible refine And.intro (fun h => ?_) (fun h => ?_) | refine And.intro (Int.natCast_nonneg _) ?_ | refine And.intro (by omega) ?_ | refine And.intro (by decide) ?_ | refine Lst.mk _ rfl ?_ | refine And.intro trivial ?_ | exact trivial | exact leX_refl _ | refine weak_fr ?_ ?_ rfl | refine And.intro ?_ ?_ | fail)
    · intro b
      cases b
      · repeat' (conv => whnf
                 first | refine Frz.own ?_ | refine Get.mk _ rfl ?_ | refine Get.mk _ (map_geti (by omega)) ?_ | refine Get.mk _ (map_getp (by omega) (by omega)) ?_ | refine Get.mk _ (map_get (by omega)) ?_ | refine Bv2.mk _ _ rfl rfl ?_ | refine Bv1.mk _ rfl ?_ | refine Wr.mk _ (wrap_i64 (by omega) (by omega)) ?_ | refine Wr.mk _ rfl ?_ | refine And.intro len_map ?_ | refine And.intro (leX_refl _) ?_ | refine And.intro rfl ?_ | refine And.intro (leO_some _) ?_ | (refine And.intro (fun h => absurd h (by decide)) (fun h => ?_); clear h) | (refine And.intro (fun h => ?_) (fun h => absurd h (by decide)); clear h) | (with_reducible first | refine sp1 (fun h => ?_) (fun h => ?_) | refine sp2 (fun h => ?_) (fun h => ?_) | refine sp3 (fun h => ?_) (fun h => ?_) | refine sp4 (fun h => ?_) (fun h => ?_) | refine sp5 (fun h => ?_) (fun h => ?_) | refine sp6 (fun h => ?_) (fun h => ?_)) | with_reducible refine And.intro (fun h => ?_) (fun h => ?_) | refine And.intro (Int.natCast_nonneg _) ?_ | refine And.intro (by omega) ?_ | refine And.intro (by decide) ?_ | refine Lst.mk _ rfl ?_ | refine And.intro trivial ?_ | exact trivial | exact leX_refl _ | refine weak_fr ?_ ?_ rfl | refine And.intro ?_ ?_ | fail)
        exact leS rfl
      · repeat' (conv => whnf
                 first | refine Frz.own ?_ | refine Get.mk _ rfl ?_ | refine Get.mk _ (map_geti (by omega)) ?_ | refine Get.mk _ (map_getp (by omega) (by omega)) ?_ | refine Get.mk _ (map_get (by omega)) ?_ | refine Bv2.mk _ _ rfl rfl ?_ | refine Bv1.mk _ rfl ?_ | refine Wr.mk _ (wrap_i64 (by omega) (by omega)) ?_ | refine Wr.mk _ rfl ?_ | refine And.intro len_map ?_ | refine And.intro (leX_refl _) ?_ | refine And.intro rfl ?_ | refine And.intro (leO_some _) ?_ | (refine And.intro (fun h => absurd h (by decide)) (fun h => ?_); clear h) | (refine And.intro (fun h => ?_) (fun h => absurd h (by decide)); clear h) | (with_reducible first | refine sp1 (fun h => ?_) (fun h => ?_) | refine sp2 (fun h => ?_) (fun h => ?_) | refine sp3 (fun h => ?_) (fun h => ?_) | refine sp4 (fun h => ?_) (fun h => ?_) | refine sp5 (fun h => ?_) (fun h => ?_) | refine sp6 (fun h => ?_) (fun h => ?_)) | with_reducible refine And.intro (fun h => ?_) (fun h => ?_) | refine And.intro (Int.natCast_nonneg _) ?_ | refine And.intro (by omega) ?_ | refine And.intro (by decide) ?_ | refine Lst.mk _ rfl ?_ | refine And.intro trivial ?_ | exact trivial | exact leX_refl _ | refine weak_fr ?_ ?_ rfl | refine And.intro ?_ ?_ | fail)
        rfl
  | cons y ys =>
    refine spec_s is124 mixed rfl (V_x ?_)
    repeat' (conv => whnf
             first | refine Frz.own ?_ | refine Get.mk _ rfl ?_ | refine Get.mk _ (map_geti (by omega)) ?_ | refine Get.mk _ (map_getp (by omega) (by omega)) ?_ | refine Get.mk _ (map_get (by omega)) ?_ | refine Bv2.mk _ _ rfl rfl ?_ | refine Bv1.mk _ rfl ?_ | refine Wr.mk _ (wrap_i64 (by omega) (by omega)) ?_ | refine Wr.mk _ rfl ?_ | refine And.intro len_map ?_ | refine And.intro (leX_refl _) ?_ | refine And.intro rfl ?_ | refine And.intro (leO_some _) ?_ | (refine And.intro (fun h => absurd h (by decide)) (fun h => ?_); clear h) | (refine And.intro (fun h => ?_) (fun h => absurd h (by decide)); clear h) | (with_reducible first | refine sp1 (fun h => ?_) (fun h => ?_) | refine sp2 (fun h => ?_) (fun h => ?_) | refine sp3 (fun h => ?_) (fun h => ?_) | refine sp4 (fun h => ?_) (fun h => ?_) | refine sp5 (fun h => ?_) (fun h => ?_) | refine sp6 (fun h => ?_) (fun h => ?_)) | with_reducible refine And.intro (fun h => ?_) (fun h => ?_) | refine And.intro (Int.natCast_nonneg _) ?_ | refine And.intro (by omega) ?_ | refine And.intro (by decide) ?_ | refine Lst.mk _ rfl ?_ | refine And.intro trivial ?_ | exact trivial | exact leX_refl _ | refine weak_fr ?_ ?_ rfl | refine And.intro ?_ ?_ | fail)
    · simp at hx ⊢; omega
    · exact leS rfl
end Go.Proofs.Ytjmjolefhcjedaa.Vc

namespace Go.Proofs.Ytjmjolefhcjedaa.Vc
open Go Go.RowKit Go.Proofs.Try

def withT (m : BitVec 64) (t : Int) : BitVec 64 := if 0 ≤ t ∧ t ≤ 63 then m ||| (1#64 <<< t.toNat) else m
theorem withT_has {m : BitVec 64} {t : Int} (h : hasT m t = true) : withT m t = m := by
  unfold withT
  split
  · ext i hi
    simp only [hasT, Bool.and_eq_true] at h
    simp only [BitVec.getElem_or, BitVec.getElem_shiftLeft]
    by_cases hit : i = t.toNat
    · subst hit
      have : m[t.toNat] = true := by rw [← BitVec.getLsbD_eq_getElem]; exact h.2
      simp [this]
    · by_cases hlt : i < t.toNat
      · simp [hlt]
      · have : ¬ i - t.toNat = 0 := by omega
        simp [hlt, this]
  · rfl
theorem s148 (m : BitVec 64) (t : Int) : Spec prog 148 [tU m, tI t] [] (tU (withT m t)) [] := by
  refine spec_s is148 mixed rfl (V_x ?_)
  repeat' (conv => whnf
           first | refine Frz.own ?_ | refine Get.mk _ rfl ?_ | refine Get.mk _ (map_geti (by omega)) ?_ | refine Get.mk _ (map_getp (by omega) (by omega)) ?_ | refine Get.mk _ (map_get (by omega)) ?_ | refine Bv2.mk _ _ rfl rfl ?_ | refine Bv1.mk _ rfl ?_ | refine Wr.mk _ (wrap_i64 (by omega) (by omega)) ?_ | refine Wr.mk _ rfl ?_ | refine And.intro len_map ?_ | refine And.intro (leX_refl _) ?_ | refine And.intro rfl ?_ | refine And.intro (leO_some _) ?_ | (refine And.intro (fun h => absurd h (by decide)) (fun h => ?_); clear h) | (refine And.intro (fun h => ?_) (fun h => absurd h (by decide)); clear h) | (with_reducible first | refine sp1 (fun h => ?_) (fun h => ?_) | refine sp2 (fun h => ?_) (fun h => ?_) | refine sp3 (fun h => ?_) (fun h => ?_) | refine sp4 (fun h => ?_) (fun h => ?_) | refine sp5 (fun h => ?_) (fun h => ?_) | refine sp6 (fun h => ?_) (fun h => ?_)) | with_reducible refine And.intro (fun h => ?_) (fun h => ?_) | refine And.intro (Int.natCast_nonneg _) ?_ | refine And.intro (by omega) ?_ | refine And.intro (by decide) ?_ | refine Lst.mk _ rfl ?_ | refine Or.inr (Or.inl ⟨_, _, s82 _ _, leL_refl _, rfl, rfl, ?_⟩) | refine And.intro trivial ?_ | exact trivial | exact leX_refl _ | refine weak_fr ?_ ?_ rfl | refine And.intro ?_ ?_ | fail)
  all_goals refine leU ?_
  · unfold withT; rw [if_neg (by omega)]
  · have h1 : (BitVec.ofInt 64 t).toNat = t.toNat := by
      rw [BitVec.toNat_ofInt, Int.emod_eq_of_lt (by omega) (by show t < 18446744073709551616; omega)]
    have h2 : (Int.ofNat (BitVec.ofInt 64 t).toNat).toNat = t.toNat := h1
    have hb : m.getLsbD t.toNat = false := by
      have h3 : hasT m t = false := by assumption
      simp only [hasT, Bool.and_eq_false_iff, decide_eq_false_iff_not] at h3
      rcases h3 with h3 | h3
      · omega
      · exact h3
    rw [h2]
    unfold withT
    rw [if_pos (by omega)]
    refine BitVec.add_eq_or_of_and_eq_zero _ _ ?_
    ext i hi
    simp only [BitVec.getElem_and, BitVec.getElem_shiftLeft, BitVec.getElem_zero]
    by_cases hit : i = t.toNat
    · subst hit
      rw [← BitVec.getLsbD_eq_getElem, hb]; rfl
    · by_cases hlt : i < t.toNat
      · simp [hlt]
      · have : ¬ i - t.toNat = 0 := by omega
        simp [hlt, this]
  · unfold withT; rw [if_neg (by omega)]
  · exact (withT_has (by assumption)).symm
end Go.Proofs.Ytjmjolefhcjedaa.Vc

namespace Go.Proofs.Ytjmjolefhcjedaa.Vc
open Go Go.RowKit Go.Proofs.Try

def rTick (core : Int) (t : Int) (m : BitVec 64) (l : List Place) : BitVec 64 := l.foldl (fun m x => if 0 < x.at core t then withT m t else m) m
def rWin (p : Plan) (core : Int) (n : Nat) : BitVec 64 := (List.range n).foldl (fun m (t : Nat) => rTick core t m p.places) 0#64
theorem rTick_succ {core t : Int} {m : BitVec 64} {l : List Place} {j : Nat} (h : j < l.length) : rTick core t m (l.take (j + 1)) = if 0 < l[j].at core t then withT (rTick core t m (l.take j)) t else rTick core t m (l.take j) := by
  unfold rTick; rw [take_succ' h, List.foldl_append]; rfl
theorem rWin_succ {p : Plan} {core : Int} {n : Nat} : rWin p core (n + 1) = rTick core n (rWin p core n) p.places := by
  unfold rWin; rw [List.range_succ, List.foldl_append]; rfl
set_option maxRecDepth 20000 in
theorem s116 (p : Plan) (core : Int) (hp : p.light) : Spec prog 116 [p.tv, tI core] [] (tU (rWin p core 64)) [] := by
  obtain ⟨hp1, hp2⟩ := hp
  obtain ⟨W, hW⟩ : ∃ W, W = rWin p core := ⟨_, rfl⟩
  obtain ⟨T, hT⟩ : ∃ T, T = fun (i j : Nat) => rTick core i (W i) (p.places.take j) := ⟨_, rfl⟩
  have W0 : W 0 = BitVec.ofNat 64 0 := by rw [hW]; rfl
  have T0 : ∀ i, T i 0 = W i := fun i => by rw [hT]; rfl
  have T1 : ∀ i, T i p.places.length = W (i + 1) := fun i => by rw [hT, hW, rWin_succ]; simp
  rw [← hW]
  refine spec_s is116 mixed rfl (V_x ?_)
  repeat' (conv => whnf
           first | refine Frz.own ?_ | refine Get.mk _ rfl ?_ | refine Get.mk _ (map_geti (by omega)) ?_ | refine Get.mk _ (map_getp (by omega) (by omega)) ?_ | refine Get.mk _ (map_get (by omega)) ?_ | refine Bv2.mk _ _ rfl rfl ?_ | refine Bv1.mk _ rfl ?_ | refine Wr.mk _ (wrap_i64 (by omega) (by omega)) ?_ | refine Wr.mk _ rfl ?_ | refine And.intro len_map ?_ | refine And.intro (leX_refl _) ?_ | refine And.intro rfl ?_ | refine And.intro (leO_some _) ?_ | (refine And.intro (fun h => absurd h (by decide)) (fun h => ?_); clear h) | (refine And.intro (fun h => ?_) (fun h => absurd h (by decide)); clear h) | (with_reducible first | refine sp1 (fun h => ?_) (fun h => ?_) | refine sp2 (fun h => ?_) (fun h => ?_) | refine sp3 (fun h => ?_) (fun h => ?_) | refine sp4 (fun h => ?_) (fun h => ?_) | refine sp5 (fun h => ?_) (fun h => ?_) | refine sp6 (fun h => ?_) (fun h => ?_)) | with_reducible refine And.intro (fun h => ?_) (fun h => ?_) | refine And.intro (Int.natCast_nonneg _) ?_ | refine And.intro (by omega) ?_ | refine And.intro (by decide) ?_ | refine Lst.mk _ rfl ?_ | refine And.intro trivial ?_ | exact trivial | exact leX_refl _ | refine weak_fr ?_ ?_ rfl | refine And.intro ?_ ?_ | fail)
  have hl : (p.places.map Place.tv).length = p.places.length := List.length_map _
  refine V_up 64 (fun _ => True) (fun i => ([(1, tI core), (2, .p 48 0 0), (5, tU (W i)), (6, tI (i : Nat))], [(48, .var 25 p.tv)])) trivial ?_ ?_
  · repeat' (conv => whnf
             first | refine Frz.own ?_ | refine Get.mk _ rfl ?_ | refine Get.mk _ (map_geti (by omega)) ?_ | refine Get.mk _ (map_getp (by omega) (by omega)) ?_ | refine Get.mk _ (map_get (by omega)) ?_ | refine Bv2.mk _ _ rfl rfl ?_ | refine Bv1.mk _ rfl ?_ | refine Wr.mk _ (wrap_i64 (by omega) (by omega)) ?_ | refine Wr.mk _ rfl ?_ | refine And.intro len_map ?_ | refine And.intro (leX_refl _) ?_ | refine And.intro rfl ?_ | refine And.intro (leO_some _) ?_ | (refine And.intro (fun h => absurd h (by decide)) (fun h => ?_); clear h) | (refine And.intro (fun h => ?_) (fun h => absurd h (by decide)); clear h) | (with_reducible first | refine sp1 (fun h => ?_) (fun h => ?_) | refine sp2 (fun h => ?_) (fun h => ?_) | refine sp3 (fun h => ?_) (fun h => ?_) | refine sp4 (fun h => ?_) (fun h => ?_) | refine sp5 (fun h => ?_) (fun h => ?_) | refine sp6 (fun h => ?_) (fun h => ?_)) | with_reducible refine And.intro (fun h => ?_) (fun h => ?_) | refine And.intro (Int.natCast_nonneg _) ?_ | refine And.intro (by omega) ?_ | refine And.intro (by decide) ?_ | refine Lst.mk _ rfl ?_ | refine And.intro trivial ?_ | exact trivial | exact leX_refl _ | refine weak_fr ?_ ?_ rfl | refine And.intro ?_ ?_ | fail)
    exact leU W0.symm
  rintro i hi -
  refine V_x ?_
  repeat' (conv => whnf
           first | refine Frz.own ?_ | refine Get.mk _ rfl ?_ | refine Get.mk _ (map_geti (by omega)) ?_ | refine Get.mk _ (map_getp (by omega) (by omega)) ?_ | refine Get.mk _ (map_get (by omega)) ?_ | refine Bv2.mk _ _ rfl rfl ?_ | refine Bv1.mk _ rfl ?_ | refine Wr.mk _ (wrap_i64 (by omega) (by omega)) ?_ | refine Wr.mk _ rfl ?_ | refine And.intro len_map ?_ | refine And.intro (leX_refl _) ?_ | refine And.intro rfl ?_ | refine And.intro (leO_some _) ?_ | (refine And.intro (fun h => absurd h (by decide)) (fun h => ?_); clear h) | (refine And.intro (fun h => ?_) (fun h => absurd h (by decide)); clear h) | (with_reducible first | refine sp1 (fun h => ?_) (fun h => ?_) | refine sp2 (fun h => ?_) (fun h => ?_) | refine sp3 (fun h => ?_) (fun h => ?_) | refine sp4 (fun h => ?_) (fun h => ?_) | refine sp5 (fun h => ?_) (fun h => ?_) | refine sp6 (fun h => ?_) (fun h => ?_)) | with_reducible refine And.intro (fun h => ?_) (fun h => ?_) | refine And.intro (Int.natCast_nonneg _) ?_ | refine And.intro (by omega) ?_ | refine And.intro (by decide) ?_ | refine Lst.mk _ rfl ?_ | refine And.intro trivial ?_ | exact trivial | exact leX_refl _ | refine weak_fr ?_ ?_ rfl | refine And.intro ?_ ?_ | fail)
  · refine V_up p.places.length (fun _ => True) (fun j => ([(1, tI core), (2, .p 48 0 0), (5, tU (T i j)), (6, tI (i : Nat)), (7, tI (j : Nat))], [(48, .var 25 p.tv)])) trivial ?_ ?_
    · repeat' (conv => whnf
               first | refine Frz.own ?_ | refine Get.mk _ rfl ?_ | refine Get.mk _ (map_geti (by omega)) ?_ | refine Get.mk _ (map_getp (by omega) (by omega)) ?_ | refine Get.mk _ (map_get (by omega)) ?_ | refine Bv2.mk _ _ rfl rfl ?_ | refine Bv1.mk _ rfl ?_ | refine Wr.mk _ (wrap_i64 (by omega) (by omega)) ?_ | refine Wr.mk _ rfl ?_ | refine And.intro len_map ?_ | refine And.intro (leX_refl _) ?_ | refine And.intro rfl ?_ | refine And.intro (leO_some _) ?_ | (refine And.intro (fun h => absurd h (by decide)) (fun h => ?_); clear h) | (refine And.intro (fun h => ?_) (fun h => absurd h (by decide)); clear h) | (with_reducible first | refine sp1 (fun h => ?_) (fun h => ?_) | refine sp2 (fun h => ?_) (fun h => ?_) | refine sp3 (fun h => ?_) (fun h => ?_) | refine sp4 (fun h => ?_) (fun h => ?_) | refine sp5 (fun h => ?_) (fun h => ?_) | refine sp6 (fun h => ?_) (fun h => ?_)) | with_reducible refine And.intro (fun h => ?_) (fun h => ?_) | refine And.intro (Int.natCast_nonneg _) ?_ | refine And.intro (by omega) ?_ | refine And.intro (by decide) ?_ | refine Lst.mk _ rfl ?_ | refine And.intro trivial ?_ | exact trivial | exact leX_refl _ | refine weak_fr ?_ ?_ rfl | refine And.intro ?_ ?_ | fail)
      exact leU (T0 i).symm
    rintro j hj -
    refine V_x ?_
    repeat' (conv => whnf
             first | refine Frz.own ?_ | refine Get.mk _ rfl ?_ | refine Get.mk _ (map_geti (by omega)) ?_ | refine Get.mk _ (map_getp (by omega) (by omega)) ?_ | refine Get.mk _ (map_get (by omega)) ?_ | refine Bv2.mk _ _ rfl rfl ?_ | refine Bv1.mk _ rfl ?_ | refine Wr.mk _ (wrap_i64 (by omega) (by omega)) ?_ | refine Wr.mk _ rfl ?_ | refine And.intro len_map ?_ | refine And.intro (leX_refl _) ?_ | refine And.intro rfl ?_ | refine And.intro (leO_some _) ?_ | (refine And.intro (fun h => absurd h (by decide)) (fun h => ?_); clear h) | (refine And.intro (fun h => ?_) (fun h => absurd h (by decide)); clear h) | (with_reducible first | refine sp1 (fun h => ?_) (fun h => ?_) | refine sp2 (fun h => ?_) (fun h => ?_) | refine sp3 (fun h => ?_) (fun h => ?_) | refine sp4 (fun h => ?_) (fun h => ?_) | refine sp5 (fun h => ?_) (fun h => ?_) | refine sp6 (fun h => ?_) (fun h => ?_)) | with_reducible refine And.intro (fun h => ?_) (fun h => ?_) | refine And.intro (Int.natCast_nonneg _) ?_ | refine And.intro (by omega) ?_ | refine And.intro (by decide) ?_ | refine Lst.mk _ rfl ?_ | refine Or.inr (Or.inl ⟨_, _, s107 _ core i (hp2 _ (List.getElem_mem (by omega))), leL_refl _, rfl, rfl, ?_⟩) | refine Or.inr (Or.inl ⟨_, _, s148 _ _, leL_refl _, rfl, rfl, ?_⟩) | refine And.intro trivial ?_ | exact trivial | exact leX_refl _ | refine weak_fr ?_ ?_ rfl | refine And.intro ?_ ?_ | fail)
    all_goals refine leU ?_
    · rw [hT]
      show withT (rTick core i (W i) (p.places.take j)) i = rTick core i (W i) (p.places.take (j + 1))
      rw [rTick_succ (by omega), if_pos (by omega)]
    · rw [hT]
      show rTick core i (W i) (p.places.take j) = rTick core i (W i) (p.places.take (j + 1))
      rw [rTick_succ (by omega), if_neg (by omega)]
    · rw [← T1, show j = p.places.length by omega]
  · have hi : i = 64 := by omega
    subst hi
    exact leU rfl
end Go.Proofs.Ytjmjolefhcjedaa.Vc

namespace Go.Proofs.Ytjmjolefhcjedaa.Vc
/-! What a right plan is. -/

def allB (f : Int) : BitVec 64 := BitVec.ofNat 64 (2 ^ (frameOf f).toNat - 1)
theorem frameOf_le (f : Int) : (frameOf f).toNat ≤ 64 := by unfold frameOf; omega
theorem hasT_allB (f : Int) (t : Nat) : hasT (allB f) t = decide ((t : Int) < f ∧ t < 64) := by
  rw [hasT_nat, allB, BitVec.getLsbD_ofNat, Nat.testBit_two_pow_sub_one]
  rw [Bool.eq_iff_iff]
  simp [frameOf]
  omega

def Place.masks (x : Place) : List (BitVec 64) := x.pieces.map Piece.ticks
def Place.cnt (x : Place) (t : Nat) : Nat := Go.Proofs.Ytjmjolefhcjedaa.Vc.cnt x.masks t
theorem Place.at_neg (x : Place) (t : Nat) : x.at (-1) t = x.cnt t := by
  unfold Place.at Place.cnt Go.Proofs.Ytjmjolefhcjedaa.Vc.cnt Place.masks
  rw [List.countP_map]
  refine List.countP_congr fun y _ => ?_
  simp
/-- A split place whose pieces are right. -/
def Place.sp (p : Plan) (x : Place) : Prop :=
  (∀ y ∈ x.pieces, p.has y.core = true ∧ y.ticks ≠ 0#64) ∧ x.pieces.Pairwise (fun a b => a.core < b.core) ∧ (∀ t, t < 64 → x.cnt t ≤ 1 ∧ (0 < x.cnt t → (t : Int) < p.frame)) ∧
    2 ≤ x.pieces.length ∧ x.core = 0 ∧ ((sumTo x.cnt 64 : Nat) : Int) = x.share
def Place.ok (p : Plan) (x : Place) : Prop := isUnit x.unit = true ∧ 1 ≤ x.share ∧ x.share ≤ p.frame ∧ (if x.pieces = [] then p.has x.core = true else x.sp p)
def Plan.atc (p : Plan) (c t : Int) : Nat := (p.places.map fun x => x.at c t).sum
def shareSum (l : List Want) : Int := (l.map Want.share).sum
def Plan.load (p : Plan) (c : Int) : Int := popN (p.windows c) 64 + shareSum (p.wholes c)
structure Plan.right (p : Plan) : Prop where
  lo : 2 ≤ p.frame
  hi : p.frame ≤ 64
  cs : p.cores ≠ 0#32
  cm : p.cores.toNat ≤ 65535
  ok : ∀ x ∈ p.places, x.ok p
  pw : p.places.Pairwise fun a b => a.unit < b.unit
  apart : ∀ c : Nat, c < 16 → ∀ t : Nat, t < 64 → p.atc c t ≤ 1
  few : p.splits < p.coresI.length
  room : ∀ c ∈ p.coresI, p.load c ≤ p.frame

theorem pw_step {α : Type} {k : α → Int} {l : List α} {i : Nat} (hi : i < l.length) (h : (l.take i).Pairwise fun a b => k a < k b) : (l.take (i + 1)).Pairwise (fun a b => k a < k b) ↔ (∀ h0 : 0 < i, k l[i - 1] < k l[i]) := by
  rw [take_succ' hi, List.pairwise_append]
  constructor
  · rintro ⟨_, _, h3⟩ h0
    refine h3 l[i - 1] ?_ l[i] (by simp)
    rw [List.mem_take_iff_getElem]
    exact ⟨i - 1, by omega, rfl⟩
  · intro h3
    refine ⟨h, by simp, fun a ha b hb => ?_⟩
    obtain rfl := List.mem_singleton.1 hb
    rw [List.mem_take_iff_getElem] at ha
    obtain ⟨j, hj, rfl⟩ := ha
    have h4 := h3 (by omega)
    by_cases hji : j = i - 1
    · subst hji; exact h4
    · have := List.pairwise_iff_getElem.1 h j (i - 1) (by simp; omega) (by simp; omega) (by omega)
      simp only [List.getElem_take] at this
      omega
theorem pw_take {α : Type} {R : α → α → Prop} {l : List α} (i : Nat) (h : l.Pairwise R) : (l.take i).Pairwise R := h.sublist (List.take_sublist i l)
theorem mem_snoc {α : Type} {l : List α} {i : Nat} (hi : i < l.length) {P : α → Prop} : (∀ x ∈ l.take (i + 1), P x) ↔ (∀ x ∈ l.take i, P x) ∧ P l[i] := by
  rw [take_succ' hi]
  simp only [List.mem_append, List.mem_singleton]
  constructor
  · intro h; exact ⟨fun x hx => h x (.inl hx), h _ (.inr rfl)⟩
  · rintro ⟨h1, h2⟩ x (hx | rfl)
    · exact h1 x hx
    · exact h2

/-- The program's way. -/
def Place.spP (p : Plan) (x : Place) : Prop :=
  (∀ y ∈ x.pieces, p.has y.core = true ∧ y.ticks ≠ 0#64 ∧ y.ticks &&& ~~~ allB p.frame = 0#64) ∧ x.pieces.Pairwise (fun a b => a.core < b.core) ∧ disj 0#64 x.masks ∧ 2 ≤ x.pieces.length ∧ x.core = 0 ∧ ((popN (orAll x.masks) 64 : Nat) : Int) = x.share
theorem hasT_not (a : BitVec 64) (t : Nat) (h : t < 64) : hasT (~~~ a) t = !hasT a t := by
  rw [hasT_nat, hasT_nat, BitVec.getLsbD_not]; simp [h]
theorem in_frame {m : BitVec 64} {f : Int} : m &&& ~~~ allB f = 0#64 ↔ ∀ t : Nat, t < 64 → hasT m t = true → (t : Int) < f := by
  rw [and_zero]
  refine forall_congr' fun t => forall_congr' fun ht => ?_
  rw [hasT_not _ _ ht, hasT_allB]
  simp [ht]
theorem sp_iff (p : Plan) (x : Place) : x.sp p ↔ x.spP p := by
  unfold Place.sp Place.spP
  rw [disj_zero]
  constructor
  · rintro ⟨h1, h2, h3, h4, h5, h6⟩
    refine ⟨fun y hy => ⟨(h1 y hy).1, (h1 y hy).2, ?_⟩, h2, fun t ht => (h3 t ht).1, h4, h5, ?_⟩
    · rw [in_frame]
      intro t ht hh
      refine (h3 t ht).2 ?_
      unfold Place.cnt Go.Proofs.Ytjmjolefhcjedaa.Vc.cnt Place.masks
      rw [List.countP_map, List.countP_pos_iff]
      exact ⟨y, hy, hh⟩
    · rw [pop_orAll (fun t ht => (h3 t ht).1)]; exact h6
  · rintro ⟨h1, h2, h3, h4, h5, h6⟩
    refine ⟨fun y hy => ⟨(h1 y hy).1, (h1 y hy).2.1⟩, h2, fun t ht => ⟨h3 t ht, fun h0 => ?_⟩, h4, h5, ?_⟩
    · unfold Place.cnt Go.Proofs.Ytjmjolefhcjedaa.Vc.cnt Place.masks at h0
      rw [List.countP_map, List.countP_pos_iff] at h0
      obtain ⟨y, hy, hh⟩ := h0
      exact in_frame.1 (h1 y hy).2.2 t ht hh
    · rw [pop_orAll h3] at h6; exact h6

theorem has_range {p : Plan} {c : Int} (h : p.has c = true) : 0 ≤ c ∧ c ≤ 15 := by
  simp [Plan.has, hasT] at h; omega
/-- Windows, tick by tick. -/
theorem hasT_orAt (c : Int) (l : List Piece) : ∀ (a : BitVec 64) (t : Int), hasT (orAt c a l) t = (hasT a t || l.any fun y => decide (y.core = c) && hasT y.ticks t) := by
  induction l with
  | nil => intro a t; simp [orAt]
  | cons y l ih =>
    intro a t
    have e : orAt c a (y :: l) = orAt c (if y.core = c then a ||| y.ticks else a) l := rfl
    rw [e, ih, List.any_cons]
    by_cases h : y.core = c
    · simp [h, hasT_or, Bool.or_assoc]
    · simp [h]
theorem hasT_winFold (c : Int) (l : List Place) : ∀ (a : BitVec 64) (t : Int), hasT (l.foldl (fun a x => orAt c a x.pieces) a) t = (hasT a t || l.any fun x => x.pieces.any fun y => decide (y.core = c) && hasT y.ticks t) := by
  induction l with
  | nil => intro a t; simp
  | cons x l ih => intro a t; rw [List.foldl_cons, ih, hasT_orAt, List.any_cons, Bool.or_assoc]
theorem hasT_windows (p : Plan) (c t : Int) : hasT (p.windows c) t = p.places.any fun x => x.pieces.any fun y => decide (y.core = c) && hasT y.ticks t := by
  unfold Plan.windows winTo; rw [hasT_winFold, hasT_zero, Bool.false_or]
theorem at_pos (x : Place) {c t : Int} (hc : 0 ≤ c) : decide (0 < x.at c t) = x.pieces.any fun y => decide (y.core = c) && hasT y.ticks t := by
  rw [Bool.eq_iff_iff, decide_eq_true_eq, Place.at, List.countP_pos_iff, List.any_eq_true]
  have : decide (c < 0) = false := by simpa using hc
  simp [this]
theorem hasT_withT (m : BitVec 64) (t s : Nat) (ht : t < 64) : hasT (withT m t) s = (hasT m s || decide (s = t)) := by
  unfold withT
  rw [if_pos (by omega), hasT_or]
  congr 1
  rw [hasT_nat, Int.toNat_natCast, BitVec.getLsbD_shiftLeft, Bool.eq_iff_iff, decide_eq_true_eq]
  rcases Nat.lt_trichotomy s t with h | h | h
  · simp [h]; omega
  · subst h; simp [ht]
  · have h1 : ¬ s - t = 0 := by omega
    have h2 : ¬ s < t := by omega
    have h3 : s ≠ t := by omega
    by_cases h4 : s < 64 <;> simp [h2, h3, h4, h1]
theorem rTick_has (core : Int) (t s : Nat) (ht : t < 64) : ∀ (l : List Place) (m : BitVec 64), hasT (rTick core t m l) s = (hasT m s || (decide (s = t) && l.any fun x => decide (0 < x.at core t))) := by
  intro l
  induction l with
  | nil => intro m; simp [rTick]
  | cons x l ih =>
    intro m
    have e : rTick core t m (x :: l) = rTick core t (if 0 < x.at core t then withT m t else m) l := rfl
    rw [e, ih, List.any_cons]
    by_cases h : 0 < x.at core t
    · rw [if_pos h, hasT_withT _ _ _ ht]
      cases hasT m s <;> by_cases h2 : s = t <;> simp [h, h2]
    · rw [if_neg h]; simp [h]
theorem rWin_has (p : Plan) (core : Int) (s : Nat) : ∀ n, n ≤ 64 → hasT (rWin p core n) s = (decide (s < n) && p.places.any fun x => decide (0 < x.at core s)) := by
  intro n
  induction n with
  | zero => intro _; simp [rWin, hasT_zero]
  | succ n ih =>
    intro hn
    rw [rWin_succ, rTick_has core n s (by omega), ih (by omega)]
    rcases Nat.lt_trichotomy s n with h | h | h
    · have h1 : s < n + 1 := by omega
      have h2 : s ≠ n := by omega
      simp [h, h1, h2]
    · subst h; simp
    · have h1 : ¬ s < n + 1 := by omega
      have h2 : s ≠ n := by omega
      have h3 : ¬ s < n := by omega
      simp [h1, h2, h3]
theorem rWin_eq (p : Plan) {core : Int} (hc : 0 ≤ core) : rWin p core 64 = p.windows core := by
  refine bv_ext fun s hs => ?_
  rw [rWin_has p core s 64 (Nat.le_refl _), hasT_windows]
  simp only [hs, decide_true, Bool.true_and]
  congr 1
  funext x
  rw [at_pos x hc]

theorem pop_eq (m : BitVec 64) : pop m = popN m 64 := by
  unfold pop ticksOf popN
  rw [← List.countP_eq_length_filter, List.countP_map]
  rfl
end Go.Proofs.Ytjmjolefhcjedaa.Vc
