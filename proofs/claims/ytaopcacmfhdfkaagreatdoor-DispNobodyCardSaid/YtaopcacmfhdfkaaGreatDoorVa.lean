/- Abstract values, and what they say of a program's memory: words for a walk over Go code; for every program. -/
import Derived.Below
import Derived.Calls
import Derived.Laws.OwnMore
import Derived.Laws.AppendOwn
import Derived.Laws.StructEq
import Derived.Laws.MakeOwn
import Derived.Laws.Slices
import Derived.Laws.Build
import Derived.Maps.AppendAt
import Derived.Laws.BytesArg
namespace Go.Proofs.YtaopcacmfhdfkaaGreatDoor.Vc
open Go
set_option linter.unusedSimpArgs false
set_option linter.unusedVariables false
theorem viewStore_drawn {p : Program} {w : World} {at_ : Addr} {u : TypeId} {k : Addr} {v : Value} {b : Bool} {r : World × List Addr} (h : w.viewStore p at_ u k v b = .ok r) : r.1.drawn = w.drawn := by
  unfold World.viewStore at h
  simp only [bind, Except.bind, pure, Except.pure, throw, throwThe, MonadExceptOf.throw] at h
  repeat' split at h
  all_goals first
    | (cases h; done)
    | (cases h; rfl)
theorem farStore_drawn {p : Program} {w : World} {a : Addr} {v : Value} {b : Bool} {r : World × List Addr} (h : w.farStore p a v b = .ok r) : r.1.drawn = w.drawn := by
  unfold World.farStore at h
  split at h
  · split at h
    · rename_i h2
      simp only [Except.ok.injEq] at h; subst h
      exact viewStore_drawn h2
    · cases h
  · cases h
theorem ask_drawn {α : Type} : ∀ (k : Ask α) (w : World), w.drawn ≤ (w.ask k).2.drawn
  | .done a, w => Nat.le_refl _
  | .ask what range k, w => by
    unfold World.ask
    simp only
    split
    · exact ask_drawn _ _
    · exact Nat.le_trans (Nat.le_succ _) (ask_drawn (k _) { w with drawn := w.drawn + 1 })
theorem sys_drawn (w : World) (c : Sys) : w.drawn ≤ (w.sys c).2.drawn := by
  unfold World.sys
  have := ask_drawn (Kernel.perform c w.os) w
  split
  · exact Nat.le_refl _
  · rename_i h
    rw [h] at this; exact this
/-- No run lowers the count of draws. -/
theorem run_drawn {α : Type} {P : Program} : ∀ (m : Sem α) (w : World) {x : α} {w' : World}, m.run P w = .ok x w' → w.drawn ≤ w'.drawn
  | .pure a, w, x, w', h => by simp only [Sem.run, Result.ok.injEq] at h; rw [← h.2]; exact Nat.le_refl _
  | .load m a k, w, x, w', h => by
    simp only [Sem.run] at h
    split at h
    · exact run_drawn _ _ h
    · split at h
      · exact run_drawn _ _ h
      · cases h
  | .store m a v k, w, x, w', h => by
    have key : ∀ v, (match w.cell? a with
        | some _ => if w.frozen? a then Result.halt (.unsupported (.unsafePointer "a write to bytes that a string shares")) w else k.run P (w.setCell a v)
        | none => match w.farStore P a v (m == Mode.atomic) with
          | .ok (w, _) => k.run P w
          | .error h => .halt h w) = .ok x w' → w.drawn ≤ w'.drawn := by
      intro v h
      split at h
      · split at h
        · cases h
        · exact run_drawn k (w.setCell a v) h
      · split at h
        · rename_i h2
          have := run_drawn k _ h
          have e := farStore_drawn h2
          simp only at e
          omega
        · cases h
    cases v <;> first
      | (exact key _ h)
      | (simp [Sem.run] at h; done)
  | .new o k, w, x, w', h => run_drawn (k w.heap.size) { w with heap := w.heap.push o } h
  | .shape r k, w, x, w', h => run_drawn (k (w.shape? r)) w h
  | .freeze a n k, w, x, w', h => by
    have := run_drawn k (w.freeze a n) h
    have e : (w.freeze a n).drawn = w.drawn := by unfold World.freeze; split <;> rfl
    rw [e] at this; exact this
  | .frozen a k, w, x, w', h => run_drawn (k (w.frozen? a)) w h
  | .getObj r k, w, x, w', h => by
    simp only [Sem.run] at h
    split at h
    · cases h
    · exact run_drawn _ _ h
    · cases h
  | .setObj r o k, w, x, w', h => by
    simp only [Sem.run] at h
    split at h
    · cases h
    · exact run_drawn k { w with heap := w.heap.setIfInBounds r o } h
    · cases h
  | .choose q k, w, x, w', h => by
    simp only [Sem.run] at h
    split at h
    · exact run_drawn _ _ h
    · exact Nat.le_trans (Nat.le_succ _) (run_drawn _ { w with drawn := w.drawn + 1 } h)
  | .sys c k, w, x, w', h => Nat.le_trans (sys_drawn w c) (run_drawn (k (w.sys c).1) (w.sys c).2 h)
  | .program k, w, x, w', h => run_drawn (k P) w h
  | .mark m k, w, x, w', h => run_drawn k w h
  | .halt h0, w, x, w', h => by simp [Sem.run] at h
end Go.Proofs.YtaopcacmfhdfkaaGreatDoor.Vc

namespace Go.Proofs.YtaopcacmfhdfkaaGreatDoor.Vc
open Go Go.RowKit
set_option linter.unusedSimpArgs false
set_option linter.unusedVariables false

/-- Abstract values. -/
inductive TV where
  | v (x : Value)
  | a (cs : List TV)
  | s (sz : Nat) (xs : List TV)
  | r (cs : List TV)
  | o (d : Nat)
  | p (d i off : Nat)
  | x (t : TypeId) (y : TV)
  | f (fn : Fn) (cap : List TV)
  | t (xs : List TV)
  | dead
  deriving Inhabited

/-- Objects of the call's own (or handed over): a variable, a slice's row. -/
inductive Ob where
  | var (ty : TypeId) (x : TV)
  | row (ty : TypeId) (sz : Nat) (xs : List TV)

abbrev Obs := Nat → Option Ob

def noObs : Obs := fun _ => none

def plain : Value → Bool
  | .bool _ | .int _ _ | .string _ | .nilFunc | .nilIface | .pointer none | .slice none 0 0 | .map none | .float _ _ => true
  | .func _ ⟨[]⟩ ⟨[]⟩ => true
  | _ => false

def blkOf : Value → Option Nat
  | .pointer (some a) => some a.block
  | .slice (some a) _ _ => some a.block
  | _ => none

/-- A pointer's offset in its block. -/
def Ob.at (o : Ob) (i off : Nat) : Nat := match o with | .var _ _ => off | .row _ sz _ => i * sz + off

mutual
/-- What an abstract value says of a value. -/
def Rel (w : World) (ok : Nat → Prop) (E : Nat → Value) : Obs → TV → Value → Prop
  | _, .v x, y => plain x = true ∧ y = x
  | ob, .a cs, y => ∃ ys : List Value, y = .agg ys.toArray ∧ (∀ u ∈ ys, u.oneCell' = true) ∧ RelL w ok E ob cs ys
  | _, .s sz xs, y => ∃ A c, y = .slice A xs.length c ∧ xs.length ≤ c ∧ (xs ≠ [] → ∃ ad, A = some ad ∧ ok ad.block ∧ ad.block < w.heap.size ∧ RelE w ok E sz ad 0 xs)
  | _, .r cs, y => ∃ ad us, y = .pointer (some ad) ∧ ok ad.block ∧ ad.block < w.heap.size ∧ RelL w ok E noObs cs us ∧ (∀ u ∈ us, u.oneCell' = true) ∧ (∀ j u, us[j]? = some u → w.cell? (ad.add j) = some u)
  | ob, .o d, y => (∃ ty sz xs, ob d = some (.row ty sz xs)) ∧ y = E d ∧ ∃ A n c, y = .slice A n c
  | ob, .p d i off, y => ∃ o, ob d = some o ∧ ∃ g, blkOf (E d) = some g ∧ y = .pointer (some ⟨g, o.at i off, none⟩)
  | ob, .x t z, y => ∃ u, y = .iface t u ∧ Rel w ok E ob z u
  | ob, .f fn cap, y => ∃ us : List Value, y = .func fn #[] us.toArray ∧ RelL w ok E ob cap us
  | ob, .t xs, y => ∃ us : List Value, y = .tuple us.toArray ∧ RelL w ok E ob xs us
  | _, .dead, _ => True
def RelL (w : World) (ok : Nat → Prop) (E : Nat → Value) : Obs → List TV → List Value → Prop
  | _, [], ys => ys = []
  | ob, x :: xs, ys => ∃ u us, ys = u :: us ∧ Rel w ok E ob x u ∧ RelL w ok E ob xs us
def RelE (w : World) (ok : Nat → Prop) (E : Nat → Value) (sz : Nat) (ad : Addr) : Nat → List TV → Prop
  | _, [] => True
  | k, x :: xs => (∃ y : Value, Rel w ok E noObs x y ∧ y.cells.toList.length = sz ∧ (∀ u ∈ y.cells.toList, u.oneCell' = true) ∧ ∀ j u, y.cells.toList[j]? = some u → w.cell? (ad.add (k * sz + j)) = some u) ∧ RelE w ok E sz ad (k + 1) xs
end

mutual
/-- References to objects turned into something else. -/
def TV.sub (fo : Nat → TV) (fp : Nat → Nat → Nat → TV) : TV → TV
  | .o d => fo d
  | .p d i off => fp d i off
  | .a cs => .a (subL fo fp cs)
  | .x t z => .x t (z.sub fo fp)
  | .f fn cap => .f fn (subL fo fp cap)
  | .t xs => .t (subL fo fp xs)
  | .v x => .v x
  | .s sz xs => .s sz xs
  | .r cs => .r cs
  | .dead => .dead
def subL (fo : Nat → TV) (fp : Nat → Nat → Nat → TV) : List TV → List TV
  | [] => []
  | x :: xs => x.sub fo fp :: subL fo fp xs
end

theorem subL_eq (fo : Nat → TV) (fp : Nat → Nat → Nat → TV) (l : List TV) : subL fo fp l = l.map (·.sub fo fp) := by
  induction l with
  | nil => rfl
  | cons x xs ih => simp [subL, ih]

mutual
theorem TV.sub_id : ∀ x : TV, x.sub .o .p = x
  | .o _ | .p _ _ _ | .v _ | .s _ _ | .r _ | .dead => rfl
  | .a cs => by simp [TV.sub, subL_id cs]
  | .x t z => by simp [TV.sub, TV.sub_id z]
  | .f fn cap => by simp [TV.sub, subL_id cap]
  | .t xs => by simp [TV.sub, subL_id xs]
theorem subL_id : ∀ l : List TV, subL .o .p l = l
  | [] => rfl
  | x :: xs => by simp [subL, TV.sub_id x, subL_id xs]
end

section
variable {w w' : World} {ok ok' : Nat → Prop} {E E' : Nat → Value}
theorem cell_same {a : Addr} {n : Nat} (h : w'.heap[a.block]? = w.heap[a.block]?) : w'.cell? (a.add n) = w.cell? (a.add n) := by
  have : (a.add n).block = a.block := by unfold Addr.add; split <;> rfl
  exact World.cell?_of_block (by rw [this]; exact h)

mutual
theorem Rel.gen {ob ob' : Obs} {fo : Nat → TV} {fp : Nat → Nat → Nat → TV}
    (hk : ∀ k, ok k → k < w.heap.size → ok' k ∧ w'.heap[k]? = w.heap[k]?) (hs : w.heap.size ≤ w'.heap.size)
    (ho : ∀ d y, Rel w ok E ob (.o d) y → Rel w' ok' E' ob' (fo d) y)
    (hp : ∀ d i off y, Rel w ok E ob (.p d i off) y → Rel w' ok' E' ob' (fp d i off) y) :
    ∀ (x : TV) (y : Value), Rel w ok E ob x y → Rel w' ok' E' ob' (x.sub fo fp) y
  | .o d, y, h => ho d y h
  | .p d i off, y, h => hp d i off y h
  | .v x, y, h => by simpa [TV.sub, Rel] using h
  | .a cs, y, h => by
    simp only [Rel, TV.sub] at h ⊢
    obtain ⟨ys, e, h1, h2⟩ := h
    exact ⟨ys, e, h1, RelL.gen hk hs ho hp cs ys h2⟩
  | .s sz xs, y, h => by
    simp only [Rel, TV.sub] at h ⊢
    obtain ⟨A, c, e, hc, h1⟩ := h
    refine ⟨A, c, e, hc, fun hx => ?_⟩
    obtain ⟨ad, e1, h2, h3, h4⟩ := h1 hx
    exact ⟨ad, e1, (hk _ h2 h3).1, Nat.lt_of_lt_of_le h3 hs, RelE.gen hk hs xs 0 (fun n => cell_same (hk _ h2 h3).2) h4⟩
  | .r cs, y, h => by
    simp only [Rel, TV.sub] at h ⊢
    obtain ⟨ad, us, e, h2, h3, h4, h5, h6⟩ := h
    refine ⟨ad, us, e, (hk _ h2 h3).1, Nat.lt_of_lt_of_le h3 hs, ?_, h5, fun j u hu => (cell_same (hk _ h2 h3).2).trans (h6 j u hu)⟩
    have := RelL.gen (ob := noObs) (ob' := noObs) (fo := .o) (fp := .p) hk hs (fun d y h => by simp [Rel, noObs] at h) (fun d i off y h => by simp [Rel, noObs] at h) cs us h4
    rwa [subL_id] at this
  | .x t z, y, h => by
    simp only [Rel, TV.sub] at h ⊢
    obtain ⟨u, e, h1⟩ := h
    exact ⟨u, e, Rel.gen hk hs ho hp z u h1⟩
  | .f fn cap, y, h => by
    simp only [Rel, TV.sub] at h ⊢
    obtain ⟨us, e, h1⟩ := h
    exact ⟨us, e, RelL.gen hk hs ho hp cap us h1⟩
  | .t xs, y, h => by
    simp only [Rel, TV.sub] at h ⊢
    obtain ⟨us, e, h1⟩ := h
    exact ⟨us, e, RelL.gen hk hs ho hp xs us h1⟩
  | .dead, y, h => by simp [TV.sub, Rel]
theorem RelL.gen {ob ob' : Obs} {fo : Nat → TV} {fp : Nat → Nat → Nat → TV}
    (hk : ∀ k, ok k → k < w.heap.size → ok' k ∧ w'.heap[k]? = w.heap[k]?) (hs : w.heap.size ≤ w'.heap.size)
    (ho : ∀ d y, Rel w ok E ob (.o d) y → Rel w' ok' E' ob' (fo d) y)
    (hp : ∀ d i off y, Rel w ok E ob (.p d i off) y → Rel w' ok' E' ob' (fp d i off) y) :
    ∀ (xs : List TV) (ys : List Value), RelL w ok E ob xs ys → RelL w' ok' E' ob' (subL fo fp xs) ys
  | [], ys, h => by simpa [RelL, subL] using h
  | x :: xs, ys, h => by
    simp only [RelL, subL] at h ⊢
    obtain ⟨u, us, e, h1, h2⟩ := h
    exact ⟨u, us, e, Rel.gen hk hs ho hp x u h1, RelL.gen hk hs ho hp xs us h2⟩
theorem RelE.gen {sz : Nat} {ad : Addr}
    (hk : ∀ k, ok k → k < w.heap.size → ok' k ∧ w'.heap[k]? = w.heap[k]?) (hs : w.heap.size ≤ w'.heap.size) :
    ∀ (xs : List TV) (k : Nat), (∀ n, w'.cell? (ad.add n) = w.cell? (ad.add n)) → RelE w ok E sz ad k xs → RelE w' ok' E' sz ad k xs
  | [], k, _, h => by simp [RelE]
  | x :: xs, k, hc, h => by
    simp only [RelE] at h ⊢
    obtain ⟨⟨y, h1, h2, h3, h4⟩, h5⟩ := h
    refine ⟨⟨y, ?_, h2, h3, fun j u hu => (hc _).trans (h4 j u hu)⟩, RelE.gen hk hs xs (k + 1) hc h5⟩
    have := Rel.gen (ob := noObs) (ob' := noObs) (fo := .o) (fp := .p) hk hs (fun d y h => by simp [Rel, noObs] at h) (fun d i off y h => by simp [Rel, noObs] at h) x y h1
    rwa [TV.sub_id] at this
end

/-- The same, the references left as they are. -/
theorem Rel.move {ob ob' : Obs} (hk : ∀ k, ok k → k < w.heap.size → ok' k ∧ w'.heap[k]? = w.heap[k]?) (hs : w.heap.size ≤ w'.heap.size)
    (ho : ∀ d o, ob d = some o → E' d = E d ∧ ∃ o', ob' d = some o' ∧ (∀ i off, o'.at i off = o.at i off) ∧ ((∃ ty sz xs, o = .row ty sz xs) → ∃ ty sz xs, o' = .row ty sz xs))
    {x : TV} {y : Value} (h : Rel w ok E ob x y) : Rel w' ok' E' ob' x y := by
  have := Rel.gen (ob := ob) (ob' := ob') (fo := .o) (fp := .p) (E' := E') hk hs (fun d y h => by
    simp only [Rel] at h ⊢
    obtain ⟨⟨ty, sz, xs, h1⟩, e, hq⟩ := h
    obtain ⟨h2, o', h3, _, h5⟩ := ho d _ h1
    obtain ⟨ty', sz', xs', rfl⟩ := h5 ⟨_, _, _, rfl⟩
    exact ⟨⟨_, _, _, h3⟩, by rw [h2]; exact e, hq⟩) (fun d i off y h => by
    simp only [Rel] at h ⊢
    obtain ⟨o, h1, g, hg, e⟩ := h
    obtain ⟨h2, o', h3, h4, _⟩ := ho d _ h1
    exact ⟨o', h3, g, by rw [h2]; exact hg, by rw [h4]; exact e⟩) x y h
  rwa [TV.sub_id] at this

theorem Rel.imm {ob : Obs} (hk : ∀ k, ok k → k < w.heap.size → ok' k ∧ w'.heap[k]? = w.heap[k]?) (hs : w.heap.size ≤ w'.heap.size)
    {x : TV} {y : Value} (h : Rel w ok E noObs x y) : Rel w' ok' E' ob x y :=
  h.move hk hs (fun d o hd => by simp [noObs] at hd)
end

theorem RelL.length {w : World} {ok : Nat → Prop} {E : Nat → Value} {ob : Obs} : ∀ {xs : List TV} {ys : List Value}, RelL w ok E ob xs ys → ys.length = xs.length
  | [], ys, h => by simp only [RelL] at h; simp [h]
  | x :: xs, ys, h => by
    simp only [RelL] at h
    obtain ⟨u, us, rfl, _, h2⟩ := h
    simp [h2.length]
theorem RelL.get {w : World} {ok : Nat → Prop} {E : Nat → Value} {ob : Obs} : ∀ {xs : List TV} {ys : List Value}, RelL w ok E ob xs ys → ∀ (i : Nat) (x : TV), xs[i]? = some x → ∃ y, ys[i]? = some y ∧ Rel w ok E ob x y
  | [], ys, h, i, x, hx => by simp at hx
  | z :: xs, ys, h, i, x, hx => by
    simp only [RelL] at h
    obtain ⟨u, us, rfl, h1, h2⟩ := h
    cases i with
    | zero => simp at hx; subst hx; exact ⟨u, by simp, h1⟩
    | succ i => simpa using h2.get i x (by simpa using hx)
theorem RelL.of_get {w : World} {ok : Nat → Prop} {E : Nat → Value} {ob : Obs} : ∀ {xs : List TV} {ys : List Value}, ys.length = xs.length → (∀ (i : Nat) (x : TV), xs[i]? = some x → ∃ y, ys[i]? = some y ∧ Rel w ok E ob x y) → RelL w ok E ob xs ys
  | [], ys, h, _ => by simp only [RelL]; exact List.eq_nil_of_length_eq_zero (by simpa using h)
  | z :: xs, ys, h, hg => by
    obtain ⟨y, hy, hr⟩ := hg 0 z (by simp)
    cases ys with
    | nil => simp at hy
    | cons u us =>
      simp at hy; subst hy
      simp only [RelL]
      exact ⟨u, us, rfl, hr, RelL.of_get (by simpa using h) (fun i x hx => by simpa using hg (i + 1) x (by simpa using hx))⟩
theorem RelE.get {w : World} {ok : Nat → Prop} {E : Nat → Value} {sz : Nat} {ad : Addr} : ∀ {xs : List TV} {k : Nat}, RelE w ok E sz ad k xs → ∀ (i : Nat) (x : TV), xs[i]? = some x →
    ∃ y : Value, Rel w ok E noObs x y ∧ y.cells.toList.length = sz ∧ (∀ u ∈ y.cells.toList, u.oneCell' = true) ∧ ∀ j u, y.cells.toList[j]? = some u → w.cell? (ad.add ((k + i) * sz + j)) = some u
  | [], k, h, i, x, hx => by simp at hx
  | z :: xs, k, h, i, x, hx => by
    simp only [RelE] at h
    cases i with
    | zero => simp at hx; subst hx; exact h.1
    | succ i =>
      have := h.2.get i x (by simpa using hx)
      rwa [show k + 1 + i = k + (i + 1) by omega] at this
theorem RelE.of_get {w : World} {ok : Nat → Prop} {E : Nat → Value} {sz : Nat} {ad : Addr} : ∀ {xs : List TV} {k : Nat}, (∀ (i : Nat) (x : TV), xs[i]? = some x →
    ∃ y : Value, Rel w ok E noObs x y ∧ y.cells.toList.length = sz ∧ (∀ u ∈ y.cells.toList, u.oneCell' = true) ∧ ∀ j u, y.cells.toList[j]? = some u → w.cell? (ad.add ((k + i) * sz + j)) = some u) → RelE w ok E sz ad k xs
  | [], k, _ => by simp [RelE]
  | z :: xs, k, h => by
    simp only [RelE]
    exact ⟨h 0 z (by simp), RelE.of_get (fun i x hx => by
      have := h (i + 1) x (by simpa using hx)
      rwa [show k + (i + 1) = k + 1 + i by omega] at this)⟩

end Go.Proofs.YtaopcacmfhdfkaaGreatDoor.Vc

namespace Go.Proofs.YtaopcacmfhdfkaaGreatDoor.Vc
open Go Go.RowKit
set_option linter.unusedSimpArgs false
set_option linter.unusedVariables false

def upd {α : Type} (f : Nat → α) (d : Nat) (v : α) : Nat → α := fun x => if x = d then v else f x
@[simp] theorem upd_same {α : Type} (f : Nat → α) (d : Nat) (v : α) : upd f d v d = v := by simp [upd]
theorem upd_ne {α : Type} (f : Nat → α) {d x : Nat} (v : α) (h : x ≠ d) : upd f d v x = f x := by simp [upd, h]

/-- The state of a walk. -/
structure St where
  tm : Nat → TV
  ob : Obs

def St.ev (s : St) : Operand → TV
  | .tmp t => s.tm t
  | .const v => bif plain v then .v v else .dead
  | .func f => .v (.func (.func f) #[] #[])
  | .global _ => .dead

def St.put (s : St) (d : Nat) (v : TV) : St := { s with tm := upd s.tm d v }

/-- What was there is as it was, but for some blocks. -/
structure Keep (X : Nat → Prop) (w w' : World) : Prop where
  os : w'.os = w.os
  tape : w'.tape = w.tape
  output : w'.output = w.output
  size : w.heap.size ≤ w'.heap.size
  block : ∀ k, k < w.heap.size → ¬ X k → w'.heap[k]? = w.heap[k]?
  drawn : True

theorem Keep.refl (X : Nat → Prop) (w : World) : Keep X w w := ⟨rfl, rfl, rfl, Nat.le_refl _, fun _ _ _ => rfl, trivial⟩
theorem Keep.trans {X : Nat → Prop} {a b c : World} (h : Keep X a b) (k : Keep (fun g => X g ∨ a.heap.size ≤ g) b c) : Keep X a c :=
  ⟨k.os.trans h.os, k.tape.trans h.tape, k.output.trans h.output, Nat.le_trans h.size k.size, fun i hi hx => (k.block i (Nat.lt_of_lt_of_le hi h.size) (by rintro (h' | h'); exact hx h'; omega)).trans (h.block i hi hx), trivial⟩

def okOf (w0 : World) (ok0 : Nat → Prop) (E : Nat → Value) (ob : Obs) : Nat → Prop :=
  fun k => (ok0 k ∨ w0.heap.size ≤ k) ∧ ∀ d, ob d ≠ none → blkOf (E d) ≠ some k

/-- A row's cells, element by element. -/
def RelF (w : World) (ok : Nat → Prop) (E : Nat → Value) (sz : Nat) (xs : List TV) (cs : List Value) : Prop :=
  cs.length = xs.length * sz ∧ ∀ (i : Nat) (x : TV), xs[i]? = some x → ∃ y : Value, Rel w ok E noObs x y ∧ y.cells.toList.length = sz ∧ (∀ u ∈ y.cells.toList, u.oneCell' = true) ∧ ∀ j u, y.cells.toList[j]? = some u → cs[i * sz + j]? = some u

def ObRel (w : World) (ok : Nat → Prop) (E : Nat → Value) (ob : Obs) (d : Nat) : Ob → Prop
  | .var ty x => ∃ g y, E d = .pointer (some ⟨g, 0, none⟩) ∧ Rel w ok E ob x y ∧ w.heap[g]? = some (.cells y.cells ty (0, 0)) ∧ ∀ u ∈ y.cells.toList, u.oneCell' = true
  | .row ty sz xs => ∃ cs : List Value, w.ownsRow 0 ty sz (E d) xs.length cs ∧ RelF w ok E sz xs cs

structure Mem (w0 : World) (X : Nat → Value) (ok0 : Nat → Prop) (E : Nat → Value) (B : Obs) (w : World) : Prop where
  keep : Keep (fun g => ∃ d, blkOf (X d) = some g) w0 w
  ob : ∀ d o, B d = some o → ObRel w (okOf w0 ok0 E B) E B d o
  ext : ∀ d, d < 16 → B d ≠ none → E d = X d
  own : ∀ d g, 16 ≤ d → B d ≠ none → blkOf (E d) = some g → w0.heap.size ≤ g ∨ (d = 31 ∧ blkOf (X 31) = some g)
  dis : ∀ d e g, B d ≠ none → B e ≠ none → blkOf (E d) = some g → blkOf (E e) = some g → d = e

structure Inv (w0 : World) (X : Nat → Value) (ok0 : Nat → Prop) (n : Nat) (E : Nat → Value) (s : St) (a : Act) (w : World) : Prop extends Mem w0 X ok0 E s.ob w where
  tm : ∀ t, Rel w (okOf w0 ok0 E s.ob) E s.ob (s.tm t) (a.tmps.getD t undef)
  defers : a.defers = []
  size : a.tmps.size = n

theorem ownBlock_blkOf {v : Value} {g : Nat} (h : v.ownBlock = some g) : blkOf v = some g := by
  unfold Value.ownBlock at h; unfold blkOf; split at h <;> simp_all

section
variable {w0 : World} {X : Nat → Value} {ok0 : Nat → Prop} {n : Nat} {E : Nat → Value} {s : St} {a : Act} {w : World}

theorem Inv.ev (h : Inv w0 X ok0 n E s a w) (x : Operand) : Rel w (okOf w0 ok0 E s.ob) E s.ob (s.ev x) (a.eval x) := by
  cases x with
  | tmp t => exact h.tm t
  | const v =>
    simp only [St.ev, Act.eval]
    cases hp : plain v <;> simp [Rel, hp]
  | func f => simp [St.ev, Act.eval, Rel, plain]
  | global g => simp [St.ev, Rel]

theorem getD_put {l : Array Value} {d t : Nat} {y u : Value} (hd : d < l.size) : (l.setIfInBounds d y).getD t u = if t = d then y else l.getD t u := by
  simp only [Array.getD_eq_getD_getElem?, Array.getElem?_setIfInBounds]
  by_cases h : t = d
  · subst h; simp [hd]
  · simp [h, Ne.symm h]

theorem Inv.put (h : Inv w0 X ok0 n E s a w) {d : Nat} {v : TV} {y : Value} (hd : d < n) (hr : Rel w (okOf w0 ok0 E s.ob) E s.ob v y) : Inv w0 X ok0 n E (s.put d v) (a.put (some d) y) w :=
  { keep := h.keep, ob := h.ob, ext := h.ext, own := h.own, dis := h.dis, defers := h.defers
    size := by simp [Act.put, h.size]
    tm := fun t => by
      simp only [Act.put, St.put, upd]
      rw [getD_put (by rw [h.size]; exact hd)]
      split
      · exact hr
      · exact h.tm t }

/-- A block of an object lies in memory. -/
theorem ObRel.lt {ok : Nat → Prop} {ob : Obs} {d : Nat} {o : Ob} (h : ObRel w ok E ob d o) {g : Nat} (hg : blkOf (E d) = some g) : g < w.heap.size := by
  cases o with
  | var ty x =>
    obtain ⟨g', y, he, _, hb, _⟩ := h
    rw [he] at hg; simp [blkOf] at hg; subst hg
    exact (Array.getElem?_eq_some_iff.1 hb).1
  | row ty sz xs =>
    obtain ⟨cs, ho, _⟩ := h
    obtain ⟨_, ho⟩ := ho
    rcases ho with ⟨he, _⟩ | ⟨g', cap, cur, he, _, hb, _⟩
    · rw [he] at hg; simp [blkOf] at hg
    · rw [he] at hg; simp [blkOf] at hg; subst hg
      exact (Array.getElem?_eq_some_iff.1 hb).1

theorem RelF.imp {ok ok' : Nat → Prop} {w w' : World} {E E' : Nat → Value} {sz : Nat} {xs : List TV} {cs : List Value} (h : RelF w ok E sz xs cs)
    (hk : ∀ k, ok k → k < w.heap.size → ok' k ∧ w'.heap[k]? = w.heap[k]?) (hs : w.heap.size ≤ w'.heap.size) : RelF w' ok' E' sz xs cs :=
  ⟨h.1, fun i x hx => by
    obtain ⟨y, h1, h2⟩ := h.2 i x hx
    exact ⟨y, h1.imm hk hs, h2⟩⟩

/-- An object that isn't touched. -/
theorem ObRel.move {ok ok' : Nat → Prop} {w w' : World} {E E' : Nat → Value} {ob ob' : Obs} {d : Nat} {o : Ob} (h : ObRel w ok E ob d o)
    (hk : ∀ k, ok k → k < w.heap.size → ok' k ∧ w'.heap[k]? = w.heap[k]?) (hs : w.heap.size ≤ w'.heap.size) (hE : E' d = E d) (hb : ∀ g, blkOf (E d) = some g → w'.heap[g]? = w.heap[g]?)
    (ho : ∀ x y, Rel w ok E ob x y → Rel w' ok' E' ob' x y) : ObRel w' ok' E' ob' d o := by
  cases o with
  | var ty x =>
    obtain ⟨g, y, he, hr, hh, h1⟩ := h
    exact ⟨g, y, by rw [hE, he], ho _ _ hr, by rw [hb g (by rw [he]; rfl)]; exact hh, h1⟩
  | row ty sz xs =>
    obtain ⟨cs, hown, hF⟩ := h
    refine ⟨cs, ?_, hF.imp hk hs⟩
    rw [hE]
    refine ⟨hown.1, ?_⟩
    rcases hown.2 with hn | ⟨g, cap, cur, he, h1, h2, h3⟩
    · exact .inl hn
    · exact .inr ⟨g, cap, cur, he, h1, by rw [hb g (by rw [he]; rfl)]; exact h2, h3⟩

/-- A draw. -/
theorem Inv.drew (h : Inv w0 X ok0 n E s a w) : Inv w0 X ok0 n E s a w.drew :=
  { keep := ⟨h.keep.os, h.keep.tape, h.keep.output, h.keep.size, h.keep.block, trivial⟩
    tm := fun t => (h.tm t).move (w := w) (w' := w.drew) (fun _k hk _ => ⟨hk, rfl⟩) (Nat.le_refl _) (fun _d o hd => ⟨rfl, o, hd, fun _ _ => rfl, id⟩)
    ob := fun d o hd => (h.ob d o hd).move (w := w) (w' := w.drew) (fun _k hk _ => ⟨hk, rfl⟩) (Nat.le_refl _) rfl (fun _ _ => rfl) (fun _x _y hr => hr.move (w := w) (w' := w.drew) (fun _k hk _ => ⟨hk, rfl⟩) (Nat.le_refl _) (fun _d o hd => ⟨rfl, o, hd, fun _ _ => rfl, id⟩))
    ext := h.ext, own := h.own, dis := h.dis, defers := h.defers, size := h.size }

/-- A new object: its block is the heap's next. -/
theorem Inv.alloc (h : Inv w0 X ok0 n E s a w) {d : Nat} {o : Ob} {v : Value} {c : Obj} (hd : s.ob d = none) (h16 : 16 ≤ d) (hv : ∀ g, blkOf v = some g → g = w.heap.size)
    (ho : ∀ ok' E', (∀ k, okOf w0 ok0 E s.ob k → k < w.heap.size → ok' k) → (∀ e oe, s.ob e = some oe → E' e = E e) → E' d = v → ObRel (w.alloc c) ok' E' (upd s.ob d (some o)) d o) :
    Inv w0 X ok0 n (upd E d v) { s with ob := upd s.ob d (some o) } a (w.alloc c) := by
  have hk : ∀ k, okOf w0 ok0 E s.ob k → k < w.heap.size → okOf w0 ok0 (upd E d v) (upd s.ob d (some o)) k ∧ (w.alloc c).heap[k]? = w.heap[k]? := by
    intro k hk hlt
    refine ⟨⟨hk.1, fun e he => ?_⟩, Below.heap_alloc w c k hlt⟩
    by_cases hed : e = d
    · subst hed
      rw [upd_same]
      intro hb
      have := hv k hb
      omega
    · rw [upd_ne _ _ hed] at he ⊢
      exact hk.2 e he
  have hs : w.heap.size ≤ (w.alloc c).heap.size := by simp
  have hne : ∀ e oe, s.ob e = some oe → e ≠ d := fun e oe he hed => by subst hed; rw [hd] at he; cases he
  have hE : ∀ e oe, s.ob e = some oe → upd E d v e = E e := fun e oe he => upd_ne _ _ (hne e oe he)
  have hmv : ∀ x y, Rel w (okOf w0 ok0 E s.ob) E s.ob x y → Rel (w.alloc c) (okOf w0 ok0 (upd E d v) (upd s.ob d (some o))) (upd E d v) (upd s.ob d (some o)) x y := fun x y hr =>
    hr.move hk hs (fun e oe he => ⟨hE e oe he, oe, by rw [upd_ne _ _ (hne e oe he)]; exact he, fun _ _ => rfl, id⟩)
  have hsome : ∀ e, upd s.ob d (some o) e ≠ none → e = d ∨ (s.ob e ≠ none ∧ upd E d v e = E e) := by
    intro e he
    by_cases hed : e = d
    · exact .inl hed
    · rw [upd_ne _ _ hed] at he
      exact .inr ⟨he, upd_ne _ _ hed⟩
  have hold : ∀ e g, s.ob e ≠ none → blkOf (E e) = some g → g < w.heap.size := fun e g he hg => by
    cases hoe : s.ob e with
    | none => exact absurd hoe he
    | some oe => exact (h.ob e oe hoe).lt hg
  refine { keep := ⟨h.keep.os, h.keep.tape, h.keep.output, Nat.le_trans h.keep.size hs, fun k hkk hx => ?_, h.keep.drawn⟩, tm := fun t => hmv _ _ (h.tm t), ob := fun e oe he => ?_, ext := fun e h1 he => ?_, own := fun e g h1 he hg => ?_, dis := fun e f g he hf hge hgf => ?_, defers := h.defers, size := h.size }
  · exact (Below.heap_alloc w c k (Nat.lt_of_lt_of_le hkk h.keep.size)).trans (h.keep.block k hkk hx)
  · by_cases hed : e = d
    · subst hed
      simp only [upd_same, Option.some.injEq] at he
      subst he
      exact ho _ _ (fun k h1 h2 => (hk k h1 h2).1) hE (upd_same _ _ _)
    · simp only [upd_ne _ _ hed] at he
      exact (h.ob e oe he).move hk hs (hE e oe he) (fun g hg => Below.heap_alloc w c g (hold e g (by rw [he]; simp) hg)) hmv
  · rcases hsome e he with rfl | ⟨h2, h3⟩
    · omega
    · rw [h3]; exact h.ext e h1 h2
  · rcases hsome e he with rfl | ⟨h2, h3⟩
    · rw [upd_same] at hg
      have := hv g hg
      have := h.keep.size
      left; omega
    · rw [h3] at hg
      exact h.own e g h1 h2 hg
  · rcases hsome e he with rfl | ⟨h1, h2⟩ <;> rcases hsome f hf with rfl | ⟨h3, h4⟩
    · rfl
    · rw [upd_same] at hge; rw [h4] at hgf
      have := hv g hge; have := hold f g h3 hgf; omega
    · rw [upd_same] at hgf; rw [h2] at hge
      have := hv g hgf; have := hold e g h1 hge; omega
    · rw [h2] at hge; rw [h4] at hgf
      exact h.dis e f g h1 h3 hge hgf
end

end Go.Proofs.YtaopcacmfhdfkaaGreatDoor.Vc

namespace Go.Proofs.YtaopcacmfhdfkaaGreatDoor.Vc
open Go Go.RowKit
set_option linter.unusedSimpArgs false
set_option linter.unusedVariables false

def vint (op : BinOp) (k : IntKind) (a b : Int) : Option Value :=
  match op with
  | .add => some (.int k (k.wrap (a + b)))
  | .sub => some (.int k (k.wrap (a - b)))
  | .mul => some (.int k (k.wrap (a * b)))
  | .quo => if b = 0 then none else some (.int k (k.wrap (a.tdiv b)))
  | .rem => if b = 0 then none else some (.int k (a.tmod b))
  | .and => some (.int k (k.wrap (BitVec.ofInt k.bits a &&& BitVec.ofInt k.bits b).toNat))
  | .or => some (.int k (k.wrap (BitVec.ofInt k.bits a ||| BitVec.ofInt k.bits b).toNat))
  | .xor => some (.int k (k.wrap (BitVec.ofInt k.bits a ^^^ BitVec.ofInt k.bits b).toNat))
  | .andNot => some (.int k (k.wrap (BitVec.ofInt k.bits a &&& ~~~ BitVec.ofInt k.bits b).toNat))
  | .eql => some (.bool (a == b))
  | .neq => some (.bool (a != b))
  | .lss => some (.bool (decide (a < b)))
  | .leq => some (.bool (decide (a ≤ b)))
  | .gtr => some (.bool (decide (a > b)))
  | .geq => some (.bool (decide (a ≥ b)))
  | _ => none

def vstr (op : BinOp) (x y : ByteArray) : Option Value :=
  match op with
  | .add => if x.size + y.size ≤ 9223372036854775807 then some (.string (x ++ y)) else none
  | .eql => some (.bool (x.toList == y.toList))
  | .neq => some (.bool !(x.toList == y.toList))
  | .lss => some (.bool (Op.bytesLess x.toList y.toList))
  | .leq => some (.bool (Op.bytesLess x.toList y.toList || x.toList == y.toList))
  | .gtr => some (.bool !(Op.bytesLess x.toList y.toList || x.toList == y.toList))
  | .geq => some (.bool !(Op.bytesLess x.toList y.toList))
  | _ => none

def vbin : BinOp → Value → Value → Option Value
  | .shl, .int k a, .int _ b => if b < 0 then none else some (.int k (k.wrap (a * 2 ^ min b.toNat k.bits)))
  | .shr, .int k a, .int _ b => if b < 0 then none else some (.int k (a.fdiv (2 ^ min b.toNat k.bits)))
  | op, .int k a, .int k' b => if k = k' then vint op k a b else none
  | op, .string a, .string b => vstr op a b
  | _, _, _ => none

theorem vint_ok {P : Program} {w : World} {op : BinOp} {k : IntKind} {a b : Int} {v : Value} {t : TypeId} {x y : Operand} (hs : op ≠ .shl ∧ op ≠ .shr) (h : vint op k a b = some v) :
    (do eqGuard op t x y (.int k a) (.int k b); binOp op t (.int k a) (.int k b) : Sem Value).run P w = .ok v w ∧ plain v = true := by
  cases op <;> simp only [vint] at h <;> first
    | (obtain rfl := Option.some.inj h; constructor <;> simp [eqGuard, binOp, Op.intArith, Op.intBits, Op.intCmp, plain]; done)
    | (split at h; cases h; rename_i hb; obtain rfl := Option.some.inj h; constructor <;> simp [eqGuard, binOp, Op.intDiv, hb, plain]; done)
    | (simp at hs; done)

theorem vstr_ok {P : Program} {w : World} {op : BinOp} {a b : ByteArray} {v : Value} {t : TypeId} {x y : Operand} (h : vstr op a b = some v) :
    (do eqGuard op t x y (.string a) (.string b); binOp op t (.string a) (.string b) : Sem Value).run P w = .ok v w ∧ plain v = true := by
  cases op <;> simp only [vstr] at h <;> first
    | (obtain rfl := Option.some.inj h; constructor <;> simp [eqGuard, binOp, Op.stringOp, plain]; done)
    | (split at h
       · rename_i hb; obtain rfl := Option.some.inj h
         constructor
         · have : ¬ (((a.size + b.size : Nat) : Int) > IntKind.i64.max) := by simp [IntKind.max, IntKind.signed, IntKind.bits]; omega
           simp only [eqGuard, binOp, Op.stringOp]
           simp
           omega
         · rfl
       · cases h)
    | (cases h; done)

theorem vbin_ok {P : Program} {w : World} {op : BinOp} {u u' v : Value} {t : TypeId} {x y : Operand} (h : vbin op u u' = some v) :
    (do eqGuard op t x y u u'; binOp op t u u' : Sem Value).run P w = .ok v w ∧ plain v = true := by
  unfold vbin at h
  split at h
  · split at h
    · cases h
    · rename_i hb; obtain rfl := Option.some.inj h
      constructor <;> simp [eqGuard, binOp, Op.shift, hb, plain]
  · split at h
    · cases h
    · rename_i hb; obtain rfl := Option.some.inj h
      constructor <;> simp [eqGuard, binOp, Op.shift, hb, plain]
  · split at h
    · rename_i h1 h2 hk; subst hk
      exact vint_ok ⟨by rintro rfl; simp [vint] at h, by rintro rfl; simp [vint] at h⟩ h
    · cases h
  · exact vstr_ok h
  · cases h

def vun : UnOp → Value → Option Value
  | .neg, .int k n => some (.int k (k.wrap (0 - n)))
  | .xor, .int k n => some (.int k (k.wrap (BitVec.ofInt k.bits (if k.signed then -1 else k.max) ^^^ BitVec.ofInt k.bits n).toNat))
  | .not, .bool b => some (.bool !b)
  | _, _ => none
theorem vun_ok {P : Program} {w : World} {op : UnOp} {u v : Value} (h : vun op u = some v) : (Op.unary op u).run P w = .ok v w ∧ plain v = true := by
  unfold vun at h
  split at h
  · obtain rfl := Option.some.inj h; constructor <;> simp [Op.unary, Op.intArith, plain]
  · obtain rfl := Option.some.inj h; constructor <;> simp [Op.unary, Op.intBits, plain]
  · obtain rfl := Option.some.inj h; constructor <;> simp [Op.unary, plain]
  · cases h

def sid (d k : Nat) : Nat := 16 * (d + 1) + k

end Go.Proofs.YtaopcacmfhdfkaaGreatDoor.Vc

namespace Go.Proofs.YtaopcacmfhdfkaaGreatDoor.Vc
open Go Go.RowKit
set_option linter.unusedSimpArgs false
set_option linter.unusedVariables false

def cellsT : TV → Option (List TV)
  | .a cs => some cs
  | .dead => none
  | .t _ => none
  | x => some [x]

theorem RelL.one {w : World} {ok : Nat → Prop} {E : Nat → Value} {ob : Obs} {x : TV} {y : Value} (h : Rel w ok E ob x y) : RelL w ok E ob [x] [y] := by
  simp only [RelL]; exact ⟨y, [], rfl, h, rfl⟩

theorem cellsT_ok {w : World} {ok : Nat → Prop} {E : Nat → Value} {ob : Obs} {x : TV} {y : Value} {cs : List TV} (h : Rel w ok E ob x y) (hc : cellsT x = some cs) : RelL w ok E ob cs y.cells.toList := by
  cases x <;> simp only [cellsT, Option.some.injEq] at hc
  case a l => subst hc; simp only [Rel] at h; obtain ⟨ys, rfl, _, h⟩ := h; simpa [Value.cells] using h
  case dead => cases hc
  case t => cases hc
  all_goals
    subst hc
    have : y.cells = #[y] := by
      simp only [Rel] at h
      first
        | (obtain ⟨hp, rfl⟩ := h; unfold Value.cells; split <;> first | rfl | (simp [plain] at hp))
        | (obtain ⟨_, _, rfl, _⟩ := h; rfl)
        | (obtain ⟨_, _, _, _, rfl⟩ := h; rfl)
        | (obtain ⟨_, _, _, _, _, rfl⟩ := h; rfl)
        | (obtain ⟨_, rfl, _⟩ := h; rfl)
    rw [this]
    exact RelL.one h

theorem RelL.drop {w : World} {ok : Nat → Prop} {E : Nat → Value} {ob : Obs} : ∀ {n : Nat} {xs : List TV} {ys : List Value}, RelL w ok E ob xs ys → RelL w ok E ob (xs.drop n) (ys.drop n)
  | 0, _, _, h => by simpa using h
  | n + 1, [], ys, h => by simp only [RelL] at h; subst h; simp [RelL]
  | n + 1, x :: xs, ys, h => by
    simp only [RelL] at h
    obtain ⟨u, us, rfl, _, h⟩ := h
    simpa using h.drop (n := n)
theorem RelL.take {w : World} {ok : Nat → Prop} {E : Nat → Value} {ob : Obs} : ∀ {n : Nat} {xs : List TV} {ys : List Value}, RelL w ok E ob xs ys → RelL w ok E ob (xs.take n) (ys.take n)
  | 0, _, _, h => by simp [RelL]
  | n + 1, [], ys, h => by simp only [RelL] at h; subst h; simp [RelL]
  | n + 1, x :: xs, ys, h => by
    simp only [RelL] at h
    obtain ⟨u, us, rfl, h1, h⟩ := h
    simp only [List.take_succ_cons, RelL]
    exact ⟨u, _, rfl, h1, h.take⟩
theorem RelL.imm {w : World} {ok : Nat → Prop} {E E' : Nat → Value} {ob : Obs} {xs : List TV} {ys : List Value} (h : RelL w ok E noObs xs ys) : RelL w ok E' ob xs ys :=
  RelL.of_get h.length (fun i x hx => by
    obtain ⟨y, hy, hr⟩ := h.get i x hx
    exact ⟨y, hy, hr.imm (fun k hk _ => ⟨hk, rfl⟩) (Nat.le_refl _)⟩)

def St.mem (s : St) : TV → Option (List TV)
  | .r cs => some cs
  | .p d i off => match s.ob d with
    | some (.var _ y) => (cellsT y).map (·.drop off)
    | some (.row _ _ xs) => (xs[i]?).bind fun y => (cellsT y).map (·.drop off)
    | none => none
  | _ => none

theorem add_lit (g o n : Nat) : (⟨g, o, none⟩ : Addr).add n = ⟨g, o + n, none⟩ := by
  unfold Addr.add; split
  · simp_all
  · rfl

section
variable {P : Program} {w0 : World} {X : Nat → Value} {ok0 : Nat → Prop} {n : Nat} {E : Nat → Value} {s : St} {a : Act} {w : World}

theorem mem_ok (h : Inv w0 X ok0 n E s a w) {x : TV} {y : Value} {cs : List TV} (hr : Rel w (okOf w0 ok0 E s.ob) E s.ob x y) (hm : s.mem x = some cs) :
    ∃ ad us, y = .pointer (some ad) ∧ RelL w (okOf w0 ok0 E s.ob) E s.ob cs us ∧ (∀ u ∈ us, u.oneCell' = true) ∧ ∀ j u, us[j]? = some u → w.cell? (ad.add j) = some u := by
  cases x <;> simp only [St.mem] at hm
  case r l =>
    obtain rfl := Option.some.inj hm
    simp only [Rel] at hr
    obtain ⟨ad, us, rfl, _, _, h1, h2, h3⟩ := hr
    exact ⟨ad, us, rfl, h1.imm, h2, h3⟩
  case p d i off =>
    simp only [Rel] at hr
    obtain ⟨o, ho, g, hg, rfl⟩ := hr
    have hob := h.ob d o ho
    rw [ho] at hm
    cases o with
    | var ty z =>
      simp only [Option.map_eq_some_iff] at hm
      obtain ⟨l, hl, rfl⟩ := hm
      obtain ⟨g', y, he, h1, h2, h3⟩ := hob
      rw [he] at hg; simp [blkOf] at hg; subst hg
      refine ⟨_, y.cells.toList.drop off, rfl, (cellsT_ok h1 hl).drop, fun u hu => h3 u (List.mem_of_mem_drop hu), fun j u hu => ?_⟩
      rw [add_lit, cell_of_row w _ _ _ _ _ h2]
      simpa [Ob.at] using hu
    | row ty sz xs =>
      simp only [Option.bind_eq_some_iff, Option.map_eq_some_iff] at hm
      obtain ⟨z, hz, l, hl, rfl⟩ := hm
      obtain ⟨cs, h1, h2⟩ := hob
      obtain ⟨y, h3, h4, h5, h6⟩ := h2.2 i z hz
      refine ⟨_, y.cells.toList.drop off, rfl, (cellsT_ok h3 hl).drop.imm, fun u hu => h5 u (List.mem_of_mem_drop hu), fun j u hu => ?_⟩
      have hb : (E d).ownBlock = some g := by
        rcases h1.2 with ⟨he, _⟩ | ⟨g', cap, cur, he, _⟩
        · rw [he] at hg; simp [blkOf] at hg
        · rw [he] at hg ⊢; simpa [blkOf, Value.ownBlock] using hg
      have := h1.cells hb (i * sz + off + j) u (by
        rw [List.getElem?_drop] at hu
        have := h6 (off + j) u hu
        rwa [Nat.add_assoc])
      rw [add_lit] at this ⊢
      simpa [Ob.at] using this
  all_goals cases hm

theorem wp_value {o : Oper} {K : Act → World → Prop} {Q : Exit → Act → World → Prop} {y : Value} {w' : World}
    (h : (execOp a.eval o).run P w = .ok (.value y) w') (hk : K (a.put o.dst y) w') : o.wp P a w K Q := by
  unfold Oper.wp; rw [h]; exact hk

theorem run_loadAgg {t : TypeId} {i : TypeInfo} (hu : (∃ fs, P.underlying t = some (.struct fs)) ∨ ∃ m e, P.underlying t = some (.array m e)) (hi : P.info? t = some i) {ad : Addr} {us : List Value} (hl : us.length = i.size) (hc : ∀ j u, us[j]? = some u → w.cell? (ad.add j) = some u) :
    (Instr.loadAt t (.pointer (some ad))).run P w = .ok (.agg us.toArray) w := by
  have hr := run_loadCells_list (P := P) (w := w) ad us hc
  rw [hl] at hr
  rcases hu with ⟨fs, hu⟩ | ⟨m, e, hu⟩ <;> simp [Instr.loadAt, Instr.sureAddr, loadVar, isAgg, run_underlying hu, sizeOf, typeInfo, hi, hr]

theorem run_loadOne {t : TypeId} {d : TypeDesc} (hu : P.underlying t = some d) (hd : (∀ fs, d ≠ .struct fs) ∧ ∀ m e, d ≠ .array m e) {ad : Addr} {u : Value} (hc : w.cell? ad = some u) :
    (Instr.loadAt t (.pointer (some ad))).run P w = .ok u w := by
  have : (isAgg t).run P w = .ok false w := by
    simp only [isAgg, Sem.run_bind, run_underlying hu, Result.andThen_ok]
    cases d <;> first | rfl | (exact absurd rfl (hd.1 _)) | (exact absurd rfl (hd.2 _ _))
  simp [Instr.loadAt, Instr.sureAddr, loadVar, this, hc]
end

end Go.Proofs.YtaopcacmfhdfkaaGreatDoor.Vc

namespace Go.Proofs.YtaopcacmfhdfkaaGreatDoor.Vc
open Go Go.RowKit
set_option linter.unusedSimpArgs false
set_option linter.unusedVariables false

/-- Instructions: operations, with what the types say laid open. -/
inductive I where
  | mov (d : Nat) (x : Operand)
  | pick (d : Nat) (c x y : Operand)
  | bin (d : Nat) (op : BinOp) (x y : Operand)
  | beq (d : Nat) (ne : Bool) (x y : Operand)
  | nil (d : Nat) (ne : Bool) (k : Nat) (x : Operand)
  | nck (d : Nat) (x : Operand)
  | un (d : Nat) (op : UnOp) (x : Operand)
  | conv (d : Nat) (k : IntKind) (x : Operand)
  | box (d ty : Nat) (x : Operand)
  | new (d ty : Nat) (z : Value)
  | load (d : Nat) (sz : Option Nat) (x : Operand)
  | fad (d off : Nat) (x : Operand)
  | iad (d sz : Nat) (x i : Operand)
  | aad (d sz len : Nat) (x i : Operand)
  | fld (d off : Nat) (sz : Option Nat) (x : Operand)
  | sidx (d : Nat) (x i : Operand)
  | ext (d : Nat) (x : Operand) (k : Nat)
  | bld (d : Nat) (z : List Value) (ps : List (Nat × Nat × Operand))
  | bsl (d ty sz : Nat) (xs : List Operand)
  | mks (d ty sz bytes : Nat) (z : Value) (x : Operand)
  | mkc (d ty sz bytes : Nat) (x : Operand)
  | aeq (d : Nat) (ne : Bool) (fs : List Nat) (x y : Operand)
  | len (d : Nat) (str : Bool) (x : Operand)
  | slc (d sz : Nat) (x : Operand) (lo hi : Option Operand)
  | scut (d : Nat) (x : Operand) (lo hi : Option Operand)
  | bst (d : Nat) (x : Operand)
  | mkf (d : Nat) (fn : Fn) (cap : List Operand)
  | mki (d ty : Nat) (x : Operand)
  | tas (d ty : Nat) (z : Value) (x : Operand)
  | mm (d : Nat) (mx : Bool) (x y : Operand)
  | call (d : Nat) (fx : Operand) (xs : List Operand)
  | store (sz : Nat) (x y : Operand)
  | app (d ty sz bytes : Nat) (x y : Operand)
  deriving Inhabited

abbrev Chg := List (Nat × Ob)
def addObs (B : Obs) (c : Chg) : Obs := c.foldl (fun B x => upd B x.1 (some x.2)) B

/-- What an instruction does, by the program's tables. -/
def aggSize (P : Program) (t : TypeId) : Option (Option Nat) :=
  match P.underlying t with
  | some (.struct _) | some (.array _ _) => (P.info? t).map fun i => some i.size
  | some _ => some none
  | none => none

theorem aggSize_some {P : Program} {t n : Nat} (h : aggSize P t = some (some n)) : ((∃ fs, P.underlying t = some (.struct fs)) ∨ ∃ m e, P.underlying t = some (.array m e)) ∧ ∃ i, P.info? t = some i ∧ i.size = n := by
  unfold aggSize at h
  split at h
  · rename_i fs hu
    simp only [Option.map_eq_some_iff, Option.some.injEq] at h
    exact ⟨.inl ⟨fs, hu⟩, h⟩
  · rename_i m e hu
    simp only [Option.map_eq_some_iff, Option.some.injEq] at h
    exact ⟨.inr ⟨m, e, hu⟩, h⟩
  · simp at h
  · cases h
theorem aggSize_none {P : Program} {t : Nat} (h : aggSize P t = some none) : ∃ d, P.underlying t = some d ∧ (∀ fs, d ≠ .struct fs) ∧ ∀ m e, d ≠ .array m e := by
  unfold aggSize at h
  split at h
  · simp at h
  · simp at h
  · rename_i d h1 h2 hu
    exact ⟨d, hu, h1, h2⟩
  · cases h

section
variable {P : Program} {w0 : World} {X : Nat → Value} {ok0 : Nat → Prop} {n : Nat} {E : Nat → Value} {s : St} {a : Act} {w : World}

/-- An operation that is done: its value, and what it made. -/
def Done (P : Program) (w0 : World) (X : Nat → Value) (ok0 : Nat → Prop) (n : Nat) (s : St) (a : Act) (w : World) (o : Oper) (v : TV) (c : Chg) : Prop :=
  ∃ y w' E', (execOp a.eval o).run P w = .ok (.value y) w' ∧ Inv w0 X ok0 n E' { s with ob := addObs s.ob c } a w' ∧
    Rel w' (okOf w0 ok0 E' (addObs s.ob c)) E' (addObs s.ob c) v y

theorem Done.pure (h : Inv w0 X ok0 n E s a w) {o : Oper} {v : TV} {y : Value} (hr : (execOp a.eval o).run P w = .ok (.value y) w) (hv : Rel w (okOf w0 ok0 E s.ob) E s.ob v y) : Done P w0 X ok0 n s a w o v [] :=
  ⟨y, w, E, hr, h, hv⟩

theorem v_of {x : Value} {y : Value} (h : Rel w (okOf w0 ok0 E s.ob) E s.ob (.v x) y) : y = x := by simp only [Rel] at h; exact h.2
theorem rel_v {ok : Nat → Prop} {B : Obs} {x : Value} (h : plain x = true) : Rel w ok E B (.v x) x := by simp [Rel, h]

theorem done_mov (h : Inv w0 X ok0 n E s a w) {o : Oper} {x : Operand} (ho : o.op = .move x ∨ o.op = .assign x) : Done P w0 X ok0 n s a w o (s.ev x) [] :=
  .pure h (y := a.eval x) (by rcases ho with ho | ho <;> simp [execOp, ho]) (h.ev x)

theorem done_pick (h : Inv w0 X ok0 n E s a w) {o : Oper} {c x y : Operand} {b : Bool} (ho : o.op = .pick c x y) (hc : s.ev c = .v (.bool b)) : Done P w0 X ok0 n s a w o (bif b then s.ev x else s.ev y) [] := by
  have h1 := h.ev c
  rw [hc] at h1
  have h1 := v_of h1
  cases b
  · exact .pure h (y := a.eval y) (by simp [execOp, ho, h1, asBool]) (h.ev y)
  · exact .pure h (y := a.eval x) (by simp [execOp, ho, h1, asBool]) (h.ev x)

theorem done_bin (h : Inv w0 X ok0 n E s a w) {o : Oper} {op : BinOp} {t ty : TypeId} {x y : Operand} {u v r : Value} (ho : o.op = .binOp op t x y ty) (hx : s.ev x = .v u) (hy : s.ev y = .v v) (hr : vbin op u v = some r) : Done P w0 X ok0 n s a w o (.v r) [] := by
  have h1 := h.ev x; rw [hx] at h1; have h1 := v_of h1
  have h2 := h.ev y; rw [hy] at h2; have h2 := v_of h2
  obtain ⟨h3, h4⟩ := vbin_ok (P := P) (w := w) (t := t) (x := x) (y := y) hr
  refine .pure h (y := r) ?_ (rel_v h4)
  simp only [execOp, ho, h1, h2]
  rw [Sem.run_bind, h3]; rfl

theorem done_un (h : Inv w0 X ok0 n E s a w) {o : Oper} {op : UnOp} {t : TypeId} {x : Operand} {u r : Value} (ho : o.op = .unOp op t x) (hx : s.ev x = .v u) (hr : vun op u = some r) : Done P w0 X ok0 n s a w o (.v r) [] := by
  have h1 := h.ev x; rw [hx] at h1; have h1 := v_of h1
  obtain ⟨h3, h4⟩ := vun_ok (P := P) (w := w) hr
  refine .pure h (y := r) ?_ (rel_v h4)
  simp only [execOp, ho, h1]
  rw [Sem.run_bind, h3]; rfl

theorem run_equal_bool {t : TypeId} (ht : P.underlying t = some .bool) (u v : Bool) : (Op.equal t (.bool u) (.bool v)).run P w = .ok (u == v) w := by
  unfold Op.equal
  rw [show Op.maxDepth = 9999 + 1 from rfl, Op.equalIn]
  simp only [Sem.run_bind, run_underlying ht, Result.andThen_ok]
  rfl

theorem done_beq (h : Inv w0 X ok0 n E s a w) {o : Oper} {ne : Bool} {t ty : TypeId} {x y : Operand} {u v : Bool} (ho : o.op = .binOp (bif ne then .neq else .eql) t x y ty) (ht : P.underlying t = some .bool) (hx : s.ev x = .v (.bool u)) (hy : s.ev y = .v (.bool v)) :
    Done P w0 X ok0 n s a w o (.v (.bool (if ne then u != v else u == v))) [] := by
  have h1 := h.ev x; rw [hx] at h1; have h1 := v_of h1
  have h2 := h.ev y; rw [hy] at h2; have h2 := v_of h2
  refine .pure h (y := .bool (if ne then u != v else u == v)) ?_ (rel_v rfl)
  cases ne <;> simp [execOp, ho, h1, h2, eqGuard, binOp, run_equal_bool ht]
  cases u <;> cases v <;> rfl

/-- Whether two structs of whole numbers are alike, field by field. -/
def eqA : List Nat → List TV → List TV → Option Bool
  | [], _, _ => some true
  | f :: fs, xs, ys => match xs[f]?, ys[f]? with
    | some (.v (.int k a)), some (.v (.int k' b)) => if k = k' then (eqA fs xs ys).map fun r => (a == b) && r else none
    | _, _ => none
def intF (P : Program) (f : Field) : Bool := f.name != "_" && (match P.underlying f.type with | some (.int _) => true | _ => false)
def structInts (P : Program) (t : TypeId) : Option (List Nat) :=
  match P.underlying t with
  | some (.struct fs) => if fs.toList.all (intF P) = true ∧ P.stoodInHeld t = false ∧ P.eqGuardType P.depth t = false then some (fs.toList.map (·.offset)) else none
  | _ => none

theorem run_part_int {t : TypeId} {k : IntKind} (ht : P.underlying t = some (.int k)) {cs : Array Value} {off : Nat} {v : Value} (hv : cs[off]? = some v) : (part t cs off).run P w = .ok v w := by
  simp [part, isAgg, run_underlying ht, hv]
theorem run_eqFields {d : Nat} {E : Nat → Value} {ok : Nat → Prop} {ob : Obs} {xs ys : List TV} {X Y : List Value} (hx : RelL w ok E ob xs X) (hy : RelL w ok E ob ys Y) : ∀ (fs : List Field) (r : Bool), (∀ f ∈ fs, intF P f = true) → eqA (fs.map (·.offset)) xs ys = some r →
    (Op.eqFields (d + 1) X.toArray Y.toArray fs).run P w = .ok r w
  | [], r, _, h => by
    simp only [List.map_nil, eqA, Option.some.injEq] at h
    subst h; rfl
  | f :: fs, r, hf, h => by
    have h1 := hf f (by simp)
    unfold intF at h1
    simp only [Bool.and_eq_true, bne_iff_ne, ne_eq] at h1
    obtain ⟨hn, h1⟩ := h1
    split at h1
    · rename_i k ht
      simp only [List.map_cons, eqA] at h
      split at h
      · rename_i k1 a k2 b e1 e2
        split at h
        case isFalse => cases h
        rename_i hkk
        subst hkk
        simp only [Option.map_eq_some_iff] at h
        obtain ⟨r', h2, rfl⟩ := h
        obtain ⟨u, e3, e4⟩ := hx.get _ _ e1
        obtain ⟨u', e5, e6⟩ := hy.get _ _ e2
        simp only [Rel] at e4 e6
        obtain ⟨_, rfl⟩ := e4
        obtain ⟨_, rfl⟩ := e6
        have ih := run_eqFields (d := d) hx hy fs r' (fun f hf' => hf f (by simp [hf'])) h2
        simp only [Op.eqFields, ne_eq, hn, not_false_eq_true, if_true, Sem.run_bind]
        rw [run_part_int ht (v := .int k1 a) (by simpa using e3)]
        simp only [Result.andThen_ok]
        rw [run_part_int ht (v := .int k1 b) (by simpa using e5)]
        simp only [Result.andThen_ok]
        rw [run_equalIn_int w d f.type k1 k a b ht]
        simp only [Result.andThen_ok]
        cases hab : (a == b)
        · simp
        · simp only [Bool.not_true, Bool.false_eq_true, if_false, Bool.true_and]; exact ih
      · cases h
    · cases h1

theorem done_aeq (h : Inv w0 X ok0 n E s a w) {o : Oper} {ne : Bool} {t ty : TypeId} {x y : Operand} {fs : List Nat} {xs ys : List TV} {r : Bool} (ho : o.op = .binOp (bif ne then .neq else .eql) t x y ty) (ht : structInts P t = some fs) (hx : s.ev x = .a xs) (hy : s.ev y = .a ys) (hr : eqA fs xs ys = some r) :
    Done P w0 X ok0 n s a w o (.v (.bool (if ne then !r else r))) [] := by
  have h1 := h.ev x; rw [hx] at h1; simp only [Rel] at h1; obtain ⟨X', e1, _, hX⟩ := h1
  have h2 := h.ev y; rw [hy] at h2; simp only [Rel] at h2; obtain ⟨Y', e2, _, hY⟩ := h2
  unfold structInts at ht
  split at ht
  · rename_i fs' hu
    split at ht
    · rename_i hc
      obtain rfl := Option.some.inj ht
      obtain ⟨c1, c2, c3⟩ := hc
      rw [List.all_eq_true] at c1
      have hfo : P.fieldsOf t = fs' := by unfold Program.fieldsOf; rw [hu]
      have hrun : (Op.equalIn 10000 t (.agg X'.toArray) (.agg Y'.toArray)).run P w = .ok r w := by
        rw [show (10000 : Nat) = 9999 + 1 from rfl, run_equalIn_struct w 9999 t _ _ (by rw [hfo]; exact hu) c2, hfo, show (9999 : Nat) = 9998 + 1 from rfl]
        exact run_eqFields hX hY fs'.toList r c1 hr
      refine .pure h (y := .bool (if ne then !r else r)) ?_ (rel_v rfl)
      cases ne
      · simp [execOp, ho, e1, e2, run_eqGuard_agg w .eql t x y _ _ c3, run_eql_struct, hrun]
      · simp [execOp, ho, e1, e2, run_eqGuard_agg w .neq t x y _ _ c3, run_neq_struct, hrun]
    · cases ht
  · cases ht

theorem done_conv (h : Inv w0 X ok0 n E s a w) {o : Oper} {k k' : IntKind} {t t' : TypeId} {x : Operand} {m : Int} (ho : o.op = .convert t t' x) (hd : ∃ d, P.underlying t = some d) (ht : P.underlying t' = some (.int k)) (hx : s.ev x = .v (.int k' m)) :
    Done P w0 X ok0 n s a w o (.v (.int k (k.wrap m))) [] := by
  have h1 := h.ev x; rw [hx] at h1; have h1 := v_of h1
  obtain ⟨d, hd⟩ := hd
  refine .pure h (y := .int k (k.wrap m)) ?_ (rel_v rfl)
  simp [execOp, ho, h1, convert, run_underlying ht, run_underlying hd, Conv.intToInt]

theorem done_ext (h : Inv w0 X ok0 n E s a w) {o : Oper} {x : Operand} {k : Nat} {xs : List TV} {v : TV} (ho : o.op = .extract x k) (hx : s.ev x = .t xs) (hk : xs[k]? = some v) : Done P w0 X ok0 n s a w o v [] := by
  have h1 := h.ev x; rw [hx] at h1
  simp only [Rel] at h1
  obtain ⟨us, he, h1⟩ := h1
  obtain ⟨y, hy, hr⟩ := h1.get k v hk
  exact .pure h (y := y) (by simp [execOp, ho, he, Instr.extract, hy]) hr

theorem done_load (h : Inv w0 X ok0 n E s a w) {o : Oper} {t : TypeId} {x : Operand} {m : Nat} {cs : List TV} (ho : o.op = .load t x) (ht : aggSize P t = some (some m)) (hx : s.mem (s.ev x) = some cs) (hm : m ≤ cs.length) :
    Done P w0 X ok0 n s a w o (.a (cs.take m)) [] := by
  obtain ⟨ad, us, he, h1, h2, h3⟩ := mem_ok h (h.ev x) hx
  obtain ⟨hu, i, hi, hs⟩ := aggSize_some ht
  have hl := h1.length
  refine .pure h (y := .agg (us.take m).toArray) ?_ ?_
  · have := run_loadAgg (P := P) (w := w) hu hi (ad := ad) (us := us.take m) (by rw [List.length_take, hs]; omega) (fun j u hj => h3 j u (by
      rw [List.getElem?_take] at hj; split at hj
      · exact hj
      · cases hj))
    simp [execOp, ho, he, this]
  · simp only [Rel]
    exact ⟨us.take m, rfl, fun u hu => h2 u (List.mem_of_mem_take hu), h1.take⟩

theorem done_load1 (h : Inv w0 X ok0 n E s a w) {o : Oper} {t : TypeId} {x : Operand} {cs : List TV} {v : TV} (ho : o.op = .load t x) (ht : aggSize P t = some none) (hx : s.mem (s.ev x) = some cs) (hm : cs[0]? = some v) :
    Done P w0 X ok0 n s a w o v [] := by
  obtain ⟨ad, us, he, h1, h2, h3⟩ := mem_ok h (h.ev x) hx
  obtain ⟨d, hu, hd⟩ := aggSize_none ht
  obtain ⟨y, hy, hr⟩ := h1.get 0 v hm
  have := run_loadOne (P := P) (w := w) hu hd (ad := ad) (u := y) (by simpa [Addr.add] using h3 0 y hy)
  exact .pure h (y := y) (by simp [execOp, ho, he, this]) hr
end

end Go.Proofs.YtaopcacmfhdfkaaGreatDoor.Vc

namespace Go.Proofs.YtaopcacmfhdfkaaGreatDoor.Vc
open Go Go.RowKit
set_option linter.unusedSimpArgs false
set_option linter.unusedVariables false

section
variable {P : Program} {w0 : World} {X : Nat → Value} {ok0 : Nat → Prop} {n : Nat} {E : Nat → Value} {s : St} {a : Act} {w : World}

theorem run_newVar (t : TypeId) (v : Value) : (newVar t v).run P w = .ok ⟨w.heap.size, 0, none⟩ (w.alloc (.cells v.cells t)) := by
  simp [newVar, newRow]

/-- A new variable. -/
theorem alloc_var (h : Inv w0 X ok0 n E s a w) {d ty : Nat} {x : TV} {y : Value} (hd : s.ob d = none) (h16 : 16 ≤ d) (hr : Rel w (okOf w0 ok0 E s.ob) E s.ob x y) (h1 : ∀ u ∈ y.cells.toList, u.oneCell' = true) :
    ∃ E', Inv w0 X ok0 n E' { s with ob := upd s.ob d (some (.var ty x)) } a (w.alloc (.cells y.cells ty)) ∧
      Rel (w.alloc (.cells y.cells ty)) (okOf w0 ok0 E' (upd s.ob d (some (.var ty x)))) E' (upd s.ob d (some (.var ty x))) (.p d 0 0) (.pointer (some ⟨w.heap.size, 0, none⟩)) := by
  refine ⟨_, h.alloc (v := .pointer (some ⟨w.heap.size, 0, none⟩)) hd h16 (fun g hg => by simpa [blkOf] using hg.symm) ?_, ?_⟩
  · intro ok' E' hk hE he
    refine ⟨w.heap.size, y, he, ?_, heap_alloc_new w _, h1⟩
    refine hr.move (fun k h1 h2 => ⟨hk k h1 h2, Below.heap_alloc w _ k h2⟩) (by simp) (fun e oe hoe => ⟨hE e oe hoe, oe, ?_, fun _ _ => rfl, id⟩)
    rw [upd_ne _ _ (by rintro rfl; rw [hd] at hoe; cases hoe)]; exact hoe
  · simp only [Rel, upd_same]
    exact ⟨_, rfl, _, rfl, by simp [Ob.at]⟩

theorem oneCells {ob : Obs} {ok : Nat → Prop} {x : TV} {y : Value} {cs : List TV} (h : Rel w ok E ob x y) (hc : cellsT x = some cs) (ht : ∀ us, y ≠ .tuple us) : ∀ u ∈ y.cells.toList, u.oneCell' = true := by
  cases x <;> simp only [cellsT, Option.some.injEq] at hc
  case a l => simp only [Rel] at h; obtain ⟨ys, rfl, h1, _⟩ := h; simpa [Value.cells] using h1
  case dead => cases hc
  case t => cases hc
  all_goals
    simp only [Rel] at h
    first
      | (obtain ⟨hp, rfl⟩ := h; unfold plain at hp; split at hp <;> first | (simp [Value.cells, Value.oneCell']; done) | cases hp)
      | (obtain ⟨_, _, rfl, _⟩ := h; simp [Value.cells, Value.oneCell']; done)
      | (obtain ⟨_, _, _, _, rfl⟩ := h; simp [Value.cells, Value.oneCell']; done)
      | (obtain ⟨_, _, _, _, _, rfl⟩ := h; simp [Value.cells, Value.oneCell']; done)
      | (obtain ⟨_, rfl, _⟩ := h; simp [Value.cells, Value.oneCell']; done)

theorem notuple {ob : Obs} {ok : Nat → Prop} {x : TV} {y : Value} {cs : List TV} (h : Rel w ok E ob x y) (hc : cellsT x = some cs) : ∀ us, y ≠ .tuple us := by
  intro us e; subst e
  cases x <;> simp only [cellsT, Option.some.injEq] at hc
  case a l => simp only [Rel] at h; obtain ⟨ys, h1, _⟩ := h; cases h1
  case dead => cases hc
  case t => cases hc
  all_goals
    simp only [Rel] at h
    first
      | (obtain ⟨hp, rfl⟩ := h; simp [plain] at hp; done)
      | (obtain ⟨_, _, h, _⟩ := h; cases h; done)
      | (obtain ⟨_, _, _, _, h⟩ := h; cases h; done)
      | (obtain ⟨_, _, _, _, _, h⟩ := h; cases h; done)
      | (obtain ⟨_, h, _⟩ := h; cases h; done)

theorem done_box (h : Inv w0 X ok0 n E s a w) {o : Oper} {d ty : Nat} {x : Operand} {cs : List TV} (ho : o.op = .box ty x) (hd : s.ob d = none) (h16 : 16 ≤ d) (hc : cellsT (s.ev x) = some cs) :
    Done P w0 X ok0 n s a w o (.p d 0 0) [(d, .var ty (s.ev x))] := by
  obtain ⟨E', h1, h2⟩ := alloc_var (ty := ty) h hd h16 (h.ev x) (oneCells (h.ev x) hc (notuple (h.ev x) hc))
  exact ⟨_, _, E', by simp [execOp, ho, Instr.box, run_newVar], h1, h2⟩

/-- A value that holds no address, as an abstract one. -/
def tvOf : Value → TV
  | .agg cs => .a (cs.toList.map .v)
  | v => .v v
def plainAgg : Value → Bool
  | .agg cs => cs.toList.all fun v => plain v && v.oneCell'
  | v => plain v
theorem relL_plain {ok : Nat → Prop} {ob : Obs} : ∀ {l : List Value}, (l.all fun v => plain v && v.oneCell') = true → RelL w ok E ob (l.map .v) l
  | [], _ => by simp [RelL]
  | x :: xs, h => by
    simp only [List.all_cons, Bool.and_eq_true] at h
    simp only [List.map_cons, RelL]
    exact ⟨x, xs, rfl, by simp [Rel, h.1.1], relL_plain (by simpa using h.2)⟩
theorem rel_tvOf {ok : Nat → Prop} {ob : Obs} {z : Value} (h : plainAgg z = true) : Rel w ok E ob (tvOf z) z ∧ (∀ u ∈ z.cells.toList, u.oneCell' = true) ∧ ∃ cs, cellsT (tvOf z) = some cs := by
  cases z with
  | agg cs =>
    simp only [plainAgg] at h
    refine ⟨?_, fun u hu => ?_, by simp [tvOf, cellsT]⟩
    · simp only [tvOf, Rel]
      have h' := h
      simp only [List.all_eq_true, Bool.and_eq_true] at h'
      exact ⟨cs.toList, by simp, fun u hu => (h' u hu).2, relL_plain h⟩
    · simp only [List.all_eq_true, Bool.and_eq_true] at h
      exact (h u (by simpa [Value.cells] using hu)).2
  | _ =>
    simp only [plainAgg] at h
    have hr : Rel w ok E ob (.v _) _ := rel_v h
    exact ⟨hr, oneCells hr rfl (notuple hr rfl), by simp [tvOf, cellsT]⟩

theorem done_new (h : Inv w0 X ok0 n E s a w) {o : Oper} {d ty : Nat} {z : Value} {i : TypeInfo} (ho : o.op = .alloc ty) (hi : P.info? ty = some i) (hz : i.zero = some z) (hp : plainAgg z = true) (hd : s.ob d = none) (h16 : 16 ≤ d) :
    Done P w0 X ok0 n s a w o (.p d 0 0) [(d, .var ty (tvOf z))] := by
  obtain ⟨h0, h0', _⟩ := rel_tvOf (w := w) (E := E) (ok := okOf w0 ok0 E s.ob) (ob := s.ob) hp
  obtain ⟨E', h1, h2⟩ := alloc_var (ty := ty) h hd h16 h0 h0'
  exact ⟨_, _, E', by simp [execOp, ho, Instr.alloc, zeroValue, typeInfo, hi, hz, run_newVar], h1, h2⟩

theorem done_fad (h : Inv w0 X ok0 n E s a w) {o : Oper} {t k : Nat} {x : Operand} {fs : Array Field} {f : Field} {i : TypeInfo} {v : TV} (ho : o.op = .fieldAddr t x k) (ht : P.underlying t = some (.struct fs)) (hf : fs[k]? = some f) (hi : P.info? f.type = some i) (hs : i.size ≠ 0)
    (hx : (∃ d j off, s.ev x = .p d j off ∧ v = .p d j (off + f.offset)) ∨ ∃ cs, s.ev x = .r cs ∧ v = .r (cs.drop f.offset)) : Done P w0 X ok0 n s a w o v [] := by
  have h1 := h.ev x
  have hrun : ∀ ad : Addr, a.eval x = .pointer (some ad) → (execOp a.eval o).run P w = .ok (.value (.pointer (some (ad.add f.offset)))) w := fun ad he => by
    simp [execOp, ho, he, Instr.fieldAt, run_underlying ht, hf, Instr.sureAddr, fieldPlace, sizeOf, typeInfo, hi, hs]
  rcases hx with ⟨d, j, off, he, rfl⟩ | ⟨cs, he, rfl⟩
  · rw [he] at h1
    simp only [Rel] at h1
    obtain ⟨oo, h2, g, h3, h4⟩ := h1
    refine .pure h (hrun _ h4) ?_
    simp only [Rel]
    refine ⟨oo, h2, g, h3, ?_⟩
    rw [add_lit]
    cases oo <;> simp [Ob.at, Nat.add_assoc]
  · rw [he] at h1
    simp only [Rel] at h1
    obtain ⟨ad, us, h4, h5, h6, h7, h8, h9⟩ := h1
    refine .pure h (hrun _ h4) ?_
    have hb : (ad.add f.offset).block = ad.block := by unfold Addr.add; split <;> rfl
    simp only [Rel]
    refine ⟨ad.add f.offset, us.drop f.offset, rfl, by rw [hb]; exact h5, by rw [hb]; exact h6, h7.drop, fun u hu => h8 u (List.mem_of_mem_drop hu), fun j u hu => ?_⟩
    rw [List.getElem?_drop] at hu
    have := h9 _ u hu
    rwa [show (ad.add f.offset).add j = ad.add (f.offset + j) by unfold Addr.add; by_cases hi : f.offset = 0 <;> by_cases hj : j = 0 <;> simp [hi, hj, Nat.add_assoc]]

theorem own_slice (h : Inv w0 X ok0 n E s a w) {d ty sz : Nat} {xs : List TV} (hd : s.ob d = some (.row ty sz xs)) : ∃ A c, E d = .slice A xs.length c ∧ xs.length ≤ c ∧ (xs ≠ [] → ∃ g, A = some ⟨g, 0, none⟩ ∧ blkOf (E d) = some g) := by
  obtain ⟨cs, ⟨h1, h2⟩, h3⟩ := h.ob d _ hd
  rcases h2 with ⟨he, h2⟩ | ⟨g, cap, cur, he, _, _, h4, _⟩
  · exact ⟨none, 0, by rw [he, h2], by omega, fun hx => absurd (List.eq_nil_of_length_eq_zero h2) hx⟩
  · exact ⟨some ⟨g, 0, none⟩, cap, he, h4, fun _ => ⟨g, rfl, by rw [he]; rfl⟩⟩

theorem done_iad (h : Inv w0 X ok0 n E s a w) {o : Oper} {t e : Nat} {x i : Operand} {ti : TypeInfo} {k : IntKind} {m : Int} {v : TV} (ho : o.op = .indexAddr t x i) (ht : P.underlying t = some (.slice e)) (hi : P.info? e = some ti) (hm : s.ev i = .v (.int k m)) (h0 : 0 ≤ m)
    (hx : (∃ xs y cs, s.ev x = .s ti.size xs ∧ xs[m.toNat]? = some y ∧ cellsT y = some cs ∧ v = .r cs) ∨ ∃ d ty xs, s.ev x = .o d ∧ s.ob d = some (.row ty ti.size xs) ∧ m.toNat < xs.length ∧ v = .p d m.toNat 0) : Done P w0 X ok0 n s a w o v [] := by
  have h1 := h.ev i; rw [hm] at h1; have h1 := v_of h1
  have h2 := h.ev x
  have hrun : ∀ (ad : Addr) (l c : Nat), a.eval x = .slice (some ad) l c → m.toNat < l → (execOp a.eval o).run P w = .ok (.value (.pointer (some (ad.add (m.toNat * ti.size))))) w := fun ad l c he hl => by
    have : 0 ≤ m ∧ m < (l : Int) := ⟨h0, by omega⟩
    simp [execOp, ho, he, h1, Instr.indexAt, asIntOf, run_underlying ht, sizeOf, typeInfo, hi, this]
  rcases hx with ⟨xs, y, cs, he, hy, hc, rfl⟩ | ⟨d, ty, xs, he, hd, hl, rfl⟩
  · rw [he] at h2
    simp only [Rel] at h2
    obtain ⟨A, c, h3, h4, h5⟩ := h2
    have hlt : m.toNat < xs.length := (List.getElem?_eq_some_iff.1 hy).1
    obtain ⟨ad, rfl, h6, h7, h8⟩ := h5 (by intro e; subst e; simp at hlt)
    refine .pure h (hrun ad _ c h3 hlt) ?_
    obtain ⟨z, h9, h10, h11, h12⟩ := h8.get _ y hy
    have hb : (ad.add (m.toNat * ti.size)).block = ad.block := by unfold Addr.add; split <;> rfl
    simp only [Rel]
    refine ⟨_, z.cells.toList, rfl, by rw [hb]; exact h6, by rw [hb]; exact h7, cellsT_ok h9 hc, h11, fun j u hu => ?_⟩
    have := h12 j u hu
    rwa [show (ad.add (m.toNat * ti.size)).add j = ad.add ((0 + m.toNat) * ti.size + j) by rw [Nat.zero_add]; unfold Addr.add; by_cases hi : m.toNat * ti.size = 0 <;> by_cases hj : j = 0 <;> simp [hi, hj, Nat.add_assoc]]
  · rw [he] at h2
    simp only [Rel] at h2
    obtain ⟨A, c, h3, h4, h5⟩ := own_slice h hd
    obtain ⟨g, rfl, hg⟩ := h5 (by intro e; subst e; simp at hl)
    refine .pure h (hrun _ _ c (h2.2.1.trans h3) hl) ?_
    simp only [Rel]
    exact ⟨_, hd, g, hg, by rw [add_lit]; simp [Ob.at]⟩

theorem done_aad (h : Inv w0 X ok0 n E s a w) {o : Oper} {t e len : Nat} {x i : Operand} {ti : TypeInfo} {k : IntKind} {m : Int} {v : TV} (ho : o.op = .indexAddr t x i) (ht : P.underlying t = some (.array len e)) (hi : P.info? e = some ti) (hm : s.ev i = .v (.int k m)) (h0 : 0 ≤ m) (hl : m < len)
    (hx : (∃ d j off, s.ev x = .p d j off ∧ v = .p d j (off + m.toNat * ti.size)) ∨ ∃ cs, s.ev x = .r cs ∧ v = .r (cs.drop (m.toNat * ti.size))) : Done P w0 X ok0 n s a w o v [] := by
  have h1 := h.ev i; rw [hm] at h1; have h1 := v_of h1
  have h2 := h.ev x
  have hrun : ∀ (ad : Addr), a.eval x = .pointer (some ad) → (execOp a.eval o).run P w = .ok (.value (.pointer (some (ad.add (m.toNat * ti.size))))) w := fun ad he => by
    simp [execOp, ho, he, h1, Instr.indexAt, asIntOf, run_underlying ht, sizeOf, typeInfo, hi, h0, hl, Instr.sureAddr]
  rcases hx with ⟨d, j, off, he, rfl⟩ | ⟨cs, he, rfl⟩
  · rw [he] at h2
    simp only [Rel] at h2
    obtain ⟨oo, h3, g, h4, h5⟩ := h2
    refine .pure h (hrun _ h5) ?_
    simp only [Rel]
    refine ⟨oo, h3, g, h4, ?_⟩
    rw [add_lit]
    cases oo <;> simp [Ob.at, Nat.add_assoc]
  · rw [he] at h2
    simp only [Rel] at h2
    obtain ⟨ad, us, h4, h5, h6, h7, h8, h9⟩ := h2
    refine .pure h (hrun _ h4) ?_
    have hb : (ad.add (m.toNat * ti.size)).block = ad.block := by unfold Addr.add; split <;> rfl
    simp only [Rel]
    refine ⟨_, us.drop (m.toNat * ti.size), rfl, by rw [hb]; exact h5, by rw [hb]; exact h6, h7.drop, fun u hu => h8 u (List.mem_of_mem_drop hu), fun j u hu => ?_⟩
    rw [List.getElem?_drop] at hu
    have := h9 _ u hu
    rwa [show (ad.add (m.toNat * ti.size)).add j = ad.add (m.toNat * ti.size + j) by unfold Addr.add; by_cases hi : m.toNat * ti.size = 0 <;> by_cases hj : j = 0 <;> simp [hi, hj, Nat.add_assoc]]
end

end Go.Proofs.YtaopcacmfhdfkaaGreatDoor.Vc

namespace Go.Proofs.YtaopcacmfhdfkaaGreatDoor.Vc
open Go Go.RowKit
set_option linter.unusedSimpArgs false
set_option linter.unusedVariables false

def setL {α : Type} (l : List α) (off : Nat) (c : List α) : List α := l.take off ++ c ++ l.drop (off + c.length)

theorem foldl_set (l : List Value) : ∀ (off k : Nat) (arr : Array Value), off + k + l.length ≤ arr.size →
    ((l.zipIdx k).foldl (fun cs x => cs.setIfInBounds (off + x.2) x.1) arr).toList = setL arr.toList (off + k) l := by
  induction l with
  | nil => intro off k arr _; simp [setL]
  | cons x xs ih =>
    intro off k arr h
    simp only [List.length_cons] at h
    simp only [List.zipIdx_cons, List.foldl_cons]
    rw [ih off (k + 1) _ (by simp; omega)]
    simp only [setL, Array.toList_setIfInBounds, List.length_cons]
    apply List.ext_getElem?
    intro i
    simp only [List.append_assoc, List.getElem?_append, List.length_take, List.length_set, Array.length_toList, List.getElem?_take, List.getElem?_drop, List.getElem?_set, List.cons_append, List.getElem?_cons]
    grind

theorem foldl_setA (l arr : Array Value) (off : Nat) (h : off + l.size ≤ arr.size) :
    (l.zipIdx.foldl (fun cs x => cs.setIfInBounds (off + x.2) x.1) arr).toList = setL arr.toList off l.toList := by
  rw [← Array.foldl_toList]
  have := foldl_set l.toList off 0 arr (by simpa using h)
  rw [show l.zipIdx.toList = l.toList.zipIdx 0 by simp]
  simpa using this

theorem RelL.append {w : World} {ok : Nat → Prop} {E : Nat → Value} {ob : Obs} : ∀ {xs xs' : List TV} {ys ys' : List Value}, RelL w ok E ob xs ys → RelL w ok E ob xs' ys' → RelL w ok E ob (xs ++ xs') (ys ++ ys')
  | [], _, ys, _, h, h' => by simp only [RelL] at h; subst h; simpa using h'
  | x :: xs, _, ys, _, h, h' => by
    simp only [RelL] at h
    obtain ⟨u, us, rfl, h1, h⟩ := h
    simp only [List.cons_append, RelL]
    exact ⟨u, _, rfl, h1, h.append h'⟩

theorem RelL.setL {w : World} {ok : Nat → Prop} {E : Nat → Value} {ob : Obs} {xs c : List TV} {ys d : List Value} {off : Nat} (h : RelL w ok E ob xs ys) (h' : RelL w ok E ob c d) : RelL w ok E ob (Vc.setL xs off c) (Vc.setL ys off d) := by
  unfold Vc.setL
  rw [h'.length]
  exact (h.take.append h').append h.drop

/-- Parts put into their places. -/
def fillT : List TV → List (Nat × Nat × TV) → Option (List TV)
  | l, [] => some l
  | l, (off, sz, v) :: ps => (cellsT v).bind fun c => if c.length = sz ∧ off + sz ≤ l.length then fillT (setL l off c) ps else none

theorem fill_ok {w : World} {ok : Nat → Prop} {E : Nat → Value} {ob : Obs} {place : Nat → Option (Nat × Nat)} : ∀ (ps : List (Nat × Nat × TV)) (qs : List (Nat × Value)) (l r : List TV) (arr : Array Value),
    RelL w ok E ob l arr.toList → (∀ u ∈ arr.toList, u.oneCell' = true) → ps.length = qs.length →
    (∀ (i : Nat) (p : Nat × Nat × TV) (q : Nat × Value), ps[i]? = some p → qs[i]? = some q → place q.1 = some (p.1, p.2.1) ∧ Rel w ok E ob p.2.2 q.2) →
    fillT l ps = some r → ∃ arr', Instr.fill place arr qs = some arr' ∧ RelL w ok E ob r arr'.toList ∧ ∀ u ∈ arr'.toList, u.oneCell' = true
  | [], [], l, r, arr, h, h1, _, _, hf => by
    simp only [fillT, Option.some.injEq] at hf; subst hf
    exact ⟨arr, rfl, h, h1⟩
  | [], _ :: _, _, _, _, _, _, hl, _, _ => by simp at hl
  | _ :: _, [], _, _, _, _, _, hl, _, _ => by simp at hl
  | (off, sz, v) :: ps, (i, y) :: qs, l, r, arr, h, h1, hl, hp, hf => by
    simp only [fillT, Option.bind_eq_some_iff] at hf
    obtain ⟨c, hc, hf⟩ := hf
    split at hf
    · rename_i hcond
      obtain ⟨hpl, hv⟩ := hp 0 _ _ rfl rfl
      have h2 := cellsT_ok hv hc
      have h3 := h2.length
      have h4 := h.length
      have hsz : y.cells.size = sz := by rw [← Array.length_toList, h3]; exact hcond.1
      have hfit : off + y.cells.size ≤ arr.size := by rw [hsz, ← Array.length_toList, h4]; exact hcond.2
      have hset := foldl_setA y.cells arr off hfit
      obtain ⟨arr', h5, h6⟩ := fill_ok (place := place) ps qs (setL l off c) r (y.cells.zipIdx.foldl (fun cs x => cs.setIfInBounds (off + x.2) x.1) arr)
        (by rw [hset]; exact h.setL h2)
        (by
          rw [hset]
          intro u hu
          unfold setL at hu
          simp only [List.append_assoc, List.mem_append] at hu
          rcases hu with hu | hu | hu
          · exact h1 u (List.mem_of_mem_take hu)
          · exact oneCells hv hc (notuple hv hc) u hu
          · exact h1 u (List.mem_of_mem_drop hu))
        (by simpa using hl)
        (fun j p q hj hq => hp (j + 1) p q (by simpa using hj) (by simpa using hq)) hf
      refine ⟨arr', ?_, h6⟩
      simp only at hpl
      simp only [Instr.fill, hpl]
      rw [if_neg (by simp only [Bool.or_eq_true, decide_eq_true_eq, not_or]; omega)]
      exact h5
    · cases hf

section
variable {P : Program} {w0 : World} {X : Nat → Value} {ok0 : Nat → Prop} {n : Nat} {E : Nat → Value} {s : St} {a : Act} {w : World}

theorem run_mapM {α β : Type} (g : α → Sem β) (R : α → β → Prop) (hg : ∀ x y, R x y → (g x).run P w = .ok y w) : ∀ (l : List α) (ls : List β), ls.length = l.length → (∀ (i : Nat) x y, l[i]? = some x → ls[i]? = some y → R x y) → (l.mapM g).run P w = .ok ls w
  | [], [], _, _ => by simp
  | [], _ :: _, h, _ => by simp at h
  | _ :: _, [], h, _ => by simp at h
  | x :: l, y :: ls, h, hr => by
    rw [List.mapM_cons, Sem.run_bind, hg x y (hr 0 x y rfl rfl)]
    simp only [Result.andThen_ok, Sem.run_bind]
    rw [run_mapM g R hg l ls (by simpa using h) (fun i x y hx hy => hr (i + 1) x y (by simpa using hx) (by simpa using hy))]
    rfl

theorem run_mapM_places {fs : Array Field} {ls : List (Nat × Nat)} (h : fs.toList.map (fun f => (P.info? f.type).map fun i => (f.offset, i.size)) = ls.map some) :
    (fs.mapM (fun f => do pure (f.offset, ← sizeOf f.type) : Field → Sem (Nat × Nat))).run P w = .ok ls.toArray w := by
  rw [Array.mapM_eq_mapM_toList]
  have hl : ls.length = fs.toList.length := by have := congrArg List.length h; simpa using this.symm
  have := run_mapM (P := P) (w := w) (fun f => do pure (f.offset, ← sizeOf f.type) : Field → Sem (Nat × Nat)) (fun f p => ((P.info? f.type).map fun i => (f.offset, i.size)) = some p)
    (fun f p hp => by
      simp only [Option.map_eq_some_iff] at hp
      obtain ⟨i, hi, rfl⟩ := hp
      simp [sizeOf, typeInfo, hi]) fs.toList ls hl (fun i f p hf hp => by
      have := congrArg (fun l => l[i]?) h
      simpa [hf, hp] using this)
  rw [Sem.run_map, this]
  rfl

theorem done_bld (h : Inv w0 X ok0 n E s a w) {o : Oper} {t : Nat} {parts : Array (Nat × Operand)} {fs : Array Field} {i : TypeInfo} {zs : List Value} {ls : List (Nat × Nat)} {r : List TV}
    (ho : o.op = .build t parts) (ht : P.underlying t = some (.struct fs)) (hi : P.info? t = some i) (hz : i.zero = some (.agg zs.toArray)) (hp : (zs.all fun v => plain v && v.oneCell') = true)
    (hls : fs.toList.map (fun f => (P.info? f.type).map fun i => (f.offset, i.size)) = ls.map some)
    (ps : List (Nat × Nat × Operand)) (hps : parts.toList.map (fun q => (ls[q.1]?).map fun p => (p.1, p.2, q.2)) = ps.map some)
    (hr : fillT (zs.map .v) (ps.map fun p => (p.1, p.2.1, s.ev p.2.2)) = some r) : Done P w0 X ok0 n s a w o (.a r) [] := by
  have hlen : ps.length = parts.toList.length := by have := congrArg List.length hps; simpa using this.symm
  obtain ⟨arr', h1, h2, h3⟩ := fill_ok (w := w) (ok := okOf w0 ok0 E s.ob) (E := E) (ob := s.ob) (place := (ls[·]?)) (ps.map fun p => (p.1, p.2.1, s.ev p.2.2)) ((parts.map fun q => (q.1, a.eval q.2)).toList) (zs.map .v) r zs.toArray (by simpa using relL_plain hp)
    (by simp only [List.all_eq_true, Bool.and_eq_true] at hp; exact fun u hu => (hp u (by simpa using hu)).2) (by simp [hlen])
    (fun j p q hj hq => by
      simp only [List.getElem?_map, Option.map_eq_some_iff] at hj
      obtain ⟨p', hp', rfl⟩ := hj
      simp only [Array.toList_map, List.getElem?_map, Option.map_eq_some_iff] at hq
      obtain ⟨q', hq', rfl⟩ := hq
      have := congrArg (fun l => l[j]?) hps
      simp only [List.getElem?_map, hq', hp', Option.map_some, Option.some.injEq] at this
      simp only [Option.map_eq_some_iff] at this
      obtain ⟨p2, h5, h6⟩ := this
      subst h6
      exact ⟨by simpa using h5, h.ev _⟩) hr
  refine .pure h (y := .agg arr') ?_ ?_
  · have hm := run_mapM_places (P := P) (w := w) hls
    simp only [bind_pure_comp] at hm
    simp only [Array.toList_map] at h1
    simp [execOp, ho, Instr.build, zeroValue, typeInfo, hi, hz, run_underlying ht, hm, Value.cells, h1]
  · simp only [Rel]; exact ⟨arr'.toList, by simp, h3, h2⟩
end

end Go.Proofs.YtaopcacmfhdfkaaGreatDoor.Vc

namespace Go.Proofs.YtaopcacmfhdfkaaGreatDoor.Vc
open Go Go.RowKit
set_option linter.unusedSimpArgs false
set_option linter.unusedVariables false

mutual
/-- No reference to an object. -/
def TV.imm : TV → Bool
  | .v _ | .s _ _ | .r _ => true
  | .o _ | .p _ _ _ | .dead => false
  | .a cs => immL cs
  | .x _ z => z.imm
  | .f _ cap => immL cap
  | .t xs => immL xs
def immL : List TV → Bool
  | [] => true
  | x :: xs => x.imm && immL xs
end

section
variable {w w' : World} {ok : Nat → Prop} {E E' : Nat → Value}
mutual
theorem imm_rel {ob ob' : Obs} : ∀ (x : TV) (y : Value), x.imm = true → Rel w ok E ob x y → Rel w ok E' ob' x y
  | .v x, y, _, h => by simpa [Rel] using h
  | .a cs, y, hi, h => by
    simp only [Rel] at h ⊢
    obtain ⟨ys, e, h1, h2⟩ := h
    exact ⟨ys, e, h1, immL_rel cs ys (by simpa [TV.imm] using hi) h2⟩
  | .s sz xs, y, _, h => by
    have := (show Rel w ok E noObs (.s sz xs) y by simpa only [Rel] using h).imm (w' := w) (E' := E') (ob := ob') (fun k hk _ => ⟨hk, rfl⟩) (Nat.le_refl _)
    exact this
  | .r cs, y, _, h => by
    have := (show Rel w ok E noObs (.r cs) y by simpa only [Rel] using h).imm (w' := w) (E' := E') (ob := ob') (fun k hk _ => ⟨hk, rfl⟩) (Nat.le_refl _)
    exact this
  | .o d, y, hi, _ => by simp [TV.imm] at hi
  | .p d i off, y, hi, _ => by simp [TV.imm] at hi
  | .x t z, y, hi, h => by
    simp only [Rel] at h ⊢
    obtain ⟨u, e, h⟩ := h
    exact ⟨u, e, imm_rel z u (by simpa [TV.imm] using hi) h⟩
  | .f fn cap, y, hi, h => by
    simp only [Rel] at h ⊢
    obtain ⟨us, e, h⟩ := h
    exact ⟨us, e, immL_rel cap us (by simpa [TV.imm] using hi) h⟩
  | .t xs, y, hi, h => by
    simp only [Rel] at h ⊢
    obtain ⟨us, e, h⟩ := h
    exact ⟨us, e, immL_rel xs us (by simpa [TV.imm] using hi) h⟩
  | .dead, y, hi, _ => by simp [TV.imm] at hi
theorem immL_rel {ob ob' : Obs} : ∀ (xs : List TV) (ys : List Value), immL xs = true → RelL w ok E ob xs ys → RelL w ok E' ob' xs ys
  | [], ys, _, h => by simpa [RelL] using h
  | x :: xs, ys, hi, h => by
    simp only [immL, Bool.and_eq_true] at hi
    simp only [RelL] at h ⊢
    obtain ⟨u, us, e, h1, h2⟩ := h
    exact ⟨u, us, e, imm_rel x u hi.1 h1, immL_rel xs us hi.2 h2⟩
end
end

section
variable {P : Program} {w0 : World} {X : Nat → Value} {ok0 : Nat → Prop} {n : Nat} {E : Nat → Value} {s : St} {a : Act} {w : World}

/-- A new row. -/
theorem alloc_row (h : Inv w0 X ok0 n E s a w) {d ty sz m cap : Nat} {xs : List TV} {arr : Array Value} {cs : List Value} (hd : s.ob d = none) (h16 : 16 ≤ d) (hm : xs.length = m) (hmc : m ≤ cap) (hcap : cap ≤ maxLen) (harr : arr.size = cap * sz) (hcs : arr.toList.take (m * sz) = cs)
    (hF : RelF w (okOf w0 ok0 E s.ob) E sz xs cs) :
    ∃ E', Inv w0 X ok0 n E' { s with ob := upd s.ob d (some (.row ty sz xs)) } a (w.alloc (.cells arr ty)) ∧
      Rel (w.alloc (.cells arr ty)) (okOf w0 ok0 E' (upd s.ob d (some (.row ty sz xs)))) E' (upd s.ob d (some (.row ty sz xs))) (.o d) (.slice (some ⟨w.heap.size, 0, none⟩) m cap) := by
  refine ⟨_, h.alloc (v := .slice (some ⟨w.heap.size, 0, none⟩) m cap) hd h16 (fun g hg => by simpa [blkOf] using hg.symm) ?_, ?_⟩
  · intro ok' E' hk hE he
    refine ⟨cs, ⟨by rw [hF.1], .inr ⟨w.heap.size, cap, arr, by rw [he, hm], Nat.zero_le _, heap_alloc_new w _, by omega, hcap, harr, by rw [hm]; exact hcs⟩⟩, hF.imp (fun k h1 h2 => ⟨hk k h1 h2, Below.heap_alloc w _ k h2⟩) (by simp)⟩
  · simp only [Rel]
    exact ⟨⟨_, _, _, upd_same _ _ _⟩, (upd_same _ _ _).symm, _, _, _, rfl⟩

theorem madeCells_get (z : Array Value) (m : Nat) (j : Nat) (h : j < m * z.size) : (madeCells z (m * z.size)).toList[j]? = z.toList[j % z.size]? := by
  have hz : 0 < z.size := by rcases Nat.eq_zero_or_pos z.size with h0 | h0; · simp [h0] at h
                             · exact h0
  have := Nat.mod_lt j hz
  simp [madeCells, h, Array.getElem!_eq_getD, this]

theorem done_mks (h : Inv w0 X ok0 n E s a w) {o : Oper} {d t e : Nat} {x : Operand} {k : IntKind} {m : Int} {ti : TypeInfo} {z : Value} (ho : o.op = .makeSlice t x x) (ht : P.underlying t = some (.slice e)) (hi : P.info? e = some ti) (hz : ti.zero = some z) (hp : plainAgg z = true) (hzs : z.cells.size = ti.size) (hd : s.ob d = none) (h16 : 16 ≤ d)
    (hm : s.ev x = .v (.int k m)) (h0 : 0 ≤ m) (hb : (ti.bytes : Int) * m ≤ 281474976710656) (h63 : m ≤ 9223372036854775807) :
    Done P w0 X ok0 n s a w o (.o d) [(d, .row e ti.size (List.replicate m.toNat (tvOf z)))] := by
  have h1 := h.ev x; rw [hm] at h1; have h1 := v_of h1
  have hr := run_make (P := P) w t e ti z ht hi hz k k m m h0 (Int.le_refl _) hb h63
  obtain ⟨hz1, hz2, cs, hz3⟩ := rel_tvOf (w := w) (E := E) (ok := okOf w0 ok0 E s.ob) (ob := noObs) hp
  have hsz : (madeCells z.cells (m.toNat * ti.size)).size = m.toNat * ti.size := size_madeCells _ _
  obtain ⟨E', h2, h3⟩ := alloc_row (ty := e) (sz := ti.size) (m := m.toNat) (cap := m.toNat) (xs := List.replicate m.toNat (tvOf z)) (arr := madeCells z.cells (m.toNat * ti.size)) h hd h16 (by simp) (Nat.le_refl _) (by unfold maxLen; omega) hsz rfl (by
    refine ⟨by simp [hsz], fun i x hx => ?_⟩
    simp only [List.getElem?_replicate] at hx
    split at hx
    · rename_i hlt
      obtain rfl := Option.some.inj hx
      refine ⟨z, hz1, by rw [Array.length_toList, hzs], hz2, fun j u hu => ?_⟩
      have hj : j < ti.size := by have := (List.getElem?_eq_some_iff.1 hu).1; rw [Array.length_toList, hzs] at this; exact this
      have hlt2 : i * ti.size + j < m.toNat * ti.size := by
        have : (i + 1) * ti.size ≤ m.toNat * ti.size := Nat.mul_le_mul_right _ hlt
        rw [Nat.add_mul] at this; omega
      rw [List.getElem?_take, if_pos hlt2]
      rw [← hzs] at hlt2 hj ⊢
      rw [madeCells_get _ _ _ hlt2, Nat.mul_comm, Nat.mul_add_mod, Nat.mod_eq_of_lt hj]
      exact hu
    · cases hx)
  exact ⟨_, _, E', by simp [execOp, ho, h1, hr], h2, h3⟩

theorem done_mkc (h : Inv w0 X ok0 n E s a w) {o : Oper} {d t e : Nat} {x : Operand} {k k' : IntKind} {m : Int} {ti : TypeInfo} {z : Value} (ho : o.op = .makeSlice t (.const (.int k' 0)) x) (ht : P.underlying t = some (.slice e)) (hi : P.info? e = some ti) (hz : ti.zero = some z) (hd : s.ob d = none) (h16 : 16 ≤ d)
    (hm : s.ev x = .v (.int k m)) (h0 : 0 ≤ m) (hb : (ti.bytes : Int) * m ≤ 281474976710656) (h63 : m ≤ 9223372036854775807) :
    Done P w0 X ok0 n s a w o (.o d) [(d, .row e ti.size [])] := by
  have h1 := h.ev x; rw [hm] at h1; have h1 := v_of h1
  have hr := run_make (P := P) w t e ti z ht hi hz k' k 0 m (Int.le_refl _) h0 hb h63
  have hsz : (madeCells z.cells (m.toNat * ti.size)).size = m.toNat * ti.size := size_madeCells _ _
  obtain ⟨E', h2, h3⟩ := alloc_row (ty := e) (sz := ti.size) (m := 0) (cap := m.toNat) (xs := []) (arr := madeCells z.cells (m.toNat * ti.size)) h hd h16 rfl (Nat.zero_le _) (by unfold maxLen; omega) hsz rfl (by
    refine ⟨by simp, fun i x hx => ?_⟩
    simp at hx)
  have hc : a.eval (.const (.int k' 0)) = .int k' 0 := rfl
  exact ⟨_, _, E', by simp [execOp, ho, h1, hc, hr], h2, h3⟩

theorem flat_get {sz : Nat} : ∀ (ys : List Value), (∀ y ∈ ys, y.cells.toList.length = sz) → ∀ (i : Nat) (y : Value) (j : Nat), ys[i]? = some y → j < sz → (ys.flatMap (·.cells.toList))[i * sz + j]? = y.cells.toList[j]?
  | [], _, i, y, j, hy, _ => by simp at hy
  | u :: us, hl, i, y, j, hy, hj => by
    have hu := hl u (by simp)
    rw [List.flatMap_cons]
    cases i with
    | zero =>
      simp at hy; subst hy
      rw [Nat.zero_mul, Nat.zero_add, List.getElem?_append_left (by omega)]
    | succ i =>
      rw [Nat.add_mul, List.getElem?_append_right (by omega), hu, show i * sz + 1 * sz + j - sz = i * sz + j by omega]
      exact flat_get us (fun y hy => hl y (by simp [hy])) i y j (by simpa using hy) hj

theorem flat_len {sz : Nat} : ∀ (ys : List Value), (∀ y ∈ ys, y.cells.toList.length = sz) → (ys.flatMap (·.cells.toList)).length = ys.length * sz
  | [], _ => by simp
  | u :: us, hl => by
    rw [List.flatMap_cons, List.length_append, hl u (by simp), flat_len us (fun y hy => hl y (by simp [hy])), List.length_cons, Nat.add_mul]
    omega

theorem take_setL {α : Type} (l : List α) (off : Nat) (c : List α) (h : off ≤ l.length) : (setL l off c).take (off + c.length) = l.take off ++ c := by
  unfold setL
  rw [List.take_append_of_le_length (by simp; omega), List.take_of_length_le (by simp; omega)]

theorem fill_seq {sz : Nat} : ∀ (ys : List Value) (k : Nat) (arr : Array Value), (∀ y ∈ ys, y.cells.toList.length = sz) → arr.size = (k + ys.length) * sz →
    ∃ arr', Instr.fill (fun i => some (i * sz, sz)) arr ((List.range' k ys.length).zip ys) = some arr' ∧ arr'.toList = arr.toList.take (k * sz) ++ ys.flatMap (·.cells.toList)
  | [], k, arr, _, h => ⟨arr, by simp [Instr.fill], by simp only [List.length_nil, Nat.add_zero] at h; rw [← h, List.take_of_length_le (by simp)]; simp⟩
  | y :: ys, k, arr, hl, h => by
    have hy : y.cells.size = sz := by rw [← Array.length_toList]; exact hl y (by simp)
    have hfit : k * sz + y.cells.size ≤ arr.size := by
      rw [h, hy, List.length_cons, Nat.add_mul, Nat.add_mul]; omega
    have hset := foldl_setA y.cells arr (k * sz) hfit
    obtain ⟨arr', h1, h2⟩ := fill_seq ys (k + 1) (y.cells.zipIdx.foldl (fun cs x => cs.setIfInBounds (k * sz + x.2) x.1) arr) (fun z hz => hl z (by simp [hz])) (by
      rw [← Array.length_toList, hset]
      unfold setL
      simp only [List.length_append, List.length_take, List.length_drop, Array.length_toList]
      rw [h, List.length_cons, hy] at *
      simp only [Nat.add_mul] at *
      omega)
    refine ⟨arr', ?_, ?_⟩
    · simp only [List.length_cons, List.range'_succ, List.zip_cons_cons, Instr.fill]
      rw [if_neg (by simp only [Bool.or_eq_true, decide_eq_true_eq, not_or]; omega)]
      exact h1
    · rw [h2, hset, List.flatMap_cons, show (k + 1) * sz = k * sz + y.cells.toList.length by rw [hl y (by simp), Nat.add_mul]; omega, take_setL _ _ _ (by rw [Array.length_toList]; omega), List.append_assoc]

theorem done_bsl (h : Inv w0 X ok0 n E s a w) {o : Oper} {d t e m : Nat} {parts : Array (Nat × Operand)} {ti : TypeInfo} {z : Value} (ho : o.op = .buildSlice t m parts) (ht : P.underlying t = some (.slice e)) (hi : P.info? e = some ti) (hz : ti.zero = some z) (_hzs : z.cells.size = ti.size) (hd : s.ob d = none) (h16 : 16 ≤ d)
    (hsz : m * ti.size ≤ 16777216) (hmm : m ≤ 16777216) (xs : List Operand) (hps : parts.toList = (List.range m).zip xs) (hxs : xs.length = m) (himm : ∀ x ∈ xs, (s.ev x).imm = true ∧ ∃ c, cellsT (s.ev x) = some c ∧ c.length = ti.size) :
    Done P w0 X ok0 n s a w o (.o d) [(d, .row e ti.size (xs.map s.ev))] := by
  have hcl : ∀ x ∈ xs, (a.eval x).cells.toList.length = ti.size ∧ ∀ u ∈ (a.eval x).cells.toList, u.oneCell' = true := fun x hx => by
    obtain ⟨h1, c, h2, h3⟩ := himm x hx
    exact ⟨by rw [(cellsT_ok (h.ev x) h2).length, h3], oneCells (h.ev x) h2 (notuple (h.ev x) h2)⟩
  have hys : ∀ y ∈ xs.map a.eval, y.cells.toList.length = ti.size := fun y hy => by
    obtain ⟨x, hx, rfl⟩ := List.mem_map.1 hy
    exact (hcl x hx).1
  obtain ⟨arr', h1, h2⟩ := fill_seq (sz := ti.size) (xs.map a.eval) 0 ((Array.range (m * ti.size)).map ((if m * ti.size = 0 then #[] else z.cells)[· % (if m * ti.size = 0 then #[] else z.cells).size]!)) hys (by simp [hxs])
  simp only [Nat.zero_mul, List.take_zero, List.nil_append] at h2
  have hsize : arr'.size = m * ti.size := by rw [← Array.length_toList, h2, flat_len _ hys]; simp [hxs]
  have hF : RelF w (okOf w0 ok0 E s.ob) E ti.size (xs.map s.ev) arr'.toList := by
    refine ⟨by simp [hsize, hxs], fun i x hx => ?_⟩
    simp only [List.getElem?_map, Option.map_eq_some_iff] at hx
    obtain ⟨p, hp, rfl⟩ := hx
    have hmem : p ∈ xs := List.mem_of_getElem? hp
    refine ⟨a.eval p, imm_rel _ _ (himm p hmem).1 (h.ev p), (hcl p hmem).1, (hcl p hmem).2, fun j u hu => ?_⟩
    rw [h2, flat_get _ hys i (a.eval p) j (by simp [hp]) (by have := (List.getElem?_eq_some_iff.1 hu).1; rw [(hcl p hmem).1] at this; exact this)]
    exact hu
  obtain ⟨E', h3, h4⟩ := alloc_row (ty := e) (sz := ti.size) (m := m) (cap := m) (xs := xs.map s.ev) (arr := arr') (cs := arr'.toList) h hd h16 (by simp [hxs]) (Nat.le_refl _) (by unfold maxLen; omega) hsize (by rw [List.take_of_length_le]; simp [hsize]) hF
  refine ⟨_, _, E', ?_, h3, h4⟩
  have hparts : (parts.map fun q => (q.1, a.eval q.2)).toList = (List.range' 0 (xs.map a.eval).length).zip (xs.map a.eval) := by
    rw [Array.toList_map, hps, List.length_map, hxs, ← List.range_eq_range', List.zip_map_right]
    rfl
  by_cases h0 : m * ti.size = 0
  · simp only [h0, if_true] at h1
    rw [← hparts] at h1
    simp only [Array.toList_map] at h1
    have h1' := h1
    simp only [Array.range_zero', Array.map_empty] at h1'
    simp [execOp, ho, Instr.buildSlice, run_underlying ht, sizeOf, typeInfo, hi, h0, h1', newRow, Array.range_zero']
  · simp only [h0, if_false] at h1
    rw [← hparts] at h1
    simp only [Array.toList_map] at h1
    have hsz' : ¬ (16777216 < m * ti.size) := by omega
    simp [execOp, ho, Instr.buildSlice, run_underlying ht, sizeOf, typeInfo, hi, hsz', h0, zeroValue, hz, h1, newRow]
end

end Go.Proofs.YtaopcacmfhdfkaaGreatDoor.Vc

namespace Go.Proofs.YtaopcacmfhdfkaaGreatDoor.Vc
open Go Go.RowKit
set_option linter.unusedSimpArgs false
set_option linter.unusedVariables false

theorem RelE.drop {w : World} {ok : Nat → Prop} {E : Nat → Value} {sz : Nat} {ad : Addr} : ∀ {l : Nat} {xs : List TV} {k : Nat}, RelE w ok E sz ad k xs → RelE w ok E sz ad (k + l) (xs.drop l)
  | 0, _, _, h => by simpa using h
  | l + 1, [], _, _ => by simp [RelE]
  | l + 1, x :: xs, k, h => by
    simp only [RelE] at h
    have := h.2.drop (l := l)
    rwa [show k + 1 + l = k + (l + 1) by omega] at this
theorem RelE.take {w : World} {ok : Nat → Prop} {E : Nat → Value} {sz : Nat} {ad : Addr} : ∀ {l : Nat} {xs : List TV} {k : Nat}, RelE w ok E sz ad k xs → RelE w ok E sz ad k (xs.take l)
  | 0, _, _, _ => by simp [RelE]
  | l + 1, [], _, _ => by simp [RelE]
  | l + 1, x :: xs, k, h => by
    simp only [RelE] at h
    simp only [List.take_succ_cons, RelE]
    exact ⟨h.1, h.2.take⟩
theorem RelE.shift {w : World} {ok : Nat → Prop} {E : Nat → Value} {sz : Nat} {ad : Addr} {l : Nat} : ∀ {xs : List TV} {k : Nat}, RelE w ok E sz ad (k + l) xs → RelE w ok E sz (ad.add (l * sz)) k xs
  | [], _, _ => by simp [RelE]
  | x :: xs, k, h => by
    simp only [RelE] at h ⊢
    obtain ⟨⟨y, h1, h2, h3, h4⟩, h5⟩ := h
    refine ⟨⟨y, h1, h2, h3, fun j u hu => ?_⟩, RelE.shift (by rwa [show k + 1 + l = k + l + 1 by omega])⟩
    have := h4 j u hu
    rwa [show (ad.add (l * sz)).add (k * sz + j) = ad.add ((k + l) * sz + j) by
      have e : (k + l) * sz + j = l * sz + (k * sz + j) := by rw [Nat.add_mul]; omega
      rw [e]; unfold Addr.add; by_cases hi : l * sz = 0 <;> by_cases hj : k * sz + j = 0 <;> simp [hi, hj, Nat.add_assoc]]

section
variable {P : Program} {w0 : World} {X : Nat → Value} {ok0 : Nat → Prop} {n : Nat} {E : Nat → Value} {s : St} {a : Act} {w : World}

/-- A length. -/
def lenT (s : St) : TV → Option Nat
  | .s _ xs => some xs.length
  | .o d => match s.ob d with | some (.row _ _ xs) => some xs.length | _ => none
  | .v (.slice none 0 0) => some 0
  | .v (.string b) => some b.size
  | _ => none

theorem done_len (h : Inv w0 X ok0 n E s a w) {o : Oper} {t : Nat} {x : Operand} {m : Nat} (ho : o.op = .call { callee := .builtin .len, args := #[x], argTypes := #[t] }) (_ht : (∃ e, P.underlying t = some (.slice e)) ∨ P.underlying t = some .string) (hm : lenT s (s.ev x) = some m) :
    (∃ e, P.underlying t = some (.slice e)) ∧ (∀ b, s.ev x ≠ .v (.string b)) ∨ P.underlying t = some .string ∧ (∃ b, s.ev x = .v (.string b)) → Done P w0 X ok0 n s a w o (.v (.int .i64 m)) [] := by
  intro hk
  have h1 := h.ev x
  refine .pure h (y := .int .i64 m) ?_ (rel_v rfl)
  rcases hk with ⟨⟨e, ht⟩, hns⟩ | ⟨ht, b, hb⟩
  · obtain ⟨A, c, he⟩ : ∃ A c, a.eval x = .slice A m c := by
      generalize hx : s.ev x = tv at hm h1
      unfold lenT at hm
      split at hm
      · obtain rfl := Option.some.inj hm
        simp only [Rel] at h1; obtain ⟨A, c, he, _⟩ := h1; exact ⟨A, c, he⟩
      · split at hm
        · rename_i hd
          obtain rfl := Option.some.inj hm
          obtain ⟨A, c, he, _⟩ := own_slice h hd
          simp only [Rel] at h1
          exact ⟨A, c, h1.2.1.trans he⟩
        · cases hm
      · obtain rfl := Option.some.inj hm
        exact ⟨none, 0, v_of h1⟩
      · exact absurd hx (hns _)
      · cases hm
    simp [execOp, ho, resolve, invoke, builtin, Builtin.len_, run_underlying ht, he, goInt]
  · rw [hb] at hm h1
    simp only [lenT, Option.some.injEq] at hm
    subst hm
    simp [execOp, ho, resolve, invoke, builtin, Builtin.len_, run_underlying ht, v_of h1, goInt]

/-- A bound of a cut. -/
def bndT (s : St) (x : Option Operand) (dflt : Nat) : Option Nat :=
  match x with
  | none => some dflt
  | some x => match s.ev x with | .v (.int _ m) => if 0 ≤ m then some m.toNat else none | _ => none

theorem bnd_ok (h : Inv w0 X ok0 n E s a w) {x : Option Operand} {dflt m : Nat} (hb : bndT s x dflt = some m) : (x = none ∧ m = dflt) ∨ ∃ z k i, x = some z ∧ a.eval z = .int k i ∧ 0 ≤ i ∧ i.toNat = m := by
  unfold bndT at hb
  split at hb
  · exact .inl ⟨rfl, (Option.some.inj hb).symm⟩
  · rename_i z
    split at hb
    · rename_i k i he
      split at hb
      · rename_i h0
        have h1 := h.ev z; rw [he] at h1
        exact .inr ⟨z, k, i, rfl, v_of h1, h0, Option.some.inj hb⟩
      · cases hb
    · cases hb

theorem run_bounds (h : Inv w0 X ok0 n E s a w) {lo hi : Option Operand} {len cap l m : Nat} {b : Bool} (hl : bndT s lo 0 = some l) (hh : bndT s hi len = some m) (h1 : l ≤ m) (h2 : m ≤ cap) :
    (Instr.sliceBounds b len cap (lo.map a.eval) (hi.map a.eval) none).run P w = .ok (l, m, cap) w := by
  rcases bnd_ok h hl with ⟨rfl, rfl⟩ | ⟨z, k, i, rfl, he, h0, rfl⟩ <;> rcases bnd_ok h hh with ⟨rfl, rfl⟩ | ⟨z', k', i', rfl, he', h0', rfl⟩
  · simp [Instr.sliceBounds]
  · have e1 : i' ≤ (cap : Int) := by omega
    simp [Instr.sliceBounds, he', run_sliceBound _ _ _ _ _ h0' e1]
  · have e1 : i ≤ (m : Int) := by omega
    simp [Instr.sliceBounds, he, run_sliceBound _ _ _ _ _ h0 e1]
  · have e1 : i ≤ (i'.toNat : Int) := by omega
    have e2 : i' ≤ (cap : Int) := by omega
    simp [Instr.sliceBounds, he, he', run_sliceBound _ _ _ _ _ h0' e2, run_sliceBound _ _ _ _ _ h0 e1]

theorem done_slc (h : Inv w0 X ok0 n E s a w) {o : Oper} {t e : Nat} {x : Operand} {lo hi : Option Operand} {ti : TypeInfo} {xs : List TV} {l m : Nat} (ho : o.op = .slice t x lo hi none) (ht : P.underlying t = some (.slice e)) (hi' : P.info? e = some ti)
    (hx : s.ev x = .s ti.size xs) (hl : bndT s lo 0 = some l) (hh : bndT s hi xs.length = some m) (h1 : l ≤ m) (h2 : m ≤ xs.length) : Done P w0 X ok0 n s a w o (.s ti.size ((xs.take m).drop l)) [] := by
  have h3 := h.ev x; rw [hx] at h3
  simp only [Rel] at h3
  obtain ⟨A, c, he, hc, h4⟩ := h3
  have hb := run_bounds (P := P) (b := true) h (cap := c) hl hh h1 (by omega)
  refine .pure h (y := .slice (if c = l then A else A.map (·.add (l * ti.size))) (m - l) (c - l)) ?_ ?_
  · simp [execOp, ho, Instr.sliceAt, Instr.slice, run_underlying ht, he, hb, sizeOf, typeInfo, hi']
  · simp only [Rel]
    have hlen' : ((xs.take m).drop l).length = m - l := by rw [List.length_drop, List.length_take]; omega
    refine ⟨_, c - l, by rw [hlen'], by rw [hlen']; omega, fun hne => ?_⟩
    have hlen : ((xs.take m).drop l).length ≠ 0 := fun e => hne (List.eq_nil_of_length_eq_zero e)
    simp only [List.length_drop, List.length_take] at hlen
    obtain ⟨ad, rfl, h5, h6, h7⟩ := h4 (by intro e; subst e; simp at hlen)
    rw [if_neg (by omega)]
    have hbk : (ad.add (l * ti.size)).block = ad.block := by unfold Addr.add; split <;> rfl
    refine ⟨ad.add (l * ti.size), rfl, by rw [hbk]; exact h5, by rw [hbk]; exact h6, ?_⟩
    have := (h7.take (l := m)).drop (l := l)
    exact this.shift

theorem done_scut (h : Inv w0 X ok0 n E s a w) {o : Oper} {t : Nat} {x : Operand} {lo hi : Option Operand} {b : ByteArray} {l m : Nat} (ho : o.op = .slice t x lo hi none) (ht : P.underlying t = some .string)
    (hx : s.ev x = .v (.string b)) (hl : bndT s lo 0 = some l) (hh : bndT s hi b.size = some m) (h1 : l ≤ m) (h2 : m ≤ b.size) : Done P w0 X ok0 n s a w o (.v (.string (b.extract l m))) [] := by
  have h3 := h.ev x; rw [hx] at h3
  have hb := run_bounds (P := P) (b := false) h (cap := b.size) hl hh h1 h2
  exact .pure h (y := .string (b.extract l m)) (by simp [execOp, ho, Instr.sliceAt, Instr.slice, run_underlying ht, v_of h3, hb]) (rel_v rfl)

theorem done_sidx (h : Inv w0 X ok0 n E s a w) {o : Oper} {t : Nat} {x i : Operand} {b : ByteArray} {k : IntKind} {m : Int} {u : UInt8} (ho : o.op = .index t x i) (ht : P.underlying t = some .string) (hx : s.ev x = .v (.string b)) (hm : s.ev i = .v (.int k m)) (h0 : 0 ≤ m) (hu : b[m.toNat]? = some u) :
    Done P w0 X ok0 n s a w o (.v (.int .u8 u.toNat)) [] := by
  have h1 := h.ev x; rw [hx] at h1
  have h2 := h.ev i; rw [hm] at h2
  exact .pure h (y := .int .u8 u.toNat) (by simp [execOp, ho, Instr.index, v_of h1, v_of h2, asIntOf, run_underlying ht, h0, hu]) (rel_v rfl)

theorem done_fld (h : Inv w0 X ok0 n E s a w) {o : Oper} {t k : Nat} {x : Operand} {fs : Array Field} {f : Field} {cs : List TV} {m : Nat} (ho : o.op = .field t x k) (ht : P.underlying t = some (.struct fs)) (hf : fs[k]? = some f) (hs : aggSize P f.type = some (some m)) (hx : s.ev x = .a cs) (hl : f.offset + m ≤ cs.length) :
    Done P w0 X ok0 n s a w o (.a ((cs.drop f.offset).take m)) [] := by
  have h1 := h.ev x; rw [hx] at h1
  simp only [Rel] at h1
  obtain ⟨ys, he, h2, h3⟩ := h1
  obtain ⟨hu, i, hi, rfl⟩ := aggSize_some hs
  refine .pure h (y := .agg ((ys.drop f.offset).take i.size).toArray) ?_ ?_
  · have : (isAgg f.type).run P w = .ok true w := by rcases hu with ⟨_, hu⟩ | ⟨_, _, hu⟩ <;> simp [isAgg, run_underlying hu]
    simp [execOp, ho, he, Instr.field, run_underlying ht, hf, part, this, asAgg, sizeOf, typeInfo, hi, List.extract_toArray, List.extract_eq_take_drop, Nat.add_sub_cancel_left]
  · simp only [Rel]
    exact ⟨_, rfl, fun u hu => h2 u (List.mem_of_mem_drop (List.mem_of_mem_take hu)), h3.drop.take⟩

theorem done_fld1 (h : Inv w0 X ok0 n E s a w) {o : Oper} {t k : Nat} {x : Operand} {fs : Array Field} {f : Field} {cs : List TV} {v : TV} (ho : o.op = .field t x k) (ht : P.underlying t = some (.struct fs)) (hf : fs[k]? = some f) (hs : aggSize P f.type = some none) (hx : s.ev x = .a cs) (hl : cs[f.offset]? = some v) :
    Done P w0 X ok0 n s a w o v [] := by
  have h1 := h.ev x; rw [hx] at h1
  simp only [Rel] at h1
  obtain ⟨ys, he, h2, h3⟩ := h1
  obtain ⟨d, hu, hd⟩ := aggSize_none hs
  obtain ⟨y, hy, hr⟩ := h3.get _ _ hl
  refine .pure h (y := y) ?_ hr
  have : (isAgg f.type).run P w = .ok false w := by
    simp only [isAgg, Sem.run_bind, run_underlying hu, Result.andThen_ok]
    cases d <;> first | rfl | (exact absurd rfl (hd.1 _)) | (exact absurd rfl (hd.2 _ _))
  simp [execOp, ho, he, Instr.field, run_underlying ht, hf, part, this, asAgg, hy]

theorem relL_map (h : Inv w0 X ok0 n E s a w) : ∀ xs : List Operand, RelL w (okOf w0 ok0 E s.ob) E s.ob (xs.map s.ev) (xs.map a.eval)
  | [] => by simp [RelL]
  | x :: xs => by simp only [List.map_cons, RelL]; exact ⟨_, _, rfl, h.ev x, relL_map h xs⟩

theorem done_mkf (h : Inv w0 X ok0 n E s a w) {o : Oper} {fn : Fn} {cap : Array Operand} (ho : o.op = .makeFunc fn #[] cap) : Done P w0 X ok0 n s a w o (.f fn (cap.toList.map s.ev)) [] := by
  refine .pure h (y := .func fn #[] (cap.map a.eval)) (by simp [execOp, ho, Instr.makeFunc]) ?_
  simp only [Rel]
  exact ⟨cap.toList.map a.eval, by rw [← Array.toList_map, Array.toArray_toList], relL_map h _⟩

theorem done_mki (h : Inv w0 X ok0 n E s a w) {o : Oper} {t : Nat} {x : Operand} (ho : o.op = .makeInterface t x) (ht : P.concrete t = true) : Done P w0 X ok0 n s a w o (.x t (s.ev x)) [] := by
  refine .pure h (y := .iface t (a.eval x)) (by simp [execOp, ho, run_makeInterface w t _ ht]) ?_
  simp only [Rel]
  exact ⟨_, rfl, h.ev x⟩

theorem run_tas_hit {t xt : TypeId} {d : TypeDesc} (hu : P.underlying t = some d) (hd : ∀ ms, d ≠ .interface ms) (v : Value) : (Instr.typeAssert (.iface t v) xt t true).run P w = .ok (.tuple #[v, .bool true]) w := by
  cases d <;> first | exact absurd rfl (hd _) | simp [Instr.typeAssert, run_underlying hu]
theorem run_tas_miss {t t' xt : TypeId} {d : TypeDesc} {i : TypeInfo} {z : Value} (hu : P.underlying t = some d) (hd : ∀ ms, d ≠ .interface ms) (hi : P.info? t = some i) (hz : i.zero = some z) (hne : t' ≠ t) (v : Value) : (Instr.typeAssert (.iface t' v) xt t true).run P w = .ok (.tuple #[z, .bool false]) w := by
  cases d <;> first | exact absurd rfl (hd _) | simp [Instr.typeAssert, run_underlying hu, hne, zeroValue, typeInfo, hi, hz]
theorem run_tas_nil {t xt : TypeId} {d : TypeDesc} {i : TypeInfo} {z : Value} (hu : P.underlying t = some d) (hd : ∀ ms, d ≠ .interface ms) (hi : P.info? t = some i) (hz : i.zero = some z) : (Instr.typeAssert .nilIface xt t true).run P w = .ok (.tuple #[z, .bool false]) w := by
  cases d <;> first | exact absurd rfl (hd _) | simp [Instr.typeAssert, run_underlying hu, zeroValue, typeInfo, hi, hz]
/-- Is it of this type? -/
def asT (t : Nat) (z : Value) : TV → Option TV
  | .x t' y => some (if t' = t then .t [y, .v (.bool true)] else .t [.v z, .v (.bool false)])
  | .v .nilIface => some (.t [.v z, .v (.bool false)])
  | _ => none
theorem done_tas (h : Inv w0 X ok0 n E s a w) {o : Oper} {t xt : Nat} {x : Operand} {d : TypeDesc} {i : TypeInfo} {z : Value} {r : TV} (ho : o.op = .typeAssert x xt t true) (hu : P.underlying t = some d) (hd : ∀ ms, d ≠ .interface ms) (hi : P.info? t = some i) (hz : i.zero = some z) (hp : plain z = true) (hx : asT t z (s.ev x) = some r) : Done P w0 X ok0 n s a w o r [] := by
  have h1 := h.ev x
  unfold asT at hx
  split at hx
  · rename_i t' y e
    rw [e] at h1
    simp only [Rel] at h1
    obtain ⟨u, h2, h3⟩ := h1
    obtain rfl := Option.some.inj hx
    by_cases ht : t' = t
    · subst ht
      refine .pure h (y := .tuple #[u, .bool true]) (by simp [execOp, ho, h2, run_tas_hit hu hd]) ?_
      rw [if_pos rfl]
      simp only [Rel]
      exact ⟨[u, .bool true], rfl, by simp only [RelL, Rel]; exact ⟨_, _, rfl, h3, _, _, rfl, ⟨rfl, rfl⟩, rfl⟩⟩
    · refine .pure h (y := .tuple #[z, .bool false]) (by simp [execOp, ho, h2, run_tas_miss hu hd hi hz ht]) ?_
      rw [if_neg ht]
      simp only [Rel]
      exact ⟨[z, .bool false], rfl, by simp only [RelL, Rel]; exact ⟨_, _, rfl, ⟨hp, rfl⟩, _, _, rfl, ⟨rfl, rfl⟩, rfl⟩⟩
  · rename_i e
    rw [e] at h1
    obtain rfl := Option.some.inj hx
    refine .pure h (y := .tuple #[z, .bool false]) (by simp [execOp, ho, v_of h1, run_tas_nil hu hd hi hz]) ?_
    simp only [Rel]
    exact ⟨[z, .bool false], rfl, by simp only [RelL, Rel]; exact ⟨_, _, rfl, ⟨hp, rfl⟩, _, _, rfl, ⟨rfl, rfl⟩, rfl⟩⟩
  · cases hx

theorem done_mm (h : Inv w0 X ok0 n E s a w) {o : Oper} {mx : Bool} {x y : Operand} {ts : Array Nat} {k : IntKind} {u v : Int} (ho : o.op = .call { callee := .builtin (bif mx then .max else .min), args := #[x, y], argTypes := ts }) (hx : s.ev x = .v (.int k u)) (hy : s.ev y = .v (.int k v)) :
    Done P w0 X ok0 n s a w o (.v (.int k (bif mx then max u v else min u v))) [] := by
  have h1 := h.ev x; rw [hx] at h1
  have h2 := h.ev y; rw [hy] at h2
  refine .pure h (y := .int k (bif mx then max u v else min u v)) ?_ (rel_v rfl)
  cases mx
  · have : (if v < u then v else u) = min u v := by omega
    simp [execOp, ho, resolve, invoke, builtin, Builtin.min_, Builtin.min2, v_of h1, v_of h2, this]
  · have : (if u < v then v else u) = max u v := by omega
    simp [execOp, ho, resolve, invoke, builtin, Builtin.max_, Builtin.max2, v_of h1, v_of h2, this]
end

end Go.Proofs.YtaopcacmfhdfkaaGreatDoor.Vc

namespace Go.Proofs.YtaopcacmfhdfkaaGreatDoor.Vc
open Go Go.RowKit
set_option linter.unusedSimpArgs false
set_option linter.unusedVariables false

section
variable {P : Program} {w0 : World} {X : Nat → Value} {ok0 : Nat → Prop} {n : Nat} {E : Nat → Value} {s : St} {a : Act} {w : World}

theorem okOf_same {E' : Nat → Value} {B B' : Obs} (h : ∀ d, B' d ≠ none → B d ≠ none ∧ blkOf (E' d) = blkOf (E d)) {k : Nat} (hk : okOf w0 ok0 E B k) : okOf w0 ok0 E' B' k :=
  ⟨hk.1, fun d hd => by rw [(h d hd).2]; exact hk.2 d (h d hd).1⟩

/-- An object's contents are written. -/
theorem Inv.write (h : Inv w0 X ok0 n E s a w) {d g : Nat} {o o' : Ob} {cs : Array Value} (hd : s.ob d = some o) (hg : blkOf (E d) = some g)
    (hat : ∀ i off, o'.at i off = o.at i off) (hrow : (∃ ty sz xs, o = .row ty sz xs) ↔ ∃ ty sz xs, o' = .row ty sz xs)
    (ho : (∀ x y, Rel w (okOf w0 ok0 E s.ob) E s.ob x y → Rel (w.setRow g cs) (okOf w0 ok0 E (upd s.ob d (some o'))) E (upd s.ob d (some o')) x y) →
      (∀ x y, Rel w (okOf w0 ok0 E s.ob) E noObs x y → Rel (w.setRow g cs) (okOf w0 ok0 E (upd s.ob d (some o'))) E noObs x y) →
      ObRel (w.setRow g cs) (okOf w0 ok0 E (upd s.ob d (some o'))) E (upd s.ob d (some o')) d o') :
    Inv w0 X ok0 n E { s with ob := upd s.ob d (some o') } a (w.setRow g cs) := by
  have hne : ∀ e, upd s.ob d (some o') e ≠ none ↔ s.ob e ≠ none := by
    intro e; by_cases he : e = d
    · subst he; simp [hd]
    · rw [upd_ne _ _ he]
  have hk : ∀ k, okOf w0 ok0 E s.ob k → k < w.heap.size → okOf w0 ok0 E (upd s.ob d (some o')) k ∧ (w.setRow g cs).heap[k]? = w.heap[k]? := by
    intro k hk _
    refine ⟨okOf_same (fun e he => ⟨(hne e).1 he, rfl⟩) hk, setRow_other w g k cs ?_⟩
    rintro rfl
    exact hk.2 d (by rw [hd]; simp) hg
  have hs : w.heap.size ≤ (w.setRow g cs).heap.size := by simp [World.setRow]
  have hob : ∀ e oe, s.ob e = some oe → E e = E e ∧ ∃ o2, upd s.ob d (some o') e = some o2 ∧ (∀ i off, o2.at i off = oe.at i off) ∧ ((∃ ty sz xs, oe = .row ty sz xs) → ∃ ty sz xs, o2 = .row ty sz xs) := by
    intro e oe he
    refine ⟨rfl, ?_⟩
    by_cases hed : e = d
    · subst hed; rw [hd] at he; obtain rfl := Option.some.inj he
      exact ⟨o', upd_same _ _ _, hat, hrow.1⟩
    · exact ⟨oe, by rw [upd_ne _ _ hed]; exact he, fun _ _ => rfl, id⟩
  have hmv : ∀ x y, Rel w (okOf w0 ok0 E s.ob) E s.ob x y → Rel (w.setRow g cs) (okOf w0 ok0 E (upd s.ob d (some o'))) E (upd s.ob d (some o')) x y := fun x y hr => hr.move hk hs hob
  refine { keep := ⟨h.keep.os, h.keep.tape, h.keep.output, Nat.le_trans h.keep.size hs, fun k hkk hx => ?_, h.keep.drawn⟩, tm := fun t => hmv _ _ (h.tm t), ob := fun e oe he => ?_, ext := fun e h1 he => h.ext e h1 ((hne e).1 he), own := fun e g' h1 he hg' => h.own e g' h1 ((hne e).1 he) hg', dis := fun e f g' he hf hge hgf => h.dis e f g' ((hne e).1 he) ((hne f).1 hf) hge hgf, defers := h.defers, size := h.size }
  · rw [setRow_other]
    · exact h.keep.block k hkk hx
    · rintro rfl
      by_cases h16 : d < 16
      · exact hx ⟨d, by rw [← h.ext d h16 (by rw [hd]; simp)]; exact hg⟩
      · rcases h.own d k (by omega) (by rw [hd]; simp) hg with h3 | ⟨_, h3⟩
        · omega
        · exact hx ⟨31, h3⟩
  · by_cases hed : e = d
    · subst hed
      simp only [upd_same, Option.some.injEq] at he
      subst he
      exact ho hmv (fun x y hr => hr.move hk hs (fun e oe he => by cases he))
    · simp only [upd_ne _ _ hed] at he
      refine (h.ob e oe he).move hk hs rfl (fun g' hg' => setRow_other w g g' cs ?_) hmv
      rintro rfl
      exact hed (h.dis e d g' (by rw [he]; simp) (by rw [hd]; simp) hg' hg)

/-- The cells of an element, written from a place on. -/
def wrT (z : TV) (off : Nat) (c : List TV) : Option TV :=
  match z with
  | .a cs => if off + c.length ≤ cs.length then some (.a (setL cs off c)) else none
  | .dead | .t _ => none
  | _ => match off, c with
    | 0, [.a _] => none
    | 0, [.dead] => none
    | 0, [.t _] => none
    | 0, [v] => some v
    | _, _ => none

theorem wrT_ok {ok : Nat → Prop} {ob : Obs} {z z' : TV} {y : Value} {off : Nat} {c : List TV} {us : List Value} (hz : Rel w ok E ob z y) (hy : ∀ u ∈ y.cells.toList, u.oneCell' = true) (hc : RelL w ok E ob c us) (hu : ∀ u ∈ us, u.oneCell' = true) (h : wrT z off c = some z') :
    ∃ y' : Value, Rel w ok E ob z' y' ∧ y'.cells.toList = setL y.cells.toList off us ∧ off + us.length ≤ y.cells.toList.length := by
  have hl := hc.length
  cases z
  case a cs =>
    simp only [wrT] at h
    split at h
    · rename_i hfit
      obtain rfl := Option.some.inj h
      simp only [Rel] at hz
      obtain ⟨ys, rfl, h1, h2⟩ := hz
      refine ⟨.agg (setL ys off us).toArray, ?_, by simp [Value.cells], by simp [Value.cells, h2.length, hl]; exact hfit⟩
      simp only [Rel]
      refine ⟨_, rfl, fun u hu' => ?_, h2.setL hc⟩
      unfold setL at hu'
      simp only [List.append_assoc, List.mem_append] at hu'
      rcases hu' with hu' | hu' | hu'
      · exact h1 u (List.mem_of_mem_take hu')
      · exact hu u hu'
      · exact h1 u (List.mem_of_mem_drop hu')
    · cases h
  case dead => simp [wrT] at h
  case t => simp [wrT] at h
  all_goals
    have h1 := (cellsT_ok hz rfl).length
    simp only [wrT] at h
    split at h <;> first
      | (cases h; done)
      | (obtain rfl := Option.some.inj h
         rename_i v hv1 hv2 hv3
         simp only [RelL] at hc
         obtain ⟨u, us', rfl, hr, rfl⟩ := hc
         have hcv : cellsT v = some [v] := by cases v <;> first | rfl | (exact absurd rfl (hv1 _)) | (exact absurd rfl hv2) | (exact absurd rfl (hv3 _))
         have h2 := (cellsT_ok hr hcv).length
         have hone := hu u (by simp)
         have huc : u.cells.toList = [u] := by cases u <;> first | rfl | (simp [Value.oneCell'] at hone)
         refine ⟨u, hr, ?_, ?_⟩
         · rw [huc]; unfold setL; rw [List.drop_of_length_le (by rw [h1]; simp)]; rfl
         · rw [h1]; simp)

def storeOb : Ob → Nat → Nat → List TV → Option Ob
  | .var ty z, _, off, c => (wrT z off c).map (.var ty ·)
  | .row ty sz xs, i, off, c => if immL c = true then (xs[i]?).bind fun z => (wrT z off c).map fun z' => .row ty sz (xs.set i z') else none

theorem run_store (P : Program) {t sz : Nat} {ti : TypeInfo} {g o ty : Nat} {cur : Array Value} {y : Value} (hi : P.info? t = some ti) (hs : ti.size = sz) (hy : y.cells.toList.length = sz) (hg : w.heap[g]? = some (.cells cur ty (0, 0))) (hfit : o + y.cells.toList.length ≤ cur.size) (h1 : ∀ u ∈ y.cells.toList, u.oneCell' = true) :
    (Instr.storeAt t (.pointer (some ⟨g, o, none⟩)) y).run P w = .ok () (w.setRow g (setL cur.toList o y.cells.toList).toArray) := by
  have := run_storeCells_at P g o ty y.cells.toList 0 cur w hg (by simpa using hfit) h1
  rw [Array.length_toList] at hy
  simp only [Nat.add_zero] at this
  simp [Instr.storeAt, Instr.sureAddr, storeVar, sizeOf, typeInfo, hi, hs, hy, setL]
  simpa [hy] using this

theorem setL_length {α : Type} (l : List α) (off : Nat) (c : List α) (h : off + c.length ≤ l.length) : (setL l off c).length = l.length := by
  unfold setL; simp; omega

theorem store_ok (h : Inv w0 X ok0 n E s a w) {o : Oper} {t sz d i off : Nat} {ti : TypeInfo} {x y : Operand} {c : List TV} {ob ob' : Ob} (ho : o.op = .store t x y) (hi : P.info? t = some ti) (hs : ti.size = sz) (hx : s.ev x = .p d i off) (hob : s.ob d = some ob) (hc : cellsT (s.ev y) = some c) (hl : c.length = sz) (hst : storeOb ob i off c = some ob') :
    ∃ w', (execOp a.eval o).run P w = .ok .skip w' ∧ Inv w0 X ok0 n E { s with ob := upd s.ob d (some ob') } a w' := by
  have hx1 := h.ev x; rw [hx] at hx1
  simp only [Rel] at hx1
  obtain ⟨ob2, hob2, g, hg, he⟩ := hx1
  rw [hob] at hob2; obtain rfl := Option.some.inj hob2
  have hy1 := h.ev y
  have hcy := cellsT_ok hy1 hc
  have hone := oneCells hy1 hc (notuple hy1 hc)
  have hly : (a.eval y).cells.toList.length = sz := by rw [hcy.length, hl]
  have hobr := h.ob d ob hob
  cases ob with
  | var ty z =>
    simp only [storeOb, Option.map_eq_some_iff] at hst
    obtain ⟨z', hz', rfl⟩ := hst
    obtain ⟨g', yv, hE, hr, hh, h1⟩ := hobr
    rw [hE] at hg; simp [blkOf] at hg; subst hg
    obtain ⟨y', hr', hset, hfit⟩ := wrT_ok hr h1 hcy hone hz'
    simp only [Ob.at] at he
    have hrun := run_store P (t := t) (o := off) hi hs hly hh (by simpa using hfit) hone
    rw [← hset, Array.toArray_toList] at hrun
    refine ⟨w.setRow g' y'.cells, by simp [execOp, ho, he, hrun], ?_⟩
    refine h.write hob (by rw [hE]; rfl) (fun _ _ => rfl) (by simp) (fun hmv _ => ⟨g', y', hE, hmv _ _ hr', setRow_heap w g' _ _ ty _ hh, fun u hu => ?_⟩)
    rw [hset] at hu
    unfold setL at hu
    simp only [List.append_assoc, List.mem_append] at hu
    rcases hu with hu | hu | hu
    · exact h1 u (List.mem_of_mem_take hu)
    · exact hone u hu
    · exact h1 u (List.mem_of_mem_drop hu)
  | row ty sz2 xs =>
    simp only [storeOb] at hst
    split at hst
    · rename_i himm
      simp only [Option.bind_eq_some_iff, Option.map_eq_some_iff] at hst
      obtain ⟨z, hz, z', hz', rfl⟩ := hst
      obtain ⟨cs, ⟨hcl, hown⟩, hF⟩ := hobr
      rcases hown with ⟨hE, _⟩ | ⟨g', cap, cur, hE, hb0, hh, hnc, hcm, hcs, htake⟩
      · rw [hE] at hg; simp [blkOf] at hg
      · rw [hE] at hg; simp [blkOf] at hg; subst hg
        obtain ⟨yv, hr, hyl, h1, hget⟩ := hF.2 i z hz
        have himm' := immL_rel (ob' := noObs) (E' := E) c _ himm hcy
        obtain ⟨y', hr', hset, hfit⟩ := wrT_ok hr h1 himm' hone hz'
        have hil : i < xs.length := (List.getElem?_eq_some_iff.1 hz).1
        have hi2 : i * sz2 + sz2 ≤ xs.length * sz2 := by
          have : (i + 1) * sz2 ≤ xs.length * sz2 := Nat.mul_le_mul_right _ hil
          rw [Nat.add_mul] at this; omega
        have hcur : xs.length * sz2 ≤ cur.size := by rw [hcs]; exact Nat.mul_le_mul_right _ hnc
        simp only [Ob.at] at he
        have hfit2 : i * sz2 + off + (a.eval y).cells.toList.length ≤ cur.size := by omega
        have hrun := run_store P (t := t) (o := i * sz2 + off) hi hs hly hh hfit2 hone
        refine ⟨w.setRow g' (setL cur.toList (i * sz2 + off) (a.eval y).cells.toList).toArray, by simp [execOp, ho, he, hrun], ?_⟩
        refine h.write hob (by rw [hE]; rfl) (fun _ _ => rfl) (by simp) (fun _ hmv => ⟨setL cs (i * sz2 + off) (a.eval y).cells.toList, ⟨?_, .inr ⟨g', cap, _, by rw [hE, List.length_set], hb0, setRow_heap w g' _ _ ty _ hh, by rw [List.length_set]; exact hnc, hcm, ?_, ?_⟩⟩, ?_, ?_⟩)
        · rw [setL_length _ _ _ (by rw [hcl]; omega), hcl, List.length_set]
        · rw [List.size_toArray, setL_length _ _ _ (by simpa using hfit2), Array.length_toList, hcs]
        · rw [List.length_set, ← htake]
          unfold setL
          apply List.ext_getElem?
          intro j
          simp only [List.append_assoc, List.getElem?_append, List.length_take, Array.length_toList, List.getElem?_take, List.getElem?_drop]
          grind
        · rw [setL_length _ _ _ (by rw [hcl]; omega), hcl, List.length_set]
        · intro j xj hj
          by_cases hji : j = i
          · subst hji
            rw [List.getElem?_set_self hil] at hj
            obtain rfl := Option.some.inj hj
            refine ⟨y', hmv _ _ hr', by rw [hset, setL_length _ _ _ hfit, hyl], fun u hu => ?_, fun k u hu => ?_⟩
            · rw [hset] at hu
              unfold setL at hu
              simp only [List.append_assoc, List.mem_append] at hu
              rcases hu with hu | hu | hu
              · exact h1 u (List.mem_of_mem_take hu)
              · exact hone u hu
              · exact h1 u (List.mem_of_mem_drop hu)
            · have hk : k < sz2 := by
                have := (List.getElem?_eq_some_iff.1 hu).1
                rwa [hset, setL_length _ _ _ hfit, hyl] at this
              rw [hset] at hu
              unfold setL at hu ⊢
              simp only [List.append_assoc, List.getElem?_append, List.length_take, List.getElem?_take, List.getElem?_drop] at hu ⊢
              have hg1 := hget k
              have hg2 := hget (off + (a.eval y).cells.toList.length + (k - off - (a.eval y).cells.toList.length))
              grind
          · rw [List.getElem?_set_ne (Ne.symm hji)] at hj
            obtain ⟨yj, hrj, hlj, h1j, hgj⟩ := hF.2 j xj hj
            refine ⟨yj, hmv _ _ hrj, hlj, h1j, fun k u hu => ?_⟩
            have hk : k < sz2 := by have := (List.getElem?_eq_some_iff.1 hu).1; omega
            have := hgj k u hu
            unfold setL
            simp only [List.append_assoc, List.getElem?_append, List.length_take, List.getElem?_take, List.getElem?_drop]
            have hd : j * sz2 + sz2 ≤ i * sz2 ∨ i * sz2 + sz2 ≤ j * sz2 := by
              rcases Nat.lt_or_gt_of_ne hji with h2 | h2
              · left; have : (j + 1) * sz2 ≤ i * sz2 := Nat.mul_le_mul_right _ h2
                rw [Nat.add_mul] at this; omega
              · right; have : (i + 1) * sz2 ≤ j * sz2 := Nat.mul_le_mul_right _ h2
                rw [Nat.add_mul] at this; omega
            grind
    · cases hst
end

end Go.Proofs.YtaopcacmfhdfkaaGreatDoor.Vc

namespace Go.Proofs.YtaopcacmfhdfkaaGreatDoor.Vc
open Go Go.RowKit
set_option linter.unusedSimpArgs false
set_option linter.unusedVariables false

def Ob.sub (fo : Nat → TV) (fp : Nat → Nat → Nat → TV) : Ob → Ob
  | .var ty x => .var ty (x.sub fo fp)
  | .row ty sz xs => .row ty sz xs

theorem Ob.sub_at (fo : Nat → TV) (fp : Nat → Nat → Nat → TV) (o : Ob) (i off : Nat) : (o.sub fo fp).at i off = o.at i off := by cases o <;> rfl

section
variable {P : Program} {w0 : World} {X : Nat → Value} {ok0 : Nat → Prop} {n : Nat} {E : Nat → Value} {s : St} {a : Act} {w : World}

/-- References turn into something else, and some objects change. -/
theorem Inv.turn (h : Inv w0 X ok0 n E s a w) {w' : World} {E' : Nat → Value} {ob' : Obs} {fo : Nat → TV} {fp : Nat → Nat → Nat → TV}
    (hkeep : Keep (fun g => ∃ d, blkOf (X d) = some g) w0 w') (hk : ∀ k, okOf w0 ok0 E s.ob k → k < w.heap.size → okOf w0 ok0 E' ob' k ∧ w'.heap[k]? = w.heap[k]?) (hs : w.heap.size ≤ w'.heap.size)
    (ho : ∀ e y, Rel w (okOf w0 ok0 E s.ob) E s.ob (.o e) y → Rel w' (okOf w0 ok0 E' ob') E' ob' (fo e) y)
    (hp : ∀ e i off y, Rel w (okOf w0 ok0 E s.ob) E s.ob (.p e i off) y → Rel w' (okOf w0 ok0 E' ob') E' ob' (fp e i off) y)
    (hob : ∀ e o', ob' e = some o' → (∃ o, s.ob e = some o ∧ o' = o.sub fo fp ∧ E' e = E e ∧ ∀ g, blkOf (E e) = some g → w'.heap[g]? = w.heap[g]?) ∨ ObRel w' (okOf w0 ok0 E' ob') E' ob' e o')
    (ext : ∀ d, d < 16 → ob' d ≠ none → E' d = X d) (own : ∀ d g, 16 ≤ d → ob' d ≠ none → blkOf (E' d) = some g → w0.heap.size ≤ g ∨ (d = 31 ∧ blkOf (X 31) = some g))
    (dis : ∀ d e g, ob' d ≠ none → ob' e ≠ none → blkOf (E' d) = some g → blkOf (E' e) = some g → d = e) :
    Inv w0 X ok0 n E' { tm := fun t => (s.tm t).sub fo fp, ob := ob' } a w' :=
  { keep := hkeep, ext := ext, own := own, dis := dis, defers := h.defers, size := h.size
    tm := fun t => Rel.gen hk hs ho hp _ _ (h.tm t)
    ob := fun e o' he => by
      rcases hob e o' he with ⟨o, h1, rfl, h3, h4⟩ | h1
      · have h2 := h.ob e o h1
        cases o with
        | var ty x =>
          obtain ⟨g, y, hE, hr, hh, hc⟩ := h2
          exact ⟨g, y, by rw [h3, hE], Rel.gen hk hs ho hp _ _ hr, by rw [h4 g (by rw [hE]; rfl)]; exact hh, hc⟩
        | row ty sz xs =>
          obtain ⟨cs, hown, hF⟩ := h2
          refine ⟨cs, ?_, hF.imp hk hs⟩
          rw [h3]
          refine ⟨hown.1, ?_⟩
          rcases hown.2 with hn | ⟨g, cap, cur, hE, h5, h6, h7⟩
          · exact .inl hn
          · exact .inr ⟨g, cap, cur, hE, h5, by rw [h4 g (by rw [hE]; rfl)]; exact h6, h7⟩
      · exact h1 }

theorem row_imm {ok : Nat → Prop} {B : Obs} {d ty sz : Nat} {xs : List TV} (h : ObRel w ok E B d (.row ty sz xs)) {ok' : Nat → Prop} (hk : ∀ k, ok k → k < w.heap.size → ok' k) (hg : ∀ g, blkOf (E d) = some g → ok' g) {ob : Obs} {E' : Nat → Value} : Rel w ok' E' ob (.s sz xs) (E d) := by
  obtain ⟨cs, ⟨hcl, hown⟩, hF⟩ := h
  simp only [Rel]
  rcases hown with ⟨hE, hx⟩ | ⟨g, cap, cur, hE, h5, h6, h7, h8, h9, h10⟩
  · refine ⟨none, 0, by rw [hE, hx], by omega, fun hne => absurd (List.eq_nil_of_length_eq_zero hx) hne⟩
  · have hlt : g < w.heap.size := (Array.getElem?_eq_some_iff.1 h6).1
    refine ⟨some ⟨g, 0, none⟩, cap, hE, h7, fun _ => ⟨_, rfl, hg g (by rw [hE]; rfl), hlt, RelE.of_get fun i x hx => ?_⟩⟩
    obtain ⟨y, hr, hl, h1, hget⟩ := hF.2 i x hx
    refine ⟨y, hr.imm (fun k hk' hlt => ⟨hk k hk' hlt, rfl⟩) (Nat.le_refl _), hl, h1, fun j u hu => ?_⟩
    have hj := hget j u hu
    rw [add_lit, cell_of_row w g _ cur ty (0, 0) h6, Nat.zero_add, Nat.zero_add]
    rw [← h10, List.getElem?_take] at hj
    split at hj
    · simpa using hj
    · cases hj

/-- A row that is no longer written: from now on a value. -/
def frzO (d sz : Nat) (xs : List TV) : Nat → TV := fun e => if e = d then .s sz xs else .o e
def frzP (d : Nat) : Nat → Nat → Nat → TV := fun e i off => if e = d then .dead else .p e i off
def St.freeze (s : St) (d sz : Nat) (xs : List TV) : St :=
  { tm := fun t => (s.tm t).sub (frzO d sz xs) (frzP d), ob := fun e => if e = d then none else (s.ob e).map (·.sub (frzO d sz xs) (frzP d)) }

theorem Inv.freeze (h : Inv w0 X ok0 n E s a w) {d ty sz : Nat} {xs : List TV} (hd : s.ob d = some (.row ty sz xs)) (h16 : 16 ≤ d) (h31 : d ≠ 31) : Inv w0 X ok0 n E (s.freeze d sz xs) a w := by
  have hne : ∀ e, (s.freeze d sz xs).ob e ≠ none → e ≠ d ∧ s.ob e ≠ none := by
    intro e he
    simp only [St.freeze] at he
    split at he
    · exact absurd rfl he
    · rename_i hed
      refine ⟨hed, fun h0 => ?_⟩
      rw [h0] at he; exact he rfl
  have hk : ∀ k, okOf w0 ok0 E s.ob k → k < w.heap.size → okOf w0 ok0 E (s.freeze d sz xs).ob k ∧ w.heap[k]? = w.heap[k]? := fun k hk _ => ⟨okOf_same (fun e he => ⟨(hne e he).2, rfl⟩) hk, rfl⟩
  refine h.turn h.keep hk (Nat.le_refl _) (fun e y hr => ?_) (fun e i off y hr => ?_) (fun e o' he => .inl ?_) (fun e h1 he => h.ext e h1 (hne e he).2) (fun e g h1 he hg => h.own e g h1 (hne e he).2 hg) (fun e f g he hf h1 h2 => h.dis e f g (hne e he).2 (hne f hf).2 h1 h2)
  · show Rel w _ E _ (if e = d then .s sz xs else .o e) y
    split
    · rename_i hed; subst hed
      simp only [Rel] at hr
      rw [hr.2.1]
      refine row_imm (h.ob e _ hd) (fun k hk' hlt => (hk k hk' hlt).1) (fun g hg => ?_)
      refine ⟨?_, fun f hf hfg => (hne f hf).1 (h.dis f e g (hne f hf).2 (by rw [hd]; simp) hfg hg)⟩
      exact .inr ((h.own e g h16 (by rw [hd]; simp) hg).resolve_right fun h' => h31 h'.1)
    · rename_i hed
      simp only [Rel] at hr ⊢
      obtain ⟨⟨ty', sz', xs', h1⟩, h2, h3⟩ := hr
      exact ⟨⟨ty', sz', xs', by simp [hed, h1, Ob.sub]⟩, h2, h3⟩
  · show Rel w _ E _ (if e = d then .dead else .p e i off) y
    split
    · simp [Rel]
    · rename_i hed
      simp only [Rel] at hr ⊢
      obtain ⟨o, h1, g, h2, h3⟩ := hr
      exact ⟨o.sub (frzO d sz xs) (frzP d), by simp [hed, h1], g, h2, by rw [Ob.sub_at]; exact h3⟩
  · have he : (if e = d then none else (s.ob e).map (·.sub (frzO d sz xs) (frzP d))) = some o' := he
    split at he
    · cases he
    · simp only [Option.map_eq_some_iff] at he
      obtain ⟨o, h1, h2⟩ := he
      exact ⟨o, h1, h2.symm, rfl, fun _ _ => rfl⟩
end

section
variable {P : Program} {w0 : World} {X : Nat → Value} {ok0 : Nat → Prop} {n : Nat} {E : Nat → Value} {s : St} {a : Act} {w : World}

/-- An empty row of nobody's memory. -/
theorem Inv.ghost (h : Inv w0 X ok0 n E s a w) {d ty sz : Nat} (hd : s.ob d = none) (h16 : 16 ≤ d) :
    Inv w0 X ok0 n (upd E d (.slice none 0 0)) { s with ob := upd s.ob d (some (.row ty sz [])) } a w := by
  have hne : ∀ e, upd s.ob d (some (.row ty sz [])) e ≠ none → e = d ∨ (e ≠ d ∧ s.ob e ≠ none) := by
    intro e he
    by_cases hed : e = d
    · exact .inl hed
    · rw [upd_ne _ _ hed] at he; exact .inr ⟨hed, he⟩
  have hbk : ∀ e g, upd s.ob d (some (.row ty sz [])) e ≠ none → blkOf (upd E d (.slice none 0 0) e) = some g → e ≠ d ∧ s.ob e ≠ none ∧ blkOf (E e) = some g := by
    intro e g he hg
    rcases hne e he with rfl | ⟨h1, h2⟩
    · rw [upd_same] at hg; simp [blkOf] at hg
    · rw [upd_ne _ _ h1] at hg; exact ⟨h1, h2, hg⟩
  have hk : ∀ k, okOf w0 ok0 E s.ob k → k < w.heap.size → okOf w0 ok0 (upd E d (.slice none 0 0)) (upd s.ob d (some (.row ty sz []))) k ∧ w.heap[k]? = w.heap[k]? := fun k hk _ =>
    ⟨⟨hk.1, fun e he hb => hk.2 e (hbk e k he hb).2.1 (hbk e k he hb).2.2⟩, rfl⟩
  have hob : ∀ e oe, s.ob e = some oe → upd E d (.slice none 0 0) e = E e ∧ ∃ o2, upd s.ob d (some (.row ty sz [])) e = some o2 ∧ (∀ i off, o2.at i off = oe.at i off) ∧ ((∃ ty sz xs, oe = .row ty sz xs) → ∃ ty sz xs, o2 = .row ty sz xs) := by
    intro e oe he
    have hed : e ≠ d := by rintro rfl; rw [hd] at he; cases he
    exact ⟨upd_ne _ _ hed, oe, by rw [upd_ne _ _ hed]; exact he, fun _ _ => rfl, id⟩
  refine { keep := h.keep, tm := fun t => (h.tm t).move hk (Nat.le_refl _) hob, ob := fun e oe he => ?_, ext := fun e h1 he => ?_, own := fun e g h1 he hg => h.own e g h1 (hbk e g he hg).2.1 (hbk e g he hg).2.2, dis := fun e f g he hf h1 h2 => h.dis e f g (hbk e g he h1).2.1 (hbk f g hf h2).2.1 (hbk e g he h1).2.2 (hbk f g hf h2).2.2, defers := h.defers, size := h.size }
  rotate_left
  · rcases hne e he with rfl | ⟨h2, h3⟩
    · omega
    · rw [upd_ne _ _ h2]; exact h.ext e h1 h3
  by_cases hed : e = d
  · subst hed
    simp only [upd_same, Option.some.injEq] at he
    subst he
    exact ⟨[], by rw [upd_same]; exact World.ownsRow_nil _ _ _ _, by simp [RelF]⟩
  · simp only [upd_ne _ _ hed] at he
    exact (h.ob e oe he).move hk (Nat.le_refl _) (upd_ne _ _ hed) (fun _ _ => rfl) (fun x y hr => hr.move hk (Nat.le_refl _) hob)

theorem ghost_rel {ok : Nat → Prop} {d ty sz : Nat} {B : Obs} {E' : Nat → Value} (hE : E' d = .slice none 0 0) (hB : B d = some (.row ty sz [])) : Rel w ok E' B (.o d) (.slice none 0 0) := by
  simp only [Rel]
  exact ⟨⟨_, _, _, hB⟩, hE.symm, _, _, _, rfl⟩

/-- The state behind an append to row d: other references to it are gone. -/
def killO (d : Nat) : Nat → TV := fun e => if e = d then .dead else .o e
def St.grow (s : St) (d : Nat) (o : Ob) : St :=
  { tm := fun t => (s.tm t).sub (killO d) (frzP d), ob := fun e => if e = d then some o else (s.ob e).map (·.sub (killO d) (frzP d)) }

theorem blk_slice {v : Value} (h : ∃ A n c, v = .slice A n c) : blkOf v = v.ownBlock := by
  obtain ⟨A, n, c, rfl⟩ := h
  cases A <;> rfl

theorem Inv.grow (h : Inv w0 X ok0 n E s a w) {d ty sz : Nat} {xs xs' : List TV} (hd : s.ob d = some (.row ty sz xs)) (h16 : 16 ≤ d) {w' : World} {v' : Value} {cs' : List Value} (hown : w'.ownsRow 0 ty sz v' xs'.length cs')
    (hF : ∀ (ok' : Nat → Prop) (E' : Nat → Value), (∀ k, okOf w0 ok0 E s.ob k → k < w.heap.size → ok' k ∧ w'.heap[k]? = w.heap[k]?) → RelF w' ok' E' sz xs' cs') (hg : w.grownBy w' (E d).ownBlock) (hb : ∀ g, v'.ownBlock = some g → (E d).ownBlock = some g ∨ w.heap.size ≤ g) :
    Inv w0 X ok0 n (upd E d v') (s.grow d (.row ty sz xs')) a w' ∧ Rel w' (okOf w0 ok0 (upd E d v') (s.grow d (.row ty sz xs')).ob) (upd E d v') (s.grow d (.row ty sz xs')).ob (.o d) v' := by
  have hsl : ∃ A n c, E d = .slice A n c := by obtain ⟨A, c, h1, _⟩ := own_slice h hd; exact ⟨A, _, c, h1⟩
  have hsl' : ∃ A n c, v' = .slice A n c := by
    rcases hown.2 with ⟨h1, _⟩ | ⟨g, cap, cur, h1, _⟩
    · exact ⟨_, _, _, h1⟩
    · exact ⟨_, _, _, h1⟩
  have hbd : blkOf v' = none ∨ blkOf v' = blkOf (E d) ∨ ∃ g, blkOf v' = some g ∧ w.heap.size ≤ g := by
    rw [blk_slice hsl, blk_slice hsl']
    cases hv : v'.ownBlock with
    | none => exact .inl rfl
    | some g =>
      rcases hb g hv with h1 | h1
      · exact .inr (.inl h1.symm)
      · exact .inr (.inr ⟨g, rfl, h1⟩)
  have hbE : (E d).ownBlock = blkOf (E d) := (blk_slice hsl).symm
  have hne : ∀ e, (s.grow d (.row ty sz xs')).ob e ≠ none → e = d ∨ (e ≠ d ∧ s.ob e ≠ none) := by
    intro e he
    by_cases hed : e = d
    · exact .inl hed
    · refine .inr ⟨hed, fun h0 => he ?_⟩
      simp [St.grow, hed, h0]
  have hlt : ∀ e g, s.ob e ≠ none → blkOf (E e) = some g → g < w.heap.size := fun e g he hg => by
    cases hoe : s.ob e with
    | none => exact absurd hoe he
    | some oe => exact (h.ob e oe hoe).lt hg
  have hds : s.ob d ≠ none := by rw [hd]; simp
  have hk : ∀ k, okOf w0 ok0 E s.ob k → k < w.heap.size → okOf w0 ok0 (upd E d v') (s.grow d (.row ty sz xs')).ob k ∧ w'.heap[k]? = w.heap[k]? := by
    intro k hk hkl
    refine ⟨⟨hk.1, fun e he => ?_⟩, hg.block k hkl (by rw [hbE]; exact (hk.2 d hds).symm)⟩
    rcases hne e he with rfl | ⟨h1, h2⟩
    · rw [upd_same]
      rcases hbd with hb' | hb' | ⟨g', hb', hle⟩
      · rw [hb']; intro h0; cases h0
      · rw [hb']; exact hk.2 e hds
      · rw [hb']; intro h0; have := Option.some.inj h0; omega
    · rw [upd_ne _ _ h1]; exact hk.2 e h2
  have hkeep : Keep (fun g => ∃ d, blkOf (X d) = some g) w0 w' := ⟨hg.os.trans h.keep.os, hg.tape.trans h.keep.tape, hg.output.trans h.keep.output, Nat.le_trans h.keep.size hg.size, fun k hkl hx => by
    refine (hg.block k (Nat.lt_of_lt_of_le hkl h.keep.size) ?_).trans (h.keep.block k hkl hx)
    rw [hbE]; intro h0
    rcases h.own d k h16 hds h0.symm with h3 | ⟨_, h3⟩
    · omega
    · exact hx ⟨31, h3⟩, trivial⟩
  refine ⟨h.turn hkeep hk hg.size (fun e y hr => ?_) (fun e i off y hr => ?_) (fun e o' he => ?_) (fun e h1 he => ?_) (fun e g h1 he hg' => ?_) (fun e f g he hf h1 h2 => ?_), ?_⟩
  · show Rel w' _ _ _ (if e = d then .dead else .o e) y
    split
    · simp [Rel]
    · rename_i hed
      simp only [Rel] at hr ⊢
      obtain ⟨⟨ty', sz', xs', h1⟩, h2, h3⟩ := hr
      exact ⟨⟨ty', sz', xs', by simp [hed, h1, Ob.sub]⟩, by rw [upd_ne _ _ hed]; exact h2, h3⟩
  · show Rel w' _ _ _ (if e = d then .dead else .p e i off) y
    split
    · simp [Rel]
    · rename_i hed
      simp only [Rel] at hr ⊢
      obtain ⟨o, h1, g, h2, h3⟩ := hr
      exact ⟨o.sub (killO d) (frzP d), by simp [hed, h1], g, by rw [upd_ne _ _ hed]; exact h2, by rw [Ob.sub_at]; exact h3⟩
  · have he' : (if e = d then some (.row ty sz xs') else (s.ob e).map (·.sub (killO d) (frzP d))) = some o' := he
    split at he'
    · rename_i hed; subst hed
      obtain rfl := Option.some.inj he'
      exact .inr ⟨cs', by rw [upd_same]; exact hown, hF _ _ hk⟩
    · rename_i hed
      simp only [Option.map_eq_some_iff] at he'
      obtain ⟨o, h1, h2⟩ := he'
      refine .inl ⟨o, h1, h2.symm, upd_ne _ _ hed, fun g hg' => ?_⟩
      have h1s : s.ob e ≠ none := by rw [h1]; simp
      refine hg.block g (hlt e g h1s hg') ?_
      rw [hbE]; intro h0
      exact hed (h.dis e d g h1s hds hg' h0.symm)
  · rcases hne e he with rfl | ⟨h2, h3⟩
    · omega
    · rw [upd_ne _ _ h2]; exact h.ext e h1 h3
  · rcases hne e he with rfl | ⟨h2, h3⟩
    · rw [upd_same] at hg'
      rcases hbd with hb' | hb' | ⟨g', hb', hle⟩
      · rw [hb'] at hg'; cases hg'
      · rw [hb'] at hg'; exact h.own e g h1 hds hg'
      · rw [hb'] at hg'; have := Option.some.inj hg'; have := h.keep.size; left; omega
    · rw [upd_ne _ _ h2] at hg'; exact h.own e g h1 h3 hg'
  · have key : ∀ e, e ≠ d → s.ob e ≠ none → blkOf (upd E d v' e) = some g → blkOf (upd E d v' d) ≠ some g := by
      intro e hed hes hge
      rw [upd_ne _ _ hed] at hge
      rw [upd_same]
      rcases hbd with hb' | hb' | ⟨g', hb', hle⟩
      · rw [hb']; intro h0; cases h0
      · rw [hb']; intro h0; exact hed (h.dis e d g hes hds hge h0)
      · rw [hb']; intro h0; have := Option.some.inj h0; have := hlt e g hes hge; omega
    rcases hne e he with rfl | ⟨h3, h4⟩ <;> rcases hne f hf with rfl | ⟨h5, h6⟩
    · rfl
    · exact absurd h1 (key f h5 h6 h2)
    · exact absurd h2 (key e h3 h4 h1)
    · rw [upd_ne _ _ h3] at h1; rw [upd_ne _ _ h5] at h2
      exact h.dis e f g h4 h6 h1 h2
  · simp only [Rel]
    obtain ⟨A, n, c, h1⟩ := hsl'
    exact ⟨⟨ty, sz, xs', by simp [St.grow]⟩, by rw [upd_same], A, n, c, h1⟩
end

end Go.Proofs.YtaopcacmfhdfkaaGreatDoor.Vc

namespace Go.Proofs.YtaopcacmfhdfkaaGreatDoor.Vc
open Go Go.RowKit
set_option linter.unusedSimpArgs false
set_option linter.unusedVariables false

theorem RelF.nil {w : World} {ok : Nat → Prop} {E : Nat → Value} {sz : Nat} : RelF w ok E sz [] [] := ⟨by simp, fun i x hx => by simp at hx⟩
theorem RelF.cons {w : World} {ok : Nat → Prop} {E : Nat → Value} {sz : Nat} {x : TV} {y : Value} {xs : List TV} {cs : List Value} (h : Rel w ok E noObs x y) (hl : y.cells.toList.length = sz) (h1 : ∀ u ∈ y.cells.toList, u.oneCell' = true) (h2 : RelF w ok E sz xs cs) : RelF w ok E sz (x :: xs) (y.cells.toList ++ cs) := by
  refine ⟨by rw [List.length_append, hl, h2.1, List.length_cons, Nat.add_mul]; omega, fun i z hz => ?_⟩
  cases i with
  | zero =>
    simp at hz; subst hz
    refine ⟨y, h, hl, h1, fun j u hu => ?_⟩
    have := (List.getElem?_eq_some_iff.1 hu).1
    rw [Nat.zero_mul, Nat.zero_add, List.getElem?_append_left this]; exact hu
  | succ i =>
    obtain ⟨y', h3, h4, h5, h6⟩ := h2.2 i z (by simpa using hz)
    refine ⟨y', h3, h4, h5, fun j u hu => ?_⟩
    rw [Nat.add_mul, List.getElem?_append_right (by omega), hl, show i * sz + 1 * sz + j - sz = i * sz + j by omega]
    exact h6 j u hu
theorem RelF.append {w : World} {ok : Nat → Prop} {E : Nat → Value} {sz : Nat} {xs ys : List TV} {cs ds : List Value} (h : RelF w ok E sz xs cs) (h' : RelF w ok E sz ys ds) : RelF w ok E sz (xs ++ ys) (cs ++ ds) := by
  refine ⟨by rw [List.length_append, h.1, h'.1, List.length_append, Nat.add_mul], fun i z hz => ?_⟩
  by_cases hi : i < xs.length
  · rw [List.getElem?_append_left hi] at hz
    obtain ⟨y, h3, h4, h5, h6⟩ := h.2 i z hz
    refine ⟨y, h3, h4, h5, fun j u hu => ?_⟩
    have hj := (List.getElem?_eq_some_iff.1 hu).1
    have hlt : i * sz + j < cs.length := by
      rw [h.1]
      have : (i + 1) * sz ≤ xs.length * sz := Nat.mul_le_mul_right _ hi
      rw [Nat.add_mul] at this; omega
    rw [List.getElem?_append_left hlt]; exact h6 j u hu
  · rw [List.getElem?_append_right (by omega)] at hz
    obtain ⟨y, h3, h4, h5, h6⟩ := h'.2 _ z hz
    refine ⟨y, h3, h4, h5, fun j u hu => ?_⟩
    have he : i * sz = xs.length * sz + (i - xs.length) * sz := by rw [← Nat.add_mul]; congr 1; omega
    rw [List.getElem?_append_right (by rw [h.1]; omega), h.1, show i * sz + j - xs.length * sz = (i - xs.length) * sz + j by omega]
    exact h6 j u hu

theorem RelE_flat {w : World} {ok : Nat → Prop} {E : Nat → Value} {sz : Nat} {ad : Addr} : ∀ {xs : List TV} {k : Nat}, RelE w ok E sz ad k xs →
    ∃ cs, RelF w ok E sz xs cs ∧ (∀ u ∈ cs, u.oneCell' = true) ∧ ∀ j u, cs[j]? = some u → w.cell? (ad.add (k * sz + j)) = some u
  | [], k, _ => ⟨[], .nil, by simp, by simp⟩
  | x :: xs, k, h => by
    simp only [RelE] at h
    obtain ⟨⟨y, h1, h2, h3, h4⟩, h5⟩ := h
    obtain ⟨cs, h6, h7, h8⟩ := RelE_flat h5
    refine ⟨y.cells.toList ++ cs, .cons h1 h2 h3 h6, fun u hu => ?_, fun j u hu => ?_⟩
    · rcases List.mem_append.1 hu with hu | hu
      · exact h3 u hu
      · exact h7 u hu
    · by_cases hj : j < sz
      · rw [List.getElem?_append_left (by omega)] at hu; exact h4 j u hu
      · rw [List.getElem?_append_right (by omega), h2] at hu
        have := h8 _ u hu
        rwa [show (k + 1) * sz + (j - sz) = k * sz + j by rw [Nat.add_mul]; omega] at this

/-- A slice's elements. -/
def elemsT (s : St) (sz : Nat) : TV → Option (List TV)
  | .s z xs => if z = sz then some xs else none
  | .o d => match s.ob d with | some (.row _ z xs) => if z = sz then some xs else none | _ => none
  | .v (.slice none 0 0) => some []
  | _ => none

/-- Bytes, as a string. -/
def strB (l : List (BitVec 8)) : ByteArray := strOfNums (l.map fun b => Int.ofNat b.toNat)
def bytTV (b : BitVec 8) : TV := .v (.int .u8 (Int.ofNat b.toNat))

section
variable {P : Program} {w0 : World} {X : Nat → Value} {ok0 : Nat → Prop} {n : Nat} {E : Nat → Value} {s : St} {a : Act} {w : World}

theorem elems_ok (h : Inv w0 X ok0 n E s a w) {tv : TV} {v : Value} {sz : Nat} {ys : List TV} (hr : Rel w (okOf w0 ok0 E s.ob) E s.ob tv v) (he : elemsT s sz tv = some ys) :
    ∃ A c cs, v = .slice A ys.length c ∧ RelF w (okOf w0 ok0 E s.ob) E sz ys cs ∧ (∀ u ∈ cs, u.oneCell' = true) ∧ (ys ≠ [] → ∃ ad, A = some ad ∧ ∀ j u, cs[j]? = some u → w.cell? (ad.add j) = some u) := by
  unfold elemsT at he
  split at he
  · rename_i z xs
    split at he
    · rename_i hz; subst hz
      obtain rfl := Option.some.inj he
      simp only [Rel] at hr
      obtain ⟨A, c, hv, _, h1⟩ := hr
      by_cases hx : xs = []
      · subst hx; exact ⟨A, c, [], hv, .nil, by simp, fun h => absurd rfl h⟩
      · obtain ⟨ad, hA, _, _, h2⟩ := h1 hx
        obtain ⟨cs, h3, h4, h5⟩ := RelE_flat h2
        exact ⟨A, c, cs, hv, h3, h4, fun _ => ⟨ad, hA, by simpa using h5⟩⟩
    · cases he
  · split at he
    · rename_i d _ ty z xs hd
      split at he
      · rename_i hz; subst hz
        obtain rfl := Option.some.inj he
        simp only [Rel] at hr
        obtain ⟨A, c, h1, _, h2⟩ := own_slice h hd
        obtain ⟨cs, hown, hF⟩ := h.ob d _ hd
        refine ⟨A, c, cs, hr.2.1.trans h1, hF, fun u hu => ?_, fun hne => ?_⟩
        · obtain ⟨i, hi⟩ := List.mem_iff_getElem?.1 hu
          have hlt := (List.getElem?_eq_some_iff.1 hi).1
          rw [hF.1] at hlt
          have hz0 : 0 < z := by rcases Nat.eq_zero_or_pos z with h0 | h0; · simp [h0] at hlt
                                 · exact h0
          have hq : i / z < xs.length := by rwa [Nat.div_lt_iff_lt_mul hz0]
          obtain ⟨y, _, h4, h5, h6⟩ := hF.2 (i / z) xs[i / z] (List.getElem?_eq_getElem hq)
          have hm := Nat.mod_lt i hz0
          have h7 := h6 (i % z) (y.cells.toList[i % z]'(by omega)) (List.getElem?_eq_getElem (by omega))
          rw [Nat.mul_comm, Nat.div_add_mod, hi] at h7
          rw [Option.some.inj h7]
          exact h5 _ (List.getElem_mem _)
        · obtain ⟨g, hA, hg⟩ := h2 hne
          refine ⟨_, hA, fun j u hu => ?_⟩
          exact hown.cells (g := g) (by rw [← blk_slice ⟨A, _, c, h1⟩]; exact hg) j u hu
      · cases he
    · cases he
  · obtain rfl := Option.some.inj he
    exact ⟨none, 0, [], v_of hr, .nil, by simp, fun h => absurd rfl h⟩
  · cases he

theorem done_bst (h : Inv w0 X ok0 n E s a w) {o : Oper} {t t' e : TypeId} {x : Operand} {l : List (BitVec 8)} (ho : o.op = .convert t t' x) (ht : P.underlying t = some (.slice e)) (he : P.underlying e = some (.int .u8)) (ht' : P.underlying t' = some .string)
    (hy : elemsT s 1 (s.ev x) = some (l.map bytTV)) : Done P w0 X ok0 n s a w o (.v (.string (strB l))) [] := by
  obtain ⟨A, c, cs, hv, hF, _, hc⟩ := elems_ok h (h.ev x) hy
  refine .pure h (y := .string (strB l)) ?_ (rel_v rfl)
  have hcs : cs = (l.map fun b => Int.ofNat b.toNat).map (Value.int .u8) := by
    apply List.ext_getElem?
    intro i
    by_cases hi : i < l.length
    · obtain ⟨y, h1, _, _, h4⟩ := hF.2 i (bytTV l[i]) (by rw [List.getElem?_map, List.getElem?_eq_getElem hi]; rfl)
      simp only [bytTV, Rel] at h1
      obtain ⟨_, rfl⟩ := h1
      have := h4 0 (.int .u8 (Int.ofNat l[i].toNat)) rfl
      simp only [Nat.mul_one, Nat.add_zero] at this
      rw [this]
      simp [hi]
    · rw [List.getElem?_eq_none (by rw [hF.1]; simp; omega), List.getElem?_eq_none (by simp; omega)]
  have key : (Conv.bytesToString (a.eval x)).run P w = .ok (.string (strB l)) w := by
    rw [hv]
    cases l with
    | nil =>
      cases A with
      | none => simp [Conv.bytesToString, strB, strOfNums]; rfl
      | some ad =>
        rw [run_bytesToString w ad _ c [] (by simpa using run_loadCells_list (P := P) (w := w) ad [] (by simp))]
        rfl
    | cons b l =>
      obtain ⟨ad, rfl, hcell⟩ := hc (by simp)
      rw [run_bytesToString w ad _ c ((b :: l).map fun b => Int.ofNat b.toNat) (by
        have := run_loadCells_list (P := P) (w := w) ad cs hcell
        rw [hF.1, hcs] at this
        simpa using this), foldl_push_bytes]
      simp [strB, strOfNums, ByteArray.empty, ByteArray.emptyWithCapacity]
      rfl
  have hcv : (convert t t' (a.eval x)).run P w = .ok (.string (strB l)) w := by
    rw [hv] at key ⊢
    rw [run_convert_bytes_string w t t' e _ _ _ ht he ht']
    exact key
  simp only [execOp, ho]
  rw [Sem.run_bind, hcv]; rfl

theorem run_append_zero {t ty e : Nat} {ti : TypeInfo} (ht : P.underlying t = some (.slice e)) (hi : P.info? e = some ti) (A A' : Option Addr) (m c c' : Nat) (hmc : m ≤ c) :
    (Builtin.append_ #[t, t] ty #[.slice A m c, .slice A' 0 c']).run P w = .ok (.slice A m c) w := by
  cases A' <;> cases A <;> simp [Builtin.append_, run_underlying ht, sizeOf, typeInfo, hi, Builtin.lenOf, Builtin.firstCells, loadCells, loadCellsFrom, hmc, storeCells]

theorem app_ok' (h : Inv w0 X ok0 n E s a w) {o : Oper} {t e sz d : Nat} {x y : Operand} {ti : TypeInfo} {z : Value} {xs ys : List TV} (ho : o.op = .call { callee := .builtin .append, args := #[x, y], argTypes := #[t, t] }) (ht : P.underlying t = some (.slice e)) (hi : P.info? e = some ti) (hz : ti.zero = some z) (hzs : z.cells.size = ti.size) (hsz : 0 < ti.size) (hs : ti.size = sz)
    (hxe : a.eval x = E d) (hd : s.ob d = some (.row e sz xs)) (hy : elemsT s sz (s.ev y) = some ys) (hb : (xs.length + ys.length) * ti.bytes ≤ 140737488355328) (hb0 : 0 < ti.bytes) (h16 : 16 ≤ d) :
    ∃ v' w', (execOp a.eval o).run P w = .ok (.value v') w' ∧ Inv w0 X ok0 n (upd E d v') (s.grow d (.row e sz (xs ++ ys))) a w' ∧
      Rel w' (okOf w0 ok0 (upd E d v') (s.grow d (.row e sz (xs ++ ys))).ob) (upd E d v') (s.grow d (.row e sz (xs ++ ys))).ob (.o d) v' := by
  subst hs
  obtain ⟨A, c, ds, hv, hF, h1, h2⟩ := elems_ok h (h.ev y) hy
  obtain ⟨cs, hown, hFx⟩ := h.ob d _ hd
  have h63 : xs.length + ys.length ≤ maxLen := by
    have : (xs.length + ys.length) * 1 ≤ (xs.length + ys.length) * ti.bytes := Nat.mul_le_mul_left _ hb0
    unfold maxLen; omega
  by_cases hne : ys = []
  · subst hne
    obtain ⟨A0, c0, h3, h4, _⟩ := own_slice h hd
    have hr := run_append_zero (P := P) (w := w) (ty := o.type) ht hi A0 A xs.length c0 c h4
    have := h.grow (w' := w) (v' := E d) (xs' := xs ++ []) (cs' := cs) hd h16 (by simpa using hown) (fun ok' E' hk => by simpa using hFx.imp hk (Nat.le_refl _)) ⟨rfl, rfl, rfl, Nat.le_refl _, fun _ _ _ => rfl⟩ (fun g hg => .inl hg)
    exact ⟨E d, w, by simp [execOp, ho, resolve, invoke, builtin, hxe, hv, h3]; simpa using by rw [hr]; rfl, this⟩
  · obtain ⟨ad, rfl, hget⟩ := h2 hne
    obtain ⟨v', w', hr, h5, h6, _, h8⟩ := run_append_own_at (P := P) w 0 t o.type e ti z ti.size ti.bytes ht hi hz rfl rfl hzs hsz (E d) xs.length cs hown ad ys.length c ds hF.1 hget h1 h63 hb (Nat.zero_le _)
    have := h.grow (w' := w') (v' := v') (xs' := xs ++ ys) (cs' := cs ++ ds) hd h16 (by simpa using h5) (fun ok' E' hk => (hFx.append hF).imp hk h6.size) h6 (fun g hg => h8.elim (fun h => .inl (h ▸ hg)) (fun h => .inr (by rw [h] at hg; cases hg; exact Nat.le_refl _)))
    exact ⟨v', w', by simp [execOp, ho, resolve, invoke, builtin, hxe, hv, hr], this⟩
theorem app_ok (h : Inv w0 X ok0 n E s a w) {o : Oper} {t e sz d : Nat} {x y : Operand} {ti : TypeInfo} {z : Value} {xs ys : List TV} (ho : o.op = .call { callee := .builtin .append, args := #[x, y], argTypes := #[t, t] }) (ht : P.underlying t = some (.slice e)) (hi : P.info? e = some ti) (hz : ti.zero = some z) (hzs : z.cells.size = ti.size) (hsz : 0 < ti.size) (hs : ti.size = sz)
    (hx : s.ev x = .o d) (hd : s.ob d = some (.row e sz xs)) (hy : elemsT s sz (s.ev y) = some ys) (hb : (xs.length + ys.length) * ti.bytes ≤ 140737488355328) (hb0 : 0 < ti.bytes) (h16 : 16 ≤ d) :
    ∃ v' w', (execOp a.eval o).run P w = .ok (.value v') w' ∧ Inv w0 X ok0 n (upd E d v') (s.grow d (.row e sz (xs ++ ys))) a w' ∧
      Rel w' (okOf w0 ok0 (upd E d v') (s.grow d (.row e sz (xs ++ ys))).ob) (upd E d v') (s.grow d (.row e sz (xs ++ ys))).ob (.o d) v' := by
  have hx1 := h.ev x; rw [hx] at hx1
  simp only [Rel] at hx1
  exact app_ok' h ho ht hi hz hzs hsz hs hx1.2.1 hd hy hb hb0 h16

end

end Go.Proofs.YtaopcacmfhdfkaaGreatDoor.Vc
