/- What a function is said to do, and that calls and instructions are told rightly; for every program. -/
import Derived.Test.YtaopcacmfhdfkaaGreatDoorVa
import Derived.Orders
namespace Go.Proofs.YtaopcacmfhdfkaaGreatDoor.Vc
open Go Go.RowKit
set_option linter.unusedSimpArgs false
set_option linter.unusedVariables false

mutual
/-- The objects that a value names. -/
def TV.ids : TV → List Nat
  | .o d => [d]
  | .p d _ _ => [d]
  | .a cs => idsL cs
  | .x _ z => z.ids
  | .f _ cap => idsL cap
  | .t xs => idsL xs
  | .v _ | .s _ _ | .r _ | .dead => []
def idsL : List TV → List Nat
  | [] => []
  | x :: xs => x.ids ++ idsL xs
end

mutual
theorem sub_congr {fo fo' : Nat → TV} {fp fp' : Nat → Nat → Nat → TV} : ∀ (x : TV), (∀ d ∈ x.ids, fo d = fo' d ∧ ∀ i off, fp d i off = fp' d i off) → x.sub fo fp = x.sub fo' fp'
  | .o d, h => by simp only [TV.sub]; exact (h d (by simp [TV.ids])).1
  | .p d i off, h => by simp only [TV.sub]; exact (h d (by simp [TV.ids])).2 i off
  | .a cs, h => by simp only [TV.sub]; rw [subL_congr cs (by simpa [TV.ids] using h)]
  | .x t z, h => by simp only [TV.sub]; rw [sub_congr z (by simpa [TV.ids] using h)]
  | .f fn cap, h => by simp only [TV.sub]; rw [subL_congr cap (by simpa [TV.ids] using h)]
  | .t xs, h => by simp only [TV.sub]; rw [subL_congr xs (by simpa [TV.ids] using h)]
  | .v _, _ | .s _ _, _ | .r _, _ | .dead, _ => by simp only [TV.sub]
theorem subL_congr {fo fo' : Nat → TV} {fp fp' : Nat → Nat → Nat → TV} : ∀ (l : List TV), (∀ d ∈ idsL l, fo d = fo' d ∧ ∀ i off, fp d i off = fp' d i off) → subL fo fp l = subL fo' fp' l
  | [], _ => rfl
  | x :: xs, h => by
    simp only [subL]
    rw [sub_congr x (fun d hd => h d (by simp [idsL, hd])), subL_congr xs (fun d hd => h d (by simp [idsL, hd]))]
end

/-- Variables of the program's that nobody writes: their blocks, and what these hold. -/
class Lay (P : Program) where
  cells : List (Nat × Array Value)
def laidW (P : Program) [Lay P] (w : World) (ok : Nat → Prop) : Prop := ∀ b cs, (b, cs) ∈ Lay.cells P → ok b ∧ ∃ ty fr, w.heap[b]? = some (.cells cs ty fr)
class GlF (P : Program) [Lay P] (w0 : World) (X : Nat → Value) (ok0 : Nat → Prop) : Prop where
  out : ∀ b cs, (b, cs) ∈ Lay.cells P → ok0 b ∧ (∃ ty fr, w0.heap[b]? = some (.cells cs ty fr)) ∧ ∀ d, blkOf (X d) ≠ some b
theorem Mem.laid {P : Program} [Lay P] {w0 : World} {X : Nat → Value} {ok0 : Nat → Prop} [GlF P w0 X ok0] {E : Nat → Value} {B : Obs} {w : World} (h : Mem w0 X ok0 E B w) : laidW P w (okOf w0 ok0 E B) := fun b cs hb => by
  obtain ⟨h1, ⟨ty, fr, h2⟩, h3⟩ := GlF.out (w0 := w0) (X := X) (ok0 := ok0) b cs hb
  have hlt : b < w0.heap.size := (Array.getElem?_eq_some_iff.1 h2).1
  refine ⟨⟨.inl h1, fun d hd hE => ?_⟩, ty, fr, ?_⟩
  · rcases Nat.lt_or_ge d 16 with h16 | h16
    · rw [h.ext d h16 hd] at hE; exact h3 d hE
    · rcases h.own d b h16 hd hE with h4 | ⟨_, h4⟩
      · omega
      · exact h3 31 h4
  · rw [h.keep.block b hlt (by rintro ⟨d, hd⟩; exact h3 d hd)]; exact h2
def obsOf (os : List Ob) : Obs := fun k => os[k]?

def callable (P : Program) [Lay P] (f : FuncId) : Prop := ∃ fn c, P.funcs[f]? = some fn ∧ fn.body = some c ∧ (fn.name == "runtime.NumGoroutine") = false

/-- What was handed over. -/
def handed (E0 : Nat → Value) (m : Nat) : Nat → Value := fun d => if d < m then E0 d else .nilIface

/-- An object's shape. -/
def Ob.shape : Ob → Option Nat
  | .var _ _ => none
  | .row _ sz _ => some sz
theorem Ob.shape_at {o o' : Ob} (h : o'.shape = o.shape) : (∀ i off, o'.at i off = o.at i off) ∧ ((∃ ty sz xs, o = .row ty sz xs) → ∃ ty sz xs, o' = .row ty sz xs) := by
  cases o <;> cases o' <;> simp_all [Ob.shape, Ob.at]
theorem Ob.shape_sub (fo : Nat → TV) (fp : Nat → Nat → Nat → TV) (o : Ob) : (o.sub fo fp).shape = o.shape := by cases o <;> rfl

/-- A function's contract: called with these values and these objects, it tells this value, and these objects. -/
def Spec (P : Program) [Lay P] (f : FuncId) (args : List TV) (ins : List Ob) (r : TV) (outs : List Ob) : Prop :=
  callable P f ∧ ins.length ≤ 16 ∧ (outs.take ins.length).map Ob.shape = ins.map Ob.shape ∧
  ∀ (w : World) (ok : Nat → Prop) (E0 : Nat → Value) (vs : List Value),
    (∀ k o, ins[k]? = some o → ObRel w ok E0 (obsOf ins) k o) →
    (∀ d e g, d < ins.length → e < ins.length → blkOf (E0 d) = some g → blkOf (E0 e) = some g → d = e) →
    (∀ d g, d < ins.length → blkOf (E0 d) = some g → ¬ ok g) →
    RelL w ok E0 (obsOf ins) args vs → laidW P w ok →
    Calls P f vs.toArray w fun e w' => ∃ v E, e = .returned v ∧ Keep (fun g => ∃ d, blkOf (handed E0 ins.length d) = some g) w w' ∧
      (∀ k o, outs[k]? = some o → ObRel w' (okOf w ok E (obsOf outs)) E (obsOf outs) k o) ∧
      Rel w' (okOf w ok E (obsOf outs)) E (obsOf outs) r v ∧
      (∀ d, d < ins.length → E d = E0 d) ∧
      (∀ d g, ins.length ≤ d → d < outs.length → blkOf (E d) = some g → w.heap.size ≤ g) ∧
      (∀ d e g, d < outs.length → e < outs.length → blkOf (E d) = some g → blkOf (E e) = some g → d = e)

/-- A function that is handed a row, and hands it back changed: what it tells is the row from then on. -/
def SpecG (P : Program) [Lay P] (f : FuncId) (ty sz : Nat) (xs : List TV) (args : List TV) (xs' : List TV) : Prop :=
  callable P f ∧ ∀ (w : World) (ok : Nat → Prop) (E : Nat → Value) (v : Value) (cs : List Value) (vs : List Value),
    w.ownsRow 0 ty sz v xs.length cs → RelF w ok E sz xs cs → (∀ g, v.ownBlock = some g → ¬ ok g) → RelL w ok E noObs args vs → laidW P w ok →
    Calls P f (v :: vs).toArray w fun e w' => ∃ v' cs', e = .returned v' ∧ w'.ownsRow 0 ty sz v' xs'.length cs' ∧
      (∀ (ok' : Nat → Prop) (E' : Nat → Value), (∀ k, ok k → k < w.heap.size → ok' k ∧ w'.heap[k]? = w.heap[k]?) → RelF w' ok' E' sz xs' cs') ∧ w.grownBy w' v.ownBlock ∧ (∀ g, v'.ownBlock = some g → v.ownBlock = some g ∨ w.heap.size ≤ g)

mutual
/-- Nothing in it leads to memory that isn't an object's. -/
def TV.nim : TV → Bool
  | .v _ | .o _ | .p _ _ _ | .dead => true
  | .s _ _ | .r _ => false
  | .a cs => nimL cs
  | .x _ z => z.nim
  | .f _ cap => nimL cap
  | .t xs => nimL xs
def nimL : List TV → Bool
  | [] => true
  | x :: xs => x.nim && nimL xs
end
def Ob.nim : Ob → Prop
  | .var _ x => x.nim = true
  | .row _ _ xs => ∀ x ∈ xs, x.nim = true

section
variable {w : World} {ok ok' : Nat → Prop} {E : Nat → Value}
mutual
theorem nim_rel {ob : Obs} : ∀ (x : TV) (y : Value), x.nim = true → Rel w ok E ob x y → Rel w ok' E ob x y
  | .v x, y, _, h => by simpa only [Rel] using h
  | .o d, y, _, h => by simpa only [Rel] using h
  | .p d i off, y, _, h => by simpa only [Rel] using h
  | .dead, y, _, _ => by simp only [Rel]
  | .s sz xs, y, hn, _ => by simp [TV.nim] at hn
  | .r cs, y, hn, _ => by simp [TV.nim] at hn
  | .a cs, y, hn, h => by
    simp only [Rel] at h ⊢
    obtain ⟨ys, e, h1, h2⟩ := h
    exact ⟨ys, e, h1, nimL_rel cs ys (by simpa [TV.nim] using hn) h2⟩
  | .x t z, y, hn, h => by
    simp only [Rel] at h ⊢
    obtain ⟨u, e, h⟩ := h
    exact ⟨u, e, nim_rel z u (by simpa [TV.nim] using hn) h⟩
  | .f fn cap, y, hn, h => by
    simp only [Rel] at h ⊢
    obtain ⟨us, e, h⟩ := h
    exact ⟨us, e, nimL_rel cap us (by simpa [TV.nim] using hn) h⟩
  | .t xs, y, hn, h => by
    simp only [Rel] at h ⊢
    obtain ⟨us, e, h⟩ := h
    exact ⟨us, e, nimL_rel xs us (by simpa [TV.nim] using hn) h⟩
theorem nimL_rel {ob : Obs} : ∀ (xs : List TV) (ys : List Value), nimL xs = true → RelL w ok E ob xs ys → RelL w ok' E ob xs ys
  | [], ys, _, h => by simpa only [RelL] using h
  | x :: xs, ys, hn, h => by
    simp only [nimL, Bool.and_eq_true] at hn
    simp only [RelL] at h ⊢
    obtain ⟨u, us, e, h1, h2⟩ := h
    exact ⟨u, us, e, nim_rel x u hn.1 h1, nimL_rel xs us hn.2 h2⟩
end
theorem nim_ob {ob : Obs} {d : Nat} {o : Ob} (hn : o.nim) (h : ObRel w ok E ob d o) : ObRel w ok' E ob d o := by
  cases o with
  | var ty x =>
    obtain ⟨g, y, h1, h2, h3⟩ := h
    exact ⟨g, y, h1, nim_rel _ _ hn h2, h3⟩
  | row ty sz xs =>
    obtain ⟨cs, h1, h2, h3⟩ := h
    refine ⟨cs, h1, h2, fun i x hx => ?_⟩
    obtain ⟨y, h4, h5⟩ := h3 i x hx
    exact ⟨y, nim_rel _ _ (hn x (List.mem_of_getElem? hx)) h4, h5⟩
end

/-- Names of objects on the callee's side. -/
def expO (s : St) (D : List Nat) (vw : Bool) : Nat → TV := fun d =>
  match D.idxOf? d with
  | some k => .o k
  | none => bif vw then (match s.ob d with | some (.row _ sz xs) => .s sz xs | _ => .dead) else .dead
def expP (s : St) (D : List Nat) (vw : Bool) : Nat → Nat → Nat → TV := fun d i off =>
  match D.idxOf? d with
  | some k => .p k i off
  | none => bif vw then (match s.mem (.p d i off) with | some cs => if immL cs = true then .r cs else .dead | none => .dead) else .dead
def TV.exp (s : St) (D : List Nat) (vw : Bool) (x : TV) : TV := x.sub (expO s D vw) (expP s D vw)
def insOf (s : St) (D : List Nat) (vw : Bool) : List Ob := D.map fun d => ((s.ob d).getD (.var 0 .dead)).sub (expO s D vw) (expP s D vw)

/-- Names of the callee's objects on the caller's side. -/
def back (D : List Nat) (dst : Nat) : Nat → Nat := fun k => (D[k]?).getD (sid dst (k - D.length))
def bkO (D : List Nat) (dst : Nat) : Nat → TV := fun k => .o (back D dst k)
def bkP (D : List Nat) (dst : Nat) : Nat → Nat → Nat → TV := fun k i off => .p (back D dst k) i off
def putObs (D : List Nat) (dst : Nat) : Obs → Nat → List Ob → Obs
  | B, _, [] => B
  | B, k, o :: os => putObs D dst (upd B (back D dst k) (some (o.sub (bkO D dst) (bkP D dst)))) (k + 1) os
def St.ret (s : St) (dst : Nat) (D : List Nat) (r : TV) (outs : List Ob) : St :=
  { tm := upd s.tm dst (r.sub (bkO D dst) (bkP D dst)), ob := putObs D dst s.ob 0 outs }

/-- An object whose contents name no object. -/
def Ob.flat : Ob → Bool
  | .var _ x => x.ids.isEmpty
  | .row _ _ _ => true
theorem flat_sub {o : Ob} (h : o.flat = true) (fo : Nat → TV) (fp : Nat → Nat → Nat → TV) : o.sub fo fp = o := by
  cases o with
  | row ty sz xs => rfl
  | var ty x =>
    simp only [Ob.flat, List.isEmpty_iff] at h
    simp only [Ob.sub]
    rw [sub_congr (fo' := .o) (fp' := .p) x (by rw [h]; simp), TV.sub_id]
/-- Objects that a call may look at: named by its arguments, flat. -/
def peekOk (s : St) (D : List Nat) (vs : List TV) : Prop := D.Nodup ∧ ∀ e ∈ D, e ∈ idsL vs ∧ ∃ b, s.ob e = some b ∧ b.flat = true
theorem putObs_self {D : List Nat} {dst : Nat} : ∀ {os : List Ob} {B : Obs} {k : Nat}, (∀ (j : Nat) (o : Ob), os[j]? = some o → B (back D dst (k + j)) = some (o.sub (bkO D dst) (bkP D dst))) → putObs D dst B k os = B
  | [], _, _, _ => rfl
  | o :: os, B, k, h => by
    have h0 := h 0 o rfl
    have hB : upd B (back D dst k) (some (o.sub (bkO D dst) (bkP D dst))) = B := by
      funext e
      by_cases he : e = back D dst k
      · subst he; rw [upd_same]; exact h0.symm
      · rw [upd_ne _ _ he]
    simp only [putObs]
    rw [hB]
    exact putObs_self fun j o' hj => by
      have := h (j + 1) o' (by simpa using hj)
      rwa [show k + (j + 1) = k + 1 + j by omega] at this
theorem insOf_flat {s : St} {D : List Nat} {vw : Bool} {vs : List TV} (h : peekOk s D vs) : ∀ (j : Nat) (o : Ob), (insOf s D vw)[j]? = some o → ∃ e, D[j]? = some e ∧ s.ob e = some o ∧ o.flat = true := by
  intro j o hj
  simp only [insOf, List.getElem?_map, Option.map_eq_some_iff] at hj
  obtain ⟨e, he, rfl⟩ := hj
  obtain ⟨_, b, hb, hf⟩ := h.2 e (List.mem_of_getElem? he)
  rw [hb, Option.getD_some, flat_sub hf]
  exact ⟨e, he, hb, hf⟩
theorem ret_peek {s : St} {d : Nat} {D : List Nat} {r : TV} {vw : Bool} {vs : List TV} (h : peekOk s D vs) (hr : r.ids = []) : s.ret d D r (insOf s D vw) = { tm := upd s.tm d r, ob := s.ob } := by
  unfold St.ret
  rw [sub_congr (fo' := .o) (fp' := .p) r (by rw [hr]; simp), TV.sub_id, putObs_self]
  intro j o hj
  obtain ⟨e, he, hb, hf⟩ := insOf_flat h j o hj
  rw [flat_sub hf, Nat.zero_add]
  simp only [back, he, Option.getD_some]
  exact hb

theorem putObs_other {D : List Nat} {dst : Nat} : ∀ {os : List Ob} {B : Obs} {k e : Nat}, (∀ j, k ≤ j → j < k + os.length → back D dst j ≠ e) → putObs D dst B k os e = B e
  | [], _, _, _, _ => rfl
  | o :: os, B, k, e, h => by
    simp only [putObs, List.length_cons] at h ⊢
    rw [putObs_other (fun j h1 h2 => h j (by omega) (by omega)), upd_ne _ _ (h k (by omega) (by omega)).symm]
theorem putObs_at {D : List Nat} {dst : Nat} : ∀ {os : List Ob} {B : Obs} {k j : Nat} {o : Ob}, (∀ i j, i < k + os.length → j < k + os.length → back D dst i = back D dst j → i = j) → k ≤ j → os[j - k]? = some o →
    putObs D dst B k os (back D dst j) = some (o.sub (bkO D dst) (bkP D dst))
  | [], _, _, _, _, _, _, h => by simp at h
  | o' :: os, B, k, j, o, hi, hk, h => by
    simp only [putObs]
    simp only [List.length_cons] at hi
    by_cases hj : j = k
    · subst hj
      simp at h; subst h
      rw [putObs_other, upd_same]
      intro i h1 h2 he
      have := hi i j (by omega) (by omega) he
      omega
    · have h2 : os[j - (k + 1)]? = some o := by
        rw [show j - k = (j - (k + 1)) + 1 by omega, List.getElem?_cons_succ] at h; exact h
      exact putObs_at (fun a b h3 h4 h5 => hi a b (by omega) (by omega) h5) (by omega) h2

theorem idxOf?_some {D : List Nat} {d k : Nat} (h : D.idxOf? d = some k) : D[k]? = some d := by
  rw [List.idxOf?, List.findIdx?_eq_some_iff_getElem] at h
  obtain ⟨h1, h2, _⟩ := h
  rw [List.getElem?_eq_getElem h1]
  simpa using h2
theorem idxOf?_none {D : List Nat} {d : Nat} (h : D.idxOf? d = none) : d ∉ D := by
  rw [List.idxOf?, List.findIdx?_eq_none_iff] at h
  intro hm
  have := h d hm
  simp at this

end Go.Proofs.YtaopcacmfhdfkaaGreatDoor.Vc

namespace Go.Proofs.YtaopcacmfhdfkaaGreatDoor.Vc
open Go Go.RowKit
set_option linter.unusedSimpArgs false
set_option linter.unusedVariables false

section
variable {P : Program} [Lay P] {w0 : World} {X : Nat → Value} {ok0 : Nat → Prop} [GlF P w0 X ok0] {n : Nat} {E : Nat → Value} {s : St} {a : Act} {w : World}

theorem back_inj {D : List Nat} {dst m : Nat} (hDn : D.Nodup) (hD : ∀ d ∈ D, s.ob d ≠ none) (hf : ∀ j, D.length + j < m → s.ob (sid dst j) = none) : ∀ i j, i < m → j < m → back D dst i = back D dst j → i = j := by
  have key : ∀ i j, i < m → j < m → i < D.length → back D dst i = back D dst j → i = j := by
    intro i j hi hj hl he
    have h1 : back D dst i = D[i] := by simp [back, hl]
    by_cases hl' : j < D.length
    · have h2 : back D dst j = D[j] := by simp [back, hl']
      rw [h1, h2] at he
      exact (List.getElem_inj hDn).1 he
    · have h2 : back D dst j = sid dst (j - D.length) := by simp [back, hl']
      rw [h1, h2] at he
      exact absurd (hf (j - D.length) (by omega)) (by rw [← he]; exact hD _ (List.getElem_mem _))
  intro i j hi hj he
  by_cases hl : i < D.length
  · exact key i j hi hj hl he
  · by_cases hl' : j < D.length
    · exact (key j i hj hi hl' he.symm).symm
    · have h1 : back D dst i = sid dst (i - D.length) := by simp [back, hl]
      have h2 : back D dst j = sid dst (j - D.length) := by simp [back, hl']
      rw [h1, h2] at he
      simp only [sid] at he
      omega

theorem Inv.blk_lt (h : Inv w0 X ok0 n E s a w) {e g : Nat} (he : s.ob e ≠ none) (hg : blkOf (E e) = some g) : g < w.heap.size := by
  cases hoe : s.ob e with
  | none => exact absurd hoe he
  | some oe => exact (h.ob e oe hoe).lt hg

theorem call_ok (h : Inv w0 X ok0 n E s a w) {o : Oper} {dst f : Nat} (hdst : o.dst = some dst) (hn : dst < n) {args : List TV} {vs : List Value} (hargs : RelL w (okOf w0 ok0 E s.ob) E s.ob args vs)
    (hrun : (execOp a.eval o).run P w = .ok (.enter f vs.toArray) w) {D : List Nat} {vw : Bool} {r : TV} {outs : List Ob} (hspec : Spec P f (args.map (TV.exp s D vw)) (insOf s D vw) r outs)
    (hDn : D.Nodup) (hD : ∀ d ∈ D, s.ob d ≠ none) (hfresh : ∀ j, D.length + j < outs.length → s.ob (sid dst j) = none) (hvw : vw = true → r.nim = true ∧ ∀ o ∈ outs, o.nim)
    {K : Act → World → Prop} {Q : Exit → Act → World → Prop} (hk : ∀ y w' E', Inv w0 X ok0 n E' (s.ret dst D r outs) (a.put (some dst) y) w' → K (a.put (some dst) y) w') : o.wp P a w K Q := by
  obtain ⟨_, _, hshape, hspec⟩ := hspec
  have hil : (insOf s D vw).length = D.length := by simp [insOf]
  have hlen : D.length ≤ outs.length := by
    have := congrArg List.length hshape
    simp only [List.length_map, List.length_take, hil] at this
    omega
  let okc : Nat → Prop := fun k => okOf w0 ok0 E s.ob k ∨ (vw = true ∧ ∃ d, s.ob d ≠ none ∧ d ∉ D ∧ blkOf (E d) = some k)
  let E0 : Nat → Value := fun k => E ((D[k]?).getD 0)
  have hE0 : ∀ k d, D[k]? = some d → E0 k = E d := fun k d hk => by simp [E0, hk]
  have hins : ∀ k d od, D[k]? = some d → s.ob d = some od → obsOf (insOf s D vw) k = some (od.sub (expO s D vw) (expP s D vw)) := fun k d od hk hod => by
    simp [obsOf, insOf, List.getElem?_map, hk, hod]
  have hk1 : ∀ k, okOf w0 ok0 E s.ob k → k < w.heap.size → okc k ∧ w.heap[k]? = w.heap[k]? := fun k hk _ => ⟨.inl hk, rfl⟩
  have hview : ∀ d g, vw = true → s.ob d ≠ none → d ∉ D → blkOf (E d) = some g → okc g := fun d g h1 h2 h3 h4 => .inr ⟨h1, d, h2, h3, h4⟩
  have ho : ∀ d y, Rel w (okOf w0 ok0 E s.ob) E s.ob (.o d) y → Rel w okc E0 (obsOf (insOf s D vw)) (expO s D vw d) y := by
    intro d y hr
    simp only [Rel] at hr
    obtain ⟨⟨ty, sz, xs, h1⟩, h2, h3⟩ := hr
    unfold expO
    cases hidx : D.idxOf? d with
    | some k =>
      have hkd := idxOf?_some hidx
      simp only [Rel]
      exact ⟨⟨ty, sz, xs, hins k d _ hkd h1⟩, by rw [hE0 k d hkd]; exact h2, h3⟩
    | none =>
      cases hvw' : vw with
      | false => simp [Rel]
      | true =>
        simp only [h1, cond_true]
        rw [h2]
        exact row_imm (h.ob d _ h1) (fun k hk _ => .inl hk) (fun g hg => hview d g hvw' (by rw [h1]; simp) (idxOf?_none hidx) hg)
  have hp : ∀ d i off y, Rel w (okOf w0 ok0 E s.ob) E s.ob (.p d i off) y → Rel w okc E0 (obsOf (insOf s D vw)) (expP s D vw d i off) y := by
    intro d i off y hr
    have hr' := hr
    simp only [Rel] at hr
    obtain ⟨od, h1, g, h2, h3⟩ := hr
    unfold expP
    cases hidx : D.idxOf? d with
    | some k =>
      have hkd := idxOf?_some hidx
      simp only [Rel]
      exact ⟨_, hins k d _ hkd h1, g, by rw [hE0 k d hkd]; exact h2, by rw [Ob.sub_at]; exact h3⟩
    | none =>
      cases hvw' : vw with
      | false => simp [Rel]
      | true =>
        simp only [cond_true]
        cases hm : s.mem (.p d i off) with
        | none => simp [Rel]
        | some cs =>
          simp only
          split
          · rename_i himm
            obtain ⟨ad, us, h4, h5, h6, h7⟩ := mem_ok h hr' hm
            have h8 := immL_rel (ob' := noObs) (E' := E0) cs us himm h5
            rw [h3] at h4
            have h9 := Option.some.inj (Value.pointer.inj h4)
            simp only [Rel]
            refine ⟨ad, us, by rw [h3, h9], ?_, ?_, ?_, h6, h7⟩
            · rw [← h9]; exact hview d g hvw' (by rw [h1]; simp) (idxOf?_none hidx) h2
            · rw [← h9]; exact h.blk_lt (by rw [h1]; simp) h2
            · exact RelL.of_get h8.length fun i x hx => by
                obtain ⟨y, hy, hr⟩ := h8.get i x hx
                exact ⟨y, hy, hr.imm hk1 (Nat.le_refl _)⟩
          · simp [Rel]
  have hx : ∀ x y, Rel w (okOf w0 ok0 E s.ob) E s.ob x y → Rel w okc E0 (obsOf (insOf s D vw)) (x.exp s D vw) y := fun x y hr => Rel.gen hk1 (Nat.le_refl _) ho hp x y hr
  have hDget : ∀ k, k < D.length → ∃ d, D[k]? = some d ∧ s.ob d ≠ none ∧ E0 k = E d := fun k hk => ⟨D[k], List.getElem?_eq_getElem hk, hD _ (List.getElem_mem _), hE0 k _ (List.getElem?_eq_getElem hk)⟩
  have hcalls := hspec w okc E0 vs (fun k ok hok => by
      simp only [insOf, List.getElem?_map, Option.map_eq_some_iff] at hok
      obtain ⟨d, hkd, rfl⟩ := hok
      have hds := hD d (List.mem_of_getElem? hkd)
      cases hod : s.ob d with
      | none => exact absurd hod hds
      | some od =>
        simp only [Option.getD_some]
        have h2 := h.ob d od hod
        cases od with
        | var ty x =>
          obtain ⟨g, y, hE, hr, hh, hc⟩ := h2
          exact ⟨g, y, by rw [hE0 k d hkd, hE], hx x y hr, hh, hc⟩
        | row ty sz xs =>
          obtain ⟨cs, hown, hF⟩ := h2
          exact ⟨cs, by rw [hE0 k d hkd]; exact hown, hF.imp hk1 (Nat.le_refl _)⟩)
    (fun i j g hi hj h1 h2 => by
      rw [hil] at hi hj
      obtain ⟨di, hdi, hsi, hei⟩ := hDget i hi
      obtain ⟨dj, hdj, hsj, hej⟩ := hDget j hj
      rw [hei] at h1; rw [hej] at h2
      have := h.dis di dj g hsi hsj h1 h2
      subst this
      rw [← hdj] at hdi
      exact (List.getElem?_inj hi hDn).1 hdi)
    (fun i g hi h1 h2 => by
      rw [hil] at hi
      obtain ⟨di, hdi, hsi, hei⟩ := hDget i hi
      rw [hei] at h1
      rcases h2 with h2 | ⟨_, d, h3, h4, h5⟩
      · exact h2.2 di hsi h1
      · have := h.dis di d g hsi h3 h1 h5
        subst this
        exact h4 (List.mem_of_getElem? hdi))
    (by
      have := RelL.gen hk1 (Nat.le_refl _) ho hp args vs hargs
      rw [subL_eq] at this
      exact this)
    (fun b cs hb => by
      obtain ⟨h1, h2⟩ := h.toMem.laid (P := P) b cs hb
      exact ⟨.inl h1, h2⟩)
  unfold Oper.wp
  rw [hrun]
  simp only [Oper.upon]
  refine hcalls.mono ?_
  rintro e w1 ⟨v, E1, rfl, hkeep, hobs, hr, hE1, hnew, hdis⟩
  rw [hil] at hE1 hnew
  simp only [hdst]
  have hinj := back_inj (s := s) hDn hD hfresh
  -- the environment behind the call
  have hback : ∀ k, k < D.length → ∃ d, D[k]? = some d ∧ back D dst k = d ∧ s.ob d ≠ none ∧ E1 k = E d := fun k hk => by
    obtain ⟨d, h1, h2, h3⟩ := hDget k hk
    exact ⟨d, h1, by simp [back, h1], h2, (hE1 k hk).trans h3⟩
  have hback2 : ∀ k, D.length ≤ k → back D dst k = sid dst (k - D.length) := fun k hk => by simp [back, hk]
  classical
  let E' : Nat → Value := fun e => if hh : ∃ k, k < outs.length ∧ back D dst k = e then E1 hh.choose else E e
  have hE'at : ∀ k, k < outs.length → E' (back D dst k) = E1 k := fun k hk => by
    have hh : ∃ j, j < outs.length ∧ back D dst j = back D dst k := ⟨k, hk, rfl⟩
    have : E' (back D dst k) = E1 hh.choose := dif_pos hh
    rw [this, hinj _ k hh.choose_spec.1 hk hh.choose_spec.2]
  have hE'out : ∀ e, (∀ k, k < outs.length → back D dst k ≠ e) → E' e = E e := fun e hn => dif_neg (by rintro ⟨k, h1, h2⟩; exact hn k h1 h2)
  have hE'old : ∀ e, s.ob e ≠ none → E' e = E e := fun e he => by
    by_cases hh : ∃ k, k < outs.length ∧ back D dst k = e
    · obtain ⟨k, h1, rfl⟩ := hh
      rw [hE'at k h1]
      by_cases hk : k < D.length
      · obtain ⟨d, _, h2, _, h4⟩ := hback k hk
        rw [h2, h4]
      · rw [hback2 k (by omega)] at he
        exact absurd (hfresh (k - D.length) (by omega)) he
    · exact hE'out e (fun k h1 h2 => hh ⟨k, h1, h2⟩)
  have hobat : ∀ k o, outs[k]? = some o → (s.ret dst D r outs).ob (back D dst k) = some (o.sub (bkO D dst) (bkP D dst)) := fun k o hk =>
    putObs_at (k := 0) (fun i j hi hj he => hinj i j (by omega) (by omega) he) (Nat.zero_le _) (by simpa using hk)
  have hobout : ∀ e, (∀ k, k < outs.length → back D dst k ≠ e) → (s.ret dst D r outs).ob e = s.ob e := fun e hn => putObs_other (fun j _ h2 => hn j (by omega))
  have hcase : ∀ e, (s.ret dst D r outs).ob e ≠ none → (∃ k o, outs[k]? = some o ∧ back D dst k = e) ∨ ((∀ k, k < outs.length → back D dst k ≠ e) ∧ s.ob e ≠ none) := fun e he => by
    by_cases hh : ∃ k, k < outs.length ∧ back D dst k = e
    · obtain ⟨k, h1, h2⟩ := hh
      exact .inl ⟨k, outs[k], List.getElem?_eq_getElem h1, h2⟩
    · have hn : ∀ k, k < outs.length → back D dst k ≠ e := fun k h1 h2 => hh ⟨k, h1, h2⟩
      rw [hobout e hn] at he
      exact .inr ⟨hn, he⟩
  have hblk1 : ∀ k g, k < outs.length → blkOf (E1 k) = some g → (∃ d, D[k]? = some d ∧ s.ob d ≠ none ∧ blkOf (E d) = some g) ∨ w.heap.size ≤ g := fun k g hk hg => by
    by_cases hkD : k < D.length
    · obtain ⟨d, h1, _, h3, h4⟩ := hback k hkD
      rw [h4] at hg
      exact .inl ⟨d, h1, h3, hg⟩
    · exact .inr (hnew k g (by omega) hk hg)
  have hnewok : ∀ k, okOf w0 ok0 E s.ob k → k < w.heap.size → okOf w0 ok0 E' (s.ret dst D r outs).ob k := by
    intro k hk hlt
    refine ⟨hk.1, fun e he hb => ?_⟩
    rcases hcase e he with ⟨j, o, h1, rfl⟩ | ⟨h1, h2⟩
    · have hj := (List.getElem?_eq_some_iff.1 h1).1
      rw [hE'at j hj] at hb
      rcases hblk1 j k hj hb with ⟨d, _, h3, h4⟩ | h3
      · exact hk.2 d h3 h4
      · omega
    · rw [hE'old e h2] at hb
      exact hk.2 e h2 hb
  have hheap : ∀ k, k < w.heap.size → (∀ d ∈ D, blkOf (E d) ≠ some k) → w1.heap[k]? = w.heap[k]? := fun k hlt hn => hkeep.block k hlt (by
    rintro ⟨j, hj⟩
    unfold handed at hj
    split at hj
    · rename_i hjl
      rw [hil] at hjl
      obtain ⟨d, h1, h2, h3⟩ := hDget j hjl
      rw [h3] at hj
      exact hn d (List.mem_of_getElem? h1) hj
    · simp [blkOf] at hj)
  have hkw : ∀ k, okOf w0 ok0 E s.ob k → k < w.heap.size → okOf w0 ok0 E' (s.ret dst D r outs).ob k ∧ w1.heap[k]? = w.heap[k]? := fun k hk hlt => ⟨hnewok k hk hlt, hheap k hlt (fun d hd => hk.2 d (hD d hd))⟩
  have hsize : w.heap.size ≤ w1.heap.size := hkeep.size
  have himg : ∀ e, s.ob e ≠ none → (∃ k, k < outs.length ∧ back D dst k = e) → ∃ k, D[k]? = some e ∧ back D dst k = e := by
    rintro e he ⟨k, h1, h2⟩
    by_cases hk : k < D.length
    · obtain ⟨d, h3, h4, _⟩ := hback k hk
      exact ⟨k, by rw [h3, ← h4, h2], h2⟩
    · rw [hback2 k (by omega)] at h2
      subst h2
      exact absurd (hfresh (k - D.length) (by omega)) he
  have hold : ∀ e oe, s.ob e = some oe → E' e = E e ∧ ∃ o2, (s.ret dst D r outs).ob e = some o2 ∧ (∀ i off, o2.at i off = oe.at i off) ∧ ((∃ ty sz xs, oe = .row ty sz xs) → ∃ ty sz xs, o2 = .row ty sz xs) := by
    intro e oe he
    have hes : s.ob e ≠ none := by rw [he]; simp
    refine ⟨hE'old e hes, ?_⟩
    by_cases hh : ∃ k, k < outs.length ∧ back D dst k = e
    · obtain ⟨k, h1, h2⟩ := himg e hes hh
      have hkD : k < D.length := (List.getElem?_eq_some_iff.1 h1).1
      have hko : k < outs.length := by omega
      have h3 := hobat k outs[k] (List.getElem?_eq_getElem hko)
      rw [h2] at h3
      refine ⟨_, h3, ?_⟩
      have h4 : outs[k].shape = oe.shape := by
        have h5 := congrArg (fun l => l[k]?) hshape
        have h6 := hins k e oe h1 he
        simp only [obsOf] at h6
        simp only [List.getElem?_map, List.getElem?_take, hil, hkD, if_true, List.getElem?_eq_getElem hko, h6, Option.map_some, Option.some.injEq, Ob.shape_sub] at h5
        exact h5
      exact Ob.shape_at (by rw [Ob.shape_sub, h4])
    · exact ⟨oe, by rw [hobout e (fun k h1 h2 => hh ⟨k, h1, h2⟩)]; exact he, fun _ _ => rfl, id⟩
  -- what the call told, under names of the caller's
  obtain ⟨okX, hkX, hrX, hobsX⟩ : ∃ okX : Nat → Prop, (∀ k, okX k → okOf w0 ok0 E' (s.ret dst D r outs).ob k) ∧ Rel w1 okX E1 (obsOf outs) r v ∧ ∀ k o, outs[k]? = some o → ObRel w1 okX E1 (obsOf outs) k o := by
    cases hvw' : vw with
    | true =>
      obtain ⟨h1, h2⟩ := hvw hvw'
      exact ⟨fun _ => False, fun _ h => h.elim, nim_rel _ _ h1 hr, fun k o hk => nim_ob (h2 o (List.mem_of_getElem? hk)) (hobs k o hk)⟩
    | false =>
      refine ⟨_, fun k hk => ?_, hr, hobs⟩
      have hk1 : okOf w0 ok0 E s.ob k ∨ w.heap.size ≤ k := by
        rcases hk.1 with (h1 | ⟨h1, _⟩) | h1
        · exact .inl h1
        · rw [hvw'] at h1; cases h1
        · exact .inr h1
      refine ⟨?_, fun e he hb => ?_⟩
      · rcases hk1 with h1 | h1
        · exact h1.1
        · right; have := h.keep.size; omega
      · rcases hcase e he with ⟨j, o, h1, rfl⟩ | ⟨h1, h2⟩
        · have hj := (List.getElem?_eq_some_iff.1 h1).1
          rw [hE'at j hj] at hb
          exact hk.2 j (by simp [obsOf, h1]) hb
        · rw [hE'old e h2] at hb
          rcases hk1 with h3 | h3
          · exact h3.2 e h2 hb
          · have := h.blk_lt h2 hb; omega
  have hx2 : ∀ x y, Rel w1 okX E1 (obsOf outs) x y → Rel w1 (okOf w0 ok0 E' (s.ret dst D r outs).ob) E' (s.ret dst D r outs).ob (x.sub (bkO D dst) (bkP D dst)) y := fun x y hr =>
    Rel.gen (fun k hk _ => ⟨hkX k hk, rfl⟩) (Nat.le_refl _) (fun k y hr => by
      simp only [Rel, obsOf] at hr
      obtain ⟨⟨ty, sz, xs, h1⟩, h2, h3⟩ := hr
      simp only [bkO, Rel]
      exact ⟨⟨ty, sz, xs, hobat k _ h1⟩, by rw [hE'at k (List.getElem?_eq_some_iff.1 h1).1]; exact h2, h3⟩) (fun k i off y hr => by
      simp only [Rel, obsOf] at hr
      obtain ⟨o, h1, g, h2, h3⟩ := hr
      simp only [bkP, Rel]
      exact ⟨_, hobat k _ h1, g, by rw [hE'at k (List.getElem?_eq_some_iff.1 h1).1]; exact h2, by rw [Ob.sub_at]; exact h3⟩) x y hr
  have hDimg : ∀ e, (∀ k, k < outs.length → back D dst k ≠ e) → ∀ d ∈ D, d ≠ e := by
    rintro e hn d hd rfl
    obtain ⟨k, hk, rfl⟩ := List.mem_iff_getElem.1 hd
    exact hn k (by omega) (by simp [back, hk])
  apply hk v w1 E'
  refine { keep := ⟨hkeep.os.trans h.keep.os, hkeep.tape.trans h.keep.tape, hkeep.output.trans h.keep.output, Nat.le_trans h.keep.size hsize, fun k hkl hx => ?_, trivial⟩, ob := fun e o he => ?_, ext := fun e h1 he => ?_, own := fun e g h1 he hg => ?_, dis := fun e f g he hf h1 h2 => ?_, tm := fun t => ?_, defers := h.defers, size := by simp [Act.put, h.size] }
  · rw [hheap k (Nat.lt_of_lt_of_le hkl h.keep.size) (fun d hd hb => ?_)]
    · exact h.keep.block k hkl hx
    · by_cases h16 : d < 16
      · exact hx ⟨d, by rw [← h.ext d h16 (hD d hd)]; exact hb⟩
      · rcases h.own d k (by omega) (hD d hd) hb with h4 | ⟨_, h4⟩
        · omega
        · exact hx ⟨31, h4⟩
  · rcases hcase e (by rw [he]; simp) with ⟨k, o', h1, rfl⟩ | ⟨h1, h2⟩
    · rw [hobat k o' h1] at he
      obtain rfl := Option.some.inj he
      have h2 := hobsX k o' h1
      have hko := (List.getElem?_eq_some_iff.1 h1).1
      cases o' with
      | var ty x =>
        obtain ⟨g, y, h3, h4, h5, h6⟩ := h2
        exact ⟨g, y, by rw [hE'at k hko, h3], hx2 _ _ h4, h5, h6⟩
      | row ty sz xs =>
        obtain ⟨cs, h3, h4⟩ := h2
        exact ⟨cs, by rw [hE'at k hko]; exact h3, h4.imp (fun k hk _ => ⟨hkX k hk, rfl⟩) (Nat.le_refl _)⟩
    · rw [hobout e h1] at he
      refine (h.ob e o he).move hkw hsize (hE'old e h2) (fun g hg => hheap g (h.blk_lt h2 hg) (fun d hd hb => ?_)) (fun x y hr => hr.move hkw hsize hold)
      exact hDimg e h1 d hd (h.dis d e g (hD d hd) h2 hb hg)
  · rcases hcase e he with ⟨k, o', h2, rfl⟩ | ⟨h2, h3⟩
    · by_cases hkD : k < D.length
      · obtain ⟨d, _, h4, h5, _⟩ := hback k hkD
        rw [h4] at h1 ⊢
        rw [hE'old d h5]; exact h.ext d h1 h5
      · rw [hback2 k (by omega)] at h1
        simp only [sid] at h1
        omega
    · rw [hE'old e h3]; exact h.ext e h1 h3
  · rcases hcase e he with ⟨k, o', h2, rfl⟩ | ⟨h2, h3⟩
    · have hko := (List.getElem?_eq_some_iff.1 h2).1
      by_cases hkD : k < D.length
      · obtain ⟨d, _, h4, h5, _⟩ := hback k hkD
        rw [h4] at h1 hg
        rw [hE'old d h5] at hg; rw [h4]; exact h.own d g h1 h5 hg
      · rw [hE'at k hko] at hg
        have := hnew k g (by omega) hko hg
        have := h.keep.size
        left; omega
    · rw [hE'old e h3] at hg; exact h.own e g h1 h3 hg
  · have hmix : ∀ k e, k < outs.length → (∀ j, j < outs.length → back D dst j ≠ e) → s.ob e ≠ none → blkOf (E1 k) = some g → blkOf (E e) = some g → False := by
      intro k e hk hn he hb1 hb2
      rcases hblk1 k g hk hb1 with ⟨d, h3, h4, h5⟩ | h3
      · exact hDimg e hn d (List.mem_of_getElem? h3) (h.dis d e g h4 he h5 hb2)
      · have := h.blk_lt he hb2; omega
    rcases hcase e he with ⟨k, o', h3, rfl⟩ | ⟨h3, h4⟩ <;> rcases hcase f hf with ⟨j, o'', h5, rfl⟩ | ⟨h5, h6⟩
    · have hk := (List.getElem?_eq_some_iff.1 h3).1
      have hj := (List.getElem?_eq_some_iff.1 h5).1
      rw [hE'at k hk] at h1; rw [hE'at j hj] at h2
      rw [hdis k j g hk hj h1 h2]
    · have hk := (List.getElem?_eq_some_iff.1 h3).1
      rw [hE'at k hk] at h1; rw [hE'old f h6] at h2
      exact (hmix k f hk h5 h6 h1 h2).elim
    · have hj := (List.getElem?_eq_some_iff.1 h5).1
      rw [hE'old e h4] at h1; rw [hE'at j hj] at h2
      exact (hmix j e hj h3 h4 h2 h1).elim
    · rw [hE'old e h4] at h1; rw [hE'old f h6] at h2
      exact h.dis e f g h4 h6 h1 h2
  · simp only [Act.put, St.ret, upd]
    rw [getD_put (by rw [h.size]; exact hn)]
    split
    · exact hx2 r v hrX
    · exact (h.tm t).move hkw hsize hold

theorem immL_rel' {w : World} {ok : Nat → Prop} {E E' : Nat → Value} {ob ob' : Obs} : ∀ {xs : List TV} {ys : List Value}, immL xs = true → RelL w ok E ob xs ys → RelL w ok E' ob' xs ys
  | [], ys, _, h => by simpa only [RelL] using h
  | x :: xs, ys, hi, h => by
    simp only [immL, Bool.and_eq_true] at hi
    simp only [RelL] at h ⊢
    obtain ⟨u, us, e, h1, h2⟩ := h
    exact ⟨u, us, e, imm_rel x u hi.1 h1, immL_rel' hi.2 h2⟩
theorem callG_ok (h : Inv w0 X ok0 n E s a w) {o : Oper} {dst f d ty sz : Nat} {xs xs' args : List TV} {vs : List Value} (hdst : o.dst = some dst) (hn : dst < n) (hd : s.ob d = some (.row ty sz xs)) (h16 : 16 ≤ d) (hargs : RelL w (okOf w0 ok0 E s.ob) E s.ob args vs) (himm : immL args = true)
    (hrun : (execOp a.eval o).run P w = .ok (.enter f (E d :: vs).toArray) w) (hspec : SpecG P f ty sz xs args xs')
    {K : Act → World → Prop} {Q : Exit → Act → World → Prop} (hk : ∀ y w' E', Inv w0 X ok0 n E' ((s.grow d (.row ty sz xs')).put dst (.o d)) (a.put (some dst) y) w' → K (a.put (some dst) y) w') : o.wp P a w K Q := by
  obtain ⟨cs, hown, hF⟩ := h.ob d _ hd
  have hcalls := hspec.2 w (okOf w0 ok0 E s.ob) E (E d) cs vs hown hF (fun g hg hok => hok.2 d (by rw [hd]; simp) (ownBlock_blkOf hg)) (immL_rel' himm hargs) h.toMem.laid
  unfold Oper.wp
  rw [hrun]
  simp only [Oper.upon]
  refine hcalls.mono ?_
  rintro e w1 ⟨v', cs', rfl, h1, h2, h3, h4⟩
  simp only [hdst]
  obtain ⟨hI, hr⟩ := h.grow hd h16 h1 h2 h3 h4
  exact hk _ _ _ (hI.put hn hr)
end

end Go.Proofs.YtaopcacmfhdfkaaGreatDoor.Vc

namespace Go.Proofs.YtaopcacmfhdfkaaGreatDoor.Vc
open Go Go.RowKit
set_option linter.unusedSimpArgs false
set_option linter.unusedVariables false

def St.app (s : St) (d : Nat) (v : TV) (c : Chg) : St := { tm := upd s.tm d v, ob := addObs s.ob c }

/-- New objects of a call that was handed none. -/
def chgOf (d : Nat) : Nat → List Ob → Chg
  | _, [] => []
  | k, o :: os => (sid d k, o.sub (bkO [] d) (bkP [] d)) :: chgOf d (k + 1) os
theorem putObs_nil {d : Nat} : ∀ {os : List Ob} {B : Obs} {k : Nat}, putObs [] d B k os = addObs B (chgOf d k os)
  | [], _, _ => rfl
  | o :: os, B, k => by
    simp only [putObs, chgOf, addObs, List.foldl_cons]
    rw [putObs_nil]
    rfl
theorem ret_nil {s : St} {d : Nat} {r : TV} {outs : List Ob} : s.ret d [] r outs = s.app d (r.sub (bkO [] d) (bkP [] d)) (chgOf d 0 outs) := by
  simp only [St.ret, St.app, putObs_nil]

/-- Is it nil: an interface (0), a slice (1), a pointer (2)? -/
def isNil : Nat → TV → Option Bool
  | 0, .v .nilIface => some true
  | 0, .x _ _ => some false
  | 1, .v (.slice none 0 0) => some true
  | 1, .s _ (_ :: _) => some false
  | 2, .v (.pointer none) => some true
  | 2, .p _ _ _ => some false
  | 2, .r _ => some false
  | _, _ => none
def isAddr : TV → Bool
  | .p _ _ _ | .r _ => true
  | _ => false

/-- The function, and what it has captured. -/
def calleeOf : TV → Option (FuncId × List TV)
  | .v (.func (.func f) ⟨[]⟩ ⟨[]⟩) => some (f, [])
  | .f (.func f) cap => some (f, cap)
  | _ => none

/-- What a quiet instruction tells, and what it makes. -/
def I.res (P : Program) [Lay P] (s : St) : I → TV → Chg → Prop
  | .mov _ x, v, c => v = s.ev x ∧ c = []
  | .pick _ b x y, v, c => ∃ t, s.ev b = .v (.bool t) ∧ v = (bif t then s.ev x else s.ev y) ∧ c = []
  | .bin _ op x y, v, c => ∃ u u' r, s.ev x = .v u ∧ s.ev y = .v u' ∧ vbin op u u' = some r ∧ v = .v r ∧ c = []
  | .beq _ ne x y, v, c => ∃ u u', s.ev x = .v (.bool u) ∧ s.ev y = .v (.bool u') ∧ v = .v (.bool (if ne then u != u' else u == u')) ∧ c = []
  | .nil _ ne k x, v, c => ∃ t, isNil k (s.ev x) = some t ∧ v = .v (.bool (t != ne)) ∧ c = []
  | .nck _ x, v, c => isAddr (s.ev x) = true ∧ v = s.ev x ∧ c = []
  | .un _ op x, v, c => ∃ u r, s.ev x = .v u ∧ vun op u = some r ∧ v = .v r ∧ c = []
  | .conv _ k x, v, c => ∃ k' m, s.ev x = .v (.int k' m) ∧ v = .v (.int k (k.wrap m)) ∧ c = []
  | .box d ty x, v, c => s.ob (sid d 0) = none ∧ (cellsT (s.ev x)).isSome = true ∧ v = .p (sid d 0) 0 0 ∧ c = [(sid d 0, .var ty (s.ev x))]
  | .new d ty z, v, c => s.ob (sid d 0) = none ∧ v = .p (sid d 0) 0 0 ∧ c = [(sid d 0, .var ty (tvOf z))]
  | .load _ (some m) x, v, c => ∃ cs, s.mem (s.ev x) = some cs ∧ m ≤ cs.length ∧ v = .a (cs.take m) ∧ c = []
  | .load _ none x, v, c => ∃ cs, s.mem (s.ev x) = some cs ∧ cs[0]? = some v ∧ c = []
  | .fad _ off x, v, c => ((∃ d j o, s.ev x = .p d j o ∧ v = .p d j (o + off)) ∨ ∃ cs, s.ev x = .r cs ∧ v = .r (cs.drop off)) ∧ c = []
  | .iad _ sz x i, v, c => ∃ k m, s.ev i = .v (.int k m) ∧ 0 ≤ m ∧ ((∃ xs y cs, s.ev x = .s sz xs ∧ xs[m.toNat]? = some y ∧ cellsT y = some cs ∧ v = .r cs) ∨ ∃ d ty xs, s.ev x = .o d ∧ s.ob d = some (.row ty sz xs) ∧ m.toNat < xs.length ∧ v = .p d m.toNat 0) ∧ c = []
  | .aad _ sz ln x i, v, c => ∃ k m, s.ev i = .v (.int k m) ∧ 0 ≤ m ∧ m < (ln : Int) ∧ ((∃ d j o, s.ev x = .p d j o ∧ v = .p d j (o + m.toNat * sz)) ∨ ∃ cs, s.ev x = .r cs ∧ v = .r (cs.drop (m.toNat * sz))) ∧ c = []
  | .fld _ off (some m) x, v, c => ∃ cs, s.ev x = .a cs ∧ off + m ≤ cs.length ∧ v = .a ((cs.drop off).take m) ∧ c = []
  | .fld _ off none x, v, c => ∃ cs, s.ev x = .a cs ∧ cs[off]? = some v ∧ c = []
  | .sidx _ x i, v, c => ∃ b k m u, s.ev x = .v (.string b) ∧ s.ev i = .v (.int k m) ∧ 0 ≤ m ∧ b[m.toNat]? = some u ∧ v = .v (.int .u8 (u : UInt8).toNat) ∧ c = []
  | .ext _ x k, v, c => ∃ xs, s.ev x = .t xs ∧ xs[k]? = some v ∧ c = []
  | .bld _ z ps, v, c => ∃ r, fillT (z.map .v) (ps.map fun p => (p.1, p.2.1, s.ev p.2.2)) = some r ∧ v = .a r ∧ c = []
  | .bsl d ty sz xs, v, c => s.ob (sid d 0) = none ∧ (∀ x ∈ xs, (s.ev x).imm = true ∧ ∃ cs, cellsT (s.ev x) = some cs ∧ cs.length = sz) ∧ ((v = .o (sid d 0) ∧ c = [(sid d 0, .row ty sz (xs.map s.ev))]) ∨ (v = .s sz (xs.map s.ev) ∧ c = []))
  | .mks d ty sz bytes z x, v, c => s.ob (sid d 0) = none ∧ ∃ k m, s.ev x = .v (.int k m) ∧ 0 ≤ m ∧ (bytes : Int) * m ≤ 281474976710656 ∧ m ≤ 9223372036854775807 ∧ v = .o (sid d 0) ∧ c = [(sid d 0, .row ty sz (List.replicate m.toNat (tvOf z)))]
  | .mkc d ty sz bytes x, v, c => s.ob (sid d 0) = none ∧ ∃ k m, s.ev x = .v (.int k m) ∧ 0 ≤ m ∧ (bytes : Int) * m ≤ 281474976710656 ∧ m ≤ 9223372036854775807 ∧ v = .o (sid d 0) ∧ c = [(sid d 0, .row ty sz [])]
  | .aeq _ ne fs x y, v, c => ∃ xs ys r, s.ev x = .a xs ∧ s.ev y = .a ys ∧ eqA fs xs ys = some r ∧ v = .v (.bool (if ne then !r else r)) ∧ c = []
  | .len _ str x, v, c => ∃ m, lenT s (s.ev x) = some m ∧ (if str then ∃ b, s.ev x = .v (.string b) else ∀ b, s.ev x ≠ .v (.string b)) ∧ v = .v (.int .i64 (m : Nat)) ∧ c = []
  | .slc _ sz x lo hi, v, c => ∃ xs l m, s.ev x = .s sz xs ∧ bndT s lo 0 = some l ∧ bndT s hi xs.length = some m ∧ l ≤ m ∧ m ≤ xs.length ∧ v = .s sz ((xs.take m).drop l) ∧ c = []
  | .scut _ x lo hi, v, c => ∃ b l m, s.ev x = .v (.string b) ∧ bndT s lo 0 = some l ∧ bndT s hi b.size = some m ∧ l ≤ m ∧ m ≤ b.size ∧ v = .v (.string (b.extract l m)) ∧ c = []
  | .bst _ x, v, c => ∃ l, elemsT s 1 (s.ev x) = some (l.map bytTV) ∧ v = .v (.string (strB l)) ∧ c = []
  | .mkf _ fn cap, v, c => v = .f fn (cap.map s.ev) ∧ c = []
  | .mki _ t x, v, c => v = .x t (s.ev x) ∧ c = []
  | .tas _ t z x, v, c => asT t z (s.ev x) = some v ∧ c = []
  | .mm _ mx x y, v, c => ∃ k u u', s.ev x = .v (.int k u) ∧ s.ev y = .v (.int k u') ∧ v = .v (.int k (bif mx then max u u' else min u u')) ∧ c = []
  | .call d fx xs, v, c => (∃ f cap D r, calleeOf (s.ev fx) = some (f, cap) ∧ peekOk s D (xs.map s.ev ++ cap) ∧ Spec P f ((xs.map s.ev ++ cap).map (TV.exp s D false)) (insOf s D false) r (insOf s D false) ∧ r.ids = [] ∧ v = r ∧ c = []) ∨ ∃ f cap vw r outs, calleeOf (s.ev fx) = some (f, cap) ∧ Spec P f ((xs.map s.ev ++ cap).map (TV.exp s [] vw)) [] r outs ∧ (vw = true → r.nim = true ∧ ∀ o ∈ outs, o.nim) ∧ (∀ j, j < outs.length → s.ob (sid d j) = none) ∧ outs.length ≤ 16 ∧ v = r.sub (bkO [] d) (bkP [] d) ∧ c = chgOf d 0 outs
  | .store _ _ _, _, _ => False
  | .app _ _ _ _ _ _, _, _ => False

end Go.Proofs.YtaopcacmfhdfkaaGreatDoor.Vc

namespace Go.Proofs.YtaopcacmfhdfkaaGreatDoor.Vc
open Go Go.RowKit
set_option linter.unusedSimpArgs false
set_option linter.unusedVariables false

def nilKind : TypeDesc → Value → Option Nat
  | .interface _, .nilIface => some 0
  | .slice _, .slice none 0 0 => some 1
  | .pointer _, .pointer none => some 2
  | _, _ => none
def isEq : BinOp → Option Bool
  | .eql => some false
  | .neq => some true
  | _ => none

/-- A call. -/
def trCall (P : Program) [Lay P] (d : Nat) (c : Call) : Option I :=
  match c.callee with
  | .value f => some (.call d f c.args.toList)
  | .builtin .len => match c.args.toList, c.argTypes.toList with
    | [x], [t] => match P.underlying t with
      | some (.slice _) => some (.len d false x)
      | some .string => some (.len d true x)
      | _ => none
    | _, _ => none
  | .builtin .max => match c.args.toList with | [x, y] => some (.mm d true x y) | _ => none
  | .builtin .min => match c.args.toList with | [x, y] => some (.mm d false x y) | _ => none
  | .builtin .append => match c.args.toList, c.argTypes.toList with
    | [x, y], [t, t'] => if t = t' then match P.underlying t with
        | some (.slice e) => match P.info? e with
          | some ti => match ti.zero with
            | some z => if z.cells.size = ti.size ∧ 0 < ti.size ∧ 0 < ti.bytes then some (.app d e ti.size ti.bytes x y) else none
            | none => none
          | none => none
        | _ => none
      else none
    | _, _ => none
  | _ => none

/-- An operation that tells a value. -/
def trD (P : Program) [Lay P] (d : Nat) (op : Op) : Option I :=
  match op with
  | .move x | .assign x => some (.mov d x)
  | .pick b x y => some (.pick d b x y)
  | .binOp op t x y _ => match isEq op with
    | some ne => match P.underlying t with
      | some .bool => some (.beq d ne x y)
      | some (.int _) | some .string => some (.bin d op x y)
      | some (.struct _) => (structInts P t).map fun fs => .aeq d ne fs x y
      | some td => match y with | .const c => (nilKind td c).map fun k => .nil d ne k x | _ => none
      | none => none
    | none => some (.bin d op x y)
  | .nilCheck x => some (.nck d x)
  | .unOp op _ x => some (.un d op x)
  | .convert t t' x => match P.underlying t, P.underlying t' with
    | some _, some (.int k) => some (.conv d k x)
    | some (.slice e), some .string => match P.underlying e with | some (.int .u8) => some (.bst d x) | _ => none
    | _, _ => none
  | .box ty x => some (.box d ty x)
  | .alloc ty => match P.info? ty with
    | some i => match i.zero with
      | some z => if plainAgg z = true then some (.new d ty z) else none
      | none => none
    | none => none
  | .load t x => (aggSize P t).map fun m => .load d m x
  | .fieldAddr t x k => match P.underlying t with
    | some (.struct fs) => match fs[k]? with
      | some f => match P.info? f.type with
        | some i => if i.size = 0 then none else some (.fad d f.offset x)
        | none => none
      | none => none
    | _ => none
  | .indexAddr t x i => match P.underlying t with
    | some (.slice e) => (P.info? e).map fun ti => .iad d ti.size x i
    | some (.array ln e) => (P.info? e).map fun ti => .aad d ti.size ln x i
    | _ => none
  | .field t x k => match P.underlying t with
    | some (.struct fs) => match fs[k]? with
      | some f => (aggSize P f.type).map fun m => .fld d f.offset m x
      | none => none
    | _ => none
  | .index t x i => match P.underlying t with
    | some .string => some (.sidx d x i)
    | _ => none
  | .extract x k => some (.ext d x k)
  | .build t parts => match P.underlying t, P.info? t with
    | some (.struct fs), some i => match i.zero with
      | some (.agg zs) => if (zs.toList.all fun v => plain v && v.oneCell') = true then
          match (fs.toList.mapM fun f => (P.info? f.type).map fun i => (f.offset, i.size)) with
          | some ls => (parts.toList.mapM fun q => (ls[q.1]?).map fun p => (p.1, p.2, q.2)).map fun ps => .bld d zs.toList ps
          | none => none
        else none
      | _ => none
    | _, _ => none
  | .buildSlice t m parts => match P.underlying t with
    | some (.slice e) => match P.info? e with
      | some ti => match ti.zero with
        | some z => if z.cells.size = ti.size ∧ m * ti.size ≤ 16777216 ∧ m ≤ 16777216 ∧ parts.toList.map (·.1) = List.range m then some (.bsl d e ti.size (parts.toList.map (·.2))) else none
        | none => none
      | none => none
    | _ => none
  | .makeSlice t x y => match P.underlying t with
    | some (.slice e) => match P.info? e with
      | some ti => match ti.zero with
        | some z => if plainAgg z = true ∧ z.cells.size = ti.size then
            match x, y with
            | .tmp a, .tmp b => if a = b then some (.mks d e ti.size ti.bytes z (.tmp a)) else none
            | .const (.int _ 0), .tmp b => some (.mkc d e ti.size ti.bytes (.tmp b))
            | .const (.int k m), .const (.int k' m') => if k = k' ∧ m = m' then some (.mks d e ti.size ti.bytes z (.const (.int k m))) else none
            | _, _ => none
          else none
        | none => none
      | none => none
    | _ => none
  | .slice t x lo hi mx => match mx, P.underlying t with
    | none, some (.slice e) => (P.info? e).map fun ti => .slc d ti.size x lo hi
    | none, some .string => some (.scut d x lo hi)
    | _, _ => none
  | .makeFunc fn first cap => match first.toList with | [] => some (.mkf d fn cap.toList) | _ => none
  | .makeInterface t x => if P.concrete t = true then some (.mki d t x) else none
  | .typeAssert x _ t true => match P.underlying t, P.info? t with
    | some (.interface _), _ => none
    | some _, some i => match i.zero with
      | some z => if plain z = true then some (.tas d t z x) else none
      | none => none
    | _, _ => none
  | .call c => trCall P d c
  | _ => none

theorem mapM_opt {α β : Type} {f : α → Option β} : ∀ {l : List α} {r : List β}, l.mapM f = some r → l.map f = r.map some
  | [], r, h => by simp at h; subst h; rfl
  | x :: l, r, h => by
    simp only [List.mapM_cons, Option.bind_eq_bind, Option.bind_eq_some_iff, Option.pure_def, Option.some.injEq] at h
    obtain ⟨y, hy, ys, hys, rfl⟩ := h
    simp [hy, mapM_opt hys]

theorem of_list {α : Type} {a : Array α} {l : List α} (h : a.toList = l) : a = l.toArray := by rw [← h, Array.toArray_toList]

section
variable {P : Program} [Lay P] {w0 : World} {X : Nat → Value} {ok0 : Nat → Prop} [GlF P w0 X ok0] {n : Nat} {E : Nat → Value} {s : St} {a : Act} {w : World}

theorem run_eql_nil {x : Operand} {c u : Value} {td : TypeDesc} {t k : Nat} {b : Bool} {tv : TV} {ok : Nat → Prop} {B : Obs} (ht : P.underlying t = some td) (hc : nilKind td c = some k) (hu : Rel w ok E B tv u) (hx : isNil k tv = some b) (ne : Bool) :
    (do eqGuard (bif ne then .neq else .eql) t x (.const c) u c; binOp (bif ne then .neq else .eql) t u c : Sem Value).run P w = .ok (.bool (b != ne)) w := by
  have _ := ‹Lay P›
  have key : (Op.equal t u c).run P w = .ok b w ∧ (eqGuard (bif ne then .neq else .eql) t x (.const c) u c).run P w = .ok () w ∧ ∀ op, (op = .eql ∨ op = .neq) → binOp op t u c = (match op with | .eql => do pure (.bool (← Op.equal t u c)) | _ => do pure (.bool (!(← Op.equal t u c)))) := by
    unfold nilKind at hc
    split at hc <;> first | cases hc | skip
    all_goals
      unfold isNil at hx
      split at hx <;> first | (cases hx; done) | (simp_all; done) | skip
      all_goals
        simp only [Rel] at hu
        first
          | (obtain ⟨_, rfl⟩ := hu)
          | (obtain ⟨_, rfl, _⟩ := hu)
          | (obtain ⟨_, _, rfl, _, hu⟩ := hu; obtain ⟨_, rfl, _⟩ := hu (by simp))
          | (obtain ⟨_, _, _, _, rfl⟩ := hu)
          | (obtain ⟨_, _, rfl, _⟩ := hu)
        obtain rfl := Option.some.inj hx
        refine ⟨?_, ?_, ?_⟩
        · unfold Op.equal
          rw [show Op.maxDepth = 9999 + 1 from rfl, Op.equalIn]
          simp only [Sem.run_bind, run_underlying ht, Result.andThen_ok]
          rfl
        · cases ne <;> simp [eqGuard]
        · rintro op (rfl | rfl) <;> rfl
  obtain ⟨h1, h2, h3⟩ := key
  rw [Sem.run_bind, h2]
  cases ne
  · simp only [cond_false, Result.andThen_ok, h3 _ (.inl rfl)]
    rw [Sem.run_bind, h1]; simp
  · simp only [cond_true, Result.andThen_ok, h3 _ (.inr rfl)]
    rw [Sem.run_bind, h1]; simp

/-- What is done is a step. -/
theorem Done.wp {o : Oper} {v : TV} {c : Chg} {d : Nat} (hd : o.dst = some d) (hn : d < n) (h : Done P w0 X ok0 n s a w o v c) (Q : Exit → Act → World → Prop) : o.wp P a w (fun a' w' => ∃ E', Inv w0 X ok0 n E' (s.app d v c) a' w') Q := by
  have _ := ‹GlF P w0 X ok0›
  obtain ⟨y, w', E', h1, h2, h3⟩ := h
  refine wp_value h1 ⟨E', ?_⟩
  rw [hd]
  exact h2.put hn h3

theorem sid_ge (d k : Nat) : 16 ≤ sid d k := by unfold sid; omega
end

end Go.Proofs.YtaopcacmfhdfkaaGreatDoor.Vc

namespace Go.Proofs.YtaopcacmfhdfkaaGreatDoor.Vc
open Go Go.RowKit
set_option linter.unusedSimpArgs false
set_option linter.unusedVariables false

section
variable {P : Program} [Lay P] {w0 : World} {X : Nat → Value} {ok0 : Nat → Prop} [GlF P w0 X ok0] {n : Nat} {E : Nat → Value} {s : St} {a : Act} {w : World}

mutual
theorem sub_fresh {w : World} {ok : Nat → Prop} {E : Nat → Value} {ob : Obs} {D sz : Nat} {xs' : List TV} (hD : ob D = none) : ∀ (x : TV) (y : Value), Rel w ok E ob x y → x.sub (frzO D sz xs') (frzP D) = x
  | .o d, y, h => by
    have : d ≠ D := by
      rintro rfl
      simp only [Rel] at h
      obtain ⟨⟨_, _, _, h1⟩, _⟩ := h
      rw [hD] at h1; cases h1
    simp [TV.sub, frzO, this]
  | .p d i off, y, h => by
    have : d ≠ D := by
      rintro rfl
      simp only [Rel] at h
      obtain ⟨_, h1, _⟩ := h
      rw [hD] at h1; cases h1
    simp [TV.sub, frzP, this]
  | .a cs, y, h => by
    simp only [Rel] at h
    obtain ⟨ys, _, _, h⟩ := h
    simp only [TV.sub, subL_fresh hD cs ys h]
  | .x t z, y, h => by
    simp only [Rel] at h
    obtain ⟨u, _, h⟩ := h
    simp only [TV.sub, sub_fresh hD z u h]
  | .f fn cap, y, h => by
    simp only [Rel] at h
    obtain ⟨us, _, h⟩ := h
    simp only [TV.sub, subL_fresh hD cap us h]
  | .t xs, y, h => by
    simp only [Rel] at h
    obtain ⟨us, _, h⟩ := h
    simp only [TV.sub, subL_fresh hD xs us h]
  | .v _, _, _ | .s _ _, _, _ | .r _, _, _ | .dead, _, _ => rfl
theorem subL_fresh {w : World} {ok : Nat → Prop} {E : Nat → Value} {ob : Obs} {D sz : Nat} {xs' : List TV} (hD : ob D = none) : ∀ (xs : List TV) (ys : List Value), RelL w ok E ob xs ys → subL (frzO D sz xs') (frzP D) xs = xs
  | [], _, _ => rfl
  | x :: xs, ys, h => by
    simp only [RelL] at h
    obtain ⟨u, us, _, h1, h2⟩ := h
    simp only [subL, sub_fresh hD x u h1, subL_fresh hD xs us h2]
end
/-- A row that is made, and not written. -/
theorem done_frz (h : Inv w0 X ok0 n E s a w) {o : Oper} {D ty sz : Nat} {xs : List TV} (hD : s.ob D = none) (h16 : 16 ≤ D) (h31 : D ≠ 31) (hd : Done P w0 X ok0 n s a w o (.o D) [(D, .row ty sz xs)]) : Done P w0 X ok0 n s a w o (.s sz xs) [] := by
  have _ := ‹GlF P w0 X ok0›
  obtain ⟨y, w', E', hrun, hI, hr⟩ := hd
  have e1 : addObs s.ob [(D, Ob.row ty sz xs)] = upd s.ob D (some (.row ty sz xs)) := rfl
  rw [e1] at hI hr
  have hF := hI.freeze (d := D) (ty := ty) (sz := sz) (xs := xs) (upd_same _ _ _) h16 h31
  have e2 : St.freeze { s with ob := upd s.ob D (some (.row ty sz xs)) } D sz xs = s := by
    obtain ⟨tm, ob⟩ := s
    simp only [St.freeze, St.mk.injEq] at hD h ⊢
    constructor
    · funext t
      exact sub_fresh hD _ _ (h.tm t)
    · funext e
      split
      · rename_i he; rw [he]; exact hD.symm
      · rename_i he
        rw [upd_ne _ _ he]
        cases ho : ob e with
        | none => rfl
        | some b =>
          simp only [Option.map_some, Option.some.injEq]
          cases b with
          | row ty sz xs => rfl
          | var ty x =>
            obtain ⟨g, y, _, hrel, _⟩ := h.ob e _ ho
            simp only [Ob.sub]
            rw [sub_fresh hD _ _ hrel]
  rw [e2] at hF
  refine ⟨y, w', E', hrun, hF, ?_⟩
  have hob := hI.ob D _ (upd_same _ _ _)
  simp only [Rel] at hr
  rw [hr.2.1]
  refine row_imm hob (fun k hk _ => ⟨hk.1, fun e he => hk.2 e ?_⟩) (fun g hg => ⟨.inr ((hI.own D g h16 (by simp) hg).resolve_right fun h' => h31 h'.1), fun e he hge => ?_⟩)
  · by_cases heD : e = D
    · subst heD; simp
    · simp only [upd_ne _ _ heD]; exact he
  · have heD : e ≠ D := by rintro rfl; exact he hD
    exact heD (hI.dis e D g (by simp only [upd_ne _ _ heD]; exact he) (by simp) hge hg)

theorem done_nil (h : Inv w0 X ok0 n E s a w) {o : Oper} {op : BinOp} {t ty k : Nat} {x : Operand} {c : Value} {td : TypeDesc} {ne b : Bool} (hop : isEq op = some ne) (ho : o.op = .binOp op t x (.const c) ty) (ht : P.underlying t = some td) (hc : nilKind td c = some k) (hx : isNil k (s.ev x) = some b) :
    Done P w0 X ok0 n s a w o (.v (.bool (b != ne))) [] := by
  have _ := ‹GlF P w0 X ok0›
  have hop' : op = (bif ne then .neq else .eql) := by unfold isEq at hop; split at hop <;> cases hop <;> rfl
  subst hop'
  refine .pure h (y := .bool (b != ne)) ?_ (rel_v rfl)
  have := run_eql_nil (P := P) (w := w) (x := x) ht hc (h.ev x) hx ne
  have hev : a.eval (.const c) = c := rfl
  simp only [execOp, ho, hev]
  rw [Sem.run_bind, this]; rfl

theorem done_nck (h : Inv w0 X ok0 n E s a w) {o : Oper} {x : Operand} (ho : o.op = .nilCheck x) (hx : isAddr (s.ev x) = true) : Done P w0 X ok0 n s a w o (s.ev x) [] := by
  have _ := ‹GlF P w0 X ok0›
  have h1 := h.ev x
  have : ∃ ad, a.eval x = .pointer (some ad) := by
    unfold isAddr at hx
    split at hx
    · rename_i e; rw [e] at h1; simp only [Rel] at h1; obtain ⟨_, _, _, _, h1⟩ := h1; exact ⟨_, h1⟩
    · rename_i e; rw [e] at h1; simp only [Rel] at h1; obtain ⟨_, _, h1, _⟩ := h1; exact ⟨_, h1⟩
    · cases hx
  obtain ⟨ad, he⟩ := this
  exact .pure h (y := a.eval x) (by simp [execOp, ho, he]) h1

theorem exp_nil_false {_x : TV} : True := trivial

theorem callee_ok (h : Inv w0 X ok0 n E s a w) {fx : Operand} {f : FuncId} {cap : List TV} (hc : calleeOf (s.ev fx) = some (f, cap)) : ∃ cs : List Value, a.eval fx = .func (.func f) #[] cs.toArray ∧ RelL w (okOf w0 ok0 E s.ob) E s.ob cap cs := by
  have h1 := h.ev fx
  unfold calleeOf at hc
  split at hc
  · rename_i e
    obtain ⟨rfl, rfl⟩ := Prod.mk.inj (Option.some.inj hc)
    rw [e] at h1
    exact ⟨[], v_of h1, by simp [RelL]⟩
  · rename_i e
    obtain ⟨rfl, rfl⟩ := Prod.mk.inj (Option.some.inj hc)
    rw [e] at h1
    simp only [Rel] at h1
    obtain ⟨us, h1, h2⟩ := h1
    exact ⟨us, h1, h2⟩
  · cases hc

theorem call_run {o : Oper} {fx : Operand} {xs ts : Array _} {f : FuncId} {cs : List Value} (hc : callable P f) (ho : o.op = .call { callee := .value fx, args := xs, argTypes := ts }) (he : a.eval fx = .func (.func f) #[] cs.toArray) :
    (execOp a.eval o).run P w = .ok (.enter f (xs.toList.map a.eval ++ cs).toArray) w := by
  obtain ⟨fn, c, h1, h2, h3⟩ := hc
  have h3' : (fn.name == "runtime.NumGoroutine") = false := h3
  simp [execOp, ho, resolve, he, Deferred.ofValue, invoke, callFunc, h1, h2]
  rw [if_neg (by simpa using h3')]
  exact congrArg (fun l => Result.ok (Next.enter f l) w) (by apply Array.ext'; simp)

theorem trCall_sound {o : Oper} {d : Nat} {c : Call} {i : I} {v : TV} {ch : Chg} (ho : o.op = .call c) (hi : trCall P d c = some i) (hdst : o.dst = some d) (hn : d < n) (h : Inv w0 X ok0 n E s a w) (hr : i.res P s v ch) (Q : Exit → Act → World → Prop) :
    o.wp P a w (fun a' w' => ∃ E', Inv w0 X ok0 n E' (s.app d v ch) a' w') Q := by
  obtain ⟨cl, xs, ts⟩ := c
  unfold trCall at hi
  simp only at hi
  split at hi
  · rename_i fx
    obtain rfl := Option.some.inj hi
    simp only [I.res] at hr
    rcases hr with ⟨f, cap, D, r, h1, hpk, h2, h3, rfl, rfl⟩ | ⟨f, cap, vw, r, outs, h1, h2, h3, h4, _, rfl, rfl⟩
    · obtain ⟨cs, h5, h6⟩ := callee_ok h h1
      have e : s.app d v [] = s.ret d D v (insOf s D false) := by rw [ret_peek hpk h3]; rfl
      rw [e]
      exact call_ok h hdst hn ((relL_map h _).append h6) (call_run h2.1 ho h5) h2 hpk.1 (fun e he hn => by obtain ⟨_, b, hb, _⟩ := hpk.2 e he; rw [hb] at hn; cases hn) (fun j hj => by simp [insOf] at hj; omega) (by simp) (fun y w' E' hI => ⟨E', hI⟩)
    obtain ⟨cs, h5, h6⟩ := callee_ok h h1
    rw [← ret_nil]
    exact call_ok h hdst hn ((relL_map h _).append h6) (call_run h2.1 ho h5) (by simpa [insOf] using h2) List.nodup_nil (by simp) (by simpa using h4) h3 (fun y w' E' hI => ⟨E', hI⟩)
  · split at hi
    · rename_i x t e1 e2
      have e1 := of_list e1; have e2 := of_list e2
      subst e1; subst e2
      split at hi
      · rename_i e ht
        obtain rfl := Option.some.inj hi
        simp only [I.res] at hr
        obtain ⟨m, h1, h2, rfl, rfl⟩ := hr
        exact (done_len h ho (.inl ⟨e, ht⟩) h1 (.inl ⟨⟨e, ht⟩, by simpa using h2⟩)).wp hdst hn Q
      · rename_i ht
        obtain rfl := Option.some.inj hi
        simp only [I.res] at hr
        obtain ⟨m, h1, h2, rfl, rfl⟩ := hr
        exact (done_len h ho (.inr ht) h1 (.inr ⟨ht, by simpa using h2⟩)).wp hdst hn Q
      · cases hi
    · cases hi
  · split at hi
    · rename_i x y e1
      have e1 := of_list e1; subst e1
      obtain rfl := Option.some.inj hi
      simp only [I.res] at hr
      obtain ⟨k, u, u', h1, h2, rfl, rfl⟩ := hr
      exact (done_mm h (mx := true) ho h1 h2).wp hdst hn Q
    · cases hi
  · split at hi
    · rename_i x y e1
      have e1 := of_list e1; subst e1
      obtain rfl := Option.some.inj hi
      simp only [I.res] at hr
      obtain ⟨k, u, u', h1, h2, rfl, rfl⟩ := hr
      exact (done_mm h (mx := false) ho h1 h2).wp hdst hn Q
    · cases hi
  · split at hi
    · split at hi
      · split at hi
        · split at hi
          · split at hi
            · split at hi
              · obtain rfl := Option.some.inj hi
                exact hr.elim
              · cases hi
            · cases hi
          · cases hi
        · cases hi
      · cases hi
    · cases hi
  · cases hi

theorem trD_sound {o : Oper} {d : Nat} {i : I} {v : TV} {ch : Chg} (hi : trD P d o.op = some i) (hdst : o.dst = some d) (hn : d < n) (h : Inv w0 X ok0 n E s a w) (hr : i.res P s v ch) (Q : Exit → Act → World → Prop) :
    o.wp P a w (fun a' w' => ∃ E', Inv w0 X ok0 n E' (s.app d v ch) a' w') Q := by
  generalize ho : o.op = op at hi
  unfold trD at hi
  split at hi
  · obtain rfl := Option.some.inj hi
    obtain ⟨rfl, rfl⟩ := hr
    exact (done_mov h (.inl ho)).wp hdst hn Q
  · obtain rfl := Option.some.inj hi
    obtain ⟨rfl, rfl⟩ := hr
    exact (done_mov h (.inr ho)).wp hdst hn Q
  · obtain rfl := Option.some.inj hi
    obtain ⟨t, h1, rfl, rfl⟩ := hr
    exact (done_pick h ho h1).wp hdst hn Q
  · rename_i opx _ _ _ _
    split at hi
    · rename_i ne hne
      split at hi
      · rename_i ht
        obtain rfl := Option.some.inj hi
        obtain ⟨u, u', h1, h2, rfl, rfl⟩ := hr
        have hop : opx = (bif ne then .neq else .eql) := by unfold isEq at hne; split at hne <;> cases hne <;> rfl
        subst hop
        exact (done_beq h (ne := ne) ho ht h1 h2).wp hdst hn Q
      · obtain rfl := Option.some.inj hi
        obtain ⟨u, u', r, h1, h2, h3, rfl, rfl⟩ := hr
        exact (done_bin h ho h1 h2 h3).wp hdst hn Q
      · obtain rfl := Option.some.inj hi
        obtain ⟨u, u', r, h1, h2, h3, rfl, rfl⟩ := hr
        exact (done_bin h ho h1 h2 h3).wp hdst hn Q
      · simp only [Option.map_eq_some_iff] at hi
        obtain ⟨fs, hfs, rfl⟩ := hi
        obtain ⟨xs, ys, r, h1, h2, h3, rfl, rfl⟩ := hr
        have hop : opx = (bif ne then .neq else .eql) := by unfold isEq at hne; split at hne <;> cases hne <;> rfl
        subst hop
        exact (done_aeq h (ne := ne) ho hfs h1 h2 h3).wp hdst hn Q
      · rename_i ht
        split at hi
        · simp only [Option.map_eq_some_iff] at hi
          obtain ⟨k, hk, rfl⟩ := hi
          obtain ⟨t, h1, rfl, rfl⟩ := hr
          exact (done_nil h hne ho ht hk h1).wp hdst hn Q
        · cases hi
      · cases hi
    · obtain rfl := Option.some.inj hi
      obtain ⟨u, u', r, h1, h2, h3, rfl, rfl⟩ := hr
      exact (done_bin h ho h1 h2 h3).wp hdst hn Q
  · obtain rfl := Option.some.inj hi
    obtain ⟨h1, rfl, rfl⟩ := hr
    exact (done_nck h ho h1).wp hdst hn Q
  · obtain rfl := Option.some.inj hi
    obtain ⟨u, r, h1, h2, rfl, rfl⟩ := hr
    exact (done_un h ho h1 h2).wp hdst hn Q
  · split at hi
    · rename_i td k ht ht'
      obtain rfl := Option.some.inj hi
      obtain ⟨k', m, h1, rfl, rfl⟩ := hr
      exact (done_conv h ho ⟨_, ht⟩ ht' h1).wp hdst hn Q
    · rename_i e ht ht'
      split at hi
      · rename_i he
        obtain rfl := Option.some.inj hi
        obtain ⟨l, h1, rfl, rfl⟩ := hr
        exact (done_bst h ho ht he ht' h1).wp hdst hn Q
      · cases hi
    · cases hi
  · obtain rfl := Option.some.inj hi
    obtain ⟨h1, h2, rfl, rfl⟩ := hr
    obtain ⟨cs, hcs⟩ := Option.isSome_iff_exists.1 h2
    exact (done_box h ho h1 (sid_ge _ _) hcs).wp hdst hn Q
  · split at hi
    · rename_i ti hti
      split at hi
      · rename_i z hz
        split at hi
        · rename_i hp
          obtain rfl := Option.some.inj hi
          obtain ⟨h1, rfl, rfl⟩ := hr
          exact (done_new h ho hti hz hp h1 (sid_ge _ _)).wp hdst hn Q
        · cases hi
      · cases hi
    · cases hi
  · simp only [Option.map_eq_some_iff] at hi
    obtain ⟨m, hm, rfl⟩ := hi
    cases m with
    | some m =>
      obtain ⟨cs, h1, h2, rfl, rfl⟩ := hr
      exact (done_load h ho hm h1 h2).wp hdst hn Q
    | none =>
      obtain ⟨cs, h1, h2, rfl⟩ := hr
      exact (done_load1 h ho hm h1 h2).wp hdst hn Q
  · split at hi
    · rename_i fs ht
      split at hi
      · rename_i f hf
        split at hi
        · rename_i ti hti
          split at hi
          · cases hi
          · rename_i hs
            obtain rfl := Option.some.inj hi
            obtain ⟨h1, rfl⟩ := hr
            exact (done_fad h ho ht hf hti hs h1).wp hdst hn Q
        · cases hi
      · cases hi
    · cases hi
  · split at hi
    · rename_i e ht
      simp only [Option.map_eq_some_iff] at hi
      obtain ⟨ti, hti, rfl⟩ := hi
      obtain ⟨k, m, h1, h2, h3, rfl⟩ := hr
      exact (done_iad h ho ht hti h1 h2 h3).wp hdst hn Q
    · rename_i ln e ht
      simp only [Option.map_eq_some_iff] at hi
      obtain ⟨ti, hti, rfl⟩ := hi
      obtain ⟨k, m, h1, h2, h3, h4, rfl⟩ := hr
      exact (done_aad h ho ht hti h1 h2 h3 h4).wp hdst hn Q
    · cases hi
  · split at hi
    · rename_i fs ht
      split at hi
      · rename_i f hf
        simp only [Option.map_eq_some_iff] at hi
        obtain ⟨m, hm, rfl⟩ := hi
        cases m with
        | some m =>
          obtain ⟨cs, h1, h2, rfl, rfl⟩ := hr
          exact (done_fld h ho ht hf hm h1 h2).wp hdst hn Q
        | none =>
          obtain ⟨cs, h1, h2, rfl⟩ := hr
          exact (done_fld1 h ho ht hf hm h1 h2).wp hdst hn Q
      · cases hi
    · cases hi
  · split at hi
    · rename_i ht
      obtain rfl := Option.some.inj hi
      obtain ⟨b, k, m, u, h1, h2, h3, h4, rfl, rfl⟩ := hr
      exact (done_sidx h ho ht h1 h2 h3 h4).wp hdst hn Q
    · cases hi
  · obtain rfl := Option.some.inj hi
    obtain ⟨xs, h1, h2, rfl⟩ := hr
    exact (done_ext h ho h1 h2).wp hdst hn Q
  · split at hi
    · rename_i fs ti ht hti
      split at hi
      · rename_i zs hz
        split at hi
        · rename_i hp
          split at hi
          · rename_i ls hls
            simp only [Option.map_eq_some_iff] at hi
            obtain ⟨ps, hps, rfl⟩ := hi
            obtain ⟨r, h1, rfl, rfl⟩ := hr
            exact (done_bld h (zs := zs.toList) ho ht hti (by rw [hz, Array.toArray_toList]) hp (mapM_opt hls) ps (mapM_opt hps) h1).wp hdst hn Q
          · cases hi
        · cases hi
      · cases hi
    · cases hi
  · rename_i t m parts
    split at hi
    · rename_i e ht
      split at hi
      · rename_i ti hti
        split at hi
        · rename_i z hz
          split at hi
          · rename_i hc
            obtain ⟨h5, h6, h7, h8⟩ := hc
            obtain rfl := Option.some.inj hi
            obtain ⟨h1, h2, hr⟩ := hr
            have h9 : parts.toList = (List.range m).zip (parts.toList.map (·.2)) := by
              rw [← h8, List.zip_map', List.map_id'']
              intro p; rfl
            have hD := done_bsl h ho ht hti hz h5 h1 (sid_ge _ _) h6 h7 (parts.toList.map (·.2)) h9 (by have := congrArg List.length h8; simpa using this) h2
            rcases hr with ⟨rfl, rfl⟩ | ⟨rfl, rfl⟩
            · exact hD.wp hdst hn Q
            · exact (done_frz h h1 (sid_ge _ _) (by simp only [sid]; omega) hD).wp hdst hn Q
          · cases hi
        · cases hi
      · cases hi
    · cases hi
  · split at hi
    · rename_i e ht
      split at hi
      · rename_i ti hti
        split at hi
        · rename_i z hz
          split at hi
          · rename_i hc
            split at hi
            · split at hi
              · rename_i hab; subst hab
                obtain rfl := Option.some.inj hi
                obtain ⟨h1, k, m, h2, h3, h4, h5, rfl, rfl⟩ := hr
                exact (done_mks h ho ht hti hz hc.1 hc.2 h1 (sid_ge _ _) h2 h3 h4 h5).wp hdst hn Q
              · cases hi
            · obtain rfl := Option.some.inj hi
              obtain ⟨h1, k, m, h2, h3, h4, h5, rfl, rfl⟩ := hr
              exact (done_mkc h ho ht hti hz h1 (sid_ge _ _) h2 h3 h4 h5).wp hdst hn Q
            · split at hi
              · rename_i hab
                obtain ⟨rfl, rfl⟩ := hab
                obtain rfl := Option.some.inj hi
                obtain ⟨h1, k, m, h2, h3, h4, h5, rfl, rfl⟩ := hr
                exact (done_mks h ho ht hti hz hc.1 hc.2 h1 (sid_ge _ _) h2 h3 h4 h5).wp hdst hn Q
              · cases hi
            · cases hi
          · cases hi
        · cases hi
      · cases hi
    · cases hi
  · split at hi
    · rename_i e ht
      simp only [Option.map_eq_some_iff] at hi
      obtain ⟨ti, hti, rfl⟩ := hi
      obtain ⟨xs, l, m, h1, h2, h3, h4, h5, rfl, rfl⟩ := hr
      exact (done_slc h ho ht hti h1 h2 h3 h4 h5).wp hdst hn Q
    · rename_i ht
      obtain rfl := Option.some.inj hi
      obtain ⟨b, l, m, h1, h2, h3, h4, h5, rfl, rfl⟩ := hr
      exact (done_scut h ho ht h1 h2 h3 h4 h5).wp hdst hn Q
    · cases hi
  · split at hi
    · rename_i hf
      have hf := of_list hf
      subst hf
      obtain rfl := Option.some.inj hi
      obtain ⟨rfl, rfl⟩ := hr
      exact (done_mkf h ho).wp hdst hn Q
    · cases hi
  · split at hi
    · rename_i hc
      obtain rfl := Option.some.inj hi
      obtain ⟨rfl, rfl⟩ := hr
      exact (done_mki h ho hc).wp hdst hn Q
    · cases hi
  · split at hi
    · cases hi
    · rename_i td ti hne hu hti
      split at hi
      · rename_i z hz
        split at hi
        · rename_i hp
          obtain rfl := Option.some.inj hi
          obtain ⟨h1, rfl⟩ := hr
          exact (done_tas h ho hu (fun ms e => hne ms e) hti hz hp h1).wp hdst hn Q
        · cases hi
      · cases hi
    · cases hi
  · exact trCall_sound ho hi hdst hn h hr Q
  · cases hi
end

end Go.Proofs.YtaopcacmfhdfkaaGreatDoor.Vc

namespace Go.Proofs.YtaopcacmfhdfkaaGreatDoor.Vc
open Go Go.RowKit
set_option linter.unusedSimpArgs false
set_option linter.unusedVariables false

def I.dst : I → Option Nat
  | .mov d _ | .pick d _ _ _ | .bin d _ _ _ | .beq d _ _ _ | .nil d _ _ _ | .nck d _ | .un d _ _ | .conv d _ _ | .box d _ _ | .new d _ _ | .load d _ _ | .fad d _ _ | .iad d _ _ _ | .aad d _ _ _ _
  | .fld d _ _ _ | .sidx d _ _ | .ext d _ _ | .bld d _ _ | .bsl d _ _ _ | .mks d _ _ _ _ _ | .mkc d _ _ _ _ | .aeq d _ _ _ _ | .len d _ _ | .slc d _ _ _ _ | .scut d _ _ _ | .bst d _ | .mkf d _ _ | .mki d _ _ | .tas d _ _ _ | .mm d _ _ _ | .call d _ _ | .app d _ _ _ _ _ => some d
  | .store _ _ _ => none

def I.quiet : I → Bool
  | .store _ _ _ | .app _ _ _ _ _ _ => false
  | _ => true

/-- What an instruction asks, so that K holds behind it. -/
def I.vc (P : Program) [Lay P] (i : I) (s : St) (K : St → Prop) : Prop :=
  match i with
  | .store sz x y => ∃ d j off ob c ob', s.ev x = .p d j off ∧ s.ob d = some ob ∧ cellsT (s.ev y) = some c ∧ c.length = sz ∧ storeOb ob j off c = some ob' ∧ K { s with ob := upd s.ob d (some ob') }
  | .app dst ty sz bytes x y =>
    (∃ d xs ys, s.ev x = .o d ∧ 16 ≤ d ∧ s.ob d = some (.row ty sz xs) ∧ elemsT s sz (s.ev y) = some ys ∧ (xs.length + ys.length) * bytes ≤ 140737488355328 ∧ K ((s.grow d (.row ty sz (xs ++ ys))).put dst (.o d))) ∨
    (∃ ys, s.ev x = .v (.slice none 0 0) ∧ s.ob (sid dst 0) = none ∧ elemsT { s with ob := upd s.ob (sid dst 0) (some (.row ty sz [])) } sz (s.ev y) = some ys ∧ ys.length * bytes ≤ 140737488355328 ∧
      K ((St.grow { s with ob := upd s.ob (sid dst 0) (some (.row ty sz [])) } (sid dst 0) (.row ty sz ys)).put dst (.o (sid dst 0))))
  | .call d fx xs => (∃ f cap e ty sz ys args xs', calleeOf (s.ev fx) = some (f, cap) ∧ xs.map s.ev ++ cap = .o e :: args ∧ 16 ≤ e ∧ s.ob e = some (.row ty sz ys) ∧ immL args = true ∧ SpecG P f ty sz ys args xs' ∧ K ((s.grow e (.row ty sz xs')).put d (.o e))) ∨ ∃ f cap D vw r outs, calleeOf (s.ev fx) = some (f, cap) ∧ Spec P f ((xs.map s.ev ++ cap).map (TV.exp s D vw)) (insOf s D vw) r outs ∧ D.Nodup ∧ (∀ e ∈ D, s.ob e ≠ none) ∧
      (vw = true → r.nim = true ∧ ∀ o ∈ outs, o.nim) ∧ (∀ j, D.length + j < outs.length → s.ob (sid d j) = none) ∧ K (s.ret d D r outs)
  | .nil d ne k x => (k = 1 ∧ (∃ sz, s.ev x = .s sz []) ∧ ∀ b, K (s.put d (.v (.bool b)))) ∨ ∃ v c, (I.nil d ne k x).res P s v c ∧ K (s.app d v c)
  | i => match i.dst with
    | some d => ∃ v c, i.res P s v c ∧ K (s.app d v c)
    | none => False

structure GI where
  i : I
  g : Option (Nat × Bool) := none

def GI.vc (P : Program) [Lay P] (g : GI) (s : St) (K : St → Prop) : Prop :=
  match g.g with
  | none => g.i.vc P s K
  | some (t, b) => (∃ b', s.tm t = .v (.bool b') ∧ (b' = b → g.i.vc P s K) ∧ (b' ≠ b → K (match g.i.dst with | some d => s.put d (.t []) | none => s))) ∨ (s.tm t = .t [] ∧ K (match g.i.dst with | some d => s.put d (.t []) | none => s))

def regVc (P : Program) [Lay P] : List GI → (St → Prop) → St → Prop
  | [], K, s => K s
  | g :: gs, K, s => g.vc P s (regVc P gs K)

def trB (P : Program) [Lay P] (o : Oper) : Option I :=
  match o.dst with
  | some d => trD P d o.op
  | none => match o.op with
    | .store t x y => (P.info? t).map fun ti => .store ti.size x y
    | _ => none
def trO (P : Program) [Lay P] (ops : Array Oper) (o : Oper) : Option GI :=
  (trB P o).bind fun i => match o.guard with
    | none => some ⟨i, none⟩
    | some (j, b) => ((ops[j]?).bind (·.dst)).map fun t => ⟨i, some (t, b)⟩

theorem trCall_dst {P : Program} [Lay P] {d : Nat} {c : Call} {i : I} (h : trCall P d c = some i) : i.dst = some d := by
  unfold trCall at h
  repeat' split at h
  all_goals first
    | (cases h; done)
    | (obtain rfl := Option.some.inj h; rfl)
theorem trD_dst {P : Program} [Lay P] {d : Nat} {op : Op} {i : I} (h : trD P d op = some i) : i.dst = some d := by
  unfold trD at h
  repeat' split at h
  all_goals first
    | (cases h; done)
    | (obtain rfl := Option.some.inj h; rfl)
    | exact trCall_dst h
    | (simp only [Option.map_eq_some_iff] at h; obtain ⟨_, _, rfl⟩ := h; rfl)
theorem trB_dst {P : Program} [Lay P] {o : Oper} {i : I} (h : trB P o = some i) : i.dst = o.dst := by
  unfold trB at h
  split at h
  · rename_i d hd; rw [hd]; exact trD_dst h
  · rename_i hd
    split at h
    · simp only [Option.map_eq_some_iff] at h; obtain ⟨_, _, rfl⟩ := h; exact hd.symm
    · cases h

section
variable {P : Program} [Lay P] {w0 : World} {X : Nat → Value} {ok0 : Nat → Prop} [GlF P w0 X ok0] {n : Nat} {E : Nat → Value} {s : St} {a : Act} {w : World}

/-- What holds behind. -/
def Post (w0 : World) (X : Nat → Value) (ok0 : Nat → Prop) (n : Nat) (K : St → Prop) (a : Act) (w : World) : Prop := ∃ s E, K s ∧ Inv w0 X ok0 n E s a w

theorem trCall_app {d : Nat} {c : Call} {dst ty sz bytes : Nat} {x y : Operand} (h : trCall P d c = some (.app dst ty sz bytes x y)) :
    ∃ t ti z, c = { callee := .builtin .append, args := #[x, y], argTypes := #[t, t] } ∧ P.underlying t = some (.slice ty) ∧ P.info? ty = some ti ∧ ti.zero = some z ∧ z.cells.size = ti.size ∧ 0 < ti.size ∧ 0 < ti.bytes ∧ sz = ti.size ∧ bytes = ti.bytes ∧ dst = d := by
  obtain ⟨cl, xs, ts⟩ := c
  unfold trCall at h
  simp only at h
  split at h
  · cases h
  · split at h
    · split at h <;> cases h
    · cases h
  · split at h <;> cases h
  · split at h <;> cases h
  · split at h
    · rename_i e1 e2
      split at h
      · rename_i ht; subst ht
        split at h
        · rename_i e hu
          split at h
          · rename_i ti hti
            split at h
            · rename_i z hz
              split at h
              · rename_i hc
                have h := Option.some.inj h
                injection h with h1 h2 h3 h4 h5 h6
                subst h1; subst h2; subst h3; subst h4; subst h5; subst h6
                exact ⟨_, ti, z, by rw [of_list e1, of_list e2], hu, hti, hz, hc.1, hc.2.1, hc.2.2, rfl, rfl, rfl⟩
              · cases h
            · cases h
          · cases h
        · cases h
      · cases h
    · cases h
  · cases h

theorem trD_call {d : Nat} {op : Op} {i : I} (h : trD P d op = some i) (hi : (∃ d ty sz b x y, i = .app d ty sz b x y) ∨ ∃ d fx xs, i = .call d fx xs) : ∃ c, op = .call c ∧ trCall P d c = some i := by
  unfold trD at h
  repeat' split at h
  all_goals first
    | (cases h; done)
    | (exact ⟨_, rfl, h⟩)
    | (obtain rfl := Option.some.inj h; rcases hi with ⟨_, _, _, _, _, _, hi⟩ | ⟨_, _, _, hi⟩ <;> cases hi)
    | (simp only [Option.map_eq_some_iff] at h; obtain ⟨_, _, rfl⟩ := h; rcases hi with ⟨_, _, _, _, _, _, hi⟩ | ⟨_, _, _, hi⟩ <;> cases hi)

theorem trCall_call {d : Nat} {c : Call} {dst : Nat} {fx : Operand} {xs : List Operand} (h : trCall P d c = some (.call dst fx xs)) : c.callee = .value fx ∧ c.args.toList = xs ∧ dst = d := by
  unfold trCall at h
  split at h
  · rename_i hc
    have h := Option.some.inj h
    injection h with h1 h2 h3
    subst h1; subst h2
    exact ⟨hc, h3, rfl⟩
  all_goals
    repeat' split at h
    all_goals cases h

theorem trCall_nil {d : Nat} {c : Call} {d' k : Nat} {ne : Bool} {x : Operand} (h : trCall P d c = some (.nil d' ne k x)) : False := by
  unfold trCall at h
  repeat' split at h
  all_goals cases h

theorem run_nil_both (h : Inv w0 X ok0 n E s a w) {o : Oper} {bop : BinOp} {t ty : Nat} {x : Operand} {c : Value} {td : TypeDesc} {ne : Bool} {sz : Nat} (ho : o.op = .binOp bop t x (.const c) ty) (hne : isEq bop = some ne) (ht : P.underlying t = some td) (hc : nilKind td c = some 1) (hx : s.ev x = .s sz []) : ∃ b, (execOp a.eval o).run P w = .ok (.value (.bool b)) w := by
  have _ := ‹GlF P w0 X ok0›
  have h1 := h.ev x
  rw [hx] at h1
  simp only [Rel] at h1
  obtain ⟨A, cp, h1, _, _⟩ := h1
  unfold nilKind at hc
  split at hc
  · cases hc
  · refine ⟨if ne then !A.isNone else A.isNone, ?_⟩
    have hop : bop = (bif ne then .neq else .eql) := by unfold isEq at hne; split at hne <;> cases hne <;> rfl
    subst hop
    have heq : (Op.equal t (.slice A 0 cp) (.slice none 0 0)).run P w = .ok A.isNone w := by
      unfold Op.equal
      rw [show Op.maxDepth = 9999 + 1 from rfl, Op.equalIn]
      simp only [Sem.run_bind, run_underlying ht, Result.andThen_ok]
      cases A <;> rfl
    have h2 : (eqGuard (bif ne then .neq else .eql) t x (.const (.slice none 0 0)) (.slice A 0 cp) (.slice none 0 0)).run P w = .ok () w := by cases ne <;> simp [eqGuard]
    have h3 : (do eqGuard (bif ne then .neq else .eql) t x (.const (.slice none 0 0)) (.slice A 0 cp) (.slice none 0 0); binOp (bif ne then .neq else .eql) t (.slice A 0 cp) (.slice none 0 0) : Sem Value).run P w = .ok (.bool (if ne then !A.isNone else A.isNone)) w := by
      rw [Sem.run_bind, h2]
      cases ne
      · have : binOp (bif false then .neq else .eql) t (.slice A 0 cp) (.slice none 0 0) = (do pure (.bool (← Op.equal t (.slice A 0 cp) (.slice none 0 0))) : Sem Value) := rfl
        simp only [cond_false, Result.andThen_ok] at this ⊢
        rw [this, Sem.run_bind, heq]; simp
      · have : binOp (bif true then .neq else .eql) t (.slice A 0 cp) (.slice none 0 0) = (do pure (.bool (!(← Op.equal t (.slice A 0 cp) (.slice none 0 0)))) : Sem Value) := rfl
        simp only [cond_true, Result.andThen_ok] at this ⊢
        rw [this, Sem.run_bind, heq]; simp
    have hev : a.eval (.const (.slice none 0 0)) = .slice none 0 0 := rfl
    have h1' : a.eval x = .slice A 0 cp := h1
    simp only [execOp, ho, hev, h1']
    rw [Sem.run_bind, h3]; rfl
  · cases hc
  · cases hc

theorem trD_nil {d : Nat} {op : Op} {d' k : Nat} {ne : Bool} {x : Operand} (h : trD P d op = some (.nil d' ne k x)) : ∃ bop t c ty td, op = .binOp bop t x (.const c) ty ∧ isEq bop = some ne ∧ P.underlying t = some td ∧ nilKind td c = some k := by
  unfold trD at h
  split at h
  case h_4 =>
    split at h
    · rename_i hne
      split at h
      · cases h
      · cases h
      · cases h
      · simp only [Option.map_eq_some_iff] at h; obtain ⟨_, _, h⟩ := h; cases h
      · rename_i ht
        split at h
        · simp only [Option.map_eq_some_iff] at h
          obtain ⟨k', hk, h⟩ := h
          injection h with h1 h2 h3 h4
          subst h2; subst h3; subst h4
          exact ⟨_, _, _, _, _, rfl, hne, ht, hk⟩
        · cases h
      · cases h
    · cases h
  all_goals first
    | (cases h; done)
    | exact (trCall_nil h).elim
    | (repeat' split at h
       all_goals first
         | (cases h; done)
         | (simp only [Option.map_eq_some_iff] at h; obtain ⟨_, _, h⟩ := h; cases h))

theorem I.sound {o : Oper} {i : I} (hi : trB P o = some i) (hn : ∀ d, o.dst = some d → d < n) (h : Inv w0 X ok0 n E s a w) {K : St → Prop} (hv : i.vc P s K) (Q : Exit → Act → World → Prop) : o.wp P a w (Post w0 X ok0 n K) Q := by
  have hds := trB_dst hi
  unfold trB at hi
  split at hi
  · rename_i d hd
    by_cases happ : ∃ d ty sz b x y, i = .app d ty sz b x y
    · obtain ⟨c, hc, ht⟩ := trD_call hi (.inl happ)
      obtain ⟨dst, ty, sz, b, x, y, rfl⟩ := happ
      obtain ⟨t, ti, z, rfl, hu, hti, hz, hzs, hsz, hb0, rfl, rfl, rfl⟩ := trCall_app ht
      simp only [I.vc] at hv
      rcases hv with ⟨e, xs, ys, h1, h2, h3, h4, h5, h6⟩ | ⟨ys, h1, h2, h4, h5, h6⟩
      · obtain ⟨v', w', hr, hI, hrel⟩ := app_ok h hc hu hti hz hzs hsz rfl h1 h3 h4 h5 hb0 h2
        have hfin := hI.put (hn dst hd) hrel
        rw [← hd] at hfin
        exact wp_value hr ⟨_, _, h6, hfin⟩
      · have hg := h.ghost (ty := ty) (sz := ti.size) h2 (sid_ge _ _)
        have hx : a.eval x = .slice none 0 0 := by have := h.ev x; rw [h1] at this; exact v_of this
        -- the operand names nobody's row; the ghost row has its value
        have hgo : ∃ v' w', (execOp a.eval o).run P w = .ok (.value v') w' ∧ Inv w0 X ok0 n (upd (upd E (sid dst 0) (.slice none 0 0)) (sid dst 0) v') (St.grow { s with ob := upd s.ob (sid dst 0) (some (.row ty ti.size [])) } (sid dst 0) (.row ty ti.size ys)) a w' ∧
            Rel w' (okOf w0 ok0 (upd (upd E (sid dst 0) (.slice none 0 0)) (sid dst 0) v') (St.grow { s with ob := upd s.ob (sid dst 0) (some (.row ty ti.size [])) } (sid dst 0) (.row ty ti.size ys)).ob) (upd (upd E (sid dst 0) (.slice none 0 0)) (sid dst 0) v') (St.grow { s with ob := upd s.ob (sid dst 0) (some (.row ty ti.size [])) } (sid dst 0) (.row ty ti.size ys)).ob (.o (sid dst 0)) v' := by
          have hyev : ({ s with ob := upd s.ob (sid dst 0) (some (.row ty ti.size [])) } : St).ev y = s.ev y := by cases y <;> rfl
          exact app_ok' hg hc hu hti hz hzs hsz rfl (d := sid dst 0) (xs := []) (by rw [upd_same]; exact hx) (upd_same _ _ _) (by rw [hyev]; exact h4) (by simpa using h5) hb0 (sid_ge _ _)
        obtain ⟨v', w', hr, hI, hrel⟩ := hgo
        have hfin := hI.put (hn dst hd) hrel
        rw [← hd] at hfin
        exact wp_value hr ⟨_, _, h6, hfin⟩
    · by_cases hcall : ∃ d fx xs, i = .call d fx xs
      · obtain ⟨c, hc, ht⟩ := trD_call hi (.inr hcall)
        obtain ⟨dst, fx, xs, rfl⟩ := hcall
        obtain ⟨h1, rfl, rfl⟩ := trCall_call ht
        obtain ⟨cl, args, ts⟩ := c
        simp only at h1; subst h1
        rcases hv with ⟨f, cap, e, ty, sz, ys, gs, xs', h2, h3, h4, h5, h6, h7, h8⟩ | ⟨f, cap, D, vw, r, outs, h2, h3, h4, h5, h6, h7, h8⟩
        · obtain ⟨cs, h9, h10⟩ := callee_ok h h2
          have h11 := (relL_map h args.toList).append h10
          rw [h3] at h11
          simp only [RelL] at h11
          obtain ⟨u, us, h12, h13, h14⟩ := h11
          have h15 : u = E e := by simp only [Rel] at h13; exact h13.2.1
          subst h15
          exact callG_ok h hd (hn dst hd) h5 h4 h14 h6 (by have := call_run h7.1 hc h9 (a := a) (w := w); rw [h12] at this; exact this) h7 (fun y w' E' hI => ⟨_, E', h8, hI⟩)
        obtain ⟨cs, h9, h10⟩ := callee_ok h h2
        exact call_ok h hd (hn dst hd) ((relL_map h _).append h10) (call_run h3.1 hc h9) h3 h4 h5 h7 h6 (fun y w' E' hI => ⟨_, E', h8, hI⟩)
      · by_cases hnil : ∃ d' ne x sz, i = .nil d' ne 1 x ∧ s.ev x = .s sz [] ∧ ∀ b, K (s.put d' (.v (.bool b)))
        · obtain ⟨d', ne, x, sz, rfl, hx, hK⟩ := hnil
          have hdd : d' = d := by rw [hd] at hds; exact Option.some.inj hds
          subst hdd
          obtain ⟨bop, t, c, ty, td, hop, hne, ht, hc⟩ := trD_nil hi
          obtain ⟨b, hr⟩ := run_nil_both h hop hne ht hc hx
          have hfin := h.put (hn d' hd) (v := .v (.bool b)) (y := .bool b) (by simp [Rel, plain])
          rw [← hd] at hfin
          exact wp_value hr ⟨_, _, hK b, hfin⟩
        have hv' : ∃ v c, i.res P s v c ∧ K (s.app d v c) := by
          rw [hd] at hds
          cases i <;> first
            | (simp only [I.dst, Option.some.injEq] at hds
               subst hds
               rcases hv with ⟨rfl, ⟨sz, hx⟩, hK⟩ | hv
               · exact absurd ⟨_, _, _, sz, rfl, hx, hK⟩ hnil
               · exact hv)
            | (simp only [I.vc] at hv; rw [hds] at hv; exact hv)
            | (exact absurd ⟨_, _, _, _, _, _, rfl⟩ happ)
            | (exact absurd ⟨_, _, _, rfl⟩ hcall)
            | (simp [I.dst] at hds)
        obtain ⟨v, c, h1, h2⟩ := hv'
        exact Oper.wp_mono (fun a' w' ⟨E', hI⟩ => ⟨_, E', h2, hI⟩) (trD_sound hi hd (hn d hd) h h1 Q)
  · rename_i hd
    split at hi
    · rename_i t x y hop
      simp only [Option.map_eq_some_iff] at hi
      obtain ⟨ti, hti, rfl⟩ := hi
      obtain ⟨d, j, off, ob, c, ob', h1, h2, h3, h4, h5, h6⟩ := hv
      obtain ⟨w', hr, hI⟩ := store_ok h hop hti rfl h1 h2 h3 h4 h5
      unfold Oper.wp
      rw [hr]
      simp only [Oper.upon, hd, Act.put]
      exact ⟨_, _, h6, hI⟩
    · cases hi
end

end Go.Proofs.YtaopcacmfhdfkaaGreatDoor.Vc

namespace Go.Proofs.YtaopcacmfhdfkaaGreatDoor.Vc
open Go Go.RowKit
set_option linter.unusedSimpArgs false
set_option linter.unusedVariables false

section
variable {P : Program} [Lay P] {w0 : World} {X : Nat → Value} {ok0 : Nat → Prop} [GlF P w0 X ok0] {n : Nat} {E : Nat → Value} {s : St} {a : Act} {w : World}

/-- What is owed at a code's end. -/
def QC (w0 : World) (X : Nat → Value) (ok0 : Nat → Prop) (n : Nat) (K : Exit → St → Prop) : Exit → Act → World → Prop
  | .normal, a, w => Post w0 X ok0 n (K .normal) a w
  | .exit i, a, w => Post w0 X ok0 n (K (.exit i)) a w
  | .ret, a, w => Post w0 X ok0 n (K .ret) a w
  | _, _, _ => False

theorem bool_tmp (h : Inv w0 X ok0 n E s a w) {t : Nat} {b : Bool} (ht : s.tm t = .v (.bool b)) : a.tmps[t]? = some (.bool b) := by
  have h1 := h.tm t
  rw [ht] at h1
  have h1 := v_of h1
  rw [Array.getD_eq_getD_getElem?] at h1
  cases hx : a.tmps[t]? with
  | none => rw [hx] at h1; simp [undef] at h1
  | some v => rw [hx] at h1; simpa using h1

theorem undef_tmp (h : Inv w0 X ok0 n E s a w) {t : Nat} (ht : s.tm t = .t []) : a.tmps[t]? = none ∨ a.tmps[t]? = some undef := by
  have h1 := h.tm t
  rw [ht] at h1
  simp only [Rel, RelL] at h1
  obtain ⟨us, h1, rfl⟩ := h1
  rw [Array.getD_eq_getD_getElem?] at h1
  cases hx : a.tmps[t]? with
  | none => exact .inl rfl
  | some v => rw [hx] at h1; exact .inr (by simpa [undef] using h1)
theorem rel_undef {ok : Nat → Prop} {B : Obs} : Rel w ok E B (.t []) undef := by
  simp only [Rel, RelL]; exact ⟨[], rfl, rfl⟩

/-- One operation, wanted or not. -/
theorem GI.sound {ops : Array Oper} {o : Oper} {g : GI} (hg : trO P ops o = some g) (hn : ∀ d, o.dst = some d → d < n) (h : Inv w0 X ok0 n E s a w) {K : St → Prop} (hv : g.vc P s K) (Q : Exit → Act → World → Prop) :
    if Region.wanted o (yielded ops a.tmps) = true then o.wp P a w (Post w0 X ok0 n K) Q else Post w0 X ok0 n K (a.put o.dst undef) w := by
  unfold trO at hg
  simp only [Option.bind_eq_some_iff] at hg
  obtain ⟨i, hi, hg⟩ := hg
  split at hg
  · rename_i hgd
    obtain rfl := Option.some.inj hg
    rw [if_pos (by simp [Region.wanted, hgd])]
    exact I.sound hi hn h hv Q
  · rename_i j b hgd
    simp only [Option.map_eq_some_iff] at hg
    obtain ⟨t, ht, rfl⟩ := hg
    rcases hv with ⟨b', h1, h2, h3⟩ | ⟨h1, h3⟩
    case inr =>
      have hy : yielded ops a.tmps j = none := by
        rcases undef_tmp h h1 with hb | hb <;> simp [yielded, ht, hb, undef]
      rw [if_neg (by simp [Region.wanted, hgd, hy])]
      have hds := trB_dst hi
      cases hod : o.dst with
      | none =>
        rw [hod] at hds
        simp only [hds] at h3
        exact ⟨_, _, h3, h⟩
      | some d =>
        rw [hod] at hds
        simp only [hds] at h3
        exact ⟨_, _, h3, h.put (hn d hod) rel_undef⟩
    have hb := bool_tmp h h1
    have hy : yielded ops a.tmps j = some b' := by simp [yielded, ht, hb]
    by_cases hbb : b' = b
    · rw [if_pos (by simp [Region.wanted, hgd, hy, hbb])]
      exact I.sound hi hn h (h2 hbb) Q
    · rw [if_neg (by simp [Region.wanted, hgd, hy, hbb])]
      have hds := trB_dst hi
      have h3 := h3 hbb
      cases hod : o.dst with
      | none =>
        rw [hod] at hds
        simp only [hds] at h3
        exact ⟨_, _, h3, h⟩
      | some d =>
        rw [hod] at hds
        simp only [hds] at h3
        exact ⟨_, _, h3, h.put (hn d hod) rel_undef⟩

/-- A region in the text's order. -/
theorem reg_ops {ops : Array Oper} {K : Exit → St → Prop} (hn : ∀ o ∈ ops.toList, ∀ d, o.dst = some d → d < n) : ∀ (gs : List GI) (k : Nat) (_s : St) (a : Act) (w : World), (∀ i, i < gs.length → ∃ o, ops[k + i]? = some o ∧ gs[i]?.map some = some (trO P ops o)) → Post w0 X ok0 n (regVc P gs (K .normal)) a w →
    wpOps P ops (QC w0 X ok0 n K) (List.range' k gs.length) a w
  | [], k, s, a, w, _, h => by
    simp only [List.length_nil, List.range'_zero, wpOps, QC]
    exact h
  | g :: gs, k, s, a, w, hg, h => by
    obtain ⟨s, E, hv, hI⟩ := h
    obtain ⟨o, ho, hgo⟩ := hg 0 (by simp)
    simp only [Nat.add_zero, List.getElem?_cons_zero, Option.map_some, Option.some.injEq] at ho hgo
    have hm := GI.sound hgo.symm (hn o (by simpa using Array.mem_of_getElem? ho)) hI hv (QC w0 X ok0 n K)
    have hrest : ∀ a' w', Post w0 X ok0 n (regVc P gs (K .normal)) a' w' → wpOps P ops (QC w0 X ok0 n K) (List.range' (k + 1) gs.length) a' w' := fun a' w' hp =>
      reg_ops hn gs (k + 1) s a' w' (fun i hi => by
        obtain ⟨o', h1, h2⟩ := hg (i + 1) (by simpa using hi)
        exact ⟨o', by rw [← h1]; congr 1; omega, by simpa using h2⟩) hp
    simp only [List.length_cons, List.range'_succ, wpOps, ho]
    split at hm
    · rename_i hw
      rw [if_pos hw]
      exact .inl (Oper.wp_mono hrest hm)
    · rename_i hw
      rw [if_neg hw]
      exact hrest _ _ hm
end

end Go.Proofs.YtaopcacmfhdfkaaGreatDoor.Vc
