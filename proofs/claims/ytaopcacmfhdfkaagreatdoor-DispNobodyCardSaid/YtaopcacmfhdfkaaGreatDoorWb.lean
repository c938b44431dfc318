/- Closed runs, reckoned: maps, copies, and all operations together; for every program. -/
import Derived.Test.YtaopcacmfhdfkaaGreatDoorWa
import Derived.MapKept
import Derived.Carry
import Derived.Laws.CopyRow
import Derived.Laws.Cells
namespace Go.Proofs.YtaopcacmfhdfkaaGreatDoor.Ev
open Go Go.RowKit Go.Proofs.YtaopcacmfhdfkaaGreatDoor.Vc
set_option linter.unusedSimpArgs false
set_option linter.unusedVariables false

/-- A key looked for, among whole numbers. -/
noncomputable def lkI (k : IntKind) (n : Int) : List (Value × EV) → Nat → Option (Option (Nat × EV))
  | [], _ => some none
  | (x, e) :: es, i => match x with
    | .int k' m => bif decide (k = k') then (bif decide (n = m) then some (some (i, e)) else lkI k n es (i + 1)) else none
    | _ => none
/-- A map's entries. -/
noncomputable def entsE (H : EH) : Option EV → Option (List (Value × EV))
  | some (.m b) => match H.get b with | some (.map es) => some es | _ => none
  | some (.v (.map none)) => some []
  | _ => none

section
variable {nx : Nat} {M : Nm} {H : EH} {w : World} {P : Program} {a : Act} {ρ : Operand → Option EV}

/-- Entries. -/
noncomputable def Ents (M : Nm) (es : List (Value × EV)) (E : List MapEntry) : Prop :=
  E.length = es.length ∧ ∀ (i : Nat) (q : Value × EV), es[i]? = some q → ∃ u, E[i]? = some u ∧ u.key = q.1 ∧ plain q.1 = true ∧ ER M q.2 u.val

theorem Ents.cons {q : Value × EV} {es : List (Value × EV)} {E : List MapEntry} (h : Ents M (q :: es) E) : ∃ u E', E = u :: E' ∧ u.key = q.1 ∧ plain q.1 = true ∧ ER M q.2 u.val ∧ Ents M es E' := by
  obtain ⟨h1, h2⟩ := h
  cases E with
  | nil => simp at h1
  | cons u E' =>
    obtain ⟨v, h3, h4, h5, h6⟩ := h2 0 q rfl
    simp at h3; subst h3
    exact ⟨_, E', rfl, h4, h5, h6, by simpa using h1, fun i q' hq => by simpa using h2 (i + 1) q' (by simpa using hq)⟩

theorem lkI_none {k : IntKind} {n : Int} : ∀ {es : List (Value × EV)} {E : List MapEntry} {i : Nat}, Ents M es E → lkI k n es i = some none → Instr.findNow (.int k) (.int k n) E i = some none
  | [], E, i, h, _ => by
    have : E = [] := List.length_eq_zero_iff.1 h.1
    subst this; rfl
  | (x, e) :: es, E, i, h, hl => by
    obtain ⟨u, E', rfl, h1, h1', h3, h2⟩ := h.cons
    simp only [lkI] at hl
    cases x <;> simp only [reduceCtorEq] at hl
    case int k' m =>
      by_cases hk : k = k'
      · subst hk
        by_cases hn : n = m
        · simp [hn] at hl
        · simp [hn] at hl
          simp only at h1
          simp only [Instr.findNow, h1, Instr.sameNow]
          rw [if_pos trivial]
          have : (n == m) = false := by simpa using hn
          rw [this]
          exact lkI_none h2 hl
      · simp [hk] at hl
theorem lkI_ne {k : IntKind} {n : Int} : ∀ {es : List (Value × EV)} {E : List MapEntry} {i : Nat}, Ents M es E → lkI k n es i = some none → ∀ x ∈ E, x.key ≠ .int k n
  | [], E, i, h, _ => by
    have : E = [] := List.length_eq_zero_iff.1 h.1
    subst this; simp
  | (x, e) :: es, E, i, h, hl => by
    obtain ⟨u, E', rfl, h1, h1', h3, h2⟩ := h.cons
    simp only [lkI] at hl
    cases x <;> simp only [reduceCtorEq] at hl
    case int k' m =>
      by_cases hk : k = k'
      · subst hk
        by_cases hn : n = m
        · simp [hn] at hl
        · simp [hn] at hl
          intro x hx
          rcases List.mem_cons.1 hx with rfl | hx
          · simp only at h1
            rw [h1]; intro he; simp at he; exact hn he.symm
          · exact lkI_ne h2 hl x hx
      · simp [hk] at hl
theorem lkI_some {k : IntKind} {n : Int} : ∀ {es : List (Value × EV)} {E : List MapEntry} {i j : Nat} {e : EV}, Ents M es E → lkI k n es i = some (some (j, e)) → i ≤ j ∧ ∃ u, E[j - i]? = some u ∧ u.key = .int k n ∧ ER M e u.val ∧ Instr.findNow (.int k) (.int k n) E i = some (some (j, u.val))
  | [], E, i, j, e, h, hl => by simp [lkI] at hl
  | (x, y) :: es, E, i, j, e, h, hl => by
    obtain ⟨u, E', rfl, h1, h1', h3, h2⟩ := h.cons
    simp only [lkI] at hl
    cases x <;> simp only [reduceCtorEq] at hl
    case int k' m =>
      by_cases hk : k = k'
      · subst hk
        simp only at h1 h3
        by_cases hn : n = m
        · subst hn
          simp at hl
          obtain ⟨rfl, rfl⟩ := hl
          refine ⟨Nat.le_refl _, u, by simp, h1, h3, ?_⟩
          simp [Instr.findNow, h1, Instr.sameNow]
        · simp [hn] at hl
          obtain ⟨h5, v, h6, h7, h8, h9⟩ := lkI_some h2 hl
          refine ⟨by omega, v, ?_, h7, h8, ?_⟩
          · rw [show j - i = (j - (i + 1)) + 1 by omega, List.getElem?_cons_succ]; exact h6
          · simp only [Instr.findNow, h1, Instr.sameNow]
            rw [if_pos trivial]
            have : (n == m) = false := by simpa using hn
            rw [this]
            exact h9
      · simp [hk] at hl

theorem Ents.mono {M' : Nm} {es : List (Value × EV)} {E : List MapEntry} (hle : M.le M') (h : Ents M es E) : Ents M' es E :=
  ⟨h.1, fun i q hq => by
    obtain ⟨u, h1, h2, h3, h4⟩ := h.2 i q hq
    exact ⟨u, h1, h2, h3, h4.mono hle _ _⟩⟩
theorem EI.ents (h : EI M H.get w) {b : Nat} {es : List (Value × EV)} (hb : H.get b = some (.map es)) : ∃ E clock, w.heap[M.m b]? = some (.map E clock) ∧ MapKept.Stamped E clock ∧ Ents M es E.toList := by
  obtain ⟨_, r, h1, E, cl, rfl, hst, h2, h3⟩ := h.ob b _ hb
  exact ⟨E, cl, h1, hst, by simpa using h2, fun i q hq => by simpa using h3 i q hq⟩
theorem OR_map {b : Nat} {es : List (Value × EV)} {E : List MapEntry} {clock : Nat} (hs : MapKept.Stamped E.toArray clock) (h : Ents M es E) : OR M b (.map es) (.map E.toArray clock) :=
  ⟨E.toArray, clock, rfl, hs, by simpa using h.1, fun i q hq => by simpa using h.2 i q hq⟩

/-- make(map[..]..) -/
noncomputable def evMkm (r : Option Operand) (H : EH) (nx : Nat) : Rs :=
  match r with
  | none => grd (Nat.blt nx LIM) (some (.m nx, H.set FU nx (some (.map [])), nx + 1))
  | some _ => none
theorem evMkm_ok (h : EI M H.get w) {t : TypeId} {r : Option Operand} {v : EV} {H' : EH} {nx' : Nat} (hr : evMkm r H nx = some (v, H', nx')) : Ok P a M H w nx (.makeMap t r) v H' nx' := by
  unfold evMkm at hr
  split at hr
  · obtain ⟨hl, hr⟩ := grd_some hr
    simp only [Option.some.injEq, Prod.mk.injEq] at hr
    obtain ⟨rfl, rfl, rfl⟩ := hr
    refine .one fun hn o ho => ?_
    obtain ⟨h3, h4⟩ := h.alloc (o := .map []) (c := .map #[] 0) (κ := 0) hn (Nat.le_of_ble_eq_true hl) ⟨#[], 0, rfl, MapKept.stamped_empty 0, by simp, by simp⟩
    refine ⟨.map (some w.heap.size), _, _, by simp [execOp, ho, run_makeMap], h3, h4, fun _ hb => hb, ?_⟩
    simp only [ER]
    exact ⟨.inr rfl, by rw [show (M.new nx w.heap.size 0).m nx = w.heap.size from upd_same _ _ _]⟩
  · cases hr

/-- A map looked into. -/
noncomputable def evLku (P : Program) (t : TypeId) (x i : Option EV) (ok : Bool) (H : EH) (nx : Nat) : Rs :=
  match P.underlying t, i with
  | some (.map kt et), some (.v (.int k n)) => match P.underlying kt, entsE H x with
    | some (.int k'), some es => grd (decide (k = k')) (match lkI k n es 0 with
      | some (some (_, e)) => some (bif ok then .t [e, .v (.bool true)] else e, H, nx)
      | some none => match P.info? et with
        | some ti => match ti.zero with
          | some z => grd (plainAgg z) (some (bif ok then .t [evOf z, .v (.bool false)] else evOf z, H, nx))
          | none => none
        | none => none
      | none => none)
    | _, _ => none
  | _, _ => none
theorem evLku_ok (h : EI M H.get w) (hρ : ∀ x e, ρ x = some e → ER M e (a.eval x)) {t : TypeId} {x i : Operand} {ok : Bool} {v : EV} {H' : EH} {nx' : Nat} (hr : evLku P t (ρ x) (ρ i) ok H nx = some (v, H', nx')) : Ok P a M H w nx (.lookup t x i ok) v H' nx' := by
  unfold evLku at hr
  split at hr
  · rename_i kt et k n ht hi
    split at hr
    · rename_i k' es hk hes
      obtain ⟨hkk, hr2⟩ := grd_some hr
      clear hr
      obtain rfl := of_decide_eq_true hkk
      have hr := hr2
      clear hr2
      have e2 := of_v (hρ _ _ hi)
      have hmap : ∃ E : List MapEntry, Ents M es E ∧ ((∃ r cl, a.eval x = .map (some r) ∧ w.heap[r]? = some (.map E.toArray cl)) ∨ (a.eval x = .map none ∧ E = [])) := by
        unfold entsE at hes
        split at hes
        · rename_i b hx
          split at hes
          · rename_i es' hb
            obtain rfl := Option.some.inj hes
            obtain ⟨E, cl, h1, _, h2⟩ := h.ents hb
            have h3 := hρ _ _ hx
            simp only [ER] at h3
            exact ⟨E.toList, h2, .inl ⟨_, cl, h3.2, h1⟩⟩
          · cases hes
        · rename_i hx
          obtain rfl := Option.some.inj hes
          exact ⟨[], ⟨rfl, by simp⟩, .inr ⟨of_v (hρ _ _ hx), rfl⟩⟩
        · cases hes
      obtain ⟨E, hE, hrun⟩ := hmap
      have hkey : MapKept.IsKey (.int k) (.int k n) := by simp [MapKept.IsKey]
      have hck : ∀ em, (Instr.checkKey em 10000 kt (.int k n)).run P w = .ok () w := fun em => MapKept.run_checkKey hk hkey em 9999
      split at hr
      · rename_i j e hl
        simp only [Option.some.injEq, Prod.mk.injEq] at hr
        obtain ⟨rfl, rfl, rfl⟩ := hr
        obtain ⟨_, u, h5, h6, h7, h8⟩ := lkI_some hE hl
        have hf := MapKept.run_findKey (P := P) (w := w) (kt := kt) (l := E) hk h8
        have hrun2 : ∀ y : Value, y = (if ok = true then .tuple #[u.val, .bool true] else u.val) → ∀ o : Oper, o.op = .lookup t x i ok → (execOp a.eval o).run P w = .ok (.value y) w := by
          rintro y rfl o ho
          rcases hrun with ⟨r, cl, e1, e3⟩ | ⟨e1, e3⟩
          · simp [execOp, ho, Instr.lookup, run_underlying ht, e1, e2, MapKept.run_getObj_map e3, hck, hf]
          · subst e3; simp at h5
        cases ok
        · exact .pure h (y := u.val) (hrun2 _ (by simp)) h7
        · exact .pure h (y := .tuple #[u.val, .bool true]) (hrun2 _ (by simp)) (er_pair h7)
      · rename_i hl
        split at hr
        · rename_i ti hti
          split at hr
          · rename_i z hz
            obtain ⟨hp, hr⟩ := grd_some hr
            simp only [Option.some.injEq, Prod.mk.injEq] at hr
            obtain ⟨rfl, rfl, rfl⟩ := hr
            have hf := MapKept.run_findKey (P := P) (w := w) (kt := kt) (l := E) hk (lkI_none hE hl)
            have hzr : (zeroValue et).run P w = .ok z w := by simp [zeroValue, typeInfo, hti, hz]
            have hrun2 : ∀ y : Value, y = (if ok = true then .tuple #[z, .bool false] else z) → ∀ o : Oper, o.op = .lookup t x i ok → (execOp a.eval o).run P w = .ok (.value y) w := by
              rintro y rfl o ho
              rcases hrun with ⟨r, cl, e1, e3⟩ | ⟨e1, e3⟩
              · simp [execOp, ho, Instr.lookup, run_underlying ht, e1, e2, MapKept.run_getObj_map e3, hck, hf, hzr]
              · subst e3
                simp [execOp, ho, Instr.lookup, run_underlying ht, e1, e2, hck, hf, hzr]
            cases ok
            · exact .pure h (y := z) (hrun2 _ (by simp)) (er_evOf hp).1
            · exact .pure h (y := .tuple #[z, .bool false]) (hrun2 _ (by simp)) (er_pair (er_evOf hp).1)
          · cases hr
        · cases hr
      · cases hr
    · cases hr
  · cases hr
end
end Go.Proofs.YtaopcacmfhdfkaaGreatDoor.Ev

namespace Go.Proofs.YtaopcacmfhdfkaaGreatDoor.Ev
open Go Go.RowKit Go.Proofs.YtaopcacmfhdfkaaGreatDoor.Vc
set_option linter.unusedSimpArgs false
set_option linter.unusedVariables false

/-- A map's entry set. -/
noncomputable def evMup (P : Program) (t : TypeId) (m i x : Option EV) (H : EH) : Option EH :=
  match P.underlying t, m, i, x with
  | some (.map kt _), some (.m b), some (.v (.int k n)), some e => match P.underlying kt, H.get b with
    | some (.int k'), some (.map es) => bif decide (k = k') then (match lkI k n es 0 with
      | some (some (j, _)) => some (H.set FU b (some (.map (es.set j (.int k n, e)))))
      | some none => some (H.set FU b (some (.map (es ++ [(.int k n, e)]))))
      | none => none) else none
    | _, _ => none
  | _, _, _, _ => none

section
variable {nx : Nat} {M : Nm} {H : EH} {w : World} {P : Program} {a : Act} {ρ : Operand → Option EV}

theorem er_undef' {M : Nm} : ER M (.t []) (.tuple #[]) := by simp only [ER, ERL]; exact ⟨[], rfl, rfl⟩
theorem EI.setMap (h : EI M H.get w) {b : Nat} {es es' : List (Value × EV)} {E : Array MapEntry} {cl : Nat} (hb : H.get b = some (.map es)) (hw : w.heap[M.m b]? = some (.map E cl)) {E' : List MapEntry} {cl' : Nat} (hS : MapKept.Stamped E'.toArray cl') (hE : Ents M es' E') :
    EI M (H.set FU b (some (.map es'))).get { w with heap := w.heap.setIfInBounds (M.m b) (.map E'.toArray cl') } ∧ Stp M H.get w M (H.set FU b (some (.map es'))).get { w with heap := w.heap.setIfInBounds (M.m b) (.map E'.toArray cl') } := by
  have hs := MapKept.heap_set (o' := .map E'.toArray cl') hw
  exact h.write (w' := { w with heap := w.heap.setIfInBounds (M.m b) (.map E'.toArray cl') }) (c' := .map E'.toArray cl') hb rfl rfl rfl (by simp) hs.2 hs.1 (OR_map hS hE)

theorem Ents.push {es : List (Value × EV)} {E : List MapEntry} (h : Ents M es E) {k : Value} {e : EV} {u : MapEntry} (hk : u.key = k) (hp : plain k = true) (hv : ER M e u.val) : Ents M (es ++ [(k, e)]) (E ++ [u]) := by
  refine ⟨by simp [h.1], fun i q hq => ?_⟩
  rcases Nat.lt_or_ge i es.length with hi | hi
  · rw [List.getElem?_append_left hi] at hq
    obtain ⟨v, h1, h2⟩ := h.2 i q hq
    exact ⟨v, by rw [List.getElem?_append_left (by have := h.1; omega)]; exact h1, h2⟩
  · rw [List.getElem?_append_right hi] at hq
    have : i - es.length = 0 := by
      rcases Nat.eq_zero_or_pos (i - es.length) with h0 | h0
      · exact h0
      · rw [List.getElem?_eq_none (by simp; omega)] at hq; cases hq
    rw [this] at hq
    simp at hq; subst hq
    exact ⟨u, by rw [List.getElem?_append_right (by have := h.1; omega), show i - E.length = 0 by have := h.1; omega]; rfl, hk, hp, hv⟩
theorem Ents.setAt {es : List (Value × EV)} {E : List MapEntry} (h : Ents M es E) {j : Nat} {k : Value} {e : EV} {u : MapEntry} (hk : u.key = k) (hp : plain k = true) (hv : ER M e u.val) : Ents M (es.set j (k, e)) (E.set j u) := by
  refine ⟨by simp [h.1], fun i q hq => ?_⟩
  rw [List.getElem?_set] at hq ⊢
  by_cases hj : j = i
  · subst hj
    rw [if_pos rfl] at hq ⊢
    split at hq
    · rename_i hl
      obtain rfl := Option.some.inj hq
      exact ⟨u, by rw [if_pos (by have := h.1; omega)], hk, hp, hv⟩
    · cases hq
  · rw [if_neg hj] at hq ⊢
    exact h.2 i q hq
theorem Ents.erase {es : List (Value × EV)} {E : List MapEntry} (h : Ents M es E) (j : Nat) : Ents M (es.eraseIdx j) (E.eraseIdx j) := by
  refine ⟨by rw [List.length_eraseIdx, List.length_eraseIdx, h.1], fun i q hq => ?_⟩
  rw [List.getElem?_eraseIdx] at hq ⊢
  split at hq
  · rename_i hl; rw [if_pos hl]; exact h.2 i q hq
  · rename_i hl; rw [if_neg hl]; exact h.2 (i + 1) q hq

theorem evMup_ok (h : EI M H.get w) (hρ : ∀ x e, ρ x = some e → ER M e (a.eval x)) {t : TypeId} {m i x : Operand} {H' : EH} (hr : evMup P t (ρ m) (ρ i) (ρ x) H = some H') :
    ∃ w', (Instr.mapUpdate t (a.eval m) (a.eval i) (a.eval x)).run P w = .ok () w' ∧ EI M H'.get w' ∧ Stp M H.get w M H'.get w' := by
  unfold evMup at hr
  split at hr
  · rename_i kt et b k n e ht hm hi hx
    split at hr
    · rename_i k' es hk hb
      by_cases hkk : k = k'
      · subst hkk
        simp only [decide_true, cond_true] at hr
        obtain ⟨E, cl, h1, hSt, hE⟩ := h.ents hb
        have e1 := hρ _ _ hm
        simp only [ER] at e1
        have e2 := of_v (hρ _ _ hi)
        have e3 := hρ _ _ hx
        have hkey : MapKept.IsKey (.int k) (.int k n) := by simp [MapKept.IsKey]
        split at hr
        · rename_i j e' hl
          obtain rfl := Option.some.inj hr
          obtain ⟨_, u, h5, h6, h7, h8⟩ := lkI_some hE hl
          rw [Nat.sub_zero] at h5
          have hmod : E.modify j (fun e => { e with key := .int k n, val := a.eval x }) = (E.toList.set j { u with key := .int k n, val := a.eval x }).toArray := by
            have hj : E[j]? = some u := by simpa using h5
            apply Array.ext'
            rw [Array.toList_modify]
            apply List.ext_getElem?
            intro q
            rw [List.getElem?_modify, List.getElem?_set]
            by_cases hq : j = q
            · subst hq
              have : j < E.size := (Array.getElem?_eq_some_iff.1 hj).1
              have hu : E[j] = u := by rw [Array.getElem?_eq_getElem this] at hj; exact Option.some.inj hj
              simp [hu, this]
            · simp [hq]
          have hSm : MapKept.Stamped (E.toList.set j { u with key := .int k n, val := a.eval x }).toArray cl := by
            rw [← hmod]
            refine MapKept.stamped_modify hSt j _ (fun e _ => rfl) (fun e _ he => ?_)
            have hj : E[j]? = some u := by simpa using h5
            rw [hj] at he
            obtain rfl := Option.some.inj he
            exact h6.symm
          obtain ⟨h9, h10⟩ := h.setMap (cl' := cl) hb h1 hSm (hE.setAt (j := j) (k := .int k n) (e := e) (u := { u with key := .int k n, val := a.eval x }) rfl rfl e3)
          refine ⟨_, ?_, h9, h10⟩
          have hEj : (((E[j]?).map (·.key)).getD (.int k n)) = .int k n := by
            have : E[j]? = some u := by simpa using h5
            rw [this]; simp [h6]
          simp only [Instr.mapUpdate, Sem.run_bind, run_underlying ht, Result.andThen_ok, e1.2, e2]
          simp [MapKept.run_getObj_map h1, MapKept.run_checkKey hk hkey, MapKept.run_findKey hk h8, hEj, MapKept.run_keyThatStays hkey, MapKept.run_setObj_map _ h1, hmod]
        · rename_i hl
          obtain rfl := Option.some.inj hr
          have hpush : ∀ u : MapEntry, E.push u = (E.toList ++ [u]).toArray := fun u => by apply Array.ext'; simp
          obtain ⟨h9, h10⟩ := h.setMap (cl' := cl + 1) hb h1 (by rw [← hpush]; exact MapKept.stamped_push hSt (lkI_ne hE hl)) (hE.push (k := .int k n) (e := e) (u := { key := .int k n, val := a.eval x, born := cl }) rfl rfl e3)
          refine ⟨_, ?_, h9, h10⟩
          simp only [Instr.mapUpdate, Sem.run_bind, run_underlying ht, Result.andThen_ok, e1.2, e2]
          simp [MapKept.run_getObj_map h1, MapKept.run_checkKey hk hkey, MapKept.run_findKey hk (lkI_none hE hl), MapKept.run_setObj_map _ h1, hpush]
        · cases hr
      · simp [hkk] at hr
    · cases hr
  · cases hr

/-- delete -/
noncomputable def evDel (P : Program) (t : TypeId) (m i : Option EV) (H : EH) (nx : Nat) : Rs :=
  match P.underlying t, m, i with
  | some (.map kt _), some (.m b), some (.v (.int k n)) => match P.underlying kt, H.get b with
    | some (.int k'), some (.map es) => bif decide (k = k') then (match lkI k n es 0 with
      | some (some (j, _)) => some (.t [], H.set FU b (some (.map (es.eraseIdx j))), nx)
      | some none => some (.t [], H.set FU b (some (.map es)), nx)
      | none => none) else none
    | _, _ => none
  | _, _, _ => none
theorem evDel_ok (h : EI M H.get w) (hρ : ∀ x e, ρ x = some e → ER M e (a.eval x)) {t : TypeId} {ts : Array TypeId} (hts : ts[0]? = some t) {m i : Operand} {v : EV} {H' : EH} {nx' : Nat} (hr : evDel P t (ρ m) (ρ i) H nx = some (v, H', nx')) : Ok P a M H w nx (.call { callee := .builtin .delete, args := #[m, i], argTypes := ts }) v H' nx' := by
  unfold evDel at hr
  split at hr
  · rename_i kt et b k n ht hm hi
    split at hr
    · rename_i k' es hk hb
      by_cases hkk : k = k'
      · subst hkk
        simp only [decide_true, cond_true] at hr
        obtain ⟨E, cl, h1, hSt, hE⟩ := h.ents hb
        have e1 := hρ _ _ hm
        simp only [ER] at e1
        have e2 := of_v (hρ _ _ hi)
        have hkey : MapKept.IsKey (.int k) (.int k n) := by simp [MapKept.IsKey]
        split at hr
        · rename_i j e' hl
          simp only [Option.some.injEq, Prod.mk.injEq] at hr
          obtain ⟨rfl, rfl, rfl⟩ := hr
          obtain ⟨_, u, h5, h6, h7, h8⟩ := lkI_some hE hl
          rw [Nat.sub_zero] at h5
          have her : E.eraseIdxIfInBounds j = (E.toList.eraseIdx j).toArray := by
            apply Array.ext'
            rw [Array.toList_eraseIdxIfInBounds]
          obtain ⟨h9, h10⟩ := h.setMap (cl' := cl) hb h1 (by rw [← her]; exact MapKept.stamped_erase hSt j) (hE.erase j)
          refine ⟨Nat.le_refl _, fun _ o ho => ⟨.tuple #[], _, M, ?_, h9, h10, fun _ hb => .inl hb, er_undef'⟩⟩
          simp only [execOp, ho, resolve, invoke]
          simp [builtin, Builtin.delete_, hts, run_underlying ht, e1.2, e2, MapKept.run_getObj_map h1, MapKept.run_checkKey hk hkey, MapKept.run_findKey hk h8, MapKept.run_setObj_map _ h1, her]
        · rename_i hl
          simp only [Option.some.injEq, Prod.mk.injEq] at hr
          obtain ⟨rfl, rfl, rfl⟩ := hr
          obtain ⟨h9, h10⟩ := h.setMap (cl' := cl) hb h1 (by simpa using hSt) hE
          refine ⟨Nat.le_refl _, fun _ o ho => ⟨.tuple #[], _, M, ?_, h9, h10, fun _ hb => .inl hb, er_undef'⟩⟩
          simp only [execOp, ho, resolve, invoke]
          simp [builtin, Builtin.delete_, hts, run_underlying ht, e1.2, e2, MapKept.run_getObj_map h1, MapKept.run_checkKey hk hkey, MapKept.run_findKey hk (lkI_none hE hl), MapKept.run_setObj_map _ h1]
        · cases hr
      · simp [hkk] at hr
    · cases hr
  · cases hr

/-- len of a map; cap of a slice. -/
noncomputable def evLenM (P : Program) (t : TypeId) (x : Option EV) (H : EH) (nx : Nat) : Rs :=
  match P.underlying t, x with
  | some (.map _ _), some (.m b) => match H.get b with
    | some (.map es) => some (.v (.int .i64 (es.length : Nat)), H, nx)
    | _ => none
  | some (.map _ _), some (.v (.map none)) => some (.v (.int .i64 0), H, nx)
  | some (.array n _), some (.a _) => some (.v (.int .i64 (n : Nat)), H, nx)
  | _, _ => none
theorem evLenM_ok (h : EI M H.get w) (hρ : ∀ x e, ρ x = some e → ER M e (a.eval x)) {t : TypeId} {x : Operand} {v : EV} {H' : EH} {nx' : Nat} (hr : evLenM P t (ρ x) H nx = some (v, H', nx')) : Ok P a M H w nx (.call { callee := .builtin .len, args := #[x], argTypes := #[t] }) v H' nx' := by
  unfold evLenM at hr
  split at hr
  · rename_i kt et b ht hx
    split at hr
    · rename_i es hb
      simp only [Option.some.injEq, Prod.mk.injEq] at hr
      obtain ⟨rfl, rfl, rfl⟩ := hr
      obtain ⟨E, cl, h1, _, hE⟩ := h.ents hb
      have e1 := hρ _ _ hx
      simp only [ER] at e1
      have hsz : E.size = es.length := by simpa using hE.1
      exact .pure h (y := .int .i64 (es.length : Nat)) (fun o ho => by simp [execOp, ho, resolve, invoke, builtin, Builtin.len_, run_underlying ht, e1.2, MapKept.run_getObj_map h1, goInt, hsz]) (er_v rfl)
    · cases hr
  · rename_i kt et ht hx
    simp only [Option.some.injEq, Prod.mk.injEq] at hr
    obtain ⟨rfl, rfl, rfl⟩ := hr
    have he := of_v (hρ _ _ hx)
    exact .pure h (y := .int .i64 0) (fun o ho => by simp [execOp, ho, resolve, invoke, builtin, Builtin.len_, run_underlying ht, he, goInt]) (er_v rfl)
  · rename_i n et cs ht hx
    simp only [Option.some.injEq, Prod.mk.injEq] at hr
    obtain ⟨rfl, rfl, rfl⟩ := hr
    exact .pure h (y := .int .i64 (n : Nat)) (fun o ho => by simp [execOp, ho, resolve, invoke, builtin, Builtin.len_, run_underlying ht, goInt]) (er_v rfl)
  · cases hr
end
end Go.Proofs.YtaopcacmfhdfkaaGreatDoor.Ev

namespace Go.Proofs.YtaopcacmfhdfkaaGreatDoor.Ev
open Go Go.RowKit Go.Proofs.YtaopcacmfhdfkaaGreatDoor.Vc
set_option linter.unusedSimpArgs false
set_option linter.unusedVariables false

/-- copy -/
noncomputable def evCpy (P : Program) (t : TypeId) (x y : Option EV) (H : EH) (nx : Nat) : Rs :=
  match P.underlying t with
  | some (.slice e) => match P.info? e with
    | some ti => match x, y with
      | some (.s _ b off m _), some (.v (.slice none 0 0)) => match H.get b with
        | some (.row ty sz ex cs) => grd (Nat.ble off cs.length) (some (.v (.int .i64 0), H.set FU b (some (.row ty sz ex cs)), nx))
        | _ => none
      | some (.v (.slice none 0 0)), some (.s _ _ _ _ _) => some (.v (.int .i64 0), H, nx)
      | some (.v (.slice none 0 0)), some (.v (.slice none 0 0)) => some (.v (.int .i64 0), H, nx)
      | some (.s _ b off m _), some ey => match srcE H ti.size ey, H.get b with
        | some (n, c), some (.row ty sz ex cs) => grd (Nat.ble (off + min n m * ti.size) cs.length) (some (.v (.int .i64 (min n m : Nat)), H.set FU b (some (.row ty sz ex (setL cs off (c.take (min n m * ti.size))))), nx))
        | _, _ => none
      | _, _ => none
    | none => none
  | _ => none

section
variable {nx : Nat} {M : Nm} {H : EH} {w : World} {P : Program} {a : Act} {ρ : Operand → Option EV}

theorem exec_copy {x y : Operand} {t t' : TypeId} {o : Oper} {v : Value} {w' : World} (ho : o.op = .call { callee := .builtin .copy, args := #[x, y], argTypes := #[t, t'] }) (hr : (Builtin.copy_ #[t, t'] o.type #[a.eval x, a.eval y]).run P w = .ok v w') : (execOp a.eval o).run P w = .ok (.value v) w' := by
  simp [execOp, ho, resolve, invoke, builtin, hr]

theorem run_storeRow {b off : Nat} {C : Array Value} {ty : TypeId} {ys : List Value} (hb : w.heap[b]? = some (.cells C ty (0, 0))) (hl : off + ys.length ≤ C.size) (h1 : ∀ v ∈ ys, v.oneCell' = true) :
    (storeCells ⟨b, off, none⟩ ys).run P w = .ok () (w.setRow b (setL C.toList off ys).toArray) := by
  have := Go.run_storeCells_at (P := P) b off ty ys 0 C w hb (by omega) h1
  simpa [setL] using this

theorem take_mul_eq {n m sz : Nat} {us : List Value} (hu : us.length = n * sz) : (us.take (min n m * sz)).length = min n m * sz := by
  rw [List.length_take, hu]
  exact Nat.min_eq_left (Nat.mul_le_mul_right _ (Nat.min_le_left _ _))

theorem evCpy_ok (h : EI M H.get w) (hρ : ∀ x e, ρ x = some e → ER M e (a.eval x)) {t t' : TypeId} {x y : Operand} {v : EV} {H' : EH} {nx' : Nat} (hr : evCpy P t (ρ x) (ρ y) H nx = some (v, H', nx')) : Ok P a M H w nx (.call { callee := .builtin .copy, args := #[x, y], argTypes := #[t, t'] }) v H' nx' := by
  unfold evCpy at hr
  split at hr
  · rename_i e ht
    split at hr
    · rename_i ti hi
      split at hr
      · rename_i ex b off m c hx hy
        split at hr
        · rename_i ty sz ex' cs hb
          obtain ⟨hg, hr⟩ := grd_some hr
          simp only [Option.some.injEq, Prod.mk.injEq] at hr
          obtain ⟨rfl, rfl, rfl⟩ := hr
          have e1 := hρ _ _ hx
          simp only [ER] at e1
          obtain ⟨_, _, c', _, _, _, e1⟩ := e1
          have e2 := of_v (hρ _ _ hy)
          obtain ⟨_, r, h4, C, rfl, h5, _⟩ := h.ob b _ hb
          have hg := Nat.le_of_ble_eq_true hg
          have hst := run_storeRow (P := P) (w := w) (off := off) (ys := []) h4 (by simp; omega) (by simp)
          obtain ⟨_, h6, h7⟩ := h.setRow (off := off) (c := []) (ys := []) hb h4 (by simp [ERL]) (by simp) (by simpa using hg)
          have hsl : ∀ {α : Type} (l : List α) o, setL l o [] = l := fun l o => by simp [setL]
          rw [hsl] at h6 h7 hst
          refine ⟨Nat.le_refl _, fun _ o ho => ⟨.int .i64 0, _, M, exec_copy ho ?_, by simpa [hsl] using h6, by simpa [hsl] using h7, fun _ hb => .inl hb, er_v rfl⟩⟩
          rw [e1, e2]
          simp [Builtin.copy_, run_underlying ht, Builtin.lenOf, Builtin.firstCells, sizeOf, typeInfo, hi, goInt, hst]
        · cases hr
      · rename_i hx hy
        simp only [Option.some.injEq, Prod.mk.injEq] at hr
        obtain ⟨rfl, rfl, rfl⟩ := hr
        have e1 := of_v (hρ _ _ hx)
        have e2 := hρ _ _ hy
        simp only [ER] at e2
        obtain ⟨_, _, c', _, _, _, e2⟩ := e2
        have hld := fun ad => run_loadCells_list (P := P) w ad [] (fun j v hj => by simp at hj)
        refine .pure h (y := .int .i64 0) (fun o ho => exec_copy ho ?_) (er_v rfl)
        rw [e1, e2]
        simp only [List.length_nil] at hld
        simp [Builtin.copy_, run_underlying ht, Builtin.lenOf, Builtin.firstCells, sizeOf, typeInfo, hi, goInt, hld]
      · rename_i hx hy
        simp only [Option.some.injEq, Prod.mk.injEq] at hr
        obtain ⟨rfl, rfl, rfl⟩ := hr
        have e1 := of_v (hρ _ _ hx)
        have e2 := of_v (hρ _ _ hy)
        refine .pure h (y := .int .i64 0) (fun o ho => exec_copy ho ?_) (er_v rfl)
        rw [e1, e2]
        simp [Builtin.copy_, run_underlying ht, Builtin.lenOf, Builtin.firstCells, sizeOf, typeInfo, hi, goInt]
      · rename_i ex b off m c ey hne hx hy
        split at hr
        · rename_i n cc ty sz ex' cs hs hb
          obtain ⟨hg, hr⟩ := grd_some hr
          simp only [Option.some.injEq, Prod.mk.injEq] at hr
          obtain ⟨rfl, rfl, rfl⟩ := hr
          have hg := Nat.le_of_ble_eq_true hg
          have e1 := hρ _ _ hx
          simp only [ER] at e1
          obtain ⟨_, _, c', _, _, _, e1⟩ := e1
          obtain ⟨ad, c1, us, hv, hu, hcs, hrel, h1, hcell⟩ := srcE_ok h (hρ _ _ hy) hs
          obtain ⟨_, r, h4, C, rfl, h5, _⟩ := h.ob b _ hb
          have hlen := take_mul_eq (m := m) hu
          have hlen2 : (cc.take (min n m * ti.size)).length = min n m * ti.size := by
            have := (hrel.take (n := min n m * ti.size)).length
            rw [← this]; exact hlen
          have h1' : ∀ u ∈ us.take (min n m * ti.size), u.oneCell' = true := fun u hu => h1 u (List.mem_of_mem_take hu)
          obtain ⟨_, h6, h7⟩ := h.setRow (off := off) (c := cc.take (min n m * ti.size)) (ys := us.take (min n m * ti.size)) hb h4 hrel.take h1' (by rw [hlen2]; exact hg)
          have hst := run_storeRow (P := P) (w := w) (off := off) (ys := us.take (min n m * ti.size)) h4 (by rw [hlen]; omega) h1'
          have hld := run_loadCells_list (P := P) w ad (us.take (min n m * ti.size)) (fun j v hj => hcell j v (by
            rw [List.getElem?_take] at hj
            split at hj
            · exact hj
            · cases hj))
          rw [hlen] at hld
          refine ⟨Nat.le_refl _, fun _ o ho => ⟨.int .i64 (min n m : Nat), _, M, exec_copy ho ?_, h6, h7, fun _ hb => .inl hb, er_v rfl⟩⟩
          rw [e1, hv]
          have hmin : Nat.min n m = min n m := rfl
          simp [Builtin.copy_, run_underlying ht, Builtin.lenOf, Builtin.firstCells, sizeOf, typeInfo, hi, goInt, hld, hst, hmin]
        · cases hr
      · cases hr
    · cases hr
  · cases hr

/-- cap -/
noncomputable def evCap (P : Program) (t : TypeId) (x : Option EV) (H : EH) (nx : Nat) : Rs :=
  match P.underlying t, x with
  | some (.slice _), some (.s true _ _ _ c) => some (.v (.int .i64 (c : Nat)), H, nx)
  | some (.slice _), some (.v (.slice none 0 0)) => some (.v (.int .i64 0), H, nx)
  | _, _ => none
theorem evCap_ok (h : EI M H.get w) (hρ : ∀ x e, ρ x = some e → ER M e (a.eval x)) {t : TypeId} {x : Operand} {v : EV} {H' : EH} {nx' : Nat} (hr : evCap P t (ρ x) H nx = some (v, H', nx')) : Ok P a M H w nx (.call { callee := .builtin .cap, args := #[x], argTypes := #[t] }) v H' nx' := by
  unfold evCap at hr
  split at hr
  · rename_i e b off n c ht hx
    simp only [Option.some.injEq, Prod.mk.injEq] at hr
    obtain ⟨rfl, rfl, rfl⟩ := hr
    have e1 := hρ _ _ hx
    simp only [ER] at e1
    obtain ⟨_, _, c', _, hc, _, e1⟩ := e1
    have := hc trivial
    subst this
    exact .pure h (y := .int .i64 (c' : Nat)) (fun o ho => by simp [execOp, ho, resolve, invoke, builtin, Builtin.cap_, run_underlying ht, e1, goInt]) (er_v rfl)
  · rename_i e ht hx
    simp only [Option.some.injEq, Prod.mk.injEq] at hr
    obtain ⟨rfl, rfl, rfl⟩ := hr
    have e1 := of_v (hρ _ _ hx)
    exact .pure h (y := .int .i64 0) (fun o ho => by simp [execOp, ho, resolve, invoke, builtin, Builtin.cap_, run_underlying ht, e1, goInt]) (er_v rfl)
  · cases hr

/-- clear of a row. -/
noncomputable def evClr (P : Program) (t : TypeId) (x : Option EV) (H : EH) (nx : Nat) : Rs :=
  match P.underlying t, x with
  | some (.slice e), some (.s _ b off (n + 1) _) => match P.info? e, H.get b with
    | some ti, some (.row ty sz ex cs) => match ti.zero with
      | some z => grd (plainAgg z && Nat.beq z.cells.size ti.size) (match cellsE (evOf z) with
        | some c => grd (Nat.ble (off + (n + 1) * ti.size) cs.length) (some (.t [], H.set FU b (some (.row ty sz ex (setL cs off (repE (n + 1) c [])))), nx))
        | none => none)
      | none => none
    | _, _ => none
  | some (.slice _), some (.s _ _ _ 0 _) => some (.t [], H, nx)
  | some (.slice _), some (.v (.slice none 0 0)) => some (.t [], H, nx)
  | some (.map _ _), some (.m b) => match H.get b with
    | some (.map _) => some (.t [], H.set FU b (some (.map [])), nx)
    | _ => none
  | _, _ => none
theorem evClr_ok (h : EI M H.get w) (hρ : ∀ x e, ρ x = some e → ER M e (a.eval x)) {t : TypeId} {x : Operand} {v : EV} {H' : EH} {nx' : Nat} (hr : evClr P t (ρ x) H nx = some (v, H', nx')) : Ok P a M H w nx (.call { callee := .builtin .clear, args := #[x], argTypes := #[t] }) v H' nx' := by
  unfold evClr at hr
  split at hr
  · rename_i e ex b off n c ht hx
    split at hr
    · rename_i ti ty sz ex' cs hi hb
      split at hr
      · rename_i z hz
        obtain ⟨hg, hr⟩ := grd_some hr
        rw [Bool.and_eq_true] at hg
        obtain ⟨hp, hzs⟩ := hg
        replace hzs := Nat.eq_of_beq_eq_true hzs
        split at hr
        · rename_i cz hc
          obtain ⟨hg, hr⟩ := grd_some hr
          simp only [Option.some.injEq, Prod.mk.injEq] at hr
          obtain ⟨rfl, rfl, rfl⟩ := hr
          replace hg := Nat.le_of_ble_eq_true hg
          have e1 := hρ _ _ hx
          simp only [ER] at e1
          obtain ⟨_, _, c', _, _, _, e1⟩ := e1
          obtain ⟨h3, h3'⟩ := cellsE_ok (er_evOf hp).1 hc
          obtain ⟨_, r, h4, C, rfl, h5, _⟩ := h.ob b _ hb
          have hrow : ERL M (repE (n + 1) cz []) (Builtin.zeroCells z.cells (n + 1)).toList := by
            rw [repE_eq, List.append_nil]
            have := erl_made (M := M) h3 (n + 1)
            exact this
          have hlz : (Builtin.zeroCells z.cells (n + 1)).toList.length = (n + 1) * ti.size := by
            rw [Array.length_toList, zeroCells_size hzs]
          have h1' : ∀ u ∈ (Builtin.zeroCells z.cells (n + 1)).toList, u.oneCell' = true := fun u hu => by
            have hmc : (Builtin.zeroCells z.cells (n + 1)) = madeCells z.cells ((n + 1) * z.cells.size) := rfl
            rw [hmc] at hu
            obtain ⟨i, hi'⟩ := List.mem_iff_getElem?.1 hu
            have hlt := (List.getElem?_eq_some_iff.1 hi').1
            rw [Array.length_toList, size_madeCells] at hlt
            rw [madeCells_get _ _ _ hlt] at hi'
            exact h3' u (List.mem_of_getElem? hi')
          have hlen := hrow.length
          obtain ⟨_, h6, h7⟩ := h.setRow (off := off) hb h4 hrow h1' (by rw [← hlen, hlz]; exact hg)
          have hst := run_storeRow (P := P) (w := w) (off := off) h4 (by rw [hlz]; omega) h1'
          have hzr : (zeroValue e).run P w = .ok z w := by simp [zeroValue, typeInfo, hi, hz]
          refine ⟨Nat.le_refl _, fun _ o ho => ⟨.tuple #[], _, M, ?_, h6, h7, fun _ hb => .inl hb, er_undef'⟩⟩
          simp only [execOp, ho, resolve, invoke]
          simp [builtin, Builtin.clear_, run_underlying ht, e1, hzr, hst]
        · cases hr
      · cases hr
    · cases hr
  · rename_i e ex b off c ht hx
    simp only [Option.some.injEq, Prod.mk.injEq] at hr
    obtain ⟨rfl, rfl, rfl⟩ := hr
    have e1 := hρ _ _ hx
    simp only [ER] at e1
    obtain ⟨_, _, c', _, _, _, e1⟩ := e1
    refine .pure h (y := .tuple #[]) (fun o ho => ?_) er_undef'
    simp only [execOp, ho, resolve, invoke]
    simp [builtin, Builtin.clear_, run_underlying ht, e1]
  · rename_i e ht hx
    simp only [Option.some.injEq, Prod.mk.injEq] at hr
    obtain ⟨rfl, rfl, rfl⟩ := hr
    have e1 := of_v (hρ _ _ hx)
    refine .pure h (y := .tuple #[]) (fun o ho => ?_) er_undef'
    simp only [execOp, ho, resolve, invoke]
    simp [builtin, Builtin.clear_, run_underlying ht, e1]
  · rename_i kt et b ht hx
    split at hr
    · rename_i es hb
      simp only [Option.some.injEq, Prod.mk.injEq] at hr
      obtain ⟨rfl, rfl, rfl⟩ := hr
      obtain ⟨E, cl, h1, _, hE⟩ := h.ents hb
      have e1 := hρ _ _ hx
      simp only [ER] at e1
      obtain ⟨h9, h10⟩ := h.setMap (E' := []) (es' := []) (cl' := cl) hb h1 (MapKept.stamped_empty cl) ⟨rfl, by simp⟩
      refine ⟨Nat.le_refl _, fun _ o ho => ⟨.tuple #[], _, M, ?_, h9, h10, fun _ hb => .inl hb, er_undef'⟩⟩
      simp only [execOp, ho, resolve, invoke]
      simp [builtin, Builtin.clear_, run_underlying ht, e1.2, MapKept.run_getObj_map h1, MapKept.run_setObj_map _ h1]
    · cases hr
  · cases hr
end
end Go.Proofs.YtaopcacmfhdfkaaGreatDoor.Ev

namespace Go.Proofs.YtaopcacmfhdfkaaGreatDoor.Ev
open Go Go.RowKit Go.Proofs.YtaopcacmfhdfkaaGreatDoor.Vc
set_option linter.unusedSimpArgs false
set_option linter.unusedVariables false

/-! A map, a function value, held against nil; a type asserted that must be so. -/
noncomputable def evNilM (P : Program) (op : BinOp) (t : TypeId) (x : Option EV) (y : Operand) (H : EH) (nx : Nat) : Rs :=
  match isEq op, P.underlying t, y with
  | some ne, some (.map _ _), .const (.map none) => match x with
    | some (.m _) => some (.v (.bool ne), H, nx)
    | some (.v (.map none)) => some (.v (.bool (!ne)), H, nx)
    | _ => none
  | some ne, some (.func _ _ _), .const .nilFunc => match x with
    | some (.f _ _ _) => some (.v (.bool ne), H, nx)
    | some (.v .nilFunc) => some (.v (.bool (!ne)), H, nx)
    | _ => none
  | _, _, _ => none
noncomputable def evTas1 (P : Program) (x : Option EV) (t : TypeId) (H : EH) (nx : Nat) : Rs :=
  match P.underlying t with
  | some (.interface _) => none
  | some _ => match x with
    | some (.x t' y) => bif Nat.beq t' t then some (y, H, nx) else none
    | _ => none
  | none => none

section
variable {nx : Nat} {M : Nm} {H : EH} {w : World} {P : Program} {a : Act} {ρ : Operand → Option EV}

theorem run_eqNilM {t : TypeId} {x y : Operand} {u c : Value} {b : Bool} {td : TypeDesc} (ht : P.underlying t = some td) (he : ∀ d, (Op.equalIn (d + 1) t u c).run P w = .ok b w) (hg : ∀ op, (eqGuard op t x y u c).run P w = .ok () w) (hop : ∀ op, (op = .eql ∨ op = .neq) → binOp op t u c = (match op with | .eql => do pure (.bool (← Op.equal t u c)) | _ => do pure (.bool (!(← Op.equal t u c))))) (ne : Bool) :
    (do eqGuard (bif ne then .neq else .eql) t x y u c; binOp (bif ne then .neq else .eql) t u c : Sem Value).run P w = .ok (.bool (b != ne)) w := by
  have _ := ht
  have h1 : (Op.equal t u c).run P w = .ok b w := he 9999
  rw [Sem.run_bind, hg]
  cases ne
  · simp only [cond_false, Result.andThen_ok, hop _ (.inl rfl)]
    rw [Sem.run_bind, h1]; simp
  · simp only [cond_true, Result.andThen_ok, hop _ (.inr rfl)]
    rw [Sem.run_bind, h1]; simp

theorem evNilM_ok (h : EI M H.get w) (hρ : ∀ x e, ρ x = some e → ER M e (a.eval x)) {op : BinOp} {t ty : TypeId} {x y : Operand} {v : EV} {H' : EH} {nx' : Nat} (hr : evNilM P op t (ρ x) y H nx = some (v, H', nx')) : Ok P a M H w nx (.binOp op t x y ty) v H' nx' := by
  unfold evNilM at hr
  have fin : ∀ {ne b : Bool} {u c : Value} {td : TypeDesc}, isEq op = some ne → P.underlying t = some td → a.eval x = u → a.eval y = c → (∀ d, (Op.equalIn (d + 1) t u c).run P w = .ok b w) → (∀ op, (eqGuard op t x y u c).run P w = .ok () w) → (∀ op, (op = .eql ∨ op = .neq) → binOp op t u c = (match op with | .eql => do pure (.bool (← Op.equal t u c)) | _ => do pure (.bool (!(← Op.equal t u c))))) → Ok P a M H w nx (.binOp op t x y ty) (.v (.bool (b != ne))) H nx := by
    intro ne b u c td hop ht hu hc he hg hb
    have hop' : op = (bif ne then .neq else .eql) := by unfold isEq at hop; split at hop <;> cases hop <;> rfl
    subst hop'
    refine .pure h (y := .bool (b != ne)) (fun o ho => ?_) (er_v rfl)
    have := run_eqNilM (P := P) (w := w) (x := x) (y := y) ht he hg hb ne
    simp only [execOp, ho, hu, hc]
    rw [Sem.run_bind, this]; rfl
  split at hr
  · rename_i ne kt et hop ht
    split at hr
    · rename_i b hx
      simp only [Option.some.injEq, Prod.mk.injEq] at hr
      obtain ⟨rfl, rfl, rfl⟩ := hr
      have e1 := hρ _ _ hx
      simp only [ER] at e1
      have := fin (b := false) hop ht e1.2 rfl (fun d => by simp [Op.equalIn, run_underlying ht, Act.eval]) (fun op => by cases op <;> simp [eqGuard, Act.eval]) (fun op ho => by rcases ho with rfl | rfl <;> rfl)
      simpa using this
    · rename_i hx
      simp only [Option.some.injEq, Prod.mk.injEq] at hr
      obtain ⟨rfl, rfl, rfl⟩ := hr
      have e1 := of_v (hρ _ _ hx)
      have := fin (b := true) hop ht e1 rfl (fun d => by simp [Op.equalIn, run_underlying ht, Act.eval]) (fun op => by cases op <;> simp [eqGuard, Act.eval]) (fun op ho => by rcases ho with rfl | rfl <;> rfl)
      simpa using this
    · cases hr
  · rename_i ne _ _ _ hop ht
    split at hr
    · rename_i fn fs cs hx
      simp only [Option.some.injEq, Prod.mk.injEq] at hr
      obtain ⟨rfl, rfl, rfl⟩ := hr
      have e1 := hρ _ _ hx
      simp only [ER] at e1
      obtain ⟨vs, us, e1, _⟩ := e1
      have := fin (b := false) hop ht e1 rfl (fun d => by simp [Op.equalIn, run_underlying ht, Act.eval]) (fun op => by cases op <;> simp [eqGuard, Act.eval]) (fun op ho => by rcases ho with rfl | rfl <;> rfl)
      simpa using this
    · rename_i hx
      simp only [Option.some.injEq, Prod.mk.injEq] at hr
      obtain ⟨rfl, rfl, rfl⟩ := hr
      have e1 := of_v (hρ _ _ hx)
      have := fin (b := true) hop ht e1 rfl (fun d => by simp [Op.equalIn, run_underlying ht, Act.eval]) (fun op => by cases op <;> simp [eqGuard, Act.eval]) (fun op ho => by rcases ho with rfl | rfl <;> rfl)
      simpa using this
    · cases hr
  · cases hr

theorem evTas1_ok (h : EI M H.get w) (hρ : ∀ x e, ρ x = some e → ER M e (a.eval x)) {x : Operand} {t xt : TypeId} {v : EV} {H' : EH} {nx' : Nat} (hr : evTas1 P (ρ x) t H nx = some (v, H', nx')) : Ok P a M H w nx (.typeAssert x xt t false) v H' nx' := by
  unfold evTas1 at hr
  split at hr
  · cases hr
  · rename_i d hne h0
    split at hr
    · rename_i t' y hx
      cases hb : Nat.beq t' t with
      | true =>
        rw [hb] at hr
        simp only [cond_true, Option.some.injEq, Prod.mk.injEq] at hr
        obtain ⟨rfl, rfl, rfl⟩ := hr
        obtain rfl := Nat.eq_of_beq_eq_true hb
        have e1 := hρ _ _ hx
        simp only [ER] at e1
        obtain ⟨u, e1, hu⟩ := e1
        refine .pure h (y := u) (fun o ho => ?_) hu
        have : (Instr.typeAssert (.iface t' u) xt t' false).run P w = .ok u w := by
          cases d <;> first | exact absurd rfl (hne _) | simp [Instr.typeAssert, run_underlying h0]
        simp [execOp, ho, e1, this]
      | false => rw [hb] at hr; cases hr
    · cases hr
  · cases hr
end

/-! Functions that are known otherwise. -/
noncomputable def rowKeys : List (Value × EV) → Option (List Int)
  | [] => some []
  | (.int .i64 n, _) :: es => (rowKeys es).map (n :: ·)
  | _ => none
noncomputable def insSort (n : Int) : List Int → List Int
  | [] => [n]
  | m :: l => bif decide (n ≤ m) then n :: m :: l else m :: insSort n l
noncomputable def srtE : List Int → List Int
  | [] => []
  | n :: l => insSort n (srtE l)
end Go.Proofs.YtaopcacmfhdfkaaGreatDoor.Ev

namespace Go.Proofs.YtaopcacmfhdfkaaGreatDoor.Ev
open Go Go.RowKit Go.Proofs.YtaopcacmfhdfkaaGreatDoor.Vc
set_option linter.unusedSimpArgs false
set_option linter.unusedVariables false

/-- Builtins. -/
noncomputable def evB (P : Program) (b : Builtin) (xs : List Operand) (ts : List TypeId) (ρ : Operand → Option EV) (H : EH) (nx : Nat) : Rs :=
  match b, xs, ts with
  | .len, [x], [t] => match evLen P t (ρ x) H nx with
    | some r => some r
    | none => evLenM P t (ρ x) H nx
  | .delete, [m, i], t :: _ => evDel P t (ρ m) (ρ i) H nx
  | .copy, [x, y], [t, _] => evCpy P t (ρ x) (ρ y) H nx
  | .cap, [x], [t] => evCap P t (ρ x) H nx
  | .clear, [x], [t] => evClr P t (ρ x) H nx
  | .max, [x, y], _ => evMm true (ρ x) (ρ y) H nx
  | .min, [x, y], _ => evMm false (ρ x) (ρ y) H nx
  | .append, [x, y], [t, t'] => grd (Nat.beq t t') (evApp P t (ρ x) (ρ y) H nx)
  | _, _, _ => none

/-- An operation that tells a value, and calls nobody. -/
noncomputable def evD (P : Program) (L : List (Nat × Array Value)) (op : Op) (ρ : Operand → Option EV) (H : EH) (nx : Nat) : Rs :=
  match op with
  | .move x => (ρ x).map fun e => (e, H, nx)
  | .assign x => (ρ x).map fun e => (e, H, nx)
  | .pick c x y => match ρ c with
    | some (.v (.bool b)) => (bif b then ρ x else ρ y).map fun e => (e, H, nx)
    | _ => none
  | .binOp op t x y _ => match evBin P op t (ρ x) (ρ y) H nx with
    | some r => some r
    | none => match evNil P op t (ρ x) y H nx with
      | some r => some r
      | none => match evAeq P op t (ρ x) (ρ y) H nx with
        | some r => some r
        | none => evNilM P op t (ρ x) y H nx
  | .unOp op _ x => match ρ x with
    | some (.v u) => (vun op u).map fun r => (.v r, H, nx)
    | _ => none
  | .convert t t' x => evConv P t t' (ρ x) H nx
  | .extract x k => match ρ x with
    | some (.t xs) => (xs[k]?).map fun e => (e, H, nx)
    | _ => none
  | .load t x => evLoad P L t (ρ x) H nx
  | .fieldAddr t x k => evFad P t (ρ x) k H nx
  | .indexAddr t x i => evIad P t (ρ x) (ρ i) H nx
  | .field t x k => evFld P t (ρ x) k H nx
  | .index t x i => evSidx P t (ρ x) (ρ i) H nx
  | .box ty x => evBox ty (ρ x) H nx
  | .alloc ty => evNew P ty H nx
  | .slice t x lo hi none => evSlc P ρ t (some x) lo hi H nx
  | .slice t x lo (some hi) (some mx) => evSlc3 P ρ t x lo hi mx H nx
  | .makeFunc fn first cap => match mapE ρ first.toList, mapE ρ cap.toList with
    | some fs, some es => some (.f fn fs es, H, nx)
    | _, _ => none
  | .makeInterface t x => evMki P t (ρ x) H nx
  | .typeAssert x _ t true => evTas P (ρ x) t H nx
  | .typeAssert x _ t false => evTas1 P (ρ x) t H nx
  | .nilCheck x => evNck (ρ x) H nx
  | .build t parts => evBld P t parts.toList ρ H nx
  | .buildSlice t m parts => evBsl P t m parts.toList ρ H nx
  | .makeSlice t x y => evMks P t (ρ x) (ρ y) H nx
  | .makeMap _ r => evMkm r H nx
  | .lookup t x i ok => evLku P t (ρ x) (ρ i) ok H nx
  | .call c => match c.callee with
    | .builtin b => evB P b c.args.toList c.argTypes.toList ρ H nx
    | _ => none
  | _ => none

section
variable {nx : Nat} {M : Nm} {H : EH} {w : World} {P : Program} {a : Act} {ρ : Operand → Option EV}

theorem map_pure {x : Option EV} {H : EH} {nx : Nat} {v : EV} {H' : EH} {nx' : Nat} (h : x.map (fun e => (e, H, nx)) = some (v, H', nx')) : x = some v ∧ H' = H ∧ nx' = nx := by
  simp only [Option.map_eq_some_iff, Prod.mk.injEq] at h
  obtain ⟨e, h1, rfl, rfl, rfl⟩ := h
  exact ⟨h1, rfl, rfl⟩

theorem evB_ok (h : EI M H.get w) (hρ : ∀ x e, ρ x = some e → ER M e (a.eval x)) {b : Builtin} {xs : Array Operand} {ts : Array TypeId} {v : EV} {H' : EH} {nx' : Nat} (hr : evB P b xs.toList ts.toList ρ H nx = some (v, H', nx')) : Ok P a M H w nx (.call { callee := .builtin b, args := xs, argTypes := ts }) v H' nx' := by
  generalize hxs : xs.toList = xl at hr
  generalize hts : ts.toList = tl at hr
  have e1 := of_list hxs
  have e2 := of_list hts
  subst e1
  subst e2
  unfold evB at hr
  split at hr
  · split at hr
    · rename_i r hr1
      obtain rfl := Option.some.inj hr
      exact evLen_ok h hρ hr1
    · exact evLenM_ok h hρ hr
  · rename_i t ts'
    exact evDel_ok (t := t) h hρ (by simp) hr
  · exact evCpy_ok h hρ hr
  · exact evCap_ok h hρ hr
  · exact evClr_ok h hρ hr
  · exact evMm_ok (mx := true) h hρ hr
  · exact evMm_ok (mx := false) h hρ hr
  · obtain ⟨h1, h2⟩ := grd_some hr
    obtain rfl := Nat.eq_of_beq_eq_true h1
    exact evApp_ok h hρ h2
  · cases hr

theorem evD_ok (h : EI M H.get w) (hρ : ∀ x e, ρ x = some e → ER M e (a.eval x)) {op : Op} {v : EV} {H' : EH} {nx' : Nat} (hr : evD P M.L op ρ H nx = some (v, H', nx')) : Ok P a M H w nx op v H' nx' := by
  unfold evD at hr
  split at hr
  · obtain ⟨h1, rfl, rfl⟩ := map_pure hr; exact ok_mov h hρ (.inl rfl) h1
  · obtain ⟨h1, rfl, rfl⟩ := map_pure hr; exact ok_mov h hρ (.inr rfl) h1
  · split at hr
    · rename_i h1
      obtain ⟨h2, rfl, rfl⟩ := map_pure hr
      exact ok_pick h hρ h1 h2
    · cases hr
  · split at hr
    · rename_i r h1
      obtain rfl := Option.some.inj hr
      exact evBin_ok h hρ h1
    · split at hr
      · rename_i r h1
        obtain rfl := Option.some.inj hr
        exact evNil_ok h hρ h1
      · split at hr
        · rename_i r h1
          obtain rfl := Option.some.inj hr
          exact evAeq_ok h hρ h1
        · exact evNilM_ok h hρ hr
  · split at hr
    · rename_i h1
      simp only [Option.map_eq_some_iff, Prod.mk.injEq] at hr
      obtain ⟨r, h2, rfl, rfl, rfl⟩ := hr
      exact ok_un h hρ h1 h2
    · cases hr
  · exact evConv_ok h hρ hr
  · split at hr
    · rename_i h1
      obtain ⟨h2, rfl, rfl⟩ := map_pure hr
      exact ok_ext h hρ h1 h2
    · cases hr
  · exact evLoad_ok h hρ hr
  · exact evFad_ok h hρ hr
  · exact evIad_ok h hρ hr
  · exact evFld_ok h hρ hr
  · exact evSidx_ok h hρ hr
  · exact evBox_ok h hρ hr
  · exact evNew_ok h hr
  · exact evSlc_ok h hρ hr
  · exact evSlc3_ok h hρ hr
  · split at hr
    · rename_i h1 h2
      simp only [Option.some.injEq, Prod.mk.injEq] at hr
      obtain ⟨rfl, rfl, rfl⟩ := hr
      exact ok_mkf h hρ h1 h2
    · cases hr
  · exact evMki_ok h hρ hr
  · exact evTas_ok h hρ hr
  · exact evTas1_ok h hρ hr
  · exact evNck_ok h hρ hr
  · exact evBld_ok h hρ hr
  · exact evBsl_ok h hρ hr
  · exact evMks_ok h hρ hr
  · exact evMkm_ok h hr
  · exact evLku_ok h hρ hr
  · rename_i c
    split at hr
    · rename_i b hc
      obtain ⟨cl, xs, ts⟩ := c
      simp only at hc
      subst hc
      exact evB_ok h hρ hr
    · cases hr
  · cases hr
end

/-- Operands' values. -/
noncomputable def opE (T : Tr EV) : Operand → Option EV
  | .tmp t => T.get t
  | .const v => bif plain v then some (.v v) else none
  | .func f => some (.v (.func (.func f) #[] #[]))
  | .global g => some (.g g 0)

/-- The run's state, and the machine's. -/
structure EA (M : Nm) (h : Nat → Option EO) (τ : Nat → Option EV) (n : Nat) (a : Act) (w : World) : Prop where
  hp : EI M h w
  tm : ∀ t e, τ t = some e → ER M e (a.tmps.getD t undef)
  defers : a.defers = []
  size : a.tmps.size = n
  lim : n < LIM

theorem EA.op {M : Nm} {h : Nat → Option EO} {T : Tr EV} {n : Nat} {a : Act} {w : World} (h : EA M h T.get n a w) : ∀ x e, opE T x = some e → ER M e (a.eval x) := by
  intro x e hx
  cases x with
  | tmp t => exact h.tm t e hx
  | const v =>
    simp only [opE] at hx
    cases hp : plain v with
    | false => rw [hp] at hx; cases hx
    | true =>
      rw [hp] at hx
      obtain rfl := Option.some.inj hx
      exact er_v hp
  | func f =>
    obtain rfl := Option.some.inj hx
    exact er_v rfl
  | global g =>
    obtain rfl := Option.some.inj hx
    simp only [ER]; exact ⟨trivial, rfl⟩

/-- A temporary is set. -/
noncomputable def putE (T : Tr EV) (d : Option Nat) (v : EV) : Tr EV := match d with | some d => T.set FU d (some v) | none => T
/-- The same, of what is known of temporaries. -/
noncomputable def putF (τ : Nat → Option EV) (d : Option Nat) (v : EV) : Nat → Option EV := fun t => if d = some t then some v else τ t
theorem putE_get {T : Tr EV} {d : Option Nat} {v : EV} {n : Nat} (hd : ∀ t, d = some t → t < n) (hl : n < LIM) : (putE T d v).get = putF T.get d v := by
  funext t
  cases d with
  | none => simp [putE, putF]
  | some d =>
    simp only [putE, putF]
    rw [Tr.get_set _ _ _ _ _ (lim_fu (Nat.lt_trans (hd d rfl) hl))]
    by_cases h : t = d
    · simp [h]
    · have : ¬ d = t := fun e => h e.symm
      simp [h, this]
theorem EA.putF {M M' : Nm} {h h' : Nat → Option EO} {τ : Nat → Option EV} {n : Nat} {a : Act} {w w' : World} (h : EA M h τ n a w) (hI : EI M' h' w') (hle : M.le M') {d : Option Nat} (hd : ∀ t, d = some t → t < n) {v : EV} {y : Value} (hv : ER M' v y) : EA M' h' (putF τ d v) n (a.put d y) w' := by
  cases d with
  | none => exact ⟨hI, fun t e ht => (h.tm t e (by simpa [Ev.putF] using ht)).mono hle _ _, h.defers, h.size, h.lim⟩
  | some d =>
    have hdn := hd d rfl
    refine ⟨hI, fun t e ht => ?_, h.defers, by simp [Act.put, h.size], h.lim⟩
    simp only [Ev.putF, Option.some.injEq] at ht
    simp only [Act.put]
    rw [getD_put (by rw [h.size]; exact hdn)]
    split at ht
    · rename_i he
      obtain rfl := Option.some.inj ht
      rw [if_pos he.symm]; exact hv
    · rename_i he
      rw [if_neg (fun e => he e.symm)]; exact (h.tm t e ht).mono hle _ _
theorem EA.put {M M' : Nm} {h h' : Nat → Option EO} {T : Tr EV} {n : Nat} {a : Act} {w w' : World} (h : EA M h T.get n a w) (hI : EI M' h' w') (hle : M.le M') {d : Option Nat} (hd : ∀ t, d = some t → t < n) {v : EV} {y : Value} (hv : ER M' v y) : EA M' h' (putE T d v).get n (a.put d y) w' := by
  rw [putE_get hd h.lim]; exact h.putF hI hle hd hv

/-- Names that are not there yet, and names that came. -/
noncomputable def Fr (P : Program) [Lay P] (M : Nm) (nx nx' : Nat) : Prop := M.L = Lay.cells P ∧ ∀ b, nx ≤ b → b < nx' → ¬ M.d b
noncomputable def Gr (M M' : Nm) (nx nx' : Nat) : Prop := M'.L = M.L ∧ ∀ b, M'.d b → M.d b ∨ nx ≤ b ∧ b < nx'
theorem Gr.refl (M : Nm) (nx nx' : Nat) : Gr M M nx nx' := ⟨rfl, fun _ h => .inl h⟩
theorem Gr.trans {M M1 M2 : Nm} {a b c : Nat} (h : Gr M M1 a b) (k : Gr M1 M2 b c) (h1 : a ≤ b) (h2 : b ≤ c) : Gr M M2 a c := ⟨k.1.trans h.1, fun x hx => by
  rcases k.2 x hx with hx | hx
  · rcases h.2 x hx with hx | hx
    · exact .inl hx
    · exact .inr (by omega)
  · exact .inr (by omega)⟩
theorem Fr.left {P : Program} [Lay P] {M : Nm} {a b c : Nat} (h : Fr P M a c) (h2 : b ≤ c) : Fr P M a b := ⟨h.1, fun x hx hx' => h.2 x hx (by omega)⟩
theorem Fr.right {P : Program} [Lay P] {M M1 : Nm} {a b c : Nat} (h : Fr P M a c) (g : Gr M M1 a b) (h1 : a ≤ b) : Fr P M1 b c := ⟨g.1.trans h.1, fun x hx hx' hd => by
  rcases g.2 x hd with hd | hd
  · exact h.2 x (by omega) hx' hd
  · omega⟩

/-- Less is known. -/
theorem EA.weak {M : Nm} {h g : Nat → Option EO} {τ σ : Nat → Option EV} {n : Nat} {a : Act} {w : World} (H : EA M h τ n a w) (hg : ∀ b o, g b = some o → h b = some o) (hs : ∀ t e, σ t = some e → τ t = some e) : EA M g σ n a w :=
  ⟨⟨H.hp.lim, fun b o hb => H.hp.ob b o (hg b o hb), fun b b' hb hb' he => by
    have key : ∀ b, g b ≠ none → h b ≠ none := fun b hb => by
      cases hx : g b with
      | none => exact absurd hx hb
      | some o => rw [hg b o hx]; simp
    exact H.hp.inj b b' (key b hb) (key b' hb') he, fun p hp => ⟨(H.hp.laid p hp).1, fun b hb => (H.hp.laid p hp).2 b (by
    cases hx : g b with
    | none => exact absurd hx hb
    | some o => rw [hg b o hx]; simp)⟩⟩, fun t e ht => H.tm t e (hs t e ht), H.defers, H.size, H.lim⟩

/-- What was not looked at stays. -/
theorem Stp.none {M M' : Nm} {g g' : Nat → Option EO} {w w' : World} {nx nx' : Nat} (S : Stp M g w M' g' w') (gr : Gr M M' nx nx') {b : Nat} (hb : g b = none) (hn : ¬ (nx ≤ b ∧ b < nx')) : g' b = none := by
  refine Classical.byContradiction fun hc => ?_
  rcases S.old b hc with ⟨_, h2⟩ | ⟨h1, h2, _⟩
  · exact h2 hb
  · rcases gr.2 b h2 with h3 | h3
    · exact h1 h3
    · exact hn h3
theorem EI.merge {M M' : Nm} {h g g' h' : Nat → Option EO} {w w' : World} (H : EI M h w) (hg : ∀ b o, g b = some o → h b = some o) (S : Stp M g w M' g' w') (I : EI M' g' w')
    (hc : ∀ b, h' b = g' b ∨ (g b = none ∧ h' b = h b)) : EI M' h' w' ∧ Stp M h w M' h' w' := by
  have live : ∀ b, g b ≠ none → h b ≠ none := fun b hb => by
    cases hx : g b with
    | none => exact absurd hx hb
    | some o => rw [hg b o hx]; simp
  have mixed : ∀ b b', g' b ≠ none → h b' ≠ none → g b' = none → M'.m b = M'.m b' → False := fun b b' h1 h2 h3 he => by
    obtain ⟨h4, h5⟩ := H.lt h2
    rw [S.le.m b' h4] at he
    rcases S.old b h1 with ⟨h6, h7⟩ | ⟨_, _, h6 | ⟨b0, h6, h7⟩⟩
    · rw [S.le.m b h6] at he
      have := H.inj b b' (live b h7) h2 he
      subst this
      exact h7 h3
    · omega
    · have := H.inj b0 b' (live b0 h6) h2 (h7.trans he)
      subst this
      exact h6 h3
  refine ⟨⟨I.lim, fun b o hb => ?_, fun b b' hb hb' he => ?_, fun p hp => ⟨(I.laid p hp).1, fun b hb => ?_⟩⟩, ⟨S.le, S.os, S.tape, S.output, S.size, fun b hb => ?_, fun k hk hn => S.fr k hk fun b hb => hn b (live b hb)⟩⟩
  · rcases hc b with h1 | ⟨h1, h2⟩
    · exact I.ob b o (by rw [← h1]; exact hb)
    · rw [h2] at hb
      obtain ⟨h3, r, h4, h5⟩ := H.ob b o hb
      have hb0 : h b ≠ none := by rw [hb]; simp
      refine ⟨S.le.nx b h3, r, ?_, h5.mono S.le h3⟩
      rw [S.le.m b h3, S.fr _ (H.lt hb0).2 (fun b' hb' he => ?_)]
      · exact h4
      · have := H.inj b' b (live b' hb') hb0 he
        subst this
        exact hb' h1
  · rcases hc b with h1 | ⟨h1, h2⟩ <;> rcases hc b' with h3 | ⟨h3, h4⟩
    · rw [h1] at hb; rw [h3] at hb'; exact I.inj b b' hb hb' he
    · rw [h1] at hb; rw [h4] at hb'; exact (mixed b b' hb hb' h3 he).elim
    · rw [h2] at hb; rw [h3] at hb'; exact (mixed b' b hb' hb h1 he.symm).elim
    · rw [h2] at hb; rw [h4] at hb'
      rw [S.le.m b (H.lt hb).1, S.le.m b' (H.lt hb').1] at he
      exact H.inj b b' hb hb' he
  · rcases hc b with h1 | ⟨h1, h2⟩
    · exact (I.laid p hp).2 b (by rw [← h1]; exact hb)
    · rw [h2] at hb
      rw [S.le.m b (H.lt hb).1]
      exact (H.laid p (by rw [← S.le.L]; exact hp)).2 b hb
  · rcases hc b with h1 | ⟨h1, h2⟩
    · rw [h1] at hb
      rcases S.old b hb with ⟨h3, h4⟩ | ⟨h3, h3', h4 | ⟨b0, h4, h5⟩⟩
      · exact .inl ⟨h3, live b h4⟩
      · exact .inr ⟨h3, h3', .inl h4⟩
      · exact .inr ⟨h3, h3', .inr ⟨b0, live b0 h4, h5⟩⟩
    · rw [h2] at hb
      exact .inl ⟨(H.lt hb).1, hb⟩
end Go.Proofs.YtaopcacmfhdfkaaGreatDoor.Ev
