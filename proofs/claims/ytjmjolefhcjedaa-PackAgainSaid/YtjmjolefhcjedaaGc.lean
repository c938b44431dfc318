/- Whether wants are in order: the walk over a map. -/
import Derived.Test.YtjmjolefhcjedaaNa
import Derived.Test.YtjmjolefhcjedaaGb
import Derived.Maps.OwnSet
import Derived.Maps.AppendAt
import Derived.WalkKit
namespace Go.Proofs.Ytjmjolefhcjedaa.Vc
open Go Go.RowKit Go.Lib Go.Proofs Go.Proofs.Try Go.Maps
set_option maxRecDepth 100000
set_option maxHeartbeats 1000000

theorem keyed3 : Keyed prog 3 := int_keyed underlying3
theorem zero140 (w : World) : (zeroValue 140).run prog w = .ok (.agg #[]) w := by kernel_rfl
theorem call123 (u : Int) (W : World) : Calls prog 123 #[.int .i64 u] W fun e w' => e = .returned (.tuple #[.int .i64 (kindOf u).1, .bool (kindOf u).2.1, .bool (kindOf u).2.2]) ∧ w' = W := by
  by_cases h1 : 1 ≤ u
  · by_cases h2 : u ≤ 200
    · have e : kindOf u = (u, false, true) := by unfold kindOf; rw [if_pos ⟨h1, h2⟩]
      rw [e]
      go_enter Try.func123, Try.ntmps123
      go_wp2
      all_goals (go_ret3; exact ⟨rfl, rfl⟩)
    · by_cases h3 : 1000 < u
      · by_cases h4 : u ≤ 1040
        · have e : kindOf u = (u - 1000, true, true) := by unfold kindOf; rw [if_neg (by omega), if_pos (by omega)]
          rw [e]
          go_enter Try.func123, Try.ntmps123
          go_wp2
          all_goals (go_ret3; exact ⟨rfl, rfl⟩)
        · have e : kindOf u = (0, false, false) := by unfold kindOf; rw [if_neg (by omega), if_neg (by omega)]
          rw [e]
          go_enter Try.func123, Try.ntmps123
          go_wp2
          all_goals (go_ret3; exact ⟨rfl, rfl⟩)
      · have e : kindOf u = (0, false, false) := by unfold kindOf; rw [if_neg (by omega), if_neg (by omega)]
        rw [e]
        go_enter Try.func123, Try.ntmps123
        go_wp2
        all_goals (go_ret3; exact ⟨rfl, rfl⟩)
  · have h3 : ¬ 1000 < u := by omega
    have e : kindOf u = (0, false, false) := by unfold kindOf; rw [if_neg (by omega), if_neg (by omega)]
    rw [e]
    go_enter Try.func123, Try.ntmps123
    go_wp2
    all_goals (go_ret3; exact ⟨rfl, rfl⟩)

theorem kind_is' (u : Int) : (kindOf u).2.2 = isUnit u := by
  unfold kindOf isUnit
  split
  · symm; exact decide_eq_true (by omega)
  · split
    · symm; exact decide_eq_true (by omega)
    · symm; exact decide_eq_false (by omega)
/-- A store into a map of one's own: the count of draws does not fall. -/
theorem mapUpdate_drawn {H : Type} {P : Program} (w : World) {ops : Array Oper} {rest : List Oper} {o : Oper} {a : Act} {Q : Exit → Act → World → Prop}
    (hg : o.guard = none) {m x v : Operand} {t : TypeId} (hop : o.op = Op.mapUpdate t m x v) {k e : TypeId} (K : Keyed P k) (ht : P.underlying t = some (.map k e)) {R : Value → Option (DataW H × List MemPlace)} {b n : Nat} {D : DataW H}
    (hm : a.eval m = .map (some b)) (hown : w.ownsMap P k R b n D) (hn : n < maxLen) {kl : Lit} (hkey : keyOf P k (a.eval x) = some kl) {d : DataW H} {ps : List MemPlace} (hval : R (a.eval v) = some (d, ps))
    (hK : ∀ w', w'.ownsMap P k R b (n + 1) (D.put kl d) → w.grownBy w' (some b) → w.drawn ≤ w'.drawn → wpList P ops Q rest (a.put o.dst undef) w') : wpList P ops Q (o :: rest) a w := by
  refine wpList_plain hg fun K' hK' => ?_
  obtain ⟨w', hrun, r1, r2⟩ := hown.update K ht hn hkey hval
  have h3 := run_drawn _ _ hrun
  unfold Oper.wp
  simp [execOp, hop, hm, hrun, Result.andThen]
  exact hK' _ _ (hK w' r1 r2 h3)
/-- The units of the first wants, as a set. -/
def unitSet (l : List Want) (i : Nat) : DataW Unit := setOf (.agg []) ((l.take i).map fun w => Lit.int .i64 w.unit)
theorem unitSet_zero (l : List Want) : unitSet l 0 = .map [] := by simp [unitSet, setOf]
theorem unitSet_succ {l : List Want} {i : Nat} (h : i < l.length) : unitSet l (i + 1) = (unitSet l i).put (.int .i64 l[i].unit) (.agg []) := by
  unfold unitSet
  rw [List.take_succ_eq_append_getElem h, List.map_append, List.map_cons, List.map_nil, setOf_snoc]
theorem unitSet_has (l : List Want) (i : Nat) (u : Int) : Maps.has (unitSet l i) (.int .i64 u) = (l.take i).any fun w => decide (w.unit = u) := by
  unfold unitSet
  rw [has_setOf _ _ _ (fun y hy => by obtain ⟨_, _, rfl⟩ := List.mem_map.1 hy; trivial), List.any_map]
  congr 1
  funext w
  show decide (IntKind.i64 = IntKind.i64 ∧ w.unit = u) = _
  simp
/-- What is wrong with the i-th want. -/
def errW (f : Int) (l : List Want) (i : Nat) (w : Want) : Int :=
  if isUnit w.unit = false then 20 else if w.share < 1 ∨ f < w.share then 21 else if ((l.take i).any fun v => decide (v.unit = w.unit)) = true then 11 else 0
theorem g87_none (f : Int) (A : Option Addr) (c : Nat) (hf : 2 ≤ f ∧ f ≤ 64) (W : World) : Calls prog 87 #[.int .i64 f, .slice A 0 c] W fun e w' => e = .returned (.int .i64 0) ∧ Below W.heap.size W w' ∧ W.drawn ≤ w'.drawn := by
  have hmm := @run_makeMap prog
  have h1 : ¬ f < 2 := by omega
  have h2 : ¬ 64 < f := by omega
  go_enter Try.func87, Try.ntmps87
  go_wp2
  refine wp_loop_rounds 1 ?_
  rw [rounds_succ]
  go_wp2
  go_ret
  exact ⟨rfl, (Below.refl _ _).alloc (Nat.le_refl _) _, Nat.le_refl _⟩
theorem g87_bad (f : Int) (v : Value) (hf : ¬ (2 ≤ f ∧ f ≤ 64)) (W : World) : Calls prog 87 #[.int .i64 f, v] W fun e w' => e = .returned (.int .i64 1) ∧ Below W.heap.size W w' ∧ W.drawn ≤ w'.drawn := by
  by_cases h1 : f < 2
  · go_enter Try.func87, Try.ntmps87
    go_wp2
    all_goals (go_ret; exact ⟨rfl, Below.refl _ _, Nat.le_refl _⟩)
  · have h2 : 64 < f := by omega
    go_enter Try.func87, Try.ntmps87
    go_wp2
    all_goals (go_ret; exact ⟨rfl, Below.refl _ _, Nat.le_refl _⟩)
theorem g87_some (f : Int) (b off c : Nat) (l : List Want) (R : Int) (hf : 2 ≤ f ∧ f ≤ 64) (hl : l.length ≤ 1000000) (W : World) (hb : b < W.heap.size)
    (hu : ∀ i (h : i < l.length), W.cell? ⟨b, off + i * 2, none⟩ = some (.int .i64 l[i].unit) ∧ W.cell? ⟨b, off + i * 2 + 1, none⟩ = some (.int .i64 l[i].share))
    (hR : ∀ k (h : k < l.length), (∀ j (hj : j < k), errW f l j l[j] = 0) → errW f l k l[k] ≠ 0 → R = errW f l k l[k]) (hR0 : (∀ j (hj : j < l.length), errW f l j l[j] = 0) → R = 0) :
    Calls prog 87 #[.int .i64 f, .slice (some ⟨b, off, none⟩) l.length c] W fun e w' => e = .returned (.int .i64 R) ∧ Below W.heap.size W w' ∧ W.drawn ≤ w'.drawn := by
  have hmm := @run_makeMap prog
  have h1 : ¬ f < 2 := by omega
  have h2 : ¬ 64 < f := by omega
  have HR : Hid _ := hR
  have HR0 : Hid _ := hR0
  have HU : Hid _ := hu
  clear hR hR0 hu
  go_enter Try.func87, Try.ntmps87
  go_wp2
  go_loopw [22] (fun i wr => ∃ k : Nat, k ≤ l.length ∧ i = .int .i64 k ∧ wr.ownsMap prog 3 unitElem W.heap.size k (unitSet l k) ∧ Below W.heap.size W wr ∧ W.drawn ≤ wr.drawn ∧ Hid (∀ j (hj : j < k) (hl : j < l.length), errW f l j l[j] = 0))
    (fun i _ => l.length - (intOf i).toNat)
  case atStart => exact ⟨0, Nat.zero_le _, rfl, by rw [unitSet_zero]; exact World.ownsMap_made _ _ _ _, (Below.refl _ _).alloc (Nat.le_refl _) _, Nat.le_refl _, fun j hj => by omega⟩
  case round =>
    obtain ⟨k, hk, rfl, hown, hnx, hdr, HE⟩ := hrel
    rcases Nat.lt_or_ge k l.length with hlt | hge
    · have hcu : wr.cell? ⟨b, off + k * 2, none⟩ = some (.int .i64 l[k].unit) := (hnx.cell (by exact hb)).trans (HU.out k hlt).1
      have hcs : wr.cell? ⟨b, off + k * 2 + 1, none⟩ = some (.int .i64 l[k].share) := (hnx.cell (by exact hb)).trans (HU.out k hlt).2
      have hc123 := fun W' => call123 l[k].unit W'
      have hkind := kind_is' l[k].unit
      have hRk := fun h => HR.out k hlt (fun j hj => HE.out j hj (by omega)) h
      have hEk : errW f l k l[k] = if isUnit l[k].unit = false then 20 else if l[k].share < 1 ∨ f < l[k].share then 21 else if ((l.take k).any fun v => decide (v.unit = l[k].unit)) = true then 11 else 0 := rfl
      have hhas := unitSet_has l k l[k].unit
      generalize hw : l[k] = w at *
      have hwf : isUnit w.unit = true → keyOf prog 3 (.int .i64 w.unit) = some (.int .i64 w.unit) := fun h => keyOf_int_mk underlying3 (by
        unfold isUnit at h
        simp only [decide_eq_true_eq] at h
        simp only [Lit.wf, IntKind.min, IntKind.max, IntKind.signed, IntKind.bits]
        simp
        omega)
      have CU : Hid _ := hcu
      have HH : Hid _ := hhas
      have HEK : Hid _ := hEk
      have HRK : Hid _ := hRk
      clear hhas hEk hRk
      cases hun : isUnit w.unit with
      | false =>
        have hR1 : R = 20 := by
          have := HRK.out (by rw [HEK.out, if_pos hun]; decide)
          rwa [HEK.out, if_pos hun] at this
        rw [hun] at hkind
        clear hwf
        go_wp2_with (go_at_call 123; refine (hc123 _).mono ?_; rintro e w' ⟨rfl, rfl⟩)
        all_goals (go_ret; exact ⟨by rw [hR1]; rfl, hnx.alloc hnx.size _, hdr⟩)
      | true =>
        rw [hun] at hkind
        have hkey := hwf hun
        clear hwf
        by_cases hsh : w.share < 1 ∨ f < w.share
        · have hR1 : R = 21 := by
            have := HRK.out (by rw [HEK.out, if_neg (by simp [hun]), if_pos hsh]; decide)
            rwa [HEK.out, if_neg (by simp [hun]), if_pos hsh] at this
          by_cases hs1 : w.share < 1
          · go_wp2_with (go_at_call 123; refine (hc123 _).mono ?_; rintro e w' ⟨rfl, rfl⟩)
            all_goals (go_ret; exact ⟨by rw [hR1]; rfl, hnx.alloc hnx.size _, hdr⟩)
          · have hs2 : f < w.share := by omega
            go_wp2_with (go_at_call 123; refine (hc123 _).mono ?_; rintro e w' ⟨rfl, rfl⟩)
            all_goals (go_ret; exact ⟨by rw [hR1]; rfl, hnx.alloc hnx.size _, hdr⟩)
        · have hs1 : ¬ w.share < 1 := by omega
          have hs2 : ¬ f < w.share := by omega
          cases hany : ((l.take k).any fun v => decide (v.unit = w.unit)) with
          | true =>
            have hR1 : R = 11 := by
              have := HRK.out (by rw [HEK.out, if_neg (by simp [hun]), if_neg hsh, if_pos hany]; decide)
              rwa [HEK.out, if_neg (by simp [hun]), if_neg hsh, if_pos hany] at this
            have hhas := HH.out
            rw [hany] at hhas
            go_wp2_with (first
              | (go_at_call 123; refine (hc123 _).mono ?_; rintro e w' ⟨rfl, rfl⟩)
              | (at_lookup; refine wpList_lookup_own_unit _ rfl _ _ 137 rfl 3 140 keyed3 underlying137 (zero140 _) W.heap.size k _ rfl (hown.alloc _) _ _ rfl hkey ?_)
              | go_in)
            all_goals (go_ret; exact ⟨by rw [hR1]; rfl, (hnx.alloc hnx.size _).alloc (by simp; have := hnx.size; omega) _, hdr⟩)
          | false =>
            have hhas := HH.out
            rw [hany] at hhas
            go_wp2_with (first
              | (go_at_call 123; refine (hc123 _).mono ?_; rintro e w' ⟨rfl, rfl⟩)
              | (at_lookup; refine wpList_lookup_own_unit _ rfl _ _ 137 rfl 3 140 keyed3 underlying137 (zero140 _) W.heap.size k _ rfl (hown.alloc _) _ _ rfl hkey ?_)
              | (at_mapUpdate; refine mapUpdate_drawn _ rfl rfl keyed3 underlying137 (R := unitElem (H := Unit)) rfl ((hown.alloc _).alloc _) (by unfold maxLen; omega) hkey (d := .agg []) (ps := []) unitElem_mk ?_; intro w1 hown1 hgrow1 hdr1)
              | go_in)
            have hgs := hgrow1.size
            simp at hgs
            refine ⟨⟨k + 1, by omega, by go_num, ?_, ?_, Nat.le_trans hdr hdr1, fun j hj hjl => ?_⟩, by simp [intOf]; omega⟩
            · rw [unitSet_succ hlt, hw]; exact hown1
            · exact ((hnx.alloc hnx.size _).alloc (by simp; have := hnx.size; omega) _).grown hgrow1 (by simp; have := hnx.size; omega) (fun j hj => by cases hj; exact Nat.le_refl _)
            · rcases Nat.lt_or_ge j k with h | h
              · exact HE.out j h hjl
              · have e : j = k := by omega
                subst e
                rw [hw, HEK.out, if_neg (by simp [hun]), if_neg hsh, if_neg (by rw [hany]; simp)]
    · have hkl : k = l.length := by omega
      have hR1 := HR0.out fun j hj => HE.out j (by omega) hj
      subst hkl
      go_wp2
      all_goals (go_ret; exact ⟨by rw [hR1]; rfl, hnx, hdr⟩)
end Go.Proofs.Ytjmjolefhcjedaa.Vc

namespace Go.Proofs.Ytjmjolefhcjedaa.Vc
open Go Go.RowKit Go.Lib Go.Proofs Go.Proofs.Try

/-- What order.Check says. -/
def errAt (f : Int) (l : List Want) (i : Nat) : Int := errW f l i (l.getD i ⟨0, 0⟩)
def chkW (f : Int) (l : List Want) : Int := if 2 ≤ f ∧ f ≤ 64 then (((List.range l.length).map (errAt f l)).find? fun e => decide (e ≠ 0)).getD 0 else 1
theorem errAt_at {f : Int} {l : List Want} {i : Nat} (h : i < l.length) : errAt f l i = errW f l i l[i] := by
  unfold errAt; rw [List.getD_eq_getElem?_getD, List.getElem?_eq_getElem h]; rfl
theorem range_first {g : Nat → Int} : ∀ {n k : Nat}, k < n → (∀ j, j < k → g j = 0) → g k ≠ 0 → (((List.range n).map g).find? fun e => decide (e ≠ 0)).getD 0 = g k := by
  intro n
  induction n with
  | zero => intro k hk; omega
  | succ n ih =>
    intro k hk hz hn
    rw [List.range_succ, List.map_append, List.find?_append]
    rcases Nat.lt_or_ge k n with h | h
    · have := ih h hz hn
      cases hF : ((List.range n).map g).find? fun e => decide (e ≠ 0) with
      | none => rw [hF] at this; exact absurd this.symm hn
      | some e => rw [hF] at this; exact this
    · have e : k = n := by omega
      subst e
      have h1 : ((List.range k).map g).find? (fun e => decide (e ≠ 0)) = none := by
        rw [List.find?_eq_none]
        intro x hx
        obtain ⟨j, hj, rfl⟩ := List.mem_map.1 hx
        simp [hz j (List.mem_range.1 hj)]
      rw [h1]
      simp [hn]
theorem range_zero {g : Nat → Int} {n : Nat} (h : ∀ j, j < n → g j = 0) : (((List.range n).map g).find? fun e => decide (e ≠ 0)).getD 0 = 0 := by
  have h1 : ((List.range n).map g).find? (fun e => decide (e ≠ 0)) = none := by
    rw [List.find?_eq_none]
    intro x hx
    obtain ⟨j, hj, rfl⟩ := List.mem_map.1 hx
    simp [h j (List.mem_range.1 hj)]
  rw [h1]; rfl
theorem range_zero' {g : Nat → Int} {n : Nat} (h : (((List.range n).map g).find? fun e => decide (e ≠ 0)).getD 0 = 0) : ∀ j, j < n → g j = 0 := by
  intro j hj
  cases hF : ((List.range n).map g).find? fun e => decide (e ≠ 0) with
  | none =>
    have := List.find?_eq_none.1 hF (g j) (List.mem_map.2 ⟨j, List.mem_range.2 hj, rfl⟩)
    simpa using this
  | some e =>
    rw [hF] at h
    have := List.find?_some hF
    simp at this h
    exact absurd h this
theorem chkW_zero {f : Int} {l : List Want} (h : chkW f l = 0) : (2 ≤ f ∧ f ≤ 64) ∧ (∀ w ∈ l, isUnit w.unit = true ∧ 1 ≤ w.share ∧ w.share ≤ f) ∧ l.Pairwise fun a b => a.unit ≠ b.unit := by
  unfold chkW at h
  split at h
  · rename_i hf
    have hz := range_zero' h
    have he : ∀ i (hi : i < l.length), isUnit l[i].unit = true ∧ ¬ (l[i].share < 1 ∨ f < l[i].share) ∧ ¬ ((l.take i).any fun v => decide (v.unit = l[i].unit)) = true := by
      intro i hi
      have := hz i hi
      rw [errAt_at hi] at this
      unfold errW at this
      split at this
      · simp at this
      · split at this
        · simp at this
        · split at this
          · simp at this
          · rename_i h1 h2 h3
            exact ⟨by simpa using h1, h2, h3⟩
    refine ⟨hf, fun w hw => ?_, List.pairwise_iff_getElem.2 fun i j hi hj hij => ?_⟩
    · obtain ⟨i, hi, rfl⟩ := List.mem_iff_getElem.1 hw
      have := he i hi
      exact ⟨this.1, by omega, by omega⟩
    · have := (he j hj).2.2
      intro e
      refine this (List.any_eq_true.2 ⟨l[i], ?_, by simpa using e⟩)
      exact List.mem_take_iff_getElem.2 ⟨i, by omega, rfl⟩
  · simp at h
theorem chkW_ok {f : Int} {l : List Want} (hf : 2 ≤ f ∧ f ≤ 64) (h : ∀ w ∈ l, isUnit w.unit = true ∧ 1 ≤ w.share ∧ w.share ≤ f) (hd : l.Pairwise fun a b => a.unit ≠ b.unit) : chkW f l = 0 := by
  unfold chkW
  rw [if_pos hf]
  refine range_zero fun j hj => ?_
  rw [errAt_at hj]
  unfold errW
  have h1 := h _ (List.getElem_mem hj)
  rw [if_neg (by simp [h1.1]), if_neg (by omega), if_neg]
  intro h2
  obtain ⟨v, hv, he⟩ := List.any_eq_true.1 h2
  obtain ⟨i, hi, rfl⟩ := List.mem_take_iff_getElem.1 hv
  exact List.pairwise_iff_getElem.1 hd i j (by omega) hj (by omega) (by simpa using he)
theorem keep_below {w w' : World} (h : Below w.heap.size w w') (hd : w.drawn ≤ w'.drawn) (X : Nat → Prop) : Keep X w w' := ⟨h.os, h.tape, h.output, h.size, fun k hk _ => h.block k hk, hd⟩

theorem s87 (f : Int) (l : List Want) (hl : l.length ≤ 1000000) : Spec prog 87 [tI f, .s 2 (l.map Want.tv)] [] (tI (chkW f l)) [] := by
  refine ⟨⟨f87, _, Try.func87, rfl, rfl⟩, by simp, by simp, fun w ok E0 vs hin hdis hnok hargs => ?_⟩
  have hobs : obsOf [] = noObs := by funext d; simp [obsOf, noObs]
  rw [hobs] at hargs
  simp only [RelL, Rel] at hargs
  obtain ⟨u, us, rfl, ⟨_, rfl⟩, u', us', rfl, ⟨A, c, rfl, hc1, hxs⟩, rfl⟩ := hargs
  rw [List.length_map] at *
  have fin : ∀ (w' : World) (R : Int), R = chkW f l → Below w.heap.size w w' → w.drawn ≤ w'.drawn → 
      ∃ v E, Ending.returned (.int .i64 R) = .returned v ∧ Keep (fun g => ∃ d, blkOf (handed E0 ([] : List Ob).length d) = some g) w w' ∧
      (∀ k o, ([] : List Ob)[k]? = some o → ObRel w' (okOf w ok E (obsOf [])) E (obsOf []) k o) ∧
      Rel w' (okOf w ok E (obsOf [])) E (obsOf []) (tI (chkW f l)) v ∧
      (∀ d, d < ([] : List Ob).length → E d = E0 d) ∧
      (∀ d g, ([] : List Ob).length ≤ d → d < ([] : List Ob).length → blkOf (E d) = some g → w.heap.size ≤ g) ∧
      (∀ d e g, d < ([] : List Ob).length → e < ([] : List Ob).length → blkOf (E d) = some g → blkOf (E e) = some g → d = e) := by
    intro w' R hR h1 h2
    refine ⟨_, E0, rfl, keep_below h1 h2 _, by simp, ?_, by simp, by simp, by simp⟩
    rw [hR]
    unfold Rel
    exact ⟨rfl, rfl⟩
  by_cases hf : 2 ≤ f ∧ f ≤ 64
  · cases l with
    | nil =>
      refine (g87_none f A c hf w).mono ?_
      rintro e w' ⟨rfl, h1, h2⟩
      exact fin _ _ (by unfold chkW; rw [if_pos hf]; rfl) h1 h2
    | cons x t =>
      obtain ⟨ad, rfl, hok, hlt, hE⟩ := hxs (by simp)
      have hg := fun i x' => hE.get i x'
      have hcell : ∀ i (h : i < (x :: t).length), w.cell? (ad.add (i * 2)) = some (.int .i64 (x :: t)[i].unit) ∧ w.cell? (ad.add (i * 2 + 1)) = some (.int .i64 (x :: t)[i].share) := by
        intro i hi
        obtain ⟨y, hy, _, _, hyc⟩ := hE.get i (x :: t)[i].tv (by rw [List.getElem?_map, List.getElem?_eq_getElem hi]; rfl)
        simp only [Want.tv, Rel, RelL] at hy
        obtain ⟨ys, rfl, _, u, us, rfl, ⟨_, rfl⟩, u', us', rfl, ⟨_, rfl⟩, rfl⟩ := hy
        have h0 := hyc 0 _ rfl
        have h1 := hyc 1 _ rfl
        rw [Nat.zero_add] at h0 h1
        exact ⟨h0, h1⟩
      have hsp := spot_none (hcell 0 (by simp)).1
      have had : ad = ⟨ad.block, ad.off, none⟩ := by
        have := congrArg Addr.spot hsp
        obtain ⟨b, o, s⟩ := ad
        simp only [Addr.add] at this
        subst this; rfl
      rw [had]
      refine (g87_some f ad.block ad.off c (x :: t) (chkW f (x :: t)) hf hl w hlt (fun i hi => ?_) (fun k hk hz hn => ?_) (fun hz => ?_)).mono ?_
      · have := hcell i hi
        rw [had, Addr.add_lit, Addr.add_lit] at this
        exact ⟨this.1, this.2⟩
      · unfold chkW
        rw [if_pos hf, range_first hk (fun j hj => by rw [errAt_at (by omega)]; exact hz j hj) (by rw [errAt_at hk]; exact hn), errAt_at hk]
      · unfold chkW
        rw [if_pos hf, range_zero (fun j hj => by rw [errAt_at hj]; exact hz j hj)]
      · rintro e w' ⟨rfl, h1, h2⟩
        exact fin _ _ rfl h1 h2
  · refine (g87_bad f _ hf w).mono ?_
    rintro e w' ⟨rfl, h1, h2⟩
    exact fin _ _ (by unfold chkW; rw [if_neg hf]) h1 h2
end Go.Proofs.Ytjmjolefhcjedaa.Vc
