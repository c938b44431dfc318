/- Places put into a row and taken out of it, and a row of wants sorted. -/
import Derived.Test.YtjmjolefhcjedaaVx
import Derived.WalkKit
import Derived.Deep.RegionLaw
import Derived.Lib.SliceRun
import Derived.Laws.IdiomCopy
import Derived.Deep.MidRow
import Derived.Test.YtjmjolefhcjedaaProg
import Derived.KernelRfl
import Derived.Lib.AppendZerosOnto
import Derived.Lib.Overlaps
import Derived.Shelf.Spec.SlicesInsert
import Derived.Laws.NewBlocks
import Derived.Maps.AppendAt
import Derived.Shelf.SlSortCmp.NoneTotal
import Derived.Shelf.SlGeneric
import Derived.Ground.SlsfProg
import Derived.Ground.NamesProg
import Derived.Test.YtjmjolefhcjedaaNa
namespace Go.Proofs.Ytjmjolefhcjedaa.Vc
open Go Go.RowKit Go.Lib Go.Proofs Go.Proofs.Try

theorem heap_setCell {w : World} {g o : Nat} {v : Value} {cur : Array Value} {ty : TypeId} {fz : Nat × Nat} (hg : w.heap[g]? = some (.cells cur ty fz)) : (w.setCell ⟨g, o, none⟩ v).heap[g]? = some (.cells (cur.setIfInBounds o v) ty fz) := by
  have hlt := (Array.getElem?_eq_some_iff.1 hg).1
  simp only [World.setCell, Array.getElem?_modify, hg]
  simp
theorem setCells_block : ∀ (vs : List Value) (o : Nat) (w : World) (g : Nat) (cur : Array Value) (ty : TypeId) (fz : Nat × Nat), w.heap[g]? = some (.cells cur ty fz) → o + vs.length ≤ cur.size →
    (w.setCells g o vs).heap[g]? = some (.cells (setL cur.toList o vs).toArray ty fz)
  | [], o, w, g, cur, ty, fz, hg, hfit => by
    simp only [World.setCells, setL, List.append_nil, List.length_nil, Nat.add_zero, List.take_append_drop]
    exact hg
  | v :: vs, o, w, g, cur, ty, fz, hg, hfit => by
    simp only [List.length_cons] at hfit
    simp only [World.setCells]
    rw [setCells_block vs (o + 1) _ g _ ty fz (heap_setCell hg) (by simp; omega)]
    congr 2
    apply Array.ext'
    simp only [Array.toList_setIfInBounds]
    unfold setL
    simp only [List.length_cons]
    have h1 : (cur.toList.set o v).take (o + 1) = cur.toList.take o ++ [v] := by
      rw [List.take_succ_eq_append_getElem (by simp; omega)]
      simp [List.take_set]
      rw [List.set_eq_of_length_le (by simp; omega)]
    have h2 : (cur.toList.set o v).drop (o + 1 + vs.length) = cur.toList.drop (o + (vs.length + 1)) := by
      rw [List.drop_set_of_lt (by omega), show o + 1 + vs.length = o + (vs.length + 1) by omega]
    rw [h1, h2]
    simp
theorem setCells_other (vs : List Value) (o : Nat) (w : World) (g : Nat) {k : Nat} (hk : k ≠ g) : (w.setCells g o vs).heap[k]? = w.heap[k]? := by
  induction vs generalizing o w with
  | nil => rfl
  | cons v vs ih =>
    simp only [World.setCells]
    rw [ih]
    simp only [World.setCell, Array.getElem?_modify]
    rw [if_neg (by omega)]
theorem setCells_size (vs : List Value) (o : Nat) (w : World) (g : Nat) : (w.setCells g o vs).heap.size = w.heap.size := by
  induction vs generalizing o w with
  | nil => rfl
  | cons v vs ih => simp only [World.setCells]; rw [ih]; simp [World.setCell]
theorem setCells_rest (vs : List Value) (o : Nat) (w : World) (g : Nat) : (w.setCells g o vs).os = w.os ∧ (w.setCells g o vs).tape = w.tape ∧ (w.setCells g o vs).output = w.output := by
  induction vs generalizing o w with
  | nil => exact ⟨rfl, rfl, rfl⟩
  | cons v vs ih => simp only [World.setCells]; exact ih _ _

theorem setCells_drawn (vs : List Value) (o : Nat) (w : World) (g : Nat) : (w.setCells g o vs).drawn = w.drawn := by
  induction vs generalizing o w with
  | nil => rfl
  | cons v vs ih => simp only [World.setCells]; exact ih _ _
/-- 'clear(s)' of one element. -/
theorem run_clear1 {P : Program} (w : World) (t e ty : TypeId) (z : Value) (ht : P.underlying t = some (.slice e)) (hv : ∀ w, (zeroValue e).run P w = .ok z w) (_h0 : 0 < z.cells.size) (b o c : Nat)
    (hc : ∀ j, j < z.cells.size → (w.cell? ⟨b, o + j, none⟩).isSome = true) (hf : ∀ j, j < z.cells.size → w.frozen? ⟨b, o + j, none⟩ = false) (h1 : ∀ u ∈ z.cells.toList, u.oneCell' = true) :
    (Builtin.clear_ #[t] ty #[.slice (some ⟨b, o, none⟩) 1 c]).run P w = .ok (.tuple #[]) (w.setCells b o z.cells.toList) := by
  have hzc : (Builtin.zeroCells z.cells 1).toList = z.cells.toList := by
    simp [Builtin.zeroCells]
    apply List.ext_getElem
    · simp
    · intro i h1 h2
      simp at h2
      simp [Nat.mod_eq_of_lt h2]
      rw [getElem!_pos z.cells i h2]
  have hst := run_storeCells_cells (P := P) b o z.cells.toList 0 w (by simpa using hc) (by simpa using hf) h1
  simp only [Nat.add_zero] at hst
  simp [Builtin.clear_, run_underlying ht, hv, hzc, hst]
def zPlace : Value := .agg #[.int .i64 0, .int .i64 0, .int .i64 0, .slice none 0 0]
set_option maxHeartbeats 4000000 in
set_option maxRecDepth 1000000 in
theorem delete_run (g n cap i : Nat) (cs : List Value) (w : World) (hcl : cs.length = n * 4) (hcell : ∀ t u, cs[t]? = some u → w.cell? ⟨g, t, none⟩ = some u) (hfz : ∀ t, w.frozen? ⟨g, t, none⟩ = false) (hi : i < n) (hcap : n ≤ cap) (_hm : cap ≤ 9223372036854775807) (h1c : ∀ u ∈ cs, u.oneCell' = true) :
    Calls prog 113 #[.slice (some ⟨g, 0, none⟩) n cap, .int .i64 i, .int .i64 (i + 1)] w fun e w' => e = .returned (.slice (some ⟨g, 0, none⟩) (n - 1) cap) ∧
      w' = ((w.drew.setCells g (i * 4) (cs.drop ((i + 1) * 4))).setCells g ((n - 1) * 4) zPlace.cells.toList) := by
  obtain ⟨i0, hi0, hz1⟩ : ∃ i0, prog.info? 34 = some i0 ∧ i0.size = 4 := by
    have hinfo : (prog.info? 34).map (fun i => i.size) = some 4 := by kernel_rfl
    simp only [Option.map_eq_some_iff] at hinfo
    exact hinfo
  obtain ⟨news, hnews⟩ : ∃ news, news = cs.drop ((i + 1) * 4) := ⟨_, rfl⟩
  have hlen : news.length = (n - (i + 1)) * 4 := by rw [hnews, List.length_drop, hcl]; omega
  have hget : ∀ t u, news[t]? = some u → w.drew.cell? ⟨g, (i + 1) * 4 + t, none⟩ = some u := fun t u hu => by
    rw [hnews, List.getElem?_drop] at hu
    exact hcell _ u hu
  obtain ⟨A, hA, hsrc⟩ : ∃ A : Addr, (if cap = i + 1 then some (⟨g, 0, none⟩ : Addr) else some ⟨g, (i + 1) * 4, none⟩) = some A ∧ Hid (∀ t u, news[t]? = some u → w.drew.cell? (A.add t) = some u) := by
    by_cases h : cap = i + 1
    · refine ⟨⟨g, 0, none⟩, by simp [h], fun t u hu => ?_⟩
      have h0 : news.length = 0 := by rw [hlen]; omega
      rw [List.length_eq_zero_iff.1 h0] at hu
      simp at hu
    · refine ⟨⟨g, (i + 1) * 4, none⟩, by simp [h], fun t u hu => ?_⟩
      rw [Addr.add_lit]; exact hget t u hu
  have s2 : Hid (∀ u ∈ news, u.oneCell' = true) := by
    intro u hu; rw [hnews] at hu; exact h1c u (List.mem_of_mem_drop hu)
  have s3 : Hid (∀ t, t < news.length → (w.drew.cell? ⟨g, 0 + i * 4 + t, none⟩).isSome = true ∧ w.drew.frozen? ⟨g, 0 + i * 4 + t, none⟩ = false) := by
    intro t ht
    rw [hlen] at ht
    have h5 : i * 4 + t < cs.length := by rw [hcl]; omega
    refine ⟨?_, hfz _⟩
    rw [Nat.zero_add]
    show (w.cell? _).isSome = true
    rw [hcell (i * 4 + t) cs[i * 4 + t] (List.getElem?_eq_getElem h5)]; rfl
  have s1 : Hid (news.length = (n - (i + 1)) * 4) := hlen
  obtain ⟨W1, hW1⟩ : ∃ W1, W1 = w.drew.setCells g (0 + i * 4) news := ⟨_, rfl⟩
  have hW : Hid (W1 = w.drew.setCells g (0 + i * 4) news) := hW1
  have hT : Hid (∀ t, t < n * 4 → (W1.cell? ⟨g, t, none⟩).isSome = true ∧ W1.frozen? ⟨g, t, none⟩ = false) := by
    intro t ht
    rw [hW1]
    refine ⟨World.isSome_setCells _ _ _ _ _ ?_, by rw [World.frozen?_setCells]; exact hfz _⟩
    show (w.cell? _).isSome = true
    rw [hcell t cs[t] (List.getElem?_eq_getElem (by rw [hcl]; exact ht))]; rfl
  have e1 : i + (n - (i + 1)) = n - 1 := by omega
  have hclr : ∀ ty, (Builtin.clear_ #[23] ty #[.slice (some ⟨g, (i + (n - (i + 1))) * 4, none⟩) (n - (i + (n - (i + 1)))) (cap - (i + (n - (i + 1))))]).run prog W1 = .ok (.tuple #[]) (W1.setCells g ((n - 1) * 4) zPlace.cells.toList) := fun ty => by
    rw [e1, show n - (n - 1) = 1 by omega]
    exact run_clear1 W1 23 34 ty zPlace Try.underlying23 (fun w => by kernel_rfl) (by decide) g ((n - 1) * 4) _ (fun j hj => (hT.out _ (by have : zPlace.cells.size = 4 := rfl; omega)).1) (fun j hj => (hT.out _ (by have : zPlace.cells.size = 4 := rfl; omega)).2) (by decide)
  have E1 : Hid (i + (n - (i + 1)) = n - 1) := e1
  clear e1
  obtain ⟨Z, hZ⟩ : ∃ Z, Z = zPlace.cells.toList := ⟨_, rfl⟩
  rw [← hZ] at hclr
  have HZ : Hid (Z = zPlace.cells.toList) := hZ
  clear hZ
  have HN : Hid (news = cs.drop ((i + 1) * 4)) := hnews
  have hic : i ≤ cap := by omega
  have hjc : i + 1 ≤ cap := by omega
  have hb0 : (0 : Int) ≤ (i : Int) + 1 := by omega
  have hb1 : (i : Int) + 1 ≤ (n : Int) := by omega
  clear hT hW1 hget hnews hlen hcell hfz hcl h1c
  go_enter Try.func113, Try.ntmps113
  go_wp2_with fail
  go_region_law (refine step_append_room rfl (.tmp 22) (.tmp 25) 23 rfl 34 i0 4 Try.underlying23 hi0 hz1 g 0 i cap (by simp [Act.eval, Act.put]) A (n - (i + 1)) (cap - (i + 1)) news (by simp [Act.eval, Act.put]) s1.out hsrc.out s2.out (by omega) s3.out ?_; rw [← hW.out])
  go_wp2
  go_ret
  refine ⟨by rw [E1.out]; rfl, ?_⟩
  rw [hW.out, Nat.zero_add, HZ.out, HN.out]

theorem RelF.take {w : World} {ok : Nat → Prop} {E : Nat → Value} {sz : Nat} {xs : List TV} {cs : List Value} (h : RelF w ok E sz xs cs) {i : Nat} (hi : i ≤ xs.length) : RelF w ok E sz (xs.take i) (cs.take (i * sz)) := by
  have hm : i * sz ≤ xs.length * sz := Nat.mul_le_mul_right sz hi
  refine ⟨by rw [List.length_take, List.length_take, h.1, Nat.min_eq_left hi, Nat.min_eq_left hm], fun k x hk => ?_⟩
  rw [List.getElem?_take] at hk
  split at hk
  · rename_i hki
    obtain ⟨y, h1, h2, h3, h4⟩ := h.2 k x hk
    refine ⟨y, h1, h2, h3, fun j u hj => ?_⟩
    have hjs : j < sz := by rw [← h2]; exact (List.getElem?_eq_some_iff.1 hj).1
    have hlt : k * sz + j < i * sz := by
      have : (k + 1) * sz ≤ i * sz := Nat.mul_le_mul_right sz (by omega)
      rw [Nat.succ_mul] at this; omega
    rw [List.getElem?_take, if_pos hlt]; exact h4 j u hj
  · cases hk
theorem RelF.drop {w : World} {ok : Nat → Prop} {E : Nat → Value} {sz : Nat} {xs : List TV} {cs : List Value} (h : RelF w ok E sz xs cs) (i : Nat) : RelF w ok E sz (xs.drop i) (cs.drop (i * sz)) := by
  refine ⟨by rw [List.length_drop, List.length_drop, h.1, Nat.sub_mul], fun k x hk => ?_⟩
  rw [List.getElem?_drop] at hk
  obtain ⟨y, h1, h2, h3, h4⟩ := h.2 (i + k) x hk
  refine ⟨y, h1, h2, h3, fun j u hj => ?_⟩
  rw [List.getElem?_drop, show i * sz + (k * sz + j) = (i + k) * sz + j by rw [Nat.add_mul]; omega]
  exact h4 j u hj
theorem RelF.one {w : World} {ok : Nat → Prop} {E : Nat → Value} {sz : Nat} {xs : List TV} {cs : List Value} (h : RelF w ok E sz xs cs) : ∀ u ∈ cs, u.oneCell' = true := by
  intro u hu
  obtain ⟨t, ht, rfl⟩ := List.getElem_of_mem hu
  rw [h.1] at ht
  have hsz : 0 < sz := by
    rcases Nat.eq_zero_or_pos sz with h0 | h0
    · subst h0; simp at ht
    · exact h0
  have hk : t / sz < xs.length := by rwa [Nat.div_lt_iff_lt_mul hsz]
  obtain ⟨y, h1, h2, h3, h4⟩ := h.2 (t / sz) xs[t / sz] (List.getElem?_eq_getElem hk)
  have hj : t % sz < y.cells.toList.length := by rw [h2]; exact Nat.mod_lt _ hsz
  have h5 := h4 (t % sz) y.cells.toList[t % sz] (List.getElem?_eq_getElem hj)
  rw [show t / sz * sz + t % sz = t by rw [Nat.mul_comm]; exact Nat.div_add_mod t sz] at h5
  obtain ⟨_, h6⟩ := List.getElem?_eq_some_iff.1 h5
  rw [h6]; exact h3 _ (List.getElem_mem hj)
/-- A row's cells, where it lies. -/
theorem row_cell {w : World} {g : Nat} {cur : Array Value} {ty : TypeId} {m : Nat} {cs : List Value} (hb : w.heap[g]? = some (.cells cur ty (0, 0))) (ht : cur.toList.take m = cs) : ∀ t u, cs[t]? = some u → w.cell? ⟨g, t, none⟩ = some u := by
  intro t u hu
  subst ht
  rw [List.getElem?_take] at hu
  split at hu
  · simp [World.cell?, hb]; simpa using hu
  · cases hu
theorem row_frozen {w : World} {g : Nat} {cur : Array Value} {ty : TypeId} (hb : w.heap[g]? = some (.cells cur ty (0, 0))) (t : Nat) : w.frozen? ⟨g, t, none⟩ = false := by
  simp [World.frozen?, hb]
theorem setL_take {α : Type} (l : List α) (o : Nat) (c : List α) (h : o + c.length ≤ l.length) : (setL l o c).take (o + c.length) = l.take o ++ c := by
  unfold setL
  rw [List.take_append_of_le_length (by simp; omega), List.take_of_length_le (by simp; omega)]
theorem setL_take_le {α : Type} (l : List α) (o : Nat) (c : List α) {m : Nat} (h : m ≤ o) (ho : o ≤ l.length) : (setL l o c).take m = l.take m := by
  unfold setL
  rw [List.append_assoc, List.take_append_of_le_length (by simp; omega), List.take_take, Nat.min_eq_left h]
theorem relL_ints {w : World} {ok : Nat → Prop} {E : Nat → Value} {a b : Int} {vs : List Value} (h : RelL w ok E noObs [tI a, tI b] vs) : vs = [.int .i64 a, .int .i64 b] := by
  simp only [RelL, Rel] at h
  obtain ⟨u, us, rfl, ⟨_, rfl⟩, u', us', rfl, ⟨_, rfl⟩, rfl⟩ := h
  rfl
set_option maxHeartbeats 2000000 in
theorem g113 (xs : List TV) (i : Nat) (hi : i < xs.length) : SpecG prog 113 34 4 xs [tI i, tI (i + 1 : Nat)] (xs.eraseIdx i) := by
  refine ⟨⟨f113, _, Try.func113, rfl, rfl⟩, fun w ok E v cs vs hown hF hnot hargs => ?_⟩
  obtain rfl := relL_ints hargs
  obtain ⟨hcl, hown⟩ := hown
  rcases hown with ⟨_, h0⟩ | ⟨g, cap, cur, rfl, _, hb, hnc, hcm, hsz, htake⟩
  · omega
  have hm : cap ≤ 9223372036854775807 := by unfold maxLen at hcm; exact hcm
  have hrun := delete_run g xs.length cap i cs w hcl (row_cell hb htake) (row_frozen hb) hi hnc hm hF.one
  refine hrun.mono ?_
  rintro e w' ⟨rfl, rfl⟩
  have hcs4 : cs.length = xs.length * 4 := hcl
  have hcur : cur.toList.length = cap * 4 := by rw [Array.length_toList]; exact hsz
  have hb1 := setCells_block (cs.drop ((i + 1) * 4)) (i * 4) w.drew g cur 34 (0, 0) hb (by rw [List.length_drop, hcs4, hsz]; omega)
  have hl1 : (setL cur.toList (i * 4) (cs.drop ((i + 1) * 4))).length = cap * 4 := by rw [setL_length _ _ _ (by rw [hcur, List.length_drop, hcs4]; omega), hcur]
  have hz4 : zPlace.cells.toList.length = 4 := rfl
  have hb2 := setCells_block zPlace.cells.toList ((xs.length - 1) * 4) _ g _ 34 (0, 0) hb1 (by rw [hz4]; simp only [List.size_toArray, hl1]; omega)
  have hks : ∀ k, k ≠ g → ((w.drew.setCells g (i * 4) (cs.drop ((i + 1) * 4))).setCells g ((xs.length - 1) * 4) zPlace.cells.toList).heap[k]? = w.heap[k]? := fun k hk => by
    rw [setCells_other _ _ _ _ hk, setCells_other _ _ _ _ hk]; rfl
  have hss : ((w.drew.setCells g (i * 4) (cs.drop ((i + 1) * 4))).setCells g ((xs.length - 1) * 4) zPlace.cells.toList).heap.size = w.heap.size := by rw [setCells_size, setCells_size]; rfl
  obtain ⟨r1, r2, r3⟩ := setCells_rest zPlace.cells.toList ((xs.length - 1) * 4) (w.drew.setCells g (i * 4) (cs.drop ((i + 1) * 4))) g
  obtain ⟨r4, r5, r6⟩ := setCells_rest (cs.drop ((i + 1) * 4)) (i * 4) w.drew g
  have hel : (xs.eraseIdx i).length = xs.length - 1 := by rw [List.length_eraseIdx, if_pos hi]
  refine ⟨_, cs.take (i * 4) ++ cs.drop ((i + 1) * 4), rfl, ⟨?_, .inr ⟨g, cap, _, by rw [hel], Nat.zero_le _, hb2, by rw [hel]; omega, hcm, ?_, ?_⟩⟩, fun ok' E' hk => ?_, ⟨by rw [r1, r4]; rfl, by rw [r2, r5]; rfl, by rw [r3, r6]; rfl, by rw [hss]; exact Nat.le_refl _, fun k _ hkg => hks k (by rintro rfl; exact hkg rfl)⟩, .inl rfl, by rw [setCells_drawn, setCells_drawn]; exact Nat.le_succ _⟩
  · rw [hel, List.length_append, List.length_take, List.length_drop, hcs4]; omega
  · rw [List.size_toArray, setL_length _ _ _ (by rw [List.toList_toArray, hl1, hz4]; omega), List.toList_toArray, hl1]
  · rw [hel, List.toList_toArray, List.toList_toArray, setL_take_le _ _ _ (Nat.le_refl _) (by rw [hl1]; omega)]
    have e : (xs.length - 1) * 4 = i * 4 + (cs.drop ((i + 1) * 4)).length := by rw [List.length_drop, hcs4]; omega
    rw [e, setL_take _ _ _ (by rw [hcur, List.length_drop, hcs4]; omega)]
    congr 1
    rw [← htake, List.take_take, Nat.min_eq_left (by omega)]
  · rw [List.eraseIdx_eq_take_drop_succ]
    have hI := hF.imp (ok' := ok') (w' := _) (E' := E') hk (by rw [hss]; exact Nat.le_refl _)
    exact (hI.take (by omega)).append (hI.drop (i + 1))
end Go.Proofs.Ytjmjolefhcjedaa.Vc

namespace Go.Proofs.Ytjmjolefhcjedaa.Vc
open Go Go.RowKit Go.Lib Go.Proofs Go.Proofs.Try

/-- 'copy' of whole elements: all is read ahead of what is written. -/
theorem run_copy_sz {P : Program} (w : World) (dT sT ty elem : TypeId) (b o dLen dCap : Nat) (a : Addr) (sLen sCap : Nat) (cs : List Value) (i : TypeInfo)
    (hu : P.underlying dT = some (.slice elem)) (hi : P.info? elem = some i) (hn : cs.length = Nat.min sLen dLen * i.size)
    (hsrc : ∀ j v, cs[j]? = some v → w.cell? (a.add j) = some v) (hc : ∀ j, j < cs.length → (w.cell? ⟨b, o + j, none⟩).isSome = true) (hf : ∀ j, j < cs.length → w.frozen? ⟨b, o + j, none⟩ = false) (h1 : ∀ v ∈ cs, v.oneCell' = true) :
    (Builtin.copy_ #[dT, sT] ty #[.slice (some ⟨b, o, none⟩) dLen dCap, .slice (some a) sLen sCap]).run P w = .ok (goInt (Nat.min sLen dLen)) (w.setCells b o cs) := by
  have hl := run_loadCells_list (P := P) w a cs hsrc
  have hst := run_storeCells_cells (P := P) b o cs 0 w (by simpa using hc) (by simpa using hf) h1
  simp [Builtin.copy_, run_underlying hu, Builtin.lenOf, Builtin.firstCells, sizeOf, typeInfo, hi, ← hn, hl, hst]

theorem run_overlaps_own {P : Program} (w : World) (tS tR e : TypeId) (ht : P.underlying tS = some (.slice e)) (size : Nat) (hz : ∀ w, (Go.sizeOf e).run P w = .ok size w)
    (a b : Addr) (la ca lb cb : Nat) (hne : a.block ≠ b.block) (tA tB : TypeId) (kA kB : Nat)
    (hsa : w.shape? a.block = some (tA, kA)) (hsb : w.shape? b.block = some (tB, kB)) (hkB : kB ≠ 0) (hkA : kA ≠ 0)
    (hfb : w.frozen? b = false) (hfe : w.frozen? { block := b.block, off := kB } = false) :
    (Extern.SlicesOverlaps.overlaps #[tS, tS] #[tR] #[.slice (some a) la ca, .slice (some b) lb cb]).run P w = .ok (.bool false) w := by
  have hnb : (a.block != b.block) = true := by simpa using hne
  have hnb' : (a.block == b.block) = false := by simpa using hne
  change Sem.run P (α := Value) (do
    let some t := (#[tS, tS] : Array TypeId)[0]? | stuck "slices.overlaps: no parameter types"
    let .slice elem ← underlying t | stuck "slices.overlaps: slice type expected"
    let size ← sizeOf elem
    match (some a : Option Addr), (some b : Option Addr) with
    | some a, some b =>
      if la = 0 ∨ lb = 0 ∨ size = 0 then pure (Value.bool false)
      else if a.block != b.block && (← frozen a) && (← frozen b) then unsupported .addressObserved
      else do
        if a.block != b.block then do
          noView a; noView b
          if ← mayBeOne a b then return Value.bool ((← choose (.extern "sameAddr.stringBytes" 2)) == 1)
        pure (Value.bool (a.block == b.block && a.off < b.off + lb * size && b.off < a.off + la * size))
    | _, _ => pure (Value.bool false)) w = _
  by_cases h0 : la = 0 ∨ lb = 0 ∨ size = 0
  · simp [run_underlying ht, hz, h0]
  · cases kB with
    | zero => exact absurd rfl hkB
    | succ kB =>
      obtain ⟨kA, rfl⟩ : ∃ k, kA = k + 1 := ⟨kA - 1, by omega⟩
      cases h1 : w.frozen? a <;> cases h2 : w.frozen? { block := a.block, off := kA + 1 } <;>
        simp [run_underlying ht, hz, h0, hnb, hnb', frozen, noView, viewAt, mayBeOne, stringish, shape, Sem.run, hsa, hsb, hfb, hfe, h1, h2]

theorem place_info : ∃ i0 : TypeInfo, prog.info? 34 = some i0 ∧ i0.size = 4 ∧ i0.zero = some zPlace ∧ i0.bytes = 48 := by
  have hinfo : (prog.info? 34).map (fun i => (i.size, i.bytes)) = some (4, 48) := by kernel_rfl
  have hz : (prog.info? 34).map (fun i => i.zero) = some (some zPlace) := by kernel_rfl
  simp only [Option.map_eq_some_iff] at hinfo hz
  obtain ⟨i0, h1, h2⟩ := hinfo
  obtain ⟨i1, h3, h4⟩ := hz
  rw [h1] at h3; obtain rfl := Option.some.inj h3
  simp only [Prod.mk.injEq] at h2
  exact ⟨i0, h1, h2.1, h4, h2.2⟩

set_option maxHeartbeats 4000000 in
set_option maxRecDepth 1000000 in
theorem insert_end (v : Value) (n cap : Nat) (A : Option Addr) (hv : v = .slice A n cap) (a : Addr) (vc : Nat) (cs vs : List Value) (w : World) (hown : w.ownsRow 0 34 4 v n cs) (hvl : vs.length = 1 * 4)
    (hvs : ∀ t u, vs[t]? = some u → w.cell? (a.add t) = some u) (h1v : ∀ u ∈ vs, u.oneCell' = true) (hb : n ≤ 1000000000) :
    Calls prog 128 #[v, .int .i64 n, .slice (some a) 1 vc] w fun e w' => ∃ v', e = .returned v' ∧ w'.ownsRow 0 34 4 v' (n + 1) (cs ++ vs) ∧ w.grownBy w' v.ownBlock ∧ (v'.ownBlock = v.ownBlock ∨ v'.ownBlock = some w.heap.size) ∧ w.drawn ≤ w'.drawn := by
  obtain ⟨i0, hi0, hz1, hz, hby⟩ := place_info
  obtain ⟨v', w', hr, h2, h3, _, h4⟩ := run_append_own_at (P := prog) w 0 23 23 34 i0 zPlace 4 48 Try.underlying23 hi0 hz hz1 hby rfl (by decide) v n cs hown a 1 vc vs hvl hvs h1v (by unfold maxLen; omega) (by omega) (Nat.zero_le _)
  subst hv
  have hr' : Hid ((Builtin.append_ #[23, 23] 23 #[.slice A n cap, .slice (some a) 1 vc]).run prog w = .ok v' w') := hr
  have hG : Hid (w'.ownsRow 0 34 4 v' (n + 1) (cs ++ vs) ∧ w.grownBy w' (Value.ownBlock (.slice A n cap)) ∧ (v'.ownBlock = Value.ownBlock (.slice A n cap) ∨ v'.ownBlock = some w.heap.size) ∧ w.drawn ≤ w'.drawn) := ⟨h2, h3, h4, run_drawn _ _ hr⟩
  clear hr h2 h3 h4 hown hvs h1v hi0
  have hn0 : (0 : Int) ≤ (n : Int) := by omega
  have hnm : (n : Int) ≤ 9223372036854775807 := by omega
  go_enter Try.func128, Try.ntmps128
  go_wp2_with (at_builtin; refine Lib.wpList_append_run _ rfl _ _ _ _ rfl _ _ rfl rfl _ _ hr'.out ?_)
  all_goals (go_ret; refine ⟨v', rfl, hG.out.1, ?_⟩; have h9 := hG.out.2; cases A <;> exact h9)

set_option maxHeartbeats 4000000 in
set_option maxRecDepth 1000000 in
theorem insert_shift (g n cap i vb voff m vc : Nat) (cs vs : List Value) (w : World) (cur : Array Value) (hm0 : 0 < m) (hi : i < n) (hroom : n + m ≤ cap) (hc63 : cap ≤ 9223372036854775807) (hvb : vb ≠ g)
    (hcl : cs.length = n * 4) (hvl : vs.length = m * 4) (hg : w.heap[g]? = some (.cells cur 34 (0, 0))) (hcur : cur.size = cap * 4)
    (hcs : ∀ j v, cs[j]? = some v → w.cell? ⟨g, j, none⟩ = some v)
    (hvs : ∀ j v, vs[j]? = some v → w.cell? ⟨vb, voff + j, none⟩ = some v) (h1c : ∀ v ∈ cs, v.oneCell' = true) (h1v : ∀ v ∈ vs, v.oneCell' = true) :
    Calls prog 128 #[.slice (some ⟨g, 0, none⟩) n cap, .int .i64 i, .slice (some ⟨vb, voff, none⟩) m vc] w fun e w' =>
      e = .returned (.slice (some ⟨g, 0, none⟩) (n + m) cap) ∧ w' = (w.drew.setCells g ((i + m) * 4) (cs.drop (i * 4))).setCells g (i * 4) vs := by
  obtain ⟨i0, hi0, hz1, hz, hby⟩ := place_info
  have hfz : ∀ t, w.frozen? ⟨g, t, none⟩ = false := row_frozen hg
  have hsp : ∀ t, t < (n + m) * 4 → (w.cell? ⟨g, t, none⟩).isSome = true := fun t ht => by
    have : t < cur.size := by rw [hcur]; omega
    simp [World.cell?, hg, this]
  have hz1 : ¬ ((m : Int) = 0) := by omega
  have hz2 : ¬ ((i : Int) = (n : Int)) := by omega
  obtain ⟨tA, kA, hsa, hkA⟩ : ∃ tA kA, w.shape? vb = some (tA, kA) ∧ kA ≠ 0 := by
    have h0 := hvs 0 _ (List.getElem?_eq_getElem (by omega))
    unfold World.cell? at h0
    unfold World.shape?
    split at h0
    · rename_i c e fz hh
      simp only [hh]
      have h3 : c[voff + 0]? = some _ := h0
      refine ⟨_, _, rfl, fun h => ?_⟩
      have h4 := (Array.getElem?_eq_some_iff.1 h3).1
      omega
    · cases h0
  have hsz : ∀ w, (Go.sizeOf 34).run prog w = .ok 4 w := fun w => by kernel_rfl
  have hov : ∀ lb cb, (callFunc 154 #[.slice (some ⟨vb, voff, none⟩) m vc, .slice (some ⟨g, (i + m) * 4, none⟩) lb cb]).run prog w = .ok (.value (.bool false)) w := fun lb cb => by
    rw [run_callFunc_extern Try.func154 (by kernel_rfl) (by kernel_rfl) (by kernel_rfl) (e := Extern.SlicesOverlaps.overlaps #[23, 23] #[4]) (by kernel_rfl),
      run_overlaps_own w 23 4 34 Try.underlying23 4 hsz ⟨vb, voff, none⟩ ⟨g, (i + m) * 4, none⟩ m vc lb cb hvb tA 34 kA cur.size hsa (by simp [World.shape?, hg]) (by omega) hkA (hfz _) (hfz _)]
    rfl
  have hdl : (cs.drop (i * 4)).length = (n - i) * 4 := by rw [List.length_drop, hcl]; omega
  have hw1 : IntKind.i64.wrap ((i : Int) + (m : Int)) = (i : Int) + (m : Int) := by rw [IntKind.wrap_i64]; omega
  have hb1 : (0 : Int) ≤ (i : Int) + (m : Int) := by omega
  have hin : i ≤ n := by omega
  have htn : ((i : Int) + (m : Int)).toNat = i + m := by omega
  have hb2 : ¬ (cap = i + m) := by omega
  have hb3 : (i : Int) ≤ (n : Int) + (m : Int) := by omega
  have hb4 : ¬ (cap = i) := by omega
  have hi4 : i0.size = 4 := by assumption
  have hcp1 : ∀ ty dc sc, (Builtin.copy_ #[23, 23] ty #[.slice (some ⟨g, (i + m) * 4, none⟩) (n + m - (i + m)) dc, .slice (some ⟨g, i * 4, none⟩) (n + m - i) sc]).run prog w.drew = .ok (goInt (Nat.min (n + m - i) (n + m - (i + m)))) (w.drew.setCells g ((i + m) * 4) (cs.drop (i * 4))) := fun ty dc sc =>
    run_copy_sz w.drew _ _ ty 34 g ((i + m) * 4) (n + m - (i + m)) dc ⟨g, i * 4, none⟩ (n + m - i) sc (cs.drop (i * 4)) i0 Try.underlying23 hi0 (by rw [hdl, hi4]; simp only [Nat.min_def]; split <;> omega)
      (fun j v hj => by rw [Addr.add_lit]; exact hcs (i * 4 + j) v (by rwa [List.getElem?_drop] at hj))
      (fun j hj => hsp _ (by omega)) (fun j hj => hfz _) (fun v hv => h1c v (List.mem_of_mem_drop hv))
  obtain ⟨W1, hW1⟩ : ∃ W1, W1 = w.drew.setCells g ((i + m) * 4) (cs.drop (i * 4)) := ⟨_, rfl⟩
  have hsp1 : ∀ k, k < (n + m) * 4 → (W1.cell? ⟨g, k, none⟩).isSome = true := fun k hk => by
    rw [hW1]
    exact World.isSome_setCells _ _ _ _ _ (hsp k hk)
  have hcp2 : ∀ (W : World), (∀ x, W.cell? x = W1.cell? x) → (∀ x, W.frozen? x = W1.frozen? x) → ∀ ty dc, (Builtin.copy_ #[23, 23] ty #[.slice (some ⟨g, i * 4, none⟩) (n + m - i) dc, .slice (some ⟨vb, voff, none⟩) m vc]).run prog W = .ok (goInt (Nat.min m (n + m - i))) (W.setCells g (i * 4) vs) := fun W hWc hWf ty dc =>
    run_copy_sz W _ _ ty 34 g (i * 4) (n + m - i) dc ⟨vb, voff, none⟩ m vc vs i0 Try.underlying23 hi0 (by rw [hvl, hi4]; simp only [Nat.min_def]; split <;> omega)
      (fun j v hj => by
        rw [Addr.add_lit, hWc, hW1, World.cell?_setCells_out g _ _ _ _ (fun h _ => absurd h hvb)]
        exact hvs j v hj)
      (fun j hj => by rw [hWc]; exact hsp1 _ (by omega)) (fun j hj => by rw [hWf, hW1, World.frozen?_setCells]; exact hfz _) h1v
  rw [← hW1] at hcp1
  have hcp1 : Hid (∀ ty dc sc, (Builtin.copy_ #[23, 23] ty #[.slice (some ⟨g, (i + m) * 4, none⟩) (n + m - (i + m)) dc, .slice (some ⟨g, i * 4, none⟩) (n + m - i) sc]).run prog w.drew = .ok (goInt (Nat.min (n + m - i) (n + m - (i + m)))) W1) := hcp1
  have hcp2 : Hid (∀ (W : World), (∀ x, W.cell? x = W1.cell? x) → (∀ x, W.frozen? x = W1.frozen? x) → ∀ ty dc, (Builtin.copy_ #[23, 23] ty #[.slice (some ⟨g, i * 4, none⟩) (n + m - i) dc, .slice (some ⟨vb, voff, none⟩) m vc]).run prog W = .ok (goInt (Nat.min m (n + m - i))) (W.setCells g (i * 4) vs)) := hcp2
  have hW : Hid (W1 = w.drew.setCells g ((i + m) * 4) (cs.drop (i * 4))) := hW1
  clear hW1 hsp hsp1 hcs hvs h1c h1v hg hcur hfz hsa hi0
  go_enter Try.func128, Try.ntmps128
  go_wp2_with (simp only [hov])
  go_region_law (refine step_copy_runI rfl _ _ 23 23 rfl _ _ (by simp [Act.eval, Act.put]) (by simp [Act.eval, Act.put]) (hcp1.out _ _ _) ?_)
  go_wp2_with (at_builtin; refine wpList_copy_runI _ rfl _ _ 23 23 rfl _ _ rfl rfl (hcp2.out _ (fun _ => rfl) (fun _ => rfl) _ _) ?_)
  go_ret
  first | exact ⟨rfl, rfl⟩ | exact ⟨rfl, by rw [hW.out]⟩
end Go.Proofs.Ytjmjolefhcjedaa.Vc

namespace Go.Proofs.Ytjmjolefhcjedaa.Vc
open Go Go.RowKit Go.Lib Go.Proofs Go.Proofs.Try

set_option maxHeartbeats 4000000 in
set_option maxRecDepth 1000000 in
theorem insert_grow (g n cap i vb voff m vc : Nat) (cs vs : List Value) (w : World) (hm0 : 0 < m) (hi : i < n) (hnc : n ≤ cap) (hroom : cap < n + m) (hbig : (n + m) * 48 ≤ 140737488355328)
    (hcl : cs.length = n * 4) (hvl : vs.length = m * 4)
    (hcs : ∀ j v, cs[j]? = some v → w.cell? ⟨g, j, none⟩ = some v)
    (hvs : ∀ j v, vs[j]? = some v → w.cell? ⟨vb, voff + j, none⟩ = some v) (h1c : ∀ v ∈ cs, v.oneCell' = true) (h1v : ∀ v ∈ vs, v.oneCell' = true) :
    Calls prog 128 #[.slice (some ⟨g, 0, none⟩) n cap, .int .i64 i, .slice (some ⟨vb, voff, none⟩) m vc] w fun e w' =>
      e = .returned (.slice (some ⟨w.heap.size, 0, none⟩) (n + m) (grownCap w (n + m) cap 34)) ∧
      w' = (((w.alloc (.cells ((cs.take (i * 4)).toArray ++ Builtin.zeroCells zPlace.cells (n + m - i) ++ Builtin.zeroCells zPlace.cells (grownCap w (n + m) cap 34 - (n + m))) 34)).drew.setCells w.heap.size (i * 4) vs).drew).setCells w.heap.size ((i + m) * 4) (cs.drop (i * 4)) := by
  obtain ⟨i0, hi0, hi4, hz0, hzb⟩ := place_info
  have hz1 : ¬ ((m : Int) = 0) := by omega
  have hz2 : ¬ ((i : Int) = (n : Int)) := by omega
  have hz3 : (cap : Int) < (n : Int) + (m : Int) := by omega
  have hbw : g < w.heap.size := block_lt_of_cell (hcs 0 _ (List.getElem?_eq_getElem (by omega)))
  have hvw : vb < w.heap.size := block_lt_of_cell (hvs 0 _ (List.getElem?_eq_getElem (by omega)))
  have hkk : (n : Int) + (m : Int) - (i : Int) = ((n + m - i : Nat) : Int) := by omega
  have hik : i + (n + m - i) = n + m := by omega
  have hold : (Builtin.firstCells i0.size i (.slice (some ⟨g, 0, none⟩) i cap)).run prog w.drew = .ok (cs.take (i * 4)).toArray w.drew := by
    rw [hi4]
    exact run_firstCells_some w.drew 4 i ⟨g, 0, none⟩ i cap (cs.take (i * 4)) (by rw [List.length_take]; omega) (fun j v hj => by
      rw [Addr.add_lit, Nat.zero_add]
      rw [List.getElem?_take] at hj
      split at hj
      · exact hcs j v hj
      · cases hj)
  have hrz : ∀ ty, (Builtin.append_ #[23, 3] ty #[.slice (some ⟨g, 0, none⟩) i cap, .int .i64 ((n : Int) + (m : Int) - (i : Int))]).run prog w =
      .ok (.slice (some ⟨w.heap.size, 0, none⟩) (n + m) (grownCap w (n + m) cap 34)) (w.drew.alloc (.cells ((cs.take (i * 4)).toArray ++ Builtin.zeroCells zPlace.cells (n + m - i) ++ Builtin.zeroCells zPlace.cells (grownCap w (n + m) cap 34 - (n + m))) 34)) := fun ty => by
    have h := Lib.run_append_grow_zeros w 23 3 ty 34 i0 _ .i64 .i64 Try.underlying23 Try.underlying3 hi0 hz0 (some ⟨g, 0, none⟩) i cap (cs.take (i * 4)) hold (n + m - i) (by omega) (by omega) (by omega) (by omega) (by rw [hzb]; omega) (by rw [hzb, hik]; exact growslice_fits hroom hbig)
    rw [hik] at h
    rw [hkk]
    exact h
  obtain ⟨G, hG⟩ : ∃ G, G = grownCap w (n + m) cap 34 := ⟨_, rfl⟩
  obtain ⟨ROW, hROW⟩ : ∃ ROW : Array Value, ROW = (cs.take (i * 4)).toArray ++ Builtin.zeroCells zPlace.cells (n + m - i) ++ Builtin.zeroCells zPlace.cells (G - (n + m)) := ⟨_, rfl⟩
  rw [← hG] at hrz ⊢
  rw [← hROW] at hrz ⊢
  have hRl : (n + m) * 4 ≤ ROW.size := by
    rw [hROW]
    have h4 : zPlace.cells.size = 4 := rfl
    simp only [Builtin.zeroCells, Array.size_append, List.size_toArray, List.length_take, Array.size_map, Array.size_range, h4]
    omega
  obtain ⟨W1, hW1⟩ : ∃ W1, W1 = w.drew.alloc (.cells ROW 34) := ⟨_, rfl⟩
  rw [← hW1] at hrz
  have hN : ∀ j, j < (n + m) * 4 → (W1.cell? ⟨w.heap.size, j, none⟩).isSome = true := fun j hj => by
    rw [hW1, World.cell?_alloc_at (w := w.drew) ROW _ w.heap.size j rfl, Array.getElem?_eq_getElem (by omega)]; rfl
  have hNf : ∀ j, W1.frozen? ⟨w.heap.size, j, none⟩ = false := fun j => by rw [hW1]; exact World.frozen?_alloc_at (w := w.drew) ROW _ w.heap.size j rfl
  have hOb : ∀ j v, w.cell? ⟨g, j, none⟩ = some v → W1.cell? ⟨g, j, none⟩ = some v := fun j v h => by rw [hW1, World.cell?_alloc_past (w := w.drew) _ g j hbw]; exact h
  have hOv : ∀ j v, w.cell? ⟨vb, j, none⟩ = some v → W1.cell? ⟨vb, j, none⟩ = some v := fun j v h => by rw [hW1, World.cell?_alloc_past (w := w.drew) _ vb j hvw]; exact h
  have hcpA : ∀ (W : World), (∀ x, W.cell? x = W1.cell? x) → (∀ x, W.frozen? x = W1.frozen? x) → ∀ ty dc, (Builtin.copy_ #[23, 23] ty #[.slice (some ⟨w.heap.size, i * 4, none⟩) (n + m - i) dc, .slice (some ⟨vb, voff, none⟩) m vc]).run prog W = .ok (goInt (Nat.min m (n + m - i))) (W.setCells w.heap.size (i * 4) vs) := fun W hWc hWf ty dc =>
    run_copy_sz W _ _ ty 34 w.heap.size (i * 4) (n + m - i) dc ⟨vb, voff, none⟩ m vc vs i0 Try.underlying23 hi0 (by rw [hvl, hi4]; simp only [Nat.min_def]; split <;> omega)
      (fun j v hj => by rw [Addr.add_lit, hWc]; exact hOv _ v (hvs j v hj))
      (fun j hj => by rw [hWc]; exact hN _ (by omega)) (fun j hj => by rw [hWf]; exact hNf _) h1v
  have hGn : n + m ≤ G := by rw [hG]; exact grownCap_ge w _ _ _
  have hG63 : G ≤ 9223372036854775807 := by
    have := grownCap_le_maxLen w (n + m) cap 34 (by unfold maxLen; omega)
    rw [← hG] at this
    unfold maxLen at this
    omega
  have hGi : ¬ (G = i) := by omega
  have hGim : ¬ (G = i + m) := by omega
  have hci : ¬ (cap = i) := by omega
  have hbN : g ≠ w.heap.size := by omega
  have hdl : (cs.drop (i * 4)).length = (n - i) * 4 := by rw [List.length_drop, hcl]; omega
  have hcpB : ∀ (W : World), (∀ x, W.cell? x = (W1.setCells w.heap.size (i * 4) vs).cell? x) → (∀ x, W.frozen? x = (W1.setCells w.heap.size (i * 4) vs).frozen? x) → ∀ ty dc sc, (Builtin.copy_ #[23, 23] ty #[.slice (some ⟨w.heap.size, (i + m) * 4, none⟩) (n + m - (i + m)) dc, .slice (some ⟨g, i * 4, none⟩) (n - i) sc]).run prog W = .ok (goInt (Nat.min (n - i) (n + m - (i + m)))) (W.setCells w.heap.size ((i + m) * 4) (cs.drop (i * 4))) := fun W hWc hWf ty dc sc =>
    run_copy_sz W _ _ ty 34 w.heap.size ((i + m) * 4) (n + m - (i + m)) dc ⟨g, i * 4, none⟩ (n - i) sc (cs.drop (i * 4)) i0 Try.underlying23 hi0 (by rw [hdl, hi4]; simp only [Nat.min_def]; split <;> omega)
      (fun j v hj => by
        rw [Addr.add_lit, hWc, World.cell?_setCells_out _ _ _ _ _ (fun h _ => absurd h hbN)]
        exact hOb _ v (hcs (i * 4 + j) v (by rwa [List.getElem?_drop] at hj)))
      (fun j hj => by rw [hWc]; exact World.isSome_setCells _ _ _ _ _ (hN _ (by omega)))
      (fun j hj => by rw [hWf, World.frozen?_setCells]; exact hNf _) (fun v hv => h1c v (List.mem_of_mem_drop hv))
  subst hW1
  have hE1 : ∀ x, ((w.alloc (.cells ROW 34)).drew).cell? x = (w.drew.alloc (.cells ROW 34)).cell? x := fun x => rfl
  have hE2 : ∀ x, ((w.alloc (.cells ROW 34)).drew).frozen? x = (w.drew.alloc (.cells ROW 34)).frozen? x := fun x => rfl
  have hF1 : ∀ x, (((w.alloc (.cells ROW 34)).drew.setCells w.heap.size (i * 4) vs).drew).cell? x = ((w.drew.alloc (.cells ROW 34)).setCells w.heap.size (i * 4) vs).cell? x := fun x => rfl
  have hF2 : ∀ x, (((w.alloc (.cells ROW 34)).drew.setCells w.heap.size (i * 4) vs).drew).frozen? x = ((w.drew.alloc (.cells ROW 34)).setCells w.heap.size (i * 4) vs).frozen? x := fun x => rfl
  have hw1 : IntKind.i64.wrap ((i : Int) + (m : Int)) = (i : Int) + (m : Int) := by rw [IntKind.wrap_i64]; omega
  have hb1 : (0 : Int) ≤ (i : Int) + (m : Int) := by omega
  have hin : i ≤ n := by omega
  have htn : ((i : Int) + (m : Int)).toNat = i + m := by omega
  have hb3 : (i : Int) ≤ (n : Int) := by omega
  have hrz : Hid _ := hrz
  have hcpA : Hid _ := hcpA _ hE1 hE2
  have hcpB : Hid _ := hcpB _ hF1 hF2
  clear hkk hik hold hROW hG hRl hN hNf hOb hOv hcs hvs h1c h1v hi0
  go_enter Try.func128, Try.ntmps128
  go_wp2_with (first
    | (at_builtin; refine Lib.wpList_append_run _ rfl _ _ _ _ rfl _ _ rfl rfl _ _ (hrz.out _) ?_)
    | (at_builtin; refine wpList_copy_runI _ rfl _ _ 23 23 rfl _ _ rfl rfl (hcpA.out _ _) ?_)
    | (at_builtin; refine wpList_copy_runI _ rfl _ _ 23 23 rfl _ _ rfl rfl (hcpB.out _ _ _) ?_))
  go_region_law (refine step_copy_runI rfl _ _ 23 23 rfl (.slice (some ⟨w.heap.size, (i + m) * 4, none⟩) (n + m - (i + m)) (G - (i + m))) (.slice (some ⟨g, i * 4, none⟩) (n - i) (cap - i)) (by simp [Act.eval, Act.put]) (by simp [Act.eval, Act.put]) (hcpB.out 3 (G - (i + m)) (cap - i)) ?_)
  go_wp2
  go_ret
  exact ⟨rfl, rfl⟩
end Go.Proofs.Ytjmjolefhcjedaa.Vc

namespace Go.Proofs.Ytjmjolefhcjedaa.Vc
open Go Go.RowKit Go.Lib Go.Proofs Go.Proofs.Try

theorem heap_alloc_at (w : World) (o : Obj) : (w.alloc o).heap[w.heap.size]? = some o := by show (w.heap.push o)[w.heap.size]? = some o; rw [Array.getElem?_push]; exact if_pos rfl
theorem heap_alloc_old (w : World) (o : Obj) {k : Nat} (h : k < w.heap.size) : (w.alloc o).heap[k]? = w.heap[k]? := by
  show (w.heap.push o)[k]? = _; rw [Array.getElem?_push, if_neg (by omega)]

theorem spot_none {w : World} {ad : Addr} {u : Value} (h : w.cell? ad = some u) : ad = ⟨ad.block, ad.off, none⟩ := by
  obtain ⟨b, o, s⟩ := ad
  unfold World.cell? at h
  split at h
  · cases s with
    | none => rfl
    | some s => simp at h
  · cases h

set_option maxHeartbeats 2000000 in
theorem g128 (xs : List TV) (x : TV) (i : Nat) (hi : i ≤ xs.length) (hb : xs.length ≤ 1000000000) : SpecG prog 128 34 4 xs [tI i, .s 4 [x]] (xs.take i ++ ([x] ++ xs.drop i)) := by
  refine ⟨⟨f128, _, Try.func128, rfl, rfl⟩, fun w ok E v cs vs hown hF hnot hargs => ?_⟩
  simp only [RelL, Rel, RelE] at hargs
  obtain ⟨u, us, rfl, ⟨_, rfl⟩, u', us', rfl, ⟨A, c, rfl, hc1, hxs⟩, rfl⟩ := hargs
  obtain ⟨ad, rfl, hokad, hadlt, ⟨y, hy, hy4, hy1, hycell⟩, _⟩ := hxs (by simp)
  obtain ⟨vs, hvs⟩ : ∃ vs, vs = y.cells.toList := ⟨_, rfl⟩
  rw [← hvs] at hy4 hy1 hycell
  have hcell : ∀ j u, vs[j]? = some u → w.cell? (ad.add j) = some u := fun j u hj => by
    have := hycell j u hj
    rwa [Nat.zero_mul, Nat.zero_add] at this
  have hX : RelF w ok E 4 [x] vs := ⟨by rw [hy4]; rfl, fun k z hz => by
    cases k with
    | zero =>
      obtain rfl := Option.some.inj hz
      refine ⟨y, hy, by rw [← hvs]; exact hy4, by rw [← hvs]; exact hy1, fun j u hj => ?_⟩
      rw [Nat.zero_mul, Nat.zero_add, hvs]; exact hj
    | succ k => cases hz⟩
  obtain ⟨hcl, hrow⟩ := id hown
  have hnw : (xs.take i ++ ([x] ++ xs.drop i)).length = xs.length + 1 := by simp; omega
  have hmv : ∀ (w' : World) (ok' : Nat → Prop) (E' : Nat → Value), w.heap.size ≤ w'.heap.size → (∀ k, ok k → k < w.heap.size → ok' k ∧ w'.heap[k]? = w.heap[k]?) → RelF w' ok' E' 4 (xs.take i ++ ([x] ++ xs.drop i)) (cs.take (i * 4) ++ (vs ++ cs.drop (i * 4))) := fun w' ok' E' hs hk =>
    (RelF.take (hF.imp hk hs) hi).append ((hX.imp hk hs).append (RelF.drop (hF.imp hk hs) i))
  by_cases hin : i = xs.length
  · subst hin
    obtain ⟨A, n', hv, hn'⟩ : ∃ A n', v = .slice A xs.length n' ∧ Hid True := by
      rcases hrow with ⟨rfl, h0⟩ | ⟨g, cap, cur, rfl, _⟩
      · exact ⟨none, 0, by rw [h0], trivial⟩
      · exact ⟨_, _, rfl, trivial⟩
    refine (insert_end v xs.length n' A hv ad c cs vs w hown (by rw [hy4]) hcell hy1 hb).mono ?_
    rintro e w' ⟨v', rfl, h1, h2, h3, h3d⟩
    have hcat : cs.take (xs.length * 4) ++ (vs ++ cs.drop (xs.length * 4)) = cs ++ vs := by
      have h4 : cs.length = xs.length * 4 := hcl
      rw [← h4, List.take_length, List.drop_length, List.append_nil]
    refine ⟨v', cs.take (xs.length * 4) ++ (vs ++ cs.drop (xs.length * 4)), rfl, by rw [hnw, hcat]; exact h1, fun ok' E' hk => hmv w' ok' E' h2.size hk, h2, ?_⟩
    exact ⟨h3.imp id fun h => ⟨_, h, Nat.le_refl _⟩, h3d⟩
  · have hin' : i < xs.length := by omega
    rcases hrow with ⟨_, h0⟩ | ⟨g, cap, cur, rfl, _, hg, hnc, hcm, hsz, htake⟩
    · omega
    have hm : cap ≤ 9223372036854775807 := by unfold maxLen at hcm; exact hcm
    have hvg : ad.block ≠ g := fun h => hnot g (by simp [Value.ownBlock]) (h ▸ hokad)
    have hcs := row_cell hg htake
    have h0 := hcell 0 _ (List.getElem?_eq_getElem (by omega))
    have hsp := spot_none h0
    have had : ad = ⟨ad.block, ad.off, none⟩ := by
      have := congrArg Addr.spot hsp
      obtain ⟨b, o, s⟩ := ad
      simp only [Addr.add] at this
      subst this; rfl
    have hcell' : ∀ j u, vs[j]? = some u → w.cell? ⟨ad.block, ad.off + j, none⟩ = some u := fun j u hj => by
      have := hcell j u hj
      rw [had, Addr.add_lit] at this
      exact this
    have hcs4 : cs.length = xs.length * 4 := hcl
    have hcur : cur.toList.length = cap * 4 := by rw [Array.length_toList]; exact hsz
    have hdl : (cs.drop (i * 4)).length = (xs.length - i) * 4 := by rw [List.length_drop, hcs4]; omega
    have hgl : g < w.heap.size := (Array.getElem?_eq_some_iff.1 hg).1
    by_cases hroom : xs.length + 1 ≤ cap
    · rw [had]
      refine (insert_shift g xs.length cap i ad.block ad.off 1 c cs vs w cur (by omega) hin' hroom hm hvg hcs4 (by rw [hy4]) hg hsz hcs hcell' hF.one hy1).mono ?_
      rintro e w' ⟨rfl, rfl⟩
      have hb1 := setCells_block (cs.drop (i * 4)) ((i + 1) * 4) w.drew g cur 34 (0, 0) hg (by rw [hdl, hsz]; omega)
      have hl1 : (setL cur.toList ((i + 1) * 4) (cs.drop (i * 4))).length = cap * 4 := by rw [setL_length _ _ _ (by rw [hcur, hdl]; omega), hcur]
      have hb2 := setCells_block vs (i * 4) _ g _ 34 (0, 0) hb1 (by rw [hy4]; simp only [List.size_toArray, hl1]; omega)
      have hks : ∀ k, k ≠ g → ((w.drew.setCells g ((i + 1) * 4) (cs.drop (i * 4))).setCells g (i * 4) vs).heap[k]? = w.heap[k]? := fun k hk => by
        rw [setCells_other _ _ _ _ hk, setCells_other _ _ _ _ hk]; rfl
      have hss : ((w.drew.setCells g ((i + 1) * 4) (cs.drop (i * 4))).setCells g (i * 4) vs).heap.size = w.heap.size := by rw [setCells_size, setCells_size]; rfl
      obtain ⟨r1, r2, r3⟩ := setCells_rest vs (i * 4) (w.drew.setCells g ((i + 1) * 4) (cs.drop (i * 4))) g
      obtain ⟨r4, r5, r6⟩ := setCells_rest (cs.drop (i * 4)) ((i + 1) * 4) w.drew g
      refine ⟨_, cs.take (i * 4) ++ (vs ++ cs.drop (i * 4)), rfl, ⟨by rw [hnw, List.length_append, List.length_append, List.length_take, hdl, hy4, hcs4]; omega, .inr ⟨g, cap, _, by rw [hnw], Nat.zero_le _, hb2, by rw [hnw]; omega, hcm, ?_, ?_⟩⟩, fun ok' E' hk => ?_, ⟨by rw [r1, r4]; rfl, by rw [r2, r5]; rfl, by rw [r3, r6]; rfl, by rw [hss]; exact Nat.le_refl _, fun k _ hkg => hks k (by rintro rfl; exact hkg rfl)⟩, .inl rfl, by simp only [setCells_drawn, World.drew]; omega⟩
      · rw [List.size_toArray, setL_length _ _ _ (by rw [List.toList_toArray, hl1, hy4]; omega), List.toList_toArray, hl1]
      · rw [hnw, List.toList_toArray, List.toList_toArray]
        rw [show setL (setL cur.toList ((i + 1) * 4) (cs.drop (i * 4))) (i * 4) vs = (setL cur.toList ((i + 1) * 4) (cs.drop (i * 4))).take (i * 4) ++ vs ++ (setL cur.toList ((i + 1) * 4) (cs.drop (i * 4))).drop (i * 4 + vs.length) from rfl]
        rw [setL_take_le _ _ _ (by omega) (by rw [hcur]; omega)]
        have hd : (setL cur.toList ((i + 1) * 4) (cs.drop (i * 4))).drop (i * 4 + vs.length) = cs.drop (i * 4) ++ cur.toList.drop ((i + 1) * 4 + (cs.drop (i * 4)).length) := by
          unfold setL
          rw [List.append_assoc, List.drop_append_of_le_length (by rw [List.length_take, hcur, hy4]; omega), List.drop_of_length_le (by rw [List.length_take, hcur, hy4]; omega), List.nil_append]
        rw [hd, ← List.append_assoc]
        have hct : cur.toList.take (i * 4) = cs.take (i * 4) := by rw [← htake, List.take_take, Nat.min_eq_left (by omega)]
        rw [hct]
        rw [List.take_append_of_le_length (by simp only [List.length_append, List.length_take, hdl, hy4, hcs4]; omega), List.take_of_length_le (by simp only [List.length_append, List.length_take, hdl, hy4, hcs4]; omega), List.append_assoc]
      · exact hmv _ ok' E' (by rw [hss]; exact Nat.le_refl _) hk
    · rw [had]
      refine (insert_grow g xs.length cap i ad.block ad.off 1 c cs vs w (by omega) hin' hnc (by omega) (by omega) hcs4 (by rw [hy4]) hcs hcell' hF.one hy1).mono ?_
      rintro e w' ⟨rfl, rfl⟩
      obtain ⟨G, hG⟩ : ∃ G, G = grownCap w (xs.length + 1) cap 34 := ⟨_, rfl⟩
      have hGn : xs.length + 1 ≤ G := by rw [hG]; exact grownCap_ge w _ _ _
      have hGm : G ≤ maxLen := by rw [hG]; exact grownCap_le_maxLen w _ _ _ (by unfold maxLen; omega)
      rw [← hG]
      obtain ⟨ROW, hROW⟩ : ∃ ROW : Array Value, ROW = (cs.take (i * 4)).toArray ++ Builtin.zeroCells zPlace.cells (xs.length + 1 - i) ++ Builtin.zeroCells zPlace.cells (G - (xs.length + 1)) := ⟨_, rfl⟩
      rw [← hROW]
      have hRl : ROW.size = G * 4 := by
        rw [hROW]
        have h4 : zPlace.cells.size = 4 := rfl
        simp only [Builtin.zeroCells, Array.size_append, List.size_toArray, List.length_take, Array.size_map, Array.size_range, h4, hcs4]
        omega
      have hRt : ROW.toList.take (i * 4) = cs.take (i * 4) := by
        rw [hROW]
        simp only [Array.toList_append, List.append_assoc]
        rw [List.take_append_of_le_length (by rw [List.length_take]; omega), List.take_take, Nat.min_self]
      clear hROW
      have hRL : ROW.toList.length = G * 4 := by rw [Array.length_toList]; exact hRl
      obtain ⟨W0, hW0⟩ : ∃ W0, W0 = (w.alloc (.cells ROW 34)).drew := ⟨_, rfl⟩
      rw [← hW0]
      have hb0 : W0.heap[w.heap.size]? = some (.cells ROW 34 (0, 0)) := by rw [hW0]; exact heap_alloc_at w _
      have hs0 : W0.heap.size = w.heap.size + 1 := by rw [hW0]; exact Array.size_push ..
      have ho0 : ∀ k, k < w.heap.size → W0.heap[k]? = w.heap[k]? := fun k hk => by rw [hW0]; exact heap_alloc_old w _ hk
      have hr0 : W0.os = w.os ∧ W0.tape = w.tape ∧ W0.output = w.output := by rw [hW0]; exact ⟨rfl, rfl, rfl⟩
      have hd0 : w.drawn ≤ W0.drawn := by rw [hW0]; exact Nat.le_succ _
      clear hW0
      have hb1 := setCells_block vs (i * 4) W0 w.heap.size ROW 34 (0, 0) hb0 (by rw [hy4, hRl]; omega)
      have hl1 : (setL ROW.toList (i * 4) vs).length = G * 4 := by rw [setL_length _ _ _ (by rw [hRL, hy4]; omega), hRL]
      have hb2 := setCells_block (cs.drop (i * 4)) ((i + 1) * 4) (W0.setCells w.heap.size (i * 4) vs).drew w.heap.size _ 34 (0, 0) hb1 (by rw [hdl]; simp only [List.size_toArray, hl1]; omega)
      have hks : ∀ k, k < w.heap.size → ((W0.setCells w.heap.size (i * 4) vs).drew.setCells w.heap.size ((i + 1) * 4) (cs.drop (i * 4))).heap[k]? = w.heap[k]? := fun k hk => by
        rw [setCells_other _ _ _ _ (by omega)]
        show (W0.setCells w.heap.size (i * 4) vs).heap[k]? = _
        rw [setCells_other _ _ _ _ (by omega)]; exact ho0 k hk
      have hss : w.heap.size ≤ ((W0.setCells w.heap.size (i * 4) vs).drew.setCells w.heap.size ((i + 1) * 4) (cs.drop (i * 4))).heap.size := by
        rw [setCells_size]
        show _ ≤ (W0.setCells w.heap.size (i * 4) vs).heap.size
        rw [setCells_size, hs0]; omega
      obtain ⟨r1, r2, r3⟩ := setCells_rest (cs.drop (i * 4)) ((i + 1) * 4) (W0.setCells w.heap.size (i * 4) vs).drew w.heap.size
      obtain ⟨r4, r5, r6⟩ := setCells_rest vs (i * 4) W0 w.heap.size
      refine ⟨_, cs.take (i * 4) ++ (vs ++ cs.drop (i * 4)), rfl, ⟨by rw [hnw, List.length_append, List.length_append, List.length_take, hdl, hy4, hcs4]; omega, .inr ⟨w.heap.size, G, _, by rw [hnw], Nat.zero_le _, hb2, by rw [hnw]; omega, hGm, ?_, ?_⟩⟩, fun ok' E' hk => ?_, ⟨by rw [r1]; exact r4.trans hr0.1, by rw [r2]; exact r5.trans hr0.2.1, by rw [r3]; exact r6.trans hr0.2.2, hss, fun k hk _ => hks k hk⟩, .inr ⟨w.heap.size, rfl, Nat.le_refl _⟩, by simp only [setCells_drawn, World.drew]; omega⟩
      · rw [List.size_toArray, setL_length _ _ _ (by rw [List.toList_toArray, hl1, hdl]; omega), List.toList_toArray, hl1]
      · rw [hnw, List.toList_toArray, List.toList_toArray]
        have e1 : (xs.length + 1) * 4 = (i + 1) * 4 + (cs.drop (i * 4)).length := by rw [hdl]; omega
        rw [e1, setL_take _ _ _ (by rw [hl1, hdl]; omega)]
        have e2 : (i + 1) * 4 = i * 4 + vs.length := by rw [hy4]; omega
        rw [e2, setL_take _ _ _ (by rw [hRL, hy4]; omega), hRt, List.append_assoc]
      · exact hmv _ ok' E' hss hk
end Go.Proofs.Ytjmjolefhcjedaa.Vc

namespace Go.Proofs.Ytjmjolefhcjedaa.Vc
open Go Go.Shelf Go.Proofs Go.Proofs.Try
def sortWants_ren : Go.Shelf.Ren := ⟨fun | 6 => 126 | 15 => 153 | 14 => 152 | 28 => 169 | 29 => 170 | 20 => 161 | 21 => 162 | 22 => 163 | 23 => 164 | 24 => 165 | 25 => 166 | 26 => 167 | 27 => 168 | 46 => 172 | 47 => 173 | 48 => 174 | 49 => 175 | 50 => 176 | 57 => 178 | n => n, fun | 22 => 51 | 24 => 63 | 25 => 144 | 3 => 3 | 39 => 68 | 0 => 0 | 53 => 22 | 55 => 96 | 4 => 4 | 46 => 171 | 45 => 170 | 50 => 69 | 5 => 5 | 9 => 9 | 66 => 177 | 70 => 181 | 76 => 184 | 77 => 185 | n => n, fun | n => n⟩
theorem sortWants : Go.Proofs.SlLaysF0.n6 Try.prog sortWants_ren := {
  mixed := by kernel_rfl
  f6 := ⟨Try.f126.name, by decide, Try.func126.trans (congrArg some (by kernel_rfl))⟩
  f14 := ⟨Try.f152.name, by decide, Try.func152.trans (congrArg some (by kernel_rfl))⟩
  f15 := Try.func153.trans (congrArg some (by kernel_rfl))
  f20 := ⟨Try.f161.name, by decide, Try.func161.trans (congrArg some (by kernel_rfl))⟩
  f21 := ⟨Try.f162.name, by decide, Try.func162.trans (congrArg some (by kernel_rfl))⟩
  f22 := ⟨Try.f163.name, by decide, Try.func163.trans (congrArg some (by kernel_rfl))⟩
  f23 := ⟨Try.f164.name, by decide, Try.func164.trans (congrArg some (by kernel_rfl))⟩
  f24 := ⟨Try.f165.name, by decide, Try.func165.trans (congrArg some (by kernel_rfl))⟩
  f25 := ⟨Try.f166.name, by decide, Try.func166.trans (congrArg some (by kernel_rfl))⟩
  f26 := ⟨Try.f167.name, by decide, Try.func167.trans (congrArg some (by kernel_rfl))⟩
  f27 := ⟨Try.f168.name, by decide, Try.func168.trans (congrArg some (by kernel_rfl))⟩
  f28 := Try.func169.trans (congrArg some (by kernel_rfl))
  f29 := Try.func170.trans (congrArg some (by kernel_rfl))
  f46 := ⟨Try.f172.name, by decide, Try.func172.trans (congrArg some (by kernel_rfl))⟩
  f47 := Try.func173.trans (congrArg some (by kernel_rfl))
  f48 := Try.func174.trans (congrArg some (by kernel_rfl))
  f49 := ⟨Try.f175.name, by decide, Try.func175.trans (congrArg some (by kernel_rfl))⟩
  f50 := ⟨Try.f176.name, by decide, Try.func176.trans (congrArg some (by kernel_rfl))⟩
  f57 := ⟨Try.f178.name, by decide, Try.func178.trans (congrArg some (by kernel_rfl))⟩
  t0 := Try.underlying0
  a0 := Try.isAgg0
  z0 := Try.sizeOf0
  v0 := Try.zeroValue0
  t3 := Try.underlying3
  a3 := Try.isAgg3
  z3 := Try.sizeOf3
  v3 := Try.zeroValue3
  t4 := Try.underlying4
  a4 := Try.isAgg4
  z4 := Try.sizeOf4
  v4 := Try.zeroValue4
  t5 := Try.underlying5
  a5 := Try.isAgg5
  z5 := Try.sizeOf5
  v5 := Try.zeroValue5
  t9 := Try.underlying9
  a9 := Try.isAgg9
  z9 := Try.sizeOf9
  v9 := Try.zeroValue9
  t22 := Try.underlying51
  a22 := Try.isAgg51
  z22 := Try.sizeOf51
  v22 := Try.zeroValue51
  t25 := Try.underlying144
  a25 := Try.isAgg144
  z25 := Try.sizeOf144
  v25 := Try.zeroValue144
  t39 := Try.underlying68
  a39 := Try.isAgg68
  z39 := Try.sizeOf68
  v39 := Try.zeroValue68
  t45 := Try.underlying170
  a45 := Try.isAgg170
  z45 := Try.sizeOf170
  v45 := Try.zeroValue170
  t46 := Try.underlying171
  a46 := Try.isAgg171
  z46 := Try.sizeOf171
  v46 := Try.zeroValue171
  t50 := Try.underlying69
  a50 := Try.isAgg69
  z50 := Try.sizeOf69
  v50 := Try.zeroValue69
  t53 := Try.underlying22
  a53 := Try.isAgg22
  z53 := Try.sizeOf22
  v53 := Try.zeroValue22
  t55 := Try.underlying96
  a55 := Try.isAgg96
  z55 := Try.sizeOf96
  v55 := Try.zeroValue96
  t66 := Try.underlying177
  a66 := Try.isAgg177
  z66 := Try.sizeOf177
  v66 := Try.zeroValue177
  t70 := Try.underlying181
  a70 := Try.isAgg181
  z70 := Try.sizeOf181
  v70 := Try.zeroValue181
  t76 := Try.underlying184
  a76 := Try.isAgg184
  z76 := Try.sizeOf184
  v76 := Try.zeroValue184
  t77 := Try.underlying185
  a77 := Try.isAgg185
  z77 := Try.sizeOf185
  v77 := Try.zeroValue185 }
end Go.Proofs.Ytjmjolefhcjedaa.Vc

namespace Go.Proofs.Ytjmjolefhcjedaa.Vc
open Go Go.RowKit Go.Lib Go.Sort Go.Shelf Go.Proofs Go.Proofs.Try

def encW (x : Want) : List Value := [.int .i64 x.unit, .int .i64 x.share]
instance : Inhabited Want := ⟨⟨0, 0⟩⟩

theorem flatW (d : Array Want) : (flatK encW 2 d).toList = d.toList.flatMap encW := by
  refine List.ext_getElem? fun t => ?_
  have hlen : (d.toList.flatMap encW).length = d.size * 2 := by
    rw [List.length_flatMap]
    have : ∀ l : List Want, (l.map fun x => (encW x).length).sum = l.length * 2 := by
      intro l; induction l with
      | nil => rfl
      | cons a l ih => rw [List.map_cons, List.sum_cons, ih, List.length_cons]; show 2 + _ = _; omega
    rw [this]; simp
  rcases Nat.lt_or_ge t (d.size * 2) with h | h
  · have h1 := get_flatK encW 2 d t h
    have hs : t < (flatK encW 2 d).size := by simpa using h
    have h2 : (flatK encW 2 d).toList[t]? = some ((encW d[t / 2]!)[t % 2]!) := by
      rw [← h1, Array.getElem?_toList, Array.getElem?_eq_getElem hs, getElem!_pos (flatK encW 2 d) t hs]
    rw [h2]
    have key : ∀ (l : List Want) (t : Nat), t < l.length * 2 → (l.flatMap encW)[t]? = some ((encW (l[t / 2]?.getD default))[t % 2]!) := by
      intro l
      induction l with
      | nil => intro t ht; simp at ht
      | cons a l ih =>
        intro t ht
        rw [List.flatMap_cons]
        match t with
        | 0 => rfl
        | 1 => rfl
        | t + 2 =>
          have e : (encW a ++ l.flatMap encW)[t + 2]? = (l.flatMap encW)[t]? := rfl
          rw [e, ih t (by simp at ht; omega)]
          rw [show (t + 2) / 2 = t / 2 + 1 by omega, show (t + 2) % 2 = t % 2 by omega]
          rfl
    rw [key d.toList t (by simpa using h)]
    congr 2
    have : t / 2 < d.size := by omega
    rw [getElem!_pos d _ this, Array.getElem?_toList, Array.getElem?_eq_getElem this]
    rfl
  · rw [List.getElem?_eq_none (by simpa using h), List.getElem?_eq_none (by omega)]

theorem relF_wants {w : World} {ok : Nat → Prop} {E : Nat → Value} {xs : List Want} {cs : List Value} (h : RelF w ok E 2 (xs.map Want.tv) cs) : cs = xs.flatMap encW := by
  obtain ⟨hl, hx⟩ := h
  rw [List.length_map] at hl
  refine List.ext_getElem? fun t => ?_
  have key : ∀ (l : List Want) (t : Nat), t < l.length * 2 → (l.flatMap encW)[t]? = (encW (l[t / 2]?.getD default))[t % 2]? := by
    intro l
    induction l with
    | nil => intro t ht; simp at ht
    | cons a l ih =>
      intro t ht
      rw [List.flatMap_cons]
      match t with
      | 0 => rfl
      | 1 => rfl
      | t + 2 =>
        have e : (encW a ++ l.flatMap encW)[t + 2]? = (l.flatMap encW)[t]? := rfl
        rw [e, ih t (by simp at ht; omega)]
        rw [show (t + 2) / 2 = t / 2 + 1 by omega, show (t + 2) % 2 = t % 2 by omega]
        rfl
  have hlen : ∀ l : List Want, (l.flatMap encW).length = l.length * 2 := by
    intro l; induction l with
    | nil => rfl
    | cons a l ih => rw [List.flatMap_cons, List.length_append, ih, List.length_cons]; show 2 + _ = _; omega
  rcases Nat.lt_or_ge t (xs.length * 2) with ht | ht
  · rw [key xs t ht]
    have h2 : t / 2 < xs.length := by omega
    obtain ⟨y, h3, h4, h5, h6⟩ := hx (t / 2) xs[t / 2].tv (by rw [List.getElem?_map, List.getElem?_eq_getElem h2]; rfl)
    rw [List.getElem?_eq_getElem h2, Option.getD_some]
    generalize xs[t / 2] = x at *
    simp only [Want.tv, Rel, RelL] at h3
    obtain ⟨ys, rfl, _, u, us, rfl, ⟨_, rfl⟩, u', us', rfl, ⟨_, rfl⟩, rfl⟩ := h3
    have h7 := h6 (t % 2) 
    have e : t / 2 * 2 + t % 2 = t := by omega
    rw [e] at h7
    have h8 : t % 2 = 0 ∨ t % 2 = 1 := by omega
    rcases h8 with h8 | h8 <;> rw [h8] at h7 ⊢
    · exact h7 _ rfl
    · exact h7 _ rfl
  · rw [List.getElem?_eq_none (by omega), List.getElem?_eq_none (by rw [hlen]; omega)]
theorem relF_of_wants {w : World} {ok : Nat → Prop} {E : Nat → Value} (xs : List Want) : RelF w ok E 2 (xs.map Want.tv) (xs.flatMap encW) := by
  have key : ∀ (l : List Want) (t : Nat), t < l.length * 2 → (l.flatMap encW)[t]? = (encW (l[t / 2]?.getD default))[t % 2]? := by
    intro l
    induction l with
    | nil => intro t ht; simp at ht
    | cons a l ih =>
      intro t ht
      rw [List.flatMap_cons]
      match t with
      | 0 => rfl
      | 1 => rfl
      | t + 2 =>
        have e : (encW a ++ l.flatMap encW)[t + 2]? = (l.flatMap encW)[t]? := rfl
        rw [e, ih t (by simp at ht; omega)]
        rw [show (t + 2) / 2 = t / 2 + 1 by omega, show (t + 2) % 2 = t % 2 by omega]
        rfl
  have hlen : ∀ l : List Want, (l.flatMap encW).length = l.length * 2 := by
    intro l; induction l with
    | nil => rfl
    | cons a l ih => rw [List.flatMap_cons, List.length_append, ih, List.length_cons]; show 2 + _ = _; omega
  refine ⟨by rw [hlen, List.length_map], fun i x hx => ?_⟩
  rw [List.getElem?_map, Option.map_eq_some_iff] at hx
  obtain ⟨a, ha, rfl⟩ := hx
  obtain ⟨hi, rfl⟩ := List.getElem?_eq_some_iff.1 ha
  refine ⟨.agg (encW xs[i]).toArray, ?_, rfl, ?_, fun j u hj => ?_⟩
  · simp only [Want.tv, Rel, RelL]
    exact ⟨encW xs[i], rfl, by intro u hu; simp [encW] at hu; rcases hu with rfl | rfl <;> rfl, _, _, rfl, ⟨rfl, rfl⟩, _, _, rfl, ⟨rfl, rfl⟩, rfl⟩
  · intro u hu
    simp [Value.cells, encW] at hu
    rcases hu with rfl | rfl <;> rfl
  · simp only [Value.cells, List.toList_toArray] at hj
    have hj2 : j < 2 := (List.getElem?_eq_some_iff.1 hj).1
    rw [key xs _ (by omega), show (i * 2 + j) / 2 = i by omega, show (i * 2 + j) % 2 = j by omega, List.getElem?_eq_getElem hi]
    exact hj

/-- Nothing but draws and new blocks: the world is the old one, grown. -/
theorem keep_grow {X : Nat → Prop} {w w' : World} (h : Keep X w w') (hX : ∀ k, ¬ X k) : ∃ q os', w' = grow (w.drewN q) os' := by
  refine ⟨w'.drawn - w.drawn, w'.heap.extract w.heap.size w'.heap.size, ?_⟩
  obtain ⟨h1, h2, h3, h4, h5, h6⟩ := h
  unfold grow World.drewN
  cases w'; cases w
  simp only [World.mk.injEq] at *
  refine ⟨?_, h2, by omega, h1, h3⟩
  apply Array.ext_getElem?
  intro k
  rw [Array.getElem?_append]
  split
  · rename_i hk; exact h5 k hk (hX k)
  · rename_i hk
    rw [Array.getElem?_extract]
    split
    · congr 1; omega
    · rw [Array.getElem?_eq_none]; omega
theorem cmpLays_of {g : Nat} {cf : Want → Want → Int} (h : ∀ x y, Spec prog g [x.tv, y.tv] [] (tI (cf x y)) []) (blk off size : Nat) (w : World) : CmpLays prog g #[] encW 2 cf blk off size w := by
  intro m os dk _ x y
  generalize sortWorldK encW 2 w blk off m dk os = W
  obtain ⟨_, _, _, h4⟩ := h x y
  have e : obsOf [] = noObs := by funext d; simp [obsOf, noObs]
  have ha : ∀ x : Want, Rel W (fun _ => False) (fun _ => .nilIface) noObs x.tv (.agg (encW x).toArray) := fun x => by
    simp only [Want.tv, Rel, RelL]
    exact ⟨encW x, rfl, by intro u hu; simp [encW] at hu; rcases hu with rfl | rfl <;> rfl, _, _, rfl, ⟨rfl, rfl⟩, _, _, rfl, ⟨rfl, rfl⟩, rfl⟩
  refine (h4 W (fun _ => False) (fun _ => .nilIface) [.agg (encW x).toArray, .agg (encW y).toArray] (by simp) (by simp) (by simp) (by rw [e]; simp only [RelL]; exact ⟨_, _, rfl, ha x, _, _, rfl, ha y, rfl⟩)).mono ?_
  rintro e' w' ⟨v, E, rfl, hk, _, hr, _⟩
  simp only [Rel] at hr
  refine ⟨by rw [hr.2], keep_grow hk ?_⟩
  rintro k ⟨d, hd⟩
  simp [handed, blkOf] at hd

/-- slices.SortFunc at wants: a row, sorted. -/
theorem sort_spec {g : Nat} {cf : Want → Want → Int} (fv : TV) (hfv : fv = .v (.func (.func g) #[] #[]) ∨ fv = .f (.func g) []) (hg : ∀ args w, (callFunc g args).run prog w = .ok (.enter g args) w) (hO : SWO (ltOf cf)) (hT : ∀ x y, ltOf cf x y = false → ltOf cf y x = false → x = y)
    (hc : ∀ x y, Spec prog g [x.tv, y.tv] [] (tI (cf x y)) []) (xs : List Want) (hbig : xs.length ≤ 1000000000) :
    Spec prog 126 [.o 0, fv] [.row 63 2 (xs.map Want.tv)] (.t []) [.row 63 2 ((xs.mergeSort fun x y => !(ltOf cf) y x).map Want.tv)] := by
  refine ⟨⟨f126, _, Try.func126, rfl, rfl⟩, by simp, rfl, fun w ok E0 vs hin hdis hnok hargs => ?_⟩
  have hlen : (xs.mergeSort fun x y => !(ltOf cf) y x).length = xs.length := List.length_mergeSort _
  generalize hS : (xs.mergeSort fun x y => !(ltOf cf) y x) = S at *
  simp only [RelL] at hargs
  obtain ⟨u, us, rfl, hu, u2, us2, rfl, hu2, rfl⟩ := hargs
  have hu' : u = E0 0 := by simp only [Rel] at hu; exact hu.2.1
  have hu2' : u2 = .func (.func g) #[] #[] := by
    rcases hfv with rfl | rfl
    · simp only [Rel] at hu2; exact hu2.2
    · simp only [Rel, RelL] at hu2
      obtain ⟨us, h1, h2⟩ := hu2
      subst h2; exact h1
  subst hu2'
  subst hu'
  obtain ⟨cs, hown, hF⟩ := hin 0 _ rfl
  have hcs := relF_wants hF
  obtain ⟨hcl, hrow⟩ := hown
  rw [List.length_map] at hcl hrow
  have fin : ∀ (w' : World), w'.os = w.os → w'.tape = w.tape → w'.output = w.output → w.heap.size ≤ w'.heap.size → w.drawn ≤ w'.drawn → (∀ k, k < w.heap.size → blkOf (E0 0) ≠ some k → w'.heap[k]? = w.heap[k]?) →
      w'.ownsRow 0 63 2 (E0 0) S.length (S.flatMap encW) →
      ∃ v E, Ending.returned (.tuple #[]) = .returned v ∧ Keep (fun g => ∃ d, blkOf (handed E0 [Ob.row 63 2 (xs.map Want.tv)].length d) = some g) w w' ∧
      (∀ k o, [Ob.row 63 2 (S.map Want.tv)][k]? = some o → ObRel w' (okOf w ok E (obsOf [Ob.row 63 2 (S.map Want.tv)])) E (obsOf [Ob.row 63 2 (S.map Want.tv)]) k o) ∧
      Rel w' (okOf w ok E (obsOf [Ob.row 63 2 (S.map Want.tv)])) E (obsOf [Ob.row 63 2 (S.map Want.tv)]) (.t []) v ∧
      (∀ d, d < [Ob.row 63 2 (xs.map Want.tv)].length → E d = E0 d) ∧
      (∀ d g, [Ob.row 63 2 (xs.map Want.tv)].length ≤ d → d < [Ob.row 63 2 (S.map Want.tv)].length → blkOf (E d) = some g → w.heap.size ≤ g) ∧
      (∀ d e g, d < [Ob.row 63 2 (S.map Want.tv)].length → e < [Ob.row 63 2 (S.map Want.tv)].length → blkOf (E d) = some g → blkOf (E e) = some g → d = e) := by
    intro w' h1 h2 h3 h4 h5 h6 h7
    refine ⟨_, E0, rfl, ⟨h1, h2, h3, h4, fun k hk hx => h6 k hk fun hb => hx ⟨0, by simpa [handed] using hb⟩, h5⟩, fun k o hk => ?_, ?_, fun _ _ => rfl, fun d g hd hd2 => ?_, fun d e g hd he _ _ => ?_⟩
    · cases k with
      | zero =>
        obtain rfl := Option.some.inj hk
        exact ⟨_, by rw [List.length_map]; exact h7, relF_of_wants S⟩
      | succ k => simp at hk
    · simp only [Rel, RelL]; exact ⟨[], rfl, rfl⟩
    · simp at hd hd2; omega
    · simp at hd he; omega
  rcases hrow with ⟨hnil, hn⟩ | ⟨b, cap, cur, hE, _, hb, hnc, hcm, hsz, htake⟩
  · have hx0 : xs = [] := List.eq_nil_of_length_eq_zero hn
    have hS0 : S = [] := List.eq_nil_of_length_eq_zero (by rw [hlen, hn])
    have := AnyF.slices_SortFunc_none (P := prog) (ρ := sortWants_ren) { sortWants with } none 0 (.func (.func g) #[] #[]) w
    rw [hnil]
    refine Calls.mono (this : Calls prog 126 _ _ _) ?_
    rintro e w' ⟨rfl, rfl⟩
    refine fin _ rfl rfl rfl (Nat.le_refl _) (Nat.le_refl _) (fun _ _ _ => rfl) ?_
    rw [hS0]
    exact ⟨rfl, .inl ⟨hnil, rfl⟩⟩
  · have hblk : b < w.heap.size := (Array.getElem?_eq_some_iff.1 hb).1
    have hH : HoldsK encW 2 w b 0 xs.toArray := by
      intro j hj
      have hj' : j < cs.length := by rw [hcl]; simpa using hj
      have h1 := row_cell hb htake j cs[j] (List.getElem?_eq_getElem hj')
      rw [Nat.zero_add]
      refine ⟨?_, row_frozen hb j⟩
      rw [h1]
      congr 1
      have h2 := flatW xs.toArray
      rw [show xs.toArray.toList = xs from rfl, ← hcs] at h2
      show cs[j] = (flatK encW 2 xs.toArray)[j]!
      rw [getElem!_pos _ j hj, ← Array.getElem_toList]
      simp only [h2]
    have hsz2 : xs.toArray.size < 4611686018427387904 := by
      have : xs.toArray.size = xs.length := by simp
      omega
    have := AnyQ.slices_SortFunc_total (P := prog) (ρ := sortWants_ren) sortWants 2 Try.isAgg63 Try.sizeOf63 encW (fun _ => rfl) (fun x v hv => by simp [encW] at hv; rcases hv with rfl | rfl <;> rfl) cf hO g #[] b 0 cap xs.toArray w hg (cmpLays_of hc _ _ _ _) hH hblk hsz2 hT
    rw [hE]
    refine Calls.mono (this : Calls prog 126 _ _ _) ?_
    rintro e w' ⟨rfl, m, os, rfl⟩
    rw [show xs.toArray.toList = xs from rfl, hS]
    refine fin _ rfl rfl rfl ?_ ?_ ?_ ?_
    · exact size_sortWorldK_c encW 2 w b 0 m S.toArray os
    · exact Nat.le_add_right _ _
    · intro k hk hne
      rw [hE] at hne
      have hkb : k ≠ b := fun h => hne (by rw [h]; rfl)
      unfold sortWorldK grow putRowK putRow mapBlock
      simp only
      rw [Array.getElem?_append_left (by simpa using hk), Array.getElem?_modify, if_neg (Ne.symm hkb)]
      rfl
    · have hfs : (flatK encW 2 S.toArray).size = S.length * 2 := by simp
      refine ⟨by rw [← flatW S.toArray, Array.length_toList, hfs], .inr ⟨b, cap, cur.mapIdx fun k x => if 0 ≤ k ∧ k < 0 + (flatK encW 2 S.toArray).size then id (flatK encW 2 S.toArray)[k - 0]! else x, by rw [hE, hlen], Nat.zero_le _, ?_, by rw [hlen]; exact hnc, hcm, by simpa using hsz, ?_⟩⟩
      · unfold sortWorldK grow putRowK putRow mapBlock
        simp only
        rw [Array.getElem?_append_left (by simpa using hblk), Array.getElem?_modify, if_pos rfl]
        show Option.map _ w.heap[b]? = _
        rw [hb]; rfl
      · refine List.ext_getElem? fun t => ?_
        rw [List.getElem?_take]
        have h2 := flatW S.toArray
        rw [show S.toArray.toList = S from rfl] at h2
        rw [← h2, Array.getElem?_toList, Array.getElem?_toList, Array.getElem?_mapIdx]
        split
        · rename_i ht
          have ht2 : t < (flatK encW 2 S.toArray).size := by rw [hfs]; exact ht
          have hcur : t < cur.size := by
            rw [hsz, ← Nat.div_lt_iff_lt_mul (by decide)]
            have : t / 2 < S.length := by rw [Nat.div_lt_iff_lt_mul (by decide)]; exact ht
            omega
          rw [Array.getElem?_eq_getElem hcur, Array.getElem?_eq_getElem ht2]
          simp only [Option.map_some, Nat.zero_add, Nat.zero_le, true_and, ht2, if_true, Nat.sub_zero, id]
          rw [getElem!_pos _ t ht2]
        · rename_i ht
          rw [Array.getElem?_eq_none]
          rw [hfs]; omega
end Go.Proofs.Ytjmjolefhcjedaa.Vc
