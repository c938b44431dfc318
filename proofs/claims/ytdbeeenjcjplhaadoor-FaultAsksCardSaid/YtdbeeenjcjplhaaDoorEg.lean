/- The statements of fault, walked. -/
import Derived.Test.YtdbeeenjcjplhaaDoorEd
import Derived.Test.YtdbeeenjcjplhaaDoorEf
namespace Go.Proofs.YtdbeeenjcjplhaaDoor.Vc
open Go Go.RowKit Go.Proofs Go.Proofs.Tryd
set_option maxRecDepth 20000
set_option maxHeartbeats 4000000 in
theorem s3 (h12 : Spec prog 12 [] [] (tB true) []) (c : Int) (p : ByteArray) (a c2 : Int) (hc : I64 c) (ha : I64 a) (hp : p.size ≤ 9223372036854775807) : Spec prog 3 [tI c, .v (.string p), tI a, tI c2] [] (tB true) [] := by
  by_cases hl : p.size ≤ 200
  · have h13 : Spec prog 13 [.r [tI c, .v (.string p), tI a, .v .nilIface]] [] (.v (.string (linkB c p a))) [] := s13 c p a (.v .nilIface) hc ha (by omega)
    have h14 := s14 c p a hc ha (by omega)
    have hA : Spec prog 15 [.r [tI c, .v (.string p), tI a, .v .nilIface], .x 23 (.r [tI c2, tS bs0, tI 0, .v .nilIface])] [] (tB (decide (c = c2))) [] := by
      have h := s15r ⟨c, p, a, .nil⟩ ⟨c2, bs0, 0, .nil⟩
      have e : Flt.asks ⟨c2, bs0, 0, .nil⟩ ⟨c, p, a, .nil⟩ = decide (c = c2) := by simp [Flt.asks, Err.isNil, eq_comm]
      rw [e] at h; exact h
    have hB : Spec prog 15 [.r [tI c, .v (.string p), tI a, .v .nilIface], .x 23 (.r [tI c, tS p, tI a, .v .nilIface])] [] (tB ((p.toList == bs0.toList) && decide (a = 0))) [] := by
      have h := s15r ⟨c, p, a, .nil⟩ ⟨c, p, a, .nil⟩
      have e : Flt.asks ⟨c, p, a, .nil⟩ ⟨c, p, a, .nil⟩ = ((p.toList == bs0.toList) && decide (a = 0)) := by simp [Flt.asks, Err.isNil]
      rw [e] at h; exact h
    have hC : Spec prog 15 [.r [tI c, .v (.string p), tI a, .v .nilIface], .x 37 (.a [tI 1])] [] (tB false) [] := s15a ⟨c, p, a, .nil⟩ 1
    have hD : Spec prog 16 [.r [tI c, .v (.string p), tI a, .v .nilIface]] [] (.v .nilIface) [] := s16 ⟨c, p, a, .nil⟩
    have hE : Spec prog 15 [.v (.pointer none), .x 23 (.r [tI c2, tS bs0, tI 0, .v .nilIface])] [] (tB false) [] := s15n ⟨c2, bs0, 0, .nil⟩
    have hF := s15w c p a c
    have hG := s16w c p a c
    generalize linkB c p a = T at *
    refine spec_s is3 mixed rfl (V_x ?_)
    repeat' (first | ((conv => whnf) <;>
             first | refine Frz.own ?_ | refine Get.mk _ rfl ?_ | refine Get.mk _ (map_geti (by omega)) ?_ | refine Get.mk _ (map_getp (by omega) (by omega)) ?_ | refine Get.mk _ (map_get (by omega)) ?_ | refine Bv2.mk _ _ rfl rfl ?_ | refine Bv1.mk _ rfl ?_ | refine Wr.mk _ (wrap_i64 (by omega) (by omega)) ?_ | refine Wr.mk _ rfl ?_ | refine And.intro len_map ?_ | refine And.intro (leX_refl _) ?_ | refine And.intro rfl ?_ | refine And.intro (leO_some _) ?_ | (refine And.intro (fun h => absurd h (by decide)) (fun h => ?_); clear h) | (refine And.intro (fun h => ?_) (fun h => absurd h (by decide)); clear h) | (with_reducible first | refine sp1 (fun h => ?_) (fun h => ?_) | refine sp2 (fun h => ?_) (fun h => ?_) | refine sp3 (fun h => ?_) (fun h => ?_) | refine sp4 (fun h => ?_) (fun h => ?_) | refine sp5 (fun h => ?_) (fun h => ?_) | refine sp6 (fun h => ?_) (fun h => ?_)) | with_reducible refine And.intro (fun h => ?_) (fun h => ?_) | refine And.intro (Int.natCast_nonneg _) ?_ | refine And.intro (by omega) ?_ | refine And.intro (by decide) ?_ | refine Lst.mk _ rfl ?_ | refine Or.inr (Or.inr ⟨[], true, _, [], h13, fun _ => ⟨rfl, Nat.le_of_ble_eq_true rfl⟩, List.nodup_nil, fun _ h => absurd h List.not_mem_nil, fun _ => ⟨rfl, fun _ h => absurd h List.not_mem_nil⟩, fun _ h => absurd h (Nat.not_lt_zero _), ?_⟩) | refine Or.inr (Or.inr ⟨[], true, _, [], hA, fun _ => ⟨rfl, Nat.le_of_ble_eq_true rfl⟩, List.nodup_nil, fun _ h => absurd h List.not_mem_nil, fun _ => ⟨rfl, fun _ h => absurd h List.not_mem_nil⟩, fun _ h => absurd h (Nat.not_lt_zero _), ?_⟩) | refine Or.inr (Or.inr ⟨[], true, _, [], hB, fun _ => ⟨rfl, Nat.le_of_ble_eq_true rfl⟩, List.nodup_nil, fun _ h => absurd h List.not_mem_nil, fun _ => ⟨rfl, fun _ h => absurd h List.not_mem_nil⟩, fun _ h => absurd h (Nat.not_lt_zero _), ?_⟩) | refine Or.inr (Or.inr ⟨[], true, _, [], hC, fun _ => ⟨rfl, Nat.le_of_ble_eq_true rfl⟩, List.nodup_nil, fun _ h => absurd h List.not_mem_nil, fun _ => ⟨rfl, fun _ h => absurd h List.not_mem_nil⟩, fun _ h => absurd h (Nat.not_lt_zero _), ?_⟩) | refine Or.inr (Or.inr ⟨[], true, _, [], hD, fun _ => ⟨rfl, Nat.le_of_ble_eq_true rfl⟩, List.nodup_nil, fun _ h => absurd h List.not_mem_nil, fun _ => ⟨rfl, fun _ h => absurd h List.not_mem_nil⟩, fun _ h => absurd h (Nat.not_lt_zero _), ?_⟩) | refine Or.inr (Or.inr ⟨[], true, _, [], hE, fun _ => ⟨rfl, Nat.le_of_ble_eq_true rfl⟩, List.nodup_nil, fun _ h => absurd h List.not_mem_nil, fun _ => ⟨rfl, fun _ h => absurd h List.not_mem_nil⟩, fun _ h => absurd h (Nat.not_lt_zero _), ?_⟩) | refine Or.inr (Or.inr ⟨[528, 368], false, _, [_, _], hF, fun h => Bool.noConfusion h, nodup2 (by decide), two_someL rfl rfl, fun h => Bool.noConfusion h, len_no2, ?_⟩) | refine Or.inr (Or.inr ⟨[528, 368], false, _, [_, _], hG, fun h => Bool.noConfusion h, nodup2 (by decide), two_someL rfl rfl, fun h => Bool.noConfusion h, len_no2, ?_⟩) | refine Or.inr (Or.inl ⟨_, _, h14, leL_refl _, rfl, rfl, ?_⟩) | refine Or.inr (Or.inl ⟨_, _, s13n, leL_refl _, rfl, rfl, ?_⟩) | refine Or.inr (Or.inl ⟨_, _, s16n, leL_refl _, rfl, rfl, ?_⟩) | refine Or.inr (Or.inl ⟨_, _, h12, leL_refl _, rfl, rfl, ?_⟩) | refine And.intro trivial ?_ | exact trivial | exact leX_refl _ | exact rfl | refine frc_mk ?_ | refine weak_fr ?_ ?_ rfl | refine And.intro ?_ ?_ | fail) | refine frc_mk ?_)
    all_goals first
      | (exfalso; simp_all; done)
      | (exfalso; cases h : decide (c = c2) <;> simp_all; done)
      | skip
    all_goals trace_state
  · refine spec_s is3 mixed rfl (V_x ?_)
    repeat' (first | ((conv => whnf) <;>
             first | refine Frz.own ?_ | refine Get.mk _ rfl ?_ | refine Get.mk _ (map_geti (by omega)) ?_ | refine Get.mk _ (map_getp (by omega) (by omega)) ?_ | refine Get.mk _ (map_get (by omega)) ?_ | refine Bv2.mk _ _ rfl rfl ?_ | refine Bv1.mk _ rfl ?_ | refine Wr.mk _ (wrap_i64 (by omega) (by omega)) ?_ | refine Wr.mk _ rfl ?_ | refine And.intro len_map ?_ | refine And.intro (leX_refl _) ?_ | refine And.intro rfl ?_ | refine And.intro (leO_some _) ?_ | (refine And.intro (fun h => absurd h (by decide)) (fun h => ?_); clear h) | (refine And.intro (fun h => ?_) (fun h => absurd h (by decide)); clear h) | (with_reducible first | refine sp1 (fun h => ?_) (fun h => ?_) | refine sp2 (fun h => ?_) (fun h => ?_) | refine sp3 (fun h => ?_) (fun h => ?_) | refine sp4 (fun h => ?_) (fun h => ?_) | refine sp5 (fun h => ?_) (fun h => ?_) | refine sp6 (fun h => ?_) (fun h => ?_)) | with_reducible refine And.intro (fun h => ?_) (fun h => ?_) | refine And.intro (Int.natCast_nonneg _) ?_ | refine And.intro (by omega) ?_ | refine And.intro (by decide) ?_ | refine Lst.mk _ rfl ?_ | refine Or.inr (Or.inl ⟨_, _, h12, leL_refl _, rfl, rfl, ?_⟩) | refine And.intro trivial ?_ | exact trivial | exact leX_refl _ | exact rfl | refine frc_mk ?_ | refine weak_fr ?_ ?_ rfl | refine And.intro ?_ ?_ | fail) | refine frc_mk ?_)
    all_goals first
      | (exfalso; omega)
      | trace_state
end Go.Proofs.YtdbeeenjcjplhaaDoor.Vc

namespace Go.Proofs.YtdbeeenjcjplhaaDoor.Vc
open Go Go.RowKit Go.Proofs Go.Proofs.Tryd
set_option maxRecDepth 20000
theorem tv_kind (e : Err) : (e.isNil = true ∧ e.tv = .v .nilIface) ∨ (e.isNil = false ∧ ∃ t y, e.tv = .x t y ∧ (∀ fo fp, y.sub fo fp = y) ∧ y.ids = []) := by
  cases e with
  | nil => exact .inl ⟨rfl, rfl⟩
  | flt c p a e => exact .inr ⟨rfl, _, _, rfl, fun _ _ => rfl, rfl⟩
  | alien n => exact .inr ⟨rfl, _, _, rfl, fun _ _ => rfl, rfl⟩
  | around e => exact .inr ⟨rfl, _, _, rfl, fun fo fp => by simp [TV.sub, subL, Err.sub], by simp [TV.ids, idsL, Err.ids]⟩
set_option maxHeartbeats 8000000 in
theorem s4 (l : List ActF) (hL : l.length ≤ 9223372036854775807) (hf : ∀ x ∈ l, x.fine) : Spec prog 4 [.s 4 (l.map ActF.tv)] [] (tB true) [] := by
  have h12 := s12
  have h17 := s17 l hL
  have hsm := runC_same (l.take 40)
  have hfn := runC_fine (l.take 40) (fun x hx => hf x (List.mem_of_mem_take hx))
  have hln : (runC (l.take 40)).2.l.length ≤ 40 := by
    have h := runC_len (l.take 40) (l.take 40).length (Nat.le_refl _)
    rw [List.take_length] at h
    refine Nat.le_trans h ?_
    rw [List.length_take]; omega
  generalize runC (l.take 40) = S at *
  obtain ⟨e, h⟩ := S
  dsimp only [bothTV] at *
  have hl : e.links.length ≤ 1000000 := by rw [← hsm.l]; omega
  have h19 := s19 e
  rw [hsm.code] at h19
  have h20 := s20 h
  have h21 := s21 e hl (by rw [← hsm.l]; exact hfn)
  rw [hsm.text] at h21
  have h22 := s22 h (by omega) hfn
  have h18 := s18 e hl
  rw [← hsm.l] at h18
  have hs := hsm.s
  have hk := tv_kind e
  clear hsm hl hfn
  generalize e.tv = z at *
  generalize e.isNil = b at *
  generalize h.code = C at *
  generalize h.text = X at *
  obtain ⟨s, L⟩ := h
  dsimp only [Chn.tv] at *
  have hlm : (L.map LinkF.tv).length = L.length := List.length_map _
  have hget : ∀ i, (h : i < L.length) → (L.map LinkF.tv)[i]? = some (.a [tI L[i].c, tS L[i].p, tI L[i].a]) := fun i h => by rw [List.getElem?_map, List.getElem?_eq_getElem h]; rfl
  generalize hM : L.map LinkF.tv = M at *
  refine spec_s is4 mixed rfl (V_x ?_)
  rcases hk with ⟨rfl, rfl⟩ | ⟨rfl, ty0, y, rfl, hys, hyi⟩
  · obtain rfl : s = false := hs
    repeat' (first | ((conv => whnf) <;>
             first | refine Frz.own ?_ | refine Get.mk _ rfl ?_ | refine Get.mk _ (map_geti (by omega)) ?_ | refine Get.mk _ (map_getp (by omega) (by omega)) ?_ | refine Get.mk _ (map_get (by omega)) ?_ | refine Bv2.mk _ _ rfl rfl ?_ | refine Bv1.mk _ rfl ?_ | refine Wr.mk _ (wrap_i64 (by omega) (by omega)) ?_ | refine Wr.mk _ rfl ?_ | refine And.intro len_map ?_ | refine And.intro (leX_refl _) ?_ | refine And.intro rfl ?_ | refine And.intro (leO_some _) ?_ | (refine And.intro (fun h => absurd h (by decide)) (fun h => ?_); clear h) | (refine And.intro (fun h => ?_) (fun h => absurd h (by decide)); clear h) | (with_reducible first | refine sp1 (fun h => ?_) (fun h => ?_) | refine sp2 (fun h => ?_) (fun h => ?_) | refine sp3 (fun h => ?_) (fun h => ?_) | refine sp4 (fun h => ?_) (fun h => ?_) | refine sp5 (fun h => ?_) (fun h => ?_) | refine sp6 (fun h => ?_) (fun h => ?_)) | with_reducible refine And.intro (fun h => ?_) (fun h => ?_) | refine And.intro (Int.natCast_nonneg _) ?_ | refine And.intro (by omega) ?_ | refine And.intro (by decide) ?_ | refine Lst.mk _ rfl ?_ | refine Or.inr (Or.inl ⟨_, _, h17, leL_refl _, rfl, rfl, ?_⟩) | refine Or.inr (Or.inl ⟨_, _, h19, leL_refl _, rfl, rfl, ?_⟩) | refine Or.inr (Or.inl ⟨_, _, h20, leL_refl _, rfl, rfl, ?_⟩) | refine Or.inr (Or.inl ⟨_, _, h21, leL_refl _, rfl, rfl, ?_⟩) | refine Or.inr (Or.inl ⟨_, _, h22, leL_refl _, rfl, rfl, ?_⟩) | refine Or.inr (Or.inl ⟨_, _, h18, leL_refl _, rfl, rfl, ?_⟩) | refine Or.inr (Or.inl ⟨_, _, h12, leL_refl _, rfl, rfl, ?_⟩) | refine And.intro trivial ?_ | exact trivial | exact leX_refl _ | exact rfl | refine frc_mk ?_ | refine weak_fr ?_ ?_ rfl | refine And.intro ?_ ?_ | fail) | refine frc_mk ?_)
    all_goals first
      | contradiction
      | (exfalso; omega)
      | (exfalso; clear h17 h19 h20 h21 h22 h18 h12; simp_all; done)
      | exact leX_refl _
      | skip
    refine V_up L.length (fun i => i ≤ L.length) (fun i => ([(3, .p 64 0 0), (4, .s 3 M), (5, tI i)], [(64, .var 45 (.a [.v .nilIface, tB false, .s 3 M]))])) (Nat.zero_le _) ?_ ?_
    · repeat' (first | ((conv => whnf) <;>
               first | refine Frz.own ?_ | refine Get.mk _ rfl ?_ | refine Get.mk _ (map_geti (by omega)) ?_ | refine Get.mk _ (map_getp (by omega) (by omega)) ?_ | refine Get.mk _ (map_get (by omega)) ?_ | refine Bv2.mk _ _ rfl rfl ?_ | refine Bv1.mk _ rfl ?_ | refine Wr.mk _ (wrap_i64 (by omega) (by omega)) ?_ | refine Wr.mk _ rfl ?_ | refine And.intro len_map ?_ | refine And.intro (leX_refl _) ?_ | refine And.intro rfl ?_ | refine And.intro (leO_some _) ?_ | (refine And.intro (fun h => absurd h (by decide)) (fun h => ?_); clear h) | (refine And.intro (fun h => ?_) (fun h => absurd h (by decide)); clear h) | (with_reducible first | refine sp1 (fun h => ?_) (fun h => ?_) | refine sp2 (fun h => ?_) (fun h => ?_) | refine sp3 (fun h => ?_) (fun h => ?_) | refine sp4 (fun h => ?_) (fun h => ?_) | refine sp5 (fun h => ?_) (fun h => ?_) | refine sp6 (fun h => ?_) (fun h => ?_)) | with_reducible refine And.intro (fun h => ?_) (fun h => ?_) | refine And.intro (Int.natCast_nonneg _) ?_ | refine And.intro (by omega) ?_ | refine And.intro (by decide) ?_ | refine Lst.mk _ rfl ?_ | refine And.intro trivial ?_ | exact trivial | exact leX_refl _ | exact rfl | refine frc_mk ?_ | refine weak_fr ?_ ?_ rfl | refine And.intro ?_ ?_ | fail) | refine frc_mk ?_)
      all_goals trace_state
    · intro i hi _
      refine V_x ?_
      by_cases hlt : i < L.length
      · have hg := hget i hlt
        repeat' (first | ((conv => whnf) <;>
                 first | refine Frz.own ?_ | refine Get.mk _ rfl ?_ | refine Get.mk _ (map_geti (by omega)) ?_ | refine Get.mk _ (map_getp (by omega) (by omega)) ?_ | refine Get.mk _ (map_get (by omega)) ?_ | refine Bv2.mk _ _ rfl rfl ?_ | refine Bv1.mk _ rfl ?_ | refine Wr.mk _ (wrap_i64 (by omega) (by omega)) ?_ | refine Wr.mk _ rfl ?_ | refine And.intro len_map ?_ | refine And.intro (leX_refl _) ?_ | refine And.intro rfl ?_ | refine And.intro (leO_some _) ?_ | (refine And.intro (fun h => absurd h (by decide)) (fun h => ?_); clear h) | (refine And.intro (fun h => ?_) (fun h => absurd h (by decide)); clear h) | (with_reducible first | refine sp1 (fun h => ?_) (fun h => ?_) | refine sp2 (fun h => ?_) (fun h => ?_) | refine sp3 (fun h => ?_) (fun h => ?_) | refine sp4 (fun h => ?_) (fun h => ?_) | refine sp5 (fun h => ?_) (fun h => ?_) | refine sp6 (fun h => ?_) (fun h => ?_)) | with_reducible refine And.intro (fun h => ?_) (fun h => ?_) | refine And.intro (Int.natCast_nonneg _) ?_ | refine And.intro (by omega) ?_ | refine And.intro (by decide) ?_ | refine Get.mk _ (hg) ?_ | refine Lst.mk _ rfl ?_ | refine And.intro trivial ?_ | exact trivial | exact leX_refl _ | exact rfl | refine frc_mk ?_ | refine weak_fr ?_ ?_ rfl | refine And.intro ?_ ?_ | fail) | refine frc_mk ?_)
        all_goals first
          | contradiction
          | (exfalso; omega)
          | (exfalso; clear h17 h19 h20 h21 h22 h18 h12; simp_all; done)
          | exact leX_refl _
          | trace_state
      · repeat' (first | ((conv => whnf) <;>
                 first | refine Frz.own ?_ | refine Get.mk _ rfl ?_ | refine Get.mk _ (map_geti (by omega)) ?_ | refine Get.mk _ (map_getp (by omega) (by omega)) ?_ | refine Get.mk _ (map_get (by omega)) ?_ | refine Bv2.mk _ _ rfl rfl ?_ | refine Bv1.mk _ rfl ?_ | refine Wr.mk _ (wrap_i64 (by omega) (by omega)) ?_ | refine Wr.mk _ rfl ?_ | refine And.intro len_map ?_ | refine And.intro (leX_refl _) ?_ | refine And.intro rfl ?_ | refine And.intro (leO_some _) ?_ | (refine And.intro (fun h => absurd h (by decide)) (fun h => ?_); clear h) | (refine And.intro (fun h => ?_) (fun h => absurd h (by decide)); clear h) | (with_reducible first | refine sp1 (fun h => ?_) (fun h => ?_) | refine sp2 (fun h => ?_) (fun h => ?_) | refine sp3 (fun h => ?_) (fun h => ?_) | refine sp4 (fun h => ?_) (fun h => ?_) | refine sp5 (fun h => ?_) (fun h => ?_) | refine sp6 (fun h => ?_) (fun h => ?_)) | with_reducible refine And.intro (fun h => ?_) (fun h => ?_) | refine And.intro (Int.natCast_nonneg _) ?_ | refine And.intro (by omega) ?_ | refine And.intro (by decide) ?_ | refine Lst.mk _ rfl ?_ | refine Or.inr (Or.inl ⟨_, _, h12, leL_refl _, rfl, rfl, ?_⟩) | refine And.intro trivial ?_ | exact trivial | exact leX_refl _ | exact rfl | refine frc_mk ?_ | refine weak_fr ?_ ?_ rfl | refine And.intro ?_ ?_ | fail) | refine frc_mk ?_)
        all_goals first
          | (exfalso; omega)
          | exact leX_refl _
          | trace_state
  · obtain rfl : s = true := hs
    have hid : (idsL [TV.x ty0 y]).isEmpty = true := by simp [idsL, TV.ids, hyi]
    repeat' (first | ((conv => whnf) <;>
             first | refine Frz.own ?_ | refine Get.mk _ rfl ?_ | refine Get.mk _ (map_geti (by omega)) ?_ | refine Get.mk _ (map_getp (by omega) (by omega)) ?_ | refine Get.mk _ (map_get (by omega)) ?_ | refine Bv2.mk _ _ rfl rfl ?_ | refine Bv1.mk _ rfl ?_ | refine Wr.mk _ (wrap_i64 (by omega) (by omega)) ?_ | refine Wr.mk _ rfl ?_ | refine And.intro len_map ?_ | refine And.intro (leX_refl _) ?_ | refine And.intro rfl ?_ | refine And.intro (leO_some _) ?_ | (refine And.intro (fun h => absurd h (by decide)) (fun h => ?_); clear h) | (refine And.intro (fun h => ?_) (fun h => absurd h (by decide)); clear h) | (with_reducible first | refine sp1 (fun h => ?_) (fun h => ?_) | refine sp2 (fun h => ?_) (fun h => ?_) | refine sp3 (fun h => ?_) (fun h => ?_) | refine sp4 (fun h => ?_) (fun h => ?_) | refine sp5 (fun h => ?_) (fun h => ?_) | refine sp6 (fun h => ?_) (fun h => ?_)) | with_reducible refine And.intro (fun h => ?_) (fun h => ?_) | refine And.intro (Int.natCast_nonneg _) ?_ | refine And.intro (by omega) ?_ | refine And.intro (by decide) ?_ | refine Lst.mk _ rfl ?_ | refine callPure (h17) (rfl) (by first | (simp [idsL, TV.ids]; done) | (simp [TV.ids, idsL, *]; done)) ?_ | refine callPure (h19) (hid) (by first | (simp [TV.ids]; done) | (simp [TV.ids, idsL, *]; done)) ?_ | refine callPure (h21) (hid) (by first | (simp [TV.ids]; done) | (simp [TV.ids, idsL, *]; done)) ?_ | refine callPure (h18) (hid) (by first | (simp [TV.ids]; done) | (simp [TV.ids, idsL, *]; done)) ?_ | refine Or.inr (Or.inl ⟨_, _, h20, leL_refl _, rfl, rfl, ?_⟩) | refine Or.inr (Or.inl ⟨_, _, h22, leL_refl _, rfl, rfl, ?_⟩) | refine Or.inr (Or.inl ⟨_, _, h12, leL_refl _, rfl, rfl, ?_⟩) | refine And.intro trivial ?_ | exact trivial | exact leX_refl _ | exact rfl | refine frc_mk ?_ | refine weak_fr ?_ ?_ rfl | refine And.intro ?_ ?_ | fail) | refine frc_mk ?_)
    all_goals first
      | contradiction
      | (exfalso; omega)
      | (exfalso; clear h17 h19 h20 h21 h22 h18 h12; simp_all; done)
      | exact leX_refl _
      | skip
    refine V_up L.length (fun i => i ≤ L.length) (fun i => ([(3, .p 64 0 0), (4, .s 3 M), (5, tI i)], [(64, .var 45 (.a [.x ty0 y, tB true, .s 3 M]))])) (Nat.zero_le _) ?_ ?_
    · refine weak_fr ?_ ?_ (by simp [shut, allIn, Ob.ids, TV.ids, idsL, hyi, lo] <;> rfl)
      repeat' (first | ((conv => whnf) <;>
               first | refine Frz.own ?_ | refine Get.mk _ rfl ?_ | refine Get.mk _ (map_geti (by omega)) ?_ | refine Get.mk _ (map_getp (by omega) (by omega)) ?_ | refine Get.mk _ (map_get (by omega)) ?_ | refine Bv2.mk _ _ rfl rfl ?_ | refine Bv1.mk _ rfl ?_ | refine Wr.mk _ (wrap_i64 (by omega) (by omega)) ?_ | refine Wr.mk _ rfl ?_ | refine And.intro len_map ?_ | refine And.intro (leX_refl _) ?_ | refine And.intro rfl ?_ | refine And.intro (leO_some _) ?_ | (refine And.intro (fun h => absurd h (by decide)) (fun h => ?_); clear h) | (refine And.intro (fun h => ?_) (fun h => absurd h (by decide)); clear h) | (with_reducible first | refine sp1 (fun h => ?_) (fun h => ?_) | refine sp2 (fun h => ?_) (fun h => ?_) | refine sp3 (fun h => ?_) (fun h => ?_) | refine sp4 (fun h => ?_) (fun h => ?_) | refine sp5 (fun h => ?_) (fun h => ?_) | refine sp6 (fun h => ?_) (fun h => ?_)) | with_reducible refine And.intro (fun h => ?_) (fun h => ?_) | refine And.intro (Int.natCast_nonneg _) ?_ | refine And.intro (by omega) ?_ | refine And.intro (by decide) ?_ | refine Lst.mk _ rfl ?_ | refine And.intro trivial ?_ | exact trivial | exact leX_refl _ | exact rfl | refine frc_mk ?_ | refine weak_fr ?_ ?_ rfl | refine And.intro ?_ ?_ | fail) | refine frc_mk ?_)
      all_goals first
        | exact leT (by simp [TV.sub, hys])
        | trace_state
      repeat' (first | ((conv => whnf) <;>
               first | refine Frz.own ?_ | refine Get.mk _ rfl ?_ | refine Get.mk _ (map_geti (by omega)) ?_ | refine Get.mk _ (map_getp (by omega) (by omega)) ?_ | refine Get.mk _ (map_get (by omega)) ?_ | refine Bv2.mk _ _ rfl rfl ?_ | refine Bv1.mk _ rfl ?_ | refine Wr.mk _ (wrap_i64 (by omega) (by omega)) ?_ | refine Wr.mk _ rfl ?_ | refine And.intro len_map ?_ | refine And.intro (leX_refl _) ?_ | refine And.intro rfl ?_ | refine And.intro (leO_some _) ?_ | (refine And.intro (fun h => absurd h (by decide)) (fun h => ?_); clear h) | (refine And.intro (fun h => ?_) (fun h => absurd h (by decide)); clear h) | (with_reducible first | refine sp1 (fun h => ?_) (fun h => ?_) | refine sp2 (fun h => ?_) (fun h => ?_) | refine sp3 (fun h => ?_) (fun h => ?_) | refine sp4 (fun h => ?_) (fun h => ?_) | refine sp5 (fun h => ?_) (fun h => ?_) | refine sp6 (fun h => ?_) (fun h => ?_)) | with_reducible refine And.intro (fun h => ?_) (fun h => ?_) | refine And.intro (Int.natCast_nonneg _) ?_ | refine And.intro (by omega) ?_ | refine And.intro (by decide) ?_ | refine Lst.mk _ rfl ?_ | refine And.intro trivial ?_ | exact trivial | exact leX_refl _ | exact rfl | refine frc_mk ?_ | refine weak_fr ?_ ?_ rfl | refine And.intro ?_ ?_ | fail) | refine frc_mk ?_)
      all_goals first
        | exact leX_refl _
        | exact leT (by simp [TV.sub, hys])
        | trace_state
    · intro i hi _
      refine V_x ?_
      by_cases hlt : i < L.length
      · have hg := hget i hlt
        repeat' (first | ((conv => whnf) <;>
                 first | refine Frz.own ?_ | refine Get.mk _ rfl ?_ | refine Get.mk _ (map_geti (by omega)) ?_ | refine Get.mk _ (map_getp (by omega) (by omega)) ?_ | refine Get.mk _ (map_get (by omega)) ?_ | refine Bv2.mk _ _ rfl rfl ?_ | refine Bv1.mk _ rfl ?_ | refine Wr.mk _ (wrap_i64 (by omega) (by omega)) ?_ | refine Wr.mk _ rfl ?_ | refine And.intro len_map ?_ | refine And.intro (leX_refl _) ?_ | refine And.intro rfl ?_ | refine And.intro (leO_some _) ?_ | (refine And.intro (fun h => absurd h (by decide)) (fun h => ?_); clear h) | (refine And.intro (fun h => ?_) (fun h => absurd h (by decide)); clear h) | (with_reducible first | refine sp1 (fun h => ?_) (fun h => ?_) | refine sp2 (fun h => ?_) (fun h => ?_) | refine sp3 (fun h => ?_) (fun h => ?_) | refine sp4 (fun h => ?_) (fun h => ?_) | refine sp5 (fun h => ?_) (fun h => ?_) | refine sp6 (fun h => ?_) (fun h => ?_)) | with_reducible refine And.intro (fun h => ?_) (fun h => ?_) | refine And.intro (Int.natCast_nonneg _) ?_ | refine And.intro (by omega) ?_ | refine And.intro (by decide) ?_ | refine Get.mk _ (hg) ?_ | refine Lst.mk _ rfl ?_ | refine And.intro trivial ?_ | exact trivial | exact leX_refl _ | exact rfl | refine frc_mk ?_ | refine weak_fr ?_ ?_ rfl | refine And.intro ?_ ?_ | fail) | refine frc_mk ?_)
        all_goals first
          | contradiction
          | (exfalso; omega)
          | (exfalso; clear h17 h19 h20 h21 h22 h18 h12; simp_all; done)
          | exact leX_refl _
          | (refine weak_fr ?_ ?_ (by simp [shut, allIn, Ob.ids, TV.ids, idsL, hyi, lo] <;> rfl))
          | trace_state
        repeat' (first | ((conv => whnf) <;>
                 first | refine Frz.own ?_ | refine Get.mk _ rfl ?_ | refine Get.mk _ (map_geti (by omega)) ?_ | refine Get.mk _ (map_getp (by omega) (by omega)) ?_ | refine Get.mk _ (map_get (by omega)) ?_ | refine Bv2.mk _ _ rfl rfl ?_ | refine Bv1.mk _ rfl ?_ | refine Wr.mk _ (wrap_i64 (by omega) (by omega)) ?_ | refine Wr.mk _ rfl ?_ | refine And.intro len_map ?_ | refine And.intro (leX_refl _) ?_ | refine And.intro rfl ?_ | refine And.intro (leO_some _) ?_ | (refine And.intro (fun h => absurd h (by decide)) (fun h => ?_); clear h) | (refine And.intro (fun h => ?_) (fun h => absurd h (by decide)); clear h) | (with_reducible first | refine sp1 (fun h => ?_) (fun h => ?_) | refine sp2 (fun h => ?_) (fun h => ?_) | refine sp3 (fun h => ?_) (fun h => ?_) | refine sp4 (fun h => ?_) (fun h => ?_) | refine sp5 (fun h => ?_) (fun h => ?_) | refine sp6 (fun h => ?_) (fun h => ?_)) | with_reducible refine And.intro (fun h => ?_) (fun h => ?_) | refine And.intro (Int.natCast_nonneg _) ?_ | refine And.intro (by omega) ?_ | refine And.intro (by decide) ?_ | refine Lst.mk _ rfl ?_ | refine And.intro trivial ?_ | exact trivial | exact leX_refl _ | exact rfl | refine frc_mk ?_ | refine weak_fr ?_ ?_ rfl | refine And.intro ?_ ?_ | fail) | refine frc_mk ?_)
        all_goals first
          | exact leX_refl _
          | exact leT (by simp [TV.sub, hys])
          | trace_state
      · repeat' (first | ((conv => whnf) <;>
                 first | refine Frz.own ?_ | refine Get.mk _ rfl ?_ | refine Get.mk _ (map_geti (by omega)) ?_ | refine Get.mk _ (map_getp (by omega) (by omega)) ?_ | refine Get.mk _ (map_get (by omega)) ?_ | refine Bv2.mk _ _ rfl rfl ?_ | refine Bv1.mk _ rfl ?_ | refine Wr.mk _ (wrap_i64 (by omega) (by omega)) ?_ | refine Wr.mk _ rfl ?_ | refine And.intro len_map ?_ | refine And.intro (leX_refl _) ?_ | refine And.intro rfl ?_ | refine And.intro (leO_some _) ?_ | (refine And.intro (fun h => absurd h (by decide)) (fun h => ?_); clear h) | (refine And.intro (fun h => ?_) (fun h => absurd h (by decide)); clear h) | (with_reducible first | refine sp1 (fun h => ?_) (fun h => ?_) | refine sp2 (fun h => ?_) (fun h => ?_) | refine sp3 (fun h => ?_) (fun h => ?_) | refine sp4 (fun h => ?_) (fun h => ?_) | refine sp5 (fun h => ?_) (fun h => ?_) | refine sp6 (fun h => ?_) (fun h => ?_)) | with_reducible refine And.intro (fun h => ?_) (fun h => ?_) | refine And.intro (Int.natCast_nonneg _) ?_ | refine And.intro (by omega) ?_ | refine And.intro (by decide) ?_ | refine Lst.mk _ rfl ?_ | refine Or.inr (Or.inl ⟨_, _, h12, leL_refl _, rfl, rfl, ?_⟩) | refine And.intro trivial ?_ | exact trivial | exact leX_refl _ | exact rfl | refine frc_mk ?_ | refine weak_fr ?_ ?_ rfl | refine And.intro ?_ ?_ | fail) | refine frc_mk ?_)
        all_goals first
          | (exfalso; omega)
          | exact leX_refl _
          | trace_state
end Go.Proofs.YtdbeeenjcjplhaaDoor.Vc

namespace Go.Proofs.YtdbeeenjcjplhaaDoor.Vc
open Go Go.RowKit Go.Proofs Go.Proofs.Tryd
set_option maxRecDepth 20000
def innE (e : Err) (x : ActF) : Err := if x.k = 1 then wrapE e x.p x.a else turnE e x.c x.p x.a
theorem innE_flt (c a : Int) (p : ByteArray) (e : Err) (x : ActF) : ∃ c', innE (.flt c p a e) x = .flt c' x.p x.a (.flt c p a e) := by
  unfold innE turnE wrapE
  split
  · exact ⟨_, rfl⟩
  split
  · exact ⟨_, rfl⟩
  · exact ⟨_, rfl⟩
def innR (e : Err) (l : List ActF) : Err := l.foldl innE e
theorem innR_take (e : Err) (l : List ActF) {i : Nat} (h : i < l.length) : innR e (l.take (i + 1)) = innE (innR e (l.take i)) l[i] := by
  unfold innR
  rw [List.take_succ_eq_append_getElem h, List.foldl_append]; rfl
/-- An error whose innermost link is this one. -/
structure Inn (k : LinkF) (n : Nat) (e : Err) : Prop where
  flt : ∃ c p a e', e = .flt c p a e'
  l : ∃ L, e.links = L ++ [k] ∧ L.length = n
  h : e.has k.c = true
theorem Inn.step {k : LinkF} {n : Nat} {e : Err} (h : Inn k n e) (x : ActF) : Inn k (n + 1) (innE e x) := by
  obtain ⟨⟨c, p, a, e', rfl⟩, ⟨L, h1, h2⟩, h3⟩ := h
  obtain ⟨c', hc⟩ := innE_flt c a p e' x
  rw [hc]
  exact ⟨⟨_, _, _, _, rfl⟩, ⟨⟨c', x.p, x.a⟩ :: L, by show _ :: (Err.flt c p a e').links = _; rw [h1]; rfl, by simp [h2]⟩, by show (decide (c' = k.c) || (Err.flt c p a e').has k.c) = true; rw [h3]; simp⟩
theorem innR_inn {k : LinkF} {e : Err} (h : Inn k 0 e) (l : List ActF) : ∀ i, i ≤ l.length → Inn k i (innR e (l.take i)) := by
  intro i
  induction i with
  | zero => intro _; exact h
  | succ i ih =>
    intro hi
    rw [innR_take e l (by omega)]
    exact (ih (by omega)).step _
set_option maxHeartbeats 8000000 in
theorem s6 (c : Int) (p : ByteArray) (a : Int) (l : List ActF) (hL : l.length ≤ 9223372036854775807) : Spec prog 6 [tI c, tS p, tI a, .s 4 (l.map ActF.tv)] [] (tB true) [] := by
  have h12 := s12
  have h25z : Spec prog 25 [tI 0, tS ⟨#[120]⟩, tI a] [] (.v .nilIface) [] := s25 0 a ⟨#[120]⟩
  refine spec_s is6 mixed rfl (V_x ?_)
  by_cases h0 : c = 0 ∨ 100 < p.size
  · repeat' (first | ((conv => whnf) <;>
             first | refine Frz.own ?_ | refine Get.mk _ rfl ?_ | refine Get.mk _ (map_geti (by omega)) ?_ | refine Get.mk _ (map_getp (by omega) (by omega)) ?_ | refine Get.mk _ (map_get (by omega)) ?_ | refine Bv2.mk _ _ rfl rfl ?_ | refine Bv1.mk _ rfl ?_ | refine Wr.mk _ (wrap_i64 (by omega) (by omega)) ?_ | refine Wr.mk _ rfl ?_ | refine And.intro len_map ?_ | refine And.intro (leX_refl _) ?_ | refine And.intro rfl ?_ | refine And.intro (leO_some _) ?_ | (refine And.intro (fun h => absurd h (by decide)) (fun h => ?_); clear h) | (refine And.intro (fun h => ?_) (fun h => absurd h (by decide)); clear h) | (with_reducible first | refine sp1 (fun h => ?_) (fun h => ?_) | refine sp2 (fun h => ?_) (fun h => ?_) | refine sp3 (fun h => ?_) (fun h => ?_) | refine sp4 (fun h => ?_) (fun h => ?_) | refine sp5 (fun h => ?_) (fun h => ?_) | refine sp6 (fun h => ?_) (fun h => ?_)) | with_reducible refine And.intro (fun h => ?_) (fun h => ?_) | refine And.intro (Int.natCast_nonneg _) ?_ | refine And.intro (by omega) ?_ | refine And.intro (by decide) ?_ | refine Lst.mk _ rfl ?_ | refine Or.inr (Or.inl ⟨_, _, h25z, leL_refl _, rfl, rfl, ?_⟩) | refine Or.inr (Or.inl ⟨_, _, h12, leL_refl _, rfl, rfl, ?_⟩) | refine And.intro trivial ?_ | exact trivial | exact leX_refl _ | exact rfl | refine frc_mk ?_ | refine weak_fr ?_ ?_ rfl | refine And.intro ?_ ?_ | fail) | refine frc_mk ?_)
    all_goals first
      | contradiction
      | (exfalso; rcases h0 with h0 | h0 <;> simp_all <;> omega)
      | exact leX_refl _
      | trace_state
  · have hc0 : c ≠ 0 := fun h => h0 (.inl h)
    have hp0 : ¬ 100 < p.size := fun h => h0 (.inr h)
    have hnew : newE c p a = .flt c p a .nil := by unfold newE; rw [if_neg hc0]
    have h25 : Spec prog 25 [tI c, tS p, tI a] [] (.x 23 (.r [tI c, tS p, tI a, .v .nilIface])) [] := by
      have := s25 c a p
      rw [hnew] at this; exact this
    have hI0 : Inn ⟨c, p, a⟩ 0 (.flt c p a .nil) := ⟨⟨_, _, _, _, rfl⟩, ⟨[], rfl, rfl⟩, by simp [Err.has]⟩
    have hI := innR_inn hI0 l
    have hlm : (l.map ActF.tv).length = l.length := List.length_map _
    have hget : ∀ i, (h : i < l.length) → (l.map ActF.tv)[i]? = some (.a [tI l[i].k, tI l[i].c, tS l[i].p, tI l[i].a]) := fun i h => by rw [List.getElem?_map, List.getElem?_eq_getElem h]; rfl
    have hnx : ∀ i, (h : i < l.length) → innR (.flt c p a .nil) (l.take (i + 1)) = innE (innR (.flt c p a .nil) (l.take i)) l[i] := fun i h => innR_take _ l h
    have hz : (innR (.flt c p a .nil) (l.take 0)).tv = .x 23 (.r [tI c, tS p, tI a, .v .nilIface]) := rfl
    generalize hR : (fun i => innR (.flt c p a .nil) (l.take i)) = R at *
    have hR' : ∀ i, innR (.flt c p a .nil) (l.take i) = R i := fun i => by rw [← hR]
    simp only [hR'] at hI hnx hz
    generalize hM : l.map ActF.tv = M at *
    clear hR hR'
    repeat' (first | ((conv => whnf) <;>
             first | refine Frz.own ?_ | refine Get.mk _ rfl ?_ | refine Get.mk _ (map_geti (by omega)) ?_ | refine Get.mk _ (map_getp (by omega) (by omega)) ?_ | refine Get.mk _ (map_get (by omega)) ?_ | refine Bv2.mk _ _ rfl rfl ?_ | refine Bv1.mk _ rfl ?_ | refine Wr.mk _ (wrap_i64 (by omega) (by omega)) ?_ | refine Wr.mk _ rfl ?_ | refine And.intro len_map ?_ | refine And.intro (leX_refl _) ?_ | refine And.intro rfl ?_ | refine And.intro (leO_some _) ?_ | (refine And.intro (fun h => absurd h (by decide)) (fun h => ?_); clear h) | (refine And.intro (fun h => ?_) (fun h => absurd h (by decide)); clear h) | (with_reducible first | refine sp1 (fun h => ?_) (fun h => ?_) | refine sp2 (fun h => ?_) (fun h => ?_) | refine sp3 (fun h => ?_) (fun h => ?_) | refine sp4 (fun h => ?_) (fun h => ?_) | refine sp5 (fun h => ?_) (fun h => ?_) | refine sp6 (fun h => ?_) (fun h => ?_)) | with_reducible refine And.intro (fun h => ?_) (fun h => ?_) | refine And.intro (Int.natCast_nonneg _) ?_ | refine And.intro (by omega) ?_ | refine And.intro (by decide) ?_ | refine Lst.mk _ rfl ?_ | refine Or.inr (Or.inl ⟨_, _, h25, leL_refl _, rfl, rfl, ?_⟩) | refine And.intro trivial ?_ | exact trivial | exact leX_refl _ | exact rfl | refine frc_mk ?_ | refine weak_fr ?_ ?_ rfl | refine And.intro ?_ ?_ | fail) | refine frc_mk ?_)
    all_goals first
      | contradiction
      | (exfalso; omega)
      | skip
    refine V_up (min l.length 40) (fun i => i ≤ 40) (fun i => ([(0, tI c), (1, tS p), (2, tI a), (3, .s 4 M), (9, (R i).tv), (10, tI i)], [])) (by omega) ?_ ?_
    · rw [hz]
      repeat' (first | ((conv => whnf) <;>
               first | refine Frz.own ?_ | refine Get.mk _ rfl ?_ | refine Get.mk _ (map_geti (by omega)) ?_ | refine Get.mk _ (map_getp (by omega) (by omega)) ?_ | refine Get.mk _ (map_get (by omega)) ?_ | refine Bv2.mk _ _ rfl rfl ?_ | refine Bv1.mk _ rfl ?_ | refine Wr.mk _ (wrap_i64 (by omega) (by omega)) ?_ | refine Wr.mk _ rfl ?_ | refine And.intro len_map ?_ | refine And.intro (leX_refl _) ?_ | refine And.intro rfl ?_ | refine And.intro (leO_some _) ?_ | (refine And.intro (fun h => absurd h (by decide)) (fun h => ?_); clear h) | (refine And.intro (fun h => ?_) (fun h => absurd h (by decide)); clear h) | (with_reducible first | refine sp1 (fun h => ?_) (fun h => ?_) | refine sp2 (fun h => ?_) (fun h => ?_) | refine sp3 (fun h => ?_) (fun h => ?_) | refine sp4 (fun h => ?_) (fun h => ?_) | refine sp5 (fun h => ?_) (fun h => ?_) | refine sp6 (fun h => ?_) (fun h => ?_)) | with_reducible refine And.intro (fun h => ?_) (fun h => ?_) | refine And.intro (Int.natCast_nonneg _) ?_ | refine And.intro (by omega) ?_ | refine And.intro (by decide) ?_ | refine Lst.mk _ rfl ?_ | refine And.intro trivial ?_ | exact trivial | exact leX_refl _ | exact rfl | refine frc_mk ?_ | refine weak_fr ?_ ?_ rfl | refine And.intro ?_ ?_ | fail) | refine frc_mk ?_)
      all_goals first
        | exact leX_refl _
        | trace_state
    · intro i hi hi40
      refine V_x ?_
      obtain ⟨⟨c1, p1, a1, e1, he1⟩, hlinks, hhas⟩ := hI i (by omega)
      by_cases hlt : i < l.length ∧ i < 40
      · have hg := hget i hlt.1
        have hnx := hnx i hlt.1
        generalize l[i]'hlt.1 = x at *
        obtain ⟨k2, c2, p2, a2⟩ := x
        dsimp only at hg hnx
        rw [hnx, he1]
        unfold innE
        dsimp only
        by_cases hk : k2 = 1
        · rw [if_pos hk]
          have h27 := s27 (.flt c1 p1 a1 e1) a2 p2
          dsimp only [wrapE, Err.tv] at h27 ⊢
          generalize (Err.flt c1 p1 a1 e1).code = C at *
          repeat' (first | ((conv => whnf) <;>
                   first | refine Frz.own ?_ | refine Get.mk _ rfl ?_ | refine Get.mk _ (map_geti (by omega)) ?_ | refine Get.mk _ (map_getp (by omega) (by omega)) ?_ | refine Get.mk _ (map_get (by omega)) ?_ | refine Bv2.mk _ _ rfl rfl ?_ | refine Bv1.mk _ rfl ?_ | refine Wr.mk _ (wrap_i64 (by omega) (by omega)) ?_ | refine Wr.mk _ rfl ?_ | refine And.intro len_map ?_ | refine And.intro (leX_refl _) ?_ | refine And.intro rfl ?_ | refine And.intro (leO_some _) ?_ | (refine And.intro (fun h => absurd h (by decide)) (fun h => ?_); clear h) | (refine And.intro (fun h => ?_) (fun h => absurd h (by decide)); clear h) | (with_reducible first | refine sp1 (fun h => ?_) (fun h => ?_) | refine sp2 (fun h => ?_) (fun h => ?_) | refine sp3 (fun h => ?_) (fun h => ?_) | refine sp4 (fun h => ?_) (fun h => ?_) | refine sp5 (fun h => ?_) (fun h => ?_) | refine sp6 (fun h => ?_) (fun h => ?_)) | with_reducible refine And.intro (fun h => ?_) (fun h => ?_) | refine And.intro (Int.natCast_nonneg _) ?_ | refine And.intro (by omega) ?_ | refine And.intro (by decide) ?_ | refine Get.mk _ (hg) ?_ | refine Lst.mk _ rfl ?_ | refine Or.inr (Or.inl ⟨_, _, h27, leL_refl _, rfl, rfl, ?_⟩) | refine And.intro trivial ?_ | exact trivial | exact leX_refl _ | exact rfl | refine frc_mk ?_ | refine weak_fr ?_ ?_ rfl | refine And.intro ?_ ?_ | fail) | refine frc_mk ?_)
          all_goals first
            | contradiction
            | (exfalso; omega)
            | exact leX_refl _
            | trace_state
        · rw [if_neg hk]
          obtain ⟨c3, hc3⟩ : ∃ c3, turnE (.flt c1 p1 a1 e1) c2 p2 a2 = .flt c3 p2 a2 (.flt c1 p1 a1 e1) := by
            unfold turnE wrapE
            split <;> exact ⟨_, rfl⟩
          have h28 := s28 (.flt c1 p1 a1 e1) c2 a2 p2
          rw [hc3] at h28 ⊢
          dsimp only [Err.tv] at h28 ⊢
          repeat' (first | ((conv => whnf) <;>
                   first | refine Frz.own ?_ | refine Get.mk _ rfl ?_ | refine Get.mk _ (map_geti (by omega)) ?_ | refine Get.mk _ (map_getp (by omega) (by omega)) ?_ | refine Get.mk _ (map_get (by omega)) ?_ | refine Bv2.mk _ _ rfl rfl ?_ | refine Bv1.mk _ rfl ?_ | refine Wr.mk _ (wrap_i64 (by omega) (by omega)) ?_ | refine Wr.mk _ rfl ?_ | refine And.intro len_map ?_ | refine And.intro (leX_refl _) ?_ | refine And.intro rfl ?_ | refine And.intro (leO_some _) ?_ | (refine And.intro (fun h => absurd h (by decide)) (fun h => ?_); clear h) | (refine And.intro (fun h => ?_) (fun h => absurd h (by decide)); clear h) | (with_reducible first | refine sp1 (fun h => ?_) (fun h => ?_) | refine sp2 (fun h => ?_) (fun h => ?_) | refine sp3 (fun h => ?_) (fun h => ?_) | refine sp4 (fun h => ?_) (fun h => ?_) | refine sp5 (fun h => ?_) (fun h => ?_) | refine sp6 (fun h => ?_) (fun h => ?_)) | with_reducible refine And.intro (fun h => ?_) (fun h => ?_) | refine And.intro (Int.natCast_nonneg _) ?_ | refine And.intro (by omega) ?_ | refine And.intro (by decide) ?_ | refine Get.mk _ (hg) ?_ | refine Lst.mk _ rfl ?_ | refine Or.inr (Or.inl ⟨_, _, h28, leL_refl _, rfl, rfl, ?_⟩) | refine And.intro trivial ?_ | exact trivial | exact leX_refl _ | exact rfl | refine frc_mk ?_ | refine weak_fr ?_ ?_ rfl | refine And.intro ?_ ?_ | fail) | refine frc_mk ?_)
          all_goals first
            | contradiction
            | (exfalso; omega)
            | exact leX_refl _
            | trace_state
      · have hin : i = min l.length 40 := by omega
        obtain ⟨L, hL1, hL2⟩ := hlinks
        have h18 := s18 (R i) (by rw [hL1, List.length_append, List.length_singleton]; omega)
        have h23 := s23 (R i) c
        have hh : (R i).hasC c = true := by
          unfold Err.hasC
          rw [if_neg (by rw [he1]; simp [Err.isNil, hc0])]
          exact hhas
        rw [hh] at h23
        rw [hL1] at h18
        have hlen : ((L ++ [⟨c, p, a⟩] : List LinkF).map LinkF.tv).length = i + 1 := by simp [hL2]
        have hlast : ((L ++ [⟨c, p, a⟩] : List LinkF).map LinkF.tv)[(((i : Int) + 1) - 1).toNat]? = some (.a [tI c, tS p, tI a]) := by
          rw [show (((i : Int) + 1) - 1).toNat = L.length by omega, List.map_append]
          rw [List.getElem?_append_right (by simp)]
          simp [LinkF.tv]
        generalize (L ++ [⟨c, p, a⟩] : List LinkF).map LinkF.tv = N at *
        rw [he1] at h18 h23 ⊢
        have hmin : min (l.length : Int) 40 = i := by omega
        have hlm' : ((M.length : Nat) : Int) = (l.length : Int) := by omega
        have hln' : ((N.length : Nat) : Int) = (i : Int) + 1 := by omega
        have hmin' : min ((M.length : Nat) : Int) 40 = (i : Int) := by rw [hlm', hmin]
        have hlast' : N[(((N.length : Nat) : Int) - 1).toNat]? = some (.a [tI c, tS p, tI a]) := by rw [hln']; exact hlast
        repeat' (first | ((conv => whnf) <;>
                 first | refine Frz.own ?_ | refine Wr.mk _ (hmin') ?_ | refine Get.mk _ rfl ?_ | refine Get.mk _ (map_geti (by omega)) ?_ | refine Get.mk _ (map_getp (by omega) (by omega)) ?_ | refine Get.mk _ (map_get (by omega)) ?_ | refine Bv2.mk _ _ rfl rfl ?_ | refine Bv1.mk _ rfl ?_ | refine Wr.mk _ (wrap_i64 (by omega) (by omega)) ?_ | refine Wr.mk _ rfl ?_ | refine And.intro len_map ?_ | refine And.intro (leX_refl _) ?_ | refine And.intro rfl ?_ | refine And.intro (leO_some _) ?_ | (refine And.intro (fun h => absurd h (by decide)) (fun h => ?_); clear h) | (refine And.intro (fun h => ?_) (fun h => absurd h (by decide)); clear h) | (with_reducible first | refine sp1 (fun h => ?_) (fun h => ?_) | refine sp2 (fun h => ?_) (fun h => ?_) | refine sp3 (fun h => ?_) (fun h => ?_) | refine sp4 (fun h => ?_) (fun h => ?_) | refine sp5 (fun h => ?_) (fun h => ?_) | refine sp6 (fun h => ?_) (fun h => ?_)) | with_reducible refine And.intro (fun h => ?_) (fun h => ?_) | refine And.intro (Int.natCast_nonneg _) ?_ | refine And.intro (by omega) ?_ | refine And.intro (by decide) ?_ | refine Get.mk _ (hlast') ?_ | refine Lst.mk _ rfl ?_ | refine Or.inr (Or.inl ⟨_, _, h18, leL_refl _, rfl, rfl, ?_⟩) | refine Or.inr (Or.inl ⟨_, _, h23, leL_refl _, rfl, rfl, ?_⟩) | refine Or.inr (Or.inl ⟨_, _, h12, leL_refl _, rfl, rfl, ?_⟩) | refine And.intro trivial ?_ | exact trivial | exact leX_refl _ | exact rfl | refine frc_mk ?_ | refine weak_fr ?_ ?_ rfl | refine And.intro ?_ ?_ | fail) | refine frc_mk ?_)
        all_goals first
          | contradiction
          | (exfalso; omega)
          | exact leX_refl _
          | (exfalso; clear h18 h23 h12 h25 h25z; simp_all; done)
          | trace_state
end Go.Proofs.YtdbeeenjcjplhaaDoor.Vc
