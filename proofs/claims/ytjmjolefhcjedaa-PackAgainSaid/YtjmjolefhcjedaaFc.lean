/- Wants, first fit: the program's and the reference's. -/
import Derived.Test.YtjmjolefhcjedaaWc
import Derived.Test.YtjmjolefhcjedaaGc
namespace Go.Proofs.Ytjmjolefhcjedaa.Vc
open Go Go.RowKit Go.Sort Go.Shelf Go.Proofs Go.Proofs.Try
set_option maxRecDepth 20000

theorem s125 (l : List Want) (h0 : l ≠ []) (hl : l.length ≤ 1000) : Spec prog 125 [.s 2 (l.map Want.tv)] [] (.o 0) [.row 63 2 (l.map Want.tv)] := by
  have hlen : (l.map Want.tv).length = l.length := List.length_map _
  refine spec_o is125 mixed [96] rfl rfl rfl (V_x ?_)
  cases l with
  | nil => exact absurd rfl h0
  | cons w l =>
    repeat' (conv => whnf
             first | refine Frz.own ?_ | refine Get.mk _ rfl ?_ | refine Get.mk _ (map_geti (by omega)) ?_ | refine Get.mk _ (map_getp (by omega) (by omega)) ?_ | refine Get.mk _ (map_get (by omega)) ?_ | refine Bv2.mk _ _ rfl rfl ?_ | refine Bv1.mk _ rfl ?_ | refine Wr.mk _ (wrap_i64 (by omega) (by omega)) ?_ | refine Wr.mk _ rfl ?_ | refine And.intro len_map ?_ | refine And.intro (leX_refl _) ?_ | refine And.intro rfl ?_ | refine And.intro (leO_some _) ?_ | (refine And.intro (fun h => absurd h (by decide)) (fun h => ?_); clear h) | (refine And.intro (fun h => ?_) (fun h => absurd h (by decide)); clear h) | (with_reducible first | refine sp1 (fun h => ?_) (fun h => ?_) | refine sp2 (fun h => ?_) (fun h => ?_) | refine sp3 (fun h => ?_) (fun h => ?_) | refine sp4 (fun h => ?_) (fun h => ?_) | refine sp5 (fun h => ?_) (fun h => ?_) | refine sp6 (fun h => ?_) (fun h => ?_)) | with_reducible refine And.intro (fun h => ?_) (fun h => ?_) | refine And.intro (Int.natCast_nonneg _) ?_ | refine And.intro (by omega) ?_ | refine And.intro (by decide) ?_ | refine Lst.mk _ rfl ?_ | refine And.intro trivial ?_ | exact trivial | exact leX_refl _ | refine weak_fr ?_ ?_ rfl | refine And.intro ?_ ?_ | fail)
    all_goals first
      | (simp only [List.length_map, List.length_cons, List.length_nil] at *; omega)
      | (exact fun d hd => absurd hd (Nat.not_lt_zero d))
      | (intro d hd
         obtain rfl := List.mem_singleton.1 hd
         exact ⟨by decide, fun h => by cases h⟩)
      | rfl
      | trace_state
theorem s125n : Spec prog 125 [.s 2 []] [] (.s 2 []) [] := by
  refine spec_s is125 mixed rfl (V_x ?_)
  repeat' (conv => whnf
           first | refine Frz.own ?_ | refine Get.mk _ rfl ?_ | refine Get.mk _ (map_geti (by omega)) ?_ | refine Get.mk _ (map_getp (by omega) (by omega)) ?_ | refine Get.mk _ (map_get (by omega)) ?_ | refine Bv2.mk _ _ rfl rfl ?_ | refine Bv1.mk _ rfl ?_ | refine Wr.mk _ (wrap_i64 (by omega) (by omega)) ?_ | refine Wr.mk _ rfl ?_ | refine And.intro len_map ?_ | refine And.intro (leX_refl _) ?_ | refine And.intro rfl ?_ | refine And.intro (leO_some _) ?_ | (refine And.intro (fun h => absurd h (by decide)) (fun h => ?_); clear h) | (refine And.intro (fun h => ?_) (fun h => absurd h (by decide)); clear h) | (with_reducible first | refine sp1 (fun h => ?_) (fun h => ?_) | refine sp2 (fun h => ?_) (fun h => ?_) | refine sp3 (fun h => ?_) (fun h => ?_) | refine sp4 (fun h => ?_) (fun h => ?_) | refine sp5 (fun h => ?_) (fun h => ?_) | refine sp6 (fun h => ?_) (fun h => ?_)) | with_reducible refine And.intro (fun h => ?_) (fun h => ?_) | refine And.intro (Int.natCast_nonneg _) ?_ | refine And.intro (by omega) ?_ | refine And.intro (by decide) ?_ | refine Lst.mk _ rfl ?_ | refine And.intro trivial ?_ | exact trivial | exact leX_refl _ | refine weak_fr ?_ ?_ rfl | refine And.intro ?_ ?_ | fail)
  intro b
  cases b
  · repeat' (conv => whnf
             first | refine Frz.own ?_ | refine Get.mk _ rfl ?_ | refine Get.mk _ (map_geti (by omega)) ?_ | refine Get.mk _ (map_getp (by omega) (by omega)) ?_ | refine Get.mk _ (map_get (by omega)) ?_ | refine Bv2.mk _ _ rfl rfl ?_ | refine Bv1.mk _ rfl ?_ | refine Wr.mk _ (wrap_i64 (by omega) (by omega)) ?_ | refine Wr.mk _ rfl ?_ | refine And.intro len_map ?_ | refine And.intro (leX_refl _) ?_ | refine And.intro rfl ?_ | refine And.intro (leO_some _) ?_ | (refine And.intro (fun h => absurd h (by decide)) (fun h => ?_); clear h) | (refine And.intro (fun h => ?_) (fun h => absurd h (by decide)); clear h) | (with_reducible first | refine sp1 (fun h => ?_) (fun h => ?_) | refine sp2 (fun h => ?_) (fun h => ?_) | refine sp3 (fun h => ?_) (fun h => ?_) | refine sp4 (fun h => ?_) (fun h => ?_) | refine sp5 (fun h => ?_) (fun h => ?_) | refine sp6 (fun h => ?_) (fun h => ?_)) | with_reducible refine And.intro (fun h => ?_) (fun h => ?_) | refine And.intro (Int.natCast_nonneg _) ?_ | refine And.intro (by omega) ?_ | refine And.intro (by decide) ?_ | refine Lst.mk _ rfl ?_ | refine And.intro trivial ?_ | exact trivial | exact leX_refl _ | refine weak_fr ?_ ?_ rfl | refine And.intro ?_ ?_ | fail)
    exact Two.l ⟨rfl, rfl⟩
  · repeat' (conv => whnf
             first | refine Frz.own ?_ | refine Get.mk _ rfl ?_ | refine Get.mk _ (map_geti (by omega)) ?_ | refine Get.mk _ (map_getp (by omega) (by omega)) ?_ | refine Get.mk _ (map_get (by omega)) ?_ | refine Bv2.mk _ _ rfl rfl ?_ | refine Bv1.mk _ rfl ?_ | refine Wr.mk _ (wrap_i64 (by omega) (by omega)) ?_ | refine Wr.mk _ rfl ?_ | refine And.intro len_map ?_ | refine And.intro (leX_refl _) ?_ | refine And.intro rfl ?_ | refine And.intro (leO_some _) ?_ | (refine And.intro (fun h => absurd h (by decide)) (fun h => ?_); clear h) | (refine And.intro (fun h => ?_) (fun h => absurd h (by decide)); clear h) | (with_reducible first | refine sp1 (fun h => ?_) (fun h => ?_) | refine sp2 (fun h => ?_) (fun h => ?_) | refine sp3 (fun h => ?_) (fun h => ?_) | refine sp4 (fun h => ?_) (fun h => ?_) | refine sp5 (fun h => ?_) (fun h => ?_) | refine sp6 (fun h => ?_) (fun h => ?_)) | with_reducible refine And.intro (fun h => ?_) (fun h => ?_) | refine And.intro (Int.natCast_nonneg _) ?_ | refine And.intro (by omega) ?_ | refine And.intro (by decide) ?_ | refine Lst.mk _ rfl ?_ | refine And.intro trivial ?_ | exact trivial | exact leX_refl _ | refine weak_fr ?_ ?_ rfl | refine And.intro ?_ ?_ | fail)
    all_goals first
      | rfl
      | trace_state
theorem s126n : Spec prog 126 [.s 2 [], .v (.func (.func 127) #[] #[])] [] (.t []) [] := by
  refine ⟨⟨f126, _, Try.func126, rfl, rfl⟩, by simp, by simp, fun w ok E0 vs hin hdis hnok hargs => ?_⟩
  have hobs : obsOf [] = noObs := by funext d; simp [obsOf, noObs]
  rw [hobs] at hargs
  simp only [RelL, Rel] at hargs
  obtain ⟨u, us, rfl, ⟨A, c, rfl, hc1, hxs⟩, u', us', rfl, ⟨_, rfl⟩, rfl⟩ := hargs
  have h1 : Calls prog 126 #[.slice A 0 c, .func (.func 127) #[] #[]] w fun e w' => e = .returned (.tuple #[]) ∧ w' = w := AnyF.slices_SortFunc_none (P := prog) (ρ := sortWants_ren) { sortWants with } A c (.func (.func 127) #[] #[]) w
  refine h1.mono ?_
  rintro e w' ⟨rfl, rfl⟩
  refine ⟨_, E0, rfl, Keep.refl _ _, by simp, ?_, by simp, by simp, by simp⟩
  simp only [Rel, RelL]; exact ⟨[], rfl, rfl⟩
theorem s89 (l : List Want) (hl : l.length ≤ 1000) : Spec prog 89 [.s 2 (l.map Want.tv)] [] (.s 2 ((srtS l).map Want.tv)) [] := by
  cases l with
  | nil =>
    rw [show srtS [] = [] by simp [srtS]]
    refine spec_s is89 mixed rfl (V_x ?_)
    repeat' (conv => whnf
             first | refine Frz.own ?_ | refine Get.mk _ rfl ?_ | refine Get.mk _ (map_geti (by omega)) ?_ | refine Get.mk _ (map_getp (by omega) (by omega)) ?_ | refine Get.mk _ (map_get (by omega)) ?_ | refine Bv2.mk _ _ rfl rfl ?_ | refine Bv1.mk _ rfl ?_ | refine Wr.mk _ (wrap_i64 (by omega) (by omega)) ?_ | refine Wr.mk _ rfl ?_ | refine And.intro len_map ?_ | refine And.intro (leX_refl _) ?_ | refine And.intro rfl ?_ | refine And.intro (leO_some _) ?_ | (refine And.intro (fun h => absurd h (by decide)) (fun h => ?_); clear h) | (refine And.intro (fun h => ?_) (fun h => absurd h (by decide)); clear h) | (with_reducible first | refine sp1 (fun h => ?_) (fun h => ?_) | refine sp2 (fun h => ?_) (fun h => ?_) | refine sp3 (fun h => ?_) (fun h => ?_) | refine sp4 (fun h => ?_) (fun h => ?_) | refine sp5 (fun h => ?_) (fun h => ?_) | refine sp6 (fun h => ?_) (fun h => ?_)) | with_reducible refine And.intro (fun h => ?_) (fun h => ?_) | refine And.intro (Int.natCast_nonneg _) ?_ | refine And.intro (by omega) ?_ | refine And.intro (by decide) ?_ | refine Lst.mk _ rfl ?_ | refine Or.inr (Or.inl ⟨_, _, s125n, leL_refl _, rfl, rfl, ?_⟩) | refine Or.inr (Or.inl ⟨_, _, s126n, leL_refl _, rfl, rfl, ?_⟩) | refine And.intro trivial ?_ | exact trivial | exact leX_refl _ | refine weak_fr ?_ ?_ rfl | refine And.intro ?_ ?_ | fail)
    exact Two.l ⟨rfl, rfl⟩
  | cons w l =>
    have h125 := s125 (w :: l) (by simp) hl
    have hso := sortS 127 (.inl rfl) (w :: l) (by omega)
    refine spec_s is89 mixed rfl (V_x ?_)
    repeat' (conv => whnf
             first | refine Frz.own ?_ | refine Get.mk _ rfl ?_ | refine Get.mk _ (map_geti (by omega)) ?_ | refine Get.mk _ (map_getp (by omega) (by omega)) ?_ | refine Get.mk _ (map_get (by omega)) ?_ | refine Bv2.mk _ _ rfl rfl ?_ | refine Bv1.mk _ rfl ?_ | refine Wr.mk _ (wrap_i64 (by omega) (by omega)) ?_ | refine Wr.mk _ rfl ?_ | refine And.intro len_map ?_ | refine And.intro (leX_refl _) ?_ | refine And.intro rfl ?_ | refine And.intro (leO_some _) ?_ | (refine And.intro (fun h => absurd h (by decide)) (fun h => ?_); clear h) | (refine And.intro (fun h => ?_) (fun h => absurd h (by decide)); clear h) | (with_reducible first | refine sp1 (fun h => ?_) (fun h => ?_) | refine sp2 (fun h => ?_) (fun h => ?_) | refine sp3 (fun h => ?_) (fun h => ?_) | refine sp4 (fun h => ?_) (fun h => ?_) | refine sp5 (fun h => ?_) (fun h => ?_) | refine sp6 (fun h => ?_) (fun h => ?_)) | with_reducible refine And.intro (fun h => ?_) (fun h => ?_) | refine And.intro (Int.natCast_nonneg _) ?_ | refine And.intro (by omega) ?_ | refine And.intro (by decide) ?_ | refine Lst.mk _ rfl ?_ | refine Or.inr (Or.inr ⟨[], false, _, [_], h125, fun _ => ⟨rfl, Nat.le_of_ble_eq_true rfl⟩, List.nodup_nil, fun _ h => absurd h List.not_mem_nil, fun h => Bool.noConfusion h, one_none rfl, ?_⟩) | refine Or.inr (Or.inr ⟨[96], false, _, [_], hso, fun h => Bool.noConfusion h, nodup1 _, one_some rfl, fun h => Bool.noConfusion h, len_no, ?_⟩) | refine And.intro trivial ?_ | exact trivial | exact leX_refl _ | refine weak_fr ?_ ?_ rfl | refine And.intro ?_ ?_ | fail)
    all_goals first
      | exact leX_refl _
      | trace_state
theorem s129 (a b : Int) (ha : 0 ≤ a ∧ a ≤ 1000000000) (hb : 0 ≤ b ∧ b ≤ 1000000000) : Spec prog 129 [tI a, tI b] [] (.t [tI (a + b), tI 0]) [] := by
  refine spec_s is129 mixed rfl (V_x ?_)
  repeat' (conv => whnf
           first | refine Frz.own ?_ | refine Get.mk _ rfl ?_ | refine Get.mk _ (map_geti (by omega)) ?_ | refine Get.mk _ (map_getp (by omega) (by omega)) ?_ | refine Get.mk _ (map_get (by omega)) ?_ | refine Bv2.mk _ _ rfl rfl ?_ | refine Bv1.mk _ rfl ?_ | refine Wr.mk _ (wrap_i64 (by omega) (by omega)) ?_ | refine Wr.mk _ rfl ?_ | refine And.intro len_map ?_ | refine And.intro (leX_refl _) ?_ | refine And.intro rfl ?_ | refine And.intro (leO_some _) ?_ | (refine And.intro (fun h => absurd h (by decide)) (fun h => ?_); clear h) | (refine And.intro (fun h => ?_) (fun h => absurd h (by decide)); clear h) | (with_reducible first | refine sp1 (fun h => ?_) (fun h => ?_) | refine sp2 (fun h => ?_) (fun h => ?_) | refine sp3 (fun h => ?_) (fun h => ?_) | refine sp4 (fun h => ?_) (fun h => ?_) | refine sp5 (fun h => ?_) (fun h => ?_) | refine sp6 (fun h => ?_) (fun h => ?_)) | with_reducible refine And.intro (fun h => ?_) (fun h => ?_) | refine And.intro (Int.natCast_nonneg _) ?_ | refine And.intro (by omega) ?_ | refine And.intro (by decide) ?_ | refine Lst.mk _ rfl ?_ | refine And.intro trivial ?_ | exact trivial | exact leX_refl _ | refine weak_fr ?_ ?_ rfl | refine And.intro ?_ ?_ | fail)
  all_goals first
    | (exfalso; rw [decide_eq_true (show 0 ≤ a + b by omega), decide_eq_true (show 0 ≤ a by omega)] at h; exact absurd h (by decide))
    | exact leX_refl _
    | exact leT rfl
    | trace_state
theorem shareSum_snoc' (l : List Want) {i : Nat} (h : i < l.length) : shareSum (l.take (i + 1)) = shareSum (l.take i) + l[i].share := by
  rw [List.take_succ_eq_append_getElem h, shareSum_snoc]
theorem s92 (l : List Want) (hl : l.length ≤ 1000) (h : ∀ w ∈ l, 1 ≤ w.share ∧ w.share ≤ 64) : Spec prog 92 [.s 2 (l.map Want.tv)] [] (.t [tI (shareSum l), tI 0]) [] := by
  have hlen : (l.map Want.tv).length = l.length := List.length_map _
  refine spec_s is92 mixed rfl (V_x ?_)
  repeat' (conv => whnf
           first | refine Frz.own ?_ | refine Get.mk _ rfl ?_ | refine Get.mk _ (map_geti (by omega)) ?_ | refine Get.mk _ (map_getp (by omega) (by omega)) ?_ | refine Get.mk _ (map_get (by omega)) ?_ | refine Bv2.mk _ _ rfl rfl ?_ | refine Bv1.mk _ rfl ?_ | refine Wr.mk _ (wrap_i64 (by omega) (by omega)) ?_ | refine Wr.mk _ rfl ?_ | refine And.intro len_map ?_ | refine And.intro (leX_refl _) ?_ | refine And.intro rfl ?_ | refine And.intro (leO_some _) ?_ | (refine And.intro (fun h => absurd h (by decide)) (fun h => ?_); clear h) | (refine And.intro (fun h => ?_) (fun h => absurd h (by decide)); clear h) | (with_reducible first | refine sp1 (fun h => ?_) (fun h => ?_) | refine sp2 (fun h => ?_) (fun h => ?_) | refine sp3 (fun h => ?_) (fun h => ?_) | refine sp4 (fun h => ?_) (fun h => ?_) | refine sp5 (fun h => ?_) (fun h => ?_) | refine sp6 (fun h => ?_) (fun h => ?_)) | with_reducible refine And.intro (fun h => ?_) (fun h => ?_) | refine And.intro (Int.natCast_nonneg _) ?_ | refine And.intro (by omega) ?_ | refine And.intro (by decide) ?_ | refine Lst.mk _ rfl ?_ | refine And.intro trivial ?_ | exact trivial | exact leX_refl _ | refine weak_fr ?_ ?_ rfl | refine And.intro ?_ ?_ | fail)
  refine V_up l.length (fun _ => True) (fun i => ([(4, tI (shareSum (l.take i))), (9, .s 2 (l.map Want.tv)), (10, tI (l.length : Nat)), (11, tI (i : Nat))], [])) trivial ?_ ?_
  · repeat' (conv => whnf
             first | refine Frz.own ?_ | refine Get.mk _ rfl ?_ | refine Get.mk _ (map_geti (by omega)) ?_ | refine Get.mk _ (map_getp (by omega) (by omega)) ?_ | refine Get.mk _ (map_get (by omega)) ?_ | refine Bv2.mk _ _ rfl rfl ?_ | refine Bv1.mk _ rfl ?_ | refine Wr.mk _ (wrap_i64 (by omega) (by omega)) ?_ | refine Wr.mk _ rfl ?_ | refine And.intro len_map ?_ | refine And.intro (leX_refl _) ?_ | refine And.intro rfl ?_ | refine And.intro (leO_some _) ?_ | (refine And.intro (fun h => absurd h (by decide)) (fun h => ?_); clear h) | (refine And.intro (fun h => ?_) (fun h => absurd h (by decide)); clear h) | (with_reducible first | refine sp1 (fun h => ?_) (fun h => ?_) | refine sp2 (fun h => ?_) (fun h => ?_) | refine sp3 (fun h => ?_) (fun h => ?_) | refine sp4 (fun h => ?_) (fun h => ?_) | refine sp5 (fun h => ?_) (fun h => ?_) | refine sp6 (fun h => ?_) (fun h => ?_)) | with_reducible refine And.intro (fun h => ?_) (fun h => ?_) | refine And.intro (Int.natCast_nonneg _) ?_ | refine And.intro (by omega) ?_ | refine And.intro (by decide) ?_ | refine Lst.mk _ rfl ?_ | refine And.intro trivial ?_ | exact trivial | exact leX_refl _ | refine weak_fr ?_ ?_ rfl | refine And.intro ?_ ?_ | fail)
  rintro i hi -
  refine V_x ?_
  rcases Nat.lt_or_ge i l.length with hlt | hge
  · have h1 := shareSum_le (l := l.take i) fun w hw => by have := h w (List.mem_of_mem_take hw); omega
    have h2 := h _ (List.getElem_mem hlt)
    have h3 := shareSum_snoc' l hlt
    have hlt2 : (l.take i).length = i := by rw [List.length_take]; omega
    have h129 := s129 (shareSum (l.take i)) l[i].share (by omega) (by omega)
    rw [← h3] at h129
    repeat' (conv => whnf
             first | refine Frz.own ?_ | refine Get.mk _ rfl ?_ | refine Get.mk _ (map_geti (by omega)) ?_ | refine Get.mk _ (map_getp (by omega) (by omega)) ?_ | refine Get.mk _ (map_get (by omega)) ?_ | refine Bv2.mk _ _ rfl rfl ?_ | refine Bv1.mk _ rfl ?_ | refine Wr.mk _ (wrap_i64 (by omega) (by omega)) ?_ | refine Wr.mk _ rfl ?_ | refine And.intro len_map ?_ | refine And.intro (leX_refl _) ?_ | refine And.intro rfl ?_ | refine And.intro (leO_some _) ?_ | (refine And.intro (fun h => absurd h (by decide)) (fun h => ?_); clear h) | (refine And.intro (fun h => ?_) (fun h => absurd h (by decide)); clear h) | (with_reducible first | refine sp1 (fun h => ?_) (fun h => ?_) | refine sp2 (fun h => ?_) (fun h => ?_) | refine sp3 (fun h => ?_) (fun h => ?_) | refine sp4 (fun h => ?_) (fun h => ?_) | refine sp5 (fun h => ?_) (fun h => ?_) | refine sp6 (fun h => ?_) (fun h => ?_)) | with_reducible refine And.intro (fun h => ?_) (fun h => ?_) | refine And.intro (Int.natCast_nonneg _) ?_ | refine And.intro (by omega) ?_ | refine And.intro (by decide) ?_ | refine Lst.mk _ rfl ?_ | refine Or.inr (Or.inl ⟨_, _, h129, leL_refl _, rfl, rfl, ?_⟩) | refine And.intro trivial ?_ | exact trivial | exact leX_refl _ | refine weak_fr ?_ ?_ rfl | refine And.intro ?_ ?_ | fail)
    all_goals first
      | contradiction
      | (exfalso; omega)
      | exact leX_refl _
      | trace_state
  · rw [List.take_of_length_le hge]
    repeat' (conv => whnf
             first | refine Frz.own ?_ | refine Get.mk _ rfl ?_ | refine Get.mk _ (map_geti (by omega)) ?_ | refine Get.mk _ (map_getp (by omega) (by omega)) ?_ | refine Get.mk _ (map_get (by omega)) ?_ | refine Bv2.mk _ _ rfl rfl ?_ | refine Bv1.mk _ rfl ?_ | refine Wr.mk _ (wrap_i64 (by omega) (by omega)) ?_ | refine Wr.mk _ rfl ?_ | refine And.intro len_map ?_ | refine And.intro (leX_refl _) ?_ | refine And.intro rfl ?_ | refine And.intro (leO_some _) ?_ | (refine And.intro (fun h => absurd h (by decide)) (fun h => ?_); clear h) | (refine And.intro (fun h => ?_) (fun h => absurd h (by decide)); clear h) | (with_reducible first | refine sp1 (fun h => ?_) (fun h => ?_) | refine sp2 (fun h => ?_) (fun h => ?_) | refine sp3 (fun h => ?_) (fun h => ?_) | refine sp4 (fun h => ?_) (fun h => ?_) | refine sp5 (fun h => ?_) (fun h => ?_) | refine sp6 (fun h => ?_) (fun h => ?_)) | with_reducible refine And.intro (fun h => ?_) (fun h => ?_) | refine And.intro (Int.natCast_nonneg _) ?_ | refine And.intro (by omega) ?_ | refine And.intro (by decide) ?_ | refine Lst.mk _ rfl ?_ | refine And.intro trivial ?_ | exact trivial | exact leX_refl _ | refine weak_fr ?_ ?_ rfl | refine And.intro ?_ ?_ | fail)
    all_goals first
      | (exfalso; omega)
      | exact leX_refl _
      | trace_state
end Go.Proofs.Ytjmjolefhcjedaa.Vc

namespace Go.Proofs.Ytjmjolefhcjedaa.Vc
open Go Go.RowKit Go.Proofs.Try
set_option maxRecDepth 20000

/-- A want whose unit is in the plan. -/
def clash (p : Plan) (l : List Want) : Bool := l.any fun w => (p.find w.unit).isSome
open Classical in
noncomputable def fitE (p : Plan) (l : List Want) : Int := if p.right then (if chkW p.frame l ≠ 0 then chkW p.frame l else if clash p l = true then 11 else 0) else 30
noncomputable def fitTV (p : Plan) (l : List Want) : List TV := if fitE p l = 0 then [(p.fit (srtS l)).1.tv, .s 2 ((p.fit (srtS l)).2.map Want.tv), tI 0] else [planZ, .v (.slice none 0 0), tI (fitE p l)]
theorem find_isSome {p : Plan} {u : Int} : (p.find u).isSome = false ↔ ∀ x ∈ p.places, x.unit ≠ u := by
  unfold Plan.find
  rw [Option.isSome_eq_false_iff, Option.isNone_iff_eq_none, List.find?_eq_none]
  simp
theorem fitE_zero {p : Plan} {l : List Want} (h : fitE p l = 0) : p.right ∧ chkW p.frame l = 0 ∧ clash p l = false ∧ WantsFor p l := by
  unfold fitE at h
  split at h
  · rename_i hr
    split at h
    · contradiction
    · rename_i hc
      split at h
      · simp at h
      · rename_i hn
        have hc := Classical.not_not.1 hc
        have hn : clash p l = false := by simpa using hn
        obtain ⟨h1, h2, h3⟩ := chkW_zero hc
        refine ⟨hr, hc, hn, h2, h3, fun w hw x hx => ?_⟩
        have h4 := List.any_eq_false.1 hn w hw
        have h5 : (p.find w.unit).isSome = false := by simpa using h4
        exact find_isSome.1 h5 x hx
  · simp at h
theorem WantsFor.perm {p : Plan} {l m : List Want} (h : WantsFor p l) (hp : m.Perm l) : WantsFor p m :=
  ⟨fun w hw => h.ok w (hp.mem_iff.1 hw), (List.Perm.pairwise_iff (fun h e => h e.symm) hp).2 h.nd, fun w hw => h.new w (hp.mem_iff.1 hw)⟩
theorem WantsFor.take {p : Plan} {l : List Want} (h : WantsFor p l) (i : Nat) : WantsFor p (l.take i) :=
  ⟨fun w hw => h.ok w (List.mem_of_mem_take hw), h.nd.sublist (List.take_sublist _ _), fun w hw => h.new w (List.mem_of_mem_take hw)⟩
theorem fit_light {p : Plan} {l : List Want} (hp : p.light) {q : Plan} {left : List Want} (hl : p.places.length + l.length ≤ 300) (h : Fitted p l q left) : q.light :=
  ⟨by have := h.len; omega, fun x hx => by
    rcases h.mem x hx with h | h
    · exact hp.2 x h
    · rw [h.1]; simp⟩
theorem fit_snoc (p : Plan) (S : List Want) {i : Nat} (h : i < S.length) : p.fit (S.take (i + 1)) = fitS (p.fit (S.take i)) S[i] := by
  rw [List.take_succ_eq_append_getElem h]
  unfold Plan.fit; rw [List.foldl_append]; rfl
theorem srtS_len (l : List Want) : (srtS l).length = l.length := (srtS_perm l).length_eq
theorem s43 (p : Plan) (l : List Want) (hp : p.light) (hl : l.length ≤ 100) (hpl : p.places.length + l.length ≤ 300) : Spec prog 43 [p.tv, .s 2 (l.map Want.tv)] [] (.t (fitTV p l)) [] := by
  classical
  have h86 := s86 p hp
  have h87 := s87 p.frame l (by omega)
  have hlm : (l.map Want.tv).length = l.length := List.length_map _
  refine spec_s is43 mixed rfl (V_x ?_)
  by_cases hr : p.right
  · rw [err_ok hr] at h86
    by_cases hc : chkW p.frame l = 0
    · rw [hc] at h87
      obtain ⟨hf, hok, hnd⟩ := chkW_zero hc
      repeat' (conv => whnf
               first | refine Frz.own ?_ | refine Get.mk _ rfl ?_ | refine Get.mk _ (map_geti (by omega)) ?_ | refine Get.mk _ (map_getp (by omega) (by omega)) ?_ | refine Get.mk _ (map_get (by omega)) ?_ | refine Bv2.mk _ _ rfl rfl ?_ | refine Bv1.mk _ rfl ?_ | refine Wr.mk _ (wrap_i64 (by omega) (by omega)) ?_ | refine Wr.mk _ rfl ?_ | refine And.intro len_map ?_ | refine And.intro (leX_refl _) ?_ | refine And.intro rfl ?_ | refine And.intro (leO_some _) ?_ | (refine And.intro (fun h => absurd h (by decide)) (fun h => ?_); clear h) | (refine And.intro (fun h => ?_) (fun h => absurd h (by decide)); clear h) | (with_reducible first | refine sp1 (fun h => ?_) (fun h => ?_) | refine sp2 (fun h => ?_) (fun h => ?_) | refine sp3 (fun h => ?_) (fun h => ?_) | refine sp4 (fun h => ?_) (fun h => ?_) | refine sp5 (fun h => ?_) (fun h => ?_) | refine sp6 (fun h => ?_) (fun h => ?_)) | with_reducible refine And.intro (fun h => ?_) (fun h => ?_) | refine And.intro (Int.natCast_nonneg _) ?_ | refine And.intro (by omega) ?_ | refine And.intro (by decide) ?_ | refine Lst.mk _ rfl ?_ | refine Or.inr (Or.inl ⟨_, _, h86, leL_refl _, rfl, rfl, ?_⟩) | refine Or.inr (Or.inl ⟨_, _, h87, leL_refl _, rfl, rfl, ?_⟩) | refine And.intro trivial ?_ | exact trivial | exact leX_refl _ | refine weak_fr ?_ ?_ rfl | refine And.intro ?_ ?_ | fail)
      refine V_up l.length (fun i => Fct (∀ w ∈ l.take i, (p.find w.unit).isSome = false)) (fun i => ([(1, .s 2 (l.map Want.tv)), (2, .p 48 0 0), (4, .p 80 0 0), (32, .s 2 (l.map Want.tv)), (33, tI (l.length : Nat)), (34, tI (i : Nat))], [(48, .var 25 p.tv), (80, .var 25 planZ)])) ⟨by simp⟩ ?_ ?_
      · repeat' (conv => whnf
                 first | refine Frz.own ?_ | refine Get.mk _ rfl ?_ | refine Get.mk _ (map_geti (by omega)) ?_ | refine Get.mk _ (map_getp (by omega) (by omega)) ?_ | refine Get.mk _ (map_get (by omega)) ?_ | refine Bv2.mk _ _ rfl rfl ?_ | refine Bv1.mk _ rfl ?_ | refine Wr.mk _ (wrap_i64 (by omega) (by omega)) ?_ | refine Wr.mk _ rfl ?_ | refine And.intro len_map ?_ | refine And.intro (leX_refl _) ?_ | refine And.intro rfl ?_ | refine And.intro (leO_some _) ?_ | (refine And.intro (fun h => absurd h (by decide)) (fun h => ?_); clear h) | (refine And.intro (fun h => ?_) (fun h => absurd h (by decide)); clear h) | (with_reducible first | refine sp1 (fun h => ?_) (fun h => ?_) | refine sp2 (fun h => ?_) (fun h => ?_) | refine sp3 (fun h => ?_) (fun h => ?_) | refine sp4 (fun h => ?_) (fun h => ?_) | refine sp5 (fun h => ?_) (fun h => ?_) | refine sp6 (fun h => ?_) (fun h => ?_)) | with_reducible refine And.intro (fun h => ?_) (fun h => ?_) | refine And.intro (Int.natCast_nonneg _) ?_ | refine And.intro (by omega) ?_ | refine And.intro (by decide) ?_ | refine Lst.mk _ rfl ?_ | refine And.intro trivial ?_ | exact trivial | exact leX_refl _ | refine weak_fr ?_ ?_ rfl | refine And.intro ?_ ?_ | fail)
      rintro i hi ⟨hI⟩
      refine V_x ?_
      rcases Nat.lt_or_ge i l.length with hlt | hge
      · have hms := mem_snoc hlt (P := fun w => (p.find w.unit).isSome = false)
        have h88 := s88 p l[i].unit hp hr.pw
        cases hs : (p.find l[i].unit).isSome with
        | true =>
          have hcl : clash p l = true := List.any_eq_true.2 ⟨l[i], List.getElem_mem hlt, hs⟩
          have hE : fitE p l = 11 := by unfold fitE; rw [if_pos hr, if_neg (by rw [hc]; decide), if_pos hcl]
          unfold fitTV
          rw [hE, if_neg (by decide)]
          rw [hs] at h88
          repeat' (conv => whnf
                   first | refine Frz.own ?_ | refine Get.mk _ rfl ?_ | refine Get.mk _ (map_geti (by omega)) ?_ | refine Get.mk _ (map_getp (by omega) (by omega)) ?_ | refine Get.mk _ (map_get (by omega)) ?_ | refine Bv2.mk _ _ rfl rfl ?_ | refine Bv1.mk _ rfl ?_ | refine Wr.mk _ (wrap_i64 (by omega) (by omega)) ?_ | refine Wr.mk _ rfl ?_ | refine And.intro len_map ?_ | refine And.intro (leX_refl _) ?_ | refine And.intro rfl ?_ | refine And.intro (leO_some _) ?_ | (refine And.intro (fun h => absurd h (by decide)) (fun h => ?_); clear h) | (refine And.intro (fun h => ?_) (fun h => absurd h (by decide)); clear h) | (with_reducible first | refine sp1 (fun h => ?_) (fun h => ?_) | refine sp2 (fun h => ?_) (fun h => ?_) | refine sp3 (fun h => ?_) (fun h => ?_) | refine sp4 (fun h => ?_) (fun h => ?_) | refine sp5 (fun h => ?_) (fun h => ?_) | refine sp6 (fun h => ?_) (fun h => ?_)) | with_reducible refine And.intro (fun h => ?_) (fun h => ?_) | refine And.intro (Int.natCast_nonneg _) ?_ | refine And.intro (by omega) ?_ | refine And.intro (by decide) ?_ | refine Lst.mk _ rfl ?_ | refine Or.inr (Or.inl ⟨_, _, h88, leL_refl _, rfl, rfl, ?_⟩) | refine And.intro trivial ?_ | exact trivial | exact leX_refl _ | refine weak_fr ?_ ?_ rfl | refine And.intro ?_ ?_ | fail)
          all_goals first
            | (exfalso; omega)
            | exact leX_refl _
            | trace_state
        | false =>
          rw [hs] at h88
          repeat' (conv => whnf
                   first | refine Frz.own ?_ | refine Get.mk _ rfl ?_ | refine Get.mk _ (map_geti (by omega)) ?_ | refine Get.mk _ (map_getp (by omega) (by omega)) ?_ | refine Get.mk _ (map_get (by omega)) ?_ | refine Bv2.mk _ _ rfl rfl ?_ | refine Bv1.mk _ rfl ?_ | refine Wr.mk _ (wrap_i64 (by omega) (by omega)) ?_ | refine Wr.mk _ rfl ?_ | refine And.intro len_map ?_ | refine And.intro (leX_refl _) ?_ | refine And.intro rfl ?_ | refine And.intro (leO_some _) ?_ | (refine And.intro (fun h => absurd h (by decide)) (fun h => ?_); clear h) | (refine And.intro (fun h => ?_) (fun h => absurd h (by decide)); clear h) | (with_reducible first | refine sp1 (fun h => ?_) (fun h => ?_) | refine sp2 (fun h => ?_) (fun h => ?_) | refine sp3 (fun h => ?_) (fun h => ?_) | refine sp4 (fun h => ?_) (fun h => ?_) | refine sp5 (fun h => ?_) (fun h => ?_) | refine sp6 (fun h => ?_) (fun h => ?_)) | with_reducible refine And.intro (fun h => ?_) (fun h => ?_) | refine And.intro (Int.natCast_nonneg _) ?_ | refine And.intro (by omega) ?_ | refine And.intro (by decide) ?_ | refine Lst.mk _ rfl ?_ | refine Or.inr (Or.inl ⟨_, _, h88, leL_refl _, rfl, rfl, ?_⟩) | refine And.intro trivial ?_ | exact trivial | exact leX_refl _ | refine weak_fr ?_ ?_ rfl | refine And.intro ?_ ?_ | fail)
          all_goals first
            | (exfalso; omega)
            | exact Fct.mk (hms.2 ⟨hI, hs⟩)
            | trace_state
      · have hcl : clash p l = false := by
          rw [List.take_of_length_le hge] at hI
          refine List.any_eq_false.2 fun w hw => ?_
          rw [hI w hw]; decide
        have hE : fitE p l = 0 := by unfold fitE; rw [if_pos hr, if_neg (by rw [hc]; decide), if_neg (by rw [hcl]; decide)]
        have hW := (fitE_zero hE).2.2.2
        unfold fitTV
        rw [hE, if_pos rfl]
        have h89 := s89 l (by omega)
        have hWS := hW.perm (srtS_perm l)
        have hSl := srtS_len l
        clear hI h87
        generalize srtS l = S at *
        have hSm : (S.map Want.tv).length = S.length := List.length_map _
        repeat' (conv => whnf
                 first | refine Frz.own ?_ | refine Get.mk _ rfl ?_ | refine Get.mk _ (map_geti (by omega)) ?_ | refine Get.mk _ (map_getp (by omega) (by omega)) ?_ | refine Get.mk _ (map_get (by omega)) ?_ | refine Bv2.mk _ _ rfl rfl ?_ | refine Bv1.mk _ rfl ?_ | refine Wr.mk _ (wrap_i64 (by omega) (by omega)) ?_ | refine Wr.mk _ rfl ?_ | refine And.intro len_map ?_ | refine And.intro (leX_refl _) ?_ | refine And.intro rfl ?_ | refine And.intro (leO_some _) ?_ | (refine And.intro (fun h => absurd h (by decide)) (fun h => ?_); clear h) | (refine And.intro (fun h => ?_) (fun h => absurd h (by decide)); clear h) | (with_reducible first | refine sp1 (fun h => ?_) (fun h => ?_) | refine sp2 (fun h => ?_) (fun h => ?_) | refine sp3 (fun h => ?_) (fun h => ?_) | refine sp4 (fun h => ?_) (fun h => ?_) | refine sp5 (fun h => ?_) (fun h => ?_) | refine sp6 (fun h => ?_) (fun h => ?_)) | with_reducible refine And.intro (fun h => ?_) (fun h => ?_) | refine And.intro (Int.natCast_nonneg _) ?_ | refine And.intro (by omega) ?_ | refine And.intro (by decide) ?_ | refine Lst.mk _ rfl ?_ | refine Or.inr (Or.inl ⟨_, _, s75_0 p hp hr, leL_refl _, rfl, rfl, ?_⟩) | refine Or.inr (Or.inl ⟨_, _, h89, leL_refl _, rfl, rfl, ?_⟩) | refine And.intro trivial ?_ | exact trivial | exact leX_refl _ | refine weak_fr ?_ ?_ rfl | refine And.intro ?_ ?_ | fail)
        all_goals first
          | (exfalso; omega)
          | skip
        refine V_up S.length (fun _ => True) (fun i => ([(2, .p 48 0 0), (4, .p 80 0 0), (13, .o 1120), (51, .s 2 (S.map Want.tv)), (52, tI (S.length : Nat)), (53, tI (i : Nat))], [(48, .var 25 (p.fit (S.take i)).1.tv), (80, .var 25 planZ), (1120, .row 63 2 ((p.fit (S.take i)).2.map Want.tv))])) trivial ?_ ?_
        · refine Weak.trans (weak_ghost 13 1120 63 2 rfl rfl rfl) ?_
          repeat' (conv => whnf
                   first | refine Frz.own ?_ | refine Get.mk _ rfl ?_ | refine Get.mk _ (map_geti (by omega)) ?_ | refine Get.mk _ (map_getp (by omega) (by omega)) ?_ | refine Get.mk _ (map_get (by omega)) ?_ | refine Bv2.mk _ _ rfl rfl ?_ | refine Bv1.mk _ rfl ?_ | refine Wr.mk _ (wrap_i64 (by omega) (by omega)) ?_ | refine Wr.mk _ rfl ?_ | refine And.intro len_map ?_ | refine And.intro (leX_refl _) ?_ | refine And.intro rfl ?_ | refine And.intro (leO_some _) ?_ | (refine And.intro (fun h => absurd h (by decide)) (fun h => ?_); clear h) | (refine And.intro (fun h => ?_) (fun h => absurd h (by decide)); clear h) | (with_reducible first | refine sp1 (fun h => ?_) (fun h => ?_) | refine sp2 (fun h => ?_) (fun h => ?_) | refine sp3 (fun h => ?_) (fun h => ?_) | refine sp4 (fun h => ?_) (fun h => ?_) | refine sp5 (fun h => ?_) (fun h => ?_) | refine sp6 (fun h => ?_) (fun h => ?_)) | with_reducible refine And.intro (fun h => ?_) (fun h => ?_) | refine And.intro (Int.natCast_nonneg _) ?_ | refine And.intro (by omega) ?_ | refine And.intro (by decide) ?_ | refine Lst.mk _ rfl ?_ | refine And.intro trivial ?_ | exact trivial | exact leX_refl _ | refine weak_fr ?_ ?_ rfl | refine And.intro ?_ ?_ | fail)
        rintro i hi -
        refine V_x ?_
        rcases Nat.lt_or_ge i S.length with hlt | hge
        · have hF := fit_all hr (S.take i) (hWS.take i)
          have hsn := fit_snoc p S hlt
          have htl : (S.take i).length = i := by rw [List.length_take]; omega
          have hsh := (hWS.ok _ (List.getElem_mem hlt)).2.1
          have hql := fit_light hp (by rw [htl]; omega) hF
          have hll := hF.sub.length_le
          generalize p.fit (S.take i) = s at *
          obtain ⟨q, left⟩ := s
          dsimp only at *
          have hlefm : (left.map Want.tv).length = left.length := List.length_map _
          have h90 := s90 q S[i].share hql hF.right hsh
          have h91 := fun c => nilP (s91f q ⟨S[i].unit, S[i].share, c, []⟩ hql hF.right.pw (by simp))
          unfold fitS at hsn
          dsimp only at hsn
          cases hfc : q.firstC S[i].share with
          | none =>
            rw [hfc] at h90 hsn
            simp only [Option.getD_none, Option.isSome_none] at h90
            dsimp only at hsn
            rw [hsn]
            repeat' (conv => whnf
                     first | refine (Frz.frz ?_ : Frz 68 _ _) | refine Frz.own ?_ | refine Get.mk _ rfl ?_ | refine Get.mk _ (map_geti (by omega)) ?_ | refine Get.mk _ (map_getp (by omega) (by omega)) ?_ | refine Get.mk _ (map_get (by omega)) ?_ | refine Bv2.mk _ _ rfl rfl ?_ | refine Bv1.mk _ rfl ?_ | refine Wr.mk _ (wrap_i64 (by omega) (by omega)) ?_ | refine Wr.mk _ rfl ?_ | refine And.intro len_map ?_ | refine And.intro (leX_refl _) ?_ | refine And.intro rfl ?_ | refine And.intro (leO_some _) ?_ | (refine And.intro (fun h => absurd h (by decide)) (fun h => ?_); clear h) | (refine And.intro (fun h => ?_) (fun h => absurd h (by decide)); clear h) | (with_reducible first | refine sp1 (fun h => ?_) (fun h => ?_) | refine sp2 (fun h => ?_) (fun h => ?_) | refine sp3 (fun h => ?_) (fun h => ?_) | refine sp4 (fun h => ?_) (fun h => ?_) | refine sp5 (fun h => ?_) (fun h => ?_) | refine sp6 (fun h => ?_) (fun h => ?_)) | with_reducible refine And.intro (fun h => ?_) (fun h => ?_) | refine And.intro (Int.natCast_nonneg _) ?_ | refine And.intro (by omega) ?_ | refine And.intro (by decide) ?_ | refine Lst.mk _ rfl ?_ | refine Or.inr (Or.inl ⟨_, _, h90, leL_refl _, rfl, rfl, ?_⟩) | refine And.intro trivial ?_ | exact trivial | exact leX_refl _ | refine weak_fr ?_ ?_ rfl | refine And.intro ?_ ?_ | fail)
            all_goals first
              | (exfalso; omega)
              | (simp only [List.length_map, List.length_cons, List.length_nil]; omega)
              | (refine rowO ?_; rw [List.map_append]; rfl)
              | trace_state
          | some c =>
            rw [hfc] at h90 hsn
            simp only [Option.getD_some, Option.isSome_some] at h90
            dsimp only at hsn
            rw [hsn]
            repeat' (conv => whnf
                     first | refine (Frz.frz ?_ : Frz 68 _ _) | refine Frz.own ?_ | refine Get.mk _ rfl ?_ | refine Get.mk _ (map_geti (by omega)) ?_ | refine Get.mk _ (map_getp (by omega) (by omega)) ?_ | refine Get.mk _ (map_get (by omega)) ?_ | refine Bv2.mk _ _ rfl rfl ?_ | refine Bv1.mk _ rfl ?_ | refine Wr.mk _ (wrap_i64 (by omega) (by omega)) ?_ | refine Wr.mk _ rfl ?_ | refine And.intro len_map ?_ | refine And.intro (leX_refl _) ?_ | refine And.intro rfl ?_ | refine And.intro (leO_some _) ?_ | (refine And.intro (fun h => absurd h (by decide)) (fun h => ?_); clear h) | (refine And.intro (fun h => ?_) (fun h => absurd h (by decide)); clear h) | (with_reducible first | refine sp1 (fun h => ?_) (fun h => ?_) | refine sp2 (fun h => ?_) (fun h => ?_) | refine sp3 (fun h => ?_) (fun h => ?_) | refine sp4 (fun h => ?_) (fun h => ?_) | refine sp5 (fun h => ?_) (fun h => ?_) | refine sp6 (fun h => ?_) (fun h => ?_)) | with_reducible refine And.intro (fun h => ?_) (fun h => ?_) | refine And.intro (Int.natCast_nonneg _) ?_ | refine And.intro (by omega) ?_ | refine And.intro (by decide) ?_ | refine Lst.mk _ rfl ?_ | refine Or.inr (Or.inl ⟨_, _, h90, leL_refl _, rfl, rfl, ?_⟩) | refine Or.inr (Or.inl ⟨_, _, h91 c, leL_refl _, rfl, rfl, ?_⟩) | refine And.intro trivial ?_ | exact trivial | exact leX_refl _ | refine weak_fr ?_ ?_ rfl | refine And.intro ?_ ?_ | fail)
            all_goals first
              | (exfalso; omega)
              | trace_state
        · have hi0 : i = S.length := by omega
          subst hi0
          rw [List.take_length]
          repeat' (conv => whnf
                   first | refine Frz.own ?_ | refine Get.mk _ rfl ?_ | refine Get.mk _ (map_geti (by omega)) ?_ | refine Get.mk _ (map_getp (by omega) (by omega)) ?_ | refine Get.mk _ (map_get (by omega)) ?_ | refine Bv2.mk _ _ rfl rfl ?_ | refine Bv1.mk _ rfl ?_ | refine Wr.mk _ (wrap_i64 (by omega) (by omega)) ?_ | refine Wr.mk _ rfl ?_ | refine And.intro len_map ?_ | refine And.intro (leX_refl _) ?_ | refine And.intro rfl ?_ | refine And.intro (leO_some _) ?_ | (refine And.intro (fun h => absurd h (by decide)) (fun h => ?_); clear h) | (refine And.intro (fun h => ?_) (fun h => absurd h (by decide)); clear h) | (with_reducible first | refine sp1 (fun h => ?_) (fun h => ?_) | refine sp2 (fun h => ?_) (fun h => ?_) | refine sp3 (fun h => ?_) (fun h => ?_) | refine sp4 (fun h => ?_) (fun h => ?_) | refine sp5 (fun h => ?_) (fun h => ?_) | refine sp6 (fun h => ?_) (fun h => ?_)) | with_reducible refine And.intro (fun h => ?_) (fun h => ?_) | refine And.intro (Int.natCast_nonneg _) ?_ | refine And.intro (by omega) ?_ | refine And.intro (by decide) ?_ | refine Lst.mk _ rfl ?_ | refine And.intro trivial ?_ | exact trivial | exact leX_refl _ | refine weak_fr ?_ ?_ rfl | refine And.intro ?_ ?_ | fail)
          all_goals first
            | (exfalso; omega)
            | exact leX_refl _
            | trace_state
    · have hE : fitE p l = chkW p.frame l := by unfold fitE; rw [if_pos hr, if_pos hc]
      unfold fitTV
      rw [hE, if_neg hc]
      repeat' (conv => whnf
               first | refine Frz.own ?_ | refine Get.mk _ rfl ?_ | refine Get.mk _ (map_geti (by omega)) ?_ | refine Get.mk _ (map_getp (by omega) (by omega)) ?_ | refine Get.mk _ (map_get (by omega)) ?_ | refine Bv2.mk _ _ rfl rfl ?_ | refine Bv1.mk _ rfl ?_ | refine Wr.mk _ (wrap_i64 (by omega) (by omega)) ?_ | refine Wr.mk _ rfl ?_ | refine And.intro len_map ?_ | refine And.intro (leX_refl _) ?_ | refine And.intro rfl ?_ | refine And.intro (leO_some _) ?_ | (refine And.intro (fun h => absurd h (by decide)) (fun h => ?_); clear h) | (refine And.intro (fun h => ?_) (fun h => absurd h (by decide)); clear h) | (with_reducible first | refine sp1 (fun h => ?_) (fun h => ?_) | refine sp2 (fun h => ?_) (fun h => ?_) | refine sp3 (fun h => ?_) (fun h => ?_) | refine sp4 (fun h => ?_) (fun h => ?_) | refine sp5 (fun h => ?_) (fun h => ?_) | refine sp6 (fun h => ?_) (fun h => ?_)) | with_reducible refine And.intro (fun h => ?_) (fun h => ?_) | refine And.intro (Int.natCast_nonneg _) ?_ | refine And.intro (by omega) ?_ | refine And.intro (by decide) ?_ | refine Lst.mk _ rfl ?_ | refine Or.inr (Or.inl ⟨_, _, h86, leL_refl _, rfl, rfl, ?_⟩) | refine Or.inr (Or.inl ⟨_, _, h87, leL_refl _, rfl, rfl, ?_⟩) | refine And.intro trivial ?_ | exact trivial | exact leX_refl _ | refine weak_fr ?_ ?_ rfl | refine And.intro ?_ ?_ | fail)
      all_goals first
        | contradiction
        | (exfalso; omega)
        | exact leX_refl _
        | trace_state
  · have hE : fitE p l = 30 := by unfold fitE; rw [if_neg hr]
    unfold fitTV
    rw [hE, if_neg (by decide)]
    rw [err_no hr] at h86
    repeat' (conv => whnf
             first | refine Frz.own ?_ | refine Get.mk _ rfl ?_ | refine Get.mk _ (map_geti (by omega)) ?_ | refine Get.mk _ (map_getp (by omega) (by omega)) ?_ | refine Get.mk _ (map_get (by omega)) ?_ | refine Bv2.mk _ _ rfl rfl ?_ | refine Bv1.mk _ rfl ?_ | refine Wr.mk _ (wrap_i64 (by omega) (by omega)) ?_ | refine Wr.mk _ rfl ?_ | refine And.intro len_map ?_ | refine And.intro (leX_refl _) ?_ | refine And.intro rfl ?_ | refine And.intro (leO_some _) ?_ | (refine And.intro (fun h => absurd h (by decide)) (fun h => ?_); clear h) | (refine And.intro (fun h => ?_) (fun h => absurd h (by decide)); clear h) | (with_reducible first | refine sp1 (fun h => ?_) (fun h => ?_) | refine sp2 (fun h => ?_) (fun h => ?_) | refine sp3 (fun h => ?_) (fun h => ?_) | refine sp4 (fun h => ?_) (fun h => ?_) | refine sp5 (fun h => ?_) (fun h => ?_) | refine sp6 (fun h => ?_) (fun h => ?_)) | with_reducible refine And.intro (fun h => ?_) (fun h => ?_) | refine And.intro (Int.natCast_nonneg _) ?_ | refine And.intro (by omega) ?_ | refine And.intro (by decide) ?_ | refine Lst.mk _ rfl ?_ | refine Or.inr (Or.inl ⟨_, _, h86, leL_refl _, rfl, rfl, ?_⟩) | refine And.intro trivial ?_ | exact trivial | exact leX_refl _ | refine weak_fr ?_ ?_ rfl | refine And.intro ?_ ?_ | fail)
    all_goals first
      | (exfalso; omega)
      | exact leX_refl _
      | trace_state
end Go.Proofs.Ytjmjolefhcjedaa.Vc

namespace Go.Proofs.Ytjmjolefhcjedaa.Vc
open Go Go.RowKit Go.Proofs.Try
set_option maxRecDepth 20000

theorem chk_bad {f : Int} {l : List Want} {i : Nat} {e : Int} (hf : 2 ≤ f ∧ f ≤ 64) (hi : i < l.length) (hI : ∀ j, j < i → errAt f l j = 0) (he : errAt f l i = e) (h0 : e ≠ 0) : chkW f l = e := by
  unfold chkW
  rw [if_pos hf, range_first hi hI (by rw [he]; exact h0), he]
theorem chk_good {f : Int} {l : List Want} (hf : 2 ≤ f ∧ f ≤ 64) (hI : ∀ j, j < l.length → errAt f l j = 0) : chkW f l = 0 := by
  unfold chkW
  rw [if_pos hf, range_zero hI]
theorem s58 (f : Int) (l : List Want) (hl : l.length ≤ 1000) : Spec prog 58 [tI f, .s 2 (l.map Want.tv)] [] (tI (chkW f l)) [] := by
  have hlm : (l.map Want.tv).length = l.length := List.length_map _
  refine spec_s is58 mixed rfl (V_x ?_)
  by_cases hf : 2 ≤ f ∧ f ≤ 64
  · repeat' (conv => whnf
             first | refine Frz.own ?_ | refine Get.mk _ rfl ?_ | refine Get.mk _ (map_geti (by omega)) ?_ | refine Get.mk _ (map_getp (by omega) (by omega)) ?_ | refine Get.mk _ (map_get (by omega)) ?_ | refine Bv2.mk _ _ rfl rfl ?_ | refine Bv1.mk _ rfl ?_ | refine Wr.mk _ (wrap_i64 (by omega) (by omega)) ?_ | refine Wr.mk _ rfl ?_ | refine And.intro len_map ?_ | refine And.intro (leX_refl _) ?_ | refine And.intro rfl ?_ | refine And.intro (leO_some _) ?_ | (refine And.intro (fun h => absurd h (by decide)) (fun h => ?_); clear h) | (refine And.intro (fun h => ?_) (fun h => absurd h (by decide)); clear h) | (with_reducible first | refine sp1 (fun h => ?_) (fun h => ?_) | refine sp2 (fun h => ?_) (fun h => ?_) | refine sp3 (fun h => ?_) (fun h => ?_) | refine sp4 (fun h => ?_) (fun h => ?_) | refine sp5 (fun h => ?_) (fun h => ?_) | refine sp6 (fun h => ?_) (fun h => ?_)) | with_reducible refine And.intro (fun h => ?_) (fun h => ?_) | refine And.intro (Int.natCast_nonneg _) ?_ | refine And.intro (by omega) ?_ | refine And.intro (by decide) ?_ | refine Lst.mk _ rfl ?_ | refine And.intro trivial ?_ | exact trivial | exact leX_refl _ | refine weak_fr ?_ ?_ rfl | refine And.intro ?_ ?_ | fail)
    all_goals first
      | (exfalso; omega)
      | skip
    refine V_up l.length (fun i => Fct (∀ j, j < i → errAt f l j = 0)) (fun i => ([(0, tI f), (1, .s 2 (l.map Want.tv)), (5, tI (i : Nat))], [])) ⟨fun j hj => absurd hj (Nat.not_lt_zero j)⟩ ?_ ?_
    · repeat' (conv => whnf
               first | refine Frz.own ?_ | refine Get.mk _ rfl ?_ | refine Get.mk _ (map_geti (by omega)) ?_ | refine Get.mk _ (map_getp (by omega) (by omega)) ?_ | refine Get.mk _ (map_get (by omega)) ?_ | refine Bv2.mk _ _ rfl rfl ?_ | refine Bv1.mk _ rfl ?_ | refine Wr.mk _ (wrap_i64 (by omega) (by omega)) ?_ | refine Wr.mk _ rfl ?_ | refine And.intro len_map ?_ | refine And.intro (leX_refl _) ?_ | refine And.intro rfl ?_ | refine And.intro (leO_some _) ?_ | (refine And.intro (fun h => absurd h (by decide)) (fun h => ?_); clear h) | (refine And.intro (fun h => ?_) (fun h => absurd h (by decide)); clear h) | (with_reducible first | refine sp1 (fun h => ?_) (fun h => ?_) | refine sp2 (fun h => ?_) (fun h => ?_) | refine sp3 (fun h => ?_) (fun h => ?_) | refine sp4 (fun h => ?_) (fun h => ?_) | refine sp5 (fun h => ?_) (fun h => ?_) | refine sp6 (fun h => ?_) (fun h => ?_)) | with_reducible refine And.intro (fun h => ?_) (fun h => ?_) | refine And.intro (Int.natCast_nonneg _) ?_ | refine And.intro (by omega) ?_ | refine And.intro (by decide) ?_ | refine Lst.mk _ rfl ?_ | refine And.intro trivial ?_ | exact trivial | exact leX_refl _ | refine weak_fr ?_ ?_ rfl | refine And.intro ?_ ?_ | fail)
    rintro i hi ⟨hI⟩
    refine V_x ?_
    rcases Nat.lt_or_ge i l.length with hlt | hge
    · have hbad := fun (e : Int) => chk_bad (e := e) hf hlt hI
      have hat := errAt_at (f := f) hlt
      have h99 := s99 l[i].unit
      unfold errW at hat
      cases hu : isUnit l[i].unit with
      | false =>
        rw [hu] at h99 hat
        rw [if_pos rfl] at hat
        rw [hbad 20 hat (by decide)]
        repeat' (conv => whnf
                 first | refine Frz.own ?_ | refine Get.mk _ rfl ?_ | refine Get.mk _ (map_geti (by omega)) ?_ | refine Get.mk _ (map_getp (by omega) (by omega)) ?_ | refine Get.mk _ (map_get (by omega)) ?_ | refine Bv2.mk _ _ rfl rfl ?_ | refine Bv1.mk _ rfl ?_ | refine Wr.mk _ (wrap_i64 (by omega) (by omega)) ?_ | refine Wr.mk _ rfl ?_ | refine And.intro len_map ?_ | refine And.intro (leX_refl _) ?_ | refine And.intro rfl ?_ | refine And.intro (leO_some _) ?_ | (refine And.intro (fun h => absurd h (by decide)) (fun h => ?_); clear h) | (refine And.intro (fun h => ?_) (fun h => absurd h (by decide)); clear h) | (with_reducible first | refine sp1 (fun h => ?_) (fun h => ?_) | refine sp2 (fun h => ?_) (fun h => ?_) | refine sp3 (fun h => ?_) (fun h => ?_) | refine sp4 (fun h => ?_) (fun h => ?_) | refine sp5 (fun h => ?_) (fun h => ?_) | refine sp6 (fun h => ?_) (fun h => ?_)) | with_reducible refine And.intro (fun h => ?_) (fun h => ?_) | refine And.intro (Int.natCast_nonneg _) ?_ | refine And.intro (by omega) ?_ | refine And.intro (by decide) ?_ | refine Lst.mk _ rfl ?_ | refine Or.inr (Or.inl ⟨_, _, h99, leL_refl _, rfl, rfl, ?_⟩) | refine And.intro trivial ?_ | exact trivial | exact leX_refl _ | refine weak_fr ?_ ?_ rfl | refine And.intro ?_ ?_ | fail)
        all_goals first
          | (exfalso; omega)
          | exact leI rfl
          | trace_state
      | true =>
        rw [hu] at h99 hat
        rw [if_neg (by decide)] at hat
        by_cases hsh : l[i].share < 1 ∨ f < l[i].share
        · rw [if_pos hsh] at hat
          rw [hbad 21 hat (by decide)]
          repeat' (conv => whnf
                   first | refine Frz.own ?_ | refine Get.mk _ rfl ?_ | refine Get.mk _ (map_geti (by omega)) ?_ | refine Get.mk _ (map_getp (by omega) (by omega)) ?_ | refine Get.mk _ (map_get (by omega)) ?_ | refine Bv2.mk _ _ rfl rfl ?_ | refine Bv1.mk _ rfl ?_ | refine Wr.mk _ (wrap_i64 (by omega) (by omega)) ?_ | refine Wr.mk _ rfl ?_ | refine And.intro len_map ?_ | refine And.intro (leX_refl _) ?_ | refine And.intro rfl ?_ | refine And.intro (leO_some _) ?_ | (refine And.intro (fun h => absurd h (by decide)) (fun h => ?_); clear h) | (refine And.intro (fun h => ?_) (fun h => absurd h (by decide)); clear h) | (with_reducible first | refine sp1 (fun h => ?_) (fun h => ?_) | refine sp2 (fun h => ?_) (fun h => ?_) | refine sp3 (fun h => ?_) (fun h => ?_) | refine sp4 (fun h => ?_) (fun h => ?_) | refine sp5 (fun h => ?_) (fun h => ?_) | refine sp6 (fun h => ?_) (fun h => ?_)) | with_reducible refine And.intro (fun h => ?_) (fun h => ?_) | refine And.intro (Int.natCast_nonneg _) ?_ | refine And.intro (by omega) ?_ | refine And.intro (by decide) ?_ | refine Lst.mk _ rfl ?_ | refine Or.inr (Or.inl ⟨_, _, h99, leL_refl _, rfl, rfl, ?_⟩) | refine And.intro trivial ?_ | exact trivial | exact leX_refl _ | refine weak_fr ?_ ?_ rfl | refine And.intro ?_ ?_ | fail)
          all_goals first
            | (exfalso; omega)
            | exact leI rfl
            | trace_state
        · rw [if_neg hsh] at hat
          repeat' (conv => whnf
                   first | refine Frz.own ?_ | refine Get.mk _ rfl ?_ | refine Get.mk _ (map_geti (by omega)) ?_ | refine Get.mk _ (map_getp (by omega) (by omega)) ?_ | refine Get.mk _ (map_get (by omega)) ?_ | refine Bv2.mk _ _ rfl rfl ?_ | refine Bv1.mk _ rfl ?_ | refine Wr.mk _ (wrap_i64 (by omega) (by omega)) ?_ | refine Wr.mk _ rfl ?_ | refine And.intro len_map ?_ | refine And.intro (leX_refl _) ?_ | refine And.intro rfl ?_ | refine And.intro (leO_some _) ?_ | (refine And.intro (fun h => absurd h (by decide)) (fun h => ?_); clear h) | (refine And.intro (fun h => ?_) (fun h => absurd h (by decide)); clear h) | (with_reducible first | refine sp1 (fun h => ?_) (fun h => ?_) | refine sp2 (fun h => ?_) (fun h => ?_) | refine sp3 (fun h => ?_) (fun h => ?_) | refine sp4 (fun h => ?_) (fun h => ?_) | refine sp5 (fun h => ?_) (fun h => ?_) | refine sp6 (fun h => ?_) (fun h => ?_)) | with_reducible refine And.intro (fun h => ?_) (fun h => ?_) | refine And.intro (Int.natCast_nonneg _) ?_ | refine And.intro (by omega) ?_ | refine And.intro (by decide) ?_ | refine Lst.mk _ rfl ?_ | refine Or.inr (Or.inl ⟨_, _, h99, leL_refl _, rfl, rfl, ?_⟩) | refine And.intro trivial ?_ | exact trivial | exact leX_refl _ | refine weak_fr ?_ ?_ rfl | refine And.intro ?_ ?_ | fail)
          all_goals first
            | (exfalso; omega)
            | skip
          refine V_up i (fun j => Fct (∀ v ∈ l.take j, v.unit ≠ l[i].unit)) (fun j => ([(0, tI f), (1, .s 2 (l.map Want.tv)), (5, tI (i : Nat)), (6, tI (j : Nat))], [])) ⟨by simp⟩ ?_ ?_
          · repeat' (conv => whnf
                     first | refine Frz.own ?_ | refine Get.mk _ rfl ?_ | refine Get.mk _ (map_geti (by omega)) ?_ | refine Get.mk _ (map_getp (by omega) (by omega)) ?_ | refine Get.mk _ (map_get (by omega)) ?_ | refine Bv2.mk _ _ rfl rfl ?_ | refine Bv1.mk _ rfl ?_ | refine Wr.mk _ (wrap_i64 (by omega) (by omega)) ?_ | refine Wr.mk _ rfl ?_ | refine And.intro len_map ?_ | refine And.intro (leX_refl _) ?_ | refine And.intro rfl ?_ | refine And.intro (leO_some _) ?_ | (refine And.intro (fun h => absurd h (by decide)) (fun h => ?_); clear h) | (refine And.intro (fun h => ?_) (fun h => absurd h (by decide)); clear h) | (with_reducible first | refine sp1 (fun h => ?_) (fun h => ?_) | refine sp2 (fun h => ?_) (fun h => ?_) | refine sp3 (fun h => ?_) (fun h => ?_) | refine sp4 (fun h => ?_) (fun h => ?_) | refine sp5 (fun h => ?_) (fun h => ?_) | refine sp6 (fun h => ?_) (fun h => ?_)) | with_reducible refine And.intro (fun h => ?_) (fun h => ?_) | refine And.intro (Int.natCast_nonneg _) ?_ | refine And.intro (by omega) ?_ | refine And.intro (by decide) ?_ | refine Lst.mk _ rfl ?_ | refine And.intro trivial ?_ | exact trivial | exact leX_refl _ | refine weak_fr ?_ ?_ rfl | refine And.intro ?_ ?_ | fail)
          rintro j hj ⟨hJ⟩
          refine V_x ?_
          rcases Nat.lt_or_ge j i with hjlt | hjge
          · have hjl : j < l.length := by omega
            have hms := mem_snoc hjl (P := fun v : Want => v.unit ≠ l[i].unit)
            by_cases he : l[j].unit = l[i].unit
            · rw [if_pos (List.any_eq_true.2 ⟨l[j], List.mem_take_iff_getElem.2 ⟨j, by omega, rfl⟩, by simpa using he⟩)] at hat
              rw [hbad 11 hat (by decide)]
              repeat' (conv => whnf
                       first | refine Frz.own ?_ | refine Get.mk _ rfl ?_ | refine Get.mk _ (map_geti (by omega)) ?_ | refine Get.mk _ (map_getp (by omega) (by omega)) ?_ | refine Get.mk _ (map_get (by omega)) ?_ | refine Bv2.mk _ _ rfl rfl ?_ | refine Bv1.mk _ rfl ?_ | refine Wr.mk _ (wrap_i64 (by omega) (by omega)) ?_ | refine Wr.mk _ rfl ?_ | refine And.intro len_map ?_ | refine And.intro (leX_refl _) ?_ | refine And.intro rfl ?_ | refine And.intro (leO_some _) ?_ | (refine And.intro (fun h => absurd h (by decide)) (fun h => ?_); clear h) | (refine And.intro (fun h => ?_) (fun h => absurd h (by decide)); clear h) | (with_reducible first | refine sp1 (fun h => ?_) (fun h => ?_) | refine sp2 (fun h => ?_) (fun h => ?_) | refine sp3 (fun h => ?_) (fun h => ?_) | refine sp4 (fun h => ?_) (fun h => ?_) | refine sp5 (fun h => ?_) (fun h => ?_) | refine sp6 (fun h => ?_) (fun h => ?_)) | with_reducible refine And.intro (fun h => ?_) (fun h => ?_) | refine And.intro (Int.natCast_nonneg _) ?_ | refine And.intro (by omega) ?_ | refine And.intro (by decide) ?_ | refine Lst.mk _ rfl ?_ | refine And.intro trivial ?_ | exact trivial | exact leX_refl _ | refine weak_fr ?_ ?_ rfl | refine And.intro ?_ ?_ | fail)
              all_goals first
                | contradiction
                | (exfalso; omega)
                | exact leI rfl
                | trace_state
            · repeat' (conv => whnf
                       first | refine Frz.own ?_ | refine Get.mk _ rfl ?_ | refine Get.mk _ (map_geti (by omega)) ?_ | refine Get.mk _ (map_getp (by omega) (by omega)) ?_ | refine Get.mk _ (map_get (by omega)) ?_ | refine Bv2.mk _ _ rfl rfl ?_ | refine Bv1.mk _ rfl ?_ | refine Wr.mk _ (wrap_i64 (by omega) (by omega)) ?_ | refine Wr.mk _ rfl ?_ | refine And.intro len_map ?_ | refine And.intro (leX_refl _) ?_ | refine And.intro rfl ?_ | refine And.intro (leO_some _) ?_ | (refine And.intro (fun h => absurd h (by decide)) (fun h => ?_); clear h) | (refine And.intro (fun h => ?_) (fun h => absurd h (by decide)); clear h) | (with_reducible first | refine sp1 (fun h => ?_) (fun h => ?_) | refine sp2 (fun h => ?_) (fun h => ?_) | refine sp3 (fun h => ?_) (fun h => ?_) | refine sp4 (fun h => ?_) (fun h => ?_) | refine sp5 (fun h => ?_) (fun h => ?_) | refine sp6 (fun h => ?_) (fun h => ?_)) | with_reducible refine And.intro (fun h => ?_) (fun h => ?_) | refine And.intro (Int.natCast_nonneg _) ?_ | refine And.intro (by omega) ?_ | refine And.intro (by decide) ?_ | refine Lst.mk _ rfl ?_ | refine And.intro trivial ?_ | exact trivial | exact leX_refl _ | refine weak_fr ?_ ?_ rfl | refine And.intro ?_ ?_ | fail)
              all_goals first
                | contradiction
                | (exfalso; omega)
                | exact Fct.mk (hms.2 ⟨hJ, he⟩)
                | trace_state
          · have hj0 : j = i := by omega
            subst hj0
            rw [if_neg (by
              intro h
              obtain ⟨v, hv, he⟩ := List.any_eq_true.1 h
              exact hJ v hv (by simpa using he))] at hat
            have hnext : ∀ k, k < j + 1 → errAt f l k = 0 := fun k hk => by
              rcases Nat.lt_or_ge k j with h | h
              · exact hI k h
              · rw [show k = j by omega]; exact hat
            repeat' (conv => whnf
                     first | refine Frz.own ?_ | refine Get.mk _ rfl ?_ | refine Get.mk _ (map_geti (by omega)) ?_ | refine Get.mk _ (map_getp (by omega) (by omega)) ?_ | refine Get.mk _ (map_get (by omega)) ?_ | refine Bv2.mk _ _ rfl rfl ?_ | refine Bv1.mk _ rfl ?_ | refine Wr.mk _ (wrap_i64 (by omega) (by omega)) ?_ | refine Wr.mk _ rfl ?_ | refine And.intro len_map ?_ | refine And.intro (leX_refl _) ?_ | refine And.intro rfl ?_ | refine And.intro (leO_some _) ?_ | (refine And.intro (fun h => absurd h (by decide)) (fun h => ?_); clear h) | (refine And.intro (fun h => ?_) (fun h => absurd h (by decide)); clear h) | (with_reducible first | refine sp1 (fun h => ?_) (fun h => ?_) | refine sp2 (fun h => ?_) (fun h => ?_) | refine sp3 (fun h => ?_) (fun h => ?_) | refine sp4 (fun h => ?_) (fun h => ?_) | refine sp5 (fun h => ?_) (fun h => ?_) | refine sp6 (fun h => ?_) (fun h => ?_)) | with_reducible refine And.intro (fun h => ?_) (fun h => ?_) | refine And.intro (Int.natCast_nonneg _) ?_ | refine And.intro (by omega) ?_ | refine And.intro (by decide) ?_ | refine Lst.mk _ rfl ?_ | refine And.intro trivial ?_ | exact trivial | exact leX_refl _ | refine weak_fr ?_ ?_ rfl | refine And.intro ?_ ?_ | fail)
            all_goals first
              | (exfalso; omega)
              | exact Fct.mk hnext
              | trace_state
    · rw [chk_good hf fun j hj => hI j (by omega)]
      repeat' (conv => whnf
               first | refine Frz.own ?_ | refine Get.mk _ rfl ?_ | refine Get.mk _ (map_geti (by omega)) ?_ | refine Get.mk _ (map_getp (by omega) (by omega)) ?_ | refine Get.mk _ (map_get (by omega)) ?_ | refine Bv2.mk _ _ rfl rfl ?_ | refine Bv1.mk _ rfl ?_ | refine Wr.mk _ (wrap_i64 (by omega) (by omega)) ?_ | refine Wr.mk _ rfl ?_ | refine And.intro len_map ?_ | refine And.intro (leX_refl _) ?_ | refine And.intro rfl ?_ | refine And.intro (leO_some _) ?_ | (refine And.intro (fun h => absurd h (by decide)) (fun h => ?_); clear h) | (refine And.intro (fun h => ?_) (fun h => absurd h (by decide)); clear h) | (with_reducible first | refine sp1 (fun h => ?_) (fun h => ?_) | refine sp2 (fun h => ?_) (fun h => ?_) | refine sp3 (fun h => ?_) (fun h => ?_) | refine sp4 (fun h => ?_) (fun h => ?_) | refine sp5 (fun h => ?_) (fun h => ?_) | refine sp6 (fun h => ?_) (fun h => ?_)) | with_reducible refine And.intro (fun h => ?_) (fun h => ?_) | refine And.intro (Int.natCast_nonneg _) ?_ | refine And.intro (by omega) ?_ | refine And.intro (by decide) ?_ | refine Lst.mk _ rfl ?_ | refine And.intro trivial ?_ | exact trivial | exact leX_refl _ | refine weak_fr ?_ ?_ rfl | refine And.intro ?_ ?_ | fail)
      all_goals first
        | (exfalso; omega)
        | exact leI rfl
        | trace_state
  · have e : chkW f l = 1 := by unfold chkW; rw [if_neg hf]
    rw [e]
    repeat' (conv => whnf
             first | refine Frz.own ?_ | refine Get.mk _ rfl ?_ | refine Get.mk _ (map_geti (by omega)) ?_ | refine Get.mk _ (map_getp (by omega) (by omega)) ?_ | refine Get.mk _ (map_get (by omega)) ?_ | refine Bv2.mk _ _ rfl rfl ?_ | refine Bv1.mk _ rfl ?_ | refine Wr.mk _ (wrap_i64 (by omega) (by omega)) ?_ | refine Wr.mk _ rfl ?_ | refine And.intro len_map ?_ | refine And.intro (leX_refl _) ?_ | refine And.intro rfl ?_ | refine And.intro (leO_some _) ?_ | (refine And.intro (fun h => absurd h (by decide)) (fun h => ?_); clear h) | (refine And.intro (fun h => ?_) (fun h => absurd h (by decide)); clear h) | (with_reducible first | refine sp1 (fun h => ?_) (fun h => ?_) | refine sp2 (fun h => ?_) (fun h => ?_) | refine sp3 (fun h => ?_) (fun h => ?_) | refine sp4 (fun h => ?_) (fun h => ?_) | refine sp5 (fun h => ?_) (fun h => ?_) | refine sp6 (fun h => ?_) (fun h => ?_)) | with_reducible refine And.intro (fun h => ?_) (fun h => ?_) | refine And.intro (Int.natCast_nonneg _) ?_ | refine And.intro (by omega) ?_ | refine And.intro (by decide) ?_ | refine Lst.mk _ rfl ?_ | refine And.intro trivial ?_ | exact trivial | exact leX_refl _ | refine weak_fr ?_ ?_ rfl | refine And.intro ?_ ?_ | fail)
    all_goals first
      | exact leI rfl
      | (exfalso; omega)
      | trace_state
theorem s102 (a b : Int) (ha : 0 ≤ a ∧ a ≤ 1000000000) (hb : 0 ≤ b ∧ b ≤ 1000000000) : Spec prog 102 [tI a, tI b] [] (.t [tI (a + b), tB true]) [] := by
  refine spec_s is102 mixed rfl (V_x ?_)
  repeat' (conv => whnf
           first | refine Frz.own ?_ | refine Get.mk _ rfl ?_ | refine Get.mk _ (map_geti (by omega)) ?_ | refine Get.mk _ (map_getp (by omega) (by omega)) ?_ | refine Get.mk _ (map_get (by omega)) ?_ | refine Bv2.mk _ _ rfl rfl ?_ | refine Bv1.mk _ rfl ?_ | refine Wr.mk _ (wrap_i64 (by omega) (by omega)) ?_ | refine Wr.mk _ rfl ?_ | refine And.intro len_map ?_ | refine And.intro (leX_refl _) ?_ | refine And.intro rfl ?_ | refine And.intro (leO_some _) ?_ | (refine And.intro (fun h => absurd h (by decide)) (fun h => ?_); clear h) | (refine And.intro (fun h => ?_) (fun h => absurd h (by decide)); clear h) | (with_reducible first | refine sp1 (fun h => ?_) (fun h => ?_) | refine sp2 (fun h => ?_) (fun h => ?_) | refine sp3 (fun h => ?_) (fun h => ?_) | refine sp4 (fun h => ?_) (fun h => ?_) | refine sp5 (fun h => ?_) (fun h => ?_) | refine sp6 (fun h => ?_) (fun h => ?_)) | with_reducible refine And.intro (fun h => ?_) (fun h => ?_) | refine And.intro (Int.natCast_nonneg _) ?_ | refine And.intro (by omega) ?_ | refine And.intro (by decide) ?_ | refine Lst.mk _ rfl ?_ | refine And.intro trivial ?_ | exact trivial | exact leX_refl _ | refine weak_fr ?_ ?_ rfl | refine And.intro ?_ ?_ | fail)
  all_goals first
    | (exfalso; omega)
    | exact leX_refl _
    | exact leT rfl
    | trace_state
theorem s61 (l : List Want) (hl : l.length ≤ 1000) (h : ∀ w ∈ l, 1 ≤ w.share ∧ w.share ≤ 64) : Spec prog 61 [.s 2 (l.map Want.tv)] [] (.t [tI (shareSum l), tB true]) [] := by
  have hlen : (l.map Want.tv).length = l.length := List.length_map _
  refine spec_s is61 mixed rfl (V_x ?_)
  repeat' (conv => whnf
           first | refine Frz.own ?_ | refine Get.mk _ rfl ?_ | refine Get.mk _ (map_geti (by omega)) ?_ | refine Get.mk _ (map_getp (by omega) (by omega)) ?_ | refine Get.mk _ (map_get (by omega)) ?_ | refine Bv2.mk _ _ rfl rfl ?_ | refine Bv1.mk _ rfl ?_ | refine Wr.mk _ (wrap_i64 (by omega) (by omega)) ?_ | refine Wr.mk _ rfl ?_ | refine And.intro len_map ?_ | refine And.intro (leX_refl _) ?_ | refine And.intro rfl ?_ | refine And.intro (leO_some _) ?_ | (refine And.intro (fun h => absurd h (by decide)) (fun h => ?_); clear h) | (refine And.intro (fun h => ?_) (fun h => absurd h (by decide)); clear h) | (with_reducible first | refine sp1 (fun h => ?_) (fun h => ?_) | refine sp2 (fun h => ?_) (fun h => ?_) | refine sp3 (fun h => ?_) (fun h => ?_) | refine sp4 (fun h => ?_) (fun h => ?_) | refine sp5 (fun h => ?_) (fun h => ?_) | refine sp6 (fun h => ?_) (fun h => ?_)) | with_reducible refine And.intro (fun h => ?_) (fun h => ?_) | refine And.intro (Int.natCast_nonneg _) ?_ | refine And.intro (by omega) ?_ | refine And.intro (by decide) ?_ | refine Lst.mk _ rfl ?_ | refine And.intro trivial ?_ | exact trivial | exact leX_refl _ | refine weak_fr ?_ ?_ rfl | refine And.intro ?_ ?_ | fail)
  refine V_up l.length (fun _ => True) (fun i => ([(0, .s 2 (l.map Want.tv)), (4, tI (shareSum (l.take i))), (5, tI (i : Nat))], [])) trivial ?_ ?_
  · repeat' (conv => whnf
             first | refine Frz.own ?_ | refine Get.mk _ rfl ?_ | refine Get.mk _ (map_geti (by omega)) ?_ | refine Get.mk _ (map_getp (by omega) (by omega)) ?_ | refine Get.mk _ (map_get (by omega)) ?_ | refine Bv2.mk _ _ rfl rfl ?_ | refine Bv1.mk _ rfl ?_ | refine Wr.mk _ (wrap_i64 (by omega) (by omega)) ?_ | refine Wr.mk _ rfl ?_ | refine And.intro len_map ?_ | refine And.intro (leX_refl _) ?_ | refine And.intro rfl ?_ | refine And.intro (leO_some _) ?_ | (refine And.intro (fun h => absurd h (by decide)) (fun h => ?_); clear h) | (refine And.intro (fun h => ?_) (fun h => absurd h (by decide)); clear h) | (with_reducible first | refine sp1 (fun h => ?_) (fun h => ?_) | refine sp2 (fun h => ?_) (fun h => ?_) | refine sp3 (fun h => ?_) (fun h => ?_) | refine sp4 (fun h => ?_) (fun h => ?_) | refine sp5 (fun h => ?_) (fun h => ?_) | refine sp6 (fun h => ?_) (fun h => ?_)) | with_reducible refine And.intro (fun h => ?_) (fun h => ?_) | refine And.intro (Int.natCast_nonneg _) ?_ | refine And.intro (by omega) ?_ | refine And.intro (by decide) ?_ | refine Lst.mk _ rfl ?_ | refine And.intro trivial ?_ | exact trivial | exact leX_refl _ | refine weak_fr ?_ ?_ rfl | refine And.intro ?_ ?_ | fail)
  rintro i hi -
  refine V_x ?_
  rcases Nat.lt_or_ge i l.length with hlt | hge
  · have h1 := shareSum_le (l := l.take i) fun w hw => by have := h w (List.mem_of_mem_take hw); omega
    have h2 := h _ (List.getElem_mem hlt)
    have h3 := shareSum_snoc' l hlt
    have hlt2 : (l.take i).length = i := by rw [List.length_take]; omega
    have h102 := s102 (shareSum (l.take i)) l[i].share (by omega) (by omega)
    rw [← h3] at h102
    repeat' (conv => whnf
             first | refine Frz.own ?_ | refine Get.mk _ rfl ?_ | refine Get.mk _ (map_geti (by omega)) ?_ | refine Get.mk _ (map_getp (by omega) (by omega)) ?_ | refine Get.mk _ (map_get (by omega)) ?_ | refine Bv2.mk _ _ rfl rfl ?_ | refine Bv1.mk _ rfl ?_ | refine Wr.mk _ (wrap_i64 (by omega) (by omega)) ?_ | refine Wr.mk _ rfl ?_ | refine And.intro len_map ?_ | refine And.intro (leX_refl _) ?_ | refine And.intro rfl ?_ | refine And.intro (leO_some _) ?_ | (refine And.intro (fun h => absurd h (by decide)) (fun h => ?_); clear h) | (refine And.intro (fun h => ?_) (fun h => absurd h (by decide)); clear h) | (with_reducible first | refine sp1 (fun h => ?_) (fun h => ?_) | refine sp2 (fun h => ?_) (fun h => ?_) | refine sp3 (fun h => ?_) (fun h => ?_) | refine sp4 (fun h => ?_) (fun h => ?_) | refine sp5 (fun h => ?_) (fun h => ?_) | refine sp6 (fun h => ?_) (fun h => ?_)) | with_reducible refine And.intro (fun h => ?_) (fun h => ?_) | refine And.intro (Int.natCast_nonneg _) ?_ | refine And.intro (by omega) ?_ | refine And.intro (by decide) ?_ | refine Lst.mk _ rfl ?_ | refine Or.inr (Or.inl ⟨_, _, h102, leL_refl _, rfl, rfl, ?_⟩) | refine And.intro trivial ?_ | exact trivial | exact leX_refl _ | refine weak_fr ?_ ?_ rfl | refine And.intro ?_ ?_ | fail)
    all_goals first
      | contradiction
      | (exfalso; omega)
      | exact leX_refl _
      | trace_state
  · rw [List.take_of_length_le hge]
    repeat' (conv => whnf
             first | refine Frz.own ?_ | refine Get.mk _ rfl ?_ | refine Get.mk _ (map_geti (by omega)) ?_ | refine Get.mk _ (map_getp (by omega) (by omega)) ?_ | refine Get.mk _ (map_get (by omega)) ?_ | refine Bv2.mk _ _ rfl rfl ?_ | refine Bv1.mk _ rfl ?_ | refine Wr.mk _ (wrap_i64 (by omega) (by omega)) ?_ | refine Wr.mk _ rfl ?_ | refine And.intro len_map ?_ | refine And.intro (leX_refl _) ?_ | refine And.intro rfl ?_ | refine And.intro (leO_some _) ?_ | (refine And.intro (fun h => absurd h (by decide)) (fun h => ?_); clear h) | (refine And.intro (fun h => ?_) (fun h => absurd h (by decide)); clear h) | (with_reducible first | refine sp1 (fun h => ?_) (fun h => ?_) | refine sp2 (fun h => ?_) (fun h => ?_) | refine sp3 (fun h => ?_) (fun h => ?_) | refine sp4 (fun h => ?_) (fun h => ?_) | refine sp5 (fun h => ?_) (fun h => ?_) | refine sp6 (fun h => ?_) (fun h => ?_)) | with_reducible refine And.intro (fun h => ?_) (fun h => ?_) | refine And.intro (Int.natCast_nonneg _) ?_ | refine And.intro (by omega) ?_ | refine And.intro (by decide) ?_ | refine Lst.mk _ rfl ?_ | refine And.intro trivial ?_ | exact trivial | exact leX_refl _ | refine weak_fr ?_ ?_ rfl | refine And.intro ?_ ?_ | fail)
    all_goals first
      | (exfalso; omega)
      | exact leX_refl _
      | exact leT rfl
      | trace_state
end Go.Proofs.Ytjmjolefhcjedaa.Vc

namespace Go.Proofs.Ytjmjolefhcjedaa.Vc
open Go Go.RowKit Go.Proofs.Try
set_option maxRecDepth 20000

def maxShare (l : List Want) : Int := l.foldl (fun m w => max m w.share) 0
theorem maxShare_snoc (l : List Want) (w : Want) : maxShare (l ++ [w]) = max (maxShare l) w.share := by unfold maxShare; rw [List.foldl_append]; rfl
theorem maxShare_spec (l : List Want) : 0 ≤ maxShare l ∧ (∀ w ∈ l, w.share ≤ maxShare l) ∧ (maxShare l = 0 ∨ ∃ w ∈ l, w.share = maxShare l) := by
  refine snoc_ind (P := fun l => 0 ≤ maxShare l ∧ (∀ w ∈ l, w.share ≤ maxShare l) ∧ (maxShare l = 0 ∨ ∃ w ∈ l, w.share = maxShare l)) ?_ ?_ l
  · exact ⟨by simp [maxShare], by simp, .inl (by simp [maxShare])⟩
  · intro l w ⟨h1, h2, h3⟩
    rw [maxShare_snoc]
    refine ⟨by omega, fun v hv => ?_, ?_⟩
    · rcases List.mem_append.1 hv with h | h
      · have := h2 v h; omega
      · obtain rfl := List.mem_singleton.1 h; omega
    · rcases Int.le_total (maxShare l) w.share with h | h
      · exact .inr ⟨w, by simp, by omega⟩
      · rw [Int.max_eq_left h]
        rcases h3 with h3 | ⟨v, hv, h3⟩
        · exact .inl h3
        · exact .inr ⟨v, by simp [hv], h3⟩
theorem shareSum_perm {l m : List Want} (h : l.Perm m) : shareSum l = shareSum m := by
  have e : ∀ (x : Want) (l : List Want), shareSum (x :: l) = x.share + shareSum l := fun x l => by unfold shareSum; simp
  induction h with
  | nil => rfl
  | cons x _ ih => rw [e, e, ih]
  | swap x y l => rw [e, e, e, e]; omega
  | trans _ _ h1 h2 => exact h1.trans h2
/-- Sure: whoever they are, they fit. -/
def sureW (f n : Int) (l : List Want) : Bool := decide (chkW f l = 0 ∧ 1 ≤ n ∧ n ≤ 16 ∧ (l = [] ∨ shareSum l + (n - 1) * maxShare l < n * f + n))
theorem prod_le {a b c d : Int} (ha : 0 ≤ a ∧ a ≤ c) (hb : 0 ≤ b ∧ b ≤ d) : 0 ≤ a * b ∧ a * b ≤ c * d :=
  ⟨Int.mul_nonneg ha.1 hb.1, Int.mul_le_mul ha.2 hb.2 hb.1 (by omega)⟩
theorem s48 (f n : Int) (l : List Want) (hl : l.length ≤ 1000) : Spec prog 48 [tI f, tI n, .s 2 (l.map Want.tv)] [] (tB (sureW f n l)) [] := by
  have hlm : (l.map Want.tv).length = l.length := List.length_map _
  have h58 := s58 f l (by omega)
  refine spec_s is48 mixed rfl (V_x ?_)
  by_cases hc : chkW f l = 0
  · rw [hc] at h58
    by_cases hn : 1 ≤ n ∧ n ≤ 16
    · obtain ⟨hf, hok, hnd⟩ := chkW_zero hc
      have hs := shareSum_le (l := l) fun w hw => by have := hok w hw; omega
      have h61 := s61 l hl fun w hw => by have := hok w hw; omega
      repeat' (conv => whnf
               first | refine Frz.own ?_ | refine Get.mk _ rfl ?_ | refine Get.mk _ (map_geti (by omega)) ?_ | refine Get.mk _ (map_getp (by omega) (by omega)) ?_ | refine Get.mk _ (map_get (by omega)) ?_ | refine Bv2.mk _ _ rfl rfl ?_ | refine Bv1.mk _ rfl ?_ | refine Wr.mk _ (wrap_i64 (by omega) (by omega)) ?_ | refine Wr.mk _ rfl ?_ | refine And.intro len_map ?_ | refine And.intro (leX_refl _) ?_ | refine And.intro rfl ?_ | refine And.intro (leO_some _) ?_ | (refine And.intro (fun h => absurd h (by decide)) (fun h => ?_); clear h) | (refine And.intro (fun h => ?_) (fun h => absurd h (by decide)); clear h) | (with_reducible first | refine sp1 (fun h => ?_) (fun h => ?_) | refine sp2 (fun h => ?_) (fun h => ?_) | refine sp3 (fun h => ?_) (fun h => ?_) | refine sp4 (fun h => ?_) (fun h => ?_) | refine sp5 (fun h => ?_) (fun h => ?_) | refine sp6 (fun h => ?_) (fun h => ?_)) | with_reducible refine And.intro (fun h => ?_) (fun h => ?_) | refine And.intro (Int.natCast_nonneg _) ?_ | refine And.intro (by omega) ?_ | refine And.intro (by decide) ?_ | refine Lst.mk _ rfl ?_ | refine Or.inr (Or.inl ⟨_, _, h58, leL_refl _, rfl, rfl, ?_⟩) | refine Or.inr (Or.inl ⟨_, _, h61, leL_refl _, rfl, rfl, ?_⟩) | refine And.intro trivial ?_ | exact trivial | exact leX_refl _ | refine weak_fr ?_ ?_ rfl | refine And.intro ?_ ?_ | fail)
      all_goals first
        | contradiction
        | (exfalso; omega)
        | skip
      refine V_up l.length (fun _ => True) (fun i => ([(0, tI f), (1, tI n), (2, .s 2 (l.map Want.tv)), (7, tI (shareSum l)), (9, tI (maxShare (l.take i))), (10, tI (i : Nat))], [])) trivial ?_ ?_
      · repeat' (conv => whnf
                 first | refine Frz.own ?_ | refine Get.mk _ rfl ?_ | refine Get.mk _ (map_geti (by omega)) ?_ | refine Get.mk _ (map_getp (by omega) (by omega)) ?_ | refine Get.mk _ (map_get (by omega)) ?_ | refine Bv2.mk _ _ rfl rfl ?_ | refine Bv1.mk _ rfl ?_ | refine Wr.mk _ (wrap_i64 (by omega) (by omega)) ?_ | refine Wr.mk _ rfl ?_ | refine And.intro len_map ?_ | refine And.intro (leX_refl _) ?_ | refine And.intro rfl ?_ | refine And.intro (leO_some _) ?_ | (refine And.intro (fun h => absurd h (by decide)) (fun h => ?_); clear h) | (refine And.intro (fun h => ?_) (fun h => absurd h (by decide)); clear h) | (with_reducible first | refine sp1 (fun h => ?_) (fun h => ?_) | refine sp2 (fun h => ?_) (fun h => ?_) | refine sp3 (fun h => ?_) (fun h => ?_) | refine sp4 (fun h => ?_) (fun h => ?_) | refine sp5 (fun h => ?_) (fun h => ?_) | refine sp6 (fun h => ?_) (fun h => ?_)) | with_reducible refine And.intro (fun h => ?_) (fun h => ?_) | refine And.intro (Int.natCast_nonneg _) ?_ | refine And.intro (by omega) ?_ | refine And.intro (by decide) ?_ | refine Lst.mk _ rfl ?_ | refine And.intro trivial ?_ | exact trivial | exact leX_refl _ | refine weak_fr ?_ ?_ rfl | refine And.intro ?_ ?_ | fail)
      rintro i hi -
      refine V_x ?_
      rcases Nat.lt_or_ge i l.length with hlt | hge
      · have hms : maxShare (l.take (i + 1)) = max (maxShare (l.take i)) l[i].share := by rw [List.take_succ_eq_append_getElem hlt, maxShare_snoc]
        by_cases hgt : maxShare (l.take i) < l[i].share
        · rw [show maxShare (l.take (i + 1)) = l[i].share by omega]
          repeat' (conv => whnf
                   first | refine Frz.own ?_ | refine Get.mk _ rfl ?_ | refine Get.mk _ (map_geti (by omega)) ?_ | refine Get.mk _ (map_getp (by omega) (by omega)) ?_ | refine Get.mk _ (map_get (by omega)) ?_ | refine Bv2.mk _ _ rfl rfl ?_ | refine Bv1.mk _ rfl ?_ | refine Wr.mk _ (wrap_i64 (by omega) (by omega)) ?_ | refine Wr.mk _ rfl ?_ | refine And.intro len_map ?_ | refine And.intro (leX_refl _) ?_ | refine And.intro rfl ?_ | refine And.intro (leO_some _) ?_ | (refine And.intro (fun h => absurd h (by decide)) (fun h => ?_); clear h) | (refine And.intro (fun h => ?_) (fun h => absurd h (by decide)); clear h) | (with_reducible first | refine sp1 (fun h => ?_) (fun h => ?_) | refine sp2 (fun h => ?_) (fun h => ?_) | refine sp3 (fun h => ?_) (fun h => ?_) | refine sp4 (fun h => ?_) (fun h => ?_) | refine sp5 (fun h => ?_) (fun h => ?_) | refine sp6 (fun h => ?_) (fun h => ?_)) | with_reducible refine And.intro (fun h => ?_) (fun h => ?_) | refine And.intro (Int.natCast_nonneg _) ?_ | refine And.intro (by omega) ?_ | refine And.intro (by decide) ?_ | refine Lst.mk _ rfl ?_ | refine And.intro trivial ?_ | exact trivial | exact leX_refl _ | refine weak_fr ?_ ?_ rfl | refine And.intro ?_ ?_ | fail)
          all_goals first
            | (exfalso; omega)
            | trace_state
        · rw [show maxShare (l.take (i + 1)) = maxShare (l.take i) by omega]
          repeat' (conv => whnf
                   first | refine Frz.own ?_ | refine Get.mk _ rfl ?_ | refine Get.mk _ (map_geti (by omega)) ?_ | refine Get.mk _ (map_getp (by omega) (by omega)) ?_ | refine Get.mk _ (map_get (by omega)) ?_ | refine Bv2.mk _ _ rfl rfl ?_ | refine Bv1.mk _ rfl ?_ | refine Wr.mk _ (wrap_i64 (by omega) (by omega)) ?_ | refine Wr.mk _ rfl ?_ | refine And.intro len_map ?_ | refine And.intro (leX_refl _) ?_ | refine And.intro rfl ?_ | refine And.intro (leO_some _) ?_ | (refine And.intro (fun h => absurd h (by decide)) (fun h => ?_); clear h) | (refine And.intro (fun h => ?_) (fun h => absurd h (by decide)); clear h) | (with_reducible first | refine sp1 (fun h => ?_) (fun h => ?_) | refine sp2 (fun h => ?_) (fun h => ?_) | refine sp3 (fun h => ?_) (fun h => ?_) | refine sp4 (fun h => ?_) (fun h => ?_) | refine sp5 (fun h => ?_) (fun h => ?_) | refine sp6 (fun h => ?_) (fun h => ?_)) | with_reducible refine And.intro (fun h => ?_) (fun h => ?_) | refine And.intro (Int.natCast_nonneg _) ?_ | refine And.intro (by omega) ?_ | refine And.intro (by decide) ?_ | refine Lst.mk _ rfl ?_ | refine And.intro trivial ?_ | exact trivial | exact leX_refl _ | refine weak_fr ?_ ?_ rfl | refine And.intro ?_ ?_ | fail)
          all_goals first
            | (exfalso; omega)
            | trace_state
      · rw [List.take_of_length_le hge]
        have hm := maxShare_spec l
        have hm64 : maxShare l ≤ 64 := by
          rcases hm.2.2 with h | ⟨w, hw, h⟩
          · omega
          · have := hok w hw; omega
        have b1 := prod_le (a := n) (b := f) (c := 16) (d := 64) (by omega) (by omega)
        have b2 := prod_le (a := n - 1) (b := maxShare l) (c := 16) (d := 64) (by omega) (by omega)
        have key : l.length ≠ 0 → sureW f n l = decide (shareSum l + (n - 1) * maxShare l < n * f + n) := fun h0 => by
          unfold sureW
          refine decide_eq_decide.2 ⟨fun h => ?_, fun h => ⟨hc, hn.1, hn.2, .inr h⟩⟩
          rcases h.2.2.2 with h | h
          · exact absurd (by rw [h]; rfl) h0
          · exact h
        have key0 : l.length = 0 → sureW f n l = true := fun h0 => decide_eq_true ⟨hc, hn.1, hn.2, .inl (List.eq_nil_of_length_eq_zero h0)⟩
        generalize maxShare l = m at *
        repeat' (conv => whnf
                 first | refine Frz.own ?_ | refine Get.mk _ rfl ?_ | refine Get.mk _ (map_geti (by omega)) ?_ | refine Get.mk _ (map_getp (by omega) (by omega)) ?_ | refine Get.mk _ (map_get (by omega)) ?_ | refine Bv2.mk _ _ rfl rfl ?_ | refine Bv1.mk _ rfl ?_ | refine Wr.mk _ (wrap_i64 (by omega) (by omega)) ?_ | refine Wr.mk _ rfl ?_ | refine And.intro len_map ?_ | refine And.intro (leX_refl _) ?_ | refine And.intro rfl ?_ | refine And.intro (leO_some _) ?_ | (refine And.intro (fun h => absurd h (by decide)) (fun h => ?_); clear h) | (refine And.intro (fun h => ?_) (fun h => absurd h (by decide)); clear h) | (with_reducible first | refine sp1 (fun h => ?_) (fun h => ?_) | refine sp2 (fun h => ?_) (fun h => ?_) | refine sp3 (fun h => ?_) (fun h => ?_) | refine sp4 (fun h => ?_) (fun h => ?_) | refine sp5 (fun h => ?_) (fun h => ?_) | refine sp6 (fun h => ?_) (fun h => ?_)) | with_reducible refine And.intro (fun h => ?_) (fun h => ?_) | refine And.intro (Int.natCast_nonneg _) ?_ | refine And.intro (by omega) ?_ | refine And.intro (by decide) ?_ | refine Lst.mk _ rfl ?_ | refine And.intro trivial ?_ | exact trivial | exact leX_refl _ | refine weak_fr ?_ ?_ rfl | refine And.intro ?_ ?_ | fail)
        all_goals first
          | (exfalso; omega)
          | (rw [key0 (by omega)]; exact leB rfl)
          | (rw [key (by omega)]; exact leB rfl)
          | trace_state
    · have e : sureW f n l = false := decide_eq_false fun h => hn ⟨h.2.1, h.2.2.1⟩
      rw [e]
      repeat' (conv => whnf
               first | refine Frz.own ?_ | refine Get.mk _ rfl ?_ | refine Get.mk _ (map_geti (by omega)) ?_ | refine Get.mk _ (map_getp (by omega) (by omega)) ?_ | refine Get.mk _ (map_get (by omega)) ?_ | refine Bv2.mk _ _ rfl rfl ?_ | refine Bv1.mk _ rfl ?_ | refine Wr.mk _ (wrap_i64 (by omega) (by omega)) ?_ | refine Wr.mk _ rfl ?_ | refine And.intro len_map ?_ | refine And.intro (leX_refl _) ?_ | refine And.intro rfl ?_ | refine And.intro (leO_some _) ?_ | (refine And.intro (fun h => absurd h (by decide)) (fun h => ?_); clear h) | (refine And.intro (fun h => ?_) (fun h => absurd h (by decide)); clear h) | (with_reducible first | refine sp1 (fun h => ?_) (fun h => ?_) | refine sp2 (fun h => ?_) (fun h => ?_) | refine sp3 (fun h => ?_) (fun h => ?_) | refine sp4 (fun h => ?_) (fun h => ?_) | refine sp5 (fun h => ?_) (fun h => ?_) | refine sp6 (fun h => ?_) (fun h => ?_)) | with_reducible refine And.intro (fun h => ?_) (fun h => ?_) | refine And.intro (Int.natCast_nonneg _) ?_ | refine And.intro (by omega) ?_ | refine And.intro (by decide) ?_ | refine Lst.mk _ rfl ?_ | refine Or.inr (Or.inl ⟨_, _, h58, leL_refl _, rfl, rfl, ?_⟩) | refine And.intro trivial ?_ | exact trivial | exact leX_refl _ | refine weak_fr ?_ ?_ rfl | refine And.intro ?_ ?_ | fail)
      all_goals first
        | contradiction
        | (exfalso; omega)
        | exact leB rfl
        | trace_state
  · have e : sureW f n l = false := decide_eq_false fun h => hc h.1
    rw [e]
    repeat' (conv => whnf
             first | refine Frz.own ?_ | refine Get.mk _ rfl ?_ | refine Get.mk _ (map_geti (by omega)) ?_ | refine Get.mk _ (map_getp (by omega) (by omega)) ?_ | refine Get.mk _ (map_get (by omega)) ?_ | refine Bv2.mk _ _ rfl rfl ?_ | refine Bv1.mk _ rfl ?_ | refine Wr.mk _ (wrap_i64 (by omega) (by omega)) ?_ | refine Wr.mk _ rfl ?_ | refine And.intro len_map ?_ | refine And.intro (leX_refl _) ?_ | refine And.intro rfl ?_ | refine And.intro (leO_some _) ?_ | (refine And.intro (fun h => absurd h (by decide)) (fun h => ?_); clear h) | (refine And.intro (fun h => ?_) (fun h => absurd h (by decide)); clear h) | (with_reducible first | refine sp1 (fun h => ?_) (fun h => ?_) | refine sp2 (fun h => ?_) (fun h => ?_) | refine sp3 (fun h => ?_) (fun h => ?_) | refine sp4 (fun h => ?_) (fun h => ?_) | refine sp5 (fun h => ?_) (fun h => ?_) | refine sp6 (fun h => ?_) (fun h => ?_)) | with_reducible refine And.intro (fun h => ?_) (fun h => ?_) | refine And.intro (Int.natCast_nonneg _) ?_ | refine And.intro (by omega) ?_ | refine And.intro (by decide) ?_ | refine Lst.mk _ rfl ?_ | refine Or.inr (Or.inl ⟨_, _, h58, leL_refl _, rfl, rfl, ?_⟩) | refine And.intro trivial ?_ | exact trivial | exact leX_refl _ | refine weak_fr ?_ ?_ rfl | refine And.intro ?_ ?_ | fail)
    all_goals first
      | contradiction
      | (exfalso; omega)
      | exact leB rfl
      | trace_state
end Go.Proofs.Ytjmjolefhcjedaa.Vc
