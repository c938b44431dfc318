/- Split units made whole, walked. -/
import Derived.Test.YtjmjolefhcjedaaWa
import Derived.Test.YtjmjolefhcjedaaFa
import Derived.Test.YtjmjolefhcjedaaMa
namespace Go.Proofs.Ytjmjolefhcjedaa.Vc
open Go Go.RowKit Go.Proofs.Try
set_option maxRecDepth 20000

/-- The first core with room: the program's, and the page's. -/
theorem s90 (p : Plan) (n : Int) (hp : p.light) (hr : p.right) (hn : 1 ≤ n) : Spec prog 90 [p.tv, tI n] [] (.t [tI ((p.firstC n).getD 0), tB (p.firstC n).isSome]) [] := by
  have hl : (p.coresI.map fun c => tI c).length = p.coresI.length := List.length_map _
  have hcl := coresI_len p
  refine spec_s is90 mixed rfl (V_x ?_)
  repeat' (conv => whnf
           first | refine Frz.own ?_ | refine Get.mk _ rfl ?_ | refine Get.mk _ (map_geti (by omega)) ?_ | refine Get.mk _ (map_getp (by omega) (by omega)) ?_ | refine Get.mk _ (map_get (by omega)) ?_ | refine Bv2.mk _ _ rfl rfl ?_ | refine Bv1.mk _ rfl ?_ | refine Wr.mk _ (wrap_i64 (by omega) (by omega)) ?_ | refine Wr.mk _ rfl ?_ | refine And.intro len_map ?_ | refine And.intro (leX_refl _) ?_ | refine And.intro rfl ?_ | refine And.intro (leO_some _) ?_ | (refine And.intro (fun h => absurd h (by decide)) (fun h => ?_); clear h) | (refine And.intro (fun h => ?_) (fun h => absurd h (by decide)); clear h) | (with_reducible first | refine sp1 (fun h => ?_) (fun h => ?_) | refine sp2 (fun h => ?_) (fun h => ?_) | refine sp3 (fun h => ?_) (fun h => ?_) | refine sp4 (fun h => ?_) (fun h => ?_) | refine sp5 (fun h => ?_) (fun h => ?_) | refine sp6 (fun h => ?_) (fun h => ?_)) | with_reducible refine And.intro (fun h => ?_) (fun h => ?_) | refine And.intro (Int.natCast_nonneg _) ?_ | refine And.intro (by omega) ?_ | refine And.intro (by decide) ?_ | refine Lst.mk _ rfl ?_ | refine Or.inr (Or.inl ⟨_, _, s73 p, leL_refl _, rfl, rfl, ?_⟩) | refine And.intro trivial ?_ | exact trivial | exact leX_refl _ | refine weak_fr ?_ ?_ rfl | refine And.intro ?_ ?_ | fail)
  refine V_up p.coresI.length (fun i => Fct (∀ d ∈ p.coresI.take i, ¬ n ≤ p.room d)) (fun i => ([(1, tI n), (2, .p 48 0 0), (9, .s 1 (p.coresI.map fun c => tI c)), (10, tI (p.coresI.length : Nat)), (11, tI (i : Nat))], [(48, .var 25 p.tv)])) ⟨by simp⟩ ?_ ?_
  · repeat' (conv => whnf
             first | refine Frz.own ?_ | refine Get.mk _ rfl ?_ | refine Get.mk _ (map_geti (by omega)) ?_ | refine Get.mk _ (map_getp (by omega) (by omega)) ?_ | refine Get.mk _ (map_get (by omega)) ?_ | refine Bv2.mk _ _ rfl rfl ?_ | refine Bv1.mk _ rfl ?_ | refine Wr.mk _ (wrap_i64 (by omega) (by omega)) ?_ | refine Wr.mk _ rfl ?_ | refine And.intro len_map ?_ | refine And.intro (leX_refl _) ?_ | refine And.intro rfl ?_ | refine And.intro (leO_some _) ?_ | (refine And.intro (fun h => absurd h (by decide)) (fun h => ?_); clear h) | (refine And.intro (fun h => ?_) (fun h => absurd h (by decide)); clear h) | (with_reducible first | refine sp1 (fun h => ?_) (fun h => ?_) | refine sp2 (fun h => ?_) (fun h => ?_) | refine sp3 (fun h => ?_) (fun h => ?_) | refine sp4 (fun h => ?_) (fun h => ?_) | refine sp5 (fun h => ?_) (fun h => ?_) | refine sp6 (fun h => ?_) (fun h => ?_)) | with_reducible refine And.intro (fun h => ?_) (fun h => ?_) | refine And.intro (Int.natCast_nonneg _) ?_ | refine And.intro (by omega) ?_ | refine And.intro (by decide) ?_ | refine Lst.mk _ rfl ?_ | refine And.intro trivial ?_ | exact trivial | exact leX_refl _ | refine weak_fr ?_ ?_ rfl | refine And.intro ?_ ?_ | fail)
  rintro i hi ⟨hI⟩
  refine V_x ?_
  rcases Nat.lt_or_ge i p.coresI.length with hlt | hge
  · have hms := mem_snoc hlt (P := fun d => ¬ n ≤ p.room d)
    have hfd : n ≤ p.room p.coresI[i] → p.firstC n = some p.coresI[i] := fun h => find_first hlt (fun x hx => decide_eq_false (hI x hx)) (decide_eq_true h)
    have h109 := s109 p p.coresI[i] hp ⟨by have := hr.lo; omega, hr.hi⟩ (share_range hr)
    by_cases hroom : n ≤ p.room p.coresI[i]
    · rw [hfd hroom]
      repeat' (conv => whnf
               first | refine Frz.own ?_ | refine Get.mk _ rfl ?_ | refine Get.mk _ (map_geti (by omega)) ?_ | refine Get.mk _ (map_getp (by omega) (by omega)) ?_ | refine Get.mk _ (map_get (by omega)) ?_ | refine Bv2.mk _ _ rfl rfl ?_ | refine Bv1.mk _ rfl ?_ | refine Wr.mk _ (wrap_i64 (by omega) (by omega)) ?_ | refine Wr.mk _ rfl ?_ | refine And.intro len_map ?_ | refine And.intro (leX_refl _) ?_ | refine And.intro rfl ?_ | refine And.intro (leO_some _) ?_ | (refine And.intro (fun h => absurd h (by decide)) (fun h => ?_); clear h) | (refine And.intro (fun h => ?_) (fun h => absurd h (by decide)); clear h) | (with_reducible first | refine sp1 (fun h => ?_) (fun h => ?_) | refine sp2 (fun h => ?_) (fun h => ?_) | refine sp3 (fun h => ?_) (fun h => ?_) | refine sp4 (fun h => ?_) (fun h => ?_) | refine sp5 (fun h => ?_) (fun h => ?_) | refine sp6 (fun h => ?_) (fun h => ?_)) | with_reducible refine And.intro (fun h => ?_) (fun h => ?_) | refine And.intro (Int.natCast_nonneg _) ?_ | refine And.intro (by omega) ?_ | refine And.intro (by decide) ?_ | refine Lst.mk _ rfl ?_ | refine Or.inr (Or.inl ⟨_, _, h109, leL_refl _, rfl, rfl, ?_⟩) | refine And.intro trivial ?_ | exact trivial | exact leX_refl _ | refine weak_fr ?_ ?_ rfl | refine And.intro ?_ ?_ | fail)
      all_goals first
        | (exfalso; omega)
        | exact leX_refl _
        | exact leT rfl
        | trace_state
    · repeat' (conv => whnf
               first | refine Frz.own ?_ | refine Get.mk _ rfl ?_ | refine Get.mk _ (map_geti (by omega)) ?_ | refine Get.mk _ (map_getp (by omega) (by omega)) ?_ | refine Get.mk _ (map_get (by omega)) ?_ | refine Bv2.mk _ _ rfl rfl ?_ | refine Bv1.mk _ rfl ?_ | refine Wr.mk _ (wrap_i64 (by omega) (by omega)) ?_ | refine Wr.mk _ rfl ?_ | refine And.intro len_map ?_ | refine And.intro (leX_refl _) ?_ | refine And.intro rfl ?_ | refine And.intro (leO_some _) ?_ | (refine And.intro (fun h => absurd h (by decide)) (fun h => ?_); clear h) | (refine And.intro (fun h => ?_) (fun h => absurd h (by decide)); clear h) | (with_reducible first | refine sp1 (fun h => ?_) (fun h => ?_) | refine sp2 (fun h => ?_) (fun h => ?_) | refine sp3 (fun h => ?_) (fun h => ?_) | refine sp4 (fun h => ?_) (fun h => ?_) | refine sp5 (fun h => ?_) (fun h => ?_) | refine sp6 (fun h => ?_) (fun h => ?_)) | with_reducible refine And.intro (fun h => ?_) (fun h => ?_) | refine And.intro (Int.natCast_nonneg _) ?_ | refine And.intro (by omega) ?_ | refine And.intro (by decide) ?_ | refine Lst.mk _ rfl ?_ | refine Or.inr (Or.inl ⟨_, _, h109, leL_refl _, rfl, rfl, ?_⟩) | refine And.intro trivial ?_ | exact trivial | exact leX_refl _ | refine weak_fr ?_ ?_ rfl | refine And.intro ?_ ?_ | fail)
      all_goals first
        | (exfalso; omega)
        | exact Fct.mk (hms.2 ⟨hI, hroom⟩)
        | trace_state
  · have hnone : p.firstC n = none := by
      rw [List.take_of_length_le hge] at hI
      exact List.find?_eq_none.2 fun x hx => by simpa using hI x hx
    rw [hnone]
    repeat' (conv => whnf
             first | refine Frz.own ?_ | refine Get.mk _ rfl ?_ | refine Get.mk _ (map_geti (by omega)) ?_ | refine Get.mk _ (map_getp (by omega) (by omega)) ?_ | refine Get.mk _ (map_get (by omega)) ?_ | refine Bv2.mk _ _ rfl rfl ?_ | refine Bv1.mk _ rfl ?_ | refine Wr.mk _ (wrap_i64 (by omega) (by omega)) ?_ | refine Wr.mk _ rfl ?_ | refine And.intro len_map ?_ | refine And.intro (leX_refl _) ?_ | refine And.intro rfl ?_ | refine And.intro (leO_some _) ?_ | (refine And.intro (fun h => absurd h (by decide)) (fun h => ?_); clear h) | (refine And.intro (fun h => ?_) (fun h => absurd h (by decide)); clear h) | (with_reducible first | refine sp1 (fun h => ?_) (fun h => ?_) | refine sp2 (fun h => ?_) (fun h => ?_) | refine sp3 (fun h => ?_) (fun h => ?_) | refine sp4 (fun h => ?_) (fun h => ?_) | refine sp5 (fun h => ?_) (fun h => ?_) | refine sp6 (fun h => ?_) (fun h => ?_)) | with_reducible refine And.intro (fun h => ?_) (fun h => ?_) | refine And.intro (Int.natCast_nonneg _) ?_ | refine And.intro (by omega) ?_ | refine And.intro (by decide) ?_ | refine Lst.mk _ rfl ?_ | refine And.intro trivial ?_ | exact trivial | exact leX_refl _ | refine weak_fr ?_ ?_ rfl | refine And.intro ?_ ?_ | fail)
    all_goals first
      | (exfalso; omega)
      | exact leX_refl _
      | exact leT rfl
      | trace_state
open Classical in
noncomputable def Plan.firstF (p : Plan) (n : Int) : Option Int := if p.right ∧ 1 ≤ n then p.firstC n else none
theorem s49 (p : Plan) (n : Int) (hp : p.light) : Spec prog 49 [p.tv, tI n] [] (.t [tI ((p.firstF n).getD 0), tB (p.firstF n).isSome]) [] := by
  have h86 := s86 p hp
  refine spec_s is49 mixed rfl (V_x ?_)
  by_cases hr : p.right
  · rw [err_ok hr] at h86
    by_cases hn : 1 ≤ n
    · have e : p.firstF n = p.firstC n := if_pos ⟨hr, hn⟩
      rw [e]
      have h90 := s90 p n hp hr hn
      repeat' (conv => whnf
               first | refine Frz.own ?_ | refine Get.mk _ rfl ?_ | refine Get.mk _ (map_geti (by omega)) ?_ | refine Get.mk _ (map_getp (by omega) (by omega)) ?_ | refine Get.mk _ (map_get (by omega)) ?_ | refine Bv2.mk _ _ rfl rfl ?_ | refine Bv1.mk _ rfl ?_ | refine Wr.mk _ (wrap_i64 (by omega) (by omega)) ?_ | refine Wr.mk _ rfl ?_ | refine And.intro len_map ?_ | refine And.intro (leX_refl _) ?_ | refine And.intro rfl ?_ | refine And.intro (leO_some _) ?_ | (refine And.intro (fun h => absurd h (by decide)) (fun h => ?_); clear h) | (refine And.intro (fun h => ?_) (fun h => absurd h (by decide)); clear h) | (with_reducible first | refine sp1 (fun h => ?_) (fun h => ?_) | refine sp2 (fun h => ?_) (fun h => ?_) | refine sp3 (fun h => ?_) (fun h => ?_) | refine sp4 (fun h => ?_) (fun h => ?_) | refine sp5 (fun h => ?_) (fun h => ?_) | refine sp6 (fun h => ?_) (fun h => ?_)) | with_reducible refine And.intro (fun h => ?_) (fun h => ?_) | refine And.intro (Int.natCast_nonneg _) ?_ | refine And.intro (by omega) ?_ | refine And.intro (by decide) ?_ | refine Lst.mk _ rfl ?_ | refine Or.inr (Or.inl ⟨_, _, h86, leL_refl _, rfl, rfl, ?_⟩) | refine Or.inr (Or.inl ⟨_, _, h90, leL_refl _, rfl, rfl, ?_⟩) | refine And.intro trivial ?_ | exact trivial | exact leX_refl _ | refine weak_fr ?_ ?_ rfl | refine And.intro ?_ ?_ | fail)
      all_goals first
        | (exfalso; omega)
        | exact leX_refl _
        | exact leT rfl
        | trace_state
    · have e : p.firstF n = none := if_neg fun h => hn h.2
      rw [e]
      repeat' (conv => whnf
               first | refine Frz.own ?_ | refine Get.mk _ rfl ?_ | refine Get.mk _ (map_geti (by omega)) ?_ | refine Get.mk _ (map_getp (by omega) (by omega)) ?_ | refine Get.mk _ (map_get (by omega)) ?_ | refine Bv2.mk _ _ rfl rfl ?_ | refine Bv1.mk _ rfl ?_ | refine Wr.mk _ (wrap_i64 (by omega) (by omega)) ?_ | refine Wr.mk _ rfl ?_ | refine And.intro len_map ?_ | refine And.intro (leX_refl _) ?_ | refine And.intro rfl ?_ | refine And.intro (leO_some _) ?_ | (refine And.intro (fun h => absurd h (by decide)) (fun h => ?_); clear h) | (refine And.intro (fun h => ?_) (fun h => absurd h (by decide)); clear h) | (with_reducible first | refine sp1 (fun h => ?_) (fun h => ?_) | refine sp2 (fun h => ?_) (fun h => ?_) | refine sp3 (fun h => ?_) (fun h => ?_) | refine sp4 (fun h => ?_) (fun h => ?_) | refine sp5 (fun h => ?_) (fun h => ?_) | refine sp6 (fun h => ?_) (fun h => ?_)) | with_reducible refine And.intro (fun h => ?_) (fun h => ?_) | refine And.intro (Int.natCast_nonneg _) ?_ | refine And.intro (by omega) ?_ | refine And.intro (by decide) ?_ | refine Lst.mk _ rfl ?_ | refine Or.inr (Or.inl ⟨_, _, h86, leL_refl _, rfl, rfl, ?_⟩) | refine And.intro trivial ?_ | exact trivial | exact leX_refl _ | refine weak_fr ?_ ?_ rfl | refine And.intro ?_ ?_ | fail)
      all_goals first
        | (exfalso; omega)
        | exact leX_refl _
        | exact leT rfl
        | trace_state
  · have e : p.firstF n = none := if_neg fun h => hr h.1
    rw [e]
    rw [err_no hr] at h86
    repeat' (conv => whnf
             first | refine Frz.own ?_ | refine Get.mk _ rfl ?_ | refine Get.mk _ (map_geti (by omega)) ?_ | refine Get.mk _ (map_getp (by omega) (by omega)) ?_ | refine Get.mk _ (map_get (by omega)) ?_ | refine Bv2.mk _ _ rfl rfl ?_ | refine Bv1.mk _ rfl ?_ | refine Wr.mk _ (wrap_i64 (by omega) (by omega)) ?_ | refine Wr.mk _ rfl ?_ | refine And.intro len_map ?_ | refine And.intro (leX_refl _) ?_ | refine And.intro rfl ?_ | refine And.intro (leO_some _) ?_ | (refine And.intro (fun h => absurd h (by decide)) (fun h => ?_); clear h) | (refine And.intro (fun h => ?_) (fun h => absurd h (by decide)); clear h) | (with_reducible first | refine sp1 (fun h => ?_) (fun h => ?_) | refine sp2 (fun h => ?_) (fun h => ?_) | refine sp3 (fun h => ?_) (fun h => ?_) | refine sp4 (fun h => ?_) (fun h => ?_) | refine sp5 (fun h => ?_) (fun h => ?_) | refine sp6 (fun h => ?_) (fun h => ?_)) | with_reducible refine And.intro (fun h => ?_) (fun h => ?_) | refine And.intro (Int.natCast_nonneg _) ?_ | refine And.intro (by omega) ?_ | refine And.intro (by decide) ?_ | refine Lst.mk _ rfl ?_ | refine Or.inr (Or.inl ⟨_, _, h86, leL_refl _, rfl, rfl, ?_⟩) | refine And.intro trivial ?_ | exact trivial | exact leX_refl _ | refine weak_fr ?_ ?_ rfl | refine And.intro ?_ ?_ | fail)
    all_goals first
      | (exfalso; omega)
      | exact leX_refl _
      | exact leT rfl
      | trace_state
theorem firstC_range {p : Plan} {n : Int} : p.firstC n = ((List.range 16).map fun i : Nat => (i : Int)).find? fun c => p.has c && decide (n ≤ p.room c) := by
  unfold Plan.firstC Plan.coresI
  rw [List.find?_filter]
  congr 1
  funext c
  cases p.has c <;> simp
theorem s45 (p : Plan) (n : Int) (hp : p.light) (hf : 0 ≤ p.frame ∧ p.frame ≤ 64) (hs : ∀ x ∈ p.places, 0 ≤ x.share ∧ x.share ≤ 64) : Spec prog 45 [p.tv, tI n] [] (tI ((p.firstC n).getD (-1))) [] := by
  rw [firstC_range]
  generalize hL : ((List.range 16).map fun i : Nat => (i : Int)) = L
  have hlen : L.length = 16 := by rw [← hL]; simp
  have hat : ∀ i (hi : i < L.length), L[i] = (i : Int) := fun i hi => by subst hL; simp
  refine spec_s is45 mixed rfl (V_x ?_)
  repeat' (conv => whnf
           first | refine Frz.own ?_ | refine Get.mk _ rfl ?_ | refine Get.mk _ (map_geti (by omega)) ?_ | refine Get.mk _ (map_getp (by omega) (by omega)) ?_ | refine Get.mk _ (map_get (by omega)) ?_ | refine Bv2.mk _ _ rfl rfl ?_ | refine Bv1.mk _ rfl ?_ | refine Wr.mk _ (wrap_i64 (by omega) (by omega)) ?_ | refine Wr.mk _ rfl ?_ | refine And.intro len_map ?_ | refine And.intro (leX_refl _) ?_ | refine And.intro rfl ?_ | refine And.intro (leO_some _) ?_ | (refine And.intro (fun h => absurd h (by decide)) (fun h => ?_); clear h) | (refine And.intro (fun h => ?_) (fun h => absurd h (by decide)); clear h) | (with_reducible first | refine sp1 (fun h => ?_) (fun h => ?_) | refine sp2 (fun h => ?_) (fun h => ?_) | refine sp3 (fun h => ?_) (fun h => ?_) | refine sp4 (fun h => ?_) (fun h => ?_) | refine sp5 (fun h => ?_) (fun h => ?_) | refine sp6 (fun h => ?_) (fun h => ?_)) | with_reducible refine And.intro (fun h => ?_) (fun h => ?_) | refine And.intro (Int.natCast_nonneg _) ?_ | refine And.intro (by omega) ?_ | refine And.intro (by decide) ?_ | refine Lst.mk _ rfl ?_ | refine And.intro trivial ?_ | exact trivial | exact leX_refl _ | refine weak_fr ?_ ?_ rfl | refine And.intro ?_ ?_ | fail)
  refine V_up 16 (fun i => Fct (∀ c ∈ L.take i, (p.has c && decide (n ≤ p.room c)) = false)) (fun i => ([(1, tI n), (2, .p 48 0 0), (5, tI (i : Nat))], [(48, .var 25 p.tv)])) ⟨by simp⟩ ?_ ?_
  · repeat' (conv => whnf
             first | refine Frz.own ?_ | refine Get.mk _ rfl ?_ | refine Get.mk _ (map_geti (by omega)) ?_ | refine Get.mk _ (map_getp (by omega) (by omega)) ?_ | refine Get.mk _ (map_get (by omega)) ?_ | refine Bv2.mk _ _ rfl rfl ?_ | refine Bv1.mk _ rfl ?_ | refine Wr.mk _ (wrap_i64 (by omega) (by omega)) ?_ | refine Wr.mk _ rfl ?_ | refine And.intro len_map ?_ | refine And.intro (leX_refl _) ?_ | refine And.intro rfl ?_ | refine And.intro (leO_some _) ?_ | (refine And.intro (fun h => absurd h (by decide)) (fun h => ?_); clear h) | (refine And.intro (fun h => ?_) (fun h => absurd h (by decide)); clear h) | (with_reducible first | refine sp1 (fun h => ?_) (fun h => ?_) | refine sp2 (fun h => ?_) (fun h => ?_) | refine sp3 (fun h => ?_) (fun h => ?_) | refine sp4 (fun h => ?_) (fun h => ?_) | refine sp5 (fun h => ?_) (fun h => ?_) | refine sp6 (fun h => ?_) (fun h => ?_)) | with_reducible refine And.intro (fun h => ?_) (fun h => ?_) | refine And.intro (Int.natCast_nonneg _) ?_ | refine And.intro (by omega) ?_ | refine And.intro (by decide) ?_ | refine Lst.mk _ rfl ?_ | refine And.intro trivial ?_ | exact trivial | exact leX_refl _ | refine weak_fr ?_ ?_ rfl | refine And.intro ?_ ?_ | fail)
  rintro i hi ⟨hI⟩
  refine V_x ?_
  rcases Nat.lt_or_ge i 16 with hlt | hge
  · have hlt' : i < L.length := by omega
    have hms := mem_snoc hlt' (P := fun c => (p.has c && decide (n ≤ p.room c)) = false)
    rw [hat i hlt'] at hms
    have h40 := s40 p i
    have h38 := s38 p i hp hf hs
    cases hh : p.has i with
    | false =>
      rw [hh] at h40
      repeat' (conv => whnf
               first | refine Frz.own ?_ | refine Get.mk _ rfl ?_ | refine Get.mk _ (map_geti (by omega)) ?_ | refine Get.mk _ (map_getp (by omega) (by omega)) ?_ | refine Get.mk _ (map_get (by omega)) ?_ | refine Bv2.mk _ _ rfl rfl ?_ | refine Bv1.mk _ rfl ?_ | refine Wr.mk _ (wrap_i64 (by omega) (by omega)) ?_ | refine Wr.mk _ rfl ?_ | refine And.intro len_map ?_ | refine And.intro (leX_refl _) ?_ | refine And.intro rfl ?_ | refine And.intro (leO_some _) ?_ | (refine And.intro (fun h => absurd h (by decide)) (fun h => ?_); clear h) | (refine And.intro (fun h => ?_) (fun h => absurd h (by decide)); clear h) | (with_reducible first | refine sp1 (fun h => ?_) (fun h => ?_) | refine sp2 (fun h => ?_) (fun h => ?_) | refine sp3 (fun h => ?_) (fun h => ?_) | refine sp4 (fun h => ?_) (fun h => ?_) | refine sp5 (fun h => ?_) (fun h => ?_) | refine sp6 (fun h => ?_) (fun h => ?_)) | with_reducible refine And.intro (fun h => ?_) (fun h => ?_) | refine And.intro (Int.natCast_nonneg _) ?_ | refine And.intro (by omega) ?_ | refine And.intro (by decide) ?_ | refine Lst.mk _ rfl ?_ | refine Or.inr (Or.inl ⟨_, _, h40, leL_refl _, rfl, rfl, ?_⟩) | refine Or.inr (Or.inl ⟨_, _, h38, leL_refl _, rfl, rfl, ?_⟩) | refine And.intro trivial ?_ | exact trivial | exact leX_refl _ | refine weak_fr ?_ ?_ rfl | refine And.intro ?_ ?_ | fail)
      all_goals first
        | (exfalso; omega)
        | exact Fct.mk (hms.2 ⟨hI, by rw [hh]; rfl⟩)
        | trace_state
    | true =>
      rw [hh] at h40
      by_cases hroom : n ≤ p.room i
      · have hF := find_first (P := fun c => p.has c && decide (n ≤ p.room c)) hlt' hI (by rw [hat i hlt', hh]; simpa using hroom)
        rw [hF, hat i hlt']
        repeat' (conv => whnf
                 first | refine Frz.own ?_ | refine Get.mk _ rfl ?_ | refine Get.mk _ (map_geti (by omega)) ?_ | refine Get.mk _ (map_getp (by omega) (by omega)) ?_ | refine Get.mk _ (map_get (by omega)) ?_ | refine Bv2.mk _ _ rfl rfl ?_ | refine Bv1.mk _ rfl ?_ | refine Wr.mk _ (wrap_i64 (by omega) (by omega)) ?_ | refine Wr.mk _ rfl ?_ | refine And.intro len_map ?_ | refine And.intro (leX_refl _) ?_ | refine And.intro rfl ?_ | refine And.intro (leO_some _) ?_ | (refine And.intro (fun h => absurd h (by decide)) (fun h => ?_); clear h) | (refine And.intro (fun h => ?_) (fun h => absurd h (by decide)); clear h) | (with_reducible first | refine sp1 (fun h => ?_) (fun h => ?_) | refine sp2 (fun h => ?_) (fun h => ?_) | refine sp3 (fun h => ?_) (fun h => ?_) | refine sp4 (fun h => ?_) (fun h => ?_) | refine sp5 (fun h => ?_) (fun h => ?_) | refine sp6 (fun h => ?_) (fun h => ?_)) | with_reducible refine And.intro (fun h => ?_) (fun h => ?_) | refine And.intro (Int.natCast_nonneg _) ?_ | refine And.intro (by omega) ?_ | refine And.intro (by decide) ?_ | refine Lst.mk _ rfl ?_ | refine Or.inr (Or.inl ⟨_, _, h40, leL_refl _, rfl, rfl, ?_⟩) | refine Or.inr (Or.inl ⟨_, _, h38, leL_refl _, rfl, rfl, ?_⟩) | refine And.intro trivial ?_ | exact trivial | exact leX_refl _ | refine weak_fr ?_ ?_ rfl | refine And.intro ?_ ?_ | fail)
        all_goals first
          | (exfalso; omega)
          | exact leX_refl _
          | exact leT rfl
          | trace_state
      · repeat' (conv => whnf
                 first | refine Frz.own ?_ | refine Get.mk _ rfl ?_ | refine Get.mk _ (map_geti (by omega)) ?_ | refine Get.mk _ (map_getp (by omega) (by omega)) ?_ | refine Get.mk _ (map_get (by omega)) ?_ | refine Bv2.mk _ _ rfl rfl ?_ | refine Bv1.mk _ rfl ?_ | refine Wr.mk _ (wrap_i64 (by omega) (by omega)) ?_ | refine Wr.mk _ rfl ?_ | refine And.intro len_map ?_ | refine And.intro (leX_refl _) ?_ | refine And.intro rfl ?_ | refine And.intro (leO_some _) ?_ | (refine And.intro (fun h => absurd h (by decide)) (fun h => ?_); clear h) | (refine And.intro (fun h => ?_) (fun h => absurd h (by decide)); clear h) | (with_reducible first | refine sp1 (fun h => ?_) (fun h => ?_) | refine sp2 (fun h => ?_) (fun h => ?_) | refine sp3 (fun h => ?_) (fun h => ?_) | refine sp4 (fun h => ?_) (fun h => ?_) | refine sp5 (fun h => ?_) (fun h => ?_) | refine sp6 (fun h => ?_) (fun h => ?_)) | with_reducible refine And.intro (fun h => ?_) (fun h => ?_) | refine And.intro (Int.natCast_nonneg _) ?_ | refine And.intro (by omega) ?_ | refine And.intro (by decide) ?_ | refine Lst.mk _ rfl ?_ | refine Or.inr (Or.inl ⟨_, _, h40, leL_refl _, rfl, rfl, ?_⟩) | refine Or.inr (Or.inl ⟨_, _, h38, leL_refl _, rfl, rfl, ?_⟩) | refine And.intro trivial ?_ | exact trivial | exact leX_refl _ | refine weak_fr ?_ ?_ rfl | refine And.intro ?_ ?_ | fail)
        all_goals first
          | (exfalso; omega)
          | exact Fct.mk (hms.2 ⟨hI, by rw [hh]; simpa using hroom⟩)
          | trace_state
  · have hF : (L.find? fun c => p.has c && decide (n ≤ p.room c)) = none := by
      rw [List.take_of_length_le (by omega)] at hI
      exact List.find?_eq_none.2 fun x hx => by rw [hI x hx]; simp
    rw [hF]
    repeat' (conv => whnf
             first | refine Frz.own ?_ | refine Get.mk _ rfl ?_ | refine Get.mk _ (map_geti (by omega)) ?_ | refine Get.mk _ (map_getp (by omega) (by omega)) ?_ | refine Get.mk _ (map_get (by omega)) ?_ | refine Bv2.mk _ _ rfl rfl ?_ | refine Bv1.mk _ rfl ?_ | refine Wr.mk _ (wrap_i64 (by omega) (by omega)) ?_ | refine Wr.mk _ rfl ?_ | refine And.intro len_map ?_ | refine And.intro (leX_refl _) ?_ | refine And.intro rfl ?_ | refine And.intro (leO_some _) ?_ | (refine And.intro (fun h => absurd h (by decide)) (fun h => ?_); clear h) | (refine And.intro (fun h => ?_) (fun h => absurd h (by decide)); clear h) | (with_reducible first | refine sp1 (fun h => ?_) (fun h => ?_) | refine sp2 (fun h => ?_) (fun h => ?_) | refine sp3 (fun h => ?_) (fun h => ?_) | refine sp4 (fun h => ?_) (fun h => ?_) | refine sp5 (fun h => ?_) (fun h => ?_) | refine sp6 (fun h => ?_) (fun h => ?_)) | with_reducible refine And.intro (fun h => ?_) (fun h => ?_) | refine And.intro (Int.natCast_nonneg _) ?_ | refine And.intro (by omega) ?_ | refine And.intro (by decide) ?_ | refine Lst.mk _ rfl ?_ | refine And.intro trivial ?_ | exact trivial | exact leX_refl _ | refine weak_fr ?_ ?_ rfl | refine And.intro ?_ ?_ | fail)
    all_goals first
      | (exfalso; omega)
      | exact leX_refl _
      | exact leT rfl
      | trace_state
theorem s94 (b : Int) : Spec prog 94 [tI b] [] (tB (decide (0 ≤ b ∧ b ≤ 8))) [] := by
  refine spec_s is94 mixed rfl (V_x ?_)
  repeat' (conv => whnf
           first | refine Frz.own ?_ | refine Get.mk _ rfl ?_ | refine Get.mk _ (map_geti (by omega)) ?_ | refine Get.mk _ (map_getp (by omega) (by omega)) ?_ | refine Get.mk _ (map_get (by omega)) ?_ | refine Bv2.mk _ _ rfl rfl ?_ | refine Bv1.mk _ rfl ?_ | refine Wr.mk _ (wrap_i64 (by omega) (by omega)) ?_ | refine Wr.mk _ rfl ?_ | refine And.intro len_map ?_ | refine And.intro (leX_refl _) ?_ | refine And.intro rfl ?_ | refine And.intro (leO_some _) ?_ | (refine And.intro (fun h => absurd h (by decide)) (fun h => ?_); clear h) | (refine And.intro (fun h => ?_) (fun h => absurd h (by decide)); clear h) | (with_reducible first | refine sp1 (fun h => ?_) (fun h => ?_) | refine sp2 (fun h => ?_) (fun h => ?_) | refine sp3 (fun h => ?_) (fun h => ?_) | refine sp4 (fun h => ?_) (fun h => ?_) | refine sp5 (fun h => ?_) (fun h => ?_) | refine sp6 (fun h => ?_) (fun h => ?_)) | with_reducible refine And.intro (fun h => ?_) (fun h => ?_) | refine And.intro (Int.natCast_nonneg _) ?_ | refine And.intro (by omega) ?_ | refine And.intro (by decide) ?_ | refine Lst.mk _ rfl ?_ | refine And.intro trivial ?_ | exact trivial | exact leX_refl _ | refine weak_fr ?_ ?_ rfl | refine And.intro ?_ ?_ | fail)
  all_goals
    refine leB ?_
    first
      | (refine decide_eq_decide.2 ?_; omega)
      | (symm; exact decide_eq_true (by omega))
      | (symm; exact decide_eq_false (by omega))
theorem s130 (x y : Want) : Spec prog 130 [x.tv, y.tv] [] (tI (cfS x y)) [] := by
  refine spec_s is130 mixed rfl (V_x ?_)
  repeat' (conv => whnf
           first | refine (Frz.frz ?_ : Frz 15 _ _) | refine Frz.own ?_ | refine Get.mk _ rfl ?_ | refine Get.mk _ (map_geti (by omega)) ?_ | refine Get.mk _ (map_getp (by omega) (by omega)) ?_ | refine Get.mk _ (map_get (by omega)) ?_ | refine Bv2.mk _ _ rfl rfl ?_ | refine Bv1.mk _ rfl ?_ | refine Wr.mk _ (wrap_i64 (by omega) (by omega)) ?_ | refine Wr.mk _ rfl ?_ | refine And.intro len_map ?_ | refine And.intro (leX_refl _) ?_ | refine And.intro rfl ?_ | refine And.intro (leO_some _) ?_ | (refine And.intro (fun h => absurd h (by decide)) (fun h => ?_); clear h) | (refine And.intro (fun h => ?_) (fun h => absurd h (by decide)); clear h) | (with_reducible first | refine sp1 (fun h => ?_) (fun h => ?_) | refine sp2 (fun h => ?_) (fun h => ?_) | refine sp3 (fun h => ?_) (fun h => ?_) | refine sp4 (fun h => ?_) (fun h => ?_) | refine sp5 (fun h => ?_) (fun h => ?_) | refine sp6 (fun h => ?_) (fun h => ?_)) | with_reducible refine And.intro (fun h => ?_) (fun h => ?_) | refine And.intro (Int.natCast_nonneg _) ?_ | refine And.intro (by omega) ?_ | refine And.intro (by decide) ?_ | refine Lst.mk _ rfl ?_ | refine Or.inr (Or.inl ⟨_, _, s132 _ _, leL_refl _, rfl, rfl, ?_⟩) | refine Or.inr (Or.inl ⟨_, _, s131 _ _, leL_refl _, rfl, rfl, ?_⟩) | refine And.intro trivial ?_ | exact trivial | exact leX_refl _ | refine weak_fr ?_ ?_ rfl | refine And.intro ?_ ?_ | fail)
  all_goals exact leI rfl
theorem s127 (x y : Want) : Spec prog 127 [x.tv, y.tv] [] (tI (cfS x y)) [] := by
  refine spec_s is127 mixed rfl (V_x ?_)
  repeat' (conv => whnf
           first | refine (Frz.frz ?_ : Frz 15 _ _) | refine Frz.own ?_ | refine Get.mk _ rfl ?_ | refine Get.mk _ (map_geti (by omega)) ?_ | refine Get.mk _ (map_getp (by omega) (by omega)) ?_ | refine Get.mk _ (map_get (by omega)) ?_ | refine Bv2.mk _ _ rfl rfl ?_ | refine Bv1.mk _ rfl ?_ | refine Wr.mk _ (wrap_i64 (by omega) (by omega)) ?_ | refine Wr.mk _ rfl ?_ | refine And.intro len_map ?_ | refine And.intro (leX_refl _) ?_ | refine And.intro rfl ?_ | refine And.intro (leO_some _) ?_ | (refine And.intro (fun h => absurd h (by decide)) (fun h => ?_); clear h) | (refine And.intro (fun h => ?_) (fun h => absurd h (by decide)); clear h) | (with_reducible first | refine sp1 (fun h => ?_) (fun h => ?_) | refine sp2 (fun h => ?_) (fun h => ?_) | refine sp3 (fun h => ?_) (fun h => ?_) | refine sp4 (fun h => ?_) (fun h => ?_) | refine sp5 (fun h => ?_) (fun h => ?_) | refine sp6 (fun h => ?_) (fun h => ?_)) | with_reducible refine And.intro (fun h => ?_) (fun h => ?_) | refine And.intro (Int.natCast_nonneg _) ?_ | refine And.intro (by omega) ?_ | refine And.intro (by decide) ?_ | refine Lst.mk _ rfl ?_ | refine Or.inr (Or.inl ⟨_, _, s132 _ _, leL_refl _, rfl, rfl, ?_⟩) | refine Or.inr (Or.inl ⟨_, _, s131 _ _, leL_refl _, rfl, rfl, ?_⟩) | refine And.intro trivial ?_ | exact trivial | exact leX_refl _ | refine weak_fr ?_ ?_ rfl | refine And.intro ?_ ?_ | fail)
  all_goals exact leI rfl
open Go.Proofs Go.Sort in
theorem sortS (g : Nat) (hg : g = 127 ∨ g = 130) (xs : List Want) (h : xs.length ≤ 1000) : Spec prog 126 [.o 0, .v (.func (.func g) #[] #[])] [.row 63 2 (xs.map Want.tv)] (.t []) [.row 63 2 ((srtS xs).map Want.tv)] := by
  have hO : SWO (ltOf cfS) := by
    refine ⟨fun x => ?_, fun x y z h1 h2 => ?_, fun x y z h1 h2 => ?_⟩
    · simp only [ltOf, decide_eq_false_iff_not, cfS_lt]; omega
    · simp only [ltOf, decide_eq_true_eq, cfS_lt] at *; omega
    · simp only [ltOf, decide_eq_false_iff_not, cfS_lt] at *; omega
  have hT : ∀ x y, ltOf cfS x y = false → ltOf cfS y x = false → x = y := by
    intro x y h1 h2
    simp only [ltOf, decide_eq_false_iff_not, cfS_lt] at *
    refine leD_antisymm ?_ ?_ <;> (unfold leD; omega)
  rcases hg with rfl | rfl
  · exact sort_spec (g := 127) (cf := cfS) _ (.inl rfl) (enters_of Try.func127 (by kernel_rfl) rfl) hO hT (fun x y => s127 x y) xs (by omega)
  · exact sort_spec (g := 130) (cf := cfS) _ (.inl rfl) (enters_of Try.func130 (by kernel_rfl) rfl) hO hT (fun x y => s130 x y) xs (by omega)
end Go.Proofs.Ytjmjolefhcjedaa.Vc

namespace Go.Proofs.Ytjmjolefhcjedaa.Vc
open Go Go.RowKit Go.Proofs.Try
set_option maxRecDepth 20000

theorem s91f (p : Plan) (x : Place) (hp : p.light) (hpw : p.places.Pairwise fun a b => a.unit < b.unit) (hx : x.pieces.length ≤ 20) : Spec prog 91 [p.tv, x.tv] [] (p.put x).tv [] := by
  have hp1 := hp.1
  have hd1 := (light_drop (u := x.unit) hp).1
  have hpos : posOf (p.drop x.unit).places x.unit ≤ (p.drop x.unit).places.length := List.findIdx_le_length
  have h75 := s75 p x.unit hp hpw
  have h112 := s112 (p.drop x.unit) x.unit (light_drop hp) (pw_drop hpw)
  have h124 := s124 x.pieces hx
  have g : SpecG prog 128 34 4 ((p.drop x.unit).places.map Place.tv) [tI (posOf (p.drop x.unit).places x.unit : Nat), .s 4 [x.tv]] ((p.put x).places.map Place.tv) := by
    unfold Plan.put
    simp only [List.map_append, List.map_take, List.map_drop, List.map_cons, List.map_nil]
    exact g128 _ _ _ (by simpa using hpos) (by simp; omega)
  refine spec_s is91 mixed rfl (V_x ?_)
  repeat' (conv => whnf
           first | refine (Frz.frz ?_ : Frz 27 _ _) | refine Frz.own ?_ | refine Get.mk _ rfl ?_ | refine Get.mk _ (map_geti (by omega)) ?_ | refine Get.mk _ (map_getp (by omega) (by omega)) ?_ | refine Get.mk _ (map_get (by omega)) ?_ | refine Bv2.mk _ _ rfl rfl ?_ | refine Bv1.mk _ rfl ?_ | refine Wr.mk _ (wrap_i64 (by omega) (by omega)) ?_ | refine Wr.mk _ rfl ?_ | refine And.intro len_map ?_ | refine And.intro (leX_refl _) ?_ | refine And.intro rfl ?_ | refine And.intro (leO_some _) ?_ | (refine And.intro (fun h => absurd h (by decide)) (fun h => ?_); clear h) | (refine And.intro (fun h => ?_) (fun h => absurd h (by decide)); clear h) | (with_reducible first | refine sp1 (fun h => ?_) (fun h => ?_) | refine sp2 (fun h => ?_) (fun h => ?_) | refine sp3 (fun h => ?_) (fun h => ?_) | refine sp4 (fun h => ?_) (fun h => ?_) | refine sp5 (fun h => ?_) (fun h => ?_) | refine sp6 (fun h => ?_) (fun h => ?_)) | with_reducible refine And.intro (fun h => ?_) (fun h => ?_) | refine And.intro (Int.natCast_nonneg _) ?_ | refine And.intro (by omega) ?_ | refine And.intro (by decide) ?_ | refine Lst.mk _ rfl ?_ | refine Or.inl ⟨rfl, _, _, _, _, _, _, rfl, rfl, rfl, rfl, g, ?_⟩ | refine Or.inr (Or.inr ⟨[], true, _, [], h112, fun _ => ⟨rfl, Nat.le_of_ble_eq_true rfl⟩, List.nodup_nil, fun _ h => absurd h List.not_mem_nil, fun _ => ⟨rfl, fun _ h => absurd h List.not_mem_nil⟩, fun _ h => absurd h (Nat.not_lt_zero _), ?_⟩) | refine Or.inr (Or.inr ⟨[], false, _, [_], h75, fun _ => ⟨rfl, Nat.le_of_ble_eq_true rfl⟩, List.nodup_nil, fun _ h => absurd h List.not_mem_nil, fun h => Bool.noConfusion h, one_none rfl, ?_⟩) | refine Or.inr (Or.inl ⟨_, _, h124, leL_refl _, rfl, rfl, ?_⟩) | refine And.intro trivial ?_ | exact trivial | exact leX_refl _ | refine weak_fr ?_ ?_ rfl | refine And.intro ?_ ?_ | fail)
  all_goals first
    | exact leX_refl _
    | exact leT rfl
    | trace_state
theorem s133 (p : Plan) (w : Want) (c : Int) (hp : p.light) (hpw : p.places.Pairwise fun a b => a.unit < b.unit) : Spec prog 133 [p.tv, w.tv, tI c] [] (p.put ⟨w.unit, w.share, c, []⟩).tv [] := by
  have h91 := nilP (s91f p ⟨w.unit, w.share, c, []⟩ hp hpw (by simp))
  refine spec_s is133 mixed rfl (V_x ?_)
  repeat' (conv => whnf
           first | refine Frz.own ?_ | refine Get.mk _ rfl ?_ | refine Get.mk _ (map_geti (by omega)) ?_ | refine Get.mk _ (map_getp (by omega) (by omega)) ?_ | refine Get.mk _ (map_get (by omega)) ?_ | refine Bv2.mk _ _ rfl rfl ?_ | refine Bv1.mk _ rfl ?_ | refine Wr.mk _ (wrap_i64 (by omega) (by omega)) ?_ | refine Wr.mk _ rfl ?_ | refine And.intro len_map ?_ | refine And.intro (leX_refl _) ?_ | refine And.intro rfl ?_ | refine And.intro (leO_some _) ?_ | (refine And.intro (fun h => absurd h (by decide)) (fun h => ?_); clear h) | (refine And.intro (fun h => ?_) (fun h => absurd h (by decide)); clear h) | (with_reducible first | refine sp1 (fun h => ?_) (fun h => ?_) | refine sp2 (fun h => ?_) (fun h => ?_) | refine sp3 (fun h => ?_) (fun h => ?_) | refine sp4 (fun h => ?_) (fun h => ?_) | refine sp5 (fun h => ?_) (fun h => ?_) | refine sp6 (fun h => ?_) (fun h => ?_)) | with_reducible refine And.intro (fun h => ?_) (fun h => ?_) | refine And.intro (Int.natCast_nonneg _) ?_ | refine And.intro (by omega) ?_ | refine And.intro (by decide) ?_ | refine Lst.mk _ rfl ?_ | refine Or.inr (Or.inl ⟨_, _, h91, leL_refl _, rfl, rfl, ?_⟩) | refine And.intro trivial ?_ | exact trivial | exact leX_refl _ | refine weak_fr ?_ ?_ rfl | refine And.intro ?_ ?_ | fail)
  all_goals first
    | exact leX_refl _
    | exact leT rfl
    | trace_state
def splitsTo (p : Plan) (i : Nat) : List Want := ((p.places.take i).filter Place.split).map Place.want
theorem splitsTo_succ {p : Plan} {i : Nat} (hi : i < p.places.length) : splitsTo p (i + 1) = splitsTo p i ++ if p.places[i].split = true then [p.places[i].want] else [] := by
  unfold splitsTo
  rw [List.take_succ_eq_append_getElem hi, List.filter_append, List.map_append, List.filter_cons, List.filter_nil]
  split <;> rfl
theorem splitsTo_le (p : Plan) (i : Nat) : (splitsTo p i).length ≤ i := by
  unfold splitsTo
  rw [List.length_map]
  exact Nat.le_trans (List.length_filter_le _ _) (by rw [List.length_take]; omega)
theorem s95 (p : Plan) (hp : p.light) : Spec prog 95 [p.tv] [] (.s 2 ((srtS p.splitsW).map Want.tv)) [] := by
  have hp1 := hp.1
  have hl : (p.places.map Place.tv).length = p.places.length := List.length_map _
  have he : p.splitsW = splitsTo p p.places.length := by unfold splitsTo Plan.splitsW; rw [List.take_length]
  have hle := splitsTo_le p p.places.length
  rw [he]
  have hso := sortS 130 (.inr rfl) (splitsTo p p.places.length) (by omega)
  refine spec_s is95 mixed rfl (V_x ?_)
  repeat' (conv => whnf
           first | refine Frz.own ?_ | refine Get.mk _ rfl ?_ | refine Get.mk _ (map_geti (by omega)) ?_ | refine Get.mk _ (map_getp (by omega) (by omega)) ?_ | refine Get.mk _ (map_get (by omega)) ?_ | refine Bv2.mk _ _ rfl rfl ?_ | refine Bv1.mk _ rfl ?_ | refine Wr.mk _ (wrap_i64 (by omega) (by omega)) ?_ | refine Wr.mk _ rfl ?_ | refine And.intro len_map ?_ | refine And.intro (leX_refl _) ?_ | refine And.intro rfl ?_ | refine And.intro (leO_some _) ?_ | (refine And.intro (fun h => absurd h (by decide)) (fun h => ?_); clear h) | (refine And.intro (fun h => ?_) (fun h => absurd h (by decide)); clear h) | (with_reducible first | refine sp1 (fun h => ?_) (fun h => ?_) | refine sp2 (fun h => ?_) (fun h => ?_) | refine sp3 (fun h => ?_) (fun h => ?_) | refine sp4 (fun h => ?_) (fun h => ?_) | refine sp5 (fun h => ?_) (fun h => ?_) | refine sp6 (fun h => ?_) (fun h => ?_)) | with_reducible refine And.intro (fun h => ?_) (fun h => ?_) | refine And.intro (Int.natCast_nonneg _) ?_ | refine And.intro (by omega) ?_ | refine And.intro (by decide) ?_ | refine Lst.mk _ rfl ?_ | refine And.intro trivial ?_ | exact trivial | exact leX_refl _ | refine weak_fr ?_ ?_ rfl | refine And.intro ?_ ?_ | fail)
  refine V_up p.places.length (fun _ => True) (fun i => ([(3, .o 400), (7, .s 4 (p.places.map Place.tv)), (8, tI (p.places.length : Nat)), (9, tI (i : Nat))], [(400, .row 63 2 ((splitsTo p i).map Want.tv))])) trivial ?_ ?_
  · refine Weak.trans (weak_ghost 3 400 63 2 rfl rfl rfl) ?_
    repeat' (conv => whnf
             first | refine Frz.own ?_ | refine Get.mk _ rfl ?_ | refine Get.mk _ (map_geti (by omega)) ?_ | refine Get.mk _ (map_getp (by omega) (by omega)) ?_ | refine Get.mk _ (map_get (by omega)) ?_ | refine Bv2.mk _ _ rfl rfl ?_ | refine Bv1.mk _ rfl ?_ | refine Wr.mk _ (wrap_i64 (by omega) (by omega)) ?_ | refine Wr.mk _ rfl ?_ | refine And.intro len_map ?_ | refine And.intro (leX_refl _) ?_ | refine And.intro rfl ?_ | refine And.intro (leO_some _) ?_ | (refine And.intro (fun h => absurd h (by decide)) (fun h => ?_); clear h) | (refine And.intro (fun h => ?_) (fun h => absurd h (by decide)); clear h) | (with_reducible first | refine sp1 (fun h => ?_) (fun h => ?_) | refine sp2 (fun h => ?_) (fun h => ?_) | refine sp3 (fun h => ?_) (fun h => ?_) | refine sp4 (fun h => ?_) (fun h => ?_) | refine sp5 (fun h => ?_) (fun h => ?_) | refine sp6 (fun h => ?_) (fun h => ?_)) | with_reducible refine And.intro (fun h => ?_) (fun h => ?_) | refine And.intro (Int.natCast_nonneg _) ?_ | refine And.intro (by omega) ?_ | refine And.intro (by decide) ?_ | refine Lst.mk _ rfl ?_ | refine And.intro trivial ?_ | exact trivial | exact leX_refl _ | refine weak_fr ?_ ?_ rfl | refine And.intro ?_ ?_ | fail)
  rintro i hi -
  refine V_x ?_
  rcases Nat.lt_or_ge i p.places.length with hlt | hge
  · have hli := splitsTo_le p i
    have hlm : ((splitsTo p i).map Want.tv).length = (splitsTo p i).length := List.length_map _
    have hlp : ((p.places[i].pieces).map Piece.tv).length = p.places[i].pieces.length := List.length_map _
    have hsu := splitsTo_succ hlt
    cases hs : p.places[i].split with
    | true =>
      have hpos := Place.split_iff.1 hs
      rw [hs, if_pos rfl] at hsu
      repeat' (conv => whnf
               first | refine (Frz.frz ?_ : Frz 23 _ _) | refine Frz.own ?_ | refine Get.mk _ rfl ?_ | refine Get.mk _ (map_geti (by omega)) ?_ | refine Get.mk _ (map_getp (by omega) (by omega)) ?_ | refine Get.mk _ (map_get (by omega)) ?_ | refine Bv2.mk _ _ rfl rfl ?_ | refine Bv1.mk _ rfl ?_ | refine Wr.mk _ (wrap_i64 (by omega) (by omega)) ?_ | refine Wr.mk _ rfl ?_ | refine And.intro len_map ?_ | refine And.intro (leX_refl _) ?_ | refine And.intro rfl ?_ | refine And.intro (leO_some _) ?_ | (refine And.intro (fun h => absurd h (by decide)) (fun h => ?_); clear h) | (refine And.intro (fun h => ?_) (fun h => absurd h (by decide)); clear h) | (with_reducible first | refine sp1 (fun h => ?_) (fun h => ?_) | refine sp2 (fun h => ?_) (fun h => ?_) | refine sp3 (fun h => ?_) (fun h => ?_) | refine sp4 (fun h => ?_) (fun h => ?_) | refine sp5 (fun h => ?_) (fun h => ?_) | refine sp6 (fun h => ?_) (fun h => ?_)) | with_reducible refine And.intro (fun h => ?_) (fun h => ?_) | refine And.intro (Int.natCast_nonneg _) ?_ | refine And.intro (by omega) ?_ | refine And.intro (by decide) ?_ | refine Lst.mk _ rfl ?_ | refine And.intro trivial ?_ | exact trivial | exact leX_refl _ | refine weak_fr ?_ ?_ rfl | refine And.intro ?_ ?_ | fail)
      all_goals first
        | (exfalso; omega)
        | (simp only [List.length_map, List.length_cons, List.length_nil]; omega)
        | (refine rowO ?_; rw [hsu, List.map_append]; rfl)
        | trace_state
    | false =>
      have hpos : ¬ 0 < p.places[i].pieces.length := fun h => by have := Place.split_iff.2 h; rw [hs] at this; cases this
      rw [hs] at hsu
      simp only [Bool.false_eq_true, if_false, List.append_nil] at hsu
      repeat' (conv => whnf
               first | refine (Frz.frz ?_ : Frz 23 _ _) | refine Frz.own ?_ | refine Get.mk _ rfl ?_ | refine Get.mk _ (map_geti (by omega)) ?_ | refine Get.mk _ (map_getp (by omega) (by omega)) ?_ | refine Get.mk _ (map_get (by omega)) ?_ | refine Bv2.mk _ _ rfl rfl ?_ | refine Bv1.mk _ rfl ?_ | refine Wr.mk _ (wrap_i64 (by omega) (by omega)) ?_ | refine Wr.mk _ rfl ?_ | refine And.intro len_map ?_ | refine And.intro (leX_refl _) ?_ | refine And.intro rfl ?_ | refine And.intro (leO_some _) ?_ | (refine And.intro (fun h => absurd h (by decide)) (fun h => ?_); clear h) | (refine And.intro (fun h => ?_) (fun h => absurd h (by decide)); clear h) | (with_reducible first | refine sp1 (fun h => ?_) (fun h => ?_) | refine sp2 (fun h => ?_) (fun h => ?_) | refine sp3 (fun h => ?_) (fun h => ?_) | refine sp4 (fun h => ?_) (fun h => ?_) | refine sp5 (fun h => ?_) (fun h => ?_) | refine sp6 (fun h => ?_) (fun h => ?_)) | with_reducible refine And.intro (fun h => ?_) (fun h => ?_) | refine And.intro (Int.natCast_nonneg _) ?_ | refine And.intro (by omega) ?_ | refine And.intro (by decide) ?_ | refine Lst.mk _ rfl ?_ | refine And.intro trivial ?_ | exact trivial | exact leX_refl _ | refine weak_fr ?_ ?_ rfl | refine And.intro ?_ ?_ | fail)
      all_goals first
        | (exfalso; omega)
        | (refine rowO ?_; rw [hsu])
        | trace_state
  · rw [show i = p.places.length by omega]
    repeat' (conv => whnf
             first | refine Frz.own ?_ | refine Get.mk _ rfl ?_ | refine Get.mk _ (map_geti (by omega)) ?_ | refine Get.mk _ (map_getp (by omega) (by omega)) ?_ | refine Get.mk _ (map_get (by omega)) ?_ | refine Bv2.mk _ _ rfl rfl ?_ | refine Bv1.mk _ rfl ?_ | refine Wr.mk _ (wrap_i64 (by omega) (by omega)) ?_ | refine Wr.mk _ rfl ?_ | refine And.intro len_map ?_ | refine And.intro (leX_refl _) ?_ | refine And.intro rfl ?_ | refine And.intro (leO_some _) ?_ | (refine And.intro (fun h => absurd h (by decide)) (fun h => ?_); clear h) | (refine And.intro (fun h => ?_) (fun h => absurd h (by decide)); clear h) | (with_reducible first | refine sp1 (fun h => ?_) (fun h => ?_) | refine sp2 (fun h => ?_) (fun h => ?_) | refine sp3 (fun h => ?_) (fun h => ?_) | refine sp4 (fun h => ?_) (fun h => ?_) | refine sp5 (fun h => ?_) (fun h => ?_) | refine sp6 (fun h => ?_) (fun h => ?_)) | with_reducible refine And.intro (fun h => ?_) (fun h => ?_) | refine And.intro (Int.natCast_nonneg _) ?_ | refine And.intro (by omega) ?_ | refine And.intro (by decide) ?_ | refine Lst.mk _ rfl ?_ | refine Or.inr (Or.inr ⟨[400], false, _, [_], hso, fun h => Bool.noConfusion h, nodup1 _, one_some rfl, fun h => Bool.noConfusion h, len_no, ?_⟩) | refine And.intro trivial ?_ | exact trivial | exact leX_refl _ | refine weak_fr ?_ ?_ rfl | refine And.intro ?_ ?_ | fail)
    all_goals first
      | (exfalso; omega)
      | exact leX_refl _
      | exact leT rfl
      | trace_state
end Go.Proofs.Ytjmjolefhcjedaa.Vc

namespace Go.Proofs.Ytjmjolefhcjedaa.Vc
open Go Go.RowKit Go.Proofs.Try
set_option maxRecDepth 20000

def mvZ : TV := .a [tI 0, tI 0, .v (.slice none 0 0)]
def Mv.tv (m : Mv) : TV := .a [tI m.unit, tI m.core, .s 1 (m.others.map fun u => tI u)]
def settleTV : Option (Plan × Mv) → List TV
  | none => [planZ, mvZ, tB false]
  | some (q, m) => [q.tv, m.tv, tB true]
def Plan.tryM (p : Plan) (b : Nat) (w : Want) : Option (Plan × Mv) := (p.tryS b w).map fun r => (r.1, ⟨w.unit, r.2.1, r.2.2⟩)
theorem s96 (p : Plan) (x : Place) (b : Nat) (hp : p.light) (hr : p.right) (hx : x ∈ p.places) (hb : b ≤ 8) : Spec prog 96 [p.tv, x.want.tv, tI b] [] (.t (settleTV (p.tryM b x.want))) [] := by
  have hok := hr.ok x hx
  have h75 := s75f p x.unit hp hr.pw
  have hqr := right_drop hr x.unit
  have hql := light_drop (u := x.unit) hp
  have hsh : 1 ≤ x.share ∧ x.share ≤ (p.drop x.unit).frame := ⟨hok.2.1, hok.2.2.1⟩
  have hT : p.tryS b x.want = match (p.drop x.unit).firstC x.share with
    | some c => some ((p.drop x.unit).put ⟨x.unit, x.share, c, []⟩, c, [])
    | none => ((p.drop x.unit).roomM x.share b).map fun r => (r.1.put ⟨x.unit, x.share, r.2.1, []⟩, r.2.1, r.2.2) := rfl
  unfold Plan.tryM
  rw [hT]
  generalize p.drop x.unit = q at *
  have h49 := s49 q x.share hql
  rw [show q.firstF x.share = q.firstC x.share from if_pos ⟨hqr, hsh.1⟩] at h49
  refine spec_s is96 mixed rfl (V_x ?_)
  cases hf : q.firstC x.share with
  | some c =>
    rw [hf] at h49
    simp only [Option.getD_some, Option.isSome_some] at h49
    have h133 := s133 q x.want c hql hqr.pw
    repeat' (conv => whnf
             first | refine Frz.own ?_ | refine Get.mk _ rfl ?_ | refine Get.mk _ (map_geti (by omega)) ?_ | refine Get.mk _ (map_getp (by omega) (by omega)) ?_ | refine Get.mk _ (map_get (by omega)) ?_ | refine Bv2.mk _ _ rfl rfl ?_ | refine Bv1.mk _ rfl ?_ | refine Wr.mk _ (wrap_i64 (by omega) (by omega)) ?_ | refine Wr.mk _ rfl ?_ | refine And.intro len_map ?_ | refine And.intro (leX_refl _) ?_ | refine And.intro rfl ?_ | refine And.intro (leO_some _) ?_ | (refine And.intro (fun h => absurd h (by decide)) (fun h => ?_); clear h) | (refine And.intro (fun h => ?_) (fun h => absurd h (by decide)); clear h) | (with_reducible first | refine sp1 (fun h => ?_) (fun h => ?_) | refine sp2 (fun h => ?_) (fun h => ?_) | refine sp3 (fun h => ?_) (fun h => ?_) | refine sp4 (fun h => ?_) (fun h => ?_) | refine sp5 (fun h => ?_) (fun h => ?_) | refine sp6 (fun h => ?_) (fun h => ?_)) | with_reducible refine And.intro (fun h => ?_) (fun h => ?_) | refine And.intro (Int.natCast_nonneg _) ?_ | refine And.intro (by omega) ?_ | refine And.intro (by decide) ?_ | refine Lst.mk _ rfl ?_ | refine Or.inr (Or.inl ⟨_, _, h75, leL_refl _, rfl, rfl, ?_⟩) | refine Or.inr (Or.inl ⟨_, _, h49, leL_refl _, rfl, rfl, ?_⟩) | refine Or.inr (Or.inl ⟨_, _, h133, leL_refl _, rfl, rfl, ?_⟩) | refine And.intro trivial ?_ | exact trivial | exact leX_refl _ | refine weak_fr ?_ ?_ rfl | refine And.intro ?_ ?_ | fail)
    all_goals first
      | exact rfl
      | exact leX_refl _
      | exact leT rfl
      | trace_state
  | none =>
    rw [hf] at h49
    simp only [Option.getD_none, Option.isSome_none] at h49
    have hw : whyM q x.share b = 0 := by
      unfold whyM
      rw [if_pos hqr, if_neg (by omega), if_neg (by omega)]
    have h29 := s29_ok q x.share b hql hw
    cases hR : q.roomM x.share b with
    | none =>
      rw [hR] at h29
      unfold roomTV at h29
      repeat' (conv => whnf
               first | refine Frz.own ?_ | refine Get.mk _ rfl ?_ | refine Get.mk _ (map_geti (by omega)) ?_ | refine Get.mk _ (map_getp (by omega) (by omega)) ?_ | refine Get.mk _ (map_get (by omega)) ?_ | refine Bv2.mk _ _ rfl rfl ?_ | refine Bv1.mk _ rfl ?_ | refine Wr.mk _ (wrap_i64 (by omega) (by omega)) ?_ | refine Wr.mk _ rfl ?_ | refine And.intro len_map ?_ | refine And.intro (leX_refl _) ?_ | refine And.intro rfl ?_ | refine And.intro (leO_some _) ?_ | (refine And.intro (fun h => absurd h (by decide)) (fun h => ?_); clear h) | (refine And.intro (fun h => ?_) (fun h => absurd h (by decide)); clear h) | (with_reducible first | refine sp1 (fun h => ?_) (fun h => ?_) | refine sp2 (fun h => ?_) (fun h => ?_) | refine sp3 (fun h => ?_) (fun h => ?_) | refine sp4 (fun h => ?_) (fun h => ?_) | refine sp5 (fun h => ?_) (fun h => ?_) | refine sp6 (fun h => ?_) (fun h => ?_)) | with_reducible refine And.intro (fun h => ?_) (fun h => ?_) | refine And.intro (Int.natCast_nonneg _) ?_ | refine And.intro (by omega) ?_ | refine And.intro (by decide) ?_ | refine Lst.mk _ rfl ?_ | refine Or.inr (Or.inl ⟨_, _, h75, leL_refl _, rfl, rfl, ?_⟩) | refine Or.inr (Or.inl ⟨_, _, h49, leL_refl _, rfl, rfl, ?_⟩) | refine Or.inr (Or.inl ⟨_, _, h29, leL_refl _, rfl, rfl, ?_⟩) | refine And.intro trivial ?_ | exact trivial | exact leX_refl _ | refine weak_fr ?_ ?_ rfl | refine And.intro ?_ ?_ | fail)
      all_goals first
        | exact leX_refl _
        | exact leT rfl
        | trace_state
    | some r =>
      obtain ⟨r, c, m⟩ := r
      obtain ⟨hc, hM, _, _⟩ := roomM_some hqr hR
      have h133 := s133 r x.want c (hM.light hql) hM.right.pw
      rw [hR] at h29
      unfold roomTV at h29
      repeat' (conv => whnf
               first | refine Frz.own ?_ | refine Get.mk _ rfl ?_ | refine Get.mk _ (map_geti (by omega)) ?_ | refine Get.mk _ (map_getp (by omega) (by omega)) ?_ | refine Get.mk _ (map_get (by omega)) ?_ | refine Bv2.mk _ _ rfl rfl ?_ | refine Bv1.mk _ rfl ?_ | refine Wr.mk _ (wrap_i64 (by omega) (by omega)) ?_ | refine Wr.mk _ rfl ?_ | refine And.intro len_map ?_ | refine And.intro (leX_refl _) ?_ | refine And.intro rfl ?_ | refine And.intro (leO_some _) ?_ | (refine And.intro (fun h => absurd h (by decide)) (fun h => ?_); clear h) | (refine And.intro (fun h => ?_) (fun h => absurd h (by decide)); clear h) | (with_reducible first | refine sp1 (fun h => ?_) (fun h => ?_) | refine sp2 (fun h => ?_) (fun h => ?_) | refine sp3 (fun h => ?_) (fun h => ?_) | refine sp4 (fun h => ?_) (fun h => ?_) | refine sp5 (fun h => ?_) (fun h => ?_) | refine sp6 (fun h => ?_) (fun h => ?_)) | with_reducible refine And.intro (fun h => ?_) (fun h => ?_) | refine And.intro (Int.natCast_nonneg _) ?_ | refine And.intro (by omega) ?_ | refine And.intro (by decide) ?_ | refine Lst.mk _ rfl ?_ | refine Or.inr (Or.inl ⟨_, _, h75, leL_refl _, rfl, rfl, ?_⟩) | refine Or.inr (Or.inl ⟨_, _, h49, leL_refl _, rfl, rfl, ?_⟩) | refine Or.inr (Or.inl ⟨_, _, h29, leL_refl _, rfl, rfl, ?_⟩) | refine Or.inr (Or.inl ⟨_, _, h133, leL_refl _, rfl, rfl, ?_⟩) | refine And.intro trivial ?_ | exact trivial | exact leX_refl _ | refine weak_fr ?_ ?_ rfl | refine And.intro ?_ ?_ | fail)
      all_goals first
        | exact leX_refl _
        | exact leT rfl
        | trace_state
open Classical in
noncomputable def Plan.settleF (p : Plan) (b : Int) : Option (Plan × Mv) := if p.right ∧ 0 ≤ b ∧ b ≤ 8 then p.settle b.toNat else none
theorem s52 (p : Plan) (b : Int) (hp : p.light) : Spec prog 52 [p.tv, tI b] [] (.t (settleTV (p.settleF b))) [] := by
  have h86 := s86 p hp
  have h94 := s94 b
  by_cases hc : ¬ (p.right ∧ 0 ≤ b ∧ b ≤ 8)
  · have e : p.settleF b = none := if_neg hc
    rw [e]
    refine spec_s is52 mixed rfl (V_x ?_)
    by_cases hr : p.right
    · rw [err_ok hr] at h86
      rw [decide_eq_false fun h => hc ⟨hr, h⟩] at h94
      repeat' (conv => whnf
               first | refine Frz.own ?_ | refine Get.mk _ rfl ?_ | refine Get.mk _ (map_geti (by omega)) ?_ | refine Get.mk _ (map_getp (by omega) (by omega)) ?_ | refine Get.mk _ (map_get (by omega)) ?_ | refine Bv2.mk _ _ rfl rfl ?_ | refine Bv1.mk _ rfl ?_ | refine Wr.mk _ (wrap_i64 (by omega) (by omega)) ?_ | refine Wr.mk _ rfl ?_ | refine And.intro len_map ?_ | refine And.intro (leX_refl _) ?_ | refine And.intro rfl ?_ | refine And.intro (leO_some _) ?_ | (refine And.intro (fun h => absurd h (by decide)) (fun h => ?_); clear h) | (refine And.intro (fun h => ?_) (fun h => absurd h (by decide)); clear h) | (with_reducible first | refine sp1 (fun h => ?_) (fun h => ?_) | refine sp2 (fun h => ?_) (fun h => ?_) | refine sp3 (fun h => ?_) (fun h => ?_) | refine sp4 (fun h => ?_) (fun h => ?_) | refine sp5 (fun h => ?_) (fun h => ?_) | refine sp6 (fun h => ?_) (fun h => ?_)) | with_reducible refine And.intro (fun h => ?_) (fun h => ?_) | refine And.intro (Int.natCast_nonneg _) ?_ | refine And.intro (by omega) ?_ | refine And.intro (by decide) ?_ | refine Lst.mk _ rfl ?_ | refine Or.inr (Or.inl ⟨_, _, h86, leL_refl _, rfl, rfl, ?_⟩) | refine Or.inr (Or.inl ⟨_, _, h94, leL_refl _, rfl, rfl, ?_⟩) | refine And.intro trivial ?_ | exact trivial | exact leX_refl _ | refine weak_fr ?_ ?_ rfl | refine And.intro ?_ ?_ | fail)
      all_goals first
        | contradiction
        | exact leX_refl _
        | exact leT rfl
        | trace_state
    · rw [err_no hr] at h86
      repeat' (conv => whnf
               first | refine Frz.own ?_ | refine Get.mk _ rfl ?_ | refine Get.mk _ (map_geti (by omega)) ?_ | refine Get.mk _ (map_getp (by omega) (by omega)) ?_ | refine Get.mk _ (map_get (by omega)) ?_ | refine Bv2.mk _ _ rfl rfl ?_ | refine Bv1.mk _ rfl ?_ | refine Wr.mk _ (wrap_i64 (by omega) (by omega)) ?_ | refine Wr.mk _ rfl ?_ | refine And.intro len_map ?_ | refine And.intro (leX_refl _) ?_ | refine And.intro rfl ?_ | refine And.intro (leO_some _) ?_ | (refine And.intro (fun h => absurd h (by decide)) (fun h => ?_); clear h) | (refine And.intro (fun h => ?_) (fun h => absurd h (by decide)); clear h) | (with_reducible first | refine sp1 (fun h => ?_) (fun h => ?_) | refine sp2 (fun h => ?_) (fun h => ?_) | refine sp3 (fun h => ?_) (fun h => ?_) | refine sp4 (fun h => ?_) (fun h => ?_) | refine sp5 (fun h => ?_) (fun h => ?_) | refine sp6 (fun h => ?_) (fun h => ?_)) | with_reducible refine And.intro (fun h => ?_) (fun h => ?_) | refine And.intro (Int.natCast_nonneg _) ?_ | refine And.intro (by omega) ?_ | refine And.intro (by decide) ?_ | refine Lst.mk _ rfl ?_ | refine Or.inr (Or.inl ⟨_, _, h86, leL_refl _, rfl, rfl, ?_⟩) | refine Or.inr (Or.inl ⟨_, _, h94, leL_refl _, rfl, rfl, ?_⟩) | refine And.intro trivial ?_ | exact trivial | exact leX_refl _ | refine weak_fr ?_ ?_ rfl | refine And.intro ?_ ?_ | fail)
      all_goals first
        | contradiction
        | exact leX_refl _
        | exact leT rfl
        | trace_state
  have hc := Classical.not_not.1 hc
  obtain ⟨hr, h0, h8⟩ := hc
  have e : p.settleF b = p.settle b.toNat := if_pos ⟨hr, h0, h8⟩
  rw [e]
  obtain ⟨b, rfl⟩ := nat_of h0
  rw [err_ok hr] at h86
  rw [decide_eq_true ⟨h0, h8⟩] at h94
  have hsp := fun w => splitsW_mem (p := p) (w := w)
  have hlen : (srtS p.splitsW).length ≤ 60 := by
    rw [(srtS_perm _).length_eq]
    unfold Plan.splitsW
    rw [List.length_map]
    exact Nat.le_trans (List.length_filter_le _ _) hp.1
  have hS : p.settle ((b : Int)).toNat = (srtS p.splitsW).findSome? (p.tryM b) := rfl
  rw [hS]
  have h95 := s95 p hp
  generalize srtS p.splitsW = S at *
  have hl : (S.map Want.tv).length = S.length := List.length_map _
  refine spec_s is52 mixed rfl (V_x ?_)
  repeat' (conv => whnf
           first | refine Frz.own ?_ | refine Get.mk _ rfl ?_ | refine Get.mk _ (map_geti (by omega)) ?_ | refine Get.mk _ (map_getp (by omega) (by omega)) ?_ | refine Get.mk _ (map_get (by omega)) ?_ | refine Bv2.mk _ _ rfl rfl ?_ | refine Bv1.mk _ rfl ?_ | refine Wr.mk _ (wrap_i64 (by omega) (by omega)) ?_ | refine Wr.mk _ rfl ?_ | refine And.intro len_map ?_ | refine And.intro (leX_refl _) ?_ | refine And.intro rfl ?_ | refine And.intro (leO_some _) ?_ | (refine And.intro (fun h => absurd h (by decide)) (fun h => ?_); clear h) | (refine And.intro (fun h => ?_) (fun h => absurd h (by decide)); clear h) | (with_reducible first | refine sp1 (fun h => ?_) (fun h => ?_) | refine sp2 (fun h => ?_) (fun h => ?_) | refine sp3 (fun h => ?_) (fun h => ?_) | refine sp4 (fun h => ?_) (fun h => ?_) | refine sp5 (fun h => ?_) (fun h => ?_) | refine sp6 (fun h => ?_) (fun h => ?_)) | with_reducible refine And.intro (fun h => ?_) (fun h => ?_) | refine And.intro (Int.natCast_nonneg _) ?_ | refine And.intro (by omega) ?_ | refine And.intro (by decide) ?_ | refine Lst.mk _ rfl ?_ | refine Or.inr (Or.inl ⟨_, _, h86, leL_refl _, rfl, rfl, ?_⟩) | refine Or.inr (Or.inl ⟨_, _, h94, leL_refl _, rfl, rfl, ?_⟩) | refine Or.inr (Or.inl ⟨_, _, h95, leL_refl _, rfl, rfl, ?_⟩) | refine And.intro trivial ?_ | exact trivial | exact leX_refl _ | refine weak_fr ?_ ?_ rfl | refine And.intro ?_ ?_ | fail)
  refine V_up S.length (fun i => Fct (∀ w ∈ S.take i, p.tryM b w = none)) (fun i => ([(1, tI b), (2, .p 48 0 0), (4, .p 80 0 0), (5, .p 96 0 0), (23, .s 2 (S.map Want.tv)), (24, tI (S.length : Nat)), (25, tI (i : Nat))], [(48, .var 25 p.tv), (80, .var 25 planZ), (96, .var 75 mvZ)])) ⟨by simp⟩ ?_ ?_
  · repeat' (conv => whnf
             first | refine Frz.own ?_ | refine Get.mk _ rfl ?_ | refine Get.mk _ (map_geti (by omega)) ?_ | refine Get.mk _ (map_getp (by omega) (by omega)) ?_ | refine Get.mk _ (map_get (by omega)) ?_ | refine Bv2.mk _ _ rfl rfl ?_ | refine Bv1.mk _ rfl ?_ | refine Wr.mk _ (wrap_i64 (by omega) (by omega)) ?_ | refine Wr.mk _ rfl ?_ | refine And.intro len_map ?_ | refine And.intro (leX_refl _) ?_ | refine And.intro rfl ?_ | refine And.intro (leO_some _) ?_ | (refine And.intro (fun h => absurd h (by decide)) (fun h => ?_); clear h) | (refine And.intro (fun h => ?_) (fun h => absurd h (by decide)); clear h) | (with_reducible first | refine sp1 (fun h => ?_) (fun h => ?_) | refine sp2 (fun h => ?_) (fun h => ?_) | refine sp3 (fun h => ?_) (fun h => ?_) | refine sp4 (fun h => ?_) (fun h => ?_) | refine sp5 (fun h => ?_) (fun h => ?_) | refine sp6 (fun h => ?_) (fun h => ?_)) | with_reducible refine And.intro (fun h => ?_) (fun h => ?_) | refine And.intro (Int.natCast_nonneg _) ?_ | refine And.intro (by omega) ?_ | refine And.intro (by decide) ?_ | refine Lst.mk _ rfl ?_ | refine And.intro trivial ?_ | exact trivial | exact leX_refl _ | refine weak_fr ?_ ?_ rfl | refine And.intro ?_ ?_ | fail)
  rintro i hi ⟨hI⟩
  refine V_x ?_
  rcases Nat.lt_or_ge i S.length with hlt | hge
  · have hms := mem_snoc hlt (P := fun w => p.tryM b w = none)
    obtain ⟨x, hx, _, hxw⟩ := (hsp _).1 (List.getElem_mem hlt)
    have h96 := s96 p x b hp hr hx (by omega)
    rw [hxw] at h96
    cases hT : p.tryM b S[i] with
    | none =>
      rw [hT] at h96
      simp only [settleTV] at h96
      repeat' (conv => whnf
               first | refine Frz.own ?_ | refine Get.mk _ rfl ?_ | refine Get.mk _ (map_geti (by omega)) ?_ | refine Get.mk _ (map_getp (by omega) (by omega)) ?_ | refine Get.mk _ (map_get (by omega)) ?_ | refine Bv2.mk _ _ rfl rfl ?_ | refine Bv1.mk _ rfl ?_ | refine Wr.mk _ (wrap_i64 (by omega) (by omega)) ?_ | refine Wr.mk _ rfl ?_ | refine And.intro len_map ?_ | refine And.intro (leX_refl _) ?_ | refine And.intro rfl ?_ | refine And.intro (leO_some _) ?_ | (refine And.intro (fun h => absurd h (by decide)) (fun h => ?_); clear h) | (refine And.intro (fun h => ?_) (fun h => absurd h (by decide)); clear h) | (with_reducible first | refine sp1 (fun h => ?_) (fun h => ?_) | refine sp2 (fun h => ?_) (fun h => ?_) | refine sp3 (fun h => ?_) (fun h => ?_) | refine sp4 (fun h => ?_) (fun h => ?_) | refine sp5 (fun h => ?_) (fun h => ?_) | refine sp6 (fun h => ?_) (fun h => ?_)) | with_reducible refine And.intro (fun h => ?_) (fun h => ?_) | refine And.intro (Int.natCast_nonneg _) ?_ | refine And.intro (by omega) ?_ | refine And.intro (by decide) ?_ | refine Lst.mk _ rfl ?_ | refine Or.inr (Or.inl ⟨_, _, h96, leL_refl _, rfl, rfl, ?_⟩) | refine And.intro trivial ?_ | exact trivial | exact leX_refl _ | refine weak_fr ?_ ?_ rfl | refine And.intro ?_ ?_ | fail)
      all_goals first
        | (exfalso; omega)
        | exact Fct.mk (hms.2 ⟨hI, hT⟩)
        | trace_state
    | some r =>
      obtain ⟨q, m⟩ := r
      rw [hT] at h96
      rw [findSome_first hlt hI hT]
      simp only [settleTV] at h96
      repeat' (conv => whnf
               first | refine Frz.own ?_ | refine Get.mk _ rfl ?_ | refine Get.mk _ (map_geti (by omega)) ?_ | refine Get.mk _ (map_getp (by omega) (by omega)) ?_ | refine Get.mk _ (map_get (by omega)) ?_ | refine Bv2.mk _ _ rfl rfl ?_ | refine Bv1.mk _ rfl ?_ | refine Wr.mk _ (wrap_i64 (by omega) (by omega)) ?_ | refine Wr.mk _ rfl ?_ | refine And.intro len_map ?_ | refine And.intro (leX_refl _) ?_ | refine And.intro rfl ?_ | refine And.intro (leO_some _) ?_ | (refine And.intro (fun h => absurd h (by decide)) (fun h => ?_); clear h) | (refine And.intro (fun h => ?_) (fun h => absurd h (by decide)); clear h) | (with_reducible first | refine sp1 (fun h => ?_) (fun h => ?_) | refine sp2 (fun h => ?_) (fun h => ?_) | refine sp3 (fun h => ?_) (fun h => ?_) | refine sp4 (fun h => ?_) (fun h => ?_) | refine sp5 (fun h => ?_) (fun h => ?_) | refine sp6 (fun h => ?_) (fun h => ?_)) | with_reducible refine And.intro (fun h => ?_) (fun h => ?_) | refine And.intro (Int.natCast_nonneg _) ?_ | refine And.intro (by omega) ?_ | refine And.intro (by decide) ?_ | refine Lst.mk _ rfl ?_ | refine Or.inr (Or.inl ⟨_, _, h96, leL_refl _, rfl, rfl, ?_⟩) | refine And.intro trivial ?_ | exact trivial | exact leX_refl _ | refine weak_fr ?_ ?_ rfl | refine And.intro ?_ ?_ | fail)
      all_goals first
        | (exfalso; omega)
        | exact leX_refl _
        | exact leT rfl
        | trace_state
  · have hF : S.findSome? (p.tryM b) = none := by
      rw [List.take_of_length_le hge] at hI
      exact List.findSome?_eq_none_iff.2 hI
    rw [hF]
    repeat' (conv => whnf
             first | refine Frz.own ?_ | refine Get.mk _ rfl ?_ | refine Get.mk _ (map_geti (by omega)) ?_ | refine Get.mk _ (map_getp (by omega) (by omega)) ?_ | refine Get.mk _ (map_get (by omega)) ?_ | refine Bv2.mk _ _ rfl rfl ?_ | refine Bv1.mk _ rfl ?_ | refine Wr.mk _ (wrap_i64 (by omega) (by omega)) ?_ | refine Wr.mk _ rfl ?_ | refine And.intro len_map ?_ | refine And.intro (leX_refl _) ?_ | refine And.intro rfl ?_ | refine And.intro (leO_some _) ?_ | (refine And.intro (fun h => absurd h (by decide)) (fun h => ?_); clear h) | (refine And.intro (fun h => ?_) (fun h => absurd h (by decide)); clear h) | (with_reducible first | refine sp1 (fun h => ?_) (fun h => ?_) | refine sp2 (fun h => ?_) (fun h => ?_) | refine sp3 (fun h => ?_) (fun h => ?_) | refine sp4 (fun h => ?_) (fun h => ?_) | refine sp5 (fun h => ?_) (fun h => ?_) | refine sp6 (fun h => ?_) (fun h => ?_)) | with_reducible refine And.intro (fun h => ?_) (fun h => ?_) | refine And.intro (Int.natCast_nonneg _) ?_ | refine And.intro (by omega) ?_ | refine And.intro (by decide) ?_ | refine Lst.mk _ rfl ?_ | refine And.intro trivial ?_ | exact trivial | exact leX_refl _ | refine weak_fr ?_ ?_ rfl | refine And.intro ?_ ?_ | fail)
    all_goals first
      | (exfalso; omega)
      | exact leX_refl _
      | exact leT rfl
      | trace_state
open Classical in
noncomputable def Plan.stillF (p : Plan) (b : Int) : Bool := decide (p.right ∧ 0 ≤ b ∧ b ≤ 8) && (p.settleF b).isNone
open Classical in
theorem s54 (p : Plan) (b : Int) (hp : p.light) : Spec prog 54 [p.tv, tI b] [] (tB (p.stillF b)) [] := by
  have h86 := s86 p hp
  have h94 := s94 b
  have h52 := s52 p b hp
  by_cases hc : ¬ (p.right ∧ 0 ≤ b ∧ b ≤ 8)
  · have e : p.stillF b = false := by unfold Plan.stillF; rw [decide_eq_false hc]; rfl
    rw [e]
    refine spec_s is54 mixed rfl (V_x ?_)
    by_cases hr : p.right
    · rw [err_ok hr] at h86
      rw [decide_eq_false fun h => hc ⟨hr, h⟩] at h94
      repeat' (conv => whnf
               first | refine Frz.own ?_ | refine Get.mk _ rfl ?_ | refine Get.mk _ (map_geti (by omega)) ?_ | refine Get.mk _ (map_getp (by omega) (by omega)) ?_ | refine Get.mk _ (map_get (by omega)) ?_ | refine Bv2.mk _ _ rfl rfl ?_ | refine Bv1.mk _ rfl ?_ | refine Wr.mk _ (wrap_i64 (by omega) (by omega)) ?_ | refine Wr.mk _ rfl ?_ | refine And.intro len_map ?_ | refine And.intro (leX_refl _) ?_ | refine And.intro rfl ?_ | refine And.intro (leO_some _) ?_ | (refine And.intro (fun h => absurd h (by decide)) (fun h => ?_); clear h) | (refine And.intro (fun h => ?_) (fun h => absurd h (by decide)); clear h) | (with_reducible first | refine sp1 (fun h => ?_) (fun h => ?_) | refine sp2 (fun h => ?_) (fun h => ?_) | refine sp3 (fun h => ?_) (fun h => ?_) | refine sp4 (fun h => ?_) (fun h => ?_) | refine sp5 (fun h => ?_) (fun h => ?_) | refine sp6 (fun h => ?_) (fun h => ?_)) | with_reducible refine And.intro (fun h => ?_) (fun h => ?_) | refine And.intro (Int.natCast_nonneg _) ?_ | refine And.intro (by omega) ?_ | refine And.intro (by decide) ?_ | refine Lst.mk _ rfl ?_ | refine Or.inr (Or.inl ⟨_, _, h86, leL_refl _, rfl, rfl, ?_⟩) | refine Or.inr (Or.inl ⟨_, _, h94, leL_refl _, rfl, rfl, ?_⟩) | refine And.intro trivial ?_ | exact trivial | exact leX_refl _ | refine weak_fr ?_ ?_ rfl | refine And.intro ?_ ?_ | fail)
      all_goals first
        | contradiction
        | exact leX_refl _
        | trace_state
    · rw [err_no hr] at h86
      repeat' (conv => whnf
               first | refine Frz.own ?_ | refine Get.mk _ rfl ?_ | refine Get.mk _ (map_geti (by omega)) ?_ | refine Get.mk _ (map_getp (by omega) (by omega)) ?_ | refine Get.mk _ (map_get (by omega)) ?_ | refine Bv2.mk _ _ rfl rfl ?_ | refine Bv1.mk _ rfl ?_ | refine Wr.mk _ (wrap_i64 (by omega) (by omega)) ?_ | refine Wr.mk _ rfl ?_ | refine And.intro len_map ?_ | refine And.intro (leX_refl _) ?_ | refine And.intro rfl ?_ | refine And.intro (leO_some _) ?_ | (refine And.intro (fun h => absurd h (by decide)) (fun h => ?_); clear h) | (refine And.intro (fun h => ?_) (fun h => absurd h (by decide)); clear h) | (with_reducible first | refine sp1 (fun h => ?_) (fun h => ?_) | refine sp2 (fun h => ?_) (fun h => ?_) | refine sp3 (fun h => ?_) (fun h => ?_) | refine sp4 (fun h => ?_) (fun h => ?_) | refine sp5 (fun h => ?_) (fun h => ?_) | refine sp6 (fun h => ?_) (fun h => ?_)) | with_reducible refine And.intro (fun h => ?_) (fun h => ?_) | refine And.intro (Int.natCast_nonneg _) ?_ | refine And.intro (by omega) ?_ | refine And.intro (by decide) ?_ | refine Lst.mk _ rfl ?_ | refine Or.inr (Or.inl ⟨_, _, h86, leL_refl _, rfl, rfl, ?_⟩) | refine Or.inr (Or.inl ⟨_, _, h94, leL_refl _, rfl, rfl, ?_⟩) | refine And.intro trivial ?_ | exact trivial | exact leX_refl _ | refine weak_fr ?_ ?_ rfl | refine And.intro ?_ ?_ | fail)
      all_goals first
        | contradiction
        | exact leX_refl _
        | trace_state
  have hc := Classical.not_not.1 hc
  have e : p.stillF b = (p.settleF b).isNone := by unfold Plan.stillF; rw [decide_eq_true hc]; rfl
  rw [e]
  rw [err_ok hc.1] at h86
  rw [decide_eq_true hc.2] at h94
  refine spec_s is54 mixed rfl (V_x ?_)
  cases hS : p.settleF b with
  | none =>
    rw [hS] at h52
    simp only [settleTV] at h52
    repeat' (conv => whnf
             first | refine Frz.own ?_ | refine Get.mk _ rfl ?_ | refine Get.mk _ (map_geti (by omega)) ?_ | refine Get.mk _ (map_getp (by omega) (by omega)) ?_ | refine Get.mk _ (map_get (by omega)) ?_ | refine Bv2.mk _ _ rfl rfl ?_ | refine Bv1.mk _ rfl ?_ | refine Wr.mk _ (wrap_i64 (by omega) (by omega)) ?_ | refine Wr.mk _ rfl ?_ | refine And.intro len_map ?_ | refine And.intro (leX_refl _) ?_ | refine And.intro rfl ?_ | refine And.intro (leO_some _) ?_ | (refine And.intro (fun h => absurd h (by decide)) (fun h => ?_); clear h) | (refine And.intro (fun h => ?_) (fun h => absurd h (by decide)); clear h) | (with_reducible first | refine sp1 (fun h => ?_) (fun h => ?_) | refine sp2 (fun h => ?_) (fun h => ?_) | refine sp3 (fun h => ?_) (fun h => ?_) | refine sp4 (fun h => ?_) (fun h => ?_) | refine sp5 (fun h => ?_) (fun h => ?_) | refine sp6 (fun h => ?_) (fun h => ?_)) | with_reducible refine And.intro (fun h => ?_) (fun h => ?_) | refine And.intro (Int.natCast_nonneg _) ?_ | refine And.intro (by omega) ?_ | refine And.intro (by decide) ?_ | refine Lst.mk _ rfl ?_ | refine Or.inr (Or.inl ⟨_, _, h86, leL_refl _, rfl, rfl, ?_⟩) | refine Or.inr (Or.inl ⟨_, _, h94, leL_refl _, rfl, rfl, ?_⟩) | refine Or.inr (Or.inl ⟨_, _, h52, leL_refl _, rfl, rfl, ?_⟩) | refine And.intro trivial ?_ | exact trivial | exact leX_refl _ | refine weak_fr ?_ ?_ rfl | refine And.intro ?_ ?_ | fail)
    all_goals first
      | contradiction
      | exact leX_refl _
      | exact leB rfl
      | trace_state
  | some r =>
    obtain ⟨q, m⟩ := r
    rw [hS] at h52
    simp only [settleTV] at h52
    repeat' (conv => whnf
             first | refine Frz.own ?_ | refine Get.mk _ rfl ?_ | refine Get.mk _ (map_geti (by omega)) ?_ | refine Get.mk _ (map_getp (by omega) (by omega)) ?_ | refine Get.mk _ (map_get (by omega)) ?_ | refine Bv2.mk _ _ rfl rfl ?_ | refine Bv1.mk _ rfl ?_ | refine Wr.mk _ (wrap_i64 (by omega) (by omega)) ?_ | refine Wr.mk _ rfl ?_ | refine And.intro len_map ?_ | refine And.intro (leX_refl _) ?_ | refine And.intro rfl ?_ | refine And.intro (leO_some _) ?_ | (refine And.intro (fun h => absurd h (by decide)) (fun h => ?_); clear h) | (refine And.intro (fun h => ?_) (fun h => absurd h (by decide)); clear h) | (with_reducible first | refine sp1 (fun h => ?_) (fun h => ?_) | refine sp2 (fun h => ?_) (fun h => ?_) | refine sp3 (fun h => ?_) (fun h => ?_) | refine sp4 (fun h => ?_) (fun h => ?_) | refine sp5 (fun h => ?_) (fun h => ?_) | refine sp6 (fun h => ?_) (fun h => ?_)) | with_reducible refine And.intro (fun h => ?_) (fun h => ?_) | refine And.intro (Int.natCast_nonneg _) ?_ | refine And.intro (by omega) ?_ | refine And.intro (by decide) ?_ | refine Lst.mk _ rfl ?_ | refine Or.inr (Or.inl ⟨_, _, h86, leL_refl _, rfl, rfl, ?_⟩) | refine Or.inr (Or.inl ⟨_, _, h94, leL_refl _, rfl, rfl, ?_⟩) | refine Or.inr (Or.inl ⟨_, _, h52, leL_refl _, rfl, rfl, ?_⟩) | refine And.intro trivial ?_ | exact trivial | exact leX_refl _ | refine weak_fr ?_ ?_ rfl | refine And.intro ?_ ?_ | fail)
    all_goals first
      | contradiction
      | exact leX_refl _
      | exact leB rfl
      | trace_state
end Go.Proofs.Ytjmjolefhcjedaa.Vc

namespace Go.Proofs.Ytjmjolefhcjedaa.Vc
open Go Go.RowKit Go.Proofs.Try
set_option maxRecDepth 20000

theorem s134 (a b : Want) : Spec prog 134 [a.tv, b.tv] [] (tB (aheadW a b)) [] := by
  refine spec_s is134 mixed rfl (V_x ?_)
  repeat' (conv => whnf
           first | refine Frz.own ?_ | refine Get.mk _ rfl ?_ | refine Get.mk _ (map_geti (by omega)) ?_ | refine Get.mk _ (map_getp (by omega) (by omega)) ?_ | refine Get.mk _ (map_get (by omega)) ?_ | refine Bv2.mk _ _ rfl rfl ?_ | refine Bv1.mk _ rfl ?_ | refine Wr.mk _ (wrap_i64 (by omega) (by omega)) ?_ | refine Wr.mk _ rfl ?_ | refine And.intro len_map ?_ | refine And.intro (leX_refl _) ?_ | refine And.intro rfl ?_ | refine And.intro (leO_some _) ?_ | (refine And.intro (fun h => absurd h (by decide)) (fun h => ?_); clear h) | (refine And.intro (fun h => ?_) (fun h => absurd h (by decide)); clear h) | (with_reducible first | refine sp1 (fun h => ?_) (fun h => ?_) | refine sp2 (fun h => ?_) (fun h => ?_) | refine sp3 (fun h => ?_) (fun h => ?_) | refine sp4 (fun h => ?_) (fun h => ?_) | refine sp5 (fun h => ?_) (fun h => ?_) | refine sp6 (fun h => ?_) (fun h => ?_)) | with_reducible refine And.intro (fun h => ?_) (fun h => ?_) | refine And.intro (Int.natCast_nonneg _) ?_ | refine And.intro (by omega) ?_ | refine And.intro (by decide) ?_ | refine Lst.mk _ rfl ?_ | refine And.intro trivial ?_ | exact trivial | exact leX_refl _ | refine weak_fr ?_ ?_ rfl | refine And.intro ?_ ?_ | fail)
  all_goals
    refine leB ?_
    unfold aheadW
    first
      | (rw [decide_eq_true (show b.share < a.share by assumption)]; rfl)
      | (rw [decide_eq_false (show ¬ b.share < a.share by omega), decide_eq_false (show ¬ a.share = b.share by omega)]; rfl)
      | (rw [decide_eq_false (show ¬ b.share < a.share by omega), decide_eq_true (show a.share = b.share by omega)]; rfl)
theorem putPos_is {l : List Want} {w : Want} {i : Nat} (hi : i ≤ l.length) (h1 : ∀ v ∈ l.take i, aheadW w v = false) (h2 : ∀ h : i < l.length, aheadW w l[i] = true) : putPos l w = i := by
  unfold putPos
  rcases Nat.lt_or_ge i l.length with hlt | hge
  · rw [List.findIdx_eq hlt]
    refine ⟨h2 hlt, fun j hj => ?_⟩
    have := h1 l[j] (by rw [List.mem_take_iff_getElem]; exact ⟨j, by omega, rfl⟩)
    rw [this]
  · have e : i = l.length := by omega
    subst e
    rw [List.take_length] at h1
    exact List.findIdx_eq_length.2 h1
theorem s97 (l : List Want) (w : Want) (hl0 : l.length ≤ 1000) : Spec prog 97 [.s 2 (l.map Want.tv), w.tv] [] (.s 2 ((putW l w).map Want.tv)) [] := by
  have hl : (l.map Want.tv).length = l.length := List.length_map _
  refine spec_s is97 mixed rfl (V_x ?_)
  repeat' (conv => whnf
           first | refine Frz.own ?_ | refine Get.mk _ rfl ?_ | refine Get.mk _ (map_geti (by omega)) ?_ | refine Get.mk _ (map_getp (by omega) (by omega)) ?_ | refine Get.mk _ (map_get (by omega)) ?_ | refine Bv2.mk _ _ rfl rfl ?_ | refine Bv1.mk _ rfl ?_ | refine Wr.mk _ (wrap_i64 (by omega) (by omega)) ?_ | refine Wr.mk _ rfl ?_ | refine And.intro len_map ?_ | refine And.intro (leX_refl _) ?_ | refine And.intro rfl ?_ | refine And.intro (leO_some _) ?_ | (refine And.intro (fun h => absurd h (by decide)) (fun h => ?_); clear h) | (refine And.intro (fun h => ?_) (fun h => absurd h (by decide)); clear h) | (with_reducible first | refine sp1 (fun h => ?_) (fun h => ?_) | refine sp2 (fun h => ?_) (fun h => ?_) | refine sp3 (fun h => ?_) (fun h => ?_) | refine sp4 (fun h => ?_) (fun h => ?_) | refine sp5 (fun h => ?_) (fun h => ?_) | refine sp6 (fun h => ?_) (fun h => ?_)) | with_reducible refine And.intro (fun h => ?_) (fun h => ?_) | refine And.intro (Int.natCast_nonneg _) ?_ | refine And.intro (by omega) ?_ | refine And.intro (by decide) ?_ | refine Lst.mk _ rfl ?_ | refine And.intro trivial ?_ | exact trivial | exact leX_refl _ | refine weak_fr ?_ ?_ rfl | refine And.intro ?_ ?_ | fail)
  refine V_up l.length (fun i => Fct (∀ v ∈ l.take i, aheadW w v = false)) (fun i => ([(0, .s 2 (l.map Want.tv)), (3, .p 64 0 0), (5, tI (i : Nat))], [(64, .var 63 w.tv)])) ⟨by simp⟩ ?_ ?_
  · repeat' (conv => whnf
             first | refine Frz.own ?_ | refine Get.mk _ rfl ?_ | refine Get.mk _ (map_geti (by omega)) ?_ | refine Get.mk _ (map_getp (by omega) (by omega)) ?_ | refine Get.mk _ (map_get (by omega)) ?_ | refine Bv2.mk _ _ rfl rfl ?_ | refine Bv1.mk _ rfl ?_ | refine Wr.mk _ (wrap_i64 (by omega) (by omega)) ?_ | refine Wr.mk _ rfl ?_ | refine And.intro len_map ?_ | refine And.intro (leX_refl _) ?_ | refine And.intro rfl ?_ | refine And.intro (leO_some _) ?_ | (refine And.intro (fun h => absurd h (by decide)) (fun h => ?_); clear h) | (refine And.intro (fun h => ?_) (fun h => absurd h (by decide)); clear h) | (with_reducible first | refine sp1 (fun h => ?_) (fun h => ?_) | refine sp2 (fun h => ?_) (fun h => ?_) | refine sp3 (fun h => ?_) (fun h => ?_) | refine sp4 (fun h => ?_) (fun h => ?_) | refine sp5 (fun h => ?_) (fun h => ?_) | refine sp6 (fun h => ?_) (fun h => ?_)) | with_reducible refine And.intro (fun h => ?_) (fun h => ?_) | refine And.intro (Int.natCast_nonneg _) ?_ | refine And.intro (by omega) ?_ | refine And.intro (by decide) ?_ | refine Lst.mk _ rfl ?_ | refine And.intro trivial ?_ | exact trivial | exact leX_refl _ | refine weak_fr ?_ ?_ rfl | refine And.intro ?_ ?_ | fail)
  rintro i hi ⟨hI⟩
  refine V_x ?_
  have hfin : (∀ h : i < l.length, aheadW w l[i] = true) → (([] : List TV) ++ ((l.map Want.tv).take (((i : Nat) : Int)).toNat).drop 0 ++ [w.tv] ++ ((l.map Want.tv).take (l.map Want.tv).length).drop (((i : Nat) : Int)).toNat) = (putW l w).map Want.tv := fun h => by
    unfold putW
    rw [putPos_is hi hI h, List.take_length]
    simp
  rcases Nat.lt_or_ge i l.length with hlt | hge
  · have hms := mem_snoc hlt (P := fun v => aheadW w v = false)
    have h134 := s134 w l[i]
    cases ha : aheadW w l[i] with
    | true =>
      rw [ha] at h134
      have hfin := hfin fun _ => ha
      repeat' (conv => whnf
               first | refine Frz.own ?_ | refine Get.mk _ rfl ?_ | refine Get.mk _ (map_geti (by omega)) ?_ | refine Get.mk _ (map_getp (by omega) (by omega)) ?_ | refine Get.mk _ (map_get (by omega)) ?_ | refine Bv2.mk _ _ rfl rfl ?_ | refine Bv1.mk _ rfl ?_ | refine Wr.mk _ (wrap_i64 (by omega) (by omega)) ?_ | refine Wr.mk _ rfl ?_ | refine And.intro len_map ?_ | refine And.intro (leX_refl _) ?_ | refine And.intro rfl ?_ | refine And.intro (leO_some _) ?_ | (refine And.intro (fun h => absurd h (by decide)) (fun h => ?_); clear h) | (refine And.intro (fun h => ?_) (fun h => absurd h (by decide)); clear h) | (with_reducible first | refine sp1 (fun h => ?_) (fun h => ?_) | refine sp2 (fun h => ?_) (fun h => ?_) | refine sp3 (fun h => ?_) (fun h => ?_) | refine sp4 (fun h => ?_) (fun h => ?_) | refine sp5 (fun h => ?_) (fun h => ?_) | refine sp6 (fun h => ?_) (fun h => ?_)) | with_reducible refine And.intro (fun h => ?_) (fun h => ?_) | refine And.intro (Int.natCast_nonneg _) ?_ | refine And.intro (by omega) ?_ | refine And.intro (by decide) ?_ | refine Lst.mk _ rfl ?_ | refine Or.inr (Or.inl ⟨_, _, h134, leL_refl _, rfl, rfl, ?_⟩) | refine And.intro trivial ?_ | exact trivial | exact leX_refl _ | refine weak_fr ?_ ?_ rfl | refine And.intro ?_ ?_ | fail)
      all_goals first
        | (exfalso; omega)
        | (simp only [List.length_map, List.length_append, List.length_take, List.length_drop, List.length_cons, List.length_nil]; omega)
        | exact leS hfin
        | trace_state
    | false =>
      rw [ha] at h134
      repeat' (conv => whnf
               first | refine Frz.own ?_ | refine Get.mk _ rfl ?_ | refine Get.mk _ (map_geti (by omega)) ?_ | refine Get.mk _ (map_getp (by omega) (by omega)) ?_ | refine Get.mk _ (map_get (by omega)) ?_ | refine Bv2.mk _ _ rfl rfl ?_ | refine Bv1.mk _ rfl ?_ | refine Wr.mk _ (wrap_i64 (by omega) (by omega)) ?_ | refine Wr.mk _ rfl ?_ | refine And.intro len_map ?_ | refine And.intro (leX_refl _) ?_ | refine And.intro rfl ?_ | refine And.intro (leO_some _) ?_ | (refine And.intro (fun h => absurd h (by decide)) (fun h => ?_); clear h) | (refine And.intro (fun h => ?_) (fun h => absurd h (by decide)); clear h) | (with_reducible first | refine sp1 (fun h => ?_) (fun h => ?_) | refine sp2 (fun h => ?_) (fun h => ?_) | refine sp3 (fun h => ?_) (fun h => ?_) | refine sp4 (fun h => ?_) (fun h => ?_) | refine sp5 (fun h => ?_) (fun h => ?_) | refine sp6 (fun h => ?_) (fun h => ?_)) | with_reducible refine And.intro (fun h => ?_) (fun h => ?_) | refine And.intro (Int.natCast_nonneg _) ?_ | refine And.intro (by omega) ?_ | refine And.intro (by decide) ?_ | refine Lst.mk _ rfl ?_ | refine Or.inr (Or.inl ⟨_, _, h134, leL_refl _, rfl, rfl, ?_⟩) | refine And.intro trivial ?_ | exact trivial | exact leX_refl _ | refine weak_fr ?_ ?_ rfl | refine And.intro ?_ ?_ | fail)
      all_goals first
        | (exfalso; omega)
        | exact Fct.mk (hms.2 ⟨hI, ha⟩)
        | trace_state
  · have hfin := hfin fun h => by omega
    repeat' (conv => whnf
             first | refine Frz.own ?_ | refine Get.mk _ rfl ?_ | refine Get.mk _ (map_geti (by omega)) ?_ | refine Get.mk _ (map_getp (by omega) (by omega)) ?_ | refine Get.mk _ (map_get (by omega)) ?_ | refine Bv2.mk _ _ rfl rfl ?_ | refine Bv1.mk _ rfl ?_ | refine Wr.mk _ (wrap_i64 (by omega) (by omega)) ?_ | refine Wr.mk _ rfl ?_ | refine And.intro len_map ?_ | refine And.intro (leX_refl _) ?_ | refine And.intro rfl ?_ | refine And.intro (leO_some _) ?_ | (refine And.intro (fun h => absurd h (by decide)) (fun h => ?_); clear h) | (refine And.intro (fun h => ?_) (fun h => absurd h (by decide)); clear h) | (with_reducible first | refine sp1 (fun h => ?_) (fun h => ?_) | refine sp2 (fun h => ?_) (fun h => ?_) | refine sp3 (fun h => ?_) (fun h => ?_) | refine sp4 (fun h => ?_) (fun h => ?_) | refine sp5 (fun h => ?_) (fun h => ?_) | refine sp6 (fun h => ?_) (fun h => ?_)) | with_reducible refine And.intro (fun h => ?_) (fun h => ?_) | refine And.intro (Int.natCast_nonneg _) ?_ | refine And.intro (by omega) ?_ | refine And.intro (by decide) ?_ | refine Lst.mk _ rfl ?_ | refine And.intro trivial ?_ | exact trivial | exact leX_refl _ | refine weak_fr ?_ ?_ rfl | refine And.intro ?_ ?_ | fail)
    all_goals first
      | (exfalso; omega)
      | (simp only [List.length_map, List.length_append, List.length_take, List.length_drop, List.length_cons, List.length_nil]; omega)
      | exact leS hfin
      | trace_state
theorem sortW_snoc (l : List Want) (w : Want) : sortW (l ++ [w]) = putW (sortW l) w := by unfold sortW; rw [List.foldl_append]; rfl
theorem sortW_len (l : List Want) : (sortW l).length = l.length := (sortW_all l).1.length_eq
theorem firstC_some0 {p : Plan} {n c : Int} (h : p.firstC n = some c) : 0 ≤ c := (has_range (firstC_some h).1).1
theorem s55 (p : Plan) (b : Nat) (hp : p.light) (hr : p.right) (hb : b ≤ 8) : Spec prog 55 [p.tv, tI b] [] (.t (settleTV (p.settle b))) [] := by
  have hp1 := hp.1
  have hl : (p.places.map Place.tv).length = p.places.length := List.length_map _
  have hsp := fun w => splitsW_mem (p := p) (w := w)
  have he : p.splitsW = splitsTo p p.places.length := by unfold splitsTo Plan.splitsW; rw [List.take_length]
  have hS : p.settle b = (srtS p.splitsW).findSome? (p.tryM b) := rfl
  rw [hS]
  refine spec_s is55 mixed rfl (V_x ?_)
  repeat' (conv => whnf
           first | refine (Frz.frz ?_ : Frz 14 _ _) | refine Frz.own ?_ | refine Get.mk _ rfl ?_ | refine Get.mk _ (map_geti (by omega)) ?_ | refine Get.mk _ (map_getp (by omega) (by omega)) ?_ | refine Get.mk _ (map_get (by omega)) ?_ | refine Bv2.mk _ _ rfl rfl ?_ | refine Bv1.mk _ rfl ?_ | refine Wr.mk _ (wrap_i64 (by omega) (by omega)) ?_ | refine Wr.mk _ rfl ?_ | refine And.intro len_map ?_ | refine And.intro (leX_refl _) ?_ | refine And.intro rfl ?_ | refine And.intro (leO_some _) ?_ | (refine And.intro (fun h => absurd h (by decide)) (fun h => ?_); clear h) | (refine And.intro (fun h => ?_) (fun h => absurd h (by decide)); clear h) | (with_reducible first | refine sp1 (fun h => ?_) (fun h => ?_) | refine sp2 (fun h => ?_) (fun h => ?_) | refine sp3 (fun h => ?_) (fun h => ?_) | refine sp4 (fun h => ?_) (fun h => ?_) | refine sp5 (fun h => ?_) (fun h => ?_) | refine sp6 (fun h => ?_) (fun h => ?_)) | with_reducible refine And.intro (fun h => ?_) (fun h => ?_) | refine And.intro (Int.natCast_nonneg _) ?_ | refine And.intro (by omega) ?_ | refine And.intro (by decide) ?_ | refine Lst.mk _ rfl ?_ | refine And.intro trivial ?_ | exact trivial | exact leX_refl _ | refine weak_fr ?_ ?_ rfl | refine And.intro ?_ ?_ | fail)
  refine V_up p.places.length (fun _ => True) (fun i => ([(1, tI b), (2, .p 48 0 0), (4, .p 80 0 0), (5, .p 96 0 0), (7, .s 2 ((sortW (splitsTo p i)).map Want.tv)), (8, tI (i : Nat))], [(48, .var 25 p.tv), (80, .var 25 planZ), (96, .var 79 mvZ)])) trivial ?_ ?_
  · repeat' (conv => whnf
             first | refine Frz.own ?_ | refine Get.mk _ rfl ?_ | refine Get.mk _ (map_geti (by omega)) ?_ | refine Get.mk _ (map_getp (by omega) (by omega)) ?_ | refine Get.mk _ (map_get (by omega)) ?_ | refine Bv2.mk _ _ rfl rfl ?_ | refine Bv1.mk _ rfl ?_ | refine Wr.mk _ (wrap_i64 (by omega) (by omega)) ?_ | refine Wr.mk _ rfl ?_ | refine And.intro len_map ?_ | refine And.intro (leX_refl _) ?_ | refine And.intro rfl ?_ | refine And.intro (leO_some _) ?_ | (refine And.intro (fun h => absurd h (by decide)) (fun h => ?_); clear h) | (refine And.intro (fun h => ?_) (fun h => absurd h (by decide)); clear h) | (with_reducible first | refine sp1 (fun h => ?_) (fun h => ?_) | refine sp2 (fun h => ?_) (fun h => ?_) | refine sp3 (fun h => ?_) (fun h => ?_) | refine sp4 (fun h => ?_) (fun h => ?_) | refine sp5 (fun h => ?_) (fun h => ?_) | refine sp6 (fun h => ?_) (fun h => ?_)) | with_reducible refine And.intro (fun h => ?_) (fun h => ?_) | refine And.intro (Int.natCast_nonneg _) ?_ | refine And.intro (by omega) ?_ | refine And.intro (by decide) ?_ | refine Lst.mk _ rfl ?_ | refine And.intro trivial ?_ | exact trivial | exact leX_refl _ | refine weak_fr ?_ ?_ rfl | refine And.intro ?_ ?_ | fail)
  rintro i hi -
  refine V_x ?_
  rcases Nat.lt_or_ge i p.places.length with hlt | hge
  · have hli := splitsTo_le p i
    have hlp : ((p.places[i].pieces).map Piece.tv).length = p.places[i].pieces.length := List.length_map _
    have hsu := splitsTo_succ hlt
    cases hs : p.places[i].split with
    | true =>
      have hpos := Place.split_iff.1 hs
      rw [hs, if_pos rfl] at hsu
      have h97 := s97 (sortW (splitsTo p i)) p.places[i].want (by rw [sortW_len]; omega)
      rw [← sortW_snoc, ← hsu] at h97
      repeat' (conv => whnf
               first | refine Frz.own ?_ | refine Get.mk _ rfl ?_ | refine Get.mk _ (map_geti (by omega)) ?_ | refine Get.mk _ (map_getp (by omega) (by omega)) ?_ | refine Get.mk _ (map_get (by omega)) ?_ | refine Bv2.mk _ _ rfl rfl ?_ | refine Bv1.mk _ rfl ?_ | refine Wr.mk _ (wrap_i64 (by omega) (by omega)) ?_ | refine Wr.mk _ rfl ?_ | refine And.intro len_map ?_ | refine And.intro (leX_refl _) ?_ | refine And.intro rfl ?_ | refine And.intro (leO_some _) ?_ | (refine And.intro (fun h => absurd h (by decide)) (fun h => ?_); clear h) | (refine And.intro (fun h => ?_) (fun h => absurd h (by decide)); clear h) | (with_reducible first | refine sp1 (fun h => ?_) (fun h => ?_) | refine sp2 (fun h => ?_) (fun h => ?_) | refine sp3 (fun h => ?_) (fun h => ?_) | refine sp4 (fun h => ?_) (fun h => ?_) | refine sp5 (fun h => ?_) (fun h => ?_) | refine sp6 (fun h => ?_) (fun h => ?_)) | with_reducible refine And.intro (fun h => ?_) (fun h => ?_) | refine And.intro (Int.natCast_nonneg _) ?_ | refine And.intro (by omega) ?_ | refine And.intro (by decide) ?_ | refine Lst.mk _ rfl ?_ | refine Or.inr (Or.inl ⟨_, _, h97, leL_refl _, rfl, rfl, ?_⟩) | refine And.intro trivial ?_ | exact trivial | exact leX_refl _ | refine weak_fr ?_ ?_ rfl | refine And.intro ?_ ?_ | fail)
      all_goals first
        | (exfalso; omega)
        | trace_state
    | false =>
      have hpos : ¬ 0 < p.places[i].pieces.length := fun h => by have := Place.split_iff.2 h; rw [hs] at this; cases this
      rw [hs] at hsu
      simp only [Bool.false_eq_true, if_false, List.append_nil] at hsu
      rw [hsu]
      repeat' (conv => whnf
               first | refine Frz.own ?_ | refine Get.mk _ rfl ?_ | refine Get.mk _ (map_geti (by omega)) ?_ | refine Get.mk _ (map_getp (by omega) (by omega)) ?_ | refine Get.mk _ (map_get (by omega)) ?_ | refine Bv2.mk _ _ rfl rfl ?_ | refine Bv1.mk _ rfl ?_ | refine Wr.mk _ (wrap_i64 (by omega) (by omega)) ?_ | refine Wr.mk _ rfl ?_ | refine And.intro len_map ?_ | refine And.intro (leX_refl _) ?_ | refine And.intro rfl ?_ | refine And.intro (leO_some _) ?_ | (refine And.intro (fun h => absurd h (by decide)) (fun h => ?_); clear h) | (refine And.intro (fun h => ?_) (fun h => absurd h (by decide)); clear h) | (with_reducible first | refine sp1 (fun h => ?_) (fun h => ?_) | refine sp2 (fun h => ?_) (fun h => ?_) | refine sp3 (fun h => ?_) (fun h => ?_) | refine sp4 (fun h => ?_) (fun h => ?_) | refine sp5 (fun h => ?_) (fun h => ?_) | refine sp6 (fun h => ?_) (fun h => ?_)) | with_reducible refine And.intro (fun h => ?_) (fun h => ?_) | refine And.intro (Int.natCast_nonneg _) ?_ | refine And.intro (by omega) ?_ | refine And.intro (by decide) ?_ | refine Lst.mk _ rfl ?_ | refine And.intro trivial ?_ | exact trivial | exact leX_refl _ | refine weak_fr ?_ ?_ rfl | refine And.intro ?_ ?_ | fail)
      all_goals first
        | (exfalso; omega)
        | trace_state
  · have hi0 : i = p.places.length := by omega
    subst hi0
    dsimp only
    rw [← he, sortW_eq p.splitsW]
    have hlen : (srtS p.splitsW).length ≤ 60 := by
      rw [(srtS_perm _).length_eq]
      unfold Plan.splitsW
      rw [List.length_map]
      exact Nat.le_trans (List.length_filter_le _ _) hp.1
    generalize srtS p.splitsW = S at *
    have hlS : (S.map Want.tv).length = S.length := List.length_map _
    repeat' (conv => whnf
             first | refine Frz.own ?_ | refine Get.mk _ rfl ?_ | refine Get.mk _ (map_geti (by omega)) ?_ | refine Get.mk _ (map_getp (by omega) (by omega)) ?_ | refine Get.mk _ (map_get (by omega)) ?_ | refine Bv2.mk _ _ rfl rfl ?_ | refine Bv1.mk _ rfl ?_ | refine Wr.mk _ (wrap_i64 (by omega) (by omega)) ?_ | refine Wr.mk _ rfl ?_ | refine And.intro len_map ?_ | refine And.intro (leX_refl _) ?_ | refine And.intro rfl ?_ | refine And.intro (leO_some _) ?_ | (refine And.intro (fun h => absurd h (by decide)) (fun h => ?_); clear h) | (refine And.intro (fun h => ?_) (fun h => absurd h (by decide)); clear h) | (with_reducible first | refine sp1 (fun h => ?_) (fun h => ?_) | refine sp2 (fun h => ?_) (fun h => ?_) | refine sp3 (fun h => ?_) (fun h => ?_) | refine sp4 (fun h => ?_) (fun h => ?_) | refine sp5 (fun h => ?_) (fun h => ?_) | refine sp6 (fun h => ?_) (fun h => ?_)) | with_reducible refine And.intro (fun h => ?_) (fun h => ?_) | refine And.intro (Int.natCast_nonneg _) ?_ | refine And.intro (by omega) ?_ | refine And.intro (by decide) ?_ | refine Lst.mk _ rfl ?_ | refine And.intro trivial ?_ | exact trivial | exact leX_refl _ | refine weak_fr ?_ ?_ rfl | refine And.intro ?_ ?_ | fail)
    all_goals first
      | (exfalso; omega)
      | skip
    refine V_up S.length (fun i => Fct (∀ w ∈ S.take i, p.tryM b w = none)) (fun i => ([(1, tI b), (2, .p 48 0 0), (4, .p 80 0 0), (5, .p 96 0 0), (7, .s 2 (S.map Want.tv)), (9, tI (i : Nat))], [(48, .var 25 p.tv), (80, .var 25 planZ), (96, .var 79 mvZ)])) ⟨by simp⟩ ?_ ?_
    · repeat' (conv => whnf
               first | refine Frz.own ?_ | refine Get.mk _ rfl ?_ | refine Get.mk _ (map_geti (by omega)) ?_ | refine Get.mk _ (map_getp (by omega) (by omega)) ?_ | refine Get.mk _ (map_get (by omega)) ?_ | refine Bv2.mk _ _ rfl rfl ?_ | refine Bv1.mk _ rfl ?_ | refine Wr.mk _ (wrap_i64 (by omega) (by omega)) ?_ | refine Wr.mk _ rfl ?_ | refine And.intro len_map ?_ | refine And.intro (leX_refl _) ?_ | refine And.intro rfl ?_ | refine And.intro (leO_some _) ?_ | (refine And.intro (fun h => absurd h (by decide)) (fun h => ?_); clear h) | (refine And.intro (fun h => ?_) (fun h => absurd h (by decide)); clear h) | (with_reducible first | refine sp1 (fun h => ?_) (fun h => ?_) | refine sp2 (fun h => ?_) (fun h => ?_) | refine sp3 (fun h => ?_) (fun h => ?_) | refine sp4 (fun h => ?_) (fun h => ?_) | refine sp5 (fun h => ?_) (fun h => ?_) | refine sp6 (fun h => ?_) (fun h => ?_)) | with_reducible refine And.intro (fun h => ?_) (fun h => ?_) | refine And.intro (Int.natCast_nonneg _) ?_ | refine And.intro (by omega) ?_ | refine And.intro (by decide) ?_ | refine Lst.mk _ rfl ?_ | refine And.intro trivial ?_ | exact trivial | exact leX_refl _ | refine weak_fr ?_ ?_ rfl | refine And.intro ?_ ?_ | fail)
    rintro j hj ⟨hI⟩
    refine V_x ?_
    rcases Nat.lt_or_ge j S.length with hltj | hgej
    · have hms := mem_snoc hltj (P := fun w => p.tryM b w = none)
      obtain ⟨x, hx, _, hxw⟩ := (hsp _).1 (List.getElem_mem hltj)
      have hok := hr.ok x hx
      have hqr := right_drop hr S[j].unit
      have hql := light_drop (u := S[j].unit) hp
      have hu : S[j].unit = x.unit := by rw [← hxw]; rfl
      have hshw : S[j].share = x.share := by rw [← hxw]; rfl
      have hsh : 1 ≤ S[j].share ∧ S[j].share ≤ (p.drop S[j].unit).frame := by rw [hshw]; exact ⟨hok.2.1, hok.2.2.1⟩
      have hT : p.tryM b S[j] = (match (p.drop S[j].unit).firstC S[j].share with
        | some c => some ((p.drop S[j].unit).put ⟨S[j].unit, S[j].share, c, []⟩, c, [])
        | none => ((p.drop S[j].unit).roomM S[j].share b).map fun (r : Plan × Int × List Int) => (r.1.put ⟨S[j].unit, S[j].share, r.2.1, []⟩, r.2.1, r.2.2)).map fun (r : Plan × Int × List Int) => (r.1, (⟨S[j].unit, r.2.1, r.2.2⟩ : Mv)) := rfl
      have hfound := fun (y : Plan × Mv) (h : p.tryM b S[j] = some y) => findSome_first (f := p.tryM b) hltj hI h
      have h98 := s98 p S[j].unit hp
      have hrf := And.intro (show 0 ≤ (p.drop S[j].unit).frame by have := hqr.lo; omega) hqr.hi
      have h45 := s45 (p.drop S[j].unit) S[j].share hql hrf (share_range hqr)
      have h32 := s32 (p.drop S[j].unit) S[j].share b hql hqr hsh.1 hb
      generalize p.drop S[j].unit = q at *
      cases hf : q.firstC S[j].share with
      | some c =>
        have hc0 := firstC_some0 hf
        rw [hf] at h45 hT
        simp only [Option.getD_some, Option.map_some] at h45 hT
        have h84 := nilP (s84 q ⟨S[j].unit, S[j].share, c, []⟩ hql (by simp) hqr.pw)
        rw [hfound _ hT]
        repeat' (conv => whnf
                 first | refine Frz.own ?_ | refine Get.mk _ rfl ?_ | refine Get.mk _ (map_geti (by omega)) ?_ | refine Get.mk _ (map_getp (by omega) (by omega)) ?_ | refine Get.mk _ (map_get (by omega)) ?_ | refine Bv2.mk _ _ rfl rfl ?_ | refine Bv1.mk _ rfl ?_ | refine Wr.mk _ (wrap_i64 (by omega) (by omega)) ?_ | refine Wr.mk _ rfl ?_ | refine And.intro len_map ?_ | refine And.intro (leX_refl _) ?_ | refine And.intro rfl ?_ | refine And.intro (leO_some _) ?_ | (refine And.intro (fun h => absurd h (by decide)) (fun h => ?_); clear h) | (refine And.intro (fun h => ?_) (fun h => absurd h (by decide)); clear h) | (with_reducible first | refine sp1 (fun h => ?_) (fun h => ?_) | refine sp2 (fun h => ?_) (fun h => ?_) | refine sp3 (fun h => ?_) (fun h => ?_) | refine sp4 (fun h => ?_) (fun h => ?_) | refine sp5 (fun h => ?_) (fun h => ?_) | refine sp6 (fun h => ?_) (fun h => ?_)) | with_reducible refine And.intro (fun h => ?_) (fun h => ?_) | refine And.intro (Int.natCast_nonneg _) ?_ | refine And.intro (by omega) ?_ | refine And.intro (by decide) ?_ | refine Lst.mk _ rfl ?_ | refine Or.inr (Or.inl ⟨_, _, h98, leL_refl _, rfl, rfl, ?_⟩) | refine Or.inr (Or.inl ⟨_, _, h45, leL_refl _, rfl, rfl, ?_⟩) | refine Or.inr (Or.inl ⟨_, _, h84, leL_refl _, rfl, rfl, ?_⟩) | refine And.intro trivial ?_ | exact trivial | exact leX_refl _ | refine weak_fr ?_ ?_ rfl | refine And.intro ?_ ?_ | fail)
        all_goals first
          | (exfalso; omega)
          | exact rfl
          | exact leX_refl _
          | exact leT rfl
          | trace_state
      | none =>
        rw [hf] at h45 hT
        simp only [Option.getD_none] at h45 hT
        cases hR : q.roomM S[j].share b with
        | none =>
          rw [hR] at h32 hT
          simp only [roomRTV] at h32
          repeat' (conv => whnf
                   first | refine Frz.own ?_ | refine Get.mk _ rfl ?_ | refine Get.mk _ (map_geti (by omega)) ?_ | refine Get.mk _ (map_getp (by omega) (by omega)) ?_ | refine Get.mk _ (map_get (by omega)) ?_ | refine Bv2.mk _ _ rfl rfl ?_ | refine Bv1.mk _ rfl ?_ | refine Wr.mk _ (wrap_i64 (by omega) (by omega)) ?_ | refine Wr.mk _ rfl ?_ | refine And.intro len_map ?_ | refine And.intro (leX_refl _) ?_ | refine And.intro rfl ?_ | refine And.intro (leO_some _) ?_ | (refine And.intro (fun h => absurd h (by decide)) (fun h => ?_); clear h) | (refine And.intro (fun h => ?_) (fun h => absurd h (by decide)); clear h) | (with_reducible first | refine sp1 (fun h => ?_) (fun h => ?_) | refine sp2 (fun h => ?_) (fun h => ?_) | refine sp3 (fun h => ?_) (fun h => ?_) | refine sp4 (fun h => ?_) (fun h => ?_) | refine sp5 (fun h => ?_) (fun h => ?_) | refine sp6 (fun h => ?_) (fun h => ?_)) | with_reducible refine And.intro (fun h => ?_) (fun h => ?_) | refine And.intro (Int.natCast_nonneg _) ?_ | refine And.intro (by omega) ?_ | refine And.intro (by decide) ?_ | refine Lst.mk _ rfl ?_ | refine Or.inr (Or.inl ⟨_, _, h98, leL_refl _, rfl, rfl, ?_⟩) | refine Or.inr (Or.inl ⟨_, _, h45, leL_refl _, rfl, rfl, ?_⟩) | refine Or.inr (Or.inl ⟨_, _, h32, leL_refl _, rfl, rfl, ?_⟩) | refine And.intro trivial ?_ | exact trivial | exact leX_refl _ | refine weak_fr ?_ ?_ rfl | refine And.intro ?_ ?_ | fail)
          all_goals first
            | (exfalso; omega)
            | exact Fct.mk (hms.2 ⟨hI, hT⟩)
            | trace_state
        | some r =>
          obtain ⟨r, c, m⟩ := r
          obtain ⟨hc, hM, _, _⟩ := roomM_some hqr hR
          have hc0 := (has_range hc).1
          rw [hR] at h32 hT
          simp only [roomRTV, Option.map_some] at h32 hT
          have h84 := nilP (s84 r ⟨S[j].unit, S[j].share, c, []⟩ (hM.light hql) (by simp) hM.right.pw)
          rw [hfound _ hT]
          repeat' (conv => whnf
                   first | refine Frz.own ?_ | refine Get.mk _ rfl ?_ | refine Get.mk _ (map_geti (by omega)) ?_ | refine Get.mk _ (map_getp (by omega) (by omega)) ?_ | refine Get.mk _ (map_get (by omega)) ?_ | refine Bv2.mk _ _ rfl rfl ?_ | refine Bv1.mk _ rfl ?_ | refine Wr.mk _ (wrap_i64 (by omega) (by omega)) ?_ | refine Wr.mk _ rfl ?_ | refine And.intro len_map ?_ | refine And.intro (leX_refl _) ?_ | refine And.intro rfl ?_ | refine And.intro (leO_some _) ?_ | (refine And.intro (fun h => absurd h (by decide)) (fun h => ?_); clear h) | (refine And.intro (fun h => ?_) (fun h => absurd h (by decide)); clear h) | (with_reducible first | refine sp1 (fun h => ?_) (fun h => ?_) | refine sp2 (fun h => ?_) (fun h => ?_) | refine sp3 (fun h => ?_) (fun h => ?_) | refine sp4 (fun h => ?_) (fun h => ?_) | refine sp5 (fun h => ?_) (fun h => ?_) | refine sp6 (fun h => ?_) (fun h => ?_)) | with_reducible refine And.intro (fun h => ?_) (fun h => ?_) | refine And.intro (Int.natCast_nonneg _) ?_ | refine And.intro (by omega) ?_ | refine And.intro (by decide) ?_ | refine Lst.mk _ rfl ?_ | refine Or.inr (Or.inl ⟨_, _, h98, leL_refl _, rfl, rfl, ?_⟩) | refine Or.inr (Or.inl ⟨_, _, h45, leL_refl _, rfl, rfl, ?_⟩) | refine Or.inr (Or.inl ⟨_, _, h32, leL_refl _, rfl, rfl, ?_⟩) | refine Or.inr (Or.inl ⟨_, _, h84, leL_refl _, rfl, rfl, ?_⟩) | refine And.intro trivial ?_ | exact trivial | exact leX_refl _ | refine weak_fr ?_ ?_ rfl | refine And.intro ?_ ?_ | fail)
          all_goals first
            | (exfalso; omega)
            | exact leX_refl _
            | exact leT rfl
            | trace_state
    · have hF : S.findSome? (p.tryM b) = none := by
        rw [List.take_of_length_le hgej] at hI
        exact List.findSome?_eq_none_iff.2 hI
      rw [hF]
      repeat' (conv => whnf
               first | refine Frz.own ?_ | refine Get.mk _ rfl ?_ | refine Get.mk _ (map_geti (by omega)) ?_ | refine Get.mk _ (map_getp (by omega) (by omega)) ?_ | refine Get.mk _ (map_get (by omega)) ?_ | refine Bv2.mk _ _ rfl rfl ?_ | refine Bv1.mk _ rfl ?_ | refine Wr.mk _ (wrap_i64 (by omega) (by omega)) ?_ | refine Wr.mk _ rfl ?_ | refine And.intro len_map ?_ | refine And.intro (leX_refl _) ?_ | refine And.intro rfl ?_ | refine And.intro (leO_some _) ?_ | (refine And.intro (fun h => absurd h (by decide)) (fun h => ?_); clear h) | (refine And.intro (fun h => ?_) (fun h => absurd h (by decide)); clear h) | (with_reducible first | refine sp1 (fun h => ?_) (fun h => ?_) | refine sp2 (fun h => ?_) (fun h => ?_) | refine sp3 (fun h => ?_) (fun h => ?_) | refine sp4 (fun h => ?_) (fun h => ?_) | refine sp5 (fun h => ?_) (fun h => ?_) | refine sp6 (fun h => ?_) (fun h => ?_)) | with_reducible refine And.intro (fun h => ?_) (fun h => ?_) | refine And.intro (Int.natCast_nonneg _) ?_ | refine And.intro (by omega) ?_ | refine And.intro (by decide) ?_ | refine Lst.mk _ rfl ?_ | refine And.intro trivial ?_ | exact trivial | exact leX_refl _ | refine weak_fr ?_ ?_ rfl | refine And.intro ?_ ?_ | fail)
      all_goals first
        | (exfalso; omega)
        | exact leX_refl _
        | exact leT rfl
        | trace_state
end Go.Proofs.Ytjmjolefhcjedaa.Vc

namespace Go.Proofs.Ytjmjolefhcjedaa.Vc
open Go Go.RowKit Go.Proofs.Try
set_option maxRecDepth 20000

def sameMv (a b : Mv) : Prop := a.unit = b.unit ∧ a.core = b.core ∧ a.others = b.others
open Classical in
theorem s53 (a b : Mv) (ha : a.others.length ≤ 1000) (hb : b.others.length ≤ 1000) : Spec prog 53 [a.tv, b.tv] [] (tB (decide (sameMv a b))) [] := by
  have h33 := s33 a.others b.others (by omega) (by omega)
  refine spec_s is53 mixed rfl (V_x ?_)
  repeat' (conv => whnf
           first | refine Frz.own ?_ | refine Get.mk _ rfl ?_ | refine Get.mk _ (map_geti (by omega)) ?_ | refine Get.mk _ (map_getp (by omega) (by omega)) ?_ | refine Get.mk _ (map_get (by omega)) ?_ | refine Bv2.mk _ _ rfl rfl ?_ | refine Bv1.mk _ rfl ?_ | refine Wr.mk _ (wrap_i64 (by omega) (by omega)) ?_ | refine Wr.mk _ rfl ?_ | refine And.intro len_map ?_ | refine And.intro (leX_refl _) ?_ | refine And.intro rfl ?_ | refine And.intro (leO_some _) ?_ | (refine And.intro (fun h => absurd h (by decide)) (fun h => ?_); clear h) | (refine And.intro (fun h => ?_) (fun h => absurd h (by decide)); clear h) | (with_reducible first | refine sp1 (fun h => ?_) (fun h => ?_) | refine sp2 (fun h => ?_) (fun h => ?_) | refine sp3 (fun h => ?_) (fun h => ?_) | refine sp4 (fun h => ?_) (fun h => ?_) | refine sp5 (fun h => ?_) (fun h => ?_) | refine sp6 (fun h => ?_) (fun h => ?_)) | with_reducible refine And.intro (fun h => ?_) (fun h => ?_) | refine And.intro (Int.natCast_nonneg _) ?_ | refine And.intro (by omega) ?_ | refine And.intro (by decide) ?_ | refine Lst.mk _ rfl ?_ | refine Or.inr (Or.inl ⟨_, _, h33, leL_refl _, rfl, rfl, ?_⟩) | refine And.intro trivial ?_ | exact trivial | exact leX_refl _ | refine weak_fr ?_ ?_ rfl | refine And.intro ?_ ?_ | fail)
  all_goals
    refine leB ?_
    first
      | (refine decide_eq_decide.2 ?_; exact ⟨fun h3 => ⟨by assumption, by assumption, h3⟩, fun h3 => h3.2.2⟩)
      | (symm; refine decide_eq_false fun h3 => ?_; first | exact absurd h3.1 (by assumption) | exact absurd h3.2.1 (by assumption))
theorem mvZ_le : leX mvZ (⟨0, 0, []⟩ : Mv).tv := by
  repeat' (conv => whnf
           first | exact rfl | exact leX_refl _ | exact trivial | exact And.intro rfl rfl | exact leL_refl _ | exact Two.l ⟨rfl, rfl⟩ | refine Two.r ⟨rfl, ?_⟩ | refine And.intro ?_ ?_ | fail)
  all_goals exact leX_refl _
theorem s53_same (a : Mv) (ha : a.others.length ≤ 1000) : Spec prog 53 [a.tv, a.tv] [] (tB true) [] := by
  classical
  have h := s53 a a ha ha
  rwa [decide_eq_true (show sameMv a a from ⟨rfl, rfl, rfl⟩)] at h
theorem s53z : Spec prog 53 [mvZ, mvZ] [] (tB true) [] :=
  Spec_arg (s53_same ⟨0, 0, []⟩ (by simp)) (And.intro mvZ_le (And.intro mvZ_le trivial))

def exS : Plan := ⟨4, 3#32, [⟨1, 2, 0, [⟨0, 1#64⟩, ⟨1, 2#64⟩]⟩]⟩
def exS2 : Plan := ⟨4, 3#32, [⟨1, 2, 0, []⟩]⟩
theorem exS_light : exS.light := by decide
theorem exS2_light : exS2.light := by decide
theorem exS_right : exS.right :=
  ⟨by decide, by decide, by decide, by decide, by decide +kernel, by decide, by decide +kernel, by decide +kernel, by decide +kernel⟩
theorem exS2_right : exS2.right :=
  ⟨by decide, by decide, by decide, by decide, by decide +kernel, by decide, by decide +kernel, by decide +kernel, by decide +kernel⟩
theorem exS_settle : exS.settle 0 = some (exS2, ⟨1, 0, []⟩) := by
  unfold Plan.settle
  rw [show exS.splitsW = [⟨1, 2⟩] by kernel_rfl, show srtS [⟨1, 2⟩] = [⟨1, 2⟩] by simp [srtS]]
  kernel_rfl
theorem exS2_settle : exS2.settle 0 = none := by
  unfold Plan.settle
  rw [show exS2.splitsW = [] by kernel_rfl, show srtS [] = [] by simp [srtS]]
  rfl
theorem exS_F : exS.settleF 0 = some (exS2, ⟨1, 0, []⟩) := by
  unfold Plan.settleF
  rw [if_pos ⟨exS_right, by omega, by omega⟩]
  exact exS_settle
theorem exS2_F : exS2.settleF 0 = none := by
  unfold Plan.settleF
  rw [if_pos ⟨exS2_right, by omega, by omega⟩]
  exact exS2_settle
theorem still_of {p : Plan} {b : Int} (h : p.right ∧ 0 ≤ b ∧ b ≤ 8) : p.stillF b = (p.settleF b).isNone := by
  classical
  unfold Plan.stillF; rw [decide_eq_true h]; rfl
theorem exS_le : leX (.a [tI 4, tW 3#32, .s 4 [.a [tI 1, tI 2, tI 0, .s 2 [.a [tI 0, tU 1#64], .a [tI 1, tU 2#64]]]]]) exS.tv := by
  repeat' (conv => whnf
           first | exact rfl | exact leX_refl _ | exact trivial | exact And.intro rfl rfl | exact leL_refl _ | exact Two.l ⟨rfl, rfl⟩ | refine Two.r ⟨rfl, ?_⟩ | refine And.intro ?_ ?_ | fail)
  all_goals exact leX_refl _
theorem exS2_le : leX (.a [tI 4, tW 3#32, .s 4 [.a [tI 1, tI 2, tI 0, .v (.slice none 0 0)]]]) exS2.tv := by
  repeat' (conv => whnf
           first | exact rfl | exact leX_refl _ | exact trivial | exact And.intro rfl rfl | exact leL_refl _ | exact Two.l ⟨rfl, rfl⟩ | refine Two.r ⟨rfl, ?_⟩ | refine And.intro ?_ ?_ | fail)
  all_goals exact leX_refl _
theorem s51 : Spec prog 51 [] [] (tB true) [] := by
  have h52 := s52 exS 0 exS_light
  rw [exS_F] at h52
  simp only [settleTV] at h52
  have h54 := s54 exS 0 exS_light
  rw [still_of ⟨exS_right, by omega, by omega⟩, exS_F] at h54
  have h542 := s54 exS2 0 exS2_light
  rw [still_of ⟨exS2_right, by omega, by omega⟩, exS2_F] at h542
  simp only [Option.isNone_some, Option.isNone_none] at h54 h542
  have h31 : Spec prog 31 [exS2.tv, .a [tI 4, tW 3#32, .s 4 [.a [tI 1, tI 2, tI 0, .v (.slice none 0 0)]]]] [] (tB true) [] := Spec_arg (s31_same exS2 exS2_light) (And.intro (leX_refl _) (And.intro exS2_le trivial))
  refine spec_s is51 mixed rfl (V_x ?_)
  repeat' (conv => whnf
           first | refine (Frz.frz ?_ : Frz 7 _ _) | refine (Frz.frz ?_ : Frz 9 _ _) | refine (Frz.frz ?_ : Frz 37 _ _) | refine Frz.own ?_ | refine Get.mk _ rfl ?_ | refine Get.mk _ (map_geti (by omega)) ?_ | refine Get.mk _ (map_getp (by omega) (by omega)) ?_ | refine Get.mk _ (map_get (by omega)) ?_ | refine Bv2.mk _ _ rfl rfl ?_ | refine Bv1.mk _ rfl ?_ | refine Wr.mk _ (wrap_i64 (by omega) (by omega)) ?_ | refine Wr.mk _ rfl ?_ | refine And.intro len_map ?_ | refine And.intro (leX_refl _) ?_ | refine And.intro rfl ?_ | refine And.intro (leO_some _) ?_ | (refine And.intro (fun h => absurd h (by decide)) (fun h => ?_); clear h) | (refine And.intro (fun h => ?_) (fun h => absurd h (by decide)); clear h) | (with_reducible first | refine sp1 (fun h => ?_) (fun h => ?_) | refine sp2 (fun h => ?_) (fun h => ?_) | refine sp3 (fun h => ?_) (fun h => ?_) | refine sp4 (fun h => ?_) (fun h => ?_) | refine sp5 (fun h => ?_) (fun h => ?_) | refine sp6 (fun h => ?_) (fun h => ?_)) | with_reducible refine And.intro (fun h => ?_) (fun h => ?_) | refine And.intro (Int.natCast_nonneg _) ?_ | refine And.intro (by omega) ?_ | refine And.intro (by decide) ?_ | refine Lst.mk _ rfl ?_ | refine Or.inr (Or.inl ⟨_, _, h52, leL_refl _, rfl, rfl, ?_⟩) | refine Or.inr (Or.inl ⟨_, _, h54, leL_refl _, rfl, rfl, ?_⟩) | refine Or.inr (Or.inl ⟨_, _, h542, leL_refl _, rfl, rfl, ?_⟩) | refine Or.inr (Or.inl ⟨_, _, h31, leL_refl _, rfl, rfl, ?_⟩) | refine And.intro trivial ?_ | exact trivial | exact leX_refl _ | refine weak_fr ?_ ?_ rfl | refine And.intro ?_ ?_ | fail)
  all_goals first
    | contradiction
    | exact leB rfl
    | trace_state
end Go.Proofs.Ytjmjolefhcjedaa.Vc
