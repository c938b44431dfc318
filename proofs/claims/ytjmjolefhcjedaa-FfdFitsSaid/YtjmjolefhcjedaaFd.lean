/- The statements of ffd, walked. -/
import Derived.Test.YtjmjolefhcjedaaFc
namespace Go.Proofs.Ytjmjolefhcjedaa.Vc
open Go Go.RowKit Go.Proofs.Try
set_option maxRecDepth 20000

instance (p : Plan) (x : Place) : Decidable (x.sp p) := by unfold Place.sp; infer_instance
instance (p : Plan) (x : Place) : Decidable (x.ok p) := by unfold Place.ok; infer_instance
def exF : Plan := ⟨4, 3#32, []⟩
def exFl : List Want := [⟨1, 3⟩, ⟨2, 3⟩, ⟨3, 2⟩]
def exF2 : Plan := ⟨4, 3#32, [⟨1, 3, 0, []⟩, ⟨2, 3, 1, []⟩]⟩
theorem exF_light : exF.light := ⟨by decide, by decide⟩
theorem exF2_light : exF2.light := ⟨by decide, by decide⟩
theorem exF_right : exF.right :=
  ⟨by decide, by decide, by decide, by decide, by decide +kernel, by decide, by decide +kernel, by decide +kernel, by decide +kernel⟩
theorem exF_srt : srtS exFl = exFl := (srtS_uniq (List.Perm.refl _) (by unfold exFl leD; simp)).symm
theorem exF_fit : exF.fit exFl = (exF2, [⟨3, 2⟩]) := by kernel_rfl
theorem exF_chk : chkW 4 exFl = 0 := by kernel_rfl
theorem exF_E : fitE exF exFl = 0 := by
  unfold fitE
  rw [if_pos exF_right, if_neg (by rw [show exF.frame = 4 from rfl, exF_chk]; decide), if_neg (by decide +kernel)]
theorem ex47a : sureW 4 2 [⟨1, 3⟩] = true := by kernel_rfl
theorem ex47b : sureW 4 0 [] = false := by kernel_rfl
theorem s42 : Spec prog 42 [] [] (tB true) [] := by
  have h43 := s43 exF exFl exF_light (by decide) (by decide)
  unfold fitTV at h43
  rw [if_pos exF_E, exF_srt, exF_fit] at h43
  have h43' : Spec prog 43 [.a [tI 4, tW 3#32, .v (.slice none 0 0)], .s 2 (exFl.map Want.tv)] [] (.t [exF2.tv, .s 2 ([(⟨3, 2⟩ : Want)].map Want.tv), tI 0]) [] := by
    refine Spec_arg h43 (And.intro ?_ (And.intro (leX_refl _) trivial))
    repeat' (conv => whnf
             first | exact rfl | exact leX_refl _ | exact trivial | exact And.intro rfl rfl | exact leL_refl _ | exact Two.l ⟨rfl, rfl⟩ | refine Two.r ⟨rfl, ?_⟩ | refine And.intro ?_ ?_ | fail)
    all_goals exact leX_refl _
  have h22 := s22 exF2 2 exF2_light
  rw [show exF2.find 2 = some ⟨2, 3, 1, []⟩ by kernel_rfl] at h22
  simp only [Option.getD_some, Option.isSome_some] at h22
  have h36 := s36 [⟨3, 2⟩] [⟨3, 2⟩] (by simp) (by simp)
  rw [decide_eq_true rfl] at h36
  have h47 := s47 4 2 [⟨1, 3⟩] (by simp)
  rw [ex47a] at h47
  have h47n : Spec prog 47 [tI 4, tI 0, .v (.slice none 0 0)] [] (tB false) [] := by
    have h := s47 4 0 [] (by simp)
    rw [ex47b] at h
    refine Spec_arg h (And.intro (leX_refl _) (And.intro (leX_refl _) (And.intro ?_ trivial)))
    exact And.intro rfl rfl
  refine spec_s is42 mixed rfl (V_x ?_)
  repeat' (conv => whnf
           first | refine (Frz.frz ?_ : Frz 11 _ _) | refine (Frz.frz ?_ : Frz 26 _ _) | refine (Frz.frz ?_ : Frz 45 _ _) | refine Frz.own ?_ | refine Get.mk _ rfl ?_ | refine Get.mk _ (map_geti (by omega)) ?_ | refine Get.mk _ (map_getp (by omega) (by omega)) ?_ | refine Get.mk _ (map_get (by omega)) ?_ | refine Bv2.mk _ _ rfl rfl ?_ | refine Bv1.mk _ rfl ?_ | refine Wr.mk _ (wrap_i64 (by omega) (by omega)) ?_ | refine Wr.mk _ rfl ?_ | refine And.intro len_map ?_ | refine And.intro (leX_refl _) ?_ | refine And.intro rfl ?_ | refine And.intro (leO_some _) ?_ | (refine And.intro (fun h => absurd h (by decide)) (fun h => ?_); clear h) | (refine And.intro (fun h => ?_) (fun h => absurd h (by decide)); clear h) | (with_reducible first | refine sp1 (fun h => ?_) (fun h => ?_) | refine sp2 (fun h => ?_) (fun h => ?_) | refine sp3 (fun h => ?_) (fun h => ?_) | refine sp4 (fun h => ?_) (fun h => ?_) | refine sp5 (fun h => ?_) (fun h => ?_) | refine sp6 (fun h => ?_) (fun h => ?_)) | with_reducible refine And.intro (fun h => ?_) (fun h => ?_) | refine And.intro (Int.natCast_nonneg _) ?_ | refine And.intro (by omega) ?_ | refine And.intro (by decide) ?_ | refine Lst.mk _ rfl ?_ | refine Or.inr (Or.inl ⟨_, _, h43', leL_refl _, rfl, rfl, ?_⟩) | refine Or.inr (Or.inl ⟨_, _, h22, leL_refl _, rfl, rfl, ?_⟩) | refine Or.inr (Or.inl ⟨_, _, h36, leL_refl _, rfl, rfl, ?_⟩) | refine Or.inr (Or.inl ⟨_, _, h47, leL_refl _, rfl, rfl, ?_⟩) | refine Or.inr (Or.inl ⟨_, _, h47n, leL_refl _, rfl, rfl, ?_⟩) | refine And.intro trivial ?_ | exact trivial | exact leX_refl _ | refine weak_fr ?_ ?_ rfl | refine And.intro ?_ ?_ | fail)
  all_goals first
    | contradiction
    | exact leB rfl
    | trace_state
theorem empty_right {f : Int} {B : BitVec 32} (hf : 2 ≤ f ∧ f ≤ 64) (h0 : B ≠ 0#32) (h1 : B.toNat ≤ 65535) (h2 : 0 < (⟨f, B, []⟩ : Plan).coresI.length) : (⟨f, B, []⟩ : Plan).right := by
  refine ⟨hf.1, hf.2, h0, h1, by simp, by simp, fun c hc t ht => ?_, ?_, fun c hc => ?_⟩
  · simp [Plan.atc]
  · simpa [Plan.splits] using h2
  · have : (⟨f, B, []⟩ : Plan).load c = 0 := by
      show ((popN (0#64) 64 : Nat) : Int) + 0 = 0
      decide +kernel
    rw [this]
    show 0 ≤ f
    omega
end Go.Proofs.Ytjmjolefhcjedaa.Vc

namespace Go.Proofs.Ytjmjolefhcjedaa.Vc
open Go Go.RowKit Go.Proofs.Try
set_option maxRecDepth 20000

theorem cut_eq (l : List Want) (k : Nat) : ((l.map Want.tv).take (min (((l.map Want.tv).length : Nat) : Int) (k : Nat)).toNat).drop 0 = (l.take k).map Want.tv := by
  rw [List.drop_zero, ← List.map_take, List.length_map]
  congr 1
  rcases Nat.le_total l.length k with h | h
  · rw [List.take_of_length_le (by omega), List.take_of_length_le h]
  · congr 1; omega
/-- n cores from nought. -/
def lowB (n : Nat) : BitVec 32 := BitVec.ofNat 32 (2 ^ n - 1)
theorem low_all : ∀ n : Nat, n ≤ 16 → 1 ≤ n → lowB n ≠ 0#32 ∧ (lowB n).toNat ≤ 65535 ∧ (⟨2, lowB n, []⟩ : Plan).coresI.length = n := by decide +kernel
theorem sure_fit {f n : Int} {l : List Want} {m : Nat} (hm : n = (m : Nat)) (h : sureW f n l = true) : fitE ⟨f, lowB m, []⟩ l = 0 ∧ ((⟨f, lowB m, []⟩ : Plan).fit (srtS l)).2 = [] := by
  unfold sureW at h
  obtain ⟨hc, h1, h16, hs⟩ := of_decide_eq_true h
  obtain ⟨hf, hok, hnd⟩ := chkW_zero hc
  obtain ⟨a, b, c⟩ := low_all m (by omega) (by omega)
  have hci : (⟨f, lowB m, []⟩ : Plan).coresI.length = m := c
  have hr : (⟨f, lowB m, []⟩ : Plan).right := empty_right hf a b (by omega)
  have hE : fitE ⟨f, lowB m, []⟩ l = 0 := by
    unfold fitE
    rw [if_pos hr, if_neg (by rw [show (⟨f, lowB m, []⟩ : Plan).frame = f from rfl, hc]; decide), if_neg]
    intro h
    obtain ⟨w, _, hw⟩ := List.any_eq_true.1 h
    simp [Plan.find] at hw
  refine ⟨hE, ?_⟩
  have hW := (fitE_zero hE).2.2.2.perm (srtS_perm l)
  have hp := srtS_perm l
  rcases hs with rfl | hs
  · rw [show srtS [] = [] by simp [srtS]]; rfl
  · refine fit_sure rfl hr hW (a := maxShare l) (fun w hw => (maxShare_spec l).2.1 w (hp.mem_iff.1 hw)) ?_
    rw [hci, shareSum_perm hp, ← hm]
    exact hs
set_option maxHeartbeats 8000000 in
theorem s10 (f n : Int) (l : List Want) (hm : l.length ≤ 9223372036854775807) : Spec prog 10 [tI f, tI n, .s 2 (l.map Want.tv)] [] (tB true) [] := by
  have hlm : (l.map Want.tv).length = l.length := List.length_map _
  have hcut : ((l.map Want.tv).take (min (((l.map Want.tv).length : Nat) : Int) 100).toNat).drop 0 = (l.take 100).map Want.tv := cut_eq l 100
  have hk : (l.take 100).length ≤ 100 := by rw [List.length_take]; omega
  generalize l.take 100 = k at *
  have h47 := s47 f n k (by omega)
  have h48 := s48 f n k (by omega)
  cases hS : sureW f n k with
  | false =>
    rw [hS, ← hcut] at h47 h48
    refine spec_s is10 mixed rfl (V_x ?_)
    repeat' (conv => whnf
             first | refine Frz.own ?_ | refine Get.mk _ rfl ?_ | refine Get.mk _ (map_geti (by omega)) ?_ | refine Get.mk _ (map_getp (by omega) (by omega)) ?_ | refine Get.mk _ (map_get (by omega)) ?_ | refine Bv2.mk _ _ rfl rfl ?_ | refine Bv1.mk _ rfl ?_ | refine Wr.mk _ (wrap_i64 (by omega) (by omega)) ?_ | refine Wr.mk _ rfl ?_ | refine And.intro len_map ?_ | refine And.intro (leX_refl _) ?_ | refine And.intro rfl ?_ | refine And.intro (leO_some _) ?_ | (refine And.intro (fun h => absurd h (by decide)) (fun h => ?_); clear h) | (refine And.intro (fun h => ?_) (fun h => absurd h (by decide)); clear h) | (with_reducible first | refine sp1 (fun h => ?_) (fun h => ?_) | refine sp2 (fun h => ?_) (fun h => ?_) | refine sp3 (fun h => ?_) (fun h => ?_) | refine sp4 (fun h => ?_) (fun h => ?_) | refine sp5 (fun h => ?_) (fun h => ?_) | refine sp6 (fun h => ?_) (fun h => ?_)) | with_reducible refine And.intro (fun h => ?_) (fun h => ?_) | refine And.intro (Int.natCast_nonneg _) ?_ | refine And.intro (by omega) ?_ | refine And.intro (by decide) ?_ | refine Lst.mk _ rfl ?_ | refine Or.inr (Or.inl ⟨_, _, h47, leL_refl _, rfl, rfl, ?_⟩) | refine Or.inr (Or.inl ⟨_, _, h48, leL_refl _, rfl, rfl, ?_⟩) | refine Or.inr (Or.inl ⟨_, _, s42, leL_refl _, rfl, rfl, ?_⟩) | refine And.intro trivial ?_ | exact trivial | exact leX_refl _ | refine weak_fr ?_ ?_ rfl | refine And.intro ?_ ?_ | fail)
    all_goals first
      | contradiction
      | (exfalso; omega)
      | exact leB rfl
      | trace_state
  | true =>
    rw [hS, ← hcut] at h47 h48
    obtain ⟨hc, h1, h16, hs⟩ := of_decide_eq_true hS
    obtain ⟨hf, hok, hnd⟩ := chkW_zero hc
    obtain ⟨m, rfl⟩ : ∃ m : Nat, n = (m : Nat) := ⟨n.toNat, by omega⟩
    obtain ⟨hE, hfit⟩ := sure_fit rfl hS
    have h43 := s43 ⟨f, lowB m, []⟩ k ⟨by simp, by simp⟩ hk (by simp; omega)
    unfold fitTV at h43
    rw [if_pos hE, hfit, ← hcut] at h43
    generalize ((⟨f, lowB m, []⟩ : Plan).fit (srtS k)).1 = q at *
    have h43' : Spec prog 43 [.a [tI f, tW (lowB m), .v (.slice none 0 0)], .s 2 (((l.map Want.tv).take (min (((l.map Want.tv).length : Nat) : Int) 100).toNat).drop 0)] [] (.t [q.tv, .s 2 ([].map Want.tv), tI 0]) [] := by
      refine Spec_arg h43 (And.intro ?_ (And.intro (leX_refl _) trivial))
      repeat' (conv => whnf
               first | exact rfl | exact leX_refl _ | exact trivial | exact And.intro rfl rfl | exact leL_refl _ | exact Two.l ⟨rfl, rfl⟩ | refine Two.r ⟨rfl, ?_⟩ | refine And.intro ?_ ?_ | fail)
      all_goals exact leX_refl _
    refine spec_s is10 mixed rfl (V_x ?_)
    clear hE hfit hS hs hok hnd h43
    have hm16 : m = 1 ∨ m = 2 ∨ m = 3 ∨ m = 4 ∨ m = 5 ∨ m = 6 ∨ m = 7 ∨ m = 8 ∨ m = 9 ∨ m = 10 ∨ m = 11 ∨ m = 12 ∨ m = 13 ∨ m = 14 ∨ m = 15 ∨ m = 16 := by omega
    rcases hm16 with rfl | rfl | rfl | rfl | rfl | rfl | rfl | rfl | rfl | rfl | rfl | rfl | rfl | rfl | rfl | rfl
    all_goals
      repeat' (conv => whnf
               first | refine Frz.own ?_ | refine Get.mk _ rfl ?_ | refine Get.mk _ (map_geti (by omega)) ?_ | refine Get.mk _ (map_getp (by omega) (by omega)) ?_ | refine Get.mk _ (map_get (by omega)) ?_ | refine Bv2.mk _ _ rfl rfl ?_ | refine Bv1.mk _ rfl ?_ | refine Wr.mk _ (wrap_i64 (by omega) (by omega)) ?_ | refine Wr.mk _ rfl ?_ | refine And.intro len_map ?_ | refine And.intro (leX_refl _) ?_ | refine And.intro rfl ?_ | refine And.intro (leO_some _) ?_ | (refine And.intro (fun h => absurd h (by decide)) (fun h => ?_); clear h) | (refine And.intro (fun h => ?_) (fun h => absurd h (by decide)); clear h) | (with_reducible first | refine sp1 (fun h => ?_) (fun h => ?_) | refine sp2 (fun h => ?_) (fun h => ?_) | refine sp3 (fun h => ?_) (fun h => ?_) | refine sp4 (fun h => ?_) (fun h => ?_) | refine sp5 (fun h => ?_) (fun h => ?_) | refine sp6 (fun h => ?_) (fun h => ?_)) | with_reducible refine And.intro (fun h => ?_) (fun h => ?_) | refine And.intro (Int.natCast_nonneg _) ?_ | refine And.intro (by omega) ?_ | refine And.intro (by decide) ?_ | refine Lst.mk _ rfl ?_ | refine Or.inr (Or.inl ⟨_, _, h47, leL_refl _, rfl, rfl, ?_⟩) | refine Or.inr (Or.inl ⟨_, _, h48, leL_refl _, rfl, rfl, ?_⟩) | refine Or.inr (Or.inl ⟨_, _, s42, leL_refl _, rfl, rfl, ?_⟩) | refine Or.inr (Or.inl ⟨_, _, h43', leL_refl _, rfl, rfl, ?_⟩) | refine And.intro trivial ?_ | exact trivial | exact leX_refl _ | refine weak_fr ?_ ?_ rfl | refine And.intro ?_ ?_ | fail)
      all_goals first
        | contradiction
        | (exfalso; omega)
        | exact leB rfl
        | trace_state
end Go.Proofs.Ytjmjolefhcjedaa.Vc

namespace Go.Proofs.Ytjmjolefhcjedaa.Vc
open Go Go.RowKit Go.Proofs.Try
set_option maxRecDepth 20000

theorem planZ_leF : leX planZ (⟨0, 0#32, []⟩ : Plan).tv := by
  repeat' (conv => whnf
           first | exact rfl | exact leX_refl _ | exact trivial | exact And.intro rfl rfl | exact leL_refl _ | exact Two.l ⟨rfl, rfl⟩ | refine Two.r ⟨rfl, ?_⟩ | refine And.intro ?_ ?_ | fail)
  all_goals exact leX_refl _
open Classical in
theorem s31zF : Spec prog 31 [planZ, planZ] [] (tB true) [] := by
  have h := s31 ⟨0, 0#32, []⟩ ⟨0, 0#32, []⟩ ⟨by simp, by simp⟩ ⟨by simp, by simp⟩
  rw [decide_eq_true rfl] at h
  exact Spec_arg h (And.intro planZ_leF (And.intro planZ_leF trivial))
open Classical in
theorem s31F (p : Plan) (hp : p.light) : Spec prog 31 [p.tv, p.tv] [] (tB true) [] := by
  have h := s31 p p hp hp
  rwa [decide_eq_true rfl] at h
open Classical in
theorem s36F (l : List Want) (hl : l.length ≤ 1000) : Spec prog 36 [.s 2 (l.map Want.tv), .s 2 (l.map Want.tv)] [] (tB true) [] := by
  have h := s36 l l (by omega) (by omega)
  rwa [decide_eq_true rfl] at h
theorem s46F (x : Place) (hx : x.pieces.length ≤ 20) : Spec prog 46 [x.tv, x.tv] [] (tB true) [] := by
  have h := s46 x x hx hx
  rwa [decide_eq_true rfl] at h
theorem s9 (p : Plan) (l : List Want) (hm : l.length ≤ 9223372036854775807) : Spec prog 9 [p.tv, .s 2 (l.map Want.tv)] [] (tB true) [] := by
  classical
  have hlm : (l.map Want.tv).length = l.length := List.length_map _
  have hcut : ((l.map Want.tv).take (min (((l.map Want.tv).length : Nat) : Int) 60).toNat).drop 0 = (l.take 60).map Want.tv := cut_eq l 60
  have hk : (l.take 60).length ≤ 60 := by rw [List.length_take]; omega
  have hkm : ((l.take 60).map Want.tv).length = (l.take 60).length := List.length_map _
  generalize l.take 60 = k at *
  have h18 := s18 p
  by_cases hp : p.lite
  · rw [decide_eq_true hp] at h18
    have hpl := hp.light
    have hp1 := hp.1
    have h43 := s43 p k hpl (by omega) (by omega)
    have h44 := s44 p k hpl (by omega)
    by_cases hE : fitE p k = 0
    · unfold fitTV at h43
      rw [if_pos hE] at h43
      rw [hE] at h44
      obtain ⟨hr, hc, hcl, hW⟩ := fitE_zero hE
      have hF := fit_all hr (srtS k) (hW.perm (srtS_perm k))
      have hsl := srtS_len k
      have hql := fit_light hpl (by omega) hF
      generalize p.fit (srtS k) = s at *
      obtain ⟨q, left⟩ := s
      dsimp only at *
      have h35 := s35 q hql
      rw [decide_eq_true hF.right] at h35
      have hlen := hF.len
      have hlefm : (left.map Want.tv).length = left.length := List.length_map _
      have hqm : (q.places.map Place.tv).length = q.places.length := List.length_map _
      have hpm : (p.places.map Place.tv).length = p.places.length := List.length_map _
      have hq1 := hql.1
      have hkl : (((l.map Want.tv).take (min (((l.map Want.tv).length : Nat) : Int) 60).toNat).drop 0).length = k.length := by rw [hcut, hkm]
      rw [← hcut] at h43 h44
      refine spec_s is9 mixed rfl (V_x ?_)
      repeat' (conv => whnf
               first | refine Frz.own ?_ | refine Get.mk _ rfl ?_ | refine Get.mk _ (map_geti (by omega)) ?_ | refine Get.mk _ (map_getp (by omega) (by omega)) ?_ | refine Get.mk _ (map_get (by omega)) ?_ | refine Bv2.mk _ _ rfl rfl ?_ | refine Bv1.mk _ rfl ?_ | refine Wr.mk _ (wrap_i64 (by omega) (by omega)) ?_ | refine Wr.mk _ rfl ?_ | refine And.intro len_map ?_ | refine And.intro (leX_refl _) ?_ | refine And.intro rfl ?_ | refine And.intro (leO_some _) ?_ | (refine And.intro (fun h => absurd h (by decide)) (fun h => ?_); clear h) | (refine And.intro (fun h => ?_) (fun h => absurd h (by decide)); clear h) | (with_reducible first | refine sp1 (fun h => ?_) (fun h => ?_) | refine sp2 (fun h => ?_) (fun h => ?_) | refine sp3 (fun h => ?_) (fun h => ?_) | refine sp4 (fun h => ?_) (fun h => ?_) | refine sp5 (fun h => ?_) (fun h => ?_) | refine sp6 (fun h => ?_) (fun h => ?_)) | with_reducible refine And.intro (fun h => ?_) (fun h => ?_) | refine And.intro (Int.natCast_nonneg _) ?_ | refine And.intro (by omega) ?_ | refine And.intro (by decide) ?_ | refine Lst.mk _ rfl ?_ | refine Or.inr (Or.inl ⟨_, _, h18, leL_refl _, rfl, rfl, ?_⟩) | refine Or.inr (Or.inl ⟨_, _, h43, leL_refl _, rfl, rfl, ?_⟩) | refine Or.inr (Or.inl ⟨_, _, h44, leL_refl _, rfl, rfl, ?_⟩) | refine Or.inr (Or.inl ⟨_, _, h35, leL_refl _, rfl, rfl, ?_⟩) | refine Or.inr (Or.inl ⟨_, _, s42, leL_refl _, rfl, rfl, ?_⟩) | refine And.intro trivial ?_ | exact trivial | exact leX_refl _ | refine weak_fr ?_ ?_ rfl | refine And.intro ?_ ?_ | fail)
      all_goals first
        | contradiction
        | (exfalso; omega)
        | exact leB rfl
        | skip
      refine V_up left.length (fun _ => True) (fun i => ([(2, .p 48 0 0), (5, .p 96 0 0), (6, .s 2 (left.map Want.tv)), (8, tI (i : Nat))], [(48, .var 25 p.tv), (96, .var 25 q.tv)])) trivial ?_ ?_
      · repeat' (conv => whnf
                 first | refine Frz.own ?_ | refine Get.mk _ rfl ?_ | refine Get.mk _ (map_geti (by omega)) ?_ | refine Get.mk _ (map_getp (by omega) (by omega)) ?_ | refine Get.mk _ (map_get (by omega)) ?_ | refine Bv2.mk _ _ rfl rfl ?_ | refine Bv1.mk _ rfl ?_ | refine Wr.mk _ (wrap_i64 (by omega) (by omega)) ?_ | refine Wr.mk _ rfl ?_ | refine And.intro len_map ?_ | refine And.intro (leX_refl _) ?_ | refine And.intro rfl ?_ | refine And.intro (leO_some _) ?_ | (refine And.intro (fun h => absurd h (by decide)) (fun h => ?_); clear h) | (refine And.intro (fun h => ?_) (fun h => absurd h (by decide)); clear h) | (with_reducible first | refine sp1 (fun h => ?_) (fun h => ?_) | refine sp2 (fun h => ?_) (fun h => ?_) | refine sp3 (fun h => ?_) (fun h => ?_) | refine sp4 (fun h => ?_) (fun h => ?_) | refine sp5 (fun h => ?_) (fun h => ?_) | refine sp6 (fun h => ?_) (fun h => ?_)) | with_reducible refine And.intro (fun h => ?_) (fun h => ?_) | refine And.intro (Int.natCast_nonneg _) ?_ | refine And.intro (by omega) ?_ | refine And.intro (by decide) ?_ | refine Lst.mk _ rfl ?_ | refine And.intro trivial ?_ | exact trivial | exact leX_refl _ | refine weak_fr ?_ ?_ rfl | refine And.intro ?_ ?_ | fail)
      rintro i hi -
      refine V_x ?_
      rcases Nat.lt_or_ge i left.length with hlt | hge
      · have hov := hF.over _ (List.getElem_mem hlt)
        have hfc : q.firstC left[i].share = none := firstC_none.2 hov.2
        have hrf := And.intro (show 0 ≤ q.frame by have := hF.right.lo; omega) hF.right.hi
        have h45 := s45 q left[i].share hql hrf (share_range hF.right)
        rw [hfc, Option.getD_none] at h45
        repeat' (conv => whnf
                 first | refine Frz.own ?_ | refine Get.mk _ rfl ?_ | refine Get.mk _ (map_geti (by omega)) ?_ | refine Get.mk _ (map_getp (by omega) (by omega)) ?_ | refine Get.mk _ (map_get (by omega)) ?_ | refine Bv2.mk _ _ rfl rfl ?_ | refine Bv1.mk _ rfl ?_ | refine Wr.mk _ (wrap_i64 (by omega) (by omega)) ?_ | refine Wr.mk _ rfl ?_ | refine And.intro len_map ?_ | refine And.intro (leX_refl _) ?_ | refine And.intro rfl ?_ | refine And.intro (leO_some _) ?_ | (refine And.intro (fun h => absurd h (by decide)) (fun h => ?_); clear h) | (refine And.intro (fun h => ?_) (fun h => absurd h (by decide)); clear h) | (with_reducible first | refine sp1 (fun h => ?_) (fun h => ?_) | refine sp2 (fun h => ?_) (fun h => ?_) | refine sp3 (fun h => ?_) (fun h => ?_) | refine sp4 (fun h => ?_) (fun h => ?_) | refine sp5 (fun h => ?_) (fun h => ?_) | refine sp6 (fun h => ?_) (fun h => ?_)) | with_reducible refine And.intro (fun h => ?_) (fun h => ?_) | refine And.intro (Int.natCast_nonneg _) ?_ | refine And.intro (by omega) ?_ | refine And.intro (by decide) ?_ | refine Lst.mk _ rfl ?_ | refine Or.inr (Or.inl ⟨_, _, h45, leL_refl _, rfl, rfl, ?_⟩) | refine And.intro trivial ?_ | exact trivial | exact leX_refl _ | refine weak_fr ?_ ?_ rfl | refine And.intro ?_ ?_ | fail)
        all_goals first
          | contradiction
          | (exfalso; omega)
          | trace_state
      · repeat' (conv => whnf
                 first | refine Frz.own ?_ | refine Get.mk _ rfl ?_ | refine Get.mk _ (map_geti (by omega)) ?_ | refine Get.mk _ (map_getp (by omega) (by omega)) ?_ | refine Get.mk _ (map_get (by omega)) ?_ | refine Bv2.mk _ _ rfl rfl ?_ | refine Bv1.mk _ rfl ?_ | refine Wr.mk _ (wrap_i64 (by omega) (by omega)) ?_ | refine Wr.mk _ rfl ?_ | refine And.intro len_map ?_ | refine And.intro (leX_refl _) ?_ | refine And.intro rfl ?_ | refine And.intro (leO_some _) ?_ | (refine And.intro (fun h => absurd h (by decide)) (fun h => ?_); clear h) | (refine And.intro (fun h => ?_) (fun h => absurd h (by decide)); clear h) | (with_reducible first | refine sp1 (fun h => ?_) (fun h => ?_) | refine sp2 (fun h => ?_) (fun h => ?_) | refine sp3 (fun h => ?_) (fun h => ?_) | refine sp4 (fun h => ?_) (fun h => ?_) | refine sp5 (fun h => ?_) (fun h => ?_) | refine sp6 (fun h => ?_) (fun h => ?_)) | with_reducible refine And.intro (fun h => ?_) (fun h => ?_) | refine And.intro (Int.natCast_nonneg _) ?_ | refine And.intro (by omega) ?_ | refine And.intro (by decide) ?_ | refine Lst.mk _ rfl ?_ | refine And.intro trivial ?_ | exact trivial | exact leX_refl _ | refine weak_fr ?_ ?_ rfl | refine And.intro ?_ ?_ | fail)
        all_goals first
          | contradiction
          | (exfalso; omega)
          | skip
        refine V_up p.places.length (fun _ => True) (fun i => ([(2, .p 48 0 0), (5, .p 96 0 0), (9, tI (i : Nat))], [(48, .var 25 p.tv), (96, .var 25 q.tv)])) trivial ?_ ?_
        · repeat' (conv => whnf
                   first | refine Frz.own ?_ | refine Get.mk _ rfl ?_ | refine Get.mk _ (map_geti (by omega)) ?_ | refine Get.mk _ (map_getp (by omega) (by omega)) ?_ | refine Get.mk _ (map_get (by omega)) ?_ | refine Bv2.mk _ _ rfl rfl ?_ | refine Bv1.mk _ rfl ?_ | refine Wr.mk _ (wrap_i64 (by omega) (by omega)) ?_ | refine Wr.mk _ rfl ?_ | refine And.intro len_map ?_ | refine And.intro (leX_refl _) ?_ | refine And.intro rfl ?_ | refine And.intro (leO_some _) ?_ | (refine And.intro (fun h => absurd h (by decide)) (fun h => ?_); clear h) | (refine And.intro (fun h => ?_) (fun h => absurd h (by decide)); clear h) | (with_reducible first | refine sp1 (fun h => ?_) (fun h => ?_) | refine sp2 (fun h => ?_) (fun h => ?_) | refine sp3 (fun h => ?_) (fun h => ?_) | refine sp4 (fun h => ?_) (fun h => ?_) | refine sp5 (fun h => ?_) (fun h => ?_) | refine sp6 (fun h => ?_) (fun h => ?_)) | with_reducible refine And.intro (fun h => ?_) (fun h => ?_) | refine And.intro (Int.natCast_nonneg _) ?_ | refine And.intro (by omega) ?_ | refine And.intro (by decide) ?_ | refine Lst.mk _ rfl ?_ | refine And.intro trivial ?_ | exact trivial | exact leX_refl _ | refine weak_fr ?_ ?_ rfl | refine And.intro ?_ ?_ | fail)
        rintro j hj -
        refine V_x ?_
        rcases Nat.lt_or_ge j p.places.length with hlt | hge
        · have hx := List.getElem_mem hlt
          have hfm := (find_mem (u := p.places[j].unit) (x := p.places[j]) hF.right.pw).2 ⟨hF.keep _ hx, rfl⟩
          have h22 := s22 q p.places[j].unit hql
          rw [hfm] at h22
          simp only [Option.getD_some, Option.isSome_some] at h22
          have h46 := s46F p.places[j] (hpl.2 _ hx)
          repeat' (conv => whnf
                   first | refine Frz.own ?_ | refine Get.mk _ rfl ?_ | refine Get.mk _ (map_geti (by omega)) ?_ | refine Get.mk _ (map_getp (by omega) (by omega)) ?_ | refine Get.mk _ (map_get (by omega)) ?_ | refine Bv2.mk _ _ rfl rfl ?_ | refine Bv1.mk _ rfl ?_ | refine Wr.mk _ (wrap_i64 (by omega) (by omega)) ?_ | refine Wr.mk _ rfl ?_ | refine And.intro len_map ?_ | refine And.intro (leX_refl _) ?_ | refine And.intro rfl ?_ | refine And.intro (leO_some _) ?_ | (refine And.intro (fun h => absurd h (by decide)) (fun h => ?_); clear h) | (refine And.intro (fun h => ?_) (fun h => absurd h (by decide)); clear h) | (with_reducible first | refine sp1 (fun h => ?_) (fun h => ?_) | refine sp2 (fun h => ?_) (fun h => ?_) | refine sp3 (fun h => ?_) (fun h => ?_) | refine sp4 (fun h => ?_) (fun h => ?_) | refine sp5 (fun h => ?_) (fun h => ?_) | refine sp6 (fun h => ?_) (fun h => ?_)) | with_reducible refine And.intro (fun h => ?_) (fun h => ?_) | refine And.intro (Int.natCast_nonneg _) ?_ | refine And.intro (by omega) ?_ | refine And.intro (by decide) ?_ | refine Lst.mk _ rfl ?_ | refine Or.inr (Or.inl ⟨_, _, h22, leL_refl _, rfl, rfl, ?_⟩) | refine Or.inr (Or.inl ⟨_, _, h46, leL_refl _, rfl, rfl, ?_⟩) | refine And.intro trivial ?_ | exact trivial | exact leX_refl _ | refine weak_fr ?_ ?_ rfl | refine And.intro ?_ ?_ | fail)
          all_goals first
            | contradiction
            | (exfalso; omega)
            | trace_state
        · repeat' (conv => whnf
                   first | refine Frz.own ?_ | refine Get.mk _ rfl ?_ | refine Get.mk _ (map_geti (by omega)) ?_ | refine Get.mk _ (map_getp (by omega) (by omega)) ?_ | refine Get.mk _ (map_get (by omega)) ?_ | refine Bv2.mk _ _ rfl rfl ?_ | refine Bv1.mk _ rfl ?_ | refine Wr.mk _ (wrap_i64 (by omega) (by omega)) ?_ | refine Wr.mk _ rfl ?_ | refine And.intro len_map ?_ | refine And.intro (leX_refl _) ?_ | refine And.intro rfl ?_ | refine And.intro (leO_some _) ?_ | (refine And.intro (fun h => absurd h (by decide)) (fun h => ?_); clear h) | (refine And.intro (fun h => ?_) (fun h => absurd h (by decide)); clear h) | (with_reducible first | refine sp1 (fun h => ?_) (fun h => ?_) | refine sp2 (fun h => ?_) (fun h => ?_) | refine sp3 (fun h => ?_) (fun h => ?_) | refine sp4 (fun h => ?_) (fun h => ?_) | refine sp5 (fun h => ?_) (fun h => ?_) | refine sp6 (fun h => ?_) (fun h => ?_)) | with_reducible refine And.intro (fun h => ?_) (fun h => ?_) | refine And.intro (Int.natCast_nonneg _) ?_ | refine And.intro (by omega) ?_ | refine And.intro (by decide) ?_ | refine Lst.mk _ rfl ?_ | refine Or.inr (Or.inl ⟨_, _, s42, leL_refl _, rfl, rfl, ?_⟩) | refine And.intro trivial ?_ | exact trivial | exact leX_refl _ | refine weak_fr ?_ ?_ rfl | refine And.intro ?_ ?_ | fail)
          all_goals first
            | contradiction
            | (exfalso; omega)
            | exact leB rfl
            | trace_state
    · unfold fitTV at h43
      rw [if_neg hE] at h43
      rw [← hcut] at h43 h44
      refine spec_s is9 mixed rfl (V_x ?_)
      repeat' (conv => whnf
               first | refine Frz.own ?_ | refine Get.mk _ rfl ?_ | refine Get.mk _ (map_geti (by omega)) ?_ | refine Get.mk _ (map_getp (by omega) (by omega)) ?_ | refine Get.mk _ (map_get (by omega)) ?_ | refine Bv2.mk _ _ rfl rfl ?_ | refine Bv1.mk _ rfl ?_ | refine Wr.mk _ (wrap_i64 (by omega) (by omega)) ?_ | refine Wr.mk _ rfl ?_ | refine And.intro len_map ?_ | refine And.intro (leX_refl _) ?_ | refine And.intro rfl ?_ | refine And.intro (leO_some _) ?_ | (refine And.intro (fun h => absurd h (by decide)) (fun h => ?_); clear h) | (refine And.intro (fun h => ?_) (fun h => absurd h (by decide)); clear h) | (with_reducible first | refine sp1 (fun h => ?_) (fun h => ?_) | refine sp2 (fun h => ?_) (fun h => ?_) | refine sp3 (fun h => ?_) (fun h => ?_) | refine sp4 (fun h => ?_) (fun h => ?_) | refine sp5 (fun h => ?_) (fun h => ?_) | refine sp6 (fun h => ?_) (fun h => ?_)) | with_reducible refine And.intro (fun h => ?_) (fun h => ?_) | refine And.intro (Int.natCast_nonneg _) ?_ | refine And.intro (by omega) ?_ | refine And.intro (by decide) ?_ | refine Lst.mk _ rfl ?_ | refine Or.inr (Or.inl ⟨_, _, h18, leL_refl _, rfl, rfl, ?_⟩) | refine Or.inr (Or.inl ⟨_, _, h43, leL_refl _, rfl, rfl, ?_⟩) | refine Or.inr (Or.inl ⟨_, _, h44, leL_refl _, rfl, rfl, ?_⟩) | refine Or.inr (Or.inl ⟨_, _, s42, leL_refl _, rfl, rfl, ?_⟩) | refine And.intro trivial ?_ | exact trivial | exact leX_refl _ | refine weak_fr ?_ ?_ rfl | refine And.intro ?_ ?_ | fail)
      all_goals first
        | contradiction
        | (exfalso; omega)
        | exact leB rfl
        | trace_state
  · rw [decide_eq_false hp] at h18
    refine spec_s is9 mixed rfl (V_x ?_)
    repeat' (conv => whnf
             first | refine Frz.own ?_ | refine Get.mk _ rfl ?_ | refine Get.mk _ (map_geti (by omega)) ?_ | refine Get.mk _ (map_getp (by omega) (by omega)) ?_ | refine Get.mk _ (map_get (by omega)) ?_ | refine Bv2.mk _ _ rfl rfl ?_ | refine Bv1.mk _ rfl ?_ | refine Wr.mk _ (wrap_i64 (by omega) (by omega)) ?_ | refine Wr.mk _ rfl ?_ | refine And.intro len_map ?_ | refine And.intro (leX_refl _) ?_ | refine And.intro rfl ?_ | refine And.intro (leO_some _) ?_ | (refine And.intro (fun h => absurd h (by decide)) (fun h => ?_); clear h) | (refine And.intro (fun h => ?_) (fun h => absurd h (by decide)); clear h) | (with_reducible first | refine sp1 (fun h => ?_) (fun h => ?_) | refine sp2 (fun h => ?_) (fun h => ?_) | refine sp3 (fun h => ?_) (fun h => ?_) | refine sp4 (fun h => ?_) (fun h => ?_) | refine sp5 (fun h => ?_) (fun h => ?_) | refine sp6 (fun h => ?_) (fun h => ?_)) | with_reducible refine And.intro (fun h => ?_) (fun h => ?_) | refine And.intro (Int.natCast_nonneg _) ?_ | refine And.intro (by omega) ?_ | refine And.intro (by decide) ?_ | refine Lst.mk _ rfl ?_ | refine Or.inr (Or.inl ⟨_, _, h18, leL_refl _, rfl, rfl, ?_⟩) | refine Or.inr (Or.inl ⟨_, _, s42, leL_refl _, rfl, rfl, ?_⟩) | refine And.intro trivial ?_ | exact trivial | exact leX_refl _ | refine weak_fr ?_ ?_ rfl | refine And.intro ?_ ?_ | fail)
    all_goals first
      | contradiction
      | exact leB rfl
      | trace_state
set_option maxHeartbeats 8000000 in
theorem s11 (p : Plan) (l : List Want) (n : Int) (hm : l.length ≤ 9223372036854775807) : Spec prog 11 [p.tv, .s 2 (l.map Want.tv), tI n] [] (tB true) [] := by
  classical
  have hlm : (l.map Want.tv).length = l.length := List.length_map _
  have hcut : ((l.map Want.tv).take (min (((l.map Want.tv).length : Nat) : Int) 60).toNat).drop 0 = (l.take 60).map Want.tv := cut_eq l 60
  have hk : (l.take 60).length ≤ 60 := by rw [List.length_take]; omega
  have hkm : ((l.take 60).map Want.tv).length = (l.take 60).length := List.length_map _
  generalize l.take 60 = k at *
  have h18 := s18 p
  by_cases hp : p.lite
  · rw [decide_eq_true hp] at h18
    have hpl := hp.light
    have hp1 := hp.1
    have h43 := s43 p k hpl (by omega) (by omega)
    have h44 := s44 p k hpl (by omega)
    have h35 := s35 p hpl
    have h49 := s49 p n hpl
    by_cases hE : fitE p k = 0
    · unfold fitTV at h43
      rw [if_pos hE] at h43
      rw [hE] at h44
      obtain ⟨hr, hc, hcl, hW⟩ := fitE_zero hE
      rw [decide_eq_true hr] at h35
      have hF := fit_all hr (srtS k) (hW.perm (srtS_perm k))
      have h50 := s50 p k hpl hr hW (by omega) (by omega)
      have hsl := srtS_len k
      have hql := fit_light hpl (by omega) hF
      generalize p.fit (srtS k) = s at *
      obtain ⟨q, left⟩ := s
      dsimp only at *
      have hlen := hF.len
      have h31 := s31F q hql
      have h36 := s36F left (by omega)
      rw [← hcut] at h43 h44 h50
      refine spec_s is11 mixed rfl (V_x ?_)
      by_cases hn : 1 ≤ n
      · have e : p.firstF n = p.firstC n := if_pos ⟨hr, hn⟩
        rw [e] at h49
        have hrf := And.intro (show 0 ≤ p.frame by have := hr.lo; omega) hr.hi
        have h45 := s45 p n hpl hrf (share_range hr)
        cases hfc : p.firstC n with
        | none =>
          rw [hfc] at h49 h45
          simp only [Option.getD_none, Option.isSome_none] at h49 h45
          repeat' (conv => whnf
                   first | refine Frz.own ?_ | refine Get.mk _ rfl ?_ | refine Get.mk _ (map_geti (by omega)) ?_ | refine Get.mk _ (map_getp (by omega) (by omega)) ?_ | refine Get.mk _ (map_get (by omega)) ?_ | refine Bv2.mk _ _ rfl rfl ?_ | refine Bv1.mk _ rfl ?_ | refine Wr.mk _ (wrap_i64 (by omega) (by omega)) ?_ | refine Wr.mk _ rfl ?_ | refine And.intro len_map ?_ | refine And.intro (leX_refl _) ?_ | refine And.intro rfl ?_ | refine And.intro (leO_some _) ?_ | (refine And.intro (fun h => absurd h (by decide)) (fun h => ?_); clear h) | (refine And.intro (fun h => ?_) (fun h => absurd h (by decide)); clear h) | (with_reducible first | refine sp1 (fun h => ?_) (fun h => ?_) | refine sp2 (fun h => ?_) (fun h => ?_) | refine sp3 (fun h => ?_) (fun h => ?_) | refine sp4 (fun h => ?_) (fun h => ?_) | refine sp5 (fun h => ?_) (fun h => ?_) | refine sp6 (fun h => ?_) (fun h => ?_)) | with_reducible refine And.intro (fun h => ?_) (fun h => ?_) | refine And.intro (Int.natCast_nonneg _) ?_ | refine And.intro (by omega) ?_ | refine And.intro (by decide) ?_ | refine Lst.mk _ rfl ?_ | refine Or.inr (Or.inl ⟨_, _, h18, leL_refl _, rfl, rfl, ?_⟩) | refine Or.inr (Or.inl ⟨_, _, h35, leL_refl _, rfl, rfl, ?_⟩) | refine Or.inr (Or.inl ⟨_, _, h45, leL_refl _, rfl, rfl, ?_⟩) | refine Or.inr (Or.inl ⟨_, _, h49, leL_refl _, rfl, rfl, ?_⟩) | refine Or.inr (Or.inl ⟨_, _, h43, leL_refl _, rfl, rfl, ?_⟩) | refine Or.inr (Or.inl ⟨_, _, h44, leL_refl _, rfl, rfl, ?_⟩) | refine Or.inr (Or.inl ⟨_, _, h50, leL_refl _, rfl, rfl, ?_⟩) | refine Or.inr (Or.inl ⟨_, _, h31, leL_refl _, rfl, rfl, ?_⟩) | refine Or.inr (Or.inl ⟨_, _, h36, leL_refl _, rfl, rfl, ?_⟩) | refine Or.inr (Or.inl ⟨_, _, s42, leL_refl _, rfl, rfl, ?_⟩) | refine And.intro trivial ?_ | exact trivial | exact leX_refl _ | refine weak_fr ?_ ?_ rfl | refine And.intro ?_ ?_ | fail)
          all_goals first
            | contradiction
            | (exfalso; rw [decide_eq_true hc0] at h; exact absurd h (by decide))
            | (exfalso; omega)
            | exact leB rfl
            | trace_state
        | some c =>
          have hc0 := firstC_some hfc
          have hc0 := (has_range hc0.1).1
          rw [hfc] at h49 h45
          simp only [Option.getD_some, Option.isSome_some] at h49 h45
          repeat' (conv => whnf
                   first | refine Frz.own ?_ | refine Get.mk _ rfl ?_ | refine Get.mk _ (map_geti (by omega)) ?_ | refine Get.mk _ (map_getp (by omega) (by omega)) ?_ | refine Get.mk _ (map_get (by omega)) ?_ | refine Bv2.mk _ _ rfl rfl ?_ | refine Bv1.mk _ rfl ?_ | refine Wr.mk _ (wrap_i64 (by omega) (by omega)) ?_ | refine Wr.mk _ rfl ?_ | refine And.intro len_map ?_ | refine And.intro (leX_refl _) ?_ | refine And.intro rfl ?_ | refine And.intro (leO_some _) ?_ | (refine And.intro (fun h => absurd h (by decide)) (fun h => ?_); clear h) | (refine And.intro (fun h => ?_) (fun h => absurd h (by decide)); clear h) | (with_reducible first | refine sp1 (fun h => ?_) (fun h => ?_) | refine sp2 (fun h => ?_) (fun h => ?_) | refine sp3 (fun h => ?_) (fun h => ?_) | refine sp4 (fun h => ?_) (fun h => ?_) | refine sp5 (fun h => ?_) (fun h => ?_) | refine sp6 (fun h => ?_) (fun h => ?_)) | with_reducible refine And.intro (fun h => ?_) (fun h => ?_) | refine And.intro (Int.natCast_nonneg _) ?_ | refine And.intro (by omega) ?_ | refine And.intro (by decide) ?_ | refine Lst.mk _ rfl ?_ | refine Or.inr (Or.inl ⟨_, _, h18, leL_refl _, rfl, rfl, ?_⟩) | refine Or.inr (Or.inl ⟨_, _, h35, leL_refl _, rfl, rfl, ?_⟩) | refine Or.inr (Or.inl ⟨_, _, h45, leL_refl _, rfl, rfl, ?_⟩) | refine Or.inr (Or.inl ⟨_, _, h49, leL_refl _, rfl, rfl, ?_⟩) | refine Or.inr (Or.inl ⟨_, _, h43, leL_refl _, rfl, rfl, ?_⟩) | refine Or.inr (Or.inl ⟨_, _, h44, leL_refl _, rfl, rfl, ?_⟩) | refine Or.inr (Or.inl ⟨_, _, h50, leL_refl _, rfl, rfl, ?_⟩) | refine Or.inr (Or.inl ⟨_, _, h31, leL_refl _, rfl, rfl, ?_⟩) | refine Or.inr (Or.inl ⟨_, _, h36, leL_refl _, rfl, rfl, ?_⟩) | refine Or.inr (Or.inl ⟨_, _, s42, leL_refl _, rfl, rfl, ?_⟩) | refine And.intro trivial ?_ | exact trivial | exact leX_refl _ | refine weak_fr ?_ ?_ rfl | refine And.intro ?_ ?_ | fail)
          all_goals first
            | contradiction
            | (exfalso; rw [decide_eq_true hc0] at h; exact absurd h (by decide))
            | (exfalso; omega)
            | exact leB rfl
            | trace_state
      · have e : p.firstF n = none := if_neg fun h => hn h.2
        rw [e] at h49
        simp only [Option.getD_none, Option.isSome_none] at h49
        repeat' (conv => whnf
                 first | refine Frz.own ?_ | refine Get.mk _ rfl ?_ | refine Get.mk _ (map_geti (by omega)) ?_ | refine Get.mk _ (map_getp (by omega) (by omega)) ?_ | refine Get.mk _ (map_get (by omega)) ?_ | refine Bv2.mk _ _ rfl rfl ?_ | refine Bv1.mk _ rfl ?_ | refine Wr.mk _ (wrap_i64 (by omega) (by omega)) ?_ | refine Wr.mk _ rfl ?_ | refine And.intro len_map ?_ | refine And.intro (leX_refl _) ?_ | refine And.intro rfl ?_ | refine And.intro (leO_some _) ?_ | (refine And.intro (fun h => absurd h (by decide)) (fun h => ?_); clear h) | (refine And.intro (fun h => ?_) (fun h => absurd h (by decide)); clear h) | (with_reducible first | refine sp1 (fun h => ?_) (fun h => ?_) | refine sp2 (fun h => ?_) (fun h => ?_) | refine sp3 (fun h => ?_) (fun h => ?_) | refine sp4 (fun h => ?_) (fun h => ?_) | refine sp5 (fun h => ?_) (fun h => ?_) | refine sp6 (fun h => ?_) (fun h => ?_)) | with_reducible refine And.intro (fun h => ?_) (fun h => ?_) | refine And.intro (Int.natCast_nonneg _) ?_ | refine And.intro (by omega) ?_ | refine And.intro (by decide) ?_ | refine Lst.mk _ rfl ?_ | refine Or.inr (Or.inl ⟨_, _, h18, leL_refl _, rfl, rfl, ?_⟩) | refine Or.inr (Or.inl ⟨_, _, h35, leL_refl _, rfl, rfl, ?_⟩) | refine Or.inr (Or.inl ⟨_, _, h49, leL_refl _, rfl, rfl, ?_⟩) | refine Or.inr (Or.inl ⟨_, _, h43, leL_refl _, rfl, rfl, ?_⟩) | refine Or.inr (Or.inl ⟨_, _, h44, leL_refl _, rfl, rfl, ?_⟩) | refine Or.inr (Or.inl ⟨_, _, h50, leL_refl _, rfl, rfl, ?_⟩) | refine Or.inr (Or.inl ⟨_, _, h31, leL_refl _, rfl, rfl, ?_⟩) | refine Or.inr (Or.inl ⟨_, _, h36, leL_refl _, rfl, rfl, ?_⟩) | refine Or.inr (Or.inl ⟨_, _, s42, leL_refl _, rfl, rfl, ?_⟩) | refine And.intro trivial ?_ | exact trivial | exact leX_refl _ | refine weak_fr ?_ ?_ rfl | refine And.intro ?_ ?_ | fail)
        all_goals first
          | contradiction
          | (exfalso; rw [decide_eq_true hc0] at h; exact absurd h (by decide))
          | (exfalso; omega)
          | exact leB rfl
          | trace_state
    · unfold fitTV at h43
      rw [if_neg hE] at h43
      rw [← hcut] at h43 h44
      refine spec_s is11 mixed rfl (V_x ?_)
      by_cases hr : p.right
      · rw [decide_eq_true hr] at h35
        by_cases hn : 1 ≤ n
        · have e : p.firstF n = p.firstC n := if_pos ⟨hr, hn⟩
          rw [e] at h49
          have hrf := And.intro (show 0 ≤ p.frame by have := hr.lo; omega) hr.hi
          have h45 := s45 p n hpl hrf (share_range hr)
          cases hfc : p.firstC n with
          | none =>
            rw [hfc] at h49 h45
            simp only [Option.getD_none, Option.isSome_none] at h49 h45
            repeat' (conv => whnf
                     first | refine Frz.own ?_ | refine Get.mk _ rfl ?_ | refine Get.mk _ (map_geti (by omega)) ?_ | refine Get.mk _ (map_getp (by omega) (by omega)) ?_ | refine Get.mk _ (map_get (by omega)) ?_ | refine Bv2.mk _ _ rfl rfl ?_ | refine Bv1.mk _ rfl ?_ | refine Wr.mk _ (wrap_i64 (by omega) (by omega)) ?_ | refine Wr.mk _ rfl ?_ | refine And.intro len_map ?_ | refine And.intro (leX_refl _) ?_ | refine And.intro rfl ?_ | refine And.intro (leO_some _) ?_ | (refine And.intro (fun h => absurd h (by decide)) (fun h => ?_); clear h) | (refine And.intro (fun h => ?_) (fun h => absurd h (by decide)); clear h) | (with_reducible first | refine sp1 (fun h => ?_) (fun h => ?_) | refine sp2 (fun h => ?_) (fun h => ?_) | refine sp3 (fun h => ?_) (fun h => ?_) | refine sp4 (fun h => ?_) (fun h => ?_) | refine sp5 (fun h => ?_) (fun h => ?_) | refine sp6 (fun h => ?_) (fun h => ?_)) | with_reducible refine And.intro (fun h => ?_) (fun h => ?_) | refine And.intro (Int.natCast_nonneg _) ?_ | refine And.intro (by omega) ?_ | refine And.intro (by decide) ?_ | refine Lst.mk _ rfl ?_ | refine Or.inr (Or.inl ⟨_, _, h18, leL_refl _, rfl, rfl, ?_⟩) | refine Or.inr (Or.inl ⟨_, _, h35, leL_refl _, rfl, rfl, ?_⟩) | refine Or.inr (Or.inl ⟨_, _, h45, leL_refl _, rfl, rfl, ?_⟩) | refine Or.inr (Or.inl ⟨_, _, h49, leL_refl _, rfl, rfl, ?_⟩) | refine Or.inr (Or.inl ⟨_, _, h43, leL_refl _, rfl, rfl, ?_⟩) | refine Or.inr (Or.inl ⟨_, _, h44, leL_refl _, rfl, rfl, ?_⟩) | refine Or.inr (Or.inl ⟨_, _, s31zF, leL_refl _, rfl, rfl, ?_⟩) | refine Or.inr (Or.inl ⟨_, _, s42, leL_refl _, rfl, rfl, ?_⟩) | refine And.intro trivial ?_ | exact trivial | exact leX_refl _ | refine weak_fr ?_ ?_ rfl | refine And.intro ?_ ?_ | fail)
            all_goals first
              | contradiction
              | (exfalso; rw [decide_eq_true hc0] at h; exact absurd h (by decide))
              | (exfalso; omega)
              | exact leB rfl
              | trace_state
          | some c =>
            have hc0 := firstC_some hfc
            have hc0 := (has_range hc0.1).1
            rw [hfc] at h49 h45
            simp only [Option.getD_some, Option.isSome_some] at h49 h45
            repeat' (conv => whnf
                     first | refine Frz.own ?_ | refine Get.mk _ rfl ?_ | refine Get.mk _ (map_geti (by omega)) ?_ | refine Get.mk _ (map_getp (by omega) (by omega)) ?_ | refine Get.mk _ (map_get (by omega)) ?_ | refine Bv2.mk _ _ rfl rfl ?_ | refine Bv1.mk _ rfl ?_ | refine Wr.mk _ (wrap_i64 (by omega) (by omega)) ?_ | refine Wr.mk _ rfl ?_ | refine And.intro len_map ?_ | refine And.intro (leX_refl _) ?_ | refine And.intro rfl ?_ | refine And.intro (leO_some _) ?_ | (refine And.intro (fun h => absurd h (by decide)) (fun h => ?_); clear h) | (refine And.intro (fun h => ?_) (fun h => absurd h (by decide)); clear h) | (with_reducible first | refine sp1 (fun h => ?_) (fun h => ?_) | refine sp2 (fun h => ?_) (fun h => ?_) | refine sp3 (fun h => ?_) (fun h => ?_) | refine sp4 (fun h => ?_) (fun h => ?_) | refine sp5 (fun h => ?_) (fun h => ?_) | refine sp6 (fun h => ?_) (fun h => ?_)) | with_reducible refine And.intro (fun h => ?_) (fun h => ?_) | refine And.intro (Int.natCast_nonneg _) ?_ | refine And.intro (by omega) ?_ | refine And.intro (by decide) ?_ | refine Lst.mk _ rfl ?_ | refine Or.inr (Or.inl ⟨_, _, h18, leL_refl _, rfl, rfl, ?_⟩) | refine Or.inr (Or.inl ⟨_, _, h35, leL_refl _, rfl, rfl, ?_⟩) | refine Or.inr (Or.inl ⟨_, _, h45, leL_refl _, rfl, rfl, ?_⟩) | refine Or.inr (Or.inl ⟨_, _, h49, leL_refl _, rfl, rfl, ?_⟩) | refine Or.inr (Or.inl ⟨_, _, h43, leL_refl _, rfl, rfl, ?_⟩) | refine Or.inr (Or.inl ⟨_, _, h44, leL_refl _, rfl, rfl, ?_⟩) | refine Or.inr (Or.inl ⟨_, _, s31zF, leL_refl _, rfl, rfl, ?_⟩) | refine Or.inr (Or.inl ⟨_, _, s42, leL_refl _, rfl, rfl, ?_⟩) | refine And.intro trivial ?_ | exact trivial | exact leX_refl _ | refine weak_fr ?_ ?_ rfl | refine And.intro ?_ ?_ | fail)
            all_goals first
              | contradiction
              | (exfalso; rw [decide_eq_true hc0] at h; exact absurd h (by decide))
              | (exfalso; omega)
              | exact leB rfl
              | trace_state
        · have e : p.firstF n = none := if_neg fun h => hn h.2
          rw [e] at h49
          simp only [Option.getD_none, Option.isSome_none] at h49
          repeat' (conv => whnf
                   first | refine Frz.own ?_ | refine Get.mk _ rfl ?_ | refine Get.mk _ (map_geti (by omega)) ?_ | refine Get.mk _ (map_getp (by omega) (by omega)) ?_ | refine Get.mk _ (map_get (by omega)) ?_ | refine Bv2.mk _ _ rfl rfl ?_ | refine Bv1.mk _ rfl ?_ | refine Wr.mk _ (wrap_i64 (by omega) (by omega)) ?_ | refine Wr.mk _ rfl ?_ | refine And.intro len_map ?_ | refine And.intro (leX_refl _) ?_ | refine And.intro rfl ?_ | refine And.intro (leO_some _) ?_ | (refine And.intro (fun h => absurd h (by decide)) (fun h => ?_); clear h) | (refine And.intro (fun h => ?_) (fun h => absurd h (by decide)); clear h) | (with_reducible first | refine sp1 (fun h => ?_) (fun h => ?_) | refine sp2 (fun h => ?_) (fun h => ?_) | refine sp3 (fun h => ?_) (fun h => ?_) | refine sp4 (fun h => ?_) (fun h => ?_) | refine sp5 (fun h => ?_) (fun h => ?_) | refine sp6 (fun h => ?_) (fun h => ?_)) | with_reducible refine And.intro (fun h => ?_) (fun h => ?_) | refine And.intro (Int.natCast_nonneg _) ?_ | refine And.intro (by omega) ?_ | refine And.intro (by decide) ?_ | refine Lst.mk _ rfl ?_ | refine Or.inr (Or.inl ⟨_, _, h18, leL_refl _, rfl, rfl, ?_⟩) | refine Or.inr (Or.inl ⟨_, _, h35, leL_refl _, rfl, rfl, ?_⟩) | refine Or.inr (Or.inl ⟨_, _, h49, leL_refl _, rfl, rfl, ?_⟩) | refine Or.inr (Or.inl ⟨_, _, h43, leL_refl _, rfl, rfl, ?_⟩) | refine Or.inr (Or.inl ⟨_, _, h44, leL_refl _, rfl, rfl, ?_⟩) | refine Or.inr (Or.inl ⟨_, _, s31zF, leL_refl _, rfl, rfl, ?_⟩) | refine Or.inr (Or.inl ⟨_, _, s42, leL_refl _, rfl, rfl, ?_⟩) | refine And.intro trivial ?_ | exact trivial | exact leX_refl _ | refine weak_fr ?_ ?_ rfl | refine And.intro ?_ ?_ | fail)
          all_goals first
            | contradiction
            | (exfalso; rw [decide_eq_true hc0] at h; exact absurd h (by decide))
            | (exfalso; omega)
            | exact leB rfl
            | trace_state
      · rw [decide_eq_false hr] at h35
        have e : p.firstF n = none := if_neg fun h => hr h.1
        rw [e] at h49
        simp only [Option.getD_none, Option.isSome_none] at h49
        repeat' (conv => whnf
                 first | refine Frz.own ?_ | refine Get.mk _ rfl ?_ | refine Get.mk _ (map_geti (by omega)) ?_ | refine Get.mk _ (map_getp (by omega) (by omega)) ?_ | refine Get.mk _ (map_get (by omega)) ?_ | refine Bv2.mk _ _ rfl rfl ?_ | refine Bv1.mk _ rfl ?_ | refine Wr.mk _ (wrap_i64 (by omega) (by omega)) ?_ | refine Wr.mk _ rfl ?_ | refine And.intro len_map ?_ | refine And.intro (leX_refl _) ?_ | refine And.intro rfl ?_ | refine And.intro (leO_some _) ?_ | (refine And.intro (fun h => absurd h (by decide)) (fun h => ?_); clear h) | (refine And.intro (fun h => ?_) (fun h => absurd h (by decide)); clear h) | (with_reducible first | refine sp1 (fun h => ?_) (fun h => ?_) | refine sp2 (fun h => ?_) (fun h => ?_) | refine sp3 (fun h => ?_) (fun h => ?_) | refine sp4 (fun h => ?_) (fun h => ?_) | refine sp5 (fun h => ?_) (fun h => ?_) | refine sp6 (fun h => ?_) (fun h => ?_)) | with_reducible refine And.intro (fun h => ?_) (fun h => ?_) | refine And.intro (Int.natCast_nonneg _) ?_ | refine And.intro (by omega) ?_ | refine And.intro (by decide) ?_ | refine Lst.mk _ rfl ?_ | refine Or.inr (Or.inl ⟨_, _, h18, leL_refl _, rfl, rfl, ?_⟩) | refine Or.inr (Or.inl ⟨_, _, h35, leL_refl _, rfl, rfl, ?_⟩) | refine Or.inr (Or.inl ⟨_, _, h49, leL_refl _, rfl, rfl, ?_⟩) | refine Or.inr (Or.inl ⟨_, _, h43, leL_refl _, rfl, rfl, ?_⟩) | refine Or.inr (Or.inl ⟨_, _, h44, leL_refl _, rfl, rfl, ?_⟩) | refine Or.inr (Or.inl ⟨_, _, s31zF, leL_refl _, rfl, rfl, ?_⟩) | refine Or.inr (Or.inl ⟨_, _, s42, leL_refl _, rfl, rfl, ?_⟩) | refine And.intro trivial ?_ | exact trivial | exact leX_refl _ | refine weak_fr ?_ ?_ rfl | refine And.intro ?_ ?_ | fail)
        all_goals first
          | contradiction
          | (exfalso; rw [decide_eq_true hc0] at h; exact absurd h (by decide))
          | (exfalso; omega)
          | exact leB rfl
          | trace_state
  · rw [decide_eq_false hp] at h18
    refine spec_s is11 mixed rfl (V_x ?_)
    repeat' (conv => whnf
             first | refine Frz.own ?_ | refine Get.mk _ rfl ?_ | refine Get.mk _ (map_geti (by omega)) ?_ | refine Get.mk _ (map_getp (by omega) (by omega)) ?_ | refine Get.mk _ (map_get (by omega)) ?_ | refine Bv2.mk _ _ rfl rfl ?_ | refine Bv1.mk _ rfl ?_ | refine Wr.mk _ (wrap_i64 (by omega) (by omega)) ?_ | refine Wr.mk _ rfl ?_ | refine And.intro len_map ?_ | refine And.intro (leX_refl _) ?_ | refine And.intro rfl ?_ | refine And.intro (leO_some _) ?_ | (refine And.intro (fun h => absurd h (by decide)) (fun h => ?_); clear h) | (refine And.intro (fun h => ?_) (fun h => absurd h (by decide)); clear h) | (with_reducible first | refine sp1 (fun h => ?_) (fun h => ?_) | refine sp2 (fun h => ?_) (fun h => ?_) | refine sp3 (fun h => ?_) (fun h => ?_) | refine sp4 (fun h => ?_) (fun h => ?_) | refine sp5 (fun h => ?_) (fun h => ?_) | refine sp6 (fun h => ?_) (fun h => ?_)) | with_reducible refine And.intro (fun h => ?_) (fun h => ?_) | refine And.intro (Int.natCast_nonneg _) ?_ | refine And.intro (by omega) ?_ | refine And.intro (by decide) ?_ | refine Lst.mk _ rfl ?_ | refine Or.inr (Or.inl ⟨_, _, h18, leL_refl _, rfl, rfl, ?_⟩) | refine Or.inr (Or.inl ⟨_, _, s42, leL_refl _, rfl, rfl, ?_⟩) | refine And.intro trivial ?_ | exact trivial | exact leX_refl _ | refine weak_fr ?_ ?_ rfl | refine And.intro ?_ ?_ | fail)
    all_goals first
      | contradiction
      | (exfalso; rw [decide_eq_true hc0] at h; exact absurd h (by decide))
      | exact leB rfl
      | trace_state
end Go.Proofs.Ytjmjolefhcjedaa.Vc
