/- The page's example. -/
import Derived.Test.YtdbeeenjcjplhaaDoorEd
namespace Go.Proofs.YtdbeeenjcjplhaaDoor.Vc
open Go Go.RowKit Go.Proofs Go.Proofs.Tryd
set_option maxRecDepth 20000
theorem itoa2 : itoaB 2 = ⟨#[50]⟩ := by simp [itoaB, Lib.itoa, Lib.decDigits]
theorem itoa3 : itoaB 3 = ⟨#[51]⟩ := by simp [itoaB, Lib.itoa, Lib.decDigits]
theorem itoa7 : itoaB 7 = ⟨#[55]⟩ := by simp [itoaB, Lib.itoa, Lib.decDigits]
abbrev cmdB : ByteArray := ⟨#[99, 109, 100]⟩
abbrev scrB : ByteArray := ⟨#[115, 99, 114, 105, 112, 116]⟩
def exE : Err := .flt 3 scrB 7 (.flt 3 cmdB 2 .nil)
theorem ex_text : exE.text = ⟨#[115, 99, 114, 105, 112, 116, 32, 55, 32, 35, 51, 58, 32, 99, 109, 100, 32, 50, 32, 35, 51]⟩ := by
  have h1 : linkB 3 scrB 7 = ⟨#[115, 99, 114, 105, 112, 116, 32, 55, 32, 35, 51]⟩ := by
    unfold linkB; rw [itoa7, itoa3]; rfl
  have h2 : linkB 3 cmdB 2 = ⟨#[99, 109, 100, 32, 50, 32, 35, 51]⟩ := by
    unfold linkB; rw [itoa2, itoa3]; rfl
  unfold Err.text
  rw [if_neg (by simp [exE, Err.isNil]), if_neg (by simp [exE, Err.links])]
  show joinB [linkB 3 scrB 7, linkB 3 cmdB 2] colon = _
  rw [h1, h2]
  rfl
theorem s12 : Spec prog 12 [] [] (tB true) [] := by
  have h25 : Spec prog 25 [tI 3, tS cmdB, tI 2] [] (.x 23 (.r [tI 3, tS cmdB, tI 2, .v .nilIface])) [] := s25 3 2 cmdB
  have h27 : Spec prog 27 [.x 23 (.r [tI 3, tS cmdB, tI 2, .v .nilIface]), tS scrB, tI 7] [] exE.tv [] := s27 (.flt 3 cmdB 2 .nil) 7 scrB
  have hl : exE.links.length ≤ 1000000 := by simp [exE, Err.links]
  have hf : ∀ k ∈ exE.links, k.fine := by
    intro k hk
    simp only [exE, Err.links, List.mem_cons, List.not_mem_nil, or_false] at hk
    rcases hk with rfl | rfl
    · exact ⟨⟨by decide, by decide⟩, ⟨by decide, by decide⟩, by decide⟩
    · exact ⟨⟨by decide, by decide⟩, ⟨by decide, by decide⟩, by decide⟩
  have h21 := s21 exE hl hf
  rw [ex_text] at h21
  have h19 : Spec prog 19 [exE.tv] [] (tI 3) [] := s19 exE
  have h23a : Spec prog 23 [exE.tv, tI 3] [] (tB true) [] := by
    have h := s23 exE 3
    have e : exE.hasC 3 = true := by simp [exE, Err.hasC, Err.isNil, Err.has]
    rw [e] at h; exact h
  have h23b : Spec prog 23 [exE.tv, tI 10] [] (tB false) [] := by
    have h := s23 exE 10
    have e : exE.hasC 10 = false := by simp [exE, Err.hasC, Err.isNil, Err.has]
    rw [e] at h; exact h
  have h18 : Spec prog 18 [exE.tv] [] (.s 3 [.a [tI 3, tS scrB, tI 7], .a [tI 3, tS cmdB, tI 2]]) [] := s18 exE hl
  have hE : exE.tv = .x 23 (.r [tI 3, tS scrB, tI 7, .x 23 (.r [tI 3, tS cmdB, tI 2, .v .nilIface])]) := rfl
  rw [hE] at *
  refine spec_s is12 mixed rfl (V_x ?_)
  repeat' (first | ((conv => whnf) <;>
           first | refine Frz.own ?_ | refine Get.mk _ rfl ?_ | refine Get.mk _ (map_geti (by omega)) ?_ | refine Get.mk _ (map_getp (by omega) (by omega)) ?_ | refine Get.mk _ (map_get (by omega)) ?_ | refine Bv2.mk _ _ rfl rfl ?_ | refine Bv1.mk _ rfl ?_ | refine Wr.mk _ (wrap_i64 (by omega) (by omega)) ?_ | refine Wr.mk _ rfl ?_ | refine And.intro len_map ?_ | refine And.intro (leX_refl _) ?_ | refine And.intro rfl ?_ | refine And.intro (leO_some _) ?_ | (refine And.intro (fun h => absurd h (by decide)) (fun h => ?_); clear h) | (refine And.intro (fun h => ?_) (fun h => absurd h (by decide)); clear h) | (with_reducible first | refine sp1 (fun h => ?_) (fun h => ?_) | refine sp2 (fun h => ?_) (fun h => ?_) | refine sp3 (fun h => ?_) (fun h => ?_) | refine sp4 (fun h => ?_) (fun h => ?_) | refine sp5 (fun h => ?_) (fun h => ?_) | refine sp6 (fun h => ?_) (fun h => ?_)) | with_reducible refine And.intro (fun h => ?_) (fun h => ?_) | refine And.intro (Int.natCast_nonneg _) ?_ | refine And.intro (by omega) ?_ | refine And.intro (by decide) ?_ | refine Lst.mk _ rfl ?_ | refine Byt.mk _ rfl ?_ | refine Or.inr (Or.inl ⟨_, _, h25, leL_refl _, rfl, rfl, ?_⟩) | refine Or.inr (Or.inl ⟨_, _, h27, leL_refl _, rfl, rfl, ?_⟩) | refine Or.inr (Or.inl ⟨_, _, h21, leL_refl _, rfl, rfl, ?_⟩) | refine Or.inr (Or.inl ⟨_, _, h19, leL_refl _, rfl, rfl, ?_⟩) | refine Or.inr (Or.inl ⟨_, _, h23a, leL_refl _, rfl, rfl, ?_⟩) | refine Or.inr (Or.inl ⟨_, _, h23b, leL_refl _, rfl, rfl, ?_⟩) | refine Or.inr (Or.inl ⟨_, _, h18, leL_refl _, rfl, rfl, ?_⟩) | refine And.intro trivial ?_ | exact trivial | exact leX_refl _ | exact rfl | refine frc_mk ?_ | refine weak_fr ?_ ?_ rfl | refine And.intro ?_ ?_ | fail) | refine frc_mk ?_)
  all_goals first
    | contradiction
    | exact leX_refl _
    | (exfalso; clear h25 h27 h21 h19 h23a h23b h18 hE hf hl; simp_all; done)
    | trace_state
end Go.Proofs.YtdbeeenjcjplhaaDoor.Vc
