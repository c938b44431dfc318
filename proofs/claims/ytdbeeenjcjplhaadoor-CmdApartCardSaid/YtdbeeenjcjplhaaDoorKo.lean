/- The statements of cmd, walked. -/
import Derived.Test.YtdbeeenjcjplhaaDoorKn
import Derived.Test.YtdbeeenjcjplhaaDoorKl
namespace Go.Proofs.YtdbeeenjcjplhaaDoor.Vc
open Go Go.RowKit Go.Proofs Go.Proofs.Tryd
set_option linter.unusedSimpArgs false
set_option linter.unusedVariables false
set_option maxRecDepth 20000
theorem itoa1 : itoaB 1 = ⟨#[49]⟩ := by simp [itoaB, Lib.itoa, Lib.decDigits]
def exC : CmdF := ⟨1, 7, 0, 3, 0, 0, 0, 0⟩
def exN : Err := .flt 3 cmdB 1 (.flt 3 fieldB 2 .nil)
theorem exC_check : checkE exC = .nil := checkE_ok (fs := [3, 1]) rfl (by decide) rfl
theorem exC_enc : encE exC = [1#8, 3#8, 7#8] := by
  unfold encE
  rw [exC_check, if_pos (show Err.nil.isNil = true from rfl)]
  show [byteOp 1] ++ numI 3 ++ numI 7 = _
  unfold numI
  rw [numN_small (by decide), numN_small (by decide)]
  rfl
theorem exN_dec : decE [1#8, 3#8, 128#8] = (cmd0 0, exN) := by
  rw [decE_some (fs := [3, 1]) rfl]
  have hS : decS (1#8).toNat [3#8, 128#8] [3, 1] = ⟨⟨1, 0, 0, 3, 0, 0, 0, 0⟩, 2, ⟨[], 3⟩, 2⟩ := by rfl
  rw [hS]
  rfl
theorem exN_text : exN.text = ⟨#[99, 109, 100, 32, 49, 32, 35, 51, 58, 32, 102, 105, 101, 108, 100, 32, 50, 32, 35, 51]⟩ := by
  have h1 : linkB 3 cmdB 1 = ⟨#[99, 109, 100, 32, 49, 32, 35, 51]⟩ := by
    unfold linkB; rw [itoa1, itoa3]; rfl
  have h2 : linkB 3 fieldB 2 = ⟨#[102, 105, 101, 108, 100, 32, 50, 32, 35, 51]⟩ := by
    unfold linkB; rw [itoa2, itoa3]; rfl
  unfold Err.text
  rw [if_neg (by simp [exN, Err.isNil]), if_neg (by simp [exN, Err.links])]
  show joinB [linkB 3 cmdB 1, linkB 3 fieldB 2] colon = _
  rw [h1, h2]
  rfl
abbrev S37 : Prop := ∀ l : List (BitVec 8), l.length ≤ 1000000 → Spec prog 37 [.s 1 (l.map bytTV)] [] (.t [(decE l).1.tv, (decE l).2.tv]) []
set_option maxHeartbeats 8000000 in
theorem s34 (h37 : S37) : Spec prog 34 [] [] (tB true) [] := by
  have h35 := s35 exC
  rw [exC_enc, exC_check] at h35
  have h37 := h37 [1#8, 3#8, 128#8] (by decide)
  rw [exN_dec] at h37
  have hl : exN.links.length ≤ 1000000 := by simp [exN, Err.links]
  have hf : ∀ k ∈ exN.links, k.fine := by
    intro k hk
    simp only [exN, Err.links, List.mem_cons, List.not_mem_nil, or_false] at hk
    rcases hk with rfl | rfl
    · exact ⟨⟨by decide, by decide⟩, ⟨by decide, by decide⟩, by decide⟩
    · exact ⟨⟨by decide, by decide⟩, ⟨by decide, by decide⟩, by decide⟩
  have h21 := s21 exN hl hf
  rw [exN_text] at h21
  have h23 : Spec prog 23 [exN.tv, tI 3] [] (tB true) [] := by
    have h := s23 exN 3
    have e : exN.hasC 3 = true := by simp [exN, Err.hasC, Err.isNil, Err.has]
    rw [e] at h; exact h
  have h33 : Spec prog 33 [tI 9] [] (tI 4) [] := s33 9
  have hE : exN.tv = .x 23 (.r [tI 3, tS cmdB, tI 1, .x 23 (.r [tI 3, tS fieldB, tI 2, .v .nilIface])]) := rfl
  rw [hE] at *
  dsimp only [CmdF.tv, exC, cmd0, Err.tv] at *
  refine spec_s is34 mixed rfl (V_x ?_)
  repeat' (first | ((conv => whnf) <;>
           first | refine (Frz.frz ?_ : Frz 11 _ _) | refine (Frz.frz ?_ : Frz 17 _ _) | refine Frz.own ?_ | refine Get.mk _ rfl ?_ | refine Get.mk _ (map_geti (by omega)) ?_ | refine Get.mk _ (map_getp (by omega) (by omega)) ?_ | refine Get.mk _ (map_get (by omega)) ?_ | refine Bv2.mk _ _ rfl rfl ?_ | refine Bv1.mk _ rfl ?_ | refine Wr.mk _ (wrap_i64 (by omega) (by omega)) ?_ | refine Wr.mk _ rfl ?_ | refine And.intro len_map ?_ | refine And.intro (leX_refl _) ?_ | refine And.intro rfl ?_ | refine And.intro (leO_some _) ?_ | (refine And.intro (fun h => absurd h (by decide)) (fun h => ?_); clear h) | (refine And.intro (fun h => ?_) (fun h => absurd h (by decide)); clear h) | (with_reducible first | refine sp1 (fun h => ?_) (fun h => ?_) | refine sp2 (fun h => ?_) (fun h => ?_) | refine sp3 (fun h => ?_) (fun h => ?_) | refine sp4 (fun h => ?_) (fun h => ?_) | refine sp5 (fun h => ?_) (fun h => ?_) | refine sp6 (fun h => ?_) (fun h => ?_)) | with_reducible refine And.intro (fun h => ?_) (fun h => ?_) | refine And.intro (Int.natCast_nonneg _) ?_ | refine And.intro (by omega) ?_ | refine And.intro (by decide) ?_ | refine Lst.mk _ rfl ?_ | refine Byt.mk ([1#8, 3#8, 7#8]) rfl ?_ | refine Byt.mk _ rfl ?_ | refine Or.inr (Or.inl ⟨_, _, h35, leL_refl _, rfl, rfl, ?_⟩) | refine Or.inr (Or.inl ⟨_, _, h37, leL_refl _, rfl, rfl, ?_⟩) | refine Or.inr (Or.inl ⟨_, _, h21, leL_refl _, rfl, rfl, ?_⟩) | refine Or.inr (Or.inl ⟨_, _, h23, leL_refl _, rfl, rfl, ?_⟩) | refine Or.inr (Or.inl ⟨_, _, h33, leL_refl _, rfl, rfl, ?_⟩) | refine And.intro trivial ?_ | exact trivial | exact leX_refl _ | exact rfl | refine frc_mk ?_ | refine weak_fr ?_ ?_ rfl | refine And.intro ?_ ?_ | fail) | refine frc_mk ?_)
  all_goals first
    | contradiction
    | exact leX_refl _
    | (exfalso; clear h35 h37 h21 h23 h33 hE hf hl; simp_all; done)
    | trace_state
theorem checkE_kind (c : CmdF) : (checkE c).links.length ≤ 1000000 ∧ (checkE c).isNil = decide ((checkE c).links.length = 0) := by
  unfold checkE
  split
  · exact ⟨by simp [Err.links], by simp [Err.links, Err.isNil]⟩
  split
  · exact ⟨by simp [Err.links], by simp [Err.links, Err.isNil]⟩
  split
  · exact ⟨by simp [Err.links], by simp [Err.links, Err.isNil]⟩
  · exact ⟨by simp [Err.links], by simp [Err.links, Err.isNil]⟩
set_option maxHeartbeats 8000000 in
theorem s7 (h37 : S37) (c : CmdF) (op : Int) : Spec prog 7 [c.tv, tI op] [] (tB true) [] := by
  have h34 := s34 h37
  have h29 := s29 op
  have h31 := s31 c
  have h32 := s32 c
  have h33 := s33 op
  have h30 := s30 (checkE c) (checkE_kind c).1 (checkE_kind c).2
  have hk := kindE (checkE c)
  clear h37
  generalize (checkE c).links.map LinkF.tv = L at *
  generalize (checkE c).tv = z at *
  unfold nFields at h33
  have hn : (fieldsOf op = none ∧ Spec prog 33 [tI op] [] (tI (-1)) [] ∧ Spec prog 29 [tI op] [] (tS exB) []) ∨ ∃ fs, fieldsOf op = some fs ∧ Spec prog 33 [tI op] [] (tI fs.length) [] ∧ Spec prog 29 [tI op] [] (tS (strB (fs.map letter))) [] := by
    cases hf : fieldsOf op with
    | none => rw [hf] at h29 h33; exact .inl ⟨rfl, h33, h29⟩
    | some fs => rw [hf] at h29 h33; exact .inr ⟨fs, rfl, h33, h29⟩
  clear h29 h33
  dsimp only [CmdF.tv] at *
  refine spec_s is7 mixed rfl (V_x ?_)
  rcases hk with ⟨_, rfl⟩ | ⟨_, ty0, y, rfl, hys, hyi⟩
  · rcases hn with ⟨_, h33, h29⟩ | ⟨fs, hf, h33, h29⟩
    · repeat' (first | ((conv => whnf) <;>
               first | refine Frz.own ?_ | refine Get.mk _ rfl ?_ | refine Get.mk _ (map_geti (by omega)) ?_ | refine Get.mk _ (map_getp (by omega) (by omega)) ?_ | refine Get.mk _ (map_get (by omega)) ?_ | refine Bv2.mk _ _ rfl rfl ?_ | refine Bv1.mk _ rfl ?_ | refine Wr.mk _ (wrap_i64 (by omega) (by omega)) ?_ | refine Wr.mk _ rfl ?_ | refine And.intro len_map ?_ | refine And.intro (leX_refl _) ?_ | refine And.intro rfl ?_ | refine And.intro (leO_some _) ?_ | (refine And.intro (fun h => absurd h (by decide)) (fun h => ?_); clear h) | (refine And.intro (fun h => ?_) (fun h => absurd h (by decide)); clear h) | (with_reducible first | refine sp1 (fun h => ?_) (fun h => ?_) | refine sp2 (fun h => ?_) (fun h => ?_) | refine sp3 (fun h => ?_) (fun h => ?_) | refine sp4 (fun h => ?_) (fun h => ?_) | refine sp5 (fun h => ?_) (fun h => ?_) | refine sp6 (fun h => ?_) (fun h => ?_)) | with_reducible refine And.intro (fun h => ?_) (fun h => ?_) | refine And.intro (Int.natCast_nonneg _) ?_ | refine And.intro (by omega) ?_ | refine And.intro (by decide) ?_ | refine Lst.mk _ rfl ?_ | refine Byt.mk _ rfl ?_ | refine Or.inr (Or.inl ⟨_, _, h29, leL_refl _, rfl, rfl, ?_⟩) | refine Or.inr (Or.inl ⟨_, _, h31, leL_refl _, rfl, rfl, ?_⟩) | refine Or.inr (Or.inl ⟨_, _, h32, leL_refl _, rfl, rfl, ?_⟩) | refine Or.inr (Or.inl ⟨_, _, h30, leL_refl _, rfl, rfl, ?_⟩) | refine Or.inr (Or.inl ⟨_, _, h33, leL_refl _, rfl, rfl, ?_⟩) | refine Or.inr (Or.inl ⟨_, _, h34, leL_refl _, rfl, rfl, ?_⟩) | refine And.intro trivial ?_ | exact trivial | exact leX_refl _ | exact rfl | refine frc_mk ?_ | refine weak_fr ?_ ?_ rfl | refine And.intro ?_ ?_ | fail) | refine frc_mk ?_)
      all_goals first
        | contradiction
        | exact leX_refl _
        | (exfalso; clear h29 h31 h32 h33 h34 h30; simp_all; done)
        | trace_state
    · have hne := names_ne hf
      have hsz : (strB (fs.map letter)).size = fs.length := by rw [strB_size, List.length_map]
      generalize strB (fs.map letter) = N at *
      rw [← hsz] at h33
      repeat' (first | ((conv => whnf) <;>
               first | refine Frz.own ?_ | refine Get.mk _ rfl ?_ | refine Get.mk _ (map_geti (by omega)) ?_ | refine Get.mk _ (map_getp (by omega) (by omega)) ?_ | refine Get.mk _ (map_get (by omega)) ?_ | refine Bv2.mk _ _ rfl rfl ?_ | refine Bv1.mk _ rfl ?_ | refine Wr.mk _ (wrap_i64 (by omega) (by omega)) ?_ | refine Wr.mk _ rfl ?_ | refine And.intro len_map ?_ | refine And.intro (leX_refl _) ?_ | refine And.intro rfl ?_ | refine And.intro (leO_some _) ?_ | (refine And.intro (fun h => absurd h (by decide)) (fun h => ?_); clear h) | (refine And.intro (fun h => ?_) (fun h => absurd h (by decide)); clear h) | (with_reducible first | refine sp1 (fun h => ?_) (fun h => ?_) | refine sp2 (fun h => ?_) (fun h => ?_) | refine sp3 (fun h => ?_) (fun h => ?_) | refine sp4 (fun h => ?_) (fun h => ?_) | refine sp5 (fun h => ?_) (fun h => ?_) | refine sp6 (fun h => ?_) (fun h => ?_)) | with_reducible refine And.intro (fun h => ?_) (fun h => ?_) | refine And.intro (Int.natCast_nonneg _) ?_ | refine And.intro (by omega) ?_ | refine And.intro (by decide) ?_ | refine Lst.mk _ rfl ?_ | refine Byt.mk _ rfl ?_ | refine Or.inr (Or.inl ⟨_, _, h29, leL_refl _, rfl, rfl, ?_⟩) | refine Or.inr (Or.inl ⟨_, _, h31, leL_refl _, rfl, rfl, ?_⟩) | refine Or.inr (Or.inl ⟨_, _, h32, leL_refl _, rfl, rfl, ?_⟩) | refine Or.inr (Or.inl ⟨_, _, h30, leL_refl _, rfl, rfl, ?_⟩) | refine Or.inr (Or.inl ⟨_, _, h33, leL_refl _, rfl, rfl, ?_⟩) | refine Or.inr (Or.inl ⟨_, _, h34, leL_refl _, rfl, rfl, ?_⟩) | refine And.intro trivial ?_ | exact trivial | exact leX_refl _ | exact rfl | refine frc_mk ?_ | refine weak_fr ?_ ?_ rfl | refine And.intro ?_ ?_ | fail) | refine frc_mk ?_)
      all_goals first
        | contradiction
        | exact leX_refl _
        | (exfalso; clear h29 h31 h32 h33 h34 h30; simp_all; done)
        | trace_state
  · have hid : (idsL [TV.x ty0 y, .s 3 L]).isEmpty = true := by simp [idsL, TV.ids, hyi]
    rcases hn with ⟨_, h33, h29⟩ | ⟨fs, hf, h33, h29⟩
    · repeat' (first | ((conv => whnf) <;>
               first | refine Frz.own ?_ | refine Get.mk _ rfl ?_ | refine Get.mk _ (map_geti (by omega)) ?_ | refine Get.mk _ (map_getp (by omega) (by omega)) ?_ | refine Get.mk _ (map_get (by omega)) ?_ | refine Bv2.mk _ _ rfl rfl ?_ | refine Bv1.mk _ rfl ?_ | refine Wr.mk _ (wrap_i64 (by omega) (by omega)) ?_ | refine Wr.mk _ rfl ?_ | refine And.intro len_map ?_ | refine And.intro (leX_refl _) ?_ | refine And.intro rfl ?_ | refine And.intro (leO_some _) ?_ | (refine And.intro (fun h => absurd h (by decide)) (fun h => ?_); clear h) | (refine And.intro (fun h => ?_) (fun h => absurd h (by decide)); clear h) | (with_reducible first | refine sp1 (fun h => ?_) (fun h => ?_) | refine sp2 (fun h => ?_) (fun h => ?_) | refine sp3 (fun h => ?_) (fun h => ?_) | refine sp4 (fun h => ?_) (fun h => ?_) | refine sp5 (fun h => ?_) (fun h => ?_) | refine sp6 (fun h => ?_) (fun h => ?_)) | with_reducible refine And.intro (fun h => ?_) (fun h => ?_) | refine And.intro (Int.natCast_nonneg _) ?_ | refine And.intro (by omega) ?_ | refine And.intro (by decide) ?_ | refine Lst.mk _ rfl ?_ | refine callPure (h31) (rfl) (by first | (simp [idsL, TV.ids, Err.ids, Flt.ids]; done) | (simp [TV.ids, idsL, *]; done)) ?_ | refine callPure (h30) (hid) (by first | (simp [idsL, TV.ids, Err.ids, Flt.ids]; done) | (simp [TV.ids, idsL, *]; done)) ?_ | refine Byt.mk _ rfl ?_ | refine Or.inr (Or.inl ⟨_, _, h29, leL_refl _, rfl, rfl, ?_⟩) | refine Or.inr (Or.inl ⟨_, _, h32, leL_refl _, rfl, rfl, ?_⟩) | refine Or.inr (Or.inl ⟨_, _, h33, leL_refl _, rfl, rfl, ?_⟩) | refine Or.inr (Or.inl ⟨_, _, h34, leL_refl _, rfl, rfl, ?_⟩) | refine And.intro trivial ?_ | exact trivial | exact leX_refl _ | exact rfl | refine frc_mk ?_ | refine weak_fr ?_ ?_ rfl | refine And.intro ?_ ?_ | fail) | refine frc_mk ?_)
      all_goals first
        | contradiction
        | exact leX_refl _
        | (exfalso; clear h29 h31 h32 h33 h34 h30; simp_all; done)
        | trace_state
    · have hne := names_ne hf
      have hsz : (strB (fs.map letter)).size = fs.length := by rw [strB_size, List.length_map]
      generalize strB (fs.map letter) = N at *
      rw [← hsz] at h33
      repeat' (first | ((conv => whnf) <;>
               first | refine Frz.own ?_ | refine Get.mk _ rfl ?_ | refine Get.mk _ (map_geti (by omega)) ?_ | refine Get.mk _ (map_getp (by omega) (by omega)) ?_ | refine Get.mk _ (map_get (by omega)) ?_ | refine Bv2.mk _ _ rfl rfl ?_ | refine Bv1.mk _ rfl ?_ | refine Wr.mk _ (wrap_i64 (by omega) (by omega)) ?_ | refine Wr.mk _ rfl ?_ | refine And.intro len_map ?_ | refine And.intro (leX_refl _) ?_ | refine And.intro rfl ?_ | refine And.intro (leO_some _) ?_ | (refine And.intro (fun h => absurd h (by decide)) (fun h => ?_); clear h) | (refine And.intro (fun h => ?_) (fun h => absurd h (by decide)); clear h) | (with_reducible first | refine sp1 (fun h => ?_) (fun h => ?_) | refine sp2 (fun h => ?_) (fun h => ?_) | refine sp3 (fun h => ?_) (fun h => ?_) | refine sp4 (fun h => ?_) (fun h => ?_) | refine sp5 (fun h => ?_) (fun h => ?_) | refine sp6 (fun h => ?_) (fun h => ?_)) | with_reducible refine And.intro (fun h => ?_) (fun h => ?_) | refine And.intro (Int.natCast_nonneg _) ?_ | refine And.intro (by omega) ?_ | refine And.intro (by decide) ?_ | refine Lst.mk _ rfl ?_ | refine callPure (h31) (rfl) (by first | (simp [idsL, TV.ids, Err.ids, Flt.ids]; done) | (simp [TV.ids, idsL, *]; done)) ?_ | refine callPure (h30) (hid) (by first | (simp [idsL, TV.ids, Err.ids, Flt.ids]; done) | (simp [TV.ids, idsL, *]; done)) ?_ | refine Byt.mk _ rfl ?_ | refine Or.inr (Or.inl ⟨_, _, h29, leL_refl _, rfl, rfl, ?_⟩) | refine Or.inr (Or.inl ⟨_, _, h32, leL_refl _, rfl, rfl, ?_⟩) | refine Or.inr (Or.inl ⟨_, _, h33, leL_refl _, rfl, rfl, ?_⟩) | refine Or.inr (Or.inl ⟨_, _, h34, leL_refl _, rfl, rfl, ?_⟩) | refine And.intro trivial ?_ | exact trivial | exact leX_refl _ | exact rfl | refine frc_mk ?_ | refine weak_fr ?_ ?_ rfl | refine And.intro ?_ ?_ | fail) | refine frc_mk ?_)
      all_goals first
        | contradiction
        | exact leX_refl _
        | (exfalso; clear h29 h31 h32 h33 h34 h30; simp_all; done)
        | trace_state
set_option maxHeartbeats 8000000 in
theorem s8 (h37 : S37) (c : CmdF) : Spec prog 8 [c.tv] [] (tB true) [] := by
  have h34 := s34 h37
  have h32 := s32 c
  have h35 := s35 c
  have h36 := s36 c
  have h30 := s30 (checkE c) (checkE_kind c).1 (checkE_kind c).2
  have hk := kindE (checkE c)
  have hnl := (checkE_kind c).2
  have hsome : (checkE c).isNil = true → (fieldsOf c.op).isSome = true := fun h => by
    cases hf : fieldsOf c.op with
    | none => rw [checkE_none hf] at h; cases h
    | some fs => rfl
  have hlm : ((checkE c).links.map LinkF.tv).length = (checkE c).links.length := List.length_map _
  unfold encE at h35
  clear h37
  generalize (checkE c).links.map LinkF.tv = L at *
  generalize (checkE c).tv = z at *
  generalize (checkE c).links = LL at *
  generalize (checkE c).isNil = b at *
  generalize encC c = B at *
  dsimp only [CmdF.tv] at *
  refine spec_s is8 mixed rfl (V_x ?_)
  rcases hk with ⟨rfl, rfl⟩ | ⟨rfl, ty0, y, rfl, hys, hyi⟩
  · have h36 := h36 (hsome rfl)
    have h0 : LL.length = 0 := of_decide_eq_true hnl.symm
    rw [if_pos rfl] at h35
    repeat' (first | ((conv => whnf) <;>
             first | refine Frz.own ?_ | refine Get.mk _ rfl ?_ | refine Get.mk _ (map_geti (by omega)) ?_ | refine Get.mk _ (map_getp (by omega) (by omega)) ?_ | refine Get.mk _ (map_get (by omega)) ?_ | refine Bv2.mk _ _ rfl rfl ?_ | refine Bv1.mk _ rfl ?_ | refine Wr.mk _ (wrap_i64 (by omega) (by omega)) ?_ | refine Wr.mk _ rfl ?_ | refine And.intro len_map ?_ | refine And.intro (leX_refl _) ?_ | refine And.intro rfl ?_ | refine And.intro (leO_some _) ?_ | (refine And.intro (fun h => absurd h (by decide)) (fun h => ?_); clear h) | (refine And.intro (fun h => ?_) (fun h => absurd h (by decide)); clear h) | (with_reducible first | refine sp1 (fun h => ?_) (fun h => ?_) | refine sp2 (fun h => ?_) (fun h => ?_) | refine sp3 (fun h => ?_) (fun h => ?_) | refine sp4 (fun h => ?_) (fun h => ?_) | refine sp5 (fun h => ?_) (fun h => ?_) | refine sp6 (fun h => ?_) (fun h => ?_)) | with_reducible refine And.intro (fun h => ?_) (fun h => ?_) | refine And.intro (Int.natCast_nonneg _) ?_ | refine And.intro (by omega) ?_ | refine And.intro (by decide) ?_ | refine Lst.mk _ rfl ?_ | refine Byt.mk _ rfl ?_ | refine Or.inr (Or.inl ⟨_, _, h32, leL_refl _, rfl, rfl, ?_⟩) | refine Or.inr (Or.inl ⟨_, _, h35, leL_refl _, rfl, rfl, ?_⟩) | refine Or.inr (Or.inl ⟨_, _, h36, leL_refl _, rfl, rfl, ?_⟩) | refine Or.inr (Or.inl ⟨_, _, h34, leL_refl _, rfl, rfl, ?_⟩) | refine And.intro trivial ?_ | exact trivial | exact leX_refl _ | exact rfl | refine frc_mk ?_ | refine weak_fr ?_ ?_ rfl | refine And.intro ?_ ?_ | fail) | refine frc_mk ?_)
    all_goals first
      | contradiction
      | (exfalso; omega)
      | exact leX_refl _
      | (exfalso; clear h32 h34 h35 h36 h30 hnl hlm hsome; simp_all; done)
      | trace_state
  · have h0 : ¬ LL.length = 0 := of_decide_eq_false hnl.symm
    rw [if_neg (by simp)] at h35
    have hid : (idsL [TV.x ty0 y, .s 3 L]).isEmpty = true := by simp [idsL, TV.ids, hyi]
    repeat' (first | ((conv => whnf) <;>
             first | refine Frz.own ?_ | refine Get.mk _ rfl ?_ | refine Get.mk _ (map_geti (by omega)) ?_ | refine Get.mk _ (map_getp (by omega) (by omega)) ?_ | refine Get.mk _ (map_get (by omega)) ?_ | refine Bv2.mk _ _ rfl rfl ?_ | refine Bv1.mk _ rfl ?_ | refine Wr.mk _ (wrap_i64 (by omega) (by omega)) ?_ | refine Wr.mk _ rfl ?_ | refine And.intro len_map ?_ | refine And.intro (leX_refl _) ?_ | refine And.intro rfl ?_ | refine And.intro (leO_some _) ?_ | (refine And.intro (fun h => absurd h (by decide)) (fun h => ?_); clear h) | (refine And.intro (fun h => ?_) (fun h => absurd h (by decide)); clear h) | (with_reducible first | refine sp1 (fun h => ?_) (fun h => ?_) | refine sp2 (fun h => ?_) (fun h => ?_) | refine sp3 (fun h => ?_) (fun h => ?_) | refine sp4 (fun h => ?_) (fun h => ?_) | refine sp5 (fun h => ?_) (fun h => ?_) | refine sp6 (fun h => ?_) (fun h => ?_)) | with_reducible refine And.intro (fun h => ?_) (fun h => ?_) | refine And.intro (Int.natCast_nonneg _) ?_ | refine And.intro (by omega) ?_ | refine And.intro (by decide) ?_ | refine Lst.mk _ rfl ?_ | refine callPure (h35) (rfl) (by first | (simp [idsL, TV.ids, Err.ids, Flt.ids]; done) | (simp [TV.ids, idsL, *]; done)) ?_ | refine callPure (h30) (hid) (by first | (simp [idsL, TV.ids, Err.ids, Flt.ids]; done) | (simp [TV.ids, idsL, *]; done)) ?_ | refine Byt.mk _ rfl ?_ | refine Or.inr (Or.inl ⟨_, _, h32, leL_refl _, rfl, rfl, ?_⟩) | refine Or.inr (Or.inl ⟨_, _, h34, leL_refl _, rfl, rfl, ?_⟩) | refine And.intro trivial ?_ | exact trivial | exact leX_refl _ | exact rfl | refine frc_mk ?_ | refine weak_fr ?_ ?_ rfl | refine And.intro ?_ ?_ | fail) | refine frc_mk ?_)
    all_goals first
      | contradiction
      | (exfalso; omega)
      | exact leX_refl _
      | (exfalso; clear h32 h34 h35 h36 h30 hnl hlm hsome; simp_all; done)
      | trace_state
end Go.Proofs.YtdbeeenjcjplhaaDoor.Vc

namespace Go.Proofs.YtdbeeenjcjplhaaDoor.Vc
open Go Go.RowKit Go.Proofs Go.Proofs.Tryd
set_option linter.unusedSimpArgs false
set_option linter.unusedVariables false
set_option maxRecDepth 20000
theorem decE_kind (l : List (BitVec 8)) : ((decE l).2.links.length ≤ 1000000 ∧ (decE l).2.isNil = decide ((decE l).2.links.length = 0)) ∧ ((decE l).2.isNil = true ∨ (decE l).2.code = 3) := by
  cases l with
  | nil => exact ⟨⟨by simp [decE, Err.links], by simp [decE, Err.links, Err.isNil]⟩, .inr rfl⟩
  | cons b bs =>
    cases hf : fieldsOf b.toNat with
    | none =>
      rw [decE_none hf]
      exact ⟨⟨by simp [Err.links], by simp [Err.links, Err.isNil]⟩, .inr rfl⟩
    | some fs =>
      rw [decE_some hf]
      by_cases h1 : 0 < (decS b.toNat bs fs).b
      · rw [if_pos h1]
        exact ⟨⟨by simp [Err.links], by simp [Err.links, Err.isNil]⟩, .inr rfl⟩
      · rw [if_neg h1]
        by_cases h2 : 0 < (decS b.toNat bs fs).r.bs.length
        · rw [if_pos h2]
          exact ⟨⟨by simp [Err.links], by simp [Err.links, Err.isNil]⟩, .inr rfl⟩
        · rw [if_neg h2]
          exact ⟨⟨by simp [Err.links], by simp [Err.links, Err.isNil]⟩, .inl rfl⟩
set_option maxHeartbeats 8000000 in
theorem s9 (h37 : S37) (l : List (BitVec 8)) : Spec prog 9 [.s 1 (l.map bytTV)] [] (tB true) [] := by
  have h34 := s34 h37
  have hlm : (l.map bytTV).length = l.length := List.length_map _
  by_cases hl : 500 < l.length
  · generalize l.map bytTV = M at *
    refine spec_s is9 mixed rfl (V_x ?_)
    repeat' (first | ((conv => whnf) <;>
             first | refine Frz.own ?_ | refine Get.mk _ rfl ?_ | refine Get.mk _ (map_geti (by omega)) ?_ | refine Get.mk _ (map_getp (by omega) (by omega)) ?_ | refine Get.mk _ (map_get (by omega)) ?_ | refine Bv2.mk _ _ rfl rfl ?_ | refine Bv1.mk _ rfl ?_ | refine Wr.mk _ (wrap_i64 (by omega) (by omega)) ?_ | refine Wr.mk _ rfl ?_ | refine And.intro len_map ?_ | refine And.intro (leX_refl _) ?_ | refine And.intro rfl ?_ | refine And.intro (leO_some _) ?_ | (refine And.intro (fun h => absurd h (by decide)) (fun h => ?_); clear h) | (refine And.intro (fun h => ?_) (fun h => absurd h (by decide)); clear h) | (with_reducible first | refine sp1 (fun h => ?_) (fun h => ?_) | refine sp2 (fun h => ?_) (fun h => ?_) | refine sp3 (fun h => ?_) (fun h => ?_) | refine sp4 (fun h => ?_) (fun h => ?_) | refine sp5 (fun h => ?_) (fun h => ?_) | refine sp6 (fun h => ?_) (fun h => ?_)) | with_reducible refine And.intro (fun h => ?_) (fun h => ?_) | refine And.intro (Int.natCast_nonneg _) ?_ | refine And.intro (by omega) ?_ | refine And.intro (by decide) ?_ | refine Lst.mk _ rfl ?_ | refine Byt.mk _ rfl ?_ | refine Or.inr (Or.inl ⟨_, _, h34, leL_refl _, rfl, rfl, ?_⟩) | refine And.intro trivial ?_ | exact trivial | exact leX_refl _ | exact rfl | refine frc_mk ?_ | refine weak_fr ?_ ?_ rfl | refine And.intro ?_ ?_ | fail) | refine frc_mk ?_)
    all_goals first
      | contradiction
      | (exfalso; omega)
      | exact leX_refl _
      | trace_state
  have h38 := s38 l (by omega)
  have h37 := h37 l (by omega)
  obtain ⟨⟨hk1, hk2⟩, hk3⟩ := decE_kind l
  have h30 := s30 (decE l).2 hk1 hk2
  have h19 := s19 (decE l).2
  have hk := kindE (decE l).2
  have h8 := eq8 (decE l).1 (decE l).1
  rw [decide_eq_true rfl] at h8
  clear hk1 hk2
  generalize (decE l).2.links.map LinkF.tv = L at *
  generalize (decE l).2.tv = z at *
  generalize (decE l).2.code = C at *
  generalize (decE l).2.isNil = b at *
  generalize (decE l).1 = c at *
  generalize l.map bytTV = M at *
  dsimp only [CmdF.tv] at *
  refine spec_s is9 mixed rfl (V_x ?_)
  rcases hk with ⟨rfl, rfl⟩ | ⟨rfl, ty0, y, rfl, hys, hyi⟩
  · repeat' (first | ((conv => whnf) <;>
             first | refine Frz.own ?_ | refine Get.mk _ rfl ?_ | refine Get.mk _ (map_geti (by omega)) ?_ | refine Get.mk _ (map_getp (by omega) (by omega)) ?_ | refine Get.mk _ (map_get (by omega)) ?_ | refine Bv2.mk _ _ rfl rfl ?_ | refine Bv1.mk _ rfl ?_ | refine Wr.mk _ (wrap_i64 (by omega) (by omega)) ?_ | refine Wr.mk _ rfl ?_ | refine And.intro len_map ?_ | refine And.intro (leX_refl _) ?_ | refine And.intro rfl ?_ | refine And.intro (leO_some _) ?_ | (refine And.intro (fun h => absurd h (by decide)) (fun h => ?_); clear h) | (refine And.intro (fun h => ?_) (fun h => absurd h (by decide)); clear h) | (with_reducible first | refine sp1 (fun h => ?_) (fun h => ?_) | refine sp2 (fun h => ?_) (fun h => ?_) | refine sp3 (fun h => ?_) (fun h => ?_) | refine sp4 (fun h => ?_) (fun h => ?_) | refine sp5 (fun h => ?_) (fun h => ?_) | refine sp6 (fun h => ?_) (fun h => ?_)) | with_reducible refine And.intro (fun h => ?_) (fun h => ?_) | refine And.intro (Int.natCast_nonneg _) ?_ | refine And.intro (by omega) ?_ | refine And.intro (by decide) ?_ | refine Lst.mk _ rfl ?_ | refine Byt.mk _ rfl ?_ | refine Or.inr (Or.inl ⟨_, _, h37, leL_refl _, rfl, rfl, ?_⟩) | refine Or.inr (Or.inl ⟨_, _, h38, leL_refl _, rfl, rfl, ?_⟩) | refine Or.inr (Or.inl ⟨_, _, h30, leL_refl _, rfl, rfl, ?_⟩) | refine Or.inr (Or.inl ⟨_, _, h34, leL_refl _, rfl, rfl, ?_⟩) | refine And.intro trivial ?_ | exact trivial | exact leX_refl _ | exact rfl | refine frc_mk ?_ | refine weak_fr ?_ ?_ rfl | refine And.intro ?_ ?_ | fail) | refine frc_mk ?_)
    all_goals first
      | contradiction
      | (exfalso; omega)
      | exact leX_refl _
      | (exfalso; clear h34 h37 h38 h30 h19; simp_all; done)
      | trace_state
  · have hc : C = 3 := hk3.resolve_left (by simp)
    have hid : (idsL [TV.x ty0 y, .s 3 L]).isEmpty = true := by simp [idsL, TV.ids, hyi]
    have hid1 : (idsL [TV.x ty0 y]).isEmpty = true := by simp [idsL, TV.ids, hyi]
    rw [hc] at h19
    repeat' (first | ((conv => whnf) <;>
             first | refine Frz.own ?_ | refine Get.mk _ rfl ?_ | refine Get.mk _ (map_geti (by omega)) ?_ | refine Get.mk _ (map_getp (by omega) (by omega)) ?_ | refine Get.mk _ (map_get (by omega)) ?_ | refine Bv2.mk _ _ rfl rfl ?_ | refine Bv1.mk _ rfl ?_ | refine Wr.mk _ (wrap_i64 (by omega) (by omega)) ?_ | refine Wr.mk _ rfl ?_ | refine And.intro len_map ?_ | refine And.intro (leX_refl _) ?_ | refine And.intro rfl ?_ | refine And.intro (leO_some _) ?_ | (refine And.intro (fun h => absurd h (by decide)) (fun h => ?_); clear h) | (refine And.intro (fun h => ?_) (fun h => absurd h (by decide)); clear h) | (with_reducible first | refine sp1 (fun h => ?_) (fun h => ?_) | refine sp2 (fun h => ?_) (fun h => ?_) | refine sp3 (fun h => ?_) (fun h => ?_) | refine sp4 (fun h => ?_) (fun h => ?_) | refine sp5 (fun h => ?_) (fun h => ?_) | refine sp6 (fun h => ?_) (fun h => ?_)) | with_reducible refine And.intro (fun h => ?_) (fun h => ?_) | refine And.intro (Int.natCast_nonneg _) ?_ | refine And.intro (by omega) ?_ | refine And.intro (by decide) ?_ | refine Lst.mk _ rfl ?_ | refine callPure (h37) (rfl) (by first | (simp [idsL, TV.ids, Err.ids, Flt.ids]; done) | (simp [TV.ids, idsL, *]; done)) ?_ | refine callPure (h30) (hid) (by first | (simp [idsL, TV.ids, Err.ids, Flt.ids]; done) | (simp [TV.ids, idsL, *]; done)) ?_ | refine callPure (h19) (hid1) (by first | (simp [idsL, TV.ids, Err.ids, Flt.ids]; done) | (simp [TV.ids, idsL, *]; done)) ?_ | refine Byt.mk _ rfl ?_ | refine Or.inr (Or.inl ⟨_, _, h38, leL_refl _, rfl, rfl, ?_⟩) | refine Or.inr (Or.inl ⟨_, _, h34, leL_refl _, rfl, rfl, ?_⟩) | refine And.intro trivial ?_ | exact trivial | exact leX_refl _ | exact rfl | refine frc_mk ?_ | refine weak_fr ?_ ?_ rfl | refine And.intro ?_ ?_ | fail) | refine frc_mk ?_)
    all_goals first
      | contradiction
      | (exfalso; omega)
      | exact leX_refl _
      | (exfalso; clear h34 h37 h38 h30 h19 hid hid1 hys hyi hk3 hc; simp_all; done)
      | trace_state
end Go.Proofs.YtdbeeenjcjplhaaDoor.Vc

namespace Go.Proofs.YtdbeeenjcjplhaaDoor.Vc
open Go Go.RowKit Go.Proofs Go.Proofs.Tryd
set_option linter.unusedSimpArgs false
set_option linter.unusedVariables false
set_option maxRecDepth 20000
/-! What is written is read, and what is read was written. -/
theorem numN_form (n : Nat) : ∃ q b, numN n = q ++ [b] ∧ (∀ x ∈ q, 128 ≤ x.toNat) ∧ b.toNat < 128 := by
  induction n using Nat.strongRecOn with
  | _ n ih =>
    by_cases h : n < 128
    · exact ⟨[], BitVec.ofNat 8 n, by rw [numN_small h]; rfl, by simp, by simp; omega⟩
    · obtain ⟨q, b, h1, h2, h3⟩ := ih (n / 128) (by omega)
      refine ⟨BitVec.ofNat 8 (128 + n % 128) :: q, b, by rw [numN_big h, h1]; rfl, fun x hx => ?_, h3⟩
      rcases List.mem_cons.1 hx with rfl | hx
      · simp; omega
      · exact h2 x hx
theorem lead_form : ∀ (q : List (BitVec 8)) (b : BitVec 8) (r : List (BitVec 8)), (∀ x ∈ q, 128 ≤ x.toNat) → b.toNat < 128 → lead (q ++ b :: r) = q.length
  | [], b, r, _, hb => by simp only [List.nil_append, lead]; rw [if_neg (by omega)]; rfl
  | x :: q, b, r, hq, hb => by
    simp only [List.cons_append, lead]
    rw [if_pos (hq x List.mem_cons_self), lead_form q b r (fun y hy => hq y (List.mem_cons_of_mem _ hy)) hb]
    rfl
theorem numR_numN (n : Nat) (hn : n ≤ 2147483647) (r : List (BitVec 8)) : numR (numN n ++ r) = (BitVec.ofNat 64 n, (numN n).length) := by
  obtain ⟨q, b, h1, h2, h3⟩ := numN_form n
  have hlen : (numN n).length ≤ 5 := numN_len 4 n (by omega)
  have he : numN n ++ r = q ++ b :: r := by rw [h1]; simp
  have hld : lead (numN n ++ r) = q.length := by rw [he]; exact lead_form q b r h2 h3
  have hql : q.length + 1 = (numN n).length := by rw [h1]; simp
  have hlt : lead (numN n ++ r) < 10 ∧ lead (numN n ++ r) < (numN n ++ r).length := by rw [hld]; simp only [List.length_append]; omega
  have htk : (numN n ++ r).take (lead (numN n ++ r) + 1) = numN n := by rw [hld, hql]; simp
  have hc := (numR_canon (numN n ++ r) hlt).1 (by rw [htk, val_numN, Nat.mod_eq_of_lt (by omega)])
  unfold numR
  rw [dif_pos hlt, if_neg hc, htk, val_numN, hld, hql]
theorem rdNum_numN (n : Nat) (hn : n ≤ 2147483647) (r : List (BitVec 8)) : rdNum ⟨numN n ++ r, 0⟩ = (BitVec.ofNat 64 n, ⟨r, 0⟩) := by
  have h := numR_numN n hn r
  have hp := numN_pos n
  unfold rdNum
  rw [if_neg (fun h => h rfl)]
  dsimp only
  rw [h]
  dsimp only
  rw [if_neg (by omega), if_neg (by rw [BitVec.toNat_ofNat]; omega)]
  simp
/-- What the reader reads well was written so. -/
theorem rdNum_ok {bs : List (BitVec 8)} (h : (rdNum ⟨bs, 0⟩).2.err = 0) : ∃ n r, n ≤ 2147483647 ∧ bs = numN n ++ r ∧ rdNum ⟨bs, 0⟩ = (BitVec.ofNat 64 n, ⟨r, 0⟩) := by
  unfold rdNum at h
  rw [if_neg (fun h => h rfl)] at h
  dsimp only at h
  by_cases h0 : (numR bs).2 = 0
  · rw [if_pos h0] at h; exact absurd h (by decide)
  rw [if_neg h0] at h
  by_cases h1 : 2147483647 < (numR bs).1.toNat
  · rw [if_pos h1] at h; exact absurd h (by decide)
  by_cases hc : lead bs < 10 ∧ lead bs < bs.length
  · have hcn := numR_canon bs hc
    have hR : numR bs = if (0 < lead bs ∧ (bs[lead bs]'hc.2).toNat = 0) ∨ (lead bs = 9 ∧ 1 < (bs[lead bs]'hc.2).toNat) then (0, 0) else (BitVec.ofNat 64 (val (bs.take (lead bs + 1))), lead bs + 1) := by
      unfold numR; rw [dif_pos hc]
    by_cases hd : (0 < lead bs ∧ (bs[lead bs]'hc.2).toNat = 0) ∨ (lead bs = 9 ∧ 1 < (bs[lead bs]'hc.2).toNat)
    · rw [if_pos hd] at hR; rw [hR] at h0; exact absurd rfl h0
    · rw [if_neg hd] at hR
      have hp := hcn.2 hd
      rw [hR] at h1
      dsimp only at h1
      rw [BitVec.toNat_ofNat] at h1
      have hbs : bs = numN (val (bs.take (lead bs + 1)) % 2 ^ 64) ++ bs.drop (lead bs + 1) := by rw [hp, List.take_append_drop]
      refine ⟨val (bs.take (lead bs + 1)) % 2 ^ 64, bs.drop (lead bs + 1), by omega, hbs, ?_⟩
      have := rdNum_numN (val (bs.take (lead bs + 1)) % 2 ^ 64) (by omega) (bs.drop (lead bs + 1))
      rw [← hbs] at this
      exact this
  · have hR : numR bs = (0, 0) := by unfold numR; rw [dif_neg hc]
    rw [hR] at h0; exact absurd rfl h0
/-- The fields' bytes. -/
def fldB (c : CmdF) (fs : List Nat) : List (BitVec 8) := fs.flatMap fun i => numI (c.get i)
theorem encB_fld (c : CmdF) : ∀ (fs : List Nat) (xs : List (BitVec 8)), encB c xs fs = xs ++ fldB c fs
  | [], xs => by simp [encB, fldB]
  | i :: fs, xs => by
    show encB c (xs ++ numI (c.get i)) fs = _
    rw [encB_fld c fs]
    simp [fldB]
theorem ofIntN {v : Int} (h0 : 0 ≤ v) (h1 : v ≤ 2147483647) : (BitVec.ofInt 64 v).toNat = v.toNat := by
  rw [BitVec.toNat_ofInt]; omega
theorem decStep_ok (C : CmdF) (k : Int) (v : Int) (r : List (BitVec 8)) (i : Nat) (h0 : 0 ≤ v) (h1 : v ≤ 2147483647) : decStep ⟨C, k, ⟨numI v ++ r, 0⟩, 0⟩ i = ⟨C.set i v, k + 1, ⟨r, 0⟩, 0⟩ := by
  have h := rdNum_numN v.toNat (by omega) r
  unfold decStep numI
  rw [ofIntN h0 h1]
  dsimp only
  rw [h]
  dsimp only
  rw [if_neg (fun h => h.2 rfl)]
  have : (((BitVec.ofNat 64 v.toNat).toNat : Nat) : Int) = v := by rw [BitVec.toNat_ofNat]; omega
  rw [this]
theorem dec_enc (c : CmdF) : ∀ (fs : List Nat) (C : CmdF) (k : Int), (∀ i ∈ fs, 0 ≤ c.get i ∧ c.get i ≤ 2147483647) → fs.foldl decStep ⟨C, k, ⟨fldB c fs, 0⟩, 0⟩ = ⟨fs.foldl (fun o j => o.set j (c.get j)) C, k + fs.length, ⟨[], 0⟩, 0⟩
  | [], C, k, _ => by simp [fldB]
  | i :: fs, C, k, h => by
    have hi := h i List.mem_cons_self
    have e : fldB c (i :: fs) = numI (c.get i) ++ fldB c fs := by simp [fldB]
    rw [List.foldl_cons, e, decStep_ok C k (c.get i) (fldB c fs) i hi.1 hi.2, dec_enc c fs _ _ (fun j hj => h j (List.mem_cons_of_mem _ hj))]
    simp only [List.foldl_cons, List.length_cons]
    rw [show k + 1 + (fs.length : Int) = k + ((fs.length + 1 : Nat) : Int) by omega]
/-- A right command's fields are in their bounds. -/
theorem over_bounds (c : CmdF) : ∀ (fs : List Nat) (k : Int), 0 ≤ k → (fs.foldl (fun s i => ovStep s (c.get i)) (k, 0)).2 ≤ 0 → ∀ i ∈ fs, 0 ≤ c.get i ∧ c.get i ≤ 2147483647
  | [], _, _, _, i, hi => by simp at hi
  | j :: fs, k, hk, h, i, hi => by
    rw [List.foldl_cons] at h
    by_cases hb : c.get j < 0 ∨ 2147483647 < c.get j
    · have hst : ovStep (k, 0) (c.get j) = (k + 1, k + 1) := by unfold ovStep; rw [if_pos ⟨rfl, hb⟩]
      rw [hst, ov_keep c fs _ (by dsimp only; omega)] at h
      dsimp only at h
      omega
    · have hst : ovStep (k, 0) (c.get j) = (k + 1, 0) := by unfold ovStep; rw [if_neg (fun h => hb h.2)]
      rw [hst] at h
      rcases List.mem_cons.1 hi with rfl | hi
      · omega
      · exact over_bounds c fs (k + 1) (by omega) h i hi
theorem check_nil {c : CmdF} (h : (checkE c).isNil = true) : ∃ fs, fieldsOf c.op = some fs ∧ (overF c fs).2 ≤ 0 ∧ zeroed c fs = cmd0 c.op := by
  cases hf : fieldsOf c.op with
  | none => rw [checkE_none hf] at h; cases h
  | some fs =>
    by_cases hv : 0 < (overF c fs).2
    · rw [checkE_over hf hv] at h; cases h
    · by_cases hz : zeroed c fs = cmd0 c.op
      · exact ⟨fs, rfl, by omega, hz⟩
      · rw [checkE_bare hf hv hz] at h; cases h
theorem op_range {op : Int} {fs : List Nat} (h : fieldsOf op = some fs) : 1 ≤ op ∧ op ≤ 17 := by
  rcases op_cases op with rfl | rfl | rfl | rfl | rfl | rfl | rfl | rfl | rfl | rfl | rfl | rfl | rfl | rfl | rfl | rfl | rfl | hn
  all_goals first
    | (rw [fieldsOf_none hn] at h; cases h; done)
    | (constructor <;> decide)
theorem encC_cons (c : CmdF) {fs : List Nat} (hf : fieldsOf c.op = some fs) : encC c = byteOp c.op :: fldB c fs := by
  unfold encC
  rw [hf, encB_fld]; rfl
/-- A right command is had of its bytes. -/
theorem dec_of_enc (c : CmdF) (h : (checkE c).isNil = true) : decE (encC c) = (c, .nil) := by
  obtain ⟨fs, hf, hv, hz⟩ := check_nil h
  have hr := op_range hf
  have hb : ((byteOp c.op).toNat : Int) = c.op := by unfold byteOp; rw [BitVec.toNat_ofInt]; omega
  rw [encC_cons c hf, decE_some (fs := fs) (by rw [hb]; exact hf)]
  have hS : decS (byteOp c.op).toNat (fldB c fs) fs = ⟨c, 0 + fs.length, ⟨[], 0⟩, 0⟩ := by
    unfold decS
    rw [hb, dec_enc c fs _ _ (over_bounds c fs 0 (by omega) hv)]
    have := (only_zeroed c hf).2 hz
    unfold onlyT at this
    rw [List.take_length] at this
    rw [this]
  rw [hS]
  rfl
end Go.Proofs.YtdbeeenjcjplhaaDoor.Vc

namespace Go.Proofs.YtdbeeenjcjplhaaDoor.Vc
open Go Go.RowKit Go.Proofs Go.Proofs.Tryd
set_option linter.unusedSimpArgs false
set_option linter.unusedVariables false
set_option maxRecDepth 20000
theorem dec_inv : ∀ (fs : List Nat) (C : CmdF) (k : Int) (bs : List (BitVec 8)), 0 ≤ k → ¬ 0 < (fs.foldl decStep ⟨C, k, ⟨bs, 0⟩, 0⟩).b →
    ∃ vs : List Int, vs.length = fs.length ∧ (∀ v ∈ vs, 0 ≤ v ∧ v ≤ 2147483647) ∧ (fs.foldl decStep ⟨C, k, ⟨bs, 0⟩, 0⟩).c = (fs.zip vs).foldl (fun o p => o.set p.1 p.2) C ∧ bs = vs.flatMap numI ++ (fs.foldl decStep ⟨C, k, ⟨bs, 0⟩, 0⟩).r.bs
  | [], C, k, bs, _, _ => ⟨[], rfl, by simp, rfl, by simp⟩
  | i :: fs, C, k, bs, hk, hb => by
    rw [List.foldl_cons] at hb ⊢
    by_cases he : (rdNum ⟨bs, 0⟩).2.err = 0
    · obtain ⟨n, r, hn, hbs, hrd⟩ := rdNum_ok he
      have hst := decStep_ok C k (n : Int) r i (by omega) (by omega)
      have hnI : numI (n : Int) = numN n := by unfold numI; rw [ofIntN (by omega) (by omega)]; rfl
      rw [hnI, ← hbs] at hst
      rw [hst] at hb ⊢
      obtain ⟨vs, h1, h2, h3, h4⟩ := dec_inv fs (C.set i n) (k + 1) r (by omega) hb
      refine ⟨(n : Int) :: vs, by simp [h1], fun v hv => ?_, by rw [h3]; rfl, ?_⟩
      · rcases List.mem_cons.1 hv with rfl | hv
        · omega
        · exact h2 v hv
      · rw [List.flatMap_cons, hnI, List.append_assoc, ← h4]; exact hbs
    · have hst : decStep ⟨C, k, ⟨bs, 0⟩, 0⟩ i = ⟨C.set i (rdNum ⟨bs, 0⟩).1.toNat, k + 1, (rdNum ⟨bs, 0⟩).2, k + 1⟩ := by
        unfold decStep
        rw [if_pos ⟨rfl, he⟩]
      rw [hst] at hb
      have := (dec_keep fs ⟨C.set i (rdNum ⟨bs, 0⟩).1.toNat, k + 1, (rdNum ⟨bs, 0⟩).2, k + 1⟩ (by dsimp only; omega) he).1
      rw [this] at hb
      dsimp only at hb
      omega
theorem over_ok (c : CmdF) : ∀ (fs : List Nat) (k : Int), (∀ i ∈ fs, 0 ≤ c.get i ∧ c.get i ≤ 2147483647) → (fs.foldl (fun s i => ovStep s (c.get i)) (k, 0)).2 = 0
  | [], _, _ => rfl
  | j :: fs, k, h => by
    have hj := h j List.mem_cons_self
    have hst : ovStep (k, 0) (c.get j) = (k + 1, 0) := by unfold ovStep; rw [if_neg (fun h => by omega)]
    rw [List.foldl_cons, hst]
    exact over_ok c fs (k + 1) fun i hi => h i (List.mem_cons_of_mem _ hi)
theorem fields_list {op : Int} {fs : List Nat} (h : fieldsOf op = some fs) : fs = [5, 4, 2, 1] ∨ fs = [2, 1] ∨ fs = [1] ∨ fs = [3, 1] ∨ fs = [4, 1] ∨ fs = [5, 1] ∨ fs = [3, 2] ∨ fs = [2] ∨ fs = [6] ∨ fs = [7] ∨ fs = [] := by
  rcases op_cases op with rfl | rfl | rfl | rfl | rfl | rfl | rfl | rfl | rfl | rfl | rfl | rfl | rfl | rfl | rfl | rfl | rfl | hn
  all_goals first
    | (rw [fieldsOf_none hn] at h; cases h; done)
    | (simp [fieldsOf] at h; subst h; decide)
/-- A command made of its fields: right, and these are its fields. -/
theorem made (op : Int) {fs : List Nat} (hf : fieldsOf op = some fs) (vs : List Int) (hl : vs.length = fs.length) (hv : ∀ v ∈ vs, 0 ≤ v ∧ v ≤ 2147483647) :
    ((fs.zip vs).foldl (fun o p => o.set p.1 p.2) (cmd0 op)).op = op ∧ zeroed ((fs.zip vs).foldl (fun o p => o.set p.1 p.2) (cmd0 op)) fs = cmd0 op ∧ fldB ((fs.zip vs).foldl (fun o p => o.set p.1 p.2) (cmd0 op)) fs = vs.flatMap numI ∧
    (∀ i ∈ fs, 0 ≤ ((fs.zip vs).foldl (fun o p => o.set p.1 p.2) (cmd0 op)).get i ∧ ((fs.zip vs).foldl (fun o p => o.set p.1 p.2) (cmd0 op)).get i ≤ 2147483647) := by
  rcases fields_list hf with rfl | rfl | rfl | rfl | rfl | rfl | rfl | rfl | rfl | rfl | rfl
  · match vs, hl with
    | [a, b, c, d], _ =>
      refine ⟨rfl, rfl, rfl, ?_⟩
      simp only [List.mem_cons, List.not_mem_nil, or_false] at hv
      intro i hi
      simp only [List.mem_cons, List.not_mem_nil, or_false] at hi
      rcases hi with rfl | rfl | rfl | rfl
      · exact hv a (by simp)
      · exact hv b (by simp)
      · exact hv c (by simp)
      · exact hv d (by simp)
  all_goals first
    | (match vs, hl with
      | [a, b], _ =>
        refine ⟨rfl, rfl, rfl, ?_⟩
        simp only [List.mem_cons, List.not_mem_nil, or_false] at hv
        intro i hi
        simp only [List.mem_cons, List.not_mem_nil, or_false] at hi
        rcases hi with rfl | rfl
        · exact hv a (by simp)
        · exact hv b (by simp))
    | (match vs, hl with
      | [a], _ =>
        refine ⟨rfl, rfl, rfl, ?_⟩
        simp only [List.mem_cons, List.not_mem_nil, or_false] at hv
        intro i hi
        simp only [List.mem_cons, List.not_mem_nil, or_false] at hi
        subst hi
        exact hv a rfl)
    | (match vs, hl with
      | [], _ => exact ⟨rfl, rfl, rfl, fun i hi => absurd hi List.not_mem_nil⟩)
/-- What is had of bytes is right, and has these bytes. -/
theorem enc_of_dec {l : List (BitVec 8)} (h : (decE l).2.isNil = true) : (checkE (decE l).1).isNil = true ∧ encC (decE l).1 = l := by
  cases l with
  | nil => cases h
  | cons b bs =>
    cases hf : fieldsOf b.toNat with
    | none => rw [decE_none hf] at h; cases h
    | some fs =>
      rw [decE_some hf] at h ⊢
      by_cases h1 : 0 < (decS b.toNat bs fs).b
      · rw [if_pos h1] at h; cases h
      · rw [if_neg h1] at h ⊢
        by_cases h2 : 0 < (decS b.toNat bs fs).r.bs.length
        · rw [if_pos h2] at h; cases h
        · rw [if_neg h2] at h ⊢
          obtain ⟨vs, v1, v2, v3, v4⟩ := dec_inv fs (cmd0 b.toNat) 0 bs (by omega) h1
          obtain ⟨m1, m2, m3, m4⟩ := made b.toNat hf vs v1 v2
          have hc : (decS b.toNat bs fs).c = (fs.zip vs).foldl (fun o p => o.set p.1 p.2) (cmd0 b.toNat) := v3
          have hr : (decS b.toNat bs fs).r.bs = [] := List.eq_nil_of_length_eq_zero (by omega)
          have hr' : (fs.foldl decStep ⟨cmd0 b.toNat, 0, ⟨bs, 0⟩, 0⟩).r.bs = [] := hr
          rw [hr', List.append_nil] at v4
          dsimp only
          rw [hc]
          generalize (fs.zip vs).foldl (fun o p => o.set p.1 p.2) (cmd0 b.toNat) = c at *
          have hfc : fieldsOf c.op = some fs := by rw [m1]; exact hf
          refine ⟨?_, ?_⟩
          · rw [checkE_ok hfc (by unfold overF; rw [over_ok c fs 0 m4]; omega) (by rw [m1]; exact m2)]; rfl
          · rw [encC_cons c hfc, m3, m1, ← v4]
            have : byteOp b.toNat = b := by unfold byteOp; apply BitVec.eq_of_toNat_eq; rw [BitVec.toNat_ofInt]; have := b.isLt; omega
            rw [this]
theorem dec_zero {l : List (BitVec 8)} (h : (decE l).2.isNil = false) : (decE l).1 = cmd0 0 := by
  cases l with
  | nil => rfl
  | cons b bs =>
    cases hf : fieldsOf b.toNat with
    | none => rw [decE_none hf]
    | some fs =>
      rw [decE_some hf] at h ⊢
      by_cases h1 : 0 < (decS b.toNat bs fs).b
      · rw [if_pos h1]
      · rw [if_neg h1] at h ⊢
        by_cases h2 : 0 < (decS b.toNat bs fs).r.bs.length
        · rw [if_pos h2]
        · rw [if_neg h2] at h; cases h
theorem enc_inj {c d : CmdF} (hc : (checkE c).isNil = true) (hd : (checkE d).isNil = true) (h : encC c = encC d) : c = d := by
  have h1 := dec_of_enc c hc
  have h2 := dec_of_enc d hd
  rw [h, h2] at h1
  exact (Prod.mk.inj h1).1.symm
end Go.Proofs.YtdbeeenjcjplhaaDoor.Vc

namespace Go.Proofs.YtdbeeenjcjplhaaDoor.Vc
open Go Go.RowKit Go.Proofs Go.Proofs.Tryd
set_option linter.unusedSimpArgs false
set_option linter.unusedVariables false
set_option maxRecDepth 20000
theorem fldB_len (c : CmdF) : ∀ (fs : List Nat), (∀ i ∈ fs, 0 ≤ c.get i ∧ c.get i ≤ 2147483647) → (fldB c fs).length ≤ 5 * fs.length
  | [], _ => by simp [fldB]
  | i :: fs, h => by
    have hi := h i List.mem_cons_self
    have e : fldB c (i :: fs) = numI (c.get i) ++ fldB c fs := by simp [fldB]
    have h1 : (numI (c.get i)).length ≤ 5 := by
      unfold numI
      rw [ofIntN hi.1 hi.2]
      exact numN_len 4 _ (by omega)
    have h2 := fldB_len c fs fun j hj => h j (List.mem_cons_of_mem _ hj)
    rw [e, List.length_append, List.length_cons]
    omega
theorem encC_le {c : CmdF} (h : (checkE c).isNil = true) : (encC c).length ≤ 40 := by
  obtain ⟨fs, hf, hv, _⟩ := check_nil h
  have h1 := fldB_len c fs (over_bounds c fs 0 (by omega) hv)
  have h2 := (fields_le hf).1
  rw [encC_cons c hf, List.length_cons]
  omega
set_option maxHeartbeats 8000000 in
theorem s11 (h37 : S37) (c d : CmdF) : Spec prog 11 [c.tv, d.tv] [] (tB true) [] := by
  have h34 := s34 h37
  have hc := s35 c
  have hd := s35 d
  have hkc := kindE (checkE c)
  have hkd := kindE (checkE d)
  have h8 := eq8 c d
  have hinj := fun a b => enc_inj (c := c) (d := d) a b
  unfold encE at hc hd
  clear h37
  generalize (checkE c).tv = z at *
  generalize (checkE c).isNil = b at *
  generalize (checkE d).tv = z' at *
  generalize (checkE d).isNil = b' at *
  rcases hkc with ⟨rfl, rfl⟩ | ⟨rfl, ty0, y, rfl, hys, hyi⟩
  · rw [if_pos rfl] at hc
    rcases hkd with ⟨rfl, rfl⟩ | ⟨rfl, ty1, y1, rfl, hys1, hyi1⟩
    · rw [if_pos rfl] at hd
      by_cases hcd : c = d
      · subst hcd
        rw [decide_eq_true rfl] at h8
        generalize encC c = B at *
        dsimp only [CmdF.tv] at *
        refine spec_s is11 mixed rfl (V_x ?_)
        repeat' (first | ((conv => whnf) <;>
                 first | refine Frz.own ?_ | refine Get.mk _ rfl ?_ | refine Get.mk _ (map_geti (by omega)) ?_ | refine Get.mk _ (map_getp (by omega) (by omega)) ?_ | refine Get.mk _ (map_get (by omega)) ?_ | refine Bv2.mk _ _ rfl rfl ?_ | refine Bv1.mk _ rfl ?_ | refine Wr.mk _ (wrap_i64 (by omega) (by omega)) ?_ | refine Wr.mk _ rfl ?_ | refine And.intro len_map ?_ | refine And.intro (leX_refl _) ?_ | refine And.intro rfl ?_ | refine And.intro (leO_some _) ?_ | (refine And.intro (fun h => absurd h (by decide)) (fun h => ?_); clear h) | (refine And.intro (fun h => ?_) (fun h => absurd h (by decide)); clear h) | (with_reducible first | refine sp1 (fun h => ?_) (fun h => ?_) | refine sp2 (fun h => ?_) (fun h => ?_) | refine sp3 (fun h => ?_) (fun h => ?_) | refine sp4 (fun h => ?_) (fun h => ?_) | refine sp5 (fun h => ?_) (fun h => ?_) | refine sp6 (fun h => ?_) (fun h => ?_)) | with_reducible refine And.intro (fun h => ?_) (fun h => ?_) | refine And.intro (Int.natCast_nonneg _) ?_ | refine And.intro (by omega) ?_ | refine And.intro (by decide) ?_ | refine Lst.mk _ rfl ?_ | refine Byt.mk _ rfl ?_ | refine Or.inr (Or.inl ⟨_, _, hc, leL_refl _, rfl, rfl, ?_⟩) | refine Or.inr (Or.inl ⟨_, _, h34, leL_refl _, rfl, rfl, ?_⟩) | refine And.intro trivial ?_ | exact trivial | exact leX_refl _ | exact rfl | refine frc_mk ?_ | refine weak_fr ?_ ?_ rfl | refine And.intro ?_ ?_ | fail) | refine frc_mk ?_)
        all_goals first
          | contradiction
          | exact leX_refl _
          | (exfalso; clear hc hd h34 hinj; simp_all; done)
          | trace_state
      · have hne : ((strB (encC c)).toList == (strB (encC d)).toList) = false := by
          rw [beq_eq_false_iff_ne]
          exact fun h => hcd (hinj rfl rfl (strB_inj h))
        rw [decide_eq_false hcd] at h8
        clear hcd hinj
        generalize encC c = B at *
        generalize encC d = B' at *
        dsimp only [CmdF.tv] at *
        refine spec_s is11 mixed rfl (V_x ?_)
        repeat' (first | ((conv => whnf) <;>
                 first | refine Frz.own ?_ | refine Get.mk _ rfl ?_ | refine Get.mk _ (map_geti (by omega)) ?_ | refine Get.mk _ (map_getp (by omega) (by omega)) ?_ | refine Get.mk _ (map_get (by omega)) ?_ | refine Bv2.mk _ _ rfl rfl ?_ | refine Bv1.mk _ rfl ?_ | refine Wr.mk _ (wrap_i64 (by omega) (by omega)) ?_ | refine Wr.mk _ rfl ?_ | refine And.intro len_map ?_ | refine And.intro (leX_refl _) ?_ | refine And.intro rfl ?_ | refine And.intro (leO_some _) ?_ | (refine And.intro (fun h => absurd h (by decide)) (fun h => ?_); clear h) | (refine And.intro (fun h => ?_) (fun h => absurd h (by decide)); clear h) | (with_reducible first | refine sp1 (fun h => ?_) (fun h => ?_) | refine sp2 (fun h => ?_) (fun h => ?_) | refine sp3 (fun h => ?_) (fun h => ?_) | refine sp4 (fun h => ?_) (fun h => ?_) | refine sp5 (fun h => ?_) (fun h => ?_) | refine sp6 (fun h => ?_) (fun h => ?_)) | with_reducible refine And.intro (fun h => ?_) (fun h => ?_) | refine And.intro (Int.natCast_nonneg _) ?_ | refine And.intro (by omega) ?_ | refine And.intro (by decide) ?_ | refine Lst.mk _ rfl ?_ | refine Byt.mk _ rfl ?_ | refine Or.inr (Or.inl ⟨_, _, hc, leL_refl _, rfl, rfl, ?_⟩) | refine Or.inr (Or.inl ⟨_, _, hd, leL_refl _, rfl, rfl, ?_⟩) | refine Or.inr (Or.inl ⟨_, _, h34, leL_refl _, rfl, rfl, ?_⟩) | refine And.intro trivial ?_ | exact trivial | exact leX_refl _ | exact rfl | refine frc_mk ?_ | refine weak_fr ?_ ?_ rfl | refine And.intro ?_ ?_ | fail) | refine frc_mk ?_)
        all_goals first
          | contradiction
          | exact leX_refl _
          | (exfalso; have h2 : (((strB B).toList == (strB B').toList) == (c.op == d.op && (c.id == d.id && (c.gr == d.gr && (c.sh == d.sh && (c.we == d.we && (c.ca == d.ca && (c.co == d.co && (c.n == d.n && true))))))))) = false := by assumption
             rw [hne, h8] at h2
             cases h2)
          | trace_state
    · rw [if_neg (by simp)] at hd
      generalize encC c = B at *
      dsimp only [CmdF.tv] at *
      refine spec_s is11 mixed rfl (V_x ?_)
      repeat' (first | ((conv => whnf) <;>
               first | refine Frz.own ?_ | refine Get.mk _ rfl ?_ | refine Get.mk _ (map_geti (by omega)) ?_ | refine Get.mk _ (map_getp (by omega) (by omega)) ?_ | refine Get.mk _ (map_get (by omega)) ?_ | refine Bv2.mk _ _ rfl rfl ?_ | refine Bv1.mk _ rfl ?_ | refine Wr.mk _ (wrap_i64 (by omega) (by omega)) ?_ | refine Wr.mk _ rfl ?_ | refine And.intro len_map ?_ | refine And.intro (leX_refl _) ?_ | refine And.intro rfl ?_ | refine And.intro (leO_some _) ?_ | (refine And.intro (fun h => absurd h (by decide)) (fun h => ?_); clear h) | (refine And.intro (fun h => ?_) (fun h => absurd h (by decide)); clear h) | (with_reducible first | refine sp1 (fun h => ?_) (fun h => ?_) | refine sp2 (fun h => ?_) (fun h => ?_) | refine sp3 (fun h => ?_) (fun h => ?_) | refine sp4 (fun h => ?_) (fun h => ?_) | refine sp5 (fun h => ?_) (fun h => ?_) | refine sp6 (fun h => ?_) (fun h => ?_)) | with_reducible refine And.intro (fun h => ?_) (fun h => ?_) | refine And.intro (Int.natCast_nonneg _) ?_ | refine And.intro (by omega) ?_ | refine And.intro (by decide) ?_ | refine Lst.mk _ rfl ?_ | refine callPure (hd) (rfl) (by first | (simp [idsL, TV.ids, Err.ids, Flt.ids]; done) | (simp [TV.ids, idsL, *]; done)) ?_ | refine Byt.mk _ rfl ?_ | refine Or.inr (Or.inl ⟨_, _, hc, leL_refl _, rfl, rfl, ?_⟩) | refine Or.inr (Or.inl ⟨_, _, h34, leL_refl _, rfl, rfl, ?_⟩) | refine And.intro trivial ?_ | exact trivial | exact leX_refl _ | exact rfl | refine frc_mk ?_ | refine weak_fr ?_ ?_ rfl | refine And.intro ?_ ?_ | fail) | refine frc_mk ?_)
      all_goals first
        | contradiction
        | exact leX_refl _
        | trace_state
  · rw [if_neg (by simp)] at hc
    generalize (if b' = true then encC d else []) = B' at *
    clear hinj h8
    dsimp only [CmdF.tv] at *
    rcases hkd with ⟨rfl, rfl⟩ | ⟨rfl, ty1, y1, rfl, hys1, hyi1⟩
    · refine spec_s is11 mixed rfl (V_x ?_)
      repeat' (first | ((conv => whnf) <;>
               first | refine Frz.own ?_ | refine Get.mk _ rfl ?_ | refine Get.mk _ (map_geti (by omega)) ?_ | refine Get.mk _ (map_getp (by omega) (by omega)) ?_ | refine Get.mk _ (map_get (by omega)) ?_ | refine Bv2.mk _ _ rfl rfl ?_ | refine Bv1.mk _ rfl ?_ | refine Wr.mk _ (wrap_i64 (by omega) (by omega)) ?_ | refine Wr.mk _ rfl ?_ | refine And.intro len_map ?_ | refine And.intro (leX_refl _) ?_ | refine And.intro rfl ?_ | refine And.intro (leO_some _) ?_ | (refine And.intro (fun h => absurd h (by decide)) (fun h => ?_); clear h) | (refine And.intro (fun h => ?_) (fun h => absurd h (by decide)); clear h) | (with_reducible first | refine sp1 (fun h => ?_) (fun h => ?_) | refine sp2 (fun h => ?_) (fun h => ?_) | refine sp3 (fun h => ?_) (fun h => ?_) | refine sp4 (fun h => ?_) (fun h => ?_) | refine sp5 (fun h => ?_) (fun h => ?_) | refine sp6 (fun h => ?_) (fun h => ?_)) | with_reducible refine And.intro (fun h => ?_) (fun h => ?_) | refine And.intro (Int.natCast_nonneg _) ?_ | refine And.intro (by omega) ?_ | refine And.intro (by decide) ?_ | refine Lst.mk _ rfl ?_ | refine callPure (hc) (rfl) (by first | (simp [idsL, TV.ids, Err.ids, Flt.ids]; done) | (simp [TV.ids, idsL, *]; done)) ?_ | refine Byt.mk _ rfl ?_ | refine Or.inr (Or.inl ⟨_, _, hd, leL_refl _, rfl, rfl, ?_⟩) | refine Or.inr (Or.inl ⟨_, _, h34, leL_refl _, rfl, rfl, ?_⟩) | refine And.intro trivial ?_ | exact trivial | exact leX_refl _ | exact rfl | refine frc_mk ?_ | refine weak_fr ?_ ?_ rfl | refine And.intro ?_ ?_ | fail) | refine frc_mk ?_)
      all_goals first
        | contradiction
        | exact leX_refl _
        | trace_state
    · refine spec_s is11 mixed rfl (V_x ?_)
      repeat' (first | ((conv => whnf) <;>
               first | refine Frz.own ?_ | refine Get.mk _ rfl ?_ | refine Get.mk _ (map_geti (by omega)) ?_ | refine Get.mk _ (map_getp (by omega) (by omega)) ?_ | refine Get.mk _ (map_get (by omega)) ?_ | refine Bv2.mk _ _ rfl rfl ?_ | refine Bv1.mk _ rfl ?_ | refine Wr.mk _ (wrap_i64 (by omega) (by omega)) ?_ | refine Wr.mk _ rfl ?_ | refine And.intro len_map ?_ | refine And.intro (leX_refl _) ?_ | refine And.intro rfl ?_ | refine And.intro (leO_some _) ?_ | (refine And.intro (fun h => absurd h (by decide)) (fun h => ?_); clear h) | (refine And.intro (fun h => ?_) (fun h => absurd h (by decide)); clear h) | (with_reducible first | refine sp1 (fun h => ?_) (fun h => ?_) | refine sp2 (fun h => ?_) (fun h => ?_) | refine sp3 (fun h => ?_) (fun h => ?_) | refine sp4 (fun h => ?_) (fun h => ?_) | refine sp5 (fun h => ?_) (fun h => ?_) | refine sp6 (fun h => ?_) (fun h => ?_)) | with_reducible refine And.intro (fun h => ?_) (fun h => ?_) | refine And.intro (Int.natCast_nonneg _) ?_ | refine And.intro (by omega) ?_ | refine And.intro (by decide) ?_ | refine Lst.mk _ rfl ?_ | refine callPure (hc) (rfl) (by first | (simp [idsL, TV.ids, Err.ids, Flt.ids]; done) | (simp [TV.ids, idsL, *]; done)) ?_ | refine callPure (hd) (rfl) (by first | (simp [idsL, TV.ids, Err.ids, Flt.ids]; done) | (simp [TV.ids, idsL, *]; done)) ?_ | refine Byt.mk _ rfl ?_ | refine Or.inr (Or.inl ⟨_, _, h34, leL_refl _, rfl, rfl, ?_⟩) | refine And.intro trivial ?_ | exact trivial | exact leX_refl _ | exact rfl | refine frc_mk ?_ | refine weak_fr ?_ ?_ rfl | refine And.intro ?_ ?_ | fail) | refine frc_mk ?_)
      all_goals first
        | contradiction
        | exact leX_refl _
        | trace_state
set_option maxHeartbeats 8000000 in
theorem s10 (h37 : S37) (c : CmdF) (l : List (BitVec 8)) : Spec prog 10 [c.tv, .s 1 (l.map bytTV)] [] (tB true) [] := by
  have h34 := s34 h37
  have hlm : (l.map bytTV).length = l.length := List.length_map _
  by_cases hl : 500 < l.length
  · generalize l.map bytTV = M at *
    dsimp only [CmdF.tv] at *
    refine spec_s is10 mixed rfl (V_x ?_)
    repeat' (first | ((conv => whnf) <;>
             first | refine Frz.own ?_ | refine Get.mk _ rfl ?_ | refine Get.mk _ (map_geti (by omega)) ?_ | refine Get.mk _ (map_getp (by omega) (by omega)) ?_ | refine Get.mk _ (map_get (by omega)) ?_ | refine Bv2.mk _ _ rfl rfl ?_ | refine Bv1.mk _ rfl ?_ | refine Wr.mk _ (wrap_i64 (by omega) (by omega)) ?_ | refine Wr.mk _ rfl ?_ | refine And.intro len_map ?_ | refine And.intro (leX_refl _) ?_ | refine And.intro rfl ?_ | refine And.intro (leO_some _) ?_ | (refine And.intro (fun h => absurd h (by decide)) (fun h => ?_); clear h) | (refine And.intro (fun h => ?_) (fun h => absurd h (by decide)); clear h) | (with_reducible first | refine sp1 (fun h => ?_) (fun h => ?_) | refine sp2 (fun h => ?_) (fun h => ?_) | refine sp3 (fun h => ?_) (fun h => ?_) | refine sp4 (fun h => ?_) (fun h => ?_) | refine sp5 (fun h => ?_) (fun h => ?_) | refine sp6 (fun h => ?_) (fun h => ?_)) | with_reducible refine And.intro (fun h => ?_) (fun h => ?_) | refine And.intro (Int.natCast_nonneg _) ?_ | refine And.intro (by omega) ?_ | refine And.intro (by decide) ?_ | refine Lst.mk _ rfl ?_ | refine Byt.mk _ rfl ?_ | refine Or.inr (Or.inl ⟨_, _, h34, leL_refl _, rfl, rfl, ?_⟩) | refine And.intro trivial ?_ | exact trivial | exact leX_refl _ | exact rfl | refine frc_mk ?_ | refine weak_fr ?_ ?_ rfl | refine And.intro ?_ ?_ | fail) | refine frc_mk ?_)
    all_goals first
      | contradiction
      | (exfalso; omega)
      | exact leX_refl _
      | trace_state
  have h37l := h37 l (by omega)
  have hc := s35 c
  have hkc := kindE (checkE c)
  have hkd := kindE (decE l).2
  have hdz := dec_zero (l := l)
  have hed := enc_of_dec (l := l)
  have hy := s35 (decE l).1
  have h8c := eq8 c c
  rw [decide_eq_true rfl] at h8c
  have h8z := eq8 (decE l).1 (cmd0 0)
  have hback : (checkE c).isNil = true → Spec prog 37 [.s 1 ((encC c).map bytTV)] [] (.t [c.tv, .v .nilIface]) [] ∧ ((encC c).map bytTV).length ≤ 40 := fun h => by
    have h1 := h37 (encC c) (by have := encC_len c; omega)
    rw [dec_of_enc c h] at h1
    exact ⟨h1, by rw [List.length_map]; exact encC_le h⟩
  unfold encE at hc hy
  clear h37
  generalize encC c = B at *
  generalize (checkE c).tv = z at *
  generalize (checkE c).isNil = b at *
  generalize (decE l).2.tv = z' at *
  generalize (decE l).2.isNil = b' at *
  generalize (decE l).1 = e at *
  rcases hkd with ⟨rfl, rfl⟩ | ⟨rfl, ty1, y1, rfl, hys1, hyi1⟩
  · obtain ⟨he1, he2⟩ := hed rfl
    rw [if_pos he1, he2] at hy
    have hyz : (checkE e).tv = .v .nilIface := by
      rcases kindE (checkE e) with ⟨_, h⟩ | ⟨h, _⟩
      · exact h
      · rw [he1] at h; cases h
    rw [hyz] at hy
    clear he1 he2 hed hdz h8z hyz
    rcases hkc with ⟨rfl, rfl⟩ | ⟨rfl, ty0, y, rfl, hys, hyi⟩
    · obtain ⟨hb1, hb2⟩ := hback rfl
      rw [if_pos rfl] at hc
      clear hback
      dsimp only [CmdF.tv] at *
      refine spec_s is10 mixed rfl (V_x ?_)
      repeat' (first | ((conv => whnf) <;>
               first | refine Frz.own ?_ | refine Get.mk _ rfl ?_ | refine Get.mk _ (map_geti (by omega)) ?_ | refine Get.mk _ (map_getp (by omega) (by omega)) ?_ | refine Get.mk _ (map_get (by omega)) ?_ | refine Bv2.mk _ _ rfl rfl ?_ | refine Bv1.mk _ rfl ?_ | refine Wr.mk _ (wrap_i64 (by omega) (by omega)) ?_ | refine Wr.mk _ rfl ?_ | refine And.intro len_map ?_ | refine And.intro (leX_refl _) ?_ | refine And.intro rfl ?_ | refine And.intro (leO_some _) ?_ | (refine And.intro (fun h => absurd h (by decide)) (fun h => ?_); clear h) | (refine And.intro (fun h => ?_) (fun h => absurd h (by decide)); clear h) | (with_reducible first | refine sp1 (fun h => ?_) (fun h => ?_) | refine sp2 (fun h => ?_) (fun h => ?_) | refine sp3 (fun h => ?_) (fun h => ?_) | refine sp4 (fun h => ?_) (fun h => ?_) | refine sp5 (fun h => ?_) (fun h => ?_) | refine sp6 (fun h => ?_) (fun h => ?_)) | with_reducible refine And.intro (fun h => ?_) (fun h => ?_) | refine And.intro (Int.natCast_nonneg _) ?_ | refine And.intro (by omega) ?_ | refine And.intro (by decide) ?_ | refine Lst.mk _ rfl ?_ | refine Byt.mk _ rfl ?_ | refine Or.inr (Or.inl ⟨_, _, hc, leL_refl _, rfl, rfl, ?_⟩) | refine Or.inr (Or.inl ⟨_, _, hb1, leL_refl _, rfl, rfl, ?_⟩) | refine Or.inr (Or.inl ⟨_, _, h37l, leL_refl _, rfl, rfl, ?_⟩) | refine Or.inr (Or.inl ⟨_, _, hy, leL_refl _, rfl, rfl, ?_⟩) | refine Or.inr (Or.inl ⟨_, _, h34, leL_refl _, rfl, rfl, ?_⟩) | refine And.intro trivial ?_ | exact trivial | exact leX_refl _ | exact rfl | refine frc_mk ?_ | refine weak_fr ?_ ?_ rfl | refine And.intro ?_ ?_ | fail) | refine frc_mk ?_)
      all_goals first
        | contradiction
        | (exfalso; omega)
        | exact leX_refl _
        | (exfalso; clear hc hb1 h37l hy h34; simp_all; done)
        | trace_state
    · rw [if_neg (by simp)] at hc
      clear hback
      dsimp only [CmdF.tv] at *
      refine spec_s is10 mixed rfl (V_x ?_)
      repeat' (first | ((conv => whnf) <;>
               first | refine Frz.own ?_ | refine Get.mk _ rfl ?_ | refine Get.mk _ (map_geti (by omega)) ?_ | refine Get.mk _ (map_getp (by omega) (by omega)) ?_ | refine Get.mk _ (map_get (by omega)) ?_ | refine Bv2.mk _ _ rfl rfl ?_ | refine Bv1.mk _ rfl ?_ | refine Wr.mk _ (wrap_i64 (by omega) (by omega)) ?_ | refine Wr.mk _ rfl ?_ | refine And.intro len_map ?_ | refine And.intro (leX_refl _) ?_ | refine And.intro rfl ?_ | refine And.intro (leO_some _) ?_ | (refine And.intro (fun h => absurd h (by decide)) (fun h => ?_); clear h) | (refine And.intro (fun h => ?_) (fun h => absurd h (by decide)); clear h) | (with_reducible first | refine sp1 (fun h => ?_) (fun h => ?_) | refine sp2 (fun h => ?_) (fun h => ?_) | refine sp3 (fun h => ?_) (fun h => ?_) | refine sp4 (fun h => ?_) (fun h => ?_) | refine sp5 (fun h => ?_) (fun h => ?_) | refine sp6 (fun h => ?_) (fun h => ?_)) | with_reducible refine And.intro (fun h => ?_) (fun h => ?_) | refine And.intro (Int.natCast_nonneg _) ?_ | refine And.intro (by omega) ?_ | refine And.intro (by decide) ?_ | refine Lst.mk _ rfl ?_ | refine callPure (hc) (rfl) (by first | (simp [idsL, TV.ids, Err.ids, Flt.ids]; done) | (simp [TV.ids, idsL, *]; done)) ?_ | refine Byt.mk _ rfl ?_ | refine Or.inr (Or.inl ⟨_, _, h37l, leL_refl _, rfl, rfl, ?_⟩) | refine Or.inr (Or.inl ⟨_, _, hy, leL_refl _, rfl, rfl, ?_⟩) | refine Or.inr (Or.inl ⟨_, _, h34, leL_refl _, rfl, rfl, ?_⟩) | refine And.intro trivial ?_ | exact trivial | exact leX_refl _ | exact rfl | refine frc_mk ?_ | refine weak_fr ?_ ?_ rfl | refine And.intro ?_ ?_ | fail) | refine frc_mk ?_)
      all_goals first
        | contradiction
        | (exfalso; omega)
        | exact leX_refl _
        | (exfalso; clear hc h37l hy h34; simp_all; done)
        | trace_state
  · have he := hdz rfl
    subst he
    clear hed hdz hy
    rw [decide_eq_true rfl] at h8z
    rcases hkc with ⟨rfl, rfl⟩ | ⟨rfl, ty0, y, rfl, hys, hyi⟩
    · obtain ⟨hb1, hb2⟩ := hback rfl
      rw [if_pos rfl] at hc
      clear hback
      dsimp only [CmdF.tv, cmd0] at *
      refine spec_s is10 mixed rfl (V_x ?_)
      repeat' (first | ((conv => whnf) <;>
               first | refine Frz.own ?_ | refine Get.mk _ rfl ?_ | refine Get.mk _ (map_geti (by omega)) ?_ | refine Get.mk _ (map_getp (by omega) (by omega)) ?_ | refine Get.mk _ (map_get (by omega)) ?_ | refine Bv2.mk _ _ rfl rfl ?_ | refine Bv1.mk _ rfl ?_ | refine Wr.mk _ (wrap_i64 (by omega) (by omega)) ?_ | refine Wr.mk _ rfl ?_ | refine And.intro len_map ?_ | refine And.intro (leX_refl _) ?_ | refine And.intro rfl ?_ | refine And.intro (leO_some _) ?_ | (refine And.intro (fun h => absurd h (by decide)) (fun h => ?_); clear h) | (refine And.intro (fun h => ?_) (fun h => absurd h (by decide)); clear h) | (with_reducible first | refine sp1 (fun h => ?_) (fun h => ?_) | refine sp2 (fun h => ?_) (fun h => ?_) | refine sp3 (fun h => ?_) (fun h => ?_) | refine sp4 (fun h => ?_) (fun h => ?_) | refine sp5 (fun h => ?_) (fun h => ?_) | refine sp6 (fun h => ?_) (fun h => ?_)) | with_reducible refine And.intro (fun h => ?_) (fun h => ?_) | refine And.intro (Int.natCast_nonneg _) ?_ | refine And.intro (by omega) ?_ | refine And.intro (by decide) ?_ | refine Lst.mk _ rfl ?_ | refine callPure (h37l) (rfl) (by first | (simp [idsL, TV.ids, Err.ids, Flt.ids]; done) | (simp [TV.ids, idsL, *]; done)) ?_ | refine Byt.mk _ rfl ?_ | refine Or.inr (Or.inl ⟨_, _, hc, leL_refl _, rfl, rfl, ?_⟩) | refine Or.inr (Or.inl ⟨_, _, hb1, leL_refl _, rfl, rfl, ?_⟩) | refine Or.inr (Or.inl ⟨_, _, h34, leL_refl _, rfl, rfl, ?_⟩) | refine And.intro trivial ?_ | exact trivial | exact leX_refl _ | exact rfl | refine frc_mk ?_ | refine weak_fr ?_ ?_ rfl | refine And.intro ?_ ?_ | fail) | refine frc_mk ?_)
      all_goals first
        | contradiction
        | (exfalso; omega)
        | exact leX_refl _
        | (exfalso; clear hc hb1 h37l h34; simp_all; done)
        | trace_state
    · rw [if_neg (by simp)] at hc
      clear hback
      dsimp only [CmdF.tv, cmd0] at *
      refine spec_s is10 mixed rfl (V_x ?_)
      repeat' (first | ((conv => whnf) <;>
               first | refine Frz.own ?_ | refine Get.mk _ rfl ?_ | refine Get.mk _ (map_geti (by omega)) ?_ | refine Get.mk _ (map_getp (by omega) (by omega)) ?_ | refine Get.mk _ (map_get (by omega)) ?_ | refine Bv2.mk _ _ rfl rfl ?_ | refine Bv1.mk _ rfl ?_ | refine Wr.mk _ (wrap_i64 (by omega) (by omega)) ?_ | refine Wr.mk _ rfl ?_ | refine And.intro len_map ?_ | refine And.intro (leX_refl _) ?_ | refine And.intro rfl ?_ | refine And.intro (leO_some _) ?_ | (refine And.intro (fun h => absurd h (by decide)) (fun h => ?_); clear h) | (refine And.intro (fun h => ?_) (fun h => absurd h (by decide)); clear h) | (with_reducible first | refine sp1 (fun h => ?_) (fun h => ?_) | refine sp2 (fun h => ?_) (fun h => ?_) | refine sp3 (fun h => ?_) (fun h => ?_) | refine sp4 (fun h => ?_) (fun h => ?_) | refine sp5 (fun h => ?_) (fun h => ?_) | refine sp6 (fun h => ?_) (fun h => ?_)) | with_reducible refine And.intro (fun h => ?_) (fun h => ?_) | refine And.intro (Int.natCast_nonneg _) ?_ | refine And.intro (by omega) ?_ | refine And.intro (by decide) ?_ | refine Lst.mk _ rfl ?_ | refine callPure (hc) (rfl) (by first | (simp [idsL, TV.ids, Err.ids, Flt.ids]; done) | (simp [TV.ids, idsL, *]; done)) ?_ | refine callPure (h37l) (rfl) (by first | (simp [idsL, TV.ids, Err.ids, Flt.ids]; done) | (simp [TV.ids, idsL, *]; done)) ?_ | refine Byt.mk _ rfl ?_ | refine Or.inr (Or.inl ⟨_, _, h34, leL_refl _, rfl, rfl, ?_⟩) | refine And.intro trivial ?_ | exact trivial | exact leX_refl _ | exact rfl | refine frc_mk ?_ | refine weak_fr ?_ ?_ rfl | refine And.intro ?_ ?_ | fail) | refine frc_mk ?_)
      all_goals first
        | contradiction
        | (exfalso; omega)
        | exact leX_refl _
        | (exfalso; clear hc h37l h34; simp_all; done)
        | trace_state
end Go.Proofs.YtdbeeenjcjplhaaDoor.Vc
