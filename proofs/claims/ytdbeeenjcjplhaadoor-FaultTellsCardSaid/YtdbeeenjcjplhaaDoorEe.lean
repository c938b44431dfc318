/- The reference's errors, and the page's example. -/
import Derived.Test.YtdbeeenjcjplhaaDoorEd
namespace Go.Proofs.YtdbeeenjcjplhaaDoor.Vc
open Go Go.RowKit Go.Proofs Go.Proofs.Tryd
set_option maxRecDepth 20000
/-- The document's errors. -/
structure Chn where
  s : Bool
  l : List LinkF
def Chn.tv (h : Chn) : TV := .a [tB h.s, .s 3 (h.l.map LinkF.tv)]
def newC (c : Int) (p : ByteArray) (a : Int) : Chn := if c = 0 then ⟨false, []⟩ else ⟨true, [⟨c, p, a⟩]⟩
def codeL : List LinkF → Int
  | [] => 6
  | k :: _ => k.c
def Chn.code (h : Chn) : Int := if h.s = false then 0 else codeL h.l
def turnC (h : Chn) (c : Int) (p : ByteArray) (a : Int) : Chn := if h.s = false then h else ⟨true, ⟨if c = 0 then h.code else c, p, a⟩ :: h.l⟩
def Chn.has (h : Chn) (code : Int) : Bool := if code = 0 then !h.s else h.l.any fun k => decide (k.c = code)
theorem s41 (c : Int) (p : ByteArray) (a : Int) : Spec prog 41 [tI c, tS p, tI a] [] (newC c p a).tv [] := by
  unfold newC
  refine spec_s is41 mixed rfl (V_x ?_)
  by_cases h : c = 0
  · rw [if_pos h]
    repeat' (first | ((conv => whnf) <;>
             first | refine Frz.own ?_ | refine Get.mk _ rfl ?_ | refine Get.mk _ (map_geti (by omega)) ?_ | refine Get.mk _ (map_getp (by omega) (by omega)) ?_ | refine Get.mk _ (map_get (by omega)) ?_ | refine Bv2.mk _ _ rfl rfl ?_ | refine Bv1.mk _ rfl ?_ | refine Wr.mk _ (wrap_i64 (by omega) (by omega)) ?_ | refine Wr.mk _ rfl ?_ | refine And.intro len_map ?_ | refine And.intro (leX_refl _) ?_ | refine And.intro rfl ?_ | refine And.intro (leO_some _) ?_ | (refine And.intro (fun h => absurd h (by decide)) (fun h => ?_); clear h) | (refine And.intro (fun h => ?_) (fun h => absurd h (by decide)); clear h) | (with_reducible first | refine sp1 (fun h => ?_) (fun h => ?_) | refine sp2 (fun h => ?_) (fun h => ?_) | refine sp3 (fun h => ?_) (fun h => ?_) | refine sp4 (fun h => ?_) (fun h => ?_) | refine sp5 (fun h => ?_) (fun h => ?_) | refine sp6 (fun h => ?_) (fun h => ?_)) | with_reducible refine And.intro (fun h => ?_) (fun h => ?_) | refine And.intro (Int.natCast_nonneg _) ?_ | refine And.intro (by omega) ?_ | refine And.intro (by decide) ?_ | refine Lst.mk _ rfl ?_ | refine And.intro trivial ?_ | exact trivial | exact leX_refl _ | exact rfl | refine frc_mk ?_ | refine weak_fr ?_ ?_ rfl | refine And.intro ?_ ?_ | fail) | refine frc_mk ?_)
    all_goals first
      | contradiction
      | (refine leT ?_; rfl)
      | trace_state
  · rw [if_neg h]
    repeat' (first | ((conv => whnf) <;>
             first | refine Frz.own ?_ | refine Get.mk _ rfl ?_ | refine Get.mk _ (map_geti (by omega)) ?_ | refine Get.mk _ (map_getp (by omega) (by omega)) ?_ | refine Get.mk _ (map_get (by omega)) ?_ | refine Bv2.mk _ _ rfl rfl ?_ | refine Bv1.mk _ rfl ?_ | refine Wr.mk _ (wrap_i64 (by omega) (by omega)) ?_ | refine Wr.mk _ rfl ?_ | refine And.intro len_map ?_ | refine And.intro (leX_refl _) ?_ | refine And.intro rfl ?_ | refine And.intro (leO_some _) ?_ | (refine And.intro (fun h => absurd h (by decide)) (fun h => ?_); clear h) | (refine And.intro (fun h => ?_) (fun h => absurd h (by decide)); clear h) | (with_reducible first | refine sp1 (fun h => ?_) (fun h => ?_) | refine sp2 (fun h => ?_) (fun h => ?_) | refine sp3 (fun h => ?_) (fun h => ?_) | refine sp4 (fun h => ?_) (fun h => ?_) | refine sp5 (fun h => ?_) (fun h => ?_) | refine sp6 (fun h => ?_) (fun h => ?_)) | with_reducible refine And.intro (fun h => ?_) (fun h => ?_) | refine And.intro (Int.natCast_nonneg _) ?_ | refine And.intro (by omega) ?_ | refine And.intro (by decide) ?_ | refine Lst.mk _ rfl ?_ | refine And.intro trivial ?_ | exact trivial | exact leX_refl _ | exact rfl | refine frc_mk ?_ | refine weak_fr ?_ ?_ rfl | refine And.intro ?_ ?_ | fail) | refine frc_mk ?_)
    all_goals first
      | contradiction
      | (refine leT ?_; rfl)
      | trace_state
theorem s20 (h : Chn) : Spec prog 20 [h.tv] [] (tI h.code) [] := by
  obtain ⟨s, l⟩ := h
  dsimp only [Chn.tv]
  refine spec_s is20 mixed rfl (V_x ?_)
  cases s with
  | false =>
    repeat' (first | ((conv => whnf) <;>
             first | refine Frz.own ?_ | refine Get.mk _ rfl ?_ | refine Get.mk _ (map_geti (by omega)) ?_ | refine Get.mk _ (map_getp (by omega) (by omega)) ?_ | refine Get.mk _ (map_get (by omega)) ?_ | refine Bv2.mk _ _ rfl rfl ?_ | refine Bv1.mk _ rfl ?_ | refine Wr.mk _ (wrap_i64 (by omega) (by omega)) ?_ | refine Wr.mk _ rfl ?_ | refine And.intro len_map ?_ | refine And.intro (leX_refl _) ?_ | refine And.intro rfl ?_ | refine And.intro (leO_some _) ?_ | (refine And.intro (fun h => absurd h (by decide)) (fun h => ?_); clear h) | (refine And.intro (fun h => ?_) (fun h => absurd h (by decide)); clear h) | (with_reducible first | refine sp1 (fun h => ?_) (fun h => ?_) | refine sp2 (fun h => ?_) (fun h => ?_) | refine sp3 (fun h => ?_) (fun h => ?_) | refine sp4 (fun h => ?_) (fun h => ?_) | refine sp5 (fun h => ?_) (fun h => ?_) | refine sp6 (fun h => ?_) (fun h => ?_)) | with_reducible refine And.intro (fun h => ?_) (fun h => ?_) | refine And.intro (Int.natCast_nonneg _) ?_ | refine And.intro (by omega) ?_ | refine And.intro (by decide) ?_ | refine Lst.mk _ rfl ?_ | refine And.intro trivial ?_ | exact trivial | exact leX_refl _ | exact rfl | refine frc_mk ?_ | refine weak_fr ?_ ?_ rfl | refine And.intro ?_ ?_ | fail) | refine frc_mk ?_)
    all_goals trace_state
  | true =>
    cases l with
    | nil =>
      repeat' (first | ((conv => whnf) <;>
               first | refine Frz.own ?_ | refine Get.mk _ rfl ?_ | refine Get.mk _ (map_geti (by omega)) ?_ | refine Get.mk _ (map_getp (by omega) (by omega)) ?_ | refine Get.mk _ (map_get (by omega)) ?_ | refine Bv2.mk _ _ rfl rfl ?_ | refine Bv1.mk _ rfl ?_ | refine Wr.mk _ (wrap_i64 (by omega) (by omega)) ?_ | refine Wr.mk _ rfl ?_ | refine And.intro len_map ?_ | refine And.intro (leX_refl _) ?_ | refine And.intro rfl ?_ | refine And.intro (leO_some _) ?_ | (refine And.intro (fun h => absurd h (by decide)) (fun h => ?_); clear h) | (refine And.intro (fun h => ?_) (fun h => absurd h (by decide)); clear h) | (with_reducible first | refine sp1 (fun h => ?_) (fun h => ?_) | refine sp2 (fun h => ?_) (fun h => ?_) | refine sp3 (fun h => ?_) (fun h => ?_) | refine sp4 (fun h => ?_) (fun h => ?_) | refine sp5 (fun h => ?_) (fun h => ?_) | refine sp6 (fun h => ?_) (fun h => ?_)) | with_reducible refine And.intro (fun h => ?_) (fun h => ?_) | refine And.intro (Int.natCast_nonneg _) ?_ | refine And.intro (by omega) ?_ | refine And.intro (by decide) ?_ | refine Lst.mk _ rfl ?_ | refine And.intro trivial ?_ | exact trivial | exact leX_refl _ | exact rfl | refine frc_mk ?_ | refine weak_fr ?_ ?_ rfl | refine And.intro ?_ ?_ | fail) | refine frc_mk ?_)
      all_goals first
        | contradiction
        | trace_state
    | cons k l =>
      obtain ⟨c, p, a⟩ := k
      repeat' (first | ((conv => whnf) <;>
               first | refine Frz.own ?_ | refine Get.mk _ rfl ?_ | refine Get.mk _ (map_geti (by omega)) ?_ | refine Get.mk _ (map_getp (by omega) (by omega)) ?_ | refine Get.mk _ (map_get (by omega)) ?_ | refine Bv2.mk _ _ rfl rfl ?_ | refine Bv1.mk _ rfl ?_ | refine Wr.mk _ (wrap_i64 (by omega) (by omega)) ?_ | refine Wr.mk _ rfl ?_ | refine And.intro len_map ?_ | refine And.intro (leX_refl _) ?_ | refine And.intro rfl ?_ | refine And.intro (leO_some _) ?_ | (refine And.intro (fun h => absurd h (by decide)) (fun h => ?_); clear h) | (refine And.intro (fun h => ?_) (fun h => absurd h (by decide)); clear h) | (with_reducible first | refine sp1 (fun h => ?_) (fun h => ?_) | refine sp2 (fun h => ?_) (fun h => ?_) | refine sp3 (fun h => ?_) (fun h => ?_) | refine sp4 (fun h => ?_) (fun h => ?_) | refine sp5 (fun h => ?_) (fun h => ?_) | refine sp6 (fun h => ?_) (fun h => ?_)) | with_reducible refine And.intro (fun h => ?_) (fun h => ?_) | refine And.intro (Int.natCast_nonneg _) ?_ | refine And.intro (by omega) ?_ | refine And.intro (by decide) ?_ | refine Lst.mk _ rfl ?_ | refine And.intro trivial ?_ | exact trivial | exact leX_refl _ | exact rfl | refine frc_mk ?_ | refine weak_fr ?_ ?_ rfl | refine And.intro ?_ ?_ | fail) | refine frc_mk ?_)
      all_goals first
        | contradiction
        | (exfalso; simp only [List.length_map, List.length_cons] at *; omega)
        | exact leX_refl _
        | trace_state
theorem s43 (h : Chn) (c : Int) (p : ByteArray) (a : Int) (hl : h.l.length ≤ 1000000) : Spec prog 43 [h.tv, tI c, tS p, tI a] [] (turnC h c p a).tv [] := by
  have h20 := s20 h
  unfold turnC
  obtain ⟨s, l⟩ := h
  dsimp only [Chn.tv] at *
  refine spec_s is43 mixed rfl (V_x ?_)
  cases s with
  | false =>
    rw [if_pos rfl]
    repeat' (first | ((conv => whnf) <;>
             first | refine Frz.own ?_ | refine Get.mk _ rfl ?_ | refine Get.mk _ (map_geti (by omega)) ?_ | refine Get.mk _ (map_getp (by omega) (by omega)) ?_ | refine Get.mk _ (map_get (by omega)) ?_ | refine Bv2.mk _ _ rfl rfl ?_ | refine Bv1.mk _ rfl ?_ | refine Wr.mk _ (wrap_i64 (by omega) (by omega)) ?_ | refine Wr.mk _ rfl ?_ | refine And.intro len_map ?_ | refine And.intro (leX_refl _) ?_ | refine And.intro rfl ?_ | refine And.intro (leO_some _) ?_ | (refine And.intro (fun h => absurd h (by decide)) (fun h => ?_); clear h) | (refine And.intro (fun h => ?_) (fun h => absurd h (by decide)); clear h) | (with_reducible first | refine sp1 (fun h => ?_) (fun h => ?_) | refine sp2 (fun h => ?_) (fun h => ?_) | refine sp3 (fun h => ?_) (fun h => ?_) | refine sp4 (fun h => ?_) (fun h => ?_) | refine sp5 (fun h => ?_) (fun h => ?_) | refine sp6 (fun h => ?_) (fun h => ?_)) | with_reducible refine And.intro (fun h => ?_) (fun h => ?_) | refine And.intro (Int.natCast_nonneg _) ?_ | refine And.intro (by omega) ?_ | refine And.intro (by decide) ?_ | refine Lst.mk _ rfl ?_ | refine And.intro trivial ?_ | exact trivial | exact leX_refl _ | exact rfl | refine frc_mk ?_ | refine weak_fr ?_ ?_ rfl | refine And.intro ?_ ?_ | fail) | refine frc_mk ?_)
    all_goals first
      | exact leX_refl _
      | trace_state
  | true =>
    rw [if_neg (by simp)]
    have hlm : (l.map LinkF.tv).length = l.length := List.length_map _
    by_cases h0 : c = 0
    · rw [if_pos h0]
      generalize (Chn.mk true l).code = C at *
      repeat' (first | ((conv => whnf) <;>
               first | refine Frz.own ?_ | refine Get.mk _ rfl ?_ | refine Get.mk _ (map_geti (by omega)) ?_ | refine Get.mk _ (map_getp (by omega) (by omega)) ?_ | refine Get.mk _ (map_get (by omega)) ?_ | refine Bv2.mk _ _ rfl rfl ?_ | refine Bv1.mk _ rfl ?_ | refine Wr.mk _ (wrap_i64 (by omega) (by omega)) ?_ | refine Wr.mk _ rfl ?_ | refine And.intro len_map ?_ | refine And.intro (leX_refl _) ?_ | refine And.intro rfl ?_ | refine And.intro (leO_some _) ?_ | (refine And.intro (fun h => absurd h (by decide)) (fun h => ?_); clear h) | (refine And.intro (fun h => ?_) (fun h => absurd h (by decide)); clear h) | (with_reducible first | refine sp1 (fun h => ?_) (fun h => ?_) | refine sp2 (fun h => ?_) (fun h => ?_) | refine sp3 (fun h => ?_) (fun h => ?_) | refine sp4 (fun h => ?_) (fun h => ?_) | refine sp5 (fun h => ?_) (fun h => ?_) | refine sp6 (fun h => ?_) (fun h => ?_)) | with_reducible refine And.intro (fun h => ?_) (fun h => ?_) | refine And.intro (Int.natCast_nonneg _) ?_ | refine And.intro (by omega) ?_ | refine And.intro (by decide) ?_ | refine Lst.mk _ rfl ?_ | refine Or.inr (Or.inl ⟨_, _, h20, leL_refl _, rfl, rfl, ?_⟩) | refine And.intro trivial ?_ | exact trivial | exact leX_refl _ | exact rfl | refine frc_mk ?_ | refine weak_fr ?_ ?_ rfl | refine And.intro ?_ ?_ | fail) | refine frc_mk ?_)
      all_goals first
        | contradiction
        | (simp only [List.length_cons, List.length_nil]; omega)
        | (refine leT ?_; rfl)
        | trace_state
    · rw [if_neg h0]
      repeat' (first | ((conv => whnf) <;>
               first | refine Frz.own ?_ | refine Get.mk _ rfl ?_ | refine Get.mk _ (map_geti (by omega)) ?_ | refine Get.mk _ (map_getp (by omega) (by omega)) ?_ | refine Get.mk _ (map_get (by omega)) ?_ | refine Bv2.mk _ _ rfl rfl ?_ | refine Bv1.mk _ rfl ?_ | refine Wr.mk _ (wrap_i64 (by omega) (by omega)) ?_ | refine Wr.mk _ rfl ?_ | refine And.intro len_map ?_ | refine And.intro (leX_refl _) ?_ | refine And.intro rfl ?_ | refine And.intro (leO_some _) ?_ | (refine And.intro (fun h => absurd h (by decide)) (fun h => ?_); clear h) | (refine And.intro (fun h => ?_) (fun h => absurd h (by decide)); clear h) | (with_reducible first | refine sp1 (fun h => ?_) (fun h => ?_) | refine sp2 (fun h => ?_) (fun h => ?_) | refine sp3 (fun h => ?_) (fun h => ?_) | refine sp4 (fun h => ?_) (fun h => ?_) | refine sp5 (fun h => ?_) (fun h => ?_) | refine sp6 (fun h => ?_) (fun h => ?_)) | with_reducible refine And.intro (fun h => ?_) (fun h => ?_) | refine And.intro (Int.natCast_nonneg _) ?_ | refine And.intro (by omega) ?_ | refine And.intro (by decide) ?_ | refine Lst.mk _ rfl ?_ | refine And.intro trivial ?_ | exact trivial | exact leX_refl _ | exact rfl | refine frc_mk ?_ | refine weak_fr ?_ ?_ rfl | refine And.intro ?_ ?_ | fail) | refine frc_mk ?_)
      all_goals first
        | contradiction
        | (simp only [List.length_cons, List.length_nil]; omega)
        | (refine leT ?_; rfl)
        | trace_state
theorem s42 (h : Chn) (p : ByteArray) (a : Int) (hl : h.l.length ≤ 1000000) : Spec prog 42 [h.tv, tS p, tI a] [] (turnC h h.code p a).tv [] := by
  have h20 := s20 h
  have h43 := s43 h h.code p a hl
  obtain ⟨s, l⟩ := h
  generalize turnC (Chn.mk s l) (Chn.mk s l).code p a = R at *
  generalize (Chn.mk s l).code = C at *
  obtain ⟨s', l'⟩ := R
  have h20 : Spec prog 20 [.a [tB s, .s 3 (l.map LinkF.tv)]] [] (tI C) [] := h20
  have h43 : Spec prog 43 [.a [tB s, .s 3 (l.map LinkF.tv)], tI C, tS p, tI a] [] (.a [tB s', .s 3 (l'.map LinkF.tv)]) [] := h43
  refine spec_s is42 mixed rfl (V_x ?_)
  repeat' (first | ((conv => whnf) <;>
           first | refine Frz.own ?_ | refine Get.mk _ rfl ?_ | refine Get.mk _ (map_geti (by omega)) ?_ | refine Get.mk _ (map_getp (by omega) (by omega)) ?_ | refine Get.mk _ (map_get (by omega)) ?_ | refine Bv2.mk _ _ rfl rfl ?_ | refine Bv1.mk _ rfl ?_ | refine Wr.mk _ (wrap_i64 (by omega) (by omega)) ?_ | refine Wr.mk _ rfl ?_ | refine And.intro len_map ?_ | refine And.intro (leX_refl _) ?_ | refine And.intro rfl ?_ | refine And.intro (leO_some _) ?_ | (refine And.intro (fun h => absurd h (by decide)) (fun h => ?_); clear h) | (refine And.intro (fun h => ?_) (fun h => absurd h (by decide)); clear h) | (with_reducible first | refine sp1 (fun h => ?_) (fun h => ?_) | refine sp2 (fun h => ?_) (fun h => ?_) | refine sp3 (fun h => ?_) (fun h => ?_) | refine sp4 (fun h => ?_) (fun h => ?_) | refine sp5 (fun h => ?_) (fun h => ?_) | refine sp6 (fun h => ?_) (fun h => ?_)) | with_reducible refine And.intro (fun h => ?_) (fun h => ?_) | refine And.intro (Int.natCast_nonneg _) ?_ | refine And.intro (by omega) ?_ | refine And.intro (by decide) ?_ | refine Lst.mk _ rfl ?_ | refine Or.inr (Or.inl ⟨_, _, h20, leL_refl _, rfl, rfl, ?_⟩) | refine Or.inr (Or.inl ⟨_, _, h43, leL_refl _, rfl, rfl, ?_⟩) | refine And.intro trivial ?_ | exact trivial | exact leX_refl _ | exact rfl | refine frc_mk ?_ | refine weak_fr ?_ ?_ rfl | refine And.intro ?_ ?_ | fail) | refine frc_mk ?_)
  all_goals first
    | exact leX_refl _
    | trace_state
end Go.Proofs.YtdbeeenjcjplhaaDoor.Vc

namespace Go.Proofs.YtdbeeenjcjplhaaDoor.Vc
open Go Go.RowKit Go.Proofs Go.Proofs.Tryd
set_option maxRecDepth 20000
def textL (k : LinkF) (l : List LinkF) : ByteArray := l.foldl (fun s k => s ++ colon ++ k.text) k.text
def Chn.text (h : Chn) : ByteArray := if h.s = false then bs0 else match h.l with
  | [] => alienB
  | k :: l => textL k l
theorem textL_size (l : List LinkF) : ∀ (s : ByteArray) (B : Nat), s.size ≤ B → (∀ x ∈ l, x.fine) → (l.foldl (fun s k => s ++ colon ++ k.text) s).size ≤ B + l.length * 1000047 := by
  induction l with
  | nil => intro s B h _; simpa using h
  | cons x l ih =>
    intro s B h hf
    have h1 := LinkF.size (hf x List.mem_cons_self)
    have h2 := ih (s ++ colon ++ x.text) (B + 1000047) (by
      have e2 : colon.size = 2 := rfl
      simp only [ByteArray.size_append, e2]; omega) (fun y hy => hf y (List.mem_cons_of_mem _ hy))
    simp only [List.foldl_cons, List.length_cons, Nat.succ_mul]
    omega
theorem s22 (h : Chn) (hl : h.l.length ≤ 1000000) (hf : ∀ k ∈ h.l, k.fine) : Spec prog 22 [h.tv] [] (tS h.text) [] := by
  obtain ⟨s, l⟩ := h
  unfold Chn.text
  dsimp only [Chn.tv] at hl hf ⊢
  refine spec_s is22 mixed rfl (V_x ?_)
  cases s with
  | false =>
    rw [if_pos rfl]
    repeat' (first | ((conv => whnf) <;>
             first | refine Frz.own ?_ | refine Get.mk _ rfl ?_ | refine Get.mk _ (map_geti (by omega)) ?_ | refine Get.mk _ (map_getp (by omega) (by omega)) ?_ | refine Get.mk _ (map_get (by omega)) ?_ | refine Bv2.mk _ _ rfl rfl ?_ | refine Bv1.mk _ rfl ?_ | refine Wr.mk _ (wrap_i64 (by omega) (by omega)) ?_ | refine Wr.mk _ rfl ?_ | refine And.intro len_map ?_ | refine And.intro (leX_refl _) ?_ | refine And.intro rfl ?_ | refine And.intro (leO_some _) ?_ | (refine And.intro (fun h => absurd h (by decide)) (fun h => ?_); clear h) | (refine And.intro (fun h => ?_) (fun h => absurd h (by decide)); clear h) | (with_reducible first | refine sp1 (fun h => ?_) (fun h => ?_) | refine sp2 (fun h => ?_) (fun h => ?_) | refine sp3 (fun h => ?_) (fun h => ?_) | refine sp4 (fun h => ?_) (fun h => ?_) | refine sp5 (fun h => ?_) (fun h => ?_) | refine sp6 (fun h => ?_) (fun h => ?_)) | with_reducible refine And.intro (fun h => ?_) (fun h => ?_) | refine And.intro (Int.natCast_nonneg _) ?_ | refine And.intro (by omega) ?_ | refine And.intro (by decide) ?_ | refine Lst.mk _ rfl ?_ | refine And.intro trivial ?_ | exact trivial | exact leX_refl _ | exact rfl | refine frc_mk ?_ | refine weak_fr ?_ ?_ rfl | refine And.intro ?_ ?_ | fail) | refine frc_mk ?_)
    all_goals first
      | exact leX_refl _
      | trace_state
  | true =>
    rw [if_neg (by simp)]
    cases l with
    | nil =>
      repeat' (first | ((conv => whnf) <;>
               first | refine Frz.own ?_ | refine Get.mk _ rfl ?_ | refine Get.mk _ (map_geti (by omega)) ?_ | refine Get.mk _ (map_getp (by omega) (by omega)) ?_ | refine Get.mk _ (map_get (by omega)) ?_ | refine Bv2.mk _ _ rfl rfl ?_ | refine Bv1.mk _ rfl ?_ | refine Wr.mk _ (wrap_i64 (by omega) (by omega)) ?_ | refine Wr.mk _ rfl ?_ | refine And.intro len_map ?_ | refine And.intro (leX_refl _) ?_ | refine And.intro rfl ?_ | refine And.intro (leO_some _) ?_ | (refine And.intro (fun h => absurd h (by decide)) (fun h => ?_); clear h) | (refine And.intro (fun h => ?_) (fun h => absurd h (by decide)); clear h) | (with_reducible first | refine sp1 (fun h => ?_) (fun h => ?_) | refine sp2 (fun h => ?_) (fun h => ?_) | refine sp3 (fun h => ?_) (fun h => ?_) | refine sp4 (fun h => ?_) (fun h => ?_) | refine sp5 (fun h => ?_) (fun h => ?_) | refine sp6 (fun h => ?_) (fun h => ?_)) | with_reducible refine And.intro (fun h => ?_) (fun h => ?_) | refine And.intro (Int.natCast_nonneg _) ?_ | refine And.intro (by omega) ?_ | refine And.intro (by decide) ?_ | refine Lst.mk _ rfl ?_ | refine And.intro trivial ?_ | exact trivial | exact leX_refl _ | exact rfl | refine frc_mk ?_ | refine weak_fr ?_ ?_ rfl | refine And.intro ?_ ?_ | fail) | refine frc_mk ?_)
      all_goals first
        | contradiction
        | exact leX_refl _
        | trace_state
    | cons k l =>
      have hk := hf k List.mem_cons_self
      have h14 : Spec prog 14 [.a [tI k.c, tS k.p, tI k.a]] [] (tS k.text) [] := s14 k.c k.p k.a hk.c hk.a hk.p
      have hget0 : ((k :: l).map LinkF.tv)[((0 : Int)).toNat]? = some (.a [tI k.c, tS k.p, tI k.a]) := rfl
      have hlm : ((k :: l).map LinkF.tv).length = l.length + 1 := by simp
      have hl' : l.length < 1000000 := by simp only [List.length_cons] at hl; omega
      show xC prog c22 (FinS [.tmp 2] (tS (textL k l))) (argL 0 [.a [tB true, .s 3 ((k :: l).map LinkF.tv)]]) []
      generalize hM : (k :: l).map LinkF.tv = M at *
      repeat' (first | ((conv => whnf) <;>
               first | refine Frz.own ?_ | refine Get.mk _ rfl ?_ | refine Get.mk _ (map_geti (by omega)) ?_ | refine Get.mk _ (map_getp (by omega) (by omega)) ?_ | refine Get.mk _ (map_get (by omega)) ?_ | refine Bv2.mk _ _ rfl rfl ?_ | refine Bv1.mk _ rfl ?_ | refine Wr.mk _ (wrap_i64 (by omega) (by omega)) ?_ | refine Wr.mk _ rfl ?_ | refine And.intro len_map ?_ | refine And.intro (leX_refl _) ?_ | refine And.intro rfl ?_ | refine And.intro (leO_some _) ?_ | (refine And.intro (fun h => absurd h (by decide)) (fun h => ?_); clear h) | (refine And.intro (fun h => ?_) (fun h => absurd h (by decide)); clear h) | (with_reducible first | refine sp1 (fun h => ?_) (fun h => ?_) | refine sp2 (fun h => ?_) (fun h => ?_) | refine sp3 (fun h => ?_) (fun h => ?_) | refine sp4 (fun h => ?_) (fun h => ?_) | refine sp5 (fun h => ?_) (fun h => ?_) | refine sp6 (fun h => ?_) (fun h => ?_)) | with_reducible refine And.intro (fun h => ?_) (fun h => ?_) | refine And.intro (Int.natCast_nonneg _) ?_ | refine And.intro (by omega) ?_ | refine And.intro (by decide) ?_ | refine Get.mk _ (hget0) ?_ | refine Lst.mk _ rfl ?_ | refine Or.inr (Or.inl ⟨_, _, h14, leL_refl _, rfl, rfl, ?_⟩) | refine And.intro trivial ?_ | exact trivial | exact leX_refl _ | exact rfl | refine frc_mk ?_ | refine weak_fr ?_ ?_ rfl | refine And.intro ?_ ?_ | fail) | refine frc_mk ?_)
      all_goals first
        | contradiction
        | (exfalso; omega)
        | skip
      refine V_up l.length (fun i => i ≤ l.length) (fun i => ([(1, .p 32 0 0), (3, tS (textL k (l.take i))), (4, tI ((i : Nat) + 1))], [(32, .var 43 (.a [tB true, .s 3 M]))])) (Nat.zero_le _) ?_ ?_
      · repeat' (first | ((conv => whnf) <;>
                 first | refine Frz.own ?_ | refine Get.mk _ rfl ?_ | refine Get.mk _ (map_geti (by omega)) ?_ | refine Get.mk _ (map_getp (by omega) (by omega)) ?_ | refine Get.mk _ (map_get (by omega)) ?_ | refine Bv2.mk _ _ rfl rfl ?_ | refine Bv1.mk _ rfl ?_ | refine Wr.mk _ (wrap_i64 (by omega) (by omega)) ?_ | refine Wr.mk _ rfl ?_ | refine And.intro len_map ?_ | refine And.intro (leX_refl _) ?_ | refine And.intro rfl ?_ | refine And.intro (leO_some _) ?_ | (refine And.intro (fun h => absurd h (by decide)) (fun h => ?_); clear h) | (refine And.intro (fun h => ?_) (fun h => absurd h (by decide)); clear h) | (with_reducible first | refine sp1 (fun h => ?_) (fun h => ?_) | refine sp2 (fun h => ?_) (fun h => ?_) | refine sp3 (fun h => ?_) (fun h => ?_) | refine sp4 (fun h => ?_) (fun h => ?_) | refine sp5 (fun h => ?_) (fun h => ?_) | refine sp6 (fun h => ?_) (fun h => ?_)) | with_reducible refine And.intro (fun h => ?_) (fun h => ?_) | refine And.intro (Int.natCast_nonneg _) ?_ | refine And.intro (by omega) ?_ | refine And.intro (by decide) ?_ | refine Lst.mk _ rfl ?_ | refine And.intro trivial ?_ | exact trivial | exact leX_refl _ | exact rfl | refine frc_mk ?_ | refine weak_fr ?_ ?_ rfl | refine And.intro ?_ ?_ | fail) | refine frc_mk ?_)
        all_goals first
          | exact leX_refl _
          | trace_state
      · intro i hi _
        refine V_x ?_
        by_cases hlt : i < l.length
        · have hget : M[((i : Int) + 1).toNat]? = some (.a [tI l[i].c, tS l[i].p, tI l[i].a]) := by
            rw [← hM, show ((i : Int) + 1).toNat = i + 1 by omega, List.map_cons, List.getElem?_cons_succ, List.getElem?_map, List.getElem?_eq_getElem hlt]; rfl
          have hx := hf l[i] (List.mem_cons_of_mem _ (List.getElem_mem hlt))
          have h14' : Spec prog 14 [.a [tI l[i].c, tS l[i].p, tI l[i].a]] [] (tS l[i].text) [] := s14 _ _ _ hx.c hx.a hx.p
          have hsz := textL_size (l.take i) k.text 1000045 (LinkF.size hk) (fun y hy => hf y (List.mem_cons_of_mem _ (List.mem_of_mem_take hy)))
          rw [List.length_take, Nat.min_eq_left hi] at hsz
          have hsx := LinkF.size hx
          have hnx : textL k (l.take (i + 1)) = textL k (l.take i) ++ colon ++ l[i].text := by
            unfold textL
            rw [List.take_succ_eq_append_getElem hlt, List.foldl_append]; rfl
          have hcz : (ByteArray.mk #[58, 32]).size = 2 := rfl
          have hsz' : (textL k (l.take i)).size ≤ 1000045 + i * 1000047 := hsz
          have hb : (textL k (l.take i)).size ≤ 1000046000045 := by
            have : i * 1000047 ≤ 1000000 * 1000047 := Nat.mul_le_mul_right _ (by omega)
            omega
          repeat' (first | ((conv => whnf) <;>
                   first | refine Frz.own ?_ | refine Get.mk _ rfl ?_ | refine Get.mk _ (map_geti (by omega)) ?_ | refine Get.mk _ (map_getp (by omega) (by omega)) ?_ | refine Get.mk _ (map_get (by omega)) ?_ | refine Bv2.mk _ _ rfl rfl ?_ | refine Bv1.mk _ rfl ?_ | refine Wr.mk _ (wrap_i64 (by omega) (by omega)) ?_ | refine Wr.mk _ rfl ?_ | refine And.intro len_map ?_ | refine And.intro (leX_refl _) ?_ | refine And.intro rfl ?_ | refine And.intro (leO_some _) ?_ | (refine And.intro (fun h => absurd h (by decide)) (fun h => ?_); clear h) | (refine And.intro (fun h => ?_) (fun h => absurd h (by decide)); clear h) | (with_reducible first | refine sp1 (fun h => ?_) (fun h => ?_) | refine sp2 (fun h => ?_) (fun h => ?_) | refine sp3 (fun h => ?_) (fun h => ?_) | refine sp4 (fun h => ?_) (fun h => ?_) | refine sp5 (fun h => ?_) (fun h => ?_) | refine sp6 (fun h => ?_) (fun h => ?_)) | with_reducible refine And.intro (fun h => ?_) (fun h => ?_) | refine And.intro (Int.natCast_nonneg _) ?_ | refine And.intro (by omega) ?_ | refine And.intro (by decide) ?_ | refine Get.mk _ (hget) ?_ | refine Lst.mk _ rfl ?_ | refine Or.inr (Or.inl ⟨_, _, h14', leL_refl _, rfl, rfl, ?_⟩) | refine And.intro trivial ?_ | exact trivial | exact leX_refl _ | exact rfl | refine frc_mk ?_ | refine weak_fr ?_ ?_ rfl | refine And.intro ?_ ?_ | fail) | refine frc_mk ?_)
          all_goals first
            | (exfalso; omega)
            | (simp only [ByteArray.size_append, hcz]; omega)
            | (refine leI ?_; push_cast; omega)
            | (refine leT ?_; rw [hnx]; done)
            | (refine leT ?_; rw [hnx]; rfl)
            | skip
          all_goals trace_state
        · obtain rfl : i = l.length := by omega
          rw [List.take_length]
          repeat' (first | ((conv => whnf) <;>
                   first | refine Frz.own ?_ | refine Get.mk _ rfl ?_ | refine Get.mk _ (map_geti (by omega)) ?_ | refine Get.mk _ (map_getp (by omega) (by omega)) ?_ | refine Get.mk _ (map_get (by omega)) ?_ | refine Bv2.mk _ _ rfl rfl ?_ | refine Bv1.mk _ rfl ?_ | refine Wr.mk _ (wrap_i64 (by omega) (by omega)) ?_ | refine Wr.mk _ rfl ?_ | refine And.intro len_map ?_ | refine And.intro (leX_refl _) ?_ | refine And.intro rfl ?_ | refine And.intro (leO_some _) ?_ | (refine And.intro (fun h => absurd h (by decide)) (fun h => ?_); clear h) | (refine And.intro (fun h => ?_) (fun h => absurd h (by decide)); clear h) | (with_reducible first | refine sp1 (fun h => ?_) (fun h => ?_) | refine sp2 (fun h => ?_) (fun h => ?_) | refine sp3 (fun h => ?_) (fun h => ?_) | refine sp4 (fun h => ?_) (fun h => ?_) | refine sp5 (fun h => ?_) (fun h => ?_) | refine sp6 (fun h => ?_) (fun h => ?_)) | with_reducible refine And.intro (fun h => ?_) (fun h => ?_) | refine And.intro (Int.natCast_nonneg _) ?_ | refine And.intro (by omega) ?_ | refine And.intro (by decide) ?_ | refine Lst.mk _ rfl ?_ | refine And.intro trivial ?_ | exact trivial | exact leX_refl _ | exact rfl | refine frc_mk ?_ | refine weak_fr ?_ ?_ rfl | refine And.intro ?_ ?_ | fail) | refine frc_mk ?_)
          all_goals first
            | (exfalso; omega)
            | exact leX_refl _
            | skip
          all_goals trace_state
end Go.Proofs.YtdbeeenjcjplhaaDoor.Vc

namespace Go.Proofs.YtdbeeenjcjplhaaDoor.Vc
open Go Go.RowKit Go.Proofs Go.Proofs.Tryd
set_option maxRecDepth 20000
theorem itoa2 : itoaB 2 = ⟨#[50]⟩ := by simp [itoaB, Lib.itoa, Lib.decDigits]
theorem itoa3 : itoaB 3 = ⟨#[51]⟩ := by simp [itoaB, Lib.itoa, Lib.decDigits]
theorem itoa7 : itoaB 7 = ⟨#[55]⟩ := by simp [itoaB, Lib.itoa, Lib.decDigits]
abbrev cmdB : ByteArray := ⟨#[99, 109, 100]⟩
abbrev scrB : ByteArray := ⟨#[115, 99, 114, 105, 112, 116]⟩
def exE : Err := .flt 3 scrB 7 (.flt 3 cmdB 2 .nil)
theorem ex_text : exE.text = ⟨#[115, 99, 114, 105, 112, 116, 32, 55, 32, 35, 51, 58, 32, 99, 109, 100, 32, 50, 32, 35, 51]⟩ := by
  have h1 : linkB 3 scrB 7 = ⟨#[115, 99, 114, 105, 112, 116, 32, 55, 32, 35, 51]⟩ := by
    unfold linkB; rw [itoa7, itoa3]; rfl
  have h2 : linkB 3 cmdB 2 = ⟨#[99, 109, 100, 32, 50, 32, 35, 51]⟩ := by
    unfold linkB; rw [itoa2, itoa3]; rfl
  unfold Err.text
  rw [if_neg (by simp [exE, Err.isNil]), if_neg (by simp [exE, Err.links])]
  show joinB [linkB 3 scrB 7, linkB 3 cmdB 2] colon = _
  rw [h1, h2]
  rfl
theorem s12 : Spec prog 12 [] [] (tB true) [] := by
  have h25 : Spec prog 25 [tI 3, tS cmdB, tI 2] [] (.x 23 (.r [tI 3, tS cmdB, tI 2, .v .nilIface])) [] := s25 3 2 cmdB
  have h27 : Spec prog 27 [.x 23 (.r [tI 3, tS cmdB, tI 2, .v .nilIface]), tS scrB, tI 7] [] exE.tv [] := s27 (.flt 3 cmdB 2 .nil) 7 scrB
  have hl : exE.links.length ≤ 1000000 := by simp [exE, Err.links]
  have hf : ∀ k ∈ exE.links, k.fine := by
    intro k hk
    simp only [exE, Err.links, List.mem_cons, List.not_mem_nil, or_false] at hk
    rcases hk with rfl | rfl
    · exact ⟨⟨by decide, by decide⟩, ⟨by decide, by decide⟩, by decide⟩
    · exact ⟨⟨by decide, by decide⟩, ⟨by decide, by decide⟩, by decide⟩
  have h21 := s21 exE hl hf
  rw [ex_text] at h21
  have h19 : Spec prog 19 [exE.tv] [] (tI 3) [] := s19 exE
  have h23a : Spec prog 23 [exE.tv, tI 3] [] (tB true) [] := by
    have h := s23 exE 3
    have e : exE.hasC 3 = true := by simp [exE, Err.hasC, Err.isNil, Err.has]
    rw [e] at h; exact h
  have h23b : Spec prog 23 [exE.tv, tI 10] [] (tB false) [] := by
    have h := s23 exE 10
    have e : exE.hasC 10 = false := by simp [exE, Err.hasC, Err.isNil, Err.has]
    rw [e] at h; exact h
  have h18 : Spec prog 18 [exE.tv] [] (.s 3 [.a [tI 3, tS scrB, tI 7], .a [tI 3, tS cmdB, tI 2]]) [] := s18 exE hl
  have hE : exE.tv = .x 23 (.r [tI 3, tS scrB, tI 7, .x 23 (.r [tI 3, tS cmdB, tI 2, .v .nilIface])]) := rfl
  rw [hE] at *
  refine spec_s is12 mixed rfl (V_x ?_)
  repeat' (first | ((conv => whnf) <;>
           first | refine Frz.own ?_ | refine Get.mk _ rfl ?_ | refine Get.mk _ (map_geti (by omega)) ?_ | refine Get.mk _ (map_getp (by omega) (by omega)) ?_ | refine Get.mk _ (map_get (by omega)) ?_ | refine Bv2.mk _ _ rfl rfl ?_ | refine Bv1.mk _ rfl ?_ | refine Wr.mk _ (wrap_i64 (by omega) (by omega)) ?_ | refine Wr.mk _ rfl ?_ | refine And.intro len_map ?_ | refine And.intro (leX_refl _) ?_ | refine And.intro rfl ?_ | refine And.intro (leO_some _) ?_ | (refine And.intro (fun h => absurd h (by decide)) (fun h => ?_); clear h) | (refine And.intro (fun h => ?_) (fun h => absurd h (by decide)); clear h) | (with_reducible first | refine sp1 (fun h => ?_) (fun h => ?_) | refine sp2 (fun h => ?_) (fun h => ?_) | refine sp3 (fun h => ?_) (fun h => ?_) | refine sp4 (fun h => ?_) (fun h => ?_) | refine sp5 (fun h => ?_) (fun h => ?_) | refine sp6 (fun h => ?_) (fun h => ?_)) | with_reducible refine And.intro (fun h => ?_) (fun h => ?_) | refine And.intro (Int.natCast_nonneg _) ?_ | refine And.intro (by omega) ?_ | refine And.intro (by decide) ?_ | refine Lst.mk _ rfl ?_ | refine Or.inr (Or.inl ⟨_, _, h25, leL_refl _, rfl, rfl, ?_⟩) | refine Or.inr (Or.inl ⟨_, _, h27, leL_refl _, rfl, rfl, ?_⟩) | refine Or.inr (Or.inl ⟨_, _, h21, leL_refl _, rfl, rfl, ?_⟩) | refine Or.inr (Or.inl ⟨_, _, h19, leL_refl _, rfl, rfl, ?_⟩) | refine Or.inr (Or.inl ⟨_, _, h23a, leL_refl _, rfl, rfl, ?_⟩) | refine Or.inr (Or.inl ⟨_, _, h23b, leL_refl _, rfl, rfl, ?_⟩) | refine Or.inr (Or.inl ⟨_, _, h18, leL_refl _, rfl, rfl, ?_⟩) | refine And.intro trivial ?_ | exact trivial | exact leX_refl _ | exact rfl | refine frc_mk ?_ | refine weak_fr ?_ ?_ rfl | refine And.intro ?_ ?_ | fail) | refine frc_mk ?_)
  all_goals first
    | contradiction
    | exact leX_refl _
    | (exfalso; clear h25 h27 h21 h19 h23a h23b h18 hE hf hl; simp_all; done)
    | trace_state
end Go.Proofs.YtdbeeenjcjplhaaDoor.Vc
