/- All fields that are read, walked. -/
import Derived.Test.YtdbeeenjcjplhaaDoorKi
namespace Go.Proofs.YtdbeeenjcjplhaaDoor.Vc
open Go Go.RowKit Go.Proofs.Tryd
set_option maxRecDepth 20000
set_option maxHeartbeats 16000000
theorem len_tac {bs : List (BitVec 8)} {e : Int} (h : bs.length ≤ 1000000) : (rdNum ⟨bs, e⟩).2.bs.length ≤ 1000000 := rdNum_len h
theorem w58 (s : DecS) (h0 : 0 ≤ s.k) (hk1 : s.k ≤ 90) (hr : s.r.bs.length ≤ 1000000) : Spec prog 52 [.p 0 0 0, .f (.func 58) [.p 1 0 0, .p 2 0 0, .p 4 0 0]] s.obs (tB (fieldsOf s.c.op).isSome) (((fieldsOf s.c.op).getD []).foldl decStep s).obs := by
  have h58 := fun (op id gr sh we ca co n k : Int) (a : 0 ≤ k) (a' : k ≤ 100) (bs : List (BitVec 8)) (e b : Int) i h (c : bs.length ≤ 1000000) => s58 ⟨⟨op, id, gr, sh, we, ca, co, n⟩, k, ⟨bs, e⟩, b⟩ i h a a' c
  obtain ⟨⟨op, id, gr, sh, we, ca, co, n⟩, k, ⟨bs, e⟩, b⟩ := s
  dsimp only [DecS.obs, CmdF.tv] at *
  have ha := fun op id gr sh we ca co n => h58 op id gr sh we ca co n k h0 (by omega)
  have hb := fun op id gr sh we ca co n => h58 op id gr sh we ca co n (k + 1) (by omega) (by omega)
  have hc := fun op id gr sh we ca co n => h58 op id gr sh we ca co n (k + 1 + 1) (by omega) (by omega)
  have hd := fun op id gr sh we ca co n => h58 op id gr sh we ca co n (k + 1 + 1 + 1) (by omega) (by omega)
  clear h58
  rcases op_cases op with rfl | rfl | rfl | rfl | rfl | rfl | rfl | rfl | rfl | rfl | rfl | rfl | rfl | rfl | rfl | rfl | rfl | hn
  all_goals first
    | rw [fieldsOf_none hn]; obtain ⟨h1, h2, h3, h4, h5, h6, h7, h8, h9, h10, h11, h12, h13, h14, h15, h16, h17⟩ := hn
    | skip
  all_goals
    refine spec_o is52 mixed [] rfl rfl rfl (V_x ?_)
    repeat' (first | ((conv => whnf) <;>
             first | refine Frz.own ?_ | refine Get.mk _ rfl ?_ | refine Get.mk _ (map_geti (by omega)) ?_ | refine Get.mk _ (map_getp (by omega) (by omega)) ?_ | refine Get.mk _ (map_get (by omega)) ?_ | refine Bv2.mk _ _ rfl rfl ?_ | refine Bv1.mk _ rfl ?_ | refine Wr.mk _ (wrap_i64 (by omega) (by omega)) ?_ | refine Wr.mk _ rfl ?_ | refine And.intro len_map ?_ | refine And.intro (leX_refl _) ?_ | refine And.intro rfl ?_ | refine And.intro (leO_some _) ?_ | (refine And.intro (fun h => absurd h (by decide)) (fun h => ?_); clear h) | (refine And.intro (fun h => ?_) (fun h => absurd h (by decide)); clear h) | (with_reducible first | refine sp1 (fun h => ?_) (fun h => ?_) | refine sp2 (fun h => ?_) (fun h => ?_) | refine sp3 (fun h => ?_) (fun h => ?_) | refine sp4 (fun h => ?_) (fun h => ?_) | refine sp5 (fun h => ?_) (fun h => ?_) | refine sp6 (fun h => ?_) (fun h => ?_)) | with_reducible refine And.intro (fun h => ?_) (fun h => ?_) | refine And.intro (Int.natCast_nonneg _) ?_ | refine And.intro (by omega) ?_ | refine And.intro (by decide) ?_ | refine Lst.mk _ rfl ?_ | refine Or.inr (Or.inr (Or.inl ⟨[0, 1, 2, 3, 4], false, _, _, ha _ _ _ _ _ _ _ _ _ _ _ _ (by decide) hr, fun h => Bool.noConfusion h, (by decide), all_some rfl, fun h => Bool.noConfusion h, len_le rfl, ?_⟩)) | refine Or.inr (Or.inr (Or.inl ⟨[0, 1, 2, 3, 4], false, _, _, hb _ _ _ _ _ _ _ _ _ _ _ _ (by decide) (len_tac hr), fun h => Bool.noConfusion h, (by decide), all_some rfl, fun h => Bool.noConfusion h, len_le rfl, ?_⟩)) | refine Or.inr (Or.inr (Or.inl ⟨[0, 1, 2, 3, 4], false, _, _, hc _ _ _ _ _ _ _ _ _ _ _ _ (by decide) (len_tac (len_tac hr)), fun h => Bool.noConfusion h, (by decide), all_some rfl, fun h => Bool.noConfusion h, len_le rfl, ?_⟩)) | refine Or.inr (Or.inr (Or.inl ⟨[0, 1, 2, 3, 4], false, _, _, hd _ _ _ _ _ _ _ _ _ _ _ _ (by decide) (len_tac (len_tac (len_tac hr))), fun h => Bool.noConfusion h, (by decide), all_some rfl, fun h => Bool.noConfusion h, len_le rfl, ?_⟩)) | refine Byt.mk _ rfl ?_ | refine And.intro trivial ?_ | exact trivial | exact leX_refl _ | exact rfl | refine frc_mk ?_ | refine weak_fr ?_ ?_ rfl | refine And.intro ?_ ?_ | fail) | refine frc_mk ?_)
    all_goals first
      | contradiction
      | exact no_mem'
      | exact lt5 (fun h => by cases h) (fun h => by cases h) (fun h => by cases h) (fun h => by cases h) (fun h => by cases h)
      | rfl
      | trace_state
end Go.Proofs.YtdbeeenjcjplhaaDoor.Vc
