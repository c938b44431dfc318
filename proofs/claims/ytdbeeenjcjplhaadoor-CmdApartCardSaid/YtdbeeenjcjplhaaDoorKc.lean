/- The first field that is out of bounds, walked. -/
import Derived.Test.YtdbeeenjcjplhaaDoorKa
namespace Go.Proofs.YtdbeeenjcjplhaaDoor.Vc
open Go Go.RowKit Go.Proofs.Tryd
set_option maxRecDepth 20000
set_option maxHeartbeats 16000000
theorem w69 (c : CmdF) (k b : Int) (h0 : 0 ≤ k) (h1 : k ≤ 90) : Spec prog 52 [.p 0 0 0, .f (.func 69) [.p 1 0 0, .p 2 0 0]] [.var 65 c.tv, .var 3 (tI k), .var 3 (tI b)] (tB (fieldsOf c.op).isSome) [.var 65 c.tv, .var 3 (tI (((fieldsOf c.op).getD []).foldl (fun s i => ovStep s (c.get i)) (k, b)).1), .var 3 (tI (((fieldsOf c.op).getD []).foldl (fun s i => ovStep s (c.get i)) (k, b)).2)] := by
  have h69 := fun i hi m b h h' => s69 c i hi m b h h'
  have ha := fun i h b => h69 i h k b h0 (by omega)
  have hb := fun i h b => h69 i h (k + 1) b (by omega) (by omega)
  have hc := fun i h b => h69 i h (k + 1 + 1) b (by omega) (by omega)
  have hd := fun i h b => h69 i h (k + 1 + 1 + 1) b (by omega) (by omega)
  clear h69
  obtain ⟨op, id, gr, sh, we, ca, co, nn⟩ := c
  dsimp only [CmdF.tv] at *
  rcases op_cases op with rfl | rfl | rfl | rfl | rfl | rfl | rfl | rfl | rfl | rfl | rfl | rfl | rfl | rfl | rfl | rfl | rfl | hn
  all_goals first
    | rw [fieldsOf_none hn]; obtain ⟨h1, h2, h3, h4, h5, h6, h7, h8, h9, h10, h11, h12, h13, h14, h15, h16, h17⟩ := hn
    | skip
  all_goals
    refine spec_o is52 mixed [] rfl rfl rfl (V_x ?_)
    repeat' (first | ((conv => whnf) <;>
             first | refine Frz.own ?_ | refine Get.mk _ rfl ?_ | refine Get.mk _ (map_geti (by omega)) ?_ | refine Get.mk _ (map_getp (by omega) (by omega)) ?_ | refine Get.mk _ (map_get (by omega)) ?_ | refine Bv2.mk _ _ rfl rfl ?_ | refine Bv1.mk _ rfl ?_ | refine Wr.mk _ (wrap_i64 (by omega) (by omega)) ?_ | refine Wr.mk _ rfl ?_ | refine And.intro len_map ?_ | refine And.intro (leX_refl _) ?_ | refine And.intro rfl ?_ | refine And.intro (leO_some _) ?_ | (refine And.intro (fun h => absurd h (by decide)) (fun h => ?_); clear h) | (refine And.intro (fun h => ?_) (fun h => absurd h (by decide)); clear h) | (with_reducible first | refine sp1 (fun h => ?_) (fun h => ?_) | refine sp2 (fun h => ?_) (fun h => ?_) | refine sp3 (fun h => ?_) (fun h => ?_) | refine sp4 (fun h => ?_) (fun h => ?_) | refine sp5 (fun h => ?_) (fun h => ?_) | refine sp6 (fun h => ?_) (fun h => ?_)) | with_reducible refine And.intro (fun h => ?_) (fun h => ?_) | refine And.intro (Int.natCast_nonneg _) ?_ | refine And.intro (by omega) ?_ | refine And.intro (by decide) ?_ | refine Lst.mk _ rfl ?_ | refine Or.inr (Or.inr (Or.inl ⟨[0, 1, 2], false, _, _, ha _ (by decide) _, fun h => Bool.noConfusion h, (by decide), all_some rfl, fun h => Bool.noConfusion h, len_le rfl, ?_⟩)) | refine Or.inr (Or.inr (Or.inl ⟨[0, 1, 2], false, _, _, hb _ (by decide) _, fun h => Bool.noConfusion h, (by decide), all_some rfl, fun h => Bool.noConfusion h, len_le rfl, ?_⟩)) | refine Or.inr (Or.inr (Or.inl ⟨[0, 1, 2], false, _, _, hc _ (by decide) _, fun h => Bool.noConfusion h, (by decide), all_some rfl, fun h => Bool.noConfusion h, len_le rfl, ?_⟩)) | refine Or.inr (Or.inr (Or.inl ⟨[0, 1, 2], false, _, _, hd _ (by decide) _, fun h => Bool.noConfusion h, (by decide), all_some rfl, fun h => Bool.noConfusion h, len_le rfl, ?_⟩)) | refine Byt.mk _ rfl ?_ | refine And.intro trivial ?_ | exact trivial | exact leX_refl _ | exact rfl | refine frc_mk ?_ | refine weak_fr ?_ ?_ rfl | refine And.intro ?_ ?_ | fail) | refine frc_mk ?_)
    all_goals first
      | contradiction
      | exact no_mem'
      | exact lt3 (fun h => by cases h) (fun h => by cases h) (fun h => by cases h)
      | rfl
      | trace_state
end Go.Proofs.YtdbeeenjcjplhaaDoor.Vc
