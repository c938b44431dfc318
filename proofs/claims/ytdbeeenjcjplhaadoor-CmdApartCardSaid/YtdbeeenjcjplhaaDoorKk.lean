/- All fields that are written, walked. -/
import Derived.Test.YtdbeeenjcjplhaaDoorKh
namespace Go.Proofs.YtdbeeenjcjplhaaDoor.Vc
open Go Go.RowKit Go.Proofs.Tryd
set_option maxRecDepth 20000
set_option maxHeartbeats 16000000
def encB (c : CmdF) (xs : List (BitVec 8)) (fs : List Nat) : List (BitVec 8) := fs.foldl (fun xs i => xs ++ numI (c.get i)) xs
theorem w54 (c : CmdF) (xs : List (BitVec 8)) (hx : Okb xs 0) : Spec prog 52 [.p 0 0 0, .f (.func 54) [.p 1 0 0]] [.var 65 c.tv, .var 72 (.s 1 (xs.map bytTV))] (tB (fieldsOf c.op).isSome) [.var 65 c.tv, .var 72 (.s 1 ((encB c xs ((fieldsOf c.op).getD [])).map bytTV))] := by
  have h54 := fun i h xs k hx hk => s54 c i h xs k hx hk
  have hx1 := fun v => hx.app v
  have hx2 := fun v w => (hx.app v).app w
  have hx3 := fun v w u => ((hx.app v).app w).app u
  obtain ⟨op, id, gr, sh, we, ca, co, n⟩ := c
  dsimp only [CmdF.tv] at *
  rcases op_cases op with rfl | rfl | rfl | rfl | rfl | rfl | rfl | rfl | rfl | rfl | rfl | rfl | rfl | rfl | rfl | rfl | rfl | hn
  all_goals first
    | rw [fieldsOf_none hn]; obtain ⟨h1, h2, h3, h4, h5, h6, h7, h8, h9, h10, h11, h12, h13, h14, h15, h16, h17⟩ := hn
    | skip
  all_goals
    refine spec_o is52 mixed [] rfl rfl rfl (V_x ?_)
    repeat' (first | ((conv => whnf) <;>
             first | refine Frz.own ?_ | refine Get.mk _ rfl ?_ | refine Get.mk _ (map_geti (by omega)) ?_ | refine Get.mk _ (map_getp (by omega) (by omega)) ?_ | refine Get.mk _ (map_get (by omega)) ?_ | refine Bv2.mk _ _ rfl rfl ?_ | refine Bv1.mk _ rfl ?_ | refine Wr.mk _ (wrap_i64 (by omega) (by omega)) ?_ | refine Wr.mk _ rfl ?_ | refine And.intro len_map ?_ | refine And.intro (leX_refl _) ?_ | refine And.intro rfl ?_ | refine And.intro (leO_some _) ?_ | (refine And.intro (fun h => absurd h (by decide)) (fun h => ?_); clear h) | (refine And.intro (fun h => ?_) (fun h => absurd h (by decide)); clear h) | (with_reducible first | refine sp1 (fun h => ?_) (fun h => ?_) | refine sp2 (fun h => ?_) (fun h => ?_) | refine sp3 (fun h => ?_) (fun h => ?_) | refine sp4 (fun h => ?_) (fun h => ?_) | refine sp5 (fun h => ?_) (fun h => ?_) | refine sp6 (fun h => ?_) (fun h => ?_)) | with_reducible refine And.intro (fun h => ?_) (fun h => ?_) | refine And.intro (Int.natCast_nonneg _) ?_ | refine And.intro (by omega) ?_ | refine And.intro (by decide) ?_ | refine Lst.mk _ rfl ?_ | refine Or.inr (Or.inr (Or.inl ⟨[0, 1], false, _, _, h54 _ (by decide) _ 0 hx (by decide), fun h => Bool.noConfusion h, (by decide), all_some rfl, fun h => Bool.noConfusion h, len_le rfl, ?_⟩)) | refine Or.inr (Or.inr (Or.inl ⟨[0, 1], false, _, _, h54 _ (by decide) _ 1 (hx1 _) (by decide), fun h => Bool.noConfusion h, (by decide), all_some rfl, fun h => Bool.noConfusion h, len_le rfl, ?_⟩)) | refine Or.inr (Or.inr (Or.inl ⟨[0, 1], false, _, _, h54 _ (by decide) _ 2 (hx2 _ _) (by decide), fun h => Bool.noConfusion h, (by decide), all_some rfl, fun h => Bool.noConfusion h, len_le rfl, ?_⟩)) | refine Or.inr (Or.inr (Or.inl ⟨[0, 1], false, _, _, h54 _ (by decide) _ 3 (hx3 _ _ _) (by decide), fun h => Bool.noConfusion h, (by decide), all_some rfl, fun h => Bool.noConfusion h, len_le rfl, ?_⟩)) | refine Byt.mk _ rfl ?_ | refine And.intro trivial ?_ | exact trivial | exact leX_refl _ | exact rfl | refine frc_mk ?_ | refine weak_fr ?_ ?_ rfl | refine And.intro ?_ ?_ | fail) | refine frc_mk ?_)
    all_goals first
      | contradiction
      | exact no_mem'
      | exact lt2 (fun h => by cases h) (fun h => by cases h)
      | rfl
      | trace_state
end Go.Proofs.YtdbeeenjcjplhaaDoor.Vc
