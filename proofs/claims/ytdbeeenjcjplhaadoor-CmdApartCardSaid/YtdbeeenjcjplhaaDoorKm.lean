/- Decoding, walked. -/
import Derived.Test.YtdbeeenjcjplhaaDoorKl
import Derived.Test.YtdbeeenjcjplhaaDoorKj
namespace Go.Proofs.YtdbeeenjcjplhaaDoor.Vc
open Go Go.RowKit Go.Proofs.Tryd
set_option maxRecDepth 20000
set_option maxHeartbeats 8000000 in
theorem s37 (l : List (BitVec 8)) (hl : l.length ≤ 1000000) : Spec prog 37 [.s 1 (l.map bytTV)] [] (.t [(decE l).1.tv, (decE l).2.tv]) [] := by
  have h25 := fun c a p => s25 c a p
  cases l with
  | nil =>
    have h25 : Spec prog 25 [tI 3, tS cmdB, tI 0] [] (.x 23 (.r [tI 3, tS cmdB, tI 0, .v .nilIface])) [] := s25 3 0 cmdB
    dsimp only [decE, CmdF.tv, cmd0, Err.tv]
    rw [List.map_nil]
    refine spec_s is37 mixed rfl (V_x ?_)
    repeat' (first | ((conv => whnf) <;>
             first | refine Frz.own ?_ | refine Get.mk _ rfl ?_ | refine Get.mk _ (map_geti (by omega)) ?_ | refine Get.mk _ (map_getp (by omega) (by omega)) ?_ | refine Get.mk _ (map_get (by omega)) ?_ | refine Bv2.mk _ _ rfl rfl ?_ | refine Bv1.mk _ rfl ?_ | refine Wr.mk _ (wrap_i64 (by omega) (by omega)) ?_ | refine Wr.mk _ rfl ?_ | refine And.intro len_map ?_ | refine And.intro (leX_refl _) ?_ | refine And.intro rfl ?_ | refine And.intro (leO_some _) ?_ | (refine And.intro (fun h => absurd h (by decide)) (fun h => ?_); clear h) | (refine And.intro (fun h => ?_) (fun h => absurd h (by decide)); clear h) | (with_reducible first | refine sp1 (fun h => ?_) (fun h => ?_) | refine sp2 (fun h => ?_) (fun h => ?_) | refine sp3 (fun h => ?_) (fun h => ?_) | refine sp4 (fun h => ?_) (fun h => ?_) | refine sp5 (fun h => ?_) (fun h => ?_) | refine sp6 (fun h => ?_) (fun h => ?_)) | with_reducible refine And.intro (fun h => ?_) (fun h => ?_) | refine And.intro (Int.natCast_nonneg _) ?_ | refine And.intro (by omega) ?_ | refine And.intro (by decide) ?_ | refine Lst.mk _ rfl ?_ | refine Byt.mk _ rfl ?_ | refine Or.inr (Or.inl ⟨_, _, h25, leL_refl _, rfl, rfl, ?_⟩) | refine And.intro trivial ?_ | exact trivial | exact leX_refl _ | exact rfl | refine frc_mk ?_ | refine weak_fr ?_ ?_ rfl | refine And.intro ?_ ?_ | fail) | refine frc_mk ?_)
    all_goals first
      | contradiction
      | exact leX_refl _
      | (refine leT ?_; rfl)
      | trace_state
  | cons b bs =>
    have hbs : bs.length ≤ 1000000 := by simp only [List.length_cons] at hl; omega
    have h57 := s57 bs hbs
    have hw := w58 ⟨cmd0 b.toNat, 0, ⟨bs, 0⟩, 0⟩ (show (0 : Int) ≤ 0 by decide) (show (0 : Int) ≤ 90 by decide) hbs
    have hop : IntKind.wrap .i64 (Int.ofNat b.toNat) = ((b.toNat : Nat) : Int) := wrap_i64 (by have := b.isLt; show _ ≤ (((b.toNat) : Nat) : Int); omega) (by have := b.isLt; show (((b.toNat) : Nat) : Int) ≤ _; omega)
    have hlm : (bs.map bytTV).length = bs.length := List.length_map _
    have h25n : Spec prog 25 [tI 3, tS cmdB, tI b.toNat] [] (.x 23 (.r [tI 3, tS cmdB, tI b.toNat, .v .nilIface])) [] := s25 3 b.toNat cmdB
    have hcut : ((bytTV b :: bs.map bytTV).take (bytTV b :: bs.map bytTV).length).drop (Int.toNat 1) = bs.map bytTV := by rw [List.take_length]; rfl
    have h57 : Spec prog 57 [.s 1 (((bytTV b :: bs.map bytTV).take (bytTV b :: bs.map bytTV).length).drop (Int.toNat 1))] [] (.p 0 0 0) [.var 139 (.a (Rd.mk bs 0).cs)] := by rw [hcut]; exact h57
    rw [List.map_cons]
    cases hf : fieldsOf b.toNat with
    | none =>
      have hd : decE (b :: bs) = (cmd0 0, .flt 3 cmdB b.toNat .nil) := by unfold decE; dsimp only; rw [hf]
      rw [hd]
      rw [show fieldsOf (DecS.mk (cmd0 b.toNat) 0 ⟨bs, 0⟩ 0).c.op = none from hf] at hw
      dsimp only [DecS.obs, CmdF.tv, cmd0, Err.tv, Rd.cs, Option.isSome, Option.getD, List.foldl] at *
      generalize bs.map bytTV = M at *
      refine spec_s is37 mixed rfl (V_x ?_)
      repeat' (first | ((conv => whnf) <;>
               first | refine Frz.own ?_ | refine Wr.mk _ (hop) ?_ | refine Get.mk _ rfl ?_ | refine Get.mk _ (map_geti (by omega)) ?_ | refine Get.mk _ (map_getp (by omega) (by omega)) ?_ | refine Get.mk _ (map_get (by omega)) ?_ | refine Bv2.mk _ _ rfl rfl ?_ | refine Bv1.mk _ rfl ?_ | refine Wr.mk _ (wrap_i64 (by omega) (by omega)) ?_ | refine Wr.mk _ rfl ?_ | refine And.intro len_map ?_ | refine And.intro (leX_refl _) ?_ | refine And.intro rfl ?_ | refine And.intro (leO_some _) ?_ | (refine And.intro (fun h => absurd h (by decide)) (fun h => ?_); clear h) | (refine And.intro (fun h => ?_) (fun h => absurd h (by decide)); clear h) | (with_reducible first | refine sp1 (fun h => ?_) (fun h => ?_) | refine sp2 (fun h => ?_) (fun h => ?_) | refine sp3 (fun h => ?_) (fun h => ?_) | refine sp4 (fun h => ?_) (fun h => ?_) | refine sp5 (fun h => ?_) (fun h => ?_) | refine sp6 (fun h => ?_) (fun h => ?_)) | with_reducible refine And.intro (fun h => ?_) (fun h => ?_) | refine And.intro (Int.natCast_nonneg _) ?_ | refine And.intro (by omega) ?_ | refine And.intro (by decide) ?_ | refine Lst.mk _ rfl ?_ | refine Or.inr (Or.inr (Or.inl ⟨[], false, _, [_], h57, fun _ => ⟨rfl, Nat.le_of_ble_eq_true rfl⟩, List.nodup_nil, fun _ h => absurd h List.not_mem_nil, fun h => Bool.noConfusion h, one_none rfl, ?_⟩)) | refine Or.inr (Or.inr (Or.inl ⟨[80, 112, 96, 336, 128], false, _, _, hw, fun h => Bool.noConfusion h, (by decide), all_some rfl, fun h => Bool.noConfusion h, len_le rfl, ?_⟩)) | refine Byt.mk _ rfl ?_ | refine Or.inr (Or.inl ⟨_, _, h25n, leL_refl _, rfl, rfl, ?_⟩) | refine And.intro trivial ?_ | exact trivial | exact leX_refl _ | exact rfl | refine frc_mk ?_ | refine weak_fr ?_ ?_ rfl | refine And.intro ?_ ?_ | fail) | refine frc_mk ?_)
      all_goals first
        | contradiction
        | (exfalso; omega)
        | (exfalso; simp only [List.length_cons] at *; omega)
        | (simp only [List.length_cons]; omega)
        | exact leX_refl _
        | (refine leT ?_; rfl)
        | trace_state
    | some fs =>
      have hS : ∀ s : DecS, decS b.toNat bs fs = s → decE (b :: bs) = if 0 < s.b then (cmd0 0, .flt 3 cmdB s.c.op (.flt s.r.err fieldB s.b .nil)) else if 0 < s.r.bs.length then (cmd0 0, .flt 3 cmdB s.c.op (.flt 4 fieldB s.k .nil)) else (s.c, .nil) := fun s hs => by
        have hco : s.c.op = b.toNat := by rw [← hs]; exact dec_op fs _
        unfold decE; dsimp only; rw [hf, hco]; dsimp only; rw [hs]
      have hde : 0 < (decS b.toNat bs fs).b → (decS b.toNat bs fs).r.err ≠ 0 := fun h => dec_err fs _ (fun h' => absurd rfl h') (by unfold decS at h; omega)
      rw [show fieldsOf (DecS.mk (cmd0 b.toNat) 0 ⟨bs, 0⟩ 0).c.op = some fs from hf] at hw
      have hw : Spec prog 52 [.p 0 0 0, .f (.func 58) [.p 1 0 0, .p 2 0 0, .p 4 0 0]] (DecS.mk (cmd0 b.toNat) 0 ⟨bs, 0⟩ 0).obs (tB true) (decS b.toNat bs fs).obs := hw
      have hS := hS _ rfl
      generalize decS b.toNat bs fs = S at *
      rw [hS]
      have h60 := s60 S.r
      have h61 := s61 S.r
      have h25l : Spec prog 25 [tI 4, tS fieldB, tI S.k] [] (.x 23 (.r [tI 4, tS fieldB, tI S.k, .v .nilIface])) [] := s25 4 S.k fieldB
      have h28l : Spec prog 28 [.x 23 (.r [tI 4, tS fieldB, tI S.k, .v .nilIface]), tI 3, tS cmdB, tI S.c.op] [] (.x 23 (.r [tI 3, tS cmdB, tI S.c.op, .x 23 (.r [tI 4, tS fieldB, tI S.k, .v .nilIface])])) [] := s28 (.flt 4 fieldB S.k .nil) 3 S.c.op cmdB
      have h25e : S.r.err ≠ 0 → Spec prog 25 [tI S.r.err, tS fieldB, tI S.b] [] (.x 23 (.r [tI S.r.err, tS fieldB, tI S.b, .v .nilIface])) [] := fun h => by
        have h1 := s25 S.r.err S.b fieldB
        rw [show newE S.r.err fieldB S.b = .flt S.r.err fieldB S.b .nil by unfold newE; rw [if_neg h]] at h1; exact h1
      have h28e : Spec prog 28 [.x 23 (.r [tI S.r.err, tS fieldB, tI S.b, .v .nilIface]), tI 3, tS cmdB, tI S.c.op] [] (.x 23 (.r [tI 3, tS cmdB, tI S.c.op, .x 23 (.r [tI S.r.err, tS fieldB, tI S.b, .v .nilIface])])) [] := s28 (.flt S.r.err fieldB S.b .nil) 3 S.c.op cmdB
      obtain ⟨C, K, ⟨rb, re⟩, B⟩ := S
      clear hS h25
      by_cases h1 : 0 < B
      · have h25e := h25e (hde h1)
        rw [if_pos h1]
        dsimp only [DecS.obs, CmdF.tv, cmd0, Err.tv, Rd.cs] at *
        generalize bs.map bytTV = M at *
        generalize rb.map bytTV = MR at *
        refine spec_s is37 mixed rfl (V_x ?_)
        repeat' (first | ((conv => whnf) <;>
                 first | refine Frz.own ?_ | refine Wr.mk _ (hop) ?_ | refine Get.mk _ rfl ?_ | refine Get.mk _ (map_geti (by omega)) ?_ | refine Get.mk _ (map_getp (by omega) (by omega)) ?_ | refine Get.mk _ (map_get (by omega)) ?_ | refine Bv2.mk _ _ rfl rfl ?_ | refine Bv1.mk _ rfl ?_ | refine Wr.mk _ (wrap_i64 (by omega) (by omega)) ?_ | refine Wr.mk _ rfl ?_ | refine And.intro len_map ?_ | refine And.intro (leX_refl _) ?_ | refine And.intro rfl ?_ | refine And.intro (leO_some _) ?_ | (refine And.intro (fun h => absurd h (by decide)) (fun h => ?_); clear h) | (refine And.intro (fun h => ?_) (fun h => absurd h (by decide)); clear h) | (with_reducible first | refine sp1 (fun h => ?_) (fun h => ?_) | refine sp2 (fun h => ?_) (fun h => ?_) | refine sp3 (fun h => ?_) (fun h => ?_) | refine sp4 (fun h => ?_) (fun h => ?_) | refine sp5 (fun h => ?_) (fun h => ?_) | refine sp6 (fun h => ?_) (fun h => ?_)) | with_reducible refine And.intro (fun h => ?_) (fun h => ?_) | refine And.intro (Int.natCast_nonneg _) ?_ | refine And.intro (by omega) ?_ | refine And.intro (by decide) ?_ | refine Lst.mk _ rfl ?_ | refine Or.inr (Or.inr (Or.inl ⟨[], true, _, [], h60, fun _ => ⟨rfl, Nat.le_of_ble_eq_true rfl⟩, List.nodup_nil, fun _ h => absurd h List.not_mem_nil, fun _ => ⟨rfl, fun _ h => absurd h List.not_mem_nil⟩, fun _ h => absurd h (Nat.not_lt_zero _), ?_⟩)) | refine Or.inr (Or.inr (Or.inl ⟨[], false, _, [_], h57, fun _ => ⟨rfl, Nat.le_of_ble_eq_true rfl⟩, List.nodup_nil, fun _ h => absurd h List.not_mem_nil, fun h => Bool.noConfusion h, one_none rfl, ?_⟩)) | refine Or.inr (Or.inr (Or.inl ⟨[80, 112, 96, 336, 128], false, _, _, hw, fun h => Bool.noConfusion h, (by decide), all_some rfl, fun h => Bool.noConfusion h, len_le rfl, ?_⟩)) | refine Byt.mk _ rfl ?_ | refine Or.inr (Or.inl ⟨_, _, h25e, leL_refl _, rfl, rfl, ?_⟩) | refine Or.inr (Or.inl ⟨_, _, h28e, leL_refl _, rfl, rfl, ?_⟩) | refine And.intro trivial ?_ | exact trivial | exact leX_refl _ | exact rfl | refine frc_mk ?_ | refine weak_fr ?_ ?_ rfl | refine And.intro ?_ ?_ | fail) | refine frc_mk ?_)
        all_goals first
          | contradiction
          | (exfalso; omega)
          | (exfalso; simp only [List.length_cons] at *; omega)
          | (simp only [List.length_cons]; omega)
          | exact leX_refl _
          | (refine leT ?_; rfl)
          | trace_state
      · rw [if_neg h1]
        by_cases h2 : 0 < rb.length
        · rw [if_pos h2]
          dsimp only [DecS.obs, CmdF.tv, cmd0, Err.tv, Rd.cs] at *
          generalize bs.map bytTV = M at *
          generalize rb.map bytTV = MR at *
          refine spec_s is37 mixed rfl (V_x ?_)
          repeat' (first | ((conv => whnf) <;>
                   first | refine Frz.own ?_ | refine Wr.mk _ (hop) ?_ | refine Get.mk _ rfl ?_ | refine Get.mk _ (map_geti (by omega)) ?_ | refine Get.mk _ (map_getp (by omega) (by omega)) ?_ | refine Get.mk _ (map_get (by omega)) ?_ | refine Bv2.mk _ _ rfl rfl ?_ | refine Bv1.mk _ rfl ?_ | refine Wr.mk _ (wrap_i64 (by omega) (by omega)) ?_ | refine Wr.mk _ rfl ?_ | refine And.intro len_map ?_ | refine And.intro (leX_refl _) ?_ | refine And.intro rfl ?_ | refine And.intro (leO_some _) ?_ | (refine And.intro (fun h => absurd h (by decide)) (fun h => ?_); clear h) | (refine And.intro (fun h => ?_) (fun h => absurd h (by decide)); clear h) | (with_reducible first | refine sp1 (fun h => ?_) (fun h => ?_) | refine sp2 (fun h => ?_) (fun h => ?_) | refine sp3 (fun h => ?_) (fun h => ?_) | refine sp4 (fun h => ?_) (fun h => ?_) | refine sp5 (fun h => ?_) (fun h => ?_) | refine sp6 (fun h => ?_) (fun h => ?_)) | with_reducible refine And.intro (fun h => ?_) (fun h => ?_) | refine And.intro (Int.natCast_nonneg _) ?_ | refine And.intro (by omega) ?_ | refine And.intro (by decide) ?_ | refine Lst.mk _ rfl ?_ | refine Or.inr (Or.inr (Or.inl ⟨[], true, _, [], h61, fun _ => ⟨rfl, Nat.le_of_ble_eq_true rfl⟩, List.nodup_nil, fun _ h => absurd h List.not_mem_nil, fun _ => ⟨rfl, fun _ h => absurd h List.not_mem_nil⟩, fun _ h => absurd h (Nat.not_lt_zero _), ?_⟩)) | refine Or.inr (Or.inr (Or.inl ⟨[], false, _, [_], h57, fun _ => ⟨rfl, Nat.le_of_ble_eq_true rfl⟩, List.nodup_nil, fun _ h => absurd h List.not_mem_nil, fun h => Bool.noConfusion h, one_none rfl, ?_⟩)) | refine Or.inr (Or.inr (Or.inl ⟨[80, 112, 96, 336, 128], false, _, _, hw, fun h => Bool.noConfusion h, (by decide), all_some rfl, fun h => Bool.noConfusion h, len_le rfl, ?_⟩)) | refine Byt.mk _ rfl ?_ | refine Or.inr (Or.inl ⟨_, _, h25l, leL_refl _, rfl, rfl, ?_⟩) | refine Or.inr (Or.inl ⟨_, _, h28l, leL_refl _, rfl, rfl, ?_⟩) | refine And.intro trivial ?_ | exact trivial | exact leX_refl _ | exact rfl | refine frc_mk ?_ | refine weak_fr ?_ ?_ rfl | refine And.intro ?_ ?_ | fail) | refine frc_mk ?_)
          all_goals first
            | contradiction
            | (exfalso; omega)
            | (exfalso; simp only [List.length_cons] at *; omega)
            | (simp only [List.length_cons]; omega)
            | exact leX_refl _
            | (refine leT ?_; rfl)
            | trace_state
        · rw [if_neg h2]
          dsimp only [DecS.obs, CmdF.tv, cmd0, Err.tv, Rd.cs] at *
          generalize bs.map bytTV = M at *
          generalize rb.map bytTV = MR at *
          refine spec_s is37 mixed rfl (V_x ?_)
          repeat' (first | ((conv => whnf) <;>
                   first | refine Frz.own ?_ | refine Wr.mk _ (hop) ?_ | refine Get.mk _ rfl ?_ | refine Get.mk _ (map_geti (by omega)) ?_ | refine Get.mk _ (map_getp (by omega) (by omega)) ?_ | refine Get.mk _ (map_get (by omega)) ?_ | refine Bv2.mk _ _ rfl rfl ?_ | refine Bv1.mk _ rfl ?_ | refine Wr.mk _ (wrap_i64 (by omega) (by omega)) ?_ | refine Wr.mk _ rfl ?_ | refine And.intro len_map ?_ | refine And.intro (leX_refl _) ?_ | refine And.intro rfl ?_ | refine And.intro (leO_some _) ?_ | (refine And.intro (fun h => absurd h (by decide)) (fun h => ?_); clear h) | (refine And.intro (fun h => ?_) (fun h => absurd h (by decide)); clear h) | (with_reducible first | refine sp1 (fun h => ?_) (fun h => ?_) | refine sp2 (fun h => ?_) (fun h => ?_) | refine sp3 (fun h => ?_) (fun h => ?_) | refine sp4 (fun h => ?_) (fun h => ?_) | refine sp5 (fun h => ?_) (fun h => ?_) | refine sp6 (fun h => ?_) (fun h => ?_)) | with_reducible refine And.intro (fun h => ?_) (fun h => ?_) | refine And.intro (Int.natCast_nonneg _) ?_ | refine And.intro (by omega) ?_ | refine And.intro (by decide) ?_ | refine Lst.mk _ rfl ?_ | refine Or.inr (Or.inr (Or.inl ⟨[], true, _, [], h61, fun _ => ⟨rfl, Nat.le_of_ble_eq_true rfl⟩, List.nodup_nil, fun _ h => absurd h List.not_mem_nil, fun _ => ⟨rfl, fun _ h => absurd h List.not_mem_nil⟩, fun _ h => absurd h (Nat.not_lt_zero _), ?_⟩)) | refine Or.inr (Or.inr (Or.inl ⟨[], false, _, [_], h57, fun _ => ⟨rfl, Nat.le_of_ble_eq_true rfl⟩, List.nodup_nil, fun _ h => absurd h List.not_mem_nil, fun h => Bool.noConfusion h, one_none rfl, ?_⟩)) | refine Or.inr (Or.inr (Or.inl ⟨[80, 112, 96, 336, 128], false, _, _, hw, fun h => Bool.noConfusion h, (by decide), all_some rfl, fun h => Bool.noConfusion h, len_le rfl, ?_⟩)) | refine Byt.mk _ rfl ?_ | refine And.intro trivial ?_ | exact trivial | exact leX_refl _ | exact rfl | refine frc_mk ?_ | refine weak_fr ?_ ?_ rfl | refine And.intro ?_ ?_ | fail) | refine frc_mk ?_)
          all_goals first
            | contradiction
            | (exfalso; omega)
            | (exfalso; simp only [List.length_cons] at *; omega)
            | (simp only [List.length_cons]; omega)
            | exact leX_refl _
            | (refine leT ?_; rfl)
            | trace_state
end Go.Proofs.YtdbeeenjcjplhaaDoor.Vc
