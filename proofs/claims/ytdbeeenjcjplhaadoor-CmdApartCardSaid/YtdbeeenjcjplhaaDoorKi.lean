/- A reader's next number, and a field that is read. -/
import Derived.Test.YtdbeeenjcjplhaaDoorKh
namespace Go.Proofs.YtdbeeenjcjplhaaDoor.Vc
open Go Go.RowKit Go.Proofs.Tryd
set_option maxRecDepth 20000
/-- What the reader tells next, and what is left. -/
def rdNum (r : Rd) : BitVec 64 × Rd :=
  if r.err ≠ 0 then (0, r) else if (numR r.bs).2 = 0 then (0, ⟨[], 3⟩) else if 2147483647 < (numR r.bs).1.toNat then (0, ⟨[], 5⟩) else ((numR r.bs).1, ⟨r.bs.drop (numR r.bs).2, 0⟩)
theorem rdNum_len {r : Rd} (h : r.bs.length ≤ 1000000) : (rdNum r).2.bs.length ≤ 1000000 := by
  unfold rdNum
  split
  · exact h
  split
  · simp
  split
  · simp
  · simp; omega
theorem rdNum_le (r : Rd) : (rdNum r).1.toNat ≤ 2147483647 := by
  unfold rdNum
  split
  · show (0#64).toNat ≤ _; decide
  split
  · show (0#64).toNat ≤ _; decide
  split
  · show (0#64).toNat ≤ _; decide
  · dsimp only; omega
theorem numR_le (bs : List (BitVec 8)) : (numR bs).2 ≤ bs.length := by
  unfold numR
  split
  · split <;> simp <;> omega
  · simp
set_option maxHeartbeats 4000000 in
theorem s59 (r : Rd) (hr : r.bs.length ≤ 1000000) : Spec prog 59 [.p 0 0 0, tU 2147483647#64] [.var 139 (.a r.cs)] (tU (rdNum r).1) [.var 139 (.a (rdNum r).2.cs)] := by
  have h60 := s60 r
  have h73 := s73 r.bs hr
  have h3 := s74 r 3
  have h5 := s74 r 5
  obtain ⟨bs, e⟩ := r
  unfold rdNum
  dsimp only [Rd.cs] at *
  have hle := numR_le bs
  have hlm : (bs.map bytTV).length = bs.length := List.length_map _
  have hM : (2147483647#64).toNat = 2147483647 := rfl
  have hdr : (bs.map bytTV).drop (numR bs).2 = (bs.drop (numR bs).2).map bytTV := by rw [List.map_drop]
  by_cases he : e ≠ 0
  · rw [if_pos he]
    refine spec_o is59 mixed [] rfl rfl rfl (V_x ?_)
    repeat' (first | ((conv => whnf) <;>
             first | refine Frz.own ?_ | refine Get.mk _ rfl ?_ | refine Get.mk _ (map_geti (by omega)) ?_ | refine Get.mk _ (map_getp (by omega) (by omega)) ?_ | refine Get.mk _ (map_get (by omega)) ?_ | refine Bv2.mk _ _ rfl rfl ?_ | refine Bv1.mk _ rfl ?_ | refine Wr.mk _ (wrap_i64 (by omega) (by omega)) ?_ | refine Wr.mk _ rfl ?_ | refine And.intro len_map ?_ | refine And.intro (leX_refl _) ?_ | refine And.intro rfl ?_ | refine And.intro (leO_some _) ?_ | (refine And.intro (fun h => absurd h (by decide)) (fun h => ?_); clear h) | (refine And.intro (fun h => ?_) (fun h => absurd h (by decide)); clear h) | (with_reducible first | refine sp1 (fun h => ?_) (fun h => ?_) | refine sp2 (fun h => ?_) (fun h => ?_) | refine sp3 (fun h => ?_) (fun h => ?_) | refine sp4 (fun h => ?_) (fun h => ?_) | refine sp5 (fun h => ?_) (fun h => ?_) | refine sp6 (fun h => ?_) (fun h => ?_)) | with_reducible refine And.intro (fun h => ?_) (fun h => ?_) | refine And.intro (Int.natCast_nonneg _) ?_ | refine And.intro (by omega) ?_ | refine And.intro (by decide) ?_ | refine Lst.mk _ rfl ?_ | refine Or.inr (Or.inr (Or.inl ⟨[], true, _, [], h60, fun _ => ⟨rfl, Nat.le_of_ble_eq_true rfl⟩, List.nodup_nil, fun _ h => absurd h List.not_mem_nil, fun _ => ⟨rfl, fun _ h => absurd h List.not_mem_nil⟩, fun _ h => absurd h (Nat.not_lt_zero _), ?_⟩)) | refine Byt.mk _ rfl ?_ | refine And.intro trivial ?_ | exact trivial | exact leX_refl _ | exact rfl | refine frc_mk ?_ | refine weak_fr ?_ ?_ rfl | refine And.intro ?_ ?_ | fail) | refine frc_mk ?_)
    all_goals first
      | contradiction
      | exact no_mem'
      | exact lt1 (fun h => by cases h)
      | rfl
      | exact leX_refl _
      | trace_state
  rw [if_neg he]
  have he : e = 0 := Decidable.not_not.1 he
  subst he
  by_cases h0 : (numR bs).2 = 0
  · rw [if_pos h0]
    generalize numR bs = R at *
    obtain ⟨n, k⟩ := R
    dsimp only at *
    refine spec_o is59 mixed [] rfl rfl rfl (V_x ?_)
    repeat' (first | ((conv => whnf) <;>
             first | refine Frz.own ?_ | refine Get.mk _ rfl ?_ | refine Get.mk _ (map_geti (by omega)) ?_ | refine Get.mk _ (map_getp (by omega) (by omega)) ?_ | refine Get.mk _ (map_get (by omega)) ?_ | refine Bv2.mk _ _ rfl rfl ?_ | refine Bv1.mk _ rfl ?_ | refine Wr.mk _ (wrap_i64 (by omega) (by omega)) ?_ | refine Wr.mk _ rfl ?_ | refine And.intro len_map ?_ | refine And.intro (leX_refl _) ?_ | refine And.intro rfl ?_ | refine And.intro (leO_some _) ?_ | (refine And.intro (fun h => absurd h (by decide)) (fun h => ?_); clear h) | (refine And.intro (fun h => ?_) (fun h => absurd h (by decide)); clear h) | (with_reducible first | refine sp1 (fun h => ?_) (fun h => ?_) | refine sp2 (fun h => ?_) (fun h => ?_) | refine sp3 (fun h => ?_) (fun h => ?_) | refine sp4 (fun h => ?_) (fun h => ?_) | refine sp5 (fun h => ?_) (fun h => ?_) | refine sp6 (fun h => ?_) (fun h => ?_)) | with_reducible refine And.intro (fun h => ?_) (fun h => ?_) | refine And.intro (Int.natCast_nonneg _) ?_ | refine And.intro (by omega) ?_ | refine And.intro (by decide) ?_ | refine Lst.mk _ rfl ?_ | refine Or.inr (Or.inr (Or.inl ⟨[], true, _, [], h60, fun _ => ⟨rfl, Nat.le_of_ble_eq_true rfl⟩, List.nodup_nil, fun _ h => absurd h List.not_mem_nil, fun _ => ⟨rfl, fun _ h => absurd h List.not_mem_nil⟩, fun _ h => absurd h (Nat.not_lt_zero _), ?_⟩)) | refine Or.inr (Or.inr (Or.inl ⟨[0], false, _, _, h3, fun h => Bool.noConfusion h, (by decide), all_some rfl, fun h => Bool.noConfusion h, len_le rfl, ?_⟩)) | refine Byt.mk _ rfl ?_ | refine Or.inr (Or.inl ⟨_, _, h73, leL_refl _, rfl, rfl, ?_⟩) | refine And.intro trivial ?_ | exact trivial | exact leX_refl _ | exact rfl | refine frc_mk ?_ | refine weak_fr ?_ ?_ rfl | refine And.intro ?_ ?_ | fail) | refine frc_mk ?_)
    all_goals first
      | contradiction
      | (exfalso; omega)
      | exact no_mem'
      | exact lt1 (fun h => by cases h)
      | rfl
      | exact leX_refl _
      | trace_state
  · rw [if_neg h0]
    by_cases h1 : 2147483647 < (numR bs).1.toNat
    · rw [if_pos h1]
      generalize numR bs = R at *
      obtain ⟨n, k⟩ := R
      dsimp only at *
      refine spec_o is59 mixed [] rfl rfl rfl (V_x ?_)
      repeat' (first | ((conv => whnf) <;>
               first | refine Frz.own ?_ | refine Get.mk _ rfl ?_ | refine Get.mk _ (map_geti (by omega)) ?_ | refine Get.mk _ (map_getp (by omega) (by omega)) ?_ | refine Get.mk _ (map_get (by omega)) ?_ | refine Bv2.mk _ _ rfl rfl ?_ | refine Bv1.mk _ rfl ?_ | refine Wr.mk _ (wrap_i64 (by omega) (by omega)) ?_ | refine Wr.mk _ rfl ?_ | refine And.intro len_map ?_ | refine And.intro (leX_refl _) ?_ | refine And.intro rfl ?_ | refine And.intro (leO_some _) ?_ | (refine And.intro (fun h => absurd h (by decide)) (fun h => ?_); clear h) | (refine And.intro (fun h => ?_) (fun h => absurd h (by decide)); clear h) | (with_reducible first | refine sp1 (fun h => ?_) (fun h => ?_) | refine sp2 (fun h => ?_) (fun h => ?_) | refine sp3 (fun h => ?_) (fun h => ?_) | refine sp4 (fun h => ?_) (fun h => ?_) | refine sp5 (fun h => ?_) (fun h => ?_) | refine sp6 (fun h => ?_) (fun h => ?_)) | with_reducible refine And.intro (fun h => ?_) (fun h => ?_) | refine And.intro (Int.natCast_nonneg _) ?_ | refine And.intro (by omega) ?_ | refine And.intro (by decide) ?_ | refine Lst.mk _ rfl ?_ | refine Or.inr (Or.inr (Or.inl ⟨[], true, _, [], h60, fun _ => ⟨rfl, Nat.le_of_ble_eq_true rfl⟩, List.nodup_nil, fun _ h => absurd h List.not_mem_nil, fun _ => ⟨rfl, fun _ h => absurd h List.not_mem_nil⟩, fun _ h => absurd h (Nat.not_lt_zero _), ?_⟩)) | refine Or.inr (Or.inr (Or.inl ⟨[0], false, _, _, h5, fun h => Bool.noConfusion h, (by decide), all_some rfl, fun h => Bool.noConfusion h, len_le rfl, ?_⟩)) | refine Byt.mk _ rfl ?_ | refine Or.inr (Or.inl ⟨_, _, h73, leL_refl _, rfl, rfl, ?_⟩) | refine And.intro trivial ?_ | exact trivial | exact leX_refl _ | exact rfl | refine frc_mk ?_ | refine weak_fr ?_ ?_ rfl | refine And.intro ?_ ?_ | fail) | refine frc_mk ?_)
      all_goals first
        | contradiction
        | (exfalso; omega)
        | exact no_mem'
        | exact lt1 (fun h => by cases h)
        | rfl
        | exact leX_refl _
        | trace_state
    · rw [if_neg h1]
      generalize numR bs = R at *
      obtain ⟨n, k⟩ := R
      dsimp only at *
      rw [← hdr]
      generalize bs.map bytTV = M at *
      have hcut : (M.take M.length).drop ((k : Int)).toNat = M.drop k := by rw [List.take_length]; rfl
      refine spec_o is59 mixed [] rfl rfl rfl (V_x ?_)
      repeat' (first | ((conv => whnf) <;>
               first | refine Frz.own ?_ | refine Get.mk _ rfl ?_ | refine Get.mk _ (map_geti (by omega)) ?_ | refine Get.mk _ (map_getp (by omega) (by omega)) ?_ | refine Get.mk _ (map_get (by omega)) ?_ | refine Bv2.mk _ _ rfl rfl ?_ | refine Bv1.mk _ rfl ?_ | refine Wr.mk _ (wrap_i64 (by omega) (by omega)) ?_ | refine Wr.mk _ rfl ?_ | refine And.intro len_map ?_ | refine And.intro (leX_refl _) ?_ | refine And.intro rfl ?_ | refine And.intro (leO_some _) ?_ | (refine And.intro (fun h => absurd h (by decide)) (fun h => ?_); clear h) | (refine And.intro (fun h => ?_) (fun h => absurd h (by decide)); clear h) | (with_reducible first | refine sp1 (fun h => ?_) (fun h => ?_) | refine sp2 (fun h => ?_) (fun h => ?_) | refine sp3 (fun h => ?_) (fun h => ?_) | refine sp4 (fun h => ?_) (fun h => ?_) | refine sp5 (fun h => ?_) (fun h => ?_) | refine sp6 (fun h => ?_) (fun h => ?_)) | with_reducible refine And.intro (fun h => ?_) (fun h => ?_) | refine And.intro (Int.natCast_nonneg _) ?_ | refine And.intro (by omega) ?_ | refine And.intro (by decide) ?_ | refine Lst.mk _ rfl ?_ | refine Or.inr (Or.inr (Or.inl ⟨[], true, _, [], h60, fun _ => ⟨rfl, Nat.le_of_ble_eq_true rfl⟩, List.nodup_nil, fun _ h => absurd h List.not_mem_nil, fun _ => ⟨rfl, fun _ h => absurd h List.not_mem_nil⟩, fun _ h => absurd h (Nat.not_lt_zero _), ?_⟩)) | refine Byt.mk _ rfl ?_ | refine Or.inr (Or.inl ⟨_, _, h73, leL_refl _, rfl, rfl, ?_⟩) | refine And.intro trivial ?_ | exact trivial | exact leX_refl _ | exact rfl | refine frc_mk ?_ | refine weak_fr ?_ ?_ rfl | refine And.intro ?_ ?_ | fail) | refine frc_mk ?_)
      all_goals first
        | contradiction
        | (exfalso; omega)
        | exact no_mem'
        | exact lt1 (fun h => by cases h)
        | omega
        | exact leX_refl _
        | (show [Ob.var 139 (.a [.s 1 ((M.take M.length).drop ((k : Int)).toNat), tI 0])] = _; rw [hcut])
        | trace_state
end Go.Proofs.YtdbeeenjcjplhaaDoor.Vc

namespace Go.Proofs.YtdbeeenjcjplhaaDoor.Vc
open Go Go.RowKit Go.Proofs.Tryd
set_option maxRecDepth 20000
theorem s57 (bs : List (BitVec 8)) (hl : bs.length ≤ 1000000) : Spec prog 57 [.s 1 (bs.map bytTV)] [] (.p 0 0 0) [.var 139 (.a (Rd.mk bs 0).cs)] := by
  have h71 := s71s bs hl
  dsimp only [Rd.cs]
  generalize bs.map bytTV = M at *
  refine spec_o is57 mixed [112] rfl rfl rfl (V_x ?_)
  repeat' (first | ((conv => whnf) <;>
           first | refine Frz.own ?_ | refine Get.mk _ rfl ?_ | refine Get.mk _ (map_geti (by omega)) ?_ | refine Get.mk _ (map_getp (by omega) (by omega)) ?_ | refine Get.mk _ (map_get (by omega)) ?_ | refine Bv2.mk _ _ rfl rfl ?_ | refine Bv1.mk _ rfl ?_ | refine Wr.mk _ (wrap_i64 (by omega) (by omega)) ?_ | refine Wr.mk _ rfl ?_ | refine And.intro len_map ?_ | refine And.intro (leX_refl _) ?_ | refine And.intro rfl ?_ | refine And.intro (leO_some _) ?_ | (refine And.intro (fun h => absurd h (by decide)) (fun h => ?_); clear h) | (refine And.intro (fun h => ?_) (fun h => absurd h (by decide)); clear h) | (with_reducible first | refine sp1 (fun h => ?_) (fun h => ?_) | refine sp2 (fun h => ?_) (fun h => ?_) | refine sp3 (fun h => ?_) (fun h => ?_) | refine sp4 (fun h => ?_) (fun h => ?_) | refine sp5 (fun h => ?_) (fun h => ?_) | refine sp6 (fun h => ?_) (fun h => ?_)) | with_reducible refine And.intro (fun h => ?_) (fun h => ?_) | refine And.intro (Int.natCast_nonneg _) ?_ | refine And.intro (by omega) ?_ | refine And.intro (by decide) ?_ | refine Lst.mk _ rfl ?_ | refine Byt.mk _ rfl ?_ | refine Or.inr (Or.inl ⟨_, _, h71, leL_refl _, rfl, rfl, ?_⟩) | refine And.intro trivial ?_ | exact trivial | exact leX_refl _ | exact rfl | refine frc_mk ?_ | refine weak_fr ?_ ?_ rfl | refine And.intro ?_ ?_ | fail) | refine frc_mk ?_)
  all_goals first
    | exact one_new rfl rfl
    | exact lt0
    | rfl
    | trace_state
/-- A field is read: the command, how many, the reader, and the first that cannot be read. -/
structure DecS where
  c : CmdF
  k : Int
  r : Rd
  b : Int
def decStep (s : DecS) (i : Nat) : DecS :=
  ⟨s.c.set i (rdNum s.r).1.toNat, s.k + 1, (rdNum s.r).2, if s.b = 0 ∧ (rdNum s.r).2.err ≠ 0 then s.k + 1 else s.b⟩
def DecS.obs (s : DecS) : List Ob := [.var 65 s.c.tv, .var 3 (tI s.k), .var 108 (.p 3 0 0), .var 139 (.a s.r.cs), .var 3 (tI s.b)]
set_option maxHeartbeats 8000000 in
theorem s58 (s : DecS) (i : Nat) (h : 1 ≤ i ∧ i ≤ 7) (h0 : 0 ≤ s.k) (h1 : s.k ≤ 100) (hr : s.r.bs.length ≤ 1000000) : Spec prog 58 [.p 0 0 i, .p 1 0 0, .p 2 0 0, .p 4 0 0] s.obs (.t []) (decStep s i).obs := by
  obtain ⟨⟨op, id, gr, sh, we, ca, co, n⟩, k, r, b⟩ := s
  have h59 := s59 r hr
  have h60 := s60 (rdNum r).2
  have hle := rdNum_le r
  have hw : IntKind.wrap .i64 (Int.ofNat (rdNum r).1.toNat) = ((rdNum r).1.toNat : Int) := wrap_i64 (by show _ ≤ (((rdNum r).1.toNat : Nat) : Int); omega) (by show (((rdNum r).1.toNat : Nat) : Int) ≤ _; omega)
  unfold decStep DecS.obs
  dsimp only at *
  generalize rdNum r = R at *
  obtain ⟨x, bs', e'⟩ := R
  obtain ⟨bs, e⟩ := r
  dsimp only [Rd.cs] at *
  rcases (by omega : i = 1 ∨ i = 2 ∨ i = 3 ∨ i = 4 ∨ i = 5 ∨ i = 6 ∨ i = 7) with rfl | rfl | rfl | rfl | rfl | rfl | rfl
  all_goals
    dsimp only [CmdF.tv, CmdF.set]
    refine spec_o is58 mixed [] rfl rfl rfl (V_x ?_)
    repeat' (first | ((conv => whnf) <;>
             first | refine Frz.own ?_ | refine Wr.mk _ (hw) ?_ | refine Get.mk _ rfl ?_ | refine Get.mk _ (map_geti (by omega)) ?_ | refine Get.mk _ (map_getp (by omega) (by omega)) ?_ | refine Get.mk _ (map_get (by omega)) ?_ | refine Bv2.mk _ _ rfl rfl ?_ | refine Bv1.mk _ rfl ?_ | refine Wr.mk _ (wrap_i64 (by omega) (by omega)) ?_ | refine Wr.mk _ rfl ?_ | refine And.intro len_map ?_ | refine And.intro (leX_refl _) ?_ | refine And.intro rfl ?_ | refine And.intro (leO_some _) ?_ | (refine And.intro (fun h => absurd h (by decide)) (fun h => ?_); clear h) | (refine And.intro (fun h => ?_) (fun h => absurd h (by decide)); clear h) | (with_reducible first | refine sp1 (fun h => ?_) (fun h => ?_) | refine sp2 (fun h => ?_) (fun h => ?_) | refine sp3 (fun h => ?_) (fun h => ?_) | refine sp4 (fun h => ?_) (fun h => ?_) | refine sp5 (fun h => ?_) (fun h => ?_) | refine sp6 (fun h => ?_) (fun h => ?_)) | with_reducible refine And.intro (fun h => ?_) (fun h => ?_) | refine And.intro (Int.natCast_nonneg _) ?_ | refine And.intro (by omega) ?_ | refine And.intro (by decide) ?_ | refine Lst.mk _ rfl ?_ | refine Or.inr (Or.inr (Or.inl ⟨[], true, _, [], h60, fun _ => ⟨rfl, Nat.le_of_ble_eq_true rfl⟩, List.nodup_nil, fun _ h => absurd h List.not_mem_nil, fun _ => ⟨rfl, fun _ h => absurd h List.not_mem_nil⟩, fun _ h => absurd h (Nat.not_lt_zero _), ?_⟩)) | refine Or.inr (Or.inr (Or.inl ⟨[3], false, _, _, h59, fun h => Bool.noConfusion h, (by decide), all_some rfl, fun h => Bool.noConfusion h, len_le rfl, ?_⟩)) | refine Byt.mk _ rfl ?_ | refine And.intro trivial ?_ | exact trivial | exact leX_refl _ | exact rfl | refine frc_mk ?_ | refine weak_fr ?_ ?_ rfl | refine And.intro ?_ ?_ | fail) | refine frc_mk ?_)
    all_goals first
      | exact no_mem'
      | exact lt5 (fun h => by cases h) (fun h => by cases h) (fun h => by cases h) (fun h => by cases h) (fun h => by cases h)
      | (rw [if_pos (by constructor <;> assumption)]; rfl)
      | (rw [if_neg (by rintro ⟨h1, h2⟩ <;> contradiction)]; rfl)
      | rfl
      | trace_state
end Go.Proofs.YtdbeeenjcjplhaaDoor.Vc
