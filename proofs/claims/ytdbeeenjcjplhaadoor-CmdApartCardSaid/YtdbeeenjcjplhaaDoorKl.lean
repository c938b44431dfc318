/- Commands written as bytes, and what bytes are decoded to. -/
import Derived.Test.YtdbeeenjcjplhaaDoorKg
import Derived.Test.YtdbeeenjcjplhaaDoorKk
import Derived.Test.YtdbeeenjcjplhaaDoorKi
namespace Go.Proofs.YtdbeeenjcjplhaaDoor.Vc
open Go Go.RowKit Go.Proofs.Tryd
set_option maxRecDepth 20000
def byteOp (op : Int) : BitVec 8 := BitVec.ofInt 8 op
/-- A command's bytes. -/
def encC (c : CmdF) : List (BitVec 8) := encB c [byteOp c.op] ((fieldsOf c.op).getD [])
theorem encB_len (c : CmdF) : ∀ (fs : List Nat) (xs : List (BitVec 8)), (encB c xs fs).length ≤ xs.length + 10 * fs.length
  | [], xs => by simp [encB]
  | i :: fs, xs => by
    have h := encB_len c fs (xs ++ numI (c.get i))
    have h1 := numI_len (c.get i)
    simp only [List.length_append] at h
    show (encB c (xs ++ numI (c.get i)) fs).length ≤ _
    simp only [List.length_cons]
    omega
theorem encC_len (c : CmdF) : (encC c).length ≤ 41 := by
  have h := encB_len c ((fieldsOf c.op).getD []) [byteOp c.op]
  unfold encC
  cases hf : fieldsOf c.op with
  | none => rw [hf] at h; simp at h ⊢; omega
  | some fs => rw [hf] at h; have := (fields_le hf).1; simp at h ⊢; omega
/-- What encoding tells. -/
def encE (c : CmdF) : List (BitVec 8) := if (checkE c).isNil = true then encC c else []
theorem kindE (e : Err) : (e.isNil = true ∧ e.tv = .v .nilIface) ∨ (e.isNil = false ∧ ∃ t y, e.tv = .x t y ∧ (∀ fo fp, y.sub fo fp = y) ∧ y.ids = []) := by
  cases e with
  | nil => exact .inl ⟨rfl, rfl⟩
  | flt c p a e => exact .inr ⟨rfl, _, _, rfl, fun _ _ => rfl, rfl⟩
  | alien n => exact .inr ⟨rfl, _, _, rfl, fun _ _ => rfl, rfl⟩
  | around e => exact .inr ⟨rfl, _, _, rfl, fun fo fp => by simp [TV.sub, subL, Err.sub], by simp [TV.ids, idsL, Err.ids]⟩
set_option maxHeartbeats 8000000 in
theorem s35 (c : CmdF) : Spec prog 35 [c.tv] [] (.t [.s 1 ((encE c).map bytTV), (checkE c).tv]) [] := by
  have h31 := s31 c
  have hw := w54 c [byteOp c.op] ⟨by simp, by simp⟩
  have hk := kindE (checkE c)
  unfold encE encC
  generalize encB c [byteOp c.op] ((fieldsOf c.op).getD []) = R at *
  generalize (fieldsOf c.op).isSome = S at *
  generalize (checkE c).tv = z at *
  generalize (checkE c).isNil = b at *
  rcases hk with ⟨rfl, rfl⟩ | ⟨rfl, ty0, y, rfl, hys, hyi⟩
  · rw [if_pos rfl]
    dsimp only [CmdF.tv, byteOp] at *
    refine spec_s is35 mixed rfl (V_x ?_)
    repeat' (first | ((conv => whnf) <;>
             first | refine (Frz.frz ?_ : Frz 14 _ _) | refine Frz.own ?_ | refine Get.mk _ rfl ?_ | refine Get.mk _ (map_geti (by omega)) ?_ | refine Get.mk _ (map_getp (by omega) (by omega)) ?_ | refine Get.mk _ (map_get (by omega)) ?_ | refine Bv2.mk _ _ rfl rfl ?_ | refine Bv1.mk _ rfl ?_ | refine Wr.mk _ (wrap_i64 (by omega) (by omega)) ?_ | refine Wr.mk _ rfl ?_ | refine And.intro len_map ?_ | refine And.intro (leX_refl _) ?_ | refine And.intro rfl ?_ | refine And.intro (leO_some _) ?_ | (refine And.intro (fun h => absurd h (by decide)) (fun h => ?_); clear h) | (refine And.intro (fun h => ?_) (fun h => absurd h (by decide)); clear h) | (with_reducible first | refine sp1 (fun h => ?_) (fun h => ?_) | refine sp2 (fun h => ?_) (fun h => ?_) | refine sp3 (fun h => ?_) (fun h => ?_) | refine sp4 (fun h => ?_) (fun h => ?_) | refine sp5 (fun h => ?_) (fun h => ?_) | refine sp6 (fun h => ?_) (fun h => ?_)) | with_reducible refine And.intro (fun h => ?_) (fun h => ?_) | refine And.intro (Int.natCast_nonneg _) ?_ | refine And.intro (by omega) ?_ | refine And.intro (by decide) ?_ | refine Lst.mk _ rfl ?_ | refine Or.inr (Or.inr (Or.inl ⟨[32, 96], false, _, _, hw, fun h => Bool.noConfusion h, (by decide), all_some rfl, fun h => Bool.noConfusion h, len_le rfl, ?_⟩)) | refine Byt.mk _ rfl ?_ | refine Or.inr (Or.inl ⟨_, _, h31, leL_refl _, rfl, rfl, ?_⟩) | refine And.intro trivial ?_ | exact trivial | exact leX_refl _ | exact rfl | refine frc_mk ?_ | refine weak_fr ?_ ?_ rfl | refine And.intro ?_ ?_ | fail) | refine frc_mk ?_)
    all_goals first
      | contradiction
      | exact leX_refl _
      | (refine leT ?_; rfl)
      | trace_state
  · rw [if_neg (by simp)]
    dsimp only [CmdF.tv] at *
    refine spec_s is35 mixed rfl (V_x ?_)
    repeat' (first | ((conv => whnf) <;>
             first | refine Frz.own ?_ | refine Get.mk _ rfl ?_ | refine Get.mk _ (map_geti (by omega)) ?_ | refine Get.mk _ (map_getp (by omega) (by omega)) ?_ | refine Get.mk _ (map_get (by omega)) ?_ | refine Bv2.mk _ _ rfl rfl ?_ | refine Bv1.mk _ rfl ?_ | refine Wr.mk _ (wrap_i64 (by omega) (by omega)) ?_ | refine Wr.mk _ rfl ?_ | refine And.intro len_map ?_ | refine And.intro (leX_refl _) ?_ | refine And.intro rfl ?_ | refine And.intro (leO_some _) ?_ | (refine And.intro (fun h => absurd h (by decide)) (fun h => ?_); clear h) | (refine And.intro (fun h => ?_) (fun h => absurd h (by decide)); clear h) | (with_reducible first | refine sp1 (fun h => ?_) (fun h => ?_) | refine sp2 (fun h => ?_) (fun h => ?_) | refine sp3 (fun h => ?_) (fun h => ?_) | refine sp4 (fun h => ?_) (fun h => ?_) | refine sp5 (fun h => ?_) (fun h => ?_) | refine sp6 (fun h => ?_) (fun h => ?_)) | with_reducible refine And.intro (fun h => ?_) (fun h => ?_) | refine And.intro (Int.natCast_nonneg _) ?_ | refine And.intro (by omega) ?_ | refine And.intro (by decide) ?_ | refine Lst.mk _ rfl ?_ | refine callPure (h31) (rfl) (by first | (simp [TV.ids]; done) | (simp [TV.ids, *]; done)) ?_ | refine Byt.mk _ rfl ?_ | refine And.intro trivial ?_ | exact trivial | exact leX_refl _ | exact rfl | refine frc_mk ?_ | refine weak_fr ?_ ?_ rfl | refine And.intro ?_ ?_ | fail) | refine frc_mk ?_)
    all_goals first
      | contradiction
      | exact leX_refl _
      | exact leT (by simp [hys])
      | trace_state
set_option maxHeartbeats 8000000 in
/-- The reference's bytes. -/
theorem s36 (c : CmdF) (hs : (fieldsOf c.op).isSome = true) : Spec prog 36 [c.tv] [] (.s 1 ((encC c).map bytTV)) [] := by
  have h29 := s29 c.op
  unfold encC
  obtain ⟨fs, hf⟩ := Option.isSome_iff_exists.1 hs
  rw [hf] at h29 ⊢
  dsimp only [Option.getD_some] at h29 ⊢
  have hle := fields_le hf
  have hget : ∀ (i : Nat) (h : i < fs.length), (strB (fs.map letter))[((i : Nat) : Int).toNat]? = some (UInt8.ofBitVec (letter fs[i])) := fun i h => by
    have := strB_get (fs.map letter) i (by simpa using h)
    simpa using this
  have hsz : (strB (fs.map letter)).size = fs.length := by rw [strB_size, List.length_map]
  have h50 := fun i (h : i < fs.length) => s50 c fs[i] (hle.2 _ (List.getElem_mem h))
  have h56 := fun i (h : i < fs.length) => s56 _ (BitVec.ofInt 64 (c.get fs[i])) rfl
  have hnx : ∀ i, (h : i < fs.length) → encB c [byteOp c.op] (fs.take (i + 1)) = encB c [byteOp c.op] (fs.take i) ++ numI (c.get fs[i]) := fun i h => by
    unfold encB
    rw [List.take_succ_eq_append_getElem h, List.foldl_append]; rfl
  have hln : ∀ i, (encB c [byteOp c.op] (fs.take i)).length ≤ 1 + 10 * fs.length := fun i => by
    have h1 := encB_len c (fs.take i) [byteOp c.op]
    have h2 : (fs.take i).length ≤ fs.length := by rw [List.length_take]; omega
    simp only [List.length_cons, List.length_nil] at h1
    omega
  have h00 : encB c [byteOp c.op] (fs.take 0) = [byteOp c.op] := rfl
  have hend : encB c [byteOp c.op] (fs.take fs.length) = encB c [byteOp c.op] fs := by rw [List.take_length]
  generalize hE : (fun i => encB c [byteOp c.op] (fs.take i)) = E at *
  have hE' : ∀ i, encB c [byteOp c.op] (fs.take i) = E i := fun i => by rw [← hE]
  rw [← hend]
  simp only [hE'] at *
  generalize hN : strB (fs.map letter) = N at *
  dsimp only [CmdF.tv, byteOp] at *
  refine spec_s is36 mixed rfl (V_x ?_)
  repeat' (first | ((conv => whnf) <;>
           first | refine Frz.own ?_ | refine Get.mk _ rfl ?_ | refine Get.mk _ (map_geti (by omega)) ?_ | refine Get.mk _ (map_getp (by omega) (by omega)) ?_ | refine Get.mk _ (map_get (by omega)) ?_ | refine Bv2.mk _ _ rfl rfl ?_ | refine Bv1.mk _ rfl ?_ | refine Wr.mk _ (wrap_i64 (by omega) (by omega)) ?_ | refine Wr.mk _ rfl ?_ | refine And.intro len_map ?_ | refine And.intro (leX_refl _) ?_ | refine And.intro rfl ?_ | refine And.intro (leO_some _) ?_ | (refine And.intro (fun h => absurd h (by decide)) (fun h => ?_); clear h) | (refine And.intro (fun h => ?_) (fun h => absurd h (by decide)); clear h) | (with_reducible first | refine sp1 (fun h => ?_) (fun h => ?_) | refine sp2 (fun h => ?_) (fun h => ?_) | refine sp3 (fun h => ?_) (fun h => ?_) | refine sp4 (fun h => ?_) (fun h => ?_) | refine sp5 (fun h => ?_) (fun h => ?_) | refine sp6 (fun h => ?_) (fun h => ?_)) | with_reducible refine And.intro (fun h => ?_) (fun h => ?_) | refine And.intro (Int.natCast_nonneg _) ?_ | refine And.intro (by omega) ?_ | refine And.intro (by decide) ?_ | refine Lst.mk _ rfl ?_ | refine Byt.mk _ rfl ?_ | refine Or.inr (Or.inl ⟨_, _, h29, leL_refl _, rfl, rfl, ?_⟩) | refine And.intro trivial ?_ | exact trivial | exact leX_refl _ | exact rfl | refine frc_mk ?_ | refine weak_fr ?_ ?_ rfl | refine And.intro ?_ ?_ | fail) | refine frc_mk ?_)
  refine V_up fs.length (fun i => i ≤ fs.length) (fun i => ([(1, .p 32 0 0), (3, .o 160), (4, tS N), (5, tI i)], [(32, .var 65 (.a [tI c.op, tI c.id, tI c.gr, tI c.sh, tI c.we, tI c.ca, tI c.co, tI c.n])), (160, .row 5 1 ((E i).map bytTV))])) (Nat.zero_le _) ?_ ?_
  · rw [h00]
    repeat' (first | ((conv => whnf) <;>
             first | refine Frz.own ?_ | refine Get.mk _ rfl ?_ | refine Get.mk _ (map_geti (by omega)) ?_ | refine Get.mk _ (map_getp (by omega) (by omega)) ?_ | refine Get.mk _ (map_get (by omega)) ?_ | refine Bv2.mk _ _ rfl rfl ?_ | refine Bv1.mk _ rfl ?_ | refine Wr.mk _ (wrap_i64 (by omega) (by omega)) ?_ | refine Wr.mk _ rfl ?_ | refine And.intro len_map ?_ | refine And.intro (leX_refl _) ?_ | refine And.intro rfl ?_ | refine And.intro (leO_some _) ?_ | (refine And.intro (fun h => absurd h (by decide)) (fun h => ?_); clear h) | (refine And.intro (fun h => ?_) (fun h => absurd h (by decide)); clear h) | (with_reducible first | refine sp1 (fun h => ?_) (fun h => ?_) | refine sp2 (fun h => ?_) (fun h => ?_) | refine sp3 (fun h => ?_) (fun h => ?_) | refine sp4 (fun h => ?_) (fun h => ?_) | refine sp5 (fun h => ?_) (fun h => ?_) | refine sp6 (fun h => ?_) (fun h => ?_)) | with_reducible refine And.intro (fun h => ?_) (fun h => ?_) | refine And.intro (Int.natCast_nonneg _) ?_ | refine And.intro (by omega) ?_ | refine And.intro (by decide) ?_ | refine Lst.mk _ rfl ?_ | refine Byt.mk _ rfl ?_ | refine And.intro trivial ?_ | exact trivial | exact leX_refl _ | exact rfl | refine frc_mk ?_ | refine weak_fr ?_ ?_ rfl | refine And.intro ?_ ?_ | fail) | refine frc_mk ?_)
    all_goals trace_state
  · intro i hi _
    refine V_x ?_
    by_cases hlt : i < fs.length
    · have h50 := h50 i hlt
      have h56 := h56 i hlt
      have hg := hget i hlt
      have hln1 := hln i
      have hnl := numI_len (c.get fs[i])
      have hlm : ((E i).map bytTV).length = (E i).length := List.length_map _
      rw [hnx i hlt, List.map_append]
      unfold numI at *
      generalize c.get fs[i] = x at *
      generalize letter fs[i] = lt at *
      have hlq : ((numN (BitVec.ofInt 64 x).toNat).map bytTV).length = (numN (BitVec.ofInt 64 x).toNat).length := List.length_map _
      generalize (numN (BitVec.ofInt 64 x).toNat) = Q at *
      repeat' (first | ((conv => whnf) <;>
               first | refine Frz.own ?_ | refine Get.mk _ rfl ?_ | refine Get.mk _ (map_geti (by omega)) ?_ | refine Get.mk _ (map_getp (by omega) (by omega)) ?_ | refine Get.mk _ (map_get (by omega)) ?_ | refine Bv2.mk _ _ rfl rfl ?_ | refine Bv1.mk _ rfl ?_ | refine Wr.mk _ (wrap_i64 (by omega) (by omega)) ?_ | refine Wr.mk _ rfl ?_ | refine And.intro len_map ?_ | refine And.intro (leX_refl _) ?_ | refine And.intro rfl ?_ | refine And.intro (leO_some _) ?_ | (refine And.intro (fun h => absurd h (by decide)) (fun h => ?_); clear h) | (refine And.intro (fun h => ?_) (fun h => absurd h (by decide)); clear h) | (with_reducible first | refine sp1 (fun h => ?_) (fun h => ?_) | refine sp2 (fun h => ?_) (fun h => ?_) | refine sp3 (fun h => ?_) (fun h => ?_) | refine sp4 (fun h => ?_) (fun h => ?_) | refine sp5 (fun h => ?_) (fun h => ?_) | refine sp6 (fun h => ?_) (fun h => ?_)) | with_reducible refine And.intro (fun h => ?_) (fun h => ?_) | refine And.intro (Int.natCast_nonneg _) ?_ | refine And.intro (by omega) ?_ | refine And.intro (by decide) ?_ | refine Get.mk _ (hg) ?_ | refine Lst.mk _ rfl ?_ | refine Byt.mk _ rfl ?_ | refine Or.inr (Or.inl ⟨_, _, h50, leL_refl _, rfl, rfl, ?_⟩) | refine Or.inr (Or.inl ⟨_, _, h56, leL_refl _, rfl, rfl, ?_⟩) | refine And.intro trivial ?_ | exact trivial | exact leX_refl _ | exact rfl | refine frc_mk ?_ | refine weak_fr ?_ ?_ rfl | refine And.intro ?_ ?_ | fail) | refine frc_mk ?_)
      all_goals first
        | contradiction
        | (exfalso; omega)
        | omega
        | exact rowO rfl
        | trace_state
    · obtain rfl : i = fs.length := by omega
      repeat' (first | ((conv => whnf) <;>
               first | refine Frz.own ?_ | refine Get.mk _ rfl ?_ | refine Get.mk _ (map_geti (by omega)) ?_ | refine Get.mk _ (map_getp (by omega) (by omega)) ?_ | refine Get.mk _ (map_get (by omega)) ?_ | refine Bv2.mk _ _ rfl rfl ?_ | refine Bv1.mk _ rfl ?_ | refine Wr.mk _ (wrap_i64 (by omega) (by omega)) ?_ | refine Wr.mk _ rfl ?_ | refine And.intro len_map ?_ | refine And.intro (leX_refl _) ?_ | refine And.intro rfl ?_ | refine And.intro (leO_some _) ?_ | (refine And.intro (fun h => absurd h (by decide)) (fun h => ?_); clear h) | (refine And.intro (fun h => ?_) (fun h => absurd h (by decide)); clear h) | (with_reducible first | refine sp1 (fun h => ?_) (fun h => ?_) | refine sp2 (fun h => ?_) (fun h => ?_) | refine sp3 (fun h => ?_) (fun h => ?_) | refine sp4 (fun h => ?_) (fun h => ?_) | refine sp5 (fun h => ?_) (fun h => ?_) | refine sp6 (fun h => ?_) (fun h => ?_)) | with_reducible refine And.intro (fun h => ?_) (fun h => ?_) | refine And.intro (Int.natCast_nonneg _) ?_ | refine And.intro (by omega) ?_ | refine And.intro (by decide) ?_ | refine Lst.mk _ rfl ?_ | refine Byt.mk _ rfl ?_ | refine And.intro trivial ?_ | exact trivial | exact leX_refl _ | exact rfl | refine frc_mk ?_ | refine weak_fr ?_ ?_ rfl | refine And.intro ?_ ?_ | fail) | refine frc_mk ?_)
      all_goals first
        | contradiction
        | (exfalso; omega)
        | exact leX_refl _
        | trace_state
end Go.Proofs.YtdbeeenjcjplhaaDoor.Vc

namespace Go.Proofs.YtdbeeenjcjplhaaDoor.Vc
open Go Go.RowKit Go.Proofs.Tryd
set_option maxRecDepth 20000
/-- The fields as they are read. -/
def decS (op : Int) (bs : List (BitVec 8)) (fs : List Nat) : DecS := fs.foldl decStep ⟨cmd0 op, 0, ⟨bs, 0⟩, 0⟩
/-- What bytes are decoded to. -/
def decE (l : List (BitVec 8)) : CmdF × Err := match l with
  | [] => (cmd0 0, .flt 3 cmdB 0 .nil)
  | b :: bs => match fieldsOf b.toNat with
    | none => (cmd0 0, .flt 3 cmdB b.toNat .nil)
    | some fs =>
      if 0 < (decS b.toNat bs fs).b then (cmd0 0, .flt 3 cmdB b.toNat (.flt (decS b.toNat bs fs).r.err fieldB (decS b.toNat bs fs).b .nil))
      else if 0 < (decS b.toNat bs fs).r.bs.length then (cmd0 0, .flt 3 cmdB b.toNat (.flt 4 fieldB (decS b.toNat bs fs).k .nil))
      else ((decS b.toNat bs fs).c, .nil)
theorem rdNum_err (r : Rd) (h : r.err ≠ 0) : (rdNum r).2.err ≠ 0 := by
  unfold rdNum; rw [if_pos h]; exact h
/-- Where something was wrong, the reader knows. -/
theorem dec_err : ∀ (fs : List Nat) (s : DecS), (s.b ≠ 0 → s.r.err ≠ 0) → ((fs.foldl decStep s).b ≠ 0 → (fs.foldl decStep s).r.err ≠ 0)
  | [], _, h => h
  | i :: fs, s, h => dec_err fs (decStep s i) (by
      intro hb
      by_cases h2 : s.b = 0 ∧ (rdNum s.r).2.err ≠ 0
      · exact h2.2
      · have hb' : s.b ≠ 0 := by
          have : (decStep s i).b = s.b := by show (if _ then _ else _) = _; rw [if_neg h2]
          rw [this] at hb; exact hb
        exact rdNum_err _ (h hb'))
theorem set_op (c : CmdF) (i : Nat) (x : Int) : (c.set i x).op = c.op := by
  unfold CmdF.set; split <;> rfl
theorem dec_op : ∀ (fs : List Nat) (s : DecS), (fs.foldl decStep s).c.op = s.c.op
  | [], _ => rfl
  | i :: fs, s => by rw [List.foldl_cons, dec_op fs]; exact set_op _ _ _
end Go.Proofs.YtdbeeenjcjplhaaDoor.Vc
