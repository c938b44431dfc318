/- What is wrong with a command: the reference's answer. -/
import Derived.Test.YtdbeeenjcjplhaaDoorKe
import Derived.Test.YtdbeeenjcjplhaaDoorKf
namespace Go.Proofs.YtdbeeenjcjplhaaDoor.Vc
open Go Go.RowKit Go.Proofs.Tryd
set_option maxRecDepth 20000
theorem strB_get (l : List (BitVec 8)) (i : Nat) (h : i < l.length) : (strB l)[((i : Nat) : Int).toNat]? = some (UInt8.ofBitVec l[i]) := by
  have h1 : (strB l).size = l.length := by simp [strB, strOfNums, ByteArray.size]
  rw [show ((i : Nat) : Int).toNat = i from rfl]
  rw [getElem?_pos (strB l) i (by rw [h1]; exact h)]
  congr 1
  show (strB l).data[i]'_ = _
  simp [strB, strOfNums]
theorem strB_list (l : List (BitVec 8)) : (strB l).toList = l.map UInt8.ofBitVec := by
  rw [ByteArray.toList_eq]
  simp [strB, strOfNums]
theorem strB_inj {l l' : List (BitVec 8)} (h : (strB l).toList = (strB l').toList) : l = l' := by
  rw [strB_list, strB_list] at h
  have hi : Function.Injective UInt8.ofBitVec := fun a b h => by
    have := congrArg UInt8.toBitVec h
    simpa using this
  exact (List.map_inj_right (fun a b h => hi h)).1 h
theorem strB_size (l : List (BitVec 8)) : (strB l).size = l.length := by simp [strB, strOfNums, ByteArray.size]
abbrev exB : ByteArray := ⟨#[120]⟩
theorem names_ne {op : Int} {fs : List Nat} (h : fieldsOf op = some fs) : ((strB (fs.map letter)).toList == exB.toList) = false := by
  rcases op_cases op with rfl | rfl | rfl | rfl | rfl | rfl | rfl | rfl | rfl | rfl | rfl | rfl | rfl | rfl | rfl | rfl | rfl | hn
  all_goals first
    | (rw [fieldsOf_none hn] at h; cases h; done)
    | (simp [fieldsOf] at h; subst h; rw [strB_list, ByteArray.toList_eq]; decide)
/-- What is known of the fields so far. -/
def ovT (c : CmdF) (fs : List Nat) (i : Nat) : Int × Int := (fs.take i).foldl (fun s i => ovStep s (c.get i)) (0, 0)
theorem ovT_succ (c : CmdF) (fs : List Nat) {i : Nat} (h : i < fs.length) : ovT c fs (i + 1) = ovStep (ovT c fs i) (c.get fs[i]) := by
  unfold ovT
  rw [List.take_succ_eq_append_getElem h, List.foldl_append]; rfl
theorem ov_keep (c : CmdF) : ∀ (l : List Nat) (s : Int × Int), s.2 ≠ 0 → (l.foldl (fun s i => ovStep s (c.get i)) s).2 = s.2
  | [], _, _ => rfl
  | i :: l, s, h => by
    rw [List.foldl_cons, ov_keep c l _ (by unfold ovStep; rw [if_neg (fun h' => h h'.1)]; exact h)]
    unfold ovStep
    rw [if_neg (fun h' => h h'.1)]
theorem ov_drop (c : CmdF) (fs : List Nat) (i : Nat) : fs.foldl (fun s i => ovStep s (c.get i)) (0, 0) = (fs.drop i).foldl (fun s i => ovStep s (c.get i)) (ovT c fs i) := by
  unfold ovT
  rw [← List.foldl_append, List.take_append_drop]
/-- The command made of the fields so far. -/
def onlyT (c : CmdF) (fs : List Nat) (i : Nat) : CmdF := (fs.take i).foldl (fun o j => o.set j (c.get j)) (cmd0 c.op)
theorem onlyT_succ (c : CmdF) (fs : List Nat) {i : Nat} (h : i < fs.length) : onlyT c fs (i + 1) = (onlyT c fs i).set fs[i] (c.get fs[i]) := by
  unfold onlyT
  rw [List.take_succ_eq_append_getElem h, List.foldl_append]; rfl
theorem only_zeroed (c : CmdF) {fs : List Nat} (h : fieldsOf c.op = some fs) : onlyT c fs fs.length = c ↔ zeroed c fs = cmd0 c.op := by
  obtain ⟨op, id, gr, sh, we, ca, co, n⟩ := c
  dsimp only at h
  rcases op_cases op with rfl | rfl | rfl | rfl | rfl | rfl | rfl | rfl | rfl | rfl | rfl | rfl | rfl | rfl | rfl | rfl | rfl | hn
  all_goals first
    | (rw [fieldsOf_none hn] at h; cases h; done)
    | skip
  all_goals
    simp [fieldsOf] at h
    subst h
    simp [onlyT, zeroed, CmdF.set, CmdF.get, cmd0, CmdF.mk.injEq, eq_comm]
theorem checkE_none {c : CmdF} (h : fieldsOf c.op = none) : checkE c = .flt 1 cmdB c.op .nil := by
  unfold checkE nFields
  rw [h]
  exact if_pos (by decide)
def overF (c : CmdF) (fs : List Nat) : Int × Int := fs.foldl (fun s i => ovStep s (c.get i)) (0, 0)
theorem checkE_over {c : CmdF} {fs : List Nat} (h : fieldsOf c.op = some fs) (hv : 0 < (overF c fs).2) : checkE c = .flt 5 cmdB c.op (.flt 5 fieldB (overF c fs).2 .nil) := by
  have ho : overC c = (overF c fs).2 := by unfold overC; rw [h]; rfl
  have hn : ¬ nFields c.op < 0 := by unfold nFields; rw [h]; dsimp only; omega
  unfold checkE
  rw [if_neg hn, ho, if_pos hv]
theorem checkE_bare {c : CmdF} {fs : List Nat} (h : fieldsOf c.op = some fs) (hv : ¬ 0 < (overF c fs).2) (hz : zeroed c fs ≠ cmd0 c.op) : checkE c = .flt 1 cmdB c.op .nil := by
  have ho : overC c = (overF c fs).2 := by unfold overC; rw [h]; rfl
  have hn : ¬ nFields c.op < 0 := by unfold nFields; rw [h]; dsimp only; omega
  unfold checkE
  rw [if_neg hn, ho, if_neg hv, h]
  exact if_pos hz
theorem checkE_ok {c : CmdF} {fs : List Nat} (h : fieldsOf c.op = some fs) (hv : ¬ 0 < (overF c fs).2) (hz : zeroed c fs = cmd0 c.op) : checkE c = .nil := by
  have ho : overC c = (overF c fs).2 := by unfold overC; rw [h]; rfl
  have hn : ¬ nFields c.op < 0 := by unfold nFields; rw [h]; dsimp only; omega
  unfold checkE
  rw [if_neg hn, ho, if_neg hv, h]
  exact if_neg (fun h' => h' hz)
set_option maxHeartbeats 8000000 in
theorem s32 (c : CmdF) : Spec prog 32 [c.tv] [] (.s 3 ((checkE c).links.map LinkF.tv)) [] := by
  have h29 := s29 c.op
  cases hf : fieldsOf c.op with
  | none =>
    rw [hf] at h29
    dsimp only at h29
    rw [checkE_none hf]
    obtain ⟨op, id, gr, sh, we, ca, co, n⟩ := c
    dsimp only [CmdF.tv, Err.links, List.map_cons, List.map_nil, LinkF.tv] at *
    refine spec_s is32 mixed rfl (V_x ?_)
    repeat' (first | ((conv => whnf) <;>
             first | refine Frz.own ?_ | refine Get.mk _ rfl ?_ | refine Get.mk _ (map_geti (by omega)) ?_ | refine Get.mk _ (map_getp (by omega) (by omega)) ?_ | refine Get.mk _ (map_get (by omega)) ?_ | refine Bv2.mk _ _ rfl rfl ?_ | refine Bv1.mk _ rfl ?_ | refine Wr.mk _ (wrap_i64 (by omega) (by omega)) ?_ | refine Wr.mk _ rfl ?_ | refine And.intro len_map ?_ | refine And.intro (leX_refl _) ?_ | refine And.intro rfl ?_ | refine And.intro (leO_some _) ?_ | (refine And.intro (fun h => absurd h (by decide)) (fun h => ?_); clear h) | (refine And.intro (fun h => ?_) (fun h => absurd h (by decide)); clear h) | (with_reducible first | refine sp1 (fun h => ?_) (fun h => ?_) | refine sp2 (fun h => ?_) (fun h => ?_) | refine sp3 (fun h => ?_) (fun h => ?_) | refine sp4 (fun h => ?_) (fun h => ?_) | refine sp5 (fun h => ?_) (fun h => ?_) | refine sp6 (fun h => ?_) (fun h => ?_)) | with_reducible refine And.intro (fun h => ?_) (fun h => ?_) | refine And.intro (Int.natCast_nonneg _) ?_ | refine And.intro (by omega) ?_ | refine And.intro (by decide) ?_ | refine Lst.mk _ rfl ?_ | refine Byt.mk _ rfl ?_ | refine Or.inr (Or.inl ⟨_, _, h29, leL_refl _, rfl, rfl, ?_⟩) | refine And.intro trivial ?_ | exact trivial | exact leX_refl _ | exact rfl | refine frc_mk ?_ | refine weak_fr ?_ ?_ rfl | refine And.intro ?_ ?_ | fail) | refine frc_mk ?_)
    all_goals first
      | contradiction
      | exact leX_refl _
      | (refine leT ?_; rfl)
      | (exfalso; clear h29; simp_all; done)
      | trace_state
  | some fs =>
    rw [hf] at h29
    dsimp only at h29
    have hne := names_ne hf
    have hle := fields_le hf
    have hoz := only_zeroed c hf
    have hget : ∀ (i : Nat) (h : i < fs.length), (strB (fs.map letter))[((i : Nat) : Int).toNat]? = some (UInt8.ofBitVec (letter fs[i])) := fun i h => by
      have := strB_get (fs.map letter) i (by simpa using h)
      simpa using this
    have hsz : (strB (fs.map letter)).size = fs.length := by rw [strB_size, List.length_map]
    have h50 := fun i (h : i < fs.length) => s50 c fs[i] (hle.2 _ (List.getElem_mem h))
    have h51 := fun i (h : i < fs.length) o => s51 o fs[i] (hle.2 _ (List.getElem_mem h)) (c.get fs[i])
    generalize hN : strB (fs.map letter) = N at *
    have hov := fun i => ov_drop c fs i
    have hos := fun i h => ovT_succ c fs (i := i) h
    have hls := fun i h => onlyT_succ c fs (i := i) h
    have hfin : ovT c fs fs.length = overF c fs := by unfold ovT overF; rw [List.take_length]
    have hov : ∀ i, overF c fs = (fs.drop i).foldl (fun s i => ovStep s (c.get i)) (ovT c fs i) := hov
    have hT1 := fun h => congrArg Err.links (checkE_over hf h)
    have hT2 := fun h h' => congrArg Err.links (checkE_bare hf h h')
    have hT3 := fun h h' => congrArg Err.links (checkE_ok hf h h')
    generalize overF c fs = OV at *
    generalize (checkE c).links = T at *
    refine spec_s is32 mixed rfl (V_x ?_)
    have ho0 : ovT c fs 0 = (0, 0) := rfl
    have hl0 : onlyT c fs 0 = cmd0 c.op := rfl
    dsimp only [CmdF.tv] at *
    repeat' (first | ((conv => whnf) <;>
             first | refine Frz.own ?_ | refine Get.mk _ rfl ?_ | refine Get.mk _ (map_geti (by omega)) ?_ | refine Get.mk _ (map_getp (by omega) (by omega)) ?_ | refine Get.mk _ (map_get (by omega)) ?_ | refine Bv2.mk _ _ rfl rfl ?_ | refine Bv1.mk _ rfl ?_ | refine Wr.mk _ (wrap_i64 (by omega) (by omega)) ?_ | refine Wr.mk _ rfl ?_ | refine And.intro len_map ?_ | refine And.intro (leX_refl _) ?_ | refine And.intro rfl ?_ | refine And.intro (leO_some _) ?_ | (refine And.intro (fun h => absurd h (by decide)) (fun h => ?_); clear h) | (refine And.intro (fun h => ?_) (fun h => absurd h (by decide)); clear h) | (with_reducible first | refine sp1 (fun h => ?_) (fun h => ?_) | refine sp2 (fun h => ?_) (fun h => ?_) | refine sp3 (fun h => ?_) (fun h => ?_) | refine sp4 (fun h => ?_) (fun h => ?_) | refine sp5 (fun h => ?_) (fun h => ?_) | refine sp6 (fun h => ?_) (fun h => ?_)) | with_reducible refine And.intro (fun h => ?_) (fun h => ?_) | refine And.intro (Int.natCast_nonneg _) ?_ | refine And.intro (by omega) ?_ | refine And.intro (by decide) ?_ | refine Lst.mk _ rfl ?_ | refine Byt.mk _ rfl ?_ | refine Or.inr (Or.inl ⟨_, _, h29, leL_refl _, rfl, rfl, ?_⟩) | refine And.intro trivial ?_ | exact trivial | exact leX_refl _ | exact rfl | refine frc_mk ?_ | refine weak_fr ?_ ?_ rfl | refine And.intro ?_ ?_ | fail) | refine frc_mk ?_)
    all_goals first
      | contradiction
      | (exfalso; clear h29 h50 h51; simp_all; done)
      | skip
    refine V_up fs.length (fun i => Fct (ovT c fs i = ((i : Int), (0 : Int)))) (fun i => ([(1, .p 32 0 0), (3, tS N), (4, .p 80 0 0), (5, tI i)], [(32, .var 65 (.a [tI c.op, tI c.id, tI c.gr, tI c.sh, tI c.we, tI c.ca, tI c.co, tI c.n])), (80, .var 65 (onlyT c fs i).tv)])) ⟨ho0⟩ ?_ ?_
    · rw [hl0]
      dsimp only [CmdF.tv, cmd0]
      repeat' (first | ((conv => whnf) <;>
               first | refine Frz.own ?_ | refine Get.mk _ rfl ?_ | refine Get.mk _ (map_geti (by omega)) ?_ | refine Get.mk _ (map_getp (by omega) (by omega)) ?_ | refine Get.mk _ (map_get (by omega)) ?_ | refine Bv2.mk _ _ rfl rfl ?_ | refine Bv1.mk _ rfl ?_ | refine Wr.mk _ (wrap_i64 (by omega) (by omega)) ?_ | refine Wr.mk _ rfl ?_ | refine And.intro len_map ?_ | refine And.intro (leX_refl _) ?_ | refine And.intro rfl ?_ | refine And.intro (leO_some _) ?_ | (refine And.intro (fun h => absurd h (by decide)) (fun h => ?_); clear h) | (refine And.intro (fun h => ?_) (fun h => absurd h (by decide)); clear h) | (with_reducible first | refine sp1 (fun h => ?_) (fun h => ?_) | refine sp2 (fun h => ?_) (fun h => ?_) | refine sp3 (fun h => ?_) (fun h => ?_) | refine sp4 (fun h => ?_) (fun h => ?_) | refine sp5 (fun h => ?_) (fun h => ?_) | refine sp6 (fun h => ?_) (fun h => ?_)) | with_reducible refine And.intro (fun h => ?_) (fun h => ?_) | refine And.intro (Int.natCast_nonneg _) ?_ | refine And.intro (by omega) ?_ | refine And.intro (by decide) ?_ | refine Lst.mk _ rfl ?_ | refine Byt.mk _ rfl ?_ | refine And.intro trivial ?_ | exact trivial | exact leX_refl _ | exact rfl | refine frc_mk ?_ | refine weak_fr ?_ ?_ rfl | refine And.intro ?_ ?_ | fail) | refine frc_mk ?_)
      all_goals trace_state
    · rintro i hi ⟨hI⟩
      refine V_x ?_
      by_cases hlt : i < fs.length
      · have h50 := h50 i hlt
        have h51 := h51 i hlt (onlyT c fs i)
        have hg := hget i hlt
        have hos := hos i hlt
        rw [hI] at hos
        have hov := hov i
        rw [hI, List.drop_eq_getElem_cons hlt, List.foldl_cons] at hov
        rw [hls i hlt]
        generalize onlyT c fs i = O at *
        generalize c.get fs[i] = x at *
        generalize letter fs[i] = lt at *
        dsimp only [CmdF.tv] at *
        by_cases hb : x < 0 ∨ 2147483647 < x
        · have hst : ovStep ((i : Int), 0) x = ((i : Int) + 1, (i : Int) + 1) := by unfold ovStep; rw [if_pos ⟨rfl, hb⟩]
          rw [hst] at hov
          have hv := ov_keep c (fs.drop (i + 1)) ((i : Int) + 1, (i : Int) + 1) (by dsimp only; omega)
          rw [← hov] at hv
          have hT' : T = [⟨5, cmdB, c.op⟩, ⟨5, fieldB, (i : Int) + 1⟩] := by
            rw [hT1 (by rw [hv]; dsimp only; omega), hv]; rfl
          rw [hT']
          repeat' (first | ((conv => whnf) <;>
                   first | refine Frz.own ?_ | refine Get.mk _ rfl ?_ | refine Get.mk _ (map_geti (by omega)) ?_ | refine Get.mk _ (map_getp (by omega) (by omega)) ?_ | refine Get.mk _ (map_get (by omega)) ?_ | refine Bv2.mk _ _ rfl rfl ?_ | refine Bv1.mk _ rfl ?_ | refine Wr.mk _ (wrap_i64 (by omega) (by omega)) ?_ | refine Wr.mk _ rfl ?_ | refine And.intro len_map ?_ | refine And.intro (leX_refl _) ?_ | refine And.intro rfl ?_ | refine And.intro (leO_some _) ?_ | (refine And.intro (fun h => absurd h (by decide)) (fun h => ?_); clear h) | (refine And.intro (fun h => ?_) (fun h => absurd h (by decide)); clear h) | (with_reducible first | refine sp1 (fun h => ?_) (fun h => ?_) | refine sp2 (fun h => ?_) (fun h => ?_) | refine sp3 (fun h => ?_) (fun h => ?_) | refine sp4 (fun h => ?_) (fun h => ?_) | refine sp5 (fun h => ?_) (fun h => ?_) | refine sp6 (fun h => ?_) (fun h => ?_)) | with_reducible refine And.intro (fun h => ?_) (fun h => ?_) | refine And.intro (Int.natCast_nonneg _) ?_ | refine And.intro (by omega) ?_ | refine And.intro (by decide) ?_ | refine Get.mk _ (hg) ?_ | refine Lst.mk _ rfl ?_ | refine Byt.mk _ rfl ?_ | refine Or.inr (Or.inl ⟨_, _, h50, leL_refl _, rfl, rfl, ?_⟩) | refine And.intro trivial ?_ | exact trivial | exact leX_refl _ | exact rfl | refine frc_mk ?_ | refine weak_fr ?_ ?_ rfl | refine And.intro ?_ ?_ | fail) | refine frc_mk ?_)
          all_goals first
            | contradiction
            | (exfalso; omega)
            | exact leX_refl _
            | (refine leT ?_; rfl)
            | trace_state
        · have hst : ovStep ((i : Int), 0) x = ((i : Int) + 1, 0) := by unfold ovStep; rw [if_neg (fun h => hb h.2)]
          rw [hst] at hos
          repeat' (first | ((conv => whnf) <;>
                   first | refine Frz.own ?_ | refine Get.mk _ rfl ?_ | refine Get.mk _ (map_geti (by omega)) ?_ | refine Get.mk _ (map_getp (by omega) (by omega)) ?_ | refine Get.mk _ (map_get (by omega)) ?_ | refine Bv2.mk _ _ rfl rfl ?_ | refine Bv1.mk _ rfl ?_ | refine Wr.mk _ (wrap_i64 (by omega) (by omega)) ?_ | refine Wr.mk _ rfl ?_ | refine And.intro len_map ?_ | refine And.intro (leX_refl _) ?_ | refine And.intro rfl ?_ | refine And.intro (leO_some _) ?_ | (refine And.intro (fun h => absurd h (by decide)) (fun h => ?_); clear h) | (refine And.intro (fun h => ?_) (fun h => absurd h (by decide)); clear h) | (with_reducible first | refine sp1 (fun h => ?_) (fun h => ?_) | refine sp2 (fun h => ?_) (fun h => ?_) | refine sp3 (fun h => ?_) (fun h => ?_) | refine sp4 (fun h => ?_) (fun h => ?_) | refine sp5 (fun h => ?_) (fun h => ?_) | refine sp6 (fun h => ?_) (fun h => ?_)) | with_reducible refine And.intro (fun h => ?_) (fun h => ?_) | refine And.intro (Int.natCast_nonneg _) ?_ | refine And.intro (by omega) ?_ | refine And.intro (by decide) ?_ | refine Get.mk _ (hg) ?_ | refine Lst.mk _ rfl ?_ | refine Byt.mk _ rfl ?_ | refine Or.inr (Or.inl ⟨_, _, h50, leL_refl _, rfl, rfl, ?_⟩) | refine Or.inr (Or.inl ⟨_, _, h51, leL_refl _, rfl, rfl, ?_⟩) | refine And.intro trivial ?_ | exact trivial | exact leX_refl _ | exact rfl | refine frc_mk ?_ | refine weak_fr ?_ ?_ rfl | refine And.intro ?_ ?_ | fail) | refine frc_mk ?_)
          all_goals first
            | contradiction
            | (exfalso; omega)
            | exact leX_refl _
            | (refine Fct.mk ?_; rw [hos]; push_cast; rfl)
            | trace_state
      · obtain rfl : i = fs.length := by omega
        rw [hfin] at hI
        have h8 := eq8 (onlyT c fs fs.length) c
        generalize onlyT c fs fs.length = O at *
        dsimp only [CmdF.tv] at *
        have hnv : ¬ 0 < OV.2 := by rw [hI]; dsimp only; omega
        by_cases hz : zeroed c fs = cmd0 c.op
        · have hT' := hT3 hnv hz
          rw [decide_eq_true (hoz.2 hz)] at h8
          rw [hT']
          clear h50 h51 hget hov hos hls hT1 hT2 hT3 hoz
          repeat' (first | ((conv => whnf) <;>
                   first | refine Frz.own ?_ | refine Get.mk _ rfl ?_ | refine Get.mk _ (map_geti (by omega)) ?_ | refine Get.mk _ (map_getp (by omega) (by omega)) ?_ | refine Get.mk _ (map_get (by omega)) ?_ | refine Bv2.mk _ _ rfl rfl ?_ | refine Bv1.mk _ rfl ?_ | refine Wr.mk _ (wrap_i64 (by omega) (by omega)) ?_ | refine Wr.mk _ rfl ?_ | refine And.intro len_map ?_ | refine And.intro (leX_refl _) ?_ | refine And.intro rfl ?_ | refine And.intro (leO_some _) ?_ | (refine And.intro (fun h => absurd h (by decide)) (fun h => ?_); clear h) | (refine And.intro (fun h => ?_) (fun h => absurd h (by decide)); clear h) | (with_reducible first | refine sp1 (fun h => ?_) (fun h => ?_) | refine sp2 (fun h => ?_) (fun h => ?_) | refine sp3 (fun h => ?_) (fun h => ?_) | refine sp4 (fun h => ?_) (fun h => ?_) | refine sp5 (fun h => ?_) (fun h => ?_) | refine sp6 (fun h => ?_) (fun h => ?_)) | with_reducible refine And.intro (fun h => ?_) (fun h => ?_) | refine And.intro (Int.natCast_nonneg _) ?_ | refine And.intro (by omega) ?_ | refine And.intro (by decide) ?_ | refine Lst.mk _ rfl ?_ | refine Byt.mk _ rfl ?_ | refine And.intro trivial ?_ | exact trivial | exact leX_refl _ | exact rfl | refine frc_mk ?_ | refine weak_fr ?_ ?_ rfl | refine And.intro ?_ ?_ | fail) | refine frc_mk ?_)
          all_goals first
            | contradiction
            | (exfalso; omega)
            | exact leX_refl _
            | (exfalso; clear h29; simp_all; done)
            | exact And.intro rfl rfl
            | trace_state
        · have hT' := hT2 hnv hz
          rw [decide_eq_false (fun h => hz (hoz.1 h))] at h8
          rw [hT']
          clear h50 h51 hget hov hos hls hT1 hT2 hT3 hoz
          repeat' (first | ((conv => whnf) <;>
                   first | refine Frz.own ?_ | refine Get.mk _ rfl ?_ | refine Get.mk _ (map_geti (by omega)) ?_ | refine Get.mk _ (map_getp (by omega) (by omega)) ?_ | refine Get.mk _ (map_get (by omega)) ?_ | refine Bv2.mk _ _ rfl rfl ?_ | refine Bv1.mk _ rfl ?_ | refine Wr.mk _ (wrap_i64 (by omega) (by omega)) ?_ | refine Wr.mk _ rfl ?_ | refine And.intro len_map ?_ | refine And.intro (leX_refl _) ?_ | refine And.intro rfl ?_ | refine And.intro (leO_some _) ?_ | (refine And.intro (fun h => absurd h (by decide)) (fun h => ?_); clear h) | (refine And.intro (fun h => ?_) (fun h => absurd h (by decide)); clear h) | (with_reducible first | refine sp1 (fun h => ?_) (fun h => ?_) | refine sp2 (fun h => ?_) (fun h => ?_) | refine sp3 (fun h => ?_) (fun h => ?_) | refine sp4 (fun h => ?_) (fun h => ?_) | refine sp5 (fun h => ?_) (fun h => ?_) | refine sp6 (fun h => ?_) (fun h => ?_)) | with_reducible refine And.intro (fun h => ?_) (fun h => ?_) | refine And.intro (Int.natCast_nonneg _) ?_ | refine And.intro (by omega) ?_ | refine And.intro (by decide) ?_ | refine Lst.mk _ rfl ?_ | refine Byt.mk _ rfl ?_ | refine And.intro trivial ?_ | exact trivial | exact leX_refl _ | exact rfl | refine frc_mk ?_ | refine weak_fr ?_ ?_ rfl | refine And.intro ?_ ?_ | fail) | refine frc_mk ?_)
          all_goals first
            | contradiction
            | (exfalso; omega)
            | exact leX_refl _
            | (refine leT ?_; rfl)
            | (exfalso; clear h29; simp_all; done)
            | trace_state
end Go.Proofs.YtdbeeenjcjplhaaDoor.Vc
