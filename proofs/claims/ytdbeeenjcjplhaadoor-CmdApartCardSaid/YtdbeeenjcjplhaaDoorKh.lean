/- Numbers put behind bytes, and read. -/
import Derived.Test.YtdbeeenjcjplhaaDoorKf
namespace Go.Proofs.YtdbeeenjcjplhaaDoor.Vc
open Go Go.RowKit Go.Proofs.Tryd
set_option maxRecDepth 20000
theorem nim_byt (l : List (BitVec 8)) : ∀ x ∈ l.map bytTV, x.nim = true := by
  intro x hx
  obtain ⟨b, _, rfl⟩ := List.mem_map.1 hx
  rfl
set_option maxHeartbeats 4000000 in
theorem s72 (L : List (BitVec 8)) (b : BitVec 64) (hL : L.length ≤ 1000000) : SpecG prog 72 5 1 (L.map bytTV) [tU b] ((L ++ numN b.toNat).map bytTV) := by
  refine spec_g is72 mixed rfl rfl (nim_byt _) (V_x ?_)
  have hb := b.isLt
  have hn10 := numN_len 9 b.toNat (by omega)
  repeat' (first | ((conv => whnf) <;>
           first | refine Frz.own ?_ | refine Get.mk _ rfl ?_ | refine Get.mk _ (map_geti (by omega)) ?_ | refine Get.mk _ (map_getp (by omega) (by omega)) ?_ | refine Get.mk _ (map_get (by omega)) ?_ | refine Bv2.mk _ _ rfl rfl ?_ | refine Bv1.mk _ rfl ?_ | refine Wr.mk _ (wrap_i64 (by omega) (by omega)) ?_ | refine Wr.mk _ rfl ?_ | refine And.intro len_map ?_ | refine And.intro (leX_refl _) ?_ | refine And.intro rfl ?_ | refine And.intro (leO_some _) ?_ | (refine And.intro (fun h => absurd h (by decide)) (fun h => ?_); clear h) | (refine And.intro (fun h => ?_) (fun h => absurd h (by decide)); clear h) | (with_reducible first | refine sp1 (fun h => ?_) (fun h => ?_) | refine sp2 (fun h => ?_) (fun h => ?_) | refine sp3 (fun h => ?_) (fun h => ?_) | refine sp4 (fun h => ?_) (fun h => ?_) | refine sp5 (fun h => ?_) (fun h => ?_) | refine sp6 (fun h => ?_) (fun h => ?_)) | with_reducible refine And.intro (fun h => ?_) (fun h => ?_) | refine And.intro (Int.natCast_nonneg _) ?_ | refine And.intro (by omega) ?_ | refine And.intro (by decide) ?_ | refine Lst.mk _ rfl ?_ | refine Byt.mk _ rfl ?_ | refine And.intro trivial ?_ | exact trivial | exact leX_refl _ | exact rfl | refine frc_mk ?_ | refine weak_fr ?_ ?_ rfl | refine And.intro ?_ ?_ | fail) | refine frc_mk ?_)
  refine V_ms (α := List (BitVec 8) × BitVec 64) (fun x => x.2.toNat) (fun x => Fct (x.1 ++ numN x.2.toNat = L ++ numN b.toNat)) (fun x => ([(0, .o 31), (1, tU x.2)], [(31, .row 5 1 (x.1.map bytTV))])) (L, b) ⟨rfl⟩ ?_ ?_
  · repeat' (first | ((conv => whnf) <;>
             first | refine Frz.own ?_ | refine Get.mk _ rfl ?_ | refine Get.mk _ (map_geti (by omega)) ?_ | refine Get.mk _ (map_getp (by omega) (by omega)) ?_ | refine Get.mk _ (map_get (by omega)) ?_ | refine Bv2.mk _ _ rfl rfl ?_ | refine Bv1.mk _ rfl ?_ | refine Wr.mk _ (wrap_i64 (by omega) (by omega)) ?_ | refine Wr.mk _ rfl ?_ | refine And.intro len_map ?_ | refine And.intro (leX_refl _) ?_ | refine And.intro rfl ?_ | refine And.intro (leO_some _) ?_ | (refine And.intro (fun h => absurd h (by decide)) (fun h => ?_); clear h) | (refine And.intro (fun h => ?_) (fun h => absurd h (by decide)); clear h) | (with_reducible first | refine sp1 (fun h => ?_) (fun h => ?_) | refine sp2 (fun h => ?_) (fun h => ?_) | refine sp3 (fun h => ?_) (fun h => ?_) | refine sp4 (fun h => ?_) (fun h => ?_) | refine sp5 (fun h => ?_) (fun h => ?_) | refine sp6 (fun h => ?_) (fun h => ?_)) | with_reducible refine And.intro (fun h => ?_) (fun h => ?_) | refine And.intro (Int.natCast_nonneg _) ?_ | refine And.intro (by omega) ?_ | refine And.intro (by decide) ?_ | refine Lst.mk _ rfl ?_ | refine Byt.mk _ rfl ?_ | refine And.intro trivial ?_ | exact trivial | exact leX_refl _ | exact rfl | refine frc_mk ?_ | refine weak_fr ?_ ?_ rfl | refine And.intro ?_ ?_ | fail) | refine frc_mk ?_)
    all_goals trace_state
  · rintro ⟨ys, m⟩ ⟨hI⟩
    refine V_x ?_
    have hm := m.isLt
    have hlen := congrArg List.length hI
    simp only [List.length_append] at hlen
    have hlm : (ys.map bytTV).length = ys.length := List.length_map _
    have e128 : (128#64).toNat = 128 := rfl
    by_cases h : m.toNat < 128
    · have hv : ys.map bytTV ++ [bytTV (m.setWidth 8)] = (L ++ numN b.toNat).map bytTV := by
        rw [← hI, numN_small h, List.map_append]
        congr 1
      have hb1 : (ys.map bytTV).length + 1 ≤ 1000020 := by rw [hlm]; omega
      repeat' (first | ((conv => whnf) <;>
               first | refine (Frz.frz ?_ : Frz 19 _ _) | refine Frz.own ?_ | refine Get.mk _ rfl ?_ | refine Get.mk _ (map_geti (by omega)) ?_ | refine Get.mk _ (map_getp (by omega) (by omega)) ?_ | refine Get.mk _ (map_get (by omega)) ?_ | refine Bv2.mk _ _ rfl rfl ?_ | refine Bv1.mk _ rfl ?_ | refine Wr.mk _ (wrap_i64 (by omega) (by omega)) ?_ | refine Wr.mk _ rfl ?_ | refine And.intro len_map ?_ | refine And.intro (leX_refl _) ?_ | refine And.intro rfl ?_ | refine And.intro (leO_some _) ?_ | (refine And.intro (fun h => absurd h (by decide)) (fun h => ?_); clear h) | (refine And.intro (fun h => ?_) (fun h => absurd h (by decide)); clear h) | (with_reducible first | refine sp1 (fun h => ?_) (fun h => ?_) | refine sp2 (fun h => ?_) (fun h => ?_) | refine sp3 (fun h => ?_) (fun h => ?_) | refine sp4 (fun h => ?_) (fun h => ?_) | refine sp5 (fun h => ?_) (fun h => ?_) | refine sp6 (fun h => ?_) (fun h => ?_)) | with_reducible refine And.intro (fun h => ?_) (fun h => ?_) | refine And.intro (Int.natCast_nonneg _) ?_ | refine And.intro (by omega) ?_ | refine And.intro (by decide) ?_ | refine Lst.mk _ rfl ?_ | refine Byt.mk _ rfl ?_ | refine And.intro trivial ?_ | exact trivial | exact leX_refl _ | exact rfl | refine frc_mk ?_ | refine weak_fr ?_ ?_ rfl | refine And.intro ?_ ?_ | fail) | refine frc_mk ?_)
      all_goals first
        | (exfalso; omega)
        | (simp only [List.length_cons, List.length_nil] at *; omega)
        | exact hv
        | trace_state
    · have hd : (m / 128#64).toNat = m.toNat / 128 := by rw [BitVec.toNat_udiv, e128]
      have hv : (ys ++ [(m % 128#64).setWidth 8 + 128#8]) ++ numN (m / 128#64).toNat = L ++ numN b.toNat := by
        rw [← hI, numN_big h, hd]
        have : (m % 128#64).setWidth 8 + 128#8 = BitVec.ofNat 8 (128 + m.toNat % 128) := by
          apply BitVec.eq_of_toNat_eq
          rw [BitVec.toNat_ofNat, BitVec.toNat_add, BitVec.toNat_setWidth, BitVec.toNat_umod, e128, show (128#8).toNat = 128 from rfl]
          omega
        rw [this]; simp
      have hb1 : (ys.map bytTV).length + 1 ≤ 1000020 := by rw [hlm]; have := numN_pos m.toNat; omega
      have hlt : (m / 128#64).toNat < m.toNat := by rw [hd]; omega
      repeat' (first | ((conv => whnf) <;>
               first | refine (Frz.frz ?_ : Frz 12 _ _) | refine Frz.own ?_ | refine Get.mk _ rfl ?_ | refine Get.mk _ (map_geti (by omega)) ?_ | refine Get.mk _ (map_getp (by omega) (by omega)) ?_ | refine Get.mk _ (map_get (by omega)) ?_ | refine Bv2.mk _ _ rfl rfl ?_ | refine Bv1.mk _ rfl ?_ | refine Wr.mk _ (wrap_i64 (by omega) (by omega)) ?_ | refine Wr.mk _ rfl ?_ | refine And.intro len_map ?_ | refine And.intro (leX_refl _) ?_ | refine And.intro rfl ?_ | refine And.intro (leO_some _) ?_ | (refine And.intro (fun h => absurd h (by decide)) (fun h => ?_); clear h) | (refine And.intro (fun h => ?_) (fun h => absurd h (by decide)); clear h) | (with_reducible first | refine sp1 (fun h => ?_) (fun h => ?_) | refine sp2 (fun h => ?_) (fun h => ?_) | refine sp3 (fun h => ?_) (fun h => ?_) | refine sp4 (fun h => ?_) (fun h => ?_) | refine sp5 (fun h => ?_) (fun h => ?_) | refine sp6 (fun h => ?_) (fun h => ?_)) | with_reducible refine And.intro (fun h => ?_) (fun h => ?_) | refine And.intro (Int.natCast_nonneg _) ?_ | refine And.intro (by omega) ?_ | refine And.intro (by decide) ?_ | refine Lst.mk _ rfl ?_ | refine Byt.mk _ rfl ?_ | refine And.intro trivial ?_ | exact trivial | exact leX_refl _ | exact rfl | refine frc_mk ?_ | refine weak_fr ?_ ?_ rfl | refine And.intro ?_ ?_ | fail) | refine frc_mk ?_)
      all_goals first
        | (exfalso; omega)
        | (simp only [List.length_cons, List.length_nil] at *; omega)
        | skip
      refine Exists.intro (ys ++ [(m % 128#64).setWidth 8 + 128#8], m / 128#64) (And.intro hlt (And.intro ⟨hv⟩ ?_))
      repeat' (first | ((conv => whnf) <;>
               first | refine Frz.own ?_ | refine Get.mk _ rfl ?_ | refine Get.mk _ (map_geti (by omega)) ?_ | refine Get.mk _ (map_getp (by omega) (by omega)) ?_ | refine Get.mk _ (map_get (by omega)) ?_ | refine Bv2.mk _ _ rfl rfl ?_ | refine Bv1.mk _ rfl ?_ | refine Wr.mk _ (wrap_i64 (by omega) (by omega)) ?_ | refine Wr.mk _ rfl ?_ | refine And.intro len_map ?_ | refine And.intro (leX_refl _) ?_ | refine And.intro rfl ?_ | refine And.intro (leO_some _) ?_ | (refine And.intro (fun h => absurd h (by decide)) (fun h => ?_); clear h) | (refine And.intro (fun h => ?_) (fun h => absurd h (by decide)); clear h) | (with_reducible first | refine sp1 (fun h => ?_) (fun h => ?_) | refine sp2 (fun h => ?_) (fun h => ?_) | refine sp3 (fun h => ?_) (fun h => ?_) | refine sp4 (fun h => ?_) (fun h => ?_) | refine sp5 (fun h => ?_) (fun h => ?_) | refine sp6 (fun h => ?_) (fun h => ?_)) | with_reducible refine And.intro (fun h => ?_) (fun h => ?_) | refine And.intro (Int.natCast_nonneg _) ?_ | refine And.intro (by omega) ?_ | refine And.intro (by decide) ?_ | refine Lst.mk _ rfl ?_ | refine Byt.mk _ rfl ?_ | refine And.intro trivial ?_ | exact trivial | exact leX_refl _ | exact rfl | refine frc_mk ?_ | refine weak_fr ?_ ?_ rfl | refine And.intro ?_ ?_ | fail) | refine frc_mk ?_)
      all_goals first
        | (refine rowO ?_; rw [List.map_append]; rfl)
        | trace_state
set_option maxHeartbeats 4000000 in
theorem s55 (xs : List (BitVec 8)) (b : BitVec 64) (h : xs ≠ []) (hl : xs.length ≤ 900000) : Spec prog 55 [.s 1 (xs.map bytTV), .s 1 [tU b]] [] (.s 1 ((xs ++ numN b.toNat).map bytTV)) [] := by
  have h71 := s71 xs h (by omega)
  have h72 := s72 xs b (by omega)
  refine spec_s is55 mixed rfl (V_x ?_)
  generalize (xs ++ numN b.toNat).map bytTV = R at *
  generalize xs.map bytTV = M at *
  repeat' (first | ((conv => whnf) <;>
           first | refine Frz.own ?_ | refine Get.mk _ rfl ?_ | refine Get.mk _ (map_geti (by omega)) ?_ | refine Get.mk _ (map_getp (by omega) (by omega)) ?_ | refine Get.mk _ (map_get (by omega)) ?_ | refine Bv2.mk _ _ rfl rfl ?_ | refine Bv1.mk _ rfl ?_ | refine Wr.mk _ (wrap_i64 (by omega) (by omega)) ?_ | refine Wr.mk _ rfl ?_ | refine And.intro len_map ?_ | refine And.intro (leX_refl _) ?_ | refine And.intro rfl ?_ | refine And.intro (leO_some _) ?_ | (refine And.intro (fun h => absurd h (by decide)) (fun h => ?_); clear h) | (refine And.intro (fun h => ?_) (fun h => absurd h (by decide)); clear h) | (with_reducible first | refine sp1 (fun h => ?_) (fun h => ?_) | refine sp2 (fun h => ?_) (fun h => ?_) | refine sp3 (fun h => ?_) (fun h => ?_) | refine sp4 (fun h => ?_) (fun h => ?_) | refine sp5 (fun h => ?_) (fun h => ?_) | refine sp6 (fun h => ?_) (fun h => ?_)) | with_reducible refine And.intro (fun h => ?_) (fun h => ?_) | refine And.intro (Int.natCast_nonneg _) ?_ | refine And.intro (by omega) ?_ | refine And.intro (by decide) ?_ | refine Lst.mk _ rfl ?_ | refine Or.inr (Or.inr (Or.inl ⟨[], false, _, [_], h71, fun _ => ⟨rfl, Nat.le_of_ble_eq_true rfl⟩, List.nodup_nil, fun _ h => absurd h List.not_mem_nil, fun h => Bool.noConfusion h, one_none rfl, ?_⟩)) | refine Byt.mk _ rfl ?_ | refine And.intro trivial ?_ | exact trivial | exact leX_refl _ | exact rfl | refine frc_mk ?_ | refine weak_fr ?_ ?_ rfl | refine And.intro ?_ ?_ | fail) | refine frc_mk ?_)
  refine V_up 1 (fun i => i ≤ 1) (fun i => ([(5, .o 160), (10, .s 1 [tU b]), (11, tI 1), (12, tI i)], [(160, .row 5 1 (if i = 0 then M else R))])) (by omega) ?_ ?_
  · repeat' (first | ((conv => whnf) <;>
             first | refine Frz.own ?_ | refine Get.mk _ rfl ?_ | refine Get.mk _ (map_geti (by omega)) ?_ | refine Get.mk _ (map_getp (by omega) (by omega)) ?_ | refine Get.mk _ (map_get (by omega)) ?_ | refine Bv2.mk _ _ rfl rfl ?_ | refine Bv1.mk _ rfl ?_ | refine Wr.mk _ (wrap_i64 (by omega) (by omega)) ?_ | refine Wr.mk _ rfl ?_ | refine And.intro len_map ?_ | refine And.intro (leX_refl _) ?_ | refine And.intro rfl ?_ | refine And.intro (leO_some _) ?_ | (refine And.intro (fun h => absurd h (by decide)) (fun h => ?_); clear h) | (refine And.intro (fun h => ?_) (fun h => absurd h (by decide)); clear h) | (with_reducible first | refine sp1 (fun h => ?_) (fun h => ?_) | refine sp2 (fun h => ?_) (fun h => ?_) | refine sp3 (fun h => ?_) (fun h => ?_) | refine sp4 (fun h => ?_) (fun h => ?_) | refine sp5 (fun h => ?_) (fun h => ?_) | refine sp6 (fun h => ?_) (fun h => ?_)) | with_reducible refine And.intro (fun h => ?_) (fun h => ?_) | refine And.intro (Int.natCast_nonneg _) ?_ | refine And.intro (by omega) ?_ | refine And.intro (by decide) ?_ | refine Lst.mk _ rfl ?_ | refine Byt.mk _ rfl ?_ | refine And.intro trivial ?_ | exact trivial | exact leX_refl _ | exact rfl | refine frc_mk ?_ | refine weak_fr ?_ ?_ rfl | refine And.intro ?_ ?_ | fail) | refine frc_mk ?_)
    all_goals trace_state
  · intro i hi _
    refine V_x ?_
    rcases (by omega : i = 0 ∨ i = 1) with rfl | rfl
    · rw [if_pos rfl, if_neg (by omega)]
      repeat' (first | ((conv => whnf) <;>
               first | refine Frz.own ?_ | refine Get.mk _ rfl ?_ | refine Get.mk _ (map_geti (by omega)) ?_ | refine Get.mk _ (map_getp (by omega) (by omega)) ?_ | refine Get.mk _ (map_get (by omega)) ?_ | refine Bv2.mk _ _ rfl rfl ?_ | refine Bv1.mk _ rfl ?_ | refine Wr.mk _ (wrap_i64 (by omega) (by omega)) ?_ | refine Wr.mk _ rfl ?_ | refine And.intro len_map ?_ | refine And.intro (leX_refl _) ?_ | refine And.intro rfl ?_ | refine And.intro (leO_some _) ?_ | (refine And.intro (fun h => absurd h (by decide)) (fun h => ?_); clear h) | (refine And.intro (fun h => ?_) (fun h => absurd h (by decide)); clear h) | (with_reducible first | refine sp1 (fun h => ?_) (fun h => ?_) | refine sp2 (fun h => ?_) (fun h => ?_) | refine sp3 (fun h => ?_) (fun h => ?_) | refine sp4 (fun h => ?_) (fun h => ?_) | refine sp5 (fun h => ?_) (fun h => ?_) | refine sp6 (fun h => ?_) (fun h => ?_)) | with_reducible refine And.intro (fun h => ?_) (fun h => ?_) | refine And.intro (Int.natCast_nonneg _) ?_ | refine And.intro (by omega) ?_ | refine And.intro (by decide) ?_ | refine Lst.mk _ rfl ?_ | refine Or.inl ⟨rfl, _, _, _, _, _, _, rfl, rfl, rfl, rfl, h72, ?_⟩ | refine Byt.mk _ rfl ?_ | refine And.intro trivial ?_ | exact trivial | exact leX_refl _ | exact rfl | refine frc_mk ?_ | refine weak_fr ?_ ?_ rfl | refine And.intro ?_ ?_ | fail) | refine frc_mk ?_)
      all_goals first
        | (exfalso; omega)
        | trace_state
    · rw [if_neg (by omega)]
      repeat' (first | ((conv => whnf) <;>
               first | refine Frz.own ?_ | refine Get.mk _ rfl ?_ | refine Get.mk _ (map_geti (by omega)) ?_ | refine Get.mk _ (map_getp (by omega) (by omega)) ?_ | refine Get.mk _ (map_get (by omega)) ?_ | refine Bv2.mk _ _ rfl rfl ?_ | refine Bv1.mk _ rfl ?_ | refine Wr.mk _ (wrap_i64 (by omega) (by omega)) ?_ | refine Wr.mk _ rfl ?_ | refine And.intro len_map ?_ | refine And.intro (leX_refl _) ?_ | refine And.intro rfl ?_ | refine And.intro (leO_some _) ?_ | (refine And.intro (fun h => absurd h (by decide)) (fun h => ?_); clear h) | (refine And.intro (fun h => ?_) (fun h => absurd h (by decide)); clear h) | (with_reducible first | refine sp1 (fun h => ?_) (fun h => ?_) | refine sp2 (fun h => ?_) (fun h => ?_) | refine sp3 (fun h => ?_) (fun h => ?_) | refine sp4 (fun h => ?_) (fun h => ?_) | refine sp5 (fun h => ?_) (fun h => ?_) | refine sp6 (fun h => ?_) (fun h => ?_)) | with_reducible refine And.intro (fun h => ?_) (fun h => ?_) | refine And.intro (Int.natCast_nonneg _) ?_ | refine And.intro (by omega) ?_ | refine And.intro (by decide) ?_ | refine Lst.mk _ rfl ?_ | refine Byt.mk _ rfl ?_ | refine And.intro trivial ?_ | exact trivial | exact leX_refl _ | exact rfl | refine frc_mk ?_ | refine weak_fr ?_ ?_ rfl | refine And.intro ?_ ?_ | fail) | refine frc_mk ?_)
      all_goals first
        | (exfalso; omega)
        | exact leX_refl _
        | trace_state
end Go.Proofs.YtdbeeenjcjplhaaDoor.Vc

namespace Go.Proofs.YtdbeeenjcjplhaaDoor.Vc
open Go Go.RowKit Go.Proofs.Tryd
set_option maxRecDepth 20000
def numI (v : Int) : List (BitVec 8) := numN (BitVec.ofInt 64 v).toNat
theorem numI_len (v : Int) : (numI v).length ≤ 10 := numN_len 9 _ (by have := (BitVec.ofInt 64 v).isLt; omega)
structure Okb (xs : List (BitVec 8)) (k : Nat) : Prop where
  ne : xs ≠ []
  le : xs.length ≤ 100 + 10 * k
theorem Okb.app {xs : List (BitVec 8)} {k : Nat} (h : Okb xs k) (v : Int) : Okb (xs ++ numI v) (k + 1) :=
  ⟨by simp [h.ne], by have := numI_len v; have := h.le; simp; omega⟩
set_option maxHeartbeats 4000000 in
theorem s54 (c : CmdF) (i : Nat) (h : 1 ≤ i ∧ i ≤ 7) (xs : List (BitVec 8)) (k : Nat) (hx : Okb xs k) (hk : k ≤ 10) : Spec prog 54 [.p 0 0 i, .p 1 0 0] [.var 65 c.tv, .var 72 (.s 1 (xs.map bytTV))] (.t []) [.var 65 c.tv, .var 72 (.s 1 ((xs ++ numI (c.get i)).map bytTV))] := by
  have h55 := fun v => s55 xs (BitVec.ofInt 64 v) hx.ne (by have := hx.le; omega)
  unfold numI
  obtain ⟨op, id, gr, sh, we, ca, co, n⟩ := c
  rcases (by omega : i = 1 ∨ i = 2 ∨ i = 3 ∨ i = 4 ∨ i = 5 ∨ i = 6 ∨ i = 7) with rfl | rfl | rfl | rfl | rfl | rfl | rfl
  all_goals
    dsimp only [CmdF.tv, CmdF.get]
    generalize xs.map bytTV = M at *
    refine spec_o is54 mixed [] rfl rfl rfl (V_x ?_)
    repeat' (first | ((conv => whnf) <;>
             first | refine (Frz.frz ?_ : Frz 8 _ _) | refine Frz.own ?_ | refine Get.mk _ rfl ?_ | refine Get.mk _ (map_geti (by omega)) ?_ | refine Get.mk _ (map_getp (by omega) (by omega)) ?_ | refine Get.mk _ (map_get (by omega)) ?_ | refine Bv2.mk _ _ rfl rfl ?_ | refine Bv1.mk _ rfl ?_ | refine Wr.mk _ (wrap_i64 (by omega) (by omega)) ?_ | refine Wr.mk _ rfl ?_ | refine And.intro len_map ?_ | refine And.intro (leX_refl _) ?_ | refine And.intro rfl ?_ | refine And.intro (leO_some _) ?_ | (refine And.intro (fun h => absurd h (by decide)) (fun h => ?_); clear h) | (refine And.intro (fun h => ?_) (fun h => absurd h (by decide)); clear h) | (with_reducible first | refine sp1 (fun h => ?_) (fun h => ?_) | refine sp2 (fun h => ?_) (fun h => ?_) | refine sp3 (fun h => ?_) (fun h => ?_) | refine sp4 (fun h => ?_) (fun h => ?_) | refine sp5 (fun h => ?_) (fun h => ?_) | refine sp6 (fun h => ?_) (fun h => ?_)) | with_reducible refine And.intro (fun h => ?_) (fun h => ?_) | refine And.intro (Int.natCast_nonneg _) ?_ | refine And.intro (by omega) ?_ | refine And.intro (by decide) ?_ | refine Lst.mk _ rfl ?_ | refine Byt.mk _ rfl ?_ | refine Or.inr (Or.inl ⟨_, _, h55 _, leL_refl _, rfl, rfl, ?_⟩) | refine And.intro trivial ?_ | exact trivial | exact leX_refl _ | exact rfl | refine frc_mk ?_ | refine weak_fr ?_ ?_ rfl | refine And.intro ?_ ?_ | fail) | refine frc_mk ?_)
    all_goals first
      | exact no_mem'
      | exact lt2 (fun h => by cases h) (fun h => by cases h)
      | rfl
      | trace_state
/-- A number of groups of seven bits. -/
def val : List (BitVec 8) → Nat
  | [] => 0
  | b :: l => b.toNat % 128 + 128 * val l
theorem val_append (l : List (BitVec 8)) (b : BitVec 8) : val (l ++ [b]) = val l + b.toNat % 128 * 128 ^ l.length := by
  induction l with
  | nil => simp [val]
  | cons x l ih =>
    simp only [List.cons_append, val, ih, List.length_cons, Nat.pow_succ, Nat.mul_add]
    have : 128 * (b.toNat % 128 * 128 ^ l.length) = b.toNat % 128 * (128 ^ l.length * 128) := by
      rw [Nat.mul_left_comm, Nat.mul_comm 128 (128 ^ l.length)]
    omega
theorem val_lt (l : List (BitVec 8)) : val l < 128 ^ l.length := by
  induction l with
  | nil => simp [val]
  | cons x l ih =>
    simp only [val, List.length_cons, Nat.pow_succ]
    omega
/-- How many bytes ahead of the last one. -/
def lead : List (BitVec 8) → Nat
  | [] => 0
  | b :: l => if 128 ≤ b.toNat then lead l + 1 else 0
theorem lead_le (l : List (BitVec 8)) : lead l ≤ l.length := by
  induction l with
  | nil => simp [lead]
  | cons b l ih => simp only [lead]; split <;> simp <;> omega
theorem lead_succ : ∀ (l : List (BitVec 8)) (i : Nat) (h : i < l.length), i ≤ lead l → 128 ≤ (l[i]).toNat → i + 1 ≤ lead l
  | b :: l, 0, _, _, hb => by simp only [lead]; rw [if_pos (by simpa using hb)]; omega
  | b :: l, i + 1, h, hi, hb => by
    simp only [lead] at hi ⊢
    split at hi
    · rename_i hc
      rw [if_pos hc]
      have := lead_succ l i (by simpa using h) (by omega) (by simpa using hb)
      omega
    · omega
theorem lead_eq : ∀ (l : List (BitVec 8)) (i : Nat) (h : i < l.length), i ≤ lead l → ¬ 128 ≤ (l[i]).toNat → lead l = i
  | b :: l, 0, _, _, hb => by simp only [lead]; rw [if_neg (by simpa using hb)]
  | b :: l, i + 1, h, hi, hb => by
    simp only [lead] at hi ⊢
    split at hi
    · rename_i hc
      rw [if_pos hc]
      have := lead_eq l i (by simpa using h) (by omega) (by simpa using hb)
      omega
    · omega
theorem or_shift (v i : Nat) (b : BitVec 8) (hi : i ≤ 9) (hv : v < 128 ^ i) : BitVec.ofNat 64 v ||| BitVec.setWidth 64 (b % 128#8) <<< (7 * (i : Int)).toNat = BitVec.ofNat 64 (v + b.toNat % 128 * 128 ^ i) := by
  apply BitVec.eq_of_toNat_eq
  have e128 : (128#8).toNat = 128 := rfl
  have e7 : (7 * (i : Int)).toNat = 7 * i := by omega
  rw [e7, BitVec.toNat_or, BitVec.toNat_shiftLeft, BitVec.toNat_ofNat, BitVec.toNat_ofNat, BitVec.toNat_setWidth, BitVec.toNat_umod, e128]
  have hx : b.toNat % 128 < 128 := Nat.mod_lt _ (by omega)
  generalize b.toNat % 128 = x at *
  rw [Nat.mod_eq_of_lt (show x < 2 ^ 64 by omega)]
  have h128 : (128 : Nat) ^ i = 2 ^ (7 * i) := by rw [show (128 : Nat) = 2 ^ 7 from rfl, ← Nat.pow_mul]
  rw [h128] at hv ⊢
  have hsh : x <<< (7 * i) % 2 ^ 64 = (x % 2 ^ (64 - 7 * i)) <<< (7 * i) := by
    rw [Nat.shiftLeft_eq, Nat.shiftLeft_eq, ← Nat.mul_mod_mul_right, ← Nat.pow_add]
    congr 2
    omega
  have hv64 : v < 2 ^ 64 := Nat.lt_of_lt_of_le hv (Nat.pow_le_pow_right (by omega) (by omega))
  rw [hsh, Nat.mod_eq_of_lt hv64, Nat.or_comm, ← Nat.shiftLeft_add_eq_or_of_lt hv, Nat.shiftLeft_eq]
  have h2 : (v + x * 2 ^ (7 * i)) % 2 ^ 64 = x % 2 ^ (64 - 7 * i) * 2 ^ (7 * i) + v := by
    rw [← Nat.mul_mod_mul_right, ← Nat.pow_add, show 64 - 7 * i + 7 * i = 64 by omega]
    have hlt : x * 2 ^ (7 * i) % 2 ^ 64 + v < 2 ^ 64 := by
      have h3 : x * 2 ^ (7 * i) % 2 ^ 64 = (x % 2 ^ (64 - 7 * i)) * 2 ^ (7 * i) := by
        rw [← Nat.mul_mod_mul_right, ← Nat.pow_add, show 64 - 7 * i + 7 * i = 64 by omega]
      rw [h3]
      have h4 : x % 2 ^ (64 - 7 * i) + 1 ≤ 2 ^ (64 - 7 * i) := Nat.mod_lt _ (Nat.two_pow_pos _)
      have h5 := Nat.mul_le_mul_right (2 ^ (7 * i)) h4
      rw [← Nat.pow_add, show 64 - 7 * i + 7 * i = 64 by omega, Nat.add_mul, Nat.one_mul] at h5
      omega
    rw [Nat.add_comm v, Nat.add_mod, Nat.mod_eq_of_lt hv64, Nat.mod_eq_of_lt hlt]
  rw [h2]
/-- What the program reads. -/
def numR (bs : List (BitVec 8)) : BitVec 64 × Nat :=
  if h : lead bs < 10 ∧ lead bs < bs.length then
    if (0 < lead bs ∧ (bs[lead bs]'h.2).toNat = 0) ∨ (lead bs = 9 ∧ 1 < (bs[lead bs]'h.2).toNat) then (0, 0) else (BitVec.ofNat 64 (val (bs.take (lead bs + 1))), lead bs + 1)
  else (0, 0)
set_option maxHeartbeats 4000000 in
theorem s73 (bs : List (BitVec 8)) (_hl : bs.length ≤ 1000000) : Spec prog 73 [.s 1 (bs.map bytTV)] [] (.t [tU (numR bs).1, tI (numR bs).2]) [] := by
  have hlm : (bs.map bytTV).length = bs.length := List.length_map _
  generalize hM : bs.map bytTV = M at *
  refine spec_s is73 mixed rfl (V_x ?_)
  repeat' (first | ((conv => whnf) <;>
           first | refine Frz.own ?_ | refine Get.mk _ rfl ?_ | refine Get.mk _ (map_geti (by omega)) ?_ | refine Get.mk _ (map_getp (by omega) (by omega)) ?_ | refine Get.mk _ (map_get (by omega)) ?_ | refine Bv2.mk _ _ rfl rfl ?_ | refine Bv1.mk _ rfl ?_ | refine Wr.mk _ (wrap_i64 (by omega) (by omega)) ?_ | refine Wr.mk _ rfl ?_ | refine And.intro len_map ?_ | refine And.intro (leX_refl _) ?_ | refine And.intro rfl ?_ | refine And.intro (leO_some _) ?_ | (refine And.intro (fun h => absurd h (by decide)) (fun h => ?_); clear h) | (refine And.intro (fun h => ?_) (fun h => absurd h (by decide)); clear h) | (with_reducible first | refine sp1 (fun h => ?_) (fun h => ?_) | refine sp2 (fun h => ?_) (fun h => ?_) | refine sp3 (fun h => ?_) (fun h => ?_) | refine sp4 (fun h => ?_) (fun h => ?_) | refine sp5 (fun h => ?_) (fun h => ?_) | refine sp6 (fun h => ?_) (fun h => ?_)) | with_reducible refine And.intro (fun h => ?_) (fun h => ?_) | refine And.intro (Int.natCast_nonneg _) ?_ | refine And.intro (by omega) ?_ | refine And.intro (by decide) ?_ | refine Lst.mk _ rfl ?_ | refine Byt.mk _ rfl ?_ | refine And.intro trivial ?_ | exact trivial | exact leX_refl _ | exact rfl | refine frc_mk ?_ | refine weak_fr ?_ ?_ rfl | refine And.intro ?_ ?_ | fail) | refine frc_mk ?_)
  refine V_up (min bs.length 10) (fun i => Fct (i ≤ lead bs)) (fun i => ([(0, .s 1 M), (4, tU (BitVec.ofNat 64 (val (bs.take i)))), (5, tI i)], [])) ⟨Nat.zero_le _⟩ ?_ ?_
  · repeat' (first | ((conv => whnf) <;>
             first | refine Frz.own ?_ | refine Get.mk _ rfl ?_ | refine Get.mk _ (map_geti (by omega)) ?_ | refine Get.mk _ (map_getp (by omega) (by omega)) ?_ | refine Get.mk _ (map_get (by omega)) ?_ | refine Bv2.mk _ _ rfl rfl ?_ | refine Bv1.mk _ rfl ?_ | refine Wr.mk _ (wrap_i64 (by omega) (by omega)) ?_ | refine Wr.mk _ rfl ?_ | refine And.intro len_map ?_ | refine And.intro (leX_refl _) ?_ | refine And.intro rfl ?_ | refine And.intro (leO_some _) ?_ | (refine And.intro (fun h => absurd h (by decide)) (fun h => ?_); clear h) | (refine And.intro (fun h => ?_) (fun h => absurd h (by decide)); clear h) | (with_reducible first | refine sp1 (fun h => ?_) (fun h => ?_) | refine sp2 (fun h => ?_) (fun h => ?_) | refine sp3 (fun h => ?_) (fun h => ?_) | refine sp4 (fun h => ?_) (fun h => ?_) | refine sp5 (fun h => ?_) (fun h => ?_) | refine sp6 (fun h => ?_) (fun h => ?_)) | with_reducible refine And.intro (fun h => ?_) (fun h => ?_) | refine And.intro (Int.natCast_nonneg _) ?_ | refine And.intro (by omega) ?_ | refine And.intro (by decide) ?_ | refine Lst.mk _ rfl ?_ | refine Byt.mk _ rfl ?_ | refine And.intro trivial ?_ | exact trivial | exact leX_refl _ | exact rfl | refine frc_mk ?_ | refine weak_fr ?_ ?_ rfl | refine And.intro ?_ ?_ | fail) | refine frc_mk ?_)
    all_goals trace_state
  · rintro i hi ⟨hI⟩
    refine V_x ?_
    by_cases hlt : i < bs.length ∧ i < 10
    · have hg : M[i]? = some (bytTV (bs[i]'hlt.1)) := by rw [← hM, List.getElem?_map, List.getElem?_eq_getElem hlt.1]; rfl
      have hor := or_shift (val (bs.take i)) i (bs[i]'hlt.1) (by omega) (by have := val_lt (bs.take i); rw [List.length_take, Nat.min_eq_left (by omega)] at this; exact this)
      have hva := val_append (bs.take i) (bs[i]'hlt.1)
      rw [← List.take_succ_eq_append_getElem hlt.1, List.length_take, Nat.min_eq_left (by omega)] at hva
      rw [← hva] at hor
      have e128 : (128#8).toNat = 128 := rfl
      have e1 : (1#8).toNat = 1 := rfl
      by_cases hb : 128 ≤ (bs[i]'hlt.1).toNat
      · have hls := lead_succ bs i hlt.1 hI hb
        generalize bs[i]'hlt.1 = b at *
        repeat' (first | ((conv => whnf) <;>
                 first | refine Frz.own ?_ | refine Get.mk _ rfl ?_ | refine Get.mk _ (map_geti (by omega)) ?_ | refine Get.mk _ (map_getp (by omega) (by omega)) ?_ | refine Get.mk _ (map_get (by omega)) ?_ | refine Bv2.mk _ _ rfl rfl ?_ | refine Bv1.mk _ rfl ?_ | refine Wr.mk _ (wrap_i64 (by omega) (by omega)) ?_ | refine Wr.mk _ rfl ?_ | refine And.intro len_map ?_ | refine And.intro (leX_refl _) ?_ | refine And.intro rfl ?_ | refine And.intro (leO_some _) ?_ | (refine And.intro (fun h => absurd h (by decide)) (fun h => ?_); clear h) | (refine And.intro (fun h => ?_) (fun h => absurd h (by decide)); clear h) | (with_reducible first | refine sp1 (fun h => ?_) (fun h => ?_) | refine sp2 (fun h => ?_) (fun h => ?_) | refine sp3 (fun h => ?_) (fun h => ?_) | refine sp4 (fun h => ?_) (fun h => ?_) | refine sp5 (fun h => ?_) (fun h => ?_) | refine sp6 (fun h => ?_) (fun h => ?_)) | with_reducible refine And.intro (fun h => ?_) (fun h => ?_) | refine And.intro (Int.natCast_nonneg _) ?_ | refine And.intro (by omega) ?_ | refine And.intro (by decide) ?_ | refine Get.mk _ (hg) ?_ | refine Lst.mk _ rfl ?_ | refine Byt.mk _ rfl ?_ | refine And.intro trivial ?_ | exact trivial | exact leX_refl _ | exact rfl | refine frc_mk ?_ | refine weak_fr ?_ ?_ rfl | refine And.intro ?_ ?_ | fail) | refine frc_mk ?_)
        all_goals first
          | (exfalso; omega)
          | exact ⟨hls⟩
          | skip
        all_goals rw [hor]
        all_goals exact leX_refl _
      · have hle := lead_eq bs i hlt.1 hI hb
        have hR : numR bs = if (0 < i ∧ (bs[i]'hlt.1).toNat = 0) ∨ (i = 9 ∧ 1 < (bs[i]'hlt.1).toNat) then (0, 0) else (BitVec.ofNat 64 (val (bs.take (i + 1))), i + 1) := by
          unfold numR
          rw [dif_pos (by rw [hle]; exact ⟨hlt.2, hlt.1⟩)]
          simp only [hle]
        generalize numR bs = R at *
        generalize bs[i]'hlt.1 = b at *
        have hz : (b = 0#8) ↔ b.toNat = 0 := ⟨fun h => by rw [h]; rfl, fun h => BitVec.eq_of_toNat_eq h⟩
        by_cases hc : (0 < i ∧ b.toNat = 0) ∨ (i = 9 ∧ 1 < b.toNat)
        · rw [if_pos hc] at hR
          subst hR
          repeat' (first | ((conv => whnf) <;>
                   first | refine Frz.own ?_ | refine Get.mk _ rfl ?_ | refine Get.mk _ (map_geti (by omega)) ?_ | refine Get.mk _ (map_getp (by omega) (by omega)) ?_ | refine Get.mk _ (map_get (by omega)) ?_ | refine Bv2.mk _ _ rfl rfl ?_ | refine Bv1.mk _ rfl ?_ | refine Wr.mk _ (wrap_i64 (by omega) (by omega)) ?_ | refine Wr.mk _ rfl ?_ | refine And.intro len_map ?_ | refine And.intro (leX_refl _) ?_ | refine And.intro rfl ?_ | refine And.intro (leO_some _) ?_ | (refine And.intro (fun h => absurd h (by decide)) (fun h => ?_); clear h) | (refine And.intro (fun h => ?_) (fun h => absurd h (by decide)); clear h) | (with_reducible first | refine sp1 (fun h => ?_) (fun h => ?_) | refine sp2 (fun h => ?_) (fun h => ?_) | refine sp3 (fun h => ?_) (fun h => ?_) | refine sp4 (fun h => ?_) (fun h => ?_) | refine sp5 (fun h => ?_) (fun h => ?_) | refine sp6 (fun h => ?_) (fun h => ?_)) | with_reducible refine And.intro (fun h => ?_) (fun h => ?_) | refine And.intro (Int.natCast_nonneg _) ?_ | refine And.intro (by omega) ?_ | refine And.intro (by decide) ?_ | refine Get.mk _ (hg) ?_ | refine Lst.mk _ rfl ?_ | refine Byt.mk _ rfl ?_ | refine And.intro trivial ?_ | exact trivial | exact leX_refl _ | exact rfl | refine frc_mk ?_ | refine weak_fr ?_ ?_ rfl | refine And.intro ?_ ?_ | fail) | refine frc_mk ?_)
          all_goals first
            | (exfalso; omega)
            | exact leX_refl _
            | skip
          all_goals (exfalso; simp only [hz, e1] at *; omega)
        · rw [if_neg hc] at hR
          subst hR
          repeat' (first | ((conv => whnf) <;>
                   first | refine Frz.own ?_ | refine Get.mk _ rfl ?_ | refine Get.mk _ (map_geti (by omega)) ?_ | refine Get.mk _ (map_getp (by omega) (by omega)) ?_ | refine Get.mk _ (map_get (by omega)) ?_ | refine Bv2.mk _ _ rfl rfl ?_ | refine Bv1.mk _ rfl ?_ | refine Wr.mk _ (wrap_i64 (by omega) (by omega)) ?_ | refine Wr.mk _ rfl ?_ | refine And.intro len_map ?_ | refine And.intro (leX_refl _) ?_ | refine And.intro rfl ?_ | refine And.intro (leO_some _) ?_ | (refine And.intro (fun h => absurd h (by decide)) (fun h => ?_); clear h) | (refine And.intro (fun h => ?_) (fun h => absurd h (by decide)); clear h) | (with_reducible first | refine sp1 (fun h => ?_) (fun h => ?_) | refine sp2 (fun h => ?_) (fun h => ?_) | refine sp3 (fun h => ?_) (fun h => ?_) | refine sp4 (fun h => ?_) (fun h => ?_) | refine sp5 (fun h => ?_) (fun h => ?_) | refine sp6 (fun h => ?_) (fun h => ?_)) | with_reducible refine And.intro (fun h => ?_) (fun h => ?_) | refine And.intro (Int.natCast_nonneg _) ?_ | refine And.intro (by omega) ?_ | refine And.intro (by decide) ?_ | refine Get.mk _ (hg) ?_ | refine Lst.mk _ rfl ?_ | refine Byt.mk _ rfl ?_ | refine And.intro trivial ?_ | exact trivial | exact leX_refl _ | exact rfl | refine frc_mk ?_ | refine weak_fr ?_ ?_ rfl | refine And.intro ?_ ?_ | fail) | refine frc_mk ?_)
          all_goals first
            | (exfalso; omega)
            | (exfalso; simp only [hz, e1] at *; omega)
            | skip
          all_goals first
            | (rw [hor]; exact leX_refl _)
            | exact leX_refl _
            | trace_state
    · have hR : numR bs = (0, 0) := by
        unfold numR
        rw [dif_neg (by have := lead_le bs; omega)]
      rw [hR]
      repeat' (first | ((conv => whnf) <;>
               first | refine Frz.own ?_ | refine Get.mk _ rfl ?_ | refine Get.mk _ (map_geti (by omega)) ?_ | refine Get.mk _ (map_getp (by omega) (by omega)) ?_ | refine Get.mk _ (map_get (by omega)) ?_ | refine Bv2.mk _ _ rfl rfl ?_ | refine Bv1.mk _ rfl ?_ | refine Wr.mk _ (wrap_i64 (by omega) (by omega)) ?_ | refine Wr.mk _ rfl ?_ | refine And.intro len_map ?_ | refine And.intro (leX_refl _) ?_ | refine And.intro rfl ?_ | refine And.intro (leO_some _) ?_ | (refine And.intro (fun h => absurd h (by decide)) (fun h => ?_); clear h) | (refine And.intro (fun h => ?_) (fun h => absurd h (by decide)); clear h) | (with_reducible first | refine sp1 (fun h => ?_) (fun h => ?_) | refine sp2 (fun h => ?_) (fun h => ?_) | refine sp3 (fun h => ?_) (fun h => ?_) | refine sp4 (fun h => ?_) (fun h => ?_) | refine sp5 (fun h => ?_) (fun h => ?_) | refine sp6 (fun h => ?_) (fun h => ?_)) | with_reducible refine And.intro (fun h => ?_) (fun h => ?_) | refine And.intro (Int.natCast_nonneg _) ?_ | refine And.intro (by omega) ?_ | refine And.intro (by decide) ?_ | refine Lst.mk _ rfl ?_ | refine Byt.mk _ rfl ?_ | refine And.intro trivial ?_ | exact trivial | exact leX_refl _ | exact rfl | refine frc_mk ?_ | refine weak_fr ?_ ?_ rfl | refine And.intro ?_ ?_ | fail) | refine frc_mk ?_)
      all_goals first
        | (exfalso; omega)
        | exact leX_refl _
        | trace_state
end Go.Proofs.YtdbeeenjcjplhaaDoor.Vc
