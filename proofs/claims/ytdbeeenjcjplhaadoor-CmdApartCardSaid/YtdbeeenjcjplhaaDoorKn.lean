/- The reference's decoding. -/
import Derived.Test.YtdbeeenjcjplhaaDoorKl
import Derived.Test.YtdbeeenjcjplhaaDoorKg
namespace Go.Proofs.YtdbeeenjcjplhaaDoor.Vc
open Go Go.RowKit Go.Proofs.Tryd
set_option maxRecDepth 20000
set_option linter.unusedSimpArgs false
set_option linter.unusedVariables false
theorem s76 (l : List (BitVec 8)) (hl : l.length ≤ 1000000) : Spec prog 76 [.s 1 (l.map bytTV)] [] (tU (BitVec.ofNat 64 (val l))) [] := by
  have hlm : (l.map bytTV).length = l.length := List.length_map _
  have hd0 : val (l.drop l.length) = 0 := by rw [List.drop_length]; rfl
  have hget : ∀ i, (hi : i < l.length) → (l.map bytTV)[i]? = some (bytTV l[i]) := fun i h => by rw [List.getElem?_map, List.getElem?_eq_getElem h]; rfl
  generalize hM : l.map bytTV = M at *
  refine spec_s is76 mixed rfl (V_x ?_)
  repeat' (first | ((conv => whnf) <;>
           first | refine Frz.own ?_ | refine Get.mk _ rfl ?_ | refine Get.mk _ (map_geti (by omega)) ?_ | refine Get.mk _ (map_getp (by omega) (by omega)) ?_ | refine Get.mk _ (map_get (by omega)) ?_ | refine Bv2.mk _ _ rfl rfl ?_ | refine Bv1.mk _ rfl ?_ | refine Wr.mk _ (wrap_i64 (by omega) (by omega)) ?_ | refine Wr.mk _ rfl ?_ | refine And.intro len_map ?_ | refine And.intro (leX_refl _) ?_ | refine And.intro rfl ?_ | refine And.intro (leO_some _) ?_ | (refine And.intro (fun h => absurd h (by decide)) (fun h => ?_); clear h) | (refine And.intro (fun h => ?_) (fun h => absurd h (by decide)); clear h) | (with_reducible first | refine sp1 (fun h => ?_) (fun h => ?_) | refine sp2 (fun h => ?_) (fun h => ?_) | refine sp3 (fun h => ?_) (fun h => ?_) | refine sp4 (fun h => ?_) (fun h => ?_) | refine sp5 (fun h => ?_) (fun h => ?_) | refine sp6 (fun h => ?_) (fun h => ?_)) | with_reducible refine And.intro (fun h => ?_) (fun h => ?_) | refine And.intro (Int.natCast_nonneg _) ?_ | refine And.intro (by omega) ?_ | refine And.intro (by decide) ?_ | refine Lst.mk _ rfl ?_ | refine Byt.mk _ rfl ?_ | refine And.intro trivial ?_ | exact trivial | exact leX_refl _ | exact rfl | refine frc_mk ?_ | refine weak_fr ?_ ?_ rfl | refine And.intro ?_ ?_ | fail) | refine frc_mk ?_)
  refine V_up l.length (fun i => i ≤ l.length) (fun i => ([(0, .s 1 M), (3, tU (BitVec.ofNat 64 (val (l.drop (l.length - i))))), (4, tI ((l.length : Int) - i - 1))], [])) (Nat.zero_le _) ?_ ?_
  · rw [Nat.sub_zero, hd0]
    repeat' (first | ((conv => whnf) <;>
             first | refine Frz.own ?_ | refine Get.mk _ rfl ?_ | refine Get.mk _ (map_geti (by omega)) ?_ | refine Get.mk _ (map_getp (by omega) (by omega)) ?_ | refine Get.mk _ (map_get (by omega)) ?_ | refine Bv2.mk _ _ rfl rfl ?_ | refine Bv1.mk _ rfl ?_ | refine Wr.mk _ (wrap_i64 (by omega) (by omega)) ?_ | refine Wr.mk _ rfl ?_ | refine And.intro len_map ?_ | refine And.intro (leX_refl _) ?_ | refine And.intro rfl ?_ | refine And.intro (leO_some _) ?_ | (refine And.intro (fun h => absurd h (by decide)) (fun h => ?_); clear h) | (refine And.intro (fun h => ?_) (fun h => absurd h (by decide)); clear h) | (with_reducible first | refine sp1 (fun h => ?_) (fun h => ?_) | refine sp2 (fun h => ?_) (fun h => ?_) | refine sp3 (fun h => ?_) (fun h => ?_) | refine sp4 (fun h => ?_) (fun h => ?_) | refine sp5 (fun h => ?_) (fun h => ?_) | refine sp6 (fun h => ?_) (fun h => ?_)) | with_reducible refine And.intro (fun h => ?_) (fun h => ?_) | refine And.intro (Int.natCast_nonneg _) ?_ | refine And.intro (by omega) ?_ | refine And.intro (by decide) ?_ | refine Lst.mk _ rfl ?_ | refine Byt.mk _ rfl ?_ | refine And.intro trivial ?_ | exact trivial | exact leX_refl _ | exact rfl | refine frc_mk ?_ | refine weak_fr ?_ ?_ rfl | refine And.intro ?_ ?_ | fail) | refine frc_mk ?_)
    all_goals first
      | (refine leI ?_; omega)
      | trace_state
  · intro i hi _
    refine V_x ?_
    by_cases hlt : i < l.length
    · have hg : M[((l.length : Int) - i - 1).toNat]? = some (bytTV l[l.length - (i + 1)]) := by
        rw [show ((l.length : Int) - i - 1).toNat = l.length - (i + 1) by omega]; exact hget _ (by omega)
      have hv : BitVec.ofNat 64 (val (l.drop (l.length - (i + 1)))) = 128#64 * BitVec.ofNat 64 (val (l.drop (l.length - i))) + (l[l.length - (i + 1)] % 128#8).setWidth 64 := by
        rw [List.drop_eq_getElem_cons (show l.length - (i + 1) < l.length by omega), show l.length - (i + 1) + 1 = l.length - i by omega]
        simp only [val]
        apply BitVec.eq_of_toNat_eq
        simp only [BitVec.toNat_add, BitVec.toNat_mul, BitVec.toNat_ofNat, BitVec.toNat_setWidth, BitVec.toNat_umod]
        have e1 : (128 : Nat) % 2 ^ 8 = 128 := rfl
        have e2 : (128 : Nat) % 2 ^ 64 = 128 := rfl
        simp only [e1, e2]
        generalize val (List.drop (l.length - i) l) = V
        generalize (l[l.length - (i + 1)]).toNat = B
        clear hget hg hd0 hM hlm hi hlt hl
        omega
      rw [hv]
      repeat' (first | ((conv => whnf) <;>
               first | refine Frz.own ?_ | refine Get.mk _ rfl ?_ | refine Get.mk _ (map_geti (by omega)) ?_ | refine Get.mk _ (map_getp (by omega) (by omega)) ?_ | refine Get.mk _ (map_get (by omega)) ?_ | refine Bv2.mk _ _ rfl rfl ?_ | refine Bv1.mk _ rfl ?_ | refine Wr.mk _ (wrap_i64 (by omega) (by omega)) ?_ | refine Wr.mk _ rfl ?_ | refine And.intro len_map ?_ | refine And.intro (leX_refl _) ?_ | refine And.intro rfl ?_ | refine And.intro (leO_some _) ?_ | (refine And.intro (fun h => absurd h (by decide)) (fun h => ?_); clear h) | (refine And.intro (fun h => ?_) (fun h => absurd h (by decide)); clear h) | (with_reducible first | refine sp1 (fun h => ?_) (fun h => ?_) | refine sp2 (fun h => ?_) (fun h => ?_) | refine sp3 (fun h => ?_) (fun h => ?_) | refine sp4 (fun h => ?_) (fun h => ?_) | refine sp5 (fun h => ?_) (fun h => ?_) | refine sp6 (fun h => ?_) (fun h => ?_)) | with_reducible refine And.intro (fun h => ?_) (fun h => ?_) | refine And.intro (Int.natCast_nonneg _) ?_ | refine And.intro (by omega) ?_ | refine And.intro (by decide) ?_ | refine Get.mk _ (hg) ?_ | refine Lst.mk _ rfl ?_ | refine Byt.mk _ rfl ?_ | refine And.intro trivial ?_ | exact trivial | exact leX_refl _ | exact rfl | refine frc_mk ?_ | refine weak_fr ?_ ?_ rfl | refine And.intro ?_ ?_ | fail) | refine frc_mk ?_)
      all_goals first
        | (exfalso; omega)
        | exact leX_refl _
        | (refine leI ?_; push_cast; omega)
        | trace_state
    · obtain rfl : i = l.length := by omega
      rw [Nat.sub_self, List.drop_zero]
      repeat' (first | ((conv => whnf) <;>
               first | refine Frz.own ?_ | refine Get.mk _ rfl ?_ | refine Get.mk _ (map_geti (by omega)) ?_ | refine Get.mk _ (map_getp (by omega) (by omega)) ?_ | refine Get.mk _ (map_get (by omega)) ?_ | refine Bv2.mk _ _ rfl rfl ?_ | refine Bv1.mk _ rfl ?_ | refine Wr.mk _ (wrap_i64 (by omega) (by omega)) ?_ | refine Wr.mk _ rfl ?_ | refine And.intro len_map ?_ | refine And.intro (leX_refl _) ?_ | refine And.intro rfl ?_ | refine And.intro (leO_some _) ?_ | (refine And.intro (fun h => absurd h (by decide)) (fun h => ?_); clear h) | (refine And.intro (fun h => ?_) (fun h => absurd h (by decide)); clear h) | (with_reducible first | refine sp1 (fun h => ?_) (fun h => ?_) | refine sp2 (fun h => ?_) (fun h => ?_) | refine sp3 (fun h => ?_) (fun h => ?_) | refine sp4 (fun h => ?_) (fun h => ?_) | refine sp5 (fun h => ?_) (fun h => ?_) | refine sp6 (fun h => ?_) (fun h => ?_)) | with_reducible refine And.intro (fun h => ?_) (fun h => ?_) | refine And.intro (Int.natCast_nonneg _) ?_ | refine And.intro (by omega) ?_ | refine And.intro (by decide) ?_ | refine Lst.mk _ rfl ?_ | refine Byt.mk _ rfl ?_ | refine And.intro trivial ?_ | exact trivial | exact leX_refl _ | exact rfl | refine frc_mk ?_ | refine weak_fr ?_ ?_ rfl | refine And.intro ?_ ?_ | fail) | refine frc_mk ?_)
      all_goals first
        | (exfalso; omega)
        | exact leX_refl _
        | trace_state
/-- Numbers as bytes, and back. -/
theorem val_numN (n : Nat) : val (numN n) = n := by
  induction n using Nat.strongRecOn with
  | _ n ih =>
    by_cases h : n < 128
    · rw [numN_small h]
      simp only [val, BitVec.toNat_ofNat]
      omega
    · rw [numN_big h]
      simp only [val, ih (n / 128) (by omega), BitVec.toNat_ofNat]
      omega
theorem numN_len_le (n : Nat) : 1 < (numN n).length → 128 ^ ((numN n).length - 1) ≤ n := by
  induction n using Nat.strongRecOn with
  | _ n ih =>
    by_cases h : n < 128
    · rw [numN_small h]; simp
    · intro _
      rw [numN_big h]
      simp only [List.length_cons, Nat.add_sub_cancel]
      by_cases h1 : 1 < (numN (n / 128)).length
      · have := ih (n / 128) (by omega) h1
        have h2 : (numN (n / 128)).length = (numN (n / 128)).length - 1 + 1 := by omega
        rw [h2, Nat.pow_succ]
        omega
      · have := numN_pos (n / 128)
        rw [show (numN (n / 128)).length = 1 by omega]
        omega
/-- A number's bytes are those that it reads from, where they are as they should be. -/
theorem numN_val : ∀ (q : List (BitVec 8)) (b : BitVec 8), (∀ x ∈ q, 128 ≤ x.toNat) → b.toNat < 128 → (q ≠ [] → b.toNat ≠ 0) → numN (val (q ++ [b])) = q ++ [b]
  | [], b, _, hb, _ => by
    have : val ([] ++ [b]) = b.toNat := by simp [val]; omega
    rw [this, numN_small hb]; simp
  | x :: q, b, hq, hb, h0 => by
    have hx := hq x List.mem_cons_self
    have hxl := x.isLt
    have hbn := h0 (by simp)
    have hpos : 0 < val (q ++ [b]) := by
      rw [val_append]
      have h1 : 0 < 128 ^ q.length := Nat.pow_pos (by omega)
      have h2 : 0 < b.toNat % 128 := by omega
      have := Nat.mul_pos h2 h1
      omega
    have hv : val (x :: q ++ [b]) = x.toNat % 128 + 128 * val (q ++ [b]) := rfl
    rw [hv, numN_big (by omega)]
    rw [show (x.toNat % 128 + 128 * val (q ++ [b])) / 128 = val (q ++ [b]) by omega, numN_val q b (fun y hy => hq y (List.mem_cons_of_mem _ hy)) hb (fun _ => hbn)]
    rw [show 128 + (x.toNat % 128 + 128 * val (q ++ [b])) % 128 = x.toNat by omega]
    simp
theorem lead_all : ∀ (l : List (BitVec 8)) (i : Nat) (h : i < l.length), i < lead l → 128 ≤ (l[i]).toNat
  | b :: l, 0, _, h => by
    simp only [lead] at h
    split at h
    · simpa
    · omega
  | b :: l, i + 1, h, hi => by
    simp only [lead] at hi
    split at hi
    · have := lead_all l i (by simpa using h) (by omega)
      simpa using this
    · omega
theorem lead_end : ∀ (l : List (BitVec 8)) (h : lead l < l.length), (l[lead l]).toNat < 128
  | [], h => by simp at h
  | b :: l, h => by
    by_cases hb : 128 ≤ b.toNat
    · have e : lead (b :: l) = lead l + 1 := by simp only [lead]; rw [if_pos hb]
      have := lead_end l (by rw [e] at h; simpa using h)
      simp only [e, List.getElem_cons_succ]
      exact this
    · have e : lead (b :: l) = 0 := by simp only [lead]; rw [if_neg hb]
      simp only [e, List.getElem_cons_zero]
      omega
/-- What the reference reads: the same. -/
theorem numR_canon (bs : List (BitVec 8)) (h : lead bs < 10 ∧ lead bs < bs.length) :
    (numN (val (bs.take (lead bs + 1)) % 2 ^ 64) = bs.take (lead bs + 1)) ↔ ¬ ((0 < lead bs ∧ (bs[lead bs]'h.2).toNat = 0) ∨ (lead bs = 9 ∧ 1 < (bs[lead bs]'h.2).toNat)) := by
  have hb := lead_end bs h.2
  have hall : ∀ x ∈ bs.take (lead bs), 128 ≤ x.toNat := by
    intro x hx
    obtain ⟨j, hj⟩ := List.mem_iff_getElem?.1 hx
    have hjl := (List.getElem?_eq_some_iff.1 hj).1
    rw [List.length_take] at hjl
    rw [List.getElem?_take, if_pos (by omega), List.getElem?_eq_getElem (by omega)] at hj
    rw [← Option.some.inj hj]
    exact lead_all bs j (by omega) (by omega)
  have htk : bs.take (lead bs + 1) = bs.take (lead bs) ++ [bs[lead bs]'h.2] := List.take_succ_eq_append_getElem h.2
  have hlen : (bs.take (lead bs)).length = lead bs := by rw [List.length_take]; omega
  have hva := val_append (bs.take (lead bs)) (bs[lead bs]'h.2)
  have hvl := val_lt (bs.take (lead bs))
  rw [hlen] at hva hvl
  rw [htk]
  have hnv := numN_val (bs.take (lead bs)) (bs[lead bs]'h.2) hall hb
  generalize bs[lead bs]'h.2 = b at *
  generalize bs.take (lead bs) = q at *
  have hqe : q = [] ↔ lead bs = 0 := by rw [← hlen]; simp
  have hk := h.1
  generalize lead bs = k at *
  have hbm : b.toNat % 128 = b.toNat := Nat.mod_eq_of_lt hb
  rw [hbm] at hva
  constructor
  · rintro he (⟨h1, h2⟩ | ⟨h1, h2⟩)
    · have h3 := numN_len_le (val (q ++ [b]) % 2 ^ 64) (by rw [he]; simp [hlen]; omega)
      rw [he] at h3
      simp only [List.length_append, List.length_singleton, Nat.add_sub_cancel, hlen] at h3
      rw [hva, h2, Nat.zero_mul, Nat.add_zero] at h3
      have := Nat.mod_le (val q) (2 ^ 64)
      omega
    · have h3 := val_numN (val (q ++ [b]) % 2 ^ 64)
      rw [he, hva, h1] at h3
      have h4 : 128 ^ 9 * 2 = (2 : Nat) ^ 64 := by decide
      have h5 : 2 * 128 ^ 9 ≤ b.toNat * 128 ^ 9 := Nat.mul_le_mul_right _ (by omega)
      have h6 := Nat.mod_lt (val q + b.toNat * 128 ^ 9) (show 0 < 2 ^ 64 by decide)
      omega
  · intro hn
    have h1 : q ≠ [] → b.toNat ≠ 0 := fun h hb => hn (.inl ⟨by have := mt hqe.2 h; omega, hb⟩)
    have h2 : val (q ++ [b]) < 2 ^ 64 := by
      rw [hva]
      by_cases hk9 : k = 9
      · subst hk9
        have h3 : b.toNat ≤ 1 := Nat.le_of_not_lt fun h => hn (.inr ⟨rfl, h⟩)
        have h4 : b.toNat * 128 ^ 9 ≤ 1 * 128 ^ 9 := Nat.mul_le_mul_right _ h3
        have h5 : 128 ^ 9 * 2 = (2 : Nat) ^ 64 := by decide
        omega
      · have h3 : b.toNat * 128 ^ k ≤ 127 * 128 ^ k := Nat.mul_le_mul_right _ (by omega)
        have h4 : (128 : Nat) ^ k ≤ 128 ^ 8 := Nat.pow_le_pow_right (by omega) (by omega)
        have h5 : (128 : Nat) ^ 8 * 128 * 2 = 2 ^ 64 := by decide
        omega
    rw [Nat.mod_eq_of_lt h2]
    exact hnv h1
end Go.Proofs.YtdbeeenjcjplhaaDoor.Vc

namespace Go.Proofs.YtdbeeenjcjplhaaDoor.Vc
open Go Go.RowKit Go.Proofs.Tryd
set_option maxRecDepth 20000
set_option maxHeartbeats 8000000 in
theorem s62 (r : Rd) (hl : r.bs.length ≤ 1000000) : Spec prog 62 [.a r.cs, tU 2147483647#64] [] (.t [.a (rdNum r).2.cs, tU (rdNum r).1]) [] := by
  obtain ⟨bs, e⟩ := r
  dsimp only [Rd.cs] at *
  have h753 := s75 3
  have h755 := s75 5
  have hlm : (bs.map bytTV).length = bs.length := List.length_map _
  have hget : ∀ i, (hi : i < bs.length) → (bs.map bytTV)[i]? = some (bytTV bs[i]) := fun i h => by rw [List.getElem?_map, List.getElem?_eq_getElem h]; rfl
  have hM : (2147483647#64).toNat = 2147483647 := rfl
  have e128 : (128#8).toNat = 128 := rfl
  have hll := lead_le bs
  by_cases he : e ≠ 0
  · have hr : rdNum ⟨bs, e⟩ = (0, ⟨bs, e⟩) := by unfold rdNum; rw [if_pos he]
    rw [hr]
    refine spec_s is62 mixed rfl (V_x ?_)
    dsimp only
    repeat' (first | ((conv => whnf) <;>
             first | refine Frz.own ?_ | refine Get.mk _ rfl ?_ | refine Get.mk _ (map_geti (by omega)) ?_ | refine Get.mk _ (map_getp (by omega) (by omega)) ?_ | refine Get.mk _ (map_get (by omega)) ?_ | refine Bv2.mk _ _ rfl rfl ?_ | refine Bv1.mk _ rfl ?_ | refine Wr.mk _ (wrap_i64 (by omega) (by omega)) ?_ | refine Wr.mk _ rfl ?_ | refine And.intro len_map ?_ | refine And.intro (leX_refl _) ?_ | refine And.intro rfl ?_ | refine And.intro (leO_some _) ?_ | (refine And.intro (fun h => absurd h (by decide)) (fun h => ?_); clear h) | (refine And.intro (fun h => ?_) (fun h => absurd h (by decide)); clear h) | (with_reducible first | refine sp1 (fun h => ?_) (fun h => ?_) | refine sp2 (fun h => ?_) (fun h => ?_) | refine sp3 (fun h => ?_) (fun h => ?_) | refine sp4 (fun h => ?_) (fun h => ?_) | refine sp5 (fun h => ?_) (fun h => ?_) | refine sp6 (fun h => ?_) (fun h => ?_)) | with_reducible refine And.intro (fun h => ?_) (fun h => ?_) | refine And.intro (Int.natCast_nonneg _) ?_ | refine And.intro (by omega) ?_ | refine And.intro (by decide) ?_ | refine Lst.mk _ rfl ?_ | refine Byt.mk _ rfl ?_ | refine And.intro trivial ?_ | exact trivial | exact leX_refl _ | exact rfl | refine frc_mk ?_ | refine weak_fr ?_ ?_ rfl | refine And.intro ?_ ?_ | fail) | refine frc_mk ?_)
    all_goals first
      | contradiction
      | exact leX_refl _
      | trace_state
  have he : e = 0 := Decidable.not_not.1 he
  subst he
  have hrd : ∀ R, rdNum ⟨bs, 0⟩ = R → (if (numR bs).2 = 0 then (0, Rd.mk [] 3) else if 2147483647 < (numR bs).1.toNat then (0, ⟨[], 5⟩) else ((numR bs).1, ⟨bs.drop (numR bs).2, 0⟩)) = R := fun R h => by
    rw [← h]; unfold rdNum; exact (if_neg (show ¬ (Rd.mk bs 0).err ≠ 0 from fun h => h rfl)).symm
  have hrd := hrd _ rfl
  have hdr : ∀ k, (bs.map bytTV).drop k = (bs.drop k).map bytTV := fun k => by rw [List.map_drop]
  have h76 : ∀ k, k < bs.length → Spec prog 76 [.s 1 (((bs.map bytTV).take ((k : Int) + 1).toNat).drop 0)] [] (tU (BitVec.ofNat 64 (val (bs.take (k + 1))))) [] := fun k hk => by
    rw [List.drop_zero, show ((k : Int) + 1).toNat = k + 1 by omega, ← List.map_take]
    exact s76 _ (by rw [List.length_take]; omega)
  have h56 : ∀ k, Spec prog 56 [tU (BitVec.ofNat 64 (val (bs.take (k + 1))))] [] (.s 1 ((numN (val (bs.take (k + 1)) % 2 ^ 64)).map bytTV)) [] := fun k => s56 _ _ (by rw [BitVec.toNat_ofNat])
  have h77 : ∀ k, k < bs.length → Spec prog 77 [.s 1 ((numN (val (bs.take (k + 1)) % 2 ^ 64)).map bytTV), .s 1 (((bs.map bytTV).take ((k : Int) + 1).toNat).drop 0)] [] (tB (decide (numN (val (bs.take (k + 1)) % 2 ^ 64) = bs.take (k + 1)))) [] := fun k hk => by
    rw [List.drop_zero, show ((k : Int) + 1).toNat = k + 1 by omega, ← List.map_take]
    have h := s77 (numN (val (bs.take (k + 1)) % 2 ^ 64)) (bs.take (k + 1))
    have e : ((strB (numN (val (bs.take (k + 1)) % 2 ^ 64))).toList == (strB (bs.take (k + 1))).toList) = decide (numN (val (bs.take (k + 1)) % 2 ^ 64) = bs.take (k + 1)) := by
      by_cases h : numN (val (bs.take (k + 1)) % 2 ^ 64) = bs.take (k + 1)
      · rw [h]; simp
      · rw [decide_eq_false h, beq_eq_false_iff_ne]
        exact fun h' => h (strB_inj h')
    rw [e] at h; exact h
  refine spec_s is62 mixed rfl (V_x ?_)
  generalize rdNum ⟨bs, 0⟩ = R at *
  subst hrd
  generalize hMM : bs.map bytTV = M at *
  repeat' (first | ((conv => whnf) <;>
           first | refine Frz.own ?_ | refine Get.mk _ rfl ?_ | refine Get.mk _ (map_geti (by omega)) ?_ | refine Get.mk _ (map_getp (by omega) (by omega)) ?_ | refine Get.mk _ (map_get (by omega)) ?_ | refine Bv2.mk _ _ rfl rfl ?_ | refine Bv1.mk _ rfl ?_ | refine Wr.mk _ (wrap_i64 (by omega) (by omega)) ?_ | refine Wr.mk _ rfl ?_ | refine And.intro len_map ?_ | refine And.intro (leX_refl _) ?_ | refine And.intro rfl ?_ | refine And.intro (leO_some _) ?_ | (refine And.intro (fun h => absurd h (by decide)) (fun h => ?_); clear h) | (refine And.intro (fun h => ?_) (fun h => absurd h (by decide)); clear h) | (with_reducible first | refine sp1 (fun h => ?_) (fun h => ?_) | refine sp2 (fun h => ?_) (fun h => ?_) | refine sp3 (fun h => ?_) (fun h => ?_) | refine sp4 (fun h => ?_) (fun h => ?_) | refine sp5 (fun h => ?_) (fun h => ?_) | refine sp6 (fun h => ?_) (fun h => ?_)) | with_reducible refine And.intro (fun h => ?_) (fun h => ?_) | refine And.intro (Int.natCast_nonneg _) ?_ | refine And.intro (by omega) ?_ | refine And.intro (by decide) ?_ | refine Lst.mk _ rfl ?_ | refine Byt.mk _ rfl ?_ | refine And.intro trivial ?_ | exact trivial | exact leX_refl _ | exact rfl | refine frc_mk ?_ | refine weak_fr ?_ ?_ rfl | refine And.intro ?_ ?_ | fail) | refine frc_mk ?_)
  all_goals first
    | contradiction
    | skip
  refine V_up (min bs.length 10) (fun i => Fct (i ≤ lead bs)) (fun i => ([(1, tU 2147483647#64), (2, .p 48 0 0), (4, .p 80 0 0), (6, tI i)], [(48, .var 114 (.a [.s 1 M, tI 0])), (80, .var 114 (.a [.v vnil, tI 0]))])) ⟨Nat.zero_le _⟩ ?_ ?_
  · repeat' (first | ((conv => whnf) <;>
             first | refine Frz.own ?_ | refine Get.mk _ rfl ?_ | refine Get.mk _ (map_geti (by omega)) ?_ | refine Get.mk _ (map_getp (by omega) (by omega)) ?_ | refine Get.mk _ (map_get (by omega)) ?_ | refine Bv2.mk _ _ rfl rfl ?_ | refine Bv1.mk _ rfl ?_ | refine Wr.mk _ (wrap_i64 (by omega) (by omega)) ?_ | refine Wr.mk _ rfl ?_ | refine And.intro len_map ?_ | refine And.intro (leX_refl _) ?_ | refine And.intro rfl ?_ | refine And.intro (leO_some _) ?_ | (refine And.intro (fun h => absurd h (by decide)) (fun h => ?_); clear h) | (refine And.intro (fun h => ?_) (fun h => absurd h (by decide)); clear h) | (with_reducible first | refine sp1 (fun h => ?_) (fun h => ?_) | refine sp2 (fun h => ?_) (fun h => ?_) | refine sp3 (fun h => ?_) (fun h => ?_) | refine sp4 (fun h => ?_) (fun h => ?_) | refine sp5 (fun h => ?_) (fun h => ?_) | refine sp6 (fun h => ?_) (fun h => ?_)) | with_reducible refine And.intro (fun h => ?_) (fun h => ?_) | refine And.intro (Int.natCast_nonneg _) ?_ | refine And.intro (by omega) ?_ | refine And.intro (by decide) ?_ | refine Lst.mk _ rfl ?_ | refine Byt.mk _ rfl ?_ | refine And.intro trivial ?_ | exact trivial | exact leX_refl _ | exact rfl | refine frc_mk ?_ | refine weak_fr ?_ ?_ rfl | refine And.intro ?_ ?_ | fail) | refine frc_mk ?_)
    all_goals trace_state
  · rintro i hi ⟨hI⟩
    refine V_x ?_
    by_cases hlt : i < bs.length ∧ i < 10
    · have hg := hget i hlt.1
      by_cases hb : 128 ≤ (bs[i]'hlt.1).toNat
      · have hls := lead_succ bs i hlt.1 hI hb
        generalize bs[i]'hlt.1 = b at *
        clear h76 h56 h77 h753 h755
        repeat' (first | ((conv => whnf) <;>
                 first | refine Frz.own ?_ | refine Get.mk _ rfl ?_ | refine Get.mk _ (map_geti (by omega)) ?_ | refine Get.mk _ (map_getp (by omega) (by omega)) ?_ | refine Get.mk _ (map_get (by omega)) ?_ | refine Bv2.mk _ _ rfl rfl ?_ | refine Bv1.mk _ rfl ?_ | refine Wr.mk _ (wrap_i64 (by omega) (by omega)) ?_ | refine Wr.mk _ rfl ?_ | refine And.intro len_map ?_ | refine And.intro (leX_refl _) ?_ | refine And.intro rfl ?_ | refine And.intro (leO_some _) ?_ | (refine And.intro (fun h => absurd h (by decide)) (fun h => ?_); clear h) | (refine And.intro (fun h => ?_) (fun h => absurd h (by decide)); clear h) | (with_reducible first | refine sp1 (fun h => ?_) (fun h => ?_) | refine sp2 (fun h => ?_) (fun h => ?_) | refine sp3 (fun h => ?_) (fun h => ?_) | refine sp4 (fun h => ?_) (fun h => ?_) | refine sp5 (fun h => ?_) (fun h => ?_) | refine sp6 (fun h => ?_) (fun h => ?_)) | with_reducible refine And.intro (fun h => ?_) (fun h => ?_) | refine And.intro (Int.natCast_nonneg _) ?_ | refine And.intro (by omega) ?_ | refine And.intro (by decide) ?_ | refine Get.mk _ (hg) ?_ | refine Lst.mk _ rfl ?_ | refine Byt.mk _ rfl ?_ | refine And.intro trivial ?_ | exact trivial | exact leX_refl _ | exact rfl | refine frc_mk ?_ | refine weak_fr ?_ ?_ rfl | refine And.intro ?_ ?_ | fail) | refine frc_mk ?_)
        all_goals first
          | (exfalso; omega)
          | exact ⟨hls⟩
          | exact leX_refl _
          | trace_state
      · have hle := lead_eq bs i hlt.1 hI hb
        have hcn := numR_canon bs (by rw [hle]; exact ⟨hlt.2, hlt.1⟩)
        have hR : numR bs = if (0 < i ∧ (bs[i]'hlt.1).toNat = 0) ∨ (i = 9 ∧ 1 < (bs[i]'hlt.1).toNat) then (0, 0) else (BitVec.ofNat 64 (val (bs.take (i + 1))), i + 1) := by
          unfold numR
          rw [dif_pos (by rw [hle]; exact ⟨hlt.2, hlt.1⟩)]
          simp only [hle]
        simp only [hle] at hcn
        have h76 := h76 i hlt.1
        have h56 := h56 i
        have h77 := h77 i hlt.1
        have hdr := hdr (i + 1)
        by_cases hc : (0 < i ∧ (bs[i]'hlt.1).toNat = 0) ∨ (i = 9 ∧ 1 < (bs[i]'hlt.1).toNat)
        · rw [if_pos hc] at hR
          rw [decide_eq_false (fun h => (hcn.1 h) hc)] at h77
          rw [hR]
          generalize bs[i]'hlt.1 = b at *
          generalize val (bs.take (i + 1)) = v at *
          repeat' (first | ((conv => whnf) <;>
                   first | refine Frz.own ?_ | refine Get.mk _ rfl ?_ | refine Get.mk _ (map_geti (by omega)) ?_ | refine Get.mk _ (map_getp (by omega) (by omega)) ?_ | refine Get.mk _ (map_get (by omega)) ?_ | refine Bv2.mk _ _ rfl rfl ?_ | refine Bv1.mk _ rfl ?_ | refine Wr.mk _ (wrap_i64 (by omega) (by omega)) ?_ | refine Wr.mk _ rfl ?_ | refine And.intro len_map ?_ | refine And.intro (leX_refl _) ?_ | refine And.intro rfl ?_ | refine And.intro (leO_some _) ?_ | (refine And.intro (fun h => absurd h (by decide)) (fun h => ?_); clear h) | (refine And.intro (fun h => ?_) (fun h => absurd h (by decide)); clear h) | (with_reducible first | refine sp1 (fun h => ?_) (fun h => ?_) | refine sp2 (fun h => ?_) (fun h => ?_) | refine sp3 (fun h => ?_) (fun h => ?_) | refine sp4 (fun h => ?_) (fun h => ?_) | refine sp5 (fun h => ?_) (fun h => ?_) | refine sp6 (fun h => ?_) (fun h => ?_)) | with_reducible refine And.intro (fun h => ?_) (fun h => ?_) | refine And.intro (Int.natCast_nonneg _) ?_ | refine And.intro (by omega) ?_ | refine And.intro (by decide) ?_ | refine Get.mk _ (hg) ?_ | refine Lst.mk _ rfl ?_ | refine Byt.mk _ rfl ?_ | refine Or.inr (Or.inl ⟨_, _, h76, leL_refl _, rfl, rfl, ?_⟩) | refine Or.inr (Or.inl ⟨_, _, h56, leL_refl _, rfl, rfl, ?_⟩) | refine Or.inr (Or.inl ⟨_, _, h77, leL_refl _, rfl, rfl, ?_⟩) | refine Or.inr (Or.inl ⟨_, _, h753, leL_refl _, rfl, rfl, ?_⟩) | refine And.intro trivial ?_ | exact trivial | exact leX_refl _ | exact rfl | refine frc_mk ?_ | refine weak_fr ?_ ?_ rfl | refine And.intro ?_ ?_ | fail) | refine frc_mk ?_)
          all_goals first
            | contradiction
            | (exfalso; omega)
            | omega
            | exact leX_refl _
            | trace_state
        · rw [if_neg hc] at hR
          rw [decide_eq_true (hcn.2 hc)] at h77
          rw [hR]
          dsimp only
          rw [if_neg (by omega)]
          have hvn : (BitVec.ofNat 64 (val (bs.take (i + 1)))).toNat = (BitVec.ofNat 64 (val (bs.take (i + 1)))).toNat := rfl
          generalize bs[i]'hlt.1 = b at *
          generalize numN (val (bs.take (i + 1)) % 2 ^ 64) = Q at *
          generalize BitVec.ofNat 64 (val (bs.take (i + 1))) = v at *
          by_cases h1 : 2147483647 < v.toNat
          · rw [if_pos h1]
            repeat' (first | ((conv => whnf) <;>
                     first | refine Frz.own ?_ | refine Get.mk _ rfl ?_ | refine Get.mk _ (map_geti (by omega)) ?_ | refine Get.mk _ (map_getp (by omega) (by omega)) ?_ | refine Get.mk _ (map_get (by omega)) ?_ | refine Bv2.mk _ _ rfl rfl ?_ | refine Bv1.mk _ rfl ?_ | refine Wr.mk _ (wrap_i64 (by omega) (by omega)) ?_ | refine Wr.mk _ rfl ?_ | refine And.intro len_map ?_ | refine And.intro (leX_refl _) ?_ | refine And.intro rfl ?_ | refine And.intro (leO_some _) ?_ | (refine And.intro (fun h => absurd h (by decide)) (fun h => ?_); clear h) | (refine And.intro (fun h => ?_) (fun h => absurd h (by decide)); clear h) | (with_reducible first | refine sp1 (fun h => ?_) (fun h => ?_) | refine sp2 (fun h => ?_) (fun h => ?_) | refine sp3 (fun h => ?_) (fun h => ?_) | refine sp4 (fun h => ?_) (fun h => ?_) | refine sp5 (fun h => ?_) (fun h => ?_) | refine sp6 (fun h => ?_) (fun h => ?_)) | with_reducible refine And.intro (fun h => ?_) (fun h => ?_) | refine And.intro (Int.natCast_nonneg _) ?_ | refine And.intro (by omega) ?_ | refine And.intro (by decide) ?_ | refine Get.mk _ (hg) ?_ | refine Lst.mk _ rfl ?_ | refine Byt.mk _ rfl ?_ | refine Or.inr (Or.inl ⟨_, _, h76, leL_refl _, rfl, rfl, ?_⟩) | refine Or.inr (Or.inl ⟨_, _, h56, leL_refl _, rfl, rfl, ?_⟩) | refine Or.inr (Or.inl ⟨_, _, h77, leL_refl _, rfl, rfl, ?_⟩) | refine Or.inr (Or.inl ⟨_, _, h755, leL_refl _, rfl, rfl, ?_⟩) | refine And.intro trivial ?_ | exact trivial | exact leX_refl _ | exact rfl | refine frc_mk ?_ | refine weak_fr ?_ ?_ rfl | refine And.intro ?_ ?_ | fail) | refine frc_mk ?_)
            all_goals first
              | contradiction
              | (exfalso; omega)
              | omega
              | exact leX_refl _
              | trace_state
          · rw [if_neg h1]
            have hcut : (M.take M.length).drop (((i : Int) + 1)).toNat = (bs.drop (i + 1)).map bytTV := by rw [List.take_length, show ((i : Int) + 1).toNat = i + 1 by omega, hdr]
            dsimp only
            rw [← hcut]
            repeat' (first | ((conv => whnf) <;>
                     first | refine Frz.own ?_ | refine Get.mk _ rfl ?_ | refine Get.mk _ (map_geti (by omega)) ?_ | refine Get.mk _ (map_getp (by omega) (by omega)) ?_ | refine Get.mk _ (map_get (by omega)) ?_ | refine Bv2.mk _ _ rfl rfl ?_ | refine Bv1.mk _ rfl ?_ | refine Wr.mk _ (wrap_i64 (by omega) (by omega)) ?_ | refine Wr.mk _ rfl ?_ | refine And.intro len_map ?_ | refine And.intro (leX_refl _) ?_ | refine And.intro rfl ?_ | refine And.intro (leO_some _) ?_ | (refine And.intro (fun h => absurd h (by decide)) (fun h => ?_); clear h) | (refine And.intro (fun h => ?_) (fun h => absurd h (by decide)); clear h) | (with_reducible first | refine sp1 (fun h => ?_) (fun h => ?_) | refine sp2 (fun h => ?_) (fun h => ?_) | refine sp3 (fun h => ?_) (fun h => ?_) | refine sp4 (fun h => ?_) (fun h => ?_) | refine sp5 (fun h => ?_) (fun h => ?_) | refine sp6 (fun h => ?_) (fun h => ?_)) | with_reducible refine And.intro (fun h => ?_) (fun h => ?_) | refine And.intro (Int.natCast_nonneg _) ?_ | refine And.intro (by omega) ?_ | refine And.intro (by decide) ?_ | refine Get.mk _ (hg) ?_ | refine Lst.mk _ rfl ?_ | refine Byt.mk _ rfl ?_ | refine Or.inr (Or.inl ⟨_, _, h76, leL_refl _, rfl, rfl, ?_⟩) | refine Or.inr (Or.inl ⟨_, _, h56, leL_refl _, rfl, rfl, ?_⟩) | refine Or.inr (Or.inl ⟨_, _, h77, leL_refl _, rfl, rfl, ?_⟩) | refine And.intro trivial ?_ | exact trivial | exact leX_refl _ | exact rfl | refine frc_mk ?_ | refine weak_fr ?_ ?_ rfl | refine And.intro ?_ ?_ | fail) | refine frc_mk ?_)
            all_goals first
              | contradiction
              | (exfalso; omega)
              | omega
              | exact leX_refl _
              | trace_state
    · have hR : numR bs = (0, 0) := by
        unfold numR
        rw [dif_neg (by omega)]
      rw [hR]
      clear h76 h56 h77
      repeat' (first | ((conv => whnf) <;>
               first | refine Frz.own ?_ | refine Get.mk _ rfl ?_ | refine Get.mk _ (map_geti (by omega)) ?_ | refine Get.mk _ (map_getp (by omega) (by omega)) ?_ | refine Get.mk _ (map_get (by omega)) ?_ | refine Bv2.mk _ _ rfl rfl ?_ | refine Bv1.mk _ rfl ?_ | refine Wr.mk _ (wrap_i64 (by omega) (by omega)) ?_ | refine Wr.mk _ rfl ?_ | refine And.intro len_map ?_ | refine And.intro (leX_refl _) ?_ | refine And.intro rfl ?_ | refine And.intro (leO_some _) ?_ | (refine And.intro (fun h => absurd h (by decide)) (fun h => ?_); clear h) | (refine And.intro (fun h => ?_) (fun h => absurd h (by decide)); clear h) | (with_reducible first | refine sp1 (fun h => ?_) (fun h => ?_) | refine sp2 (fun h => ?_) (fun h => ?_) | refine sp3 (fun h => ?_) (fun h => ?_) | refine sp4 (fun h => ?_) (fun h => ?_) | refine sp5 (fun h => ?_) (fun h => ?_) | refine sp6 (fun h => ?_) (fun h => ?_)) | with_reducible refine And.intro (fun h => ?_) (fun h => ?_) | refine And.intro (Int.natCast_nonneg _) ?_ | refine And.intro (by omega) ?_ | refine And.intro (by decide) ?_ | refine Lst.mk _ rfl ?_ | refine Byt.mk _ rfl ?_ | refine Or.inr (Or.inl ⟨_, _, h753, leL_refl _, rfl, rfl, ?_⟩) | refine And.intro trivial ?_ | exact trivial | exact leX_refl _ | exact rfl | refine frc_mk ?_ | refine weak_fr ?_ ?_ rfl | refine And.intro ?_ ?_ | fail) | refine frc_mk ?_)
      all_goals first
        | contradiction
        | (exfalso; omega)
        | exact leX_refl _
        | trace_state
end Go.Proofs.YtdbeeenjcjplhaaDoor.Vc

namespace Go.Proofs.YtdbeeenjcjplhaaDoor.Vc
open Go Go.RowKit Go.Proofs.Tryd
set_option maxRecDepth 20000
/-- The fields read so far. -/
def decT (op : Int) (bs : List (BitVec 8)) (fs : List Nat) (i : Nat) : DecS := (fs.take i).foldl decStep ⟨cmd0 op, 0, ⟨bs, 0⟩, 0⟩
theorem decT_succ (op : Int) (bs : List (BitVec 8)) (fs : List Nat) {i : Nat} (h : i < fs.length) : decT op bs fs (i + 1) = decStep (decT op bs fs i) fs[i] := by
  unfold decT
  rw [List.take_succ_eq_append_getElem h, List.foldl_append]; rfl
theorem dec_keep : ∀ (fs : List Nat) (s : DecS), s.b ≠ 0 → s.r.err ≠ 0 → (fs.foldl decStep s).b = s.b ∧ (fs.foldl decStep s).r = s.r
  | [], _, _, _ => ⟨rfl, rfl⟩
  | i :: fs, s, h, h' => by
    have hr : rdNum s.r = (0, s.r) := by unfold rdNum; rw [if_pos h']
    have h1 : (decStep s i).b = s.b := by show (if _ then _ else _) = _; rw [if_neg (fun h2 => h h2.1)]
    have h2 : (decStep s i).r = s.r := by show (rdNum s.r).2 = _; rw [hr]
    have := dec_keep fs (decStep s i) (by rw [h1]; exact h) (by rw [h2]; exact h')
    rw [List.foldl_cons, this.1, this.2, h1, h2]
    exact ⟨rfl, rfl⟩
theorem decT_drop (op : Int) (bs : List (BitVec 8)) (fs : List Nat) (i : Nat) : decS op bs fs = (fs.drop i).foldl decStep (decT op bs fs i) := by
  unfold decS decT
  rw [← List.foldl_append, List.take_append_drop]
theorem decT_k (op : Int) (bs : List (BitVec 8)) (fs : List Nat) : ∀ i, i ≤ fs.length → (decT op bs fs i).k = i := by
  intro i
  induction i with
  | zero => intro _; rfl
  | succ i ih =>
    intro h
    rw [decT_succ op bs fs (by omega)]
    show (decT op bs fs i).k + 1 = _
    rw [ih (by omega)]; push_cast; rfl
theorem decT_len (op : Int) (bs : List (BitVec 8)) (fs : List Nat) (hl : bs.length ≤ 1000000) : ∀ i, i ≤ fs.length → (decT op bs fs i).r.bs.length ≤ 1000000 := by
  intro i
  induction i with
  | zero => intro _; exact hl
  | succ i ih =>
    intro h
    rw [decT_succ op bs fs (by omega)]
    exact rdNum_len (ih (by omega))
theorem decE_some {b : BitVec 8} {bs : List (BitVec 8)} {fs : List Nat} (hf : fieldsOf b.toNat = some fs) :
    decE (b :: bs) = if 0 < (decS b.toNat bs fs).b then (cmd0 0, .flt 3 cmdB b.toNat (.flt (decS b.toNat bs fs).r.err fieldB (decS b.toNat bs fs).b .nil))
      else if 0 < (decS b.toNat bs fs).r.bs.length then (cmd0 0, .flt 3 cmdB b.toNat (.flt 4 fieldB (decS b.toNat bs fs).k .nil))
      else ((decS b.toNat bs fs).c, .nil) := by
  unfold decE; dsimp only; rw [hf]
theorem decE_none {b : BitVec 8} {bs : List (BitVec 8)} (hf : fieldsOf b.toNat = none) : decE (b :: bs) = (cmd0 0, .flt 3 cmdB b.toNat .nil) := by
  unfold decE; dsimp only; rw [hf]
set_option maxHeartbeats 8000000 in
theorem s38 (l : List (BitVec 8)) (hl : l.length ≤ 1000000) : Spec prog 38 [.s 1 (l.map bytTV)] [] (.t [(decE l).1.tv, .s 3 ((decE l).2.links.map LinkF.tv)]) [] := by
  cases l with
  | nil =>
    dsimp only [decE, CmdF.tv, cmd0, Err.links, List.map_nil, List.map_cons, LinkF.tv]
    rw [List.map_nil]
    refine spec_s is38 mixed rfl (V_x ?_)
    repeat' (first | ((conv => whnf) <;>
             first | refine (Frz.frz ?_ : Frz 15 _ _) | refine Frz.own ?_ | refine Get.mk _ rfl ?_ | refine Get.mk _ (map_geti (by omega)) ?_ | refine Get.mk _ (map_getp (by omega) (by omega)) ?_ | refine Get.mk _ (map_get (by omega)) ?_ | refine Bv2.mk _ _ rfl rfl ?_ | refine Bv1.mk _ rfl ?_ | refine Wr.mk _ (wrap_i64 (by omega) (by omega)) ?_ | refine Wr.mk _ rfl ?_ | refine And.intro len_map ?_ | refine And.intro (leX_refl _) ?_ | refine And.intro rfl ?_ | refine And.intro (leO_some _) ?_ | (refine And.intro (fun h => absurd h (by decide)) (fun h => ?_); clear h) | (refine And.intro (fun h => ?_) (fun h => absurd h (by decide)); clear h) | (with_reducible first | refine sp1 (fun h => ?_) (fun h => ?_) | refine sp2 (fun h => ?_) (fun h => ?_) | refine sp3 (fun h => ?_) (fun h => ?_) | refine sp4 (fun h => ?_) (fun h => ?_) | refine sp5 (fun h => ?_) (fun h => ?_) | refine sp6 (fun h => ?_) (fun h => ?_)) | with_reducible refine And.intro (fun h => ?_) (fun h => ?_) | refine And.intro (Int.natCast_nonneg _) ?_ | refine And.intro (by omega) ?_ | refine And.intro (by decide) ?_ | refine Lst.mk _ rfl ?_ | refine Byt.mk _ rfl ?_ | refine And.intro trivial ?_ | exact trivial | exact leX_refl _ | exact rfl | refine frc_mk ?_ | refine weak_fr ?_ ?_ rfl | refine And.intro ?_ ?_ | fail) | refine frc_mk ?_)
    all_goals first
      | contradiction
      | exact leX_refl _
      | (refine leT ?_; rfl)
      | trace_state
  | cons b bs =>
    have hbs : bs.length ≤ 1000000 := by simp only [List.length_cons] at hl; omega
    have hop : IntKind.wrap .i64 (Int.ofNat b.toNat) = ((b.toNat : Nat) : Int) := wrap_i64 (by have := b.isLt; show _ ≤ (((b.toNat) : Nat) : Int); omega) (by have := b.isLt; show (((b.toNat) : Nat) : Int) ≤ _; omega)
    have hlm : (bs.map bytTV).length = bs.length := List.length_map _
    have h29 := s29 b.toNat
    have hcut : ((bytTV b :: bs.map bytTV).take (bytTV b :: bs.map bytTV).length).drop (Int.toNat 1) = bs.map bytTV := by rw [List.take_length]; rfl
    rw [List.map_cons]
    cases hf : fieldsOf b.toNat with
    | none =>
      rw [decE_none hf]
      rw [hf] at h29
      dsimp only at h29
      dsimp only [CmdF.tv, cmd0, Err.links, List.map_nil, List.map_cons, LinkF.tv]
      generalize bs.map bytTV = M at *
      refine spec_s is38 mixed rfl (V_x ?_)
      repeat' (first | ((conv => whnf) <;>
               first | refine (Frz.frz ?_ : Frz 30 _ _) | refine Frz.own ?_ | refine Wr.mk _ (hop) ?_ | refine Get.mk _ rfl ?_ | refine Get.mk _ (map_geti (by omega)) ?_ | refine Get.mk _ (map_getp (by omega) (by omega)) ?_ | refine Get.mk _ (map_get (by omega)) ?_ | refine Bv2.mk _ _ rfl rfl ?_ | refine Bv1.mk _ rfl ?_ | refine Wr.mk _ (wrap_i64 (by omega) (by omega)) ?_ | refine Wr.mk _ rfl ?_ | refine And.intro len_map ?_ | refine And.intro (leX_refl _) ?_ | refine And.intro rfl ?_ | refine And.intro (leO_some _) ?_ | (refine And.intro (fun h => absurd h (by decide)) (fun h => ?_); clear h) | (refine And.intro (fun h => ?_) (fun h => absurd h (by decide)); clear h) | (with_reducible first | refine sp1 (fun h => ?_) (fun h => ?_) | refine sp2 (fun h => ?_) (fun h => ?_) | refine sp3 (fun h => ?_) (fun h => ?_) | refine sp4 (fun h => ?_) (fun h => ?_) | refine sp5 (fun h => ?_) (fun h => ?_) | refine sp6 (fun h => ?_) (fun h => ?_)) | with_reducible refine And.intro (fun h => ?_) (fun h => ?_) | refine And.intro (Int.natCast_nonneg _) ?_ | refine And.intro (by omega) ?_ | refine And.intro (by decide) ?_ | refine Lst.mk _ rfl ?_ | refine Byt.mk _ rfl ?_ | refine Or.inr (Or.inl ⟨_, _, h29, leL_refl _, rfl, rfl, ?_⟩) | refine And.intro trivial ?_ | exact trivial | exact leX_refl _ | exact rfl | refine frc_mk ?_ | refine weak_fr ?_ ?_ rfl | refine And.intro ?_ ?_ | fail) | refine frc_mk ?_)
      all_goals first
        | contradiction
        | (exfalso; omega)
        | (exfalso; simp only [List.length_cons] at *; omega)
        | (simp only [List.length_cons]; omega)
        | exact leX_refl _
        | (refine leT ?_; rfl)
        | (exfalso; clear h29; simp_all; done)
        | trace_state
    | some fs =>
      rw [hf] at h29
      dsimp only at h29
      have hne := names_ne hf
      have hle := fields_le hf
      have hget : ∀ (i : Nat) (h : i < fs.length), (strB (fs.map letter))[((i : Nat) : Int).toNat]? = some (UInt8.ofBitVec (letter fs[i])) := fun i h => by
        have := strB_get (fs.map letter) i (by simpa using h)
        simpa using this
      have hsz : (strB (fs.map letter)).size = fs.length := by rw [strB_size, List.length_map]
      have h51 := fun i (h : i < fs.length) o x => s51 o fs[i] (hle.2 _ (List.getElem_mem h)) x
      generalize hN : strB (fs.map letter) = N at *
      have hDe := decE_some (bs := bs) hf
      have hk := decT_k b.toNat bs fs
      have hln := decT_len b.toNat bs fs hbs
      have hsu := fun i h => decT_succ b.toNat bs fs (i := i) h
      have hdp := decT_drop b.toNat bs fs
      have hfin : decT b.toNat bs fs fs.length = decS b.toNat bs fs := by unfold decT decS; rw [List.take_length]
      have hcop : ∀ i, (decT b.toNat bs fs i).c.op = b.toNat := fun i => dec_op (fs.take i) _
      have hcos : (decS b.toNat bs fs).c.op = b.toNat := dec_op fs _
      have h0 : decT b.toNat bs fs 0 = ⟨cmd0 b.toNat, 0, ⟨bs, 0⟩, 0⟩ := rfl
      generalize decE (b :: bs) = D at *
      generalize decS b.toNat bs fs = S at *
      refine spec_s is38 mixed rfl (V_x ?_)
      repeat' (first | ((conv => whnf) <;>
               first | refine Frz.own ?_ | refine Wr.mk _ (hop) ?_ | refine Get.mk _ rfl ?_ | refine Get.mk _ (map_geti (by omega)) ?_ | refine Get.mk _ (map_getp (by omega) (by omega)) ?_ | refine Get.mk _ (map_get (by omega)) ?_ | refine Bv2.mk _ _ rfl rfl ?_ | refine Bv1.mk _ rfl ?_ | refine Wr.mk _ (wrap_i64 (by omega) (by omega)) ?_ | refine Wr.mk _ rfl ?_ | refine And.intro len_map ?_ | refine And.intro (leX_refl _) ?_ | refine And.intro rfl ?_ | refine And.intro (leO_some _) ?_ | (refine And.intro (fun h => absurd h (by decide)) (fun h => ?_); clear h) | (refine And.intro (fun h => ?_) (fun h => absurd h (by decide)); clear h) | (with_reducible first | refine sp1 (fun h => ?_) (fun h => ?_) | refine sp2 (fun h => ?_) (fun h => ?_) | refine sp3 (fun h => ?_) (fun h => ?_) | refine sp4 (fun h => ?_) (fun h => ?_) | refine sp5 (fun h => ?_) (fun h => ?_) | refine sp6 (fun h => ?_) (fun h => ?_)) | with_reducible refine And.intro (fun h => ?_) (fun h => ?_) | refine And.intro (Int.natCast_nonneg _) ?_ | refine And.intro (by omega) ?_ | refine And.intro (by decide) ?_ | refine Lst.mk _ rfl ?_ | refine Byt.mk _ rfl ?_ | refine Or.inr (Or.inl ⟨_, _, h29, leL_refl _, rfl, rfl, ?_⟩) | refine And.intro trivial ?_ | exact trivial | exact leX_refl _ | exact rfl | refine frc_mk ?_ | refine weak_fr ?_ ?_ rfl | refine And.intro ?_ ?_ | fail) | refine frc_mk ?_)
      all_goals first
        | contradiction
        | (exfalso; omega)
        | (exfalso; simp only [List.length_cons] at *; omega)
        | (simp only [List.length_cons]; omega)
        | (exfalso; clear h29 h51; simp_all; done)
        | skip
      refine V_up fs.length (fun i => Fct ((decT b.toNat bs fs i).b = 0 ∧ (decT b.toNat bs fs i).r.err = 0)) (fun i => ([(2, .p 48 0 0), (4, .p 80 0 0), (5, tS N), (6, .p 112 0 0), (7, tI i)], [(48, .var 65 (cmd0 0).tv), (80, .var 65 (decT b.toNat bs fs i).c.tv), (112, .var 114 (.a [.s 1 ((decT b.toNat bs fs i).r.bs.map bytTV), tI 0]))])) ⟨rfl, rfl⟩ ?_ ?_
      · rw [h0]
        dsimp only [CmdF.tv, cmd0]
        repeat' (first | ((conv => whnf) <;>
                 first | refine Frz.own ?_ | refine Get.mk _ rfl ?_ | refine Get.mk _ (map_geti (by omega)) ?_ | refine Get.mk _ (map_getp (by omega) (by omega)) ?_ | refine Get.mk _ (map_get (by omega)) ?_ | refine Bv2.mk _ _ rfl rfl ?_ | refine Bv1.mk _ rfl ?_ | refine Wr.mk _ (wrap_i64 (by omega) (by omega)) ?_ | refine Wr.mk _ rfl ?_ | refine And.intro len_map ?_ | refine And.intro (leX_refl _) ?_ | refine And.intro rfl ?_ | refine And.intro (leO_some _) ?_ | (refine And.intro (fun h => absurd h (by decide)) (fun h => ?_); clear h) | (refine And.intro (fun h => ?_) (fun h => absurd h (by decide)); clear h) | (with_reducible first | refine sp1 (fun h => ?_) (fun h => ?_) | refine sp2 (fun h => ?_) (fun h => ?_) | refine sp3 (fun h => ?_) (fun h => ?_) | refine sp4 (fun h => ?_) (fun h => ?_) | refine sp5 (fun h => ?_) (fun h => ?_) | refine sp6 (fun h => ?_) (fun h => ?_)) | with_reducible refine And.intro (fun h => ?_) (fun h => ?_) | refine And.intro (Int.natCast_nonneg _) ?_ | refine And.intro (by omega) ?_ | refine And.intro (by decide) ?_ | refine Lst.mk _ rfl ?_ | refine Byt.mk _ rfl ?_ | refine And.intro trivial ?_ | exact trivial | exact leX_refl _ | exact rfl | refine frc_mk ?_ | refine weak_fr ?_ ?_ rfl | refine And.intro ?_ ?_ | fail) | refine frc_mk ?_)
        all_goals first
          | exact leT (congrArg (TV.s 1) hcut)
          | trace_state
      · rintro i hi ⟨hI1, hI2⟩
        refine V_x ?_
        by_cases hlt : i < fs.length
        · have hg := hget i hlt
          have hsu := hsu i hlt
          have hdp := hdp i
          rw [List.drop_eq_getElem_cons hlt, List.foldl_cons] at hdp
          have hki := hk i hi
          have hcop := hcop i
          have h62 := s62 (decT b.toNat bs fs i).r (hln i hi)
          have hle2 := rdNum_le (decT b.toNat bs fs i).r
          have h51 := h51 i hlt (decT b.toNat bs fs i).c
          have hRs : decStep (decT b.toNat bs fs i) fs[i] = ⟨(decT b.toNat bs fs i).c.set fs[i] (rdNum (decT b.toNat bs fs i).r).1.toNat, (decT b.toNat bs fs i).k + 1, (rdNum (decT b.toNat bs fs i).r).2, if (decT b.toNat bs fs i).b = 0 ∧ (rdNum (decT b.toNat bs fs i).r).2.err ≠ 0 then (decT b.toNat bs fs i).k + 1 else (decT b.toNat bs fs i).b⟩ := rfl
          rw [hsu]
          rw [hRs, hI1, hki] at hdp
          rw [hRs]
          dsimp only
          have hI1' := hI1
          generalize letter fs[i] = lt at *
          generalize fs[i] = fi at *
          generalize decT b.toNat bs fs i = T at *
          obtain ⟨C, K, ⟨rb, re⟩, B⟩ := T
          dsimp only at *
          subst hI2
          subst hI1
          generalize rdNum ⟨rb, 0⟩ = R at *
          obtain ⟨x, rb', re'⟩ := R
          have hw : IntKind.wrap .i64 (Int.ofNat x.toNat) = (x.toNat : Int) := wrap_i64 (by show _ ≤ ((x.toNat : Nat) : Int); omega) (by show ((x.toNat : Nat) : Int) ≤ _; dsimp only at hle2; omega)
          by_cases he : re' = 0
          · subst he
            have hif : (if (0 : Int) = 0 ∧ (0 : Int) ≠ 0 then K + 1 else 0) = 0 := if_neg (fun h => h.2 rfl)
            have h51 := h51 x.toNat
            dsimp only [CmdF.tv, Rd.cs, cmd0] at *
            repeat' (first | ((conv => whnf) <;>
                     first | refine Frz.own ?_ | refine Wr.mk _ (hw) ?_ | refine Get.mk _ rfl ?_ | refine Get.mk _ (map_geti (by omega)) ?_ | refine Get.mk _ (map_getp (by omega) (by omega)) ?_ | refine Get.mk _ (map_get (by omega)) ?_ | refine Bv2.mk _ _ rfl rfl ?_ | refine Bv1.mk _ rfl ?_ | refine Wr.mk _ (wrap_i64 (by omega) (by omega)) ?_ | refine Wr.mk _ rfl ?_ | refine And.intro len_map ?_ | refine And.intro (leX_refl _) ?_ | refine And.intro rfl ?_ | refine And.intro (leO_some _) ?_ | (refine And.intro (fun h => absurd h (by decide)) (fun h => ?_); clear h) | (refine And.intro (fun h => ?_) (fun h => absurd h (by decide)); clear h) | (with_reducible first | refine sp1 (fun h => ?_) (fun h => ?_) | refine sp2 (fun h => ?_) (fun h => ?_) | refine sp3 (fun h => ?_) (fun h => ?_) | refine sp4 (fun h => ?_) (fun h => ?_) | refine sp5 (fun h => ?_) (fun h => ?_) | refine sp6 (fun h => ?_) (fun h => ?_)) | with_reducible refine And.intro (fun h => ?_) (fun h => ?_) | refine And.intro (Int.natCast_nonneg _) ?_ | refine And.intro (by omega) ?_ | refine And.intro (by decide) ?_ | refine Get.mk _ (hg) ?_ | refine Lst.mk _ rfl ?_ | refine Byt.mk _ rfl ?_ | refine Or.inr (Or.inl ⟨_, _, h62, leL_refl _, rfl, rfl, ?_⟩) | refine Or.inr (Or.inl ⟨_, _, h51, leL_refl _, rfl, rfl, ?_⟩) | refine And.intro trivial ?_ | exact trivial | exact leX_refl _ | exact rfl | refine frc_mk ?_ | refine weak_fr ?_ ?_ rfl | refine And.intro ?_ ?_ | fail) | refine frc_mk ?_)
            all_goals first
              | contradiction
              | (exfalso; omega)
              | exact leX_refl _
              | exact ⟨hif, rfl⟩
              | exact ⟨⟨hif, rfl⟩⟩
              | trace_state
          · rw [if_pos ⟨rfl, he⟩] at hdp
            have hkp := dec_keep (fs.drop (i + 1)) _ (show ((DecS.mk (C.set fi x.toNat) ((i : Int) + 1) ⟨rb', re'⟩ ((i : Int) + 1))).b ≠ 0 by dsimp only; omega) he
            rw [← hdp] at hkp
            dsimp only at hkp
            rw [hkp.1, hkp.2, if_pos (by omega)] at hDe
            rw [hDe, ← hcop]
            dsimp only [CmdF.tv, Rd.cs, cmd0, Err.links, List.map_nil, List.map_cons, LinkF.tv] at *
            repeat' (first | ((conv => whnf) <;>
                     first | refine (Frz.frz ?_ : Frz 58 _ _) | refine Frz.own ?_ | refine Get.mk _ rfl ?_ | refine Get.mk _ (map_geti (by omega)) ?_ | refine Get.mk _ (map_getp (by omega) (by omega)) ?_ | refine Get.mk _ (map_get (by omega)) ?_ | refine Bv2.mk _ _ rfl rfl ?_ | refine Bv1.mk _ rfl ?_ | refine Wr.mk _ (wrap_i64 (by omega) (by omega)) ?_ | refine Wr.mk _ rfl ?_ | refine And.intro len_map ?_ | refine And.intro (leX_refl _) ?_ | refine And.intro rfl ?_ | refine And.intro (leO_some _) ?_ | (refine And.intro (fun h => absurd h (by decide)) (fun h => ?_); clear h) | (refine And.intro (fun h => ?_) (fun h => absurd h (by decide)); clear h) | (with_reducible first | refine sp1 (fun h => ?_) (fun h => ?_) | refine sp2 (fun h => ?_) (fun h => ?_) | refine sp3 (fun h => ?_) (fun h => ?_) | refine sp4 (fun h => ?_) (fun h => ?_) | refine sp5 (fun h => ?_) (fun h => ?_) | refine sp6 (fun h => ?_) (fun h => ?_)) | with_reducible refine And.intro (fun h => ?_) (fun h => ?_) | refine And.intro (Int.natCast_nonneg _) ?_ | refine And.intro (by omega) ?_ | refine And.intro (by decide) ?_ | refine Get.mk _ (hg) ?_ | refine Lst.mk _ rfl ?_ | refine Byt.mk _ rfl ?_ | refine Or.inr (Or.inl ⟨_, _, h62, leL_refl _, rfl, rfl, ?_⟩) | refine And.intro trivial ?_ | exact trivial | exact leX_refl _ | exact rfl | refine frc_mk ?_ | refine weak_fr ?_ ?_ rfl | refine And.intro ?_ ?_ | fail) | refine frc_mk ?_)
            all_goals first
              | contradiction
              | (exfalso; omega)
              | exact leX_refl _
              | (refine leT ?_; rfl)
              | trace_state
        · obtain rfl : i = fs.length := by omega
          have hki := hk _ (Nat.le_refl _)
          rw [hfin] at hI1 hI2 hki ⊢
          obtain ⟨C, K, ⟨rb, re⟩, B⟩ := S
          dsimp only at hI1 hI2 hki hDe hcos ⊢
          subst hI1
          subst hki
          rw [if_neg (by omega)] at hDe
          have hlr : (rb.map bytTV).length = rb.length := List.length_map _
          by_cases h2 : 0 < rb.length
          · rw [if_pos h2] at hDe
            rw [hDe, ← hcos, ← hsz]
            dsimp only [CmdF.tv, cmd0, Err.links, List.map_nil, List.map_cons, LinkF.tv] at *
            generalize rb.map bytTV = M2 at *
            repeat' (first | ((conv => whnf) <;>
                     first | refine (Frz.frz ?_ : Frz 77 _ _) | refine Frz.own ?_ | refine Get.mk _ rfl ?_ | refine Get.mk _ (map_geti (by omega)) ?_ | refine Get.mk _ (map_getp (by omega) (by omega)) ?_ | refine Get.mk _ (map_get (by omega)) ?_ | refine Bv2.mk _ _ rfl rfl ?_ | refine Bv1.mk _ rfl ?_ | refine Wr.mk _ (wrap_i64 (by omega) (by omega)) ?_ | refine Wr.mk _ rfl ?_ | refine And.intro len_map ?_ | refine And.intro (leX_refl _) ?_ | refine And.intro rfl ?_ | refine And.intro (leO_some _) ?_ | (refine And.intro (fun h => absurd h (by decide)) (fun h => ?_); clear h) | (refine And.intro (fun h => ?_) (fun h => absurd h (by decide)); clear h) | (with_reducible first | refine sp1 (fun h => ?_) (fun h => ?_) | refine sp2 (fun h => ?_) (fun h => ?_) | refine sp3 (fun h => ?_) (fun h => ?_) | refine sp4 (fun h => ?_) (fun h => ?_) | refine sp5 (fun h => ?_) (fun h => ?_) | refine sp6 (fun h => ?_) (fun h => ?_)) | with_reducible refine And.intro (fun h => ?_) (fun h => ?_) | refine And.intro (Int.natCast_nonneg _) ?_ | refine And.intro (by omega) ?_ | refine And.intro (by decide) ?_ | refine Lst.mk _ rfl ?_ | refine Byt.mk _ rfl ?_ | refine And.intro trivial ?_ | exact trivial | exact leX_refl _ | exact rfl | refine frc_mk ?_ | refine weak_fr ?_ ?_ rfl | refine And.intro ?_ ?_ | fail) | refine frc_mk ?_)
            all_goals first
              | contradiction
              | (exfalso; omega)
              | exact leX_refl _
              | (refine leT ?_; rfl)
              | (refine And.intro rfl ?_; refine leT ?_; rw [← hsz]; rfl)
              | trace_state
          · rw [if_neg h2] at hDe
            rw [hDe]
            dsimp only [CmdF.tv, cmd0, Err.links, List.map_nil, List.map_cons, LinkF.tv] at *
            generalize rb.map bytTV = M2 at *
            repeat' (first | ((conv => whnf) <;>
                     first | refine Frz.own ?_ | refine Get.mk _ rfl ?_ | refine Get.mk _ (map_geti (by omega)) ?_ | refine Get.mk _ (map_getp (by omega) (by omega)) ?_ | refine Get.mk _ (map_get (by omega)) ?_ | refine Bv2.mk _ _ rfl rfl ?_ | refine Bv1.mk _ rfl ?_ | refine Wr.mk _ (wrap_i64 (by omega) (by omega)) ?_ | refine Wr.mk _ rfl ?_ | refine And.intro len_map ?_ | refine And.intro (leX_refl _) ?_ | refine And.intro rfl ?_ | refine And.intro (leO_some _) ?_ | (refine And.intro (fun h => absurd h (by decide)) (fun h => ?_); clear h) | (refine And.intro (fun h => ?_) (fun h => absurd h (by decide)); clear h) | (with_reducible first | refine sp1 (fun h => ?_) (fun h => ?_) | refine sp2 (fun h => ?_) (fun h => ?_) | refine sp3 (fun h => ?_) (fun h => ?_) | refine sp4 (fun h => ?_) (fun h => ?_) | refine sp5 (fun h => ?_) (fun h => ?_) | refine sp6 (fun h => ?_) (fun h => ?_)) | with_reducible refine And.intro (fun h => ?_) (fun h => ?_) | refine And.intro (Int.natCast_nonneg _) ?_ | refine And.intro (by omega) ?_ | refine And.intro (by decide) ?_ | refine Lst.mk _ rfl ?_ | refine Byt.mk _ rfl ?_ | refine And.intro trivial ?_ | exact trivial | exact leX_refl _ | exact rfl | refine frc_mk ?_ | refine weak_fr ?_ ?_ rfl | refine And.intro ?_ ?_ | fail) | refine frc_mk ?_)
            all_goals first
              | contradiction
              | (exfalso; omega)
              | exact leX_refl _
              | exact And.intro rfl rfl
              | trace_state
end Go.Proofs.YtdbeeenjcjplhaaDoor.Vc
