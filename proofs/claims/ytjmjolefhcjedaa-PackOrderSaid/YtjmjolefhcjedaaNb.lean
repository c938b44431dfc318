/- What the program tells of a plan: whether it is right, and where a unit is. -/
import Derived.Test.YtjmjolefhcjedaaNa
namespace Go.Proofs.Ytjmjolefhcjedaa.Vc
open Go Go.RowKit Go.Proofs.Try
set_option maxRecDepth 20000

def swar1 (x : BitVec 64) : BitVec 64 := (x >>> 1 &&& 6148914691236517205#64) + (x &&& 6148914691236517205#64)
def swar2 (x : BitVec 64) : BitVec 64 := (x >>> 2 &&& 3689348814741910323#64) + (x &&& 3689348814741910323#64)
def swar3 (x : BitVec 64) : BitVec 64 := (x >>> 4 + x) &&& 1085102592571150095#64
def swar4 (x : BitVec 64) : BitVec 64 := x + x >>> 8
def swar5 (x : BitVec 64) : BitVec 64 := x + x >>> 16
def swar6 (x : BitVec 64) : BitVec 64 := x + x >>> 32
def swar (x : BitVec 64) : BitVec 64 := swar6 (swar5 (swar4 (swar3 (swar2 (swar1 x)))))
theorem add_shr {x : BitVec 64} {y : Nat} (n : Nat) (h : x.toNat = y) (hlt : y / 2 ^ n + y < 2 ^ 64) : (x + x >>> n).toNat = y / 2 ^ n + y := by
  rw [BitVec.toNat_add, BitVec.toNat_ushiftRight, h, Nat.shiftRight_eq_div_pow, Nat.add_comm]
  exact Nat.mod_eq_of_lt hlt
theorem swar_ok (m : BitVec 64) : (swar m).toNat % 128 = popN m 64 := by
  have hp : popN m 64 = popNat m.toNat 64 := by
    unfold popN popNat
    rw [countP_range]
    exact sumTo_congr fun t _ => by rw [hasT_nat]; rfl
  have hx := m.isLt
  generalize hX : m.toNat = X at hp hx
  obtain ⟨p0, p1, p2, p3, p4, p5, p6, p7, l0, l1, l2, l3, l4, l5, l6, l7, hs, b1, b2, h3⟩ := swar_bytes (X % 256) (X / 256 % 256) (X / 65536 % 256) (X / 16777216 % 256) (X / 4294967296 % 256) (X / 1099511627776 % 256) (X / 281474976710656 % 256) (X / 72057594037927936)
    (by omega) (by omega) (by omega) (by omega) (by omega) (by omega) (by omega) (by omega) X (by omega)
  have a1 : (swar1 m).toNat = F1 8 X := by
    unfold swar1
    rw [BitVec.toNat_add, BitVec.toNat_and, BitVec.toNat_and, BitVec.toNat_ushiftRight, hX, Nat.shiftRight_eq_div_pow]
    exact Nat.mod_eq_of_lt b1
  have a2 : (swar2 (swar1 m)).toNat = F2 8 (F1 8 X) := by
    unfold swar2
    rw [BitVec.toNat_add, BitVec.toNat_and, BitVec.toNat_and, BitVec.toNat_ushiftRight, a1, Nat.shiftRight_eq_div_pow]
    exact Nat.mod_eq_of_lt (Nat.lt_of_lt_of_le b2 (by decide))
  have a3 : (swar3 (swar2 (swar1 m))).toNat = F3 8 (F2 8 (F1 8 X)) := by
    unfold swar3
    rw [BitVec.toNat_and, BitVec.toNat_add, BitVec.toNat_ushiftRight, a2, Nat.shiftRight_eq_div_pow, Nat.mod_eq_of_lt (by omega)]
    rfl
  obtain ⟨c1, c2, c3, c4⟩ := swar_sum l0 l1 l2 l3 l4 l5 l6 l7 h3
  have a4 := add_shr 8 a3 c1
  have a5 := add_shr 16 a4 c2
  have a6 := add_shr 32 a5 c3
  refine (congrArg (· % 128) a6).trans ?_
  rw [hp, hs]
  exact c4
theorem and_127 {x : Nat} (h : x < 2 ^ 64) : IntKind.wrap .i64 ((BitVec.ofInt 64 (IntKind.wrap .i64 (x : Int)) &&& BitVec.ofInt 64 127).toNat : Int) = ((x % 128 : Nat) : Int) := by
  have h1 : BitVec.ofInt 64 (IntKind.wrap .i64 (x : Int)) = BitVec.ofNat 64 x := by
    simp only [IntKind.wrap, IntKind.bits, IntKind.signed, Bool.true_and, decide_eq_true_eq, show (2 : Int) ^ (64 - 1) = 9223372036854775808 from rfl, show (2 : Int) ^ 64 = 18446744073709551616 from rfl]
    apply BitVec.eq_of_toNat_eq
    rw [BitVec.toNat_ofInt, BitVec.toNat_ofNat]
    simp only [show ((2 ^ 64 : Nat) : Int) = 18446744073709551616 from rfl, show (2 : Nat) ^ 64 = 18446744073709551616 from rfl] at h ⊢
    split <;> omega
  rw [h1]
  have h2 : (BitVec.ofNat 64 x &&& BitVec.ofInt 64 127).toNat = x % 128 := by
    rw [BitVec.toNat_and, BitVec.toNat_ofNat, Nat.mod_eq_of_lt h]
    show x &&& (2 ^ 7 - 1) = _
    rw [Nat.and_two_pow_sub_one_eq_mod]
  rw [h2, wrap_i64 (by omega) (by omega)]
theorem s138 (m : BitVec 64) : Spec prog 138 [tU m] [] (tI (popN m 64)) [] := by
  refine spec_s is138 mixed rfl (V_x ?_)
  repeat' (conv => whnf
           first | refine Frz.own ?_ | refine Get.mk _ rfl ?_ | refine Get.mk _ (map_geti (by omega)) ?_ | refine Get.mk _ (map_getp (by omega) (by omega)) ?_ | refine Get.mk _ (map_get (by omega)) ?_ | refine Bv2.mk _ _ rfl rfl ?_ | refine Bv1.mk _ rfl ?_ | refine Wr.mk _ (wrap_i64 (by omega) (by omega)) ?_ | refine Wr.mk _ rfl ?_ | refine And.intro len_map ?_ | refine And.intro (leX_refl _) ?_ | refine And.intro rfl ?_ | refine And.intro (leO_some _) ?_ | (refine And.intro (fun h => absurd h (by decide)) (fun h => ?_); clear h) | (refine And.intro (fun h => ?_) (fun h => absurd h (by decide)); clear h) | (with_reducible first | refine sp1 (fun h => ?_) (fun h => ?_) | refine sp2 (fun h => ?_) (fun h => ?_) | refine sp3 (fun h => ?_) (fun h => ?_) | refine sp4 (fun h => ?_) (fun h => ?_) | refine sp5 (fun h => ?_) (fun h => ?_) | refine sp6 (fun h => ?_) (fun h => ?_)) | with_reducible refine And.intro (fun h => ?_) (fun h => ?_) | refine And.intro (Int.natCast_nonneg _) ?_ | refine And.intro (by omega) ?_ | refine And.intro (by decide) ?_ | refine Lst.mk _ rfl ?_ | refine And.intro trivial ?_ | exact trivial | exact leX_refl _ | refine weak_fr ?_ ?_ rfl | refine And.intro ?_ ?_ | fail)
  refine leI ?_
  show IntKind.wrap .i64 ((BitVec.ofInt 64 (IntKind.wrap .i64 ((swar m).toNat : Int)) &&& BitVec.ofInt 64 127).toNat : Int) = _
  rw [and_127 (swar m).isLt, swar_ok]
theorem s105 (m : BitVec 64) : Spec prog 105 [tU m] [] (tI (popN m 64)) [] := by
  refine spec_s is105 mixed rfl (V_x ?_)
  repeat' (conv => whnf
           first | refine Frz.own ?_ | refine Get.mk _ rfl ?_ | refine Get.mk _ (map_geti (by omega)) ?_ | refine Get.mk _ (map_getp (by omega) (by omega)) ?_ | refine Get.mk _ (map_get (by omega)) ?_ | refine Bv2.mk _ _ rfl rfl ?_ | refine Bv1.mk _ rfl ?_ | refine Wr.mk _ (wrap_i64 (by omega) (by omega)) ?_ | refine Wr.mk _ rfl ?_ | refine And.intro len_map ?_ | refine And.intro (leX_refl _) ?_ | refine And.intro rfl ?_ | refine And.intro (leO_some _) ?_ | (refine And.intro (fun h => absurd h (by decide)) (fun h => ?_); clear h) | (refine And.intro (fun h => ?_) (fun h => absurd h (by decide)); clear h) | (with_reducible first | refine sp1 (fun h => ?_) (fun h => ?_) | refine sp2 (fun h => ?_) (fun h => ?_) | refine sp3 (fun h => ?_) (fun h => ?_) | refine sp4 (fun h => ?_) (fun h => ?_) | refine sp5 (fun h => ?_) (fun h => ?_) | refine sp6 (fun h => ?_) (fun h => ?_)) | with_reducible refine And.intro (fun h => ?_) (fun h => ?_) | refine And.intro (Int.natCast_nonneg _) ?_ | refine And.intro (by omega) ?_ | refine And.intro (by decide) ?_ | refine Lst.mk _ rfl ?_ | refine Or.inr (Or.inl ⟨_, _, s138 _, leL_refl _, rfl, rfl, ?_⟩) | refine And.intro trivial ?_ | exact trivial | exact leX_refl _ | refine weak_fr ?_ ?_ rfl | refine And.intro ?_ ?_ | fail)
  exact leI rfl
theorem s141 (f : Int) : Spec prog 141 [tI f] [] (tU (allB f)) [] := by
  refine spec_s is141 mixed rfl (V_x ?_)
  have h1 : 0 ≤ frameOf f := by unfold frameOf; omega
  repeat' (conv => whnf
           first | refine Frz.own ?_ | refine Get.mk _ rfl ?_ | refine Get.mk _ (map_geti (by omega)) ?_ | refine Get.mk _ (map_getp (by omega) (by omega)) ?_ | refine Get.mk _ (map_get (by omega)) ?_ | refine Bv2.mk _ _ rfl rfl ?_ | refine Bv1.mk _ rfl ?_ | refine Wr.mk _ (wrap_i64 (by omega) (by omega)) ?_ | refine Wr.mk _ rfl ?_ | refine And.intro len_map ?_ | refine And.intro (leX_refl _) ?_ | refine And.intro rfl ?_ | refine And.intro (leO_some _) ?_ | (refine And.intro (fun h => absurd h (by decide)) (fun h => ?_); clear h) | (refine And.intro (fun h => ?_) (fun h => absurd h (by decide)); clear h) | (with_reducible first | refine sp1 (fun h => ?_) (fun h => ?_) | refine sp2 (fun h => ?_) (fun h => ?_) | refine sp3 (fun h => ?_) (fun h => ?_) | refine sp4 (fun h => ?_) (fun h => ?_) | refine sp5 (fun h => ?_) (fun h => ?_) | refine sp6 (fun h => ?_) (fun h => ?_)) | with_reducible refine And.intro (fun h => ?_) (fun h => ?_) | refine And.intro (Int.natCast_nonneg _) ?_ | refine And.intro (by omega) ?_ | refine And.intro (by decide) ?_ | refine Lst.mk _ rfl ?_ | refine Or.inr (Or.inl ⟨_, _, s139 _, leL_refl _, rfl, rfl, ?_⟩) | refine And.intro trivial ?_ | exact trivial | exact leX_refl _ | refine weak_fr ?_ ?_ rfl | refine And.intro ?_ ?_ | fail)
  · refine leU ?_
    have h : frameOf f = 64 := by assumption
    unfold allB; rw [h]; rfl
  · refine leU ?_
    have h : ¬ frameOf f = 64 := by assumption
    have h2 : (frameOf f).toNat < 64 := by have := frameOf_le f; omega
    unfold allB
    generalize (frameOf f).toNat = n at h2
    have hp : 2 ^ n < 2 ^ 64 := Nat.pow_lt_pow_right (by decide) h2
    have hp0 : 0 < 2 ^ n := Nat.pos_of_ne_zero (by simp)
    apply BitVec.eq_of_toNat_eq
    rw [BitVec.toNat_ofNat, Nat.mod_eq_of_lt (by omega)]
    rw [BitVec.toNat_sub, BitVec.toNat_shiftLeft, Nat.shiftLeft_eq]
    show (2 ^ 64 - 1 + 1 * 2 ^ n % 2 ^ 64) % 2 ^ 64 = _
    omega
end Go.Proofs.Ytjmjolefhcjedaa.Vc

namespace Go.Proofs.Ytjmjolefhcjedaa.Vc
open Go Go.RowKit Go.Proofs.Try
set_option maxRecDepth 20000

def Place.spI (p : Plan) (x : Place) (i : Nat) : Prop :=
  (∀ y ∈ x.pieces.take i, p.has y.core = true ∧ y.ticks ≠ 0#64 ∧ y.ticks &&& ~~~ allB p.frame = 0#64) ∧ (x.pieces.take i).Pairwise (fun a b => a.core < b.core) ∧ disj 0#64 (x.masks.take i)
theorem spI_step {p : Plan} {x : Place} {i : Nat} (hi : i < x.pieces.length) (h : x.spI p i) :
    x.spI p (i + 1) ↔ (p.has x.pieces[i].core = true ∧ x.pieces[i].ticks ≠ 0#64 ∧ x.pieces[i].ticks &&& ~~~ allB p.frame = 0#64) ∧ (∀ h0 : 0 < i, x.pieces[i - 1].core < x.pieces[i].core) ∧ x.pieces[i].ticks &&& orAll (x.masks.take i) = 0#64 := by
  have hm : i < x.masks.length := by simpa [Place.masks] using hi
  have he : x.masks[i] = x.pieces[i].ticks := by simp [Place.masks]
  unfold Place.spI at h ⊢
  rw [mem_snoc hi, pw_step hi h.2.1, take_succ' hm, disj_snoc, he, BitVec.and_comm x.pieces[i].ticks (orAll _)]
  constructor
  · rintro ⟨⟨_, h1⟩, h2, _, h3⟩; exact ⟨h1, h2, h3⟩
  · rintro ⟨h1, h2, h3⟩; exact ⟨⟨h.1, h1⟩, h2, h.2.2, h3⟩
theorem spI_of {p : Plan} {x : Place} (h : x.spP p) (i : Nat) : x.spI p i := by
  obtain ⟨h1, h2, h3, _⟩ := h
  refine ⟨fun y hy => h1 y (List.mem_of_mem_take hy), pw_take i h2, ?_⟩
  rw [disj_zero] at h3 ⊢
  intro t ht
  refine Nat.le_trans ?_ (h3 t ht)
  exact (List.take_sublist i _).countP_le
theorem orAll_succ {x : Place} {i : Nat} (hi : i < x.pieces.length) : orAll (x.masks.take (i + 1)) = orAll (x.masks.take i) ||| x.pieces[i].ticks := by
  rw [take_succ' (by simpa [Place.masks] using hi), orAll_snoc]; simp [Place.masks]
theorem sp_fin {p : Plan} {x : Place} {i : Nat} (hi : i ≥ x.pieces.length) (h : x.spI p i) : x.spP p ↔ 2 ≤ x.pieces.length ∧ x.core = 0 ∧ ((popN (orAll x.masks) 64 : Nat) : Int) = x.share := by
  obtain ⟨h1, h2, h3⟩ := h
  rw [List.take_of_length_le hi] at h1 h2
  rw [List.take_of_length_le (by simpa [Place.masks] using hi)] at h3
  unfold Place.spP
  constructor
  · rintro ⟨_, _, _, h⟩; exact h
  · intro h; exact ⟨h1, h2, h3, h⟩
open Classical in
theorem s150 (p : Plan) (x : Place) (hx : x.pieces.length ≤ 20) : Spec prog 150 [p.tv, x.tv] [] (tB (decide (x.spP p))) [] := by
  refine spec_s is150 mixed rfl (V_x ?_)
  repeat' (conv => whnf
           first | refine Frz.own ?_ | refine Get.mk _ rfl ?_ | refine Get.mk _ (map_geti (by omega)) ?_ | refine Get.mk _ (map_getp (by omega) (by omega)) ?_ | refine Get.mk _ (map_get (by omega)) ?_ | refine Bv2.mk _ _ rfl rfl ?_ | refine Bv1.mk _ rfl ?_ | refine Wr.mk _ (wrap_i64 (by omega) (by omega)) ?_ | refine Wr.mk _ rfl ?_ | refine And.intro len_map ?_ | refine And.intro (leX_refl _) ?_ | refine And.intro rfl ?_ | refine And.intro (leO_some _) ?_ | (refine And.intro (fun h => absurd h (by decide)) (fun h => ?_); clear h) | (refine And.intro (fun h => ?_) (fun h => absurd h (by decide)); clear h) | (with_reducible first | refine sp1 (fun h => ?_) (fun h => ?_) | refine sp2 (fun h => ?_) (fun h => ?_) | refine sp3 (fun h => ?_) (fun h => ?_) | refine sp4 (fun h => ?_) (fun h => ?_) | refine sp5 (fun h => ?_) (fun h => ?_) | refine sp6 (fun h => ?_) (fun h => ?_)) | with_reducible refine And.intro (fun h => ?_) (fun h => ?_) | refine And.intro (Int.natCast_nonneg _) ?_ | refine And.intro (by omega) ?_ | refine And.intro (by decide) ?_ | refine Lst.mk _ rfl ?_ | refine And.intro trivial ?_ | exact trivial | exact leX_refl _ | refine weak_fr ?_ ?_ rfl | refine And.intro ?_ ?_ | fail)
  refine V_up x.pieces.length (fun i => Fct (x.spI p i)) (fun i => ([(2, .p 48 0 0), (3, .p 64 0 0), (5, tU (orAll (x.masks.take i))), (9, .s 2 (x.pieces.map Piece.tv)), (10, tI (x.pieces.length : Nat)), (11, tI (i : Nat))], [(48, .var 25 p.tv), (64, .var 34 x.tv)]))
    ⟨⟨by simp, by simp, trivial⟩⟩ ?_ ?_
  · repeat' (conv => whnf
             first | refine Frz.own ?_ | refine Get.mk _ rfl ?_ | refine Get.mk _ (map_geti (by omega)) ?_ | refine Get.mk _ (map_getp (by omega) (by omega)) ?_ | refine Get.mk _ (map_get (by omega)) ?_ | refine Bv2.mk _ _ rfl rfl ?_ | refine Bv1.mk _ rfl ?_ | refine Wr.mk _ (wrap_i64 (by omega) (by omega)) ?_ | refine Wr.mk _ rfl ?_ | refine And.intro len_map ?_ | refine And.intro (leX_refl _) ?_ | refine And.intro rfl ?_ | refine And.intro (leO_some _) ?_ | (refine And.intro (fun h => absurd h (by decide)) (fun h => ?_); clear h) | (refine And.intro (fun h => ?_) (fun h => absurd h (by decide)); clear h) | (with_reducible first | refine sp1 (fun h => ?_) (fun h => ?_) | refine sp2 (fun h => ?_) (fun h => ?_) | refine sp3 (fun h => ?_) (fun h => ?_) | refine sp4 (fun h => ?_) (fun h => ?_) | refine sp5 (fun h => ?_) (fun h => ?_) | refine sp6 (fun h => ?_) (fun h => ?_)) | with_reducible refine And.intro (fun h => ?_) (fun h => ?_) | refine And.intro (Int.natCast_nonneg _) ?_ | refine And.intro (by omega) ?_ | refine And.intro (by decide) ?_ | refine Lst.mk _ rfl ?_ | refine And.intro trivial ?_ | exact trivial | exact leX_refl _ | refine weak_fr ?_ ?_ rfl | refine And.intro ?_ ?_ | fail)
  rintro i hi ⟨hI⟩
  have hl : (x.pieces.map Piece.tv).length = x.pieces.length := List.length_map _
  refine V_x ?_
  repeat' (conv => whnf
           first | refine Frz.own ?_ | refine Get.mk _ rfl ?_ | refine Get.mk _ (map_geti (by omega)) ?_ | refine Get.mk _ (map_getp (by omega) (by omega)) ?_ | refine Get.mk _ (map_get (by omega)) ?_ | refine Bv2.mk _ _ rfl rfl ?_ | refine Bv1.mk _ rfl ?_ | refine Wr.mk _ (wrap_i64 (by omega) (by omega)) ?_ | refine Wr.mk _ rfl ?_ | refine And.intro len_map ?_ | refine And.intro (leX_refl _) ?_ | refine And.intro rfl ?_ | refine And.intro (leO_some _) ?_ | (refine And.intro (fun h => absurd h (by decide)) (fun h => ?_); clear h) | (refine And.intro (fun h => ?_) (fun h => absurd h (by decide)); clear h) | (with_reducible first | refine sp1 (fun h => ?_) (fun h => ?_) | refine sp2 (fun h => ?_) (fun h => ?_) | refine sp3 (fun h => ?_) (fun h => ?_) | refine sp4 (fun h => ?_) (fun h => ?_) | refine sp5 (fun h => ?_) (fun h => ?_) | refine sp6 (fun h => ?_) (fun h => ?_)) | with_reducible refine And.intro (fun h => ?_) (fun h => ?_) | refine And.intro (Int.natCast_nonneg _) ?_ | refine And.intro (by omega) ?_ | refine And.intro (by decide) ?_ | refine Lst.mk _ rfl ?_ | refine Or.inr (Or.inl ⟨_, _, s108 _ _, leL_refl _, rfl, rfl, ?_⟩) | refine Or.inr (Or.inl ⟨_, _, s141 _, leL_refl _, rfl, rfl, ?_⟩) | refine Or.inr (Or.inl ⟨_, _, s105 _, leL_refl _, rfl, rfl, ?_⟩) | refine And.intro trivial ?_ | exact trivial | exact leX_refl _ | refine weak_fr ?_ ?_ rfl | refine And.intro ?_ ?_ | fail)
  all_goals rcases Nat.lt_or_ge i x.pieces.length with hlt | hge
  all_goals first
    | (exfalso; clear hI; omega)
    | (refine leB ?_
       rw [eq_comm, decide_eq_false_iff_not]
       intro hs
       have h5 := (spI_step hlt hI).1 (spI_of hs (i + 1))
       grind)
    | (refine ⟨(spI_step hlt hI).2 ⟨⟨by assumption, by assumption, by assumption⟩, fun h0 => ?_, by assumption⟩⟩
       grind)
    | (refine leU ?_; rw [orAll_succ hlt])
    | (refine leB ?_
       have hm : x.masks.take i = x.masks := List.take_of_length_le (by simpa [Place.masks] using hge)
       rw [Bool.eq_iff_iff, decide_eq_true_eq, sp_fin hge hI]
       grind)

theorem kind_is (u : Int) : (kindOf u).2.2 = isUnit u := by
  unfold kindOf isUnit
  repeat' split
  all_goals simp
  all_goals omega
theorem nil_split {x : Place} : x.pieces = [] ↔ x.split = false := by simp [Place.split]
theorem shareSum_succ {l : List Want} {i : Nat} (h : i < l.length) : shareSum (l.take (i + 1)) = shareSum (l.take i) + l[i].share := by
  unfold shareSum; rw [take_succ' h, List.map_append, List.sum_append]; simp
theorem shareSum_le {l : List Want} (h : ∀ w ∈ l, 0 ≤ w.share ∧ w.share ≤ 64) : 0 ≤ shareSum l ∧ shareSum l ≤ 64 * l.length := by
  induction l with
  | nil => simp [shareSum]
  | cons w l ih =>
    have h1 := ih fun x hx => h x (by simp [hx])
    have h2 := h w (by simp)
    simp only [shareSum, List.map_cons, List.sum_cons, List.length_cons] at h1 ⊢
    omega
theorem popN_le (m : BitVec 64) (n : Nat) : popN m n ≤ n := by
  unfold popN; exact Nat.le_trans List.countP_le_length (by simp)
theorem wholes_mem {p : Plan} {c : Int} {w : Want} (h : w ∈ p.wholes c) : ∃ x ∈ p.places, w.share = x.share ∧ w.unit = x.unit := by
  unfold Plan.wholes at h
  rw [List.mem_map] at h
  obtain ⟨x, hx, rfl⟩ := h
  exact ⟨x, (List.mem_filter.1 hx).1, rfl, rfl⟩
theorem wholes_len (p : Plan) (c : Int) : (p.wholes c).length ≤ p.places.length := by
  unfold Plan.wholes; rw [List.length_map]; exact List.length_filter_le _ _
open Classical in
theorem s119 (p : Plan) (x : Place) (hx : x.pieces.length ≤ 20) : Spec prog 119 [p.tv, x.tv] [] (tB (decide (x.ok p))) [] := by
  refine spec_s is119 mixed rfl (V_x ?_)
  repeat' (conv => whnf
           first | refine Frz.own ?_ | refine Get.mk _ rfl ?_ | refine Get.mk _ (map_geti (by omega)) ?_ | refine Get.mk _ (map_getp (by omega) (by omega)) ?_ | refine Get.mk _ (map_get (by omega)) ?_ | refine Bv2.mk _ _ rfl rfl ?_ | refine Bv1.mk _ rfl ?_ | refine Wr.mk _ (wrap_i64 (by omega) (by omega)) ?_ | refine Wr.mk _ rfl ?_ | refine And.intro len_map ?_ | refine And.intro (leX_refl _) ?_ | refine And.intro rfl ?_ | refine And.intro (leO_some _) ?_ | (refine And.intro (fun h => absurd h (by decide)) (fun h => ?_); clear h) | (refine And.intro (fun h => ?_) (fun h => absurd h (by decide)); clear h) | (with_reducible first | refine sp1 (fun h => ?_) (fun h => ?_) | refine sp2 (fun h => ?_) (fun h => ?_) | refine sp3 (fun h => ?_) (fun h => ?_) | refine sp4 (fun h => ?_) (fun h => ?_) | refine sp5 (fun h => ?_) (fun h => ?_) | refine sp6 (fun h => ?_) (fun h => ?_)) | with_reducible refine And.intro (fun h => ?_) (fun h => ?_) | refine And.intro (Int.natCast_nonneg _) ?_ | refine And.intro (by omega) ?_ | refine And.intro (by decide) ?_ | refine Lst.mk _ rfl ?_ | refine Or.inr (Or.inl ⟨_, _, s123 _, leL_refl _, rfl, rfl, ?_⟩) | refine Or.inr (Or.inl ⟨_, _, s149 _, leL_refl _, rfl, rfl, ?_⟩) | refine Or.inr (Or.inl ⟨_, _, s150 p x hx, leL_refl _, rfl, rfl, ?_⟩) | refine Or.inr (Or.inl ⟨_, _, s108 _ _, leL_refl _, rfl, rfl, ?_⟩) | refine And.intro trivial ?_ | exact trivial | exact leX_refl _ | refine weak_fr ?_ ?_ rfl | refine And.intro ?_ ?_ | fail)
  all_goals refine leB ?_
  all_goals rw [Bool.eq_iff_iff, decide_eq_true_eq, Place.ok, sp_iff, ← kind_is]
  all_goals have hsp := nil_split (x := x)
  all_goals grind

open Classical in
theorem s122 (p : Plan) (c : Int) (hp : p.light) (hf : 0 ≤ p.frame ∧ p.frame ≤ 64) (hs : ∀ x ∈ p.places, 0 ≤ x.share ∧ x.share ≤ 64) : Spec prog 122 [p.tv, tI c] [] (tI (p.frame - p.load c)) [] := by
  refine spec_s is122 mixed rfl (V_x ?_)
  have hpop := popN_le (p.windows c) 64
  have hlen := wholes_len p c
  have hsh : ∀ w ∈ p.wholes c, 0 ≤ w.share ∧ w.share ≤ 64 := fun w hw => by
    obtain ⟨x, hx, h1, _⟩ := wholes_mem hw
    rw [h1]; exact hs x hx
  have hp1 := hp.1
  have hl : ((p.wholes c).map Want.tv).length = (p.wholes c).length := List.length_map _
  repeat' (conv => whnf
           first | refine Frz.own ?_ | refine Get.mk _ rfl ?_ | refine Get.mk _ (map_geti (by omega)) ?_ | refine Get.mk _ (map_getp (by omega) (by omega)) ?_ | refine Get.mk _ (map_get (by omega)) ?_ | refine Bv2.mk _ _ rfl rfl ?_ | refine Bv1.mk _ rfl ?_ | refine Wr.mk _ (wrap_i64 (by omega) (by omega)) ?_ | refine Wr.mk _ rfl ?_ | refine And.intro len_map ?_ | refine And.intro (leX_refl _) ?_ | refine And.intro rfl ?_ | refine And.intro (leO_some _) ?_ | (refine And.intro (fun h => absurd h (by decide)) (fun h => ?_); clear h) | (refine And.intro (fun h => ?_) (fun h => absurd h (by decide)); clear h) | (with_reducible first | refine sp1 (fun h => ?_) (fun h => ?_) | refine sp2 (fun h => ?_) (fun h => ?_) | refine sp3 (fun h => ?_) (fun h => ?_) | refine sp4 (fun h => ?_) (fun h => ?_) | refine sp5 (fun h => ?_) (fun h => ?_) | refine sp6 (fun h => ?_) (fun h => ?_)) | with_reducible refine And.intro (fun h => ?_) (fun h => ?_) | refine And.intro (Int.natCast_nonneg _) ?_ | refine And.intro (by omega) ?_ | refine And.intro (by decide) ?_ | refine Lst.mk _ rfl ?_ | refine Or.inr (Or.inl ⟨_, _, s105 _, leL_refl _, rfl, rfl, ?_⟩) | refine Or.inr (Or.inl ⟨_, _, s151 _ _ hp, leL_refl _, rfl, rfl, ?_⟩) | refine Or.inr (Or.inl ⟨_, _, s142 _ _ hp, leL_refl _, rfl, rfl, ?_⟩) | refine And.intro trivial ?_ | exact trivial | exact leX_refl _ | refine weak_fr ?_ ?_ rfl | refine And.intro ?_ ?_ | fail)
  refine V_up (p.wholes c).length (fun _ => True) (fun i => ([(5, tI (p.frame - (popN (p.windows c) 64 : Nat) - shareSum ((p.wholes c).take i))), (17, .s 2 ((p.wholes c).map Want.tv)), (18, tI ((p.wholes c).length : Nat)), (19, tI (i : Nat))], [])) trivial ?_ ?_
  · repeat' (conv => whnf
             first | refine Frz.own ?_ | refine Get.mk _ rfl ?_ | refine Get.mk _ (map_geti (by omega)) ?_ | refine Get.mk _ (map_getp (by omega) (by omega)) ?_ | refine Get.mk _ (map_get (by omega)) ?_ | refine Bv2.mk _ _ rfl rfl ?_ | refine Bv1.mk _ rfl ?_ | refine Wr.mk _ (wrap_i64 (by omega) (by omega)) ?_ | refine Wr.mk _ rfl ?_ | refine And.intro len_map ?_ | refine And.intro (leX_refl _) ?_ | refine And.intro rfl ?_ | refine And.intro (leO_some _) ?_ | (refine And.intro (fun h => absurd h (by decide)) (fun h => ?_); clear h) | (refine And.intro (fun h => ?_) (fun h => absurd h (by decide)); clear h) | (with_reducible first | refine sp1 (fun h => ?_) (fun h => ?_) | refine sp2 (fun h => ?_) (fun h => ?_) | refine sp3 (fun h => ?_) (fun h => ?_) | refine sp4 (fun h => ?_) (fun h => ?_) | refine sp5 (fun h => ?_) (fun h => ?_) | refine sp6 (fun h => ?_) (fun h => ?_)) | with_reducible refine And.intro (fun h => ?_) (fun h => ?_) | refine And.intro (Int.natCast_nonneg _) ?_ | refine And.intro (by omega) ?_ | refine And.intro (by decide) ?_ | refine Lst.mk _ rfl ?_ | refine And.intro trivial ?_ | exact trivial | exact leX_refl _ | refine weak_fr ?_ ?_ rfl | refine And.intro ?_ ?_ | fail)
    refine leI ?_
    simp [shareSum]
  rintro i hi -
  have h1 := shareSum_le (l := (p.wholes c).take i) fun w hw => hsh w (List.mem_of_mem_take hw)
  rw [List.length_take] at h1
  refine V_x ?_
  rcases Nat.lt_or_ge i (p.wholes c).length with hlt | hge
  · have h2 := hsh _ (List.getElem_mem hlt)
    have h3 := shareSum_succ hlt
    repeat' (conv => whnf
             first | refine Frz.own ?_ | refine Get.mk _ rfl ?_ | refine Get.mk _ (map_geti (by omega)) ?_ | refine Get.mk _ (map_getp (by omega) (by omega)) ?_ | refine Get.mk _ (map_get (by omega)) ?_ | refine Bv2.mk _ _ rfl rfl ?_ | refine Bv1.mk _ rfl ?_ | refine Wr.mk _ (wrap_i64 (by omega) (by omega)) ?_ | refine Wr.mk _ rfl ?_ | refine And.intro len_map ?_ | refine And.intro (leX_refl _) ?_ | refine And.intro rfl ?_ | refine And.intro (leO_some _) ?_ | (refine And.intro (fun h => absurd h (by decide)) (fun h => ?_); clear h) | (refine And.intro (fun h => ?_) (fun h => absurd h (by decide)); clear h) | (with_reducible first | refine sp1 (fun h => ?_) (fun h => ?_) | refine sp2 (fun h => ?_) (fun h => ?_) | refine sp3 (fun h => ?_) (fun h => ?_) | refine sp4 (fun h => ?_) (fun h => ?_) | refine sp5 (fun h => ?_) (fun h => ?_) | refine sp6 (fun h => ?_) (fun h => ?_)) | with_reducible refine And.intro (fun h => ?_) (fun h => ?_) | refine And.intro (Int.natCast_nonneg _) ?_ | refine And.intro (by omega) ?_ | refine And.intro (by decide) ?_ | refine Lst.mk _ rfl ?_ | refine And.intro trivial ?_ | exact trivial | exact leX_refl _ | refine weak_fr ?_ ?_ rfl | refine And.intro ?_ ?_ | fail)
    · refine leI ?_
      rw [h3]; omega
    · exfalso; omega
  · repeat' (conv => whnf
             first | refine Frz.own ?_ | refine Get.mk _ rfl ?_ | refine Get.mk _ (map_geti (by omega)) ?_ | refine Get.mk _ (map_getp (by omega) (by omega)) ?_ | refine Get.mk _ (map_get (by omega)) ?_ | refine Bv2.mk _ _ rfl rfl ?_ | refine Bv1.mk _ rfl ?_ | refine Wr.mk _ (wrap_i64 (by omega) (by omega)) ?_ | refine Wr.mk _ rfl ?_ | refine And.intro len_map ?_ | refine And.intro (leX_refl _) ?_ | refine And.intro rfl ?_ | refine And.intro (leO_some _) ?_ | (refine And.intro (fun h => absurd h (by decide)) (fun h => ?_); clear h) | (refine And.intro (fun h => ?_) (fun h => absurd h (by decide)); clear h) | (with_reducible first | refine sp1 (fun h => ?_) (fun h => ?_) | refine sp2 (fun h => ?_) (fun h => ?_) | refine sp3 (fun h => ?_) (fun h => ?_) | refine sp4 (fun h => ?_) (fun h => ?_) | refine sp5 (fun h => ?_) (fun h => ?_) | refine sp6 (fun h => ?_) (fun h => ?_)) | with_reducible refine And.intro (fun h => ?_) (fun h => ?_) | refine And.intro (Int.natCast_nonneg _) ?_ | refine And.intro (by omega) ?_ | refine And.intro (by decide) ?_ | refine Lst.mk _ rfl ?_ | refine And.intro trivial ?_ | exact trivial | exact leX_refl _ | refine weak_fr ?_ ?_ rfl | refine And.intro ?_ ?_ | fail)
    refine leI ?_
    rw [List.take_of_length_le hge]
    unfold Plan.load; omega

end Go.Proofs.Ytjmjolefhcjedaa.Vc

namespace Go.Proofs.Ytjmjolefhcjedaa.Vc
open Go Go.RowKit Go.Proofs.Try
set_option maxRecDepth 20000

def cntP (F : List Piece) (c t : Int) : Nat := F.countP fun y => decide (y.core = c) && hasT y.ticks t
def ap (F : List Piece) : Prop := ∀ c : Nat, c < 16 → ∀ t : Nat, t < 64 → cntP F c t ≤ 1
theorem ap_mono {F G : List Piece} (h : ap (F ++ G)) : ap F := fun c hc t ht => Nat.le_trans (by unfold cntP; rw [List.countP_append]; omega) (h c hc t ht)
theorem cntP_pos (F : List Piece) (c t : Int) : hasT (orAt c 0#64 F) t = decide (0 < cntP F c t) := by
  rw [hasT_orAt, hasT_zero, Bool.false_or, Bool.eq_iff_iff, decide_eq_true_eq, cntP, List.countP_pos_iff, List.any_eq_true]
theorem ap_snoc {F : List Piece} {y : Piece} (h0 : 0 ≤ y.core) (h1 : y.core ≤ 15) (h : ap F) : ap (F ++ [y]) ↔ orAt y.core 0#64 F &&& y.ticks = 0#64 := by
  rw [and_zero]
  constructor
  · intro h2 t ht ⟨h3, h4⟩
    have h5 := h2 y.core.toNat (by omega) t ht
    rw [cntP_pos, decide_eq_true_eq] at h3
    have e : ((y.core.toNat : Nat) : Int) = y.core := by omega
    rw [e] at h5
    unfold cntP at h5 h3
    rw [List.countP_append] at h5
    have h6 : [y].countP (fun y_1 => decide (y_1.core = y.core) && hasT y_1.ticks t) = 1 := by simp [h4]
    omega
  · intro h2 c hc t ht
    have h3 := h c hc t ht
    unfold cntP at h3 ⊢
    rw [List.countP_append, List.countP_cons, List.countP_nil]
    by_cases h4 : y.core = c
    · by_cases h5 : hasT y.ticks t = true
      · have h6 := h2 t ht
        rw [cntP_pos, decide_eq_true_eq, h4] at h6
        unfold cntP at h6
        have h7 : ¬ 0 < List.countP (fun y => decide (y.core = (c : Int)) && hasT y.ticks t) F := fun h => h6 ⟨h, h5⟩
        have h8 : List.countP (fun y => decide (y.core = (c : Int)) && hasT y.ticks t) F = 0 := by omega
        rw [h8]; simp [h4, h5]
      · simp [h4, h5]; exact h3
    · simp [h4]; exact h3
def flatTo (l : List Place) (i j : Nat) : List Piece := (l.take i).flatMap Place.pieces ++ ((l[i]?).elim [] fun x => x.pieces.take j)
theorem flatTo_succ {l : List Place} {i j : Nat} (hi : i < l.length) (hj : j < l[i].pieces.length) : flatTo l i (j + 1) = flatTo l i j ++ [l[i].pieces[j]] := by
  unfold flatTo
  rw [List.getElem?_eq_getElem hi, Option.elim_some, Option.elim_some, take_succ' hj, List.append_assoc]
theorem flatTo_next {l : List Place} {i j : Nat} (hi : i < l.length) (hj : l[i].pieces.length ≤ j) : flatTo l i j = flatTo l (i + 1) 0 := by
  unfold flatTo
  rw [List.getElem?_eq_getElem hi, Option.elim_some, List.take_of_length_le hj, take_succ' hi, List.flatMap_append]
  cases l[i + 1]? <;> simp
theorem flatTo_end {l : List Place} {i : Nat} (hi : l.length ≤ i) : flatTo l i 0 = l.flatMap Place.pieces := by
  unfold flatTo
  rw [List.take_of_length_le hi, List.getElem?_eq_none hi]; simp
theorem flatTo_sub {l : List Place} {i j : Nat} (hi : i < l.length) (_hj : j < l[i].pieces.length) : ∃ G, l.flatMap Place.pieces = flatTo l i (j + 1) ++ G := by
  refine ⟨l[i].pieces.drop (j + 1) ++ (l.drop (i + 1)).flatMap Place.pieces, ?_⟩
  unfold flatTo
  rw [List.getElem?_eq_getElem hi, Option.elim_some, List.append_assoc, ← List.append_assoc (l[i].pieces.take (j + 1)), List.take_append_drop]
  conv => lhs; rw [← List.take_append_drop i l, List.drop_eq_getElem_cons hi, List.flatMap_append, List.flatMap_cons]
theorem get_met {f : Nat → TV} {c : Int} (h0 : 0 ≤ c) (h1 : c ≤ 15) : (((List.range 16).map f).drop (0 + c.toNat * 1))[0]? = some (f c.toNat) := by
  rw [List.getElem?_drop, List.getElem?_map, List.getElem?_range (by omega)]
  simp
theorem set_met {f g : Nat → TV} {c : Int} {v : TV} (h0 : 0 ≤ c) (h1 : c ≤ 15) (hv : v = g c.toNat) (h : ∀ k, k < 16 → k ≠ c.toNat → f k = g k) : setL ((List.range 16).map f) (0 + c.toNat * 1) [v] = (List.range 16).map g := by
  unfold setL
  refine List.ext_getElem (by simp; omega) fun k h2 h3 => ?_
  simp at h3
  simp only [List.length_cons, List.length_nil, Nat.zero_add, Nat.mul_one]
  rw [List.getElem_append]
  split
  · rename_i h4
    rw [List.getElem_append]
    split
    · rename_i h5
      simp at h5
      simp only [List.getElem_take, List.getElem_map, List.getElem_range]
      exact h k h3 (by omega)
    · rename_i h5
      simp at h4 h5
      have : k = c.toNat := by omega
      subst this
      simp [hv]
  · rename_i h4
    simp at h4
    simp only [List.getElem_drop, List.getElem_map, List.getElem_range]
    have e : c.toNat + 1 + (k - (List.take c.toNat (List.map f (List.range 16)) ++ [v]).length) = k := by simp; omega
    rw [e]
    exact h k h3 (by omega)
theorem orAt_snoc (c : Int) (F : List Piece) (y : Piece) : orAt c 0#64 (F ++ [y]) = if y.core = c then orAt c 0#64 F ||| y.ticks else orAt c 0#64 F := by
  unfold orAt; rw [List.foldl_append]; rfl
def metL (F : List Piece) : List TV := (List.range 16).map fun c : Nat => tU (orAt c 0#64 F)

open Classical in
theorem s120 (p : Plan) (hp : p.light) (hc : ∀ x ∈ p.places, ∀ y ∈ x.pieces, 0 ≤ y.core ∧ y.core ≤ 15) : Spec prog 120 [p.tv] [] (tB (decide (ap (p.places.flatMap Place.pieces)))) [] := by
  obtain ⟨hp1, hp2⟩ := hp
  refine spec_s is120 mixed rfl (V_x ?_)
  repeat' (conv => whnf
           first | refine Frz.own ?_ | refine Get.mk _ rfl ?_ | refine Get.mk _ (map_geti (by omega)) ?_ | refine Get.mk _ (map_getp (by omega) (by omega)) ?_ | refine Get.mk _ (map_get (by omega)) ?_ | refine Bv2.mk _ _ rfl rfl ?_ | refine Bv1.mk _ rfl ?_ | refine Wr.mk _ (wrap_i64 (by omega) (by omega)) ?_ | refine Wr.mk _ rfl ?_ | refine And.intro len_map ?_ | refine And.intro (leX_refl _) ?_ | refine And.intro rfl ?_ | refine And.intro (leO_some _) ?_ | (refine And.intro (fun h => absurd h (by decide)) (fun h => ?_); clear h) | (refine And.intro (fun h => ?_) (fun h => absurd h (by decide)); clear h) | (with_reducible first | refine sp1 (fun h => ?_) (fun h => ?_) | refine sp2 (fun h => ?_) (fun h => ?_) | refine sp3 (fun h => ?_) (fun h => ?_) | refine sp4 (fun h => ?_) (fun h => ?_) | refine sp5 (fun h => ?_) (fun h => ?_) | refine sp6 (fun h => ?_) (fun h => ?_)) | with_reducible refine And.intro (fun h => ?_) (fun h => ?_) | refine And.intro (Int.natCast_nonneg _) ?_ | refine And.intro (by omega) ?_ | refine And.intro (by decide) ?_ | refine Lst.mk _ rfl ?_ | refine And.intro trivial ?_ | exact trivial | exact leX_refl _ | refine weak_fr ?_ ?_ rfl | refine And.intro ?_ ?_ | fail)
  refine V_up p.places.length (fun i => Fct (ap (flatTo p.places i 0))) (fun i => ([(3, .p 64 0 0), (9, .s 4 (p.places.map Place.tv)), (10, tI (p.places.length : Nat)), (11, tI (i : Nat))], [(64, .var 163 (.a (metL (flatTo p.places i 0))))])) ⟨fun c _ t _ => by simp [flatTo, cntP]; cases p.places[0]? <;> simp⟩ ?_ ?_
  · repeat' (conv => whnf
             first | refine Frz.own ?_ | refine Get.mk _ rfl ?_ | refine Get.mk _ (map_geti (by omega)) ?_ | refine Get.mk _ (map_getp (by omega) (by omega)) ?_ | refine Get.mk _ (map_get (by omega)) ?_ | refine Bv2.mk _ _ rfl rfl ?_ | refine Bv1.mk _ rfl ?_ | refine Wr.mk _ (wrap_i64 (by omega) (by omega)) ?_ | refine Wr.mk _ rfl ?_ | refine And.intro len_map ?_ | refine And.intro (leX_refl _) ?_ | refine And.intro rfl ?_ | refine And.intro (leO_some _) ?_ | (refine And.intro (fun h => absurd h (by decide)) (fun h => ?_); clear h) | (refine And.intro (fun h => ?_) (fun h => absurd h (by decide)); clear h) | (with_reducible first | refine sp1 (fun h => ?_) (fun h => ?_) | refine sp2 (fun h => ?_) (fun h => ?_) | refine sp3 (fun h => ?_) (fun h => ?_) | refine sp4 (fun h => ?_) (fun h => ?_) | refine sp5 (fun h => ?_) (fun h => ?_) | refine sp6 (fun h => ?_) (fun h => ?_)) | with_reducible refine And.intro (fun h => ?_) (fun h => ?_) | refine And.intro (Int.natCast_nonneg _) ?_ | refine And.intro (by omega) ?_ | refine And.intro (by decide) ?_ | refine Lst.mk _ rfl ?_ | refine And.intro trivial ?_ | exact trivial | exact leX_refl _ | refine weak_fr ?_ ?_ rfl | refine And.intro ?_ ?_ | fail)
    all_goals refine leU ?_
    all_goals rw [show flatTo p.places 0 0 = [] by unfold flatTo; cases p.places[0]? <;> simp]
    all_goals rfl
  rintro i hi ⟨hI⟩
  refine V_x ?_
  rcases Nat.lt_or_ge i p.places.length with hlt | hge
  · have hx := hp2 _ (List.getElem_mem hlt)
    repeat' (conv => whnf
             first | refine Frz.own ?_ | refine Get.mk _ rfl ?_ | refine Get.mk _ (map_geti (by omega)) ?_ | refine Get.mk _ (map_getp (by omega) (by omega)) ?_ | refine Get.mk _ (map_get (by omega)) ?_ | refine Bv2.mk _ _ rfl rfl ?_ | refine Bv1.mk _ rfl ?_ | refine Wr.mk _ (wrap_i64 (by omega) (by omega)) ?_ | refine Wr.mk _ rfl ?_ | refine And.intro len_map ?_ | refine And.intro (leX_refl _) ?_ | refine And.intro rfl ?_ | refine And.intro (leO_some _) ?_ | (refine And.intro (fun h => absurd h (by decide)) (fun h => ?_); clear h) | (refine And.intro (fun h => ?_) (fun h => absurd h (by decide)); clear h) | (with_reducible first | refine sp1 (fun h => ?_) (fun h => ?_) | refine sp2 (fun h => ?_) (fun h => ?_) | refine sp3 (fun h => ?_) (fun h => ?_) | refine sp4 (fun h => ?_) (fun h => ?_) | refine sp5 (fun h => ?_) (fun h => ?_) | refine sp6 (fun h => ?_) (fun h => ?_)) | with_reducible refine And.intro (fun h => ?_) (fun h => ?_) | refine And.intro (Int.natCast_nonneg _) ?_ | refine And.intro (by omega) ?_ | refine And.intro (by decide) ?_ | refine Lst.mk _ rfl ?_ | refine And.intro trivial ?_ | exact trivial | exact leX_refl _ | refine weak_fr ?_ ?_ rfl | refine And.intro ?_ ?_ | fail)
    · refine V_up p.places[i].pieces.length (fun j => Fct (ap (flatTo p.places i j))) (fun j => ([(3, .p 64 0 0), (9, .s 4 (p.places.map Place.tv)), (10, tI (p.places.length : Nat)), (11, tI (i : Nat)), (16, .s 2 (p.places[i].pieces.map Piece.tv)), (17, tI (p.places[i].pieces.length : Nat)), (18, tI (j : Nat))], [(64, .var 163 (.a (metL (flatTo p.places i j))))])) ⟨hI⟩ ?_ ?_
      · repeat' (conv => whnf
                 first | refine Frz.own ?_ | refine Get.mk _ rfl ?_ | refine Get.mk _ (map_geti (by omega)) ?_ | refine Get.mk _ (map_getp (by omega) (by omega)) ?_ | refine Get.mk _ (map_get (by omega)) ?_ | refine Bv2.mk _ _ rfl rfl ?_ | refine Bv1.mk _ rfl ?_ | refine Wr.mk _ (wrap_i64 (by omega) (by omega)) ?_ | refine Wr.mk _ rfl ?_ | refine And.intro len_map ?_ | refine And.intro (leX_refl _) ?_ | refine And.intro rfl ?_ | refine And.intro (leO_some _) ?_ | (refine And.intro (fun h => absurd h (by decide)) (fun h => ?_); clear h) | (refine And.intro (fun h => ?_) (fun h => absurd h (by decide)); clear h) | (with_reducible first | refine sp1 (fun h => ?_) (fun h => ?_) | refine sp2 (fun h => ?_) (fun h => ?_) | refine sp3 (fun h => ?_) (fun h => ?_) | refine sp4 (fun h => ?_) (fun h => ?_) | refine sp5 (fun h => ?_) (fun h => ?_) | refine sp6 (fun h => ?_) (fun h => ?_)) | with_reducible refine And.intro (fun h => ?_) (fun h => ?_) | refine And.intro (Int.natCast_nonneg _) ?_ | refine And.intro (by omega) ?_ | refine And.intro (by decide) ?_ | refine Lst.mk _ rfl ?_ | refine And.intro trivial ?_ | exact trivial | exact leX_refl _ | refine weak_fr ?_ ?_ rfl | refine And.intro ?_ ?_ | fail)
      rintro j hj ⟨hJ⟩
      refine V_x ?_
      rcases Nat.lt_or_ge j p.places[i].pieces.length with hlt2 | hge2
      · have hcc := hc _ (List.getElem_mem hlt) _ (List.getElem_mem hlt2)
        have hs := flatTo_succ hlt hlt2
        have ha := ap_snoc hcc.1 hcc.2 hJ
        obtain ⟨G, hG⟩ := flatTo_sub hlt hlt2
        have ec : ((p.places[i].pieces[j].core.toNat : Nat) : Int) = p.places[i].pieces[j].core := by omega
        have hset := set_met (f := fun c : Nat => tU (orAt c 0#64 (flatTo p.places i j))) (g := fun c : Nat => tU (orAt c 0#64 (flatTo p.places i (j + 1)))) (v := tU (orAt (p.places[i].pieces[j].core.toNat : Nat) 0#64 (flatTo p.places i j) ||| p.places[i].pieces[j].ticks)) hcc.1 hcc.2 (by show _ = tU _; rw [hs, orAt_snoc, if_pos ec.symm]) (fun k hk hne => by show tU _ = tU _; rw [hs, orAt_snoc, if_neg (by omega)])
        repeat' (conv => whnf
                 first | refine Frz.own ?_ | refine Get.mk _ rfl ?_ | refine Get.mk _ (map_geti (by omega)) ?_ | refine Get.mk _ (map_getp (by omega) (by omega)) ?_ | refine Get.mk _ (map_get (by omega)) ?_ | refine Bv2.mk _ _ rfl rfl ?_ | refine Bv1.mk _ rfl ?_ | refine Wr.mk _ (wrap_i64 (by omega) (by omega)) ?_ | refine Wr.mk _ rfl ?_ | refine And.intro len_map ?_ | refine And.intro (leX_refl _) ?_ | refine And.intro rfl ?_ | refine And.intro (leO_some _) ?_ | (refine And.intro (fun h => absurd h (by decide)) (fun h => ?_); clear h) | (refine And.intro (fun h => ?_) (fun h => absurd h (by decide)); clear h) | (with_reducible first | refine sp1 (fun h => ?_) (fun h => ?_) | refine sp2 (fun h => ?_) (fun h => ?_) | refine sp3 (fun h => ?_) (fun h => ?_) | refine sp4 (fun h => ?_) (fun h => ?_) | refine sp5 (fun h => ?_) (fun h => ?_) | refine sp6 (fun h => ?_) (fun h => ?_)) | with_reducible refine And.intro (fun h => ?_) (fun h => ?_) | refine And.intro (Int.natCast_nonneg _) ?_ | refine And.intro (by omega) ?_ | refine And.intro (by decide) ?_ | refine Lst.mk _ (hset) ?_ | refine Get.mk _ (get_met hcc.1 hcc.2) ?_ | refine Lst.mk _ rfl ?_ | refine And.intro trivial ?_ | exact trivial | exact leX_refl _ | refine weak_fr ?_ ?_ rfl | refine And.intro ?_ ?_ | fail)
        all_goals first
          | (exfalso; clear hJ hI ha; omega)
          | (refine leB ?_
             rw [eq_comm, decide_eq_false_iff_not, hG]
             intro h5
             have h6 := ap_mono h5
             rw [hs, ha] at h6
             grind)
          | (refine Nat.ble_eq_true_of_le ?_
             show 0 + p.places[i].pieces[j].core.toNat * 1 + 1 ≤ 16
             omega)
          | (refine Fct.mk ?_
             rw [hs, ha]
             grind)
      · have en := flatTo_next hlt hge2
        repeat' (conv => whnf
                 first | refine Frz.own ?_ | refine Get.mk _ rfl ?_ | refine Get.mk _ (map_geti (by omega)) ?_ | refine Get.mk _ (map_getp (by omega) (by omega)) ?_ | refine Get.mk _ (map_get (by omega)) ?_ | refine Bv2.mk _ _ rfl rfl ?_ | refine Bv1.mk _ rfl ?_ | refine Wr.mk _ (wrap_i64 (by omega) (by omega)) ?_ | refine Wr.mk _ rfl ?_ | refine And.intro len_map ?_ | refine And.intro (leX_refl _) ?_ | refine And.intro rfl ?_ | refine And.intro (leO_some _) ?_ | (refine And.intro (fun h => absurd h (by decide)) (fun h => ?_); clear h) | (refine And.intro (fun h => ?_) (fun h => absurd h (by decide)); clear h) | (with_reducible first | refine sp1 (fun h => ?_) (fun h => ?_) | refine sp2 (fun h => ?_) (fun h => ?_) | refine sp3 (fun h => ?_) (fun h => ?_) | refine sp4 (fun h => ?_) (fun h => ?_) | refine sp5 (fun h => ?_) (fun h => ?_) | refine sp6 (fun h => ?_) (fun h => ?_)) | with_reducible refine And.intro (fun h => ?_) (fun h => ?_) | refine And.intro (Int.natCast_nonneg _) ?_ | refine And.intro (by omega) ?_ | refine And.intro (by decide) ?_ | refine Lst.mk _ rfl ?_ | refine And.intro trivial ?_ | exact trivial | exact leX_refl _ | refine weak_fr ?_ ?_ rfl | refine And.intro ?_ ?_ | fail)
        all_goals first
          | (refine Fct.mk ?_; rw [← en]; exact hJ)
          | (refine leU ?_; rw [en])
          | (exfalso; clear hJ hI; omega)
    all_goals (exfalso; clear hI; omega)
  · repeat' (conv => whnf
             first | refine Frz.own ?_ | refine Get.mk _ rfl ?_ | refine Get.mk _ (map_geti (by omega)) ?_ | refine Get.mk _ (map_getp (by omega) (by omega)) ?_ | refine Get.mk _ (map_get (by omega)) ?_ | refine Bv2.mk _ _ rfl rfl ?_ | refine Bv1.mk _ rfl ?_ | refine Wr.mk _ (wrap_i64 (by omega) (by omega)) ?_ | refine Wr.mk _ rfl ?_ | refine And.intro len_map ?_ | refine And.intro (leX_refl _) ?_ | refine And.intro rfl ?_ | refine And.intro (leO_some _) ?_ | (refine And.intro (fun h => absurd h (by decide)) (fun h => ?_); clear h) | (refine And.intro (fun h => ?_) (fun h => absurd h (by decide)); clear h) | (with_reducible first | refine sp1 (fun h => ?_) (fun h => ?_) | refine sp2 (fun h => ?_) (fun h => ?_) | refine sp3 (fun h => ?_) (fun h => ?_) | refine sp4 (fun h => ?_) (fun h => ?_) | refine sp5 (fun h => ?_) (fun h => ?_) | refine sp6 (fun h => ?_) (fun h => ?_)) | with_reducible refine And.intro (fun h => ?_) (fun h => ?_) | refine And.intro (Int.natCast_nonneg _) ?_ | refine And.intro (by omega) ?_ | refine And.intro (by decide) ?_ | refine Lst.mk _ rfl ?_ | refine And.intro trivial ?_ | exact trivial | exact leX_refl _ | refine weak_fr ?_ ?_ rfl | refine And.intro ?_ ?_ | fail)
    all_goals first
      | (exfalso; clear hI; omega)
      | (refine leB ?_
         rw [eq_comm, decide_eq_true_eq, ← flatTo_end hge]
         exact hI)
theorem cntP_flat (p : Plan) (c t : Int) (hc : 0 ≤ c) : cntP (p.places.flatMap Place.pieces) c t = p.atc c t := by
  unfold cntP Plan.atc
  induction p.places with
  | nil => rfl
  | cons x l ih =>
    rw [List.flatMap_cons, List.countP_append, ih, List.map_cons, List.sum_cons]
    congr 1
    unfold Place.at
    refine List.countP_congr fun y _ => ?_
    have : decide (c < 0) = false := by simpa using hc
    simp [this]
theorem ap_iff (p : Plan) : ap (p.places.flatMap Place.pieces) ↔ ∀ c : Nat, c < 16 → ∀ t : Nat, t < 64 → p.atc c t ≤ 1 := by
  unfold ap
  refine forall_congr' fun c => forall_congr' fun _ => forall_congr' fun t => forall_congr' fun _ => ?_
  rw [cntP_flat p c t (by omega)]
end Go.Proofs.Ytjmjolefhcjedaa.Vc

namespace Go.Proofs.Ytjmjolefhcjedaa.Vc
open Go Go.RowKit Go.Proofs.Try
set_option maxRecDepth 20000

open Classical in
noncomputable def Plan.err (p : Plan) : Int := if p.right then 0 else 30
theorem err_no {p : Plan} (h : ¬ p.right) : p.err = 30 := if_neg h
theorem err_ok {p : Plan} (h : p.right) : p.err = 0 := if_pos h
theorem shr16 {c : BitVec 32} : c >>> 16 = 0#32 ↔ c.toNat ≤ 65535 := by
  rw [← BitVec.toNat_inj, BitVec.toNat_ushiftRight, Nat.shiftRight_eq_div_pow]
  simp; omega
theorem ok_core {p : Plan} {x : Place} (h : x.ok p) : ∀ y ∈ x.pieces, 0 ≤ y.core ∧ y.core ≤ 15 := by
  intro y hy
  obtain ⟨_, _, _, h4⟩ := h
  split at h4
  · rename_i e; rw [e] at hy; simp at hy
  · exact has_range (h4.1 y hy).1
theorem ok_step {p : Plan} {i : Nat} (hi : i < p.places.length) (h : (∀ x ∈ p.places.take i, x.ok p) ∧ (p.places.take i).Pairwise fun a b => a.unit < b.unit) :
    ((∀ x ∈ p.places.take (i + 1), x.ok p) ∧ (p.places.take (i + 1)).Pairwise fun a b => a.unit < b.unit) ↔ p.places[i].ok p ∧ ∀ h0 : 0 < i, p.places[i - 1].unit < p.places[i].unit := by
  rw [mem_snoc hi, pw_step hi h.2]
  constructor
  · rintro ⟨⟨_, h1⟩, h2⟩; exact ⟨h1, h2⟩
  · rintro ⟨h1, h2⟩; exact ⟨⟨h.1, h1⟩, h2⟩
theorem right_pre {p : Plan} (h : p.right) (i : Nat) : (∀ x ∈ p.places.take i, x.ok p) ∧ (p.places.take i).Pairwise fun a b => a.unit < b.unit :=
  ⟨fun x hx => h.ok x (List.mem_of_mem_take hx), pw_take i h.pw⟩
theorem coresI_len (p : Plan) : p.coresI.length ≤ 16 := Nat.le_trans (List.length_filter_le _ _) (by simp)

open Classical in
theorem s86 (p : Plan) (hp : p.light) : Spec prog 86 [p.tv] [] (tI p.err) [] := by
  have hp1 := hp.1
  have hp2 := hp.2
  have hcl := coresI_len p
  refine spec_s is86 mixed rfl (V_x ?_)
  repeat' (conv => whnf
           first | refine Frz.own ?_ | refine Get.mk _ rfl ?_ | refine Get.mk _ (map_geti (by omega)) ?_ | refine Get.mk _ (map_getp (by omega) (by omega)) ?_ | refine Get.mk _ (map_get (by omega)) ?_ | refine Bv2.mk _ _ rfl rfl ?_ | refine Bv1.mk _ rfl ?_ | refine Wr.mk _ (wrap_i64 (by omega) (by omega)) ?_ | refine Wr.mk _ rfl ?_ | refine And.intro len_map ?_ | refine And.intro (leX_refl _) ?_ | refine And.intro rfl ?_ | refine And.intro (leO_some _) ?_ | (refine And.intro (fun h => absurd h (by decide)) (fun h => ?_); clear h) | (refine And.intro (fun h => ?_) (fun h => absurd h (by decide)); clear h) | (with_reducible first | refine sp1 (fun h => ?_) (fun h => ?_) | refine sp2 (fun h => ?_) (fun h => ?_) | refine sp3 (fun h => ?_) (fun h => ?_) | refine sp4 (fun h => ?_) (fun h => ?_) | refine sp5 (fun h => ?_) (fun h => ?_) | refine sp6 (fun h => ?_) (fun h => ?_)) | with_reducible refine And.intro (fun h => ?_) (fun h => ?_) | refine And.intro (Int.natCast_nonneg _) ?_ | refine And.intro (by omega) ?_ | refine And.intro (by decide) ?_ | refine Lst.mk _ rfl ?_ | refine And.intro trivial ?_ | exact trivial | exact leX_refl _ | refine weak_fr ?_ ?_ rfl | refine And.intro ?_ ?_ | fail)
  · refine leI ?_
    rw [err_no fun h => ?_]
    have := h.cm
    rename_i h1
    exact h1 (shr16.2 this)
  · refine V_up p.places.length (fun i => Fct ((∀ x ∈ p.places.take i, x.ok p) ∧ (p.places.take i).Pairwise fun a b => a.unit < b.unit)) (fun i => ([(1, .p 32 0 0), (27, .s 4 (p.places.map Place.tv)), (28, tI (p.places.length : Nat)), (29, tI (i : Nat))], [(32, .var 25 p.tv)]))
      ⟨by simp, by simp⟩ ?_ ?_
    · repeat' (conv => whnf
               first | refine Frz.own ?_ | refine Get.mk _ rfl ?_ | refine Get.mk _ (map_geti (by omega)) ?_ | refine Get.mk _ (map_getp (by omega) (by omega)) ?_ | refine Get.mk _ (map_get (by omega)) ?_ | refine Bv2.mk _ _ rfl rfl ?_ | refine Bv1.mk _ rfl ?_ | refine Wr.mk _ (wrap_i64 (by omega) (by omega)) ?_ | refine Wr.mk _ rfl ?_ | refine And.intro len_map ?_ | refine And.intro (leX_refl _) ?_ | refine And.intro rfl ?_ | refine And.intro (leO_some _) ?_ | (refine And.intro (fun h => absurd h (by decide)) (fun h => ?_); clear h) | (refine And.intro (fun h => ?_) (fun h => absurd h (by decide)); clear h) | (with_reducible first | refine sp1 (fun h => ?_) (fun h => ?_) | refine sp2 (fun h => ?_) (fun h => ?_) | refine sp3 (fun h => ?_) (fun h => ?_) | refine sp4 (fun h => ?_) (fun h => ?_) | refine sp5 (fun h => ?_) (fun h => ?_) | refine sp6 (fun h => ?_) (fun h => ?_)) | with_reducible refine And.intro (fun h => ?_) (fun h => ?_) | refine And.intro (Int.natCast_nonneg _) ?_ | refine And.intro (by omega) ?_ | refine And.intro (by decide) ?_ | refine Lst.mk _ rfl ?_ | refine And.intro trivial ?_ | exact trivial | exact leX_refl _ | refine weak_fr ?_ ?_ rfl | refine And.intro ?_ ?_ | fail)
    rintro i hi ⟨hI⟩
    refine V_x ?_
    rcases Nat.lt_or_ge i p.places.length with hlt | hge
    · have hx := hp2 _ (List.getElem_mem hlt)
      have hst := ok_step hlt hI
      repeat' (conv => whnf
               first | refine Frz.own ?_ | refine Get.mk _ rfl ?_ | refine Get.mk _ (map_geti (by omega)) ?_ | refine Get.mk _ (map_getp (by omega) (by omega)) ?_ | refine Get.mk _ (map_get (by omega)) ?_ | refine Bv2.mk _ _ rfl rfl ?_ | refine Bv1.mk _ rfl ?_ | refine Wr.mk _ (wrap_i64 (by omega) (by omega)) ?_ | refine Wr.mk _ rfl ?_ | refine And.intro len_map ?_ | refine And.intro (leX_refl _) ?_ | refine And.intro rfl ?_ | refine And.intro (leO_some _) ?_ | (refine And.intro (fun h => absurd h (by decide)) (fun h => ?_); clear h) | (refine And.intro (fun h => ?_) (fun h => absurd h (by decide)); clear h) | (with_reducible first | refine sp1 (fun h => ?_) (fun h => ?_) | refine sp2 (fun h => ?_) (fun h => ?_) | refine sp3 (fun h => ?_) (fun h => ?_) | refine sp4 (fun h => ?_) (fun h => ?_) | refine sp5 (fun h => ?_) (fun h => ?_) | refine sp6 (fun h => ?_) (fun h => ?_)) | with_reducible refine And.intro (fun h => ?_) (fun h => ?_) | refine And.intro (Int.natCast_nonneg _) ?_ | refine And.intro (by omega) ?_ | refine And.intro (by decide) ?_ | refine Lst.mk _ rfl ?_ | refine Or.inr (Or.inl ⟨_, _, s119 p _ hx, leL_refl _, rfl, rfl, ?_⟩) | refine And.intro trivial ?_ | exact trivial | exact leX_refl _ | refine weak_fr ?_ ?_ rfl | refine And.intro ?_ ?_ | fail)
      all_goals first
        | (exfalso; clear hI hst; omega)
        | (refine leI ?_
           rw [err_no fun h => ?_]
           have h5 := hst.1 (right_pre h (i + 1))
           grind)
        | (refine Fct.mk ?_
           rw [hst]
           grind)
        | trace_state
    · rw [List.take_of_length_le hge] at hI
      have hc : ∀ x ∈ p.places, ∀ y ∈ x.pieces, 0 ≤ y.core ∧ y.core ≤ 15 := fun x hx => ok_core (hI.1 x hx)
      repeat' (conv => whnf
               first | refine Frz.own ?_ | refine Get.mk _ rfl ?_ | refine Get.mk _ (map_geti (by omega)) ?_ | refine Get.mk _ (map_getp (by omega) (by omega)) ?_ | refine Get.mk _ (map_get (by omega)) ?_ | refine Bv2.mk _ _ rfl rfl ?_ | refine Bv1.mk _ rfl ?_ | refine Wr.mk _ (wrap_i64 (by omega) (by omega)) ?_ | refine Wr.mk _ rfl ?_ | refine And.intro len_map ?_ | refine And.intro (leX_refl _) ?_ | refine And.intro rfl ?_ | refine And.intro (leO_some _) ?_ | (refine And.intro (fun h => absurd h (by decide)) (fun h => ?_); clear h) | (refine And.intro (fun h => ?_) (fun h => absurd h (by decide)); clear h) | (with_reducible first | refine sp1 (fun h => ?_) (fun h => ?_) | refine sp2 (fun h => ?_) (fun h => ?_) | refine sp3 (fun h => ?_) (fun h => ?_) | refine sp4 (fun h => ?_) (fun h => ?_) | refine sp5 (fun h => ?_) (fun h => ?_) | refine sp6 (fun h => ?_) (fun h => ?_)) | with_reducible refine And.intro (fun h => ?_) (fun h => ?_) | refine And.intro (Int.natCast_nonneg _) ?_ | refine And.intro (by omega) ?_ | refine And.intro (by decide) ?_ | refine Lst.mk _ rfl ?_ | refine Or.inr (Or.inl ⟨_, _, s120 p hp hc, leL_refl _, rfl, rfl, ?_⟩) | refine Or.inr (Or.inl ⟨_, _, s121 p hp, leL_refl _, rfl, rfl, ?_⟩) | refine Or.inr (Or.inl ⟨_, _, s73 p, leL_refl _, rfl, rfl, ?_⟩) | refine And.intro trivial ?_ | exact trivial | exact leX_refl _ | refine weak_fr ?_ ?_ rfl | refine And.intro ?_ ?_ | fail)
      · exfalso; omega
      · refine leI ?_
        rw [err_no fun h => ?_]
        have h5 := h.few
        have h6 : (p.coresI.map fun c => tI c).length = p.coresI.length := List.length_map _
        omega
      · rename_i hap
        have h6 : (p.coresI.map fun c => tI c).length = p.coresI.length := List.length_map _
        refine V_up p.coresI.length (fun j => Fct (∀ c ∈ p.coresI.take j, p.load c ≤ p.frame)) (fun j => ([(1, .p 32 0 0), (67, .s 1 (p.coresI.map fun c => tI c)), (68, tI (p.coresI.length : Nat)), (69, tI (j : Nat))], [(32, .var 25 p.tv)]))
          ⟨by simp⟩ ?_ ?_
        · repeat' (conv => whnf
                   first | refine Frz.own ?_ | refine Get.mk _ rfl ?_ | refine Get.mk _ (map_geti (by omega)) ?_ | refine Get.mk _ (map_getp (by omega) (by omega)) ?_ | refine Get.mk _ (map_get (by omega)) ?_ | refine Bv2.mk _ _ rfl rfl ?_ | refine Bv1.mk _ rfl ?_ | refine Wr.mk _ (wrap_i64 (by omega) (by omega)) ?_ | refine Wr.mk _ rfl ?_ | refine And.intro len_map ?_ | refine And.intro (leX_refl _) ?_ | refine And.intro rfl ?_ | refine And.intro (leO_some _) ?_ | (refine And.intro (fun h => absurd h (by decide)) (fun h => ?_); clear h) | (refine And.intro (fun h => ?_) (fun h => absurd h (by decide)); clear h) | (with_reducible first | refine sp1 (fun h => ?_) (fun h => ?_) | refine sp2 (fun h => ?_) (fun h => ?_) | refine sp3 (fun h => ?_) (fun h => ?_) | refine sp4 (fun h => ?_) (fun h => ?_) | refine sp5 (fun h => ?_) (fun h => ?_) | refine sp6 (fun h => ?_) (fun h => ?_)) | with_reducible refine And.intro (fun h => ?_) (fun h => ?_) | refine And.intro (Int.natCast_nonneg _) ?_ | refine And.intro (by omega) ?_ | refine And.intro (by decide) ?_ | refine Lst.mk _ rfl ?_ | refine And.intro trivial ?_ | exact trivial | exact leX_refl _ | refine weak_fr ?_ ?_ rfl | refine And.intro ?_ ?_ | fail)
        rintro j hj ⟨hJ⟩
        refine V_x ?_
        rcases Nat.lt_or_ge j p.coresI.length with hlt2 | hge2
        · have hms := mem_snoc hlt2 (P := fun c => p.load c ≤ p.frame)
          have hsh : ∀ x ∈ p.places, 0 ≤ x.share ∧ x.share ≤ 64 := fun x hx => by
            obtain ⟨_, h1, h2, _⟩ := hI.1 x hx; omega
          have hf : 0 ≤ p.frame ∧ p.frame ≤ 64 := by omega
          repeat' (conv => whnf
                   first | refine Frz.own ?_ | refine Get.mk _ rfl ?_ | refine Get.mk _ (map_geti (by omega)) ?_ | refine Get.mk _ (map_getp (by omega) (by omega)) ?_ | refine Get.mk _ (map_get (by omega)) ?_ | refine Bv2.mk _ _ rfl rfl ?_ | refine Bv1.mk _ rfl ?_ | refine Wr.mk _ (wrap_i64 (by omega) (by omega)) ?_ | refine Wr.mk _ rfl ?_ | refine And.intro len_map ?_ | refine And.intro (leX_refl _) ?_ | refine And.intro rfl ?_ | refine And.intro (leO_some _) ?_ | (refine And.intro (fun h => absurd h (by decide)) (fun h => ?_); clear h) | (refine And.intro (fun h => ?_) (fun h => absurd h (by decide)); clear h) | (with_reducible first | refine sp1 (fun h => ?_) (fun h => ?_) | refine sp2 (fun h => ?_) (fun h => ?_) | refine sp3 (fun h => ?_) (fun h => ?_) | refine sp4 (fun h => ?_) (fun h => ?_) | refine sp5 (fun h => ?_) (fun h => ?_) | refine sp6 (fun h => ?_) (fun h => ?_)) | with_reducible refine And.intro (fun h => ?_) (fun h => ?_) | refine And.intro (Int.natCast_nonneg _) ?_ | refine And.intro (by omega) ?_ | refine And.intro (by decide) ?_ | refine Lst.mk _ rfl ?_ | refine Or.inr (Or.inl ⟨_, _, s122 p _ hp hf hsh, leL_refl _, rfl, rfl, ?_⟩) | refine And.intro trivial ?_ | exact trivial | exact leX_refl _ | refine weak_fr ?_ ?_ rfl | refine And.intro ?_ ?_ | fail)
          all_goals first
            | (exfalso; clear hI hJ hms; omega)
            | (refine leI ?_
               rw [err_no fun h => ?_]
               have h5 := h.room _ (List.getElem_mem hlt2)
               omega)
            | (refine Fct.mk ?_
               rw [hms]
               exact ⟨hJ, by omega⟩)
            | trace_state
        · repeat' (conv => whnf
                   first | refine Frz.own ?_ | refine Get.mk _ rfl ?_ | refine Get.mk _ (map_geti (by omega)) ?_ | refine Get.mk _ (map_getp (by omega) (by omega)) ?_ | refine Get.mk _ (map_get (by omega)) ?_ | refine Bv2.mk _ _ rfl rfl ?_ | refine Bv1.mk _ rfl ?_ | refine Wr.mk _ (wrap_i64 (by omega) (by omega)) ?_ | refine Wr.mk _ rfl ?_ | refine And.intro len_map ?_ | refine And.intro (leX_refl _) ?_ | refine And.intro rfl ?_ | refine And.intro (leO_some _) ?_ | (refine And.intro (fun h => absurd h (by decide)) (fun h => ?_); clear h) | (refine And.intro (fun h => ?_) (fun h => absurd h (by decide)); clear h) | (with_reducible first | refine sp1 (fun h => ?_) (fun h => ?_) | refine sp2 (fun h => ?_) (fun h => ?_) | refine sp3 (fun h => ?_) (fun h => ?_) | refine sp4 (fun h => ?_) (fun h => ?_) | refine sp5 (fun h => ?_) (fun h => ?_) | refine sp6 (fun h => ?_) (fun h => ?_)) | with_reducible refine And.intro (fun h => ?_) (fun h => ?_) | refine And.intro (Int.natCast_nonneg _) ?_ | refine And.intro (by omega) ?_ | refine And.intro (by decide) ?_ | refine Lst.mk _ rfl ?_ | refine And.intro trivial ?_ | exact trivial | exact leX_refl _ | refine weak_fr ?_ ?_ rfl | refine And.intro ?_ ?_ | fail)
          all_goals first
            | (exfalso; clear hI hJ; omega)
            | (refine leI ?_
               rw [err_ok]
               rw [List.take_of_length_le hge2] at hJ
               exact ⟨by omega, by omega, by assumption, shr16.1 (by assumption), hI.1, hI.2, (ap_iff p).1 hap, by omega, hJ⟩)
      · refine leI ?_
        rw [err_no fun h5 => ?_]
        exact h ((ap_iff p).2 h5.apart)
  all_goals refine leI ?_
  · rw [err_no fun h => ?_]
    exact h.cs (by assumption)
  · rw [err_no fun h => ?_]
    have := h.hi; omega
  · rw [err_no fun h => ?_]
    have := h.lo; omega
end Go.Proofs.Ytjmjolefhcjedaa.Vc

namespace Go.Proofs.Ytjmjolefhcjedaa.Vc
open Go Go.RowKit Go.Proofs.Try
set_option maxRecDepth 20000

theorem half_i64 {m : Int} (h0 : 0 ≤ m) (h1 : m < 9223372036854775808) : IntKind.wrap .i64 (Int.ofNat (BitVec.ofInt 64 m >>> 1).toNat) = m / 2 := by
  have h2 : (BitVec.ofInt 64 m).toNat = m.toNat := by
    rw [BitVec.toNat_ofInt, Int.emod_eq_of_lt h0 (by show m < 18446744073709551616; omega)]
  rw [BitVec.toNat_ushiftRight, h2, Nat.shiftRight_eq_div_pow]
  show IntKind.wrap .i64 ((m.toNat / 2 : Nat) : Int) = _
  rw [wrap_i64 (by omega) (by omega)]; omega
def posOf (l : List Place) (u : Int) : Nat := l.findIdx fun x => decide (u ≤ x.unit)
theorem posOf_is {l : List Place} {u : Int} {i : Nat} (hi : i ≤ l.length) (h1 : ∀ k, ∀ hk : k < l.length, k < i → l[k].unit < u) (h2 : ∀ k, ∀ hk : k < l.length, i ≤ k → u ≤ l[k].unit) : posOf l u = i := by
  unfold posOf
  rcases Nat.lt_or_ge i l.length with h | h
  · rw [List.findIdx_eq h]
    exact ⟨by simpa using h2 i h (Nat.le_refl _), fun j hj => by simpa using h1 j (by omega) hj⟩
  · rw [List.findIdx_eq_length.2, Nat.le_antisymm h hi]
    intro x hx
    obtain ⟨k, hk, rfl⟩ := List.getElem_of_mem hx
    simpa using h1 k hk (by omega)
theorem find_pos {l : List Place} {u : Int} {i : Nat} (h1 : ∀ k, ∀ hk : k < l.length, k < i → l[k].unit < u) (h2 : ∀ k, ∀ hk : k < l.length, i ≤ k → u ≤ l[k].unit) (hpw : l.Pairwise fun a b => a.unit < b.unit) :
    (l.find? fun x => decide (x.unit = u)) = if h : i < l.length then (if l[i].unit = u then some l[i] else none) else none := by
  split
  · rename_i h
    split
    · rename_i he
      exact find_at h (fun x hx => by
        rw [List.mem_take_iff_getElem] at hx
        obtain ⟨k, hk, rfl⟩ := hx
        have := h1 k (by omega) (by omega); omega) he
    · rename_i he
      refine find_no fun x hx => ?_
      obtain ⟨k, hk, rfl⟩ := List.getElem_of_mem hx
      rcases Nat.lt_trichotomy k i with hk' | hk' | hk'
      · have := h1 k hk hk'; omega
      · subst hk'; exact he
      · have := List.pairwise_iff_getElem.1 hpw i k h hk hk'
        have := h2 i h (Nat.le_refl _); omega
  · rename_i h
    refine find_no fun x hx => ?_
    obtain ⟨k, hk, rfl⟩ := List.getElem_of_mem hx
    have := h1 k hk (by omega); omega
theorem cmpI_lt {a b : Int} : cmpI a b < 0 ↔ a < b := by unfold cmpI; split <;> (try split) <;> omega
theorem cmpI_eq {a b : Int} : cmpI a b = 0 ↔ a = b := by unfold cmpI; split <;> (try split) <;> omega

theorem s145 (l : List Place) (u : Int) (hl : l.length ≤ 1000) (hpw : l.Pairwise fun a b => a.unit < b.unit) : Spec prog 145 [.s 4 (l.map Place.tv), tI u, .v (.func (.func 146) #[] #[])] [] (.t [tI (posOf l u : Nat), tB (l.find? fun x => decide (x.unit = u)).isSome]) [] := by
  refine spec_s is145 mixed rfl (V_x ?_)
  repeat' (conv => whnf
           first | refine Frz.own ?_ | refine Get.mk _ rfl ?_ | refine Get.mk _ (map_geti (by omega)) ?_ | refine Get.mk _ (map_getp (by omega) (by omega)) ?_ | refine Get.mk _ (map_get (by omega)) ?_ | refine Bv2.mk _ _ rfl rfl ?_ | refine Bv1.mk _ rfl ?_ | refine Wr.mk _ (wrap_i64 (by omega) (by omega)) ?_ | refine Wr.mk _ rfl ?_ | refine And.intro len_map ?_ | refine And.intro (leX_refl _) ?_ | refine And.intro rfl ?_ | refine And.intro (leO_some _) ?_ | (refine And.intro (fun h => absurd h (by decide)) (fun h => ?_); clear h) | (refine And.intro (fun h => ?_) (fun h => absurd h (by decide)); clear h) | (with_reducible first | refine sp1 (fun h => ?_) (fun h => ?_) | refine sp2 (fun h => ?_) (fun h => ?_) | refine sp3 (fun h => ?_) (fun h => ?_) | refine sp4 (fun h => ?_) (fun h => ?_) | refine sp5 (fun h => ?_) (fun h => ?_) | refine sp6 (fun h => ?_) (fun h => ?_)) | with_reducible refine And.intro (fun h => ?_) (fun h => ?_) | refine And.intro (Int.natCast_nonneg _) ?_ | refine And.intro (by omega) ?_ | refine And.intro (by decide) ?_ | refine Lst.mk _ rfl ?_ | refine And.intro trivial ?_ | exact trivial | exact leX_refl _ | refine weak_fr ?_ ?_ rfl | refine And.intro ?_ ?_ | fail)
  refine V_ms (α := Nat × Nat) (fun x => x.2 - x.1) (fun x => Fct (x.1 ≤ x.2 ∧ x.2 ≤ l.length ∧ (∀ k, ∀ hk : k < l.length, k < x.1 → l[k].unit < u) ∧ ∀ k, ∀ hk : k < l.length, x.2 ≤ k → u ≤ l[k].unit))
    (fun x => ([(0, .s 4 (l.map Place.tv)), (1, tI u), (2, .v (.func (.func 146) #[] #[])), (8, tI (l.length : Nat)), (9, tI (x.1 : Nat)), (10, tI (x.2 : Nat))], [])) (0, l.length) ⟨Nat.zero_le _, Nat.le_refl _, fun k _ h => absurd h (Nat.not_lt_zero _), fun k h1 h2 => by omega⟩ ?_ ?_
  · repeat' (conv => whnf
             first | refine Frz.own ?_ | refine Get.mk _ rfl ?_ | refine Get.mk _ (map_geti (by omega)) ?_ | refine Get.mk _ (map_getp (by omega) (by omega)) ?_ | refine Get.mk _ (map_get (by omega)) ?_ | refine Bv2.mk _ _ rfl rfl ?_ | refine Bv1.mk _ rfl ?_ | refine Wr.mk _ (wrap_i64 (by omega) (by omega)) ?_ | refine Wr.mk _ rfl ?_ | refine And.intro len_map ?_ | refine And.intro (leX_refl _) ?_ | refine And.intro rfl ?_ | refine And.intro (leO_some _) ?_ | (refine And.intro (fun h => absurd h (by decide)) (fun h => ?_); clear h) | (refine And.intro (fun h => ?_) (fun h => absurd h (by decide)); clear h) | (with_reducible first | refine sp1 (fun h => ?_) (fun h => ?_) | refine sp2 (fun h => ?_) (fun h => ?_) | refine sp3 (fun h => ?_) (fun h => ?_) | refine sp4 (fun h => ?_) (fun h => ?_) | refine sp5 (fun h => ?_) (fun h => ?_) | refine sp6 (fun h => ?_) (fun h => ?_)) | with_reducible refine And.intro (fun h => ?_) (fun h => ?_) | refine And.intro (Int.natCast_nonneg _) ?_ | refine And.intro (by omega) ?_ | refine And.intro (by decide) ?_ | refine Lst.mk _ rfl ?_ | refine And.intro trivial ?_ | exact trivial | exact leX_refl _ | refine weak_fr ?_ ?_ rfl | refine And.intro ?_ ?_ | fail)
  rintro ⟨i, j⟩ ⟨h1, h2, h3, h4⟩
  refine V_x ?_
  simp only at h1 h2 h3 h4
  have em : ((((i, j).fst : Nat) : Int) + (((i, j).snd : Nat) : Int)) / 2 = (((i + j) / 2 : Nat) : Int) := by show ((i : Int) + j) / 2 = _; omega
  have hmono : ∀ a b, ∀ ha : a < l.length, ∀ hb : b < l.length, a < b → l[a].unit < l[b].unit := fun a b ha hb hab => List.pairwise_iff_getElem.1 hpw a b ha hb hab
  repeat' (conv => whnf
           first | refine Frz.own ?_ | refine Wr.mk _ (half_i64 (by omega) (by omega)) ?_ | refine Get.mk _ rfl ?_ | refine Get.mk _ (map_geti (by omega)) ?_ | refine Get.mk _ (map_getp (by omega) (by omega)) ?_ | refine Get.mk _ (map_get (by omega)) ?_ | refine Bv2.mk _ _ rfl rfl ?_ | refine Bv1.mk _ rfl ?_ | refine Wr.mk _ (wrap_i64 (by omega) (by omega)) ?_ | refine Wr.mk _ rfl ?_ | refine And.intro len_map ?_ | refine And.intro (leX_refl _) ?_ | refine And.intro rfl ?_ | refine And.intro (leO_some _) ?_ | (refine And.intro (fun h => absurd h (by decide)) (fun h => ?_); clear h) | (refine And.intro (fun h => ?_) (fun h => absurd h (by decide)); clear h) | (with_reducible first | refine sp1 (fun h => ?_) (fun h => ?_) | refine sp2 (fun h => ?_) (fun h => ?_) | refine sp3 (fun h => ?_) (fun h => ?_) | refine sp4 (fun h => ?_) (fun h => ?_) | refine sp5 (fun h => ?_) (fun h => ?_) | refine sp6 (fun h => ?_) (fun h => ?_)) | with_reducible refine And.intro (fun h => ?_) (fun h => ?_) | refine And.intro (Int.natCast_nonneg _) ?_ | refine And.intro (by omega) ?_ | refine And.intro (by decide) ?_ | refine Lst.mk _ rfl ?_ | refine Or.inr (Or.inl ⟨_, _, s146 _ _, leL_refl _, rfl, rfl, ?_⟩) | refine And.intro trivial ?_ | exact trivial | exact leX_refl _ | refine weak_fr ?_ ?_ rfl | refine And.intro ?_ ?_ | fail)
  · rename_i hij
    have hij : i < j := by simpa using hij
    rw [cmpI_lt] at h
    have hm : (((((i, j).fst : Nat) : Int) + (((i, j).snd : Nat) : Int)) / 2).toNat = (i + j) / 2 := by rw [em]; rfl
    simp only [hm] at h
    refine Exists.intro ((i + j) / 2 + 1, j) ?_
    repeat' (conv => whnf
             first | refine Frz.own ?_ | refine Get.mk _ rfl ?_ | refine Get.mk _ (map_geti (by omega)) ?_ | refine Get.mk _ (map_getp (by omega) (by omega)) ?_ | refine Get.mk _ (map_get (by omega)) ?_ | refine Bv2.mk _ _ rfl rfl ?_ | refine Bv1.mk _ rfl ?_ | refine Wr.mk _ (wrap_i64 (by omega) (by omega)) ?_ | refine Wr.mk _ rfl ?_ | refine And.intro len_map ?_ | refine And.intro (leX_refl _) ?_ | refine And.intro rfl ?_ | refine And.intro (leO_some _) ?_ | (refine And.intro (fun h => absurd h (by decide)) (fun h => ?_); clear h) | (refine And.intro (fun h => ?_) (fun h => absurd h (by decide)); clear h) | (with_reducible first | refine sp1 (fun h => ?_) (fun h => ?_) | refine sp2 (fun h => ?_) (fun h => ?_) | refine sp3 (fun h => ?_) (fun h => ?_) | refine sp4 (fun h => ?_) (fun h => ?_) | refine sp5 (fun h => ?_) (fun h => ?_) | refine sp6 (fun h => ?_) (fun h => ?_)) | with_reducible refine And.intro (fun h => ?_) (fun h => ?_) | refine And.intro (Int.natCast_nonneg _) ?_ | refine And.intro (by omega) ?_ | refine And.intro (by decide) ?_ | refine Lst.mk _ rfl ?_ | refine And.intro trivial ?_ | exact trivial | exact leX_refl _ | refine weak_fr ?_ ?_ rfl | refine And.intro ?_ ?_ | fail)
    · refine Fct.mk ⟨by simp only; omega, h2, fun k hk hlt => ?_, h4⟩
      simp only at hlt
      rcases Nat.lt_or_ge k ((i + j) / 2) with h5 | h5
      · have := hmono k ((i + j) / 2) hk (by omega) h5; omega
      · have : k = (i + j) / 2 := by omega
        subst this; exact h
  · rename_i hij
    have hij : i < j := by simpa using hij
    rw [cmpI_lt] at h
    have hm : (((((i, j).fst : Nat) : Int) + (((i, j).snd : Nat) : Int)) / 2).toNat = (i + j) / 2 := by rw [em]; rfl
    simp only [hm] at h
    refine Exists.intro (i, (i + j) / 2) ?_
    repeat' (conv => whnf
             first | refine Frz.own ?_ | refine Get.mk _ rfl ?_ | refine Get.mk _ (map_geti (by omega)) ?_ | refine Get.mk _ (map_getp (by omega) (by omega)) ?_ | refine Get.mk _ (map_get (by omega)) ?_ | refine Bv2.mk _ _ rfl rfl ?_ | refine Bv1.mk _ rfl ?_ | refine Wr.mk _ (wrap_i64 (by omega) (by omega)) ?_ | refine Wr.mk _ rfl ?_ | refine And.intro len_map ?_ | refine And.intro (leX_refl _) ?_ | refine And.intro rfl ?_ | refine And.intro (leO_some _) ?_ | (refine And.intro (fun h => absurd h (by decide)) (fun h => ?_); clear h) | (refine And.intro (fun h => ?_) (fun h => absurd h (by decide)); clear h) | (with_reducible first | refine sp1 (fun h => ?_) (fun h => ?_) | refine sp2 (fun h => ?_) (fun h => ?_) | refine sp3 (fun h => ?_) (fun h => ?_) | refine sp4 (fun h => ?_) (fun h => ?_) | refine sp5 (fun h => ?_) (fun h => ?_) | refine sp6 (fun h => ?_) (fun h => ?_)) | with_reducible refine And.intro (fun h => ?_) (fun h => ?_) | refine And.intro (Int.natCast_nonneg _) ?_ | refine And.intro (by omega) ?_ | refine And.intro (by decide) ?_ | refine Lst.mk _ rfl ?_ | refine And.intro trivial ?_ | exact trivial | exact leX_refl _ | refine weak_fr ?_ ?_ rfl | refine And.intro ?_ ?_ | fail)
    · refine Fct.mk ⟨by simp only; omega, by simp only; omega, h3, fun k hk hle => ?_⟩
      simp only at hle
      rcases Nat.lt_or_ge ((i + j) / 2) k with h5 | h5
      · have := hmono ((i + j) / 2) k (by omega) hk h5; omega
      · have : k = (i + j) / 2 := by omega
        subst this; omega
  all_goals
    rename_i hij
    have hij : i = j := by simp at hij; omega
    subst hij
    have hpos := posOf_is h2 h3 h4
    have hfind := find_pos h3 h4 hpw
  · exact leI (by rw [hpos])
  · refine leB ?_
    have hlt : i < l.length := by simpa using h
    rw [hfind, dif_pos hlt]
    by_cases he : l[i].unit = u
    · rw [if_pos he]; simp [cmpI_eq, he]
    · rw [if_neg he]; simp [cmpI_eq, he]
  · exact leI (by rw [hpos])
  · refine leB ?_
    have hlt : ¬ i < l.length := by simpa using h
    rw [hfind, dif_neg hlt]; rfl
theorem s112 (p : Plan) (u : Int) (hp : p.light) (hpw : p.places.Pairwise fun a b => a.unit < b.unit) : Spec prog 112 [p.tv, tI u] [] (.t [tI (posOf p.places u : Nat), tB (p.find u).isSome]) [] := by
  have hp1 := hp.1
  refine spec_s is112 mixed rfl (V_x ?_)
  repeat' (conv => whnf
           first | refine Frz.own ?_ | refine Get.mk _ rfl ?_ | refine Get.mk _ (map_geti (by omega)) ?_ | refine Get.mk _ (map_getp (by omega) (by omega)) ?_ | refine Get.mk _ (map_get (by omega)) ?_ | refine Bv2.mk _ _ rfl rfl ?_ | refine Bv1.mk _ rfl ?_ | refine Wr.mk _ (wrap_i64 (by omega) (by omega)) ?_ | refine Wr.mk _ rfl ?_ | refine And.intro len_map ?_ | refine And.intro (leX_refl _) ?_ | refine And.intro rfl ?_ | refine And.intro (leO_some _) ?_ | (refine And.intro (fun h => absurd h (by decide)) (fun h => ?_); clear h) | (refine And.intro (fun h => ?_) (fun h => absurd h (by decide)); clear h) | (with_reducible first | refine sp1 (fun h => ?_) (fun h => ?_) | refine sp2 (fun h => ?_) (fun h => ?_) | refine sp3 (fun h => ?_) (fun h => ?_) | refine sp4 (fun h => ?_) (fun h => ?_) | refine sp5 (fun h => ?_) (fun h => ?_) | refine sp6 (fun h => ?_) (fun h => ?_)) | with_reducible refine And.intro (fun h => ?_) (fun h => ?_) | refine And.intro (Int.natCast_nonneg _) ?_ | refine And.intro (by omega) ?_ | refine And.intro (by decide) ?_ | refine Lst.mk _ rfl ?_ | refine Or.inr (Or.inl ⟨_, _, s145 p.places u (by omega) hpw, leL_refl _, rfl, rfl, ?_⟩) | refine And.intro trivial ?_ | exact trivial | exact leX_refl _ | refine weak_fr ?_ ?_ rfl | refine And.intro ?_ ?_ | fail)
  all_goals first | exact leI rfl | exact leB rfl
theorem s88 (p : Plan) (u : Int) (hp : p.light) (hpw : p.places.Pairwise fun a b => a.unit < b.unit) : Spec prog 88 [p.tv, tI u] [] (.t [((p.find u).getD ⟨0, 0, 0, []⟩).tv, tB (p.find u).isSome]) [] := by
  have hp1 := hp.1
  have hp2 := hp.2
  have h112 := s112 p u hp hpw
  cases hf : p.find u with
  | none =>
    rw [hf] at h112
    simp only [Option.getD_none, Option.isSome_none] at h112 ⊢
    refine spec_s is88 mixed rfl (V_x ?_)
    repeat' (conv => whnf
             first | refine Frz.own ?_ | refine Get.mk _ rfl ?_ | refine Get.mk _ (map_geti (by omega)) ?_ | refine Get.mk _ (map_getp (by omega) (by omega)) ?_ | refine Get.mk _ (map_get (by omega)) ?_ | refine Bv2.mk _ _ rfl rfl ?_ | refine Bv1.mk _ rfl ?_ | refine Wr.mk _ (wrap_i64 (by omega) (by omega)) ?_ | refine Wr.mk _ rfl ?_ | refine And.intro len_map ?_ | refine And.intro (leX_refl _) ?_ | refine And.intro rfl ?_ | refine And.intro (leO_some _) ?_ | (refine And.intro (fun h => absurd h (by decide)) (fun h => ?_); clear h) | (refine And.intro (fun h => ?_) (fun h => absurd h (by decide)); clear h) | (with_reducible first | refine sp1 (fun h => ?_) (fun h => ?_) | refine sp2 (fun h => ?_) (fun h => ?_) | refine sp3 (fun h => ?_) (fun h => ?_) | refine sp4 (fun h => ?_) (fun h => ?_) | refine sp5 (fun h => ?_) (fun h => ?_) | refine sp6 (fun h => ?_) (fun h => ?_)) | with_reducible refine And.intro (fun h => ?_) (fun h => ?_) | refine And.intro (Int.natCast_nonneg _) ?_ | refine And.intro (by omega) ?_ | refine And.intro (by decide) ?_ | refine Lst.mk _ rfl ?_ | refine Or.inr (Or.inl ⟨_, _, h112, leL_refl _, rfl, rfl, ?_⟩) | refine And.intro trivial ?_ | exact trivial | exact leX_refl _ | refine weak_fr ?_ ?_ rfl | refine And.intro ?_ ?_ | fail)
    rfl
  | some x =>
    obtain ⟨h3, h4⟩ : ∃ h : posOf p.places u < p.places.length, p.places[posOf p.places u] = x := by
      unfold Plan.find at hf
      rw [List.find?_eq_some_iff_getElem] at hf
      obtain ⟨h1, i, hi, h2, h3⟩ := hf
      have hu : p.places[i].unit = u := by rw [h2]; simpa using h1
      have hpos : posOf p.places u = i := posOf_is (by omega) (fun k hk hlt => by
        have := List.pairwise_iff_getElem.1 hpw k i hk hi hlt; omega) (fun k hk hle => by
        rcases Nat.lt_or_ge i k with h | h
        · have := List.pairwise_iff_getElem.1 hpw i k hi hk h; omega
        · have : k = i := by omega
          subst this; omega)
      rw [hpos]; exact ⟨hi, h2⟩
    have hx : x.pieces.length ≤ 20 := by rw [← h4]; exact hp2 _ (List.getElem_mem h3)
    subst h4
    rw [hf] at h112
    simp only [Option.getD_some, Option.isSome_some] at h112 ⊢
    refine spec_s is88 mixed rfl (V_x ?_)
    have h124 := s124 (p.places[posOf p.places u]).pieces hx
    repeat' (conv => whnf
             first | refine Frz.own ?_ | refine Get.mk _ rfl ?_ | refine Get.mk _ (map_geti (by omega)) ?_ | refine Get.mk _ (map_getp (by omega) (by omega)) ?_ | refine Get.mk _ (map_get (by omega)) ?_ | refine Bv2.mk _ _ rfl rfl ?_ | refine Bv1.mk _ rfl ?_ | refine Wr.mk _ (wrap_i64 (by omega) (by omega)) ?_ | refine Wr.mk _ rfl ?_ | refine And.intro len_map ?_ | refine And.intro (leX_refl _) ?_ | refine And.intro rfl ?_ | refine And.intro (leO_some _) ?_ | (refine And.intro (fun h => absurd h (by decide)) (fun h => ?_); clear h) | (refine And.intro (fun h => ?_) (fun h => absurd h (by decide)); clear h) | (with_reducible first | refine sp1 (fun h => ?_) (fun h => ?_) | refine sp2 (fun h => ?_) (fun h => ?_) | refine sp3 (fun h => ?_) (fun h => ?_) | refine sp4 (fun h => ?_) (fun h => ?_) | refine sp5 (fun h => ?_) (fun h => ?_) | refine sp6 (fun h => ?_) (fun h => ?_)) | with_reducible refine And.intro (fun h => ?_) (fun h => ?_) | refine And.intro (Int.natCast_nonneg _) ?_ | refine And.intro (by omega) ?_ | refine And.intro (by decide) ?_ | refine Lst.mk _ rfl ?_ | refine Or.inr (Or.inl ⟨_, _, h112, leL_refl _, rfl, rfl, ?_⟩) | refine Or.inr (Or.inl ⟨_, _, h124, leL_refl _, rfl, rfl, ?_⟩) | refine And.intro trivial ?_ | exact trivial | exact leX_refl _ | refine weak_fr ?_ ?_ rfl | refine And.intro ?_ ?_ | fail)
    all_goals first | exact leI rfl | exact leB rfl | exact leS rfl

def Place.win (x : Place) : BitVec 64 := orAll x.masks
end Go.Proofs.Ytjmjolefhcjedaa.Vc

namespace Go.Proofs.Ytjmjolefhcjedaa.Vc
open Go Go.RowKit Go.Proofs.Try
set_option maxRecDepth 20000

def turnB (f : Int) (m : BitVec 64) (k : Int) : BitVec 64 := ((m &&& allB f) <<< (k % f).toNat ||| (m &&& allB f) >>> (f - k % f).toNat) &&& allB f
def roundB (f k n : Int) : BitVec 64 := turnB f (allB n) k
theorem frameOf_id {f : Int} (h0 : 0 ≤ f) (h1 : f ≤ 64) : frameOf f = f := by unfold frameOf; omega
theorem s140 (f : Int) (m : BitVec 64) (k : Int) (hf : 0 < f) (hf' : f ≤ 64) (hk : 0 ≤ k) : Spec prog 140 [tI f, tU m, tI k] [] (tU (turnB f m k)) [] := by
  have h139 := s139 f
  rw [frameOf_id (by omega) hf'] at h139
  have h2 := Int.emod_nonneg k (show f ≠ 0 by omega)
  have h3 := Int.emod_lt_of_pos k hf
  refine spec_s is140 mixed rfl (V_x ?_)
  repeat' (conv => whnf
           first | refine Frz.own ?_ | refine Get.mk _ rfl ?_ | refine Get.mk _ (map_geti (by omega)) ?_ | refine Get.mk _ (map_getp (by omega) (by omega)) ?_ | refine Get.mk _ (map_get (by omega)) ?_ | refine Bv2.mk _ _ rfl rfl ?_ | refine Bv1.mk _ rfl ?_ | refine Wr.mk _ (wrap_i64 (by omega) (by omega)) ?_ | refine Wr.mk _ rfl ?_ | refine And.intro len_map ?_ | refine And.intro (leX_refl _) ?_ | refine And.intro rfl ?_ | refine And.intro (leO_some _) ?_ | (refine And.intro (fun h => absurd h (by decide)) (fun h => ?_); clear h) | (refine And.intro (fun h => ?_) (fun h => absurd h (by decide)); clear h) | (with_reducible first | refine sp1 (fun h => ?_) (fun h => ?_) | refine sp2 (fun h => ?_) (fun h => ?_) | refine sp3 (fun h => ?_) (fun h => ?_) | refine sp4 (fun h => ?_) (fun h => ?_) | refine sp5 (fun h => ?_) (fun h => ?_) | refine sp6 (fun h => ?_) (fun h => ?_)) | with_reducible refine And.intro (fun h => ?_) (fun h => ?_) | refine And.intro (Int.natCast_nonneg _) ?_ | refine And.intro (by omega) ?_ | refine And.intro (by decide) ?_ | refine Lst.mk _ rfl ?_ | refine Or.inr (Or.inl ⟨_, _, h139, leL_refl _, rfl, rfl, ?_⟩) | refine Or.inr (Or.inl ⟨_, _, s141 _, leL_refl _, rfl, rfl, ?_⟩) | refine Or.inr (Or.inl ⟨_, _, s160 f k hf hf' hk, leL_refl _, rfl, rfl, ?_⟩) | refine And.intro trivial ?_ | exact trivial | exact leX_refl _ | refine weak_fr ?_ ?_ rfl | refine And.intro ?_ ?_ | fail)
  all_goals first
    | (exfalso; omega)
    | exact leU rfl
theorem s106 (f k n : Int) (hf : 0 < f) (hf' : f ≤ 64) (hk : 0 ≤ k) (h0 : 0 ≤ n) (h1 : n ≤ f) : Spec prog 106 [tI f, tI k, tI n] [] (tU (roundB f k n)) [] := by
  have h139 := s139 f
  rw [frameOf_id (by omega) hf'] at h139
  refine spec_s is106 mixed rfl (V_x ?_)
  have e1 : min (max n 0) f = n := by omega
  repeat' (conv => whnf
           first | refine Frz.own ?_ | refine Wr.mk _ (e1) ?_ | refine Get.mk _ rfl ?_ | refine Get.mk _ (map_geti (by omega)) ?_ | refine Get.mk _ (map_getp (by omega) (by omega)) ?_ | refine Get.mk _ (map_get (by omega)) ?_ | refine Bv2.mk _ _ rfl rfl ?_ | refine Bv1.mk _ rfl ?_ | refine Wr.mk _ (wrap_i64 (by omega) (by omega)) ?_ | refine Wr.mk _ rfl ?_ | refine And.intro len_map ?_ | refine And.intro (leX_refl _) ?_ | refine And.intro rfl ?_ | refine And.intro (leO_some _) ?_ | (refine And.intro (fun h => absurd h (by decide)) (fun h => ?_); clear h) | (refine And.intro (fun h => ?_) (fun h => absurd h (by decide)); clear h) | (with_reducible first | refine sp1 (fun h => ?_) (fun h => ?_) | refine sp2 (fun h => ?_) (fun h => ?_) | refine sp3 (fun h => ?_) (fun h => ?_) | refine sp4 (fun h => ?_) (fun h => ?_) | refine sp5 (fun h => ?_) (fun h => ?_) | refine sp6 (fun h => ?_) (fun h => ?_)) | with_reducible refine And.intro (fun h => ?_) (fun h => ?_) | refine And.intro (Int.natCast_nonneg _) ?_ | refine And.intro (by omega) ?_ | refine And.intro (by decide) ?_ | refine Lst.mk _ rfl ?_ | refine Or.inr (Or.inl ⟨_, _, h139, leL_refl _, rfl, rfl, ?_⟩) | refine Or.inr (Or.inl ⟨_, _, s141 _, leL_refl _, rfl, rfl, ?_⟩) | refine Or.inr (Or.inl ⟨_, _, s140 f (allB n) k hf hf' hk, leL_refl _, rfl, rfl, ?_⟩) | refine And.intro trivial ?_ | exact trivial | exact leX_refl _ | refine weak_fr ?_ ?_ rfl | refine And.intro ?_ ?_ | fail)
  all_goals first
    | (exfalso; omega)
    | exact leU rfl
theorem round_has {f c n : Nat} (hf : 0 < f) (hf' : f ≤ 64) (hc : c < f) (hn : n ≤ f) (t : Nat) (ht : t < 64) : hasT (roundB f c n) t = decide (t < f ∧ (t + f - c) % f < n) := by
  unfold roundB turnB
  have e1 : (((c : Int) % (f : Int)).toNat) = c := by rw [Int.emod_eq_of_lt (by omega) (by omega)]; rfl
  have e2 : (((f : Int) - (c : Int) % (f : Int)).toNat) = f - c := by rw [Int.emod_eq_of_lt (by omega) (by omega)]; omega
  rw [e1, e2, hasT_and, hasT_or, hasT_allB]
  have h1 : hasT ((allB n &&& allB f) <<< c) t = decide (c ≤ t ∧ t - c < n) := by
    rw [hasT_nat, BitVec.getLsbD_shiftLeft, BitVec.getLsbD_and, ← hasT_nat, ← hasT_nat, hasT_allB, hasT_allB, Bool.eq_iff_iff]
    simp; omega
  have h2 : hasT ((allB n &&& allB f) >>> (f - c)) t = decide (f - c + t < n) := by
    rw [hasT_nat, BitVec.getLsbD_ushiftRight, BitVec.getLsbD_and, ← hasT_nat, ← hasT_nat, hasT_allB, hasT_allB, Bool.eq_iff_iff]
    simp; omega
  rw [h1, h2, Bool.eq_iff_iff]
  have e3 : (t < f → (t + f - c) % f = if c ≤ t then t - c else t + f - c) := by
    intro htf
    split
    · rw [show t + f - c = (t - c) + f by omega, Nat.add_mod_right, Nat.mod_eq_of_lt (by omega)]
    · rw [Nat.mod_eq_of_lt (by omega)]
  simp only [Bool.and_eq_true, Bool.or_eq_true, decide_eq_true_eq]
  constructor
  · rintro ⟨h3, h4, _⟩
    have h5 : t < f := by omega
    rw [e3 h5]
    refine ⟨h5, ?_⟩
    split <;> omega
  · rintro ⟨h3, h4⟩
    rw [e3 h3] at h4
    refine ⟨?_, by omega, ht⟩
    split at h4 <;> omega
/-- A set's ticks as numbers. -/
def bits (m : BitVec 64) : Nat → Nat := fun t => (hasT m t).toNat
end Go.Proofs.Ytjmjolefhcjedaa.Vc

namespace Go.Proofs.Ytjmjolefhcjedaa.Vc
open Go Go.RowKit Go.Proofs.Try
set_option maxRecDepth 20000

/-! The reference's plan. -/
def Place.spR (p : Plan) (x : Place) (i : Nat) : Prop := (∀ y ∈ x.pieces.take i, p.has y.core = true ∧ y.ticks ≠ 0#64) ∧ (x.pieces.take i).Pairwise (fun a b => a.core < b.core)
theorem spR_step {p : Plan} {x : Place} {i : Nat} (hi : i < x.pieces.length) (h : x.spR p i) : x.spR p (i + 1) ↔ (p.has x.pieces[i].core = true ∧ x.pieces[i].ticks ≠ 0#64) ∧ ∀ h0 : 0 < i, x.pieces[i - 1].core < x.pieces[i].core := by
  unfold Place.spR at h ⊢
  rw [mem_snoc hi, pw_step hi h.2]
  constructor
  · rintro ⟨⟨_, h1⟩, h2⟩; exact ⟨h1, h2⟩
  · rintro ⟨h1, h2⟩; exact ⟨⟨h.1, h1⟩, h2⟩
theorem spR_of {p : Plan} {x : Place} (h : x.sp p) (i : Nat) : x.spR p i := ⟨fun y hy => h.1 y (List.mem_of_mem_take hy), pw_take i h.2.1⟩
theorem sp_finR {p : Plan} {x : Place} {i : Nat} (hi : i ≥ x.pieces.length) (h : x.spR p i) (hJ : ∀ t, t < 64 → x.cnt t ≤ 1 ∧ (0 < x.cnt t → (t : Int) < p.frame)) : x.sp p ↔ 2 ≤ x.pieces.length ∧ x.core = 0 ∧ ((sumTo x.cnt 64 : Nat) : Int) = x.share := by
  obtain ⟨h1, h2⟩ := h
  rw [List.take_of_length_le hi] at h1 h2
  unfold Place.sp
  constructor
  · rintro ⟨_, _, _, h⟩; exact h
  · intro h; exact ⟨h1, h2, hJ, h⟩
open Classical in
theorem s78 (p : Plan) (x : Place) (hx : x.pieces.length ≤ 20) : Spec prog 78 [p.tv, x.tv] [] (tB (decide (x.ok p))) [] := by
  have hl : (x.pieces.map Piece.tv).length = x.pieces.length := List.length_map _
  refine spec_s is78 mixed rfl (V_x ?_)
  repeat' (conv => whnf
           first | refine Frz.own ?_ | refine Get.mk _ rfl ?_ | refine Get.mk _ (map_geti (by omega)) ?_ | refine Get.mk _ (map_getp (by omega) (by omega)) ?_ | refine Get.mk _ (map_get (by omega)) ?_ | refine Bv2.mk _ _ rfl rfl ?_ | refine Bv1.mk _ rfl ?_ | refine Wr.mk _ (wrap_i64 (by omega) (by omega)) ?_ | refine Wr.mk _ rfl ?_ | refine And.intro len_map ?_ | refine And.intro (leX_refl _) ?_ | refine And.intro rfl ?_ | refine And.intro (leO_some _) ?_ | (refine And.intro (fun h => absurd h (by decide)) (fun h => ?_); clear h) | (refine And.intro (fun h => ?_) (fun h => absurd h (by decide)); clear h) | (with_reducible first | refine sp1 (fun h => ?_) (fun h => ?_) | refine sp2 (fun h => ?_) (fun h => ?_) | refine sp3 (fun h => ?_) (fun h => ?_) | refine sp4 (fun h => ?_) (fun h => ?_) | refine sp5 (fun h => ?_) (fun h => ?_) | refine sp6 (fun h => ?_) (fun h => ?_)) | with_reducible refine And.intro (fun h => ?_) (fun h => ?_) | refine And.intro (Int.natCast_nonneg _) ?_ | refine And.intro (by omega) ?_ | refine And.intro (by decide) ?_ | refine Lst.mk _ rfl ?_ | refine Or.inr (Or.inl ⟨_, _, s99 _, leL_refl _, rfl, rfl, ?_⟩) | refine Or.inr (Or.inl ⟨_, _, s40 _ _, leL_refl _, rfl, rfl, ?_⟩) | refine And.intro trivial ?_ | exact trivial | exact leX_refl _ | refine weak_fr ?_ ?_ rfl | refine And.intro ?_ ?_ | fail)
  · refine leB ?_
    rw [eq_comm, decide_eq_false_iff_not, Place.ok]
    rintro ⟨_, _, h1, _⟩; omega
  · rename_i hu hs1 hs2
    refine leB ?_
    have hn : x.pieces = [] := by
      rw [hl] at h; exact List.eq_nil_of_length_eq_zero (by omega)
    rw [Bool.eq_iff_iff, decide_eq_true_eq, Place.ok, if_pos hn]
    grind
  · have hne : ¬ x.pieces = [] := fun e => h (by rw [e]; rfl)
    rename_i hu hs1 hs2
    have hok : x.ok p ↔ x.sp p := by
      unfold Place.ok; rw [if_neg hne]; grind
    refine V_up x.pieces.length (fun i => Fct (x.spR p i)) (fun i => ([(2, .p 48 0 0), (3, .p 64 0 0), (5, tI (i : Nat))], [(48, .var 25 p.tv), (64, .var 34 x.tv)])) ⟨by simp, by simp⟩ ?_ ?_
    · repeat' (conv => whnf
               first | refine Frz.own ?_ | refine Get.mk _ rfl ?_ | refine Get.mk _ (map_geti (by omega)) ?_ | refine Get.mk _ (map_getp (by omega) (by omega)) ?_ | refine Get.mk _ (map_get (by omega)) ?_ | refine Bv2.mk _ _ rfl rfl ?_ | refine Bv1.mk _ rfl ?_ | refine Wr.mk _ (wrap_i64 (by omega) (by omega)) ?_ | refine Wr.mk _ rfl ?_ | refine And.intro len_map ?_ | refine And.intro (leX_refl _) ?_ | refine And.intro rfl ?_ | refine And.intro (leO_some _) ?_ | (refine And.intro (fun h => absurd h (by decide)) (fun h => ?_); clear h) | (refine And.intro (fun h => ?_) (fun h => absurd h (by decide)); clear h) | (with_reducible first | refine sp1 (fun h => ?_) (fun h => ?_) | refine sp2 (fun h => ?_) (fun h => ?_) | refine sp3 (fun h => ?_) (fun h => ?_) | refine sp4 (fun h => ?_) (fun h => ?_) | refine sp5 (fun h => ?_) (fun h => ?_) | refine sp6 (fun h => ?_) (fun h => ?_)) | with_reducible refine And.intro (fun h => ?_) (fun h => ?_) | refine And.intro (Int.natCast_nonneg _) ?_ | refine And.intro (by omega) ?_ | refine And.intro (by decide) ?_ | refine Lst.mk _ rfl ?_ | refine And.intro trivial ?_ | exact trivial | exact leX_refl _ | refine weak_fr ?_ ?_ rfl | refine And.intro ?_ ?_ | fail)
    rintro i hi ⟨hI⟩
    refine V_x ?_
    rcases Nat.lt_or_ge i x.pieces.length with hlt | hge
    · have hst := spR_step hlt hI
      repeat' (conv => whnf
               first | refine Frz.own ?_ | refine Get.mk _ rfl ?_ | refine Get.mk _ (map_geti (by omega)) ?_ | refine Get.mk _ (map_getp (by omega) (by omega)) ?_ | refine Get.mk _ (map_get (by omega)) ?_ | refine Bv2.mk _ _ rfl rfl ?_ | refine Bv1.mk _ rfl ?_ | refine Wr.mk _ (wrap_i64 (by omega) (by omega)) ?_ | refine Wr.mk _ rfl ?_ | refine And.intro len_map ?_ | refine And.intro (leX_refl _) ?_ | refine And.intro rfl ?_ | refine And.intro (leO_some _) ?_ | (refine And.intro (fun h => absurd h (by decide)) (fun h => ?_); clear h) | (refine And.intro (fun h => ?_) (fun h => absurd h (by decide)); clear h) | (with_reducible first | refine sp1 (fun h => ?_) (fun h => ?_) | refine sp2 (fun h => ?_) (fun h => ?_) | refine sp3 (fun h => ?_) (fun h => ?_) | refine sp4 (fun h => ?_) (fun h => ?_) | refine sp5 (fun h => ?_) (fun h => ?_) | refine sp6 (fun h => ?_) (fun h => ?_)) | with_reducible refine And.intro (fun h => ?_) (fun h => ?_) | refine And.intro (Int.natCast_nonneg _) ?_ | refine And.intro (by omega) ?_ | refine And.intro (by decide) ?_ | refine Lst.mk _ rfl ?_ | refine Or.inr (Or.inl ⟨_, _, s40 _ _, leL_refl _, rfl, rfl, ?_⟩) | refine And.intro trivial ?_ | exact trivial | exact leX_refl _ | refine weak_fr ?_ ?_ rfl | refine And.intro ?_ ?_ | fail)
      all_goals first
        | (exfalso; clear hI hst; omega)
        | (refine leB ?_
           rw [eq_comm, decide_eq_false_iff_not, hok]
           intro hs
           have h5 := hst.1 (spR_of hs (i + 1))
           grind)
        | (refine Fct.mk ?_
           rw [hst]
           grind)
        | trace_state
    · repeat' (conv => whnf
               first | refine Frz.own ?_ | refine Get.mk _ rfl ?_ | refine Get.mk _ (map_geti (by omega)) ?_ | refine Get.mk _ (map_getp (by omega) (by omega)) ?_ | refine Get.mk _ (map_get (by omega)) ?_ | refine Bv2.mk _ _ rfl rfl ?_ | refine Bv1.mk _ rfl ?_ | refine Wr.mk _ (wrap_i64 (by omega) (by omega)) ?_ | refine Wr.mk _ rfl ?_ | refine And.intro len_map ?_ | refine And.intro (leX_refl _) ?_ | refine And.intro rfl ?_ | refine And.intro (leO_some _) ?_ | (refine And.intro (fun h => absurd h (by decide)) (fun h => ?_); clear h) | (refine And.intro (fun h => ?_) (fun h => absurd h (by decide)); clear h) | (with_reducible first | refine sp1 (fun h => ?_) (fun h => ?_) | refine sp2 (fun h => ?_) (fun h => ?_) | refine sp3 (fun h => ?_) (fun h => ?_) | refine sp4 (fun h => ?_) (fun h => ?_) | refine sp5 (fun h => ?_) (fun h => ?_) | refine sp6 (fun h => ?_) (fun h => ?_)) | with_reducible refine And.intro (fun h => ?_) (fun h => ?_) | refine And.intro (Int.natCast_nonneg _) ?_ | refine And.intro (by omega) ?_ | refine And.intro (by decide) ?_ | refine Lst.mk _ rfl ?_ | refine And.intro trivial ?_ | exact trivial | exact leX_refl _ | refine weak_fr ?_ ?_ rfl | refine And.intro ?_ ?_ | fail)
      · exfalso; clear hI; omega
      · refine V_up 64 (fun j => Fct (∀ t, t < j → x.cnt t ≤ 1 ∧ (0 < x.cnt t → (t : Int) < p.frame))) (fun j => ([(2, .p 48 0 0), (3, .p 64 0 0), (7, tI (sumTo x.cnt j : Nat)), (8, tI (j : Nat))], [(48, .var 25 p.tv), (64, .var 34 x.tv)])) ⟨fun t h => absurd h (Nat.not_lt_zero _)⟩ ?_ ?_
        · repeat' (conv => whnf
                   first | refine Frz.own ?_ | refine Get.mk _ rfl ?_ | refine Get.mk _ (map_geti (by omega)) ?_ | refine Get.mk _ (map_getp (by omega) (by omega)) ?_ | refine Get.mk _ (map_get (by omega)) ?_ | refine Bv2.mk _ _ rfl rfl ?_ | refine Bv1.mk _ rfl ?_ | refine Wr.mk _ (wrap_i64 (by omega) (by omega)) ?_ | refine Wr.mk _ rfl ?_ | refine And.intro len_map ?_ | refine And.intro (leX_refl _) ?_ | refine And.intro rfl ?_ | refine And.intro (leO_some _) ?_ | (refine And.intro (fun h => absurd h (by decide)) (fun h => ?_); clear h) | (refine And.intro (fun h => ?_) (fun h => absurd h (by decide)); clear h) | (with_reducible first | refine sp1 (fun h => ?_) (fun h => ?_) | refine sp2 (fun h => ?_) (fun h => ?_) | refine sp3 (fun h => ?_) (fun h => ?_) | refine sp4 (fun h => ?_) (fun h => ?_) | refine sp5 (fun h => ?_) (fun h => ?_) | refine sp6 (fun h => ?_) (fun h => ?_)) | with_reducible refine And.intro (fun h => ?_) (fun h => ?_) | refine And.intro (Int.natCast_nonneg _) ?_ | refine And.intro (by omega) ?_ | refine And.intro (by decide) ?_ | refine Lst.mk _ rfl ?_ | refine And.intro trivial ?_ | exact trivial | exact leX_refl _ | refine weak_fr ?_ ?_ rfl | refine And.intro ?_ ?_ | fail)
        rintro j hj ⟨hJ⟩
        have hz : x.at (-1) j ≤ 20 := Nat.le_trans List.countP_le_length hx
        have hs : sumTo x.cnt j ≤ j * 20 := by
          have := sumTo_le (g := x.cnt) (h := fun _ => 20) (n := j) fun t _ => by rw [← Place.at_neg]; exact Nat.le_trans List.countP_le_length hx
          rwa [sumTo_const] at this
        have hstep : sumTo x.cnt (j + 1) = sumTo x.cnt j + x.at (-1) j := by rw [Place.at_neg]; rfl
        have hat := Place.at_neg x j
        refine V_x ?_
        repeat' (conv => whnf
                 first | refine Frz.own ?_ | refine Get.mk _ rfl ?_ | refine Get.mk _ (map_geti (by omega)) ?_ | refine Get.mk _ (map_getp (by omega) (by omega)) ?_ | refine Get.mk _ (map_get (by omega)) ?_ | refine Bv2.mk _ _ rfl rfl ?_ | refine Bv1.mk _ rfl ?_ | refine Wr.mk _ (wrap_i64 (by omega) (by omega)) ?_ | refine Wr.mk _ rfl ?_ | refine And.intro len_map ?_ | refine And.intro (leX_refl _) ?_ | refine And.intro rfl ?_ | refine And.intro (leO_some _) ?_ | (refine And.intro (fun h => absurd h (by decide)) (fun h => ?_); clear h) | (refine And.intro (fun h => ?_) (fun h => absurd h (by decide)); clear h) | (with_reducible first | refine sp1 (fun h => ?_) (fun h => ?_) | refine sp2 (fun h => ?_) (fun h => ?_) | refine sp3 (fun h => ?_) (fun h => ?_) | refine sp4 (fun h => ?_) (fun h => ?_) | refine sp5 (fun h => ?_) (fun h => ?_) | refine sp6 (fun h => ?_) (fun h => ?_)) | with_reducible refine And.intro (fun h => ?_) (fun h => ?_) | refine And.intro (Int.natCast_nonneg _) ?_ | refine And.intro (by omega) ?_ | refine And.intro (by decide) ?_ | refine Lst.mk _ rfl ?_ | refine Or.inr (Or.inl ⟨_, _, s107 x (-1) j hx, leL_refl _, rfl, rfl, ?_⟩) | refine And.intro trivial ?_ | exact trivial | exact leX_refl _ | refine weak_fr ?_ ?_ rfl | refine And.intro ?_ ?_ | fail)
        all_goals rcases Nat.lt_or_ge j 64 with hj64 | hj64
        all_goals first
          | (exfalso; clear hI hJ hok; omega)
          | (refine leB ?_
             rw [eq_comm, decide_eq_false_iff_not, hok]
             intro h5
             have h6 := h5.2.2.1 j hj64
             omega)
          | (refine Fct.mk ?_
             intro t ht
             rcases Nat.lt_or_ge t j with h5 | h5
             · exact hJ t h5
             · have h6 : t = j := by omega
               subst h6
               omega)
          | (refine leI ?_
             rw [hstep]; omega)
          | (refine leB ?_
             rw [Bool.eq_iff_iff, decide_eq_true_eq, hok, sp_finR hge hI (fun t ht => hJ t (by omega))]
             have h6 : j = 64 := by omega
             subst h6
             grind)
          | trace_state
  all_goals
    refine leB ?_
    rw [eq_comm, decide_eq_false_iff_not, Place.ok]
    grind

theorem at_sum_le {l : List Place} {c t : Int} (h : ∀ x ∈ l, x.pieces.length ≤ 20) : (l.map fun x => x.at c t).sum ≤ 20 * l.length := by
  induction l with
  | nil => simp
  | cons x l ih =>
    have h1 := ih fun y hy => h y (by simp [hy])
    have h2 : x.at c t ≤ 20 := Nat.le_trans List.countP_le_length (h x (by simp))
    simp only [List.map_cons, List.sum_cons, List.length_cons]; omega
open Classical in
theorem s79 (p : Plan) (hp : p.light) : Spec prog 79 [p.tv] [] (tB (decide (∀ c : Nat, c < 16 → ∀ t : Nat, t < 64 → p.atc c t ≤ 1))) [] := by
  have hp1 := hp.1
  have hp2 := hp.2
  have hl : (p.places.map Place.tv).length = p.places.length := List.length_map _
  refine spec_s is79 mixed rfl (V_x ?_)
  repeat' (conv => whnf
           first | refine Frz.own ?_ | refine Get.mk _ rfl ?_ | refine Get.mk _ (map_geti (by omega)) ?_ | refine Get.mk _ (map_getp (by omega) (by omega)) ?_ | refine Get.mk _ (map_get (by omega)) ?_ | refine Bv2.mk _ _ rfl rfl ?_ | refine Bv1.mk _ rfl ?_ | refine Wr.mk _ (wrap_i64 (by omega) (by omega)) ?_ | refine Wr.mk _ rfl ?_ | refine And.intro len_map ?_ | refine And.intro (leX_refl _) ?_ | refine And.intro rfl ?_ | refine And.intro (leO_some _) ?_ | (refine And.intro (fun h => absurd h (by decide)) (fun h => ?_); clear h) | (refine And.intro (fun h => ?_) (fun h => absurd h (by decide)); clear h) | (with_reducible first | refine sp1 (fun h => ?_) (fun h => ?_) | refine sp2 (fun h => ?_) (fun h => ?_) | refine sp3 (fun h => ?_) (fun h => ?_) | refine sp4 (fun h => ?_) (fun h => ?_) | refine sp5 (fun h => ?_) (fun h => ?_) | refine sp6 (fun h => ?_) (fun h => ?_)) | with_reducible refine And.intro (fun h => ?_) (fun h => ?_) | refine And.intro (Int.natCast_nonneg _) ?_ | refine And.intro (by omega) ?_ | refine And.intro (by decide) ?_ | refine Lst.mk _ rfl ?_ | refine And.intro trivial ?_ | exact trivial | exact leX_refl _ | refine weak_fr ?_ ?_ rfl | refine And.intro ?_ ?_ | fail)
  refine V_up 16 (fun c => Fct (∀ c' : Nat, c' < c → ∀ t : Nat, t < 64 → p.atc c' t ≤ 1)) (fun c => ([(1, .p 32 0 0), (3, tI (c : Nat))], [(32, .var 25 p.tv)])) ⟨fun c h => absurd h (Nat.not_lt_zero _)⟩ ?_ ?_
  · repeat' (conv => whnf
             first | refine Frz.own ?_ | refine Get.mk _ rfl ?_ | refine Get.mk _ (map_geti (by omega)) ?_ | refine Get.mk _ (map_getp (by omega) (by omega)) ?_ | refine Get.mk _ (map_get (by omega)) ?_ | refine Bv2.mk _ _ rfl rfl ?_ | refine Bv1.mk _ rfl ?_ | refine Wr.mk _ (wrap_i64 (by omega) (by omega)) ?_ | refine Wr.mk _ rfl ?_ | refine And.intro len_map ?_ | refine And.intro (leX_refl _) ?_ | refine And.intro rfl ?_ | refine And.intro (leO_some _) ?_ | (refine And.intro (fun h => absurd h (by decide)) (fun h => ?_); clear h) | (refine And.intro (fun h => ?_) (fun h => absurd h (by decide)); clear h) | (with_reducible first | refine sp1 (fun h => ?_) (fun h => ?_) | refine sp2 (fun h => ?_) (fun h => ?_) | refine sp3 (fun h => ?_) (fun h => ?_) | refine sp4 (fun h => ?_) (fun h => ?_) | refine sp5 (fun h => ?_) (fun h => ?_) | refine sp6 (fun h => ?_) (fun h => ?_)) | with_reducible refine And.intro (fun h => ?_) (fun h => ?_) | refine And.intro (Int.natCast_nonneg _) ?_ | refine And.intro (by omega) ?_ | refine And.intro (by decide) ?_ | refine Lst.mk _ rfl ?_ | refine And.intro trivial ?_ | exact trivial | exact leX_refl _ | refine weak_fr ?_ ?_ rfl | refine And.intro ?_ ?_ | fail)
  rintro c hc ⟨hC⟩
  refine V_x ?_
  repeat' (conv => whnf
           first | refine Frz.own ?_ | refine Get.mk _ rfl ?_ | refine Get.mk _ (map_geti (by omega)) ?_ | refine Get.mk _ (map_getp (by omega) (by omega)) ?_ | refine Get.mk _ (map_get (by omega)) ?_ | refine Bv2.mk _ _ rfl rfl ?_ | refine Bv1.mk _ rfl ?_ | refine Wr.mk _ (wrap_i64 (by omega) (by omega)) ?_ | refine Wr.mk _ rfl ?_ | refine And.intro len_map ?_ | refine And.intro (leX_refl _) ?_ | refine And.intro rfl ?_ | refine And.intro (leO_some _) ?_ | (refine And.intro (fun h => absurd h (by decide)) (fun h => ?_); clear h) | (refine And.intro (fun h => ?_) (fun h => absurd h (by decide)); clear h) | (with_reducible first | refine sp1 (fun h => ?_) (fun h => ?_) | refine sp2 (fun h => ?_) (fun h => ?_) | refine sp3 (fun h => ?_) (fun h => ?_) | refine sp4 (fun h => ?_) (fun h => ?_) | refine sp5 (fun h => ?_) (fun h => ?_) | refine sp6 (fun h => ?_) (fun h => ?_)) | with_reducible refine And.intro (fun h => ?_) (fun h => ?_) | refine And.intro (Int.natCast_nonneg _) ?_ | refine And.intro (by omega) ?_ | refine And.intro (by decide) ?_ | refine Lst.mk _ rfl ?_ | refine And.intro trivial ?_ | exact trivial | exact leX_refl _ | refine weak_fr ?_ ?_ rfl | refine And.intro ?_ ?_ | fail)
  · refine V_up 64 (fun t => Fct (∀ t' : Nat, t' < t → p.atc c t' ≤ 1)) (fun t => ([(1, .p 32 0 0), (3, tI (c : Nat)), (4, tI (t : Nat))], [(32, .var 25 p.tv)])) ⟨fun c h => absurd h (Nat.not_lt_zero _)⟩ ?_ ?_
    · repeat' (conv => whnf
               first | refine Frz.own ?_ | refine Get.mk _ rfl ?_ | refine Get.mk _ (map_geti (by omega)) ?_ | refine Get.mk _ (map_getp (by omega) (by omega)) ?_ | refine Get.mk _ (map_get (by omega)) ?_ | refine Bv2.mk _ _ rfl rfl ?_ | refine Bv1.mk _ rfl ?_ | refine Wr.mk _ (wrap_i64 (by omega) (by omega)) ?_ | refine Wr.mk _ rfl ?_ | refine And.intro len_map ?_ | refine And.intro (leX_refl _) ?_ | refine And.intro rfl ?_ | refine And.intro (leO_some _) ?_ | (refine And.intro (fun h => absurd h (by decide)) (fun h => ?_); clear h) | (refine And.intro (fun h => ?_) (fun h => absurd h (by decide)); clear h) | (with_reducible first | refine sp1 (fun h => ?_) (fun h => ?_) | refine sp2 (fun h => ?_) (fun h => ?_) | refine sp3 (fun h => ?_) (fun h => ?_) | refine sp4 (fun h => ?_) (fun h => ?_) | refine sp5 (fun h => ?_) (fun h => ?_) | refine sp6 (fun h => ?_) (fun h => ?_)) | with_reducible refine And.intro (fun h => ?_) (fun h => ?_) | refine And.intro (Int.natCast_nonneg _) ?_ | refine And.intro (by omega) ?_ | refine And.intro (by decide) ?_ | refine Lst.mk _ rfl ?_ | refine And.intro trivial ?_ | exact trivial | exact leX_refl _ | refine weak_fr ?_ ?_ rfl | refine And.intro ?_ ?_ | fail)
    rintro t ht ⟨hT⟩
    refine V_x ?_
    repeat' (conv => whnf
             first | refine Frz.own ?_ | refine Get.mk _ rfl ?_ | refine Get.mk _ (map_geti (by omega)) ?_ | refine Get.mk _ (map_getp (by omega) (by omega)) ?_ | refine Get.mk _ (map_get (by omega)) ?_ | refine Bv2.mk _ _ rfl rfl ?_ | refine Bv1.mk _ rfl ?_ | refine Wr.mk _ (wrap_i64 (by omega) (by omega)) ?_ | refine Wr.mk _ rfl ?_ | refine And.intro len_map ?_ | refine And.intro (leX_refl _) ?_ | refine And.intro rfl ?_ | refine And.intro (leO_some _) ?_ | (refine And.intro (fun h => absurd h (by decide)) (fun h => ?_); clear h) | (refine And.intro (fun h => ?_) (fun h => absurd h (by decide)); clear h) | (with_reducible first | refine sp1 (fun h => ?_) (fun h => ?_) | refine sp2 (fun h => ?_) (fun h => ?_) | refine sp3 (fun h => ?_) (fun h => ?_) | refine sp4 (fun h => ?_) (fun h => ?_) | refine sp5 (fun h => ?_) (fun h => ?_) | refine sp6 (fun h => ?_) (fun h => ?_)) | with_reducible refine And.intro (fun h => ?_) (fun h => ?_) | refine And.intro (Int.natCast_nonneg _) ?_ | refine And.intro (by omega) ?_ | refine And.intro (by decide) ?_ | refine Lst.mk _ rfl ?_ | refine And.intro trivial ?_ | exact trivial | exact leX_refl _ | refine weak_fr ?_ ?_ rfl | refine And.intro ?_ ?_ | fail)
    · refine V_up p.places.length (fun _ => True) (fun i => ([(1, .p 32 0 0), (3, tI (c : Nat)), (4, tI (t : Nat)), (5, tI (((p.places.take i).map fun x => x.at c t).sum : Nat)), (6, tI (i : Nat))], [(32, .var 25 p.tv)])) trivial ?_ ?_
      · repeat' (conv => whnf
                 first | refine Frz.own ?_ | refine Get.mk _ rfl ?_ | refine Get.mk _ (map_geti (by omega)) ?_ | refine Get.mk _ (map_getp (by omega) (by omega)) ?_ | refine Get.mk _ (map_get (by omega)) ?_ | refine Bv2.mk _ _ rfl rfl ?_ | refine Bv1.mk _ rfl ?_ | refine Wr.mk _ (wrap_i64 (by omega) (by omega)) ?_ | refine Wr.mk _ rfl ?_ | refine And.intro len_map ?_ | refine And.intro (leX_refl _) ?_ | refine And.intro rfl ?_ | refine And.intro (leO_some _) ?_ | (refine And.intro (fun h => absurd h (by decide)) (fun h => ?_); clear h) | (refine And.intro (fun h => ?_) (fun h => absurd h (by decide)); clear h) | (with_reducible first | refine sp1 (fun h => ?_) (fun h => ?_) | refine sp2 (fun h => ?_) (fun h => ?_) | refine sp3 (fun h => ?_) (fun h => ?_) | refine sp4 (fun h => ?_) (fun h => ?_) | refine sp5 (fun h => ?_) (fun h => ?_) | refine sp6 (fun h => ?_) (fun h => ?_)) | with_reducible refine And.intro (fun h => ?_) (fun h => ?_) | refine And.intro (Int.natCast_nonneg _) ?_ | refine And.intro (by omega) ?_ | refine And.intro (by decide) ?_ | refine Lst.mk _ rfl ?_ | refine And.intro trivial ?_ | exact trivial | exact leX_refl _ | refine weak_fr ?_ ?_ rfl | refine And.intro ?_ ?_ | fail)
      rintro i hi -
      refine V_x ?_
      rcases Nat.lt_or_ge i p.places.length with hlt | hge
      · have hx := hp2 _ (List.getElem_mem hlt)
        have hz : p.places[i].at c t ≤ 20 := Nat.le_trans List.countP_le_length hx
        have hs := at_sum_le (l := p.places.take i) (c := c) (t := t) fun x hx => hp2 x (List.mem_of_mem_take hx)
        rw [List.length_take] at hs
        have hst : ((p.places.take (i + 1)).map fun x => x.at c t).sum = ((p.places.take i).map fun x => x.at c t).sum + p.places[i].at c t := by rw [take_succ' hlt, List.map_append, List.sum_append]; simp
        repeat' (conv => whnf
                 first | refine Frz.own ?_ | refine Get.mk _ rfl ?_ | refine Get.mk _ (map_geti (by omega)) ?_ | refine Get.mk _ (map_getp (by omega) (by omega)) ?_ | refine Get.mk _ (map_get (by omega)) ?_ | refine Bv2.mk _ _ rfl rfl ?_ | refine Bv1.mk _ rfl ?_ | refine Wr.mk _ (wrap_i64 (by omega) (by omega)) ?_ | refine Wr.mk _ rfl ?_ | refine And.intro len_map ?_ | refine And.intro (leX_refl _) ?_ | refine And.intro rfl ?_ | refine And.intro (leO_some _) ?_ | (refine And.intro (fun h => absurd h (by decide)) (fun h => ?_); clear h) | (refine And.intro (fun h => ?_) (fun h => absurd h (by decide)); clear h) | (with_reducible first | refine sp1 (fun h => ?_) (fun h => ?_) | refine sp2 (fun h => ?_) (fun h => ?_) | refine sp3 (fun h => ?_) (fun h => ?_) | refine sp4 (fun h => ?_) (fun h => ?_) | refine sp5 (fun h => ?_) (fun h => ?_) | refine sp6 (fun h => ?_) (fun h => ?_)) | with_reducible refine And.intro (fun h => ?_) (fun h => ?_) | refine And.intro (Int.natCast_nonneg _) ?_ | refine And.intro (by omega) ?_ | refine And.intro (by decide) ?_ | refine Lst.mk _ rfl ?_ | refine Or.inr (Or.inl ⟨_, _, s107 _ c t hx, leL_refl _, rfl, rfl, ?_⟩) | refine And.intro trivial ?_ | exact trivial | exact leX_refl _ | refine weak_fr ?_ ?_ rfl | refine And.intro ?_ ?_ | fail)
        all_goals first
          | (exfalso; clear hC hT; omega)
          | (refine leI ?_; rw [hst]; omega)
          | trace_state
      · have he : ((p.places.take i).map fun x => x.at c t).sum = p.atc c t := by rw [List.take_of_length_le hge]; rfl
        repeat' (conv => whnf
                 first | refine Frz.own ?_ | refine Get.mk _ rfl ?_ | refine Get.mk _ (map_geti (by omega)) ?_ | refine Get.mk _ (map_getp (by omega) (by omega)) ?_ | refine Get.mk _ (map_get (by omega)) ?_ | refine Bv2.mk _ _ rfl rfl ?_ | refine Bv1.mk _ rfl ?_ | refine Wr.mk _ (wrap_i64 (by omega) (by omega)) ?_ | refine Wr.mk _ rfl ?_ | refine And.intro len_map ?_ | refine And.intro (leX_refl _) ?_ | refine And.intro rfl ?_ | refine And.intro (leO_some _) ?_ | (refine And.intro (fun h => absurd h (by decide)) (fun h => ?_); clear h) | (refine And.intro (fun h => ?_) (fun h => absurd h (by decide)); clear h) | (with_reducible first | refine sp1 (fun h => ?_) (fun h => ?_) | refine sp2 (fun h => ?_) (fun h => ?_) | refine sp3 (fun h => ?_) (fun h => ?_) | refine sp4 (fun h => ?_) (fun h => ?_) | refine sp5 (fun h => ?_) (fun h => ?_) | refine sp6 (fun h => ?_) (fun h => ?_)) | with_reducible refine And.intro (fun h => ?_) (fun h => ?_) | refine And.intro (Int.natCast_nonneg _) ?_ | refine And.intro (by omega) ?_ | refine And.intro (by decide) ?_ | refine Lst.mk _ rfl ?_ | refine And.intro trivial ?_ | exact trivial | exact leX_refl _ | refine weak_fr ?_ ?_ rfl | refine And.intro ?_ ?_ | fail)
        all_goals first
          | (exfalso; clear hC hT; omega)
          | (refine leB ?_
             rw [eq_comm, decide_eq_false_iff_not]
             intro h5
             have := h5 c (by omega) t (by omega)
             omega)
          | (refine Fct.mk ?_
             intro t' ht'
             rcases Nat.lt_or_ge t' t with h5 | h5
             · exact hT t' h5
             · have h6 : t' = t := by omega
               subst h6; omega)
          | trace_state
    · refine Fct.mk ?_
      intro c' hc'
      rcases Nat.lt_or_ge c' c with h5 | h5
      · exact hC c' h5
      · have h6 : c' = c := by omega
        subst h6
        intro t' ht'
        exact hT t' (by omega)
  · refine leB ?_
    rw [eq_comm, decide_eq_true_eq]
    intro c' hc'
    exact hC c' (by omega)
theorem s80 (p : Plan) (c : Int) (hp : p.light) (hc : 0 ≤ c) (hs : ∀ x ∈ p.places, 0 ≤ x.share ∧ x.share ≤ 64) : Spec prog 80 [p.tv, tI c] [] (tI (p.load c)) [] := by
  have hpop := popN_le (p.windows c) 64
  have hlen := wholes_len p c
  have hsh : ∀ w ∈ p.wholes c, 0 ≤ w.share ∧ w.share ≤ 64 := fun w hw => by
    obtain ⟨x, hx, h1, _⟩ := wholes_mem hw
    rw [h1]; exact hs x hx
  have hp1 := hp.1
  have hl : ((p.wholes c).map Want.tv).length = (p.wholes c).length := List.length_map _
  have h116 := s116 p c hp
  rw [rWin_eq p hc] at h116
  have h115 := s115 (p.windows c)
  rw [pop_eq] at h115
  refine spec_s is80 mixed rfl (V_x ?_)
  repeat' (conv => whnf
           first | refine Frz.own ?_ | refine Get.mk _ rfl ?_ | refine Get.mk _ (map_geti (by omega)) ?_ | refine Get.mk _ (map_getp (by omega) (by omega)) ?_ | refine Get.mk _ (map_get (by omega)) ?_ | refine Bv2.mk _ _ rfl rfl ?_ | refine Bv1.mk _ rfl ?_ | refine Wr.mk _ (wrap_i64 (by omega) (by omega)) ?_ | refine Wr.mk _ rfl ?_ | refine And.intro len_map ?_ | refine And.intro (leX_refl _) ?_ | refine And.intro rfl ?_ | refine And.intro (leO_some _) ?_ | (refine And.intro (fun h => absurd h (by decide)) (fun h => ?_); clear h) | (refine And.intro (fun h => ?_) (fun h => absurd h (by decide)); clear h) | (with_reducible first | refine sp1 (fun h => ?_) (fun h => ?_) | refine sp2 (fun h => ?_) (fun h => ?_) | refine sp3 (fun h => ?_) (fun h => ?_) | refine sp4 (fun h => ?_) (fun h => ?_) | refine sp5 (fun h => ?_) (fun h => ?_) | refine sp6 (fun h => ?_) (fun h => ?_)) | with_reducible refine And.intro (fun h => ?_) (fun h => ?_) | refine And.intro (Int.natCast_nonneg _) ?_ | refine And.intro (by omega) ?_ | refine And.intro (by decide) ?_ | refine Lst.mk _ rfl ?_ | refine Or.inr (Or.inl ⟨_, _, h115, leL_refl _, rfl, rfl, ?_⟩) | refine Or.inr (Or.inl ⟨_, _, h116, leL_refl _, rfl, rfl, ?_⟩) | refine Or.inr (Or.inl ⟨_, _, s117 _ _ hp, leL_refl _, rfl, rfl, ?_⟩) | refine And.intro trivial ?_ | exact trivial | exact leX_refl _ | refine weak_fr ?_ ?_ rfl | refine And.intro ?_ ?_ | fail)
  refine V_up (p.wholes c).length (fun _ => True) (fun i => ([(5, tI ((popN (p.windows c) 64 : Nat) + shareSum ((p.wholes c).take i))), (6, .s 2 ((p.wholes c).map Want.tv)), (7, tI (i : Nat))], [])) trivial ?_ ?_
  · repeat' (conv => whnf
             first | refine Frz.own ?_ | refine Get.mk _ rfl ?_ | refine Get.mk _ (map_geti (by omega)) ?_ | refine Get.mk _ (map_getp (by omega) (by omega)) ?_ | refine Get.mk _ (map_get (by omega)) ?_ | refine Bv2.mk _ _ rfl rfl ?_ | refine Bv1.mk _ rfl ?_ | refine Wr.mk _ (wrap_i64 (by omega) (by omega)) ?_ | refine Wr.mk _ rfl ?_ | refine And.intro len_map ?_ | refine And.intro (leX_refl _) ?_ | refine And.intro rfl ?_ | refine And.intro (leO_some _) ?_ | (refine And.intro (fun h => absurd h (by decide)) (fun h => ?_); clear h) | (refine And.intro (fun h => ?_) (fun h => absurd h (by decide)); clear h) | (with_reducible first | refine sp1 (fun h => ?_) (fun h => ?_) | refine sp2 (fun h => ?_) (fun h => ?_) | refine sp3 (fun h => ?_) (fun h => ?_) | refine sp4 (fun h => ?_) (fun h => ?_) | refine sp5 (fun h => ?_) (fun h => ?_) | refine sp6 (fun h => ?_) (fun h => ?_)) | with_reducible refine And.intro (fun h => ?_) (fun h => ?_) | refine And.intro (Int.natCast_nonneg _) ?_ | refine And.intro (by omega) ?_ | refine And.intro (by decide) ?_ | refine Lst.mk _ rfl ?_ | refine And.intro trivial ?_ | exact trivial | exact leX_refl _ | refine weak_fr ?_ ?_ rfl | refine And.intro ?_ ?_ | fail)
  rintro i hi -
  have h1 := shareSum_le (l := (p.wholes c).take i) fun w hw => hsh w (List.mem_of_mem_take hw)
  rw [List.length_take] at h1
  refine V_x ?_
  rcases Nat.lt_or_ge i (p.wholes c).length with hlt | hge
  · have h2 := hsh _ (List.getElem_mem hlt)
    have h3 := shareSum_succ hlt
    repeat' (conv => whnf
             first | refine Frz.own ?_ | refine Get.mk _ rfl ?_ | refine Get.mk _ (map_geti (by omega)) ?_ | refine Get.mk _ (map_getp (by omega) (by omega)) ?_ | refine Get.mk _ (map_get (by omega)) ?_ | refine Bv2.mk _ _ rfl rfl ?_ | refine Bv1.mk _ rfl ?_ | refine Wr.mk _ (wrap_i64 (by omega) (by omega)) ?_ | refine Wr.mk _ rfl ?_ | refine And.intro len_map ?_ | refine And.intro (leX_refl _) ?_ | refine And.intro rfl ?_ | refine And.intro (leO_some _) ?_ | (refine And.intro (fun h => absurd h (by decide)) (fun h => ?_); clear h) | (refine And.intro (fun h => ?_) (fun h => absurd h (by decide)); clear h) | (with_reducible first | refine sp1 (fun h => ?_) (fun h => ?_) | refine sp2 (fun h => ?_) (fun h => ?_) | refine sp3 (fun h => ?_) (fun h => ?_) | refine sp4 (fun h => ?_) (fun h => ?_) | refine sp5 (fun h => ?_) (fun h => ?_) | refine sp6 (fun h => ?_) (fun h => ?_)) | with_reducible refine And.intro (fun h => ?_) (fun h => ?_) | refine And.intro (Int.natCast_nonneg _) ?_ | refine And.intro (by omega) ?_ | refine And.intro (by decide) ?_ | refine Lst.mk _ rfl ?_ | refine And.intro trivial ?_ | exact trivial | exact leX_refl _ | refine weak_fr ?_ ?_ rfl | refine And.intro ?_ ?_ | fail)
    all_goals first
      | (exfalso; omega)
      | (refine leI ?_
         rw [h3]; omega)
      | trace_state
  · repeat' (conv => whnf
             first | refine Frz.own ?_ | refine Get.mk _ rfl ?_ | refine Get.mk _ (map_geti (by omega)) ?_ | refine Get.mk _ (map_getp (by omega) (by omega)) ?_ | refine Get.mk _ (map_get (by omega)) ?_ | refine Bv2.mk _ _ rfl rfl ?_ | refine Bv1.mk _ rfl ?_ | refine Wr.mk _ (wrap_i64 (by omega) (by omega)) ?_ | refine Wr.mk _ rfl ?_ | refine And.intro len_map ?_ | refine And.intro (leX_refl _) ?_ | refine And.intro rfl ?_ | refine And.intro (leO_some _) ?_ | (refine And.intro (fun h => absurd h (by decide)) (fun h => ?_); clear h) | (refine And.intro (fun h => ?_) (fun h => absurd h (by decide)); clear h) | (with_reducible first | refine sp1 (fun h => ?_) (fun h => ?_) | refine sp2 (fun h => ?_) (fun h => ?_) | refine sp3 (fun h => ?_) (fun h => ?_) | refine sp4 (fun h => ?_) (fun h => ?_) | refine sp5 (fun h => ?_) (fun h => ?_) | refine sp6 (fun h => ?_) (fun h => ?_)) | with_reducible refine And.intro (fun h => ?_) (fun h => ?_) | refine And.intro (Int.natCast_nonneg _) ?_ | refine And.intro (by omega) ?_ | refine And.intro (by decide) ?_ | refine Lst.mk _ rfl ?_ | refine And.intro trivial ?_ | exact trivial | exact leX_refl _ | refine weak_fr ?_ ?_ rfl | refine And.intro ?_ ?_ | fail)
    all_goals first
      | (exfalso; omega)
      | (refine leI ?_
         rw [List.take_of_length_le hge]
         unfold Plan.load; omega)
      | trace_state
open Classical in
theorem s35 (p : Plan) (hp : p.light) : Spec prog 35 [p.tv] [] (tB (decide p.right)) [] := by
  have hp1 := hp.1
  have hp2 := hp.2
  have hcl := coresI_len p
  have hl : (p.places.map Place.tv).length = p.places.length := List.length_map _
  refine spec_s is35 mixed rfl (V_x ?_)
  repeat' (conv => whnf
           first | refine Frz.own ?_ | refine Get.mk _ rfl ?_ | refine Get.mk _ (map_geti (by omega)) ?_ | refine Get.mk _ (map_getp (by omega) (by omega)) ?_ | refine Get.mk _ (map_get (by omega)) ?_ | refine Bv2.mk _ _ rfl rfl ?_ | refine Bv1.mk _ rfl ?_ | refine Wr.mk _ (wrap_i64 (by omega) (by omega)) ?_ | refine Wr.mk _ rfl ?_ | refine And.intro len_map ?_ | refine And.intro (leX_refl _) ?_ | refine And.intro rfl ?_ | refine And.intro (leO_some _) ?_ | (refine And.intro (fun h => absurd h (by decide)) (fun h => ?_); clear h) | (refine And.intro (fun h => ?_) (fun h => absurd h (by decide)); clear h) | (with_reducible first | refine sp1 (fun h => ?_) (fun h => ?_) | refine sp2 (fun h => ?_) (fun h => ?_) | refine sp3 (fun h => ?_) (fun h => ?_) | refine sp4 (fun h => ?_) (fun h => ?_) | refine sp5 (fun h => ?_) (fun h => ?_) | refine sp6 (fun h => ?_) (fun h => ?_)) | with_reducible refine And.intro (fun h => ?_) (fun h => ?_) | refine And.intro (Int.natCast_nonneg _) ?_ | refine And.intro (by omega) ?_ | refine And.intro (by decide) ?_ | refine Lst.mk _ rfl ?_ | refine And.intro trivial ?_ | exact trivial | exact leX_refl _ | refine weak_fr ?_ ?_ rfl | refine And.intro ?_ ?_ | fail)
  · refine leB ?_
    rw [eq_comm, decide_eq_false_iff_not]
    intro h5
    have := h5.cm
    have h6 : (65535#32).toNat = 65535 := rfl
    omega
  · have hcm : p.cores.toNat ≤ 65535 := by
      have h6 : (65535#32).toNat = 65535 := rfl
      omega
    refine V_up p.places.length (fun i => Fct ((∀ x ∈ p.places.take i, x.ok p) ∧ (p.places.take i).Pairwise fun a b => a.unit < b.unit)) (fun i => ([(1, .p 32 0 0), (3, tI (i : Nat))], [(32, .var 25 p.tv)]))
      ⟨by simp, by simp⟩ ?_ ?_
    · repeat' (conv => whnf
               first | refine Frz.own ?_ | refine Get.mk _ rfl ?_ | refine Get.mk _ (map_geti (by omega)) ?_ | refine Get.mk _ (map_getp (by omega) (by omega)) ?_ | refine Get.mk _ (map_get (by omega)) ?_ | refine Bv2.mk _ _ rfl rfl ?_ | refine Bv1.mk _ rfl ?_ | refine Wr.mk _ (wrap_i64 (by omega) (by omega)) ?_ | refine Wr.mk _ rfl ?_ | refine And.intro len_map ?_ | refine And.intro (leX_refl _) ?_ | refine And.intro rfl ?_ | refine And.intro (leO_some _) ?_ | (refine And.intro (fun h => absurd h (by decide)) (fun h => ?_); clear h) | (refine And.intro (fun h => ?_) (fun h => absurd h (by decide)); clear h) | (with_reducible first | refine sp1 (fun h => ?_) (fun h => ?_) | refine sp2 (fun h => ?_) (fun h => ?_) | refine sp3 (fun h => ?_) (fun h => ?_) | refine sp4 (fun h => ?_) (fun h => ?_) | refine sp5 (fun h => ?_) (fun h => ?_) | refine sp6 (fun h => ?_) (fun h => ?_)) | with_reducible refine And.intro (fun h => ?_) (fun h => ?_) | refine And.intro (Int.natCast_nonneg _) ?_ | refine And.intro (by omega) ?_ | refine And.intro (by decide) ?_ | refine Lst.mk _ rfl ?_ | refine And.intro trivial ?_ | exact trivial | exact leX_refl _ | refine weak_fr ?_ ?_ rfl | refine And.intro ?_ ?_ | fail)
    rintro i hi ⟨hI⟩
    refine V_x ?_
    rcases Nat.lt_or_ge i p.places.length with hlt | hge
    · have hx := hp2 _ (List.getElem_mem hlt)
      have hst := ok_step hlt hI
      repeat' (conv => whnf
               first | refine Frz.own ?_ | refine Get.mk _ rfl ?_ | refine Get.mk _ (map_geti (by omega)) ?_ | refine Get.mk _ (map_getp (by omega) (by omega)) ?_ | refine Get.mk _ (map_get (by omega)) ?_ | refine Bv2.mk _ _ rfl rfl ?_ | refine Bv1.mk _ rfl ?_ | refine Wr.mk _ (wrap_i64 (by omega) (by omega)) ?_ | refine Wr.mk _ rfl ?_ | refine And.intro len_map ?_ | refine And.intro (leX_refl _) ?_ | refine And.intro rfl ?_ | refine And.intro (leO_some _) ?_ | (refine And.intro (fun h => absurd h (by decide)) (fun h => ?_); clear h) | (refine And.intro (fun h => ?_) (fun h => absurd h (by decide)); clear h) | (with_reducible first | refine sp1 (fun h => ?_) (fun h => ?_) | refine sp2 (fun h => ?_) (fun h => ?_) | refine sp3 (fun h => ?_) (fun h => ?_) | refine sp4 (fun h => ?_) (fun h => ?_) | refine sp5 (fun h => ?_) (fun h => ?_) | refine sp6 (fun h => ?_) (fun h => ?_)) | with_reducible refine And.intro (fun h => ?_) (fun h => ?_) | refine And.intro (Int.natCast_nonneg _) ?_ | refine And.intro (by omega) ?_ | refine And.intro (by decide) ?_ | refine Lst.mk _ rfl ?_ | refine Or.inr (Or.inl ⟨_, _, s78 p _ hx, leL_refl _, rfl, rfl, ?_⟩) | refine And.intro trivial ?_ | exact trivial | exact leX_refl _ | refine weak_fr ?_ ?_ rfl | refine And.intro ?_ ?_ | fail)
      all_goals first
        | (exfalso; clear hI hst; omega)
        | (refine leB ?_
           rw [eq_comm, decide_eq_false_iff_not]
           intro h5
           have h6 := hst.1 (right_pre h5 (i + 1))
           grind)
        | (refine Fct.mk ?_
           rw [hst]
           grind)
        | trace_state
    · rw [List.take_of_length_le hge] at hI
      have h6 : (p.coresI.map fun c => tI c).length = p.coresI.length := List.length_map _
      repeat' (conv => whnf
               first | refine Frz.own ?_ | refine Get.mk _ rfl ?_ | refine Get.mk _ (map_geti (by omega)) ?_ | refine Get.mk _ (map_getp (by omega) (by omega)) ?_ | refine Get.mk _ (map_get (by omega)) ?_ | refine Bv2.mk _ _ rfl rfl ?_ | refine Bv1.mk _ rfl ?_ | refine Wr.mk _ (wrap_i64 (by omega) (by omega)) ?_ | refine Wr.mk _ rfl ?_ | refine And.intro len_map ?_ | refine And.intro (leX_refl _) ?_ | refine And.intro rfl ?_ | refine And.intro (leO_some _) ?_ | (refine And.intro (fun h => absurd h (by decide)) (fun h => ?_); clear h) | (refine And.intro (fun h => ?_) (fun h => absurd h (by decide)); clear h) | (with_reducible first | refine sp1 (fun h => ?_) (fun h => ?_) | refine sp2 (fun h => ?_) (fun h => ?_) | refine sp3 (fun h => ?_) (fun h => ?_) | refine sp4 (fun h => ?_) (fun h => ?_) | refine sp5 (fun h => ?_) (fun h => ?_) | refine sp6 (fun h => ?_) (fun h => ?_)) | with_reducible refine And.intro (fun h => ?_) (fun h => ?_) | refine And.intro (Int.natCast_nonneg _) ?_ | refine And.intro (by omega) ?_ | refine And.intro (by decide) ?_ | refine Lst.mk _ rfl ?_ | refine Or.inr (Or.inl ⟨_, _, s79 p hp, leL_refl _, rfl, rfl, ?_⟩) | refine Or.inr (Or.inl ⟨_, _, s56 p hp, leL_refl _, rfl, rfl, ?_⟩) | refine Or.inr (Or.inl ⟨_, _, s62 p, leL_refl _, rfl, rfl, ?_⟩) | refine And.intro trivial ?_ | exact trivial | exact leX_refl _ | refine weak_fr ?_ ?_ rfl | refine And.intro ?_ ?_ | fail)
      · exfalso; clear hI; omega
      · refine leB ?_
        rw [eq_comm, decide_eq_false_iff_not]
        intro h5
        have := h5.few
        omega
      · rename_i hap
        refine V_up p.coresI.length (fun j => Fct (∀ c ∈ p.coresI.take j, p.load c ≤ p.frame)) (fun j => ([(1, .p 32 0 0), (4, .s 1 (p.coresI.map fun c => tI c)), (5, tI (j : Nat))], [(32, .var 25 p.tv)]))
          ⟨by simp⟩ ?_ ?_
        · repeat' (conv => whnf
                   first | refine Frz.own ?_ | refine Get.mk _ rfl ?_ | refine Get.mk _ (map_geti (by omega)) ?_ | refine Get.mk _ (map_getp (by omega) (by omega)) ?_ | refine Get.mk _ (map_get (by omega)) ?_ | refine Bv2.mk _ _ rfl rfl ?_ | refine Bv1.mk _ rfl ?_ | refine Wr.mk _ (wrap_i64 (by omega) (by omega)) ?_ | refine Wr.mk _ rfl ?_ | refine And.intro len_map ?_ | refine And.intro (leX_refl _) ?_ | refine And.intro rfl ?_ | refine And.intro (leO_some _) ?_ | (refine And.intro (fun h => absurd h (by decide)) (fun h => ?_); clear h) | (refine And.intro (fun h => ?_) (fun h => absurd h (by decide)); clear h) | (with_reducible first | refine sp1 (fun h => ?_) (fun h => ?_) | refine sp2 (fun h => ?_) (fun h => ?_) | refine sp3 (fun h => ?_) (fun h => ?_) | refine sp4 (fun h => ?_) (fun h => ?_) | refine sp5 (fun h => ?_) (fun h => ?_) | refine sp6 (fun h => ?_) (fun h => ?_)) | with_reducible refine And.intro (fun h => ?_) (fun h => ?_) | refine And.intro (Int.natCast_nonneg _) ?_ | refine And.intro (by omega) ?_ | refine And.intro (by decide) ?_ | refine Lst.mk _ rfl ?_ | refine And.intro trivial ?_ | exact trivial | exact leX_refl _ | refine weak_fr ?_ ?_ rfl | refine And.intro ?_ ?_ | fail)
        rintro j hj ⟨hJ⟩
        refine V_x ?_
        rcases Nat.lt_or_ge j p.coresI.length with hlt2 | hge2
        · have hms := mem_snoc hlt2 (P := fun c => p.load c ≤ p.frame)
          have hsh : ∀ x ∈ p.places, 0 ≤ x.share ∧ x.share ≤ 64 := fun x hx => by
            obtain ⟨_, h1, h2, _⟩ := hI.1 x hx; omega
          have hc0 : 0 ≤ p.coresI[j] := by
            have := (List.mem_filter.1 (List.getElem_mem hlt2)).2
            exact (has_range this).1
          repeat' (conv => whnf
                   first | refine Frz.own ?_ | refine Get.mk _ rfl ?_ | refine Get.mk _ (map_geti (by omega)) ?_ | refine Get.mk _ (map_getp (by omega) (by omega)) ?_ | refine Get.mk _ (map_get (by omega)) ?_ | refine Bv2.mk _ _ rfl rfl ?_ | refine Bv1.mk _ rfl ?_ | refine Wr.mk _ (wrap_i64 (by omega) (by omega)) ?_ | refine Wr.mk _ rfl ?_ | refine And.intro len_map ?_ | refine And.intro (leX_refl _) ?_ | refine And.intro rfl ?_ | refine And.intro (leO_some _) ?_ | (refine And.intro (fun h => absurd h (by decide)) (fun h => ?_); clear h) | (refine And.intro (fun h => ?_) (fun h => absurd h (by decide)); clear h) | (with_reducible first | refine sp1 (fun h => ?_) (fun h => ?_) | refine sp2 (fun h => ?_) (fun h => ?_) | refine sp3 (fun h => ?_) (fun h => ?_) | refine sp4 (fun h => ?_) (fun h => ?_) | refine sp5 (fun h => ?_) (fun h => ?_) | refine sp6 (fun h => ?_) (fun h => ?_)) | with_reducible refine And.intro (fun h => ?_) (fun h => ?_) | refine And.intro (Int.natCast_nonneg _) ?_ | refine And.intro (by omega) ?_ | refine And.intro (by decide) ?_ | refine Lst.mk _ rfl ?_ | refine Or.inr (Or.inl ⟨_, _, s80 p _ hp hc0 hsh, leL_refl _, rfl, rfl, ?_⟩) | refine And.intro trivial ?_ | exact trivial | exact leX_refl _ | refine weak_fr ?_ ?_ rfl | refine And.intro ?_ ?_ | fail)
          all_goals first
            | (exfalso; clear hI hJ hms hap; omega)
            | (refine leB ?_
               rw [eq_comm, decide_eq_false_iff_not]
               intro h7
               have h5 := h7.room _ (List.getElem_mem hlt2)
               omega)
            | (refine Fct.mk ?_
               rw [hms]
               exact ⟨hJ, by omega⟩)
            | trace_state
        · repeat' (conv => whnf
                   first | refine Frz.own ?_ | refine Get.mk _ rfl ?_ | refine Get.mk _ (map_geti (by omega)) ?_ | refine Get.mk _ (map_getp (by omega) (by omega)) ?_ | refine Get.mk _ (map_get (by omega)) ?_ | refine Bv2.mk _ _ rfl rfl ?_ | refine Bv1.mk _ rfl ?_ | refine Wr.mk _ (wrap_i64 (by omega) (by omega)) ?_ | refine Wr.mk _ rfl ?_ | refine And.intro len_map ?_ | refine And.intro (leX_refl _) ?_ | refine And.intro rfl ?_ | refine And.intro (leO_some _) ?_ | (refine And.intro (fun h => absurd h (by decide)) (fun h => ?_); clear h) | (refine And.intro (fun h => ?_) (fun h => absurd h (by decide)); clear h) | (with_reducible first | refine sp1 (fun h => ?_) (fun h => ?_) | refine sp2 (fun h => ?_) (fun h => ?_) | refine sp3 (fun h => ?_) (fun h => ?_) | refine sp4 (fun h => ?_) (fun h => ?_) | refine sp5 (fun h => ?_) (fun h => ?_) | refine sp6 (fun h => ?_) (fun h => ?_)) | with_reducible refine And.intro (fun h => ?_) (fun h => ?_) | refine And.intro (Int.natCast_nonneg _) ?_ | refine And.intro (by omega) ?_ | refine And.intro (by decide) ?_ | refine Lst.mk _ rfl ?_ | refine And.intro trivial ?_ | exact trivial | exact leX_refl _ | refine weak_fr ?_ ?_ rfl | refine And.intro ?_ ?_ | fail)
          all_goals first
            | (exfalso; clear hI hJ hap; omega)
            | (refine leB ?_
               rw [eq_comm, decide_eq_true_eq]
               rw [List.take_of_length_le hge2] at hJ
               exact ⟨by omega, by omega, by assumption, hcm, hI.1, hI.2, hap, by omega, hJ⟩)
            | trace_state
      · refine leB ?_
        rw [eq_comm, decide_eq_false_iff_not]
        intro h5
        exact h h5.apart
  all_goals
    refine leB ?_
    rw [eq_comm, decide_eq_false_iff_not]
    intro h5
  · exact h5.cs h
  · have := h5.hi; omega
  · have := h5.lo; omega
end Go.Proofs.Ytjmjolefhcjedaa.Vc
