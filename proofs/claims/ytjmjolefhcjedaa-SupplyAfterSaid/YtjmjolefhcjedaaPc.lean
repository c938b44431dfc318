/- The fewest sure ticks, as the program tells them, and as the reference does. -/
import Derived.Test.YtjmjolefhcjedaaPb
namespace Go.Proofs.Ytjmjolefhcjedaa.Vc
open Go Go.RowKit Go.Proofs.Try
set_option maxRecDepth 20000

def turnB (f : Int) (m : BitVec 64) (k : Int) : BitVec 64 := ((m &&& allB f) <<< (k % f).toNat ||| (m &&& allB f) >>> (f - k % f).toNat) &&& allB f
def roundB (f k n : Int) : BitVec 64 := turnB f (allB n) k
theorem frameOf_id {f : Int} (h0 : 0 ≤ f) (h1 : f ≤ 64) : frameOf f = f := by unfold frameOf; omega
theorem s140 (f : Int) (m : BitVec 64) (k : Int) (hf : 0 < f) (hf' : f ≤ 64) (hk : 0 ≤ k) : Spec prog 140 [tI f, tU m, tI k] [] (tU (turnB f m k)) [] := by
  have h139 := s139 f
  rw [frameOf_id (by omega) hf'] at h139
  have h2 := Int.emod_nonneg k (show f ≠ 0 by omega)
  have h3 := Int.emod_lt_of_pos k hf
  refine spec_s is140 mixed rfl (V_x ?_)
  repeat' (conv => whnf
           first
    | refine Frz.own ?_
    | refine Get.mk _ rfl ?_
    | refine Get.mk _ (map_geti (by omega)) ?_
    | refine Get.mk _ (map_getp (by omega) (by omega)) ?_
    | refine Get.mk _ (map_get (by omega)) ?_
    | refine Bv2.mk _ _ rfl rfl ?_
    | refine Bv1.mk _ rfl ?_
    | refine Wr.mk _ (wrap_i64 (by omega) (by omega)) ?_
    | refine Wr.mk _ rfl ?_
    | refine And.intro len_map ?_
    | refine And.intro (leX_refl _) ?_
    | refine And.intro rfl ?_
    | refine And.intro (leO_some _) ?_
    | (refine And.intro (fun h => absurd h (by decide)) (fun h => ?_); clear h)
    | (refine And.intro (fun h => ?_) (fun h => absurd h (by decide)); clear h)
    | with_reducible refine sp1 (fun h => ?_) (fun h => ?_)
    | with_reducible refine sp2 (fun h => ?_) (fun h => ?_)
    | with_reducible refine sp3 (fun h => ?_) (fun h => ?_)
    | with_reducible refine sp4 (fun h => ?_) (fun h => ?_)
    | with_reducible refine sp5 (fun h => ?_) (fun h => ?_)
    | with_reducible refine sp6 (fun h => ?_) (fun h => ?_)
    | with_reducible refine And.intro (fun h => ?_) (fun h => ?_)
    | refine And.intro (Int.natCast_nonneg _) ?_
    | refine And.intro (by omega) ?_
    | refine And.intro (by decide) ?_
    | refine Lst.mk _ rfl ?_
    | refine Or.inr (Or.inl ⟨_, _, h139, leL_refl _, rfl, rfl, ?_⟩)
    | refine Or.inr (Or.inl ⟨_, _, s141 _, leL_refl _, rfl, rfl, ?_⟩)
    | refine Or.inr (Or.inl ⟨_, _, s160 f k hf hf' hk, leL_refl _, rfl, rfl, ?_⟩)
    | refine And.intro trivial ?_
    | exact trivial
    | exact leX_refl _
    | refine weak_fr ?_ ?_ rfl
    | refine And.intro ?_ ?_
    | fail)
  all_goals first
    | (exfalso; omega)
    | exact leU rfl
theorem s106 (f k n : Int) (hf : 0 < f) (hf' : f ≤ 64) (hk : 0 ≤ k) (h0 : 0 ≤ n) (h1 : n ≤ f) : Spec prog 106 [tI f, tI k, tI n] [] (tU (roundB f k n)) [] := by
  have h139 := s139 f
  rw [frameOf_id (by omega) hf'] at h139
  refine spec_s is106 mixed rfl (V_x ?_)
  have e1 : min (max n 0) f = n := by omega
  repeat' (conv => whnf
           first
    | refine Frz.own ?_
    | refine Wr.mk _ (e1) ?_
    | refine Get.mk _ rfl ?_
    | refine Get.mk _ (map_geti (by omega)) ?_
    | refine Get.mk _ (map_getp (by omega) (by omega)) ?_
    | refine Get.mk _ (map_get (by omega)) ?_
    | refine Bv2.mk _ _ rfl rfl ?_
    | refine Bv1.mk _ rfl ?_
    | refine Wr.mk _ (wrap_i64 (by omega) (by omega)) ?_
    | refine Wr.mk _ rfl ?_
    | refine And.intro len_map ?_
    | refine And.intro (leX_refl _) ?_
    | refine And.intro rfl ?_
    | refine And.intro (leO_some _) ?_
    | (refine And.intro (fun h => absurd h (by decide)) (fun h => ?_); clear h)
    | (refine And.intro (fun h => ?_) (fun h => absurd h (by decide)); clear h)
    | with_reducible refine sp1 (fun h => ?_) (fun h => ?_)
    | with_reducible refine sp2 (fun h => ?_) (fun h => ?_)
    | with_reducible refine sp3 (fun h => ?_) (fun h => ?_)
    | with_reducible refine sp4 (fun h => ?_) (fun h => ?_)
    | with_reducible refine sp5 (fun h => ?_) (fun h => ?_)
    | with_reducible refine sp6 (fun h => ?_) (fun h => ?_)
    | with_reducible refine And.intro (fun h => ?_) (fun h => ?_)
    | refine And.intro (Int.natCast_nonneg _) ?_
    | refine And.intro (by omega) ?_
    | refine And.intro (by decide) ?_
    | refine Lst.mk _ rfl ?_
    | refine Or.inr (Or.inl ⟨_, _, h139, leL_refl _, rfl, rfl, ?_⟩)
    | refine Or.inr (Or.inl ⟨_, _, s141 _, leL_refl _, rfl, rfl, ?_⟩)
    | refine Or.inr (Or.inl ⟨_, _, s140 f (allB n) k hf hf' hk, leL_refl _, rfl, rfl, ?_⟩)
    | refine And.intro trivial ?_
    | exact trivial
    | exact leX_refl _
    | refine weak_fr ?_ ?_ rfl
    | refine And.intro ?_ ?_
    | fail)
  all_goals first
    | (exfalso; omega)
    | exact leU rfl
theorem round_has {f c n : Nat} (hf : 0 < f) (hf' : f ≤ 64) (hc : c < f) (hn : n ≤ f) (t : Nat) (ht : t < 64) : hasT (roundB f c n) t = decide (t < f ∧ (t + f - c) % f < n) := by
  unfold roundB turnB
  have e1 : (((c : Int) % (f : Int)).toNat) = c := by rw [Int.emod_eq_of_lt (by omega) (by omega)]; rfl
  have e2 : (((f : Int) - (c : Int) % (f : Int)).toNat) = f - c := by rw [Int.emod_eq_of_lt (by omega) (by omega)]; omega
  rw [e1, e2, hasT_and, hasT_or, hasT_allB]
  have h1 : hasT ((allB n &&& allB f) <<< c) t = decide (c ≤ t ∧ t - c < n) := by
    rw [hasT_nat, BitVec.getLsbD_shiftLeft, BitVec.getLsbD_and, ← hasT_nat, ← hasT_nat, hasT_allB, hasT_allB, Bool.eq_iff_iff]
    simp; omega
  have h2 : hasT ((allB n &&& allB f) >>> (f - c)) t = decide (f - c + t < n) := by
    rw [hasT_nat, BitVec.getLsbD_ushiftRight, BitVec.getLsbD_and, ← hasT_nat, ← hasT_nat, hasT_allB, hasT_allB, Bool.eq_iff_iff]
    simp; omega
  rw [h1, h2, Bool.eq_iff_iff]
  have e3 : (t < f → (t + f - c) % f = if c ≤ t then t - c else t + f - c) := by
    intro htf
    split
    · rw [show t + f - c = (t - c) + f by omega, Nat.add_mod_right, Nat.mod_eq_of_lt (by omega)]
    · rw [Nat.mod_eq_of_lt (by omega)]
  simp only [Bool.and_eq_true, Bool.or_eq_true, decide_eq_true_eq]
  constructor
  · rintro ⟨h3, h4, _⟩
    have h5 : t < f := by omega
    rw [e3 h5]
    refine ⟨h5, ?_⟩
    split <;> omega
  · rintro ⟨h3, h4⟩
    rw [e3 h3] at h4
    refine ⟨?_, by omega, ht⟩
    split at h4 <;> omega
/-- A set's ticks as numbers. -/
def bits (m : BitVec 64) : Nat → Nat := fun t => (hasT m t).toNat
theorem pop_round {f c n : Nat} (m : BitVec 64) (hf : 0 < f) (hf' : f ≤ 64) (hc : c < f) (hn : n ≤ f) : popN (m &&& roundB f c n) 64 = cyc (bits m) f c n := by
  rw [← cyc_dist _ _ _ _ hc hn]
  unfold popN
  rw [countP_range, sumTo_zero hf' (fun t h1 h2 => by
    rw [hasT_and, round_has hf hf' hc hn t h2]
    have : ¬ t < f := by omega
    simp [this])]
  refine sumTo_congr fun t ht => ?_
  rw [hasT_and, round_has hf hf' hc hn t (by omega)]
  unfold bits
  by_cases h : (t + f - c) % f < n <;> simp [h, ht]
def minS (a : Nat) (g : Nat → Nat) : Nat → Nat
  | 0 => a
  | n + 1 => min (minS a g n) (g n)
theorem minS_le (a : Nat) (g : Nat → Nat) (n : Nat) : minS a g n ≤ a := by
  induction n with
  | zero => exact Nat.le_refl _
  | succ n ih => simp only [minS]; omega
theorem minS_congr {a : Nat} {g h : Nat → Nat} {n : Nat} (e : ∀ t, t < n → g t = h t) : minS a g n = minS a h n := by
  induction n with
  | zero => rfl
  | succ n ih => rw [minS, minS, ih (fun t ht => e t (by omega)), e n (by omega)]
theorem minS_ge {a k : Nat} {g : Nat → Nat} {n : Nat} (ha : k ≤ a) (h : ∀ t, t < n → k ≤ g t) : k ≤ minS a g n := by
  induction n with
  | zero => exact ha
  | succ n ih => have := ih (fun t ht => h t (by omega)); have := h n (by omega); simp only [minS]; omega
theorem minS_at {a : Nat} {g : Nat → Nat} {n t : Nat} (ht : t < n) : minS a g n ≤ g t := by
  induction n with
  | zero => omega
  | succ n ih =>
    simp only [minS]
    rcases Nat.lt_or_ge t n with h | h
    · have := ih h; omega
    · have : t = n := by omega
      subst this; omega
theorem minS_ex {a : Nat} {g : Nat → Nat} {n : Nat} : minS a g n = a ∨ ∃ t, t < n ∧ minS a g n = g t := by
  induction n with
  | zero => exact .inl rfl
  | succ n ih =>
    simp only [minS]
    rcases Nat.le_total (minS a g n) (g n) with h | h
    · rw [Nat.min_eq_left h]
      rcases ih with h1 | ⟨t, h1, h2⟩
      · exact .inl h1
      · exact .inr ⟨t, by omega, h2⟩
    · rw [Nat.min_eq_right h]; exact .inr ⟨n, by omega, rfl⟩
/-- The fewest sure ticks, as the program tells them. -/
def leastP (f s : Int) (m : BitVec 64) (n : Int) : Int :=
  if m = 0#64 then s * max 0 ((n + 1) / f - 1) else n / f * s + (minS (n % f).toNat (fun c => popN (m &&& roundB f c ((n % f).toNat : Nat)) 64) f.toNat : Nat)
theorem div_bd {n f : Int} (h0 : 0 ≤ n) (hf : 0 < f) : 0 ≤ n / f ∧ n / f ≤ n := ⟨Int.ediv_nonneg h0 (by omega), Int.ediv_le_self _ h0⟩
theorem mul_bd {s m b : Int} (h0 : 0 ≤ s) (h1 : s ≤ 64) (h2 : 0 ≤ m) (h3 : m ≤ b) : 0 ≤ s * m ∧ s * m ≤ 64 * b := by
  refine ⟨Int.mul_nonneg h0 h2, ?_⟩
  calc s * m ≤ 64 * m := Int.mul_le_mul_of_nonneg_right h1 h2
    _ ≤ 64 * b := by omega
theorem s68 (f s : Int) (m : BitVec 64) (n : Int) (hf : 1 ≤ f) (hf' : f ≤ 64) (hs : 0 ≤ s) (hs' : s ≤ 64) (hn : 0 ≤ n) (hn' : n ≤ 1099511627776) : Spec prog 68 [.a [tI f, tI s, tU m], tI n] [] (tI (leastP f s m n)) [] := by
  refine spec_s is68 mixed rfl (V_x ?_)
  have d1 := div_bd (n := n + 1) (f := f) (by omega) (by omega)
  have d2 := div_bd (n := n) (f := f) hn (by omega)
  have e1 : IntKind.wrap .i64 ((n + 1).tdiv f) = (n + 1) / f := by rw [Int.tdiv_eq_ediv_of_nonneg (by omega)]; exact wrap_i64 (by omega) (by omega)
  have e2 : IntKind.wrap .i64 (n.tdiv f) = n / f := by rw [Int.tdiv_eq_ediv_of_nonneg (by omega)]; exact wrap_i64 (by omega) (by omega)
  have d3 := mul_bd (s := s) (m := max 0 ((n + 1) / f - 1)) (b := 1099511627777) hs hs' (by omega) (by omega)
  have d4 := mul_bd (s := s) (m := n / f) (b := 1099511627777) hs hs' (by omega) (by omega)
  rw [Int.mul_comm s (n / f)] at d4
  have e3 : IntKind.wrap .i64 (s * max 0 ((n + 1) / f - 1)) = s * max 0 ((n + 1) / f - 1) := wrap_i64 (by omega) (by omega)
  have r1 := Int.emod_nonneg n (show f ≠ 0 by omega)
  have r2 := Int.emod_lt_of_pos n (show 0 < f by omega)
  have r3 : n.tmod f = n % f := Int.tmod_eq_emod_of_nonneg hn
  repeat' (conv => whnf
           first
    | refine Frz.own ?_
    | refine Wr.mk _ (e1) ?_
    | refine Wr.mk _ (e2) ?_
    | refine Wr.mk _ (e3) ?_
    | refine Get.mk _ rfl ?_
    | refine Get.mk _ (map_geti (by omega)) ?_
    | refine Get.mk _ (map_getp (by omega) (by omega)) ?_
    | refine Get.mk _ (map_get (by omega)) ?_
    | refine Bv2.mk _ _ rfl rfl ?_
    | refine Bv1.mk _ rfl ?_
    | refine Wr.mk _ (wrap_i64 (by omega) (by omega)) ?_
    | refine Wr.mk _ rfl ?_
    | refine And.intro len_map ?_
    | refine And.intro (leX_refl _) ?_
    | refine And.intro rfl ?_
    | refine And.intro (leO_some _) ?_
    | (refine And.intro (fun h => absurd h (by decide)) (fun h => ?_); clear h)
    | (refine And.intro (fun h => ?_) (fun h => absurd h (by decide)); clear h)
    | with_reducible refine sp1 (fun h => ?_) (fun h => ?_)
    | with_reducible refine sp2 (fun h => ?_) (fun h => ?_)
    | with_reducible refine sp3 (fun h => ?_) (fun h => ?_)
    | with_reducible refine sp4 (fun h => ?_) (fun h => ?_)
    | with_reducible refine sp5 (fun h => ?_) (fun h => ?_)
    | with_reducible refine sp6 (fun h => ?_) (fun h => ?_)
    | with_reducible refine And.intro (fun h => ?_) (fun h => ?_)
    | refine And.intro (Int.natCast_nonneg _) ?_
    | refine And.intro (by omega) ?_
    | refine And.intro (by decide) ?_
    | refine Lst.mk _ rfl ?_
    | refine And.intro trivial ?_
    | exact trivial
    | exact leX_refl _
    | refine weak_fr ?_ ?_ rfl
    | refine And.intro ?_ ?_
    | fail)
  · refine leI ?_
    unfold leastP; rw [if_pos h]
  · have hm : ¬ m = 0#64 := h
    refine V_up f.toNat (fun _ => True) (fun i => ([(1, tI n), (2, .p 48 0 0), (5, tI (n % f)), (6, tI (minS (n % f).toNat (fun c => popN (m &&& roundB f c ((n % f).toNat : Nat)) 64) i : Nat)), (27, tI f), (28, tI (i : Nat))], [(48, .var 98 (.a [tI f, tI s, tU m]))])) trivial ?_ ?_
    · repeat' (conv => whnf
               first
        | refine Frz.own ?_
        | refine Get.mk _ rfl ?_
        | refine Get.mk _ (map_geti (by omega)) ?_
        | refine Get.mk _ (map_getp (by omega) (by omega)) ?_
        | refine Get.mk _ (map_get (by omega)) ?_
        | refine Bv2.mk _ _ rfl rfl ?_
        | refine Bv1.mk _ rfl ?_
        | refine Wr.mk _ (wrap_i64 (by omega) (by omega)) ?_
        | refine Wr.mk _ rfl ?_
        | refine And.intro len_map ?_
        | refine And.intro (leX_refl _) ?_
        | refine And.intro rfl ?_
        | refine And.intro (leO_some _) ?_
        | (refine And.intro (fun h => absurd h (by decide)) (fun h => ?_); clear h)
        | (refine And.intro (fun h => ?_) (fun h => absurd h (by decide)); clear h)
        | with_reducible refine sp1 (fun h => ?_) (fun h => ?_)
        | with_reducible refine sp2 (fun h => ?_) (fun h => ?_)
        | with_reducible refine sp3 (fun h => ?_) (fun h => ?_)
        | with_reducible refine sp4 (fun h => ?_) (fun h => ?_)
        | with_reducible refine sp5 (fun h => ?_) (fun h => ?_)
        | with_reducible refine sp6 (fun h => ?_) (fun h => ?_)
        | with_reducible refine And.intro (fun h => ?_) (fun h => ?_)
        | refine And.intro (Int.natCast_nonneg _) ?_
        | refine And.intro (by omega) ?_
        | refine And.intro (by decide) ?_
        | refine Lst.mk _ rfl ?_
        | refine And.intro trivial ?_
        | exact trivial
        | exact leX_refl _
        | refine weak_fr ?_ ?_ rfl
        | refine And.intro ?_ ?_
        | fail)
      all_goals refine leI ?_
      all_goals rw [r3]
      simp only [minS]; omega
    rintro i hi -
    refine V_x ?_
    have hle := minS_le (n % f).toNat (fun c => popN (m &&& roundB f c ((n % f).toNat : Nat)) 64) i
    have er : ((n % f).toNat : Int) = n % f := by omega
    repeat' (conv => whnf
             first
      | refine Frz.own ?_
      | refine Wr.mk _ (e1) ?_
      | refine Wr.mk _ (e2) ?_
      | refine Get.mk _ rfl ?_
      | refine Get.mk _ (map_geti (by omega)) ?_
      | refine Get.mk _ (map_getp (by omega) (by omega)) ?_
      | refine Get.mk _ (map_get (by omega)) ?_
      | refine Bv2.mk _ _ rfl rfl ?_
      | refine Bv1.mk _ rfl ?_
      | refine Wr.mk _ (wrap_i64 (by omega) (by omega)) ?_
      | refine Wr.mk _ rfl ?_
      | refine And.intro len_map ?_
      | refine And.intro (leX_refl _) ?_
      | refine And.intro rfl ?_
      | refine And.intro (leO_some _) ?_
      | (refine And.intro (fun h => absurd h (by decide)) (fun h => ?_); clear h)
      | (refine And.intro (fun h => ?_) (fun h => absurd h (by decide)); clear h)
      | with_reducible refine sp1 (fun h => ?_) (fun h => ?_)
      | with_reducible refine sp2 (fun h => ?_) (fun h => ?_)
      | with_reducible refine sp3 (fun h => ?_) (fun h => ?_)
      | with_reducible refine sp4 (fun h => ?_) (fun h => ?_)
      | with_reducible refine sp5 (fun h => ?_) (fun h => ?_)
      | with_reducible refine sp6 (fun h => ?_) (fun h => ?_)
      | with_reducible refine And.intro (fun h => ?_) (fun h => ?_)
      | refine And.intro (Int.natCast_nonneg _) ?_
      | refine And.intro (by omega) ?_
      | refine And.intro (by decide) ?_
      | refine Lst.mk _ rfl ?_
      | refine Or.inr (Or.inl ⟨_, _, s106 f i (n % f) (by omega) hf' (by omega) r1 (by omega), leL_refl _, rfl, rfl, ?_⟩)
      | refine Or.inr (Or.inl ⟨_, _, s105 _, leL_refl _, rfl, rfl, ?_⟩)
      | refine And.intro trivial ?_
      | exact trivial
      | exact leX_refl _
      | refine weak_fr ?_ ?_ rfl
      | refine And.intro ?_ ?_
      | fail)
    all_goals first
      | (refine leI ?_
         rw [show minS (n % f).toNat (fun c => popN (m &&& roundB f c ((n % f).toNat : Nat)) 64) (i + 1) = min (minS (n % f).toNat (fun c => popN (m &&& roundB f c ((n % f).toNat : Nat)) 64) i) (popN (m &&& roundB f i ((n % f).toNat : Nat)) 64) from rfl, er]
         omega)
      | (refine leI ?_
         have hi2 : i = f.toNat := by omega
         subst hi2
         unfold leastP
         rw [if_neg hm])
      | trace_state
end Go.Proofs.Ytjmjolefhcjedaa.Vc

namespace Go.Proofs.Ytjmjolefhcjedaa.Vc
open Go Go.RowKit Go.Proofs.Try
set_option maxRecDepth 20000

/-! The reference's plan. -/
def Place.spR (p : Plan) (x : Place) (i : Nat) : Prop := (∀ y ∈ x.pieces.take i, p.has y.core = true ∧ y.ticks ≠ 0#64) ∧ (x.pieces.take i).Pairwise (fun a b => a.core < b.core)
theorem spR_step {p : Plan} {x : Place} {i : Nat} (hi : i < x.pieces.length) (h : x.spR p i) : x.spR p (i + 1) ↔ (p.has x.pieces[i].core = true ∧ x.pieces[i].ticks ≠ 0#64) ∧ ∀ h0 : 0 < i, x.pieces[i - 1].core < x.pieces[i].core := by
  unfold Place.spR at h ⊢
  rw [mem_snoc hi, pw_step hi h.2]
  constructor
  · rintro ⟨⟨_, h1⟩, h2⟩; exact ⟨h1, h2⟩
  · rintro ⟨h1, h2⟩; exact ⟨⟨h.1, h1⟩, h2⟩
theorem spR_of {p : Plan} {x : Place} (h : x.sp p) (i : Nat) : x.spR p i := ⟨fun y hy => h.1 y (List.mem_of_mem_take hy), pw_take i h.2.1⟩
theorem sp_finR {p : Plan} {x : Place} {i : Nat} (hi : i ≥ x.pieces.length) (h : x.spR p i) (hJ : ∀ t, t < 64 → x.cnt t ≤ 1 ∧ (0 < x.cnt t → (t : Int) < p.frame)) : x.sp p ↔ 2 ≤ x.pieces.length ∧ x.core = 0 ∧ ((sumTo x.cnt 64 : Nat) : Int) = x.share := by
  obtain ⟨h1, h2⟩ := h
  rw [List.take_of_length_le hi] at h1 h2
  unfold Place.sp
  constructor
  · rintro ⟨_, _, _, h⟩; exact h
  · intro h; exact ⟨h1, h2, hJ, h⟩
open Classical in
theorem s78 (p : Plan) (x : Place) (hx : x.pieces.length ≤ 20) : Spec prog 78 [p.tv, x.tv] [] (tB (decide (x.ok p))) [] := by
  have hl : (x.pieces.map Piece.tv).length = x.pieces.length := List.length_map _
  refine spec_s is78 mixed rfl (V_x ?_)
  repeat' (conv => whnf
           first
    | refine Frz.own ?_
    | refine Get.mk _ rfl ?_
    | refine Get.mk _ (map_geti (by omega)) ?_
    | refine Get.mk _ (map_getp (by omega) (by omega)) ?_
    | refine Get.mk _ (map_get (by omega)) ?_
    | refine Bv2.mk _ _ rfl rfl ?_
    | refine Bv1.mk _ rfl ?_
    | refine Wr.mk _ (wrap_i64 (by omega) (by omega)) ?_
    | refine Wr.mk _ rfl ?_
    | refine And.intro len_map ?_
    | refine And.intro (leX_refl _) ?_
    | refine And.intro rfl ?_
    | refine And.intro (leO_some _) ?_
    | (refine And.intro (fun h => absurd h (by decide)) (fun h => ?_); clear h)
    | (refine And.intro (fun h => ?_) (fun h => absurd h (by decide)); clear h)
    | with_reducible refine sp1 (fun h => ?_) (fun h => ?_)
    | with_reducible refine sp2 (fun h => ?_) (fun h => ?_)
    | with_reducible refine sp3 (fun h => ?_) (fun h => ?_)
    | with_reducible refine sp4 (fun h => ?_) (fun h => ?_)
    | with_reducible refine sp5 (fun h => ?_) (fun h => ?_)
    | with_reducible refine sp6 (fun h => ?_) (fun h => ?_)
    | with_reducible refine And.intro (fun h => ?_) (fun h => ?_)
    | refine And.intro (Int.natCast_nonneg _) ?_
    | refine And.intro (by omega) ?_
    | refine And.intro (by decide) ?_
    | refine Lst.mk _ rfl ?_
    | refine Or.inr (Or.inl ⟨_, _, s99 _, leL_refl _, rfl, rfl, ?_⟩)
    | refine Or.inr (Or.inl ⟨_, _, s40 _ _, leL_refl _, rfl, rfl, ?_⟩)
    | refine And.intro trivial ?_
    | exact trivial
    | exact leX_refl _
    | refine weak_fr ?_ ?_ rfl
    | refine And.intro ?_ ?_
    | fail)
  · refine leB ?_
    rw [eq_comm, decide_eq_false_iff_not, Place.ok]
    rintro ⟨_, _, h1, _⟩; omega
  · rename_i hu hs1 hs2
    refine leB ?_
    have hn : x.pieces = [] := by
      rw [hl] at h; exact List.eq_nil_of_length_eq_zero (by omega)
    rw [Bool.eq_iff_iff, decide_eq_true_eq, Place.ok, if_pos hn]
    grind
  · have hne : ¬ x.pieces = [] := fun e => h (by rw [e]; rfl)
    rename_i hu hs1 hs2
    have hok : x.ok p ↔ x.sp p := by
      unfold Place.ok; rw [if_neg hne]; grind
    refine V_up x.pieces.length (fun i => Fct (x.spR p i)) (fun i => ([(2, .p 48 0 0), (3, .p 64 0 0), (5, tI (i : Nat))], [(48, .var 25 p.tv), (64, .var 34 x.tv)])) ⟨by simp, by simp⟩ ?_ ?_
    · repeat' (conv => whnf
               first
        | refine Frz.own ?_
        | refine Get.mk _ rfl ?_
        | refine Get.mk _ (map_geti (by omega)) ?_
        | refine Get.mk _ (map_getp (by omega) (by omega)) ?_
        | refine Get.mk _ (map_get (by omega)) ?_
        | refine Bv2.mk _ _ rfl rfl ?_
        | refine Bv1.mk _ rfl ?_
        | refine Wr.mk _ (wrap_i64 (by omega) (by omega)) ?_
        | refine Wr.mk _ rfl ?_
        | refine And.intro len_map ?_
        | refine And.intro (leX_refl _) ?_
        | refine And.intro rfl ?_
        | refine And.intro (leO_some _) ?_
        | (refine And.intro (fun h => absurd h (by decide)) (fun h => ?_); clear h)
        | (refine And.intro (fun h => ?_) (fun h => absurd h (by decide)); clear h)
        | with_reducible refine sp1 (fun h => ?_) (fun h => ?_)
        | with_reducible refine sp2 (fun h => ?_) (fun h => ?_)
        | with_reducible refine sp3 (fun h => ?_) (fun h => ?_)
        | with_reducible refine sp4 (fun h => ?_) (fun h => ?_)
        | with_reducible refine sp5 (fun h => ?_) (fun h => ?_)
        | with_reducible refine sp6 (fun h => ?_) (fun h => ?_)
        | with_reducible refine And.intro (fun h => ?_) (fun h => ?_)
        | refine And.intro (Int.natCast_nonneg _) ?_
        | refine And.intro (by omega) ?_
        | refine And.intro (by decide) ?_
        | refine Lst.mk _ rfl ?_
        | refine And.intro trivial ?_
        | exact trivial
        | exact leX_refl _
        | refine weak_fr ?_ ?_ rfl
        | refine And.intro ?_ ?_
        | fail)
    rintro i hi ⟨hI⟩
    refine V_x ?_
    rcases Nat.lt_or_ge i x.pieces.length with hlt | hge
    · have hst := spR_step hlt hI
      repeat' (conv => whnf
               first
        | refine Frz.own ?_
        | refine Get.mk _ rfl ?_
        | refine Get.mk _ (map_geti (by omega)) ?_
        | refine Get.mk _ (map_getp (by omega) (by omega)) ?_
        | refine Get.mk _ (map_get (by omega)) ?_
        | refine Bv2.mk _ _ rfl rfl ?_
        | refine Bv1.mk _ rfl ?_
        | refine Wr.mk _ (wrap_i64 (by omega) (by omega)) ?_
        | refine Wr.mk _ rfl ?_
        | refine And.intro len_map ?_
        | refine And.intro (leX_refl _) ?_
        | refine And.intro rfl ?_
        | refine And.intro (leO_some _) ?_
        | (refine And.intro (fun h => absurd h (by decide)) (fun h => ?_); clear h)
        | (refine And.intro (fun h => ?_) (fun h => absurd h (by decide)); clear h)
        | with_reducible refine sp1 (fun h => ?_) (fun h => ?_)
        | with_reducible refine sp2 (fun h => ?_) (fun h => ?_)
        | with_reducible refine sp3 (fun h => ?_) (fun h => ?_)
        | with_reducible refine sp4 (fun h => ?_) (fun h => ?_)
        | with_reducible refine sp5 (fun h => ?_) (fun h => ?_)
        | with_reducible refine sp6 (fun h => ?_) (fun h => ?_)
        | with_reducible refine And.intro (fun h => ?_) (fun h => ?_)
        | refine And.intro (Int.natCast_nonneg _) ?_
        | refine And.intro (by omega) ?_
        | refine And.intro (by decide) ?_
        | refine Lst.mk _ rfl ?_
        | refine Or.inr (Or.inl ⟨_, _, s40 _ _, leL_refl _, rfl, rfl, ?_⟩)
        | refine And.intro trivial ?_
        | exact trivial
        | exact leX_refl _
        | refine weak_fr ?_ ?_ rfl
        | refine And.intro ?_ ?_
        | fail)
      all_goals first
        | (exfalso; clear hI hst; omega)
        | (refine leB ?_
           rw [eq_comm, decide_eq_false_iff_not, hok]
           intro hs
           have h5 := hst.1 (spR_of hs (i + 1))
           grind)
        | (refine Fct.mk ?_
           rw [hst]
           grind)
        | trace_state
    · repeat' (conv => whnf
               first
        | refine Frz.own ?_
        | refine Get.mk _ rfl ?_
        | refine Get.mk _ (map_geti (by omega)) ?_
        | refine Get.mk _ (map_getp (by omega) (by omega)) ?_
        | refine Get.mk _ (map_get (by omega)) ?_
        | refine Bv2.mk _ _ rfl rfl ?_
        | refine Bv1.mk _ rfl ?_
        | refine Wr.mk _ (wrap_i64 (by omega) (by omega)) ?_
        | refine Wr.mk _ rfl ?_
        | refine And.intro len_map ?_
        | refine And.intro (leX_refl _) ?_
        | refine And.intro rfl ?_
        | refine And.intro (leO_some _) ?_
        | (refine And.intro (fun h => absurd h (by decide)) (fun h => ?_); clear h)
        | (refine And.intro (fun h => ?_) (fun h => absurd h (by decide)); clear h)
        | with_reducible refine sp1 (fun h => ?_) (fun h => ?_)
        | with_reducible refine sp2 (fun h => ?_) (fun h => ?_)
        | with_reducible refine sp3 (fun h => ?_) (fun h => ?_)
        | with_reducible refine sp4 (fun h => ?_) (fun h => ?_)
        | with_reducible refine sp5 (fun h => ?_) (fun h => ?_)
        | with_reducible refine sp6 (fun h => ?_) (fun h => ?_)
        | with_reducible refine And.intro (fun h => ?_) (fun h => ?_)
        | refine And.intro (Int.natCast_nonneg _) ?_
        | refine And.intro (by omega) ?_
        | refine And.intro (by decide) ?_
        | refine Lst.mk _ rfl ?_
        | refine And.intro trivial ?_
        | exact trivial
        | exact leX_refl _
        | refine weak_fr ?_ ?_ rfl
        | refine And.intro ?_ ?_
        | fail)
      · exfalso; clear hI; omega
      · refine V_up 64 (fun j => Fct (∀ t, t < j → x.cnt t ≤ 1 ∧ (0 < x.cnt t → (t : Int) < p.frame))) (fun j => ([(2, .p 48 0 0), (3, .p 64 0 0), (7, tI (sumTo x.cnt j : Nat)), (8, tI (j : Nat))], [(48, .var 25 p.tv), (64, .var 34 x.tv)])) ⟨fun t h => absurd h (Nat.not_lt_zero _)⟩ ?_ ?_
        · repeat' (conv => whnf
                   first
            | refine Frz.own ?_
            | refine Get.mk _ rfl ?_
            | refine Get.mk _ (map_geti (by omega)) ?_
            | refine Get.mk _ (map_getp (by omega) (by omega)) ?_
            | refine Get.mk _ (map_get (by omega)) ?_
            | refine Bv2.mk _ _ rfl rfl ?_
            | refine Bv1.mk _ rfl ?_
            | refine Wr.mk _ (wrap_i64 (by omega) (by omega)) ?_
            | refine Wr.mk _ rfl ?_
            | refine And.intro len_map ?_
            | refine And.intro (leX_refl _) ?_
            | refine And.intro rfl ?_
            | refine And.intro (leO_some _) ?_
            | (refine And.intro (fun h => absurd h (by decide)) (fun h => ?_); clear h)
            | (refine And.intro (fun h => ?_) (fun h => absurd h (by decide)); clear h)
            | with_reducible refine sp1 (fun h => ?_) (fun h => ?_)
            | with_reducible refine sp2 (fun h => ?_) (fun h => ?_)
            | with_reducible refine sp3 (fun h => ?_) (fun h => ?_)
            | with_reducible refine sp4 (fun h => ?_) (fun h => ?_)
            | with_reducible refine sp5 (fun h => ?_) (fun h => ?_)
            | with_reducible refine sp6 (fun h => ?_) (fun h => ?_)
            | with_reducible refine And.intro (fun h => ?_) (fun h => ?_)
            | refine And.intro (Int.natCast_nonneg _) ?_
            | refine And.intro (by omega) ?_
            | refine And.intro (by decide) ?_
            | refine Lst.mk _ rfl ?_
            | refine And.intro trivial ?_
            | exact trivial
            | exact leX_refl _
            | refine weak_fr ?_ ?_ rfl
            | refine And.intro ?_ ?_
            | fail)
        rintro j hj ⟨hJ⟩
        have hz : x.at (-1) j ≤ 20 := Nat.le_trans List.countP_le_length hx
        have hs : sumTo x.cnt j ≤ j * 20 := by
          have := sumTo_le (g := x.cnt) (h := fun _ => 20) (n := j) fun t _ => by rw [← Place.at_neg]; exact Nat.le_trans List.countP_le_length hx
          rwa [sumTo_const] at this
        have hstep : sumTo x.cnt (j + 1) = sumTo x.cnt j + x.at (-1) j := by rw [Place.at_neg]; rfl
        have hat := Place.at_neg x j
        refine V_x ?_
        repeat' (conv => whnf
                 first
          | refine Frz.own ?_
          | refine Get.mk _ rfl ?_
          | refine Get.mk _ (map_geti (by omega)) ?_
          | refine Get.mk _ (map_getp (by omega) (by omega)) ?_
          | refine Get.mk _ (map_get (by omega)) ?_
          | refine Bv2.mk _ _ rfl rfl ?_
          | refine Bv1.mk _ rfl ?_
          | refine Wr.mk _ (wrap_i64 (by omega) (by omega)) ?_
          | refine Wr.mk _ rfl ?_
          | refine And.intro len_map ?_
          | refine And.intro (leX_refl _) ?_
          | refine And.intro rfl ?_
          | refine And.intro (leO_some _) ?_
          | (refine And.intro (fun h => absurd h (by decide)) (fun h => ?_); clear h)
          | (refine And.intro (fun h => ?_) (fun h => absurd h (by decide)); clear h)
          | with_reducible refine sp1 (fun h => ?_) (fun h => ?_)
          | with_reducible refine sp2 (fun h => ?_) (fun h => ?_)
          | with_reducible refine sp3 (fun h => ?_) (fun h => ?_)
          | with_reducible refine sp4 (fun h => ?_) (fun h => ?_)
          | with_reducible refine sp5 (fun h => ?_) (fun h => ?_)
          | with_reducible refine sp6 (fun h => ?_) (fun h => ?_)
          | with_reducible refine And.intro (fun h => ?_) (fun h => ?_)
          | refine And.intro (Int.natCast_nonneg _) ?_
          | refine And.intro (by omega) ?_
          | refine And.intro (by decide) ?_
          | refine Lst.mk _ rfl ?_
          | refine Or.inr (Or.inl ⟨_, _, s107 x (-1) j hx, leL_refl _, rfl, rfl, ?_⟩)
          | refine And.intro trivial ?_
          | exact trivial
          | exact leX_refl _
          | refine weak_fr ?_ ?_ rfl
          | refine And.intro ?_ ?_
          | fail)
        all_goals rcases Nat.lt_or_ge j 64 with hj64 | hj64
        all_goals first
          | (exfalso; clear hI hJ hok; omega)
          | (refine leB ?_
             rw [eq_comm, decide_eq_false_iff_not, hok]
             intro h5
             have h6 := h5.2.2.1 j hj64
             omega)
          | (refine Fct.mk ?_
             intro t ht
             rcases Nat.lt_or_ge t j with h5 | h5
             · exact hJ t h5
             · have h6 : t = j := by omega
               subst h6
               omega)
          | (refine leI ?_
             rw [hstep]; omega)
          | (refine leB ?_
             rw [Bool.eq_iff_iff, decide_eq_true_eq, hok, sp_finR hge hI (fun t ht => hJ t (by omega))]
             have h6 : j = 64 := by omega
             subst h6
             grind)
          | trace_state
  all_goals
    refine leB ?_
    rw [eq_comm, decide_eq_false_iff_not, Place.ok]
    grind

theorem at_sum_le {l : List Place} {c t : Int} (h : ∀ x ∈ l, x.pieces.length ≤ 20) : (l.map fun x => x.at c t).sum ≤ 20 * l.length := by
  induction l with
  | nil => simp
  | cons x l ih =>
    have h1 := ih fun y hy => h y (by simp [hy])
    have h2 : x.at c t ≤ 20 := Nat.le_trans List.countP_le_length (h x (by simp))
    simp only [List.map_cons, List.sum_cons, List.length_cons]; omega
open Classical in
theorem s79 (p : Plan) (hp : p.light) : Spec prog 79 [p.tv] [] (tB (decide (∀ c : Nat, c < 16 → ∀ t : Nat, t < 64 → p.atc c t ≤ 1))) [] := by
  have hp1 := hp.1
  have hp2 := hp.2
  have hl : (p.places.map Place.tv).length = p.places.length := List.length_map _
  refine spec_s is79 mixed rfl (V_x ?_)
  repeat' (conv => whnf
           first
    | refine Frz.own ?_
    | refine Get.mk _ rfl ?_
    | refine Get.mk _ (map_geti (by omega)) ?_
    | refine Get.mk _ (map_getp (by omega) (by omega)) ?_
    | refine Get.mk _ (map_get (by omega)) ?_
    | refine Bv2.mk _ _ rfl rfl ?_
    | refine Bv1.mk _ rfl ?_
    | refine Wr.mk _ (wrap_i64 (by omega) (by omega)) ?_
    | refine Wr.mk _ rfl ?_
    | refine And.intro len_map ?_
    | refine And.intro (leX_refl _) ?_
    | refine And.intro rfl ?_
    | refine And.intro (leO_some _) ?_
    | (refine And.intro (fun h => absurd h (by decide)) (fun h => ?_); clear h)
    | (refine And.intro (fun h => ?_) (fun h => absurd h (by decide)); clear h)
    | with_reducible refine sp1 (fun h => ?_) (fun h => ?_)
    | with_reducible refine sp2 (fun h => ?_) (fun h => ?_)
    | with_reducible refine sp3 (fun h => ?_) (fun h => ?_)
    | with_reducible refine sp4 (fun h => ?_) (fun h => ?_)
    | with_reducible refine sp5 (fun h => ?_) (fun h => ?_)
    | with_reducible refine sp6 (fun h => ?_) (fun h => ?_)
    | with_reducible refine And.intro (fun h => ?_) (fun h => ?_)
    | refine And.intro (Int.natCast_nonneg _) ?_
    | refine And.intro (by omega) ?_
    | refine And.intro (by decide) ?_
    | refine Lst.mk _ rfl ?_
    | refine And.intro trivial ?_
    | exact trivial
    | exact leX_refl _
    | refine weak_fr ?_ ?_ rfl
    | refine And.intro ?_ ?_
    | fail)
  refine V_up 16 (fun c => Fct (∀ c' : Nat, c' < c → ∀ t : Nat, t < 64 → p.atc c' t ≤ 1)) (fun c => ([(1, .p 32 0 0), (3, tI (c : Nat))], [(32, .var 25 p.tv)])) ⟨fun c h => absurd h (Nat.not_lt_zero _)⟩ ?_ ?_
  · repeat' (conv => whnf
             first
      | refine Frz.own ?_
      | refine Get.mk _ rfl ?_
      | refine Get.mk _ (map_geti (by omega)) ?_
      | refine Get.mk _ (map_getp (by omega) (by omega)) ?_
      | refine Get.mk _ (map_get (by omega)) ?_
      | refine Bv2.mk _ _ rfl rfl ?_
      | refine Bv1.mk _ rfl ?_
      | refine Wr.mk _ (wrap_i64 (by omega) (by omega)) ?_
      | refine Wr.mk _ rfl ?_
      | refine And.intro len_map ?_
      | refine And.intro (leX_refl _) ?_
      | refine And.intro rfl ?_
      | refine And.intro (leO_some _) ?_
      | (refine And.intro (fun h => absurd h (by decide)) (fun h => ?_); clear h)
      | (refine And.intro (fun h => ?_) (fun h => absurd h (by decide)); clear h)
      | with_reducible refine sp1 (fun h => ?_) (fun h => ?_)
      | with_reducible refine sp2 (fun h => ?_) (fun h => ?_)
      | with_reducible refine sp3 (fun h => ?_) (fun h => ?_)
      | with_reducible refine sp4 (fun h => ?_) (fun h => ?_)
      | with_reducible refine sp5 (fun h => ?_) (fun h => ?_)
      | with_reducible refine sp6 (fun h => ?_) (fun h => ?_)
      | with_reducible refine And.intro (fun h => ?_) (fun h => ?_)
      | refine And.intro (Int.natCast_nonneg _) ?_
      | refine And.intro (by omega) ?_
      | refine And.intro (by decide) ?_
      | refine Lst.mk _ rfl ?_
      | refine And.intro trivial ?_
      | exact trivial
      | exact leX_refl _
      | refine weak_fr ?_ ?_ rfl
      | refine And.intro ?_ ?_
      | fail)
  rintro c hc ⟨hC⟩
  refine V_x ?_
  repeat' (conv => whnf
           first
    | refine Frz.own ?_
    | refine Get.mk _ rfl ?_
    | refine Get.mk _ (map_geti (by omega)) ?_
    | refine Get.mk _ (map_getp (by omega) (by omega)) ?_
    | refine Get.mk _ (map_get (by omega)) ?_
    | refine Bv2.mk _ _ rfl rfl ?_
    | refine Bv1.mk _ rfl ?_
    | refine Wr.mk _ (wrap_i64 (by omega) (by omega)) ?_
    | refine Wr.mk _ rfl ?_
    | refine And.intro len_map ?_
    | refine And.intro (leX_refl _) ?_
    | refine And.intro rfl ?_
    | refine And.intro (leO_some _) ?_
    | (refine And.intro (fun h => absurd h (by decide)) (fun h => ?_); clear h)
    | (refine And.intro (fun h => ?_) (fun h => absurd h (by decide)); clear h)
    | with_reducible refine sp1 (fun h => ?_) (fun h => ?_)
    | with_reducible refine sp2 (fun h => ?_) (fun h => ?_)
    | with_reducible refine sp3 (fun h => ?_) (fun h => ?_)
    | with_reducible refine sp4 (fun h => ?_) (fun h => ?_)
    | with_reducible refine sp5 (fun h => ?_) (fun h => ?_)
    | with_reducible refine sp6 (fun h => ?_) (fun h => ?_)
    | with_reducible refine And.intro (fun h => ?_) (fun h => ?_)
    | refine And.intro (Int.natCast_nonneg _) ?_
    | refine And.intro (by omega) ?_
    | refine And.intro (by decide) ?_
    | refine Lst.mk _ rfl ?_
    | refine And.intro trivial ?_
    | exact trivial
    | exact leX_refl _
    | refine weak_fr ?_ ?_ rfl
    | refine And.intro ?_ ?_
    | fail)
  · refine V_up 64 (fun t => Fct (∀ t' : Nat, t' < t → p.atc c t' ≤ 1)) (fun t => ([(1, .p 32 0 0), (3, tI (c : Nat)), (4, tI (t : Nat))], [(32, .var 25 p.tv)])) ⟨fun c h => absurd h (Nat.not_lt_zero _)⟩ ?_ ?_
    · repeat' (conv => whnf
               first
        | refine Frz.own ?_
        | refine Get.mk _ rfl ?_
        | refine Get.mk _ (map_geti (by omega)) ?_
        | refine Get.mk _ (map_getp (by omega) (by omega)) ?_
        | refine Get.mk _ (map_get (by omega)) ?_
        | refine Bv2.mk _ _ rfl rfl ?_
        | refine Bv1.mk _ rfl ?_
        | refine Wr.mk _ (wrap_i64 (by omega) (by omega)) ?_
        | refine Wr.mk _ rfl ?_
        | refine And.intro len_map ?_
        | refine And.intro (leX_refl _) ?_
        | refine And.intro rfl ?_
        | refine And.intro (leO_some _) ?_
        | (refine And.intro (fun h => absurd h (by decide)) (fun h => ?_); clear h)
        | (refine And.intro (fun h => ?_) (fun h => absurd h (by decide)); clear h)
        | with_reducible refine sp1 (fun h => ?_) (fun h => ?_)
        | with_reducible refine sp2 (fun h => ?_) (fun h => ?_)
        | with_reducible refine sp3 (fun h => ?_) (fun h => ?_)
        | with_reducible refine sp4 (fun h => ?_) (fun h => ?_)
        | with_reducible refine sp5 (fun h => ?_) (fun h => ?_)
        | with_reducible refine sp6 (fun h => ?_) (fun h => ?_)
        | with_reducible refine And.intro (fun h => ?_) (fun h => ?_)
        | refine And.intro (Int.natCast_nonneg _) ?_
        | refine And.intro (by omega) ?_
        | refine And.intro (by decide) ?_
        | refine Lst.mk _ rfl ?_
        | refine And.intro trivial ?_
        | exact trivial
        | exact leX_refl _
        | refine weak_fr ?_ ?_ rfl
        | refine And.intro ?_ ?_
        | fail)
    rintro t ht ⟨hT⟩
    refine V_x ?_
    repeat' (conv => whnf
             first
      | refine Frz.own ?_
      | refine Get.mk _ rfl ?_
      | refine Get.mk _ (map_geti (by omega)) ?_
      | refine Get.mk _ (map_getp (by omega) (by omega)) ?_
      | refine Get.mk _ (map_get (by omega)) ?_
      | refine Bv2.mk _ _ rfl rfl ?_
      | refine Bv1.mk _ rfl ?_
      | refine Wr.mk _ (wrap_i64 (by omega) (by omega)) ?_
      | refine Wr.mk _ rfl ?_
      | refine And.intro len_map ?_
      | refine And.intro (leX_refl _) ?_
      | refine And.intro rfl ?_
      | refine And.intro (leO_some _) ?_
      | (refine And.intro (fun h => absurd h (by decide)) (fun h => ?_); clear h)
      | (refine And.intro (fun h => ?_) (fun h => absurd h (by decide)); clear h)
      | with_reducible refine sp1 (fun h => ?_) (fun h => ?_)
      | with_reducible refine sp2 (fun h => ?_) (fun h => ?_)
      | with_reducible refine sp3 (fun h => ?_) (fun h => ?_)
      | with_reducible refine sp4 (fun h => ?_) (fun h => ?_)
      | with_reducible refine sp5 (fun h => ?_) (fun h => ?_)
      | with_reducible refine sp6 (fun h => ?_) (fun h => ?_)
      | with_reducible refine And.intro (fun h => ?_) (fun h => ?_)
      | refine And.intro (Int.natCast_nonneg _) ?_
      | refine And.intro (by omega) ?_
      | refine And.intro (by decide) ?_
      | refine Lst.mk _ rfl ?_
      | refine And.intro trivial ?_
      | exact trivial
      | exact leX_refl _
      | refine weak_fr ?_ ?_ rfl
      | refine And.intro ?_ ?_
      | fail)
    · refine V_up p.places.length (fun _ => True) (fun i => ([(1, .p 32 0 0), (3, tI (c : Nat)), (4, tI (t : Nat)), (5, tI (((p.places.take i).map fun x => x.at c t).sum : Nat)), (6, tI (i : Nat))], [(32, .var 25 p.tv)])) trivial ?_ ?_
      · repeat' (conv => whnf
                 first
          | refine Frz.own ?_
          | refine Get.mk _ rfl ?_
          | refine Get.mk _ (map_geti (by omega)) ?_
          | refine Get.mk _ (map_getp (by omega) (by omega)) ?_
          | refine Get.mk _ (map_get (by omega)) ?_
          | refine Bv2.mk _ _ rfl rfl ?_
          | refine Bv1.mk _ rfl ?_
          | refine Wr.mk _ (wrap_i64 (by omega) (by omega)) ?_
          | refine Wr.mk _ rfl ?_
          | refine And.intro len_map ?_
          | refine And.intro (leX_refl _) ?_
          | refine And.intro rfl ?_
          | refine And.intro (leO_some _) ?_
          | (refine And.intro (fun h => absurd h (by decide)) (fun h => ?_); clear h)
          | (refine And.intro (fun h => ?_) (fun h => absurd h (by decide)); clear h)
          | with_reducible refine sp1 (fun h => ?_) (fun h => ?_)
          | with_reducible refine sp2 (fun h => ?_) (fun h => ?_)
          | with_reducible refine sp3 (fun h => ?_) (fun h => ?_)
          | with_reducible refine sp4 (fun h => ?_) (fun h => ?_)
          | with_reducible refine sp5 (fun h => ?_) (fun h => ?_)
          | with_reducible refine sp6 (fun h => ?_) (fun h => ?_)
          | with_reducible refine And.intro (fun h => ?_) (fun h => ?_)
          | refine And.intro (Int.natCast_nonneg _) ?_
          | refine And.intro (by omega) ?_
          | refine And.intro (by decide) ?_
          | refine Lst.mk _ rfl ?_
          | refine And.intro trivial ?_
          | exact trivial
          | exact leX_refl _
          | refine weak_fr ?_ ?_ rfl
          | refine And.intro ?_ ?_
          | fail)
      rintro i hi -
      refine V_x ?_
      rcases Nat.lt_or_ge i p.places.length with hlt | hge
      · have hx := hp2 _ (List.getElem_mem hlt)
        have hz : p.places[i].at c t ≤ 20 := Nat.le_trans List.countP_le_length hx
        have hs := at_sum_le (l := p.places.take i) (c := c) (t := t) fun x hx => hp2 x (List.mem_of_mem_take hx)
        rw [List.length_take] at hs
        have hst : ((p.places.take (i + 1)).map fun x => x.at c t).sum = ((p.places.take i).map fun x => x.at c t).sum + p.places[i].at c t := by rw [take_succ' hlt, List.map_append, List.sum_append]; simp
        repeat' (conv => whnf
                 first
          | refine Frz.own ?_
          | refine Get.mk _ rfl ?_
          | refine Get.mk _ (map_geti (by omega)) ?_
          | refine Get.mk _ (map_getp (by omega) (by omega)) ?_
          | refine Get.mk _ (map_get (by omega)) ?_
          | refine Bv2.mk _ _ rfl rfl ?_
          | refine Bv1.mk _ rfl ?_
          | refine Wr.mk _ (wrap_i64 (by omega) (by omega)) ?_
          | refine Wr.mk _ rfl ?_
          | refine And.intro len_map ?_
          | refine And.intro (leX_refl _) ?_
          | refine And.intro rfl ?_
          | refine And.intro (leO_some _) ?_
          | (refine And.intro (fun h => absurd h (by decide)) (fun h => ?_); clear h)
          | (refine And.intro (fun h => ?_) (fun h => absurd h (by decide)); clear h)
          | with_reducible refine sp1 (fun h => ?_) (fun h => ?_)
          | with_reducible refine sp2 (fun h => ?_) (fun h => ?_)
          | with_reducible refine sp3 (fun h => ?_) (fun h => ?_)
          | with_reducible refine sp4 (fun h => ?_) (fun h => ?_)
          | with_reducible refine sp5 (fun h => ?_) (fun h => ?_)
          | with_reducible refine sp6 (fun h => ?_) (fun h => ?_)
          | with_reducible refine And.intro (fun h => ?_) (fun h => ?_)
          | refine And.intro (Int.natCast_nonneg _) ?_
          | refine And.intro (by omega) ?_
          | refine And.intro (by decide) ?_
          | refine Lst.mk _ rfl ?_
          | refine Or.inr (Or.inl ⟨_, _, s107 _ c t hx, leL_refl _, rfl, rfl, ?_⟩)
          | refine And.intro trivial ?_
          | exact trivial
          | exact leX_refl _
          | refine weak_fr ?_ ?_ rfl
          | refine And.intro ?_ ?_
          | fail)
        all_goals first
          | (exfalso; clear hC hT; omega)
          | (refine leI ?_; rw [hst]; omega)
          | trace_state
      · have he : ((p.places.take i).map fun x => x.at c t).sum = p.atc c t := by rw [List.take_of_length_le hge]; rfl
        repeat' (conv => whnf
                 first
          | refine Frz.own ?_
          | refine Get.mk _ rfl ?_
          | refine Get.mk _ (map_geti (by omega)) ?_
          | refine Get.mk _ (map_getp (by omega) (by omega)) ?_
          | refine Get.mk _ (map_get (by omega)) ?_
          | refine Bv2.mk _ _ rfl rfl ?_
          | refine Bv1.mk _ rfl ?_
          | refine Wr.mk _ (wrap_i64 (by omega) (by omega)) ?_
          | refine Wr.mk _ rfl ?_
          | refine And.intro len_map ?_
          | refine And.intro (leX_refl _) ?_
          | refine And.intro rfl ?_
          | refine And.intro (leO_some _) ?_
          | (refine And.intro (fun h => absurd h (by decide)) (fun h => ?_); clear h)
          | (refine And.intro (fun h => ?_) (fun h => absurd h (by decide)); clear h)
          | with_reducible refine sp1 (fun h => ?_) (fun h => ?_)
          | with_reducible refine sp2 (fun h => ?_) (fun h => ?_)
          | with_reducible refine sp3 (fun h => ?_) (fun h => ?_)
          | with_reducible refine sp4 (fun h => ?_) (fun h => ?_)
          | with_reducible refine sp5 (fun h => ?_) (fun h => ?_)
          | with_reducible refine sp6 (fun h => ?_) (fun h => ?_)
          | with_reducible refine And.intro (fun h => ?_) (fun h => ?_)
          | refine And.intro (Int.natCast_nonneg _) ?_
          | refine And.intro (by omega) ?_
          | refine And.intro (by decide) ?_
          | refine Lst.mk _ rfl ?_
          | refine And.intro trivial ?_
          | exact trivial
          | exact leX_refl _
          | refine weak_fr ?_ ?_ rfl
          | refine And.intro ?_ ?_
          | fail)
        all_goals first
          | (exfalso; clear hC hT; omega)
          | (refine leB ?_
             rw [eq_comm, decide_eq_false_iff_not]
             intro h5
             have := h5 c (by omega) t (by omega)
             omega)
          | (refine Fct.mk ?_
             intro t' ht'
             rcases Nat.lt_or_ge t' t with h5 | h5
             · exact hT t' h5
             · have h6 : t' = t := by omega
               subst h6; omega)
          | trace_state
    · refine Fct.mk ?_
      intro c' hc'
      rcases Nat.lt_or_ge c' c with h5 | h5
      · exact hC c' h5
      · have h6 : c' = c := by omega
        subst h6
        intro t' ht'
        exact hT t' (by omega)
  · refine leB ?_
    rw [eq_comm, decide_eq_true_eq]
    intro c' hc'
    exact hC c' (by omega)
theorem shareSum_succ' {l : List Want} {i : Nat} (h : i < l.length) : shareSum (l.take (i + 1)) = shareSum (l.take i) + l[i].share := shareSum_succ h
theorem s80 (p : Plan) (c : Int) (hp : p.light) (hc : 0 ≤ c) (hs : ∀ x ∈ p.places, 0 ≤ x.share ∧ x.share ≤ 64) : Spec prog 80 [p.tv, tI c] [] (tI (p.load c)) [] := by
  have hpop := popN_le (p.windows c) 64
  have hlen := wholes_len p c
  have hsh : ∀ w ∈ p.wholes c, 0 ≤ w.share ∧ w.share ≤ 64 := fun w hw => by
    obtain ⟨x, hx, h1, _⟩ := wholes_mem hw
    rw [h1]; exact hs x hx
  have hp1 := hp.1
  have hl : ((p.wholes c).map Want.tv).length = (p.wholes c).length := List.length_map _
  have h116 := s116 p c hp
  rw [rWin_eq p hc] at h116
  have h115 := s115 (p.windows c)
  rw [pop_eq] at h115
  refine spec_s is80 mixed rfl (V_x ?_)
  repeat' (conv => whnf
           first
    | refine Frz.own ?_
    | refine Get.mk _ rfl ?_
    | refine Get.mk _ (map_geti (by omega)) ?_
    | refine Get.mk _ (map_getp (by omega) (by omega)) ?_
    | refine Get.mk _ (map_get (by omega)) ?_
    | refine Bv2.mk _ _ rfl rfl ?_
    | refine Bv1.mk _ rfl ?_
    | refine Wr.mk _ (wrap_i64 (by omega) (by omega)) ?_
    | refine Wr.mk _ rfl ?_
    | refine And.intro len_map ?_
    | refine And.intro (leX_refl _) ?_
    | refine And.intro rfl ?_
    | refine And.intro (leO_some _) ?_
    | (refine And.intro (fun h => absurd h (by decide)) (fun h => ?_); clear h)
    | (refine And.intro (fun h => ?_) (fun h => absurd h (by decide)); clear h)
    | with_reducible refine sp1 (fun h => ?_) (fun h => ?_)
    | with_reducible refine sp2 (fun h => ?_) (fun h => ?_)
    | with_reducible refine sp3 (fun h => ?_) (fun h => ?_)
    | with_reducible refine sp4 (fun h => ?_) (fun h => ?_)
    | with_reducible refine sp5 (fun h => ?_) (fun h => ?_)
    | with_reducible refine sp6 (fun h => ?_) (fun h => ?_)
    | with_reducible refine And.intro (fun h => ?_) (fun h => ?_)
    | refine And.intro (Int.natCast_nonneg _) ?_
    | refine And.intro (by omega) ?_
    | refine And.intro (by decide) ?_
    | refine Lst.mk _ rfl ?_
    | refine Or.inr (Or.inl ⟨_, _, h115, leL_refl _, rfl, rfl, ?_⟩)
    | refine Or.inr (Or.inl ⟨_, _, h116, leL_refl _, rfl, rfl, ?_⟩)
    | refine Or.inr (Or.inl ⟨_, _, s117 _ _ hp, leL_refl _, rfl, rfl, ?_⟩)
    | refine And.intro trivial ?_
    | exact trivial
    | exact leX_refl _
    | refine weak_fr ?_ ?_ rfl
    | refine And.intro ?_ ?_
    | fail)
  refine V_up (p.wholes c).length (fun _ => True) (fun i => ([(5, tI ((popN (p.windows c) 64 : Nat) + shareSum ((p.wholes c).take i))), (6, .s 2 ((p.wholes c).map Want.tv)), (7, tI (i : Nat))], [])) trivial ?_ ?_
  · repeat' (conv => whnf
             first
      | refine Frz.own ?_
      | refine Get.mk _ rfl ?_
      | refine Get.mk _ (map_geti (by omega)) ?_
      | refine Get.mk _ (map_getp (by omega) (by omega)) ?_
      | refine Get.mk _ (map_get (by omega)) ?_
      | refine Bv2.mk _ _ rfl rfl ?_
      | refine Bv1.mk _ rfl ?_
      | refine Wr.mk _ (wrap_i64 (by omega) (by omega)) ?_
      | refine Wr.mk _ rfl ?_
      | refine And.intro len_map ?_
      | refine And.intro (leX_refl _) ?_
      | refine And.intro rfl ?_
      | refine And.intro (leO_some _) ?_
      | (refine And.intro (fun h => absurd h (by decide)) (fun h => ?_); clear h)
      | (refine And.intro (fun h => ?_) (fun h => absurd h (by decide)); clear h)
      | with_reducible refine sp1 (fun h => ?_) (fun h => ?_)
      | with_reducible refine sp2 (fun h => ?_) (fun h => ?_)
      | with_reducible refine sp3 (fun h => ?_) (fun h => ?_)
      | with_reducible refine sp4 (fun h => ?_) (fun h => ?_)
      | with_reducible refine sp5 (fun h => ?_) (fun h => ?_)
      | with_reducible refine sp6 (fun h => ?_) (fun h => ?_)
      | with_reducible refine And.intro (fun h => ?_) (fun h => ?_)
      | refine And.intro (Int.natCast_nonneg _) ?_
      | refine And.intro (by omega) ?_
      | refine And.intro (by decide) ?_
      | refine Lst.mk _ rfl ?_
      | refine And.intro trivial ?_
      | exact trivial
      | exact leX_refl _
      | refine weak_fr ?_ ?_ rfl
      | refine And.intro ?_ ?_
      | fail)
  rintro i hi -
  have h1 := shareSum_le (l := (p.wholes c).take i) fun w hw => hsh w (List.mem_of_mem_take hw)
  rw [List.length_take] at h1
  refine V_x ?_
  rcases Nat.lt_or_ge i (p.wholes c).length with hlt | hge
  · have h2 := hsh _ (List.getElem_mem hlt)
    have h3 := shareSum_succ hlt
    repeat' (conv => whnf
             first
      | refine Frz.own ?_
      | refine Get.mk _ rfl ?_
      | refine Get.mk _ (map_geti (by omega)) ?_
      | refine Get.mk _ (map_getp (by omega) (by omega)) ?_
      | refine Get.mk _ (map_get (by omega)) ?_
      | refine Bv2.mk _ _ rfl rfl ?_
      | refine Bv1.mk _ rfl ?_
      | refine Wr.mk _ (wrap_i64 (by omega) (by omega)) ?_
      | refine Wr.mk _ rfl ?_
      | refine And.intro len_map ?_
      | refine And.intro (leX_refl _) ?_
      | refine And.intro rfl ?_
      | refine And.intro (leO_some _) ?_
      | (refine And.intro (fun h => absurd h (by decide)) (fun h => ?_); clear h)
      | (refine And.intro (fun h => ?_) (fun h => absurd h (by decide)); clear h)
      | with_reducible refine sp1 (fun h => ?_) (fun h => ?_)
      | with_reducible refine sp2 (fun h => ?_) (fun h => ?_)
      | with_reducible refine sp3 (fun h => ?_) (fun h => ?_)
      | with_reducible refine sp4 (fun h => ?_) (fun h => ?_)
      | with_reducible refine sp5 (fun h => ?_) (fun h => ?_)
      | with_reducible refine sp6 (fun h => ?_) (fun h => ?_)
      | with_reducible refine And.intro (fun h => ?_) (fun h => ?_)
      | refine And.intro (Int.natCast_nonneg _) ?_
      | refine And.intro (by omega) ?_
      | refine And.intro (by decide) ?_
      | refine Lst.mk _ rfl ?_
      | refine And.intro trivial ?_
      | exact trivial
      | exact leX_refl _
      | refine weak_fr ?_ ?_ rfl
      | refine And.intro ?_ ?_
      | fail)
    all_goals first
      | (exfalso; omega)
      | (refine leI ?_
         rw [h3]; omega)
      | trace_state
  · repeat' (conv => whnf
             first
      | refine Frz.own ?_
      | refine Get.mk _ rfl ?_
      | refine Get.mk _ (map_geti (by omega)) ?_
      | refine Get.mk _ (map_getp (by omega) (by omega)) ?_
      | refine Get.mk _ (map_get (by omega)) ?_
      | refine Bv2.mk _ _ rfl rfl ?_
      | refine Bv1.mk _ rfl ?_
      | refine Wr.mk _ (wrap_i64 (by omega) (by omega)) ?_
      | refine Wr.mk _ rfl ?_
      | refine And.intro len_map ?_
      | refine And.intro (leX_refl _) ?_
      | refine And.intro rfl ?_
      | refine And.intro (leO_some _) ?_
      | (refine And.intro (fun h => absurd h (by decide)) (fun h => ?_); clear h)
      | (refine And.intro (fun h => ?_) (fun h => absurd h (by decide)); clear h)
      | with_reducible refine sp1 (fun h => ?_) (fun h => ?_)
      | with_reducible refine sp2 (fun h => ?_) (fun h => ?_)
      | with_reducible refine sp3 (fun h => ?_) (fun h => ?_)
      | with_reducible refine sp4 (fun h => ?_) (fun h => ?_)
      | with_reducible refine sp5 (fun h => ?_) (fun h => ?_)
      | with_reducible refine sp6 (fun h => ?_) (fun h => ?_)
      | with_reducible refine And.intro (fun h => ?_) (fun h => ?_)
      | refine And.intro (Int.natCast_nonneg _) ?_
      | refine And.intro (by omega) ?_
      | refine And.intro (by decide) ?_
      | refine Lst.mk _ rfl ?_
      | refine And.intro trivial ?_
      | exact trivial
      | exact leX_refl _
      | refine weak_fr ?_ ?_ rfl
      | refine And.intro ?_ ?_
      | fail)
    all_goals first
      | (exfalso; omega)
      | (refine leI ?_
         rw [List.take_of_length_le hge]
         unfold Plan.load; omega)
      | trace_state
open Classical in
theorem s35 (p : Plan) (hp : p.light) : Spec prog 35 [p.tv] [] (tB (decide p.right)) [] := by
  have hp1 := hp.1
  have hp2 := hp.2
  have hcl := coresI_len p
  have hl : (p.places.map Place.tv).length = p.places.length := List.length_map _
  refine spec_s is35 mixed rfl (V_x ?_)
  repeat' (conv => whnf
           first
    | refine Frz.own ?_
    | refine Get.mk _ rfl ?_
    | refine Get.mk _ (map_geti (by omega)) ?_
    | refine Get.mk _ (map_getp (by omega) (by omega)) ?_
    | refine Get.mk _ (map_get (by omega)) ?_
    | refine Bv2.mk _ _ rfl rfl ?_
    | refine Bv1.mk _ rfl ?_
    | refine Wr.mk _ (wrap_i64 (by omega) (by omega)) ?_
    | refine Wr.mk _ rfl ?_
    | refine And.intro len_map ?_
    | refine And.intro (leX_refl _) ?_
    | refine And.intro rfl ?_
    | refine And.intro (leO_some _) ?_
    | (refine And.intro (fun h => absurd h (by decide)) (fun h => ?_); clear h)
    | (refine And.intro (fun h => ?_) (fun h => absurd h (by decide)); clear h)
    | with_reducible refine sp1 (fun h => ?_) (fun h => ?_)
    | with_reducible refine sp2 (fun h => ?_) (fun h => ?_)
    | with_reducible refine sp3 (fun h => ?_) (fun h => ?_)
    | with_reducible refine sp4 (fun h => ?_) (fun h => ?_)
    | with_reducible refine sp5 (fun h => ?_) (fun h => ?_)
    | with_reducible refine sp6 (fun h => ?_) (fun h => ?_)
    | with_reducible refine And.intro (fun h => ?_) (fun h => ?_)
    | refine And.intro (Int.natCast_nonneg _) ?_
    | refine And.intro (by omega) ?_
    | refine And.intro (by decide) ?_
    | refine Lst.mk _ rfl ?_
    | refine And.intro trivial ?_
    | exact trivial
    | exact leX_refl _
    | refine weak_fr ?_ ?_ rfl
    | refine And.intro ?_ ?_
    | fail)
  · refine leB ?_
    rw [eq_comm, decide_eq_false_iff_not]
    intro h5
    have := h5.cm
    have h6 : (65535#32).toNat = 65535 := rfl
    omega
  · have hcm : p.cores.toNat ≤ 65535 := by
      have h6 : (65535#32).toNat = 65535 := rfl
      omega
    refine V_up p.places.length (fun i => Fct ((∀ x ∈ p.places.take i, x.ok p) ∧ (p.places.take i).Pairwise fun a b => a.unit < b.unit)) (fun i => ([(1, .p 32 0 0), (3, tI (i : Nat))], [(32, .var 25 p.tv)]))
      ⟨by simp, by simp⟩ ?_ ?_
    · repeat' (conv => whnf
               first
        | refine Frz.own ?_
        | refine Get.mk _ rfl ?_
        | refine Get.mk _ (map_geti (by omega)) ?_
        | refine Get.mk _ (map_getp (by omega) (by omega)) ?_
        | refine Get.mk _ (map_get (by omega)) ?_
        | refine Bv2.mk _ _ rfl rfl ?_
        | refine Bv1.mk _ rfl ?_
        | refine Wr.mk _ (wrap_i64 (by omega) (by omega)) ?_
        | refine Wr.mk _ rfl ?_
        | refine And.intro len_map ?_
        | refine And.intro (leX_refl _) ?_
        | refine And.intro rfl ?_
        | refine And.intro (leO_some _) ?_
        | (refine And.intro (fun h => absurd h (by decide)) (fun h => ?_); clear h)
        | (refine And.intro (fun h => ?_) (fun h => absurd h (by decide)); clear h)
        | with_reducible refine sp1 (fun h => ?_) (fun h => ?_)
        | with_reducible refine sp2 (fun h => ?_) (fun h => ?_)
        | with_reducible refine sp3 (fun h => ?_) (fun h => ?_)
        | with_reducible refine sp4 (fun h => ?_) (fun h => ?_)
        | with_reducible refine sp5 (fun h => ?_) (fun h => ?_)
        | with_reducible refine sp6 (fun h => ?_) (fun h => ?_)
        | with_reducible refine And.intro (fun h => ?_) (fun h => ?_)
        | refine And.intro (Int.natCast_nonneg _) ?_
        | refine And.intro (by omega) ?_
        | refine And.intro (by decide) ?_
        | refine Lst.mk _ rfl ?_
        | refine And.intro trivial ?_
        | exact trivial
        | exact leX_refl _
        | refine weak_fr ?_ ?_ rfl
        | refine And.intro ?_ ?_
        | fail)
    rintro i hi ⟨hI⟩
    refine V_x ?_
    rcases Nat.lt_or_ge i p.places.length with hlt | hge
    · have hx := hp2 _ (List.getElem_mem hlt)
      have hst := ok_step hlt hI
      repeat' (conv => whnf
               first
        | refine Frz.own ?_
        | refine Get.mk _ rfl ?_
        | refine Get.mk _ (map_geti (by omega)) ?_
        | refine Get.mk _ (map_getp (by omega) (by omega)) ?_
        | refine Get.mk _ (map_get (by omega)) ?_
        | refine Bv2.mk _ _ rfl rfl ?_
        | refine Bv1.mk _ rfl ?_
        | refine Wr.mk _ (wrap_i64 (by omega) (by omega)) ?_
        | refine Wr.mk _ rfl ?_
        | refine And.intro len_map ?_
        | refine And.intro (leX_refl _) ?_
        | refine And.intro rfl ?_
        | refine And.intro (leO_some _) ?_
        | (refine And.intro (fun h => absurd h (by decide)) (fun h => ?_); clear h)
        | (refine And.intro (fun h => ?_) (fun h => absurd h (by decide)); clear h)
        | with_reducible refine sp1 (fun h => ?_) (fun h => ?_)
        | with_reducible refine sp2 (fun h => ?_) (fun h => ?_)
        | with_reducible refine sp3 (fun h => ?_) (fun h => ?_)
        | with_reducible refine sp4 (fun h => ?_) (fun h => ?_)
        | with_reducible refine sp5 (fun h => ?_) (fun h => ?_)
        | with_reducible refine sp6 (fun h => ?_) (fun h => ?_)
        | with_reducible refine And.intro (fun h => ?_) (fun h => ?_)
        | refine And.intro (Int.natCast_nonneg _) ?_
        | refine And.intro (by omega) ?_
        | refine And.intro (by decide) ?_
        | refine Lst.mk _ rfl ?_
        | refine Or.inr (Or.inl ⟨_, _, s78 p _ hx, leL_refl _, rfl, rfl, ?_⟩)
        | refine And.intro trivial ?_
        | exact trivial
        | exact leX_refl _
        | refine weak_fr ?_ ?_ rfl
        | refine And.intro ?_ ?_
        | fail)
      all_goals first
        | (exfalso; clear hI hst; omega)
        | (refine leB ?_
           rw [eq_comm, decide_eq_false_iff_not]
           intro h5
           have h6 := hst.1 (right_pre h5 (i + 1))
           grind)
        | (refine Fct.mk ?_
           rw [hst]
           grind)
        | trace_state
    · rw [List.take_of_length_le hge] at hI
      have h6 : (p.coresI.map fun c => tI c).length = p.coresI.length := List.length_map _
      repeat' (conv => whnf
               first
        | refine Frz.own ?_
        | refine Get.mk _ rfl ?_
        | refine Get.mk _ (map_geti (by omega)) ?_
        | refine Get.mk _ (map_getp (by omega) (by omega)) ?_
        | refine Get.mk _ (map_get (by omega)) ?_
        | refine Bv2.mk _ _ rfl rfl ?_
        | refine Bv1.mk _ rfl ?_
        | refine Wr.mk _ (wrap_i64 (by omega) (by omega)) ?_
        | refine Wr.mk _ rfl ?_
        | refine And.intro len_map ?_
        | refine And.intro (leX_refl _) ?_
        | refine And.intro rfl ?_
        | refine And.intro (leO_some _) ?_
        | (refine And.intro (fun h => absurd h (by decide)) (fun h => ?_); clear h)
        | (refine And.intro (fun h => ?_) (fun h => absurd h (by decide)); clear h)
        | with_reducible refine sp1 (fun h => ?_) (fun h => ?_)
        | with_reducible refine sp2 (fun h => ?_) (fun h => ?_)
        | with_reducible refine sp3 (fun h => ?_) (fun h => ?_)
        | with_reducible refine sp4 (fun h => ?_) (fun h => ?_)
        | with_reducible refine sp5 (fun h => ?_) (fun h => ?_)
        | with_reducible refine sp6 (fun h => ?_) (fun h => ?_)
        | with_reducible refine And.intro (fun h => ?_) (fun h => ?_)
        | refine And.intro (Int.natCast_nonneg _) ?_
        | refine And.intro (by omega) ?_
        | refine And.intro (by decide) ?_
        | refine Lst.mk _ rfl ?_
        | refine Or.inr (Or.inl ⟨_, _, s79 p hp, leL_refl _, rfl, rfl, ?_⟩)
        | refine Or.inr (Or.inl ⟨_, _, s56 p hp, leL_refl _, rfl, rfl, ?_⟩)
        | refine Or.inr (Or.inl ⟨_, _, s62 p, leL_refl _, rfl, rfl, ?_⟩)
        | refine And.intro trivial ?_
        | exact trivial
        | exact leX_refl _
        | refine weak_fr ?_ ?_ rfl
        | refine And.intro ?_ ?_
        | fail)
      · exfalso; clear hI; omega
      · refine leB ?_
        rw [eq_comm, decide_eq_false_iff_not]
        intro h5
        have := h5.few
        omega
      · rename_i hap
        refine V_up p.coresI.length (fun j => Fct (∀ c ∈ p.coresI.take j, p.load c ≤ p.frame)) (fun j => ([(1, .p 32 0 0), (4, .s 1 (p.coresI.map fun c => tI c)), (5, tI (j : Nat))], [(32, .var 25 p.tv)]))
          ⟨by simp⟩ ?_ ?_
        · repeat' (conv => whnf
                   first
            | refine Frz.own ?_
            | refine Get.mk _ rfl ?_
            | refine Get.mk _ (map_geti (by omega)) ?_
            | refine Get.mk _ (map_getp (by omega) (by omega)) ?_
            | refine Get.mk _ (map_get (by omega)) ?_
            | refine Bv2.mk _ _ rfl rfl ?_
            | refine Bv1.mk _ rfl ?_
            | refine Wr.mk _ (wrap_i64 (by omega) (by omega)) ?_
            | refine Wr.mk _ rfl ?_
            | refine And.intro len_map ?_
            | refine And.intro (leX_refl _) ?_
            | refine And.intro rfl ?_
            | refine And.intro (leO_some _) ?_
            | (refine And.intro (fun h => absurd h (by decide)) (fun h => ?_); clear h)
            | (refine And.intro (fun h => ?_) (fun h => absurd h (by decide)); clear h)
            | with_reducible refine sp1 (fun h => ?_) (fun h => ?_)
            | with_reducible refine sp2 (fun h => ?_) (fun h => ?_)
            | with_reducible refine sp3 (fun h => ?_) (fun h => ?_)
            | with_reducible refine sp4 (fun h => ?_) (fun h => ?_)
            | with_reducible refine sp5 (fun h => ?_) (fun h => ?_)
            | with_reducible refine sp6 (fun h => ?_) (fun h => ?_)
            | with_reducible refine And.intro (fun h => ?_) (fun h => ?_)
            | refine And.intro (Int.natCast_nonneg _) ?_
            | refine And.intro (by omega) ?_
            | refine And.intro (by decide) ?_
            | refine Lst.mk _ rfl ?_
            | refine And.intro trivial ?_
            | exact trivial
            | exact leX_refl _
            | refine weak_fr ?_ ?_ rfl
            | refine And.intro ?_ ?_
            | fail)
        rintro j hj ⟨hJ⟩
        refine V_x ?_
        rcases Nat.lt_or_ge j p.coresI.length with hlt2 | hge2
        · have hms := mem_snoc hlt2 (P := fun c => p.load c ≤ p.frame)
          have hsh : ∀ x ∈ p.places, 0 ≤ x.share ∧ x.share ≤ 64 := fun x hx => by
            obtain ⟨_, h1, h2, _⟩ := hI.1 x hx; omega
          have hc0 : 0 ≤ p.coresI[j] := by
            have := (List.mem_filter.1 (List.getElem_mem hlt2)).2
            exact (has_range this).1
          repeat' (conv => whnf
                   first
            | refine Frz.own ?_
            | refine Get.mk _ rfl ?_
            | refine Get.mk _ (map_geti (by omega)) ?_
            | refine Get.mk _ (map_getp (by omega) (by omega)) ?_
            | refine Get.mk _ (map_get (by omega)) ?_
            | refine Bv2.mk _ _ rfl rfl ?_
            | refine Bv1.mk _ rfl ?_
            | refine Wr.mk _ (wrap_i64 (by omega) (by omega)) ?_
            | refine Wr.mk _ rfl ?_
            | refine And.intro len_map ?_
            | refine And.intro (leX_refl _) ?_
            | refine And.intro rfl ?_
            | refine And.intro (leO_some _) ?_
            | (refine And.intro (fun h => absurd h (by decide)) (fun h => ?_); clear h)
            | (refine And.intro (fun h => ?_) (fun h => absurd h (by decide)); clear h)
            | with_reducible refine sp1 (fun h => ?_) (fun h => ?_)
            | with_reducible refine sp2 (fun h => ?_) (fun h => ?_)
            | with_reducible refine sp3 (fun h => ?_) (fun h => ?_)
            | with_reducible refine sp4 (fun h => ?_) (fun h => ?_)
            | with_reducible refine sp5 (fun h => ?_) (fun h => ?_)
            | with_reducible refine sp6 (fun h => ?_) (fun h => ?_)
            | with_reducible refine And.intro (fun h => ?_) (fun h => ?_)
            | refine And.intro (Int.natCast_nonneg _) ?_
            | refine And.intro (by omega) ?_
            | refine And.intro (by decide) ?_
            | refine Lst.mk _ rfl ?_
            | refine Or.inr (Or.inl ⟨_, _, s80 p _ hp hc0 hsh, leL_refl _, rfl, rfl, ?_⟩)
            | refine And.intro trivial ?_
            | exact trivial
            | exact leX_refl _
            | refine weak_fr ?_ ?_ rfl
            | refine And.intro ?_ ?_
            | fail)
          all_goals first
            | (exfalso; clear hI hJ hms hap; omega)
            | (refine leB ?_
               rw [eq_comm, decide_eq_false_iff_not]
               intro h7
               have h5 := h7.room _ (List.getElem_mem hlt2)
               omega)
            | (refine Fct.mk ?_
               rw [hms]
               exact ⟨hJ, by omega⟩)
            | trace_state
        · repeat' (conv => whnf
                   first
            | refine Frz.own ?_
            | refine Get.mk _ rfl ?_
            | refine Get.mk _ (map_geti (by omega)) ?_
            | refine Get.mk _ (map_getp (by omega) (by omega)) ?_
            | refine Get.mk _ (map_get (by omega)) ?_
            | refine Bv2.mk _ _ rfl rfl ?_
            | refine Bv1.mk _ rfl ?_
            | refine Wr.mk _ (wrap_i64 (by omega) (by omega)) ?_
            | refine Wr.mk _ rfl ?_
            | refine And.intro len_map ?_
            | refine And.intro (leX_refl _) ?_
            | refine And.intro rfl ?_
            | refine And.intro (leO_some _) ?_
            | (refine And.intro (fun h => absurd h (by decide)) (fun h => ?_); clear h)
            | (refine And.intro (fun h => ?_) (fun h => absurd h (by decide)); clear h)
            | with_reducible refine sp1 (fun h => ?_) (fun h => ?_)
            | with_reducible refine sp2 (fun h => ?_) (fun h => ?_)
            | with_reducible refine sp3 (fun h => ?_) (fun h => ?_)
            | with_reducible refine sp4 (fun h => ?_) (fun h => ?_)
            | with_reducible refine sp5 (fun h => ?_) (fun h => ?_)
            | with_reducible refine sp6 (fun h => ?_) (fun h => ?_)
            | with_reducible refine And.intro (fun h => ?_) (fun h => ?_)
            | refine And.intro (Int.natCast_nonneg _) ?_
            | refine And.intro (by omega) ?_
            | refine And.intro (by decide) ?_
            | refine Lst.mk _ rfl ?_
            | refine And.intro trivial ?_
            | exact trivial
            | exact leX_refl _
            | refine weak_fr ?_ ?_ rfl
            | refine And.intro ?_ ?_
            | fail)
          all_goals first
            | (exfalso; clear hI hJ hap; omega)
            | (refine leB ?_
               rw [eq_comm, decide_eq_true_eq]
               rw [List.take_of_length_le hge2] at hJ
               exact ⟨by omega, by omega, by assumption, hcm, hI.1, hI.2, hap, by omega, hJ⟩)
            | trace_state
      · refine leB ?_
        rw [eq_comm, decide_eq_false_iff_not]
        intro h5
        exact h h5.apart
  all_goals
    refine leB ?_
    rw [eq_comm, decide_eq_false_iff_not]
    intro h5
  · exact h5.cs h
  · have := h5.hi; omega
  · have := h5.lo; omega
end Go.Proofs.Ytjmjolefhcjedaa.Vc

namespace Go.Proofs.Ytjmjolefhcjedaa.Vc
open Go Go.RowKit Go.Proofs.Try
set_option maxRecDepth 20000

theorem s20_no (p : Plan) (u n : Int) (hp : p.light) (h : whyS p u n ≠ 0) : Spec prog 20 [p.tv, tI u, tI n] [] (.t [tI 0, tI (whyS p u n)]) [] := by
  refine spec_s is20 mixed rfl (V_x ?_)
  repeat' (conv => whnf
           first
    | refine Frz.own ?_
    | refine Get.mk _ rfl ?_
    | refine Get.mk _ (map_geti (by omega)) ?_
    | refine Get.mk _ (map_getp (by omega) (by omega)) ?_
    | refine Get.mk _ (map_get (by omega)) ?_
    | refine Bv2.mk _ _ rfl rfl ?_
    | refine Bv1.mk _ rfl ?_
    | refine Wr.mk _ (wrap_i64 (by omega) (by omega)) ?_
    | refine Wr.mk _ rfl ?_
    | refine And.intro len_map ?_
    | refine And.intro (leX_refl _) ?_
    | refine And.intro rfl ?_
    | refine And.intro (leO_some _) ?_
    | (refine And.intro (fun h => absurd h (by decide)) (fun h => ?_); clear h)
    | (refine And.intro (fun h => ?_) (fun h => absurd h (by decide)); clear h)
    | with_reducible refine sp1 (fun h => ?_) (fun h => ?_)
    | with_reducible refine sp2 (fun h => ?_) (fun h => ?_)
    | with_reducible refine sp3 (fun h => ?_) (fun h => ?_)
    | with_reducible refine sp4 (fun h => ?_) (fun h => ?_)
    | with_reducible refine sp5 (fun h => ?_) (fun h => ?_)
    | with_reducible refine sp6 (fun h => ?_) (fun h => ?_)
    | with_reducible refine And.intro (fun h => ?_) (fun h => ?_)
    | refine And.intro (Int.natCast_nonneg _) ?_
    | refine And.intro (by omega) ?_
    | refine And.intro (by decide) ?_
    | refine Lst.mk _ rfl ?_
    | refine Or.inr (Or.inl ⟨_, _, s67_no p u n hp h, leL_refl _, rfl, rfl, ?_⟩)
    | refine And.intro trivial ?_
    | exact trivial
    | exact leX_refl _
    | refine weak_fr ?_ ?_ rfl
    | refine And.intro ?_ ?_
    | fail)
  all_goals first
    | exact leI rfl
    | (exfalso; omega)
    | trace_state
theorem share_bd {p : Plan} {u : Int} {x : Place} (hr : p.right) (hf : p.find u = some x) : 1 ≤ x.share ∧ x.share ≤ 64 ∧ x.ok p ∧ x ∈ p.places := by
  have hm := List.mem_of_find?_eq_some hf
  have ho := hr.ok x hm
  have := hr.hi
  exact ⟨ho.2.1, by have := ho.2.2.1; omega, ho, hm⟩
theorem s20_ok (p : Plan) (u n : Int) (x : Place) (hp : p.light) (hr : p.right) (hf : p.find u = some x) (h0 : 0 ≤ n) (h1 : n ≤ 1048576) : Spec prog 20 [p.tv, tI u, tI n] [] (.t [tI (leastP p.frame x.share x.win n), tI 0]) [] := by
  obtain ⟨b1, b2, _⟩ := share_bd hr hf
  have f1 := hr.lo
  have f2 := hr.hi
  refine spec_s is20 mixed rfl (V_x ?_)
  repeat' (conv => whnf
           first
    | refine Frz.own ?_
    | refine Get.mk _ rfl ?_
    | refine Get.mk _ (map_geti (by omega)) ?_
    | refine Get.mk _ (map_getp (by omega) (by omega)) ?_
    | refine Get.mk _ (map_get (by omega)) ?_
    | refine Bv2.mk _ _ rfl rfl ?_
    | refine Bv1.mk _ rfl ?_
    | refine Wr.mk _ (wrap_i64 (by omega) (by omega)) ?_
    | refine Wr.mk _ rfl ?_
    | refine And.intro len_map ?_
    | refine And.intro (leX_refl _) ?_
    | refine And.intro rfl ?_
    | refine And.intro (leO_some _) ?_
    | (refine And.intro (fun h => absurd h (by decide)) (fun h => ?_); clear h)
    | (refine And.intro (fun h => ?_) (fun h => absurd h (by decide)); clear h)
    | with_reducible refine sp1 (fun h => ?_) (fun h => ?_)
    | with_reducible refine sp2 (fun h => ?_) (fun h => ?_)
    | with_reducible refine sp3 (fun h => ?_) (fun h => ?_)
    | with_reducible refine sp4 (fun h => ?_) (fun h => ?_)
    | with_reducible refine sp5 (fun h => ?_) (fun h => ?_)
    | with_reducible refine sp6 (fun h => ?_) (fun h => ?_)
    | with_reducible refine And.intro (fun h => ?_) (fun h => ?_)
    | refine And.intro (Int.natCast_nonneg _) ?_
    | refine And.intro (by omega) ?_
    | refine And.intro (by decide) ?_
    | refine Lst.mk _ rfl ?_
    | refine Or.inr (Or.inl ⟨_, _, s67_ok p u n x hp hr hf h0 h1, leL_refl _, rfl, rfl, ?_⟩)
    | refine Or.inr (Or.inl ⟨_, _, s68 p.frame x.share x.win n (by omega) f2 (by omega) b2 h0 (by omega), leL_refl _, rfl, rfl, ?_⟩)
    | refine And.intro trivial ?_
    | exact trivial
    | exact leX_refl _
    | refine weak_fr ?_ ?_ rfl
    | refine And.intro ?_ ?_
    | fail)
  all_goals first
    | exact leI rfl
    | trace_state
open Classical in
theorem s21 (p : Plan) (u n : Int) (hp : p.light) : Spec prog 21 [p.tv, tI u, tI n] [] (tI (whyS p u n)) [] := by
  have h22 := s22 p u hp
  have h35 := s35 p hp
  by_cases hr : p.right
  · rw [decide_eq_true hr] at h35
    cases hf : p.find u with
    | none =>
      have hw : whyS p u n = 10 := by unfold whyS; rw [if_pos hr, hf]; rfl
      rw [hf] at h22
      simp only [Option.getD_none, Option.isSome_none] at h22
      rw [hw]
      refine spec_s is21 mixed rfl (V_x ?_)
      repeat' (conv => whnf
               first
        | refine Frz.own ?_
        | refine Get.mk _ rfl ?_
        | refine Get.mk _ (map_geti (by omega)) ?_
        | refine Get.mk _ (map_getp (by omega) (by omega)) ?_
        | refine Get.mk _ (map_get (by omega)) ?_
        | refine Bv2.mk _ _ rfl rfl ?_
        | refine Bv1.mk _ rfl ?_
        | refine Wr.mk _ (wrap_i64 (by omega) (by omega)) ?_
        | refine Wr.mk _ rfl ?_
        | refine And.intro len_map ?_
        | refine And.intro (leX_refl _) ?_
        | refine And.intro rfl ?_
        | refine And.intro (leO_some _) ?_
        | (refine And.intro (fun h => absurd h (by decide)) (fun h => ?_); clear h)
        | (refine And.intro (fun h => ?_) (fun h => absurd h (by decide)); clear h)
        | with_reducible refine sp1 (fun h => ?_) (fun h => ?_)
        | with_reducible refine sp2 (fun h => ?_) (fun h => ?_)
        | with_reducible refine sp3 (fun h => ?_) (fun h => ?_)
        | with_reducible refine sp4 (fun h => ?_) (fun h => ?_)
        | with_reducible refine sp5 (fun h => ?_) (fun h => ?_)
        | with_reducible refine sp6 (fun h => ?_) (fun h => ?_)
        | with_reducible refine And.intro (fun h => ?_) (fun h => ?_)
        | refine And.intro (Int.natCast_nonneg _) ?_
        | refine And.intro (by omega) ?_
        | refine And.intro (by decide) ?_
        | refine Lst.mk _ rfl ?_
        | refine Or.inr (Or.inl ⟨_, _, h35, leL_refl _, rfl, rfl, ?_⟩)
        | refine Or.inr (Or.inl ⟨_, _, h22, leL_refl _, rfl, rfl, ?_⟩)
        | refine And.intro trivial ?_
        | exact trivial
        | exact leX_refl _
        | refine weak_fr ?_ ?_ rfl
        | refine And.intro ?_ ?_
        | fail)
      exact leI rfl
    | some x =>
      have hw : whyS p u n = if n < 0 ∨ 1048576 < n then 1 else 0 := by unfold whyS; rw [if_pos hr, hf]; rfl
      rw [hf] at h22
      simp only [Option.getD_some, Option.isSome_some] at h22
      rw [hw]
      refine spec_s is21 mixed rfl (V_x ?_)
      repeat' (conv => whnf
               first
        | refine Frz.own ?_
        | refine Get.mk _ rfl ?_
        | refine Get.mk _ (map_geti (by omega)) ?_
        | refine Get.mk _ (map_getp (by omega) (by omega)) ?_
        | refine Get.mk _ (map_get (by omega)) ?_
        | refine Bv2.mk _ _ rfl rfl ?_
        | refine Bv1.mk _ rfl ?_
        | refine Wr.mk _ (wrap_i64 (by omega) (by omega)) ?_
        | refine Wr.mk _ rfl ?_
        | refine And.intro len_map ?_
        | refine And.intro (leX_refl _) ?_
        | refine And.intro rfl ?_
        | refine And.intro (leO_some _) ?_
        | (refine And.intro (fun h => absurd h (by decide)) (fun h => ?_); clear h)
        | (refine And.intro (fun h => ?_) (fun h => absurd h (by decide)); clear h)
        | with_reducible refine sp1 (fun h => ?_) (fun h => ?_)
        | with_reducible refine sp2 (fun h => ?_) (fun h => ?_)
        | with_reducible refine sp3 (fun h => ?_) (fun h => ?_)
        | with_reducible refine sp4 (fun h => ?_) (fun h => ?_)
        | with_reducible refine sp5 (fun h => ?_) (fun h => ?_)
        | with_reducible refine sp6 (fun h => ?_) (fun h => ?_)
        | with_reducible refine And.intro (fun h => ?_) (fun h => ?_)
        | refine And.intro (Int.natCast_nonneg _) ?_
        | refine And.intro (by omega) ?_
        | refine And.intro (by decide) ?_
        | refine Lst.mk _ rfl ?_
        | refine Or.inr (Or.inl ⟨_, _, h35, leL_refl _, rfl, rfl, ?_⟩)
        | refine Or.inr (Or.inl ⟨_, _, h22, leL_refl _, rfl, rfl, ?_⟩)
        | refine And.intro trivial ?_
        | exact trivial
        | exact leX_refl _
        | refine weak_fr ?_ ?_ rfl
        | refine And.intro ?_ ?_
        | fail)
      · refine leI ?_
        rw [if_pos (.inr h)]
      · refine leI ?_
        rw [if_neg (by omega)]
      · refine leI ?_
        rw [if_pos (.inl h)]
  · rw [decide_eq_false hr] at h35
    have hw : whyS p u n = 30 := by unfold whyS; rw [if_neg hr]
    rw [hw]
    refine spec_s is21 mixed rfl (V_x ?_)
    repeat' (conv => whnf
             first
      | refine Frz.own ?_
      | refine Get.mk _ rfl ?_
      | refine Get.mk _ (map_geti (by omega)) ?_
      | refine Get.mk _ (map_getp (by omega) (by omega)) ?_
      | refine Get.mk _ (map_get (by omega)) ?_
      | refine Bv2.mk _ _ rfl rfl ?_
      | refine Bv1.mk _ rfl ?_
      | refine Wr.mk _ (wrap_i64 (by omega) (by omega)) ?_
      | refine Wr.mk _ rfl ?_
      | refine And.intro len_map ?_
      | refine And.intro (leX_refl _) ?_
      | refine And.intro rfl ?_
      | refine And.intro (leO_some _) ?_
      | (refine And.intro (fun h => absurd h (by decide)) (fun h => ?_); clear h)
      | (refine And.intro (fun h => ?_) (fun h => absurd h (by decide)); clear h)
      | with_reducible refine sp1 (fun h => ?_) (fun h => ?_)
      | with_reducible refine sp2 (fun h => ?_) (fun h => ?_)
      | with_reducible refine sp3 (fun h => ?_) (fun h => ?_)
      | with_reducible refine sp4 (fun h => ?_) (fun h => ?_)
      | with_reducible refine sp5 (fun h => ?_) (fun h => ?_)
      | with_reducible refine sp6 (fun h => ?_) (fun h => ?_)
      | with_reducible refine And.intro (fun h => ?_) (fun h => ?_)
      | refine And.intro (Int.natCast_nonneg _) ?_
      | refine And.intro (by omega) ?_
      | refine And.intro (by decide) ?_
      | refine Lst.mk _ rfl ?_
      | refine Or.inr (Or.inl ⟨_, _, h35, leL_refl _, rfl, rfl, ?_⟩)
      | refine And.intro trivial ?_
      | exact trivial
      | exact leX_refl _
      | refine weak_fr ?_ ?_ rfl
      | refine And.intro ?_ ?_
      | fail)
    exact leI rfl
theorem tmod_nat (f t : Nat) : (t : Int).tmod (f : Int) = ((t % f : Nat) : Int) := by
  rw [Int.tmod_eq_emod_of_nonneg (by omega)]; rfl
theorem s70 (f : Nat) (x : Place) (t : Nat) (hf : 0 < f) (hx : x.pieces.length ≤ 20) : Spec prog 70 [tI f, x.tv, tI t] [] (tB (decide (x.cnt (t % f) = 0))) [] := by
  have h107 := s107 x (-1) ((t : Int).tmod f) hx
  refine spec_s is70 mixed rfl (V_x ?_)
  repeat' (conv => whnf
           first
    | refine Frz.own ?_
    | refine Get.mk _ rfl ?_
    | refine Get.mk _ (map_geti (by omega)) ?_
    | refine Get.mk _ (map_getp (by omega) (by omega)) ?_
    | refine Get.mk _ (map_get (by omega)) ?_
    | refine Bv2.mk _ _ rfl rfl ?_
    | refine Bv1.mk _ rfl ?_
    | refine Wr.mk _ (wrap_i64 (by omega) (by omega)) ?_
    | refine Wr.mk _ rfl ?_
    | refine And.intro len_map ?_
    | refine And.intro (leX_refl _) ?_
    | refine And.intro rfl ?_
    | refine And.intro (leO_some _) ?_
    | (refine And.intro (fun h => absurd h (by decide)) (fun h => ?_); clear h)
    | (refine And.intro (fun h => ?_) (fun h => absurd h (by decide)); clear h)
    | with_reducible refine sp1 (fun h => ?_) (fun h => ?_)
    | with_reducible refine sp2 (fun h => ?_) (fun h => ?_)
    | with_reducible refine sp3 (fun h => ?_) (fun h => ?_)
    | with_reducible refine sp4 (fun h => ?_) (fun h => ?_)
    | with_reducible refine sp5 (fun h => ?_) (fun h => ?_)
    | with_reducible refine sp6 (fun h => ?_) (fun h => ?_)
    | with_reducible refine And.intro (fun h => ?_) (fun h => ?_)
    | refine And.intro (Int.natCast_nonneg _) ?_
    | refine And.intro (by omega) ?_
    | refine And.intro (by decide) ?_
    | refine Lst.mk _ rfl ?_
    | refine Or.inr (Or.inl ⟨_, _, h107, leL_refl _, rfl, rfl, ?_⟩)
    | refine And.intro trivial ?_
    | exact trivial
    | exact leX_refl _
    | refine weak_fr ?_ ?_ rfl
    | refine And.intro ?_ ?_
    | fail)
  refine leB ?_
  rw [tmod_nat, Place.at_neg, Bool.eq_iff_iff]; simp
theorem cyc_le {b : Nat → Nat} {k : Nat} (h : ∀ t, b t ≤ k) (f c n : Nat) : cyc b f c n ≤ n * k := by
  induction n with
  | zero => simp [cyc]
  | succ n ih => have := h ((c + n) % f); rw [cyc, Nat.succ_mul]; omega
theorem cnt_le {x : Place} (hx : x.pieces.length ≤ 20) (t : Nat) : x.cnt t ≤ 20 := by
  rw [← Place.at_neg]; exact Nat.le_trans List.countP_le_length hx
theorem s71_split (f c n : Nat) (x : Place) (hf : 0 < f) (hf' : f ≤ 64) (hc : c < 64) (hn : n ≤ 1099511627776) (hx : x.pieces.length ≤ 20) (hne : x.pieces ≠ []) :
    Spec prog 71 [tI f, x.tv, tI c, tI n] [] (tI (cyc x.cnt f c n : Nat)) [] := by
  have hl : (x.pieces.map Piece.tv).length = x.pieces.length := List.length_map _
  have hl0 : 0 < x.pieces.length := List.length_pos_iff.2 hne
  refine spec_s is71 mixed rfl (V_x ?_)
  repeat' (conv => whnf
           first
    | refine Frz.own ?_
    | refine Get.mk _ rfl ?_
    | refine Get.mk _ (map_geti (by omega)) ?_
    | refine Get.mk _ (map_getp (by omega) (by omega)) ?_
    | refine Get.mk _ (map_get (by omega)) ?_
    | refine Bv2.mk _ _ rfl rfl ?_
    | refine Bv1.mk _ rfl ?_
    | refine Wr.mk _ (wrap_i64 (by omega) (by omega)) ?_
    | refine Wr.mk _ rfl ?_
    | refine And.intro len_map ?_
    | refine And.intro (leX_refl _) ?_
    | refine And.intro rfl ?_
    | refine And.intro (leO_some _) ?_
    | (refine And.intro (fun h => absurd h (by decide)) (fun h => ?_); clear h)
    | (refine And.intro (fun h => ?_) (fun h => absurd h (by decide)); clear h)
    | with_reducible refine sp1 (fun h => ?_) (fun h => ?_)
    | with_reducible refine sp2 (fun h => ?_) (fun h => ?_)
    | with_reducible refine sp3 (fun h => ?_) (fun h => ?_)
    | with_reducible refine sp4 (fun h => ?_) (fun h => ?_)
    | with_reducible refine sp5 (fun h => ?_) (fun h => ?_)
    | with_reducible refine sp6 (fun h => ?_) (fun h => ?_)
    | with_reducible refine And.intro (fun h => ?_) (fun h => ?_)
    | refine And.intro (Int.natCast_nonneg _) ?_
    | refine And.intro (by omega) ?_
    | refine And.intro (by decide) ?_
    | refine Lst.mk _ rfl ?_
    | refine And.intro trivial ?_
    | exact trivial
    | exact leX_refl _
    | refine weak_fr ?_ ?_ rfl
    | refine And.intro ?_ ?_
    | fail)
  · refine V_up n (fun _ => True) (fun i => ([(0, tI f), (2, tI c), (3, tI n), (5, .p 96 0 0), (9, tI (cyc x.cnt f c i : Nat)), (10, tI (c + i : Nat))], [(96, .var 34 x.tv)])) trivial ?_ ?_
    · repeat' (conv => whnf
               first
        | refine Frz.own ?_
        | refine Get.mk _ rfl ?_
        | refine Get.mk _ (map_geti (by omega)) ?_
        | refine Get.mk _ (map_getp (by omega) (by omega)) ?_
        | refine Get.mk _ (map_get (by omega)) ?_
        | refine Bv2.mk _ _ rfl rfl ?_
        | refine Bv1.mk _ rfl ?_
        | refine Wr.mk _ (wrap_i64 (by omega) (by omega)) ?_
        | refine Wr.mk _ rfl ?_
        | refine And.intro len_map ?_
        | refine And.intro (leX_refl _) ?_
        | refine And.intro rfl ?_
        | refine And.intro (leO_some _) ?_
        | (refine And.intro (fun h => absurd h (by decide)) (fun h => ?_); clear h)
        | (refine And.intro (fun h => ?_) (fun h => absurd h (by decide)); clear h)
        | with_reducible refine sp1 (fun h => ?_) (fun h => ?_)
        | with_reducible refine sp2 (fun h => ?_) (fun h => ?_)
        | with_reducible refine sp3 (fun h => ?_) (fun h => ?_)
        | with_reducible refine sp4 (fun h => ?_) (fun h => ?_)
        | with_reducible refine sp5 (fun h => ?_) (fun h => ?_)
        | with_reducible refine sp6 (fun h => ?_) (fun h => ?_)
        | with_reducible refine And.intro (fun h => ?_) (fun h => ?_)
        | refine And.intro (Int.natCast_nonneg _) ?_
        | refine And.intro (by omega) ?_
        | refine And.intro (by decide) ?_
        | refine Lst.mk _ rfl ?_
        | refine And.intro trivial ?_
        | exact trivial
        | exact leX_refl _
        | refine weak_fr ?_ ?_ rfl
        | refine And.intro ?_ ?_
        | fail)
    rintro i hi -
    have h107 := s107 x (-1) (((c + i : Nat) : Int).tmod f) hx
    rw [tmod_nat, Place.at_neg] at h107
    have hb := cyc_le (cnt_le hx) f c i
    have hb2 := cnt_le hx ((c + i) % f)
    have hst : cyc x.cnt f c (i + 1) = cyc x.cnt f c i + x.cnt ((c + i) % f) := rfl
    refine V_x ?_
    repeat' (conv => whnf
             first
      | refine Frz.own ?_
      | refine Get.mk _ rfl ?_
      | refine Get.mk _ (map_geti (by omega)) ?_
      | refine Get.mk _ (map_getp (by omega) (by omega)) ?_
      | refine Get.mk _ (map_get (by omega)) ?_
      | refine Bv2.mk _ _ rfl rfl ?_
      | refine Bv1.mk _ rfl ?_
      | refine Wr.mk _ (wrap_i64 (by omega) (by omega)) ?_
      | refine Wr.mk _ rfl ?_
      | refine And.intro len_map ?_
      | refine And.intro (leX_refl _) ?_
      | refine And.intro rfl ?_
      | refine And.intro (leO_some _) ?_
      | (refine And.intro (fun h => absurd h (by decide)) (fun h => ?_); clear h)
      | (refine And.intro (fun h => ?_) (fun h => absurd h (by decide)); clear h)
      | with_reducible refine sp1 (fun h => ?_) (fun h => ?_)
      | with_reducible refine sp2 (fun h => ?_) (fun h => ?_)
      | with_reducible refine sp3 (fun h => ?_) (fun h => ?_)
      | with_reducible refine sp4 (fun h => ?_) (fun h => ?_)
      | with_reducible refine sp5 (fun h => ?_) (fun h => ?_)
      | with_reducible refine sp6 (fun h => ?_) (fun h => ?_)
      | with_reducible refine And.intro (fun h => ?_) (fun h => ?_)
      | refine And.intro (Int.natCast_nonneg _) ?_
      | refine And.intro (by omega) ?_
      | refine And.intro (by decide) ?_
      | refine Lst.mk _ rfl ?_
      | refine Or.inr (Or.inl ⟨_, _, h107, leL_refl _, rfl, rfl, ?_⟩)
      | refine And.intro trivial ?_
      | exact trivial
      | exact leX_refl _
      | refine weak_fr ?_ ?_ rfl
      | refine And.intro ?_ ?_
      | fail)
    refine leI ?_
    have : i = n := by omega
    subst this; rfl
  · exfalso; omega
/-- Whole frames in a stretch. -/
def whN (f c n : Nat) : Nat := if c = 0 then n / f else (c + n) / f - 1
def whI (c m : Nat) : Nat := if c = 0 then m else m - 1
theorem s71_whole (f c n : Nat) (x : Place) (hf : 0 < f) (hf' : f ≤ 64) (hc : c < f) (hn : n ≤ 1099511627776) (hne : x.pieces = []) (hs : 0 ≤ x.share) (hs' : x.share ≤ 64) :
    Spec prog 71 [tI f, x.tv, tI c, tI n] [] (tI (x.share * (whN f c n : Nat))) [] := by
  have hl : (x.pieces.map Piece.tv).length = 0 := by rw [hne]; rfl
  have hq : (c + n) / f ≤ c + n := Nat.div_le_self _ _
  refine spec_s is71 mixed rfl (V_x ?_)
  repeat' (conv => whnf
           first
    | refine Frz.own ?_
    | refine Get.mk _ rfl ?_
    | refine Get.mk _ (map_geti (by omega)) ?_
    | refine Get.mk _ (map_getp (by omega) (by omega)) ?_
    | refine Get.mk _ (map_get (by omega)) ?_
    | refine Bv2.mk _ _ rfl rfl ?_
    | refine Bv1.mk _ rfl ?_
    | refine Wr.mk _ (wrap_i64 (by omega) (by omega)) ?_
    | refine Wr.mk _ rfl ?_
    | refine And.intro len_map ?_
    | refine And.intro (leX_refl _) ?_
    | refine And.intro rfl ?_
    | refine And.intro (leO_some _) ?_
    | (refine And.intro (fun h => absurd h (by decide)) (fun h => ?_); clear h)
    | (refine And.intro (fun h => ?_) (fun h => absurd h (by decide)); clear h)
    | with_reducible refine sp1 (fun h => ?_) (fun h => ?_)
    | with_reducible refine sp2 (fun h => ?_) (fun h => ?_)
    | with_reducible refine sp3 (fun h => ?_) (fun h => ?_)
    | with_reducible refine sp4 (fun h => ?_) (fun h => ?_)
    | with_reducible refine sp5 (fun h => ?_) (fun h => ?_)
    | with_reducible refine sp6 (fun h => ?_) (fun h => ?_)
    | with_reducible refine And.intro (fun h => ?_) (fun h => ?_)
    | refine And.intro (Int.natCast_nonneg _) ?_
    | refine And.intro (by omega) ?_
    | refine And.intro (by decide) ?_
    | refine Lst.mk _ rfl ?_
    | refine And.intro trivial ?_
    | exact trivial
    | exact leX_refl _
    | refine weak_fr ?_ ?_ rfl
    | refine And.intro ?_ ?_
    | fail)
  · exfalso; omega
  · refine V_up ((c + n) / f) (fun _ => True) (fun i => ([(0, tI f), (2, tI c), (3, tI n), (5, .p 96 0 0), (9, tI (x.share * (whI c i : Nat))), (11, tI (i * f : Nat))], [(96, .var 34 x.tv)])) trivial ?_ ?_
    · repeat' (conv => whnf
               first
        | refine Frz.own ?_
        | refine Get.mk _ rfl ?_
        | refine Get.mk _ (map_geti (by omega)) ?_
        | refine Get.mk _ (map_getp (by omega) (by omega)) ?_
        | refine Get.mk _ (map_get (by omega)) ?_
        | refine Bv2.mk _ _ rfl rfl ?_
        | refine Bv1.mk _ rfl ?_
        | refine Wr.mk _ (wrap_i64 (by omega) (by omega)) ?_
        | refine Wr.mk _ rfl ?_
        | refine And.intro len_map ?_
        | refine And.intro (leX_refl _) ?_
        | refine And.intro rfl ?_
        | refine And.intro (leO_some _) ?_
        | (refine And.intro (fun h => absurd h (by decide)) (fun h => ?_); clear h)
        | (refine And.intro (fun h => ?_) (fun h => absurd h (by decide)); clear h)
        | with_reducible refine sp1 (fun h => ?_) (fun h => ?_)
        | with_reducible refine sp2 (fun h => ?_) (fun h => ?_)
        | with_reducible refine sp3 (fun h => ?_) (fun h => ?_)
        | with_reducible refine sp4 (fun h => ?_) (fun h => ?_)
        | with_reducible refine sp5 (fun h => ?_) (fun h => ?_)
        | with_reducible refine sp6 (fun h => ?_) (fun h => ?_)
        | with_reducible refine And.intro (fun h => ?_) (fun h => ?_)
        | refine And.intro (Int.natCast_nonneg _) ?_
        | refine And.intro (by omega) ?_
        | refine And.intro (by decide) ?_
        | refine Lst.mk _ rfl ?_
        | refine And.intro trivial ?_
        | exact trivial
        | exact leX_refl _
        | refine weak_fr ?_ ?_ rfl
        | refine And.intro ?_ ?_
        | fail)
      · refine leI ?_
        unfold whI; split <;> simp
      · refine leI ?_
        simp
    rintro i hi -
    have hi2 : i * f ≤ c + n := Nat.le_trans (Nat.mul_le_mul_right f hi) (Nat.div_mul_le_self _ _)
    have hlt : i * f + f ≤ c + n ↔ i < (c + n) / f := by
      rw [Nat.lt_iff_add_one_le, Nat.le_div_iff_mul_le hf, Nat.succ_mul]
    have hge : c ≤ i * f ↔ (c = 0 ∨ 0 < i) := by
      rcases Nat.eq_zero_or_pos i with h0 | h0
      · subst h0; simp
      · have := Nat.le_mul_of_pos_left f h0; omega
    have hsu : (i + 1) * f = i * f + f := Nat.succ_mul i f
    have hwb : 0 ≤ x.share * (whI c i : Nat) ∧ x.share * (whI c i : Nat) ≤ 64 * 1099511627876 := mul_bd hs hs' (by omega) (by unfold whI; split <;> omega)
    have hst : x.share * (whI c (i + 1) : Nat) = if c = 0 ∨ 0 < i then x.share * (whI c i : Nat) + x.share else x.share * (whI c i : Nat) := by
      unfold whI
      by_cases h1 : c = 0
      · simp [h1, Int.mul_add]
      · by_cases h2 : 0 < i
        · rw [if_neg h1, if_neg h1, if_pos (.inr h2), show ((i + 1 - 1 : Nat) : Int) = ((i - 1 : Nat) : Int) + 1 by omega, Int.mul_add, Int.mul_one]
        · have : i = 0 := by omega
          subst this; simp [h1]
    refine V_x ?_
    repeat' (conv => whnf
             first
      | refine Frz.own ?_
      | refine Get.mk _ rfl ?_
      | refine Get.mk _ (map_geti (by omega)) ?_
      | refine Get.mk _ (map_getp (by omega) (by omega)) ?_
      | refine Get.mk _ (map_get (by omega)) ?_
      | refine Bv2.mk _ _ rfl rfl ?_
      | refine Bv1.mk _ rfl ?_
      | refine Wr.mk _ (wrap_i64 (by omega) (by omega)) ?_
      | refine Wr.mk _ rfl ?_
      | refine And.intro len_map ?_
      | refine And.intro (leX_refl _) ?_
      | refine And.intro rfl ?_
      | refine And.intro (leO_some _) ?_
      | (refine And.intro (fun h => absurd h (by decide)) (fun h => ?_); clear h)
      | (refine And.intro (fun h => ?_) (fun h => absurd h (by decide)); clear h)
      | with_reducible refine sp1 (fun h => ?_) (fun h => ?_)
      | with_reducible refine sp2 (fun h => ?_) (fun h => ?_)
      | with_reducible refine sp3 (fun h => ?_) (fun h => ?_)
      | with_reducible refine sp4 (fun h => ?_) (fun h => ?_)
      | with_reducible refine sp5 (fun h => ?_) (fun h => ?_)
      | with_reducible refine sp6 (fun h => ?_) (fun h => ?_)
      | with_reducible refine And.intro (fun h => ?_) (fun h => ?_)
      | refine And.intro (Int.natCast_nonneg _) ?_
      | refine And.intro (by omega) ?_
      | refine And.intro (by decide) ?_
      | refine Lst.mk _ rfl ?_
      | refine And.intro trivial ?_
      | exact trivial
      | exact leX_refl _
      | refine weak_fr ?_ ?_ rfl
      | refine And.intro ?_ ?_
      | fail)
    all_goals first
      | (refine leI ?_
         rw [hst, if_pos (by omega)])
      | (refine leI ?_
         rw [hst, if_neg (by omega)])
      | (refine leI ?_
         omega)
      | (refine leI ?_
         have : i = (c + n) / f := by omega
         subst this
         unfold whI whN
         split
         · rename_i h0; simp [h0]
         · rfl)
      | trace_state
end Go.Proofs.Ytjmjolefhcjedaa.Vc
