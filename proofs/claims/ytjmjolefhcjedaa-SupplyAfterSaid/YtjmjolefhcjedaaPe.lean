/- The statements of supply, walked. -/
import Derived.Test.YtjmjolefhcjedaaPd
namespace Go.Proofs.Ytjmjolefhcjedaa.Vc
open Go Go.RowKit

theorem minS_least {g : Nat → Nat} {n : Nat} (hn : 0 < n) : (∀ t, t < n → minS (g 0) g n ≤ g t) ∧ ∃ t, t < n ∧ minS (g 0) g n = g t := by
  refine ⟨fun t ht => minS_at ht, ?_⟩
  rcases minS_ex (a := g 0) (g := g) (n := n) with h | ⟨t, h1, h2⟩
  · exact ⟨0, hn, h⟩
  · exact ⟨t, h1, h2⟩
theorem cycMin_super (b : Nat → Nat) (f m n : Nat) (hf : 0 < f) : minS (cyc b f 0 m) (fun c => cyc b f c m) f + minS (cyc b f 0 n) (fun c => cyc b f c n) f ≤ minS (cyc b f 0 (m + n)) (fun c => cyc b f c (m + n)) f := by
  obtain ⟨c, hc, e⟩ := (minS_least (g := fun c => cyc b f c (m + n)) hf).2
  have e' : minS (cyc b f 0 (m + n)) (fun c => cyc b f c (m + n)) f = cyc b f c (m + n) := e
  rw [e', cyc_add]
  have h1 : minS (cyc b f 0 m) (fun c => cyc b f c m) f ≤ cyc b f c m := minS_at (g := fun c => cyc b f c m) hc
  have h2 : minS (cyc b f 0 n) (fun c => cyc b f c n) f ≤ cyc b f ((c + m) % f) n := minS_at (g := fun c => cyc b f c n) (Nat.mod_lt _ hf)
  rw [cyc_mod] at h2
  omega
theorem cycMin_step (b : Nat → Nat) (f n : Nat) (hf : 0 < f) (hb : ∀ t, t < f → b t ≤ 1) : minS (cyc b f 0 (n + 1)) (fun c => cyc b f c (n + 1)) f ≤ minS (cyc b f 0 n) (fun c => cyc b f c n) f + 1 := by
  obtain ⟨c, hc, e⟩ := (minS_least (g := fun c => cyc b f c n) hf).2
  have e' : minS (cyc b f 0 n) (fun c => cyc b f c n) f = cyc b f c n := e
  have h1 : minS (cyc b f 0 (n + 1)) (fun c => cyc b f c (n + 1)) f ≤ cyc b f c (n + 1) := minS_at (g := fun c => cyc b f c (n + 1)) hc
  have h2 : cyc b f c (n + 1) = cyc b f c n + b ((c + n) % f) := rfl
  have h3 := hb ((c + n) % f) (Nat.mod_lt _ hf)
  rw [e']; omega
theorem whN_super {f m n : Nat} (hf : 2 ≤ f) : whN f 1 m + whN f 1 n ≤ whN f 1 (m + n) := by
  unfold whN
  rw [if_neg (by omega), if_neg (by omega), if_neg (by omega)]
  have hA := Nat.div_mul_le_self (1 + m) f
  have hB := Nat.div_mul_le_self (1 + n) f
  have h1 := Nat.div_le_div_right (c := f) (show 1 + m ≤ 1 + (m + n) by omega)
  have h2 := Nat.div_le_div_right (c := f) (show 1 + n ≤ 1 + (m + n) by omega)
  have h3 : (1 + m) / f + (1 + n) / f - 1 ≤ (1 + (m + n)) / f := by
    rw [Nat.le_div_iff_mul_le (by omega), Nat.sub_mul, Nat.add_mul]
    omega
  generalize (1 + m) / f = A at *
  generalize (1 + n) / f = B at *
  generalize (1 + (m + n)) / f = C at *
  omega
theorem leastR_super {p : Plan} {x : Place} {f : Nat} (hf : p.frame = f) (hr : p.right) (ho : x.ok p) (m n : Nat) : leastR f m x + leastR f n x ≤ leastR f (m + n) x := by
  have h1 := hr.lo
  unfold leastR
  by_cases hne : x.pieces = []
  · rw [if_pos hne, if_pos hne, if_pos hne, ← Int.mul_add]
    have := ho.2.1
    refine Int.mul_le_mul_of_nonneg_left ?_ (by omega)
    have := whN_super (m := m) (n := n) (show 2 ≤ f by omega)
    omega
  · rw [if_neg hne, if_neg hne, if_neg hne]
    have := cycMin_super x.cnt f m n (by omega)
    omega
theorem leastR_nonneg {p : Plan} {x : Place} {f : Nat} (hf : p.frame = f) (hr : p.right) (ho : x.ok p) (n : Nat) : 0 ≤ leastR f n x ∧ leastR f n x ≤ 64 * ((n : Int) + 1) + 64 := by
  rw [← least_eq hf hr ho]
  have := hr.lo
  have := hr.hi
  have h1 := ho.2.1
  have h2 := ho.2.2.1
  exact leastP_bd (by omega) (by omega) (by omega) (by omega) (by omega)
theorem leastR_mono {p : Plan} {x : Place} {f : Nat} (hf : p.frame = f) (hr : p.right) (ho : x.ok p) (m : Nat) : leastR f m x ≤ leastR f (m + 1) x := by
  have h1 := leastR_super hf hr ho m 1
  have h2 := (leastR_nonneg hf hr ho 1).1
  omega
theorem leastR_step {p : Plan} {x : Place} {f : Nat} (hf : p.frame = f) (hr : p.right) (ho : x.ok p) (hne : x.pieces ≠ []) (m : Nat) : leastR f (m + 1) x ≤ leastR f m x + 1 := by
  have h1 := hr.lo
  have h2 := hr.hi
  unfold leastR
  rw [if_neg hne, if_neg hne]
  have := cycMin_step x.cnt f m (by omega) fun t ht => (split_facts hf hr ho hne).1 t (by omega)
  omega
/-- No more than the shares of the frames that are touched. -/
theorem leastR_le {p : Plan} {x : Place} {f : Nat} (hf : p.frame = f) (hr : p.right) (ho : x.ok p) (n : Nat) : leastR f n x ≤ ((n / f + 1 : Nat) : Int) * x.share := by
  have h1 := hr.lo
  have h3 := ho.2.1
  unfold leastR
  by_cases hne : x.pieces = []
  · rw [if_pos hne, Int.mul_comm]
    refine Int.mul_le_mul_of_nonneg_right ?_ (by omega)
    unfold whN
    rw [if_neg (by omega)]
    have h2 := Nat.div_le_div_right (c := f) (show 1 + n ≤ n + f by omega)
    rw [Nat.add_div_right n (by omega)] at h2
    generalize (1 + n) / f = a at *
    generalize n / f = b at *
    omega
  · rw [if_neg hne, ← (split_facts hf hr ho hne).2.1, ← Int.natCast_mul, Int.ofNat_le]
    have h2 : minS (cyc x.cnt f 0 n) (fun c => cyc x.cnt f c n) f ≤ cyc x.cnt f 0 n := minS_at (g := fun c => cyc x.cnt f c n) (t := 0) (by omega)
    refine Nat.le_trans h2 ?_
    have h4 := cyc_mul x.cnt f 0 (n / f + 1) 0
    simp only [cyc, Nat.add_zero] at h4
    rw [← h4]
    refine cyc_mono _ _ _ ?_
    have h5 := Nat.div_add_mod n f
    have h6 := Nat.mod_lt n (show 0 < f by omega)
    rw [Nat.mul_succ]; omega
/-- Of whole frames, all shares but one are sure. -/
theorem leastR_ge {p : Plan} {x : Place} {f : Nat} (hf : p.frame = f) (hr : p.right) (ho : x.ok p) (q : Nat) : (q : Int) * x.share ≤ leastR f (f * (q + 1)) x := by
  have h1 := hr.lo
  have h3 := ho.2.1
  unfold leastR
  by_cases hne : x.pieces = []
  · rw [if_pos hne, Int.mul_comm]
    refine Int.mul_le_mul_of_nonneg_left ?_ (by omega)
    unfold whN
    rw [if_neg (by omega)]
    have h2 := Nat.div_le_div_right (c := f) (show f * (q + 1) ≤ 1 + f * (q + 1) by omega)
    rw [Nat.mul_div_cancel_left _ (by omega)] at h2
    generalize (1 + f * (q + 1)) / f = a at *
    omega
  · rw [if_neg hne, ← (split_facts hf hr ho hne).2.1, ← Int.natCast_mul, Int.ofNat_le]
    have h4 : ∀ c, cyc x.cnt f c (f * (q + 1)) = (q + 1) * cyc x.cnt f 0 f := fun c => by
      have h4 := cyc_mul x.cnt f c (q + 1) 0
      simpa only [cyc, Nat.add_zero] using h4
    refine minS_ge ?_ fun c _ => ?_
    · rw [h4]; exact Nat.mul_le_mul_right _ (by omega)
    · rw [h4]; exact Nat.mul_le_mul_right _ (by omega)
theorem first_ge {P : Nat → Prop} {a b : Nat} (hab : a ≤ b) (hb : P b) : ∃ N, a ≤ N ∧ N ≤ b ∧ P N ∧ ∀ n, a ≤ n → n < N → ¬ P n := by
  obtain ⟨d, rfl⟩ := Nat.exists_eq_add_of_le hab
  clear hab
  induction d generalizing a with
  | zero => exact ⟨a, Nat.le_refl _, Nat.le_refl _, hb, fun n h1 h2 => by omega⟩
  | succ d ih =>
    by_cases ha : P a
    · exact ⟨a, Nat.le_refl _, by omega, ha, fun n h1 h2 => by omega⟩
    · obtain ⟨N, h1, h2, h3, h4⟩ := ih (a := a + 1) (by rwa [show a + 1 + d = a + (d + 1) by omega])
      refine ⟨N, by omega, by omega, h3, fun n h5 h6 => ?_⟩
      rcases Nat.lt_or_ge a n with h7 | h7
      · exact h4 n h7 h6
      · have : n = a := by omega
        subst this; exact ha
/-- How long it takes till so many are sure. -/
theorem after_ex {p : Plan} {x : Place} {f : Nat} (hf : p.frame = f) (hr : p.right) (ho : x.ok p) {k : Int} (h0 : 0 ≤ k) (h1 : k ≤ 1048576) :
    ∃ N : Nat, startP f x.share k ≤ N ∧ N ≤ 100000000 ∧ (∀ n : Nat, startP f x.share k ≤ n → n < N → leastR f n x < k) ∧ k ≤ leastR f N x ∧ (0 < N → leastR f (N - 1) x < k) := by
  have l1 := hr.lo
  have l2 := hr.hi
  have s1 := ho.2.1
  have s2 := ho.2.2.1
  have d1 := div_bd (n := k) (f := x.share) h0 (by omega)
  obtain ⟨q, hq⟩ : ∃ q : Nat, k / x.share = q := ⟨(k / x.share).toNat, by omega⟩
  have hk1 : (q : Int) * x.share ≤ k := by rw [← hq]; exact Int.ediv_mul_le k (by omega)
  have hk2 : k < ((q : Int) + 1) * x.share := by rw [← hq]; exact Int.lt_ediv_add_one_mul_self k (by omega)
  have hq' : q ≤ 1048576 := by omega
  have hst : startP f x.share k = ((q - 2) * f : Nat) := by
    unfold startP
    rw [hq]
    rcases Nat.lt_or_ge q 2 with h | h
    · rw [show q - 2 = 0 by omega, Nat.zero_mul]
      have : ((q : Int) - 2) * f ≤ 0 := Int.mul_nonpos_of_nonpos_of_nonneg (by omega) (by omega)
      omega
    · rw [show (q : Int) - 2 = ((q - 2 : Nat) : Int) by omega, ← Int.natCast_mul]; omega
  rw [hst]
  have hB := leastR_ge hf hr ho (q + 1)
  have hB' : k ≤ leastR f (f * (q + 1 + 1)) x := by
    refine Int.le_trans (Int.le_of_lt hk2) ?_
    simpa using hB
  have hle : (q - 2) * f ≤ f * (q + 1 + 1) := by rw [Nat.mul_comm]; exact Nat.mul_le_mul_left f (by omega)
  have hbig : f * (q + 1 + 1) ≤ 64 * 1048578 := Nat.mul_le_mul (by omega) (by omega)
  obtain ⟨N, h2, h3, h4, h5⟩ := first_ge (P := fun n => k ≤ leastR f n x) hle hB'
  refine ⟨N, by omega, by omega, fun n h6 h7 => by have := h5 n (by omega) h7; omega, h4, fun h6 => ?_⟩
  rcases Nat.lt_or_ge ((q - 2) * f) N with h7 | h7
  · have := h5 (N - 1) (by omega) (by omega); omega
  · have e : N = (q - 2) * f := by omega
    have hpos : 0 < q - 2 := by
      rcases Nat.eq_zero_or_pos (q - 2) with h8 | h8
      · rw [h8] at e; omega
      · exact h8
    have h8 := leastR_le hf hr ho (N - 1)
    have h9 : (N - 1) / f + 1 = q - 2 := by
      rw [e]
      have : (q - 2) * f - 1 = (q - 2 - 1) * f + (f - 1) := by
        have : (q - 2) * f = (q - 2 - 1) * f + f := by
          rw [← Nat.succ_mul]; congr 1; omega
        omega
      rw [this, Nat.mul_comm, Nat.mul_add_div (by omega), Nat.div_eq_of_lt (by omega)]; omega
    rw [h9] at h8
    have h10 : ((q - 2 : Nat) : Int) * x.share < (q : Int) * x.share := Int.mul_lt_mul_of_pos_right (by omega) (by omega)
    omega
end Go.Proofs.Ytjmjolefhcjedaa.Vc

namespace Go.Proofs.Ytjmjolefhcjedaa.Vc
open Go Go.RowKit Go.Proofs.Try
set_option maxRecDepth 20000

theorem s20_R {p : Plan} {u : Int} {x : Place} {f : Nat} (hp : p.light) (hr : p.right) (hf : p.find u = some x) (hf0 : p.frame = f) (ho : x.ok p) (n : Nat) (h1 : n ≤ 1048576) : Spec prog 20 [p.tv, tI u, tI n] [] (.t [tI (leastR f n x), tI 0]) [] := by
  have h := s20_ok p u n x hp hr hf (by omega) (by omega)
  rwa [hf0, least_eq hf0 hr ho] at h
theorem s4 (p : Plan) (u m n : Int) : Spec prog 4 [p.tv, tI u, tI m, tI n] [] (tB true) [] := by
  by_cases hp : ¬ p.light
  · have h18 := s18_no hp
    refine spec_s is4 mixed rfl (V_x ?_)
    repeat' (conv => whnf
             first
      | refine Frz.own ?_
      | refine Get.mk _ rfl ?_
      | refine Get.mk _ (map_geti (by omega)) ?_
      | refine Get.mk _ (map_getp (by omega) (by omega)) ?_
      | refine Get.mk _ (map_get (by omega)) ?_
      | refine Bv2.mk _ _ rfl rfl ?_
      | refine Bv1.mk _ rfl ?_
      | refine Wr.mk _ (wrap_i64 (by omega) (by omega)) ?_
      | refine Wr.mk _ rfl ?_
      | refine And.intro len_map ?_
      | refine And.intro (leX_refl _) ?_
      | refine And.intro rfl ?_
      | refine And.intro (leO_some _) ?_
      | (refine And.intro (fun h => absurd h (by decide)) (fun h => ?_); clear h)
      | (refine And.intro (fun h => ?_) (fun h => absurd h (by decide)); clear h)
      | with_reducible refine sp1 (fun h => ?_) (fun h => ?_)
      | with_reducible refine sp2 (fun h => ?_) (fun h => ?_)
      | with_reducible refine sp3 (fun h => ?_) (fun h => ?_)
      | with_reducible refine sp4 (fun h => ?_) (fun h => ?_)
      | with_reducible refine sp5 (fun h => ?_) (fun h => ?_)
      | with_reducible refine sp6 (fun h => ?_) (fun h => ?_)
      | with_reducible refine And.intro (fun h => ?_) (fun h => ?_)
      | refine And.intro (Int.natCast_nonneg _) ?_
      | refine And.intro (by omega) ?_
      | refine And.intro (by decide) ?_
      | refine Lst.mk _ rfl ?_
      | refine Or.inr (Or.inl ⟨_, _, h18, leL_refl _, rfl, rfl, ?_⟩)
      | refine Or.inr (Or.inl ⟨_, _, s19, leL_refl _, rfl, rfl, ?_⟩)
      | refine And.intro trivial ?_
      | exact trivial
      | exact leX_refl _
      | refine weak_fr ?_ ?_ rfl
      | refine And.intro ?_ ?_
      | fail)
    exact leB rfl
  have hp := Classical.not_not.1 hp
  have h18 := s18_ok hp
  by_cases hw : ¬ (whyS p u m = 0 ∧ whyS p u n = 0 ∧ m ≤ 500000 ∧ n ≤ 500000)
  · refine spec_s is4 mixed rfl (V_x ?_)
    repeat' (conv => whnf
             first
      | refine Frz.own ?_
      | refine Get.mk _ rfl ?_
      | refine Get.mk _ (map_geti (by omega)) ?_
      | refine Get.mk _ (map_getp (by omega) (by omega)) ?_
      | refine Get.mk _ (map_get (by omega)) ?_
      | refine Bv2.mk _ _ rfl rfl ?_
      | refine Bv1.mk _ rfl ?_
      | refine Wr.mk _ (wrap_i64 (by omega) (by omega)) ?_
      | refine Wr.mk _ rfl ?_
      | refine And.intro len_map ?_
      | refine And.intro (leX_refl _) ?_
      | refine And.intro rfl ?_
      | refine And.intro (leO_some _) ?_
      | (refine And.intro (fun h => absurd h (by decide)) (fun h => ?_); clear h)
      | (refine And.intro (fun h => ?_) (fun h => absurd h (by decide)); clear h)
      | with_reducible refine sp1 (fun h => ?_) (fun h => ?_)
      | with_reducible refine sp2 (fun h => ?_) (fun h => ?_)
      | with_reducible refine sp3 (fun h => ?_) (fun h => ?_)
      | with_reducible refine sp4 (fun h => ?_) (fun h => ?_)
      | with_reducible refine sp5 (fun h => ?_) (fun h => ?_)
      | with_reducible refine sp6 (fun h => ?_) (fun h => ?_)
      | with_reducible refine And.intro (fun h => ?_) (fun h => ?_)
      | refine And.intro (Int.natCast_nonneg _) ?_
      | refine And.intro (by omega) ?_
      | refine And.intro (by decide) ?_
      | refine Lst.mk _ rfl ?_
      | refine Or.inr (Or.inl ⟨_, _, h18, leL_refl _, rfl, rfl, ?_⟩)
      | refine Or.inr (Or.inl ⟨_, _, s21 p u m hp, leL_refl _, rfl, rfl, ?_⟩)
      | refine Or.inr (Or.inl ⟨_, _, s21 p u n hp, leL_refl _, rfl, rfl, ?_⟩)
      | refine Or.inr (Or.inl ⟨_, _, s19, leL_refl _, rfl, rfl, ?_⟩)
      | refine And.intro trivial ?_
      | exact trivial
      | exact leX_refl _
      | refine weak_fr ?_ ?_ rfl
      | refine And.intro ?_ ?_
      | fail)
    all_goals first
      | exact leB rfl
      | (exfalso; exact hw ⟨by assumption, by assumption, by omega, by omega⟩)
      | trace_state
  obtain ⟨hwm, hwn, hm5, hn5⟩ := Classical.not_not.1 hw
  obtain ⟨hr, ⟨x, hf⟩, m0, m1⟩ := why_ok hwm
  obtain ⟨_, _, n0, n1⟩ := why_ok hwn
  have h21m := s21 p u m hp
  have h21n := s21 p u n hp
  rw [hwm] at h21m
  rw [hwn] at h21n
  obtain ⟨f, hf0⟩ : ∃ f : Nat, p.frame = f := ⟨p.frame.toNat, by have := hr.lo; omega⟩
  obtain ⟨a, rfl⟩ : ∃ a : Nat, m = a := ⟨m.toNat, by omega⟩
  obtain ⟨b, rfl⟩ : ∃ b : Nat, n = b := ⟨n.toNat, by omega⟩
  obtain ⟨b1, b2, ho, hm⟩ := share_bd hr hf
  have ha := s20_R hp hr hf hf0 ho a (by omega)
  have hb := s20_R hp hr hf hf0 ho b (by omega)
  have hc := s20_R hp hr hf hf0 ho (a + b) (by omega)
  have hd := s20_R hp hr hf hf0 ho (a + 1) (by omega)
  have ba := leastR_nonneg hf0 hr ho a
  have bb := leastR_nonneg hf0 hr ho b
  have l1 := leastR_super hf0 hr ho a b
  have l2 := leastR_mono hf0 hr ho a
  have l3 : ¬ (((x.pieces.map Piece.tv).length : Nat) : Int) = 0 → leastR f (a + 1) x ≤ leastR f a x + 1 := fun h => leastR_step hf0 hr ho (by rintro e; rw [e] at h; exact h rfl) a
  have h22 := s22_some hp hf
  refine spec_s is4 mixed rfl (V_x ?_)
  repeat' (conv => whnf
           first
    | refine Frz.own ?_
    | refine Get.mk _ rfl ?_
    | refine Get.mk _ (map_geti (by omega)) ?_
    | refine Get.mk _ (map_getp (by omega) (by omega)) ?_
    | refine Get.mk _ (map_get (by omega)) ?_
    | refine Bv2.mk _ _ rfl rfl ?_
    | refine Bv1.mk _ rfl ?_
    | refine Wr.mk _ (wrap_i64 (by omega) (by omega)) ?_
    | refine Wr.mk _ rfl ?_
    | refine And.intro len_map ?_
    | refine And.intro (leX_refl _) ?_
    | refine And.intro rfl ?_
    | refine And.intro (leO_some _) ?_
    | (refine And.intro (fun h => absurd h (by decide)) (fun h => ?_); clear h)
    | (refine And.intro (fun h => ?_) (fun h => absurd h (by decide)); clear h)
    | with_reducible refine sp1 (fun h => ?_) (fun h => ?_)
    | with_reducible refine sp2 (fun h => ?_) (fun h => ?_)
    | with_reducible refine sp3 (fun h => ?_) (fun h => ?_)
    | with_reducible refine sp4 (fun h => ?_) (fun h => ?_)
    | with_reducible refine sp5 (fun h => ?_) (fun h => ?_)
    | with_reducible refine sp6 (fun h => ?_) (fun h => ?_)
    | with_reducible refine And.intro (fun h => ?_) (fun h => ?_)
    | refine And.intro (Int.natCast_nonneg _) ?_
    | refine And.intro (by omega) ?_
    | refine And.intro (by decide) ?_
    | refine Lst.mk _ rfl ?_
    | refine Or.inr (Or.inl ⟨_, _, h18, leL_refl _, rfl, rfl, ?_⟩)
    | refine Or.inr (Or.inl ⟨_, _, ha, leL_refl _, rfl, rfl, ?_⟩)
    | refine Or.inr (Or.inl ⟨_, _, hb, leL_refl _, rfl, rfl, ?_⟩)
    | refine Or.inr (Or.inl ⟨_, _, hc, leL_refl _, rfl, rfl, ?_⟩)
    | refine Or.inr (Or.inl ⟨_, _, hd, leL_refl _, rfl, rfl, ?_⟩)
    | refine Or.inr (Or.inl ⟨_, _, h21m, leL_refl _, rfl, rfl, ?_⟩)
    | refine Or.inr (Or.inl ⟨_, _, h21n, leL_refl _, rfl, rfl, ?_⟩)
    | refine Or.inr (Or.inl ⟨_, _, h22, leL_refl _, rfl, rfl, ?_⟩)
    | refine Or.inr (Or.inl ⟨_, _, s19, leL_refl _, rfl, rfl, ?_⟩)
    | refine And.intro trivial ?_
    | exact trivial
    | exact leX_refl _
    | refine weak_fr ?_ ?_ rfl
    | refine And.intro ?_ ?_
    | fail)
  all_goals first
    | exact leB rfl
    | (exfalso; omega)
    | trace_state
set_option maxHeartbeats 1000000 in
theorem s5 (p : Plan) (u k : Int) : Spec prog 5 [p.tv, tI u, tI k] [] (tB true) [] := by
  by_cases hp : ¬ p.light
  · have h18 := s18_no hp
    refine spec_s is5 mixed rfl (V_x ?_)
    repeat' (conv => whnf
             first
      | refine Frz.own ?_
      | refine Get.mk _ rfl ?_
      | refine Get.mk _ (map_geti (by omega)) ?_
      | refine Get.mk _ (map_getp (by omega) (by omega)) ?_
      | refine Get.mk _ (map_get (by omega)) ?_
      | refine Bv2.mk _ _ rfl rfl ?_
      | refine Bv1.mk _ rfl ?_
      | refine Wr.mk _ (wrap_i64 (by omega) (by omega)) ?_
      | refine Wr.mk _ rfl ?_
      | refine And.intro len_map ?_
      | refine And.intro (leX_refl _) ?_
      | refine And.intro rfl ?_
      | refine And.intro (leO_some _) ?_
      | (refine And.intro (fun h => absurd h (by decide)) (fun h => ?_); clear h)
      | (refine And.intro (fun h => ?_) (fun h => absurd h (by decide)); clear h)
      | with_reducible refine sp1 (fun h => ?_) (fun h => ?_)
      | with_reducible refine sp2 (fun h => ?_) (fun h => ?_)
      | with_reducible refine sp3 (fun h => ?_) (fun h => ?_)
      | with_reducible refine sp4 (fun h => ?_) (fun h => ?_)
      | with_reducible refine sp5 (fun h => ?_) (fun h => ?_)
      | with_reducible refine sp6 (fun h => ?_) (fun h => ?_)
      | with_reducible refine And.intro (fun h => ?_) (fun h => ?_)
      | refine And.intro (Int.natCast_nonneg _) ?_
      | refine And.intro (by omega) ?_
      | refine And.intro (by decide) ?_
      | refine Lst.mk _ rfl ?_
      | refine Or.inr (Or.inl ⟨_, _, h18, leL_refl _, rfl, rfl, ?_⟩)
      | refine Or.inr (Or.inl ⟨_, _, s19, leL_refl _, rfl, rfl, ?_⟩)
      | refine And.intro trivial ?_
      | exact trivial
      | exact leX_refl _
      | refine weak_fr ?_ ?_ rfl
      | refine And.intro ?_ ?_
      | fail)
    exact leB rfl
  have hp := Classical.not_not.1 hp
  have h18 := s18_ok hp
  by_cases hw : ¬ whyS p u k = 0
  · refine spec_s is5 mixed rfl (V_x ?_)
    repeat' (conv => whnf
             first
      | refine Frz.own ?_
      | refine Get.mk _ rfl ?_
      | refine Get.mk _ (map_geti (by omega)) ?_
      | refine Get.mk _ (map_getp (by omega) (by omega)) ?_
      | refine Get.mk _ (map_get (by omega)) ?_
      | refine Bv2.mk _ _ rfl rfl ?_
      | refine Bv1.mk _ rfl ?_
      | refine Wr.mk _ (wrap_i64 (by omega) (by omega)) ?_
      | refine Wr.mk _ rfl ?_
      | refine And.intro len_map ?_
      | refine And.intro (leX_refl _) ?_
      | refine And.intro rfl ?_
      | refine And.intro (leO_some _) ?_
      | (refine And.intro (fun h => absurd h (by decide)) (fun h => ?_); clear h)
      | (refine And.intro (fun h => ?_) (fun h => absurd h (by decide)); clear h)
      | with_reducible refine sp1 (fun h => ?_) (fun h => ?_)
      | with_reducible refine sp2 (fun h => ?_) (fun h => ?_)
      | with_reducible refine sp3 (fun h => ?_) (fun h => ?_)
      | with_reducible refine sp4 (fun h => ?_) (fun h => ?_)
      | with_reducible refine sp5 (fun h => ?_) (fun h => ?_)
      | with_reducible refine sp6 (fun h => ?_) (fun h => ?_)
      | with_reducible refine And.intro (fun h => ?_) (fun h => ?_)
      | refine And.intro (Int.natCast_nonneg _) ?_
      | refine And.intro (by omega) ?_
      | refine And.intro (by decide) ?_
      | refine Lst.mk _ rfl ?_
      | refine Or.inr (Or.inl ⟨_, _, h18, leL_refl _, rfl, rfl, ?_⟩)
      | refine Or.inr (Or.inl ⟨_, _, s26_no p u k hp hw, leL_refl _, rfl, rfl, ?_⟩)
      | refine Or.inr (Or.inl ⟨_, _, s21 p u k hp, leL_refl _, rfl, rfl, ?_⟩)
      | refine Or.inr (Or.inl ⟨_, _, s19, leL_refl _, rfl, rfl, ?_⟩)
      | refine And.intro trivial ?_
      | exact trivial
      | exact leX_refl _
      | refine weak_fr ?_ ?_ rfl
      | refine And.intro ?_ ?_
      | fail)
    all_goals first
      | exact absurd rfl h
      | exact absurd h hw
      | exact leB rfl
      | (exfalso; exact hw (by assumption))
      | trace_state
  have hw := Classical.not_not.1 hw
  obtain ⟨hr, ⟨x, hf⟩, h0, h1⟩ := why_ok hw
  have h21 := s21 p u k hp
  rw [hw] at h21
  obtain ⟨f, hf0⟩ : ∃ f : Nat, p.frame = f := ⟨p.frame.toNat, by have := hr.lo; omega⟩
  obtain ⟨b1, b2, ho, hm⟩ := share_bd hr hf
  have f1 := hr.lo
  have f2 := hr.hi
  rw [hf0] at f1 f2
  obtain ⟨N, hN1, hN2, hN3, hN4, hN5⟩ := after_ex hf0 hr ho h0 h1
  have h26 := s26_ok p u k x N hp hr hf h0 h1 (by rw [hf0]; exact hN1) (by omega) (fun n h2 h3 => by rw [hf0] at h2 ⊢; rw [least_eq hf0 hr ho]; exact hN3 n h2 h3) (by rw [hf0, least_eq hf0 hr ho]; exact hN4)
  have h27 := s27 p u x f hf0 hp hr hf
  have hde : delayP (fun n => leastP f x.share x.win n) f x.share (2 * f + 1) = delayP (fun n => leastR f n x) f x.share (2 * f + 1) := by
    congr 1; funext n; exact least_eq hf0 hr ho n
  rw [hde] at h27
  obtain ⟨D, hD⟩ : ∃ D, D = delayP (fun n => leastR f n x) f x.share := ⟨_, rfl⟩
  rw [← hD] at h27
  have hD0 : D 0 = 0 := by rw [hD]; rfl
  have hDs : ∀ i : Nat, D (i + 1) = max (D i) ((i : Int) * x.share / f - leastR f i x) := fun i => by rw [hD]; rfl
  clear hD hde
  have h22 := s22_some hp hf
  have h25 := s25_any hp hr hf hf0 N (by omega)
  have h25' := s25_any hp hr hf hf0 (N - 1) (by omega)
  have hpf : p.tv = .a [tI f, tW p.cores, .s 4 (p.places.map Place.tv)] := by rw [← hf0]; rfl
  rw [hpf] at h18 h21 h26 h22 h27 ⊢
  have h25 : 0 < N → Spec prog 25 [tI f, x.tv, tI ((N : Int) - 1)] [] (tI (leastR f (N - 1) x)) [] := fun h0 => by
    have e : ((N - 1 : Nat) : Int) = (N : Int) - 1 := by omega
    rwa [e] at h25'
  refine spec_s is5 mixed rfl (V_x ?_)
  have h25b := s25_any hp hr hf hf0 N (by omega)
  rcases Nat.eq_zero_or_pos N with hz | hz
  · subst hz
    repeat' (conv => whnf
             first
      | refine Frz.own ?_
      | refine Get.mk _ rfl ?_
      | refine Get.mk _ (map_geti (by omega)) ?_
      | refine Get.mk _ (map_getp (by omega) (by omega)) ?_
      | refine Get.mk _ (map_get (by omega)) ?_
      | refine Bv2.mk _ _ rfl rfl ?_
      | refine Bv1.mk _ rfl ?_
      | refine Wr.mk _ (wrap_i64 (by omega) (by omega)) ?_
      | refine Wr.mk _ rfl ?_
      | refine And.intro len_map ?_
      | refine And.intro (leX_refl _) ?_
      | refine And.intro rfl ?_
      | refine And.intro (leO_some _) ?_
      | (refine And.intro (fun h => absurd h (by decide)) (fun h => ?_); clear h)
      | (refine And.intro (fun h => ?_) (fun h => absurd h (by decide)); clear h)
      | with_reducible refine sp1 (fun h => ?_) (fun h => ?_)
      | with_reducible refine sp2 (fun h => ?_) (fun h => ?_)
      | with_reducible refine sp3 (fun h => ?_) (fun h => ?_)
      | with_reducible refine sp4 (fun h => ?_) (fun h => ?_)
      | with_reducible refine sp5 (fun h => ?_) (fun h => ?_)
      | with_reducible refine sp6 (fun h => ?_) (fun h => ?_)
      | with_reducible refine And.intro (fun h => ?_) (fun h => ?_)
      | refine And.intro (Int.natCast_nonneg _) ?_
      | refine And.intro (by omega) ?_
      | refine And.intro (by decide) ?_
      | refine Lst.mk _ rfl ?_
      | refine Or.inr (Or.inl ⟨_, _, h18, leL_refl _, rfl, rfl, ?_⟩)
      | refine Or.inr (Or.inl ⟨_, _, h26, leL_refl _, rfl, rfl, ?_⟩)
      | refine Or.inr (Or.inl ⟨_, _, h21, leL_refl _, rfl, rfl, ?_⟩)
      | refine Or.inr (Or.inl ⟨_, _, h22, leL_refl _, rfl, rfl, ?_⟩)
      | refine Or.inr (Or.inl ⟨_, _, h27, leL_refl _, rfl, rfl, ?_⟩)
      | refine Or.inr (Or.inl ⟨_, _, h25b, leL_refl _, rfl, rfl, ?_⟩)
      | refine Or.inr (Or.inl ⟨_, _, s19, leL_refl _, rfl, rfl, ?_⟩)
      | refine And.intro trivial ?_
      | exact trivial
      | exact leX_refl _
      | refine weak_fr ?_ ?_ rfl
      | refine And.intro ?_ ?_
      | fail)
    · exact leB rfl
    · refine V_up (2 * f + 1) (fun _ => True) (fun i => ([(3, .p 64 0 0), (10, .p 176 0 0), (12, tI (D (2 * f + 1))), (13, tI 0), (14, tI (D i)), (15, tI (i : Nat))], [(64, .var 25 (.a [tI f, tW p.cores, .s 4 (p.places.map Place.tv)])), (176, .var 34 x.tv)])) trivial ?_ ?_
      · repeat' (conv => whnf
                 first
          | refine Frz.own ?_
          | refine Get.mk _ rfl ?_
          | refine Get.mk _ (map_geti (by omega)) ?_
          | refine Get.mk _ (map_getp (by omega) (by omega)) ?_
          | refine Get.mk _ (map_get (by omega)) ?_
          | refine Bv2.mk _ _ rfl rfl ?_
          | refine Bv1.mk _ rfl ?_
          | refine Wr.mk _ (wrap_i64 (by omega) (by omega)) ?_
          | refine Wr.mk _ rfl ?_
          | refine And.intro len_map ?_
          | refine And.intro (leX_refl _) ?_
          | refine And.intro rfl ?_
          | refine And.intro (leO_some _) ?_
          | (refine And.intro (fun h => absurd h (by decide)) (fun h => ?_); clear h)
          | (refine And.intro (fun h => ?_) (fun h => absurd h (by decide)); clear h)
          | with_reducible refine sp1 (fun h => ?_) (fun h => ?_)
          | with_reducible refine sp2 (fun h => ?_) (fun h => ?_)
          | with_reducible refine sp3 (fun h => ?_) (fun h => ?_)
          | with_reducible refine sp4 (fun h => ?_) (fun h => ?_)
          | with_reducible refine sp5 (fun h => ?_) (fun h => ?_)
          | with_reducible refine sp6 (fun h => ?_) (fun h => ?_)
          | with_reducible refine And.intro (fun h => ?_) (fun h => ?_)
          | refine And.intro (Int.natCast_nonneg _) ?_
          | refine And.intro (by omega) ?_
          | refine And.intro (by decide) ?_
          | refine Lst.mk _ rfl ?_
          | refine And.intro trivial ?_
          | exact trivial
          | exact leX_refl _
          | refine weak_fr ?_ ?_ rfl
          | refine And.intro ?_ ?_
          | fail)
        exact leI hD0.symm
      rintro i hi -
      have h25i := s25_any hp hr hf hf0 i (by omega)
      have hb := leastR_nonneg hf0 hr ho i
      have hm := mul_bd (s := x.share) (m := i) (b := 129) (by omega) b2 (by omega) (by omega)
      rw [Int.mul_comm] at hm
      have hd := div_bd (n := i * x.share) (f := f) (by omega) (by omega)
      have e1 : IntKind.wrap .i64 (((i : Int) * x.share).tdiv f) = i * x.share / f := by rw [Int.tdiv_eq_ediv_of_nonneg (by omega)]; exact wrap_i64 (by omega) (by omega)
      have hst := hDs i
      have hfin : ¬ ((i : Int) ≤ 2 * (f : Int)) → i = 2 * f + 1 := by omega
      refine V_x ?_
      repeat' (conv => whnf
               first
        | refine Frz.own ?_
        | refine Wr.mk _ (e1) ?_
        | refine Get.mk _ rfl ?_
        | refine Get.mk _ (map_geti (by omega)) ?_
        | refine Get.mk _ (map_getp (by omega) (by omega)) ?_
        | refine Get.mk _ (map_get (by omega)) ?_
        | refine Bv2.mk _ _ rfl rfl ?_
        | refine Bv1.mk _ rfl ?_
        | refine Wr.mk _ (wrap_i64 (by omega) (by omega)) ?_
        | refine Wr.mk _ rfl ?_
        | refine And.intro len_map ?_
        | refine And.intro (leX_refl _) ?_
        | refine And.intro rfl ?_
        | refine And.intro (leO_some _) ?_
        | (refine And.intro (fun h => absurd h (by decide)) (fun h => ?_); clear h)
        | (refine And.intro (fun h => ?_) (fun h => absurd h (by decide)); clear h)
        | with_reducible refine sp1 (fun h => ?_) (fun h => ?_)
        | with_reducible refine sp2 (fun h => ?_) (fun h => ?_)
        | with_reducible refine sp3 (fun h => ?_) (fun h => ?_)
        | with_reducible refine sp4 (fun h => ?_) (fun h => ?_)
        | with_reducible refine sp5 (fun h => ?_) (fun h => ?_)
        | with_reducible refine sp6 (fun h => ?_) (fun h => ?_)
        | with_reducible refine And.intro (fun h => ?_) (fun h => ?_)
        | refine And.intro (Int.natCast_nonneg _) ?_
        | refine And.intro (by omega) ?_
        | refine And.intro (by decide) ?_
        | refine Lst.mk _ rfl ?_
        | refine Or.inr (Or.inl ⟨_, _, h25i, leL_refl _, rfl, rfl, ?_⟩)
        | refine Or.inr (Or.inl ⟨_, _, s19, leL_refl _, rfl, rfl, ?_⟩)
        | refine And.intro trivial ?_
        | exact trivial
        | exact leX_refl _
        | refine weak_fr ?_ ?_ rfl
        | refine And.intro ?_ ?_
        | fail)
      all_goals first
        | (refine leI ?_; exact hst.symm)
        | exact leB rfl
        | (exfalso
           have h9 := hfin (by assumption)
           subst h9
           exact absurd rfl h)
        | trace_state
    all_goals (exfalso; omega)
  · have h25c := h25 hz
    repeat' (conv => whnf
             first
      | refine Frz.own ?_
      | refine Get.mk _ rfl ?_
      | refine Get.mk _ (map_geti (by omega)) ?_
      | refine Get.mk _ (map_getp (by omega) (by omega)) ?_
      | refine Get.mk _ (map_get (by omega)) ?_
      | refine Bv2.mk _ _ rfl rfl ?_
      | refine Bv1.mk _ rfl ?_
      | refine Wr.mk _ (wrap_i64 (by omega) (by omega)) ?_
      | refine Wr.mk _ rfl ?_
      | refine And.intro len_map ?_
      | refine And.intro (leX_refl _) ?_
      | refine And.intro rfl ?_
      | refine And.intro (leO_some _) ?_
      | (refine And.intro (fun h => absurd h (by decide)) (fun h => ?_); clear h)
      | (refine And.intro (fun h => ?_) (fun h => absurd h (by decide)); clear h)
      | with_reducible refine sp1 (fun h => ?_) (fun h => ?_)
      | with_reducible refine sp2 (fun h => ?_) (fun h => ?_)
      | with_reducible refine sp3 (fun h => ?_) (fun h => ?_)
      | with_reducible refine sp4 (fun h => ?_) (fun h => ?_)
      | with_reducible refine sp5 (fun h => ?_) (fun h => ?_)
      | with_reducible refine sp6 (fun h => ?_) (fun h => ?_)
      | with_reducible refine And.intro (fun h => ?_) (fun h => ?_)
      | refine And.intro (Int.natCast_nonneg _) ?_
      | refine And.intro (by omega) ?_
      | refine And.intro (by decide) ?_
      | refine Lst.mk _ rfl ?_
      | refine Or.inr (Or.inl ⟨_, _, h18, leL_refl _, rfl, rfl, ?_⟩)
      | refine Or.inr (Or.inl ⟨_, _, h26, leL_refl _, rfl, rfl, ?_⟩)
      | refine Or.inr (Or.inl ⟨_, _, h21, leL_refl _, rfl, rfl, ?_⟩)
      | refine Or.inr (Or.inl ⟨_, _, h22, leL_refl _, rfl, rfl, ?_⟩)
      | refine Or.inr (Or.inl ⟨_, _, h27, leL_refl _, rfl, rfl, ?_⟩)
      | refine Or.inr (Or.inl ⟨_, _, h25b, leL_refl _, rfl, rfl, ?_⟩)
      | refine Or.inr (Or.inl ⟨_, _, h25c, leL_refl _, rfl, rfl, ?_⟩)
      | refine Or.inr (Or.inl ⟨_, _, s19, leL_refl _, rfl, rfl, ?_⟩)
      | refine And.intro trivial ?_
      | exact trivial
      | exact leX_refl _
      | refine weak_fr ?_ ?_ rfl
      | refine And.intro ?_ ?_
      | fail)
    · exact leB rfl
    · exfalso; omega
    · refine V_up (2 * f + 1) (fun _ => True) (fun i => ([(3, .p 64 0 0), (10, .p 176 0 0), (12, tI (D (2 * f + 1))), (13, tI 0), (14, tI (D i)), (15, tI (i : Nat))], [(64, .var 25 (.a [tI f, tW p.cores, .s 4 (p.places.map Place.tv)])), (176, .var 34 x.tv)])) trivial ?_ ?_
      · repeat' (conv => whnf
                 first
          | refine Frz.own ?_
          | refine Get.mk _ rfl ?_
          | refine Get.mk _ (map_geti (by omega)) ?_
          | refine Get.mk _ (map_getp (by omega) (by omega)) ?_
          | refine Get.mk _ (map_get (by omega)) ?_
          | refine Bv2.mk _ _ rfl rfl ?_
          | refine Bv1.mk _ rfl ?_
          | refine Wr.mk _ (wrap_i64 (by omega) (by omega)) ?_
          | refine Wr.mk _ rfl ?_
          | refine And.intro len_map ?_
          | refine And.intro (leX_refl _) ?_
          | refine And.intro rfl ?_
          | refine And.intro (leO_some _) ?_
          | (refine And.intro (fun h => absurd h (by decide)) (fun h => ?_); clear h)
          | (refine And.intro (fun h => ?_) (fun h => absurd h (by decide)); clear h)
          | with_reducible refine sp1 (fun h => ?_) (fun h => ?_)
          | with_reducible refine sp2 (fun h => ?_) (fun h => ?_)
          | with_reducible refine sp3 (fun h => ?_) (fun h => ?_)
          | with_reducible refine sp4 (fun h => ?_) (fun h => ?_)
          | with_reducible refine sp5 (fun h => ?_) (fun h => ?_)
          | with_reducible refine sp6 (fun h => ?_) (fun h => ?_)
          | with_reducible refine And.intro (fun h => ?_) (fun h => ?_)
          | refine And.intro (Int.natCast_nonneg _) ?_
          | refine And.intro (by omega) ?_
          | refine And.intro (by decide) ?_
          | refine Lst.mk _ rfl ?_
          | refine And.intro trivial ?_
          | exact trivial
          | exact leX_refl _
          | refine weak_fr ?_ ?_ rfl
          | refine And.intro ?_ ?_
          | fail)
        exact leI hD0.symm
      rintro i hi -
      have h25i := s25_any hp hr hf hf0 i (by omega)
      have hb := leastR_nonneg hf0 hr ho i
      have hm := mul_bd (s := x.share) (m := i) (b := 129) (by omega) b2 (by omega) (by omega)
      rw [Int.mul_comm] at hm
      have hd := div_bd (n := i * x.share) (f := f) (by omega) (by omega)
      have e1 : IntKind.wrap .i64 (((i : Int) * x.share).tdiv f) = i * x.share / f := by rw [Int.tdiv_eq_ediv_of_nonneg (by omega)]; exact wrap_i64 (by omega) (by omega)
      have hst := hDs i
      have hfin : ¬ ((i : Int) ≤ 2 * (f : Int)) → i = 2 * f + 1 := by omega
      refine V_x ?_
      repeat' (conv => whnf
               first
        | refine Frz.own ?_
        | refine Wr.mk _ (e1) ?_
        | refine Get.mk _ rfl ?_
        | refine Get.mk _ (map_geti (by omega)) ?_
        | refine Get.mk _ (map_getp (by omega) (by omega)) ?_
        | refine Get.mk _ (map_get (by omega)) ?_
        | refine Bv2.mk _ _ rfl rfl ?_
        | refine Bv1.mk _ rfl ?_
        | refine Wr.mk _ (wrap_i64 (by omega) (by omega)) ?_
        | refine Wr.mk _ rfl ?_
        | refine And.intro len_map ?_
        | refine And.intro (leX_refl _) ?_
        | refine And.intro rfl ?_
        | refine And.intro (leO_some _) ?_
        | (refine And.intro (fun h => absurd h (by decide)) (fun h => ?_); clear h)
        | (refine And.intro (fun h => ?_) (fun h => absurd h (by decide)); clear h)
        | with_reducible refine sp1 (fun h => ?_) (fun h => ?_)
        | with_reducible refine sp2 (fun h => ?_) (fun h => ?_)
        | with_reducible refine sp3 (fun h => ?_) (fun h => ?_)
        | with_reducible refine sp4 (fun h => ?_) (fun h => ?_)
        | with_reducible refine sp5 (fun h => ?_) (fun h => ?_)
        | with_reducible refine sp6 (fun h => ?_) (fun h => ?_)
        | with_reducible refine And.intro (fun h => ?_) (fun h => ?_)
        | refine And.intro (Int.natCast_nonneg _) ?_
        | refine And.intro (by omega) ?_
        | refine And.intro (by decide) ?_
        | refine Lst.mk _ rfl ?_
        | refine Or.inr (Or.inl ⟨_, _, h25i, leL_refl _, rfl, rfl, ?_⟩)
        | refine Or.inr (Or.inl ⟨_, _, s19, leL_refl _, rfl, rfl, ?_⟩)
        | refine And.intro trivial ?_
        | exact trivial
        | exact leX_refl _
        | refine weak_fr ?_ ?_ rfl
        | refine And.intro ?_ ?_
        | fail)
      all_goals first
        | (refine leI ?_; exact hst.symm)
        | exact leB rfl
        | (exfalso
           have h9 := hfin (by assumption)
           subst h9
           exact absurd rfl h)
        | trace_state
    all_goals (exfalso; omega)
end Go.Proofs.Ytjmjolefhcjedaa.Vc
