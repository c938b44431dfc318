/- How long a unit may wait, when so many ticks are sure, how far it lags. -/
import Derived.Test.YtjmjolefhcjedaaPc
namespace Go.Proofs.Ytjmjolefhcjedaa.Vc
open Go Go.RowKit Go.Proofs.Try
set_option maxRecDepth 20000

theorem s25_split (f n : Nat) (x : Place) (hf : 2 ≤ f) (hf' : f ≤ 64) (hn : n ≤ 1099511627776) (hx : x.pieces.length ≤ 20) (hne : x.pieces ≠ []) :
    Spec prog 25 [tI f, x.tv, tI n] [] (tI (minS (cyc x.cnt f 0 n) (fun c => cyc x.cnt f c n) f : Nat)) [] := by
  refine spec_s is25 mixed rfl (V_x ?_)
  repeat' (conv => whnf
           first
    | refine Frz.own ?_
    | refine Get.mk _ rfl ?_
    | refine Get.mk _ (map_geti (by omega)) ?_
    | refine Get.mk _ (map_getp (by omega) (by omega)) ?_
    | refine Get.mk _ (map_get (by omega)) ?_
    | refine Bv2.mk _ _ rfl rfl ?_
    | refine Bv1.mk _ rfl ?_
    | refine Wr.mk _ (wrap_i64 (by omega) (by omega)) ?_
    | refine Wr.mk _ rfl ?_
    | refine And.intro len_map ?_
    | refine And.intro (leX_refl _) ?_
    | refine And.intro rfl ?_
    | refine And.intro (leO_some _) ?_
    | (refine And.intro (fun h => absurd h (by decide)) (fun h => ?_); clear h)
    | (refine And.intro (fun h => ?_) (fun h => absurd h (by decide)); clear h)
    | with_reducible refine sp1 (fun h => ?_) (fun h => ?_)
    | with_reducible refine sp2 (fun h => ?_) (fun h => ?_)
    | with_reducible refine sp3 (fun h => ?_) (fun h => ?_)
    | with_reducible refine sp4 (fun h => ?_) (fun h => ?_)
    | with_reducible refine sp5 (fun h => ?_) (fun h => ?_)
    | with_reducible refine sp6 (fun h => ?_) (fun h => ?_)
    | with_reducible refine And.intro (fun h => ?_) (fun h => ?_)
    | refine And.intro (Int.natCast_nonneg _) ?_
    | refine And.intro (by omega) ?_
    | refine And.intro (by decide) ?_
    | refine Lst.mk _ rfl ?_
    | refine Or.inr (Or.inl ⟨_, _, s71_split f 0 n x (by omega) hf' (by omega) hn hx hne, leL_refl _, rfl, rfl, ?_⟩)
    | refine And.intro trivial ?_
    | exact trivial
    | exact leX_refl _
    | refine weak_fr ?_ ?_ rfl
    | refine And.intro ?_ ?_
    | fail)
  refine V_up (f - 1) (fun _ => True) (fun i => ([(0, tI f), (2, tI n), (4, .p 80 0 0), (7, tI (minS (cyc x.cnt f 0 n) (fun c => cyc x.cnt f c n) (i + 1) : Nat)), (8, tI (i + 1 : Nat))], [(80, .var 34 x.tv)])) trivial ?_ ?_
  · repeat' (conv => whnf
             first
      | refine Frz.own ?_
      | refine Get.mk _ rfl ?_
      | refine Get.mk _ (map_geti (by omega)) ?_
      | refine Get.mk _ (map_getp (by omega) (by omega)) ?_
      | refine Get.mk _ (map_get (by omega)) ?_
      | refine Bv2.mk _ _ rfl rfl ?_
      | refine Bv1.mk _ rfl ?_
      | refine Wr.mk _ (wrap_i64 (by omega) (by omega)) ?_
      | refine Wr.mk _ rfl ?_
      | refine And.intro len_map ?_
      | refine And.intro (leX_refl _) ?_
      | refine And.intro rfl ?_
      | refine And.intro (leO_some _) ?_
      | (refine And.intro (fun h => absurd h (by decide)) (fun h => ?_); clear h)
      | (refine And.intro (fun h => ?_) (fun h => absurd h (by decide)); clear h)
      | with_reducible refine sp1 (fun h => ?_) (fun h => ?_)
      | with_reducible refine sp2 (fun h => ?_) (fun h => ?_)
      | with_reducible refine sp3 (fun h => ?_) (fun h => ?_)
      | with_reducible refine sp4 (fun h => ?_) (fun h => ?_)
      | with_reducible refine sp5 (fun h => ?_) (fun h => ?_)
      | with_reducible refine sp6 (fun h => ?_) (fun h => ?_)
      | with_reducible refine And.intro (fun h => ?_) (fun h => ?_)
      | refine And.intro (Int.natCast_nonneg _) ?_
      | refine And.intro (by omega) ?_
      | refine And.intro (by decide) ?_
      | refine Lst.mk _ rfl ?_
      | refine And.intro trivial ?_
      | exact trivial
      | exact leX_refl _
      | refine weak_fr ?_ ?_ rfl
      | refine And.intro ?_ ?_
      | fail)
    refine leI ?_
    simp [minS]
  rintro i hi -
  have hst : minS (cyc x.cnt f 0 n) (fun c => cyc x.cnt f c n) (i + 1 + 1) = min (minS (cyc x.cnt f 0 n) (fun c => cyc x.cnt f c n) (i + 1)) (cyc x.cnt f (i + 1) n) := rfl
  refine V_x ?_
  rcases Nat.lt_or_ge (i + 1) f with hlt | hge
  · repeat' (conv => whnf
             first
      | refine Frz.own ?_
      | refine Get.mk _ rfl ?_
      | refine Get.mk _ (map_geti (by omega)) ?_
      | refine Get.mk _ (map_getp (by omega) (by omega)) ?_
      | refine Get.mk _ (map_get (by omega)) ?_
      | refine Bv2.mk _ _ rfl rfl ?_
      | refine Bv1.mk _ rfl ?_
      | refine Wr.mk _ (wrap_i64 (by omega) (by omega)) ?_
      | refine Wr.mk _ rfl ?_
      | refine And.intro len_map ?_
      | refine And.intro (leX_refl _) ?_
      | refine And.intro rfl ?_
      | refine And.intro (leO_some _) ?_
      | (refine And.intro (fun h => absurd h (by decide)) (fun h => ?_); clear h)
      | (refine And.intro (fun h => ?_) (fun h => absurd h (by decide)); clear h)
      | with_reducible refine sp1 (fun h => ?_) (fun h => ?_)
      | with_reducible refine sp2 (fun h => ?_) (fun h => ?_)
      | with_reducible refine sp3 (fun h => ?_) (fun h => ?_)
      | with_reducible refine sp4 (fun h => ?_) (fun h => ?_)
      | with_reducible refine sp5 (fun h => ?_) (fun h => ?_)
      | with_reducible refine sp6 (fun h => ?_) (fun h => ?_)
      | with_reducible refine And.intro (fun h => ?_) (fun h => ?_)
      | refine And.intro (Int.natCast_nonneg _) ?_
      | refine And.intro (by omega) ?_
      | refine And.intro (by decide) ?_
      | refine Lst.mk _ rfl ?_
      | refine Or.inr (Or.inl ⟨_, _, s71_split f (i + 1) n x (by omega) hf' (by omega) hn hx hne, leL_refl _, rfl, rfl, ?_⟩)
      | refine And.intro trivial ?_
      | exact trivial
      | exact leX_refl _
      | refine weak_fr ?_ ?_ rfl
      | refine And.intro ?_ ?_
      | fail)
    all_goals first
      | (exfalso; omega)
      | (refine leI ?_
         rw [hst]; omega)
      | trace_state
  · repeat' (conv => whnf
             first
      | refine Frz.own ?_
      | refine Get.mk _ rfl ?_
      | refine Get.mk _ (map_geti (by omega)) ?_
      | refine Get.mk _ (map_getp (by omega) (by omega)) ?_
      | refine Get.mk _ (map_get (by omega)) ?_
      | refine Bv2.mk _ _ rfl rfl ?_
      | refine Bv1.mk _ rfl ?_
      | refine Wr.mk _ (wrap_i64 (by omega) (by omega)) ?_
      | refine Wr.mk _ rfl ?_
      | refine And.intro len_map ?_
      | refine And.intro (leX_refl _) ?_
      | refine And.intro rfl ?_
      | refine And.intro (leO_some _) ?_
      | (refine And.intro (fun h => absurd h (by decide)) (fun h => ?_); clear h)
      | (refine And.intro (fun h => ?_) (fun h => absurd h (by decide)); clear h)
      | with_reducible refine sp1 (fun h => ?_) (fun h => ?_)
      | with_reducible refine sp2 (fun h => ?_) (fun h => ?_)
      | with_reducible refine sp3 (fun h => ?_) (fun h => ?_)
      | with_reducible refine sp4 (fun h => ?_) (fun h => ?_)
      | with_reducible refine sp5 (fun h => ?_) (fun h => ?_)
      | with_reducible refine sp6 (fun h => ?_) (fun h => ?_)
      | with_reducible refine And.intro (fun h => ?_) (fun h => ?_)
      | refine And.intro (Int.natCast_nonneg _) ?_
      | refine And.intro (by omega) ?_
      | refine And.intro (by decide) ?_
      | refine Lst.mk _ rfl ?_
      | refine And.intro trivial ?_
      | exact trivial
      | exact leX_refl _
      | refine weak_fr ?_ ?_ rfl
      | refine And.intro ?_ ?_
      | fail)
    all_goals first
      | (exfalso; omega)
      | (refine leI ?_
         have : i + 1 = f := by omega
         rw [this])
      | trace_state
theorem whN_mono {f n c d : Nat} (_hf : 2 ≤ f) (hc : 1 ≤ c) (hd : c ≤ d) : whN f c n ≤ whN f d n := by
  unfold whN
  rw [if_neg (by omega), if_neg (by omega)]
  have := Nat.div_le_div_right (c := f) (show c + n ≤ d + n by omega)
  omega
theorem whN_one {f n : Nat} (hf : 2 ≤ f) : whN f 1 n ≤ whN f 0 n := by
  unfold whN
  rw [if_neg (by omega), if_pos rfl]
  have h1 := Nat.div_le_div_right (c := f) (show 1 + n ≤ n + f by omega)
  rw [Nat.add_div_right n (by omega)] at h1
  generalize (1 + n) / f = a at *
  generalize n / f = b at *
  omega
def bestW (f n : Nat) (s : Int) (i : Nat) : Int := if i = 0 then s * (whN f 0 n : Nat) else s * (whN f 1 n : Nat)
theorem bestW_succ {f n : Nat} {s : Int} (hf : 2 ≤ f) (hs : 0 ≤ s) (i : Nat) : bestW f n s (i + 1) = if s * (whN f (i + 1) n : Nat) < bestW f n s i then s * (whN f (i + 1) n : Nat) else bestW f n s i := by
  have h1 : s * (whN f 1 n : Nat) ≤ s * (whN f (i + 1) n : Nat) := Int.mul_le_mul_of_nonneg_left (by
    have := whN_mono (n := n) hf (Nat.le_refl 1) (show 1 ≤ i + 1 by omega)
    omega) hs
  have h2 : s * (whN f 1 n : Nat) ≤ s * (whN f 0 n : Nat) := Int.mul_le_mul_of_nonneg_left (by
    have := whN_one (n := n) hf
    omega) hs
  unfold bestW
  rw [if_neg (by omega)]
  rcases Nat.eq_zero_or_pos i with h0 | h0
  · subst h0
    simp only [if_true, Nat.zero_add]
    split <;> omega
  · rw [if_neg (by omega)]
    split <;> omega
theorem s25_whole (f n : Nat) (x : Place) (hf : 2 ≤ f) (hf' : f ≤ 64) (hn : n ≤ 1099511627776) (hne : x.pieces = []) (hs : 0 ≤ x.share) (hs' : x.share ≤ 64) :
    Spec prog 25 [tI f, x.tv, tI n] [] (tI (x.share * (whN f 1 n : Nat))) [] := by
  refine spec_s is25 mixed rfl (V_x ?_)
  repeat' (conv => whnf
           first
    | refine Frz.own ?_
    | refine Get.mk _ rfl ?_
    | refine Get.mk _ (map_geti (by omega)) ?_
    | refine Get.mk _ (map_getp (by omega) (by omega)) ?_
    | refine Get.mk _ (map_get (by omega)) ?_
    | refine Bv2.mk _ _ rfl rfl ?_
    | refine Bv1.mk _ rfl ?_
    | refine Wr.mk _ (wrap_i64 (by omega) (by omega)) ?_
    | refine Wr.mk _ rfl ?_
    | refine And.intro len_map ?_
    | refine And.intro (leX_refl _) ?_
    | refine And.intro rfl ?_
    | refine And.intro (leO_some _) ?_
    | (refine And.intro (fun h => absurd h (by decide)) (fun h => ?_); clear h)
    | (refine And.intro (fun h => ?_) (fun h => absurd h (by decide)); clear h)
    | with_reducible refine sp1 (fun h => ?_) (fun h => ?_)
    | with_reducible refine sp2 (fun h => ?_) (fun h => ?_)
    | with_reducible refine sp3 (fun h => ?_) (fun h => ?_)
    | with_reducible refine sp4 (fun h => ?_) (fun h => ?_)
    | with_reducible refine sp5 (fun h => ?_) (fun h => ?_)
    | with_reducible refine sp6 (fun h => ?_) (fun h => ?_)
    | with_reducible refine And.intro (fun h => ?_) (fun h => ?_)
    | refine And.intro (Int.natCast_nonneg _) ?_
    | refine And.intro (by omega) ?_
    | refine And.intro (by decide) ?_
    | refine Lst.mk _ rfl ?_
    | refine Or.inr (Or.inl ⟨_, _, s71_whole f 0 n x (by omega) hf' (by omega) hn hne hs hs', leL_refl _, rfl, rfl, ?_⟩)
    | refine And.intro trivial ?_
    | exact trivial
    | exact leX_refl _
    | refine weak_fr ?_ ?_ rfl
    | refine And.intro ?_ ?_
    | fail)
  refine V_up (f - 1) (fun _ => True) (fun i => ([(0, tI f), (2, tI n), (4, .p 80 0 0), (7, tI (bestW f n x.share i)), (8, tI (i + 1 : Nat))], [(80, .var 34 x.tv)])) trivial ?_ ?_
  · repeat' (conv => whnf
             first
      | refine Frz.own ?_
      | refine Get.mk _ rfl ?_
      | refine Get.mk _ (map_geti (by omega)) ?_
      | refine Get.mk _ (map_getp (by omega) (by omega)) ?_
      | refine Get.mk _ (map_get (by omega)) ?_
      | refine Bv2.mk _ _ rfl rfl ?_
      | refine Bv1.mk _ rfl ?_
      | refine Wr.mk _ (wrap_i64 (by omega) (by omega)) ?_
      | refine Wr.mk _ rfl ?_
      | refine And.intro len_map ?_
      | refine And.intro (leX_refl _) ?_
      | refine And.intro rfl ?_
      | refine And.intro (leO_some _) ?_
      | (refine And.intro (fun h => absurd h (by decide)) (fun h => ?_); clear h)
      | (refine And.intro (fun h => ?_) (fun h => absurd h (by decide)); clear h)
      | with_reducible refine sp1 (fun h => ?_) (fun h => ?_)
      | with_reducible refine sp2 (fun h => ?_) (fun h => ?_)
      | with_reducible refine sp3 (fun h => ?_) (fun h => ?_)
      | with_reducible refine sp4 (fun h => ?_) (fun h => ?_)
      | with_reducible refine sp5 (fun h => ?_) (fun h => ?_)
      | with_reducible refine sp6 (fun h => ?_) (fun h => ?_)
      | with_reducible refine And.intro (fun h => ?_) (fun h => ?_)
      | refine And.intro (Int.natCast_nonneg _) ?_
      | refine And.intro (by omega) ?_
      | refine And.intro (by decide) ?_
      | refine Lst.mk _ rfl ?_
      | refine And.intro trivial ?_
      | exact trivial
      | exact leX_refl _
      | refine weak_fr ?_ ?_ rfl
      | refine And.intro ?_ ?_
      | fail)
  rintro i hi -
  have hb := bestW_succ (n := n) hf hs i
  refine V_x ?_
  rcases Nat.lt_or_ge (i + 1) f with hlt | hge
  · repeat' (conv => whnf
             first
      | refine Frz.own ?_
      | refine Get.mk _ rfl ?_
      | refine Get.mk _ (map_geti (by omega)) ?_
      | refine Get.mk _ (map_getp (by omega) (by omega)) ?_
      | refine Get.mk _ (map_get (by omega)) ?_
      | refine Bv2.mk _ _ rfl rfl ?_
      | refine Bv1.mk _ rfl ?_
      | refine Wr.mk _ (wrap_i64 (by omega) (by omega)) ?_
      | refine Wr.mk _ rfl ?_
      | refine And.intro len_map ?_
      | refine And.intro (leX_refl _) ?_
      | refine And.intro rfl ?_
      | refine And.intro (leO_some _) ?_
      | (refine And.intro (fun h => absurd h (by decide)) (fun h => ?_); clear h)
      | (refine And.intro (fun h => ?_) (fun h => absurd h (by decide)); clear h)
      | with_reducible refine sp1 (fun h => ?_) (fun h => ?_)
      | with_reducible refine sp2 (fun h => ?_) (fun h => ?_)
      | with_reducible refine sp3 (fun h => ?_) (fun h => ?_)
      | with_reducible refine sp4 (fun h => ?_) (fun h => ?_)
      | with_reducible refine sp5 (fun h => ?_) (fun h => ?_)
      | with_reducible refine sp6 (fun h => ?_) (fun h => ?_)
      | with_reducible refine And.intro (fun h => ?_) (fun h => ?_)
      | refine And.intro (Int.natCast_nonneg _) ?_
      | refine And.intro (by omega) ?_
      | refine And.intro (by decide) ?_
      | refine Lst.mk _ rfl ?_
      | refine Or.inr (Or.inl ⟨_, _, s71_whole f (i + 1) n x (by omega) hf' (by omega) hn hne hs hs', leL_refl _, rfl, rfl, ?_⟩)
      | refine And.intro trivial ?_
      | exact trivial
      | exact leX_refl _
      | refine weak_fr ?_ ?_ rfl
      | refine And.intro ?_ ?_
      | fail)
    all_goals first
      | (exfalso; omega)
      | (refine leI ?_
         rw [hb, if_pos h])
      | (refine leI ?_
         rw [hb, if_neg h])
      | trace_state
  · repeat' (conv => whnf
             first
      | refine Frz.own ?_
      | refine Get.mk _ rfl ?_
      | refine Get.mk _ (map_geti (by omega)) ?_
      | refine Get.mk _ (map_getp (by omega) (by omega)) ?_
      | refine Get.mk _ (map_get (by omega)) ?_
      | refine Bv2.mk _ _ rfl rfl ?_
      | refine Bv1.mk _ rfl ?_
      | refine Wr.mk _ (wrap_i64 (by omega) (by omega)) ?_
      | refine Wr.mk _ rfl ?_
      | refine And.intro len_map ?_
      | refine And.intro (leX_refl _) ?_
      | refine And.intro rfl ?_
      | refine And.intro (leO_some _) ?_
      | (refine And.intro (fun h => absurd h (by decide)) (fun h => ?_); clear h)
      | (refine And.intro (fun h => ?_) (fun h => absurd h (by decide)); clear h)
      | with_reducible refine sp1 (fun h => ?_) (fun h => ?_)
      | with_reducible refine sp2 (fun h => ?_) (fun h => ?_)
      | with_reducible refine sp3 (fun h => ?_) (fun h => ?_)
      | with_reducible refine sp4 (fun h => ?_) (fun h => ?_)
      | with_reducible refine sp5 (fun h => ?_) (fun h => ?_)
      | with_reducible refine sp6 (fun h => ?_) (fun h => ?_)
      | with_reducible refine And.intro (fun h => ?_) (fun h => ?_)
      | refine And.intro (Int.natCast_nonneg _) ?_
      | refine And.intro (by omega) ?_
      | refine And.intro (by decide) ?_
      | refine Lst.mk _ rfl ?_
      | refine And.intro trivial ?_
      | exact trivial
      | exact leX_refl _
      | refine weak_fr ?_ ?_ rfl
      | refine And.intro ?_ ?_
      | fail)
    all_goals first
      | (exfalso; omega)
      | (refine leI ?_
         unfold bestW; rw [if_neg (by omega)])
      | trace_state

/-! How long it may wait. -/
def nowN (d : Nat → Bool) : Nat → Nat
  | 0 => 0
  | t + 1 => if d t = true then nowN d t + 1 else 0
def longN (d : Nat → Bool) : Nat → Nat
  | 0 => 0
  | t + 1 => max (longN d t) (nowN d (t + 1))
def runLen (d : Nat → Bool) (c : Nat) : Nat → Nat
  | 0 => 0
  | k + 1 => if d c = true then runLen d (c + 1) k + 1 else 0
def maxS (g : Nat → Nat) : Nat → Nat
  | 0 => 0
  | n + 1 => max (maxS g n) (g n)
theorem nowN_le (d : Nat → Bool) (t : Nat) : nowN d t ≤ t := by
  induction t with
  | zero => exact Nat.le_refl _
  | succ t ih => simp only [nowN]; split <;> omega
theorem longN_le (d : Nat → Bool) (t : Nat) : longN d t ≤ t := by
  induction t with
  | zero => exact Nat.le_refl _
  | succ t ih => have := nowN_le d (t + 1); simp only [longN]; omega
theorem nowN_idle (d : Nat → Bool) (t : Nat) : ∀ i, i < nowN d t → d (t - 1 - i) = true := by
  induction t with
  | zero => intro i h; simp [nowN] at h
  | succ t ih =>
    intro i h
    simp only [nowN] at h
    split at h
    · rename_i hd
      rcases Nat.eq_zero_or_pos i with h0 | h0
      · subst h0; exact hd
      · have := ih (i - 1) (by omega)
        rwa [show t - 1 - (i - 1) = t + 1 - 1 - i by omega] at this
    · omega
theorem nowN_ge (d : Nat → Bool) (c m : Nat) (h : ∀ i, i < m → d (c + i) = true) : m ≤ nowN d (c + m) := by
  induction m with
  | zero => omega
  | succ m ih =>
    have := ih fun i hi => h i (by omega)
    rw [← Nat.add_assoc, nowN, if_pos (h m (by omega))]; omega
theorem longN_ge (d : Nat → Bool) {s t : Nat} (h : s ≤ t) : nowN d s ≤ longN d t := by
  induction t with
  | zero => have : s = 0 := by omega
            subst this; simp [nowN]
  | succ t ih =>
    simp only [longN]
    rcases Nat.lt_or_ge s (t + 1) with h1 | h1
    · have := ih (by omega); omega
    · have : s = t + 1 := by omega
      subst this; omega
theorem longN_ex (d : Nat → Bool) (t : Nat) : ∃ s, s ≤ t ∧ longN d t = nowN d s := by
  induction t with
  | zero => exact ⟨0, Nat.le_refl _, rfl⟩
  | succ t ih =>
    obtain ⟨s, h1, h2⟩ := ih
    simp only [longN]
    rcases Nat.le_total (longN d t) (nowN d (t + 1)) with h | h
    · exact ⟨t + 1, Nat.le_refl _, Nat.max_eq_right h⟩
    · exact ⟨s, by omega, by rw [Nat.max_eq_left h, h2]⟩
theorem runLen_le (d : Nat → Bool) (k : Nat) : ∀ c, runLen d c k ≤ k := by
  induction k with
  | zero => intro c; exact Nat.le_refl _
  | succ k ih => intro c; have := ih (c + 1); simp only [runLen]; split <;> omega
theorem runLen_idle (d : Nat → Bool) (k : Nat) : ∀ c i, i < runLen d c k → d (c + i) = true := by
  induction k with
  | zero => intro c i h; simp [runLen] at h
  | succ k ih =>
    intro c i h
    simp only [runLen] at h
    split at h
    · rename_i hd
      rcases Nat.eq_zero_or_pos i with h0 | h0
      · subst h0; exact hd
      · have := ih (c + 1) (i - 1) (by omega)
        rwa [show c + 1 + (i - 1) = c + i by omega] at this
    · omega
theorem runLen_ge (d : Nat → Bool) (k : Nat) : ∀ c m, m ≤ k → (∀ i, i < m → d (c + i) = true) → m ≤ runLen d c k := by
  induction k with
  | zero => intro c m h _; omega
  | succ k ih =>
    intro c m h hi
    rcases Nat.eq_zero_or_pos m with h0 | h0
    · omega
    · have := ih (c + 1) (m - 1) (by omega) fun i hi' => by
        have := hi (i + 1) (by omega)
        rwa [show c + (i + 1) = c + 1 + i by omega] at this
      simp only [runLen]
      rw [if_pos (by simpa using hi 0 h0)]; omega
theorem maxS_ge {g : Nat → Nat} {n t : Nat} (h : t < n) : g t ≤ maxS g n := by
  induction n with
  | zero => omega
  | succ n ih =>
    simp only [maxS]
    rcases Nat.lt_or_ge t n with h1 | h1
    · have := ih h1; omega
    · have : t = n := by omega
      subst this; omega
theorem maxS_le {g : Nat → Nat} {n k : Nat} (h : ∀ t, t < n → g t ≤ k) : maxS g n ≤ k := by
  induction n with
  | zero => exact Nat.zero_le _
  | succ n ih => have := ih fun t ht => h t (by omega); have := h n (by omega); simp only [maxS]; omega
/-- Both ways to count tell the same. -/
theorem long_eq (d : Nat → Bool) (f t0 : Nat) (hf : 0 < f) (hp : ∀ t, d (t % f) = d t) (ht : t0 < f) (h0 : d t0 = false) : longN d (2 * f) = maxS (fun c => runLen d c f) f := by
  refine Nat.le_antisymm ?_ ?_
  · obtain ⟨s, h1, h2⟩ := longN_ex d (2 * f)
    rw [h2]
    have h3 := nowN_le d s
    have h4 := nowN_idle d s
    have h5 : nowN d s < f := by
      refine Classical.byContradiction fun hn => ?_
      have hn : f ≤ nowN d s := by omega
      -- some of the last f ticks is t0's
      let r := (s + f - 1 - t0) % f
      have hr : r < f := Nat.mod_lt _ hf
      have h6 := h4 r (by omega)
      have h7 : (s - 1 - r) % f = t0 := by
        have e : s - 1 - r = s - 1 - (s + f - 1 - t0) % f := rfl
        have hd := Nat.div_add_mod (s + f - 1 - t0) f
        have hs : f ≤ s := by omega
        have : s - 1 - r + f = t0 + f * ((s + f - 1 - t0) / f) := by
          rw [e]; omega
        have h8 := congrArg (· % f) this
        simp only [Nat.add_mod_right, Nat.add_mul_mod_self_left, Nat.mod_eq_of_lt ht] at h8
        exact h8
      rw [← hp, h7, h0] at h6
      cases h6
    rcases Nat.eq_zero_or_pos (nowN d s) with h6 | h6
    · omega
    · refine Nat.le_trans ?_ (maxS_ge (g := fun c => runLen d c f) (t := (s - nowN d s) % f) (Nat.mod_lt _ hf))
      refine runLen_ge d f _ _ (by omega) fun i hi => ?_
      rw [← hp, Nat.mod_add_mod, hp]
      have := h4 (nowN d s - 1 - i) (by omega)
      rwa [show s - 1 - (nowN d s - 1 - i) = s - nowN d s + i by omega] at this
  · refine maxS_le fun c hc => ?_
    have h1 := runLen_le d f c
    have h2 := nowN_ge d c (runLen d c f) (runLen_idle d f c)
    exact Nat.le_trans h2 (longN_ge d (by omega))
end Go.Proofs.Ytjmjolefhcjedaa.Vc

namespace Go.Proofs.Ytjmjolefhcjedaa.Vc
open Go Go.RowKit Go.Proofs.Try
set_option maxRecDepth 20000

/-- Idle ticks, by the reference, and by the program. -/
def idleR (f : Nat) (x : Place) (t : Nat) : Bool := decide (x.cnt (t % f) = 0)
def idleP (f : Nat) (m : BitVec 64) (t : Nat) : Bool := !hasT m (t % f : Nat)
theorem runLen_step {d : Nat → Bool} {c k : Nat} (h : d c = true) : runLen d c (k + 1) = runLen d (c + 1) k + 1 := by simp [runLen, h]
theorem runLen_stop {d : Nat → Bool} {c k : Nat} (h : d c = false) : runLen d c k = 0 := by cases k <;> simp [runLen, h]
theorem s24_whole (f : Nat) (x : Place) (hf' : f ≤ 64) (hne : x.pieces = []) (hs : 0 ≤ x.share) (hs' : x.share ≤ 64) : Spec prog 24 [tI f, x.tv] [] (tI (2 * (f - x.share))) [] := by
  have hl : (x.pieces.map Piece.tv).length = 0 := by rw [hne]; rfl
  refine spec_s is24 mixed rfl (V_x ?_)
  repeat' (conv => whnf
           first
    | refine Frz.own ?_
    | refine Get.mk _ rfl ?_
    | refine Get.mk _ (map_geti (by omega)) ?_
    | refine Get.mk _ (map_getp (by omega) (by omega)) ?_
    | refine Get.mk _ (map_get (by omega)) ?_
    | refine Bv2.mk _ _ rfl rfl ?_
    | refine Bv1.mk _ rfl ?_
    | refine Wr.mk _ (wrap_i64 (by omega) (by omega)) ?_
    | refine Wr.mk _ rfl ?_
    | refine And.intro len_map ?_
    | refine And.intro (leX_refl _) ?_
    | refine And.intro rfl ?_
    | refine And.intro (leO_some _) ?_
    | (refine And.intro (fun h => absurd h (by decide)) (fun h => ?_); clear h)
    | (refine And.intro (fun h => ?_) (fun h => absurd h (by decide)); clear h)
    | with_reducible refine sp1 (fun h => ?_) (fun h => ?_)
    | with_reducible refine sp2 (fun h => ?_) (fun h => ?_)
    | with_reducible refine sp3 (fun h => ?_) (fun h => ?_)
    | with_reducible refine sp4 (fun h => ?_) (fun h => ?_)
    | with_reducible refine sp5 (fun h => ?_) (fun h => ?_)
    | with_reducible refine sp6 (fun h => ?_) (fun h => ?_)
    | with_reducible refine And.intro (fun h => ?_) (fun h => ?_)
    | refine And.intro (Int.natCast_nonneg _) ?_
    | refine And.intro (by omega) ?_
    | refine And.intro (by decide) ?_
    | refine Lst.mk _ rfl ?_
    | refine And.intro trivial ?_
    | exact trivial
    | exact leX_refl _
    | refine weak_fr ?_ ?_ rfl
    | refine And.intro ?_ ?_
    | fail)
  · exact leI rfl
  · exfalso; omega
theorem s24_split (f : Nat) (x : Place) (hf : 0 < f) (hf' : f ≤ 64) (hx : x.pieces.length ≤ 20) (hne : x.pieces ≠ []) : Spec prog 24 [tI f, x.tv] [] (tI (maxS (fun c => runLen (idleR f x) c f) f : Nat)) [] := by
  have hl : (x.pieces.map Piece.tv).length = x.pieces.length := List.length_map _
  have hl0 : 0 < x.pieces.length := List.length_pos_iff.2 hne
  refine spec_s is24 mixed rfl (V_x ?_)
  repeat' (conv => whnf
           first
    | refine Frz.own ?_
    | refine Get.mk _ rfl ?_
    | refine Get.mk _ (map_geti (by omega)) ?_
    | refine Get.mk _ (map_getp (by omega) (by omega)) ?_
    | refine Get.mk _ (map_get (by omega)) ?_
    | refine Bv2.mk _ _ rfl rfl ?_
    | refine Bv1.mk _ rfl ?_
    | refine Wr.mk _ (wrap_i64 (by omega) (by omega)) ?_
    | refine Wr.mk _ rfl ?_
    | refine And.intro len_map ?_
    | refine And.intro (leX_refl _) ?_
    | refine And.intro rfl ?_
    | refine And.intro (leO_some _) ?_
    | (refine And.intro (fun h => absurd h (by decide)) (fun h => ?_); clear h)
    | (refine And.intro (fun h => ?_) (fun h => absurd h (by decide)); clear h)
    | with_reducible refine sp1 (fun h => ?_) (fun h => ?_)
    | with_reducible refine sp2 (fun h => ?_) (fun h => ?_)
    | with_reducible refine sp3 (fun h => ?_) (fun h => ?_)
    | with_reducible refine sp4 (fun h => ?_) (fun h => ?_)
    | with_reducible refine sp5 (fun h => ?_) (fun h => ?_)
    | with_reducible refine sp6 (fun h => ?_) (fun h => ?_)
    | with_reducible refine And.intro (fun h => ?_) (fun h => ?_)
    | refine And.intro (Int.natCast_nonneg _) ?_
    | refine And.intro (by omega) ?_
    | refine And.intro (by decide) ?_
    | refine Lst.mk _ rfl ?_
    | refine And.intro trivial ?_
    | exact trivial
    | exact leX_refl _
    | refine weak_fr ?_ ?_ rfl
    | refine And.intro ?_ ?_
    | fail)
  · exfalso; omega
  refine V_up f (fun _ => True) (fun c => ([(0, tI f), (3, .p 64 0 0), (5, tI (maxS (fun c => runLen (idleR f x) c f) c : Nat)), (6, tI (c : Nat))], [(64, .var 34 x.tv)])) trivial ?_ ?_
  · repeat' (conv => whnf
             first
      | refine Frz.own ?_
      | refine Get.mk _ rfl ?_
      | refine Get.mk _ (map_geti (by omega)) ?_
      | refine Get.mk _ (map_getp (by omega) (by omega)) ?_
      | refine Get.mk _ (map_get (by omega)) ?_
      | refine Bv2.mk _ _ rfl rfl ?_
      | refine Bv1.mk _ rfl ?_
      | refine Wr.mk _ (wrap_i64 (by omega) (by omega)) ?_
      | refine Wr.mk _ rfl ?_
      | refine And.intro len_map ?_
      | refine And.intro (leX_refl _) ?_
      | refine And.intro rfl ?_
      | refine And.intro (leO_some _) ?_
      | (refine And.intro (fun h => absurd h (by decide)) (fun h => ?_); clear h)
      | (refine And.intro (fun h => ?_) (fun h => absurd h (by decide)); clear h)
      | with_reducible refine sp1 (fun h => ?_) (fun h => ?_)
      | with_reducible refine sp2 (fun h => ?_) (fun h => ?_)
      | with_reducible refine sp3 (fun h => ?_) (fun h => ?_)
      | with_reducible refine sp4 (fun h => ?_) (fun h => ?_)
      | with_reducible refine sp5 (fun h => ?_) (fun h => ?_)
      | with_reducible refine sp6 (fun h => ?_) (fun h => ?_)
      | with_reducible refine And.intro (fun h => ?_) (fun h => ?_)
      | refine And.intro (Int.natCast_nonneg _) ?_
      | refine And.intro (by omega) ?_
      | refine And.intro (by decide) ?_
      | refine Lst.mk _ rfl ?_
      | refine And.intro trivial ?_
      | exact trivial
      | exact leX_refl _
      | refine weak_fr ?_ ?_ rfl
      | refine And.intro ?_ ?_
      | fail)
  rintro c hc -
  have hrl := runLen_le (idleR f x) f c
  have hst : maxS (fun c => runLen (idleR f x) c f) (c + 1) = max (maxS (fun c => runLen (idleR f x) c f) c) (runLen (idleR f x) c f) := rfl
  refine V_x ?_
  repeat' (conv => whnf
           first
    | refine Frz.own ?_
    | refine Get.mk _ rfl ?_
    | refine Get.mk _ (map_geti (by omega)) ?_
    | refine Get.mk _ (map_getp (by omega) (by omega)) ?_
    | refine Get.mk _ (map_get (by omega)) ?_
    | refine Bv2.mk _ _ rfl rfl ?_
    | refine Bv1.mk _ rfl ?_
    | refine Wr.mk _ (wrap_i64 (by omega) (by omega)) ?_
    | refine Wr.mk _ rfl ?_
    | refine And.intro len_map ?_
    | refine And.intro (leX_refl _) ?_
    | refine And.intro rfl ?_
    | refine And.intro (leO_some _) ?_
    | (refine And.intro (fun h => absurd h (by decide)) (fun h => ?_); clear h)
    | (refine And.intro (fun h => ?_) (fun h => absurd h (by decide)); clear h)
    | with_reducible refine sp1 (fun h => ?_) (fun h => ?_)
    | with_reducible refine sp2 (fun h => ?_) (fun h => ?_)
    | with_reducible refine sp3 (fun h => ?_) (fun h => ?_)
    | with_reducible refine sp4 (fun h => ?_) (fun h => ?_)
    | with_reducible refine sp5 (fun h => ?_) (fun h => ?_)
    | with_reducible refine sp6 (fun h => ?_) (fun h => ?_)
    | with_reducible refine And.intro (fun h => ?_) (fun h => ?_)
    | refine And.intro (Int.natCast_nonneg _) ?_
    | refine And.intro (by omega) ?_
    | refine And.intro (by decide) ?_
    | refine Lst.mk _ rfl ?_
    | refine And.intro trivial ?_
    | exact trivial
    | exact leX_refl _
    | refine weak_fr ?_ ?_ rfl
    | refine And.intro ?_ ?_
    | fail)
  · refine V_up f (fun j => Fct (runLen (idleR f x) c f = runLen (idleR f x) (c + j) (f - j) + j)) (fun j => ([(0, tI f), (3, .p 64 0 0), (5, tI (maxS (fun c => runLen (idleR f x) c f) c : Nat)), (6, tI (c : Nat)), (7, tI (j : Nat))], [(64, .var 34 x.tv)])) ⟨rfl⟩ ?_ ?_
    · repeat' (conv => whnf
               first
        | refine Frz.own ?_
        | refine Get.mk _ rfl ?_
        | refine Get.mk _ (map_geti (by omega)) ?_
        | refine Get.mk _ (map_getp (by omega) (by omega)) ?_
        | refine Get.mk _ (map_get (by omega)) ?_
        | refine Bv2.mk _ _ rfl rfl ?_
        | refine Bv1.mk _ rfl ?_
        | refine Wr.mk _ (wrap_i64 (by omega) (by omega)) ?_
        | refine Wr.mk _ rfl ?_
        | refine And.intro len_map ?_
        | refine And.intro (leX_refl _) ?_
        | refine And.intro rfl ?_
        | refine And.intro (leO_some _) ?_
        | (refine And.intro (fun h => absurd h (by decide)) (fun h => ?_); clear h)
        | (refine And.intro (fun h => ?_) (fun h => absurd h (by decide)); clear h)
        | with_reducible refine sp1 (fun h => ?_) (fun h => ?_)
        | with_reducible refine sp2 (fun h => ?_) (fun h => ?_)
        | with_reducible refine sp3 (fun h => ?_) (fun h => ?_)
        | with_reducible refine sp4 (fun h => ?_) (fun h => ?_)
        | with_reducible refine sp5 (fun h => ?_) (fun h => ?_)
        | with_reducible refine sp6 (fun h => ?_) (fun h => ?_)
        | with_reducible refine And.intro (fun h => ?_) (fun h => ?_)
        | refine And.intro (Int.natCast_nonneg _) ?_
        | refine And.intro (by omega) ?_
        | refine And.intro (by decide) ?_
        | refine Lst.mk _ rfl ?_
        | refine And.intro trivial ?_
        | exact trivial
        | exact leX_refl _
        | refine weak_fr ?_ ?_ rfl
        | refine And.intro ?_ ?_
        | fail)
    rintro j hj ⟨hJ⟩
    have h70 := s70 f x (c + j) hf hx
    have hcont : x.cnt ((c + j) % f) = 0 → j < f → runLen (idleR f x) (c + j) (f - j) = runLen (idleR f x) (c + (j + 1)) (f - (j + 1)) + 1 := fun h0 hjf => by
      rw [show f - j = f - (j + 1) + 1 by omega, runLen_step (by unfold idleR; exact decide_eq_true h0)]; rfl
    have hstop : ¬ x.cnt ((c + j) % f) = 0 → runLen (idleR f x) (c + j) (f - j) = 0 := fun h0 => runLen_stop (by unfold idleR; exact decide_eq_false h0)
    have hend : f ≤ j → runLen (idleR f x) (c + j) (f - j) = 0 := fun h0 => by rw [show f - j = 0 by omega]; rfl
    refine V_x ?_
    repeat' (conv => whnf
             first
      | refine Frz.own ?_
      | refine Get.mk _ rfl ?_
      | refine Get.mk _ (map_geti (by omega)) ?_
      | refine Get.mk _ (map_getp (by omega) (by omega)) ?_
      | refine Get.mk _ (map_get (by omega)) ?_
      | refine Bv2.mk _ _ rfl rfl ?_
      | refine Bv1.mk _ rfl ?_
      | refine Wr.mk _ (wrap_i64 (by omega) (by omega)) ?_
      | refine Wr.mk _ rfl ?_
      | refine And.intro len_map ?_
      | refine And.intro (leX_refl _) ?_
      | refine And.intro rfl ?_
      | refine And.intro (leO_some _) ?_
      | (refine And.intro (fun h => absurd h (by decide)) (fun h => ?_); clear h)
      | (refine And.intro (fun h => ?_) (fun h => absurd h (by decide)); clear h)
      | with_reducible refine sp1 (fun h => ?_) (fun h => ?_)
      | with_reducible refine sp2 (fun h => ?_) (fun h => ?_)
      | with_reducible refine sp3 (fun h => ?_) (fun h => ?_)
      | with_reducible refine sp4 (fun h => ?_) (fun h => ?_)
      | with_reducible refine sp5 (fun h => ?_) (fun h => ?_)
      | with_reducible refine sp6 (fun h => ?_) (fun h => ?_)
      | with_reducible refine And.intro (fun h => ?_) (fun h => ?_)
      | refine And.intro (Int.natCast_nonneg _) ?_
      | refine And.intro (by omega) ?_
      | refine And.intro (by decide) ?_
      | refine Lst.mk _ rfl ?_
      | refine Or.inr (Or.inl ⟨_, _, h70, leL_refl _, rfl, rfl, ?_⟩)
      | refine And.intro trivial ?_
      | exact trivial
      | exact leX_refl _
      | refine weak_fr ?_ ?_ rfl
      | refine And.intro ?_ ?_
      | fail)
    all_goals first
      | (refine Fct.mk ?_
         have := hcont (by assumption) (by omega)
         omega)
      | (refine leI ?_
         have h8 := hstop (by assumption)
         rw [hst]; omega)
      | (refine leI ?_
         have h8 := hend (by omega)
         rw [hst]; omega)
      | trace_state
  · refine leI ?_
    have : c = f := by omega
    subst this; rfl
theorem s23_whole (p : Plan) (u : Int) (x : Place) (hp : p.light) (hr : p.right) (hf : p.find u = some x) (hw : x.win = 0#64) : Spec prog 23 [p.tv, tI u] [] (.t [tI (2 * (p.frame - x.share)), tI 0]) [] := by
  obtain ⟨b1, b2, _⟩ := share_bd hr hf
  have f1 := hr.lo
  have f2 := hr.hi
  have h67 := s67_ok p u 0 x hp hr hf (by omega) (by omega)
  rw [hw] at h67
  refine spec_s is23 mixed rfl (V_x ?_)
  repeat' (conv => whnf
           first
    | refine Frz.own ?_
    | refine Get.mk _ rfl ?_
    | refine Get.mk _ (map_geti (by omega)) ?_
    | refine Get.mk _ (map_getp (by omega) (by omega)) ?_
    | refine Get.mk _ (map_get (by omega)) ?_
    | refine Bv2.mk _ _ rfl rfl ?_
    | refine Bv1.mk _ rfl ?_
    | refine Wr.mk _ (wrap_i64 (by omega) (by omega)) ?_
    | refine Wr.mk _ rfl ?_
    | refine And.intro len_map ?_
    | refine And.intro (leX_refl _) ?_
    | refine And.intro rfl ?_
    | refine And.intro (leO_some _) ?_
    | (refine And.intro (fun h => absurd h (by decide)) (fun h => ?_); clear h)
    | (refine And.intro (fun h => ?_) (fun h => absurd h (by decide)); clear h)
    | with_reducible refine sp1 (fun h => ?_) (fun h => ?_)
    | with_reducible refine sp2 (fun h => ?_) (fun h => ?_)
    | with_reducible refine sp3 (fun h => ?_) (fun h => ?_)
    | with_reducible refine sp4 (fun h => ?_) (fun h => ?_)
    | with_reducible refine sp5 (fun h => ?_) (fun h => ?_)
    | with_reducible refine sp6 (fun h => ?_) (fun h => ?_)
    | with_reducible refine And.intro (fun h => ?_) (fun h => ?_)
    | refine And.intro (Int.natCast_nonneg _) ?_
    | refine And.intro (by omega) ?_
    | refine And.intro (by decide) ?_
    | refine Lst.mk _ rfl ?_
    | refine Or.inr (Or.inl ⟨_, _, h67, leL_refl _, rfl, rfl, ?_⟩)
    | refine And.intro trivial ?_
    | exact trivial
    | exact leX_refl _
    | refine weak_fr ?_ ?_ rfl
    | refine And.intro ?_ ?_
    | fail)
  all_goals first
    | exact leI rfl
    | trace_state
theorem s23_split (p : Plan) (u : Int) (x : Place) (f : Nat) (hf0 : p.frame = f) (hp : p.light) (hr : p.right) (hf : p.find u = some x) (hw : x.win ≠ 0#64) : Spec prog 23 [p.tv, tI u] [] (.t [tI (longN (idleP f x.win) (2 * f) : Nat), tI 0]) [] := by
  obtain ⟨b1, b2, _⟩ := share_bd hr hf
  have f1 := hr.lo
  have f2 := hr.hi
  have h67 := s67_ok p u 0 x hp hr hf (by omega) (by omega)
  rw [hf0] at h67 f1 f2
  refine spec_s is23 mixed rfl (V_x ?_)
  repeat' (conv => whnf
           first
    | refine Frz.own ?_
    | refine Get.mk _ rfl ?_
    | refine Get.mk _ (map_geti (by omega)) ?_
    | refine Get.mk _ (map_getp (by omega) (by omega)) ?_
    | refine Get.mk _ (map_get (by omega)) ?_
    | refine Bv2.mk _ _ rfl rfl ?_
    | refine Bv1.mk _ rfl ?_
    | refine Wr.mk _ (wrap_i64 (by omega) (by omega)) ?_
    | refine Wr.mk _ rfl ?_
    | refine And.intro len_map ?_
    | refine And.intro (leX_refl _) ?_
    | refine And.intro rfl ?_
    | refine And.intro (leO_some _) ?_
    | (refine And.intro (fun h => absurd h (by decide)) (fun h => ?_); clear h)
    | (refine And.intro (fun h => ?_) (fun h => absurd h (by decide)); clear h)
    | with_reducible refine sp1 (fun h => ?_) (fun h => ?_)
    | with_reducible refine sp2 (fun h => ?_) (fun h => ?_)
    | with_reducible refine sp3 (fun h => ?_) (fun h => ?_)
    | with_reducible refine sp4 (fun h => ?_) (fun h => ?_)
    | with_reducible refine sp5 (fun h => ?_) (fun h => ?_)
    | with_reducible refine sp6 (fun h => ?_) (fun h => ?_)
    | with_reducible refine And.intro (fun h => ?_) (fun h => ?_)
    | refine And.intro (Int.natCast_nonneg _) ?_
    | refine And.intro (by omega) ?_
    | refine And.intro (by decide) ?_
    | refine Lst.mk _ rfl ?_
    | refine Or.inr (Or.inl ⟨_, _, h67, leL_refl _, rfl, rfl, ?_⟩)
    | refine And.intro trivial ?_
    | exact trivial
    | exact leX_refl _
    | refine weak_fr ?_ ?_ rfl
    | refine And.intro ?_ ?_
    | fail)
  · exact absurd h hw
  refine V_up (2 * f) (fun _ => True) (fun i => ([(6, .p 112 0 0), (8, tI (longN (idleP f x.win) i : Nat)), (9, tI (nowN (idleP f x.win) i : Nat)), (31, tI (2 * f : Nat)), (32, tI (i : Nat))], [(112, .var 98 (.a [tI f, tI x.share, tU x.win]))])) trivial ?_ ?_
  · repeat' (conv => whnf
             first
      | refine Frz.own ?_
      | refine Get.mk _ rfl ?_
      | refine Get.mk _ (map_geti (by omega)) ?_
      | refine Get.mk _ (map_getp (by omega) (by omega)) ?_
      | refine Get.mk _ (map_get (by omega)) ?_
      | refine Bv2.mk _ _ rfl rfl ?_
      | refine Bv1.mk _ rfl ?_
      | refine Wr.mk _ (wrap_i64 (by omega) (by omega)) ?_
      | refine Wr.mk _ rfl ?_
      | refine And.intro len_map ?_
      | refine And.intro (leX_refl _) ?_
      | refine And.intro rfl ?_
      | refine And.intro (leO_some _) ?_
      | (refine And.intro (fun h => absurd h (by decide)) (fun h => ?_); clear h)
      | (refine And.intro (fun h => ?_) (fun h => absurd h (by decide)); clear h)
      | with_reducible refine sp1 (fun h => ?_) (fun h => ?_)
      | with_reducible refine sp2 (fun h => ?_) (fun h => ?_)
      | with_reducible refine sp3 (fun h => ?_) (fun h => ?_)
      | with_reducible refine sp4 (fun h => ?_) (fun h => ?_)
      | with_reducible refine sp5 (fun h => ?_) (fun h => ?_)
      | with_reducible refine sp6 (fun h => ?_) (fun h => ?_)
      | with_reducible refine And.intro (fun h => ?_) (fun h => ?_)
      | refine And.intro (Int.natCast_nonneg _) ?_
      | refine And.intro (by omega) ?_
      | refine And.intro (by decide) ?_
      | refine Lst.mk _ rfl ?_
      | refine And.intro trivial ?_
      | exact trivial
      | exact leX_refl _
      | refine weak_fr ?_ ?_ rfl
      | refine And.intro ?_ ?_
      | fail)
  rintro i hi -
  have h1 := nowN_le (idleP f x.win) i
  have h2 := longN_le (idleP f x.win) i
  have h69 := s69 x.win ((i : Int).tmod f)
  rw [tmod_nat] at h69
  have hn1 : hasT x.win (i % f : Nat) = true → nowN (idleP f x.win) (i + 1) = 0 := fun h => by simp only [nowN, idleP, h, Bool.not_true, Bool.false_eq_true, if_false]
  have hn2 : hasT x.win (i % f : Nat) = false → nowN (idleP f x.win) (i + 1) = nowN (idleP f x.win) i + 1 := fun h => by simp only [nowN, idleP, h, Bool.not_false, if_true]
  have hl2 : longN (idleP f x.win) (i + 1) = max (longN (idleP f x.win) i) (nowN (idleP f x.win) (i + 1)) := rfl
  refine V_x ?_
  repeat' (conv => whnf
           first
    | refine Frz.own ?_
    | refine Get.mk _ rfl ?_
    | refine Get.mk _ (map_geti (by omega)) ?_
    | refine Get.mk _ (map_getp (by omega) (by omega)) ?_
    | refine Get.mk _ (map_get (by omega)) ?_
    | refine Bv2.mk _ _ rfl rfl ?_
    | refine Bv1.mk _ rfl ?_
    | refine Wr.mk _ (wrap_i64 (by omega) (by omega)) ?_
    | refine Wr.mk _ rfl ?_
    | refine And.intro len_map ?_
    | refine And.intro (leX_refl _) ?_
    | refine And.intro rfl ?_
    | refine And.intro (leO_some _) ?_
    | (refine And.intro (fun h => absurd h (by decide)) (fun h => ?_); clear h)
    | (refine And.intro (fun h => ?_) (fun h => absurd h (by decide)); clear h)
    | with_reducible refine sp1 (fun h => ?_) (fun h => ?_)
    | with_reducible refine sp2 (fun h => ?_) (fun h => ?_)
    | with_reducible refine sp3 (fun h => ?_) (fun h => ?_)
    | with_reducible refine sp4 (fun h => ?_) (fun h => ?_)
    | with_reducible refine sp5 (fun h => ?_) (fun h => ?_)
    | with_reducible refine sp6 (fun h => ?_) (fun h => ?_)
    | with_reducible refine And.intro (fun h => ?_) (fun h => ?_)
    | refine And.intro (Int.natCast_nonneg _) ?_
    | refine And.intro (by omega) ?_
    | refine And.intro (by decide) ?_
    | refine Lst.mk _ rfl ?_
    | refine Or.inr (Or.inl ⟨_, _, h69, leL_refl _, rfl, rfl, ?_⟩)
    | refine And.intro trivial ?_
    | exact trivial
    | exact leX_refl _
    | refine weak_fr ?_ ?_ rfl
    | refine And.intro ?_ ?_
    | fail)
  all_goals first
    | (refine leI ?_
       have h8 := hn1 (by assumption)
       omega)
    | (refine leI ?_
       have h8 := hn2 (by assumption)
       omega)
    | (refine leI ?_
       have : i = 2 * f := by omega
       subst this; rfl)
    | trace_state
theorem s23_no (p : Plan) (u : Int) (hp : p.light) (h : whyS p u 0 ≠ 0) : Spec prog 23 [p.tv, tI u] [] (.t [tI 0, tI (whyS p u 0)]) [] := by
  refine spec_s is23 mixed rfl (V_x ?_)
  repeat' (conv => whnf
           first
    | refine Frz.own ?_
    | refine Get.mk _ rfl ?_
    | refine Get.mk _ (map_geti (by omega)) ?_
    | refine Get.mk _ (map_getp (by omega) (by omega)) ?_
    | refine Get.mk _ (map_get (by omega)) ?_
    | refine Bv2.mk _ _ rfl rfl ?_
    | refine Bv1.mk _ rfl ?_
    | refine Wr.mk _ (wrap_i64 (by omega) (by omega)) ?_
    | refine Wr.mk _ rfl ?_
    | refine And.intro len_map ?_
    | refine And.intro (leX_refl _) ?_
    | refine And.intro rfl ?_
    | refine And.intro (leO_some _) ?_
    | (refine And.intro (fun h => absurd h (by decide)) (fun h => ?_); clear h)
    | (refine And.intro (fun h => ?_) (fun h => absurd h (by decide)); clear h)
    | with_reducible refine sp1 (fun h => ?_) (fun h => ?_)
    | with_reducible refine sp2 (fun h => ?_) (fun h => ?_)
    | with_reducible refine sp3 (fun h => ?_) (fun h => ?_)
    | with_reducible refine sp4 (fun h => ?_) (fun h => ?_)
    | with_reducible refine sp5 (fun h => ?_) (fun h => ?_)
    | with_reducible refine sp6 (fun h => ?_) (fun h => ?_)
    | with_reducible refine And.intro (fun h => ?_) (fun h => ?_)
    | refine And.intro (Int.natCast_nonneg _) ?_
    | refine And.intro (by omega) ?_
    | refine And.intro (by decide) ?_
    | refine Lst.mk _ rfl ?_
    | refine Or.inr (Or.inl ⟨_, _, s67_no p u 0 hp h, leL_refl _, rfl, rfl, ?_⟩)
    | refine And.intro trivial ?_
    | exact trivial
    | exact leX_refl _
    | refine weak_fr ?_ ?_ rfl
    | refine And.intro ?_ ?_
    | fail)
  all_goals first
    | exact leI rfl
    | (exfalso; omega)
    | trace_state
end Go.Proofs.Ytjmjolefhcjedaa.Vc

namespace Go.Proofs.Ytjmjolefhcjedaa.Vc
open Go Go.RowKit Go.Proofs.Try
set_option maxRecDepth 20000

theorem leastP_bd {f s n : Int} {m : BitVec 64} (hf : 1 ≤ f) (hf' : f ≤ 64) (hs : 0 ≤ s) (hs' : s ≤ 64) (hn : 0 ≤ n) : 0 ≤ leastP f s m n ∧ leastP f s m n ≤ 64 * (n + 1) + 64 := by
  have d1 := div_bd (n := n + 1) (f := f) (by omega) (by omega)
  have d2 := div_bd (n := n) (f := f) hn (by omega)
  have d3 := mul_bd (s := s) (m := max 0 ((n + 1) / f - 1)) (b := n + 1) hs hs' (by omega) (by omega)
  have d4 := mul_bd (s := s) (m := n / f) (b := n) hs hs' (by omega) (by omega)
  rw [Int.mul_comm s (n / f)] at d4
  have r1 := Int.emod_nonneg n (show f ≠ 0 by omega)
  have r2 := Int.emod_lt_of_pos n (show 0 < f by omega)
  unfold leastP
  split
  · omega
  · have := minS_le (n % f).toNat (fun c => popN (m &&& roundB f c ((n % f).toNat : Nat)) 64) f.toNat
    omega
def startP (f s k : Int) : Int := max 0 ((k / s - 2) * f)
theorem s26_ok (p : Plan) (u k : Int) (x : Place) (N : Nat) (hp : p.light) (hr : p.right) (hf : p.find u = some x) (h0 : 0 ≤ k) (h1 : k ≤ 1048576)
    (hN : startP p.frame x.share k ≤ N) (hN' : N ≤ 1099511627000) (hlo : ∀ n : Nat, startP p.frame x.share k ≤ n → n < N → leastP p.frame x.share x.win n < k) (hhi : k ≤ leastP p.frame x.share x.win N) :
    Spec prog 26 [p.tv, tI u, tI k] [] (.t [tI N, tI 0]) [] := by
  obtain ⟨b1, b2, _⟩ := share_bd hr hf
  have f1 := hr.lo
  have f2 := hr.hi
  have d1 := div_bd (n := k) (f := x.share) h0 (by omega)
  have e1 : IntKind.wrap .i64 (k.tdiv x.share) = k / x.share := by rw [Int.tdiv_eq_ediv_of_nonneg (by omega)]; exact wrap_i64 (by omega) (by omega)
  have hb : -9223372036854775808 ≤ (k / x.share - 2) * p.frame ∧ (k / x.share - 2) * p.frame ≤ 9223372036854775807 := by
    have h2 := mul_bd (s := p.frame) (m := k / x.share) (b := 1048576) (by omega) f2 (by omega) (by omega)
    rw [Int.sub_mul, Int.mul_comm (k / x.share)]
    omega
  have e2 : IntKind.wrap .i64 ((k / x.share - 2) * p.frame) = (k / x.share - 2) * p.frame := wrap_i64 hb.1 hb.2
  obtain ⟨st, hst⟩ : ∃ st : Nat, startP p.frame x.share k = st := ⟨(startP p.frame x.share k).toNat, by unfold startP; omega⟩
  have hst2 : max 0 ((k / x.share - 2) * p.frame) = (st : Int) := hst
  rw [hst] at hN hlo
  refine spec_s is26 mixed rfl (V_x ?_)
  repeat' (conv => whnf
           first
    | refine Frz.own ?_
    | refine Wr.mk _ (e1) ?_
    | refine Wr.mk _ (e2) ?_
    | refine Wr.mk _ (hst2) ?_
    | refine Get.mk _ rfl ?_
    | refine Get.mk _ (map_geti (by omega)) ?_
    | refine Get.mk _ (map_getp (by omega) (by omega)) ?_
    | refine Get.mk _ (map_get (by omega)) ?_
    | refine Bv2.mk _ _ rfl rfl ?_
    | refine Bv1.mk _ rfl ?_
    | refine Wr.mk _ (wrap_i64 (by omega) (by omega)) ?_
    | refine Wr.mk _ rfl ?_
    | refine And.intro len_map ?_
    | refine And.intro (leX_refl _) ?_
    | refine And.intro rfl ?_
    | refine And.intro (leO_some _) ?_
    | (refine And.intro (fun h => absurd h (by decide)) (fun h => ?_); clear h)
    | (refine And.intro (fun h => ?_) (fun h => absurd h (by decide)); clear h)
    | with_reducible refine sp1 (fun h => ?_) (fun h => ?_)
    | with_reducible refine sp2 (fun h => ?_) (fun h => ?_)
    | with_reducible refine sp3 (fun h => ?_) (fun h => ?_)
    | with_reducible refine sp4 (fun h => ?_) (fun h => ?_)
    | with_reducible refine sp5 (fun h => ?_) (fun h => ?_)
    | with_reducible refine sp6 (fun h => ?_) (fun h => ?_)
    | with_reducible refine And.intro (fun h => ?_) (fun h => ?_)
    | refine And.intro (Int.natCast_nonneg _) ?_
    | refine And.intro (by omega) ?_
    | refine And.intro (by decide) ?_
    | refine Lst.mk _ rfl ?_
    | refine Or.inr (Or.inl ⟨_, _, s67_ok p u k x hp hr hf h0 h1, leL_refl _, rfl, rfl, ?_⟩)
    | refine And.intro trivial ?_
    | exact trivial
    | exact leX_refl _
    | refine weak_fr ?_ ?_ rfl
    | refine And.intro ?_ ?_
    | fail)
  refine V_up (N - st) (fun _ => True) (fun i => ([(2, tI k), (8, .p 144 0 0), (10, tI (st + i : Nat))], [(144, .var 98 (.a [tI p.frame, tI x.share, tU x.win]))])) trivial ?_ ?_
  · repeat' (conv => whnf
             first
      | refine Frz.own ?_
      | refine Get.mk _ rfl ?_
      | refine Get.mk _ (map_geti (by omega)) ?_
      | refine Get.mk _ (map_getp (by omega) (by omega)) ?_
      | refine Get.mk _ (map_get (by omega)) ?_
      | refine Bv2.mk _ _ rfl rfl ?_
      | refine Bv1.mk _ rfl ?_
      | refine Wr.mk _ (wrap_i64 (by omega) (by omega)) ?_
      | refine Wr.mk _ rfl ?_
      | refine And.intro len_map ?_
      | refine And.intro (leX_refl _) ?_
      | refine And.intro rfl ?_
      | refine And.intro (leO_some _) ?_
      | (refine And.intro (fun h => absurd h (by decide)) (fun h => ?_); clear h)
      | (refine And.intro (fun h => ?_) (fun h => absurd h (by decide)); clear h)
      | with_reducible refine sp1 (fun h => ?_) (fun h => ?_)
      | with_reducible refine sp2 (fun h => ?_) (fun h => ?_)
      | with_reducible refine sp3 (fun h => ?_) (fun h => ?_)
      | with_reducible refine sp4 (fun h => ?_) (fun h => ?_)
      | with_reducible refine sp5 (fun h => ?_) (fun h => ?_)
      | with_reducible refine sp6 (fun h => ?_) (fun h => ?_)
      | with_reducible refine And.intro (fun h => ?_) (fun h => ?_)
      | refine And.intro (Int.natCast_nonneg _) ?_
      | refine And.intro (by omega) ?_
      | refine And.intro (by decide) ?_
      | refine Lst.mk _ rfl ?_
      | refine And.intro trivial ?_
      | exact trivial
      | exact leX_refl _
      | refine weak_fr ?_ ?_ rfl
      | refine And.intro ?_ ?_
      | fail)
  rintro i hi -
  have h68 := s68 p.frame x.share x.win (st + i : Nat) (by omega) f2 (by omega) b2 (by omega) (by omega)
  have hlo2 := hlo (st + i) (by omega)
  refine V_x ?_
  repeat' (conv => whnf
           first
    | refine Frz.own ?_
    | refine Get.mk _ rfl ?_
    | refine Get.mk _ (map_geti (by omega)) ?_
    | refine Get.mk _ (map_getp (by omega) (by omega)) ?_
    | refine Get.mk _ (map_get (by omega)) ?_
    | refine Bv2.mk _ _ rfl rfl ?_
    | refine Bv1.mk _ rfl ?_
    | refine Wr.mk _ (wrap_i64 (by omega) (by omega)) ?_
    | refine Wr.mk _ rfl ?_
    | refine And.intro len_map ?_
    | refine And.intro (leX_refl _) ?_
    | refine And.intro rfl ?_
    | refine And.intro (leO_some _) ?_
    | (refine And.intro (fun h => absurd h (by decide)) (fun h => ?_); clear h)
    | (refine And.intro (fun h => ?_) (fun h => absurd h (by decide)); clear h)
    | with_reducible refine sp1 (fun h => ?_) (fun h => ?_)
    | with_reducible refine sp2 (fun h => ?_) (fun h => ?_)
    | with_reducible refine sp3 (fun h => ?_) (fun h => ?_)
    | with_reducible refine sp4 (fun h => ?_) (fun h => ?_)
    | with_reducible refine sp5 (fun h => ?_) (fun h => ?_)
    | with_reducible refine sp6 (fun h => ?_) (fun h => ?_)
    | with_reducible refine And.intro (fun h => ?_) (fun h => ?_)
    | refine And.intro (Int.natCast_nonneg _) ?_
    | refine And.intro (by omega) ?_
    | refine And.intro (by decide) ?_
    | refine Lst.mk _ rfl ?_
    | refine Or.inr (Or.inl ⟨_, _, h68, leL_refl _, rfl, rfl, ?_⟩)
    | refine And.intro trivial ?_
    | exact trivial
    | exact leX_refl _
    | refine weak_fr ?_ ?_ rfl
    | refine And.intro ?_ ?_
    | fail)
  · refine Classical.byContradiction fun hn => ?_
    have e : st + i = N := by omega
    rw [e] at h
    omega
  · refine leI ?_
    omega
theorem s26_no (p : Plan) (u k : Int) (hp : p.light) (h : whyS p u k ≠ 0) : Spec prog 26 [p.tv, tI u, tI k] [] (.t [tI 0, tI (whyS p u k)]) [] := by
  refine spec_s is26 mixed rfl (V_x ?_)
  repeat' (conv => whnf
           first
    | refine Frz.own ?_
    | refine Get.mk _ rfl ?_
    | refine Get.mk _ (map_geti (by omega)) ?_
    | refine Get.mk _ (map_getp (by omega) (by omega)) ?_
    | refine Get.mk _ (map_get (by omega)) ?_
    | refine Bv2.mk _ _ rfl rfl ?_
    | refine Bv1.mk _ rfl ?_
    | refine Wr.mk _ (wrap_i64 (by omega) (by omega)) ?_
    | refine Wr.mk _ rfl ?_
    | refine And.intro len_map ?_
    | refine And.intro (leX_refl _) ?_
    | refine And.intro rfl ?_
    | refine And.intro (leO_some _) ?_
    | (refine And.intro (fun h => absurd h (by decide)) (fun h => ?_); clear h)
    | (refine And.intro (fun h => ?_) (fun h => absurd h (by decide)); clear h)
    | with_reducible refine sp1 (fun h => ?_) (fun h => ?_)
    | with_reducible refine sp2 (fun h => ?_) (fun h => ?_)
    | with_reducible refine sp3 (fun h => ?_) (fun h => ?_)
    | with_reducible refine sp4 (fun h => ?_) (fun h => ?_)
    | with_reducible refine sp5 (fun h => ?_) (fun h => ?_)
    | with_reducible refine sp6 (fun h => ?_) (fun h => ?_)
    | with_reducible refine And.intro (fun h => ?_) (fun h => ?_)
    | refine And.intro (Int.natCast_nonneg _) ?_
    | refine And.intro (by omega) ?_
    | refine And.intro (by decide) ?_
    | refine Lst.mk _ rfl ?_
    | refine Or.inr (Or.inl ⟨_, _, s67_no p u k hp h, leL_refl _, rfl, rfl, ?_⟩)
    | refine And.intro trivial ?_
    | exact trivial
    | exact leX_refl _
    | refine weak_fr ?_ ?_ rfl
    | refine And.intro ?_ ?_
    | fail)
  all_goals first
    | exact leI rfl
    | (exfalso; omega)
    | trace_state
def delayP (L : Nat → Int) (f s : Int) : Nat → Int
  | 0 => 0
  | i + 1 => max (delayP L f s i) ((i : Int) * s / f - L i)
theorem s27 (p : Plan) (u : Int) (x : Place) (f : Nat) (hf0 : p.frame = f) (hp : p.light) (hr : p.right) (hf : p.find u = some x) : Spec prog 27 [p.tv, tI u] [] (.t [tI (delayP (fun n => leastP f x.share x.win n) f x.share (2 * f + 1)), tI 0]) [] := by
  obtain ⟨b1, b2, _⟩ := share_bd hr hf
  have f1 := hr.lo
  have f2 := hr.hi
  have h67 := s67_ok p u 0 x hp hr hf (by omega) (by omega)
  rw [hf0] at h67 f1 f2
  refine spec_s is27 mixed rfl (V_x ?_)
  repeat' (conv => whnf
           first
    | refine Frz.own ?_
    | refine Get.mk _ rfl ?_
    | refine Get.mk _ (map_geti (by omega)) ?_
    | refine Get.mk _ (map_getp (by omega) (by omega)) ?_
    | refine Get.mk _ (map_get (by omega)) ?_
    | refine Bv2.mk _ _ rfl rfl ?_
    | refine Bv1.mk _ rfl ?_
    | refine Wr.mk _ (wrap_i64 (by omega) (by omega)) ?_
    | refine Wr.mk _ rfl ?_
    | refine And.intro len_map ?_
    | refine And.intro (leX_refl _) ?_
    | refine And.intro rfl ?_
    | refine And.intro (leO_some _) ?_
    | (refine And.intro (fun h => absurd h (by decide)) (fun h => ?_); clear h)
    | (refine And.intro (fun h => ?_) (fun h => absurd h (by decide)); clear h)
    | with_reducible refine sp1 (fun h => ?_) (fun h => ?_)
    | with_reducible refine sp2 (fun h => ?_) (fun h => ?_)
    | with_reducible refine sp3 (fun h => ?_) (fun h => ?_)
    | with_reducible refine sp4 (fun h => ?_) (fun h => ?_)
    | with_reducible refine sp5 (fun h => ?_) (fun h => ?_)
    | with_reducible refine sp6 (fun h => ?_) (fun h => ?_)
    | with_reducible refine And.intro (fun h => ?_) (fun h => ?_)
    | refine And.intro (Int.natCast_nonneg _) ?_
    | refine And.intro (by omega) ?_
    | refine And.intro (by decide) ?_
    | refine Lst.mk _ rfl ?_
    | refine Or.inr (Or.inl ⟨_, _, h67, leL_refl _, rfl, rfl, ?_⟩)
    | refine And.intro trivial ?_
    | exact trivial
    | exact leX_refl _
    | refine weak_fr ?_ ?_ rfl
    | refine And.intro ?_ ?_
    | fail)
  refine V_up (2 * f + 1) (fun _ => True) (fun i => ([(6, .p 112 0 0), (8, tI (delayP (fun n => leastP f x.share x.win n) f x.share i)), (22, tI (2 * f + 1 : Nat)), (23, tI (i : Nat))], [(112, .var 98 (.a [tI f, tI x.share, tU x.win]))])) trivial ?_ ?_
  · repeat' (conv => whnf
             first
      | refine Frz.own ?_
      | refine Get.mk _ rfl ?_
      | refine Get.mk _ (map_geti (by omega)) ?_
      | refine Get.mk _ (map_getp (by omega) (by omega)) ?_
      | refine Get.mk _ (map_get (by omega)) ?_
      | refine Bv2.mk _ _ rfl rfl ?_
      | refine Bv1.mk _ rfl ?_
      | refine Wr.mk _ (wrap_i64 (by omega) (by omega)) ?_
      | refine Wr.mk _ rfl ?_
      | refine And.intro len_map ?_
      | refine And.intro (leX_refl _) ?_
      | refine And.intro rfl ?_
      | refine And.intro (leO_some _) ?_
      | (refine And.intro (fun h => absurd h (by decide)) (fun h => ?_); clear h)
      | (refine And.intro (fun h => ?_) (fun h => absurd h (by decide)); clear h)
      | with_reducible refine sp1 (fun h => ?_) (fun h => ?_)
      | with_reducible refine sp2 (fun h => ?_) (fun h => ?_)
      | with_reducible refine sp3 (fun h => ?_) (fun h => ?_)
      | with_reducible refine sp4 (fun h => ?_) (fun h => ?_)
      | with_reducible refine sp5 (fun h => ?_) (fun h => ?_)
      | with_reducible refine sp6 (fun h => ?_) (fun h => ?_)
      | with_reducible refine And.intro (fun h => ?_) (fun h => ?_)
      | refine And.intro (Int.natCast_nonneg _) ?_
      | refine And.intro (by omega) ?_
      | refine And.intro (by decide) ?_
      | refine Lst.mk _ rfl ?_
      | refine And.intro trivial ?_
      | exact trivial
      | exact leX_refl _
      | refine weak_fr ?_ ?_ rfl
      | refine And.intro ?_ ?_
      | fail)
  rintro i hi -
  have h68 := s68 f x.share x.win i (by omega) f2 (by omega) b2 (by omega) (by omega)
  have hb := leastP_bd (f := f) (s := x.share) (m := x.win) (n := i) (by omega) f2 (by omega) b2 (by omega)
  have hm := mul_bd (s := x.share) (m := i) (b := 129) (by omega) b2 (by omega) (by omega)
  rw [Int.mul_comm] at hm
  have hd := div_bd (n := i * x.share) (f := f) (by omega) (by omega)
  have e1 : IntKind.wrap .i64 (((i : Int) * x.share).tdiv f) = i * x.share / f := by rw [Int.tdiv_eq_ediv_of_nonneg (by omega)]; exact wrap_i64 (by omega) (by omega)
  have hst : delayP (fun n => leastP f x.share x.win n) f x.share (i + 1) = max (delayP (fun n => leastP f x.share x.win n) f x.share i) ((i : Int) * x.share / f - leastP f x.share x.win i) := rfl
  refine V_x ?_
  repeat' (conv => whnf
           first
    | refine Frz.own ?_
    | refine Wr.mk _ (e1) ?_
    | refine Get.mk _ rfl ?_
    | refine Get.mk _ (map_geti (by omega)) ?_
    | refine Get.mk _ (map_getp (by omega) (by omega)) ?_
    | refine Get.mk _ (map_get (by omega)) ?_
    | refine Bv2.mk _ _ rfl rfl ?_
    | refine Bv1.mk _ rfl ?_
    | refine Wr.mk _ (wrap_i64 (by omega) (by omega)) ?_
    | refine Wr.mk _ rfl ?_
    | refine And.intro len_map ?_
    | refine And.intro (leX_refl _) ?_
    | refine And.intro rfl ?_
    | refine And.intro (leO_some _) ?_
    | (refine And.intro (fun h => absurd h (by decide)) (fun h => ?_); clear h)
    | (refine And.intro (fun h => ?_) (fun h => absurd h (by decide)); clear h)
    | with_reducible refine sp1 (fun h => ?_) (fun h => ?_)
    | with_reducible refine sp2 (fun h => ?_) (fun h => ?_)
    | with_reducible refine sp3 (fun h => ?_) (fun h => ?_)
    | with_reducible refine sp4 (fun h => ?_) (fun h => ?_)
    | with_reducible refine sp5 (fun h => ?_) (fun h => ?_)
    | with_reducible refine sp6 (fun h => ?_) (fun h => ?_)
    | with_reducible refine And.intro (fun h => ?_) (fun h => ?_)
    | refine And.intro (Int.natCast_nonneg _) ?_
    | refine And.intro (by omega) ?_
    | refine And.intro (by decide) ?_
    | refine Lst.mk _ rfl ?_
    | refine Or.inr (Or.inl ⟨_, _, h68, leL_refl _, rfl, rfl, ?_⟩)
    | refine And.intro trivial ?_
    | exact trivial
    | exact leX_refl _
    | refine weak_fr ?_ ?_ rfl
    | refine And.intro ?_ ?_
    | fail)
  refine leI ?_
  rw [show i = 2 * f + 1 by omega]
def exP : Plan := ⟨4, 3#32, [⟨1, 3, 0, []⟩, ⟨2, 3, 0, [⟨0, 1#64⟩, ⟨1, 6#64⟩]⟩]⟩
theorem s66 : Spec prog 66 [] [] exP.tv [] := by
  refine spec_s is66 mixed rfl (V_x ?_)
  repeat' (conv => whnf
           first
    | refine (Frz.frz ?_ : Frz 4 _ _)
    | refine (Frz.frz ?_ : Frz 6 _ _)
    | refine Frz.own ?_
    | refine Get.mk _ rfl ?_
    | refine Get.mk _ (map_geti (by omega)) ?_
    | refine Get.mk _ (map_getp (by omega) (by omega)) ?_
    | refine Get.mk _ (map_get (by omega)) ?_
    | refine Bv2.mk _ _ rfl rfl ?_
    | refine Bv1.mk _ rfl ?_
    | refine Wr.mk _ (wrap_i64 (by omega) (by omega)) ?_
    | refine Wr.mk _ rfl ?_
    | refine And.intro len_map ?_
    | refine And.intro (leX_refl _) ?_
    | refine And.intro rfl ?_
    | refine And.intro (leO_some _) ?_
    | (refine And.intro (fun h => absurd h (by decide)) (fun h => ?_); clear h)
    | (refine And.intro (fun h => ?_) (fun h => absurd h (by decide)); clear h)
    | with_reducible refine sp1 (fun h => ?_) (fun h => ?_)
    | with_reducible refine sp2 (fun h => ?_) (fun h => ?_)
    | with_reducible refine sp3 (fun h => ?_) (fun h => ?_)
    | with_reducible refine sp4 (fun h => ?_) (fun h => ?_)
    | with_reducible refine sp5 (fun h => ?_) (fun h => ?_)
    | with_reducible refine sp6 (fun h => ?_) (fun h => ?_)
    | with_reducible refine And.intro (fun h => ?_) (fun h => ?_)
    | refine And.intro (Int.natCast_nonneg _) ?_
    | refine And.intro (by omega) ?_
    | refine And.intro (by decide) ?_
    | refine Lst.mk _ rfl ?_
    | refine And.intro trivial ?_
    | exact trivial
    | exact leX_refl _
    | refine weak_fr ?_ ?_ rfl
    | refine And.intro ?_ ?_
    | fail)
  refine Two.r ⟨rfl, ?_⟩
  repeat' (conv => whnf
           first
    | refine Frz.own ?_
    | refine Get.mk _ rfl ?_
    | refine Get.mk _ (map_geti (by omega)) ?_
    | refine Get.mk _ (map_getp (by omega) (by omega)) ?_
    | refine Get.mk _ (map_get (by omega)) ?_
    | refine Bv2.mk _ _ rfl rfl ?_
    | refine Bv1.mk _ rfl ?_
    | refine Wr.mk _ (wrap_i64 (by omega) (by omega)) ?_
    | refine Wr.mk _ rfl ?_
    | refine And.intro len_map ?_
    | refine And.intro (leX_refl _) ?_
    | refine And.intro rfl ?_
    | refine And.intro (leO_some _) ?_
    | (refine And.intro (fun h => absurd h (by decide)) (fun h => ?_); clear h)
    | (refine And.intro (fun h => ?_) (fun h => absurd h (by decide)); clear h)
    | with_reducible refine sp1 (fun h => ?_) (fun h => ?_)
    | with_reducible refine sp2 (fun h => ?_) (fun h => ?_)
    | with_reducible refine sp3 (fun h => ?_) (fun h => ?_)
    | with_reducible refine sp4 (fun h => ?_) (fun h => ?_)
    | with_reducible refine sp5 (fun h => ?_) (fun h => ?_)
    | with_reducible refine sp6 (fun h => ?_) (fun h => ?_)
    | with_reducible refine And.intro (fun h => ?_) (fun h => ?_)
    | refine And.intro (Int.natCast_nonneg _) ?_
    | refine And.intro (by omega) ?_
    | refine And.intro (by decide) ?_
    | refine Lst.mk _ rfl ?_
    | refine And.intro trivial ?_
    | exact trivial
    | exact leX_refl _
    | refine weak_fr ?_ ?_ rfl
    | refine And.intro ?_ ?_
    | fail)
  rfl

instance (p : Plan) (x : Place) : Decidable (x.sp p) := by unfold Place.sp; infer_instance
instance (p : Plan) (x : Place) : Decidable (x.ok p) := by unfold Place.ok; infer_instance
theorem exP_light : exP.light := by decide
theorem exP_right : exP.right :=
  ⟨by decide, by decide, by decide, by decide, by decide +kernel, by decide, by decide +kernel, by decide +kernel, by decide +kernel⟩
theorem s19 : Spec prog 19 [] [] (tB true) [] := by
  have h1 := s20_ok exP 2 5 ⟨2, 3, 0, [⟨0, 1#64⟩, ⟨1, 6#64⟩]⟩ exP_light exP_right (by decide) (by decide) (by decide)
  have h2 := s20_ok exP 1 7 ⟨1, 3, 0, []⟩ exP_light exP_right (by decide) (by decide) (by decide)
  have h3 := s23_whole exP 1 ⟨1, 3, 0, []⟩ exP_light exP_right (by decide) (by decide)
  have h4 := s26_ok exP 2 3 ⟨2, 3, 0, [⟨0, 1#64⟩, ⟨1, 6#64⟩]⟩ 4 exP_light exP_right (by decide) (by decide) (by decide) (by decide +kernel) (by decide) (fun n _ hn => by
    rcases (show n = 0 ∨ n = 1 ∨ n = 2 ∨ n = 3 by omega) with rfl | rfl | rfl | rfl <;> decide +kernel) (by decide +kernel)
  rw [show leastP exP.frame (Place.mk 2 3 0 [⟨0, 1#64⟩, ⟨1, 6#64⟩]).share (Place.mk 2 3 0 [⟨0, 1#64⟩, ⟨1, 6#64⟩]).win 5 = 3 by decide +kernel] at h1
  rw [show leastP exP.frame (Place.mk 1 3 0 []).share (Place.mk 1 3 0 []).win 7 = 3 by decide +kernel] at h2
  refine spec_s is19 mixed rfl (V_x ?_)
  repeat' (conv => whnf
           first
    | refine Frz.own ?_
    | refine Get.mk _ rfl ?_
    | refine Get.mk _ (map_geti (by omega)) ?_
    | refine Get.mk _ (map_getp (by omega) (by omega)) ?_
    | refine Get.mk _ (map_get (by omega)) ?_
    | refine Bv2.mk _ _ rfl rfl ?_
    | refine Bv1.mk _ rfl ?_
    | refine Wr.mk _ (wrap_i64 (by omega) (by omega)) ?_
    | refine Wr.mk _ rfl ?_
    | refine And.intro len_map ?_
    | refine And.intro (leX_refl _) ?_
    | refine And.intro rfl ?_
    | refine And.intro (leO_some _) ?_
    | (refine And.intro (fun h => absurd h (by decide)) (fun h => ?_); clear h)
    | (refine And.intro (fun h => ?_) (fun h => absurd h (by decide)); clear h)
    | with_reducible refine sp1 (fun h => ?_) (fun h => ?_)
    | with_reducible refine sp2 (fun h => ?_) (fun h => ?_)
    | with_reducible refine sp3 (fun h => ?_) (fun h => ?_)
    | with_reducible refine sp4 (fun h => ?_) (fun h => ?_)
    | with_reducible refine sp5 (fun h => ?_) (fun h => ?_)
    | with_reducible refine sp6 (fun h => ?_) (fun h => ?_)
    | with_reducible refine And.intro (fun h => ?_) (fun h => ?_)
    | refine And.intro (Int.natCast_nonneg _) ?_
    | refine And.intro (by omega) ?_
    | refine And.intro (by decide) ?_
    | refine Lst.mk _ rfl ?_
    | refine Or.inr (Or.inl ⟨_, _, s66, leL_refl _, rfl, rfl, ?_⟩)
    | refine Or.inr (Or.inl ⟨_, _, h1, leL_refl _, rfl, rfl, ?_⟩)
    | refine Or.inr (Or.inl ⟨_, _, h2, leL_refl _, rfl, rfl, ?_⟩)
    | refine Or.inr (Or.inl ⟨_, _, h3, leL_refl _, rfl, rfl, ?_⟩)
    | refine Or.inr (Or.inl ⟨_, _, h4, leL_refl _, rfl, rfl, ?_⟩)
    | refine And.intro trivial ?_
    | exact trivial
    | exact leX_refl _
    | refine weak_fr ?_ ?_ rfl
    | refine And.intro ?_ ?_
    | fail)
  exact leB (by decide)
end Go.Proofs.Ytjmjolefhcjedaa.Vc

namespace Go.Proofs.Ytjmjolefhcjedaa.Vc
open Go Go.RowKit

theorem minS_add (a k : Nat) (g : Nat → Nat) (n : Nat) : minS (k + a) (fun c => k + g c) n = k + minS a g n := by
  induction n with
  | zero => rfl
  | succ n ih => simp only [minS, ih]; omega
theorem minS_start {a : Nat} {g : Nat → Nat} {n : Nat} (hn : 0 < n) (h : g 0 ≤ a) : minS a g n = minS (g 0) g n := by
  induction n with
  | zero => omega
  | succ n ih =>
    rcases Nat.eq_zero_or_pos n with h0 | h0
    · subst h0; simp only [minS]; omega
    · simp only [minS, ih h0]
theorem win_has (x : Place) (t : Nat) : hasT x.win t = decide (0 < x.cnt t) := by
  unfold Place.win Place.cnt; rw [hasT_orAll, any_cnt]
theorem bits_win {x : Place} {t : Nat} (h : x.cnt t ≤ 1) : bits x.win t = x.cnt t := by
  unfold bits; rw [win_has]
  by_cases h0 : 0 < x.cnt t <;> simp [h0] <;> omega
/-- What a right split place is. -/
theorem split_facts {p : Plan} {x : Place} {f : Nat} (hf : p.frame = f) (hr : p.right) (ho : x.ok p) (hne : x.pieces ≠ []) :
    (∀ t, t < 64 → x.cnt t ≤ 1) ∧ ((cyc x.cnt f 0 f : Nat) : Int) = x.share ∧ x.win ≠ 0#64 ∧ ∃ t0, t0 < f ∧ 0 < x.cnt t0 := by
  have h1 := hr.lo
  have h2 := hr.hi
  obtain ⟨_, hs1, hs2, ho⟩ := ho
  rw [if_neg hne] at ho
  obtain ⟨h3, h4, h5, h6, h7, h8⟩ := ho
  have hz : ∀ t, f ≤ t → t < 64 → x.cnt t = 0 := fun t hft ht => by
    have := (h5 t ht).2; omega
  have hsum : sumTo x.cnt 64 = sumTo x.cnt f := sumTo_zero (by omega) hz
  obtain ⟨y, l, hy⟩ := List.exists_cons_of_ne_nil hne
  obtain ⟨t0, ht0, hh⟩ := ne_zero.1 (h3 y (by rw [hy]; simp)).2
  have hc0 : 0 < x.cnt t0 := by
    unfold Place.cnt cnt Place.masks
    rw [List.countP_map, List.countP_pos_iff]
    exact ⟨y, by rw [hy]; simp, hh⟩
  refine ⟨fun t ht => (h5 t ht).1, ?_, ?_, t0, ?_, hc0⟩
  · rw [cyc_sum _ _ _ (Nat.le_refl f), ← hsum]; exact h8
  · rw [ne_zero]
    exact ⟨t0, ht0, by rw [win_has]; exact decide_eq_true hc0⟩
  · refine Classical.byContradiction fun hn => ?_
    have := hz t0 (by omega) ht0
    omega
theorem win_nil {x : Place} (h : x.pieces = []) : x.win = 0#64 := by
  unfold Place.win Place.masks; rw [h]; rfl
/-- The fewest sure ticks, by the reference. -/
def leastR (f n : Nat) (x : Place) : Int := if x.pieces = [] then x.share * (whN f 1 n : Nat) else (minS (cyc x.cnt f 0 n) (fun c => cyc x.cnt f c n) f : Nat)
theorem least_eq {p : Plan} {x : Place} {f : Nat} (hf : p.frame = f) (hr : p.right) (ho : x.ok p) (n : Nat) : leastP f x.share x.win n = leastR f n x := by
  have h1 := hr.lo
  have h2 := hr.hi
  unfold leastR
  by_cases hne : x.pieces = []
  · rw [if_pos hne, win_nil hne]
    unfold leastP
    rw [if_pos rfl]
    congr 1
    unfold whN
    rw [if_neg (by omega)]
    have : (((n : Int) + 1) / (f : Int)) = (((1 + n) / f : Nat) : Int) := by
      rw [Int.natCast_ediv]; congr 1; omega
    rw [this]
    generalize (1 + n) / f = q
    omega
  · obtain ⟨hc, hT, hw, _⟩ := split_facts hf hr ho hne
    rw [if_neg hne]
    unfold leastP
    rw [if_neg hw]
    have e1 : ((n : Int) % (f : Int)).toNat = n % f := rfl
    have e2 : (n : Int) / (f : Int) = ((n / f : Nat) : Int) := rfl
    rw [e1, e2, Int.toNat_natCast, ← hT]
    have hr' : n % f < f := Nat.mod_lt _ (by omega)
    have e3 : minS (n % f) (fun c => popN (x.win &&& roundB f c ((n % f : Nat) : Int)) 64) f = minS (cyc x.cnt f 0 (n % f)) (fun c => cyc x.cnt f c (n % f)) f := by
      rw [minS_congr (h := fun c => cyc x.cnt f c (n % f)) fun c hcf => by
        rw [pop_round x.win (by omega) (by omega) hcf (by omega)]
        exact cyc_congr (by omega) (fun t ht => bits_win (hc t (by omega))) c _]
      exact minS_start (by omega) (by
        have := cyc_sum x.cnt f (n % f) (by omega)
        have h9 := sumTo_le (g := x.cnt) (h := fun _ => 1) (n := n % f) fun t ht => hc t (by omega)
        rw [sumTo_const] at h9
        show cyc x.cnt f 0 (n % f) ≤ n % f
        omega)
    rw [e3]
    have e4 : minS (cyc x.cnt f 0 n) (fun c => cyc x.cnt f c n) f = n / f * cyc x.cnt f 0 f + minS (cyc x.cnt f 0 (n % f)) (fun c => cyc x.cnt f c (n % f)) f := by
      rw [← minS_add]
      rw [cyc_split x.cnt f 0 n]
      exact minS_congr fun c _ => cyc_split x.cnt f c n
    rw [e4, Int.natCast_add, Int.natCast_mul]
/-- How long it may wait, both ways. -/
theorem wait_eq {p : Plan} {x : Place} {f : Nat} (hf : p.frame = f) (hr : p.right) (ho : x.ok p) (hne : x.pieces ≠ []) : longN (idleP f x.win) (2 * f) = maxS (fun c => runLen (idleR f x) c f) f := by
  have h1 := hr.lo
  have h2 := hr.hi
  obtain ⟨hc, hT, hw, t0, ht0, hh⟩ := split_facts hf hr ho hne
  have e : idleP f x.win = idleR f x := by
    funext t
    unfold idleP idleR
    rw [win_has]
    by_cases h : 0 < x.cnt (t % f)
    · have : x.cnt (t % f) ≠ 0 := by omega
      simp [h, this]
    · have : x.cnt (t % f) = 0 := by omega
      simp [this]
  rw [e]
  refine long_eq _ f t0 (by omega) (fun t => ?_) ht0 ?_
  · unfold idleR; rw [Nat.mod_mod]
  · unfold idleR; rw [Nat.mod_eq_of_lt ht0]
    exact decide_eq_false (by omega)
end Go.Proofs.Ytjmjolefhcjedaa.Vc

namespace Go.Proofs.Ytjmjolefhcjedaa.Vc
open Go Go.RowKit Go.Proofs.Try
set_option maxRecDepth 20000

theorem s18_no {p : Plan} (hp : ¬ p.light) : Spec prog 18 [p.tv] [] (tB false) [] := by
  have := s18 p; rwa [decide_eq_false hp] at this
theorem s18_ok {p : Plan} (hp : p.light) : Spec prog 18 [p.tv] [] (tB true) [] := by
  have := s18 p; rwa [decide_eq_true hp] at this
theorem why_ok {p : Plan} {u n : Int} (h : whyS p u n = 0) : p.right ∧ (∃ x, p.find u = some x) ∧ 0 ≤ n ∧ n ≤ 1048576 := by
  unfold whyS at h
  split at h
  · rename_i hr
    split at h
    · rename_i hf
      split at h
      · omega
      · obtain ⟨x, hx⟩ := Option.isSome_iff_exists.1 hf
        exact ⟨hr, ⟨x, hx⟩, by omega, by omega⟩
    · omega
  · omega
theorem whyS_find {p : Plan} {u n : Int} (hr : p.right) {x : Place} (hf : p.find u = some x) (h0 : 0 ≤ n) (h1 : n ≤ 1048576) : whyS p u n = 0 := by
  unfold whyS; rw [if_pos hr, hf, if_pos (by rfl), if_neg (by omega)]
theorem s22_some {p : Plan} {u : Int} {x : Place} (hp : p.light) (hf : p.find u = some x) : Spec prog 22 [p.tv, tI u] [] (.t [x.tv, tB true]) [] := by
  have := s22 p u hp
  rw [hf] at this
  exact this
theorem s25_any {p : Plan} {u : Int} {x : Place} {f : Nat} (hp : p.light) (hr : p.right) (hf : p.find u = some x) (hf0 : p.frame = f) (n : Nat) (hn : n ≤ 1099511627776) : Spec prog 25 [tI f, x.tv, tI n] [] (tI (leastR f n x)) [] := by
  obtain ⟨b1, b2, ho, hm⟩ := share_bd hr hf
  have h1 := hr.lo
  have h2 := hr.hi
  unfold leastR
  by_cases hne : x.pieces = []
  · rw [if_pos hne]; exact s25_whole f n x (by omega) (by omega) hn hne (by omega) b2
  · rw [if_neg hne]; exact s25_split f n x (by omega) (by omega) hn (hp.2 x hm) hne
theorem s3 (p : Plan) (u n : Int) : Spec prog 3 [p.tv, tI u, tI n] [] (tB true) [] := by
  by_cases hp : ¬ p.light
  · have h18 := s18_no hp
    refine spec_s is3 mixed rfl (V_x ?_)
    repeat' (conv => whnf
             first
      | refine Frz.own ?_
      | refine Get.mk _ rfl ?_
      | refine Get.mk _ (map_geti (by omega)) ?_
      | refine Get.mk _ (map_getp (by omega) (by omega)) ?_
      | refine Get.mk _ (map_get (by omega)) ?_
      | refine Bv2.mk _ _ rfl rfl ?_
      | refine Bv1.mk _ rfl ?_
      | refine Wr.mk _ (wrap_i64 (by omega) (by omega)) ?_
      | refine Wr.mk _ rfl ?_
      | refine And.intro len_map ?_
      | refine And.intro (leX_refl _) ?_
      | refine And.intro rfl ?_
      | refine And.intro (leO_some _) ?_
      | (refine And.intro (fun h => absurd h (by decide)) (fun h => ?_); clear h)
      | (refine And.intro (fun h => ?_) (fun h => absurd h (by decide)); clear h)
      | with_reducible refine sp1 (fun h => ?_) (fun h => ?_)
      | with_reducible refine sp2 (fun h => ?_) (fun h => ?_)
      | with_reducible refine sp3 (fun h => ?_) (fun h => ?_)
      | with_reducible refine sp4 (fun h => ?_) (fun h => ?_)
      | with_reducible refine sp5 (fun h => ?_) (fun h => ?_)
      | with_reducible refine sp6 (fun h => ?_) (fun h => ?_)
      | with_reducible refine And.intro (fun h => ?_) (fun h => ?_)
      | refine And.intro (Int.natCast_nonneg _) ?_
      | refine And.intro (by omega) ?_
      | refine And.intro (by decide) ?_
      | refine Lst.mk _ rfl ?_
      | refine Or.inr (Or.inl ⟨_, _, h18, leL_refl _, rfl, rfl, ?_⟩)
      | refine Or.inr (Or.inl ⟨_, _, s19, leL_refl _, rfl, rfl, ?_⟩)
      | refine And.intro trivial ?_
      | exact trivial
      | exact leX_refl _
      | refine weak_fr ?_ ?_ rfl
      | refine And.intro ?_ ?_
      | fail)
    exact leB rfl
  have hp := Classical.not_not.1 hp
  have h18 := s18_ok hp
  by_cases hw : ¬ whyS p u n = 0
  · refine spec_s is3 mixed rfl (V_x ?_)
    repeat' (conv => whnf
             first
      | refine Frz.own ?_
      | refine Get.mk _ rfl ?_
      | refine Get.mk _ (map_geti (by omega)) ?_
      | refine Get.mk _ (map_getp (by omega) (by omega)) ?_
      | refine Get.mk _ (map_get (by omega)) ?_
      | refine Bv2.mk _ _ rfl rfl ?_
      | refine Bv1.mk _ rfl ?_
      | refine Wr.mk _ (wrap_i64 (by omega) (by omega)) ?_
      | refine Wr.mk _ rfl ?_
      | refine And.intro len_map ?_
      | refine And.intro (leX_refl _) ?_
      | refine And.intro rfl ?_
      | refine And.intro (leO_some _) ?_
      | (refine And.intro (fun h => absurd h (by decide)) (fun h => ?_); clear h)
      | (refine And.intro (fun h => ?_) (fun h => absurd h (by decide)); clear h)
      | with_reducible refine sp1 (fun h => ?_) (fun h => ?_)
      | with_reducible refine sp2 (fun h => ?_) (fun h => ?_)
      | with_reducible refine sp3 (fun h => ?_) (fun h => ?_)
      | with_reducible refine sp4 (fun h => ?_) (fun h => ?_)
      | with_reducible refine sp5 (fun h => ?_) (fun h => ?_)
      | with_reducible refine sp6 (fun h => ?_) (fun h => ?_)
      | with_reducible refine And.intro (fun h => ?_) (fun h => ?_)
      | refine And.intro (Int.natCast_nonneg _) ?_
      | refine And.intro (by omega) ?_
      | refine And.intro (by decide) ?_
      | refine Lst.mk _ rfl ?_
      | refine Or.inr (Or.inl ⟨_, _, h18, leL_refl _, rfl, rfl, ?_⟩)
      | refine Or.inr (Or.inl ⟨_, _, s20_no p u n hp hw, leL_refl _, rfl, rfl, ?_⟩)
      | refine Or.inr (Or.inl ⟨_, _, s21 p u n hp, leL_refl _, rfl, rfl, ?_⟩)
      | refine Or.inr (Or.inl ⟨_, _, s19, leL_refl _, rfl, rfl, ?_⟩)
      | refine And.intro trivial ?_
      | exact trivial
      | exact leX_refl _
      | refine weak_fr ?_ ?_ rfl
      | refine And.intro ?_ ?_
      | fail)
    all_goals first
      | exact absurd rfl h
      | exact absurd h hw
      | exact leB rfl
      | trace_state
  have hw := Classical.not_not.1 hw
  obtain ⟨hr, ⟨x, hf⟩, h0, h1⟩ := why_ok hw
  have h21 := s21 p u n hp
  rw [hw] at h21
  obtain ⟨f, hf0⟩ : ∃ f : Nat, p.frame = f := ⟨p.frame.toNat, by have := hr.lo; omega⟩
  obtain ⟨m, rfl⟩ : ∃ m : Nat, n = m := ⟨n.toNat, by omega⟩
  obtain ⟨b1, b2, ho, hm⟩ := share_bd hr hf
  have h20 := s20_ok p u m x hp hr hf h0 h1
  rw [hf0, least_eq hf0 hr ho] at h20
  have h25 := s25_any hp hr hf hf0 m (by omega)
  have f1 := hr.lo
  have f2 := hr.hi
  have hpf : p.tv = .a [tI f, tW p.cores, .s 4 (p.places.map Place.tv)] := by rw [← hf0]; rfl
  have h22 := s22_some hp hf
  by_cases hne : x.pieces = []
  · have h23 := s23_whole p u x hp hr hf (win_nil hne)
    rw [hf0] at h23 f1 f2
    have h24 := s24_whole f x (by omega) hne (by omega) b2
    rw [hpf] at h18 h21 h20 h22 h23 ⊢
    refine spec_s is3 mixed rfl (V_x ?_)
    repeat' (conv => whnf
             first
      | refine Frz.own ?_
      | refine Get.mk _ rfl ?_
      | refine Get.mk _ (map_geti (by omega)) ?_
      | refine Get.mk _ (map_getp (by omega) (by omega)) ?_
      | refine Get.mk _ (map_get (by omega)) ?_
      | refine Bv2.mk _ _ rfl rfl ?_
      | refine Bv1.mk _ rfl ?_
      | refine Wr.mk _ (wrap_i64 (by omega) (by omega)) ?_
      | refine Wr.mk _ rfl ?_
      | refine And.intro len_map ?_
      | refine And.intro (leX_refl _) ?_
      | refine And.intro rfl ?_
      | refine And.intro (leO_some _) ?_
      | (refine And.intro (fun h => absurd h (by decide)) (fun h => ?_); clear h)
      | (refine And.intro (fun h => ?_) (fun h => absurd h (by decide)); clear h)
      | with_reducible refine sp1 (fun h => ?_) (fun h => ?_)
      | with_reducible refine sp2 (fun h => ?_) (fun h => ?_)
      | with_reducible refine sp3 (fun h => ?_) (fun h => ?_)
      | with_reducible refine sp4 (fun h => ?_) (fun h => ?_)
      | with_reducible refine sp5 (fun h => ?_) (fun h => ?_)
      | with_reducible refine sp6 (fun h => ?_) (fun h => ?_)
      | with_reducible refine And.intro (fun h => ?_) (fun h => ?_)
      | refine And.intro (Int.natCast_nonneg _) ?_
      | refine And.intro (by omega) ?_
      | refine And.intro (by decide) ?_
      | refine Lst.mk _ rfl ?_
      | refine Or.inr (Or.inl ⟨_, _, h18, leL_refl _, rfl, rfl, ?_⟩)
      | refine Or.inr (Or.inl ⟨_, _, h20, leL_refl _, rfl, rfl, ?_⟩)
      | refine Or.inr (Or.inl ⟨_, _, h21, leL_refl _, rfl, rfl, ?_⟩)
      | refine Or.inr (Or.inl ⟨_, _, h22, leL_refl _, rfl, rfl, ?_⟩)
      | refine Or.inr (Or.inl ⟨_, _, h23, leL_refl _, rfl, rfl, ?_⟩)
      | refine Or.inr (Or.inl ⟨_, _, h24, leL_refl _, rfl, rfl, ?_⟩)
      | refine Or.inr (Or.inl ⟨_, _, h25, leL_refl _, rfl, rfl, ?_⟩)
      | refine Or.inr (Or.inl ⟨_, _, s19, leL_refl _, rfl, rfl, ?_⟩)
      | refine And.intro trivial ?_
      | exact trivial
      | exact leX_refl _
      | refine weak_fr ?_ ?_ rfl
      | refine And.intro ?_ ?_
      | fail)
    all_goals first
      | exact absurd rfl h
      | exact absurd h hw
      | exact leB rfl
      | trace_state
  · have h23 := s23_split p u x f hf0 hp hr hf (split_facts hf0 hr ho hne).2.2.1
    rw [wait_eq hf0 hr ho hne] at h23
    rw [hf0] at f1 f2
    have h24 := s24_split f x (by omega) (by omega) (hp.2 x hm) hne
    rw [hpf] at h18 h21 h20 h22 h23 ⊢
    refine spec_s is3 mixed rfl (V_x ?_)
    repeat' (conv => whnf
             first
      | refine Frz.own ?_
      | refine Get.mk _ rfl ?_
      | refine Get.mk _ (map_geti (by omega)) ?_
      | refine Get.mk _ (map_getp (by omega) (by omega)) ?_
      | refine Get.mk _ (map_get (by omega)) ?_
      | refine Bv2.mk _ _ rfl rfl ?_
      | refine Bv1.mk _ rfl ?_
      | refine Wr.mk _ (wrap_i64 (by omega) (by omega)) ?_
      | refine Wr.mk _ rfl ?_
      | refine And.intro len_map ?_
      | refine And.intro (leX_refl _) ?_
      | refine And.intro rfl ?_
      | refine And.intro (leO_some _) ?_
      | (refine And.intro (fun h => absurd h (by decide)) (fun h => ?_); clear h)
      | (refine And.intro (fun h => ?_) (fun h => absurd h (by decide)); clear h)
      | with_reducible refine sp1 (fun h => ?_) (fun h => ?_)
      | with_reducible refine sp2 (fun h => ?_) (fun h => ?_)
      | with_reducible refine sp3 (fun h => ?_) (fun h => ?_)
      | with_reducible refine sp4 (fun h => ?_) (fun h => ?_)
      | with_reducible refine sp5 (fun h => ?_) (fun h => ?_)
      | with_reducible refine sp6 (fun h => ?_) (fun h => ?_)
      | with_reducible refine And.intro (fun h => ?_) (fun h => ?_)
      | refine And.intro (Int.natCast_nonneg _) ?_
      | refine And.intro (by omega) ?_
      | refine And.intro (by decide) ?_
      | refine Lst.mk _ rfl ?_
      | refine Or.inr (Or.inl ⟨_, _, h18, leL_refl _, rfl, rfl, ?_⟩)
      | refine Or.inr (Or.inl ⟨_, _, h20, leL_refl _, rfl, rfl, ?_⟩)
      | refine Or.inr (Or.inl ⟨_, _, h21, leL_refl _, rfl, rfl, ?_⟩)
      | refine Or.inr (Or.inl ⟨_, _, h22, leL_refl _, rfl, rfl, ?_⟩)
      | refine Or.inr (Or.inl ⟨_, _, h23, leL_refl _, rfl, rfl, ?_⟩)
      | refine Or.inr (Or.inl ⟨_, _, h24, leL_refl _, rfl, rfl, ?_⟩)
      | refine Or.inr (Or.inl ⟨_, _, h25, leL_refl _, rfl, rfl, ?_⟩)
      | refine Or.inr (Or.inl ⟨_, _, s19, leL_refl _, rfl, rfl, ?_⟩)
      | refine And.intro trivial ?_
      | exact trivial
      | exact leX_refl _
      | refine weak_fr ?_ ?_ rfl
      | refine And.intro ?_ ?_
      | fail)
    all_goals first
      | exact absurd rfl h
      | exact absurd h hw
      | exact leB rfl
      | trace_state
end Go.Proofs.Ytjmjolefhcjedaa.Vc
