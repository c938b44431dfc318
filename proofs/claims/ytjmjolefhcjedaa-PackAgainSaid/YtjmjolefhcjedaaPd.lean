/- Pieces along the cores, round the frame: what is so behind each want. -/
import Derived.Test.YtjmjolefhcjedaaMb
import Derived.Test.YtjmjolefhcjedaaNb
namespace Go.Proofs.Ytjmjolefhcjedaa.Vc
/-! Pieces along the cores, round the frame. -/

def phase (f c t : Nat) : Nat := if c ≤ t then t - c else t + f - c
def nx (f c m : Nat) : Nat := if c + m < f then c + m else c + m - f
theorem phase_mod {f c t : Nat} (hc : c < f) (ht : t < f) : (t + f - c) % f = phase f c t := by
  unfold phase
  split
  · rw [show t + f - c = (t - c) + f by omega, Nat.add_mod_right, Nat.mod_eq_of_lt (by omega)]
  · rw [Nat.mod_eq_of_lt (by omega)]
theorem hasT_round {f c n : Nat} (hf : 0 < f) (hf' : f ≤ 64) (hc : c < f) (hn : n ≤ f) (t : Nat) (ht : t < 64) : hasT (roundB f c n) t = decide (t < f ∧ phase f c t < n) := by
  rw [round_has hf hf' hc hn t ht, Bool.eq_iff_iff]
  simp only [decide_eq_true_eq]
  constructor
  · rintro ⟨h1, h2⟩; rw [phase_mod hc h1] at h2; exact ⟨h1, h2⟩
  · rintro ⟨h1, h2⟩; rw [phase_mod hc h1]; exact ⟨h1, h2⟩
theorem nx_mod {f c m : Nat} (hc : c < f) (hm : m ≤ f) : (c + m) % f = nx f c m := by
  unfold nx
  split
  · exact Nat.mod_eq_of_lt (by omega)
  · rw [show c + m = (c + m - f) + f by omega, Nat.add_mod_right, Nat.mod_eq_of_lt (by omega)]; omega
theorem nx_lt {f c m : Nat} (hc : c < f) (hm : m ≤ f) : nx f c m < f := by unfold nx; split <;> omega
theorem nx_nx {f c m n : Nat} (hc : c < f) (h : m + n ≤ f) : nx f (nx f c m) n = nx f c (m + n) := by
  unfold nx
  repeat' split
  all_goals omega
theorem phase_nx {f c m n t : Nat} (hc : c < f) (h : m + n ≤ f) (ht : t < f) : phase f (nx f c m) t < n ↔ m ≤ phase f c t ∧ phase f c t < m + n := by
  unfold phase nx
  repeat' split
  all_goals omega
theorem phase_last {f c m k t : Nat} (hc : c < f) (h : k + m ≤ f) (ht : t < f) : f - (k + m) ≤ phase f (nx f c m) t ↔ phase f c t < m ∨ f - k ≤ phase f c t := by
  unfold phase nx
  repeat' split
  all_goals omega
theorem phase_eq {f c n t : Nat} (hc : c < f) (hn : n < f) (ht : t < f) : phase f c t = n ↔ t = nx f c n := by
  unfold phase nx
  repeat' split
  all_goals omega
theorem phase_lt {f c t : Nat} (hc : c < f) (ht : t < f) : phase f c t < f := by unfold phase; split <;> omega
theorem sum_phase {f c : Nat} (hf' : f ≤ 64) (hc : c < f) : ∀ n, n ≤ f → sumTo (fun t => if t < f ∧ phase f c t < n then 1 else 0) 64 = n
  | 0, _ => by
    rw [sumTo_congr (h := fun _ => 0) fun t _ => if_neg (by omega), sumTo_const]
    try rfl
  | n + 1, hn => by
    rw [sumTo_congr (h := fun t => (if t < f ∧ phase f c t < n then 1 else 0) + (if t = nx f c n then 1 else 0)) fun t ht => ?_, sumTo_add, sum_phase hf' hc n (by omega), sum_one 0 (fun _ => 1)]
    · rw [if_pos]; have := nx_lt (m := n) hc (by omega); omega
    · have hx := nx_lt (m := n) hc (by omega)
      by_cases h1 : t < f
      · have := phase_eq (n := n) hc (by omega) h1
        by_cases h2 : phase f c t < n
        · rw [if_pos ⟨h1, by omega⟩, if_pos ⟨h1, h2⟩, if_neg (by omega)]
        · by_cases h3 : phase f c t = n
          · rw [if_pos ⟨h1, by omega⟩, if_neg (by omega), if_pos (this.1 h3)]
          · rw [if_neg (by omega), if_neg (by omega), if_neg (fun e => h3 (this.2 e))]
      · rw [if_neg (by omega), if_neg (by omega), if_neg (by omega)]

/-- The first sums. -/
def Sm (R : Nat → Nat) : Nat → Nat
  | 0 => 0
  | n + 1 => Sm R n + R n
theorem Sm_mono {R : Nat → Nat} {m n : Nat} (h : m ≤ n) : Sm R m ≤ Sm R n := by
  induction n with
  | zero => have : m = 0 := by omega
            subst this; exact Nat.le_refl _
  | succ n ih =>
    rcases Nat.eq_or_lt_of_le h with e | e
    · subst e; exact Nat.le_refl _
    · have := ih (by omega); show _ ≤ Sm R n + R n; omega
/-- How much core j gives of s. -/
def gT (R : Nat → Nat) (s j : Nat) : Nat := min (R j) (s - Sm R j)
theorem Sm_gT (R : Nat → Nat) (s : Nat) : ∀ n, Sm (gT R s) n = min s (Sm R n)
  | 0 => by simp [Sm]
  | n + 1 => by
    show Sm (gT R s) n + gT R s n = min s (Sm R n + R n)
    rw [Sm_gT R s n]; unfold gT; omega
def chP (f : Nat) (R : Nat → Nat) (s t j : Nat) : Option Piece := if gT R s j = 0 then none else some ⟨j, roundB f (nx f t (Sm R j)) (gT R s j)⟩
def chL (f : Nat) (R : Nat → Nat) (s t n : Nat) : List Piece := (List.range n).filterMap (chP f R s t)
theorem chL_succ (f : Nat) (R : Nat → Nat) (s t n : Nat) : chL f R s t (n + 1) = chL f R s t n ++ (chP f R s t n).toList := by
  unfold chL
  rw [List.range_succ, List.filterMap_append]
  congr 1
theorem chP_core {f : Nat} {R : Nat → Nat} {s t j : Nat} {y : Piece} (h : chP f R s t j = some y) : y.core = j ∧ gT R s j ≠ 0 ∧ y.ticks = roundB f (nx f t (Sm R j)) (gT R s j) := by
  unfold chP at h
  split at h
  · cases h
  · obtain rfl := Option.some.inj h; exact ⟨rfl, ‹_›, rfl⟩
theorem chL_mem {f : Nat} {R : Nat → Nat} {s t n : Nat} {y : Piece} : y ∈ chL f R s t n ↔ ∃ j, j < n ∧ chP f R s t j = some y := by
  unfold chL
  rw [List.mem_filterMap]
  simp [List.mem_range]
theorem chL_pw (f : Nat) (R : Nat → Nat) (s t : Nat) : ∀ n, (chL f R s t n).Pairwise fun a b => a.core < b.core
  | 0 => List.Pairwise.nil
  | n + 1 => by
    rw [chL_succ, List.pairwise_append]
    refine ⟨chL_pw f R s t n, ?_, fun a ha b hb => ?_⟩
    · cases chP f R s t n <;> simp
    · obtain ⟨j, hj, hy⟩ := chL_mem.1 ha
      rw [Option.mem_toList] at hb
      have := (chP_core hy).1
      have := (chP_core hb).1
      omega
section
variable {f : Nat} {R : Nat → Nat} {s t : Nat} (hf' : f ≤ 64) (ht : t < f) (hs : s ≤ f)
include hf' ht hs
theorem chP_has {j : Nat} {y : Piece} (h : chP f R s t j = some y) (τ : Nat) (hτ : τ < 64) : hasT y.ticks τ = decide (τ < f ∧ Sm R j ≤ phase f t τ ∧ phase f t τ < Sm R j + gT R s j) := by
  obtain ⟨_, h1, h2⟩ := chP_core h
  have h3 : gT R s j ≤ s - Sm R j := by unfold gT; omega
  rw [h2, hasT_round (by omega) hf' (nx_lt ht (by omega)) (by omega) τ hτ, Bool.eq_iff_iff]
  simp only [decide_eq_true_eq]
  constructor
  · rintro ⟨h4, h5⟩; exact ⟨h4, (phase_nx ht (by omega) h4).1 h5⟩
  · rintro ⟨h4, h5⟩; exact ⟨h4, (phase_nx ht (by omega) h4).2 h5⟩
/-- Each tick once. -/
theorem chL_cnt (τ : Nat) (hτ : τ < 64) : ∀ n, cnt ((chL f R s t n).map Piece.ticks) τ = if τ < f ∧ phase f t τ < min s (Sm R n) then 1 else 0
  | 0 => by
    rw [if_neg (by simp [Sm])]
    rfl
  | n + 1 => by
    have ih := chL_cnt τ hτ n
    rw [chL_succ]
    unfold cnt at ih ⊢
    rw [List.map_append, List.countP_append, ih]
    have hS : Sm R (n + 1) = Sm R n + R n := rfl
    cases h : chP f R s t n with
    | none =>
      have hg : gT R s n = 0 := by
        unfold chP at h; split at h
        · assumption
        · cases h
      unfold gT at hg
      have e : min s (Sm R (n + 1)) = min s (Sm R n) := by omega
      rw [e]; rfl
    | some y =>
      have hh := chP_has hf' ht hs h τ hτ
      obtain ⟨_, h1, _⟩ := chP_core h
      have e1 : min s (Sm R n) = Sm R n := by unfold gT at h1; omega
      have e2 : min s (Sm R (n + 1)) = Sm R n + gT R s n := by unfold gT at h1 ⊢; omega
      rw [e1, e2]
      show _ + List.countP _ [y.ticks] = _
      rw [List.countP_cons, List.countP_nil, hh]
      simp only [decide_eq_true_eq, Nat.zero_add]
      by_cases h2 : τ < f
      · by_cases h3 : phase f t τ < Sm R n
        · rw [if_pos ⟨h2, h3⟩, if_neg (by omega), if_pos ⟨h2, by omega⟩]
        · by_cases h4 : phase f t τ < Sm R n + gT R s n
          · rw [if_neg (by omega), if_pos ⟨h2, by omega, h4⟩, if_pos ⟨h2, h4⟩]
          · rw [if_neg (by omega), if_neg (by omega), if_neg (by omega)]
      · rw [if_neg (by omega), if_neg (by omega), if_neg (by omega)]
theorem chL_at (c : Nat) (τ : Nat) (hτ : τ < 64) : ∀ n, (chL f R s t n).countP (fun y => decide (y.core = (c : Int)) && hasT y.ticks τ) = if c < n ∧ τ < f ∧ Sm R c ≤ phase f t τ ∧ phase f t τ < Sm R c + gT R s c then 1 else 0
  | 0 => by rw [if_neg (by omega)]; rfl
  | n + 1 => by
    rw [chL_succ, List.countP_append, chL_at c τ hτ n]
    cases h : chP f R s t n with
    | none =>
      have hg : gT R s n = 0 := by
        unfold chP at h; split at h
        · assumption
        · cases h
      show _ + 0 = _
      by_cases hc : c < n
      · simp only [hc, true_and, show c < n + 1 by omega, Nat.add_zero]
      · rw [if_neg (by omega)]
        by_cases hc' : c = n
        · subst hc'; rw [if_neg (by omega)]
        · rw [if_neg (by omega)]
    | some y =>
      have hh := chP_has hf' ht hs h τ hτ
      obtain ⟨h0, h1, _⟩ := chP_core h
      show _ + List.countP _ [y] = _
      rw [List.countP_cons, List.countP_nil, hh, h0]
      simp only [Bool.and_eq_true, decide_eq_true_eq, Nat.zero_add]
      by_cases hc : c < n
      · have e : ¬ ((n : Int) = (c : Int)) := by omega
        simp only [hc, true_and, show c < n + 1 by omega, e, false_and, if_false, Nat.add_zero]
      · by_cases hc' : c = n
        · subst hc'
          simp only [true_and, Nat.lt_irrefl, false_and, if_false, show c < c + 1 by omega, Nat.zero_add]
        · have e : ¬ ((n : Int) = (c : Int)) := by omega
          have e2 : ¬ c < n + 1 := by omega
          simp only [hc, e, e2, false_and, if_false]
end
end Go.Proofs.Ytjmjolefhcjedaa.Vc

namespace Go.Proofs.Ytjmjolefhcjedaa.Vc
def skipZ (R : List Nat) (k : Nat) : Nat := k + (R.drop k).findIdx fun c => decide (c ≠ 0)
theorem skip_is {R : List Nat} {k j : Nat} (h1 : k ≤ j) (h2 : j ≤ R.length) (h3 : ∀ x (h : x < R.length), k ≤ x → x < j → R[x] = 0) (h4 : ∀ h : j < R.length, R[j] ≠ 0) : skipZ R k = j := by
  unfold skipZ
  have hl : (R.drop k).length = R.length - k := List.length_drop
  rcases Nat.lt_or_ge j R.length with h | h
  · have e : (R.drop k).findIdx (fun c => decide (c ≠ 0)) = j - k := by
      rw [List.findIdx_eq (by omega)]
      refine ⟨?_, fun x hx => ?_⟩
      · rw [List.getElem_drop]
        have : k + (j - k) = j := by omega
        simp only [this]
        exact decide_eq_true (h4 h)
      · rw [List.getElem_drop]
        exact decide_eq_false (by
          have := h3 (k + x) (by omega) (by omega) (by omega)
          simpa using this)
    omega
  · have e : (R.drop k).findIdx (fun c => decide (c ≠ 0)) = (R.drop k).length := by
      refine List.findIdx_eq_length.2 fun c hc => ?_
      obtain ⟨x, hx, rfl⟩ := List.mem_iff_getElem.1 hc
      rw [List.getElem_drop]
      exact decide_eq_false (by
        have := h3 (k + x) (by omega) (by omega) (by omega)
        simpa using this)
    omega
theorem skip_sum (R : List Nat) : ∀ k, k ≤ R.length → (R.drop (skipZ R k)).sum = (R.drop k).sum ∧ k ≤ skipZ R k ∧ skipZ R k ≤ R.length ∧ (∀ h : skipZ R k < R.length, R[skipZ R k] ≠ 0) := by
  have key : ∀ n k, n = R.length - k → k ≤ R.length → (R.drop (skipZ R k)).sum = (R.drop k).sum ∧ k ≤ skipZ R k ∧ skipZ R k ≤ R.length ∧ (∀ h : skipZ R k < R.length, R[skipZ R k] ≠ 0) := by
    intro n
    induction n with
    | zero =>
      intro k hn hk
      have e : skipZ R k = k := skip_is (Nat.le_refl _) hk (fun x _ _ _ => by omega) (fun h => by omega)
      rw [e]
      exact ⟨rfl, Nat.le_refl _, hk, fun h => by omega⟩
    | succ n ih =>
      intro k hn hk
      have hlt : k < R.length := by omega
      by_cases h0 : R[k] = 0
      · obtain ⟨i1, i2, i3, i4⟩ := ih (k + 1) (by omega) (by omega)
        have e : skipZ R k = skipZ R (k + 1) := by
          unfold skipZ
          rw [List.drop_eq_getElem_cons hlt, List.findIdx_cons, h0]
          simp only [ne_eq, not_true, decide_false, cond_false]
          omega
        rw [e]
        refine ⟨?_, by omega, i3, i4⟩
        rw [i1]
        conv => rhs; rw [List.drop_eq_getElem_cons hlt, List.sum_cons, h0]
        omega
      · have e : skipZ R k = k := skip_is (Nat.le_refl _) hk (fun x _ _ _ => by omega) (fun _ => h0)
        rw [e]
        exact ⟨rfl, Nat.le_refl _, hk, fun _ => h0⟩
  exact fun k => key _ k rfl
theorem skip_lt {R : List Nat} {k : Nat} (hk : k ≤ R.length) (h : 0 < (R.drop k).sum) : skipZ R k < R.length := by
  obtain ⟨h1, _, h3, _⟩ := skip_sum R k hk
  rcases Nat.lt_or_ge (skipZ R k) R.length with h2 | h2
  · exact h2
  · rw [List.drop_of_length_le h2] at h1
    simp at h1; omega
/-- The pieces of a want along the chain. -/
def pcsL (f : Nat) : Nat → List Nat → Nat → Nat → Nat → List Piece → List Nat × Nat × Nat × List Piece
  | 0, R, k, t, _, ps => (R, k, t, ps)
  | m + 1, R, k, t, rest, ps =>
    if rest = 0 then (R, k, t, ps) else
      let j := skipZ R k
      let n := min rest (R.getD j 0)
      pcsL f m (R.set j (R.getD j 0 - n)) j ((t + n) % f) (rest - n) (ps ++ [⟨(j : Int), roundB f t n⟩])
theorem pcsL_stop {f m : Nat} {R : List Nat} {k t : Nat} {ps : List Piece} : pcsL f m R k t 0 ps = (R, k, t, ps) := by
  cases m <;> simp [pcsL]
/-- Placed on the chain: whole on the first core with room, if that has enough; else in pieces. -/
def placeC (f : Nat) (R : List Nat) (k t : Nat) (w : Want) : Place × List Nat × Nat × Nat :=
  let j := skipZ R k
  if w.share ≤ (R.getD j 0 : Nat) then (⟨w.unit, w.share, j, []⟩, R.set j (R.getD j 0 - w.share.toNat), j, t)
  else let r := pcsL f w.share.toNat R j t w.share.toNat []
    (⟨w.unit, w.share, 0, r.2.2.2⟩, r.1, r.2.1, r.2.2.1)
theorem drop_set_sum {R : List Nat} {k n : Nat} (hk : k < R.length) (hn : n ≤ R[k]) : ((R.set k (R[k] - n)).drop k).sum = (R.drop k).sum - n := by
  rw [List.drop_eq_getElem_cons (by rw [List.length_set]; exact hk), List.drop_eq_getElem_cons hk, List.sum_cons, List.sum_cons, List.getElem_set_self]
  have : (R.set k (R[k] - n)).drop (k + 1) = R.drop (k + 1) := by rw [List.drop_set_of_lt (by omega)]
  rw [this]; omega
end Go.Proofs.Ytjmjolefhcjedaa.Vc

namespace Go.Proofs.Ytjmjolefhcjedaa.Vc
/-! Pieces of a want, in closed form; tick by tick. -/

/-- Rooms, read. -/
def rf (R : List Nat) (j : Nat) : Nat := R.getD j 0
theorem rf_lt {R : List Nat} {j : Nat} (h : j < R.length) : rf R j = R[j] := by
  unfold rf; rw [List.getD_eq_getElem?_getD, List.getElem?_eq_getElem h]; rfl
theorem rf_ge {R : List Nat} {j : Nat} (h : R.length ≤ j) : rf R j = 0 := by
  unfold rf; rw [List.getD_eq_getElem?_getD, List.getElem?_eq_none h]; rfl
theorem rf_set {R : List Nat} {j v : Nat} (h : j < R.length) (i : Nat) : rf (R.set j v) i = if i = j then v else rf R i := by
  unfold rf
  rw [List.getD_eq_getElem?_getD, List.getElem?_set, List.getD_eq_getElem?_getD]
  by_cases e : i = j
  · subst e; simp [h]
  · rw [if_neg (fun e' => e e'.symm), if_neg e]
theorem Sm_take (R : List Nat) : ∀ n, Sm (rf R) n = (R.take n).sum
  | 0 => by simp [Sm]
  | n + 1 => by
    show Sm (rf R) n + rf R n = _
    rw [Sm_take R n]
    rcases Nat.lt_or_ge n R.length with h | h
    · rw [List.take_succ_eq_append_getElem h, List.sum_append, rf_lt h]; simp
    · rw [List.take_of_length_le h, List.take_of_length_le (by omega), rf_ge h]; rfl
theorem Sm_drop (R : List Nat) (k : Nat) : Sm (rf R) k + (R.drop k).sum = R.sum := by
  rw [Sm_take, ← List.sum_append, List.take_append_drop]
theorem Sm_zero {R : Nat → Nat} {k : Nat} (h : ∀ j, j < k → R j = 0) : ∀ n, n ≤ k → Sm R n = 0
  | 0, _ => rfl
  | n + 1, hn => by
    show Sm R n + R n = 0
    rw [Sm_zero h n (by omega), h n (by omega)]
theorem drop_sum {R : List Nat} {k : Nat} (h : ∀ j, j < k → rf R j = 0) : (R.drop k).sum = R.sum := by
  have := Sm_drop R k
  rw [Sm_zero h k (Nat.le_refl _)] at this
  omega
theorem Sm_len {R : List Nat} (h : R.length = 16) : Sm (rf R) 16 = R.sum := by
  rw [Sm_take, List.take_of_length_le (by omega)]
theorem skip_zero {R : List Nat} {k x : Nat} (h1 : k ≤ x) (h2 : x < skipZ R k) : rf R x = 0 := by
  unfold skipZ at h2
  have h3 : x - k < (R.drop k).findIdx fun c => decide (c ≠ 0) := by omega
  have h4 : x - k < (R.drop k).length := Nat.lt_of_lt_of_le h3 List.findIdx_le_length
  have h5 := List.not_of_lt_findIdx h3
  rw [List.getElem_drop] at h5
  have e : k + (x - k) = x := by omega
  simp only [e] at h5
  rw [List.length_drop] at h4
  rw [rf_lt (by omega)]
  simpa using h5
theorem skip_below {R : List Nat} {k : Nat} (h : ∀ j, j < k → rf R j = 0) : ∀ x, x < skipZ R k → rf R x = 0 := fun x hx => by
  rcases Nat.lt_or_ge x k with h1 | h1
  · exact h x h1
  · exact skip_zero h1 hx
theorem nx_zero {f t : Nat} (ht : t < f) : nx f t 0 = t := by unfold nx; rw [if_pos (by omega)]; rfl
theorem gT_zero (R : Nat → Nat) (j : Nat) : gT R 0 j = 0 := by unfold gT; omega
theorem chL_zero (f : Nat) (R : Nat → Nat) (t : Nat) : ∀ n, chL f R 0 t n = []
  | 0 => rfl
  | n + 1 => by
    rw [chL_succ, chL_zero f R t n]
    unfold chP
    rw [if_pos (gT_zero R n)]; rfl
section
variable {f : Nat} {R R' : Nat → Nat} {s t j n : Nat} (ht : t < f) (hs : s ≤ f) (hz : ∀ i, i < j → R i = 0) (hn : n = min s (R j)) (hR : ∀ i, R' i = if i = j then R j - n else R i)
include hz hn hR
theorem Sm_less : ∀ i, Sm R' i + (if j < i then n else 0) = Sm R i
  | 0 => by simp [Sm]
  | i + 1 => by
    have ih := Sm_less i
    show Sm R' i + R' i + _ = Sm R i + R i
    rw [hR i]
    rcases Nat.lt_trichotomy i j with h | h | h
    · rw [if_neg (by omega)] at ih ⊢
      rw [if_neg (by omega)]; omega
    · subst h
      rw [if_neg (by omega)] at ih
      rw [if_pos rfl, if_pos (by omega)]; omega
    · rw [if_pos h] at ih
      rw [if_neg (by omega), if_pos (by omega)]; omega
theorem gT_less (i : Nat) : gT R s i = (if i = j then n else 0) + gT R' (s - n) i := by
  have h1 := Sm_less hz hn hR i
  have h2 := Sm_zero hz
  unfold gT
  rw [hR i]
  rcases Nat.lt_trichotomy i j with h | h | h
  · rw [if_neg (by omega), if_neg (by omega), hz i h]; omega
  · subst h
    rw [if_pos rfl, if_pos rfl, h2 i (Nat.le_refl _)]
    rw [if_neg (by omega), h2 i (Nat.le_refl _)] at h1
    omega
  · rw [if_neg (by omega), if_neg (by omega)]
    rw [if_pos h] at h1
    omega
include ht hs
theorem chP_less (i : Nat) (h : j < i) : chP f R s t i = chP f R' (s - n) (nx f t n) i := by
  have h1 := Sm_less hz hn hR i
  have h2 := gT_less (s := s) hz hn hR i
  rw [if_neg (by omega), Nat.zero_add] at h2
  rw [if_pos h] at h1
  unfold chP
  rw [h2]
  split
  · rfl
  · rename_i h0
    have h3 : gT R' (s - n) i ≤ s - n - Sm R' i := by unfold gT; omega
    rw [nx_nx ht (by omega), ← h1, Nat.add_comm n]
theorem chL_cons (h0 : 0 < n) : ∀ N, chL f R s t N = (if j < N then [⟨(j : Int), roundB f t n⟩] else []) ++ chL f R' (s - n) (nx f t n) N ∧ (N ≤ j + 1 → chL f R' (s - n) (nx f t n) N = [])
  | 0 => by simp [chL]
  | N + 1 => by
    obtain ⟨i1, i2⟩ := chL_cons h0 N
    have hg := gT_less (s := s) hz hn hR N
    rw [chL_succ, chL_succ, i1]
    rcases Nat.lt_trichotomy N j with h | h | h
    · rw [if_neg (by omega)] at hg
      have e1 : gT R s N = 0 := by unfold gT; rw [hz N h]; omega
      have e2 : gT R' (s - n) N = 0 := by omega
      have e3 : chP f R s t N = none := by unfold chP; rw [if_pos e1]
      have e4 : chP f R' (s - n) (nx f t n) N = none := by unfold chP; rw [if_pos e2]
      rw [e3, e4, if_neg (by omega), if_neg (by omega), i2 (by omega)]
      exact ⟨rfl, fun _ => rfl⟩
    · subst h
      rw [if_pos rfl] at hg
      have e2 : gT R' (s - n) N = 0 := by
        unfold gT
        have := Sm_less hz hn hR N
        rw [if_neg (by omega)] at this
        have h2 := Sm_zero hz N (Nat.le_refl _)
        rw [hR N, if_pos rfl]
        omega
      have e3 : chP f R s t N = some ⟨(N : Int), roundB f t n⟩ := by
        unfold chP
        rw [if_neg (by omega), Sm_zero hz N (Nat.le_refl _), nx_zero ht, hg, e2]; rfl
      have e4 : chP f R' (s - n) (nx f t n) N = none := by unfold chP; rw [if_pos e2]
      rw [e3, e4, if_neg (by omega), if_pos (by omega), i2 (by omega)]
      exact ⟨rfl, fun _ => rfl⟩
    · rw [chP_less ht hs hz hn hR N h, if_pos h, if_pos (by omega)]
      exact ⟨by rw [List.append_assoc], fun h' => by omega⟩
end

/-- What the pieces of a want are, and what is left. -/
structure PcsIs (f : Nat) (R : List Nat) (t rest : Nat) (ps : List Piece) (r : List Nat × Nat × Nat × List Piece) : Prop where
  pcs : r.2.2.2 = ps ++ chL f (rf R) rest t 16
  len : r.1.length = 16
  rooms : ∀ j, rf r.1 j = rf R j - gT (rf R) rest j
  tick : r.2.2.1 = nx f t rest
  zero : ∀ j, j < r.2.1 → rf r.1 j = 0
  core : r.2.1 ≤ 16
theorem PcsIs.none {f : Nat} {R : List Nat} {k t : Nat} {ps : List Piece} (hl : R.length = 16) (hk : k ≤ 16) (hz : ∀ j, j < k → rf R j = 0) (ht : t < f) : PcsIs f R t 0 ps (R, k, t, ps) :=
  ⟨by simp [chL_zero], hl, fun j => by simp [gT_zero], (nx_zero ht).symm, hz, hk⟩
theorem pcsL_is {f : Nat} : ∀ (m : Nat) (R : List Nat) (k t rest : Nat) (ps : List Piece), R.length = 16 → k ≤ 16 → (∀ j, j < k → rf R j = 0) → t < f → rest ≤ f → rest ≤ m → rest ≤ R.sum →
    PcsIs f R t rest ps (pcsL f m R k t rest ps)
  | 0, R, k, t, rest, ps, hl, hk, hz, ht, _, hm, _ => by
    obtain rfl : rest = 0 := by omega
    exact .none hl hk hz ht
  | m + 1, R, k, t, rest, ps, hl, hk, hz, ht, hrf, hm, hsum => by
    unfold pcsL
    split
    · rename_i h0; subst h0
      exact .none hl hk hz ht
    rename_i h0
    have hj := skip_lt (R := R) (k := k) (by omega) (by rw [drop_sum hz]; omega)
    obtain ⟨_, _, _, s4⟩ := skip_sum R k (by omega)
    have hne := s4 hj
    have hzj := skip_below hz
    generalize skipZ R k = j at *
    have hg : R.getD j 0 = R[j] := by rw [List.getD_eq_getElem?_getD, List.getElem?_eq_getElem hj]; rfl
    simp only [hg]
    obtain ⟨n, hn⟩ : ∃ n, n = min rest R[j] := ⟨_, rfl⟩
    rw [← hn]
    have hrj := rf_lt hj
    have hn' : n = min rest (rf R j) := by rw [hrj]; exact hn
    have hR : ∀ i, rf (R.set j (R[j] - n)) i = if i = j then rf R j - n else rf R i := fun i => by rw [rf_set hj, hrj]
    have hS := Sm_less hzj hn' hR 16
    rw [if_pos (by omega), Sm_len hl, Sm_len (by rw [List.length_set]; exact hl)] at hS
    have h1 : 0 < n := by omega
    rw [nx_mod ht (by omega)]
    have ih := pcsL_is m (R.set j (R[j] - n)) j (nx f t n) (rest - n) (ps ++ [⟨(j : Int), roundB f t n⟩]) (by rw [List.length_set]; exact hl) (by omega)
      (fun i hi => by rw [hR i, if_neg (by omega)]; exact hzj i hi) (nx_lt ht (by omega)) (by omega) (by omega) (by omega)
    obtain ⟨c1, _⟩ := chL_cons ht hrf hzj hn' hR h1 16
    rw [if_pos (by omega)] at c1
    refine ⟨?_, ih.len, fun i => ?_, ?_, ih.zero, ih.core⟩
    · rw [ih.pcs, c1, List.append_assoc]
    · rw [ih.rooms i, hR i]
      have := gT_less (s := rest) hzj hn' hR i
      rw [this]
      split
      · rename_i e; subst e; omega
      · omega
    · rw [ih.tick, nx_nx ht (by omega)]
      congr 1; omega

/-! Tick by tick. -/
end Go.Proofs.Ytjmjolefhcjedaa.Vc

namespace Go.Proofs.Ytjmjolefhcjedaa.Vc
/-! The chain: what is so behind each want. -/

/-- The chain's state: the plan, the rooms, the core, the tick. -/
structure Ch where
  p : Plan
  R : List Nat
  k : Nat
  t : Nat
def Ch.step (f : Nat) (s : Ch) (w : Want) : Ch := ⟨s.p.put (placeC f s.R s.k s.t w).1, (placeC f s.R s.k s.t w).2.1, (placeC f s.R s.k s.t w).2.2.1, (placeC f s.R s.k s.t w).2.2.2⟩
def roomsC (p : Plan) : List Nat := (List.range 16).map fun c : Nat => (p.room c).toNat
def Plan.chain (p : Plan) (l : List Want) : Ch := l.foldl (Ch.step p.frame.toNat) ⟨p, roomsC p, 0, 0⟩

structure Lnk (f : Nat) (s : Ch) : Prop where
  right : s.p.right
  frame : s.p.frame = (f : Int)
  len : s.R.length = 16
  rooms : ∀ c : Nat, c < 16 → ((rf s.R c : Nat) : Int) = s.p.room c
  tick : s.t < f
  core : s.k ≤ 16
  zero : ∀ j, j < s.k → rf s.R j = 0
  win : ∀ c : Nat, c < 16 → 0 < rf s.R c → ∃ n, ∀ τ : Nat, τ < 64 → s.p.atc c τ = if τ < f ∧ f ≤ phase f s.t τ + n then 1 else 0
  later : ∀ c d : Nat, c < d → d < 16 → 0 < rf s.R c → ∀ τ : Nat, τ < 64 → s.p.atc d τ = 0
  few : s.p.splits = 0 ∨ ∃ e : Nat, e < 16 ∧ s.p.has e = true ∧ (∀ j, j < e → rf s.R j = 0) ∧ s.p.splits ≤ (List.range e).countP fun j : Nat => s.p.has j

theorem ifc {p q : Prop} [Decidable p] [Decidable q] {a b : Nat} (h : p ↔ q) : (if p then a else b) = if q then a else b := by
  by_cases hq : q
  · rw [if_pos hq, if_pos (h.2 hq)]
  · rw [if_neg hq, if_neg fun hp => hq (h.1 hp)]
theorem Lnk.lo {f : Nat} {s : Ch} (h : Lnk f s) : 2 ≤ f ∧ f ≤ 64 := by
  have h1 := h.right.lo; have h2 := h.right.hi; have h3 := h.frame; omega
theorem room_pos {p : Plan} {c : Int} (h : 0 < p.room c) : p.has c = true := by
  unfold Plan.room at h
  split at h
  · assumption
  · omega
theorem Sm_find {R : Nat → Nat} {s : Nat} (h0 : 0 < s) : ∀ n, s ≤ Sm R n → ∃ e, e < n ∧ Sm R e < s ∧ s ≤ Sm R (e + 1)
  | 0, h => by simp [Sm] at h; omega
  | n + 1, h => by
    rcases Nat.lt_or_ge (Sm R n) s with h1 | h1
    · exact ⟨n, by omega, h1, h⟩
    · obtain ⟨e, h2, h3⟩ := Sm_find h0 n h1
      exact ⟨e, by omega, h3⟩
theorem coresI_len' (p : Plan) : p.coresI.length = (List.range 16).countP fun j : Nat => p.has j := by
  unfold Plan.coresI
  rw [← List.countP_eq_length_filter, List.countP_map]
  rfl
theorem countP_lt {q : Nat → Bool} {a b : Nat} (h : a < b) (hq : q a = true) : (List.range a).countP q + 1 ≤ (List.range b).countP q := by
  obtain ⟨d, rfl⟩ : ∃ d, b = a + 1 + d := ⟨b - (a + 1), by omega⟩
  rw [List.range_add, List.countP_append, List.range_succ, List.countP_append, List.countP_cons, List.countP_nil, if_pos hq]
  omega
theorem countP_le {q : Nat → Bool} {a b : Nat} (h : a ≤ b) : (List.range a).countP q ≤ (List.range b).countP q := by
  obtain ⟨d, rfl⟩ : ∃ d, b = a + d := ⟨b - a, by omega⟩
  rw [List.range_add, List.countP_append]
  omega

/-- A want that has no core to itself: what is placed, and what is so behind it. -/
structure Next (f : Nat) (s : Ch) (w : Want) (x : Place) (s' : Ch) : Prop where
  is : s' = s.step f w
  plan : s'.p = s.p.ins x
  place : (placeC f s.R s.k s.t w).1 = x
  want : x.want = w
  split : x.split = true
  few : x.pieces.length ≤ 16
  lnk : Lnk f s'
  less : ∀ j, rf s'.R j ≤ rf s.R j
  sum : s'.R.sum + w.share.toNat = s.R.sum

theorem chL_len (f : Nat) (R : Nat → Nat) (s t n : Nat) : (chL f R s t n).length ≤ n := by
  unfold chL
  exact Nat.le_trans (List.length_filterMap_le _ _) (by simp)
theorem two_mem {α : Type} {l : List α} {a b : α} (h1 : a ∈ l) (h2 : b ∈ l) (h : a ≠ b) : 2 ≤ l.length := by
  match l, h1, h2 with
  | [], h1, _ => simp at h1
  | [c], h1, h2 => simp at h1 h2; exact absurd (h1.trans h2.symm) h
  | _ :: _ :: _, _, _ => simp
theorem Lnk.next {f : Nat} {s : Ch} (h : Lnk f s) {w : Want} (hu : isUnit w.unit = true) (hs : 1 ≤ w.share ∧ w.share ≤ f) (hnew : ∀ x ∈ s.p.places, x.unit ≠ w.unit) (hov : ∀ c : Nat, c < 16 → (rf s.R c : Int) < w.share) (hsum : w.share.toNat ≤ s.R.sum) :
    ∃ x, Next f s w x (s.step f w) := by
  obtain ⟨hf2, hf⟩ := h.lo
  obtain ⟨σ, hσ⟩ : ∃ σ : Nat, w.share = σ := ⟨w.share.toNat, by omega⟩
  rw [hσ] at hs hov hsum
  simp only [Int.toNat_natCast] at hsum
  have hl := h.len
  have hk := h.core
  have ht := h.tick
  have hj := skip_lt (R := s.R) (k := s.k) (by omega) (by rw [drop_sum h.zero]; omega)
  obtain ⟨s1, s2, _, s4⟩ := skip_sum s.R s.k (by omega)
  have hne := s4 hj
  have hzj := skip_below h.zero
  have hg : s.R.getD (skipZ s.R s.k) 0 = s.R[skipZ s.R s.k] := by rw [List.getD_eq_getElem?_getD, List.getElem?_eq_getElem hj]; rfl
  have hrj := rf_lt hj
  have hP := pcsL_is (f := f) σ s.R (skipZ s.R s.k) s.t σ [] hl (by omega) hzj ht (by omega) (Nat.le_refl _) hsum
  have hplace : placeC f s.R s.k s.t w = (⟨w.unit, w.share, 0, (pcsL f σ s.R (skipZ s.R s.k) s.t σ []).2.2.2⟩, (pcsL f σ s.R (skipZ s.R s.k) s.t σ []).1, (pcsL f σ s.R (skipZ s.R s.k) s.t σ []).2.1, (pcsL f σ s.R (skipZ s.R s.k) s.t σ []).2.2.1) := by
    unfold placeC
    simp only [hg, hσ, Int.toNat_natCast]
    have := hov _ (show skipZ s.R s.k < 16 by omega)
    rw [hrj] at this
    rw [if_neg (by omega)]
  obtain ⟨x, hx⟩ : ∃ x : Place, x = ⟨w.unit, w.share, 0, chL f (rf s.R) σ s.t 16⟩ := ⟨_, rfl⟩
  have hxp : (placeC f s.R s.k s.t w).1 = x := by rw [hplace, hx]; show Place.mk _ _ _ _ = _; rw [hP.pcs]; rfl
  have hstep : s.step f w = ⟨s.p.put x, (pcsL f σ s.R (skipZ s.R s.k) s.t σ []).1, (pcsL f σ s.R (skipZ s.R s.k) s.t σ []).2.1, (pcsL f σ s.R (skipZ s.R s.k) s.t σ []).2.2.1⟩ := by
    unfold Ch.step
    rw [hxp, hplace]
  generalize pcsL f σ s.R (skipZ s.R s.k) s.t σ [] = r at *
  have hput : s.p.put x = s.p.ins x := put_absent fun y hy => by rw [hx]; exact hnew y hy
  rw [hput] at hstep
  -- the first core, and the last one
  generalize skipZ s.R s.k = a at *
  have hSa : ∀ i, i ≤ a → Sm (rf s.R) i = 0 := Sm_zero hzj
  obtain ⟨e, he, he1, he2⟩ := Sm_find (R := rf s.R) (s := σ) (by omega) 16 (by rw [Sm_len hl]; exact hsum)
  have hRa : 0 < rf s.R a := by omega
  have hae : a < e := by
    rcases Nat.lt_or_ge a e with h1 | h1
    · exact h1
    · have := hSa e h1
      have h3 : Sm (rf s.R) (e + 1) = Sm (rf s.R) e + rf s.R e := rfl
      have := hov e he
      omega
  have hga : gT (rf s.R) σ a = rf s.R a := by
    have := hov a (by omega)
    unfold gT; rw [hSa a (Nat.le_refl _)]; omega
  have hgle : ∀ i, gT (rf s.R) σ i ≤ rf s.R i := fun i => by unfold gT; omega
  have hSe : Sm (rf s.R) (e + 1) = Sm (rf s.R) e + rf s.R e := rfl
  have hge : gT (rf s.R) σ e = σ - Sm (rf s.R) e := by unfold gT; omega
  have hgb : ∀ i, i < e → gT (rf s.R) σ i = rf s.R i := fun i hi => by
    have h1 : Sm (rf s.R) (i + 1) ≤ Sm (rf s.R) e := Sm_mono (by omega)
    have h2 : Sm (rf s.R) (i + 1) = Sm (rf s.R) i + rf s.R i := rfl
    unfold gT; omega
  have hgu : ∀ i, e < i → gT (rf s.R) σ i = 0 := fun i hi => by
    have h1 : Sm (rf s.R) (e + 1) ≤ Sm (rf s.R) i := Sm_mono (by omega)
    unfold gT; omega
  have hrm : ∀ c : Nat, c < 16 → 0 < rf s.R c → s.p.has c = true := fun c hc h0 => room_pos (by have := h.rooms c hc; omega)
  have hcnt := chL_cnt (f := f) (R := rf s.R) hf ht (show σ ≤ f by omega)
  have hat := chL_at (f := f) (R := rf s.R) hf ht (show σ ≤ f by omega)
  have hpw := chL_pw f (rf s.R) σ s.t 16
  have hSm : min σ (Sm (rf s.R) 16) = σ := by rw [Sm_len hl]; omega
  have hmem : ∀ i, i < 16 → gT (rf s.R) σ i ≠ 0 → ∃ y ∈ x.pieces, y.core = (i : Int) := fun i hi h0 => by
    refine ⟨⟨i, roundB f (nx f s.t (Sm (rf s.R) i)) (gT (rf s.R) σ i)⟩, ?_, rfl⟩
    rw [hx]
    refine chL_mem.2 ⟨i, hi, ?_⟩
    unfold chP; rw [if_neg h0]
  have h2p : 2 ≤ x.pieces.length := by
    obtain ⟨y, hy, hy'⟩ := hmem a (by omega) (by omega)
    obtain ⟨z, hz, hz'⟩ := hmem e he (by omega)
    exact two_mem hy hz fun e' => by rw [e'] at hy'; omega
  have hnil : x.pieces ≠ [] := fun e' => by rw [e'] at h2p; simp at h2p
  have hsplit : x.split = true := by
    cases hs' : x.split with
    | true => rfl
    | false => exact absurd (nil_split.2 hs') hnil
  have hatx : ∀ c : Nat, c < 16 → ∀ τ : Nat, τ < 64 → x.at c τ = if τ < f ∧ Sm (rf s.R) c ≤ phase f s.t τ ∧ phase f s.t τ < Sm (rf s.R) c + gT (rf s.R) σ c then 1 else 0 := fun c hc τ hτ => by
    have h1 := hat c τ hτ 16
    have e1 : decide ((c : Int) < 0) = false := decide_eq_false (Int.not_lt.2 (Int.natCast_nonneg c))
    unfold Place.at
    rw [hx]
    simp only [e1, Bool.false_or]
    rw [h1]
    simp only [hc, true_and]
  have hok : x.ok s.p := by
    refine ⟨by rw [hx]; exact hu, by rw [hx]; show 1 ≤ w.share; omega, by rw [hx, h.frame]; show w.share ≤ _; omega, ?_⟩
    rw [if_neg hnil]
    refine ⟨fun y hy => ?_, ?_, fun τ hτ => ?_, h2p, by rw [hx], ?_⟩
    · rw [hx] at hy
      obtain ⟨j, hj', hy'⟩ := chL_mem.1 hy
      obtain ⟨q1, q2, _⟩ := chP_core hy'
      have := hgle j
      refine ⟨by rw [q1]; exact hrm j hj' (by omega), ?_⟩
      have hx' := nx_lt (f := f) (c := s.t) (m := Sm (rf s.R) j) ht (by unfold gT at q2; omega)
      rw [ne_zero]
      refine ⟨nx f s.t (Sm (rf s.R) j), by omega, ?_⟩
      rw [chP_has hf ht (by omega) hy' _ (by omega)]
      have h5 := (phase_eq (f := f) (c := s.t) (n := Sm (rf s.R) j) ht (by unfold gT at q2; omega) hx').2 rfl
      simp only [decide_eq_true_eq]
      omega
    · rw [hx]; exact hpw
    · have h1 := hcnt τ hτ 16
      rw [hSm] at h1
      have e1 : x.cnt τ = if τ < f ∧ phase f s.t τ < σ then 1 else 0 := by rw [hx]; exact h1
      rw [e1, h.frame]
      split <;> omega
    · have e1 : sumTo x.cnt 64 = σ := by
        rw [sumTo_congr (h := fun τ => if τ < f ∧ phase f s.t τ < σ then 1 else 0) fun τ hτ => ?_, sum_phase hf ht σ (by omega)]
        have h1 := hcnt τ hτ 16
        rw [hSm] at h1
        rw [hx]; exact h1
      rw [e1, hx]; exact hσ.symm
  have hxu : x.unit = w.unit := by rw [hx]
  have hld : ∀ c : Nat, c < 16 → x.ld c = (gT (rf s.R) σ c : Nat) := fun c hc => by
    unfold Place.ld Place.wholeAt
    rw [hsplit]
    simp only [Bool.not_true, Bool.false_and, Bool.false_eq_true, if_false, Int.add_zero]
    congr 1
    by_cases h0 : gT (rf s.R) σ c = 0
    · rw [sumTo_congr (h := fun _ => 0) fun τ hτ => ?_, sumTo_const, h0]
      rw [hatx c hc τ hτ, if_neg (by omega)]
    · have hle : Sm (rf s.R) c + gT (rf s.R) σ c ≤ f := by unfold gT at h0 ⊢; omega
      rw [sumTo_congr (h := fun τ => if τ < f ∧ phase f (nx f s.t (Sm (rf s.R) c)) τ < gT (rf s.R) σ c then 1 else 0) fun τ hτ => ?_, sum_phase hf (nx_lt ht (by omega)) _ (by omega)]
      rw [hatx c hc τ hτ]
      by_cases hτf : τ < f
      · have := phase_nx (n := gT (rf s.R) σ c) ht hle hτf
        simp only [hτf, true_and]
        exact ifc this.symm
      · rw [if_neg (by omega), if_neg (by omega)]
  have hhas : ∀ c : Int, s.p.has c = true → ∃ d : Nat, d < 16 ∧ c = d := fun c hc => by
    have := has_range hc
    exact ⟨c.toNat, by omega, by omega⟩
  have hfew : s.p.splits + 1 ≤ (List.range e).countP fun j : Nat => s.p.has j := by
    have h1 : (List.range a).countP (fun j : Nat => s.p.has j) + 1 ≤ (List.range e).countP fun j : Nat => s.p.has j := countP_lt (q := fun j : Nat => s.p.has j) hae (hrm a (by omega) hRa)
    rcases h.few with h0 | ⟨e0, _, _, h3, h4⟩
    · omega
    · have h5 : e0 ≤ a := by
        rcases Nat.lt_or_ge a e0 with h6 | h6
        · have := h3 a h6; omega
        · exact h6
      have := countP_le (q := fun j : Nat => s.p.has j) h5
      omega
  have hhe : s.p.has e = true := hrm e he (by have := hgle e; omega)
  have hright : (s.p.ins x).right := by
    refine right_ins h.right (fun y hy => by rw [hxu]; exact hnew y hy) hok (fun c hc τ hτ => ?_) ?_ (fun c hc => ?_)
    · rw [hatx c hc τ hτ]
      split
      · rename_i hh
        have hRc := hgle c
        have hRc' : 0 < rf s.R c := by omega
        rcases Nat.lt_or_ge a c with h1 | h1
        · rw [h.later a c h1 hc hRa τ hτ]; omega
        · have hca : c = a := by
            rcases Nat.lt_or_ge c a with h2 | h2
            · have := hzj c h2; omega
            · omega
          subst hca
          obtain ⟨n, hn⟩ := h.win c hc hRc'
          rw [hn τ hτ, if_neg]
          · omega
          rintro ⟨_, h6⟩
          -- the windows that are there, and the room
          have hro := h.rooms c hc
          have hload := h.right.load_sum (hrm c hc hRc')
          have hload2 : s.p.load c = popN (s.p.windows c) 64 + shareSum (s.p.wholes c) := rfl
          have hpop : popN (s.p.windows c) 64 = sumTo (fun τ => s.p.atc c τ) 64 := popN_windows s.p (by omega) fun t ht => h.right.apart c hc t ht
          have hn' : sumTo (fun τ : Nat => s.p.atc c τ) 64 = sumTo (fun τ => if τ < f ∧ phase f (nx f s.t (f - min n f)) τ < min n f then 1 else 0) 64 := sumTo_congr fun τ hτ => by
            rw [hn τ hτ]
            by_cases hτf : τ < f
            · have h7 := phase_nx (f := f) (c := s.t) (m := f - min n f) (n := min n f) ht (by omega) hτf
              have h8 := phase_lt ht hτf
              simp only [hτf, true_and]
              refine ifc ?_
              rw [h7]; omega
            · rw [if_neg (by omega), if_neg (by omega)]
          rw [sum_phase hf (nx_lt ht (by omega)) _ (by omega)] at hn'
          have hsw : 0 ≤ shareSum (s.p.wholes c) := by
            rw [shareSum_wholes]
            refine sumI_nonneg fun y hy => ?_
            have := (h.right.ok y hy).2.1
            split <;> omega
          have hroom : s.p.room c = s.p.frame - s.p.load c := by unfold Plan.room; rw [if_pos (hrm c hc hRc')]
          have := h.frame
          rw [hga, hSa c (Nat.le_refl _)] at hh
          omega
      · have := h.right.apart c hc τ hτ; omega
    · rw [hsplit, if_pos rfl, coresI_len']
      have : (List.range e).countP (fun j : Nat => s.p.has j) + 1 ≤ (List.range 16).countP fun j : Nat => s.p.has j := countP_lt (q := fun j : Nat => s.p.has j) he hhe
      omega
    · obtain ⟨d, hd, rfl⟩ := hhas c hc
      rw [hld d hd]
      have h1 := h.rooms d hd
      have h2 := hgle d
      unfold Plan.room at h1
      rw [if_pos hc] at h1
      omega
  refine ⟨x, rfl, by rw [hstep], hxp, by rw [hx]; rfl, hsplit, by rw [hx]; exact chL_len _ _ _ _ _, ?_, fun j => ?_, ?_⟩
  · rw [hstep]
    refine ⟨hright, h.frame, hP.len, fun c hc => ?_, ?_, hP.core, hP.zero, fun c hc h0 => ?_, fun c d hcd hd h0 τ hτ => ?_, .inr ⟨e, he, hhe, fun j hj' => ?_, ?_⟩⟩
    · show ((rf r.1 c : Nat) : Int) = (s.p.ins x).room c
      rw [hP.rooms c]
      have h1 := h.rooms c hc
      have h2 := hgle c
      by_cases hh : s.p.has c = true
      · rw [room_ins h.right hright hh, hld c hc]
        omega
      · have e1 : s.p.room c = 0 := by unfold Plan.room; rw [if_neg hh]
        have e2 : (s.p.ins x).room c = 0 := by unfold Plan.room; rw [if_neg (show ¬ (s.p.ins x).has c = true from hh)]
        rw [e2]; omega
    · show r.2.2.1 < f
      rw [hP.tick]; exact nx_lt ht (by omega)
    · show ∃ n, ∀ τ : Nat, τ < 64 → (s.p.ins x).atc c τ = if τ < f ∧ f ≤ phase f r.2.2.1 τ + n then 1 else 0
      have h0 : 0 < rf r.1 c := h0
      rw [hP.rooms c] at h0
      have hce : e ≤ c := by
        rcases Nat.lt_or_ge c e with h1 | h1
        · have := hgb c h1; omega
        · exact h1
      rw [hP.tick]
      refine ⟨gT (rf s.R) σ c, fun τ hτ => ?_⟩
      rw [atc_ins, h.later a c (by omega) hc hRa τ hτ, Nat.add_zero, hatx c hc τ hτ]
      by_cases hτf : τ < f
      · simp only [hτf, true_and]
        refine ifc ?_
        have h8 := phase_lt (nx_lt (m := σ) ht (by omega)) hτf
        rcases Nat.lt_or_ge e c with h1 | h1
        · rw [hgu c h1]; omega
        · obtain rfl : c = e := by omega
          rw [hge]
          have h9 := phase_nx (f := f) (c := s.t) (m := Sm (rf s.R) c) (n := σ - Sm (rf s.R) c) ht (by omega) hτf
          have h10 := phase_last (f := f) (c := nx f s.t (Sm (rf s.R) c)) (m := σ - Sm (rf s.R) c) (k := 0) (nx_lt ht (by omega)) (by omega) hτf
          rw [nx_nx ht (by omega), show Sm (rf s.R) c + (σ - Sm (rf s.R) c) = σ by omega] at h10
          have h11 := phase_lt (nx_lt (m := Sm (rf s.R) c) ht (by omega)) hτf
          omega
      · rw [if_neg (by omega), if_neg (by omega)]
    · show (s.p.ins x).atc d τ = 0
      have h0 : 0 < rf r.1 c := h0
      rw [hP.rooms c] at h0
      have hce : e ≤ c := by
        rcases Nat.lt_or_ge c e with h1 | h1
        · have := hgb c h1; omega
        · exact h1
      rw [atc_ins, h.later a d (by omega) hd hRa τ hτ, hatx d hd τ hτ, hgu d (by omega), if_neg (by omega)]
    · show rf r.1 j = 0
      rw [hP.rooms j, hgb j hj']; omega
    · show (s.p.ins x).splits ≤ _
      rw [splits_ins, hsplit, if_pos rfl]
      exact hfew
  · rw [hstep]
    show rf r.1 j ≤ _
    rw [hP.rooms j]; omega
  · rw [hstep, hσ]
    show r.1.sum + σ = s.R.sum
    have e1 : ∀ n, Sm (rf r.1) n + Sm (gT (rf s.R) σ) n = Sm (rf s.R) n := by
      intro n
      induction n with
      | zero => rfl
      | succ n ih =>
        show Sm (rf r.1) n + rf r.1 n + (Sm (gT (rf s.R) σ) n + gT (rf s.R) σ n) = Sm (rf s.R) n + rf s.R n
        have := hgle n
        rw [hP.rooms n]; omega
    have := e1 16
    rw [Sm_gT, hSm, Sm_len hP.len, Sm_len hl] at this
    exact this
end Go.Proofs.Ytjmjolefhcjedaa.Vc
