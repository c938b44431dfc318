/- Pieces along the cores, walked; packed plans. -/
import Derived.Test.YtjmjolefhcjedaaFd
import Derived.Test.YtjmjolefhcjedaaPd
namespace Go.Proofs.Ytjmjolefhcjedaa.Vc
open Go Go.RowKit Go.Proofs.Try
set_option maxRecDepth 20000

/-- The chain: frame, rooms, core, tick. -/
def chTV (f k t : Int) : TV := .a [tI f, .o 1, tI k, tI t]
def rvTV (R : List Nat) : List TV := R.map fun c : Nat => tI c
theorem rvTV_len (R : List Nat) : (rvTV R).length = R.length := List.length_map _
theorem no_mem {P : Nat → Prop} : ∀ d ∈ ([] : List Nat), P d := fun _ h => absurd h List.not_mem_nil
theorem two_some {o : OL} (h0 : lo o 0 ≠ none) (h1 : lo o 1 ≠ none) : ∀ d < 2, lo o d ≠ none := fun d hd => by
  rcases (show d = 0 ∨ d = 1 by omega) with rfl | rfl
  · exact h0
  · exact h1
theorem nodup2 {d e : Nat} (h : d ≠ e) : [d, e].Nodup := by simp [h]
theorem two_someL {o : OL} {d e : Nat} {b c : Ob} (h : lo o d = some b) (h' : lo o e = some c) : ∀ x ∈ [d, e], lo o x ≠ none := by
  intro x hx
  rcases List.mem_cons.1 hx with rfl | hx
  · rw [h]; exact fun h => by cases h
  · obtain rfl := List.mem_singleton.1 hx
    rw [h']; exact fun h => by cases h
theorem len_no2 {o : OL} {d e g : Nat} {b c : Ob} : ∀ j, [e, g].length + j < [b, c].length → lo o (sid d j) = none := by
  intro j hj
  simp at hj
  omega
theorem s158 (f t : Int) (R : List Nat) (k : Nat) (hR : R.length ≤ 16) (hk : k ≤ R.length) : Spec prog 158 [.p 0 0 0] [.var 153 (chTV f k t), .row 3 1 (rvTV R)] (.t []) [.var 153 (chTV f (skipZ R k) t), .row 3 1 (rvTV R)] := by
  have hl : (R.map fun c : Nat => tI c).length = R.length := List.length_map _
  have hskip := fun j => skip_is (R := R) (k := k) (j := j)
  unfold rvTV
  generalize skipZ R k = K at *
  refine spec_o is158 mixed [] rfl rfl rfl (V_x ?_)
  refine V_ms (α := Nat) (fun j => R.length - j) (fun j => Fct (k ≤ j ∧ j ≤ R.length ∧ ∀ x (h : x < R.length), k ≤ x → x < j → R[x] = 0)) (fun j => ([(0, .p 0 0 0)], [(0, .var 153 (chTV f j t)), (1, .row 3 1 (R.map fun c : Nat => tI c))])) k ⟨Nat.le_refl _, hk, fun x _ h1 h2 => by omega⟩ ?_ ?_
  · repeat' (conv => whnf
             first | refine Frz.own ?_ | refine Get.mk _ rfl ?_ | refine Get.mk _ (map_geti (by omega)) ?_ | refine Get.mk _ (map_getp (by omega) (by omega)) ?_ | refine Get.mk _ (map_get (by omega)) ?_ | refine Bv2.mk _ _ rfl rfl ?_ | refine Bv1.mk _ rfl ?_ | refine Wr.mk _ (wrap_i64 (by omega) (by omega)) ?_ | refine Wr.mk _ rfl ?_ | refine And.intro len_map ?_ | refine And.intro (leX_refl _) ?_ | refine And.intro rfl ?_ | refine And.intro (leO_some _) ?_ | (refine And.intro (fun h => absurd h (by decide)) (fun h => ?_); clear h) | (refine And.intro (fun h => ?_) (fun h => absurd h (by decide)); clear h) | (with_reducible first | refine sp1 (fun h => ?_) (fun h => ?_) | refine sp2 (fun h => ?_) (fun h => ?_) | refine sp3 (fun h => ?_) (fun h => ?_) | refine sp4 (fun h => ?_) (fun h => ?_) | refine sp5 (fun h => ?_) (fun h => ?_) | refine sp6 (fun h => ?_) (fun h => ?_)) | with_reducible refine And.intro (fun h => ?_) (fun h => ?_) | refine And.intro (Int.natCast_nonneg _) ?_ | refine And.intro (by omega) ?_ | refine And.intro (by decide) ?_ | refine Lst.mk _ rfl ?_ | refine And.intro trivial ?_ | exact trivial | exact leX_refl _ | refine weak_fr ?_ ?_ rfl | refine And.intro ?_ ?_ | fail)
  rintro j ⟨h1, h2, h3⟩
  refine V_x ?_
  rcases Nat.lt_or_ge j R.length with hlt | hge
  · by_cases h0 : R[j] = 0
    · repeat' (conv => whnf
               first | refine Frz.own ?_ | refine Get.mk _ rfl ?_ | refine Get.mk _ (map_geti (by omega)) ?_ | refine Get.mk _ (map_getp (by omega) (by omega)) ?_ | refine Get.mk _ (map_get (by omega)) ?_ | refine Bv2.mk _ _ rfl rfl ?_ | refine Bv1.mk _ rfl ?_ | refine Wr.mk _ (wrap_i64 (by omega) (by omega)) ?_ | refine Wr.mk _ rfl ?_ | refine And.intro len_map ?_ | refine And.intro (leX_refl _) ?_ | refine And.intro rfl ?_ | refine And.intro (leO_some _) ?_ | (refine And.intro (fun h => absurd h (by decide)) (fun h => ?_); clear h) | (refine And.intro (fun h => ?_) (fun h => absurd h (by decide)); clear h) | (with_reducible first | refine sp1 (fun h => ?_) (fun h => ?_) | refine sp2 (fun h => ?_) (fun h => ?_) | refine sp3 (fun h => ?_) (fun h => ?_) | refine sp4 (fun h => ?_) (fun h => ?_) | refine sp5 (fun h => ?_) (fun h => ?_) | refine sp6 (fun h => ?_) (fun h => ?_)) | with_reducible refine And.intro (fun h => ?_) (fun h => ?_) | refine And.intro (Int.natCast_nonneg _) ?_ | refine And.intro (by omega) ?_ | refine And.intro (by decide) ?_ | refine Lst.mk _ rfl ?_ | refine And.intro trivial ?_ | exact trivial | exact leX_refl _ | refine weak_fr ?_ ?_ rfl | refine And.intro ?_ ?_ | fail)
      all_goals first
        | contradiction
        | (exfalso; omega)
        | skip
      conv => whnf
      refine Exists.intro (j + 1) (And.intro (by omega) (And.intro ⟨by omega, by omega, fun x hx h4 h5 => ?_⟩ ?_))
      · rcases Nat.lt_or_ge x j with h | h
        · exact h3 x hx h4 h
        · have e : x = j := by omega
          subst e; exact h0
      dsimp only
      rw [show ((j + 1 : Nat) : Int) = (j : Int) + 1 by omega]
      repeat' (conv => whnf
               first | refine Frz.own ?_ | refine Get.mk _ rfl ?_ | refine Get.mk _ (map_geti (by omega)) ?_ | refine Get.mk _ (map_getp (by omega) (by omega)) ?_ | refine Get.mk _ (map_get (by omega)) ?_ | refine Bv2.mk _ _ rfl rfl ?_ | refine Bv1.mk _ rfl ?_ | refine Wr.mk _ (wrap_i64 (by omega) (by omega)) ?_ | refine Wr.mk _ rfl ?_ | refine And.intro len_map ?_ | refine And.intro (leX_refl _) ?_ | refine And.intro rfl ?_ | refine And.intro (leO_some _) ?_ | (refine And.intro (fun h => absurd h (by decide)) (fun h => ?_); clear h) | (refine And.intro (fun h => ?_) (fun h => absurd h (by decide)); clear h) | (with_reducible first | refine sp1 (fun h => ?_) (fun h => ?_) | refine sp2 (fun h => ?_) (fun h => ?_) | refine sp3 (fun h => ?_) (fun h => ?_) | refine sp4 (fun h => ?_) (fun h => ?_) | refine sp5 (fun h => ?_) (fun h => ?_) | refine sp6 (fun h => ?_) (fun h => ?_)) | with_reducible refine And.intro (fun h => ?_) (fun h => ?_) | refine And.intro (Int.natCast_nonneg _) ?_ | refine And.intro (by omega) ?_ | refine And.intro (by decide) ?_ | refine Lst.mk _ rfl ?_ | refine And.intro trivial ?_ | exact trivial | exact leX_refl _ | refine weak_fr ?_ ?_ rfl | refine And.intro ?_ ?_ | fail)
      all_goals trace_state
    · rw [hskip j h1 h2 h3 fun _ => h0]
      repeat' (conv => whnf
               first | refine Frz.own ?_ | refine Get.mk _ rfl ?_ | refine Get.mk _ (map_geti (by omega)) ?_ | refine Get.mk _ (map_getp (by omega) (by omega)) ?_ | refine Get.mk _ (map_get (by omega)) ?_ | refine Bv2.mk _ _ rfl rfl ?_ | refine Bv1.mk _ rfl ?_ | refine Wr.mk _ (wrap_i64 (by omega) (by omega)) ?_ | refine Wr.mk _ rfl ?_ | refine And.intro len_map ?_ | refine And.intro (leX_refl _) ?_ | refine And.intro rfl ?_ | refine And.intro (leO_some _) ?_ | (refine And.intro (fun h => absurd h (by decide)) (fun h => ?_); clear h) | (refine And.intro (fun h => ?_) (fun h => absurd h (by decide)); clear h) | (with_reducible first | refine sp1 (fun h => ?_) (fun h => ?_) | refine sp2 (fun h => ?_) (fun h => ?_) | refine sp3 (fun h => ?_) (fun h => ?_) | refine sp4 (fun h => ?_) (fun h => ?_) | refine sp5 (fun h => ?_) (fun h => ?_) | refine sp6 (fun h => ?_) (fun h => ?_)) | with_reducible refine And.intro (fun h => ?_) (fun h => ?_) | refine And.intro (Int.natCast_nonneg _) ?_ | refine And.intro (by omega) ?_ | refine And.intro (by decide) ?_ | refine Lst.mk _ rfl ?_ | refine And.intro trivial ?_ | exact trivial | exact leX_refl _ | refine weak_fr ?_ ?_ rfl | refine And.intro ?_ ?_ | fail)
      all_goals first
        | contradiction
        | (exfalso; omega)
        | rfl
        | exact no_mem
        | exact two_some (fun h => by cases h) (fun h => by cases h)
        | trace_state
  · rw [hskip j h1 h2 h3 fun h => by omega]
    repeat' (conv => whnf
             first | refine Frz.own ?_ | refine Get.mk _ rfl ?_ | refine Get.mk _ (map_geti (by omega)) ?_ | refine Get.mk _ (map_getp (by omega) (by omega)) ?_ | refine Get.mk _ (map_get (by omega)) ?_ | refine Bv2.mk _ _ rfl rfl ?_ | refine Bv1.mk _ rfl ?_ | refine Wr.mk _ (wrap_i64 (by omega) (by omega)) ?_ | refine Wr.mk _ rfl ?_ | refine And.intro len_map ?_ | refine And.intro (leX_refl _) ?_ | refine And.intro rfl ?_ | refine And.intro (leO_some _) ?_ | (refine And.intro (fun h => absurd h (by decide)) (fun h => ?_); clear h) | (refine And.intro (fun h => ?_) (fun h => absurd h (by decide)); clear h) | (with_reducible first | refine sp1 (fun h => ?_) (fun h => ?_) | refine sp2 (fun h => ?_) (fun h => ?_) | refine sp3 (fun h => ?_) (fun h => ?_) | refine sp4 (fun h => ?_) (fun h => ?_) | refine sp5 (fun h => ?_) (fun h => ?_) | refine sp6 (fun h => ?_) (fun h => ?_)) | with_reducible refine And.intro (fun h => ?_) (fun h => ?_) | refine And.intro (Int.natCast_nonneg _) ?_ | refine And.intro (by omega) ?_ | refine And.intro (by decide) ?_ | refine Lst.mk _ rfl ?_ | refine And.intro trivial ?_ | exact trivial | exact leX_refl _ | refine weak_fr ?_ ?_ rfl | refine And.intro ?_ ?_ | fail)
    all_goals first
      | contradiction
      | (exfalso; omega)
      | rfl
      | exact no_mem
      | exact two_some (fun h => by cases h) (fun h => by cases h)
      | trace_state
theorem s159 (f k t n : Nat) (R : List Nat) (hR : R.length ≤ 16) (hk : k < R.length) (hf : 2 ≤ f ∧ f ≤ 64) (ht : t < f) (hn : n ≤ f) (hRk : n ≤ R[k] ∧ R[k] ≤ 64) :
    Spec prog 159 [.p 0 0 0, tI n] [.var 153 (chTV f k t), .row 3 1 (rvTV R)] (⟨k, roundB f t n⟩ : Piece).tv [.var 153 (chTV f k ((t + n) % f : Nat)), .row 3 1 (rvTV (R.set k (R[k] - n)))] := by
  have hl : (R.map fun c : Nat => tI c).length = R.length := List.length_map _
  have h106 := s106 f t n (by omega) (by omega) (by omega) (by omega) (by omega)
  have hmod : ((t : Int) + (n : Int)).tmod (f : Int) = (((t + n) % f : Nat) : Int) := by rw [← Int.natCast_add]; rfl
  have hml : (t + n) % f < f := Nat.mod_lt _ (by omega)
  unfold rvTV
  refine spec_o is159 mixed [] rfl rfl rfl (V_x ?_)
  have hset : (R.map fun c : Nat => tI c).set k (tI (R[k] - n)) = (R.set k (R[k] - n)).map fun c : Nat => tI c := by rw [List.map_set, Int.ofNat_sub hRk.1]
  repeat' (conv => whnf
           first | refine Frz.own ?_ | refine Get.mk _ rfl ?_ | refine Get.mk _ (map_geti (by omega)) ?_ | refine Get.mk _ (map_getp (by omega) (by omega)) ?_ | refine Get.mk _ (map_get (by omega)) ?_ | refine Bv2.mk _ _ rfl rfl ?_ | refine Bv1.mk _ rfl ?_ | refine Wr.mk _ (wrap_i64 (by omega) (by omega)) ?_ | refine Wr.mk _ rfl ?_ | refine And.intro len_map ?_ | refine And.intro (leX_refl _) ?_ | refine And.intro rfl ?_ | refine And.intro (leO_some _) ?_ | (refine And.intro (fun h => absurd h (by decide)) (fun h => ?_); clear h) | (refine And.intro (fun h => ?_) (fun h => absurd h (by decide)); clear h) | (with_reducible first | refine sp1 (fun h => ?_) (fun h => ?_) | refine sp2 (fun h => ?_) (fun h => ?_) | refine sp3 (fun h => ?_) (fun h => ?_) | refine sp4 (fun h => ?_) (fun h => ?_) | refine sp5 (fun h => ?_) (fun h => ?_) | refine sp6 (fun h => ?_) (fun h => ?_)) | with_reducible refine And.intro (fun h => ?_) (fun h => ?_) | refine And.intro (Int.natCast_nonneg _) ?_ | refine And.intro (by omega) ?_ | refine And.intro (by decide) ?_ | refine Lst.mk _ (hset) ?_ | refine Lst.mk _ rfl ?_ | refine Or.inr (Or.inl ⟨_, _, h106, leL_refl _, rfl, rfl, ?_⟩) | refine And.intro trivial ?_ | exact trivial | exact leX_refl _ | refine weak_fr ?_ ?_ rfl | refine And.intro ?_ ?_ | fail)
  all_goals first
    | exact no_mem
    | exact two_some (fun h => by cases h) (fun h => by cases h)
    | rfl
    | (rw [← hmod]; rfl)
    | trace_state
end Go.Proofs.Ytjmjolefhcjedaa.Vc

namespace Go.Proofs.Ytjmjolefhcjedaa.Vc
open Go Go.RowKit Go.Proofs.Try
set_option maxRecDepth 20000

def psV : List Piece → TV
  | [] => .v (.slice none 0 0)
  | _ :: _ => .o 1216
def psO : List Piece → OL
  | [] => []
  | y :: ps => [(1216, .row 116 2 ((y :: ps).map Piece.tv))]
structure Chn (f : Nat) (L : Nat) (S : Nat) (T : List Nat × Nat × Nat × List Piece) (R : List Nat) (k t rest m : Nat) (ps : List Piece) : Prop where
  len : R.length = L
  hk : k ≤ L
  ht : t < f
  all : ∀ c ∈ R, c ≤ 64
  sum : rest ≤ (R.drop k).sum
  fuel : rest ≤ m
  few : ps.length + rest ≤ S
  is : pcsL f m R k t rest ps = T
theorem Chn.step {f L S : Nat} {T : List Nat × Nat × Nat × List Piece} {R : List Nat} {k t rest m : Nat} {ps : List Piece} (h : Chn f L S T R k t rest m ps) (h0 : 0 < rest) (hf : 0 < f) :
    ∃ m' n, ∃ hj : skipZ R k < R.length, n = min rest R[skipZ R k] ∧ 0 < n ∧ n ≤ rest ∧ n ≤ R[skipZ R k] ∧ R[skipZ R k] ≤ 64 ∧
      Chn f L S T (R.set (skipZ R k) (R[skipZ R k] - n)) (skipZ R k) ((t + n) % f) (rest - n) m' (ps ++ [⟨(skipZ R k : Nat), roundB f t n⟩]) := by
  have hk : k ≤ R.length := by have := h.len; have := h.hk; omega
  have hj := skip_lt hk (by have := h.sum; omega)
  obtain ⟨s1, s2, s3, s4⟩ := skip_sum R k hk
  have hne := s4 hj
  obtain ⟨m, rfl⟩ : ∃ m', m = m' + 1 := ⟨m - 1, by have := h.fuel; omega⟩
  have hg : R.getD (skipZ R k) 0 = R[skipZ R k] := by rw [List.getD_eq_getElem?_getD, List.getElem?_eq_getElem hj]; rfl
  obtain ⟨n, hn⟩ : ∃ n, n = min rest R[skipZ R k] := ⟨_, rfl⟩
  have hpos : 0 < R[skipZ R k] := Nat.pos_of_ne_zero hne
  have n1 : 0 < n := by omega
  have n2 : n ≤ rest := by omega
  have n3 : n ≤ R[skipZ R k] := by omega
  refine ⟨m, n, hj, hn, n1, n2, n3, h.all _ (List.getElem_mem hj), ?_, ?_, Nat.mod_lt _ hf, ?_, ?_, ?_, ?_, ?_⟩
  · rw [List.length_set]; exact h.len
  · have := h.len; omega
  · intro c hc
    rcases List.mem_or_eq_of_mem_set hc with h1 | h1
    · exact h.all c h1
    · have := h.all _ (List.getElem_mem hj); omega
  · rw [drop_set_sum hj (by omega), s1]
    have := h.sum; omega
  · have := h.fuel; omega
  · have := h.few
    rw [List.length_append, List.length_cons, List.length_nil]
    omega
  · have := h.is
    unfold pcsL at this
    rw [if_neg (by omega)] at this
    simp only [hg, ← hn] at this
    exact this
end Go.Proofs.Ytjmjolefhcjedaa.Vc

namespace Go.Proofs.Ytjmjolefhcjedaa.Vc
open Go Go.RowKit Go.Proofs.Try
set_option maxRecDepth 20000

set_option maxHeartbeats 8000000 in
theorem s137 (f k t : Nat) (R : List Nat) (w : Want) (hR : R.length ≤ 16) (hk : k ≤ R.length) (hf : 2 ≤ f ∧ f ≤ 64) (ht : t < f) (hw : 1 ≤ w.share ∧ w.share ≤ f) (hRb : ∀ c ∈ R, c ≤ 64) (hsum : w.share ≤ ((R.drop k).sum : Nat)) :
    Spec prog 137 [.p 0 0 0, w.tv] [.var 153 (chTV f k t), .row 3 1 (rvTV R)] (placeC f R k t w).1.tv [.var 153 (chTV f (placeC f R k t w).2.2.1 (placeC f R k t w).2.2.2), .row 3 1 (rvTV (placeC f R k t w).2.1)] := by
  have hl := rvTV_len R
  have h158 := s158 f t R k hR hk
  obtain ⟨s1, s2, s3, s4⟩ := skip_sum R k hk
  have hj := skip_lt hk (by omega)
  have hg : R.getD (skipZ R k) 0 = R[skipZ R k] := by rw [List.getD_eq_getElem?_getD, List.getElem?_eq_getElem hj]; rfl
  have hRj := hRb _ (List.getElem_mem hj)
  unfold placeC
  simp only [hg]
  refine spec_o is137 mixed [] rfl rfl rfl (V_x ?_)
  by_cases hwh : w.share ≤ (R[skipZ R k] : Nat)
  · rw [if_pos hwh]
    generalize skipZ R k = j at *
    have hset : (rvTV R).set j (tI (R[j] - w.share)) = rvTV (R.set j (R[j] - w.share.toNat)) := by
      unfold rvTV
      rw [List.map_set, Int.ofNat_sub (by omega), Int.toNat_of_nonneg (by omega)]
    repeat' (conv => whnf
             first | refine Frz.own ?_ | refine Get.mk _ rfl ?_ | refine Get.mk _ (map_geti (by omega)) ?_ | refine Get.mk _ (map_getp (by omega) (by omega)) ?_ | refine Get.mk _ (map_get (by omega)) ?_ | refine Bv2.mk _ _ rfl rfl ?_ | refine Bv1.mk _ rfl ?_ | refine Wr.mk _ (wrap_i64 (by omega) (by omega)) ?_ | refine Wr.mk _ rfl ?_ | refine And.intro len_map ?_ | refine And.intro (leX_refl _) ?_ | refine And.intro rfl ?_ | refine And.intro (leO_some _) ?_ | (refine And.intro (fun h => absurd h (by decide)) (fun h => ?_); clear h) | (refine And.intro (fun h => ?_) (fun h => absurd h (by decide)); clear h) | (with_reducible first | refine sp1 (fun h => ?_) (fun h => ?_) | refine sp2 (fun h => ?_) (fun h => ?_) | refine sp3 (fun h => ?_) (fun h => ?_) | refine sp4 (fun h => ?_) (fun h => ?_) | refine sp5 (fun h => ?_) (fun h => ?_) | refine sp6 (fun h => ?_) (fun h => ?_)) | with_reducible refine And.intro (fun h => ?_) (fun h => ?_) | refine And.intro (Int.natCast_nonneg _) ?_ | refine And.intro (by omega) ?_ | refine And.intro (by decide) ?_ | refine Lst.mk _ (hset) ?_ | refine Lst.mk _ rfl ?_ | refine Or.inr (Or.inr ⟨[0, 1], false, _, [_, _], h158, fun h => Bool.noConfusion h, nodup2 (by decide), two_someL rfl rfl, fun h => Bool.noConfusion h, len_no2, ?_⟩) | refine And.intro trivial ?_ | exact trivial | exact leX_refl _ | refine weak_fr ?_ ?_ rfl | refine And.intro ?_ ?_ | fail)
    all_goals first
      | (exfalso; omega)
      | exact no_mem
      | exact two_some (fun h => by cases h) (fun h => by cases h)
      | exact leX_refl _
      | exact leT rfl
      | rfl
      | trace_state
  · rw [if_neg hwh]
    repeat' (conv => whnf
             first | refine Frz.own ?_ | refine Get.mk _ rfl ?_ | refine Get.mk _ (map_geti (by omega)) ?_ | refine Get.mk _ (map_getp (by omega) (by omega)) ?_ | refine Get.mk _ (map_get (by omega)) ?_ | refine Bv2.mk _ _ rfl rfl ?_ | refine Bv1.mk _ rfl ?_ | refine Wr.mk _ (wrap_i64 (by omega) (by omega)) ?_ | refine Wr.mk _ rfl ?_ | refine And.intro len_map ?_ | refine And.intro (leX_refl _) ?_ | refine And.intro rfl ?_ | refine And.intro (leO_some _) ?_ | (refine And.intro (fun h => absurd h (by decide)) (fun h => ?_); clear h) | (refine And.intro (fun h => ?_) (fun h => absurd h (by decide)); clear h) | (with_reducible first | refine sp1 (fun h => ?_) (fun h => ?_) | refine sp2 (fun h => ?_) (fun h => ?_) | refine sp3 (fun h => ?_) (fun h => ?_) | refine sp4 (fun h => ?_) (fun h => ?_) | refine sp5 (fun h => ?_) (fun h => ?_) | refine sp6 (fun h => ?_) (fun h => ?_)) | with_reducible refine And.intro (fun h => ?_) (fun h => ?_) | refine And.intro (Int.natCast_nonneg _) ?_ | refine And.intro (by omega) ?_ | refine And.intro (by decide) ?_ | refine Lst.mk _ rfl ?_ | refine Or.inr (Or.inr ⟨[0, 1], false, _, [_, _], h158, fun h => Bool.noConfusion h, nodup2 (by decide), two_someL rfl rfl, fun h => Bool.noConfusion h, len_no2, ?_⟩) | refine And.intro trivial ?_ | exact trivial | exact leX_refl _ | refine weak_fr ?_ ?_ rfl | refine And.intro ?_ ?_ | fail)
    all_goals first
      | (exfalso; omega)
      | skip
    generalize hT : pcsL f w.share.toNat R (skipZ R k) t w.share.toNat [] = T
    refine V_ms (α := List Nat × Nat × Nat × Nat × Nat × List Piece) (fun x => x.2.2.2.1) (fun x => Fct (Chn f R.length w.share.toNat T x.1 x.2.1 x.2.2.1 x.2.2.2.1 x.2.2.2.2.1 x.2.2.2.2.2))
      (fun x => ([(0, .p 0 0 0), (4, .p 80 0 0), (5, .p 96 0 0), (6, tI (x.2.2.2.1 : Nat))], [(0, .var 153 (chTV f x.2.1 x.2.2.1)), (1, .row 3 1 (rvTV x.1)), (80, .var 34 (.a [tI 0, tI 0, tI 0, .v (.slice none 0 0)])), (96, .var 34 (.a [tI w.unit, tI w.share, tI 0, psV x.2.2.2.2.2]))] ++ psO x.2.2.2.2.2))
      (R, skipZ R k, t, w.share.toNat, w.share.toNat, []) ⟨⟨rfl, s3, ht, hRb, by show w.share.toNat ≤ _; rw [s1]; omega, Nat.le_refl _, by simp, hT⟩⟩ ?_ ?_
    · dsimp only [psV, psO]
      rw [show ((w.share.toNat : Nat) : Int) = w.share by omega]
      repeat' (conv => whnf
               first | refine Frz.own ?_ | refine Get.mk _ rfl ?_ | refine Get.mk _ (map_geti (by omega)) ?_ | refine Get.mk _ (map_getp (by omega) (by omega)) ?_ | refine Get.mk _ (map_get (by omega)) ?_ | refine Bv2.mk _ _ rfl rfl ?_ | refine Bv1.mk _ rfl ?_ | refine Wr.mk _ (wrap_i64 (by omega) (by omega)) ?_ | refine Wr.mk _ rfl ?_ | refine And.intro len_map ?_ | refine And.intro (leX_refl _) ?_ | refine And.intro rfl ?_ | refine And.intro (leO_some _) ?_ | (refine And.intro (fun h => absurd h (by decide)) (fun h => ?_); clear h) | (refine And.intro (fun h => ?_) (fun h => absurd h (by decide)); clear h) | (with_reducible first | refine sp1 (fun h => ?_) (fun h => ?_) | refine sp2 (fun h => ?_) (fun h => ?_) | refine sp3 (fun h => ?_) (fun h => ?_) | refine sp4 (fun h => ?_) (fun h => ?_) | refine sp5 (fun h => ?_) (fun h => ?_) | refine sp6 (fun h => ?_) (fun h => ?_)) | with_reducible refine And.intro (fun h => ?_) (fun h => ?_) | refine And.intro (Int.natCast_nonneg _) ?_ | refine And.intro (by omega) ?_ | refine And.intro (by decide) ?_ | refine Lst.mk _ rfl ?_ | refine And.intro trivial ?_ | exact trivial | exact leX_refl _ | refine weak_fr ?_ ?_ rfl | refine And.intro ?_ ?_ | fail)
    rintro ⟨R', k', t', rest, m, ps⟩ ⟨hC⟩
    dsimp only at hC
    dsimp only
    refine V_x ?_
    have hl' := rvTV_len R'
    rcases Nat.eq_zero_or_pos rest with h0 | h0
    · subst h0
      have hTe := hC.is
      rw [pcsL_stop] at hTe
      subst hTe
      cases ps with
      | nil =>
        dsimp only [psV, psO]
        repeat' (conv => whnf
                 first | refine Frz.own ?_ | refine Get.mk _ rfl ?_ | refine Get.mk _ (map_geti (by omega)) ?_ | refine Get.mk _ (map_getp (by omega) (by omega)) ?_ | refine Get.mk _ (map_get (by omega)) ?_ | refine Bv2.mk _ _ rfl rfl ?_ | refine Bv1.mk _ rfl ?_ | refine Wr.mk _ (wrap_i64 (by omega) (by omega)) ?_ | refine Wr.mk _ rfl ?_ | refine And.intro len_map ?_ | refine And.intro (leX_refl _) ?_ | refine And.intro rfl ?_ | refine And.intro (leO_some _) ?_ | (refine And.intro (fun h => absurd h (by decide)) (fun h => ?_); clear h) | (refine And.intro (fun h => ?_) (fun h => absurd h (by decide)); clear h) | (with_reducible first | refine sp1 (fun h => ?_) (fun h => ?_) | refine sp2 (fun h => ?_) (fun h => ?_) | refine sp3 (fun h => ?_) (fun h => ?_) | refine sp4 (fun h => ?_) (fun h => ?_) | refine sp5 (fun h => ?_) (fun h => ?_) | refine sp6 (fun h => ?_) (fun h => ?_)) | with_reducible refine And.intro (fun h => ?_) (fun h => ?_) | refine And.intro (Int.natCast_nonneg _) ?_ | refine And.intro (by omega) ?_ | refine And.intro (by decide) ?_ | refine Lst.mk _ rfl ?_ | refine And.intro trivial ?_ | exact trivial | exact leX_refl _ | refine weak_fr ?_ ?_ rfl | refine And.intro ?_ ?_ | fail)
        all_goals first
          | (exfalso; omega)
          | exact no_mem
          | exact two_some (fun h => by cases h) (fun h => by cases h)
          | exact leX_refl _
          | exact leT rfl
          | rfl
          | trace_state
      | cons y ps =>
        dsimp only [psV, psO]
        repeat' (conv => whnf
                 first | refine Frz.own ?_ | refine Get.mk _ rfl ?_ | refine Get.mk _ (map_geti (by omega)) ?_ | refine Get.mk _ (map_getp (by omega) (by omega)) ?_ | refine Get.mk _ (map_get (by omega)) ?_ | refine Bv2.mk _ _ rfl rfl ?_ | refine Bv1.mk _ rfl ?_ | refine Wr.mk _ (wrap_i64 (by omega) (by omega)) ?_ | refine Wr.mk _ rfl ?_ | refine And.intro len_map ?_ | refine And.intro (leX_refl _) ?_ | refine And.intro rfl ?_ | refine And.intro (leO_some _) ?_ | (refine And.intro (fun h => absurd h (by decide)) (fun h => ?_); clear h) | (refine And.intro (fun h => ?_) (fun h => absurd h (by decide)); clear h) | (with_reducible first | refine sp1 (fun h => ?_) (fun h => ?_) | refine sp2 (fun h => ?_) (fun h => ?_) | refine sp3 (fun h => ?_) (fun h => ?_) | refine sp4 (fun h => ?_) (fun h => ?_) | refine sp5 (fun h => ?_) (fun h => ?_) | refine sp6 (fun h => ?_) (fun h => ?_)) | with_reducible refine And.intro (fun h => ?_) (fun h => ?_) | refine And.intro (Int.natCast_nonneg _) ?_ | refine And.intro (by omega) ?_ | refine And.intro (by decide) ?_ | refine Lst.mk _ rfl ?_ | refine And.intro trivial ?_ | exact trivial | exact leX_refl _ | refine weak_fr ?_ ?_ rfl | refine And.intro ?_ ?_ | fail)
        all_goals first
          | (exfalso; omega)
          | exact no_mem
          | exact two_some (fun h => by cases h) (fun h => by cases h)
          | exact leX_refl _
          | exact leT rfl
          | rfl
          | trace_state
    · have hkl := hC.hk
      have hln := hC.len
      have hrs := hC.few
      obtain ⟨m', n, hj', hn, n1, n2, n3, n4, hC'⟩ := hC.step h0 (by omega)
      have h158' := s158 f t' R' k' (by omega) (by omega)
      have h159 := s159 f (skipZ R' k') t' n R' (by omega) hj' hf hC.ht (by omega) ⟨n3, n4⟩
      generalize skipZ R' k' = j' at *
      have hmin : (n : Int) = min (rest : Int) (R'[j'] : Nat) := by omega
      have h159 : Spec prog 159 [.p 0 0 0, tI (min (rest : Int) (R'[j'] : Nat))] [.var 153 (chTV f j' t'), .row 3 1 (rvTV R')] (⟨j', roundB f t' n⟩ : Piece).tv [.var 153 (chTV f j' ((t' + n) % f : Nat)), .row 3 1 (rvTV (R'.set j' (R'[j'] - n)))] := by rw [← hmin]; exact h159
      have hfew := hrs
      cases ps with
      | nil =>
        dsimp only [psV, psO]
        repeat' (conv => whnf
                 first | refine (Frz.frz ?_ : Frz 74 _ _) | refine Frz.own ?_ | refine Get.mk _ rfl ?_ | refine Get.mk _ (map_geti (by omega)) ?_ | refine Get.mk _ (map_getp (by omega) (by omega)) ?_ | refine Get.mk _ (map_get (by omega)) ?_ | refine Bv2.mk _ _ rfl rfl ?_ | refine Bv1.mk _ rfl ?_ | refine Wr.mk _ (wrap_i64 (by omega) (by omega)) ?_ | refine Wr.mk _ rfl ?_ | refine And.intro len_map ?_ | refine And.intro (leX_refl _) ?_ | refine And.intro rfl ?_ | refine And.intro (leO_some _) ?_ | (refine And.intro (fun h => absurd h (by decide)) (fun h => ?_); clear h) | (refine And.intro (fun h => ?_) (fun h => absurd h (by decide)); clear h) | (with_reducible first | refine sp1 (fun h => ?_) (fun h => ?_) | refine sp2 (fun h => ?_) (fun h => ?_) | refine sp3 (fun h => ?_) (fun h => ?_) | refine sp4 (fun h => ?_) (fun h => ?_) | refine sp5 (fun h => ?_) (fun h => ?_) | refine sp6 (fun h => ?_) (fun h => ?_)) | with_reducible refine And.intro (fun h => ?_) (fun h => ?_) | refine And.intro (Int.natCast_nonneg _) ?_ | refine And.intro (by omega) ?_ | refine And.intro (by decide) ?_ | refine Lst.mk _ rfl ?_ | refine Or.inr (Or.inr ⟨[0, 1], false, _, [_, _], h158', fun h => Bool.noConfusion h, nodup2 (by decide), two_someL rfl rfl, fun h => Bool.noConfusion h, len_no2, ?_⟩) | refine Or.inr (Or.inr ⟨[0, 1], false, _, [_, _], h159, fun h => Bool.noConfusion h, nodup2 (by decide), two_someL rfl rfl, fun h => Bool.noConfusion h, len_no2, ?_⟩) | refine And.intro trivial ?_ | exact trivial | exact leX_refl _ | refine weak_fr ?_ ?_ rfl | refine And.intro ?_ ?_ | fail)
        all_goals first
          | (exfalso; omega)
          | (simp only [List.length_cons, List.length_nil]; omega)
          | skip
        all_goals (rw [← hmin])
        all_goals (conv => whnf)
        all_goals
          refine Exists.intro (R'.set j' (R'[j'] - n), j', (t' + n) % f, rest - n, m', ([] : List Piece) ++ [(⟨(j' : Nat), roundB f t' n⟩ : Piece)]) (And.intro (by show rest - n < rest; omega) (And.intro (Fct.mk hC') ?_))
          dsimp only [psV, psO, List.nil_append, List.cons_append]
          repeat' (conv => whnf
                   first | refine Frz.own ?_ | refine Get.mk _ rfl ?_ | refine Get.mk _ (map_geti (by omega)) ?_ | refine Get.mk _ (map_getp (by omega) (by omega)) ?_ | refine Get.mk _ (map_get (by omega)) ?_ | refine Bv2.mk _ _ rfl rfl ?_ | refine Bv1.mk _ rfl ?_ | refine Wr.mk _ (wrap_i64 (by omega) (by omega)) ?_ | refine Wr.mk _ rfl ?_ | refine And.intro len_map ?_ | refine And.intro (leX_refl _) ?_ | refine And.intro rfl ?_ | refine And.intro (leO_some _) ?_ | (refine And.intro (fun h => absurd h (by decide)) (fun h => ?_); clear h) | (refine And.intro (fun h => ?_) (fun h => absurd h (by decide)); clear h) | (with_reducible first | refine sp1 (fun h => ?_) (fun h => ?_) | refine sp2 (fun h => ?_) (fun h => ?_) | refine sp3 (fun h => ?_) (fun h => ?_) | refine sp4 (fun h => ?_) (fun h => ?_) | refine sp5 (fun h => ?_) (fun h => ?_) | refine sp6 (fun h => ?_) (fun h => ?_)) | with_reducible refine And.intro (fun h => ?_) (fun h => ?_) | refine And.intro (Int.natCast_nonneg _) ?_ | refine And.intro (by omega) ?_ | refine And.intro (by decide) ?_ | refine Lst.mk _ rfl ?_ | refine And.intro trivial ?_ | exact trivial | exact leX_refl _ | refine weak_fr ?_ ?_ rfl | refine And.intro ?_ ?_ | fail)
        all_goals first
          | (refine rowO ?_; simp only [List.map_append, List.map_cons, List.map_nil, List.nil_append, List.cons_append]; rfl)
          | (refine leI ?_; omega)
          | trace_state
      | cons y ps =>
        dsimp only [psV, psO]
        simp only [List.length_cons] at hfew
        repeat' (conv => whnf
                 first | refine (Frz.frz ?_ : Frz 74 _ _) | refine Frz.own ?_ | refine Get.mk _ rfl ?_ | refine Get.mk _ (map_geti (by omega)) ?_ | refine Get.mk _ (map_getp (by omega) (by omega)) ?_ | refine Get.mk _ (map_get (by omega)) ?_ | refine Bv2.mk _ _ rfl rfl ?_ | refine Bv1.mk _ rfl ?_ | refine Wr.mk _ (wrap_i64 (by omega) (by omega)) ?_ | refine Wr.mk _ rfl ?_ | refine And.intro len_map ?_ | refine And.intro (leX_refl _) ?_ | refine And.intro rfl ?_ | refine And.intro (leO_some _) ?_ | (refine And.intro (fun h => absurd h (by decide)) (fun h => ?_); clear h) | (refine And.intro (fun h => ?_) (fun h => absurd h (by decide)); clear h) | (with_reducible first | refine sp1 (fun h => ?_) (fun h => ?_) | refine sp2 (fun h => ?_) (fun h => ?_) | refine sp3 (fun h => ?_) (fun h => ?_) | refine sp4 (fun h => ?_) (fun h => ?_) | refine sp5 (fun h => ?_) (fun h => ?_) | refine sp6 (fun h => ?_) (fun h => ?_)) | with_reducible refine And.intro (fun h => ?_) (fun h => ?_) | refine And.intro (Int.natCast_nonneg _) ?_ | refine And.intro (by omega) ?_ | refine And.intro (by decide) ?_ | refine Lst.mk _ rfl ?_ | refine Or.inr (Or.inr ⟨[0, 1], false, _, [_, _], h158', fun h => Bool.noConfusion h, nodup2 (by decide), two_someL rfl rfl, fun h => Bool.noConfusion h, len_no2, ?_⟩) | refine Or.inr (Or.inr ⟨[0, 1], false, _, [_, _], h159, fun h => Bool.noConfusion h, nodup2 (by decide), two_someL rfl rfl, fun h => Bool.noConfusion h, len_no2, ?_⟩) | refine And.intro trivial ?_ | exact trivial | exact leX_refl _ | refine weak_fr ?_ ?_ rfl | refine And.intro ?_ ?_ | fail)
        all_goals first
          | (exfalso; omega)
          | (simp only [List.length_map, List.length_cons, List.length_nil]; omega)
          | skip
        all_goals (rw [← hmin])
        all_goals (conv => whnf)
        all_goals
          refine Exists.intro (R'.set j' (R'[j'] - n), j', (t' + n) % f, rest - n, m', (y :: ps) ++ [(⟨(j' : Nat), roundB f t' n⟩ : Piece)]) (And.intro (by show rest - n < rest; omega) (And.intro (Fct.mk hC') ?_))
          dsimp only [psV, psO, List.nil_append, List.cons_append]
          repeat' (conv => whnf
                   first | refine Frz.own ?_ | refine Get.mk _ rfl ?_ | refine Get.mk _ (map_geti (by omega)) ?_ | refine Get.mk _ (map_getp (by omega) (by omega)) ?_ | refine Get.mk _ (map_get (by omega)) ?_ | refine Bv2.mk _ _ rfl rfl ?_ | refine Bv1.mk _ rfl ?_ | refine Wr.mk _ (wrap_i64 (by omega) (by omega)) ?_ | refine Wr.mk _ rfl ?_ | refine And.intro len_map ?_ | refine And.intro (leX_refl _) ?_ | refine And.intro rfl ?_ | refine And.intro (leO_some _) ?_ | (refine And.intro (fun h => absurd h (by decide)) (fun h => ?_); clear h) | (refine And.intro (fun h => ?_) (fun h => absurd h (by decide)); clear h) | (with_reducible first | refine sp1 (fun h => ?_) (fun h => ?_) | refine sp2 (fun h => ?_) (fun h => ?_) | refine sp3 (fun h => ?_) (fun h => ?_) | refine sp4 (fun h => ?_) (fun h => ?_) | refine sp5 (fun h => ?_) (fun h => ?_) | refine sp6 (fun h => ?_) (fun h => ?_)) | with_reducible refine And.intro (fun h => ?_) (fun h => ?_) | refine And.intro (Int.natCast_nonneg _) ?_ | refine And.intro (by omega) ?_ | refine And.intro (by decide) ?_ | refine Lst.mk _ rfl ?_ | refine And.intro trivial ?_ | exact trivial | exact leX_refl _ | refine weak_fr ?_ ?_ rfl | refine And.intro ?_ ?_ | fail)
        all_goals first
          | (refine rowO ?_; simp only [List.map_append, List.map_cons, List.map_nil, List.cons_append]; rfl)
          | (refine leI ?_; omega)
          | trace_state
end Go.Proofs.Ytjmjolefhcjedaa.Vc

namespace Go.Proofs.Ytjmjolefhcjedaa.Vc
/-! The whole chain, and the packed plan. -/

theorem sumN_zero : ∀ {l : List Nat}, (∀ a ∈ l, a = 0) → l.sum = 0
  | [], _ => rfl
  | a :: l, h => by
    rw [List.sum_cons, h a (by simp), sumN_zero fun b hb => h b (by simp [hb])]
theorem atc_none {p : Plan} (h : ∀ x ∈ p.places, x.pieces = []) (c t : Int) : p.atc c t = 0 := by
  unfold Plan.atc
  rw [sumN_zero]
  intro a ha
  obtain ⟨x, hx, rfl⟩ := List.mem_map.1 ha
  exact at_nil (h x hx) c t
theorem splits_none {p : Plan} (h : ∀ x ∈ p.places, x.pieces = []) : p.splits = 0 := by
  unfold Plan.splits
  rw [List.countP_eq_zero]
  intro x hx
  rw [nil_split.1 (h x hx)]; simp
theorem rf_rooms (p : Plan) {c : Nat} (hc : c < 16) : rf (roomsC p) c = (p.room c).toNat := by
  unfold roomsC
  rw [rf_lt (by simpa using hc)]
  simp
theorem room_nonneg {p : Plan} (h : p.right) (c : Int) : 0 ≤ p.room c := by
  unfold Plan.room
  split
  · rename_i hc
    have := h.room c (mem_coresI.2 hc)
    omega
  · omega
theorem Lnk.start {p : Plan} (h : p.right) (h0 : ∀ x ∈ p.places, x.pieces = []) : Lnk p.frame.toNat ⟨p, roomsC p, 0, 0⟩ := by
  have h1 := h.lo
  refine ⟨h, by show p.frame = _; omega, by simp [roomsC], fun c hc => ?_, by show 0 < _; omega, Nat.zero_le _, fun j hj => absurd hj (Nat.not_lt_zero _), fun c hc _ => ⟨0, fun τ _ => ?_⟩, fun c d _ _ _ τ _ => atc_none h0 _ _, .inl (splits_none h0)⟩
  · show ((rf (roomsC p) c : Nat) : Int) = p.room c
    rw [rf_rooms p hc]
    have := room_nonneg h c
    omega
  · show p.atc c τ = _
    rw [atc_none h0, if_neg]
    rintro ⟨h2, h3⟩
    dsimp only at h2 h3
    have := phase_lt (f := p.frame.toNat) (c := 0) (by omega) h2
    omega
theorem cast_sumN {α : Type} (l : List α) (g : α → Nat) : ((l.map g).sum : Int) = (l.map fun a => ((g a : Nat) : Int)).sum := by
  induction l with
  | nil => rfl
  | cons a l ih => simp only [List.map_cons, List.sum_cons]; omega
theorem sum_filter {l : List Int} {q : Int → Bool} {g : Int → Int} (h : ∀ a ∈ l, q a = false → g a = 0) : ((l.filter q).map g).sum = (l.map g).sum := by
  induction l with
  | nil => rfl
  | cons a l ih =>
    have ih := ih fun b hb => h b (by simp [hb])
    rw [List.filter_cons]
    cases hq : q a with
    | true => simp only [if_true, List.map_cons, List.sum_cons, ih]
    | false =>
      have := h a (by simp) hq
      simp only [Bool.false_eq_true, if_false, List.map_cons, List.sum_cons, ih]
      omega
theorem rooms_sum {p : Plan} {R : List Nat} (hl : R.length = 16) (h : ∀ c : Nat, c < 16 → ((rf R c : Nat) : Int) = p.room c) : ((R.sum : Nat) : Int) = (p.coresI.map p.room).sum := by
  unfold Plan.coresI
  rw [sum_filter fun a _ hq => by unfold Plan.room; rw [if_neg (by simp [hq])], List.map_map]
  have e : R = (List.range 16).map fun c => rf R c := by
    refine List.ext_getElem (by simp [hl]) fun i h1 h2 => ?_
    simp [rf_lt h1]
  conv => lhs; rw [e]
  rw [cast_sumN]
  congr 1
  refine List.map_congr_left fun c hc => ?_
  exact h c (List.mem_range.1 hc)
/-- What is so behind the chain. -/
structure Chained (p : Plan) (l : List Want) (s : Ch) : Prop where
  lnk : Lnk p.frame.toNat s
  cores : s.p.cores = p.cores
  len : s.p.places.length = p.places.length + l.length
  mem : ∀ x ∈ s.p.places, x ∈ p.places ∨ (x.want ∈ l ∧ x.split = true ∧ x.pieces.length ≤ 16)
  keep : ∀ x ∈ p.places, x ∈ s.p.places
  put : ∀ w ∈ l, ∃ x ∈ s.p.places, x.want = w ∧ x.split = true
  less : ∀ j, rf s.R j ≤ rf (roomsC p) j
  sum : ((s.R.sum : Nat) : Int) + shareSum l = ((roomsC p).sum : Nat)
theorem chain_snoc (p : Plan) (l : List Want) (w : Want) : p.chain (l ++ [w]) = (p.chain l).step p.frame.toNat w := by
  unfold Plan.chain; rw [List.foldl_append]; rfl
theorem chain_next {p : Plan} {l : List Want} {w : Want} (hp : p.right) (_h0 : ∀ x ∈ p.places, x.pieces = []) (ih : Chained p l (p.chain l)) (hW : WantsFor p (l ++ [w])) (hov : ∀ c, p.room c < w.share) (hsum : shareSum (l ++ [w]) ≤ ((roomsC p).sum : Nat)) :
    ∃ x, Next p.frame.toNat (p.chain l) w x ((p.chain l).step p.frame.toNat w) := by
  have hw := hW.ok w (by simp)
  have hlo := hp.lo
  have hpw := List.pairwise_append.1 hW.nd
  rw [shareSum_snoc] at hsum
  have h1 := ih.sum
  refine ih.lnk.next hw.1 ⟨hw.2.1, by omega⟩ (fun x hx => ?_) (fun c hc => ?_) (by omega)
  · rcases ih.mem x hx with h | ⟨h, _⟩
    · exact hW.new w (by simp) x h
    · exact hpw.2.2 _ h w (by simp)
  · have h2 := ih.less c
    rw [rf_rooms p hc] at h2
    have h3 := hov c
    have h4 := room_nonneg hp c
    omega
theorem chain_all {p : Plan} (hp : p.right) (h0 : ∀ x ∈ p.places, x.pieces = []) (l : List Want) : WantsFor p l → (∀ w ∈ l, ∀ c, p.room c < w.share) → shareSum l ≤ ((roomsC p).sum : Nat) → Chained p l (p.chain l) := by
  refine snoc_ind (P := fun l => WantsFor p l → (∀ w ∈ l, ∀ c, p.room c < w.share) → shareSum l ≤ ((roomsC p).sum : Nat) → Chained p l (p.chain l)) ?_ ?_ l
  · intro _ _ _
    exact ⟨.start hp h0, rfl, rfl, fun x hx => .inl hx, fun x hx => hx, by simp, fun j => Nat.le_refl _, by simp [shareSum, Plan.chain]⟩
  · intro l w ih hW hov hsum
    have hpw := List.pairwise_append.1 hW.nd
    have hw := hW.ok w (by simp)
    have ih := ih ⟨fun v hv => hW.ok v (List.mem_append.2 (.inl hv)), hpw.1, fun v hv => hW.new v (List.mem_append.2 (.inl hv))⟩ (fun v hv => hov v (List.mem_append.2 (.inl hv))) (by rw [shareSum_snoc] at hsum; omega)
    obtain ⟨x, hx⟩ := chain_next hp h0 ih hW (hov w (by simp)) hsum
    rw [chain_snoc]
    generalize hs' : (p.chain l).step p.frame.toNat w = s' at *
    refine ⟨hx.lnk, by rw [hx.plan]; exact ih.cores, by rw [hx.plan, ins_len, ih.len, List.length_append, List.length_singleton]; omega, fun y hy => ?_, fun y hy => by rw [hx.plan]; exact mem_ins.2 (.inr (ih.keep y hy)), fun v hv => ?_, fun j => Nat.le_trans (hx.less j) (ih.less j), ?_⟩
    · rw [hx.plan] at hy
      rcases mem_ins.1 hy with rfl | hy
      · exact .inr ⟨by rw [hx.want]; simp, hx.split, hx.few⟩
      · rcases ih.mem y hy with h | ⟨h1, h2⟩
        · exact .inl h
        · exact .inr ⟨List.mem_append.2 (.inl h1), h2⟩
    · rw [hx.plan]
      rcases List.mem_append.1 hv with hv | hv
      · obtain ⟨y, h1, h2⟩ := ih.put v hv
        exact ⟨y, mem_ins.2 (.inr h1), h2⟩
      · obtain rfl := List.mem_singleton.1 hv
        exact ⟨x, mem_ins.2 (.inl rfl), hx.want, hx.split⟩
    · have h1 := hx.sum
      have h2 := ih.sum
      rw [shareSum_snoc]
      omega

/-! The packed plan. -/
theorem fit_new {p : Plan} (hp : p.right) (l : List Want) : WantsFor p l → ∀ w ∈ (p.fit l).2, ∀ x ∈ (p.fit l).1.places, x.unit ≠ w.unit := by
  refine snoc_ind (P := fun l => WantsFor p l → ∀ w ∈ (p.fit l).2, ∀ x ∈ (p.fit l).1.places, x.unit ≠ w.unit) ?_ ?_ l
  · intro _ w hw; simp [Plan.fit] at hw
  · intro l w ih hW
    have hpw := List.pairwise_append.1 hW.nd
    have hW' : WantsFor p l := ⟨fun v hv => hW.ok v (List.mem_append.2 (.inl hv)), hpw.1, fun v hv => hW.new v (List.mem_append.2 (.inl hv))⟩
    have ih := ih hW'
    have hF := fit_all hp l hW'
    have e : p.fit (l ++ [w]) = fitS (p.fit l) w := by unfold Plan.fit; rw [List.foldl_append]; rfl
    rw [e]
    generalize p.fit l = s at *
    obtain ⟨q, left⟩ := s
    simp only at ih hF
    unfold fitS
    cases hf : q.firstC w.share with
    | none =>
      simp only
      intro v hv x hx
      rcases List.mem_append.1 hv with hv | hv
      · exact ih v hv x hx
      · obtain rfl := List.mem_singleton.1 hv
        rcases hF.mem x hx with h | ⟨_, u, h2, h3⟩
        · exact hW.new v (by simp) x h
        · have := hpw.2.2 u h2 v (by simp)
          rw [h3] at this
          exact this
    | some c =>
      simp only
      intro v hv x hx
      rw [put_ins] at hx
      rcases mem_ins.1 hx with rfl | hx
      · have := hpw.2.2 v (hF.over v hv).1 w (by simp)
        exact fun h => this h.symm
      · exact ih v hv x (mem_drop.1 hx).1
def Plan.free (p : Plan) : Int := (p.coresI.map p.room).sum
def fullP (f : Int) (B : BitVec 32) (l : List Want) : Plan := (Plan.chain ((⟨f, B, []⟩ : Plan).fit (srtS l)).1 ((⟨f, B, []⟩ : Plan).fit (srtS l)).2).p
open Classical in
/-- Why there is no plan. -/
noncomputable def fullE (f : Int) (B : BitVec 32) (l : List Want) : Int := if (⟨f, B, []⟩ : Plan).right then (if chkW f l ≠ 0 then chkW f l else if f * (⟨f, B, []⟩ : Plan).coresI.length < shareSum l then 12 else 0) else 30
theorem fullE_zero {f : Int} {B : BitVec 32} {l : List Want} (h : fullE f B l = 0) : (⟨f, B, []⟩ : Plan).right ∧ chkW f l = 0 ∧ shareSum l ≤ f * (⟨f, B, []⟩ : Plan).coresI.length := by
  unfold fullE at h
  split at h
  · rename_i hr
    split at h
    · contradiction
    · rename_i hc
      have hc := Classical.not_not.1 hc
      split at h
      · simp at h
      · exact ⟨hr, hc, by omega⟩
  · simp at h
theorem empty_wants {f : Int} {B : BitVec 32} {l : List Want} (h : chkW f l = 0) : WantsFor ⟨f, B, []⟩ l := by
  obtain ⟨_, h2, h3⟩ := chkW_zero h
  exact ⟨h2, h3, by simp⟩
structure Packed (f : Int) (B : BitVec 32) (l : List Want) (q : Plan) (left : List Want) (s : Ch) : Prop where
  fit : Fitted ⟨f, B, []⟩ (srtS l) q left
  whole : ∀ x ∈ q.places, x.pieces = []
  wants : WantsFor q left
  over : ∀ w ∈ left, ∀ c, q.room c < w.share
  sum : shareSum left ≤ ((roomsC q).sum : Nat)
  chain : Chained q left s
  right : s.p.right
  frame : s.p.frame = f
  cores : s.p.cores = B
  len : s.p.places.length = l.length
  few : s.p.splits < (⟨f, B, []⟩ : Plan).coresI.length
  free : s.p.free = f * (⟨f, B, []⟩ : Plan).coresI.length - shareSum l
  has : ∀ w ∈ l, ∃ x ∈ s.p.places, x.want = w
  of : ∀ x ∈ s.p.places, x.want ∈ l ∧ x.pieces.length ≤ 16
theorem packed {f : Int} {B : BitVec 32} {l : List Want} (h : fullE f B l = 0) : Packed f B l ((⟨f, B, []⟩ : Plan).fit (srtS l)).1 ((⟨f, B, []⟩ : Plan).fit (srtS l)).2 (Plan.chain ((⟨f, B, []⟩ : Plan).fit (srtS l)).1 ((⟨f, B, []⟩ : Plan).fit (srtS l)).2) := by
  obtain ⟨hr, hc, hsum⟩ := fullE_zero h
  have hW := (empty_wants (B := B) hc).perm (srtS_perm l)
  have hF := fit_all hr (srtS l) hW
  have hN := fit_new hr (srtS l) hW
  generalize (⟨f, B, []⟩ : Plan).fit (srtS l) = r at *
  obtain ⟨q, left⟩ := r
  simp only at hF hN ⊢
  have hwh : ∀ x ∈ q.places, x.pieces = [] := fun x hx => by
    rcases hF.mem x hx with h | h
    · simp at h
    · exact h.1
  have hfr : q.frame = f := hF.frame
  have hov : ∀ w ∈ left, ∀ c, q.room c < w.share := fun w hw c => by
    obtain ⟨h1, h2⟩ := hF.over w hw
    by_cases hc : q.has c = true
    · exact h2 c hc
    · unfold Plan.room
      rw [if_neg hc]
      have := (hW.ok w h1).2.1
      omega
  -- who is placed is no longer left
  have hWl : WantsFor q left := by
    refine ⟨fun w hw => by rw [hfr]; exact hW.ok w (hF.over w hw).1, hW.nd.sublist hF.sub, hN⟩
  have hci : q.coresI = (⟨f, B, []⟩ : Plan).coresI := coresI_congr hF.cores
  have hrs := rooms_sum (p := q) (R := roomsC q) (by simp [roomsC]) fun c hc => by rw [rf_rooms q hc]; have := room_nonneg hF.right c; omega
  have hs2 := room_sum hF.right hwh
  rw [hci, hfr] at hs2
  rw [hci] at hrs
  have hlo := hF.loads
  simp only [List.map_nil, List.sum_nil] at hlo
  rw [shareSum_perm (srtS_perm l)] at hlo
  have hls : shareSum left ≤ ((roomsC q).sum : Nat) := by
    generalize f * ((⟨f, B, []⟩ : Plan).coresI.length : Int) = M at *
    omega
  have hC := chain_all hF.right hwh left hWl hov hls
  generalize q.chain left = s at *
  have hci' : s.p.coresI = (⟨f, B, []⟩ : Plan).coresI := by rw [← hci]; exact coresI_congr hC.cores
  refine ⟨hF, hwh, hWl, hov, hls, hC, hC.lnk.right, ?_, ?_, ?_, ?_, ?_, fun w hw => ?_, fun x hx => ?_⟩
  · rw [hC.lnk.frame]; have := hF.right.lo; omega
  · rw [hC.cores]; exact hF.cores
  · have h1 := hC.len; have h2 := hF.len; have h3 := srtS_len l
    simp only [List.length_nil] at h2
    omega
  · rw [← hci']; exact hC.lnk.right.few
  · have h1 := rooms_sum hC.lnk.len hC.lnk.rooms
    have h2 := hC.sum
    unfold Plan.free
    generalize f * ((⟨f, B, []⟩ : Plan).coresI.length : Int) = M at *
    omega
  · rcases hF.put w ((srtS_perm l).mem_iff.2 hw) with h1 | ⟨x, h1, _, h2⟩
    · obtain ⟨x, h2, h3, _⟩ := hC.put w h1
      exact ⟨x, h2, h3⟩
    · exact ⟨x, hC.keep x h1, h2⟩
  · rcases hC.mem x hx with h1 | ⟨h1, _, h3⟩
    · rcases hF.mem x h1 with h | ⟨h2, w, h3, h4⟩
      · simp at h
      · rw [← h4]
        exact ⟨(srtS_perm l).mem_iff.1 h3, by rw [h2]; simp⟩
    · exact ⟨(srtS_perm l).mem_iff.1 (hF.over _ h1).1, h3⟩
end Go.Proofs.Ytjmjolefhcjedaa.Vc

namespace Go.Proofs.Ytjmjolefhcjedaa.Vc
/-! What is told of packed plans. -/

theorem sum_swap {α β : Type} (l : List α) (m : List β) (g : α → β → Int) : (l.map fun a => (m.map fun b => g a b).sum).sum = (m.map fun b => (l.map fun a => g a b).sum).sum := by
  induction l with
  | nil =>
    simp only [List.map_nil, List.sum_nil]
    induction m with
    | nil => rfl
    | cons b m ih => rw [List.map_cons, List.sum_cons, ← ih]; rfl
  | cons a l ih =>
    simp only [List.map_cons, List.sum_cons]
    rw [ih]
    clear ih
    induction m with
    | nil => rfl
    | cons b m ih2 => simp only [List.map_cons, List.sum_cons]; omega
theorem coresI_nodup (p : Plan) : p.coresI.Nodup := by
  unfold Plan.coresI
  refine List.Pairwise.filter _ ?_
  rw [List.pairwise_map]
  exact List.Pairwise.imp (fun h e => h (by omega)) List.nodup_range
/-- A number for one core of a list. -/
theorem one_core {l : List Int} (hl : l.Nodup) {c : Int} (hc : c ∈ l) (v : Nat) : (l.map fun d => if c = d then v else 0).sum = v := by
  induction l with
  | nil => simp at hc
  | cons a l ih =>
    rw [List.nodup_cons] at hl
    rw [List.map_cons, List.sum_cons]
    by_cases h : c = a
    · subst h
      have : (l.map fun d => if c = d then v else 0).sum = 0 := by
        rw [sumN_zero]
        intro b hb
        obtain ⟨d, hd, rfl⟩ := List.mem_map.1 hb
        rw [if_neg fun e => hl.1 (by rw [e]; exact hd)]
      rw [if_pos rfl, this]; rfl
    · rw [if_neg h, ih hl.2 (by simpa [h] using hc)]; omega
theorem at_cores {l : List Int} (hl : l.Nodup) (h0 : ∀ c ∈ l, 0 ≤ c) (t : Int) : ∀ ys : List Piece, (∀ y ∈ ys, y.core ∈ l) → (l.map fun c => ys.countP fun y => (decide (c < 0) || decide (y.core = c)) && hasT y.ticks t).sum = ys.countP fun y => hasT y.ticks t
  | [], _ => sumN_zero fun b hb => by
    obtain ⟨_, _, rfl⟩ := List.mem_map.1 hb
    rfl
  | y :: ys, h => by
    have ih := at_cores hl h0 t ys fun z hz => h z (by simp [hz])
    have e : (l.map fun c => (y :: ys).countP fun y => (decide (c < 0) || decide (y.core = c)) && hasT y.ticks t) = l.map fun c => (if y.core = c then (if hasT y.ticks t = true then 1 else 0) else 0) + ys.countP fun y => (decide (c < 0) || decide (y.core = c)) && hasT y.ticks t := by
      refine List.map_congr_left fun c hc => ?_
      have hc0 : decide (c < 0) = false := by have := h0 c hc; simpa using this
      rw [List.countP_cons, hc0, Nat.add_comm]
      congr 1
      by_cases h1 : y.core = c <;> simp [h1]
    have e2 : ∀ (l : List Int) (g h : Int → Nat), (l.map fun c => g c + h c).sum = (l.map g).sum + (l.map h).sum := by
      intro l g h
      induction l with
      | nil => rfl
      | cons a l ih => simp only [List.map_cons, List.sum_cons, ih]; omega
    rw [e, e2, ih, one_core hl (h y (by simp)), List.countP_cons]
    omega
theorem sumTo_list {α : Type} (l : List α) (g : α → Nat → Nat) : ∀ n, (l.map fun a => sumTo (g a) n).sum = sumTo (fun t => (l.map fun a => g a t).sum) n
  | 0 => by
    rw [sumN_zero]
    · rfl
    intro b hb
    obtain ⟨_, _, rfl⟩ := List.mem_map.1 hb
    rfl
  | n + 1 => by
    show (l.map fun a => sumTo (g a) n + g a n).sum = sumTo (fun t => (l.map fun a => g a t).sum) n + (l.map fun a => g a n).sum
    rw [← sumTo_list l g n]
    induction l with
    | nil => rfl
    | cons a l ih => simp only [List.map_cons, List.sum_cons, ih]; omega
/-- What a place takes of all cores is its share. -/
theorem ld_cores {p : Plan} {x : Place} (h : x.ok p) : (p.coresI.map fun c => x.ld c).sum = x.share := by
  have hn := coresI_nodup p
  by_cases hp : x.pieces = []
  · have hc : p.has x.core = true := by have := h.2.2.2; rwa [if_pos hp] at this
    have e : (p.coresI.map fun c => x.ld c) = p.coresI.map fun c => if x.core = c then x.share else 0 := List.map_congr_left fun c _ => ld_whole hp c
    rw [e]
    have h1 := one_core hn (mem_coresI.2 hc) x.share.toNat
    have h2 := h.2.1
    have e2 : ((p.coresI.map fun c => if x.core = c then x.share.toNat else 0).sum : Int) = (p.coresI.map fun c => if x.core = c then x.share else 0).sum := by
      rw [cast_sumN]
      congr 1
      refine List.map_congr_left fun c _ => ?_
      split
      · omega
      · rfl
    rw [← e2, h1]; omega
  · have hs : x.sp p := by have := h.2.2.2; rwa [if_neg hp] at this
    have hsp : x.split = true := by
      cases hs' : x.split with
      | true => rfl
      | false => exact absurd (nil_split.2 hs') hp
    have e : (p.coresI.map fun c => x.ld c) = p.coresI.map fun c => ((sumTo (fun t => x.at c t) 64 : Nat) : Int) := List.map_congr_left fun c _ => by
      unfold Place.ld Place.wholeAt
      rw [hsp]; simp
    rw [e, ← cast_sumN, ← hs.2.2.2.2.2]
    congr 1
    rw [sumTo_list]
    refine sumTo_congr fun t _ => ?_
    have h1 := at_cores hn (fun c hc => (has_range (mem_coresI.1 hc)).1) t x.pieces fun y hy => mem_coresI.2 (hs.1 y hy).1
    have h2 : x.cnt t = x.pieces.countP fun y => hasT y.ticks t := by
      unfold Place.cnt Go.Proofs.Ytjmjolefhcjedaa.Vc.cnt Place.masks
      rw [List.countP_map]; rfl
    rw [h2, ← h1]
    rfl
theorem free_sum {p : Plan} (h : p.right) : p.free = p.frame * p.coresI.length - (p.places.map Place.share).sum := by
  unfold Plan.free
  have h1 : (p.coresI.map p.room) = p.coresI.map fun c => p.frame - (p.places.map fun x => x.ld c).sum := List.map_congr_left fun c hc => by
    have hc' := mem_coresI.1 hc
    unfold Plan.room
    rw [if_pos hc', h.load_sum hc']
  have h2 : ∀ (l : List Int) (g : Int → Int), (l.map fun c => p.frame - g c).sum = p.frame * l.length - (l.map g).sum := by
    intro l g
    induction l with
    | nil => simp
    | cons a l ih =>
      simp only [List.map_cons, List.sum_cons, List.length_cons, ih]
      have : p.frame * ((l.length + 1 : Nat) : Int) = p.frame * (l.length : Int) + p.frame := by rw [Int.natCast_add, Int.mul_add]; simp
      omega
  rw [h1, h2, sum_swap]
  congr 2
  exact List.map_congr_left fun x hx => ld_cores (h.ok x hx)
theorem wants_sum (p : Plan) : shareSum p.wants = (p.places.map Place.share).sum := by
  unfold shareSum Plan.wants
  rw [List.map_map]; rfl
theorem free_nonneg {p : Plan} (h : p.right) : 0 ≤ p.free := sumI_nonneg fun c _ => room_nonneg h c
theorem wants_pw {p : Plan} (h : p.right) : p.wants.Pairwise fun a b => a.unit < b.unit := by
  unfold Plan.wants
  rw [List.pairwise_map]
  exact h.pw
theorem empty_of {p : Plan} (h : p.right) : (⟨p.frame, p.cores, []⟩ : Plan).right :=
  ⟨h.lo, h.hi, h.cs, h.cm, by simp, List.Pairwise.nil, fun c _ t _ => by rw [atc_none (by simp)]; omega, Nat.lt_of_le_of_lt (Nat.le_of_eq (splits_none (p := ⟨p.frame, p.cores, []⟩) (by simp))) (by
    have := h.few
    rw [coresI_congr (p := ⟨p.frame, p.cores, []⟩) (q := p) rfl]
    omega), fun c hc => by
    have h1 : (⟨p.frame, p.cores, []⟩ : Plan).load c = 0 := by
      rw [load_sum _ (has_range (mem_coresI.1 hc)).1 fun t _ => by rw [atc_none (by simp)]; omega]; rfl
    rw [h1]
    have := h.lo
    show (0 : Int) ≤ p.frame
    omega⟩
end Go.Proofs.Ytjmjolefhcjedaa.Vc

namespace Go.Proofs.Ytjmjolefhcjedaa.Vc
/-! What the statements ask of packed plans. -/

theorem full_right {f : Int} {B : BitVec 32} {l : List Want} (h : fullE f B l = 0) : (fullP f B l).right := (packed h).right
theorem full_frame {f : Int} {B : BitVec 32} {l : List Want} (h : fullE f B l = 0) : (fullP f B l).frame = f := (packed h).frame
theorem full_cores {f : Int} {B : BitVec 32} {l : List Want} (h : fullE f B l = 0) : (fullP f B l).cores = B := (packed h).cores
theorem full_len {f : Int} {B : BitVec 32} {l : List Want} (h : fullE f B l = 0) : (fullP f B l).places.length = l.length := (packed h).len
theorem full_few {f : Int} {B : BitVec 32} {l : List Want} (h : fullE f B l = 0) : (fullP f B l).splits < (⟨f, B, []⟩ : Plan).coresI.length := (packed h).few
theorem full_free {f : Int} {B : BitVec 32} {l : List Want} (h : fullE f B l = 0) : (fullP f B l).free = f * (⟨f, B, []⟩ : Plan).coresI.length - shareSum l := (packed h).free
theorem full_light {f : Int} {B : BitVec 32} {l : List Want} (h : fullE f B l = 0) (hl : l.length ≤ 100) : (fullP f B l).light := 
  ⟨by rw [full_len h]; omega, fun x hx => by have := ((packed h).of x hx).2; omega⟩
theorem full_find {f : Int} {B : BitVec 32} {l : List Want} (h : fullE f B l = 0) {w : Want} (hw : w ∈ l) : ∃ x, (fullP f B l).find w.unit = some x ∧ x.share = w.share := by
  obtain ⟨x, h1, h2⟩ := (packed h).has w hw
  exact ⟨x, (find_mem (full_right h).pw).2 ⟨h1, by rw [← h2]; rfl⟩, by rw [← h2]; rfl⟩
theorem full_sure {f : Int} {B : BitVec 32} {l : List Want} (h : fullE f B l = 0) (hs : sureW f (⟨f, B, []⟩ : Plan).coresI.length l = true) : (fullP f B l).splits = 0 := by
  obtain ⟨hr, hc, _⟩ := fullE_zero h
  have hW := (empty_wants (B := B) hc).perm (srtS_perm l)
  have hp := srtS_perm l
  unfold sureW at hs
  obtain ⟨_, h1, _, hs⟩ := of_decide_eq_true hs
  have hleft : ((⟨f, B, []⟩ : Plan).fit (srtS l)).2 = [] := by
    rcases hs with rfl | hs
    · rw [show srtS [] = [] by simp [srtS]]; rfl
    · refine fit_sure rfl hr hW (a := maxShare l) (fun w hw => (maxShare_spec l).2.1 w (hp.mem_iff.1 hw)) ?_
      rw [shareSum_perm hp]
      exact hs
  unfold fullP
  rw [hleft]
  exact splits_none (packed h).whole
theorem full_perm {f : Int} {B : BitVec 32} {l m : List Want} (h : l.Perm m) : fullP f B l = fullP f B m := by
  unfold fullP; rw [srtS_congr h]
theorem chk_perm {f : Int} {l m : List Want} (h : l.Perm m) (h0 : chkW f l = 0) : chkW f m = 0 := by
  obtain ⟨h1, h2, h3⟩ := chkW_zero h0
  exact chkW_ok h1 (fun w hw => h2 w (h.mem_iff.2 hw)) ((List.Perm.pairwise_iff (fun h e => h e.symm) h).1 h3)
theorem full_permE {f : Int} {B : BitVec 32} {l m : List Want} (h : l.Perm m) (h0 : fullE f B l = 0) : fullE f B m = 0 := by
  obtain ⟨h1, h2, h3⟩ := fullE_zero h0
  unfold fullE
  rw [if_pos h1, if_neg (by rw [chk_perm h h2]; decide), if_neg (by rw [← shareSum_perm h]; omega)]
theorem again_E {p : Plan} (h : p.right) : fullE p.frame p.cores p.wants = 0 := by
  have h1 := free_sum h
  have h2 := free_nonneg h
  have h3 := wants_sum p
  have hc : chkW p.frame p.wants = 0 := chkW_ok ⟨h.lo, h.hi⟩ (fun w hw => by
    unfold Plan.wants at hw
    obtain ⟨x, hx, rfl⟩ := List.mem_map.1 hw
    have := h.ok x hx
    exact ⟨this.1, this.2.1, this.2.2.1⟩) ((wants_pw h).imp fun h e => by omega)
  unfold fullE
  rw [if_pos (empty_of h), if_neg (by rw [hc]; decide), if_neg]
  rw [coresI_congr (p := ⟨p.frame, p.cores, []⟩) (q := p) rfl]
  generalize p.frame * (p.coresI.length : Int) = M at *
  omega
theorem again_wants {p : Plan} (h : p.right) : (fullP p.frame p.cores p.wants).wants = p.wants := by
  have hE := again_E h
  refine sorted_ext (k := Want.unit) (wants_pw (full_right hE)) (wants_pw h) fun w => ?_
  constructor
  · intro hw
    obtain ⟨x, hx, rfl⟩ := List.mem_map.1 hw
    exact ((packed hE).of x hx).1
  · intro hw
    obtain ⟨x, hx, hx'⟩ := (packed hE).has w hw
    exact List.mem_map.2 ⟨x, hx, hx'⟩

/-! Wants turned round. -/
def turned (l : List Want) (n : Nat) : List Want := (l.drop (n % l.length) ++ l.take (n % l.length)).reverse
theorem turned_perm (l : List Want) (n : Nat) : (turned l n).Perm l := by
  unfold turned
  refine (List.reverse_perm _).trans (List.perm_append_comm.trans ?_)
  rw [List.take_append_drop]
theorem turned_len (l : List Want) (n : Nat) : (turned l n).length = l.length := (turned_perm l n).length_eq
theorem turned_at (l : List Want) (n : Nat) {k : Nat} (hk : k < l.length) : ∃ h : (l.length - 1 - k + n) % l.length < l.length, (turned l n).take (k + 1) = (turned l n).take k ++ [l[(l.length - 1 - k + n) % l.length]] := by
  have hlt : (l.length - 1 - k + n) % l.length < l.length := Nat.mod_lt _ (by omega)
  refine ⟨hlt, ?_⟩
  rw [List.take_succ_eq_append_getElem (by rw [turned_len]; exact hk)]
  congr 2
  have key : (turned l n)[k]? = l[(l.length - 1 - k + n) % l.length]? := by
    unfold turned
    have hr : n % l.length < l.length := Nat.mod_lt _ (by omega)
    have e : (l.length - 1 - k + n) % l.length = (l.length - 1 - k + n % l.length) % l.length := by rw [Nat.add_mod_mod]
    rw [e]
    clear e hlt
    generalize n % l.length = r at *
    rw [List.getElem?_reverse (by simp; omega)]
    simp only [List.length_append, List.length_drop, List.length_take]
    rw [show l.length - r + min r l.length - 1 - k = l.length - 1 - k by omega, List.getElem?_append]
    simp only [List.length_drop]
    split
    · rw [List.getElem?_drop, Nat.mod_eq_of_lt (by omega)]
      congr 1; omega
    · rw [List.getElem?_take_of_lt (by omega)]
      congr 1
      rw [show l.length - 1 - k + r = (l.length - 1 - k - (l.length - r)) + l.length by omega, Nat.add_mod_right, Nat.mod_eq_of_lt (by omega)]
  exact Option.some.inj (by rw [← List.getElem?_eq_getElem, ← List.getElem?_eq_getElem]; exact key)
end Go.Proofs.Ytjmjolefhcjedaa.Vc
