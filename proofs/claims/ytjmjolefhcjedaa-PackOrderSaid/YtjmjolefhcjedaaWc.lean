/- Wants put on cores, walked. -/
import Derived.Test.YtjmjolefhcjedaaFb
import Derived.Test.YtjmjolefhcjedaaGb
import Derived.Test.YtjmjolefhcjedaaMb
import Derived.Test.YtjmjolefhcjedaaQb
namespace Go.Proofs.Ytjmjolefhcjedaa.Vc
open Go Go.RowKit Go.Proofs.Try
set_option maxRecDepth 20000

theorem s131 (a b : Int) : Spec prog 131 [.s 1 [tI a, tI b]] [] (tI (orI a b)) [] := by
  refine spec_s is131 mixed rfl (V_x ?_)
  repeat' (conv => whnf
           first | refine Frz.own ?_ | refine Get.mk _ rfl ?_ | refine Get.mk _ (map_geti (by omega)) ?_ | refine Get.mk _ (map_getp (by omega) (by omega)) ?_ | refine Get.mk _ (map_get (by omega)) ?_ | refine Bv2.mk _ _ rfl rfl ?_ | refine Bv1.mk _ rfl ?_ | refine Wr.mk _ (wrap_i64 (by omega) (by omega)) ?_ | refine Wr.mk _ rfl ?_ | refine And.intro len_map ?_ | refine And.intro (leX_refl _) ?_ | refine And.intro rfl ?_ | refine And.intro (leO_some _) ?_ | (refine And.intro (fun h => absurd h (by decide)) (fun h => ?_); clear h) | (refine And.intro (fun h => ?_) (fun h => absurd h (by decide)); clear h) | (with_reducible first | refine sp1 (fun h => ?_) (fun h => ?_) | refine sp2 (fun h => ?_) (fun h => ?_) | refine sp3 (fun h => ?_) (fun h => ?_) | refine sp4 (fun h => ?_) (fun h => ?_) | refine sp5 (fun h => ?_) (fun h => ?_) | refine sp6 (fun h => ?_) (fun h => ?_)) | with_reducible refine And.intro (fun h => ?_) (fun h => ?_) | refine And.intro (Int.natCast_nonneg _) ?_ | refine And.intro (by omega) ?_ | refine And.intro (by decide) ?_ | refine Lst.mk _ rfl ?_ | refine And.intro trivial ?_ | exact trivial | exact leX_refl _ | refine weak_fr ?_ ?_ rfl | refine And.intro ?_ ?_ | fail)
  refine V_up 2 (fun i => Fct ((0 < i → a = 0) ∧ (1 < i → b = 0))) (fun i => ([(3, tI 0), (6, .s 1 [tI a, tI b]), (7, tI 2), (8, tI (i : Nat))], [])) ⟨⟨fun h => by omega, fun h => by omega⟩⟩ ?_ ?_
  · repeat' (conv => whnf
             first | refine Frz.own ?_ | refine Get.mk _ rfl ?_ | refine Get.mk _ (map_geti (by omega)) ?_ | refine Get.mk _ (map_getp (by omega) (by omega)) ?_ | refine Get.mk _ (map_get (by omega)) ?_ | refine Bv2.mk _ _ rfl rfl ?_ | refine Bv1.mk _ rfl ?_ | refine Wr.mk _ (wrap_i64 (by omega) (by omega)) ?_ | refine Wr.mk _ rfl ?_ | refine And.intro len_map ?_ | refine And.intro (leX_refl _) ?_ | refine And.intro rfl ?_ | refine And.intro (leO_some _) ?_ | (refine And.intro (fun h => absurd h (by decide)) (fun h => ?_); clear h) | (refine And.intro (fun h => ?_) (fun h => absurd h (by decide)); clear h) | (with_reducible first | refine sp1 (fun h => ?_) (fun h => ?_) | refine sp2 (fun h => ?_) (fun h => ?_) | refine sp3 (fun h => ?_) (fun h => ?_) | refine sp4 (fun h => ?_) (fun h => ?_) | refine sp5 (fun h => ?_) (fun h => ?_) | refine sp6 (fun h => ?_) (fun h => ?_)) | with_reducible refine And.intro (fun h => ?_) (fun h => ?_) | refine And.intro (Int.natCast_nonneg _) ?_ | refine And.intro (by omega) ?_ | refine And.intro (by decide) ?_ | refine Lst.mk _ rfl ?_ | refine And.intro trivial ?_ | exact trivial | exact leX_refl _ | refine weak_fr ?_ ?_ rfl | refine And.intro ?_ ?_ | fail)
  rintro i hi ⟨hI⟩
  have h3 : i = 0 ∨ i = 1 ∨ i = 2 := by omega
  rcases h3 with rfl | rfl | rfl
  all_goals
    refine V_x ?_
    repeat' (conv => whnf
             first | refine Frz.own ?_ | refine Get.mk _ rfl ?_ | refine Get.mk _ (map_geti (by omega)) ?_ | refine Get.mk _ (map_getp (by omega) (by omega)) ?_ | refine Get.mk _ (map_get (by omega)) ?_ | refine Bv2.mk _ _ rfl rfl ?_ | refine Bv1.mk _ rfl ?_ | refine Wr.mk _ (wrap_i64 (by omega) (by omega)) ?_ | refine Wr.mk _ rfl ?_ | refine And.intro len_map ?_ | refine And.intro (leX_refl _) ?_ | refine And.intro rfl ?_ | refine And.intro (leO_some _) ?_ | (refine And.intro (fun h => absurd h (by decide)) (fun h => ?_); clear h) | (refine And.intro (fun h => ?_) (fun h => absurd h (by decide)); clear h) | (with_reducible first | refine sp1 (fun h => ?_) (fun h => ?_) | refine sp2 (fun h => ?_) (fun h => ?_) | refine sp3 (fun h => ?_) (fun h => ?_) | refine sp4 (fun h => ?_) (fun h => ?_) | refine sp5 (fun h => ?_) (fun h => ?_) | refine sp6 (fun h => ?_) (fun h => ?_)) | with_reducible refine And.intro (fun h => ?_) (fun h => ?_) | refine And.intro (Int.natCast_nonneg _) ?_ | refine And.intro (by omega) ?_ | refine And.intro (by decide) ?_ | refine Lst.mk _ rfl ?_ | refine And.intro trivial ?_ | exact trivial | exact leX_refl _ | refine weak_fr ?_ ?_ rfl | refine And.intro ?_ ?_ | fail)
    all_goals first
      | (refine leI ?_; unfold orI; rw [if_pos (by omega)]; done)
      | (refine leI ?_; unfold orI; rw [if_neg (by omega)]; done)
      | (refine leI ?_; unfold orI; rw [if_neg (by omega)]; omega)
      | (refine Fct.mk ⟨fun _ => ?_, fun h => ?_⟩ <;> omega)
      | trace_state
end Go.Proofs.Ytjmjolefhcjedaa.Vc

namespace Go.Proofs.Ytjmjolefhcjedaa.Vc
open Go Go.RowKit Go.Proofs.Try
set_option maxRecDepth 20000

theorem nodup1 (d : Nat) : [d].Nodup := by simp
theorem one_some {o : OL} {d : Nat} {b : Ob} (h : lo o d = some b) : ∀ e ∈ [d], lo o e ≠ none := by
  intro e he
  obtain rfl := List.mem_singleton.1 he
  rw [h]; exact fun h => by cases h
theorem len_no {o : OL} {d e : Nat} {b : Ob} : ∀ j, [e].length + j < [b].length → lo o (sid d j) = none := by
  intro j hj
  simp at hj
end Go.Proofs.Ytjmjolefhcjedaa.Vc

namespace Go.Proofs.Ytjmjolefhcjedaa.Vc
open Go Go.RowKit Go.Proofs.Try
set_option maxRecDepth 20000

theorem share_range {p : Plan} (h : p.right) : ∀ x ∈ p.places, 0 ≤ x.share ∧ x.share ≤ 64 := fun x hx => by
  have := h.ok x hx
  have h1 := this.2.1
  have h2 := this.2.2.1
  have := h.hi
  omega
/-- A whole place, as it is made: its pieces are nil. -/
def wholeTV (u s c : Int) : TV := .a [tI u, tI s, tI c, .v (.slice none 0 0)]
theorem nilP {f : FuncId} {x : TV} {u s c : Int} {ins : List Ob} {r : TV} {outs : List Ob} (h : Spec prog f [x, (⟨u, s, c, []⟩ : Place).tv] ins r outs) : Spec prog f [x, wholeTV u s c] ins r outs := by
  refine Spec_arg h ?_
  refine And.intro (leX_refl _) (And.intro ?_ trivial)
  refine And.intro (leX_refl _) (And.intro (leX_refl _) (And.intro (leX_refl _) (And.intro ?_ trivial)))
  exact And.intro rfl rfl
end Go.Proofs.Ytjmjolefhcjedaa.Vc

namespace Go.Proofs.Ytjmjolefhcjedaa.Vc
open Go Go.RowKit Go.Proofs.Try
set_option maxRecDepth 20000

def planZ : TV := .a [tI 0, tW 0, .v (.slice none 0 0)]
theorem Stepped.light {p q : Plan} {c u : Int} (hr : p.right) (hp : p.light) (h : Stepped p c q u) : q.light := by
  have := ((Moved.refl hr c).step h).1
  exact this.light hp
end Go.Proofs.Ytjmjolefhcjedaa.Vc

namespace Go.Proofs.Ytjmjolefhcjedaa.Vc
open Go Go.RowKit Go.Proofs.Try
set_option maxRecDepth 20000

theorem s75f (p : Plan) (u : Int) (hp : p.light) (hpw : p.places.Pairwise fun a b => a.unit < b.unit) : Spec prog 75 [p.tv, tI u] [] (p.drop u).tv [] := by
  have hp1 := hp.1
  have h112 := s112 p u hp hpw
  have h111 := s111 p hp
  refine spec_s is75 mixed rfl (V_x ?_)
  cases hf : (p.find u).isSome with
  | false =>
    rw [hf] at h112
    rw [drop_none hf]
    repeat' (conv => whnf
             first | refine Frz.own ?_ | refine Get.mk _ rfl ?_ | refine Get.mk _ (map_geti (by omega)) ?_ | refine Get.mk _ (map_getp (by omega) (by omega)) ?_ | refine Get.mk _ (map_get (by omega)) ?_ | refine Bv2.mk _ _ rfl rfl ?_ | refine Bv1.mk _ rfl ?_ | refine Wr.mk _ (wrap_i64 (by omega) (by omega)) ?_ | refine Wr.mk _ rfl ?_ | refine And.intro len_map ?_ | refine And.intro (leX_refl _) ?_ | refine And.intro rfl ?_ | refine And.intro (leO_some _) ?_ | (refine And.intro (fun h => absurd h (by decide)) (fun h => ?_); clear h) | (refine And.intro (fun h => ?_) (fun h => absurd h (by decide)); clear h) | (with_reducible first | refine sp1 (fun h => ?_) (fun h => ?_) | refine sp2 (fun h => ?_) (fun h => ?_) | refine sp3 (fun h => ?_) (fun h => ?_) | refine sp4 (fun h => ?_) (fun h => ?_) | refine sp5 (fun h => ?_) (fun h => ?_) | refine sp6 (fun h => ?_) (fun h => ?_)) | with_reducible refine And.intro (fun h => ?_) (fun h => ?_) | refine And.intro (Int.natCast_nonneg _) ?_ | refine And.intro (by omega) ?_ | refine And.intro (by decide) ?_ | refine Lst.mk _ rfl ?_ | refine Or.inr (Or.inr ⟨[], true, _, [], h112, fun _ => ⟨rfl, Nat.le_of_ble_eq_true rfl⟩, List.nodup_nil, fun _ h => absurd h List.not_mem_nil, fun _ => ⟨rfl, fun _ h => absurd h List.not_mem_nil⟩, fun _ h => absurd h (Nat.not_lt_zero _), ?_⟩) | refine Or.inr (Or.inr ⟨[], false, _, [_], h111, fun _ => ⟨rfl, Nat.le_of_ble_eq_true rfl⟩, List.nodup_nil, fun _ h => absurd h List.not_mem_nil, fun h => Bool.noConfusion h, one_none rfl, ?_⟩) | refine And.intro trivial ?_ | exact trivial | exact leX_refl _ | refine weak_fr ?_ ?_ rfl | refine And.intro ?_ ?_ | fail)
    all_goals first
      | exact leX_refl _
      | exact leT rfl
      | trace_state
  | true =>
    rw [hf] at h112
    obtain ⟨hlt, he⟩ := drop_some hpw hf
    have e : (p.drop u).tv = .a [tI p.frame, tW p.cores, .s 4 ((p.drop u).places.map Place.tv)] := rfl
    rw [e, he]
    have g : SpecG prog 113 34 4 (p.places.map Place.tv) [tI (posOf p.places u : Nat), tI ((posOf p.places u : Nat) + 1 : Int)] ((p.places.eraseIdx (posOf p.places u)).map Place.tv) := by
      rw [map_erase]
      exact g113 (p.places.map Place.tv) (posOf p.places u) (by simpa using hlt)
    repeat' (conv => whnf
             first | refine Frz.own ?_ | refine Get.mk _ rfl ?_ | refine Get.mk _ (map_geti (by omega)) ?_ | refine Get.mk _ (map_getp (by omega) (by omega)) ?_ | refine Get.mk _ (map_get (by omega)) ?_ | refine Bv2.mk _ _ rfl rfl ?_ | refine Bv1.mk _ rfl ?_ | refine Wr.mk _ (wrap_i64 (by omega) (by omega)) ?_ | refine Wr.mk _ rfl ?_ | refine And.intro len_map ?_ | refine And.intro (leX_refl _) ?_ | refine And.intro rfl ?_ | refine And.intro (leO_some _) ?_ | (refine And.intro (fun h => absurd h (by decide)) (fun h => ?_); clear h) | (refine And.intro (fun h => ?_) (fun h => absurd h (by decide)); clear h) | (with_reducible first | refine sp1 (fun h => ?_) (fun h => ?_) | refine sp2 (fun h => ?_) (fun h => ?_) | refine sp3 (fun h => ?_) (fun h => ?_) | refine sp4 (fun h => ?_) (fun h => ?_) | refine sp5 (fun h => ?_) (fun h => ?_) | refine sp6 (fun h => ?_) (fun h => ?_)) | with_reducible refine And.intro (fun h => ?_) (fun h => ?_) | refine And.intro (Int.natCast_nonneg _) ?_ | refine And.intro (by omega) ?_ | refine And.intro (by decide) ?_ | refine Lst.mk _ rfl ?_ | refine Or.inl ⟨rfl, _, _, _, _, _, _, rfl, rfl, rfl, rfl, g, ?_⟩ | refine Or.inr (Or.inr ⟨[], true, _, [], h112, fun _ => ⟨rfl, Nat.le_of_ble_eq_true rfl⟩, List.nodup_nil, fun _ h => absurd h List.not_mem_nil, fun _ => ⟨rfl, fun _ h => absurd h List.not_mem_nil⟩, fun _ h => absurd h (Nat.not_lt_zero _), ?_⟩) | refine Or.inr (Or.inr ⟨[], false, _, [_], h111, fun _ => ⟨rfl, Nat.le_of_ble_eq_true rfl⟩, List.nodup_nil, fun _ h => absurd h List.not_mem_nil, fun h => Bool.noConfusion h, one_none rfl, ?_⟩) | refine And.intro trivial ?_ | exact trivial | exact leX_refl _ | refine weak_fr ?_ ?_ rfl | refine And.intro ?_ ?_ | fail)
    all_goals first
      | exact leX_refl _
      | exact leT rfl
      | trace_state
theorem right_unit0 {p : Plan} (h : p.right) : ∀ x ∈ p.places, x.unit ≠ 0 := fun x hx => by have := unit_pos (h.ok x hx).1; omega
theorem s75_0 (p : Plan) (hp : p.light) (hr : p.right) : Spec prog 75 [p.tv, tI 0] [] p.tv [] := by
  have := s75f p 0 hp hr.pw
  rwa [drop_absent (right_unit0 hr)] at this
end Go.Proofs.Ytjmjolefhcjedaa.Vc

namespace Go.Proofs.Ytjmjolefhcjedaa.Vc
open Go Go.RowKit Go.Proofs.Try
set_option maxRecDepth 20000

end Go.Proofs.Ytjmjolefhcjedaa.Vc

namespace Go.Proofs.Ytjmjolefhcjedaa.Vc
open Go Go.RowKit Go.Proofs.Try
set_option maxRecDepth 20000

/-- The first core with room: the program's, and the page's. -/
theorem s90 (p : Plan) (n : Int) (hp : p.light) (hr : p.right) (hn : 1 ≤ n) : Spec prog 90 [p.tv, tI n] [] (.t [tI ((p.firstC n).getD 0), tB (p.firstC n).isSome]) [] := by
  have hl : (p.coresI.map fun c => tI c).length = p.coresI.length := List.length_map _
  have hcl := coresI_len p
  refine spec_s is90 mixed rfl (V_x ?_)
  repeat' (conv => whnf
           first | refine Frz.own ?_ | refine Get.mk _ rfl ?_ | refine Get.mk _ (map_geti (by omega)) ?_ | refine Get.mk _ (map_getp (by omega) (by omega)) ?_ | refine Get.mk _ (map_get (by omega)) ?_ | refine Bv2.mk _ _ rfl rfl ?_ | refine Bv1.mk _ rfl ?_ | refine Wr.mk _ (wrap_i64 (by omega) (by omega)) ?_ | refine Wr.mk _ rfl ?_ | refine And.intro len_map ?_ | refine And.intro (leX_refl _) ?_ | refine And.intro rfl ?_ | refine And.intro (leO_some _) ?_ | (refine And.intro (fun h => absurd h (by decide)) (fun h => ?_); clear h) | (refine And.intro (fun h => ?_) (fun h => absurd h (by decide)); clear h) | (with_reducible first | refine sp1 (fun h => ?_) (fun h => ?_) | refine sp2 (fun h => ?_) (fun h => ?_) | refine sp3 (fun h => ?_) (fun h => ?_) | refine sp4 (fun h => ?_) (fun h => ?_) | refine sp5 (fun h => ?_) (fun h => ?_) | refine sp6 (fun h => ?_) (fun h => ?_)) | with_reducible refine And.intro (fun h => ?_) (fun h => ?_) | refine And.intro (Int.natCast_nonneg _) ?_ | refine And.intro (by omega) ?_ | refine And.intro (by decide) ?_ | refine Lst.mk _ rfl ?_ | refine Or.inr (Or.inl ⟨_, _, s73 p, leL_refl _, rfl, rfl, ?_⟩) | refine And.intro trivial ?_ | exact trivial | exact leX_refl _ | refine weak_fr ?_ ?_ rfl | refine And.intro ?_ ?_ | fail)
  refine V_up p.coresI.length (fun i => Fct (∀ d ∈ p.coresI.take i, ¬ n ≤ p.room d)) (fun i => ([(1, tI n), (2, .p 48 0 0), (9, .s 1 (p.coresI.map fun c => tI c)), (10, tI (p.coresI.length : Nat)), (11, tI (i : Nat))], [(48, .var 25 p.tv)])) ⟨by simp⟩ ?_ ?_
  · repeat' (conv => whnf
             first | refine Frz.own ?_ | refine Get.mk _ rfl ?_ | refine Get.mk _ (map_geti (by omega)) ?_ | refine Get.mk _ (map_getp (by omega) (by omega)) ?_ | refine Get.mk _ (map_get (by omega)) ?_ | refine Bv2.mk _ _ rfl rfl ?_ | refine Bv1.mk _ rfl ?_ | refine Wr.mk _ (wrap_i64 (by omega) (by omega)) ?_ | refine Wr.mk _ rfl ?_ | refine And.intro len_map ?_ | refine And.intro (leX_refl _) ?_ | refine And.intro rfl ?_ | refine And.intro (leO_some _) ?_ | (refine And.intro (fun h => absurd h (by decide)) (fun h => ?_); clear h) | (refine And.intro (fun h => ?_) (fun h => absurd h (by decide)); clear h) | (with_reducible first | refine sp1 (fun h => ?_) (fun h => ?_) | refine sp2 (fun h => ?_) (fun h => ?_) | refine sp3 (fun h => ?_) (fun h => ?_) | refine sp4 (fun h => ?_) (fun h => ?_) | refine sp5 (fun h => ?_) (fun h => ?_) | refine sp6 (fun h => ?_) (fun h => ?_)) | with_reducible refine And.intro (fun h => ?_) (fun h => ?_) | refine And.intro (Int.natCast_nonneg _) ?_ | refine And.intro (by omega) ?_ | refine And.intro (by decide) ?_ | refine Lst.mk _ rfl ?_ | refine And.intro trivial ?_ | exact trivial | exact leX_refl _ | refine weak_fr ?_ ?_ rfl | refine And.intro ?_ ?_ | fail)
  rintro i hi ⟨hI⟩
  refine V_x ?_
  rcases Nat.lt_or_ge i p.coresI.length with hlt | hge
  · have hms := mem_snoc hlt (P := fun d => ¬ n ≤ p.room d)
    have hfd : n ≤ p.room p.coresI[i] → p.firstC n = some p.coresI[i] := fun h => find_first hlt (fun x hx => decide_eq_false (hI x hx)) (decide_eq_true h)
    have h109 := s109 p p.coresI[i] hp ⟨by have := hr.lo; omega, hr.hi⟩ (share_range hr)
    by_cases hroom : n ≤ p.room p.coresI[i]
    · rw [hfd hroom]
      repeat' (conv => whnf
               first | refine Frz.own ?_ | refine Get.mk _ rfl ?_ | refine Get.mk _ (map_geti (by omega)) ?_ | refine Get.mk _ (map_getp (by omega) (by omega)) ?_ | refine Get.mk _ (map_get (by omega)) ?_ | refine Bv2.mk _ _ rfl rfl ?_ | refine Bv1.mk _ rfl ?_ | refine Wr.mk _ (wrap_i64 (by omega) (by omega)) ?_ | refine Wr.mk _ rfl ?_ | refine And.intro len_map ?_ | refine And.intro (leX_refl _) ?_ | refine And.intro rfl ?_ | refine And.intro (leO_some _) ?_ | (refine And.intro (fun h => absurd h (by decide)) (fun h => ?_); clear h) | (refine And.intro (fun h => ?_) (fun h => absurd h (by decide)); clear h) | (with_reducible first | refine sp1 (fun h => ?_) (fun h => ?_) | refine sp2 (fun h => ?_) (fun h => ?_) | refine sp3 (fun h => ?_) (fun h => ?_) | refine sp4 (fun h => ?_) (fun h => ?_) | refine sp5 (fun h => ?_) (fun h => ?_) | refine sp6 (fun h => ?_) (fun h => ?_)) | with_reducible refine And.intro (fun h => ?_) (fun h => ?_) | refine And.intro (Int.natCast_nonneg _) ?_ | refine And.intro (by omega) ?_ | refine And.intro (by decide) ?_ | refine Lst.mk _ rfl ?_ | refine Or.inr (Or.inl ⟨_, _, h109, leL_refl _, rfl, rfl, ?_⟩) | refine And.intro trivial ?_ | exact trivial | exact leX_refl _ | refine weak_fr ?_ ?_ rfl | refine And.intro ?_ ?_ | fail)
      all_goals first
        | (exfalso; omega)
        | exact leX_refl _
        | exact leT rfl
        | trace_state
    · repeat' (conv => whnf
               first | refine Frz.own ?_ | refine Get.mk _ rfl ?_ | refine Get.mk _ (map_geti (by omega)) ?_ | refine Get.mk _ (map_getp (by omega) (by omega)) ?_ | refine Get.mk _ (map_get (by omega)) ?_ | refine Bv2.mk _ _ rfl rfl ?_ | refine Bv1.mk _ rfl ?_ | refine Wr.mk _ (wrap_i64 (by omega) (by omega)) ?_ | refine Wr.mk _ rfl ?_ | refine And.intro len_map ?_ | refine And.intro (leX_refl _) ?_ | refine And.intro rfl ?_ | refine And.intro (leO_some _) ?_ | (refine And.intro (fun h => absurd h (by decide)) (fun h => ?_); clear h) | (refine And.intro (fun h => ?_) (fun h => absurd h (by decide)); clear h) | (with_reducible first | refine sp1 (fun h => ?_) (fun h => ?_) | refine sp2 (fun h => ?_) (fun h => ?_) | refine sp3 (fun h => ?_) (fun h => ?_) | refine sp4 (fun h => ?_) (fun h => ?_) | refine sp5 (fun h => ?_) (fun h => ?_) | refine sp6 (fun h => ?_) (fun h => ?_)) | with_reducible refine And.intro (fun h => ?_) (fun h => ?_) | refine And.intro (Int.natCast_nonneg _) ?_ | refine And.intro (by omega) ?_ | refine And.intro (by decide) ?_ | refine Lst.mk _ rfl ?_ | refine Or.inr (Or.inl ⟨_, _, h109, leL_refl _, rfl, rfl, ?_⟩) | refine And.intro trivial ?_ | exact trivial | exact leX_refl _ | refine weak_fr ?_ ?_ rfl | refine And.intro ?_ ?_ | fail)
      all_goals first
        | (exfalso; omega)
        | exact Fct.mk (hms.2 ⟨hI, hroom⟩)
        | trace_state
  · have hnone : p.firstC n = none := by
      rw [List.take_of_length_le hge] at hI
      exact List.find?_eq_none.2 fun x hx => by simpa using hI x hx
    rw [hnone]
    repeat' (conv => whnf
             first | refine Frz.own ?_ | refine Get.mk _ rfl ?_ | refine Get.mk _ (map_geti (by omega)) ?_ | refine Get.mk _ (map_getp (by omega) (by omega)) ?_ | refine Get.mk _ (map_get (by omega)) ?_ | refine Bv2.mk _ _ rfl rfl ?_ | refine Bv1.mk _ rfl ?_ | refine Wr.mk _ (wrap_i64 (by omega) (by omega)) ?_ | refine Wr.mk _ rfl ?_ | refine And.intro len_map ?_ | refine And.intro (leX_refl _) ?_ | refine And.intro rfl ?_ | refine And.intro (leO_some _) ?_ | (refine And.intro (fun h => absurd h (by decide)) (fun h => ?_); clear h) | (refine And.intro (fun h => ?_) (fun h => absurd h (by decide)); clear h) | (with_reducible first | refine sp1 (fun h => ?_) (fun h => ?_) | refine sp2 (fun h => ?_) (fun h => ?_) | refine sp3 (fun h => ?_) (fun h => ?_) | refine sp4 (fun h => ?_) (fun h => ?_) | refine sp5 (fun h => ?_) (fun h => ?_) | refine sp6 (fun h => ?_) (fun h => ?_)) | with_reducible refine And.intro (fun h => ?_) (fun h => ?_) | refine And.intro (Int.natCast_nonneg _) ?_ | refine And.intro (by omega) ?_ | refine And.intro (by decide) ?_ | refine Lst.mk _ rfl ?_ | refine And.intro trivial ?_ | exact trivial | exact leX_refl _ | refine weak_fr ?_ ?_ rfl | refine And.intro ?_ ?_ | fail)
    all_goals first
      | (exfalso; omega)
      | exact leX_refl _
      | exact leT rfl
      | trace_state
theorem s130 (x y : Want) : Spec prog 130 [x.tv, y.tv] [] (tI (cfS x y)) [] := by
  refine spec_s is130 mixed rfl (V_x ?_)
  repeat' (conv => whnf
           first | refine (Frz.frz ?_ : Frz 15 _ _) | refine Frz.own ?_ | refine Get.mk _ rfl ?_ | refine Get.mk _ (map_geti (by omega)) ?_ | refine Get.mk _ (map_getp (by omega) (by omega)) ?_ | refine Get.mk _ (map_get (by omega)) ?_ | refine Bv2.mk _ _ rfl rfl ?_ | refine Bv1.mk _ rfl ?_ | refine Wr.mk _ (wrap_i64 (by omega) (by omega)) ?_ | refine Wr.mk _ rfl ?_ | refine And.intro len_map ?_ | refine And.intro (leX_refl _) ?_ | refine And.intro rfl ?_ | refine And.intro (leO_some _) ?_ | (refine And.intro (fun h => absurd h (by decide)) (fun h => ?_); clear h) | (refine And.intro (fun h => ?_) (fun h => absurd h (by decide)); clear h) | (with_reducible first | refine sp1 (fun h => ?_) (fun h => ?_) | refine sp2 (fun h => ?_) (fun h => ?_) | refine sp3 (fun h => ?_) (fun h => ?_) | refine sp4 (fun h => ?_) (fun h => ?_) | refine sp5 (fun h => ?_) (fun h => ?_) | refine sp6 (fun h => ?_) (fun h => ?_)) | with_reducible refine And.intro (fun h => ?_) (fun h => ?_) | refine And.intro (Int.natCast_nonneg _) ?_ | refine And.intro (by omega) ?_ | refine And.intro (by decide) ?_ | refine Lst.mk _ rfl ?_ | refine Or.inr (Or.inl ⟨_, _, s132 _ _, leL_refl _, rfl, rfl, ?_⟩) | refine Or.inr (Or.inl ⟨_, _, s131 _ _, leL_refl _, rfl, rfl, ?_⟩) | refine And.intro trivial ?_ | exact trivial | exact leX_refl _ | refine weak_fr ?_ ?_ rfl | refine And.intro ?_ ?_ | fail)
  all_goals exact leI rfl
theorem s127 (x y : Want) : Spec prog 127 [x.tv, y.tv] [] (tI (cfS x y)) [] := by
  refine spec_s is127 mixed rfl (V_x ?_)
  repeat' (conv => whnf
           first | refine (Frz.frz ?_ : Frz 15 _ _) | refine Frz.own ?_ | refine Get.mk _ rfl ?_ | refine Get.mk _ (map_geti (by omega)) ?_ | refine Get.mk _ (map_getp (by omega) (by omega)) ?_ | refine Get.mk _ (map_get (by omega)) ?_ | refine Bv2.mk _ _ rfl rfl ?_ | refine Bv1.mk _ rfl ?_ | refine Wr.mk _ (wrap_i64 (by omega) (by omega)) ?_ | refine Wr.mk _ rfl ?_ | refine And.intro len_map ?_ | refine And.intro (leX_refl _) ?_ | refine And.intro rfl ?_ | refine And.intro (leO_some _) ?_ | (refine And.intro (fun h => absurd h (by decide)) (fun h => ?_); clear h) | (refine And.intro (fun h => ?_) (fun h => absurd h (by decide)); clear h) | (with_reducible first | refine sp1 (fun h => ?_) (fun h => ?_) | refine sp2 (fun h => ?_) (fun h => ?_) | refine sp3 (fun h => ?_) (fun h => ?_) | refine sp4 (fun h => ?_) (fun h => ?_) | refine sp5 (fun h => ?_) (fun h => ?_) | refine sp6 (fun h => ?_) (fun h => ?_)) | with_reducible refine And.intro (fun h => ?_) (fun h => ?_) | refine And.intro (Int.natCast_nonneg _) ?_ | refine And.intro (by omega) ?_ | refine And.intro (by decide) ?_ | refine Lst.mk _ rfl ?_ | refine Or.inr (Or.inl ⟨_, _, s132 _ _, leL_refl _, rfl, rfl, ?_⟩) | refine Or.inr (Or.inl ⟨_, _, s131 _ _, leL_refl _, rfl, rfl, ?_⟩) | refine And.intro trivial ?_ | exact trivial | exact leX_refl _ | refine weak_fr ?_ ?_ rfl | refine And.intro ?_ ?_ | fail)
  all_goals exact leI rfl
open Go.Proofs Go.Sort in
theorem sortS (g : Nat) (hg : g = 127 ∨ g = 130) (xs : List Want) (h : xs.length ≤ 1000) : Spec prog 126 [.o 0, .v (.func (.func g) #[] #[])] [.row 63 2 (xs.map Want.tv)] (.t []) [.row 63 2 ((srtS xs).map Want.tv)] := by
  have hO : SWO (ltOf cfS) := by
    refine ⟨fun x => ?_, fun x y z h1 h2 => ?_, fun x y z h1 h2 => ?_⟩
    · simp only [ltOf, decide_eq_false_iff_not, cfS_lt]; omega
    · simp only [ltOf, decide_eq_true_eq, cfS_lt] at *; omega
    · simp only [ltOf, decide_eq_false_iff_not, cfS_lt] at *; omega
  have hT : ∀ x y, ltOf cfS x y = false → ltOf cfS y x = false → x = y := by
    intro x y h1 h2
    simp only [ltOf, decide_eq_false_iff_not, cfS_lt] at *
    refine leD_antisymm ?_ ?_ <;> (unfold leD; omega)
  rcases hg with rfl | rfl
  · exact sort_spec (g := 127) (cf := cfS) _ (.inl rfl) (enters_of Try.func127 (by kernel_rfl) rfl) hO hT (fun x y => s127 x y) xs (by omega)
  · exact sort_spec (g := 130) (cf := cfS) _ (.inl rfl) (enters_of Try.func130 (by kernel_rfl) rfl) hO hT (fun x y => s130 x y) xs (by omega)
end Go.Proofs.Ytjmjolefhcjedaa.Vc

namespace Go.Proofs.Ytjmjolefhcjedaa.Vc
open Go Go.RowKit Go.Proofs.Try
set_option maxRecDepth 20000

theorem s91f (p : Plan) (x : Place) (hp : p.light) (hpw : p.places.Pairwise fun a b => a.unit < b.unit) (hx : x.pieces.length ≤ 20) : Spec prog 91 [p.tv, x.tv] [] (p.put x).tv [] := by
  have hp1 := hp.1
  have hd1 := (light_drop (u := x.unit) hp).1
  have hpos : posOf (p.drop x.unit).places x.unit ≤ (p.drop x.unit).places.length := List.findIdx_le_length
  have h75 := s75 p x.unit hp hpw
  have h112 := s112 (p.drop x.unit) x.unit (light_drop hp) (pw_drop hpw)
  have h124 := s124 x.pieces hx
  have g : SpecG prog 128 34 4 ((p.drop x.unit).places.map Place.tv) [tI (posOf (p.drop x.unit).places x.unit : Nat), .s 4 [x.tv]] ((p.put x).places.map Place.tv) := by
    unfold Plan.put
    simp only [List.map_append, List.map_take, List.map_drop, List.map_cons, List.map_nil]
    exact g128 _ _ _ (by simpa using hpos) (by simp; omega)
  refine spec_s is91 mixed rfl (V_x ?_)
  repeat' (conv => whnf
           first | refine (Frz.frz ?_ : Frz 27 _ _) | refine Frz.own ?_ | refine Get.mk _ rfl ?_ | refine Get.mk _ (map_geti (by omega)) ?_ | refine Get.mk _ (map_getp (by omega) (by omega)) ?_ | refine Get.mk _ (map_get (by omega)) ?_ | refine Bv2.mk _ _ rfl rfl ?_ | refine Bv1.mk _ rfl ?_ | refine Wr.mk _ (wrap_i64 (by omega) (by omega)) ?_ | refine Wr.mk _ rfl ?_ | refine And.intro len_map ?_ | refine And.intro (leX_refl _) ?_ | refine And.intro rfl ?_ | refine And.intro (leO_some _) ?_ | (refine And.intro (fun h => absurd h (by decide)) (fun h => ?_); clear h) | (refine And.intro (fun h => ?_) (fun h => absurd h (by decide)); clear h) | (with_reducible first | refine sp1 (fun h => ?_) (fun h => ?_) | refine sp2 (fun h => ?_) (fun h => ?_) | refine sp3 (fun h => ?_) (fun h => ?_) | refine sp4 (fun h => ?_) (fun h => ?_) | refine sp5 (fun h => ?_) (fun h => ?_) | refine sp6 (fun h => ?_) (fun h => ?_)) | with_reducible refine And.intro (fun h => ?_) (fun h => ?_) | refine And.intro (Int.natCast_nonneg _) ?_ | refine And.intro (by omega) ?_ | refine And.intro (by decide) ?_ | refine Lst.mk _ rfl ?_ | refine Or.inl ⟨rfl, _, _, _, _, _, _, rfl, rfl, rfl, rfl, g, ?_⟩ | refine Or.inr (Or.inr ⟨[], true, _, [], h112, fun _ => ⟨rfl, Nat.le_of_ble_eq_true rfl⟩, List.nodup_nil, fun _ h => absurd h List.not_mem_nil, fun _ => ⟨rfl, fun _ h => absurd h List.not_mem_nil⟩, fun _ h => absurd h (Nat.not_lt_zero _), ?_⟩) | refine Or.inr (Or.inr ⟨[], false, _, [_], h75, fun _ => ⟨rfl, Nat.le_of_ble_eq_true rfl⟩, List.nodup_nil, fun _ h => absurd h List.not_mem_nil, fun h => Bool.noConfusion h, one_none rfl, ?_⟩) | refine Or.inr (Or.inl ⟨_, _, h124, leL_refl _, rfl, rfl, ?_⟩) | refine And.intro trivial ?_ | exact trivial | exact leX_refl _ | refine weak_fr ?_ ?_ rfl | refine And.intro ?_ ?_ | fail)
  all_goals first
    | exact leX_refl _
    | exact leT rfl
    | trace_state
end Go.Proofs.Ytjmjolefhcjedaa.Vc

namespace Go.Proofs.Ytjmjolefhcjedaa.Vc
open Go Go.RowKit Go.Proofs.Try
set_option maxRecDepth 20000

end Go.Proofs.Ytjmjolefhcjedaa.Vc
