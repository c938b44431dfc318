/- Regions that draw their order, and whole codes; for every program. -/
import Derived.Test.YtaopcacmfhdfkaaGreatDoorVb
import Derived.Calls
namespace Go.Proofs.YtaopcacmfhdfkaaGreatDoor.Vc
open Go Go.RowKit
set_option linter.unusedSimpArgs false
set_option linter.unusedVariables false

mutual
theorem ids_ob {w : World} {ok : Nat → Prop} {E : Nat → Value} {B : Obs} : ∀ (x : TV) (y : Value), Rel w ok E B x y → ∀ d ∈ x.ids, B d ≠ none
  | .o e, y, h, d, hd => by
    simp [TV.ids] at hd; subst hd
    simp only [Rel] at h; obtain ⟨⟨_, _, _, h⟩, _⟩ := h; rw [h]; simp
  | .p e i off, y, h, d, hd => by
    simp [TV.ids] at hd; subst hd
    simp only [Rel] at h; obtain ⟨_, h, _⟩ := h; rw [h]; simp
  | .a cs, y, h, d, hd => by
    simp only [Rel] at h; obtain ⟨ys, _, _, h⟩ := h
    exact idsL_ob cs ys h d (by simpa [TV.ids] using hd)
  | .x t z, y, h, d, hd => by
    simp only [Rel] at h; obtain ⟨u, _, h⟩ := h
    exact ids_ob z u h d (by simpa [TV.ids] using hd)
  | .f fn cap, y, h, d, hd => by
    simp only [Rel] at h; obtain ⟨us, _, h⟩ := h
    exact idsL_ob cap us h d (by simpa [TV.ids] using hd)
  | .t xs, y, h, d, hd => by
    simp only [Rel] at h; obtain ⟨us, _, h⟩ := h
    exact idsL_ob xs us h d (by simpa [TV.ids] using hd)
  | .v _, _, _, _, hd | .s _ _, _, _, _, hd | .r _, _, _, _, hd | .dead, _, _, _, hd => by simp [TV.ids] at hd
theorem idsL_ob {w : World} {ok : Nat → Prop} {E : Nat → Value} {B : Obs} : ∀ (xs : List TV) (ys : List Value), RelL w ok E B xs ys → ∀ d ∈ idsL xs, B d ≠ none
  | [], _, _, d, hd => by simp [idsL] at hd
  | x :: xs, ys, h, d, hd => by
    simp only [RelL] at h
    obtain ⟨u, us, _, h1, h2⟩ := h
    simp only [idsL, List.mem_append] at hd
    rcases hd with hd | hd
    · exact ids_ob x u h1 d hd
    · exact idsL_ob xs us h2 d hd
end

/-- The operands that a quiet instruction looks at. -/
def I.looks : I → List Operand
  | .mov _ x | .un _ _ x | .conv _ _ x | .box _ _ x | .load _ _ x | .fad _ _ x | .fld _ _ _ x | .ext _ x _ | .len _ _ x | .mki _ _ x | .tas _ _ _ x | .nil _ _ _ x | .nck _ x | .mks _ _ _ _ _ x | .mkc _ _ _ _ x | .bst _ x => [x]
  | .pick _ c x y => [c, x, y]
  | .bin _ _ x y | .beq _ _ x y | .aeq _ _ _ x y | .iad _ _ x y | .aad _ _ _ x y | .sidx _ x y | .mm _ _ x y => [x, y]
  | .new _ _ _ => []
  | .bld _ _ ps => ps.map (·.2.2)
  | .bsl _ _ _ xs => xs
  | .slc _ _ x lo hi | .scut _ x lo hi => [x] ++ lo.toList ++ hi.toList
  | .mkf _ _ cap => cap
  | .call _ fx xs => fx :: xs
  | .store _ x y | .app _ _ _ _ x y => [x, y]

theorem mem_congr {s s' : St} {x : TV} (h : ∀ d ∈ x.ids, s'.ob d = s.ob d) : s'.mem x = s.mem x := by
  cases x <;> simp only [St.mem]
  rw [h _ (by simp [TV.ids])]
theorem exp_congr {s s' : St} {D : List Nat} {vw : Bool} {x : TV} (h : ∀ d ∈ x.ids, s'.ob d = s.ob d) : x.exp s' D vw = x.exp s D vw := by
  unfold TV.exp
  refine sub_congr x (fun d hd => ⟨?_, fun i off => ?_⟩)
  · simp only [expO, h d hd]
  · simp only [expP]
    rw [mem_congr (s := s) (s' := s') (x := .p d i off) (by simp [TV.ids]; exact h d hd)]

theorem mem_idsL : ∀ {l : List TV} {y : TV} {d : Nat}, y ∈ l → d ∈ y.ids → d ∈ idsL l
  | [], _, _, h, _ => by cases h
  | z :: zs, y, d, h, hd => by
    simp only [idsL, List.mem_append]
    rcases List.mem_cons.1 h with rfl | h
    · exact .inl hd
    · exact .inr (mem_idsL h hd)
theorem idsL_of {xs : List TV} {d : Nat} (h : d ∈ idsL xs) : ∃ y, y ∈ xs ∧ d ∈ y.ids := by
  induction xs with
  | nil => simp [idsL] at h
  | cons x xs ih =>
    simp only [idsL, List.mem_append] at h
    rcases h with h | h
    · exact ⟨x, by simp, h⟩
    · obtain ⟨y, h1, h2⟩ := ih h
      exact ⟨y, by simp [h1], h2⟩
theorem idsL_mem {xs : List TV} {y : TV} {d : Nat} (hy : y ∈ xs) (h : d ∈ y.ids) : d ∈ idsL xs := by
  induction xs with
  | nil => simp at hy
  | cons x xs ih =>
    simp only [idsL, List.mem_append]
    rcases List.mem_cons.1 hy with rfl | hy
    · exact .inl h
    · exact .inr (ih hy)
theorem calleeOf_ids {x : TV} {f : FuncId} {cap : List TV} (h : calleeOf x = some (f, cap)) : ∀ y ∈ cap, ∀ d ∈ y.ids, d ∈ x.ids := by
  unfold calleeOf at h
  split at h
  · obtain ⟨_, rfl⟩ := Prod.mk.inj (Option.some.inj h); simp
  · obtain ⟨_, rfl⟩ := Prod.mk.inj (Option.some.inj h)
    intro y hy d hd
    simp only [TV.ids]
    exact mem_idsL hy hd
  · cases h

theorem elemsT_congr {s s' : St} {sz : Nat} {y : TV} (h : ∀ d ∈ y.ids, s'.ob d = s.ob d) : elemsT s' sz y = elemsT s sz y := by
  by_cases hh : ∃ d, y = .o d
  · obtain ⟨d, rfl⟩ := hh
    simp only [elemsT]; rw [h d (by simp [TV.ids])]
  · unfold elemsT
    split
    · rfl
    · exact absurd ⟨_, rfl⟩ hh
    · rfl
    · rfl
theorem lenT_congr {s s' : St} {y : TV} (h : ∀ d ∈ y.ids, s'.ob d = s.ob d) : lenT s' y = lenT s y := by
  by_cases hh : ∃ d, y = .o d
  · obtain ⟨d, rfl⟩ := hh
    simp only [lenT]; rw [h d (by simp [TV.ids])]
  · unfold lenT
    split
    · rfl
    · exact absurd ⟨_, rfl⟩ hh
    · rfl
    · rfl
    · rfl

/-- A quiet instruction looks at nothing but its operands, and what they name. -/
theorem I.res_congr {P : Program} [Lay P] {s s' : St} {i : I} {v : TV} {c : Chg} {dst : Nat} (hd : i.dst = some dst) (he : ∀ x ∈ i.looks, s'.ev x = s.ev x) (ho : ∀ x ∈ i.looks, ∀ d ∈ (s.ev x).ids, s'.ob d = s.ob d) (hf : ∀ k, k < 16 → s'.ob (sid dst k) = s.ob (sid dst k)) (h : i.res P s v c) : i.res P s' v c := by
  cases i <;> simp only [I.dst, Option.some.injEq, reduceCtorEq] at hd <;> try subst hd
  case mov => simp only [I.res, I.looks, List.mem_singleton, forall_eq] at *; rw [he]; exact h
  case pick => simp only [I.res, I.looks, List.mem_cons, List.not_mem_nil, or_false, forall_eq_or_imp, forall_eq] at *; rw [he.1, he.2.1, he.2.2]; exact h
  case bin => simp only [I.res, I.looks, List.mem_cons, List.not_mem_nil, or_false, forall_eq_or_imp, forall_eq] at *; rw [he.1, he.2]; exact h
  case beq => simp only [I.res, I.looks, List.mem_cons, List.not_mem_nil, or_false, forall_eq_or_imp, forall_eq] at *; rw [he.1, he.2]; exact h
  case nil => simp only [I.res, I.looks, List.mem_singleton, forall_eq] at *; rw [he]; exact h
  case nck => simp only [I.res, I.looks, List.mem_singleton, forall_eq] at *; rw [he]; exact h
  case un => simp only [I.res, I.looks, List.mem_singleton, forall_eq] at *; rw [he]; exact h
  case conv => simp only [I.res, I.looks, List.mem_singleton, forall_eq] at *; rw [he]; exact h
  case box => simp only [I.res, I.looks, List.mem_singleton, forall_eq] at *; rw [he, hf 0 (by omega)]; exact h
  case new => simp only [I.res] at *; rw [hf 0 (by omega)]; exact h
  case load d m x => cases m <;> (simp only [I.res, I.looks, List.mem_singleton, forall_eq] at *; rw [he, mem_congr ho]; exact h)
  case fad => simp only [I.res, I.looks, List.mem_singleton, forall_eq] at *; rw [he]; exact h
  case iad d sz x i =>
    simp only [I.res, I.looks, List.mem_cons, List.not_mem_nil, or_false, forall_eq_or_imp, forall_eq] at *
    rw [he.1, he.2]
    obtain ⟨k, m, h1, h2, h3, h4⟩ := h
    refine ⟨k, m, h1, h2, h3.imp id ?_, h4⟩
    rintro ⟨e, ty, xs, h5, h6, h7⟩
    exact ⟨e, ty, xs, h5, by rw [ho.1 e (by rw [h5]; simp [TV.ids])]; exact h6, h7⟩
  case aad => simp only [I.res, I.looks, List.mem_cons, List.not_mem_nil, or_false, forall_eq_or_imp, forall_eq] at *; rw [he.1, he.2]; exact h
  case fld d off m x => cases m <;> (simp only [I.res, I.looks, List.mem_singleton, forall_eq] at *; rw [he]; exact h)
  case sidx => simp only [I.res, I.looks, List.mem_cons, List.not_mem_nil, or_false, forall_eq_or_imp, forall_eq] at *; rw [he.1, he.2]; exact h
  case ext => simp only [I.res, I.looks, List.mem_singleton, forall_eq] at *; rw [he]; exact h
  case bld d z ps =>
    simp only [I.res, I.looks] at *
    have : (ps.map fun p => (p.1, p.2.1, s'.ev p.2.2)) = ps.map fun p => (p.1, p.2.1, s.ev p.2.2) := List.map_congr_left fun p hp => by rw [he p.2.2 (List.mem_map.2 ⟨p, hp, rfl⟩)]
    rw [this]; exact h
  case bsl d ty sz xs =>
    simp only [I.res, I.looks] at *
    have : xs.map s'.ev = xs.map s.ev := List.map_congr_left he
    rw [hf 0 (by omega), this]
    exact ⟨h.1, fun x hx => by rw [he x hx]; exact h.2.1 x hx, h.2.2⟩
  case mks => simp only [I.res, I.looks, List.mem_singleton, forall_eq] at *; rw [he, hf 0 (by omega)]; exact h
  case mkc => simp only [I.res, I.looks, List.mem_singleton, forall_eq] at *; rw [he, hf 0 (by omega)]; exact h
  case aeq => simp only [I.res, I.looks, List.mem_cons, List.not_mem_nil, or_false, forall_eq_or_imp, forall_eq] at *; rw [he.1, he.2]; exact h
  case len d str x =>
    simp only [I.res, I.looks, List.mem_singleton, forall_eq] at *
    have : lenT s' (s.ev x) = lenT s (s.ev x) := by
      generalize s.ev x = y at ho
      exact lenT_congr ho
    rw [he, this]; exact h
  case slc d sz x lo hi =>
    simp only [I.res, I.looks, List.mem_append, List.mem_singleton, Option.mem_toList] at *
    have h1 : ∀ m, bndT s' lo m = bndT s lo m := fun m => by cases lo with | none => rfl | some z => simp only [bndT]; rw [he z (by simp)]
    have h2 : ∀ m, bndT s' hi m = bndT s hi m := fun m => by cases hi with | none => rfl | some z => simp only [bndT]; rw [he z (by simp)]
    simp only [he x (by simp), h1, h2]; exact h
  case scut d x lo hi =>
    simp only [I.res, I.looks, List.mem_append, List.mem_singleton, Option.mem_toList] at *
    have h1 : ∀ m, bndT s' lo m = bndT s lo m := fun m => by cases lo with | none => rfl | some z => simp only [bndT]; rw [he z (by simp)]
    have h2 : ∀ m, bndT s' hi m = bndT s hi m := fun m => by cases hi with | none => rfl | some z => simp only [bndT]; rw [he z (by simp)]
    simp only [he x (by simp), h1, h2]; exact h
  case bst d x =>
    simp only [I.res, I.looks, List.mem_singleton, forall_eq] at *
    have : elemsT s' 1 (s.ev x) = elemsT s 1 (s.ev x) := by
      generalize s.ev x = y at ho
      exact elemsT_congr ho
    rw [he, this]; exact h
  case mkf d fn cap =>
    simp only [I.res, I.looks] at *
    rw [List.map_congr_left he]; exact h
  case mki => simp only [I.res, I.looks, List.mem_singleton, forall_eq] at *; rw [he]; exact h
  case tas => simp only [I.res, I.looks, List.mem_singleton, forall_eq] at *; rw [he]; exact h
  case mm => simp only [I.res, I.looks, List.mem_cons, List.not_mem_nil, or_false, forall_eq_or_imp, forall_eq] at *; rw [he.1, he.2]; exact h
  case call d fx xs =>
    simp only [I.res, I.looks] at *
    have hx : xs.map s'.ev = xs.map s.ev := List.map_congr_left fun x hx => he x (by simp [hx])
    rcases h with ⟨f, cap, D, r, h1, hpk, h2, h5⟩ | ⟨f, cap, vw, r, outs, h1, h2, h3, h4, h5⟩
    · have hids : ∀ e ∈ idsL (xs.map s.ev ++ cap), s'.ob e = s.ob e := by
        intro e hd
        obtain ⟨y, hy, hd⟩ := idsL_of hd
        rcases List.mem_append.1 hy with hy | hy
        · obtain ⟨x, hx, rfl⟩ := List.mem_map.1 hy
          exact ho x (by simp [hx]) e hd
        · exact ho fx (by simp) e (calleeOf_ids h1 y hy e hd)
      have hex : (xs.map s.ev ++ cap).map (TV.exp s' D false) = (xs.map s.ev ++ cap).map (TV.exp s D false) := List.map_congr_left fun y hy => exp_congr fun e hd => hids e (idsL_mem hy hd)
      have hins : insOf s' D false = insOf s D false := by
        unfold insOf
        refine List.map_congr_left fun e hD => ?_
        obtain ⟨h6, b, hb, hf⟩ := hpk.2 e hD
        rw [hids e h6, hb, Option.getD_some, flat_sub hf, flat_sub hf]
      exact .inl ⟨f, cap, D, r, by rw [he fx (by simp)]; exact h1, by
        rw [hx]
        exact ⟨hpk.1, fun e hD => ⟨(hpk.2 e hD).1, by rw [hids e (hpk.2 e hD).1]; exact (hpk.2 e hD).2⟩⟩, by rw [hx, hex, hins]; exact h2, h5⟩
    refine .inr ?_
    refine ⟨f, cap, vw, r, outs, by rw [he fx (by simp)]; exact h1, ?_, h3, fun j hj => by rw [hf j (by have := h5.1; omega)]; exact h4 j hj, h5⟩
    rw [hx]
    have : (xs.map s.ev ++ cap).map (TV.exp s' [] vw) = (xs.map s.ev ++ cap).map (TV.exp s [] vw) := List.map_congr_left fun y hy => exp_congr fun e hd => by
      rcases List.mem_append.1 hy with hy | hy
      · obtain ⟨x, hx, rfl⟩ := List.mem_map.1 hy
        exact ho x (by simp [hx]) e hd
      · exact ho fx (by simp) e (calleeOf_ids h1 y hy e hd)
    rw [this]; exact h2
  case app => exact h.elim

end Go.Proofs.YtaopcacmfhdfkaaGreatDoor.Vc

namespace Go.Proofs.YtaopcacmfhdfkaaGreatDoor.Vc
open Go Go.RowKit
set_option linter.unusedSimpArgs false
set_option linter.unusedVariables false

def GI.looks (g : GI) : List Operand := g.i.looks ++ (match g.g with | none => [] | some (t, _) => [.tmp t])

/-- What a quiet instruction, wanted or not, tells and makes. -/
def GI.res (P : Program) [Lay P] (g : GI) (s : St) (v : TV) (c : Chg) : Prop :=
  match g.g with
  | none => g.i.res P s v c
  | some (t, b) => (∃ b', s.tm t = .v (.bool b') ∧ ((b' = b ∧ g.i.res P s v c) ∨ (b' ≠ b ∧ v = .t [] ∧ c = []))) ∨ (s.tm t = .t [] ∧ v = .t [] ∧ c = [])

theorem GI.res_congr {P : Program} [Lay P] {s s' : St} {g : GI} {v : TV} {c : Chg} {dst : Nat} (hd : g.i.dst = some dst) (he : ∀ x ∈ g.looks, s'.ev x = s.ev x) (ho : ∀ x ∈ g.looks, ∀ d ∈ (s.ev x).ids, s'.ob d = s.ob d) (hf : ∀ k, k < 16 → s'.ob (sid dst k) = s.ob (sid dst k)) (h : g.res P s v c) : g.res P s' v c := by
  obtain ⟨i, g⟩ := g
  have h1 : ∀ {v c}, i.res P s v c → i.res P s' v c := fun h => I.res_congr hd (fun x hx => he x (by simp [GI.looks, hx])) (fun x hx => ho x (by simp [GI.looks, hx])) hf h
  cases g with
  | none => exact h1 h
  | some p =>
    obtain ⟨t, b⟩ := p
    have h4 : s'.tm t = s.tm t := he (.tmp t) (by simp [GI.looks])
    rcases h with ⟨b', h2, h3⟩ | ⟨h2, h3⟩
    · exact .inl ⟨b', by rw [h4]; exact h2, h3.imp (fun h => ⟨h.1, h1 h.2⟩) id⟩
    · exact .inr ⟨by rw [h4]; exact h2, h3⟩

/-- The ids that a quiet instruction makes are its own. -/
theorem chgOf_ids {d : Nat} : ∀ {os : List Ob} {k : Nat}, ∀ p ∈ chgOf d k os, ∃ j, p.1 = sid d j ∧ k ≤ j ∧ j < k + os.length
  | [], _, _, h => by cases h
  | o :: os, k, p, h => by
    simp only [chgOf, List.mem_cons] at h
    rcases h with rfl | h
    · exact ⟨k, rfl, Nat.le_refl _, by simp⟩
    · obtain ⟨j, h1, h2, h3⟩ := chgOf_ids p h
      exact ⟨j, h1, by omega, by simp; omega⟩
theorem I.res_chg {P : Program} [Lay P] {s : St} {i : I} {v : TV} {c : Chg} {dst : Nat} (hd : i.dst = some dst) (h : i.res P s v c) : ∀ p ∈ c, (∃ j, p.1 = sid dst j ∧ j < 16) ∧ s.ob p.1 = none := by
  cases i <;> simp only [I.dst, Option.some.injEq, reduceCtorEq] at hd <;> try subst hd
  case box => obtain ⟨h1, _, _, rfl⟩ := h; simp only [List.mem_singleton, forall_eq]; exact ⟨⟨0, rfl, by omega⟩, h1⟩
  case new => obtain ⟨h1, _, rfl⟩ := h; simp only [List.mem_singleton, forall_eq]; exact ⟨⟨0, rfl, by omega⟩, h1⟩
  case bsl =>
    obtain ⟨h1, _, ⟨_, rfl⟩ | ⟨_, rfl⟩⟩ := h
    · simp only [List.mem_singleton, forall_eq]; exact ⟨⟨0, rfl, by omega⟩, h1⟩
    · simp
  case mkc => obtain ⟨h1, _, _, _, _, _, _, _, rfl⟩ := h; simp only [List.mem_singleton, forall_eq]; exact ⟨⟨0, rfl, by omega⟩, h1⟩
  case mks => obtain ⟨h1, _, _, _, _, _, _, _, rfl⟩ := h; simp only [List.mem_singleton, forall_eq]; exact ⟨⟨0, rfl, by omega⟩, h1⟩
  case call =>
    rcases h with ⟨_, _, _, _, _, _, _, _, _, rfl⟩ | ⟨f, cap, vw, r, outs, _, _, _, h4, h16, _, rfl⟩
    · simp
    intro p hp
    obtain ⟨j, h5, h6, h7⟩ := chgOf_ids p hp
    exact ⟨⟨j, h5, by omega⟩, by rw [h5]; exact h4 j (by omega)⟩
  case load d m x => cases m <;> (simp only [I.res] at h; obtain ⟨_, _, _, h⟩ := h; first | (subst h; simp; done) | (obtain ⟨_, rfl⟩ := h; simp))
  case fld d off m x => cases m <;> (simp only [I.res] at h; obtain ⟨_, _, _, h⟩ := h; first | (subst h; simp; done) | (obtain ⟨_, rfl⟩ := h; simp))
  case app => exact h.elim
  all_goals
    simp only [I.res] at h
    have hc : c = [] := by
      first
        | exact h.2
        | (obtain ⟨_, _, _, h⟩ := h; exact h)
        | (obtain ⟨_, _, h⟩ := h; exact h)
        | (obtain ⟨_, _, _, _, h⟩ := h; exact h)
        | (obtain ⟨_, _, _, _, _, h⟩ := h; exact h)
        | (obtain ⟨_, _, _, _, _, _, h⟩ := h; exact h)
        | (obtain ⟨_, _, _, _, _, _, _, h⟩ := h; exact h)
        | (obtain ⟨_, _, _, _, _, _, _, _, h⟩ := h; exact h)
        | (obtain ⟨_, _, _, _, _, _, _, _, _, h⟩ := h; exact h)
    subst hc
    simp
theorem GI.res_chg {P : Program} [Lay P] {s : St} {g : GI} {v : TV} {c : Chg} {dst : Nat} (hd : g.i.dst = some dst) (h : g.res P s v c) : ∀ p ∈ c, (∃ j, p.1 = sid dst j ∧ j < 16) ∧ s.ob p.1 = none := by
  unfold GI.res at h
  split at h
  · exact I.res_chg hd h
  · obtain ⟨b', _, h | ⟨_, _, rfl⟩⟩ | ⟨_, _, rfl⟩ := h
    · exact I.res_chg hd h.2
    · simp
    · simp

/-- Quiet instructions, some of them done. -/
def qapp (sel : Nat → Bool) : Nat → List (Nat × TV × Chg) → St → St
  | _, [], s => s
  | k, (d, v, c) :: vs, s => qapp sel (k + 1) vs (if sel k = true then s.app d v c else s)
/-- They hold, each behind those ahead of it. -/
def qrun (P : Program) [Lay P] : List GI → List (Nat × TV × Chg) → St → Prop
  | [], vs, _ => vs = []
  | g :: gs, vs, s => ∃ d v c rest, vs = (d, v, c) :: rest ∧ g.i.dst = some d ∧ g.res P s v c ∧ qrun P gs rest (s.app d v c)

theorem addObs_at {c : Chg} {B : Obs} {e : Nat} (h : ∀ p ∈ c, p.1 ≠ e) : addObs B c e = B e := by
  unfold addObs
  induction c generalizing B with
  | nil => rfl
  | cons p c ih =>
    simp only [List.foldl_cons]
    rw [ih (fun q hq => h q (by simp [hq])), upd_ne _ _ (h p (by simp)).symm]

theorem addObs_eq {c : Chg} {B B' : Obs} {e : Nat} (h : B e = B' e) : addObs B c e = addObs B' c e := by
  unfold addObs
  induction c generalizing B B' with
  | nil => exact h
  | cons p c ih =>
    simp only [List.foldl_cons]
    refine ih ?_
    by_cases hp : e = p.1
    · subst hp; simp
    · rw [upd_ne _ _ hp, upd_ne _ _ hp]; exact h
theorem addObs_mono {c : Chg} {B : Obs} {e : Nat} (h : B e ≠ none) : addObs B c e ≠ none := by
  unfold addObs
  induction c generalizing B with
  | nil => exact h
  | cons p c ih =>
    simp only [List.foldl_cons]
    refine ih ?_
    by_cases hp : e = p.1
    · subst hp; simp
    · rw [upd_ne _ _ hp]; exact h

/-- A variable's value hangs on those that write it. -/
theorem qapp_tm {sel sel' : Nat → Bool} {t : Nat} : ∀ {vs : List (Nat × TV × Chg)} {k : Nat} {s s' : St}, s.tm t = s'.tm t → (∀ j d v c, vs[j]? = some (d, v, c) → d = t → sel (k + j) = sel' (k + j)) → (qapp sel k vs s).tm t = (qapp sel' k vs s').tm t
  | [], _, _, _, h, _ => h
  | (d, v, c) :: vs, k, s, s', h, hs => by
    simp only [qapp]
    refine qapp_tm ?_ (fun j d v c hj hd => by have := hs (j + 1) d v c (by simpa using hj) hd; rwa [show k + (j + 1) = k + 1 + j by omega] at this)
    by_cases hd : d = t
    · have := hs 0 d v c rfl hd
      simp only [Nat.add_zero] at this
      rw [this]
      split
      · simp [St.app, hd]
      · exact h
    · split <;> split <;> simp [St.app, upd_ne _ _ (Ne.symm hd), h]
theorem qapp_ob {sel sel' : Nat → Bool} {e : Nat} : ∀ {vs : List (Nat × TV × Chg)} {k : Nat} {s s' : St}, s.ob e = s'.ob e → (∀ j d v c, vs[j]? = some (d, v, c) → (∃ p ∈ c, p.1 = e) → sel (k + j) = sel' (k + j)) → (qapp sel k vs s).ob e = (qapp sel' k vs s').ob e
  | [], _, _, _, h, _ => h
  | (d, v, c) :: vs, k, s, s', h, hs => by
    simp only [qapp]
    refine qapp_ob ?_ (fun j d v c hj hd => by have := hs (j + 1) d v c (by simpa using hj) hd; rwa [show k + (j + 1) = k + 1 + j by omega] at this)
    by_cases hd : ∃ p ∈ c, p.1 = e
    · have := hs 0 d v c rfl hd
      simp only [Nat.add_zero] at this
      rw [this]
      split
      · simp only [St.app]; exact addObs_eq h
      · exact h
    · have hn : ∀ p ∈ c, p.1 ≠ e := fun p hp he => hd ⟨p, hp, he⟩
      split <;> split <;> simp [St.app, addObs_at hn, h]
theorem qapp_mono {sel : Nat → Bool} {e : Nat} : ∀ {vs : List (Nat × TV × Chg)} {k : Nat} {s : St}, s.ob e ≠ none → (qapp sel k vs s).ob e ≠ none
  | [], _, _, h => h
  | (d, v, c) :: vs, k, s, h => by
    simp only [qapp]
    refine qapp_mono ?_
    split
    · exact addObs_mono h
    · exact h

theorem wp_exists {P : Program} [Lay P] {o : Oper} {a : Act} {w : World} {K : Act → World → Prop} (h : o.wp P a w K (fun _ _ _ => False)) : ∃ a' w', K a' w' := by
  unfold Oper.wp at h
  generalize (execOp a.eval o).run P w = r at h
  cases r with
  | ok x w' =>
    cases x <;> simp only [Oper.upon] at h
    case value => exact ⟨_, _, h⟩
    case skip => exact ⟨_, _, h⟩
    case defer => exact ⟨_, _, h⟩
    case enter f args =>
      obtain ⟨e, w'', fr, hR, _⟩ := h []
      cases e with
      | returned v => exact ⟨_, _, hR⟩
      | panicked c => exact hR.elim
      | outgrown => obtain ⟨_, _, hR⟩ := hR; exact hR.elim
    case row row args =>
      obtain ⟨v, w'', hR, _⟩ := h default []
      exact ⟨_, _, hR⟩
  | halt x w' => cases x <;> simp only [Oper.upon] at h

end Go.Proofs.YtaopcacmfhdfkaaGreatDoor.Vc

namespace Go.Proofs.YtaopcacmfhdfkaaGreatDoor.Vc
open Go Go.RowKit
set_option linter.unusedSimpArgs false
set_option linter.unusedVariables false

def tmpsOf (l : List Operand) : List Nat := l.filterMap fun | .tmp t => some t | _ => none
/-- Two instructions that nothing orders. -/
def indep (g g' : GI) : Bool :=
  match g.i.dst, g'.i.dst with
  | some d, some d' => d != d' && !(tmpsOf g'.looks).contains d && !(tmpsOf g.looks).contains d'
  | _, _ => false

def drawVc (P : Program) [Lay P] : List (GI × Bool) → (St → Prop) → St → Prop
  | [], K, s => K s
  | (g, true) :: gs, K, s => g.vc P s (drawVc P gs K)
  | (g, false) :: gs, K, s => ∃ d v c, g.i.dst = some d ∧ g.res P s v c ∧ drawVc P gs K (s.app d v c)

theorem drawVc_split {P : Program} [Lay P] {K : St → Prop} : ∀ (gs : List (GI × Bool)) (s : St), drawVc P gs K s →
    ∃ seg rest vs, gs = seg ++ rest ∧ (∀ x ∈ seg, x.2 = false) ∧ (∀ x, rest.head? = some x → x.2 = true) ∧ vs.length = seg.length ∧ qrun P (seg.map (·.1)) vs s ∧ drawVc P rest K (qapp (fun _ => true) 0 vs s)
  | [], s, h => ⟨[], [], [], rfl, by simp, by simp, rfl, rfl, h⟩
  | (g, true) :: gs, s, h => ⟨[], (g, true) :: gs, [], rfl, by simp, by simp, rfl, rfl, h⟩
  | (g, false) :: gs, s, h => by
    obtain ⟨d, v, c, h1, h2, h3⟩ := h
    obtain ⟨seg, rest, vs, h4, h5, h6, h7, h8, h9⟩ := drawVc_split gs _ h3
    refine ⟨(g, false) :: seg, rest, (d, v, c) :: vs, by rw [h4]; rfl, ?_, h6, by simp [h7], ⟨d, v, c, vs, rfl, h1, h2, h8⟩, ?_⟩
    · intro x hx
      rcases List.mem_cons.1 hx with rfl | hx
      · rfl
      · exact h5 x hx
    · simp only [qapp, if_true]
      have : ∀ (vs : List (Nat × TV × Chg)) (k k' : Nat) (s : St), qapp (fun _ => true) k vs s = qapp (fun _ => true) k' vs s := by
        intro vs
        induction vs with
        | nil => intros; rfl
        | cons x vs ih => intro k k' s; obtain ⟨d, v, c⟩ := x; simp only [qapp]; exact ih _ _ _
      rw [this vs 1 0]; exact h9

theorem qapp_all {sel sel' : Nat → Bool} : ∀ {vs : List (Nat × TV × Chg)} {k : Nat} {s : St}, (∀ j, j < vs.length → sel (k + j) = sel' (k + j)) → qapp sel k vs s = qapp sel' k vs s
  | [], _, _, _ => rfl
  | (d, v, c) :: vs, k, s, h => by
    simp only [qapp]
    have h0 := h 0 (by simp)
    simp only [Nat.add_zero] at h0
    rw [h0]
    exact qapp_all (fun j hj => by have := h (j + 1) (by simpa using hj); rwa [show k + (j + 1) = k + 1 + j by omega] at this)
theorem qapp_shift {sel : Nat → Bool} {b : Nat} : ∀ {vs : List (Nat × TV × Chg)} {k : Nat} {s : St}, qapp sel (b + k) vs s = qapp (fun j => sel (b + j)) k vs s
  | [], _, _ => rfl
  | (d, v, c) :: vs, k, s => by
    simp only [qapp]
    exact qapp_shift (k := k + 1)

theorem upd_comm {α : Type} (f : Nat → α) {d d' : Nat} (v v' : α) (h : d ≠ d') : upd (upd f d v) d' v' = upd (upd f d' v') d v := by
  funext x; simp only [upd]; split <;> split <;> simp_all
theorem addObs_upd {c : Chg} {B : Obs} {d : Nat} {o : Option Ob} (h : ∀ p ∈ c, p.1 ≠ d) : addObs (upd B d o) c = upd (addObs B c) d o := by
  unfold addObs
  induction c generalizing B with
  | nil => rfl
  | cons p c ih =>
    simp only [List.foldl_cons]
    rw [upd_comm _ _ _ (h p (by simp)).symm, ih (fun q hq => h q (by simp [hq]))]
theorem addObs_comm {c c' : Chg} {B : Obs} (h : ∀ p ∈ c, ∀ q ∈ c', p.1 ≠ q.1) : addObs (addObs B c) c' = addObs (addObs B c') c := by
  induction c generalizing B with
  | nil => rfl
  | cons p c ih =>
    have h1 : addObs B (p :: c) = addObs (upd B p.1 (some p.2)) c := rfl
    have h2 : addObs (addObs B c') (p :: c) = addObs (upd (addObs B c') p.1 (some p.2)) c := rfl
    rw [h1, h2, ih (fun a ha => h a (by simp [ha])), addObs_upd (fun q hq => (h p (by simp) q hq).symm)]
theorem app_comm {s : St} {d d' : Nat} {v v' : TV} {c c' : Chg} (hd : d ≠ d') (h : ∀ p ∈ c, ∀ q ∈ c', p.1 ≠ q.1) : (s.app d v c).app d' v' c' = (s.app d' v' c').app d v c := by
  simp only [St.app]
  rw [upd_comm _ _ _ hd, addObs_comm h]

theorem qapp_pass {sel : Nat → Bool} {d : Nat} {v : TV} {c : Chg} : ∀ (vs : List (Nat × TV × Chg)) (k : Nat) (s : St), (∀ j d' v' c', vs[j]? = some (d', v', c') → sel (k + j) = true → d ≠ d' ∧ ∀ p ∈ c, ∀ q ∈ c', p.1 ≠ q.1) → qapp sel k vs (s.app d v c) = (qapp sel k vs s).app d v c
  | [], _, _, _ => rfl
  | (d2, v2, c2) :: vs, k, s, hx => by
    simp only [qapp]
    have hrest := qapp_pass (sel := sel) (d := d) (v := v) (c := c) vs (k + 1) (if sel k = true then s.app d2 v2 c2 else s) (fun j d' v' c' hj hsel => hx (j + 1) d' v' c' (by simpa using hj) (by rwa [show k + (j + 1) = k + 1 + j by omega]))
    by_cases hk : sel k = true
    · simp only [hk, if_true] at hrest ⊢
      obtain ⟨h2, h3⟩ := hx 0 d2 v2 c2 rfl (by simpa using hk)
      rw [app_comm h2 h3, hrest]
    · simp only [hk] at hrest ⊢
      exact hrest

/-- One more that is done: as if it were done last. -/
theorem qapp_insert {sel sel' : Nat → Bool} {i : Nat} : ∀ {vs : List (Nat × TV × Chg)} {k : Nat} {s : St} {d : Nat} {v : TV} {c : Chg}, vs[i]? = some (d, v, c) → sel (k + i) = false → (∀ j, j < vs.length → sel' (k + j) = (sel (k + j) || j == i)) →
    (∀ j d' v' c', i < j → vs[j]? = some (d', v', c') → sel (k + j) = true → d ≠ d' ∧ ∀ p ∈ c, ∀ q ∈ c', p.1 ≠ q.1) → qapp sel' k vs s = (qapp sel k vs s).app d v c
  | [], _, _, _, _, _, h, _, _, _ => by simp at h
  | (d', v', c') :: vs, k, s, d, v, c, h, hs, hs', hc => by
    simp only [qapp]
    cases i with
    | zero =>
      simp only [List.getElem?_cons_zero, Option.some.injEq, Prod.mk.injEq] at h
      obtain ⟨rfl, rfl, rfl⟩ := h
      have h0 := hs' 0 (by simp)
      simp only [Nat.add_zero, beq_self_eq_true, Bool.or_true] at h0 hs
      rw [h0, hs]
      simp only [if_true, Bool.false_eq_true, if_false]
      rw [qapp_all (sel := sel') (sel' := sel) (fun j hj => by
        have := hs' (j + 1) (by simpa using hj)
        rw [show k + (j + 1) = k + 1 + j by omega] at this
        simpa using this)]
      exact qapp_pass vs (k + 1) s (fun j d2 v2 c2 hj hsel => hc (j + 1) d2 v2 c2 (by omega) (by simpa using hj) (by rwa [show k + (j + 1) = k + 1 + j by omega]))
    | succ i =>
      have h0 := hs' 0 (by simp)
      simp only [Nat.add_zero] at h0
      rw [h0]
      simp only [show ((0 : Nat) == i + 1) = false from rfl, Bool.or_false]
      exact qapp_insert (i := i) (by simpa using h) (by rwa [show k + (i + 1) = k + 1 + i by omega] at hs) (fun j hj => by
        have := hs' (j + 1) (by simpa using hj)
        rw [show k + (j + 1) = k + 1 + j by omega] at this
        rw [this]; congr 1
        simp) (fun j d' v' c' hij hj hsel => hc (j + 1) d' v' c' (by omega) (by simpa using hj) (by rwa [show k + (j + 1) = k + 1 + j by omega]))

theorem sid_inj {d d' k k' : Nat} (h : sid d k = sid d' k') (hk : k < 16) (hk' : k' < 16) : d = d' ∧ k = k' := by
  unfold sid at h; omega

theorem tmpsOf_mem {l : List Operand} {t : Nat} : t ∈ tmpsOf l ↔ Operand.tmp t ∈ l := by
  simp only [tmpsOf, List.mem_filterMap]
  constructor
  · rintro ⟨x, hx, h⟩
    cases x <;> simp at h
    subst h; exact hx
  · intro h; exact ⟨_, h, rfl⟩

section
variable {P : Program} [Lay P] {w0 : World} {X : Nat → Value} {ok0 : Nat → Prop} [GlF P w0 X ok0] {n : Nat} {E : Nat → Value} {s : St} {a : Act} {w : World}

theorem GI.res_sound {ops : Array Oper} {o : Oper} {g : GI} {d : Nat} {v : TV} {c : Chg} (hg : trO P ops o = some g) (hd : g.i.dst = some d) (hn : d < n) (h : Inv w0 X ok0 n E s a w) (hr : g.res P s v c) (Q : Exit → Act → World → Prop) :
    if Region.wanted o (yielded ops a.tmps) = true then o.wp P a w (fun a' w' => ∃ E', Inv w0 X ok0 n E' (s.app d v c) a' w') Q else ∃ E', Inv w0 X ok0 n E' (s.app d v c) (a.put o.dst undef) w := by
  unfold trO at hg
  simp only [Option.bind_eq_some_iff] at hg
  obtain ⟨i, hi, hg⟩ := hg
  have hds := trB_dst hi
  have key : ∀ {v c}, i.dst = some d → i.res P s v c → o.wp P a w (fun a' w' => ∃ E', Inv w0 X ok0 n E' (s.app d v c) a' w') Q := by
    intro v c hid hr
    rw [hid] at hds
    unfold trB at hi
    rw [← hds] at hi
    exact trD_sound hi hds.symm hn h hr Q
  split at hg
  · rename_i hgd
    obtain rfl := Option.some.inj hg
    rw [if_pos (by simp [Region.wanted, hgd])]
    exact key hd hr
  · rename_i j b hgd
    simp only [Option.map_eq_some_iff] at hg
    obtain ⟨t, ht, rfl⟩ := hg
    rcases hr with ⟨b', h1, h2⟩ | ⟨h1, rfl, rfl⟩
    case inr =>
      have hy : yielded ops a.tmps j = none := by
        rcases undef_tmp h h1 with hb | hb <;> simp [yielded, ht, hb, undef]
      rw [if_neg (by simp [Region.wanted, hgd, hy])]
      simp only at hd
      rw [hd] at hds
      rw [← hds]
      exact ⟨E, h.put hn rel_undef⟩
    have hb := bool_tmp h h1
    have hy : yielded ops a.tmps j = some b' := by simp [yielded, ht, hb]
    rcases h2 with ⟨h3, h4⟩ | ⟨h3, rfl, rfl⟩
    · rw [if_pos (by simp [Region.wanted, hgd, hy, h3])]
      exact key hd h4
    · rw [if_neg (by simp [Region.wanted, hgd, hy, h3])]
      simp only at hd
      rw [hd] at hds
      rw [← hds]
      exact ⟨E, h.put hn rel_undef⟩

theorem GI.res_exists {ops : Array Oper} {o : Oper} {g : GI} {d : Nat} {v : TV} {c : Chg} (hg : trO P ops o = some g) (hd : g.i.dst = some d) (hn : d < n) (h : Inv w0 X ok0 n E s a w) (hr : g.res P s v c) :
    ∃ E' a' w', Inv w0 X ok0 n E' (s.app d v c) a' w' := by
  have := GI.res_sound hg hd hn h hr (fun _ _ _ => False)
  split at this
  · obtain ⟨a', w', E', h⟩ := wp_exists this
    exact ⟨E', a', w', h⟩
  · obtain ⟨E', h⟩ := this
    exact ⟨E', _, _, h⟩

/-- Each state on the text's way is one of a walk. -/
theorem qrun_exists {ops : Array Oper} : ∀ {gs : List GI} {vs : List (Nat × TV × Chg)} {s : St} {k i : Nat}, (∃ E a w, Inv w0 X ok0 n E s a w) → (∀ g ∈ gs, ∃ o, trO P ops o = some g ∧ ∀ d, g.i.dst = some d → d < n) → qrun P gs vs s → ∃ E a w, Inv w0 X ok0 n E (qapp (fun j => decide (j < k + i)) k vs s) a w
  | [], vs, s, k, i, h, _, hq => by simp only [qrun] at hq; subst hq; exact h
  | g :: gs, vs, s, k, i, h, hg, hq => by
    obtain ⟨d, v, c, rest, rfl, h1, h2, h3⟩ := hq
    simp only [qapp]
    cases i with
    | zero =>
      have : qapp (fun j => decide (j < k + 0)) (k + 1) rest (if decide (k < k + 0) = true then s.app d v c else s) = s := by
        simp only [Nat.add_zero, Nat.lt_irrefl, decide_false, Bool.false_eq_true, if_false]
        rw [qapp_all (sel' := fun _ => false) (fun j _ => by simp; omega)]
        have hz : ∀ (vs : List (Nat × TV × Chg)) (k : Nat) (s : St), qapp (fun _ => false) k vs s = s := by
          intro vs
          induction vs with
          | nil => intros; rfl
          | cons x vs ih => intro k s; obtain ⟨_, _, _⟩ := x; simp only [qapp]; exact ih _ _
        exact hz _ _ _
      rw [this]; exact h
    | succ i =>
      obtain ⟨E, a, w, hI⟩ := h
      obtain ⟨o, ho, hn⟩ := hg g (by simp)
      obtain ⟨E', a', w', hI'⟩ := GI.res_exists ho h1 (hn d h1) hI h2
      rw [if_pos (by simp)]
      have := qrun_exists (ops := ops) (k := k + 1) (i := i) ⟨E', a', w', hI'⟩ (fun g hg' => hg g (by simp [hg'])) h3
      rwa [show k + 1 + i = k + (i + 1) by omega] at this
end

end Go.Proofs.YtaopcacmfhdfkaaGreatDoor.Vc

namespace Go.Proofs.YtaopcacmfhdfkaaGreatDoor.Vc
open Go Go.RowKit
set_option linter.unusedSimpArgs false
set_option linter.unusedVariables false

structure DrawOk (P : Program) [Lay P] (ops : Array Oper) (gs : List GI) (bar : List Bool) (B : List Nat) (n : Nat) (Sm : Nat → Nat → Prop) : Prop where
  len : gs.length = ops.size
  blen : bar.length = ops.size
  tr : ∀ (i : Nat) o, ops[i]? = some o → ∃ g, gs[i]? = some g ∧ trO P ops o = some g
  dst : ∀ (i : Nat) g d, gs[i]? = some g → g.i.dst = some d → d < n
  edge : ∀ (i : Nat) o e, ops[i]? = some o → e ∈ o.after.toList → Region.binds .any e = true → e.on < i
  bits : ∀ i k : Nat, (B.getD i 0).testBit k = true → k < i ∧ ∃ o e, ops[i]? = some o ∧ e ∈ o.after.toList ∧ Region.binds .any e = true ∧ (e.on = k ∨ (B.getD e.on 0).testBit k = true)
  sep : ∀ (i j : Nat) gi gj, i < j → gs[i]? = some gi → gs[j]? = some gj → (B.getD j 0).testBit i = true ∨ (bar.getD i true = false ∧ bar.getD j true = false ∧ indep gi gj = true) ∨ (bar.getD j true = true ∧ Sm i j)

/-- With each that is done, those that it waits for are done. -/
def Down (ops : Array Oper) (L : Array Bool) : Prop := ∀ (i : Nat) o e, L.getD i false = true → ops[i]? = some o → e ∈ o.after.toList → Region.binds .any e = true → L.getD e.on false = true

section
variable {P : Program} [Lay P] {ops : Array Oper} {gs : List GI} {bar : List Bool} {B : List Nat} {n : Nat} {L : Array Bool} {Sm : Nat → Nat → Prop}

theorem DrawOk.down (D : DrawOk P ops gs bar B n Sm) (h : Down ops L) : ∀ (i k : Nat), L.getD i false = true → (B.getD i 0).testBit k = true → L.getD k false = true := by
  intro i
  induction i using Nat.strongRecOn with
  | _ i ih =>
    intro k hi hk
    obtain ⟨_, o, e, ho, he, hb, h1⟩ := D.bits i k hk
    have hon := h i o e hi ho he hb
    rcases h1 with h1 | h1
    · rwa [← h1]
    · exact ih e.on (D.edge i o e ho he hb) k hon h1

theorem ready_mem {i : Nat} (h : i ∈ Region.ready .any ops L) : i < ops.size ∧ L.getD i true = false ∧ ∀ o e, ops[i]? = some o → e ∈ o.after.toList → Region.binds .any e = true → L.getD e.on false = true := by
  simp only [Region.ready, List.mem_filter, List.mem_range, Bool.and_eq_true, Bool.not_eq_true'] at h
  obtain ⟨h1, h2, h3⟩ := h
  refine ⟨h1, h2, fun o e ho he hb => ?_⟩
  rw [ho] at h3
  simp only [Option.map_some, Option.getD_some, Array.all_eq_true_iff_forall_mem] at h3
  have := h3 e (by simpa using he)
  simpa [hb] using this

theorem DrawOk.ready (D : DrawOk P ops gs bar B n Sm) (h : Down ops L) {i : Nat} (hi : i ∈ Region.ready .any ops L) : ∀ k : Nat, (B.getD i 0).testBit k = true → L.getD k false = true := by
  intro k hk
  obtain ⟨_, o, e, ho, he, hb, h1⟩ := D.bits i k hk
  have hon := (ready_mem hi).2.2 o e ho he hb
  rcases h1 with h1 | h1
  · rwa [← h1]
  · exact D.down h e.on k hon h1

theorem Down.set (h : Down ops L) {i : Nat} (hi : i ∈ Region.ready .any ops L) : Down ops (L.setIfInBounds i true) := by
  have mono : ∀ k : Nat, L.getD k false = true → (L.setIfInBounds i true).getD k false = true := by
    intro k hk
    simp only [Array.getD_eq_getD_getElem?, Array.getElem?_setIfInBounds] at hk ⊢
    split
    · split
      · rfl
      · rename_i h1 h2; subst h1; simp [h2] at hk
    · exact hk
  intro j o e hj ho he hb
  by_cases hji : j = i
  · subst hji
    exact mono _ ((ready_mem hi).2.2 o e ho he hb)
  · refine mono _ (h j o e ?_ ho he hb)
    simp only [Array.getD_eq_getD_getElem?, Array.getElem?_setIfInBounds, if_neg (Ne.symm hji)] at hj ⊢
    exact hj

theorem all_done (D : DrawOk P ops gs bar B n Sm) (hr : Region.ready .any ops L = []) (hL : L.size = ops.size) : ∀ k : Nat, k < ops.size → L.getD k false = true := by
  intro k
  induction k using Nat.strongRecOn with
  | _ k ih =>
    intro hk
    cases hb : L.getD k false with
    | true => rfl
    | false =>
      exfalso
      have hm : k ∈ Region.ready .any ops L := by
        simp only [Region.ready, List.mem_filter, List.mem_range, Bool.and_eq_true, Bool.not_eq_true']
        refine ⟨hk, ?_, ?_⟩
        · simp only [Array.getD_eq_getD_getElem?] at hb ⊢
          rw [Array.getElem?_eq_getElem (by omega)] at hb ⊢
          simpa using hb
        · rw [Array.getElem?_eq_getElem hk]
          simp only [Option.map_some, Option.getD_some, Array.all_eq_true_iff_forall_mem]
          intro e he
          by_cases hbd : Region.binds .any e = true
          · have hlt := D.edge k _ e (Array.getElem?_eq_getElem hk) (by simpa using he) hbd
            simp [ih e.on hlt (by omega)]
          · simp [hbd]
      rw [hr] at hm
      cases hm

variable {w0 : World} {X : Nat → Value} {ok0 : Nat → Prop} [GlF P w0 X ok0]

theorem qrun_get : ∀ {gs : List GI} {vs : List (Nat × TV × Chg)} {s : St} {i : Nat} {g : GI}, qrun P gs vs s → gs[i]? = some g → ∃ d v c, vs[i]? = some (d, v, c) ∧ g.i.dst = some d ∧ g.res P (qapp (fun j => decide (j < i)) 0 vs s) v c
  | [], _, _, _, _, _, h => by simp at h
  | g' :: gs, vs, s, i, g, hq, h => by
    obtain ⟨d, v, c, rest, rfl, h1, h2, h3⟩ := hq
    cases i with
    | zero =>
      simp at h; subst h
      refine ⟨d, v, c, rfl, h1, ?_⟩
      have : qapp (fun j => decide (j < 0)) 0 ((d, v, c) :: rest) s = s := by
        rw [qapp_all (sel' := fun _ => false) (fun j _ => by simp)]
        have hz : ∀ (vs : List (Nat × TV × Chg)) (k : Nat) (s : St), qapp (fun _ => false) k vs s = s := by
          intro vs
          induction vs with
          | nil => intros; rfl
          | cons x vs ih => intro k s; obtain ⟨_, _, _⟩ := x; simp only [qapp]; exact ih _ _
        exact hz _ _ _
      rw [this]; exact h2
    | succ i =>
      obtain ⟨d', v', c', h4, h5, h6⟩ := qrun_get h3 (by simpa using h : gs[i]? = some g)
      refine ⟨d', v', c', by simpa using h4, h5, ?_⟩
      simp only [qapp]
      rw [if_pos (by simp), show (1 : Nat) = 1 + 0 from rfl]
      rw [show (0 + (1 + 0)) = 1 + 0 from rfl, qapp_shift (b := 1) (k := 0)]
      rw [qapp_all (sel' := fun j => decide (j < i)) (fun j _ => by simp; omega)]
      exact h6

/-- Where a walk in whatever order stands. -/
def Stand (P : Program) [Lay P] (w0 : World) (X : Nat → Value) (ok0 : Nat → Prop) (n : Nat) (gs : List GI) (bar : List Bool) (K : St → Prop) (L : Array Bool) (a : Act) (w : World) : Prop :=
  ∃ (b m : Nat) (vs : List (Nat × TV × Chg)) (s : St), b ≤ m ∧ m ≤ gs.length ∧ (∀ j : Nat, j < b → L.getD j false = true) ∧ (∀ j : Nat, m ≤ j → L.getD j false = false) ∧ (∀ j : Nat, b ≤ j → j < m → bar.getD j true = false) ∧ (m < gs.length → bar.getD m true = true) ∧
    vs.length = m - b ∧ qrun P ((gs.drop b).take (m - b)) vs s ∧ drawVc P ((gs.zip bar).drop m) K (qapp (fun _ => true) 0 vs s) ∧ (∃ E a w, Inv w0 X ok0 n E s a w) ∧ ∃ E, Inv w0 X ok0 n E (qapp (fun j => L.getD (b + j) false) 0 vs s) a w

theorem Stand.begin (D : DrawOk P ops gs bar B n Sm) {K : St → Prop} {b : Nat} {s : St} {E : Nat → Value} {a : Act} {w : World} (hb : b ≤ gs.length) (h1 : ∀ j : Nat, j < b → L.getD j false = true) (h2 : ∀ j : Nat, b ≤ j → L.getD j false = false)
    (hI : Inv w0 X ok0 n E s a w) (hv : drawVc P ((gs.zip bar).drop b) K s) : Stand P w0 X ok0 n gs bar K L a w := by
  have _ := ‹GlF P w0 X ok0›
  obtain ⟨seg, rest, vs, h3, h4, h5, h6, h7, h8⟩ := drawVc_split _ _ hv
  have hzl : (gs.zip bar).length = gs.length := by simp [D.len, D.blen]
  have hll : seg.length + rest.length = gs.length - b := by
    have := congrArg List.length h3
    simp only [List.length_drop, List.length_append, hzl] at this
    omega
  have hget : ∀ j, b + j < gs.length → ∃ g, ((gs.zip bar).drop b)[j]? = some (g, bar.getD (b + j) true) := by
    intro j hj
    have hj' : b + j < bar.length := by rw [D.blen, ← D.len]; exact hj
    refine ⟨gs[b + j], ?_⟩
    rw [List.getElem?_drop]
    refine List.getElem?_zip_eq_some.2 ⟨List.getElem?_eq_getElem hj, ?_⟩
    simp [hj']
  refine ⟨b, b + seg.length, vs, s, by omega, by omega, h1, fun j hj => h2 j (by omega), fun j hj1 hj2 => ?_, fun hm => ?_, by omega, ?_, ?_, ⟨E, a, w, hI⟩, E, ?_⟩
  · obtain ⟨g, h9⟩ := hget (j - b) (by omega)
    rw [h3, List.getElem?_append_left (by omega), show b + (j - b) = j by omega] at h9
    have := h4 _ (List.mem_of_getElem? h9)
    exact this
  · obtain ⟨g, h9⟩ := hget seg.length hm
    rw [h3, List.getElem?_append_right (by omega), Nat.sub_self] at h9
    have := h5 _ (by rw [List.head?_eq_getElem?]; exact h9)
    exact this
  · have : (gs.drop b).take (b + seg.length - b) = seg.map (·.1) := by
      have h9 : ((gs.zip bar).drop b).map (·.1) = gs.drop b := by
        rw [List.map_drop, List.map_fst_zip (by rw [D.blen, ← D.len]; exact Nat.le_refl _)]
      rw [← h9, h3, List.map_append, show b + seg.length - b = (seg.map (·.1)).length by simp, List.take_left]
    rw [this]; exact h7
  · have : (gs.zip bar).drop (b + seg.length) = rest := by
      rw [← List.drop_drop, h3, List.drop_left]
    rw [this]; exact h8
  · have : qapp (fun j => L.getD (b + j) false) 0 vs s = s := by
      rw [qapp_all (sel' := fun _ => false) (fun j _ => h2 _ (by omega))]
      have hz : ∀ (vs : List (Nat × TV × Chg)) (k : Nat) (s : St), qapp (fun _ => false) k vs s = s := by
        intro vs
        induction vs with
        | nil => intros; rfl
        | cons x vs ih => intro k s; obtain ⟨_, _, _⟩ := x; simp only [qapp]; exact ih _ _
      exact hz _ _ _
    rw [this]; exact hI
end

end Go.Proofs.YtaopcacmfhdfkaaGreatDoor.Vc

namespace Go.Proofs.YtaopcacmfhdfkaaGreatDoor.Vc
open Go Go.RowKit
set_option linter.unusedSimpArgs false
set_option linter.unusedVariables false

theorem qapp_some {sel : Nat → Bool} {e : Nat} : ∀ {vs : List (Nat × TV × Chg)} {k : Nat} {s : St}, (qapp sel k vs s).ob e ≠ none → s.ob e ≠ none ∨ ∃ j d v c, vs[j]? = some (d, v, c) ∧ sel (k + j) = true ∧ ∃ p ∈ c, p.1 = e
  | [], _, _, h => .inl h
  | (d, v, c) :: vs, k, s, h => by
    simp only [qapp] at h
    rcases qapp_some h with h1 | ⟨j, d', v', c', h1, h2, h3⟩
    · by_cases hk : sel k = true
      · rw [if_pos hk] at h1
        by_cases hp : ∃ p ∈ c, p.1 = e
        · exact .inr ⟨0, d, v, c, rfl, hk, hp⟩
        · simp only [St.app] at h1
          rw [addObs_at (fun p hp' he => hp ⟨p, hp', he⟩)] at h1
          exact .inl h1
      · rw [if_neg hk] at h1; exact .inl h1
    · exact .inr ⟨j + 1, d', v', c', by simpa using h1, by rwa [show k + (j + 1) = k + 1 + j by omega], h3⟩

theorem addObs_touch {c : Chg} {B : Obs} {p : Nat × Ob} (h : p ∈ c) : addObs B c p.1 ≠ none := by
  unfold addObs
  induction c generalizing B with
  | nil => cases h
  | cons q c ih =>
    simp only [List.foldl_cons]
    rcases List.mem_cons.1 h with rfl | h
    · exact addObs_mono (c := c) (by simp)
    · exact ih h
theorem qapp_touch {sel : Nat → Bool} : ∀ {vs : List (Nat × TV × Chg)} {k j : Nat} {s : St} {d : Nat} {v : TV} {c : Chg} {p : Nat × Ob}, vs[j]? = some (d, v, c) → sel (k + j) = true → p ∈ c → (qapp sel k vs s).ob p.1 ≠ none
  | [], _, _, _, _, _, _, _, h, _, _ => by simp at h
  | (d', v', c') :: vs, k, j, s, d, v, c, p, h, hs, hp => by
    simp only [qapp]
    cases j with
    | zero =>
      simp only [List.getElem?_cons_zero, Option.some.injEq, Prod.mk.injEq] at h
      obtain ⟨rfl, rfl, rfl⟩ := h
      rw [if_pos (by simpa using hs)]
      exact qapp_mono (by simp only [St.app]; exact addObs_touch hp)
    | succ j =>
      exact qapp_touch (by simpa using h : vs[j]? = some (d, v, c)) (by rwa [show k + (j + 1) = k + 1 + j by omega] at hs) hp

section
variable {Sm : Nat → Nat → Prop} {P : Program} [Lay P] {ops : Array Oper} {gs : List GI} {bar : List Bool} {B : List Nat} {n : Nat} {L : Array Bool} {w0 : World} {X : Nat → Value} {ok0 : Nat → Prop} [GlF P w0 X ok0]

theorem getD_set {i j : Nat} (hi : i < L.size) (d : Bool) : (L.setIfInBounds i true).getD j d = if j = i then true else L.getD j d := by
  simp only [Array.getD_eq_getD_getElem?, Array.getElem?_setIfInBounds]
  by_cases h : j = i
  · subst h; simp [hi]
  · simp [h, Ne.symm h]

/-- A quiet step, in whatever order: what it comes to. -/
theorem quiet_core (D : DrawOk P ops gs bar B n Sm) (hL : L.size = ops.size) (hdn : Down ops L) {b m : Nat} {vs : List (Nat × TV × Chg)} {s : St} (hbm : b ≤ m) (hm : m ≤ gs.length) (hvs : vs.length = m - b) (hq : qrun P ((gs.drop b).take (m - b)) vs s)
    (hbar : ∀ j : Nat, b ≤ j → j < m → bar.getD j true = false) (hex : ∃ E a w, Inv w0 X ok0 n E s a w) {i : Nat} (hi : i ∈ Region.ready .any ops L) (hbi : b ≤ i) (him : i < m) {o : Oper} (ho : ops[i]? = some o) :
    ∃ g d v c, gs[i]? = some g ∧ trO P ops o = some g ∧ g.i.dst = some d ∧ d < n ∧ g.res P (qapp (fun j => decide (j < i - b)) 0 vs s) v c ∧
      (∀ x ∈ g.looks, (qapp (fun j => L.getD (b + j) false) 0 vs s).ev x = (qapp (fun j => decide (j < i - b)) 0 vs s).ev x) ∧
      (∀ x ∈ g.looks, ∀ e ∈ ((qapp (fun j => decide (j < i - b)) 0 vs s).ev x).ids, (qapp (fun j => L.getD (b + j) false) 0 vs s).ob e ≠ none → (qapp (fun j => L.getD (b + j) false) 0 vs s).ob e = (qapp (fun j => decide (j < i - b)) 0 vs s).ob e) ∧
      (∀ k, k < 16 → (qapp (fun j => L.getD (b + j) false) 0 vs s).ob (sid d k) = (qapp (fun j => decide (j < i - b)) 0 vs s).ob (sid d k)) ∧
      qapp (fun j => (L.setIfInBounds i true).getD (b + j) false) 0 vs s = (qapp (fun j => L.getD (b + j) false) 0 vs s).app d v c := by
  obtain ⟨hio, hiL, _⟩ := ready_mem hi
  have hiLf : L.getD i false = false := by
    simp only [Array.getD_eq_getD_getElem?] at hiL ⊢
    rw [Array.getElem?_eq_getElem (by omega)] at hiL ⊢
    simpa using hiL
  have hseg : ∀ j, j < m - b → ((gs.drop b).take (m - b))[j]? = gs[b + j]? := fun j hj => by rw [List.getElem?_take, if_pos hj, List.getElem?_drop]
  obtain ⟨g, hg, htr⟩ := D.tr i o ho
  have hgi : ((gs.drop b).take (m - b))[i - b]? = some g := by rw [hseg _ (by omega), show b + (i - b) = i by omega]; exact hg
  obtain ⟨d, v, c, hvi, hd, hres⟩ := qrun_get hq hgi
  have hdn' : d < n := D.dst i g d hg hd
  -- the others of the segment
  have other : ∀ (j : Nat) d' v' c', vs[j]? = some (d', v', c') → ∃ g', gs[b + j]? = some g' ∧ g'.i.dst = some d' ∧ g'.res P (qapp (fun k => decide (k < j)) 0 vs s) v' c' := fun j d' v' c' hj => by
    have hjl : j < m - b := by have := (List.getElem?_eq_some_iff.1 hj).1; omega
    have hgj : gs[b + j]? = some (gs[b + j]'(by omega)) := List.getElem?_eq_getElem (by omega)
    obtain ⟨d2, v2, c2, h1, h2, h3⟩ := qrun_get hq (show ((gs.drop b).take (m - b))[j]? = some _ by rw [hseg j hjl]; exact hgj)
    rw [hj] at h1
    obtain ⟨rfl, rfl, rfl⟩ := Prod.mk.inj (Option.some.inj h1) |>.imp id Prod.mk.inj
    exact ⟨_, hgj, h2, h3⟩
  have order : ∀ (j : Nat) g', j < m - b → j ≠ i - b → gs[b + j]? = some g' → (L.getD (b + j) false = decide (j < i - b)) ∨ (indep g' g = true ∨ indep g g' = true) := fun j g' hj hne hg' => by
    rcases Nat.lt_or_ge (b + j) i with hlt | hge
    · rcases D.sep (b + j) i g' g hlt hg' hg with h1 | ⟨_, _, h1⟩ | ⟨h1, _⟩
      · left; rw [D.ready hdn hi _ h1]; simp; omega
      · exact .inr (.inl h1)
      · rw [hbar i hbi him] at h1; cases h1
    · rcases D.sep i (b + j) g g' (by omega) hg hg' with h1 | ⟨_, _, h1⟩ | ⟨h1, _⟩
      · left
        cases hb : L.getD (b + j) false with
        | false => simp; omega
        | true => rw [D.down hdn _ _ hb h1] at hiLf; cases hiLf
      · exact .inr (.inr h1)
      · rw [hbar (b + j) (by omega) (by omega)] at h1; cases h1
  have self : L.getD (b + (i - b)) false = decide (i - b < i - b) := by rw [show b + (i - b) = i by omega, hiLf]; simp
  -- variables
  have htm : ∀ t, t ∈ tmpsOf g.looks → (qapp (fun j => L.getD (b + j) false) 0 vs s).tm t = (qapp (fun j => decide (j < i - b)) 0 vs s).tm t := fun t ht => by
    refine qapp_tm rfl (fun j d' v' c' hj hdt => ?_)
    simp only [Nat.zero_add]
    have hjl : j < m - b := by have := (List.getElem?_eq_some_iff.1 hj).1; omega
    obtain ⟨g', hg', hd', _⟩ := other j d' v' c' hj
    by_cases hji : j = i - b
    · rw [hji]; exact self
    · rcases order j g' hjl hji hg' with h1 | h1 | h1
      · exact h1
      · exfalso
        unfold indep at h1
        rw [hd', hd] at h1
        simp only [Bool.and_eq_true, Bool.not_eq_true', List.contains_eq_mem, decide_eq_false_iff_not] at h1
        exact h1.1.2 (hdt ▸ ht)
      · exfalso
        unfold indep at h1
        rw [hd', hd] at h1
        simp only [Bool.and_eq_true, Bool.not_eq_true', List.contains_eq_mem, decide_eq_false_iff_not] at h1
        exact h1.2 (hdt ▸ ht)
  have hev : ∀ x ∈ g.looks, (qapp (fun j => L.getD (b + j) false) 0 vs s).ev x = (qapp (fun j => decide (j < i - b)) 0 vs s).ev x := fun x hx => by
    cases x with
    | tmp t => exact htm t (tmpsOf_mem.2 hx)
    | _ => rfl
  -- what is new there
  have hnewid : ∀ k, k < 16 → (qapp (fun j => L.getD (b + j) false) 0 vs s).ob (sid d k) = (qapp (fun j => decide (j < i - b)) 0 vs s).ob (sid d k) := fun k hk => by
    refine qapp_ob rfl (fun j d' v' c' hj hdt => ?_)
    simp only [Nat.zero_add]
    have hjl : j < m - b := by have := (List.getElem?_eq_some_iff.1 hj).1; omega
    obtain ⟨g', hg', hd', hr'⟩ := other j d' v' c' hj
    obtain ⟨p, hp, hpe⟩ := hdt
    obtain ⟨⟨k', hk', hk16⟩, _⟩ := GI.res_chg hd' hr' p hp
    have hdd : d' = d := (sid_inj (hk'.symm.trans hpe) hk16 hk).1
    by_cases hji : j = i - b
    · rw [hji]; exact self
    · rcases order j g' hjl hji hg' with h1 | h1 | h1
      · exact h1
      · exfalso; unfold indep at h1; rw [hd', hd, hdd] at h1; simp at h1
      · exfalso; unfold indep at h1; rw [hd', hd, hdd] at h1; simp at h1
  -- what is named
  obtain ⟨Et, at_, wt, hIt⟩ := qrun_exists (ops := ops) (k := 0) (i := i - b) hex (fun g' hg' => by
    obtain ⟨j, hj⟩ := List.mem_iff_getElem?.1 hg'
    have hjl : j < m - b := by have := (List.getElem?_eq_some_iff.1 hj).1; simp at this; omega
    rw [hseg j hjl] at hj
    have hjo : b + j < ops.size := by rw [← D.len]; exact (List.getElem?_eq_some_iff.1 hj).1
    obtain ⟨g2, hg2, ht2⟩ := D.tr (b + j) _ (Array.getElem?_eq_getElem hjo)
    rw [hj] at hg2; obtain rfl := Option.some.inj hg2
    exact ⟨_, ht2, fun d' hd' => D.dst _ _ d' hj hd'⟩) hq
  simp only [Nat.zero_add] at hIt
  have hob : ∀ x ∈ g.looks, ∀ e ∈ ((qapp (fun j => decide (j < i - b)) 0 vs s).ev x).ids, (qapp (fun j => L.getD (b + j) false) 0 vs s).ob e ≠ none → (qapp (fun j => L.getD (b + j) false) 0 vs s).ob e = (qapp (fun j => decide (j < i - b)) 0 vs s).ob e := fun x _ e he hcur => by
    have htxt : (qapp (fun j => decide (j < i - b)) 0 vs s).ob e ≠ none := ids_ob _ _ (hIt.ev x) e he
    refine qapp_ob rfl (fun j d' v' c' hj hdt => ?_)
    simp only [Nat.zero_add]
    obtain ⟨g', hg', hd', hr'⟩ := other j d' v' c' hj
    obtain ⟨p, hp, hpe⟩ := hdt
    obtain ⟨_, hnone⟩ := GI.res_chg hd' hr' p hp
    rw [hpe] at hnone
    have hs0 : s.ob e = none := by
      cases h : s.ob e with
      | none => rfl
      | some oe => exact absurd hnone (qapp_mono (by rw [h]; simp))
    rcases Nat.lt_or_ge j (i - b) with hlt | hge
    · rw [decide_eq_true hlt]
      rcases qapp_some hcur with h1 | ⟨j2, d2, v2, c2, h1, h2, p2, hp2, hpe2⟩
      · exact absurd hs0 h1
      · simp only [Nat.zero_add] at h2
        rcases Nat.lt_trichotomy j2 j with hj2 | hj2 | hj2
        · have := qapp_touch (s := s) (k := 0) (sel := fun k => decide (k < j)) h1 (by simpa using hj2) hp2
          rw [hpe2] at this
          exact absurd hnone this
        · rw [← hj2]; exact h2
        · obtain ⟨_, _, hd2, hr2⟩ := other j2 d2 v2 c2 h1
          obtain ⟨_, hnone2⟩ := GI.res_chg hd2 hr2 p2 hp2
          have := qapp_touch (s := s) (k := 0) (sel := fun k => decide (k < j2)) hj (by simpa using hj2) hp
          rw [hpe, ← hpe2] at this
          exact absurd hnone2 this
    · exfalso
      rcases qapp_some htxt with h1 | ⟨j2, d2, v2, c2, h1, h2, p2, hp2, hpe2⟩
      · exact h1 hs0
      · simp only [Nat.zero_add, decide_eq_true_eq] at h2
        have := qapp_touch (s := s) (k := 0) (sel := fun k => decide (k < j)) h1 (by simp; omega) hp2
        rw [hpe2] at this
        exact this hnone
  have hins : qapp (fun j => (L.setIfInBounds i true).getD (b + j) false) 0 vs s = (qapp (fun j => L.getD (b + j) false) 0 vs s).app d v c := by
    refine qapp_insert (i := i - b) hvi (by simp only [Nat.zero_add]; rw [show b + (i - b) = i by omega]; exact hiLf) (fun j hj => ?_) (fun j d' v' c' hij hj hsel => ?_)
    · simp only [Nat.zero_add]
      rw [getD_set (by omega)]
      by_cases h : b + j = i
      · rw [if_pos h, show (j == i - b) = true by simp; omega]; simp
      · rw [if_neg h, show (j == i - b) = false by simp; omega]; simp
    · simp only [Nat.zero_add] at hsel
      have hjl : j < m - b := by have := (List.getElem?_eq_some_iff.1 hj).1; omega
      obtain ⟨g', hg', hd', hr'⟩ := other j d' v' c' hj
      have hne : d ≠ d' := by
        rcases order j g' hjl (by omega) hg' with h1 | h1 | h1
        · rw [hsel] at h1; simp at h1; omega
        · intro e; subst e; unfold indep at h1; rw [hd', hd] at h1; simp at h1
        · intro e; subst e; unfold indep at h1; rw [hd', hd] at h1; simp at h1
      refine ⟨hne, fun p hp q hq' he => ?_⟩
      obtain ⟨⟨k, hk, hk16⟩, _⟩ := GI.res_chg hd hres p hp
      obtain ⟨⟨k', hk', hk16'⟩, _⟩ := GI.res_chg hd' hr' q hq'
      rw [hk, hk'] at he
      exact hne (sid_inj he hk16 hk16').1
  exact ⟨g, d, v, c, hg, htr, hd, hdn', hres, hev, hob, hnewid, hins⟩

/-- A quiet step, in whatever order. -/
theorem quiet_step (D : DrawOk P ops gs bar B n Sm) (hL : L.size = ops.size) (hdn : Down ops L) {b m : Nat} {vs : List (Nat × TV × Chg)} {s : St} {E : Nat → Value} {a : Act} {w : World} (hbm : b ≤ m) (hm : m ≤ gs.length) (hvs : vs.length = m - b) (hq : qrun P ((gs.drop b).take (m - b)) vs s)
    (hbar : ∀ j : Nat, b ≤ j → j < m → bar.getD j true = false) (hex : ∃ E a w, Inv w0 X ok0 n E s a w) (hI : Inv w0 X ok0 n E (qapp (fun j => L.getD (b + j) false) 0 vs s) a w) {i : Nat} (hi : i ∈ Region.ready .any ops L) (hbi : b ≤ i) (him : i < m) {o : Oper} (ho : ops[i]? = some o) (Q : Exit → Act → World → Prop) :
    if Region.wanted o (yielded ops a.tmps) = true then o.wp P a w (fun a' w' => ∃ E', Inv w0 X ok0 n E' (qapp (fun j => (L.setIfInBounds i true).getD (b + j) false) 0 vs s) a' w') Q
    else ∃ E', Inv w0 X ok0 n E' (qapp (fun j => (L.setIfInBounds i true).getD (b + j) false) 0 vs s) (a.put o.dst undef) w := by
  obtain ⟨g, d, v, c, _, htr, hd, hdn', hres, hev, hob, hnew, hins⟩ := quiet_core D hL hdn hbm hm hvs hq hbar hex hi hbi him ho
  have hres' := GI.res_congr hd hev (fun x hx e he => hob x hx e he (ids_ob _ _ (hI.ev x) e (by rw [hev x hx]; exact he))) hnew hres
  rw [hins]
  exact GI.res_sound htr hd hdn' hI hres' Q

/-- .. where a store has come ahead of it, into what it does not look at. -/
theorem quiet_step2 (D : DrawOk P ops gs bar B n Sm) (hL : L.size = ops.size) (hdn : Down ops L) {b m : Nat} {vs : List (Nat × TV × Chg)} {s : St} {E : Nat → Value} {a : Act} {w : World} (hbm : b ≤ m) (hm : m ≤ gs.length) (hvs : vs.length = m - b) (hq : qrun P ((gs.drop b).take (m - b)) vs s)
    (hbar : ∀ j : Nat, b ≤ j → j < m → bar.getD j true = false) (hex : ∃ E a w, Inv w0 X ok0 n E s a w) {e : Nat} {oo : Option Ob} (hI : Inv w0 X ok0 n E { qapp (fun j => L.getD (b + j) false) 0 vs s with ob := upd (qapp (fun j => L.getD (b + j) false) 0 vs s).ob e oo } a w) {i : Nat} (hi : i ∈ Region.ready .any ops L) (hbi : b ≤ i) (him : i < m) {o : Oper} (ho : ops[i]? = some o)
    (hside : ∀ g, gs[i]? = some g → (∀ z ∈ g.looks, e ∉ ((qapp (fun j => L.getD (b + j) false) 0 vs s).ev z).ids) ∧ ∀ d, g.i.dst = some d → ∀ k, k < 16 → sid d k ≠ e) (Q : Exit → Act → World → Prop) :
    if Region.wanted o (yielded ops a.tmps) = true then o.wp P a w (fun a' w' => ∃ E', Inv w0 X ok0 n E' { qapp (fun j => (L.setIfInBounds i true).getD (b + j) false) 0 vs s with ob := upd (qapp (fun j => (L.setIfInBounds i true).getD (b + j) false) 0 vs s).ob e oo } a' w') Q
    else ∃ E', Inv w0 X ok0 n E' { qapp (fun j => (L.setIfInBounds i true).getD (b + j) false) 0 vs s with ob := upd (qapp (fun j => (L.setIfInBounds i true).getD (b + j) false) 0 vs s).ob e oo } (a.put o.dst undef) w := by
  obtain ⟨g, d, v, c, hg, htr, hd, hdn', hres, hev, hob, hnew, hins⟩ := quiet_core D hL hdn hbm hm hvs hq hbar hex hi hbi him ho
  obtain ⟨hs1, hs2⟩ := hside g hg
  have hne : ∀ x ∈ g.looks, ∀ e' ∈ ((qapp (fun j => decide (j < i - b)) 0 vs s).ev x).ids, e' ≠ e := fun x hx e' he' h => hs1 x hx (by rw [hev x hx, ← h]; exact he')
  have hres' : g.res P { qapp (fun j => L.getD (b + j) false) 0 vs s with ob := upd (qapp (fun j => L.getD (b + j) false) 0 vs s).ob e oo } v c := by
    refine GI.res_congr hd (fun x hx => ?_) (fun x hx e' he' => ?_) (fun k hk => ?_) hres
    · rw [← hev x hx]
      cases x <;> rfl
    · have h2 := hne x hx e' he'
      have h1 := ids_ob _ _ (hI.ev x) e' (by rw [show ({ qapp (fun j => L.getD (b + j) false) 0 vs s with ob := upd (qapp (fun j => L.getD (b + j) false) 0 vs s).ob e oo } : St).ev x = (qapp (fun j => L.getD (b + j) false) 0 vs s).ev x by cases x <;> rfl, hev x hx]; exact he')
      simp only [upd_ne _ _ h2] at h1 ⊢
      exact hob x hx e' he' h1
    · simp only [upd_ne _ _ (hs2 d hd k hk)]
      exact hnew k hk
  have happ : { qapp (fun j => (L.setIfInBounds i true).getD (b + j) false) 0 vs s with ob := upd (qapp (fun j => (L.setIfInBounds i true).getD (b + j) false) 0 vs s).ob e oo } = ({ qapp (fun j => L.getD (b + j) false) 0 vs s with ob := upd (qapp (fun j => L.getD (b + j) false) 0 vs s).ob e oo } : St).app d v c := by
    rw [hins]
    simp only [St.app]
    rw [addObs_upd]
    intro p hp
    obtain ⟨⟨k, hk, hk16⟩, _⟩ := GI.res_chg hd hres p hp
    rw [hk]; exact hs2 d hd k hk16
  rw [happ]
  exact GI.res_sound htr hd hdn' hI hres' Q
end

end Go.Proofs.YtaopcacmfhdfkaaGreatDoor.Vc

namespace Go.Proofs.YtaopcacmfhdfkaaGreatDoor.Vc
open Go Go.RowKit
set_option linter.unusedSimpArgs false
set_option linter.unusedVariables false

section
variable {P : Program} [Lay P] {ops : Array Oper} {gs : List GI} {bar : List Bool} {B : List Nat} {n : Nat} {w0 : World} {X : Nat → Value} {ok0 : Nat → Prop} [GlF P w0 X ok0]

theorem count_set {L : Array Bool} {i : Nat} (hi : i < L.size) (h : L.getD i true = false) : (L.setIfInBounds i true).toList.count true = L.toList.count true + 1 := by
  have hf : L.toList[i]'(by simpa using hi) = false := by
    simp only [Array.getD_eq_getD_getElem?] at h
    rw [Array.getElem?_eq_getElem hi] at h
    simpa using h
  rw [Array.toList_setIfInBounds]
  have hl : i < L.toList.length := by simpa using hi
  rw [List.count_set hl]
  simp [hf]

theorem count_all {L : Array Bool} (h : L.size ≤ L.toList.count true) : ∀ k : Nat, k < L.size → L.getD k false = true := by
  intro k hk
  have h1 := List.count_le_length (a := true) (l := L.toList)
  have h3 : L.toList.length = L.size := Array.length_toList
  have h2 : L.toList.count true = L.toList.length := by omega
  rw [List.count_eq_length] at h2
  simp only [Array.getD_eq_getD_getElem?, Array.getElem?_eq_getElem hk, Option.getD_some]
  exact (h2 _ (Array.getElem_mem_toList hk)).symm

theorem draw_sound (D : DrawOk P ops gs bar B n fun _ _ => False) {K : Exit → St → Prop} : ∀ (fuel : Nat) (L : Array Bool) (a : Act) (w : World), L.size = ops.size → Down ops L → ops.size ≤ L.toList.count true + fuel → Stand P w0 X ok0 n gs bar (K .normal) L a w → wpAny P .any ops (QC w0 X ok0 n K) fuel L a w := by
  have fin : ∀ (L : Array Bool) (a : Act) (w : World), L.size = ops.size → (∀ k : Nat, k < ops.size → L.getD k false = true) → Stand P w0 X ok0 n gs bar (K .normal) L a w → QC w0 X ok0 n K .normal a w := by
    intro L a w hL hall ⟨b, m, vs, s, h1, h2, h3, h4, h5, h6, h7, h8, h9, h10, E, h11⟩
    have hm : m = gs.length := by
      rcases Nat.lt_or_ge m gs.length with h | h
      · have := h4 m (Nat.le_refl _)
        rw [hall m (by rw [← D.len]; exact h)] at this
        cases this
      · omega
    subst hm
    rw [List.drop_of_length_le (by simp [D.len, D.blen])] at h9
    rw [qapp_all (sel' := fun _ => true) (fun j hj => hall _ (by rw [← D.len]; omega))] at h11
    exact ⟨_, E, h9, h11⟩
  intro fuel
  induction fuel with
  | zero =>
    intro L a w hL hdn hc hS
    have hall := count_all (L := L) (by omega)
    rw [hL] at hall
    refine ⟨?_, fin L a w hL hall hS⟩
    simp only [Region.ready, List.filter_eq_nil_iff, List.mem_range, Bool.and_eq_true, Bool.not_eq_true', not_and]
    intro k hk hf
    have := hall k hk
    simp only [Array.getD_eq_getD_getElem?] at this hf
    rw [Array.getElem?_eq_getElem (by omega)] at this hf
    simp at this hf
    rw [this] at hf; cases hf
  | succ fuel ih =>
    intro L a w hL hdn hc hS
    refine ⟨fun hr => fin L a w hL (all_done D hr hL) hS, fun i hi => ?_⟩
    obtain ⟨hio, hiL, _⟩ := ready_mem hi
    have hiLf : L.getD i false = false := by
      simp only [Array.getD_eq_getD_getElem?] at hiL ⊢
      rw [Array.getElem?_eq_getElem (by omega)] at hiL ⊢
      simpa using hiL
    have ho : ops[i]? = some ops[i] := Array.getElem?_eq_getElem hio
    have next : ∀ a' w', Stand P w0 X ok0 n gs bar (K .normal) (L.setIfInBounds i true) a' w' → wpAny P .any ops (QC w0 X ok0 n K) fuel (L.setIfInBounds i true) a' w' := fun a' w' hS' =>
      ih _ a' w' (by simpa using hL) (hdn.set hi) (by rw [count_set (by omega) hiL]; omega) hS'
    obtain ⟨b, m, vs, s, h1, h2, h3, h4, h5, h6, h7, h8, h9, h10, E, h11⟩ := hS
    have hgl : i < gs.length := by rw [D.len]; exact hio
    unfold wpOp
    simp only [ho]
    have hbi : b ≤ i := by
      rcases Nat.lt_or_ge i b with h | h
      · rw [h3 i h] at hiLf; cases hiLf
      · exact h
    by_cases him : i < m
    · -- quiet
      have hmk : ∀ a' w', (∃ E', Inv w0 X ok0 n E' (qapp (fun j => (L.setIfInBounds i true).getD (b + j) false) 0 vs s) a' w') → wpAny P .any ops (QC w0 X ok0 n K) fuel (L.setIfInBounds i true) a' w' := fun a' w' hE => next a' w'
        ⟨b, m, vs, s, h1, h2, fun j hj => by rw [getD_set (by omega)]; split; · rfl
                                             · exact h3 j hj, fun j hj => by rw [getD_set (by omega), if_neg (by omega)]; exact h4 j hj, h5, h6, h7, h8, h9, h10, hE⟩
      have hst := quiet_step D hL hdn h1 h2 h7 h8 h5 h10 h11 hi hbi him ho (QC w0 X ok0 n K)
      split at hst
      · rename_i hw
        rw [if_pos hw]
        exact .inl (Oper.wp_mono hmk hst)
      · rename_i hw
        rw [if_neg hw]
        exact hmk _ _ hst
    · -- a barrier
      have hmlt : m < gs.length := by omega
      have hbar := h6 hmlt
      have him' : i = m := by
        rcases Nat.lt_or_ge m i with h | h
        · have hgm : gs[m]? = some gs[m] := List.getElem?_eq_getElem hmlt
          have hgi : gs[i]? = some gs[i] := List.getElem?_eq_getElem hgl
          rcases D.sep m i _ _ h hgm hgi with h12 | ⟨h12, _⟩ | ⟨_, h12⟩
          · have := D.ready hdn hi m h12
            rw [h4 m (Nat.le_refl _)] at this; cases this
          · rw [hbar] at h12; cases h12
          · exact h12.elim
        · omega
      subst him'
      have hall : ∀ j : Nat, j < i → L.getD j false = true := fun j hj => by
        have hgj : gs[j]? = some (gs[j]'(by omega)) := List.getElem?_eq_getElem (by omega)
        have hgi : gs[i]? = some gs[i] := List.getElem?_eq_getElem hgl
        rcases D.sep j i _ _ hj hgj hgi with h12 | ⟨_, h12, _⟩ | ⟨_, h12⟩
        · exact D.ready hdn hi j h12
        · rw [hbar] at h12; cases h12
        · exact h12.elim
      rw [qapp_all (sel' := fun _ => true) (fun j hj => hall _ (by omega))] at h11
      obtain ⟨g, hg, htr⟩ := D.tr i _ ho
      have hdrop : (gs.zip bar).drop i = (g, true) :: (gs.zip bar).drop (i + 1) := by
        have hbl : i < bar.length := by rw [D.blen]; exact hio
        have hzl : i < (gs.zip bar).length := by rw [List.length_zip]; omega
        rw [List.drop_eq_getElem_cons hzl]
        congr 1
        rw [List.getElem_zip]
        exact Prod.ext (Option.some.inj (by rw [← hg, List.getElem?_eq_getElem hgl])) (by have := hbar; rw [List.getD_eq_getElem?_getD, List.getElem?_eq_getElem hbl] at this; exact this)
      rw [hdrop] at h9
      simp only [drawVc] at h9
      have hst := GI.sound htr (fun d hd => by
        have h12 : g.i.dst = some d := by
          unfold trO at htr
          simp only [Option.bind_eq_some_iff] at htr
          obtain ⟨i', hi', htr⟩ := htr
          have := trB_dst hi'
          split at htr
          · obtain rfl := Option.some.inj htr; rw [this]; exact hd
          · simp only [Option.map_eq_some_iff] at htr
            obtain ⟨_, _, rfl⟩ := htr; rw [this]; exact hd
        exact D.dst i g d hg h12) h11 h9 (QC w0 X ok0 n K)
      have hmk : ∀ a' w', Post w0 X ok0 n (drawVc P ((gs.zip bar).drop (i + 1)) (K .normal)) a' w' → wpAny P .any ops (QC w0 X ok0 n K) fuel (L.setIfInBounds i true) a' w' := fun a' w' ⟨s', E', h12, h13⟩ => next a' w'
        (Stand.begin D (b := i + 1) (by omega) (fun j hj => by rw [getD_set (by omega)]; split; · rfl
                                                               · exact hall j (by omega)) (fun j hj => by rw [getD_set (by omega), if_neg (by omega)]; exact h4 j (by omega)) h13 h12)
      split at hst
      · rename_i hw
        rw [if_pos hw]
        exact .inl (Oper.wp_mono hmk hst)
      · rename_i hw
        rw [if_neg hw]
        exact hmk _ _ hst
end


/-- A store ahead of which some quiet ones may still wait: these look at other objects. -/
def sideOk (us : List GI) (g : GI) (s : St) : Prop :=
  ∃ sz x y e j o, g = ⟨.store sz x y, none⟩ ∧ s.ev x = .p e j o ∧ ∀ u ∈ us, (∀ z ∈ u.looks, e ∉ (s.ev z).ids) ∧ ∀ d, u.i.dst = some d → ∀ k, k < 16 → sid d k ≠ e

/-- Like 'drawVc', but the one at m0 may come ahead of some quiet ones. -/
def drawVcS (P : Program) [Lay P] (us : List GI) (m0 : Nat) : Nat → List (GI × Bool) → (St → Prop) → St → Prop
  | _, [], K, s => K s
  | k, (g, true) :: gs, K, s => (k = m0 → sideOk us g s) ∧ g.vc P s (drawVcS P us m0 (k + 1) gs K)
  | k, (g, false) :: gs, K, s => ∃ d v c, g.i.dst = some d ∧ g.res P s v c ∧ drawVcS P us m0 (k + 1) gs K (s.app d v c)

theorem drawVcS_split {P : Program} [Lay P] {us : List GI} {m0 : Nat} {K : St → Prop} : ∀ (gs : List (GI × Bool)) (k : Nat) (s : St), drawVcS P us m0 k gs K s →
    ∃ seg rest vs, gs = seg ++ rest ∧ (∀ x ∈ seg, x.2 = false) ∧ (∀ x, rest.head? = some x → x.2 = true) ∧ vs.length = seg.length ∧ qrun P (seg.map (·.1)) vs s ∧ drawVcS P us m0 (k + seg.length) rest K (qapp (fun _ => true) 0 vs s)
  | [], k, s, h => ⟨[], [], [], rfl, by simp, by simp, rfl, rfl, h⟩
  | (g, true) :: gs, k, s, h => ⟨[], (g, true) :: gs, [], rfl, by simp, by simp, rfl, rfl, h⟩
  | (g, false) :: gs, k, s, h => by
    obtain ⟨d, v, c, h1, h2, h3⟩ := h
    obtain ⟨seg, rest, vs, h4, h5, h6, h7, h8, h9⟩ := drawVcS_split gs _ _ h3
    refine ⟨(g, false) :: seg, rest, (d, v, c) :: vs, by rw [h4]; rfl, ?_, h6, by simp [h7], ⟨d, v, c, vs, rfl, h1, h2, h8⟩, ?_⟩
    · intro x hx
      rcases List.mem_cons.1 hx with rfl | hx
      · rfl
      · exact h5 x hx
    · simp only [qapp, if_true]
      have : ∀ (vs : List (Nat × TV × Chg)) (k k' : Nat) (s : St), qapp (fun _ => true) k vs s = qapp (fun _ => true) k' vs s := by
        intro vs
        induction vs with
        | nil => intros; rfl
        | cons x vs ih => intro k k' s; obtain ⟨d, v, c⟩ := x; simp only [qapp]; exact ih _ _ _
      rw [this vs 1 0, List.length_cons, show k + (seg.length + 1) = k + 1 + seg.length by omega]; exact h9

theorem drawVcS_mono {P : Program} [Lay P] {us : List GI} {m0 : Nat} {K K' : St → Prop} (hK : ∀ s, K s → K' s) (hm : ∀ (g : GI) (s : St) (A B : St → Prop), (∀ s, A s → B s) → g.vc P s A → g.vc P s B) : ∀ {gs : List (GI × Bool)} {k : Nat} {s : St}, drawVcS P us m0 k gs K s → drawVcS P us m0 k gs K' s
  | [], _, _, h => hK _ h
  | (g, true) :: gs, _, _, h => ⟨h.1, hm _ _ _ _ (fun _ h => drawVcS_mono hK hm h) h.2⟩
  | (g, false) :: gs, _, _, h => by
    obtain ⟨d, v, c, h1, h2, h3⟩ := h
    exact ⟨d, v, c, h1, h2, drawVcS_mono hK hm h3⟩

/-- What the store that may come early, and one that may wait, must keep. -/
structure Semi (us : List GI) (gs : List GI) (m0 i : Nat) : Prop where
  mem : ∀ g, gs[i]? = some g → g ∈ us
  args : ∀ g sz x y d, gs[i]? = some g → gs[m0]? = some ⟨.store sz x y, none⟩ → g.i.dst = some d → d ∉ tmpsOf [x, y]
  keep : ∀ g, gs[i]? = some g → ∀ k gk d, i ≤ k → k < m0 → gs[k]? = some gk → gk.i.dst = some d → d ∉ tmpsOf g.looks

section
variable {P : Program} [Lay P] {ops : Array Oper} {gs : List GI} {bar : List Bool} {B : List Nat} {n : Nat} {w0 : World} {X : Nat → Value} {ok0 : Nat → Prop} [GlF P w0 X ok0] {us : List GI} {m0 : Nat} {L : Array Bool}

def StandS (P : Program) [Lay P] (w0 : World) (X : Nat → Value) (ok0 : Nat → Prop) (n : Nat) (us : List GI) (m0 : Nat) (gs : List GI) (bar : List Bool) (K : St → Prop) (L : Array Bool) (a : Act) (w : World) : Prop :=
  ∃ (b m : Nat) (vs : List (Nat × TV × Chg)) (s : St), b ≤ m ∧ m ≤ gs.length ∧ (∀ j : Nat, j < b → L.getD j false = true) ∧ (∀ j : Nat, m ≤ j → L.getD j false = false) ∧ (∀ j : Nat, b ≤ j → j < m → bar.getD j true = false) ∧ (m < gs.length → bar.getD m true = true) ∧
    vs.length = m - b ∧ qrun P ((gs.drop b).take (m - b)) vs s ∧ drawVcS P us m0 m ((gs.zip bar).drop m) K (qapp (fun _ => true) 0 vs s) ∧ (∃ E a w, Inv w0 X ok0 n E s a w) ∧ ∃ E, Inv w0 X ok0 n E (qapp (fun j => L.getD (b + j) false) 0 vs s) a w

theorem StandS.begin (hlen : gs.length = ops.size) (hblen : bar.length = ops.size) {K : St → Prop} {b : Nat} {s : St} {E : Nat → Value} {a : Act} {w : World} (hb : b ≤ gs.length) (h1 : ∀ j : Nat, j < b → L.getD j false = true) (h2 : ∀ j : Nat, b ≤ j → L.getD j false = false)
    (hI : Inv w0 X ok0 n E s a w) (hv : drawVcS P us m0 b ((gs.zip bar).drop b) K s) : StandS P w0 X ok0 n us m0 gs bar K L a w := by
  have _ := ‹GlF P w0 X ok0›
  obtain ⟨seg, rest, vs, h3, h4, h5, h6, h7, h8⟩ := drawVcS_split _ _ _ hv
  have hzl : (gs.zip bar).length = gs.length := by simp [hlen, hblen]
  have hll : seg.length + rest.length = gs.length - b := by
    have := congrArg List.length h3
    simp only [List.length_drop, List.length_append, hzl] at this
    omega
  have hget : ∀ j, b + j < gs.length → ∃ g, ((gs.zip bar).drop b)[j]? = some (g, bar.getD (b + j) true) := by
    intro j hj
    have hj' : b + j < bar.length := by rw [hblen, ← hlen]; exact hj
    refine ⟨gs[b + j], ?_⟩
    rw [List.getElem?_drop]
    refine List.getElem?_zip_eq_some.2 ⟨List.getElem?_eq_getElem hj, ?_⟩
    simp [hj']
  refine ⟨b, b + seg.length, vs, s, by omega, by omega, h1, fun j hj => h2 j (by omega), fun j hj1 hj2 => ?_, fun hm => ?_, by omega, ?_, ?_, ⟨E, a, w, hI⟩, E, ?_⟩
  · obtain ⟨g, h9⟩ := hget (j - b) (by omega)
    rw [h3, List.getElem?_append_left (by omega), show b + (j - b) = j by omega] at h9
    have := h4 _ (List.mem_of_getElem? h9)
    exact this
  · obtain ⟨g, h9⟩ := hget seg.length hm
    rw [h3, List.getElem?_append_right (by omega), Nat.sub_self] at h9
    have := h5 _ (by rw [List.head?_eq_getElem?]; exact h9)
    exact this
  · have : (gs.drop b).take (b + seg.length - b) = seg.map (·.1) := by
      have h9 : ((gs.zip bar).drop b).map (·.1) = gs.drop b := by
        rw [List.map_drop, List.map_fst_zip (by rw [hblen, ← hlen]; exact Nat.le_refl _)]
      rw [← h9, h3, List.map_append, show b + seg.length - b = (seg.map (·.1)).length by simp, List.take_left]
    rw [this]; exact h7
  · have : (gs.zip bar).drop (b + seg.length) = rest := by
      rw [← List.drop_drop, h3, List.drop_left]
    rw [this]; exact h8
  · have : qapp (fun j => L.getD (b + j) false) 0 vs s = s := by
      rw [qapp_all (sel' := fun _ => false) (fun j _ => h2 _ (by omega))]
      have hz : ∀ (vs : List (Nat × TV × Chg)) (k : Nat) (s : St), qapp (fun _ => false) k vs s = s := by
        intro vs
        induction vs with
        | nil => intros; rfl
        | cons x vs ih => intro k s; obtain ⟨_, _, _⟩ := x; simp only [qapp]; exact ih _ _
      exact hz _ _ _
    rw [this]; exact hI

/-- Behind the store, with quiet ones waiting. -/
def Late (P : Program) [Lay P] (w0 : World) (X : Nat → Value) (ok0 : Nat → Prop) (n : Nat) (us : List GI) (m0 : Nat) (gs : List GI) (bar : List Bool) (K : St → Prop) (L : Array Bool) (a : Act) (w : World) : Prop :=
  ∃ (b : Nat) (vs : List (Nat × TV × Chg)) (s : St) (e : Nat) (oo : Option Ob), b ≤ m0 ∧ m0 < gs.length ∧ (∀ j : Nat, j < b → L.getD j false = true) ∧ L.getD m0 false = true ∧ (∀ j : Nat, m0 < j → L.getD j false = false) ∧ (∀ j : Nat, b ≤ j → j < m0 → bar.getD j true = false) ∧
    vs.length = m0 - b ∧ qrun P ((gs.drop b).take (m0 - b)) vs s ∧ drawVcS P us m0 (m0 + 1) ((gs.zip bar).drop (m0 + 1)) K { qapp (fun _ => true) 0 vs s with ob := upd (qapp (fun _ => true) 0 vs s).ob e oo } ∧ (∃ E a w, Inv w0 X ok0 n E s a w) ∧
    (∀ j g, b ≤ j → j < m0 → L.getD j false = false → gs[j]? = some g → Semi us gs m0 j ∧ (∀ z ∈ g.looks, e ∉ ((qapp (fun _ => true) 0 vs s).ev z).ids) ∧ ∀ d, g.i.dst = some d → ∀ k, k < 16 → sid d k ≠ e) ∧
    ∃ E, Inv w0 X ok0 n E { qapp (fun j => L.getD (b + j) false) 0 vs s with ob := upd (qapp (fun j => L.getD (b + j) false) 0 vs s).ob e oo } a w

abbrev smOf (us : List GI) (gs : List GI) (bar : List Bool) (m0 : Nat) (i j : Nat) : Prop := j = m0 ∧ bar.getD i true = false ∧ Semi us gs m0 i

theorem Late.done (D : DrawOk P ops gs bar B n (smOf us gs bar m0)) {K : St → Prop} {a : Act} {w : World} (h : Late P w0 X ok0 n us m0 gs bar K L a w) (hall : ∀ j : Nat, j < m0 → L.getD j false = true) : StandS P w0 X ok0 n us m0 gs bar K L a w := by
  obtain ⟨b, vs, s, e, oo, h1, h2, h3, h4, h5, h6, h7, h8, h9, h10, h11, E, h12⟩ := h
  rw [qapp_all (sel' := fun _ => true) (fun j hj => hall _ (by omega))] at h12
  exact StandS.begin D.len D.blen (b := m0 + 1) (by omega) (fun j hj => by
    rcases Nat.lt_or_ge j m0 with h | h
    · exact hall j h
    · rw [show j = m0 by omega]; exact h4) (fun j hj => h5 j (by omega)) h12 h9

theorem stand_stepS (D : DrawOk P ops gs bar B n (smOf us gs bar m0)) (hL : L.size = ops.size) (hdn : Down ops L) {K : St → Prop} {a : Act} {w : World} {i : Nat} (hi : i ∈ Region.ready .any ops L) {o : Oper} (ho : ops[i]? = some o) (hS : StandS P w0 X ok0 n us m0 gs bar K L a w) (Q : Exit → Act → World → Prop) :
    if Region.wanted o (yielded ops a.tmps) = true then o.wp P a w (fun a' w' => StandS P w0 X ok0 n us m0 gs bar K (L.setIfInBounds i true) a' w' ∨ Late P w0 X ok0 n us m0 gs bar K (L.setIfInBounds i true) a' w') Q
    else StandS P w0 X ok0 n us m0 gs bar K (L.setIfInBounds i true) (a.put o.dst undef) w ∨ Late P w0 X ok0 n us m0 gs bar K (L.setIfInBounds i true) (a.put o.dst undef) w := by
  obtain ⟨hio, hiL, _⟩ := ready_mem hi
  have hiLf : L.getD i false = false := by
    simp only [Array.getD_eq_getD_getElem?] at hiL ⊢
    rw [Array.getElem?_eq_getElem (by omega)] at hiL ⊢
    simpa using hiL
  obtain ⟨b, m, vs, s, h1, h2, h3, h4, h5, h6, h7, h8, h9, h10, E, h11⟩ := hS
  have hgl : i < gs.length := by rw [D.len]; exact hio
  have hbi : b ≤ i := by
    rcases Nat.lt_or_ge i b with h | h
    · rw [h3 i h] at hiLf; cases hiLf
    · exact h
  by_cases him : i < m
  · have hst := quiet_step D hL hdn h1 h2 h7 h8 h5 h10 h11 hi hbi him ho Q
    have hmk : ∀ a' w', (∃ E', Inv w0 X ok0 n E' (qapp (fun j => (L.setIfInBounds i true).getD (b + j) false) 0 vs s) a' w') → StandS P w0 X ok0 n us m0 gs bar K (L.setIfInBounds i true) a' w' ∨ Late P w0 X ok0 n us m0 gs bar K (L.setIfInBounds i true) a' w' := fun a' w' hE => .inl
      ⟨b, m, vs, s, h1, h2, fun j hj => by rw [getD_set (by omega)]; split <;> first | rfl | exact h3 j hj, fun j hj => by rw [getD_set (by omega), if_neg (by omega)]; exact h4 j hj, h5, h6, h7, h8, h9, h10, hE⟩
    split at hst
    · rename_i hw; rw [if_pos hw]; exact Oper.wp_mono hmk hst
    · rename_i hw; rw [if_neg hw]; exact hmk _ _ hst
  · have hmlt : m < gs.length := by omega
    have hbar := h6 hmlt
    have him' : i = m := by
      rcases Nat.lt_or_ge m i with h | h
      · have hgm : gs[m]? = some gs[m] := List.getElem?_eq_getElem hmlt
        have hgi : gs[i]? = some gs[i] := List.getElem?_eq_getElem hgl
        rcases D.sep m i _ _ h hgm hgi with h12 | ⟨h12, _⟩ | ⟨_, _, h12, _⟩
        · have := D.ready hdn hi m h12
          rw [h4 m (Nat.le_refl _)] at this; cases this
        · rw [hbar] at h12; cases h12
        · rw [hbar] at h12; cases h12
      · omega
    subst him'
    have hdone : ∀ j : Nat, j < i → L.getD j false = true ∨ (i = m0 ∧ Semi us gs m0 j) := fun j hj => by
      have hgj : gs[j]? = some (gs[j]'(by omega)) := List.getElem?_eq_getElem (by omega)
      have hgi : gs[i]? = some gs[i] := List.getElem?_eq_getElem hgl
      rcases D.sep j i _ _ hj hgj hgi with h12 | ⟨_, h12, _⟩ | ⟨_, h12, _, h13⟩
      · exact .inl (D.ready hdn hi j h12)
      · rw [hbar] at h12; cases h12
      · exact .inr ⟨h12, h13⟩
    obtain ⟨g, hg, htr⟩ := D.tr i _ ho
    have hdrop : (gs.zip bar).drop i = (g, true) :: (gs.zip bar).drop (i + 1) := by
      have hbl : i < bar.length := by rw [D.blen]; exact hio
      have hzl : i < (gs.zip bar).length := by rw [List.length_zip]; omega
      rw [List.drop_eq_getElem_cons hzl]
      congr 1
      rw [List.getElem_zip]
      exact Prod.ext (Option.some.inj (by rw [← hg, List.getElem?_eq_getElem hgl])) (by have := hbar; rw [List.getD_eq_getElem?_getD, List.getElem?_eq_getElem hbl] at this; exact this)
    rw [hdrop] at h9
    obtain ⟨hside, h9⟩ := h9
    have hdst : ∀ d, o.dst = some d → d < n := fun d hd => by
      have h12 : g.i.dst = some d := by
        unfold trO at htr
        simp only [Option.bind_eq_some_iff] at htr
        obtain ⟨i', hi', htr⟩ := htr
        have := trB_dst hi'
        split at htr
        · obtain rfl := Option.some.inj htr; rw [this]; exact hd
        · simp only [Option.map_eq_some_iff] at htr
          obtain ⟨_, _, rfl⟩ := htr; rw [this]; exact hd
      exact D.dst i g d hg h12
    by_cases h0 : i = m0
    · subst h0
      obtain ⟨sz, x, y, e, j0, o0, rfl, hx, hus⟩ := hside rfl
      have hpend : ∀ j g', b ≤ j → j < i → L.getD j false = false → gs[j]? = some g' → Semi us gs i j ∧ (∀ z ∈ g'.looks, e ∉ ((qapp (fun _ => true) 0 vs s).ev z).ids) ∧ ∀ d, g'.i.dst = some d → ∀ k, k < 16 → sid d k ≠ e := fun j g' hbj hji hLj hg' => by
        rcases hdone j hji with h12 | ⟨_, h12⟩
        · rw [hLj] at h12; cases h12
        · exact ⟨h12, hus g' (h12.mem g' hg')⟩
      have hseg : ∀ j, j < i - b → ((gs.drop b).take (i - b))[j]? = gs[b + j]? := fun j hj => by rw [List.getElem?_take, if_pos hj, List.getElem?_drop]
      have other : ∀ (j : Nat) d' v' c', vs[j]? = some (d', v', c') → ∃ g', gs[b + j]? = some g' ∧ g'.i.dst = some d' ∧ g'.res P (qapp (fun k => decide (k < j)) 0 vs s) v' c' ∧ b + j < i := fun j d' v' c' hj => by
        have hjl : j < i - b := by have := (List.getElem?_eq_some_iff.1 hj).1; omega
        have hgj : gs[b + j]? = some (gs[b + j]'(by omega)) := List.getElem?_eq_getElem (by omega)
        obtain ⟨d2, v2, c2, h1, h2, h3⟩ := qrun_get h8 (show ((gs.drop b).take (i - b))[j]? = some _ by rw [hseg j hjl]; exact hgj)
        rw [hj] at h1
        obtain ⟨rfl, rfl, rfl⟩ := Prod.mk.inj (Option.some.inj h1) |>.imp id Prod.mk.inj
        exact ⟨_, hgj, h2, h3, by omega⟩
      have htm : ∀ t, t ∈ tmpsOf [x, y] → (qapp (fun j => L.getD (b + j) false) 0 vs s).tm t = (qapp (fun _ => true) 0 vs s).tm t := fun t ht => by
        refine qapp_tm rfl (fun j d' v' c' hj hdt => ?_)
        simp only [Nat.zero_add]
        obtain ⟨g', hg', hd', _, hlt⟩ := other j d' v' c' hj
        cases hLj : L.getD (b + j) false with
        | true => rfl
        | false =>
          obtain ⟨h12, _⟩ := hpend _ g' (by omega) hlt hLj hg'
          exact absurd (hdt ▸ ht) (h12.args g' sz x y d' hg' hg hd')
      have hevx : ∀ z ∈ [x, y], (qapp (fun j => L.getD (b + j) false) 0 vs s).ev z = (qapp (fun _ => true) 0 vs s).ev z := fun z hz => by
        cases z with
        | tmp t => exact htm t (tmpsOf_mem.2 hz)
        | _ => rfl
      have hobe : (qapp (fun j => L.getD (b + j) false) 0 vs s).ob e = (qapp (fun _ => true) 0 vs s).ob e := by
        refine qapp_ob rfl (fun j d' v' c' hj hdt => ?_)
        simp only [Nat.zero_add]
        obtain ⟨g', hg', hd', hr', hlt⟩ := other j d' v' c' hj
        cases hLj : L.getD (b + j) false with
        | true => rfl
        | false =>
          obtain ⟨_, _, h12⟩ := hpend _ g' (by omega) hlt hLj hg'
          obtain ⟨p, hp, hpe⟩ := hdt
          obtain ⟨⟨k', hk', hk16⟩, _⟩ := GI.res_chg hd' hr' p hp
          exact absurd (hk'.symm.trans hpe) (h12 d' hd' k' hk16)
      obtain ⟨d, j1, off, ob, c, ob', e1, e2, e3, e4, e5, hK⟩ := h9
      rw [hx] at e1
      obtain ⟨rfl, rfl, rfl⟩ : e = d ∧ j0 = j1 ∧ o0 = off := by simpa using e1
      have hvc : (⟨.store sz x y, none⟩ : GI).vc P (qapp (fun j => L.getD (b + j) false) 0 vs s) (fun S => S = { qapp (fun j => L.getD (b + j) false) 0 vs s with ob := upd (qapp (fun j => L.getD (b + j) false) 0 vs s).ob e (some ob') }) :=
        ⟨e, j0, o0, ob, c, ob', by rw [hevx x (by simp)]; exact hx, by rw [hobe]; exact e2, by rw [hevx y (by simp)]; exact e3, e4, e5, rfl⟩
      have hst := GI.sound htr hdst h11 hvc Q
      have hmk : ∀ a' w', Post w0 X ok0 n (fun S => S = { qapp (fun j => L.getD (b + j) false) 0 vs s with ob := upd (qapp (fun j => L.getD (b + j) false) 0 vs s).ob e (some ob') }) a' w' → StandS P w0 X ok0 n us i gs bar K (L.setIfInBounds i true) a' w' ∨ Late P w0 X ok0 n us i gs bar K (L.setIfInBounds i true) a' w' := fun a' w' ⟨s', E', h12, h13⟩ => by
        subst h12
        refine .inr ⟨b, vs, s, e, some ob', h1, hmlt, fun j hj => by rw [getD_set (by omega), if_neg (by omega)]; exact h3 j hj, by rw [getD_set (by omega), if_pos rfl], fun j hj => by rw [getD_set (by omega), if_neg (by omega)]; exact h4 j (by omega), h5, h7, h8, hK, h10, fun j g' hbj hji hLj hg' => ?_, E', ?_⟩
        · rw [getD_set (by omega), if_neg (by omega)] at hLj
          exact hpend j g' hbj hji hLj hg'
        · have : qapp (fun j => (L.setIfInBounds i true).getD (b + j) false) 0 vs s = qapp (fun j => L.getD (b + j) false) 0 vs s := qapp_all fun j hj => by
            simp only [Nat.zero_add]
            rw [getD_set (by omega), if_neg (by omega)]
          rw [this]; exact h13
      split at hst
      · rename_i hw; rw [if_pos hw]; exact Oper.wp_mono hmk hst
      · rename_i hw; rw [if_neg hw]; exact hmk _ _ hst
    · have hall : ∀ j : Nat, j < i → L.getD j false = true := fun j hj => by
        rcases hdone j hj with h12 | ⟨h12, _⟩
        · exact h12
        · exact absurd h12 h0
      rw [qapp_all (sel' := fun _ => true) (fun j hj => hall _ (by omega))] at h11
      have hst := GI.sound htr hdst h11 h9 Q
      have hmk : ∀ a' w', Post w0 X ok0 n (drawVcS P us m0 (i + 1) ((gs.zip bar).drop (i + 1)) K) a' w' → StandS P w0 X ok0 n us m0 gs bar K (L.setIfInBounds i true) a' w' ∨ Late P w0 X ok0 n us m0 gs bar K (L.setIfInBounds i true) a' w' := fun a' w' ⟨s', E', h12, h13⟩ => .inl
        (StandS.begin D.len D.blen (b := i + 1) (by omega) (fun j hj => by rw [getD_set (by omega)]; split <;> first | rfl | exact hall j (by omega)) (fun j hj => by rw [getD_set (by omega), if_neg (by omega)]; exact h4 j (by omega)) h13 h12)
      split at hst
      · rename_i hw; rw [if_pos hw]; exact Oper.wp_mono hmk hst
      · rename_i hw; rw [if_neg hw]; exact hmk _ _ hst

theorem late_stepS (D : DrawOk P ops gs bar B n (smOf us gs bar m0)) (hlate : ∀ i' j' : Nat, i' ≤ m0 → m0 < j' → j' < gs.length → (B.getD j' 0).testBit i' = true) (hL : L.size = ops.size) (hdn : Down ops L) {K : St → Prop} {a : Act} {w : World} {i : Nat} (hi : i ∈ Region.ready .any ops L) {o : Oper} (ho : ops[i]? = some o) (hS : Late P w0 X ok0 n us m0 gs bar K L a w) (Q : Exit → Act → World → Prop) :
    if Region.wanted o (yielded ops a.tmps) = true then o.wp P a w (fun a' w' => StandS P w0 X ok0 n us m0 gs bar K (L.setIfInBounds i true) a' w' ∨ Late P w0 X ok0 n us m0 gs bar K (L.setIfInBounds i true) a' w') Q
    else StandS P w0 X ok0 n us m0 gs bar K (L.setIfInBounds i true) (a.put o.dst undef) w ∨ Late P w0 X ok0 n us m0 gs bar K (L.setIfInBounds i true) (a.put o.dst undef) w := by
  obtain ⟨hio, hiL, _⟩ := ready_mem hi
  have hiLf : L.getD i false = false := by
    simp only [Array.getD_eq_getD_getElem?] at hiL ⊢
    rw [Array.getElem?_eq_getElem (by omega)] at hiL ⊢
    simpa using hiL
  have hgl : i < gs.length := by rw [D.len]; exact hio
  by_cases him : m0 < i
  · refine stand_stepS D hL hdn hi ho (Late.done D hS fun j hj => ?_) Q
    exact D.ready hdn hi j (hlate j i (by omega) him hgl)
  obtain ⟨b, vs, s, e, oo, h1, h2, h3, h4, h5, h6, h7, h8, h9, h10, h11, E, h12⟩ := hS
  have hbi : b ≤ i := by
    rcases Nat.lt_or_ge i b with h | h
    · rw [h3 i h] at hiLf; cases hiLf
    · exact h
  have him' : i < m0 := by
    rcases Nat.lt_or_ge i m0 with h | h
    · exact h
    · rw [show i = m0 by omega, h4] at hiLf; cases hiLf
  have hseg : ∀ j, j < m0 - b → ((gs.drop b).take (m0 - b))[j]? = gs[b + j]? := fun j hj => by rw [List.getElem?_take, if_pos hj, List.getElem?_drop]
  have hst := quiet_step2 D hL hdn h1 (by omega) h7 h8 h6 h10 h12 hi hbi him' ho (fun g hg => by
    obtain ⟨h13, h14, h15⟩ := h11 i g hbi him' hiLf hg
    refine ⟨fun z hz => ?_, h15⟩
    have hz' : (qapp (fun j => L.getD (b + j) false) 0 vs s).ev z = (qapp (fun _ => true) 0 vs s).ev z := by
      obtain ⟨g', d, v, c, hg', _, hd', _, _, hev, _⟩ := quiet_core D hL hdn h1 (by omega) h7 h8 h6 h10 hi hbi him' ho
      rw [hg] at hg'; obtain rfl := Option.some.inj hg'
      rw [hev z hz]
      cases z with
      | tmp t =>
        refine qapp_tm rfl (fun j d' v' c' hj hdt => ?_)
        simp only [Nat.zero_add]
        rcases Nat.lt_or_ge j (i - b) with hlt | hge
        · rw [decide_eq_true hlt]
        · exfalso
          have hjl : j < m0 - b := by have := (List.getElem?_eq_some_iff.1 hj).1; omega
          have hgj : gs[b + j]? = some (gs[b + j]'(by omega)) := List.getElem?_eq_getElem (by omega)
          obtain ⟨d2, v2, c2, e1, e2, _⟩ := qrun_get h8 (show ((gs.drop b).take (m0 - b))[j]? = some _ by rw [hseg j hjl]; exact hgj)
          rw [hj] at e1
          obtain ⟨rfl, rfl, rfl⟩ := Prod.mk.inj (Option.some.inj e1) |>.imp id Prod.mk.inj
          exact h13.keep g hg (b + j) _ d' (by omega) (by omega) hgj e2 (by rw [hdt]; exact tmpsOf_mem.2 hz)
      | _ => rfl
    rw [hz']; exact h14 z hz) Q
  have hmk : ∀ a' w', (∃ E', Inv w0 X ok0 n E' { qapp (fun j => (L.setIfInBounds i true).getD (b + j) false) 0 vs s with ob := upd (qapp (fun j => (L.setIfInBounds i true).getD (b + j) false) 0 vs s).ob e oo } a' w') → StandS P w0 X ok0 n us m0 gs bar K (L.setIfInBounds i true) a' w' ∨ Late P w0 X ok0 n us m0 gs bar K (L.setIfInBounds i true) a' w' := fun a' w' hE => .inr
    ⟨b, vs, s, e, oo, h1, h2, fun j hj => by rw [getD_set (by omega), if_neg (by omega)]; exact h3 j hj, by rw [getD_set (by omega), if_neg (by omega)]; exact h4, fun j hj => by rw [getD_set (by omega), if_neg (by omega)]; exact h5 j hj, h6, h7, h8, h9, h10, fun j g hbj hjm hLj hg => by
      rw [getD_set (by omega)] at hLj
      split at hLj
      · cases hLj
      · exact h11 j g hbj hjm hLj hg, hE⟩
  split at hst
  · rename_i hw; rw [if_pos hw]; exact Oper.wp_mono hmk hst
  · rename_i hw; rw [if_neg hw]; exact hmk _ _ hst

theorem draw_soundS (D : DrawOk P ops gs bar B n (smOf us gs bar m0)) (hlate : ∀ i' j' : Nat, i' ≤ m0 → m0 < j' → j' < gs.length → (B.getD j' 0).testBit i' = true) {K : Exit → St → Prop} : ∀ (fuel : Nat) (L : Array Bool) (a : Act) (w : World), L.size = ops.size → Down ops L → ops.size ≤ L.toList.count true + fuel →
    (StandS P w0 X ok0 n us m0 gs bar (K .normal) L a w ∨ Late P w0 X ok0 n us m0 gs bar (K .normal) L a w) → wpAny P .any ops (QC w0 X ok0 n K) fuel L a w := by
  have fin : ∀ (L : Array Bool) (a : Act) (w : World), L.size = ops.size → (∀ k : Nat, k < ops.size → L.getD k false = true) → (StandS P w0 X ok0 n us m0 gs bar (K .normal) L a w ∨ Late P w0 X ok0 n us m0 gs bar (K .normal) L a w) → QC w0 X ok0 n K .normal a w := by
    intro L a w hL hall hS
    have hS' : StandS P w0 X ok0 n us m0 gs bar (K .normal) L a w := by
      rcases hS with h | h
      · exact h
      · refine Late.done D h fun j hj => hall j ?_
        obtain ⟨_, _, _, _, _, _, h2, _⟩ := h
        rw [← D.len]; omega
    obtain ⟨b, m, vs, s, h1, h2, h3, h4, h5, h6, h7, h8, h9, h10, E, h11⟩ := hS'
    have hm : m = gs.length := by
      rcases Nat.lt_or_ge m gs.length with h | h
      · have := h4 m (Nat.le_refl _)
        rw [hall m (by rw [← D.len]; exact h)] at this
        cases this
      · omega
    subst hm
    rw [List.drop_of_length_le (by simp [D.len, D.blen])] at h9
    rw [qapp_all (sel' := fun _ => true) (fun j hj => hall _ (by rw [← D.len]; omega))] at h11
    exact ⟨_, E, h9, h11⟩
  intro fuel
  induction fuel with
  | zero =>
    intro L a w hL hdn hc hS
    have hall := count_all (L := L) (by omega)
    rw [hL] at hall
    refine ⟨?_, fin L a w hL hall hS⟩
    simp only [Region.ready, List.filter_eq_nil_iff, List.mem_range, Bool.and_eq_true, Bool.not_eq_true', not_and]
    intro k hk hf
    have := hall k hk
    simp only [Array.getD_eq_getD_getElem?] at this hf
    rw [Array.getElem?_eq_getElem (by omega)] at this hf
    simp at this hf
    rw [this] at hf; cases hf
  | succ fuel ih =>
    intro L a w hL hdn hc hS
    refine ⟨fun hr => fin L a w hL (all_done D hr hL) hS, fun i hi => ?_⟩
    obtain ⟨hio, hiL, _⟩ := ready_mem hi
    have ho : ops[i]? = some ops[i] := Array.getElem?_eq_getElem hio
    have next : ∀ a' w', (StandS P w0 X ok0 n us m0 gs bar (K .normal) (L.setIfInBounds i true) a' w' ∨ Late P w0 X ok0 n us m0 gs bar (K .normal) (L.setIfInBounds i true) a' w') → wpAny P .any ops (QC w0 X ok0 n K) fuel (L.setIfInBounds i true) a' w' := fun a' w' hS' =>
      ih _ a' w' (by simpa using hL) (hdn.set hi) (by rw [count_set (by omega) hiL]; omega) hS'
    unfold wpOp
    simp only [ho]
    have hst : (if Region.wanted ops[i] (yielded ops a.tmps) = true then (ops[i]).wp P a w (fun a' w' => StandS P w0 X ok0 n us m0 gs bar (K .normal) (L.setIfInBounds i true) a' w' ∨ Late P w0 X ok0 n us m0 gs bar (K .normal) (L.setIfInBounds i true) a' w') (QC w0 X ok0 n K)
      else StandS P w0 X ok0 n us m0 gs bar (K .normal) (L.setIfInBounds i true) (a.put (ops[i]).dst undef) w ∨ Late P w0 X ok0 n us m0 gs bar (K .normal) (L.setIfInBounds i true) (a.put (ops[i]).dst undef) w) := by
      rcases hS with h | h
      · exact stand_stepS D hL hdn hi ho h _
      · exact late_stepS D hlate hL hdn hi ho h _
    split at hst
    · rename_i hw
      rw [if_pos hw]
      exact .inl (Oper.wp_mono next hst)
    · rename_i hw
      rw [if_neg hw]
      exact next _ _ hst

end

/-! A region walked in each order that may be drawn. -/
def memN (i : Nat) : List Nat → Bool
  | [] => false
  | j :: l => bif Nat.beq i j then true else memN i l
theorem memN_iff {i : Nat} : ∀ {l : List Nat}, memN i l = true ↔ i ∈ l
  | [] => by simp [memN]
  | j :: l => by
    unfold memN
    rw [List.mem_cons, ← memN_iff (l := l)]
    cases h : Nat.beq i j with
    | true => simp [Nat.eq_of_beq_eq_true h]
    | false =>
      have : i ≠ j := fun e => by subst e; simp [Nat.beq_refl] at h
      simp [this]
def allN (dn : List Nat) : List Nat → Bool
  | [] => true
  | j :: l => memN j dn && allN dn l
theorem allN_iff {dn : List Nat} : ∀ {l : List Nat}, allN dn l = true ↔ ∀ j ∈ l, j ∈ dn
  | [] => by simp [allN]
  | j :: l => by
    unfold allN
    rw [Bool.and_eq_true, memN_iff, allN_iff (l := l)]
    simp
/-- All orders: f to go, those in dn are done. -/
def anyVc (P : Program) [Lay P] (gs : List GI) (ps : List (List Nat)) : Nat → List Nat → (St → Prop) → St → Prop
  | 0, _, K, s => K s
  | f + 1, dn, K, s => ∀ i p g, ps[i]? = some p → gs[i]? = some g → memN i dn = false → allN dn p = true → g.vc P s (anyVc P gs ps f (i :: dn) K)
def predsOf (o : Oper) : List Nat := (o.after.toList.filter (Region.binds .any ·)).map (·.on)
section
variable {P : Program} [Lay P] {ops : Array Oper} {gs : List GI} {n : Nat} {w0 : World} {X : Nat → Value} {ok0 : Nat → Prop} [GlF P w0 X ok0] {L : Array Bool}
theorem any_sound (htr : ∀ (i : Nat) o, ops[i]? = some o → ∃ g, gs[i]? = some g ∧ trO P ops o = some g) (hlen : gs.length = ops.size) (hn : ∀ o ∈ ops.toList, ∀ d, o.dst = some d → d < n) (hedge : ∀ (i : Nat) o e, ops[i]? = some o → e ∈ o.after.toList → Region.binds .any e = true → e.on < i)
    {K : Exit → St → Prop} : ∀ (f fuel : Nat) (dn : List Nat) (L : Array Bool) (a : Act) (w : World), f ≤ fuel → L.size = ops.size → (∀ i, i < ops.size → (L.getD i false = true ↔ i ∈ dn)) → dn.Nodup → (∀ i ∈ dn, i < ops.size) → dn.length + f = ops.size →
    Post w0 X ok0 n (anyVc P gs (ops.toList.map predsOf) f dn (K .normal)) a w → wpAny P .any ops (QC w0 X ok0 n K) fuel L a w := by
  have D : DrawOk P ops gs (List.replicate ops.size true) [] n fun _ _ => True := by
    refine ⟨hlen, by simp, htr, fun i g d hg hd => ?_, hedge, fun i k hk => by simp at hk, fun i j gi gj hij hgi hgj => .inr (.inr ⟨?_, trivial⟩)⟩
    · have hi : i < ops.size := by rw [← hlen]; exact (List.getElem?_eq_some_iff.1 hg).1
      obtain ⟨g', hg', ht⟩ := htr i ops[i] (Array.getElem?_eq_getElem hi)
      rw [hg] at hg'; obtain rfl := Option.some.inj hg'
      have h9 : g.i.dst = ops[i].dst := by
        unfold trO at ht
        simp only [Option.bind_eq_some_iff] at ht
        obtain ⟨i', hi', ht⟩ := ht
        have := trB_dst hi'
        split at ht
        · obtain rfl := Option.some.inj ht; exact this
        · simp only [Option.map_eq_some_iff] at ht
          obtain ⟨_, _, rfl⟩ := ht; exact this
      exact hn ops[i] (by simp) d (by rw [← h9]; exact hd)
    · have hj : j < ops.size := by rw [← hlen]; exact (List.getElem?_eq_some_iff.1 hgj).1
      simp [hj]
  have full : ∀ (dn : List Nat), dn.Nodup → (∀ i ∈ dn, i < ops.size) → (∀ i, i < ops.size → i ∈ dn) → dn.length = ops.size := by
    intro dn h1 h2 h3
    have h4 : dn.Perm (List.range ops.size) := (List.perm_ext_iff_of_nodup h1 List.nodup_range).2 fun i => by
      rw [List.mem_range]; exact ⟨h2 i, h3 i⟩
    have := h4.length_eq
    simpa using this
  intro f
  induction f with
  | zero =>
    intro fuel dn L a w _ hL hdn hnd hb hlen2 hP
    have hall : ∀ i, i < ops.size → i ∈ dn := by
      intro i hi
      refine Classical.byContradiction fun hc => ?_
      have h1 : (i :: dn).Nodup := List.nodup_cons.2 ⟨hc, hnd⟩
      have h2 := h1.length_le_of_subset (l₂ := List.range ops.size) fun j hj => by
        rw [List.mem_range]
        rcases List.mem_cons.1 hj with rfl | hj
        · exact hi
        · exact hb j hj
      simp at h2
      omega
    have hr : Region.ready .any ops L = [] := by
      rw [List.eq_nil_iff_forall_not_mem]
      intro i hi
      obtain ⟨hio, hiL, _⟩ := ready_mem hi
      have := (hdn i hio).2 (hall i hio)
      simp only [Array.getD_eq_getD_getElem?] at hiL this
      rw [Array.getElem?_eq_getElem (by omega)] at hiL this
      simp at hiL this
      rw [hiL] at this; cases this
    cases fuel with
    | zero => exact ⟨hr, hP⟩
    | succ fuel => exact ⟨fun _ => hP, fun i hi => by rw [hr] at hi; simp at hi⟩
  | succ f ih =>
    intro fuel dn L a w hf hL hdn hnd hb hlen2 hP
    obtain ⟨fuel, rfl⟩ : ∃ k, fuel = k + 1 := ⟨fuel - 1, by omega⟩
    refine ⟨fun hr => ?_, fun i hi => ?_⟩
    · exfalso
      have h1 := all_done D hr hL
      have := full dn hnd hb fun i hi => (hdn i hi).1 (h1 i hi)
      omega
    · obtain ⟨hio, hiL, hpre⟩ := ready_mem hi
      have ho : ops[i]? = some ops[i] := Array.getElem?_eq_getElem hio
      have hnot : i ∉ dn := fun hm => by
        have := (hdn i hio).2 hm
        simp only [Array.getD_eq_getD_getElem?] at hiL this
        rw [Array.getElem?_eq_getElem (by omega)] at hiL this
        simp at hiL this
        rw [hiL] at this; cases this
      obtain ⟨g, hg, ht⟩ := htr i _ ho
      obtain ⟨s, E, hv, hI⟩ := hP
      have hvc := hv i (predsOf ops[i]) g (by rw [List.getElem?_map]; simp [hio]) hg (by
        rw [Bool.eq_false_iff]; exact fun h => hnot (memN_iff.1 h)) (allN_iff.2 fun j hj => by
        unfold predsOf at hj
        rw [List.mem_map] at hj
        obtain ⟨e, he, rfl⟩ := hj
        rw [List.mem_filter] at he
        have h1 := hpre _ e ho he.1 he.2
        exact (hdn e.on (by have := hedge i _ e ho he.1 he.2; omega)).1 h1)
      have hst := GI.sound ht (fun d hd => hn _ (by simp) d hd) hI hvc (QC w0 X ok0 n K)
      have next : ∀ a' w', Post w0 X ok0 n (anyVc P gs (ops.toList.map predsOf) f (i :: dn) (K .normal)) a' w' → wpAny P .any ops (QC w0 X ok0 n K) fuel (L.setIfInBounds i true) a' w' := fun a' w' h =>
        ih fuel (i :: dn) _ a' w' (by omega) (by simpa using hL) (fun j hj => by
          rw [getD_set (by omega), List.mem_cons]
          split
          · rename_i e; simp [e]
          · rename_i e; rw [hdn j hj]; simp [e]) (List.nodup_cons.2 ⟨hnot, hnd⟩) (fun j hj => by
          rcases List.mem_cons.1 hj with rfl | hj
          · exact hio
          · exact hb j hj) (by rw [List.length_cons]; omega) h
      unfold wpOp
      simp only [ho]
      split at hst
      · rename_i hw
        rw [if_pos hw]
        exact .inl (Oper.wp_mono next hst)
      · rename_i hw
        rw [if_neg hw]
        exact next _ _ hst
end
end Go.Proofs.YtaopcacmfhdfkaaGreatDoor.Vc

namespace Go.Proofs.YtaopcacmfhdfkaaGreatDoor.Vc
open Go Go.RowKit
set_option linter.unusedSimpArgs false
set_option linter.unusedVariables false

/-- Code. -/
inductive C where
  | skip
  | reg (gs : List GI)
  | draw (gs : List (GI × Bool))
  | drw (us : List GI) (m0 : Nat) (gs : List (GI × Bool))
  | any (gs : List GI) (ps : List (List Nat))
  | seq (a b : C)
  | cond (x : Operand) (a b : C)
  | blk (id : Nat) (a : C)
  | loop (a : C)
  | exit (id : Nat)
  | ret

/-- Of whatever walk s tells, t tells too. -/
def Weak (s t : St) : Prop := ∀ (w0 : World) (X : Nat → Value) (ok0 : Nat → Prop) (n : Nat) (E : Nat → Value) (a : Act) (w : World), Inv w0 X ok0 n E s a w → ∃ E', Inv w0 X ok0 n E' t a w

def C.vc (P : Program) [Lay P] : C → (Exit → St → Prop) → St → Prop
  | .skip, K, s => K .normal s
  | .reg gs, K, s => regVc P gs (K .normal) s
  | .draw gs, K, s => drawVc P gs (K .normal) s
  | .drw us m0 gs, K, s => drawVcS P us m0 0 gs (K .normal) s
  | .any gs ps, K, s => anyVc P gs ps gs.length [] (K .normal) s
  | .seq a b, K, s => a.vc P (fun e s' => match e with | .normal => ∃ s'', Weak s' s'' ∧ b.vc P K s'' | e => K e s') s
  | .cond x a b, K, s => ∃ t, s.ev x = .v (.bool t) ∧ (t = true → a.vc P K s) ∧ (t = false → b.vc P K s)
  | .blk id a, K, s => a.vc P (fun e s' => match e with | .exit j => if j = id then K .normal s' else K (.exit j) s' | e => K e s') s
  | .loop a, K, s => ∃ (ι : Type) (F : ι → St) (R : ι → ι → Prop) (x0 : ι), WellFounded R ∧ Weak s (F x0) ∧ ∀ x, a.vc P (fun e s' => match e with | .normal => ∃ y, R y x ∧ Weak s' (F y) | e => K e s') (F x)
  | .exit id, K, s => K (.exit id) s
  | .ret, K, s => K .ret s

/-- Which operations are ordered against all others. -/
def barOf (B : List Nat) (m : Nat) : List Bool :=
  (List.range m).map fun i => (List.range m).all fun j => j == i || (if j < i then (B.getD i 0).testBit j else (B.getD j 0).testBit i)

def drawChk (ops : Array Oper) (gs : List GI) (bar : List Bool) (B : List Nat) : Bool :=
  gs.length == ops.size && bar.length == ops.size &&
  (ops.toList.zipIdx.all fun x => x.1.after.toList.all fun e => !Region.binds .any e || decide (e.on < x.2)) &&
  (B.zipIdx.all fun x => decide (x.1 < 2 ^ x.2) && (List.range x.2).all fun k => !x.1.testBit k || (match ops[x.2]? with
    | some o => o.after.toList.any fun e => Region.binds .any e && (e.on == k || (B.getD e.on 0).testBit k)
    | none => false)) &&
  ((List.range gs.length).all fun j => (List.range j).all fun i => (B.getD j 0).testBit i || (!bar.getD i true && !bar.getD j true && (match gs[i]?, gs[j]? with | some gi, some gj => indep gi gj | _, _ => false)))

/-- A store that quiet ones may come behind of, though they stand ahead of it. -/
def semiB (gs : List GI) (m0 i : Nat) : Bool :=
  match gs[i]?, gs[m0]? with
  | some g, some ⟨.store _ x y, none⟩ => (match g.i.dst with | some d => !(tmpsOf [x, y]).contains d | none => true) &&
    (List.range m0).all fun k => decide (k < i) || (match gs[k]? with | some gk => (match gk.i.dst with | some d => !(tmpsOf g.looks).contains d | none => true) | none => true)
  | _, _ => false

def semiAt (gs : List GI) (bar : List Bool) : Option Nat :=
  (List.range gs.length).find? fun j => !bar.getD j true && (match gs[j]? with | some ⟨.store _ _ _, none⟩ => true | _ => false)

def drawChkS (ops : Array Oper) (gs : List GI) (bar : List Bool) (B : List Nat) (m0 : Nat) : Bool :=
  gs.length == ops.size && bar.length == ops.size &&
  (ops.toList.zipIdx.all fun x => x.1.after.toList.all fun e => !Region.binds .any e || decide (e.on < x.2)) &&
  (B.zipIdx.all fun x => decide (x.1 < 2 ^ x.2) && (List.range x.2).all fun k => !x.1.testBit k || (match ops[x.2]? with
    | some o => o.after.toList.any fun e => Region.binds .any e && (e.on == k || (B.getD e.on 0).testBit k)
    | none => false)) &&
  ((List.range gs.length).all fun j => (List.range j).all fun i => (B.getD j 0).testBit i || (!bar.getD i true && !bar.getD j true && (match gs[i]?, gs[j]? with | some gi, some gj => indep gi gj | _, _ => false)) ||
    (j == m0 && bar.getD j true && !bar.getD i true && semiB gs m0 i)) &&
  ((List.range gs.length).all fun j => decide (j ≤ m0) || (List.range (m0 + 1)).all fun i => (B.getD j 0).testBit i)

/-- An append that other operations may come ahead of, or behind. -/
def looseApp (gs : List GI) (bar : List Bool) : Bool := (gs.zip bar).any fun x => !x.2 && (match x.1.i with | .app _ _ _ _ _ _ => true | _ => false)
/-- A call that may be handed objects: its function takes a pointer. -/
def ptrCall (P : Program) [Lay P] (gs : List GI) : Bool := gs.any fun x => match x.i with
  | .call _ (.func g) _ => (match P.funcs[g]? with
    | some fn => fn.params.toList.any fun t => (match P.underlying t with | some (.pointer _) => true | _ => false)
    | none => false)
  | _ => false
def anyChk (ops : Array Oper) (gs : List GI) : Bool := gs.length == ops.size && (ops.toList.zipIdx.all fun x => x.1.after.toList.all fun e => !Region.binds .any e || decide (e.on < x.2))

def trC (P : Program) [Lay P] (n : Nat) : Code → Option C
  | .skip => some .skip
  | .label _ => some .skip
  | .region _ ops draw => (ops.toList.mapM (trO P ops)).bind fun gs =>
    if (ops.toList.all fun o => match o.dst with | some d => decide (d < n) | none => true) = true then
      match draw with
      | false => some (.reg gs)
      | true =>
        let B := (Region.before ops).toList
        let bar := barOf B ops.size
        if (looseApp gs bar || ptrCall P gs) = true then (if anyChk ops gs = true then some (.any gs (ops.toList.map predsOf)) else none) else
        if drawChk ops gs bar B = true then some (.draw (gs.zip bar)) else
          match semiAt gs bar with
          | some m0 =>
            let bar2 := bar.set m0 true
            if drawChkS ops gs bar2 B m0 = true then some (.drw (((List.range m0).filter fun i => !(B.getD m0 0).testBit i).filterMap fun i => gs[i]?) m0 (gs.zip bar2)) else none
          | none => none
    else none
  | .seq a b => (trC P n a).bind fun a' => (trC P n b).map fun b' => .seq a' b'
  | .cond x a b => (trC P n a).bind fun a' => (trC P n b).map fun b' => .cond x a' b'
  | .block id a => (trC P n a).map (.blk id ·)
  | .loop a => (trC P n a).map .loop
  | .exit id => some (.exit id)
  | .ret => some .ret
  | _ => none

theorem mapM_get {α β : Type} {f : α → Option β} {l : List α} {r : List β} (h : l.mapM f = some r) : r.length = l.length ∧ ∀ (i : Nat) x, l[i]? = some x → ∃ y, r[i]? = some y ∧ f x = some y := by
  have h1 := mapM_opt h
  have hl : r.length = l.length := by have := congrArg List.length h1; simpa using this.symm
  refine ⟨hl, fun i x hx => ?_⟩
  have h2 := congrArg (fun l => l[i]?) h1
  simp only [List.getElem?_map, hx, Option.map_some] at h2
  cases hr : r[i]? with
  | none => rw [hr] at h2; simp at h2
  | some y => rw [hr] at h2; exact ⟨y, rfl, by simpa using h2⟩

theorem trO_dst {P : Program} [Lay P] {ops : Array Oper} {o : Oper} {g : GI} (h : trO P ops o = some g) : g.i.dst = o.dst := by
  unfold trO at h
  simp only [Option.bind_eq_some_iff] at h
  obtain ⟨i, hi, h⟩ := h
  split at h
  · obtain rfl := Option.some.inj h; exact trB_dst hi
  · simp only [Option.map_eq_some_iff] at h
    obtain ⟨_, _, rfl⟩ := h; exact trB_dst hi

theorem drawOk {P : Program} [Lay P] {ops : Array Oper} {gs : List GI} {bar : List Bool} {B : List Nat} {n : Nat} (htr : ops.toList.mapM (trO P ops) = some gs) (hn : ∀ o ∈ ops.toList, ∀ d, o.dst = some d → d < n) (h : drawChk ops gs bar B = true) : DrawOk P ops gs bar B n (fun _ _ => False) := by
  unfold drawChk at h
  simp only [Bool.and_eq_true, beq_iff_eq] at h
  obtain ⟨⟨⟨⟨h1, h2⟩, h3⟩, h4⟩, h5⟩ := h
  obtain ⟨_, hget⟩ := mapM_get htr
  have hop : ∀ (i : Nat) o, ops[i]? = some o → ops.toList[i]? = some o := fun i o ho => by simpa using ho
  refine ⟨h1, h2, fun i o ho => hget i o (hop i o ho), fun i g d hg hd => ?_, fun i o e ho he hb => ?_, fun i k hk => ?_, fun i j gi gj hij hgi hgj => ?_⟩
  · have hi : i < ops.size := by rw [← h1]; exact (List.getElem?_eq_some_iff.1 hg).1
    obtain ⟨g', hg', ht⟩ := hget i ops[i] (hop i _ (Array.getElem?_eq_getElem hi))
    rw [hg] at hg'; obtain rfl := Option.some.inj hg'
    exact hn ops[i] (by simp) d (by rw [← trO_dst ht]; exact hd)
  · rw [List.all_eq_true] at h3
    have := h3 (o, i) (by rw [List.mem_zipIdx_iff_getElem?]; exact hop i o ho)
    rw [List.all_eq_true] at this
    have := this e he
    simpa [hb] using this
  · have hiB : i < B.length := by
      rcases Nat.lt_or_ge i B.length with h | h
      · exact h
      · rw [List.getD_eq_getElem?_getD, List.getElem?_eq_none h] at hk; simp at hk
    rw [List.all_eq_true] at h4
    have h6 := h4 (B[i], i) (by rw [List.mem_zipIdx_iff_getElem?]; exact List.getElem?_eq_getElem hiB)
    simp only [Bool.and_eq_true, decide_eq_true_eq, List.all_eq_true, List.mem_range, Bool.or_eq_true, Bool.not_eq_true'] at h6
    have hBi : B.getD i 0 = B[i] := by simp [List.getD_eq_getElem?_getD, hiB]
    rw [hBi] at hk
    have hki : k < i := by
      rcases Nat.lt_or_ge k i with h | h
      · exact h
      · have : B[i] < 2 ^ k := Nat.lt_of_lt_of_le h6.1 (Nat.pow_le_pow_right (by omega) h)
        rw [Nat.testBit_lt_two_pow this] at hk; cases hk
    refine ⟨hki, ?_⟩
    rcases h6.2 k hki with h7 | h7
    · rw [hk] at h7; cases h7
    · split at h7
      · rename_i o ho
        simp only [List.any_eq_true, Bool.and_eq_true, Bool.or_eq_true, beq_iff_eq] at h7
        obtain ⟨e, he, hb, h8⟩ := h7
        exact ⟨o, e, ho, he, hb, h8⟩
      · cases h7
  · rw [List.all_eq_true] at h5
    have h6 := h5 j (by rw [List.mem_range]; exact (List.getElem?_eq_some_iff.1 hgj).1)
    rw [List.all_eq_true] at h6
    have h7 := h6 i (by rw [List.mem_range]; exact hij)
    rw [hgi, hgj] at h7
    simp only [Bool.or_eq_true, Bool.and_eq_true, Bool.not_eq_true'] at h7
    rcases h7 with h7 | ⟨⟨h7, h8⟩, h9⟩
    · exact .inl h7
    · exact .inr (.inl ⟨h7, h8, h9⟩)

theorem drawOkS {P : Program} [Lay P] {ops : Array Oper} {gs : List GI} {bar : List Bool} {B : List Nat} {n m0 : Nat} (htr : ops.toList.mapM (trO P ops) = some gs) (hn : ∀ o ∈ ops.toList, ∀ d, o.dst = some d → d < n) (h : drawChkS ops gs bar B m0 = true) : DrawOk P ops gs bar B n (smOf (((List.range m0).filter fun i => !(B.getD m0 0).testBit i).filterMap fun i => gs[i]?) gs bar m0) ∧ ∀ i' j' : Nat, i' ≤ m0 → m0 < j' → j' < gs.length → (B.getD j' 0).testBit i' = true := by
  unfold drawChkS at h
  simp only [Bool.and_eq_true, beq_iff_eq] at h
  obtain ⟨⟨⟨⟨⟨h1, h2⟩, h3⟩, h4⟩, h5⟩, hlt⟩ := h
  obtain ⟨_, hget⟩ := mapM_get htr
  have hop : ∀ (i : Nat) o, ops[i]? = some o → ops.toList[i]? = some o := fun i o ho => by simpa using ho
  refine ⟨⟨h1, h2, fun i o ho => hget i o (hop i o ho), fun i g d hg hd => ?_, fun i o e ho he hb => ?_, fun i k hk => ?_, fun i j gi gj hij hgi hgj => ?_⟩, fun i' j' hi' hj' hjl => ?_⟩
  · have hi : i < ops.size := by rw [← h1]; exact (List.getElem?_eq_some_iff.1 hg).1
    obtain ⟨g', hg', ht⟩ := hget i ops[i] (hop i _ (Array.getElem?_eq_getElem hi))
    rw [hg] at hg'; obtain rfl := Option.some.inj hg'
    exact hn ops[i] (by simp) d (by rw [← trO_dst ht]; exact hd)
  · rw [List.all_eq_true] at h3
    have := h3 (o, i) (by rw [List.mem_zipIdx_iff_getElem?]; exact hop i o ho)
    rw [List.all_eq_true] at this
    have := this e he
    simpa [hb] using this
  · have hiB : i < B.length := by
      rcases Nat.lt_or_ge i B.length with h | h
      · exact h
      · rw [List.getD_eq_getElem?_getD, List.getElem?_eq_none h] at hk; simp at hk
    rw [List.all_eq_true] at h4
    have h6 := h4 (B[i], i) (by rw [List.mem_zipIdx_iff_getElem?]; exact List.getElem?_eq_getElem hiB)
    simp only [Bool.and_eq_true, decide_eq_true_eq, List.all_eq_true, List.mem_range, Bool.or_eq_true, Bool.not_eq_true'] at h6
    have hBi : B.getD i 0 = B[i] := by simp [List.getD_eq_getElem?_getD, hiB]
    rw [hBi] at hk
    have hki : k < i := by
      rcases Nat.lt_or_ge k i with h | h
      · exact h
      · have : B[i] < 2 ^ k := Nat.lt_of_lt_of_le h6.1 (Nat.pow_le_pow_right (by omega) h)
        rw [Nat.testBit_lt_two_pow this] at hk; cases hk
    refine ⟨hki, ?_⟩
    rcases h6.2 k hki with h7 | h7
    · rw [hk] at h7; cases h7
    · split at h7
      · rename_i o ho
        simp only [List.any_eq_true, Bool.and_eq_true, Bool.or_eq_true, beq_iff_eq] at h7
        obtain ⟨e, he, hb, h8⟩ := h7
        exact ⟨o, e, ho, he, hb, h8⟩
      · cases h7
  · rw [List.all_eq_true] at h5
    have h6 := h5 j (by rw [List.mem_range]; exact (List.getElem?_eq_some_iff.1 hgj).1)
    rw [List.all_eq_true] at h6
    have h7 := h6 i (by rw [List.mem_range]; exact hij)
    rw [hgi, hgj] at h7
    simp only [Bool.or_eq_true, Bool.and_eq_true, Bool.not_eq_true'] at h7
    by_cases hB : (B.getD j 0).testBit i = true
    · exact .inl hB
    simp only [beq_iff_eq] at h7
    rcases h7 with (h7 | ⟨⟨h7, h8⟩, h9⟩) | ⟨⟨⟨rfl, h8⟩, h9⟩, h10⟩
    · exact .inl h7
    · exact .inr (.inl ⟨h7, h8, h9⟩)
    · refine .inr (.inr ⟨h8, rfl, h9, ?_⟩)
      unfold semiB at h10
      rw [hgi, hgj] at h10
      split at h10
      · rename_i g sz x y hg1 hg2
        obtain rfl := Option.some.inj hg1
        obtain rfl := Option.some.inj hg2
        simp only [Bool.and_eq_true, List.all_eq_true, List.mem_range, Bool.or_eq_true, decide_eq_true_eq] at h10
        obtain ⟨h11, h12⟩ := h10
        refine ⟨fun g' hg' => ?_, fun g' sz' x' y' d hg' hj' hd => ?_, fun g' hg' k gk d hik hkm hgk hd => ?_⟩
        · refine List.mem_filterMap.2 ⟨i, List.mem_filter.2 ⟨List.mem_range.2 hij, ?_⟩, hg'⟩
          simpa using hB
        · rw [hgi] at hg'; obtain rfl := Option.some.inj hg'
          rw [hgj] at hj'
          simp only [Option.some.injEq, GI.mk.injEq, I.store.injEq, and_true] at hj'
          obtain ⟨_, rfl, rfl⟩ := hj'
          rw [hd] at h11
          simpa using h11
        · rw [hgi] at hg'; obtain rfl := Option.some.inj hg'
          have := h12 k hkm
          rw [hgk] at this
          simp only [hd] at this
          rcases this with h | h
          · omega
          · simpa using h
      · cases h10
  · rw [List.all_eq_true] at hlt
    have := hlt j' (List.mem_range.2 hjl)
    simp only [Bool.or_eq_true, decide_eq_true_eq, List.all_eq_true, List.mem_range] at this
    rcases this with h | h
    · omega
    · exact h i' (by omega)


section
variable {P : Program} [Lay P] {w0 : World} {X : Nat → Value} {ok0 : Nat → Prop} [GlF P w0 X ok0] {n : Nat}

theorem C.sound (hm : P.follows .mixedOrders = true) : ∀ (code : Code) (c : C), trC P n code = some c → ∀ (K : Exit → St → Prop) (a : Act) (w : World), Post w0 X ok0 n (c.vc P K) a w → code.wp P (QC w0 X ok0 n K) a w
  | .skip, c, ht, K, a, w, h => by
    simp only [trC, Option.some.injEq] at ht; subst ht
    exact wp_skip h
  | .label _, c, ht, K, a, w, h => by
    simp only [trC, Option.some.injEq] at ht; subst ht
    exact wp_label h
  | .exit id, c, ht, K, a, w, h => by
    simp only [trC, Option.some.injEq] at ht; subst ht
    exact wp_exit h
  | .ret, c, ht, K, a, w, h => by
    simp only [trC, Option.some.injEq] at ht; subst ht
    exact wp_ret h
  | .region id ops dr, c, ht, K, a, w, h => by
    simp only [trC, Option.bind_eq_some_iff] at ht
    obtain ⟨gs, hgs, ht⟩ := ht
    split at ht
    · rename_i hn
      have hn' : ∀ o ∈ ops.toList, ∀ d, o.dst = some d → d < n := fun o ho d hd => by
        rw [List.all_eq_true] at hn
        have := hn o ho
        rw [hd] at this
        simpa using this
      split at ht
      · obtain rfl := Option.some.inj ht
        refine wp_region ?_
        obtain ⟨hl, hget⟩ := mapM_get hgs
        rw [show ops.size = gs.length by rw [hl]; simp, List.range_eq_range']
        obtain ⟨s, E, hv, hI⟩ := h
        exact reg_ops hn' gs 0 s a w (fun i hi => by
          have hi' : i < ops.size := by rw [hl] at hi; simpa using hi
          obtain ⟨g, hg, ht⟩ := hget i ops[i] (by simp [hi'])
          exact ⟨ops[i], by simp [hi'], by rw [hg, ht]; rfl⟩) ⟨s, E, hv, hI⟩
      · split at ht
        · split at ht
          · rename_i hchk
            obtain rfl := Option.some.inj ht
            unfold anyChk at hchk
            rw [Bool.and_eq_true, beq_iff_eq, List.all_eq_true] at hchk
            obtain ⟨h1, h2⟩ := hchk
            obtain ⟨_, hget⟩ := mapM_get hgs
            have hop : ∀ (i : Nat) o, ops[i]? = some o → ops.toList[i]? = some o := fun i o ho => by simpa using ho
            refine wp_region_any hm ?_
            obtain ⟨s, E, hv, hI⟩ := h
            have hI' : Inv w0 X ok0 n E s a { w with drawn := w.drawn + 1 } := hI.drew
            refine any_sound (gs := gs) (fun i o ho => hget i o (hop i o ho)) h1 hn' (fun i o e ho he hb => ?_) gs.length ops.size [] _ a _ (by rw [h1]; exact Nat.le_refl _) (by simp) (fun i hi => ?_) List.nodup_nil (by simp) (by simp [h1]) ⟨s, E, hv, hI'⟩
            · have := h2 (o, i) (by rw [List.mem_zipIdx_iff_getElem?]; exact hop i o ho)
              rw [List.all_eq_true] at this
              have := this e he
              simpa [hb] using this
            · constructor
              · intro h
                rw [Array.getD_eq_getD_getElem?, Array.getElem?_replicate, if_pos hi] at h
                cases h
              · intro h; simp at h
          · cases ht
        split at ht
        · rename_i hchk
          obtain rfl := Option.some.inj ht
          have D := drawOk hgs hn' hchk
          refine wp_region_any hm ?_
          obtain ⟨s, E, hv, hI⟩ := h
          have hI' : Inv w0 X ok0 n E s a { w with drawn := w.drawn + 1 } := hI.drew
          refine draw_sound D ops.size _ a _ (by simp) ?_ (by simp) (Stand.begin D (b := 0) (Nat.zero_le _) (fun j hj => by omega) (fun j _ => ?_) hI' (by rw [List.drop_zero]; exact hv))
          · intro i o e hi
            simp [Array.getD_eq_getD_getElem?, Array.getElem?_replicate] at hi
            split at hi <;> simp at hi
          · simp [Array.getD_eq_getD_getElem?, Array.getElem?_replicate]
            split <;> simp
        · split at ht
          · rename_i m0 hm0
            split at ht
            · rename_i hchk
              obtain rfl := Option.some.inj ht
              obtain ⟨D, hlate⟩ := drawOkS hgs hn' hchk
              refine wp_region_any hm ?_
              obtain ⟨s, E, hv, hI⟩ := h
              have hI' : Inv w0 X ok0 n E s a { w with drawn := w.drawn + 1 } := hI.drew
              refine draw_soundS D hlate ops.size _ a _ (by simp) ?_ (by simp) (.inl (StandS.begin D.len D.blen (b := 0) (Nat.zero_le _) (fun j hj => by omega) (fun j _ => ?_) hI' (by rw [List.drop_zero]; exact hv)))
              · intro i o e hi
                simp [Array.getD_eq_getD_getElem?, Array.getElem?_replicate] at hi
                split at hi <;> simp at hi
              · simp [Array.getD_eq_getD_getElem?, Array.getElem?_replicate]
                split <;> simp
            · cases ht
          · cases ht
    · cases ht
  | .seq x y, c, ht, K, a, w, h => by
    simp only [trC, Option.bind_eq_some_iff, Option.map_eq_some_iff] at ht
    obtain ⟨x', hx, y', hy, rfl⟩ := ht
    refine wp_seq (wp_mono (C.sound hm x x' hx _ a w h) (fun e a' w' he => ?_))
    cases e <;> simp only [QC, Exit.then] at he ⊢ <;> first
      | (obtain ⟨s, E, ⟨s', h1, h2⟩, h3⟩ := he
         obtain ⟨E', h4⟩ := h1 _ _ _ _ _ _ _ h3
         exact C.sound hm y y' hy _ _ _ ⟨s', E', h2, h4⟩)
      | exact he
  | .cond b x y, c, ht, K, a, w, h => by
    simp only [trC, Option.bind_eq_some_iff, Option.map_eq_some_iff] at ht
    obtain ⟨x', hx, y', hy, rfl⟩ := ht
    obtain ⟨s, E, ⟨t, h1, h2, h3⟩, hI⟩ := h
    have h4 := hI.ev b
    rw [h1] at h4
    refine wp_cond_split (v_of h4) (fun ht => C.sound hm x x' hx _ a w ⟨s, E, h2 ht, hI⟩) (fun ht => C.sound hm y y' hy _ a w ⟨s, E, h3 ht, hI⟩)
  | .block id x, c, ht, K, a, w, h => by
    simp only [trC, Option.map_eq_some_iff] at ht
    obtain ⟨x', hx, rfl⟩ := ht
    refine wp_block (wp_mono (C.sound hm x x' hx _ a w h) (fun e a' w' he => ?_))
    cases e <;> simp only [QC, Exit.inBlock] at he ⊢ <;> first | exact he | skip
    split
    · rename_i hid; simp only [hid, if_true] at he; exact he
    · rename_i hid; simp only [hid, if_false] at he; exact he
  | .loop x, c, ht, K, a, w, h => by
    simp only [trC, Option.map_eq_some_iff] at ht
    obtain ⟨x', hx, rfl⟩ := ht
    obtain ⟨s, E, ⟨ι, F, R, x0, hwf, hw0, hround⟩, hI⟩ := h
    obtain ⟨E0, hI0⟩ := hw0 _ _ _ _ _ _ _ hI
    -- rounds, by what they come down to
    have key : ∀ i, ∀ a w, (∃ E, Inv w0 X ok0 n E (F i) a w) → ∀ (b : Frame) (k : List Item) (cs : List Frame), ∃ e a' w', QC w0 X ok0 n K e a' w' ∧ Arrives P (lone (b.at a (.code x :: .inLoop x :: k)) cs w) b k cs e a' w' := by
      intro i
      induction i using hwf.induction with
      | _ i ih =>
        intro a w hI b k cs
        obtain ⟨E, hI⟩ := hI
        obtain ⟨e, a₁, w₁, hq, harr⟩ := C.sound hm x x' hx _ a w ⟨F i, E, hround i, hI⟩ b (.inLoop x :: k) cs
        cases e with
        | normal =>
          obtain ⟨s', E', ⟨j, hj, hwk⟩, hI'⟩ := hq
          obtain ⟨E2, hI2⟩ := hwk _ _ _ _ _ _ _ hI'
          obtain ⟨e₂, a₂, w₂, hq₂, harr₂⟩ := ih j hj a₁ w₁ ⟨E2, hI2⟩ b k cs
          exact ⟨e₂, a₂, w₂, hq₂, .of_steps (Steps.trans harr (.one step_inLoop)) harr₂⟩
        | exit id => exact ⟨.exit id, a₁, w₁, by simpa only [QC] using hq, .pass (x := .inLoop x) rfl (fun _ _ => .inl (by simp)) harr⟩
        | ret => exact ⟨.ret, a₁, w₁, by simpa only [QC] using hq, .pass (x := .inLoop x) rfl (fun _ _ => .inl (by simp)) harr⟩
        | goto l => exact hq.elim
        | panic ch => exact hq.elim
        | outgrown => exact hq.elim
    intro b k cs
    obtain ⟨e, a', w', hq, harr⟩ := key x0 a w ⟨E0, hI0⟩ b k cs
    exact ⟨e, a', w', hq, .of_steps (.one step_loop) harr⟩
  | .rangeFunc _ _ _ _, c, ht, _, _, _, _ => by simp [trC] at ht
  | .scope _, c, ht, _, _, _, _ => by simp [trC] at ht
  | .goto _, c, ht, _, _, _, _ => by simp [trC] at ht
  | .refuse _, c, ht, _, _, _, _ => by simp [trC] at ht
end

end Go.Proofs.YtaopcacmfhdfkaaGreatDoor.Vc

namespace Go.Proofs.YtaopcacmfhdfkaaGreatDoor.Vc
open Go Go.RowKit
set_option linter.unusedSimpArgs false
set_option linter.unusedVariables false

section
variable {P : Program} [Lay P] {w0 : World} {X : Nat → Value} {ok0 : Nat → Prop} [GlF P w0 X ok0] {n : Nat} {E : Nat → Value} {s : St} {a : Act} {w : World}

/-- What may be looked at, behind a change of names. -/
def okV (w0 : World) (ok0 : Nat → Prop) (E : Nat → Value) (s : St) (D : List Nat) (vw : Bool) : Nat → Prop := fun k => okOf w0 ok0 E s.ob k ∨ (vw = true ∧ ∃ d, s.ob d ≠ none ∧ d ∉ D ∧ blkOf (E d) = some k)
def E0of (E : Nat → Value) (D : List Nat) : Nat → Value := fun k => E ((D[k]?).getD 0)

theorem exp_rel (h : Inv w0 X ok0 n E s a w) {D : List Nat} {vw : Bool} : ∀ x y, Rel w (okOf w0 ok0 E s.ob) E s.ob x y → Rel w (okV w0 ok0 E s D vw) (E0of E D) (obsOf (insOf s D vw)) (x.exp s D vw) y := by
  have hE0 : ∀ k d, D[k]? = some d → E0of E D k = E d := fun k d hk => by simp [E0of, hk]
  have hins : ∀ k d od, D[k]? = some d → s.ob d = some od → obsOf (insOf s D vw) k = some (od.sub (expO s D vw) (expP s D vw)) := fun k d od hk hod => by
    simp [obsOf, insOf, List.getElem?_map, hk, hod]
  have hk1 : ∀ k, okOf w0 ok0 E s.ob k → k < w.heap.size → okV w0 ok0 E s D vw k ∧ w.heap[k]? = w.heap[k]? := fun k hk _ => ⟨.inl hk, rfl⟩
  have hview : ∀ d g, vw = true → s.ob d ≠ none → d ∉ D → blkOf (E d) = some g → okV w0 ok0 E s D vw g := fun d g h1 h2 h3 h4 => .inr ⟨h1, d, h2, h3, h4⟩
  refine fun x y hr => Rel.gen hk1 (Nat.le_refl _) (fun d y hr => ?_) (fun d i off y hr => ?_) x y hr
  · simp only [Rel] at hr
    obtain ⟨⟨ty, sz, xs, h1⟩, h2, h3⟩ := hr
    unfold expO
    cases hidx : D.idxOf? d with
    | some k =>
      have hkd := idxOf?_some hidx
      simp only [Rel]
      exact ⟨⟨ty, sz, xs, hins k d _ hkd h1⟩, by rw [hE0 k d hkd]; exact h2, h3⟩
    | none =>
      cases hvw' : vw with
      | false => simp [Rel]
      | true =>
        simp only [h1, cond_true]
        rw [h2]
        exact row_imm (h.ob d _ h1) (fun k hk _ => .inl hk) (fun g hg => by rw [← hvw']; exact hview d g hvw' (by rw [h1]; simp) (idxOf?_none hidx) hg)
  · have hr' := hr
    simp only [Rel] at hr
    obtain ⟨od, h1, g, h2, h3⟩ := hr
    unfold expP
    cases hidx : D.idxOf? d with
    | some k =>
      have hkd := idxOf?_some hidx
      simp only [Rel]
      exact ⟨_, hins k d _ hkd h1, g, by rw [hE0 k d hkd]; exact h2, by rw [Ob.sub_at]; exact h3⟩
    | none =>
      cases hvw' : vw with
      | false => simp [Rel]
      | true =>
        subst hvw'
        simp only [cond_true]
        cases hm : s.mem (.p d i off) with
        | none => simp [Rel]
        | some cs =>
          simp only
          split
          · rename_i himm
            obtain ⟨ad, us, h4, h5, h6, h7⟩ := mem_ok h hr' hm
            have h8 := immL_rel (ob' := noObs) (E' := E0of E D) cs us himm h5
            rw [h3] at h4
            have h9 := Option.some.inj (Value.pointer.inj h4)
            simp only [Rel]
            refine ⟨ad, us, by rw [h3, h9], ?_, ?_, ?_, h6, h7⟩
            · rw [← h9]; exact hview d g rfl (by rw [h1]; simp) (idxOf?_none hidx) h2
            · rw [← h9]; exact h.blk_lt (by rw [h1]; simp) h2
            · exact RelL.of_get h8.length fun i x hx => by
                obtain ⟨y, hy, hr⟩ := h8.get i x hx
                exact ⟨y, hy, hr.imm hk1 (Nat.le_refl _)⟩
          · simp [Rel]

theorem exp_obs (h : Inv w0 X ok0 n E s a w) {D : List Nat} {vw : Bool} (hD : ∀ d ∈ D, s.ob d ≠ none) : ∀ k o, (insOf s D vw)[k]? = some o → ObRel w (okV w0 ok0 E s D vw) (E0of E D) (obsOf (insOf s D vw)) k o := by
  intro k o hok
  have hE0 : ∀ k d, D[k]? = some d → E0of E D k = E d := fun k d hk => by simp [E0of, hk]
  simp only [insOf, List.getElem?_map, Option.map_eq_some_iff] at hok
  obtain ⟨d, hkd, rfl⟩ := hok
  have hds := hD d (List.mem_of_getElem? hkd)
  cases hod : s.ob d with
  | none => exact absurd hod hds
  | some od =>
    simp only [Option.getD_some]
    have h2 := h.ob d od hod
    cases od with
    | var ty x =>
      obtain ⟨g, y, hE, hr, hh, hc⟩ := h2
      exact ⟨g, y, by rw [hE0 k d hkd, hE], exp_rel h x y hr, hh, hc⟩
    | row ty sz xs =>
      obtain ⟨cs, hown, hF⟩ := h2
      exact ⟨cs, by rw [hE0 k d hkd]; exact hown, hF.imp (fun k hk _ => ⟨.inl hk, rfl⟩) (Nat.le_refl _)⟩

/-- A result. -/
def resT (P : Program) [Lay P] (s : St) : ResultVar → Option TV
  | .tmp t => some (s.tm t)
  | .cell x ty => match aggSize P ty with
    | some (some m) => (s.mem (s.tm x)).bind fun cs => if m ≤ cs.length then some (.a (cs.take m)) else none
    | some none => (s.mem (s.tm x)).bind fun cs => cs[0]?
    | none => none
def oneOr : List TV → TV
  | [x] => x
  | l => .t l

theorem resT_ok (h : Inv w0 X ok0 n E s a w) {rv : ResultVar} {tv : TV} (hr : resT P s rv = some tv) :
    ∃ v, (match rv with | .tmp t => pure (a.tmps.getD t undef) | .cell x t => do loadVar t (← asAddr (a.tmps.getD x undef)) : Sem Value).run P w = .ok v w ∧ Rel w (okOf w0 ok0 E s.ob) E s.ob tv v := by
  have _ := ‹GlF P w0 X ok0›
  cases rv with
  | tmp t =>
    obtain rfl := Option.some.inj hr
    exact ⟨_, rfl, h.tm t⟩
  | cell x ty =>
    simp only [resT] at hr
    split at hr
    · rename_i m hs
      simp only [Option.bind_eq_some_iff] at hr
      obtain ⟨cs, hm, hr⟩ := hr
      split at hr
      · rename_i hle
        obtain rfl := Option.some.inj hr
        obtain ⟨ad, us, he, h1, h2, h3⟩ := mem_ok h (h.tm x) hm
        obtain ⟨hu, i, hi, hsz⟩ := aggSize_some hs
        have hl := h1.length
        have := run_loadAgg (P := P) (w := w) hu hi (ad := ad) (us := us.take m) (by rw [List.length_take, hsz]; omega) (fun j u hj => h3 j u (by
          rw [List.getElem?_take] at hj; split at hj
          · exact hj
          · cases hj))
        refine ⟨.agg (us.take m).toArray, ?_, ?_⟩
        · simp only [Instr.loadAt, Instr.sureAddr] at this
          simp only [he, asAddr]
          simpa using this
        · simp only [Rel]
          exact ⟨us.take m, rfl, fun u hu => h2 u (List.mem_of_mem_take hu), h1.take⟩
      · cases hr
    · rename_i hs
      simp only [Option.bind_eq_some_iff] at hr
      obtain ⟨cs, hm, hr⟩ := hr
      obtain ⟨ad, us, he, h1, h2, h3⟩ := mem_ok h (h.tm x) hm
      obtain ⟨d, hu, hd⟩ := aggSize_none hs
      obtain ⟨y, hy, hrel⟩ := h1.get 0 tv hr
      have := run_loadOne (P := P) (w := w) hu hd (ad := ad) (u := y) (by simpa [Addr.add] using h3 0 y hy)
      refine ⟨y, ?_, hrel⟩
      simp only [Instr.loadAt, Instr.sureAddr] at this
      simp only [he, asAddr]
      simpa using this
    · cases hr

theorem run_mapM' {α β : Type} (g : α → Sem β) : ∀ (l : List α) (ls : List β), ls.length = l.length → (∀ (i : Nat) x, l[i]? = some x → ∃ y, ls[i]? = some y ∧ (g x).run P w = .ok y w) → (l.mapM g).run P w = .ok ls w
  | [], [], _, _ => by have _ := ‹Lay P›; simp
  | [], _ :: _, h, _ => by simp at h
  | _ :: _, [], h, _ => by simp at h
  | x :: l, y :: ls, h, hr => by
    obtain ⟨y', h1, h2⟩ := hr 0 x rfl
    simp at h1; subst h1
    rw [List.mapM_cons, Sem.run_bind, h2]
    simp only [Result.andThen_ok, Sem.run_bind]
    rw [run_mapM' g l ls (by simpa using h) (fun i x hx => by simpa using hr (i + 1) x (by simpa using hx))]
    rfl

theorem results_ok (h : Inv w0 X ok0 n E s a w) {fn : Func} {tvs : List TV} (hr : fn.results.toList.mapM (resT P s) = some tvs) :
    ∃ v, (results fn a.tmps).run P w = .ok v w ∧ Rel w (okOf w0 ok0 E s.ob) E s.ob (oneOr tvs) v := by
  obtain ⟨hl, hget⟩ := mapM_get hr
  -- the values, one by one
  have hex : ∀ (l : List ResultVar) (ts : List TV), l.mapM (resT P s) = some ts → ∃ vs : List Value, RelL w (okOf w0 ok0 E s.ob) E s.ob ts vs ∧
      (l.mapM (fun | .tmp t => pure (a.tmps.getD t undef) | .cell x t => do loadVar t (← asAddr (a.tmps.getD x undef)) : ResultVar → Sem Value)).run P w = .ok vs w := by
    intro l
    induction l with
    | nil => intro ts ht; simp at ht; subst ht; exact ⟨[], by simp [RelL], by simp⟩
    | cons x l ih =>
      intro ts ht
      simp only [List.mapM_cons, Option.bind_eq_bind, Option.bind_eq_some_iff, Option.pure_def, Option.some.injEq] at ht
      obtain ⟨t, ht1, ts', ht2, rfl⟩ := ht
      obtain ⟨v, h1, h2⟩ := resT_ok h ht1
      obtain ⟨vs, h3, h4⟩ := ih ts' ht2
      refine ⟨v :: vs, by simp only [RelL]; exact ⟨v, vs, rfl, h2, h3⟩, ?_⟩
      rw [List.mapM_cons, Sem.run_bind]
      have h1' : ((fun | .tmp t => pure (a.tmps.getD t undef) | .cell x t => do loadVar t (← asAddr (a.tmps.getD x undef)) : ResultVar → Sem Value) x).run P w = .ok v w := by
        cases x <;> exact h1
      rw [h1']
      simp only [Result.andThen_ok, Sem.run_bind]
      rw [h4]
      rfl
  obtain ⟨vs, h1, h2⟩ := hex _ _ hr
  have hvl := h1.length
  have hrun : (fn.results.mapM (fun | .tmp t => pure (a.tmps.getD t undef) | .cell x t => do loadVar t (← asAddr (a.tmps.getD x undef)) : ResultVar → Sem Value)).run P w = .ok vs.toArray w := by
    rw [Array.mapM_eq_mapM_toList, Sem.run_map, h2]; rfl
  have hres : (results fn a.tmps).run P w = (Result.ok vs.toArray w).andThen fun xs w' => (Pure.pure (if h : xs.size = 1 then xs[0] else Value.tuple xs) : Sem Value).run P w' := by
    rw [← hrun, ← Sem.run_bind]
    unfold results
    congr 2
  rw [hres]
  simp only [Result.andThen_ok, Sem.run_pure]
  match tvs, vs, h1 with
  | [], vs, h1 => simp only [RelL] at h1; subst h1; exact ⟨_, rfl, by simp [oneOr, Rel, RelL]⟩
  | [t], vs, h1 =>
    simp only [RelL] at h1
    obtain ⟨u, us, rfl, h3, rfl⟩ := h1
    exact ⟨u, by simp, h3⟩
  | t1 :: t2 :: ts, vs, h1 =>
    have h5 := h1
    simp only [RelL] at h1
    obtain ⟨u, us, rfl, h3, u', us', rfl, h4⟩ := h1
    refine ⟨_, rfl, ?_⟩
    simp only [oneOr]
    rw [dif_neg (by simp)]
    simp only [Rel]
    exact ⟨_, rfl, h5⟩
end

end Go.Proofs.YtaopcacmfhdfkaaGreatDoor.Vc

namespace Go.Proofs.YtaopcacmfhdfkaaGreatDoor.Vc
open Go Go.RowKit
set_option linter.unusedSimpArgs false
set_option linter.unusedVariables false

/-- One of two. -/
inductive Two (A B : Prop) : Prop where
  | l (h : A)
  | r (h : B)
mutual
/-- Whatever is the first is the second: a nil slice is an empty one. -/
def leX : TV → TV → Prop
  | .a cs, .a cs' => leL cs cs'
  | .t xs, .t xs' => leL xs xs'
  | .x t y, .x t' y' => t = t' ∧ leX y y'
  | .v u, .s _ xs => u = .slice none 0 0 ∧ xs = []
  | .s z xs, .s z' ys => Two (z = z' ∧ xs = ys) (z = z' ∧ leL xs ys)
  | x, y => x = y
def leL : List TV → List TV → Prop
  | [], [] => True
  | x :: xs, y :: ys => leX x y ∧ leL xs ys
  | _, _ => False
end
theorem leL_len : ∀ {xs ys : List TV}, leL xs ys → xs.length = ys.length
  | [], [], _ => rfl
  | x :: xs, y :: ys, h => by simp only [leL] at h; simp [leL_len h.2]
  | [], _ :: _, h => by simp [leL] at h
  | _ :: _, [], h => by simp [leL] at h
mutual
theorem le_rel {w : World} {ok : Nat → Prop} {E : Nat → Value} {ob : Obs} : ∀ (x y : TV) (u : Value), leX x y → Rel w ok E ob x u → Rel w ok E ob y u := by
  intro x y u h hr
  unfold leX at h
  split at h
  · simp only [Rel] at hr ⊢
    obtain ⟨ys, e, h1, h2⟩ := hr
    exact ⟨ys, e, h1, leL_rel _ _ _ h h2⟩
  · simp only [Rel] at hr ⊢
    obtain ⟨us, e, h2⟩ := hr
    exact ⟨us, e, leL_rel _ _ _ h h2⟩
  · obtain ⟨rfl, h⟩ := h
    simp only [Rel] at hr ⊢
    obtain ⟨z, e, h2⟩ := hr
    exact ⟨z, e, le_rel _ _ _ h h2⟩
  · obtain ⟨rfl, rfl⟩ := h
    simp only [Rel] at hr ⊢
    exact ⟨none, 0, hr.2, Nat.le_refl _, fun h => absurd rfl h⟩
  · rcases h with ⟨rfl, rfl⟩ | ⟨rfl, h⟩
    · exact hr
    · simp only [Rel] at hr ⊢
      obtain ⟨A, c, e, hc, h1⟩ := hr
      have hl := leL_len h
      refine ⟨A, c, by rw [← hl]; exact e, by rw [← hl]; exact hc, fun hne => ?_⟩
      obtain ⟨ad, h2, h3, h4, h5⟩ := h1 (by rintro rfl; exact hne (List.eq_nil_of_length_eq_zero hl.symm))
      exact ⟨ad, h2, h3, h4, leE_rel _ _ _ h h5⟩
  · subst h; exact hr
theorem leE_rel {w : World} {ok : Nat → Prop} {E : Nat → Value} {sz : Nat} {ad : Addr} : ∀ (xs ys : List TV) (k : Nat), leL xs ys → RelE w ok E sz ad k xs → RelE w ok E sz ad k ys
  | [], [], _, _, h => h
  | x :: xs, y :: ys, k, hl, h => by
    simp only [leL] at hl
    simp only [RelE] at h ⊢
    obtain ⟨⟨u, h1, h2⟩, h3⟩ := h
    exact ⟨⟨u, le_rel x y u hl.1 h1, h2⟩, leE_rel xs ys (k + 1) hl.2 h3⟩
  | [], _ :: _, _, h, _ => by simp [leL] at h
  | _ :: _, [], _, h, _ => by simp [leL] at h
theorem leL_rel {w : World} {ok : Nat → Prop} {E : Nat → Value} {ob : Obs} : ∀ (xs ys : List TV) (us : List Value), leL xs ys → RelL w ok E ob xs us → RelL w ok E ob ys us
  | [], [], us, _, h => h
  | x :: xs, y :: ys, us, hl, h => by
    simp only [leL] at hl
    simp only [RelL] at h ⊢
    obtain ⟨u, us', e, h1, h2⟩ := h
    exact ⟨u, us', e, le_rel x y u hl.1 h1, leL_rel xs ys us' hl.2 h2⟩
  | [], _ :: _, _, h, _ => by simp [leL] at h
  | _ :: _, [], _, h, _ => by simp [leL] at h
end
mutual
theorem leX_refl : ∀ x : TV, leX x x
  | .a cs => by simp only [leX]; exact leL_refl cs
  | .t cs => by simp only [leX]; exact leL_refl cs
  | .x t y => by simp only [leX]; exact ⟨trivial, leX_refl y⟩
  | .s _ _ => by simp only [leX]; exact .l ⟨trivial, trivial⟩
  | .v _ | .r _ | .o _ | .p _ _ _ | .f _ _ | .dead => by simp only [leX]
theorem leL_refl : ∀ xs : List TV, leL xs xs
  | [] => by simp only [leL]
  | x :: xs => by simp only [leL]; exact ⟨leX_refl x, leL_refl xs⟩
end
theorem Spec_arg {P : Program} [Lay P] {f : FuncId} {args args' : List TV} {ins : List Ob} {r : TV} {outs : List Ob} (h : Spec P f args' ins r outs) (hl : leL args args') : Spec P f args ins r outs := by
  obtain ⟨h1, h2, h3, h4⟩ := h
  exact ⟨h1, h2, h3, fun w ok E0 vs a b c d => h4 w ok E0 vs a b c (leL_rel _ _ _ hl d)⟩

def startT (args : List TV) (ins : List Ob) : St := { tm := fun t => (args[t]?).getD .dead, ob := obsOf ins }

/-- What a body must end with. -/
def Fin (P : Program) [Lay P] (fn : Func) (m : Nat) (r : TV) (outs : List Ob) : Exit → St → Prop := fun e s =>
  (e = .normal ∨ e = .ret) ∧ ∃ tvs N, fn.results.toList.mapM (resT P s) = some tvs ∧ N.Nodup ∧ (∀ d ∈ N, 16 ≤ d ∧ s.ob d ≠ none) ∧ (∀ d < m, s.ob d ≠ none) ∧
    leX ((oneOr tvs).exp s (List.range m ++ N) true) r ∧ insOf s (List.range m ++ N) true = outs

theorem start_inv {w : World} {ok : Nat → Prop} {E0 : Nat → Value} {args : List TV} {ins : List Ob} {vs : List Value} {n : Nat} (h16 : ins.length ≤ 16) (hn : args.length ≤ n)
    (hob : ∀ k o, ins[k]? = some o → ObRel w ok E0 (obsOf ins) k o)
    (hdis : ∀ d e g, d < ins.length → e < ins.length → blkOf (E0 d) = some g → blkOf (E0 e) = some g → d = e)
    (hnot : ∀ d g, d < ins.length → blkOf (E0 d) = some g → ¬ ok g)
    (hargs : RelL w ok E0 (obsOf ins) args vs) :
    Inv w (handed E0 ins.length) ok n E0 (startT args ins) { tmps := vs.toArray ++ Array.replicate (n - vs.toArray.size) undef, defers := [] } w := by
  have hlt : ∀ d, (startT args ins).ob d ≠ none → d < ins.length := fun d h => by
    rcases Nat.lt_or_ge d ins.length with h1 | h1
    · exact h1
    · exact absurd (by simp [startT, obsOf, List.getElem?_eq_none h1]) h
  have hk : ∀ k, ok k → k < w.heap.size → okOf w ok E0 (obsOf ins) k ∧ w.heap[k]? = w.heap[k]? := fun k hk _ => ⟨⟨.inl hk, fun d hd he => hnot d k (hlt d hd) he hk⟩, rfl⟩
  have hmv : ∀ x y, Rel w ok E0 (obsOf ins) x y → Rel w (okOf w ok E0 (obsOf ins)) E0 (obsOf ins) x y := fun x y hr =>
    hr.move (w := w) (w' := w) hk (Nat.le_refl _) (fun d o hd => ⟨rfl, o, hd, fun _ _ => rfl, id⟩)
  have hvl := hargs.length
  refine { keep := Keep.refl _ _, ob := fun d o hd => ?_, ext := fun d h1 h2 => ?_, own := fun d g h1 h2 => ?_, dis := fun d e g h1 h2 h3 h4 => hdis d e g (hlt d h1) (hlt e h2) h3 h4, tm := fun t => ?_, defers := rfl, size := ?_ }
  · exact (hob d o hd).move (w := w) (w' := w) hk (Nat.le_refl _) rfl (fun _ _ => rfl) hmv
  · simp [handed, hlt d h2]
  · have := hlt d h2; omega
  · simp only [startT]
    cases ht : args[t]? with
    | none => simp [Rel]
    | some x =>
      obtain ⟨y, hy, hr⟩ := hargs.get t x ht
      simp only [Option.getD_some]
      have : (vs.toArray ++ Array.replicate (n - vs.toArray.size) undef).getD t undef = y := by
        have h1 : t < vs.length := (List.getElem?_eq_some_iff.1 hy).1
        rw [Array.getD_eq_getD_getElem?, Array.getElem?_append_left (by simpa using h1)]
        simp [hy]
      show Rel _ _ _ _ _ ((vs.toArray ++ Array.replicate (n - vs.toArray.size) undef).getD t undef)
      rw [this]
      exact hmv _ _ hr
  · simp; omega

theorem spec_intro {P : Program} [Lay P] (hm : P.follows .mixedOrders = true) {f : FuncId} {fn : Func} {code : Code} {c : C} (hf : P.funcs[f]? = some fn) (hb : fn.body = some code) (hname : (fn.name == "runtime.NumGoroutine") = false)
    (htr : trC P fn.ntmps code = some c) {args : List TV} {ins : List Ob} {r : TV} {outs : List Ob} (hn : args.length ≤ fn.ntmps) (h16 : ins.length ≤ 16)
    (hshape : (outs.take ins.length).map Ob.shape = ins.map Ob.shape) (hvc : c.vc P (Fin P fn ins.length r outs) (startT args ins)) : Spec P f args ins r outs := by
  refine ⟨⟨fn, code, hf, hb, hname⟩, h16, hshape, fun w ok E0 vs hob hdis hnot hargs hlay => calls_of_wp hf hb ?_⟩
  haveI : GlF P w (handed E0 ins.length) ok := ⟨fun b cs hb => ⟨(hlay b cs hb).1, (hlay b cs hb).2, fun d hd => by
    unfold handed at hd
    split at hd
    · exact hnot d b ‹_› hd (hlay b cs hb).1
    · simp [blkOf] at hd⟩⟩
  refine wp_mono (C.sound hm code c htr _ _ w ⟨_, _, hvc, start_inv h16 hn hob hdis hnot hargs⟩) (fun e a w' he => ?_)
  clear hvc
  have key : ∀ s E, Fin P fn ins.length r outs e s → Inv w (handed E0 ins.length) ok fn.ntmps E s a w' → bodyPost P fn (fun e w' => ∃ v E, e = .returned v ∧ Keep (fun g => ∃ d, blkOf (handed E0 ins.length d) = some g) w w' ∧
      (∀ k o, outs[k]? = some o → ObRel w' (okOf w ok E (obsOf outs)) E (obsOf outs) k o) ∧
      Rel w' (okOf w ok E (obsOf outs)) E (obsOf outs) r v ∧
      (∀ d, d < ins.length → E d = E0 d) ∧
      (∀ d g, ins.length ≤ d → d < outs.length → blkOf (E d) = some g → w.heap.size ≤ g) ∧
      (∀ d e g, d < outs.length → e < outs.length → blkOf (E d) = some g → blkOf (E e) = some g → d = e)) e a w' := by
    rintro s E ⟨hxe, tvs, N, htv, hNn, hN, hin, hr1, hr2⟩ hI
    clear he
    have hX31 : ∀ g, blkOf (handed E0 ins.length 31) ≠ some g := fun g hg => by simp only [handed, if_neg (show ¬ 31 < ins.length by omega)] at hg; cases hg
    subst hr2
    obtain ⟨v, hrun, hrel⟩ := results_ok hI htv
    generalize hD : List.range ins.length ++ N = D at hr1
    have hDn : D.Nodup := by
      rw [← hD, List.nodup_append]
      refine ⟨List.nodup_range, hNn, fun a ha b hb => ?_⟩
      have := (hN b hb).1
      rw [List.mem_range] at ha
      omega
    have hDs : ∀ d ∈ D, s.ob d ≠ none := fun d hd => by
      rw [← hD, List.mem_append, List.mem_range] at hd
      rcases hd with hd | hd
      · exact hin d hd
      · exact (hN d hd).2
    have hlen : (insOf s D true).length = D.length := by simp [insOf]
    have hDlow : ∀ d, d < ins.length → D[d]? = some d := fun d hd => by
      rw [← hD, List.getElem?_append_left (by simpa using hd)]; simp [hd]
    have hDhigh : ∀ d, ins.length ≤ d → d < D.length → ∃ e, D[d]? = some e ∧ e ∈ N := fun d h1 h2 => by
      refine ⟨D[d], List.getElem?_eq_getElem h2, ?_⟩
      have : D[d]? = N[d - ins.length]? := by rw [← hD, List.getElem?_append_right (by simpa using h1)]; simp
      rw [List.getElem?_eq_getElem h2] at this
      exact List.mem_of_getElem? this.symm
    have hE0 : ∀ k d, D[k]? = some d → E0of E D k = E d := fun k d hk => by simp [E0of, hk]
    have hEd : ∀ d, d < ins.length → E0of E D d = E0 d := fun d hd => by
      rw [hE0 d d (hDlow d hd), hI.ext d (by omega) (hin d hd)]; simp [handed, hd]
    have hobs : ∀ k, obsOf (insOf s D true) k ≠ none → ∃ d, D[k]? = some d ∧ s.ob d ≠ none := fun k hk => by
      have : k < D.length := by
        rcases Nat.lt_or_ge k D.length with h | h
        · exact h
        · exact absurd (by simp [obsOf, List.getElem?_eq_none (by rw [hlen]; exact h)]) hk
      exact ⟨D[k], List.getElem?_eq_getElem this, hDs _ (List.getElem_mem _)⟩
    have hok : ∀ k, okV w ok E s D true k → k < w'.heap.size → okOf w ok (E0of E D) (obsOf (insOf s D true)) k ∧ w'.heap[k]? = w'.heap[k]? := by
      rintro k (⟨hk, hk2⟩ | ⟨_, d, hd1, hd2, hd3⟩) _
      · refine ⟨⟨hk, fun j hj he => ?_⟩, rfl⟩
        obtain ⟨d, hd, hds⟩ := hobs j hj
        rw [hE0 j d hd] at he
        exact hk2 d hds he
      · refine ⟨⟨.inr ?_, fun j hj he => ?_⟩, rfl⟩
        · rcases Nat.lt_or_ge d 16 with h1 | h1
          · have := hI.ext d h1 hd1
            rw [this] at hd3
            simp only [handed] at hd3
            split at hd3
            · rename_i h2
              exact absurd (List.mem_of_getElem? (hDlow d h2)) hd2
            · simp [blkOf] at hd3
          · exact (hI.own d k h1 hd1 hd3).resolve_right fun h' => hX31 k h'.2
        · obtain ⟨e, hd, hds⟩ := hobs j hj
          rw [hE0 j e hd] at he
          have := hI.dis d e k hd1 hds hd3 he
          subst this
          exact hd2 (List.mem_of_getElem? hd)
    have hmv : ∀ x y, Rel w' (okV w ok E s D true) (E0of E D) (obsOf (insOf s D true)) x y → Rel w' (okOf w ok (E0of E D) (obsOf (insOf s D true))) (E0of E D) (obsOf (insOf s D true)) x y := fun x y hr =>
      hr.move (w := w') (w' := w') hok (Nat.le_refl _) (fun d o hd => ⟨rfl, o, hd, fun _ _ => rfl, id⟩)
    have hfin : ∃ v' E', Ending.returned v = .returned v' ∧ Keep (fun g => ∃ d, blkOf (handed E0 ins.length d) = some g) w w' ∧
      (∀ k o, (insOf s D true)[k]? = some o → ObRel w' (okOf w ok E' (obsOf (insOf s D true))) E' (obsOf (insOf s D true)) k o) ∧
      Rel w' (okOf w ok E' (obsOf (insOf s D true))) E' (obsOf (insOf s D true)) r v' ∧
      (∀ d, d < ins.length → E' d = E0 d) ∧
      (∀ d g, ins.length ≤ d → d < (insOf s D true).length → blkOf (E' d) = some g → w.heap.size ≤ g) ∧
      (∀ d e g, d < (insOf s D true).length → e < (insOf s D true).length → blkOf (E' d) = some g → blkOf (E' e) = some g → d = e) := by
      refine ⟨v, E0of E D, rfl, hI.keep, fun k o hk => ?_, le_rel _ _ _ hr1 (hmv _ _ (exp_rel hI _ _ hrel)), hEd, fun d g h1 h2 h3 => ?_, fun d e g h1 h2 h3 h4 => ?_⟩
      · exact (exp_obs hI hDs k o hk).move (w := w') (w' := w') hok (Nat.le_refl _) rfl (fun _ _ => rfl) hmv
      · rw [hlen] at h2
        obtain ⟨e, he1, he2⟩ := hDhigh d h1 h2
        rw [hE0 d e he1] at h3
        exact (hI.own e g (hN e he2).1 (hN e he2).2 h3).resolve_right fun h' => hX31 g h'.2
      · rw [hlen] at h1 h2
        rw [hE0 d _ (List.getElem?_eq_getElem h1)] at h3
        rw [hE0 e _ (List.getElem?_eq_getElem h2)] at h4
        have := hI.dis _ _ g (hDs _ (List.getElem_mem h1)) (hDs _ (List.getElem_mem h2)) h3 h4
        exact (List.getElem_inj hDn).1 this
    rcases hxe with rfl | rfl <;> exact ⟨hI.defers, v, hrun, hfin⟩
  cases e <;> simp only [QC] at he
  all_goals first
    | exact he.elim
    | (obtain ⟨s, E, hF, hI⟩ := he; exact key s E hF hI)
    | skip

/-- The state that a function begins in that is handed a row. -/
def startG (ty sz : Nat) (xs : List TV) (args : List TV) : St := { tm := fun t => (((.o 31 :: args : List TV))[t]?).getD .dead, ob := upd noObs 31 (some (.row ty sz xs)) }
def FinG (P : Program) [Lay P] (fn : Func) (ty sz : Nat) (xs' : List TV) : Exit → St → Prop := fun e s =>
  (e = .normal ∨ e = .ret) ∧ ∃ tvs, fn.results.toList.mapM (resT P s) = some tvs ∧ oneOr tvs = .o 31 ∧ s.ob 31 = some (.row ty sz xs')
theorem startG_inv {w : World} {ok : Nat → Prop} {E : Nat → Value} {ty sz : Nat} {xs args : List TV} {v : Value} {cs vs : List Value} {n : Nat} (hn : args.length + 1 ≤ n)
    (hown : w.ownsRow 0 ty sz v xs.length cs) (hF : RelF w ok E sz xs cs) (hnot : ∀ g, v.ownBlock = some g → ¬ ok g) (hargs : RelL w ok E noObs args vs) (himm : immL args = true) :
    Inv w (fun d => if d = 31 then v else .nilIface) ok n (fun d => if d = 31 then v else .nilIface) (startG ty sz xs args) { tmps := (v :: vs).toArray ++ Array.replicate (n - (v :: vs).toArray.size) undef, defers := [] } w := by
  have hsl : ∃ A n c, v = .slice A n c := by
    rcases hown.2 with ⟨h1, _⟩ | ⟨g, cap, cur, h1, _⟩
    · exact ⟨_, _, _, h1⟩
    · exact ⟨_, _, _, h1⟩
  have hbv := blk_slice hsl
  have hob : ∀ d, (startG ty sz xs args).ob d ≠ none → d = 31 := fun d h => by
    by_cases hd : d = 31
    · exact hd
    · exact absurd (by simp [startG, upd_ne _ _ hd, noObs]) h
  have hk : ∀ k, ok k → k < w.heap.size → okOf w ok (fun d => if d = 31 then v else .nilIface) (startG ty sz xs args).ob k ∧ w.heap[k]? = w.heap[k]? := fun k hk _ => ⟨⟨.inl hk, fun d hd he => by
    obtain rfl := hob d hd
    simp only [if_true] at he
    rw [hbv] at he
    exact hnot k he hk⟩, rfl⟩
  have hvl := hargs.length
  refine { keep := Keep.refl _ _, ob := fun d o hd => ?_, ext := fun d h1 h2 => ?_, own := fun d g h1 h2 h3 => ?_, dis := fun d e g h1 h2 _ _ => ?_, tm := fun t => ?_, defers := rfl, size := ?_ }
  · obtain rfl := hob d (by rw [hd]; simp)
    simp only [startG, upd_same, Option.some.injEq] at hd
    subst hd
    exact ⟨cs, by simpa using hown, hF.imp hk (Nat.le_refl _)⟩
  · have := hob d h2; omega
  · obtain rfl := hob d h2
    exact .inr ⟨rfl, by simpa using h3⟩
  · rw [hob d h1, hob e h2]
  · show Rel w _ _ _ ((((.o 31 :: args : List TV))[t]?).getD .dead) (((v :: vs).toArray ++ Array.replicate (n - (v :: vs).toArray.size) undef).getD t undef)
    cases t with
    | zero =>
      simp only [List.getElem?_cons_zero, Option.getD_some]
      have : ((v :: vs).toArray ++ Array.replicate (n - (v :: vs).toArray.size) undef).getD 0 undef = v := by
        rw [Array.getD_eq_getD_getElem?, Array.getElem?_append_left (by simp)]; simp
      rw [this]
      simp only [Rel]
      exact ⟨⟨ty, sz, xs, by simp [startG]⟩, by simp, hsl⟩
    | succ t =>
      simp only [List.getElem?_cons_succ]
      cases ht : args[t]? with
      | none => simp [Rel]
      | some x =>
        obtain ⟨y, hy, hr⟩ := hargs.get t x ht
        simp only [Option.getD_some]
        have : ((v :: vs).toArray ++ Array.replicate (n - (v :: vs).toArray.size) undef).getD (t + 1) undef = y := by
          have h1 : t < vs.length := (List.getElem?_eq_some_iff.1 hy).1
          rw [Array.getD_eq_getD_getElem?, Array.getElem?_append_left (by simp; omega)]
          simp [hy]
        rw [this]
        have hx : x.imm = true := by
          have : ∀ (l : List TV), immL l = true → ∀ x ∈ l, x.imm = true := by
            intro l
            induction l with
            | nil => simp
            | cons y ys ih =>
              intro h x hx
              simp only [immL, Bool.and_eq_true] at h
              rcases List.mem_cons.1 hx with rfl | hx
              · exact h.1
              · exact ih h.2 x hx
          exact this args himm x (List.mem_of_getElem? ht)
        exact imm_rel x y hx (hr.imm hk (Nat.le_refl _) (E' := E) (ob := noObs))
  · simp; omega
theorem spec_intro_g {P : Program} [Lay P] (hm : P.follows .mixedOrders = true) {f : FuncId} {fn : Func} {code : Code} {c : C} (hf : P.funcs[f]? = some fn) (hb : fn.body = some code) (hname : (fn.name == "runtime.NumGoroutine") = false)
    (htr : trC P fn.ntmps code = some c) {ty sz : Nat} {xs args xs' : List TV} (hn : args.length + 1 ≤ fn.ntmps) (himm : immL args = true) (hnim : ∀ x ∈ xs', x.nim = true)
    (hvc : c.vc P (FinG P fn ty sz xs') (startG ty sz xs args)) : SpecG P f ty sz xs args xs' := by
  refine ⟨⟨fn, code, hf, hb, hname⟩, fun w ok E0 v cs vs hown hF hnot hargs hlay => calls_of_wp hf hb ?_⟩
  have hsl : ∃ A n c, v = .slice A n c := by
    rcases hown.2 with ⟨h1, _⟩ | ⟨g, cap, cur, h1, _⟩
    · exact ⟨_, _, _, h1⟩
    · exact ⟨_, _, _, h1⟩
  haveI : GlF P w (fun d => if d = 31 then v else .nilIface) ok := ⟨fun b cs hb => ⟨(hlay b cs hb).1, (hlay b cs hb).2, fun d hd => by
    by_cases h31 : d = 31
    · subst h31
      simp only [if_true] at hd
      rw [blk_slice hsl] at hd
      exact hnot b hd (hlay b cs hb).1
    · simp only [if_neg h31] at hd; cases hd⟩⟩
  refine wp_mono (C.sound hm code c htr _ _ w ⟨_, _, hvc, startG_inv hn hown hF hnot hargs himm⟩) (fun e a w' he => ?_)
  clear hvc
  have key : ∀ s E, FinG P fn ty sz xs' e s → Inv w (fun d => if d = 31 then v else .nilIface) ok fn.ntmps E s a w' → bodyPost P fn (fun e w' => ∃ v' cs', e = .returned v' ∧ w'.ownsRow 0 ty sz v' xs'.length cs' ∧
      (∀ (ok' : Nat → Prop) (E' : Nat → Value), (∀ k, ok k → k < w.heap.size → ok' k ∧ w'.heap[k]? = w.heap[k]?) → RelF w' ok' E' sz xs' cs') ∧ w.grownBy w' v.ownBlock ∧ (∀ g, v'.ownBlock = some g → v.ownBlock = some g ∨ w.heap.size ≤ g)) e a w' := by
    rintro s E ⟨hxe, tvs, htv, hone, h31⟩ hI
    clear he
    obtain ⟨u, hrun, hrel⟩ := results_ok hI htv
    rw [hone] at hrel
    have hu : u = E 31 := by simp only [Rel] at hrel; exact hrel.2.1
    obtain ⟨cs', hown', hF'⟩ := hI.ob 31 _ h31
    have hsl' : ∃ A n c, E 31 = .slice A n c := by
      rcases hown'.2 with ⟨h1, _⟩ | ⟨g, cap, cur, h1, _⟩
      · exact ⟨_, _, _, h1⟩
      · exact ⟨_, _, _, h1⟩
    have hfin : ∃ v' cs', Ending.returned u = .returned v' ∧ w'.ownsRow 0 ty sz v' xs'.length cs' ∧
      (∀ (ok' : Nat → Prop) (E' : Nat → Value), (∀ k, ok k → k < w.heap.size → ok' k ∧ w'.heap[k]? = w.heap[k]?) → RelF w' ok' E' sz xs' cs') ∧ w.grownBy w' v.ownBlock ∧ (∀ g, v'.ownBlock = some g → v.ownBlock = some g ∨ w.heap.size ≤ g) := by
      refine ⟨u, cs', rfl, by rw [hu]; exact hown', fun ok' E' _ => ⟨hF'.1, fun i x hx => ?_⟩, ⟨hI.keep.os, hI.keep.tape, hI.keep.output, hI.keep.size, fun k hk hne => hI.keep.block k hk ?_⟩, fun g hg => ?_⟩
      · obtain ⟨y, h1, h2⟩ := hF'.2 i x hx
        exact ⟨y, nim_rel x y (hnim x (List.mem_of_getElem? hx)) (by
          have := Rel.imm (ok' := okOf w ok E s.ob) (E' := E') (ob := noObs) (w' := w') (fun k hk _ => ⟨hk, rfl⟩) (Nat.le_refl _) h1
          exact this), h2⟩
      · rintro ⟨d, hd⟩
        by_cases hd31 : d = 31
        · subst hd31
          simp only [if_true] at hd
          rw [blk_slice hsl] at hd
          exact hne hd.symm
        · simp only [if_neg hd31] at hd; cases hd
      · rw [hu] at hg
        rcases hI.own 31 g (by omega) (by rw [h31]; simp) (by rw [blk_slice hsl']; exact hg) with h1 | ⟨_, h1⟩
        · exact .inr h1
        · left
          simp only [if_true] at h1
          rw [blk_slice hsl] at h1; exact h1
    rcases hxe with rfl | rfl <;> exact ⟨hI.defers, u, hrun, hfin⟩
  cases e <;> simp only [QC] at he
  all_goals first
    | exact he.elim
    | (obtain ⟨s, E, hF, hI⟩ := he; exact key s E hF hI)
    | skip
end Go.Proofs.YtaopcacmfhdfkaaGreatDoor.Vc
