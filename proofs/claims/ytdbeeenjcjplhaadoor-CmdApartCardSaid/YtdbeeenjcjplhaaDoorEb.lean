/- What errors.Is finds. -/
import Derived.Test.YtdbeeenjcjplhaaDoorEa
namespace Go.Proofs.YtdbeeenjcjplhaaDoor.Vc
open Go Go.RowKit Go.Proofs Go.Proofs.Tryd Go.Extern.Stop Go.Stop Go.Extern
set_option maxRecDepth 100000

/-- A pointer that isn't the target's. -/
theorem eq_other (w : World) (ad : Addr) (g : Nat) (u : Value) (cs : Array Value) (ty : TypeId) (hc : w.cell? ad = some u) (hg : w.heap[g]? = some (.cells cs ty (0, 0))) (h0 : cs.size ≠ 0) (hne : ad.block ≠ g) :
    (binOp .eql 28 (.iface 23 (.pointer (some ad))) (.iface 23 (.pointer (some ⟨g, 0, none⟩)))).run prog w = .ok (.bool false) w := by
  obtain ⟨ca, ta, fa, ha⟩ : ∃ ca ta fa, w.heap[ad.block]? = some (.cells ca ta fa) := by
    unfold World.cell? at hc
    split at hc
    · exact ⟨_, _, _, ‹_›⟩
    · cases hc
  have hsz : ∃ n, ca.size = n + 1 := by
    unfold World.cell? at hc
    rw [ha] at hc
    simp only at hc
    split at hc
    · cases hc
    · have := (Array.getElem?_eq_some_iff.1 hc).1
      exact ⟨ca.size - 1, by omega⟩
  obtain ⟨n, hn⟩ := hsz
  have hs : (sameAddr ad ⟨g, 0, none⟩).run prog w = .ok false w := by
    simp [sameAddr, hne, World.frozen?, ha, hg, noView, viewAt, World.shape?, mayBeOne, stringish, h0, hn]
  obtain ⟨i, hi, hic⟩ : ∃ i, prog.info? 23 = some i ∧ i.comparable = true := ⟨_, rfl, by kernel_rfl⟩
  obtain ⟨j, hj, hjs⟩ : ∃ j, prog.info? 30 = some j ∧ j.size ≠ 0 := ⟨_, rfl, by decide +kernel⟩
  have h2 : ∀ d : Nat, (Op.equalIn (d + 2) 28 (.iface 23 (.pointer (some ad))) (.iface 23 (.pointer (some ⟨g, 0, none⟩)))).run prog w = .ok false w := fun d => by
    simp [Op.equalIn, run_underlying underlying28, run_underlying underlying23, typeInfo, hi, hic, sizeOf, hj, hjs, hs]
  simp only [binOp]
  simp [Op.equal, Op.maxDepth, h2 9998]
end Go.Proofs.YtdbeeenjcjplhaaDoor.Vc

namespace Go.Proofs.YtdbeeenjcjplhaaDoor.Vc
open Go Go.RowKit Go.Proofs Go.Proofs.Tryd Go.Extern.Stop Go.Stop Go.Extern
set_option maxRecDepth 100000

def tgt (code : Int) : Array Value := #[.int .i64 code, .string bs0, .int .i64 0, .nilIface]
theorem laid_keep {w w' : World} {ok ok' : Nat → Prop} {X : Nat → Prop} (h : laidW prog w ok) (hk : Keep X w w') (hX : ∀ k, X k → ¬ ok k) (ho : ∀ k, ok k → k < w.heap.size → ok' k) : laidW prog w' ok' := fun b cs hb => by
  obtain ⟨h1, ty, fr, h2⟩ := h b cs hb
  have hlt : b < w.heap.size := (Array.getElem?_eq_some_iff.1 h2).1
  exact ⟨ho b h1 hlt, ty, fr, by rw [hk.block b hlt fun hx => hX b hx h1]; exact h2⟩
theorem eq_type (t : TypeId) (ht : t ≠ 23) (v u : Value) (w : World) : (binOp .eql 28 (.iface t v) (.iface 23 u)).run prog w = .ok (.bool false) w := by
  have h2 : ∀ d : Nat, (Op.equalIn (d + 1) 28 (.iface t v) (.iface 23 u)).run prog w = .ok false w := fun d => by
    simp [Op.equalIn, run_underlying underlying28, ht]
  simp only [binOp]
  simp [Op.equal, Op.maxDepth, h2 9999]
theorem add_z (a : Addr) : a.add 0 = a := by
  unfold Addr.add
  split <;> simp_all
/-- f.Is(target), at the target's object. -/
theorem is15_calls (f : Flt) (code : Int) (w : World) (ok : Nat → Prop) (E : Nat → Value) (p : Value) (hp : Rel w ok E noObs f.tv p) (g : Nat) (hg0 : ¬ ok g) (hg : w.heap[g]? = some (.cells (tgt code) 30 (0, 0))) (hl : laidW prog w ok) :
    Calls prog 15 #[p, .iface 23 (.pointer (some ⟨g, 0, none⟩))] w fun ev w' => ev = .returned (.bool (decide (code = f.c))) ∧ Keep (fun k => k = g) w w' ∧ w'.heap[g]? = some (.cells (tgt code) 30 (0, 0)) := by
  obtain ⟨_, _, _, h⟩ := s15p f code
  have hy : ∀ (w : World) (ok : Nat → Prop) (E : Nat → Value) (ob : Obs) (y : Value), Rel w ok E ob (.a [tI code, tS bs0, tI 0, .v .nilIface]) y ↔ y = .agg (tgt code) := by
    intro w ok E ob y
    simp only [Rel, RelL]
    constructor
    · rintro ⟨ys, rfl, _, u, us, rfl, ⟨_, rfl⟩, u2, us2, rfl, ⟨_, rfl⟩, u3, us3, rfl, ⟨_, rfl⟩, u4, us4, rfl, ⟨_, rfl⟩, rfl⟩; rfl
    · rintro rfl
      exact ⟨_, rfl, by simp [Value.oneCell'], _, _, rfl, ⟨rfl, rfl⟩, _, _, rfl, ⟨rfl, rfl⟩, _, _, rfl, ⟨rfl, rfl⟩, _, _, rfl, ⟨rfl, rfl⟩, rfl⟩
  refine (h w ok (fun _ => .pointer (some ⟨g, 0, none⟩)) [p, .iface 23 (.pointer (some ⟨g, 0, none⟩))] ?_ ?_ ?_ ?_ hl).mono ?_
  · intro k o hko
    cases k with
    | succ k => simp at hko
    | zero =>
      simp at hko
      subst hko
      exact ⟨g, .agg (tgt code), rfl, (hy _ _ _ _ _).2 rfl, hg, by simp [tgt, Value.cells, Value.oneCell']⟩
  · intro d e' g' h1 h2 _ _; simp at h1 h2; omega
  · intro d g' _ h2; simp [blkOf] at h2; subst h2; exact hg0
  · simp only [RelL]
    refine ⟨_, _, rfl, imm_rel _ _ (by simp [Flt.tv, TV.imm]) hp, _, _, rfl, ?_, rfl⟩
    simp only [Rel]
    exact ⟨_, rfl, _, rfl, g, rfl, rfl⟩
  · rintro ev w' ⟨v', E', rfl, hk, hob, hr, hE, _, _⟩
    obtain ⟨g', y, he, h1, h2, _⟩ := hob 0 _ rfl
    rw [hE 0 (by simp)] at he
    simp at he
    subst he
    rw [(hy _ _ _ _ _).1 h1] at h2
    simp only [Rel] at hr
    refine ⟨by rw [hr.2], ⟨hk.os, hk.tape, hk.output, hk.size, fun k hlt hx => hk.block k hlt ?_, hk.drawn⟩, h2⟩
    rintro ⟨d, hd⟩
    unfold handed at hd
    split at hd
    · simp [blkOf] at hd; exact hx hd.symm
    · simp [blkOf] at hd
/-- A contract of values alone, as a call. -/
theorem Spec.plain {P : Program} [Lay P] {f : FuncId} {args : List TV} {r : TV} (h : Spec P f args [] r []) (w : World) (ok : Nat → Prop) (E : Nat → Value) (vs : List Value) (ha : RelL w ok E noObs args vs) (hl : laidW P w ok) :
    Calls P f vs.toArray w fun ev w' => ∃ v, ev = .returned v ∧ Keep (fun _ => False) w w' ∧ ∃ E', Rel w' (fun k => ok k ∨ w.heap.size ≤ k) E' noObs r v := by
  obtain ⟨_, _, _, h4⟩ := h
  have e : obsOf [] = noObs := by funext d; simp [obsOf, noObs]
  refine (h4 w ok E vs (by simp) (by simp) (by simp) (by rw [e]; exact ha) hl).mono ?_
  rintro ev w' ⟨v, E', rfl, hk, _, hr, _⟩
  rw [e] at hr
  refine ⟨v, rfl, ⟨hk.os, hk.tape, hk.output, hk.size, fun k hlt _ => hk.block k hlt ?_, hk.drawn⟩, E', hr.move (fun k hk' _ => ⟨hk'.1, rfl⟩) (Nat.le_refl _) (fun d o hd => by simp [noObs] at hd)⟩
  rintro ⟨d, hd⟩; simp [handed, blkOf] at hd
theorem keep_none {g : Nat} {w w' : World} (h : Keep (fun _ => False) w w') : Keep (fun k => k = g) w w' := ⟨h.os, h.tape, h.output, h.size, fun k hlt _ => h.block k hlt id, h.drawn⟩
theorem Err.iface {w : World} {ok : Nat → Prop} {E : Nat → Value} {ob : Obs} {e : Err} (hn : e ≠ .nil) {v : Value} (h : Rel w ok E ob e.tv v) : ∃ t u, v = .iface t u := by
  cases e with
  | nil => exact absurd rfl hn
  | flt => simp only [Err.tv, Rel] at h; obtain ⟨u, rfl, _⟩ := h; exact ⟨_, _, rfl⟩
  | alien => simp only [Err.tv, Rel] at h; obtain ⟨u, rfl, _⟩ := h; exact ⟨_, _, rfl⟩
  | around => simp only [Err.tv, Rel] at h; obtain ⟨u, rfl, _⟩ := h; exact ⟨_, _, rfl⟩
theorem rel_keep {w w' : World} {ok : Nat → Prop} {E : Nat → Value} {X : Nat → Prop} (hk : Keep X w w') (hX : ∀ k, X k → ¬ ok k) {x : TV} {y : Value} (h : Rel w ok E noObs x y) : Rel w' ok E noObs x y :=
  h.move (ob := noObs) (fun k hk' hlt => ⟨hk', hk.block k hlt fun hx => hX k hx hk'⟩) hk.size (fun d o hd => by simp [noObs] at hd)
theorem relL1 {w : World} {ok : Nat → Prop} {E : Nat → Value} {x : TV} {y : Value} (h : Rel w ok E noObs x y) : RelL w ok E noObs [x] [y] := by simp only [RelL]; exact ⟨_, _, rfl, h, rfl⟩
set_option maxHeartbeats 8000000 in
theorem is_rounds (code : Int) (g : Nat) (Q : Exit → Act → World → Prop) (w0 : World) (e0 : Err) (hg1 : g < w0.heap.size) (hQ : ∀ a' w' b, a'.tmps.getD 6 undef = .bool b → a'.defers = [] → b = e0.has code → Keep (fun k => k = g) w0 w' → w'.heap[g]? = some (.cells (tgt code) 30 (0, 0)) → Q .ret a' w') :
    ∀ (e : Err), e ≠ .nil → e.has code = e0.has code → ∀ (w : World), Keep (fun k => k = g) w0 w → ∀ (ok : Nat → Prop) (E : Nat → Value), ¬ ok g → laidW prog w ok → ∀ (v : Value), Rel w ok E noObs e.tv v → w.heap[g]? = some (.cells (tgt code) 30 (0, 0)) → ∀ (x3 x4 x5 x6 x7 x8 x9 x10 x11 x12 x13 x14 x15 x16 x17 x18 x19 x20 x21 x22 x23 x24 x25 x26 x27 x28 x29 x30 x31 x32 x33 x34 x35 x36 x37 x38 x39 x40 x41 x42 x43 x44 x45 x46 x47 x48 x49 x50 x51 x52 x53 : Value), Code.rounds prog (bodyOf f47) Q (e.depth + 1) { tmps := #[v, .iface 23 (.pointer (some ⟨g, 0, none⟩)), .bool true, x3, x4, x5, x6, x7, x8, x9, x10, x11, x12, x13, x14, x15, x16, x17, x18, x19, x20, x21, x22, x23, x24, x25, x26, x27, x28, x29, x30, x31, x32, x33, x34, x35, x36, x37, x38, x39, x40, x41, x42, x43, x44, x45, x46, x47, x48, x49, x50, x51, x52, x53], defers := [] } w := by
  intro e
  simp only [bodyOf, f47, loopOf]
  induction e with
  | nil => intro h; exact absurd rfl h
  | alien n =>
    intro _ hf w hk ok E hg0 hl v hv hg x3 x4 x5 x6 x7 x8 x9 x10 x11 x12 x13 x14 x15 x16 x17 x18 x19 x20 x21 x22 x23 x24 x25 x26 x27 x28 x29 x30 x31 x32 x33 x34 x35 x36 x37 x38 x39 x40 x41 x42 x43 x44 x45 x46 x47 x48 x49 x50 x51 x52 x53
    simp only [Err.tv, Rel, RelL] at hv
    obtain ⟨u, rfl, ys, rfl, _, u', us', rfl, ⟨_, rfl⟩, rfl⟩ := hv
    have heq := eq_type 37 (by decide)
    have ta1 := ta_is37
    have ta2 := ta_un37
    have ta3 := ta_us37
    rw [rounds_succ]
    go_wp2
    exact hQ _ _ false rfl rfl (by rw [← hf]; rfl) hk hg
  | flt c p a e' ih =>
    intro _ hf w hk ok E hg0 hl v hv hg x3 x4 x5 x6 x7 x8 x9 x10 x11 x12 x13 x14 x15 x16 x17 x18 x19 x20 x21 x22 x23 x24 x25 x26 x27 x28 x29 x30 x31 x32 x33 x34 x35 x36 x37 x38 x39 x40 x41 x42 x43 x44 x45 x46 x47 x48 x49 x50 x51 x52 x53
    simp only [Err.tv, Rel] at hv
    obtain ⟨u, rfl, hv⟩ := hv
    have hR : Rel w ok E noObs (Flt.tv ⟨c, p, a, e'⟩) u := by simp only [Flt.tv, Rel]; exact hv
    obtain ⟨ad, us, rfl, hok, hlt, hus, hone, hcell⟩ := hv
    obtain ⟨u0, us', rfl, _⟩ : ∃ u0 us', us = u0 :: us' ∧ True := by
      simp only [RelL] at hus
      obtain ⟨u0, us', rfl, _⟩ := hus
      exact ⟨_, _, rfl, trivial⟩
    have hc0 := hcell 0 u0 rfl
    have hgne : ad.block ≠ g := fun h => hg0 (h ▸ hok)
    have heq := eq_other w ad g u0 (tgt code) 30 (by rw [add_z] at hc0; exact hc0) hg (by simp [tgt]) hgne
    have ta1 := ta_is23
    have ta2 := ta_un23
    have mU := m_unwrap23
    have mI := m_is23
    have h15 := is15_calls ⟨c, p, a, e'⟩ code w ok E _ hR g hg0 hg hl
    rw [rounds_succ]
    by_cases hcc : code = c
    · rw [decide_eq_true (show code = (Flt.mk c p a e').c from hcc)] at h15
      go_wp2_with (go_at_call 15; refine h15.mono ?_; rintro ev w1 ⟨rfl, hk1, hg1'⟩)
      exact hQ _ _ true rfl rfl (by rw [← hf]; simp [Err.has, hcc]) (keep_then hg1 hk hk1) hg1'
    · rw [decide_eq_false (show ¬ code = (Flt.mk c p a e').c from hcc)] at h15
      have hf' : e'.has code = e0.has code := by
        have hcc' : ¬ c = code := fun h => hcc h.symm
        rw [← hf]; simp [Err.has, hcc']
      have hnok : ∀ k, k = g → ¬ ok k := fun k h => h ▸ hg0
      by_cases hn : e' = .nil
      · subst hn
        go_wp2_with (first | (go_at_call 15; refine h15.mono ?_; rintro ev w1 ⟨rfl, hk1, hg1'⟩) | (go_at_call 16; refine ((s16 ⟨c, p, a, .nil⟩).plain _ ok E [.pointer (some ad)] (relL1 (rel_keep hk1 hnok hR)) (laid_keep hl hk1 hnok fun _ h _ => h)).mono ?_; rintro ev w2 ⟨v2, rfl, hk2, E2, hr2⟩; obtain rfl : v2 = .nilIface := by simpa [Err.tv, Rel, plain] using hr2))
        exact hQ _ _ false rfl rfl (by rw [← hf']; rfl) (keep_then hg1 hk (keep_then (Nat.lt_of_lt_of_le hg1 hk.size) hk1 (keep_none hk2))) (by rw [hk2.block g (Array.getElem?_eq_some_iff.1 hg1').1 id]; exact hg1')
      · go_wp2_with (first | (go_at_call 15; refine h15.mono ?_; rintro ev w1 ⟨rfl, hk1, hg1'⟩) | (go_at_call 16; refine ((s16 ⟨c, p, a, e'⟩).plain _ ok E [.pointer (some ad)] (relL1 (rel_keep hk1 hnok hR)) (laid_keep hl hk1 hnok fun _ h _ => h)).mono ?_; rintro ev w2 ⟨v2, rfl, hk2, E2, hr2⟩; obtain ⟨tv2, uv2, rfl⟩ := Err.iface hn hr2))
        have hgl : g < w1.heap.size := (Array.getElem?_eq_some_iff.1 hg1').1
        refine ih hn hf' _ (keep_then hg1 hk (keep_then (Nat.lt_of_lt_of_le hg1 hk.size) hk1 (keep_none hk2))) (fun k => ok k ∨ w1.heap.size ≤ k) E2 (fun h => h.elim hg0 (by omega)) (laid_keep (laid_keep hl hk1 hnok fun _ h _ => h) hk2 (fun _ h => h.elim) fun _ h _ => .inl h) _ hr2 (by rw [hk2.block g hgl id]; exact hg1') _ _ _ _ _ _ _ _ _ _ _ _ _ _ _ _ _ _ _ _ _ _ _ _ _ _ _ _ _ _ _ _ _ _ _ _ _ _ _ _ _ _ _ _ _ _ _ _ _ _ _
  | around e' ih =>
    intro _ hf w hk ok E hg0 hl v hv hg x3 x4 x5 x6 x7 x8 x9 x10 x11 x12 x13 x14 x15 x16 x17 x18 x19 x20 x21 x22 x23 x24 x25 x26 x27 x28 x29 x30 x31 x32 x33 x34 x35 x36 x37 x38 x39 x40 x41 x42 x43 x44 x45 x46 x47 x48 x49 x50 x51 x52 x53
    simp only [Err.tv, Rel, RelL] at hv
    obtain ⟨u, rfl, ys, rfl, hone, v', us', rfl, hv', rfl⟩ := hv
    have heq := eq_type 89 (by decide)
    have ta1 := ta_is89
    have ta2 := ta_un89
    have mU := m_unwrap89
    have hf' : e'.has code = e0.has code := hf
    have hR : Rel w ok E noObs (.a [e'.tv]) (.agg #[v']) := by
      simp only [Rel, RelL]
      exact ⟨[v'], rfl, hone, v', [], rfl, hv', rfl⟩
    rw [rounds_succ]
    by_cases hn : e' = .nil
    · subst hn
      go_wp2_with (go_at_call 120; refine ((s120 .nil).plain _ ok E [.agg #[v']] (relL1 hR) hl).mono ?_; rintro ev w2 ⟨v2, rfl, hk2, E2, hr2⟩; obtain rfl : v2 = .nilIface := by simpa [Err.tv, Rel, plain] using hr2)
      exact hQ _ _ false rfl rfl (by rw [← hf']; rfl) (keep_then hg1 hk (keep_none hk2)) (by rw [hk2.block g (Array.getElem?_eq_some_iff.1 hg).1 id]; exact hg)
    · go_wp2_with (go_at_call 120; refine ((s120 e').plain _ ok E [.agg #[v']] (relL1 hR) hl).mono ?_; rintro ev w2 ⟨v2, rfl, hk2, E2, hr2⟩; obtain ⟨tv2, uv2, rfl⟩ := Err.iface hn hr2)
      have hgl : g < w.heap.size := (Array.getElem?_eq_some_iff.1 hg).1
      refine ih hn hf' _ (keep_then hg1 hk (keep_none hk2)) (fun k => ok k ∨ w.heap.size ≤ k) E2 (fun h => h.elim hg0 (by omega)) (laid_keep hl hk2 (fun _ h => h.elim) fun _ h _ => .inl h) _ hr2 (by rw [hk2.block g hgl id]; exact hg) _ _ _ _ _ _ _ _ _ _ _ _ _ _ _ _ _ _ _ _ _ _ _ _ _ _ _ _ _ _ _ _ _ _ _ _ _ _ _ _ _ _ _ _ _ _ _ _ _ _ _
end Go.Proofs.YtdbeeenjcjplhaaDoor.Vc

namespace Go.Proofs.YtdbeeenjcjplhaaDoor.Vc
open Go Go.RowKit Go.Proofs Go.Proofs.Tryd Go.Extern.Stop Go.Stop Go.Extern
set_option maxRecDepth 100000

set_option maxHeartbeats 8000000 in
theorem is47 (code : Int) (g : Nat) (e : Err) (he : e ≠ .nil) (w : World) (ok : Nat → Prop) (E : Nat → Value) (hg0 : ¬ ok g) (hl : laidW prog w ok) (v : Value) (hv : Rel w ok E noObs e.tv v) (hg : w.heap[g]? = some (.cells (tgt code) 30 (0, 0))) :
    Calls prog 47 #[v, .iface 23 (.pointer (some ⟨g, 0, none⟩)), .bool true] w fun ev w' => ev = .returned (.bool (e.has code)) ∧ Keep (fun k => k = g) w w' ∧ w'.heap[g]? = some (.cells (tgt code) 30 (0, 0)) := by
  have hg1 : g < w.heap.size := (Array.getElem?_eq_some_iff.1 hg).1
  go_enter func47, ntmps47
  go_wp2
  refine wp_loop_rounds (e.depth + 1) ?_
  refine is_rounds code g _ w e hg1 ?_ e he rfl _ (Keep.refl _ _) ok E hg0 hl v hv hg _ _ _ _ _ _ _ _ _ _ _ _ _ _ _ _ _ _ _ _ _ _ _ _ _ _ _ _ _ _ _ _ _ _ _ _ _ _ _ _ _ _ _ _ _ _ _ _ _ _ _
  rintro a' w' b hb hd rfl hk hg'
  rename_i Q'
  refine (?_ : Q' Exit.ret a' w')
  refine (?_ : bodyPost prog f47 (fun ev w' => ev = .returned (.bool (e.has code)) ∧ Keep (fun k => k = g) w w' ∧ w'.heap[g]? = some (.cells (tgt code) 30 (0, 0))) Exit.ret a' w')
  obtain ⟨tm, df⟩ := a'
  dsimp only at hd
  subst hd
  refine ⟨rfl, .bool (e.has code), ?_, rfl, hk, hg'⟩
  simp [results, f47]
  simpa [Array.getD_eq_getD_getElem?] using hb
theorem rl_comparable23' (w : World) : (ReflectliteType.method (fun t => do Rtype.noPackHeld "Comparable" t; (fun a : TypeInfo => Value.bool a.comparable) <$> typeInfo t) #[.agg #[.pointer (some ⟨5, 23, none⟩)]]).run prog w = .ok (.bool true) w := by kernel_rfl
theorem cm_comparable (w : World) : (callMethod (.iface 127 (.agg #[.pointer (some ⟨5, 23, none⟩)])) "Comparable" #[]).run prog w = .ok (.value (.bool true)) w := by
  have h125 := @run_callFunc_extern prog 125 _ (ReflectliteType.method (fun t => do Rtype.noPackHeld "Comparable" t; pure (.bool (← typeInfo t).comparable))) func125 (by kernel_rfl) (by kernel_rfl) (by kernel_rfl) (by kernel_rfl)
  have c23 : ∀ w, (callFunc 125 #[.agg #[.pointer (some ⟨5, 23, none⟩)]]).run prog w = .ok (.value (.bool true)) w := fun w => by rw [h125, rl_comparable23]; rfl
  have mC := rl_methodComparable
  simp [callMethod, Made.depth, mC, c23]
set_option maxHeartbeats 8000000 in
/-- errors.Is, at a fault of a code alone. -/
theorem s26 (e : Err) (he : e ≠ .nil) (code : Int) : Spec prog 26 [e.tv, .x 23 (.p 0 0 0)] [.var 30 (.a [tI code, tS bs0, tI 0, .v .nilIface])] (tB (e.has code)) [.var 30 (.a [tI code, tS bs0, tI 0, .v .nilIface])] := by
  refine ⟨⟨f26, _, func26, rfl, by kernel_rfl⟩, by simp, by simp [Ob.shape], fun w ok E0 vs hin hdis hnok hargs hlay => ?_⟩
  have hy : ∀ (w : World) (ok : Nat → Prop) (E : Nat → Value) (ob : Obs) (y : Value), Rel w ok E ob (.a [tI code, tS bs0, tI 0, .v .nilIface]) y ↔ y = .agg (tgt code) := by
    intro w ok E ob y
    simp only [Rel, RelL]
    constructor
    · rintro ⟨ys, rfl, _, u, us, rfl, ⟨_, rfl⟩, u2, us2, rfl, ⟨_, rfl⟩, u3, us3, rfl, ⟨_, rfl⟩, u4, us4, rfl, ⟨_, rfl⟩, rfl⟩; rfl
    · rintro rfl
      exact ⟨_, rfl, by simp [Value.oneCell'], _, _, rfl, ⟨rfl, rfl⟩, _, _, rfl, ⟨rfl, rfl⟩, _, _, rfl, ⟨rfl, rfl⟩, _, _, rfl, ⟨rfl, rfl⟩, rfl⟩
  obtain ⟨gE, y, hE, hy1, hh, h1c⟩ := hin 0 _ rfl
  obtain rfl := (hy _ _ _ _ _).1 hy1
  have hh : w.heap[gE]? = some (.cells (tgt code) 30 (0, 0)) := hh
  simp only [RelL] at hargs
  obtain ⟨v, us, rfl, hv, v2, us2, rfl, h2, rfl⟩ := hargs
  simp only [Rel] at h2
  obtain ⟨u, rfl, o, ho, g, hg, rfl⟩ := h2
  rw [hE] at hg
  simp only [blkOf, Option.some.injEq] at hg
  subst hg
  obtain rfl : o = .var 30 (.a [tI code, tS bs0, tI 0, .v .nilIface]) := by simp [obsOf] at ho; exact ho.symm
  have hg0 : ¬ ok gE := hnok 0 gE (by simp) (by rw [hE]; rfl)
  have hv := imm_rel (ob' := noObs) (E' := E0) e.tv v e.imm hv
  obtain ⟨tv, uv, rfl⟩ := Err.iface he hv
  have h10 := @run_callFunc_extern prog 46 _ ReflectliteType.typeOf func46 (by kernel_rfl) (by kernel_rfl) (by kernel_rfl) (by kernel_rfl)
  have h125 := @run_callFunc_extern prog 125 _ (ReflectliteType.method (fun t => do Rtype.noPackHeld "Comparable" t; pure (.bool (← typeInfo t).comparable))) func125 (by kernel_rfl) (by kernel_rfl) (by kernel_rfl) (by kernel_rfl)
  have tO := rl_typeOf
  have mC := rl_methodComparable
  have c23 : ∀ w, (callFunc 125 #[.agg #[.pointer (some ⟨5, 23, none⟩)]]).run prog w = .ok (.value (.bool true)) w := fun w => by rw [h125, rl_comparable23]; rfl
  clear h125
  have hI := is47 code gE e he w ok E0 hg0 hlay (.iface tv uv) hv hh
  have key : Calls prog 26 #[.iface tv uv, .iface 23 (.pointer (some ⟨gE, 0, none⟩))] w fun ev w' => ev = .returned (.bool (e.has code)) ∧ Keep (fun k => k = gE) w w' ∧ w'.heap[gE]? = some (.cells (tgt code) 30 (0, 0)) := by
    go_enter func26, ntmps26
    go_wp2_with (go_at_call 47; refine hI.mono ?_; rintro ev w' ⟨rfl, hp⟩)
    refine wp_value (y := .bool true) (w' := w) ?_ ?_
    · simp [execOp, resolve, invoke, cm_comparable, Act.eval]
    go_wp2_with (go_at_call 47; refine hI.mono ?_; rintro ev w' ⟨rfl, hp⟩)
    go_ret
    exact ⟨rfl, hp⟩
  refine key.mono ?_
  rintro ev w' ⟨rfl, hk2, hg2⟩
  refine ⟨_, E0, rfl, ⟨hk2.os, hk2.tape, hk2.output, hk2.size, fun k hlt hx => hk2.block k hlt fun e' => hx ⟨0, by simp [handed, hE, blkOf, e']⟩, hk2.drawn⟩, fun k o hko => ?_, by simp [Rel, plain], fun d _ => rfl, fun d g h1 h2 => by simp at h1 h2; omega, fun d e' g h1 h2 _ _ => by simp at h1 h2; omega⟩
  cases k with
  | succ k => simp at hko
  | zero =>
    simp at hko
    subst hko
    exact ⟨gE, .agg (tgt code), hE, (hy _ _ _ _ _).2 rfl, hg2, h1c⟩
end Go.Proofs.YtdbeeenjcjplhaaDoor.Vc
