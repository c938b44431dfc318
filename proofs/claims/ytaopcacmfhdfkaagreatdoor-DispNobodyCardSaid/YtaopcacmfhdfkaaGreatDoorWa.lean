/- Closed runs, reckoned: values, heaps, and single operations; for every program. -/
import Derived.Test.YtaopcacmfhdfkaaGreatDoorVx
import Derived.MapKept
namespace Go.Proofs.YtaopcacmfhdfkaaGreatDoor.Ev
open Go Go.RowKit Go.Proofs.YtaopcacmfhdfkaaGreatDoor.Vc
set_option linter.unusedSimpArgs false
set_option linter.unusedVariables false

/-! A finite map from numbers, to be reckoned with. -/
inductive Tr (α : Type) where
  | nil
  | nd (v : Option α) (l r : Tr α)

-- FAST
noncomputable def Tr.get {α : Type} (t : Tr α) : Nat → Option α :=
  Tr.rec (motive := fun _ => Nat → Option α) (fun _ => none) (fun v _ _ gl gr k => Nat.rec (motive := fun _ => Option α) v (fun m _ => Nat.rec (motive := fun _ => Option α) (gl (Nat.div m 2)) (fun _ _ => gr (Nat.div m 2)) (Nat.mod m 2)) k) t
noncomputable def Tr.set {α : Type} (f : Nat) : Tr α → Nat → Option α → Tr α :=
  Nat.rec (motive := fun _ => Tr α → Nat → Option α → Tr α) (fun t _ _ => t) (fun _ ih t k x => Tr.rec (motive := fun _ => Tr α)
    (Nat.rec (motive := fun _ => Tr α) (.nd x .nil .nil) (fun m _ => Nat.rec (motive := fun _ => Tr α) (.nd none (ih .nil (Nat.div m 2) x) .nil) (fun _ _ => .nd none .nil (ih .nil (Nat.div m 2) x)) (Nat.mod m 2)) k)
    (fun v l r _ _ => Nat.rec (motive := fun _ => Tr α) (.nd x l r) (fun m _ => Nat.rec (motive := fun _ => Tr α) (.nd v (ih l (Nat.div m 2) x) r) (fun _ _ => .nd v l (ih r (Nat.div m 2) x)) (Nat.mod m 2)) k) t) f
-- /FAST
theorem Tr.get_nil {α : Type} (k : Nat) : (Tr.nil : Tr α).get k = none := rfl
theorem natrec_mod {β : Type} (m : Nat) (x y : β) : Nat.rec (motive := fun _ => β) x (fun _ _ => y) (Nat.mod m 2) = bif Nat.beq (m % 2) 0 then x else y := by
  have h : Nat.mod m 2 = m % 2 := rfl
  rw [h]
  have : m % 2 < 2 := Nat.mod_lt _ (by decide)
  generalize m % 2 = q at *
  match q, this with
  | 0, _ => rfl
  | 1, _ => rfl
theorem Tr.get_nd {α : Type} (v : Option α) (l r : Tr α) (k : Nat) : (Tr.nd v l r).get k = bif Nat.beq k 0 then v else bif Nat.beq ((k - 1) % 2) 0 then l.get ((k - 1) / 2) else r.get ((k - 1) / 2) := by
  cases k with
  | zero => rfl
  | succ m => exact natrec_mod m _ _
theorem Tr.set_zero {α : Type} (t : Tr α) (k : Nat) (x : Option α) : Tr.set 0 t k x = t := rfl
theorem Tr.set_nil {α : Type} (f k : Nat) (x : Option α) : Tr.set (f + 1) .nil k x = bif Nat.beq k 0 then .nd x .nil .nil else bif Nat.beq ((k - 1) % 2) 0 then .nd none (Tr.set f .nil ((k - 1) / 2) x) .nil else .nd none .nil (Tr.set f .nil ((k - 1) / 2) x) := by
  cases k with
  | zero => rfl
  | succ m => exact natrec_mod m _ _
theorem Tr.set_nd {α : Type} (f : Nat) (v : Option α) (l r : Tr α) (k : Nat) (x : Option α) : Tr.set (f + 1) (.nd v l r) k x = bif Nat.beq k 0 then .nd x l r else bif Nat.beq ((k - 1) % 2) 0 then .nd v (Tr.set f l ((k - 1) / 2) x) r else .nd v l (Tr.set f r ((k - 1) / 2) x) := by
  cases k with
  | zero => rfl
  | succ m => exact natrec_mod m _ _
theorem beq_def (a b : Nat) : Nat.beq a b = decide (a = b) := by
  by_cases h : a = b
  · subst h; simp
  · have : Nat.beq a b = false := by rw [Bool.eq_false_iff]; intro h'; exact h (Nat.eq_of_beq_eq_true h')
    simp [this, h]
theorem Tr.get_set {α : Type} : ∀ (f : Nat) (t : Tr α) (k : Nat) (x : Option α) (j : Nat), k < 2 ^ f - 1 → (Tr.set f t k x).get j = if j = k then x else t.get j
  | 0, t, k, x, j, h => by simp at h
  | f + 1, t, k, x, j, h => by
    have hf : 0 < k → (k - 1) / 2 < 2 ^ f - 1 := fun hk => by rw [Nat.pow_succ] at h; omega
    have key : ∀ (u : Tr α), 0 < k → (Tr.set f u ((k - 1) / 2) x).get ((j - 1) / 2) = if (j - 1) / 2 = (k - 1) / 2 then x else u.get ((j - 1) / 2) := fun u hk => Tr.get_set f u _ x _ (hf hk)
    cases t <;> simp only [Tr.set_nil, Tr.set_nd, beq_def]
    all_goals
      by_cases hk : k = 0
      · subst hk
        simp only [decide_true, cond_true, Tr.get_nd, Tr.get_nil, beq_def]
        by_cases hj : j = 0 <;> simp [hj]
      · have hk' : 0 < k := by omega
        simp only [hk, decide_false, cond_false]
        by_cases hm : (k - 1) % 2 = 0
        · simp only [hm, decide_true, cond_true, Tr.get_nd, Tr.get_nil, beq_def]
          by_cases hj : j = 0
          · subst hj; simp [Ne.symm hk]
          · by_cases hmj : (j - 1) % 2 = 0
            · simp only [hj, hmj, decide_true, decide_false, cond_true, cond_false, key _ hk', Tr.get_nil, Tr.get_nd]
              have : (j - 1) / 2 = (k - 1) / 2 ↔ j = k := by omega
              simp [this]
            · have : j ≠ k := by rintro rfl; exact hmj hm
              simp [hj, hmj, this]
        · simp only [hm, decide_false, cond_false, Tr.get_nd, Tr.get_nil, beq_def]
          by_cases hj : j = 0
          · subst hj; simp [Ne.symm hk]
          · by_cases hmj : (j - 1) % 2 = 0
            · have : j ≠ k := by rintro rfl; exact hm hmj
              simp [hj, hmj, this]
            · simp only [hj, hmj, decide_false, cond_false, key _ hk', Tr.get_nil, Tr.get_nd]
              have : (j - 1) / 2 = (k - 1) / 2 ↔ j = k := by omega
              simp [this]

/-- How many names there may be. -/
noncomputable def FU : Nat := 30
noncomputable def LIM : Nat := 1073741822
theorem LIM_eq : LIM < 2 ^ FU - 1 := by decide

noncomputable def grd {α : Type} (b : Bool) (k : Option α) : Option α := bif b then k else none
theorem grd_some {α : Type} {b : Bool} {k : Option α} {r : α} (h : grd b k = some r) : b = true ∧ k = some r := by
  cases b <;> simp [grd] at h
  exact ⟨rfl, h⟩

/-! Values of a closed run: blocks have names of the run's own. -/
inductive EV where
  | v (x : Value)
  | p (b off : Nat)
  | g (b off : Nat)
  | o (x : Value)
  | s (ex : Bool) (b off n c : Nat)
  | m (b : Nat)
  | a (cs : List EV)
  | x (t : TypeId) (y : EV)
  | f (fn : Fn) (fs cap : List EV)
  | t (xs : List EV)
  deriving Inhabited

/-- Objects: a row of cells (of elements of sz cells; ex: there are just so many), a map. -/
inductive EO where
  | row (ty sz : Nat) (ex : Bool) (cs : List EV)
  | map (es : List (Value × EV))

abbrev EH := Tr EO

/-- Names of blocks: which block, and, of a row that may have more cells than are known, how many elements have room; and which names there are. -/
structure Nm where
  m : Nat → Nat
  k : Nat → Nat
  d : Nat → Prop
  L : List (Nat × Array Value)

mutual
noncomputable def ER (M : Nm) : EV → Value → Prop
  | .v x, y => plain x = true ∧ y = x
  | .p b off, y => M.d b ∧ y = .pointer (some ⟨M.m b, off, none⟩)
  | .g b off, y => True ∧ y = .pointer (some ⟨b, off, none⟩)
  | .o x, y => y = x
  | .s ex b off n c, y => M.d b ∧ n ≤ c ∧ ∃ c', c ≤ c' ∧ (ex = true → c' = c) ∧ (ex = false → off = 0 → c' = M.k b) ∧ y = .slice (some ⟨M.m b, off, none⟩) n c'
  | .m b, y => M.d b ∧ y = .map (some (M.m b))
  | .a cs, y => ∃ ys : List Value, y = .agg ys.toArray ∧ (∀ u ∈ ys, u.oneCell' = true) ∧ ERL M cs ys
  | .x t z, y => ∃ u, y = .iface t u ∧ ER M z u
  | .f fn fs cap, y => ∃ vs us : List Value, y = .func fn vs.toArray us.toArray ∧ ERL M fs vs ∧ ERL M cap us
  | .t xs, y => ∃ us : List Value, y = .tuple us.toArray ∧ ERL M xs us
noncomputable def ERL (M : Nm) : List EV → List Value → Prop
  | [], ys => ys = []
  | x :: xs, ys => ∃ u us, ys = u :: us ∧ ER M x u ∧ ERL M xs us
end

structure Nm.le (M M' : Nm) : Prop where
  nx : ∀ b, M.d b → M'.d b
  m : ∀ b, M.d b → M'.m b = M.m b
  k : ∀ b, M.d b → M'.k b = M.k b
  L : M'.L = M.L
theorem Nm.le.refl (M : Nm) : M.le M := ⟨fun _ h => h, fun _ _ => rfl, fun _ _ => rfl, rfl⟩
theorem Nm.le.trans {a b c : Nm} (h : a.le b) (k : b.le c) : a.le c :=
  ⟨fun i hi => k.nx i (h.nx i hi), fun i hi => (k.m i (h.nx i hi)).trans (h.m i hi), fun i hi => (k.k i (h.nx i hi)).trans (h.k i hi), k.L.trans h.L⟩

mutual
theorem ER.mono {M M' : Nm} (h : M.le M') : ∀ (e : EV) (y : Value), ER M e y → ER M' e y
  | .v x, y, hr => by simpa only [ER] using hr
  | .p b off, y, hr => by
    simp only [ER] at hr ⊢
    exact ⟨h.nx _ hr.1, by rw [h.m b hr.1]; exact hr.2⟩
  | .g b off, y, hr => by simpa only [ER] using hr
  | .o x, y, hr => by simpa only [ER] using hr
  | .s ex b off n c, y, hr => by
    simp only [ER] at hr ⊢
    obtain ⟨h1, h2, c', h3, h4, h5, h6⟩ := hr
    exact ⟨h.nx _ h1, h2, c', h3, h4, by rw [h.k b h1]; exact h5, by rw [h.m b h1]; exact h6⟩
  | .m b, y, hr => by
    simp only [ER] at hr ⊢
    exact ⟨h.nx _ hr.1, by rw [h.m b hr.1]; exact hr.2⟩
  | .a cs, y, hr => by
    simp only [ER] at hr ⊢
    obtain ⟨ys, e, h1, h2⟩ := hr
    exact ⟨ys, e, h1, ERL.mono h cs ys h2⟩
  | .x t z, y, hr => by
    simp only [ER] at hr ⊢
    obtain ⟨u, e, h1⟩ := hr
    exact ⟨u, e, ER.mono h z u h1⟩
  | .f fn fs cap, y, hr => by
    simp only [ER] at hr ⊢
    obtain ⟨vs, us, e, h0, h1⟩ := hr
    exact ⟨vs, us, e, ERL.mono h fs vs h0, ERL.mono h cap us h1⟩
  | .t xs, y, hr => by
    simp only [ER] at hr ⊢
    obtain ⟨us, e, h1⟩ := hr
    exact ⟨us, e, ERL.mono h xs us h1⟩
theorem ERL.mono {M M' : Nm} (h : M.le M') : ∀ (e : List EV) (y : List Value), ERL M e y → ERL M' e y
  | [], y, hr => by simpa only [ERL] using hr
  | x :: xs, y, hr => by
    simp only [ERL] at hr ⊢
    obtain ⟨u, us, e, h1, h2⟩ := hr
    exact ⟨u, us, e, ER.mono h x u h1, ERL.mono h xs us h2⟩
end

/-- What an object says of a block's contents. -/
noncomputable def OR (M : Nm) (b : Nat) : EO → Obj → Prop
  | .row ty sz ex cs, o => ∃ C : Array Value, o = .cells C ty (0, 0) ∧ cs.length ≤ C.size ∧ (ex = true → C.size = cs.length) ∧ (ex = false → C.size = M.k b * sz) ∧ ∀ (i : Nat) (e : EV), cs[i]? = some e → ∃ y, C[i]? = some y ∧ ER M e y ∧ y.oneCell' = true
  | .map es, o => ∃ (E : Array MapEntry) (clock : Nat), o = .map E clock ∧ MapKept.Stamped E clock ∧ E.size = es.length ∧ ∀ (i : Nat) (q : Value × EV), es[i]? = some q → ∃ u, E[i]? = some u ∧ u.key = q.1 ∧ plain q.1 = true ∧ ER M q.2 u.val

theorem OR.mono {M M' : Nm} (h : M.le M') {b : Nat} (hb : M.d b) {e : EO} {o : Obj} (hr : OR M b e o) : OR M' b e o := by
  cases e with
  | row ty sz ex cs =>
    obtain ⟨C, h1, h2, h3, h4, h5⟩ := hr
    exact ⟨C, h1, h2, h3, by rw [h.k b hb]; exact h4, fun i e he => by
      obtain ⟨y, h6, h7, h8⟩ := h5 i e he
      exact ⟨y, h6, h7.mono h _ _, h8⟩⟩
  | map es =>
    obtain ⟨E, cl, h1, h1', h2, h3⟩ := hr
    exact ⟨E, cl, h1, h1', h2, fun i q hq => by
      obtain ⟨u, h4, h5, h6, h7⟩ := h3 i q hq
      exact ⟨u, h4, h5, h6, h7.mono h _ _⟩⟩

/-- The run's heap, and the world's. -/
structure EI (M : Nm) (H : Nat → Option EO) (w : World) : Prop where
  lim : ∀ b, M.d b → b < LIM
  ob : ∀ b o, H b = some o → M.d b ∧ ∃ r, w.heap[M.m b]? = some r ∧ OR M b o r
  inj : ∀ b b', H b ≠ none → H b' ≠ none → M.m b = M.m b' → b = b'
  laid : ∀ p ∈ M.L, (∃ ty fr, w.heap[p.1]? = some (.cells p.2 ty fr)) ∧ ∀ b, H b ≠ none → M.m b ≠ p.1

/-- From one world to the next. -/
structure Stp (M : Nm) (H : Nat → Option EO) (w : World) (M' : Nm) (H' : Nat → Option EO) (w' : World) : Prop where
  le : M.le M'
  os : w'.os = w.os
  tape : w'.tape = w.tape
  output : w'.output = w.output
  size : w.heap.size ≤ w'.heap.size
  old : ∀ b, H' b ≠ none → (M.d b ∧ H b ≠ none) ∨ (¬ M.d b ∧ M'.d b ∧ (w.heap.size ≤ M'.m b ∨ ∃ b0, H b0 ≠ none ∧ M.m b0 = M'.m b))
  fr : ∀ k, k < w.heap.size → (∀ b, H b ≠ none → M.m b ≠ k) → w'.heap[k]? = w.heap[k]?

theorem Stp.refl (M : Nm) (H : Nat → Option EO) (w : World) (h : EI M H w) : Stp M H w M H w :=
  ⟨.refl M, rfl, rfl, rfl, Nat.le_refl _, fun b hb => .inl ⟨by
    cases hx : H b with
    | none => exact absurd hx hb
    | some o => exact (h.ob b o hx).1, hb⟩, fun _ _ _ => rfl⟩
theorem Stp.trans {M M1 M2 : Nm} {H H1 H2 : Nat → Option EO} {w w1 w2 : World} (h : Stp M H w M1 H1 w1) (k : Stp M1 H1 w1 M2 H2 w2) : Stp M H w M2 H2 w2 := by
  refine ⟨h.le.trans k.le, k.os.trans h.os, k.tape.trans h.tape, k.output.trans h.output, Nat.le_trans h.size k.size, fun b hb => ?_, fun i hi hn => ?_⟩
  · have hmap : ∀ b1, H1 b1 ≠ none → M1.m b1 = M2.m b → (w.heap.size ≤ M2.m b ∨ ∃ b0, H b0 ≠ none ∧ M.m b0 = M2.m b) := fun b1 h1 he => by
      rcases h.old b1 h1 with ⟨h2, h3⟩ | ⟨_, _, h3 | ⟨b0, h3, h4⟩⟩
      · exact .inr ⟨b1, h3, by rw [← h.le.m b1 h2, he]⟩
      · exact .inl (by rw [← he]; exact h3)
      · exact .inr ⟨b0, h3, by rw [h4, he]⟩
    rcases k.old b hb with ⟨h1, h2⟩ | ⟨h1, h1', h2 | ⟨b1, h2, h3⟩⟩
    · rcases h.old b h2 with h3 | ⟨h3, h3', h4⟩
      · exact .inl h3
      · refine .inr ⟨h3, k.le.nx b h1, ?_⟩
        rw [k.le.m b h1]; exact h4
    · exact .inr ⟨fun hx => h1 (h.le.nx b hx), h1', .inl (Nat.le_trans h.size h2)⟩
    · exact .inr ⟨fun hx => h1 (h.le.nx b hx), h1', hmap b1 h2 h3⟩
  · rw [k.fr i (Nat.lt_of_lt_of_le hi h.size) (fun b1 h1 he => ?_), h.fr i hi hn]
    rcases h.old b1 h1 with ⟨h2, h3⟩ | ⟨_, _, h3 | ⟨b0, h3, h4⟩⟩
    · exact hn b1 h3 (by rw [← h.le.m b1 h2]; exact he)
    · omega
    · exact hn b0 h3 (by rw [h4]; exact he)
end Go.Proofs.YtaopcacmfhdfkaaGreatDoor.Ev

namespace Go.Proofs.YtaopcacmfhdfkaaGreatDoor.Ev
open Go Go.RowKit Go.Proofs.YtaopcacmfhdfkaaGreatDoor.Vc
set_option linter.unusedSimpArgs false
set_option linter.unusedVariables false

noncomputable def Nm.new (M : Nm) (nx g κ : Nat) : Nm := ⟨upd M.m nx g, upd M.k nx κ, fun b => M.d b ∨ b = nx, M.L⟩
theorem Nm.le_new (M : Nm) {nx : Nat} (hn : ¬ M.d nx) (g κ : Nat) : M.le (M.new nx g κ) :=
  ⟨fun _ h => .inl h, fun b hb => upd_ne _ _ (by rintro rfl; exact hn hb), fun b hb => upd_ne _ _ (by rintro rfl; exact hn hb), rfl⟩
theorem Nm.new_d (M : Nm) (nx g κ : Nat) : (M.new nx g κ).d nx := .inr rfl

theorem lim_fu {k : Nat} (h : k < LIM) : k < 2 ^ FU - 1 := Nat.lt_trans h LIM_eq

section
variable {M : Nm} {H H1 : EH} {w w' : World}

theorem EI.lt {h' : Nat → Option EO} (h : EI M h' w) {b : Nat} (hb : h' b ≠ none) : M.d b ∧ M.m b < w.heap.size := by
  cases hx : h' b with
  | none => exact absurd hx hb
  | some o =>
    obtain ⟨h1, r, h2, _⟩ := h.ob b o hx
    exact ⟨h1, (Array.getElem?_eq_some_iff.1 h2).1⟩

/-- A new name; some names may be given up. -/
theorem EI.fresh (h : EI M H.get w) {nx : Nat} (hn : ¬ M.d nx) (hl : nx < LIM) (hH : ∀ x, H1.get x = H.get x ∨ H1.get x = none) (hos : w'.os = w.os) (htp : w'.tape = w.tape) (hout : w'.output = w.output) (hsz : w.heap.size ≤ w'.heap.size) {g : Nat} (hsame : ∀ k, k < w.heap.size → k ≠ g → w'.heap[k]? = w.heap[k]?)
    (hg : w.heap.size ≤ g ∨ ∃ b, H.get b ≠ none ∧ M.m b = g ∧ H1.get b = none) {o : EO} {c : Obj} {κ : Nat} (hc : w'.heap[g]? = some c) (ho : OR (M.new nx g κ) nx o c) :
    EI (M.new nx g κ) (H1.set FU nx (some o)).get w' ∧ Stp M H.get w (M.new nx g κ) (H1.set FU nx (some o)).get w' := by
  have hget : ∀ j, (H1.set FU nx (some o)).get j = if j = nx then some o else H1.get j := fun j => Tr.get_set _ _ _ _ _ (lim_fu hl)
  have hold : ∀ b, H1.get b ≠ none → H.get b ≠ none ∧ M.d b := fun b hb => by
    rcases hH b with h1 | h1
    · rw [h1] at hb; exact ⟨hb, (h.lt hb).1⟩
    · exact absurd h1 hb
  have hmg : ∀ b, H1.get b ≠ none → M.m b ≠ g := fun b hb he => by
    obtain ⟨h1, h2⟩ := hold b hb
    rcases hg with h3 | ⟨b0, h3, h4, h5⟩
    · have := (h.lt h1).2; omega
    · have := h.inj b b0 h1 h3 (he.trans h4.symm)
      subst this
      exact hb h5
  have hm : ∀ b, M.d b → (M.new nx g κ).m b = M.m b := (M.le_new hn g κ).m
  have hmn : (M.new nx g κ).m nx = g := upd_same _ _ _
  constructor
  · refine ⟨fun b hb => hb.elim (h.lim b) (fun e => by rw [e]; exact hl), fun b o' hb => ?_, fun b b' hb hb' he => ?_, fun p hp => ?_⟩
    · rw [hget] at hb
      split at hb
      · rename_i hbn
        subst hbn
        obtain rfl := Option.some.inj hb
        exact ⟨.inr rfl, c, by rw [hmn]; exact hc, ho⟩
      · have hb1 : H1.get b ≠ none := by rw [hb]; simp
        obtain ⟨h1, h2⟩ := hold b hb1
        have hbH : H.get b = some o' := by
          rcases hH b with h3 | h3
          · rw [← h3]; exact hb
          · rw [h3] at hb; cases hb
        obtain ⟨_, r, h4, h5⟩ := h.ob b o' hbH
        exact ⟨.inl h2, r, by rw [hm b h2, hsame _ (h.lt h1).2 (hmg b hb1)]; exact h4, h5.mono (M.le_new hn g κ) h2⟩
    · rw [hget] at hb hb'
      split at hb <;> split at hb'
      · rename_i e1 e2; rw [e1, e2]
      · rename_i e1 e2
        subst e1
        rw [hmn, hm b' (hold b' hb').2] at he
        exact absurd he.symm (hmg b' hb')
      · rename_i e1 e2
        subst e2
        rw [hmn, hm b (hold b hb).2] at he
        exact absurd he (hmg b hb)
      · rw [hm b (hold b hb).2, hm b' (hold b' hb').2] at he
        exact h.inj b b' (hold b hb).1 (hold b' hb').1 he
    · obtain ⟨⟨ty, fr, h1⟩, h2⟩ := h.laid p hp
      have hlt : p.1 < w.heap.size := (Array.getElem?_eq_some_iff.1 h1).1
      have hgp : g ≠ p.1 := by
        rcases hg with h3 | ⟨b0, h3, h4, _⟩
        · omega
        · rw [← h4]; exact h2 b0 h3
      refine ⟨⟨ty, fr, by rw [hsame _ hlt hgp.symm]; exact h1⟩, fun b hb => ?_⟩
      rw [hget] at hb
      split at hb
      · rename_i e1; rw [e1, hmn]; exact hgp
      · rw [hm b (hold b hb).2]; exact h2 b (hold b hb).1
  · refine ⟨M.le_new hn g κ, hos, htp, hout, hsz, fun b hb => ?_, fun k hk hn => ?_⟩
    · rw [hget] at hb
      split at hb
      · rename_i e1
        subst e1
        refine .inr ⟨hn, .inr rfl, ?_⟩
        rw [hmn]
        rcases hg with h3 | ⟨b0, h3, h4, _⟩
        · exact .inl h3
        · exact .inr ⟨b0, h3, h4⟩
      · exact .inl ⟨(hold b hb).2, (hold b hb).1⟩
    · refine hsame k hk ?_
      rintro rfl
      rcases hg with h3 | ⟨b0, h3, h4, _⟩
      · omega
      · exact hn b0 h3 h4

/-- An object is written. -/
theorem EI.write (h : EI M H.get w) {b : Nat} {o o' : EO} {c' : Obj} (hb : H.get b = some o) (hos : w'.os = w.os) (htp : w'.tape = w.tape) (hout : w'.output = w.output) (hsz : w'.heap.size = w.heap.size) (hsame : ∀ k, k ≠ M.m b → w'.heap[k]? = w.heap[k]?) (hc : w'.heap[M.m b]? = some c') (ho : OR M b o' c') :
    EI M (H.set FU b (some o')).get w' ∧ Stp M H.get w M (H.set FU b (some o')).get w' := by
  have hbn := (h.ob b o hb).1
  have hb0 : H.get b ≠ none := by rw [hb]; simp
  have hget : ∀ j, (H.set FU b (some o')).get j = if j = b then some o' else H.get j := fun j => Tr.get_set _ _ _ _ _ (lim_fu (h.lim b hbn))
  have hlive : ∀ j, (H.set FU b (some o')).get j ≠ none → H.get j ≠ none := fun j hj => by
    rw [hget] at hj
    split at hj
    · rename_i e; rw [e]; exact hb0
    · exact hj
  constructor
  · refine ⟨h.lim, fun j oj hj => ?_, fun j j' hj hj' he => h.inj j j' (hlive j hj) (hlive j' hj') he, fun p hp => ⟨by rw [hsame _ ((h.laid p hp).2 b hb0).symm]; exact (h.laid p hp).1, fun j hj => (h.laid p hp).2 j (hlive j hj)⟩⟩
    rw [hget] at hj
    split at hj
    · rename_i e
      subst e
      obtain rfl := Option.some.inj hj
      exact ⟨hbn, c', hc, ho⟩
    · rename_i e
      obtain ⟨h1, r, h2, h3⟩ := h.ob j oj hj
      exact ⟨h1, r, by rw [hsame _ (fun he => e (h.inj j b (by rw [hj]; simp) hb0 he))]; exact h2, h3⟩
  · exact ⟨.refl M, hos, htp, hout, Nat.le_of_eq hsz.symm, fun j hj => .inl ⟨(h.lt (hlive j hj)).1, hlive j hj⟩, fun k hk hn => hsame k (fun he => hn b hb0 he.symm)⟩

/-- Draws and the like. -/
theorem EI.same {H : Nat → Option EO} (h : EI M H w) (hos : w'.os = w.os) (htp : w'.tape = w.tape) (hout : w'.output = w.output) (hh : w'.heap = w.heap) : EI M H w' ∧ Stp M H w M H w' :=
  ⟨⟨h.lim, fun b o hb => by
    obtain ⟨h1, r, h2, h3⟩ := h.ob b o hb
    exact ⟨h1, r, by rw [hh]; exact h2, h3⟩, h.inj, fun p hp => ⟨by rw [hh]; exact (h.laid p hp).1, (h.laid p hp).2⟩⟩, .refl M, hos, htp, hout, by rw [hh]; exact Nat.le_refl _, fun b hb => .inl ⟨(h.lt hb).1, hb⟩, fun k _ _ => by rw [hh]⟩

theorem ERL.length : ∀ {xs : List EV} {ys : List Value}, ERL M xs ys → ys.length = xs.length
  | [], ys, h => by simp only [ERL] at h; simp [h]
  | x :: xs, ys, h => by
    simp only [ERL] at h
    obtain ⟨u, us, rfl, _, h2⟩ := h
    simp [h2.length]
theorem ERL.get : ∀ {xs : List EV} {ys : List Value}, ERL M xs ys → ∀ (i : Nat) (x : EV), xs[i]? = some x → ∃ y, ys[i]? = some y ∧ ER M x y
  | [], ys, h, i, x, hx => by simp at hx
  | z :: xs, ys, h, i, x, hx => by
    simp only [ERL] at h
    obtain ⟨u, us, rfl, h1, h2⟩ := h
    cases i with
    | zero => simp at hx; subst hx; exact ⟨u, by simp, h1⟩
    | succ i => simpa using h2.get i x (by simpa using hx)
theorem ERL.of_get : ∀ {xs : List EV} {ys : List Value}, ys.length = xs.length → (∀ (i : Nat) (x : EV), xs[i]? = some x → ∃ y, ys[i]? = some y ∧ ER M x y) → ERL M xs ys
  | [], ys, hl, _ => by simp only [ERL]; exact List.length_eq_zero_iff.1 hl
  | z :: xs, [], hl, _ => by simp at hl
  | z :: xs, u :: us, hl, h => by
    simp only [ERL]
    obtain ⟨y, h1, h2⟩ := h 0 z rfl
    simp at h1; subst h1
    exact ⟨_, us, rfl, h2, .of_get (by simpa using hl) fun i x hx => by simpa using h (i + 1) x (by simpa using hx)⟩

/-- Cells that are known. -/
theorem EI.cells (h : EI M H.get w) {b ty sz off : Nat} {ex : Bool} {cs : List EV} (hb : H.get b = some (.row ty sz ex cs)) {m : Nat} (hm : off + m ≤ cs.length) :
    ∃ us : List Value, us.length = m ∧ ERL M ((cs.drop off).take m) us ∧ (∀ u ∈ us, u.oneCell' = true) ∧ ∀ (j : Nat) (u : Value), us[j]? = some u → w.cell? ((⟨M.m b, off, none⟩ : Addr).add j) = some u := by
  obtain ⟨_, r, h1, C, rfl, h2, _, _, h3⟩ := h.ob b _ hb
  have hadd : ∀ j, (⟨M.m b, off, none⟩ : Addr).add j = ⟨M.m b, off + j, none⟩ := fun j => by unfold Addr.add; split <;> simp_all
  have hcell : ∀ j, w.cell? ⟨M.m b, off + j, none⟩ = C[off + j]? := fun j => by simp [World.cell?, h1]
  refine ⟨(C.toList.drop off).take m, by simp; omega, ?_, fun u hu => ?_, fun j u hu => ?_⟩
  · refine .of_get (by simp; omega) fun i x hx => ?_
    have hi : i < m := by
      have := (List.getElem?_eq_some_iff.1 hx).1
      simp at this; omega
    rw [List.getElem?_take_of_lt hi, List.getElem?_drop] at hx ⊢
    obtain ⟨y, h4, h5, _⟩ := h3 _ x hx
    exact ⟨y, by simpa using h4, h5⟩
  · obtain ⟨i, hi⟩ := List.mem_iff_getElem?.1 hu
    have him : i < m := by
      have := (List.getElem?_eq_some_iff.1 hi).1
      simp at this; omega
    rw [List.getElem?_take_of_lt him, List.getElem?_drop] at hi
    obtain ⟨y, h4, _, h5⟩ := h3 (off + i) _ (List.getElem?_eq_getElem (by omega))
    rw [Array.getElem?_toList, h4] at hi
    obtain rfl := Option.some.inj hi
    exact h5
  · have him : j < m := by
      have := (List.getElem?_eq_some_iff.1 hu).1
      simp at this; omega
    rw [List.getElem?_take_of_lt him, List.getElem?_drop, Array.getElem?_toList] at hu
    rw [hadd, hcell]; exact hu
end
end Go.Proofs.YtaopcacmfhdfkaaGreatDoor.Ev

namespace Go.Proofs.YtaopcacmfhdfkaaGreatDoor.Ev
open Go Go.RowKit Go.Proofs.YtaopcacmfhdfkaaGreatDoor.Vc
set_option linter.unusedSimpArgs false
set_option linter.unusedVariables false

/-- A value's cells. -/
noncomputable def cellsE : EV → Option (List EV)
  | .a cs => some cs
  | .t _ => none
  | .o _ => none
  | x => some [x]
/-- A value that holds no address. -/
noncomputable def evOf : Value → EV
  | .agg cs => .a (cs.toList.map .v)
  | v => .v v

section
variable {nx : Nat} {M : Nm} {H : EH} {w : World} {P : Program}

theorem er_v {x : Value} (h : plain x = true) : ER M (.v x) x := by simp [ER, h]
theorem of_v {x y : Value} (h : ER M (.v x) y) : y = x := by simp only [ER] at h; exact h.2
theorem ERL.one {x : EV} {y : Value} (h : ER M x y) : ERL M [x] [y] := by simp only [ERL]; exact ⟨y, [], rfl, h, rfl⟩

theorem cellsE_ok {x : EV} {y : Value} {cs : List EV} (h : ER M x y) (hc : cellsE x = some cs) : ERL M cs y.cells.toList ∧ ∀ u ∈ y.cells.toList, u.oneCell' = true := by
  cases x <;> simp only [cellsE, Option.some.injEq] at hc
  case a l => subst hc; simp only [ER] at h; obtain ⟨ys, rfl, h1, h⟩ := h; exact ⟨by simpa [Value.cells] using h, by simpa [Value.cells] using h1⟩
  case t => cases hc
  case o => cases hc
  all_goals
    subst hc
    have hy : y.cells = #[y] ∧ y.oneCell' = true := by
      have h' := h
      simp only [ER] at h'
      first
        | (obtain ⟨hp, rfl⟩ := h'; unfold plain at hp; split at hp <;> first | exact ⟨rfl, rfl⟩ | cases hp)
        | (obtain ⟨_, rfl⟩ := h'; exact ⟨rfl, rfl⟩)
        | (obtain ⟨_, _, _, _, _, _, rfl⟩ := h'; exact ⟨rfl, rfl⟩)
        | (obtain ⟨_, rfl, _⟩ := h'; exact ⟨rfl, rfl⟩)
        | (obtain ⟨_, _, rfl, _⟩ := h'; exact ⟨rfl, rfl⟩)
    rw [hy.1]
    exact ⟨ERL.one h, by simpa using hy.2⟩

theorem erl_plain : ∀ {l : List Value}, (l.all fun v => plain v && v.oneCell') = true → ERL M (l.map .v) l
  | [], _ => by simp [ERL]
  | x :: xs, h => by
    simp only [List.all_cons, Bool.and_eq_true] at h
    simp only [List.map_cons, ERL]
    exact ⟨x, xs, rfl, er_v h.1.1, erl_plain (by simpa using h.2)⟩
theorem er_evOf {z : Value} (h : plainAgg z = true) : ER M (evOf z) z ∧ ∃ cs, cellsE (evOf z) = some cs := by
  cases z with
  | agg cs =>
    simp only [plainAgg] at h
    refine ⟨?_, by simp [evOf, cellsE]⟩
    simp only [evOf, ER]
    have h' := h
    simp only [List.all_eq_true, Bool.and_eq_true] at h'
    exact ⟨cs.toList, by simp, fun u hu => (h' u hu).2, erl_plain h⟩
  | _ =>
    simp only [plainAgg] at h
    exact ⟨er_v h, by simp [evOf, cellsE]⟩

/-- Done: the value, and the heap behind it. -/
noncomputable def Ok (P : Program) (a : Act) (M : Nm) (H : EH) (w : World) (nx : Nat) (op : Op) (v : EV) (H' : EH) (nx' : Nat) : Prop :=
  nx ≤ nx' ∧ ((∀ b, nx ≤ b → b < nx' → ¬ M.d b) → ∀ o : Oper, o.op = op → ∃ y w' M', (execOp a.eval o).run P w = .ok (.value y) w' ∧ EI M' H'.get w' ∧ Stp M H.get w M' H'.get w' ∧ (∀ b, M'.d b → M.d b ∨ nx ≤ b ∧ b < nx') ∧ ER M' v y)

variable {a : Act} {ρ : Operand → Option EV}

theorem Ok.pure (h : EI M H.get w) {op : Op} {v : EV} {y : Value} (hr : ∀ o : Oper, o.op = op → (execOp a.eval o).run P w = .ok (.value y) w) (hv : ER M v y) : Ok P a M H w nx op v H nx :=
  ⟨Nat.le_refl _, fun _ o ho => ⟨y, w, M, hr o ho, h, .refl M H.get w h, fun _ hb => .inl hb, hv⟩⟩
theorem Ok.one {op : Op} {v : EV} {H' : EH} (h : ¬ M.d nx → ∀ o : Oper, o.op = op → ∃ y w' M', (execOp a.eval o).run P w = .ok (.value y) w' ∧ EI M' H'.get w' ∧ Stp M H.get w M' H'.get w' ∧ (∀ b, M'.d b → M.d b ∨ b = nx) ∧ ER M' v y) : Ok P a M H w nx op v H' (nx + 1) :=
  ⟨Nat.le_succ _, fun hn o ho => by
    obtain ⟨y, w', M', h1, h2, h3, h4, h5⟩ := h (hn nx (Nat.le_refl _) (Nat.lt_succ_self _)) o ho
    exact ⟨y, w', M', h1, h2, h3, fun b hb => (h4 b hb).imp id fun e => by omega, h5⟩⟩

/-- A new object. -/
theorem EI.alloc (h : EI M H.get w) (hn : ¬ M.d nx) (hl : nx < LIM) {o : EO} {c : Obj} {κ : Nat} (ho : OR (M.new nx w.heap.size κ) nx o c) :
    EI (M.new nx w.heap.size κ) (H.set FU nx (some o)).get (w.alloc c) ∧ Stp M H.get w (M.new nx w.heap.size κ) (H.set FU nx (some o)).get (w.alloc c) :=
  h.fresh (w' := w.alloc c) (H1 := H) hn hl (fun _ => .inl rfl) rfl rfl rfl (by simp) (fun k hk _ => Below.heap_alloc w c k hk) (.inl (Nat.le_refl _)) (heap_alloc_new w c) ho

/-- A new variable. -/
theorem EI.var (h : EI M H.get w) (hn : ¬ M.d nx) (hl : nx < LIM) {x : EV} {y : Value} {cs : List EV} {ty : Nat} (hx : ER M x y) (hc : cellsE x = some cs) :
    ∃ M', EI M' (H.set FU nx (some (.row ty cs.length true cs))).get (w.alloc (.cells y.cells ty)) ∧ Stp M H.get w M' (H.set FU nx (some (.row ty cs.length true cs))).get (w.alloc (.cells y.cells ty)) ∧ (∀ b, M'.d b → M.d b ∨ b = nx) ∧
      ER M' (.p nx 0) (.pointer (some ⟨w.heap.size, 0, none⟩)) := by
  obtain ⟨h1, h2⟩ := cellsE_ok hx hc
  have hle := M.le_new hn w.heap.size 0
  obtain ⟨h3, h4⟩ := h.alloc (o := .row ty cs.length true cs) (c := .cells y.cells ty) (κ := 0) hn hl ⟨y.cells, rfl, by rw [← Array.length_toList, h1.length]; exact Nat.le_refl _, fun _ => by rw [← Array.length_toList, h1.length], (by intro h; cases h), fun i e he => by
    obtain ⟨u, h5, h6⟩ := h1.get i e he
    exact ⟨u, by simpa using h5, h6.mono hle _ _, h2 u (List.mem_of_getElem? h5)⟩⟩
  refine ⟨_, h3, h4, fun _ hb => hb, ?_⟩
  simp only [ER]
  exact ⟨.inr rfl, by rw [show (M.new nx w.heap.size 0).m nx = w.heap.size from upd_same _ _ _]⟩

/-- What lies at an address: so many cells. (L: the laid variables.) -/
noncomputable def laidE : List (Nat × Array Value) → Nat → Option (List Value)
  | [], _ => none
  | p :: ps, b => bif Nat.beq p.1 b then some p.2.toList else laidE ps b
noncomputable def memE (L : List (Nat × Array Value)) (H : EH) (m : Nat) : EV → Option (List EV)
  | .p b off => match H.get b with
    | some (.row _ _ _ cs) => bif Nat.ble (off + m) cs.length then some ((cs.drop off).take m) else none
    | _ => none
  | .g b off => match laidE L b with
    | some cs => grd (Nat.ble (off + m) cs.length && ((cs.drop off).take m).all fun v => plain v && v.oneCell') (some (((cs.drop off).take m).map .v))
    | none => none
  | _ => none
theorem laidE_mem : ∀ {L : List (Nat × Array Value)} {b : Nat} {cs : List Value}, laidE L b = some cs → ∃ p ∈ L, p.1 = b ∧ p.2.toList = cs
  | [], _, _, h => by simp [laidE] at h
  | p :: ps, b, cs, h => by
    simp only [laidE] at h
    cases hb : Nat.beq p.1 b with
    | true =>
      rw [hb] at h
      exact ⟨p, by simp, Nat.eq_of_beq_eq_true hb, Option.some.inj h⟩
    | false =>
      rw [hb] at h
      obtain ⟨q, h1, h2⟩ := laidE_mem (by simpa using h)
      exact ⟨q, by simp [h1], h2⟩
theorem memE_ok (h : EI M H.get w) {m : Nat} {x : EV} {y : Value} {cs : List EV} (hx : ER M x y) (hm : memE M.L H m x = some cs) :
    ∃ ad us, y = .pointer (some ad) ∧ us.length = m ∧ cs.length = m ∧ ERL M cs us ∧ (∀ u ∈ us, u.oneCell' = true) ∧ ∀ (j : Nat) (u : Value), us[j]? = some u → w.cell? (ad.add j) = some u := by
  unfold memE at hm
  split at hm
  · rename_i b off
    split at hm
    · rename_i ty sz ex cs' hb
      cases hble : Nat.ble (off + m) cs'.length with
      | false => rw [hble] at hm; cases hm
      | true =>
        rw [hble] at hm
        obtain rfl := Option.some.inj hm
        simp only [ER] at hx
        obtain ⟨us, h1, h2, h3, h4⟩ := h.cells hb (Nat.le_of_ble_eq_true hble)
        exact ⟨_, us, hx.2, h1, by rw [← h2.length]; exact h1, h2, h3, h4⟩
    · cases hm
  · rename_i b off
    split at hm
    · rename_i cs' hl
      obtain ⟨hg, hm⟩ := grd_some hm
      obtain rfl := Option.some.inj hm
      rw [Bool.and_eq_true] at hg
      obtain ⟨p, hp, rfl, rfl⟩ := laidE_mem hl
      obtain ⟨⟨ty, fr, h1⟩, _⟩ := h.laid p hp
      simp only [ER] at hx
      have hle := Nat.le_of_ble_eq_true hg.1
      have hall := hg.2
      have hlen : ((p.2.toList.drop off).take m).length = m := by rw [List.length_take, List.length_drop]; omega
      refine ⟨_, (p.2.toList.drop off).take m, hx.2, hlen, by simpa using hlen, erl_plain hall, ?_, fun j u hj => ?_⟩
      · simp only [List.all_eq_true, Bool.and_eq_true] at hall
        exact fun u hu => (hall u hu).2
      · rw [add_lit]
        have hjm : j < m := by have := (List.getElem?_eq_some_iff.1 hj).1; omega
        rw [List.getElem?_take_of_lt hjm, List.getElem?_drop, Array.getElem?_toList] at hj
        simp [World.cell?, h1, hj]
    · cases hm
  · cases hm

theorem ok_mov (h : EI M H.get w) (hρ : ∀ x e, ρ x = some e → ER M e (a.eval x)) {op : Op} {x : Operand} {e : EV} (ho : op = .move x ∨ op = .assign x) (hx : ρ x = some e) : Ok P a M H w nx op e H nx :=
  .pure h (y := a.eval x) (fun o h1 => by rcases ho with ho | ho <;> simp [execOp, h1, ho]) (hρ x e hx)

theorem ok_pick (h : EI M H.get w) (hρ : ∀ x e, ρ x = some e → ER M e (a.eval x)) {c x y : Operand} {b : Bool} {e : EV} (hc : ρ c = some (.v (.bool b))) (hx : (bif b then ρ x else ρ y) = some e) : Ok P a M H w nx (.pick c x y) e H nx := by
  have h1 := of_v (hρ _ _ hc)
  cases b
  · exact .pure h (y := a.eval y) (fun o ho => by simp [execOp, ho, h1, asBool]) (hρ _ _ hx)
  · exact .pure h (y := a.eval x) (fun o ho => by simp [execOp, ho, h1, asBool]) (hρ _ _ hx)

theorem ok_bin (h : EI M H.get w) (hρ : ∀ x e, ρ x = some e → ER M e (a.eval x)) {op : BinOp} {t ty : TypeId} {x y : Operand} {u v r : Value} (hx : ρ x = some (.v u)) (hy : ρ y = some (.v v)) (hr : vbin op u v = some r) : Ok P a M H w nx (.binOp op t x y ty) (.v r) H nx := by
  have h1 := of_v (hρ _ _ hx)
  have h2 := of_v (hρ _ _ hy)
  obtain ⟨h3, h4⟩ := vbin_ok (P := P) (w := w) (t := t) (x := x) (y := y) hr
  refine .pure h (y := r) (fun o ho => ?_) (er_v h4)
  simp only [execOp, ho, h1, h2]
  rw [Sem.run_bind, h3]; rfl

theorem ok_un (h : EI M H.get w) (hρ : ∀ x e, ρ x = some e → ER M e (a.eval x)) {op : UnOp} {t : TypeId} {x : Operand} {u r : Value} (hx : ρ x = some (.v u)) (hr : vun op u = some r) : Ok P a M H w nx (.unOp op t x) (.v r) H nx := by
  have h1 := of_v (hρ _ _ hx)
  obtain ⟨h3, h4⟩ := vun_ok (P := P) (w := w) hr
  refine .pure h (y := r) (fun o ho => ?_) (er_v h4)
  simp only [execOp, ho, h1]
  rw [Sem.run_bind, h3]; rfl

theorem ok_beq (h : EI M H.get w) (hρ : ∀ x e, ρ x = some e → ER M e (a.eval x)) {ne : Bool} {t ty : TypeId} {x y : Operand} {u v : Bool} (ht : P.underlying t = some .bool) (hx : ρ x = some (.v (.bool u))) (hy : ρ y = some (.v (.bool v))) :
    Ok P a M H w nx (.binOp (bif ne then .neq else .eql) t x y ty) (.v (.bool (bif ne then u != v else u == v))) H nx := by
  have h1 := of_v (hρ _ _ hx)
  have h2 := of_v (hρ _ _ hy)
  refine .pure h (y := .bool (bif ne then u != v else u == v)) (fun o ho => ?_) (er_v rfl)
  cases ne <;> simp [execOp, ho, h1, h2, eqGuard, binOp, Go.Proofs.YtaopcacmfhdfkaaGreatDoor.Vc.run_equal_bool ht]
  cases u <;> cases v <;> rfl

theorem ok_conv (h : EI M H.get w) (hρ : ∀ x e, ρ x = some e → ER M e (a.eval x)) {k k' : IntKind} {t t' : TypeId} {x : Operand} {m : Int} {d : TypeDesc} (hd : P.underlying t = some d) (ht : P.underlying t' = some (.int k)) (hx : ρ x = some (.v (.int k' m))) :
    Ok P a M H w nx (.convert t t' x) (.v (.int k (k.wrap m))) H nx := by
  have h1 := of_v (hρ _ _ hx)
  exact .pure h (y := .int k (k.wrap m)) (fun o ho => by simp [execOp, ho, h1, convert, run_underlying ht, run_underlying hd, Conv.intToInt]) (er_v rfl)

theorem ok_ext (h : EI M H.get w) (hρ : ∀ x e, ρ x = some e → ER M e (a.eval x)) {x : Operand} {k : Nat} {xs : List EV} {v : EV} (hx : ρ x = some (.t xs)) (hk : xs[k]? = some v) : Ok P a M H w nx (.extract x k) v H nx := by
  have h1 := hρ _ _ hx
  simp only [ER] at h1
  obtain ⟨us, he, h1⟩ := h1
  obtain ⟨y, hy, hr⟩ := h1.get k v hk
  exact .pure h (y := y) (fun o ho => by simp [execOp, ho, he, Instr.extract, hy]) hr

theorem ok_load (h : EI M H.get w) (hρ : ∀ x e, ρ x = some e → ER M e (a.eval x)) {t : TypeId} {x : Operand} {e : EV} {m : Nat} {cs : List EV} (ht : aggSize P t = some (some m)) (hx : ρ x = some e) (hm : memE M.L H m e = some cs) :
    Ok P a M H w nx (.load t x) (.a cs) H nx := by
  obtain ⟨ad, us, he, h0, _, h1, h2, h3⟩ := memE_ok h (hρ _ _ hx) hm
  obtain ⟨hu, i, hi, hs⟩ := aggSize_some ht
  refine .pure h (y := .agg us.toArray) (fun o ho => ?_) ?_
  · have := run_loadAgg (P := P) (w := w) hu hi (ad := ad) (us := us) (by rw [hs]; exact h0) h3
    simp [execOp, ho, he, this]
  · simp only [ER]; exact ⟨us, rfl, h2, h1⟩
theorem ok_load1 (h : EI M H.get w) (hρ : ∀ x e, ρ x = some e → ER M e (a.eval x)) {t : TypeId} {x : Operand} {e v : EV} (ht : aggSize P t = some none) (hx : ρ x = some e) (hm : memE M.L H 1 e = some [v]) :
    Ok P a M H w nx (.load t x) v H nx := by
  obtain ⟨ad, us, he, h0, _, h1, h2, h3⟩ := memE_ok h (hρ _ _ hx) hm
  obtain ⟨d, hu, hd⟩ := aggSize_none ht
  obtain ⟨y, hy, hr⟩ := h1.get 0 v rfl
  have := run_loadOne (P := P) (w := w) hu hd (ad := ad) (u := y) (by simpa [Addr.add] using h3 0 y hy)
  exact .pure h (y := y) (fun o ho => by simp [execOp, ho, he, this]) hr

theorem ok_fad (h : EI M H.get w) (hρ : ∀ x e, ρ x = some e → ER M e (a.eval x)) {t k b off : Nat} {x : Operand} {fs : Array Field} {f : Field} {i : TypeInfo} (ht : P.underlying t = some (.struct fs)) (hf : fs[k]? = some f) (hi : P.info? f.type = some i) (hs : i.size ≠ 0) (hx : ρ x = some (.p b off)) :
    Ok P a M H w nx (.fieldAddr t x k) (.p b (off + f.offset)) H nx := by
  have h1 := hρ _ _ hx
  simp only [ER] at h1
  refine .pure h (y := .pointer (some ((⟨M.m b, off, none⟩ : Addr).add f.offset))) (fun o ho => ?_) ?_
  · simp [execOp, ho, h1.2, Instr.fieldAt, run_underlying ht, hf, Instr.sureAddr, fieldPlace, sizeOf, typeInfo, hi, hs]
  · simp only [ER]; exact ⟨h1.1, by rw [add_lit]⟩

theorem ok_iad (h : EI M H.get w) (hρ : ∀ x e, ρ x = some e → ER M e (a.eval x)) {t e b off n c : Nat} {ex : Bool} {x i : Operand} {ti : TypeInfo} {k : IntKind} {m : Int} (ht : P.underlying t = some (.slice e)) (hi : P.info? e = some ti) (hm : ρ i = some (.v (.int k m))) (h0 : 0 ≤ m) (hl : m.toNat < n) (hx : ρ x = some (.s ex b off n c)) :
    Ok P a M H w nx (.indexAddr t x i) (.p b (off + m.toNat * ti.size)) H nx := by
  have h1 := of_v (hρ _ _ hm)
  have h2 := hρ _ _ hx
  simp only [ER] at h2
  obtain ⟨hb, _, c', _, _, _, he⟩ := h2
  refine .pure h (y := .pointer (some ((⟨M.m b, off, none⟩ : Addr).add (m.toNat * ti.size)))) (fun o ho => ?_) ?_
  · have : 0 ≤ m ∧ m < (n : Int) := ⟨h0, by omega⟩
    simp [execOp, ho, he, h1, Instr.indexAt, asIntOf, run_underlying ht, sizeOf, typeInfo, hi, this]
  · simp only [ER]; exact ⟨hb, by rw [add_lit]⟩

theorem ok_aad (h : EI M H.get w) (hρ : ∀ x e, ρ x = some e → ER M e (a.eval x)) {t e ln b off : Nat} {x i : Operand} {ti : TypeInfo} {k : IntKind} {m : Int} (ht : P.underlying t = some (.array ln e)) (hi : P.info? e = some ti) (hm : ρ i = some (.v (.int k m))) (h0 : 0 ≤ m) (hl : m < (ln : Int)) (hx : ρ x = some (.p b off)) :
    Ok P a M H w nx (.indexAddr t x i) (.p b (off + m.toNat * ti.size)) H nx := by
  have h1 := of_v (hρ _ _ hm)
  have h2 := hρ _ _ hx
  simp only [ER] at h2
  refine .pure h (y := .pointer (some ((⟨M.m b, off, none⟩ : Addr).add (m.toNat * ti.size)))) (fun o ho => ?_) ?_
  · simp [execOp, ho, h2.2, h1, Instr.indexAt, asIntOf, run_underlying ht, sizeOf, typeInfo, hi, h0, hl, Instr.sureAddr]
  · simp only [ER]; exact ⟨h2.1, by rw [add_lit]⟩

theorem ok_fadG (h : EI M H.get w) (hρ : ∀ x e, ρ x = some e → ER M e (a.eval x)) {t k b off : Nat} {x : Operand} {fs : Array Field} {f : Field} {i : TypeInfo} (ht : P.underlying t = some (.struct fs)) (hf : fs[k]? = some f) (hi : P.info? f.type = some i) (hs : i.size ≠ 0) (hx : ρ x = some (.g b off)) :
    Ok P a M H w nx (.fieldAddr t x k) (.g b (off + f.offset)) H nx := by
  have h1 := hρ _ _ hx
  simp only [ER] at h1
  refine .pure h (y := .pointer (some ((⟨b, off, none⟩ : Addr).add f.offset))) (fun o ho => ?_) ?_
  · simp [execOp, ho, h1.2, Instr.fieldAt, run_underlying ht, hf, Instr.sureAddr, fieldPlace, sizeOf, typeInfo, hi, hs]
  · simp only [ER]; exact ⟨trivial, by rw [add_lit]⟩
theorem ok_aadG (h : EI M H.get w) (hρ : ∀ x e, ρ x = some e → ER M e (a.eval x)) {t e ln b off : Nat} {x i : Operand} {ti : TypeInfo} {k : IntKind} {m : Int} (ht : P.underlying t = some (.array ln e)) (hi : P.info? e = some ti) (hm : ρ i = some (.v (.int k m))) (h0 : 0 ≤ m) (hl : m < (ln : Int)) (hx : ρ x = some (.g b off)) :
    Ok P a M H w nx (.indexAddr t x i) (.g b (off + m.toNat * ti.size)) H nx := by
  have h1 := of_v (hρ _ _ hm)
  have h2 := hρ _ _ hx
  simp only [ER] at h2
  refine .pure h (y := .pointer (some ((⟨b, off, none⟩ : Addr).add (m.toNat * ti.size)))) (fun o ho => ?_) ?_
  · simp [execOp, ho, h2.2, h1, Instr.indexAt, asIntOf, run_underlying ht, sizeOf, typeInfo, hi, h0, hl, Instr.sureAddr]
  · simp only [ER]; exact ⟨trivial, by rw [add_lit]⟩

theorem ok_box (h : EI M H.get w) (hρ : ∀ x e, ρ x = some e → ER M e (a.eval x)) (hl : nx < LIM) {ty : Nat} {x : Operand} {e : EV} {cs : List EV} (hx : ρ x = some e) (hc : cellsE e = some cs) :
    Ok P a M H w nx (.box ty x) (.p nx 0) (H.set FU nx (some (.row ty cs.length true cs))) (nx + 1) := by
  refine .one fun hn o ho => ?_
  obtain ⟨M', h1, h2, h3, h4⟩ := h.var (ty := ty) hn hl (hρ _ _ hx) hc
  exact ⟨_, _, M', by simp [execOp, ho, Instr.box, run_newVar], h1, h2, h3, h4⟩

theorem ok_new (h : EI M H.get w) (hl : nx < LIM) {ty : Nat} {z : Value} {i : TypeInfo} {cs : List EV} (hi : P.info? ty = some i) (hz : i.zero = some z) (hp : plainAgg z = true) (hc : cellsE (evOf z) = some cs) :
    Ok P a M H w nx (.alloc ty) (.p nx 0) (H.set FU nx (some (.row ty cs.length true cs))) (nx + 1) := by
  refine .one fun hn o ho => ?_
  obtain ⟨M', h1, h2, h3, h4⟩ := h.var (ty := ty) hn hl (er_evOf hp).1 hc
  exact ⟨_, _, M', by simp [execOp, ho, Instr.alloc, zeroValue, typeInfo, hi, hz, run_newVar], h1, h2, h3, h4⟩
end
end Go.Proofs.YtaopcacmfhdfkaaGreatDoor.Ev

namespace Go.Proofs.YtaopcacmfhdfkaaGreatDoor.Ev
open Go Go.RowKit Go.Proofs.YtaopcacmfhdfkaaGreatDoor.Vc
set_option linter.unusedSimpArgs false
set_option linter.unusedVariables false

section
variable {nx : Nat} {M : Nm} {H : EH} {w : World} {P : Program} {a : Act} {ρ : Operand → Option EV}

theorem ERL.drop : ∀ {n : Nat} {xs : List EV} {ys : List Value}, ERL M xs ys → ERL M (xs.drop n) (ys.drop n)
  | 0, _, _, h => by simpa using h
  | n + 1, [], ys, h => by simp only [ERL] at h; subst h; simp [ERL]
  | n + 1, x :: xs, ys, h => by
    simp only [ERL] at h
    obtain ⟨u, us, rfl, _, h⟩ := h
    simpa using h.drop (n := n)
theorem ERL.take : ∀ {n : Nat} {xs : List EV} {ys : List Value}, ERL M xs ys → ERL M (xs.take n) (ys.take n)
  | 0, _, _, h => by simp [ERL]
  | n + 1, [], ys, h => by simp only [ERL] at h; subst h; simp [ERL]
  | n + 1, x :: xs, ys, h => by
    simp only [ERL] at h
    obtain ⟨u, us, rfl, h1, h⟩ := h
    simp only [List.take_succ_cons, ERL]
    exact ⟨u, _, rfl, h1, h.take⟩
theorem ERL.append : ∀ {xs xs' : List EV} {ys ys' : List Value}, ERL M xs ys → ERL M xs' ys' → ERL M (xs ++ xs') (ys ++ ys')
  | [], _, ys, _, h, h' => by simp only [ERL] at h; subst h; simpa using h'
  | x :: xs, _, ys, _, h, h' => by
    simp only [ERL] at h
    obtain ⟨u, us, rfl, h1, h⟩ := h
    simp only [List.cons_append, ERL]
    exact ⟨u, _, rfl, h1, h.append h'⟩
theorem ERL.setL {xs c : List EV} {ys d : List Value} {off : Nat} (h : ERL M xs ys) (h' : ERL M c d) : ERL M (Vc.setL xs off c) (Vc.setL ys off d) := by
  unfold Vc.setL
  rw [h'.length]
  exact (h.take.append h').append h.drop

theorem ok_lens (h : EI M H.get w) (hρ : ∀ x e, ρ x = some e → ER M e (a.eval x)) {t e b off n c : Nat} {ex : Bool} {x : Operand} (ht : P.underlying t = some (.slice e)) (hx : ρ x = some (.s ex b off n c)) :
    Ok P a M H w nx (.call { callee := .builtin .len, args := #[x], argTypes := #[t] }) (.v (.int .i64 (n : Nat))) H nx := by
  have h1 := hρ _ _ hx
  simp only [ER] at h1
  obtain ⟨_, _, c', _, _, _, he⟩ := h1
  exact .pure h (y := .int .i64 (n : Nat)) (fun o ho => by simp [execOp, ho, resolve, invoke, builtin, Builtin.len_, run_underlying ht, he, goInt]) (er_v rfl)
theorem ok_lenn (h : EI M H.get w) (hρ : ∀ x e, ρ x = some e → ER M e (a.eval x)) {t e : Nat} {x : Operand} (ht : P.underlying t = some (.slice e)) (hx : ρ x = some (.v (.slice none 0 0))) :
    Ok P a M H w nx (.call { callee := .builtin .len, args := #[x], argTypes := #[t] }) (.v (.int .i64 0)) H nx := by
  have he := of_v (hρ _ _ hx)
  exact .pure h (y := .int .i64 0) (fun o ho => by simp [execOp, ho, resolve, invoke, builtin, Builtin.len_, run_underlying ht, he, goInt]) (er_v rfl)
theorem ok_lenb (h : EI M H.get w) (hρ : ∀ x e, ρ x = some e → ER M e (a.eval x)) {t : Nat} {x : Operand} {s : ByteArray} (ht : P.underlying t = some .string) (hx : ρ x = some (.v (.string s))) :
    Ok P a M H w nx (.call { callee := .builtin .len, args := #[x], argTypes := #[t] }) (.v (.int .i64 (s.size : Nat))) H nx := by
  have he := of_v (hρ _ _ hx)
  exact .pure h (y := .int .i64 (s.size : Nat)) (fun o ho => by simp [execOp, ho, resolve, invoke, builtin, Builtin.len_, run_underlying ht, he, goInt]) (er_v rfl)

/-- A bound of a cut. -/
noncomputable def bndE (ρ : Operand → Option EV) (x : Option Operand) (dflt : Nat) : Option Nat :=
  match x with
  | none => some dflt
  | some x => match ρ x with | some (.v (.int _ (.ofNat m))) => some m | _ => none
theorem bndE_ok (hρ : ∀ x e, ρ x = some e → ER M e (a.eval x)) {x : Option Operand} {dflt m : Nat} (hb : bndE ρ x dflt = some m) : (x = none ∧ m = dflt) ∨ ∃ z k, x = some z ∧ a.eval z = .int k (m : Nat) := by
  unfold bndE at hb
  split at hb
  · exact .inl ⟨rfl, (Option.some.inj hb).symm⟩
  · rename_i z
    split at hb
    · rename_i k i he
      obtain rfl := Option.some.inj hb
      exact .inr ⟨z, k, rfl, of_v (hρ _ _ he)⟩
    · cases hb
theorem run_boundsE (hρ : ∀ x e, ρ x = some e → ER M e (a.eval x)) {lo hi : Option Operand} {len cap l m : Nat} {b : Bool} (hl : bndE ρ lo 0 = some l) (hh : bndE ρ hi len = some m) (h1 : l ≤ m) (h2 : m ≤ cap) :
    (Instr.sliceBounds b len cap (lo.map a.eval) (hi.map a.eval) none).run P w = .ok (l, m, cap) w := by
  have e1 : (m : Int) ≤ (cap : Int) := by omega
  have e2 : (l : Int) ≤ (m : Int) := by omega
  rcases bndE_ok hρ hl with ⟨rfl, rfl⟩ | ⟨z, k, rfl, he⟩ <;> rcases bndE_ok hρ hh with ⟨rfl, rfl⟩ | ⟨z', k', rfl, he'⟩
  · simp [Instr.sliceBounds]
  · simp [Instr.sliceBounds, he', run_sliceBound _ _ _ _ _ (Int.natCast_nonneg m) e1]
  · simp [Instr.sliceBounds, he, run_sliceBound _ _ _ _ _ (Int.natCast_nonneg l) e2]
  · simp [Instr.sliceBounds, he, he', run_sliceBound _ _ _ _ _ (Int.natCast_nonneg m) e1, run_sliceBound _ _ _ _ _ (Int.natCast_nonneg l) e2]

theorem ok_scut (h : EI M H.get w) (hρ : ∀ x e, ρ x = some e → ER M e (a.eval x)) {t : Nat} {x : Operand} {lo hi : Option Operand} {b : ByteArray} {l m : Nat} (ht : P.underlying t = some .string)
    (hx : ρ x = some (.v (.string b))) (hl : bndE ρ lo 0 = some l) (hh : bndE ρ hi b.size = some m) (h1 : l ≤ m) (h2 : m ≤ b.size) : Ok P a M H w nx (.slice t x lo hi none) (.v (.string (b.extract l m))) H nx := by
  have hb := run_boundsE (P := P) (w := w) (b := false) hρ (cap := b.size) hl hh h1 h2
  have he := of_v (hρ _ _ hx)
  exact .pure h (y := .string (b.extract l m)) (fun o ho => by simp [execOp, ho, Instr.sliceAt, Instr.slice, run_underlying ht, he, hb]) (er_v rfl)

/-- A cut of a slice: cut at its end, it keeps its room. -/
theorem ok_slc (h : EI M H.get w) (hρ : ∀ x e, ρ x = some e → ER M e (a.eval x)) {t e b off n c l m : Nat} {ex : Bool} {x : Operand} {lo hi : Option Operand} {ti : TypeInfo} (ht : P.underlying t = some (.slice e)) (hi' : P.info? e = some ti)
    (hx : ρ x = some (.s ex b off n c)) (hl : bndE ρ lo 0 = some l) (hh : bndE ρ hi n = some m) (h1 : l ≤ m) (h2 : m ≤ c) (h3 : l < c) (hz : 0 < ti.size) : Ok P a M H w nx (.slice t x lo hi none) (.s ex b (off + l * ti.size) (m - l) (c - l)) H nx := by
  have h4 := hρ _ _ hx
  simp only [ER] at h4
  obtain ⟨hb, hnc, c', hc', hex, hin, he⟩ := h4
  have hbd := run_boundsE (P := P) (w := w) (b := true) hρ (cap := c') hl hh h1 (by omega)
  refine .pure h (y := .slice (some ((⟨M.m b, off, none⟩ : Addr).add (l * ti.size))) (m - l) (c' - l)) (fun o ho => ?_) ?_
  · have hne : c' ≠ l := by omega
    simp [execOp, ho, Instr.sliceAt, Instr.slice, run_underlying ht, he, hbd, sizeOf, typeInfo, hi', hne]
  · simp only [ER]
    refine ⟨hb, by omega, c' - l, by omega, fun hx => by rw [hex hx], fun hx h0 => ?_, by rw [add_lit]⟩
    have : l = 0 := by
      rcases Nat.eq_zero_or_pos l with h5 | h5
      · exact h5
      · have := Nat.mul_pos h5 hz; omega
    subst this
    rw [Nat.sub_zero]
    exact hin hx (by omega)

theorem ok_sidx (h : EI M H.get w) (hρ : ∀ x e, ρ x = some e → ER M e (a.eval x)) {t : Nat} {x i : Operand} {b : ByteArray} {k : IntKind} {m : Int} {u : UInt8} (ht : P.underlying t = some .string) (hx : ρ x = some (.v (.string b))) (hm : ρ i = some (.v (.int k m))) (h0 : 0 ≤ m) (hu : b[m.toNat]? = some u) :
    Ok P a M H w nx (.index t x i) (.v (.int .u8 u.toNat)) H nx := by
  have h1 := of_v (hρ _ _ hx)
  have h2 := of_v (hρ _ _ hm)
  exact .pure h (y := .int .u8 u.toNat) (fun o ho => by simp [execOp, ho, Instr.index, h1, h2, asIntOf, run_underlying ht, h0, hu]) (er_v rfl)

theorem ok_fld (h : EI M H.get w) (hρ : ∀ x e, ρ x = some e → ER M e (a.eval x)) {t k : Nat} {x : Operand} {fs : Array Field} {f : Field} {cs : List EV} {m : Nat} (ht : P.underlying t = some (.struct fs)) (hf : fs[k]? = some f) (hs : aggSize P f.type = some (some m)) (hx : ρ x = some (.a cs)) (_hl : f.offset + m ≤ cs.length) :
    Ok P a M H w nx (.field t x k) (.a ((cs.drop f.offset).take m)) H nx := by
  have h1 := hρ _ _ hx
  simp only [ER] at h1
  obtain ⟨ys, he, h2, h3⟩ := h1
  obtain ⟨hu, i, hi, rfl⟩ := aggSize_some hs
  refine .pure h (y := .agg ((ys.drop f.offset).take i.size).toArray) (fun o ho => ?_) ?_
  · have : (isAgg f.type).run P w = .ok true w := by rcases hu with ⟨_, hu⟩ | ⟨_, _, hu⟩ <;> simp [isAgg, run_underlying hu]
    simp [execOp, ho, he, Instr.field, run_underlying ht, hf, part, this, asAgg, sizeOf, typeInfo, hi, List.extract_toArray, List.extract_eq_take_drop, Nat.add_sub_cancel_left]
  · simp only [ER]
    exact ⟨_, rfl, fun u hu => h2 u (List.mem_of_mem_drop (List.mem_of_mem_take hu)), h3.drop.take⟩
theorem ok_fld1 (h : EI M H.get w) (hρ : ∀ x e, ρ x = some e → ER M e (a.eval x)) {t k : Nat} {x : Operand} {fs : Array Field} {f : Field} {cs : List EV} {v : EV} (ht : P.underlying t = some (.struct fs)) (hf : fs[k]? = some f) (hs : aggSize P f.type = some none) (hx : ρ x = some (.a cs)) (hl : cs[f.offset]? = some v) :
    Ok P a M H w nx (.field t x k) v H nx := by
  have h1 := hρ _ _ hx
  simp only [ER] at h1
  obtain ⟨ys, he, h2, h3⟩ := h1
  obtain ⟨d, hu, hd⟩ := aggSize_none hs
  obtain ⟨y, hy, hr⟩ := h3.get _ _ hl
  refine .pure h (y := y) (fun o ho => ?_) hr
  have : (isAgg f.type).run P w = .ok false w := by
    simp only [isAgg, Sem.run_bind, run_underlying hu, Result.andThen_ok]
    cases d <;> first | rfl | (exact absurd rfl (hd.1 _)) | (exact absurd rfl (hd.2 _ _))
  simp [execOp, ho, he, Instr.field, run_underlying ht, hf, part, this, asAgg, hy]

/-- Values of operands. -/
noncomputable def mapE (ρ : Operand → Option EV) : List Operand → Option (List EV)
  | [] => some []
  | x :: xs => (ρ x).bind fun e => (mapE ρ xs).map (e :: ·)
theorem mapE_ok (hρ : ∀ x e, ρ x = some e → ER M e (a.eval x)) : ∀ {xs : List Operand} {es : List EV}, mapE ρ xs = some es → ERL M es (xs.map a.eval)
  | [], es, h => by simp only [mapE, Option.some.injEq] at h; subst h; simp [ERL]
  | x :: xs, es, h => by
    simp only [mapE, Option.bind_eq_some_iff, Option.map_eq_some_iff] at h
    obtain ⟨e, h1, es', h2, rfl⟩ := h
    simp only [List.map_cons, ERL]
    exact ⟨_, _, rfl, hρ _ _ h1, mapE_ok hρ h2⟩

theorem ok_mkf (h : EI M H.get w) (hρ : ∀ x e, ρ x = some e → ER M e (a.eval x)) {fn : Fn} {first cap : Array Operand} {fs es : List EV} (hf : mapE ρ first.toList = some fs) (hc : mapE ρ cap.toList = some es) : Ok P a M H w nx (.makeFunc fn first cap) (.f fn fs es) H nx := by
  refine .pure h (y := .func fn (first.map a.eval) (cap.map a.eval)) (fun o ho => by simp [execOp, ho, Instr.makeFunc]) ?_
  simp only [ER]
  exact ⟨first.toList.map a.eval, cap.toList.map a.eval, by rw [← Array.toList_map, Array.toArray_toList, ← Array.toList_map, Array.toArray_toList], mapE_ok hρ hf, mapE_ok hρ hc⟩
theorem ok_mki (h : EI M H.get w) (hρ : ∀ x e, ρ x = some e → ER M e (a.eval x)) {t : Nat} {x : Operand} {e : EV} (ht : P.concrete t = true) (hx : ρ x = some e) : Ok P a M H w nx (.makeInterface t x) (.x t e) H nx := by
  refine .pure h (y := .iface t (a.eval x)) (fun o ho => by simp [execOp, ho, run_makeInterface w t _ ht]) ?_
  simp only [ER]
  exact ⟨_, rfl, hρ _ _ hx⟩
theorem ok_mm (h : EI M H.get w) (hρ : ∀ x e, ρ x = some e → ER M e (a.eval x)) {mx : Bool} {x y : Operand} {ts : Array Nat} {k : IntKind} {u v : Int} (hx : ρ x = some (.v (.int k u))) (hy : ρ y = some (.v (.int k v))) :
    Ok P a M H w nx (.call { callee := .builtin (bif mx then .max else .min), args := #[x, y], argTypes := ts }) (.v (.int k (bif mx then max u v else min u v))) H nx := by
  have h1 := of_v (hρ _ _ hx)
  have h2 := of_v (hρ _ _ hy)
  refine .pure h (y := .int k (bif mx then max u v else min u v)) (fun o ho => ?_) (er_v rfl)
  cases mx
  · have : (if v < u then v else u) = min u v := by omega
    simp [execOp, ho, resolve, invoke, builtin, Builtin.min_, Builtin.min2, h1, h2, this]
  · have : (if u < v then v else u) = max u v := by omega
    simp [execOp, ho, resolve, invoke, builtin, Builtin.max_, Builtin.max2, h1, h2, this]

/-- A store that is done. -/
noncomputable def OkS (P : Program) (a : Act) (M : Nm) (H : EH) (w : World) (op : Op) (H' : EH) : Prop :=
  ∀ o : Oper, o.op = op → ∃ w', (execOp a.eval o).run P w = .ok .skip w' ∧ EI M H'.get w' ∧ Stp M H.get w M H'.get w'

/-- A row is written. -/
theorem EI.setRow (h : EI M H.get w) {b ty sz off : Nat} {ex : Bool} {cs c : List EV} {ys : List Value} {cur : Array Value} (hb : H.get b = some (.row ty sz ex cs)) (hcur : w.heap[M.m b]? = some (.cells cur ty (0, 0))) (hc : ERL M c ys) (h1 : ∀ u ∈ ys, u.oneCell' = true) (hfit : off + c.length ≤ cs.length) :
    off + ys.length ≤ cur.size ∧ EI M (H.set FU b (some (.row ty sz ex (setL cs off c)))).get (w.setRow (M.m b) (setL cur.toList off ys).toArray) ∧ Stp M H.get w M (H.set FU b (some (.row ty sz ex (setL cs off c)))).get (w.setRow (M.m b) (setL cur.toList off ys).toArray) := by
  obtain ⟨hbn, r, h2, C, rfl, h3, h4, h5, h6⟩ := h.ob b _ hb
  rw [h2] at hcur
  obtain rfl : C = cur := by have := Option.some.inj hcur; simpa using this
  have hl := hc.length
  have hlc : (setL C.toList off ys).length = C.size := by rw [setL_length _ _ _ (by have := Array.length_toList (xs := C); omega), Array.length_toList]
  have hls : (setL cs off c).length = cs.length := setL_length _ _ _ hfit
  refine ⟨by omega, h.write (w' := w.setRow (M.m b) (setL C.toList off ys).toArray) (c' := .cells (setL C.toList off ys).toArray ty (0, 0)) hb rfl rfl rfl (by simp [World.setRow]) (fun k hk => setRow_other w _ k _ hk) (setRow_heap w _ C _ ty _ h2) ⟨_, rfl, by simp [hlc, hls]; omega, fun he => by simp [hlc, hls, h4 he], fun he => by simp [hlc, h5 he], fun i e he => ?_⟩⟩
  have hi : i < cs.length := by have := (List.getElem?_eq_some_iff.1 he).1; rwa [hls] at this
  have hold : ∀ (j : Nat), j < cs.length → ∃ y, C.toList[j]? = some y ∧ ∃ e, cs[j]? = some e ∧ ER M e y ∧ y.oneCell' = true := fun j hj => by
    obtain ⟨y, h7, h8, h9⟩ := h6 j cs[j] (List.getElem?_eq_getElem hj)
    exact ⟨y, by simpa using h7, _, List.getElem?_eq_getElem hj, h8, h9⟩
  simp only [List.getElem?_toArray]
  by_cases hio : i < off
  · obtain ⟨y, h7, e', h8, h9, h10⟩ := hold i hi
    have e1 : (setL cs off c)[i]? = cs[i]? := by unfold setL; grind
    have e2 : (setL C.toList off ys)[i]? = C.toList[i]? := by unfold setL; grind
    rw [e1, h8] at he
    obtain rfl := Option.some.inj he
    exact ⟨y, by rw [e2]; exact h7, h9, h10⟩
  · by_cases hic : i < off + c.length
    · have e1 : (setL cs off c)[i]? = c[i - off]? := by unfold setL; grind
      have e2 : (setL C.toList off ys)[i]? = ys[i - off]? := by unfold setL; grind
      rw [e1] at he
      obtain ⟨y, h7, h8⟩ := hc.get _ _ he
      exact ⟨y, by rw [e2]; exact h7, h8, h1 y (List.mem_of_getElem? h7)⟩
    · obtain ⟨y, h7, e', h8, h9, h10⟩ := hold i hi
      have e1 : (setL cs off c)[i]? = cs[i]? := by unfold setL; grind
      have e2 : (setL C.toList off ys)[i]? = C.toList[i]? := by unfold setL; grind
      rw [e1, h8] at he
      obtain rfl := Option.some.inj he
      exact ⟨y, by rw [e2]; exact h7, h9, h10⟩

theorem ok_store (h : EI M H.get w) (hρ : ∀ x e, ρ x = some e → ER M e (a.eval x)) {t b off ty sz : Nat} {ex : Bool} {x y : Operand} {e : EV} {c cs : List EV} {ti : TypeInfo} (hi : P.info? t = some ti) (hx : ρ x = some (.p b off)) (hy : ρ y = some e) (hc : cellsE e = some c) (hl : c.length = ti.size) (hb : H.get b = some (.row ty sz ex cs)) (hfit : off + c.length ≤ cs.length) :
    OkS P a M H w (.store t x y) (H.set FU b (some (.row ty sz ex (setL cs off c)))) := by
  intro o ho
  obtain ⟨h1, h2⟩ := cellsE_ok (hρ _ _ hy) hc
  have h3 := hρ _ _ hx
  simp only [ER] at h3
  obtain ⟨_, r, h4, C, rfl, _⟩ := h.ob b _ hb
  obtain ⟨h5, h6, h7⟩ := h.setRow hb h4 h1 h2 hfit
  refine ⟨_, ?_, h6, h7⟩
  have hr := Go.Proofs.YtaopcacmfhdfkaaGreatDoor.Vc.run_store (w := w) P (t := t) (y := a.eval y) (o := off) hi rfl (by rw [h1.length, hl]) h4 h5 h2
  simp only [execOp, ho, h3.2]
  rw [Sem.run_bind, hr]; rfl
end
end Go.Proofs.YtaopcacmfhdfkaaGreatDoor.Ev

namespace Go.Proofs.YtaopcacmfhdfkaaGreatDoor.Ev
open Go Go.RowKit Go.Proofs.YtaopcacmfhdfkaaGreatDoor.Vc
set_option linter.unusedSimpArgs false
set_option linter.unusedVariables false

section
variable {nx : Nat} {M : Nm} {H : EH} {w : World} {P : Program} {a : Act} {ρ : Operand → Option EV}

/-- A slice's elements, cell by cell. -/
noncomputable def srcE (H : EH) (sz : Nat) : EV → Option (Nat × List EV)
  | .s _ b off n _ => match H.get b with
    | some (.row _ _ _ cs) => bif Nat.ble (off + n * sz) cs.length then some (n, (cs.drop off).take (n * sz)) else none
    | _ => none
  | _ => none
theorem srcE_ok (h : EI M H.get w) {sz n : Nat} {x : EV} {y : Value} {cs : List EV} (hx : ER M x y) (hs : srcE H sz x = some (n, cs)) :
    ∃ ad c us, y = .slice (some ad) n c ∧ us.length = n * sz ∧ cs.length = n * sz ∧ ERL M cs us ∧ (∀ u ∈ us, u.oneCell' = true) ∧ ∀ (j : Nat) (u : Value), us[j]? = some u → w.cell? (ad.add j) = some u := by
  unfold srcE at hs
  split at hs
  · rename_i ex b off n' c
    split at hs
    · rename_i ty sz' ex' cs' hb
      cases hble : Nat.ble (off + n' * sz) cs'.length with
      | false => rw [hble] at hs; cases hs
      | true =>
        rw [hble] at hs
        simp only [cond_true, Option.some.injEq, Prod.mk.injEq] at hs
        obtain ⟨rfl, rfl⟩ := hs
        simp only [ER] at hx
        obtain ⟨_, _, c', _, _, _, he⟩ := hx
        obtain ⟨us, h1, h2, h3, h4⟩ := h.cells hb (Nat.le_of_ble_eq_true hble)
        exact ⟨_, c', us, he, h1, by rw [← h2.length]; exact h1, h2, h3, h4⟩
    · cases hs
  · cases hs

theorem zeroCells_size {z : Array Value} {n sz : Nat} (hz : z.size = sz) : (Builtin.zeroCells z n).size = n * sz := by
  simp [Builtin.zeroCells, hz]

/-- A row that was just made: known cells, and more. -/
theorem OR_new {M' : Nm} {b ty sz κ : Nat} {cs : List EV} {us : List Value} {Z : Array Value} (hr : ERL M' cs us) (h1 : ∀ u ∈ us, u.oneCell' = true) (hk : M'.k b = κ) (hsz : us.length + Z.size = κ * sz) : OR M' b (.row ty sz false cs) (.cells (us.toArray ++ Z) ty (0, 0)) := by
  have hl := hr.length
  refine ⟨_, rfl, by simp; omega, (by intro h; cases h), fun _ => by simp [hk]; omega, fun i e he => ?_⟩
  obtain ⟨y, h2, h3⟩ := hr.get i e he
  have hi : i < us.length := (List.getElem?_eq_some_iff.1 h2).1
  refine ⟨y, ?_, h3, h1 y (List.mem_of_getElem? h2)⟩
  rw [Array.getElem?_append_left (by simpa using hi)]
  simpa using h2


/-- Something new, behind a draw. -/
theorem EI.alloc_drew (h : EI M H.get w) (hn : ¬ M.d nx) (hl : nx < LIM) {H1 : EH} (hH : ∀ x, H1.get x = H.get x ∨ H1.get x = none) {o : EO} {c : Obj} {κ : Nat} (ho : OR (M.new nx w.heap.size κ) nx o c) :
    EI (M.new nx w.heap.size κ) (H1.set FU nx (some o)).get (w.drew.alloc c) ∧ Stp M H.get w (M.new nx w.heap.size κ) (H1.set FU nx (some o)).get (w.drew.alloc c) :=
  h.fresh (w' := w.drew.alloc c) (H1 := H1) hn hl hH rfl rfl rfl (by simp) (fun k hk _ => Below.heap_alloc w.drew c k hk) (.inl (Nat.le_refl _)) (heap_alloc_new w.drew c) ho

theorem exec_app {x y : Operand} {t t' : TypeId} {o : Oper} {v : Value} {w' : World} (ho : o.op = .call { callee := .builtin .append, args := #[x, y], argTypes := #[t, t'] }) (hr : (Builtin.append_ #[t, t'] o.type #[a.eval x, a.eval y]).run P w = .ok v w') : (execOp a.eval o).run P w = .ok (.value v) w' := by
  simp [execOp, ho, resolve, invoke, builtin, hr]

theorem ok_app_nil (h : EI M H.get w) (hρ : ∀ x e, ρ x = some e → ER M e (a.eval x)) (hlim : nx < LIM) {t e n : Nat} {x y : Operand} {ey : EV} {cs : List EV} {ti : TypeInfo} {z : Value} (ht : P.underlying t = some (.slice e)) (hi : P.info? e = some ti) (hz : ti.zero = some z) (hzs : z.cells.size = ti.size)
    (hx : ρ x = some (.v (.slice none 0 0))) (hy : ρ y = some ey) (hs : srcE H ti.size ey = some (n, cs)) (hn0 : 0 < n) (hb : n * ti.bytes ≤ 140737488355328) (h63 : n ≤ 9223372036854775807) :
    Ok P a M H w nx (.call { callee := .builtin .append, args := #[x, y], argTypes := #[t, t] }) (.s false nx 0 n n) (H.set FU nx (some (.row e ti.size false cs))) (nx + 1) := by
  refine .one fun hn o ho => ?_
  obtain ⟨ad, c, us, hv, hu, hcs, hr, h1, hcell⟩ := srcE_ok h (hρ _ _ hy) hs
  have hx1 := of_v (hρ _ _ hx)
  have hap := run_append_nil (P := P) w t o.type e ti z ht hi hz ad n c us hu hcell hn0 (by omega) (by omega)
  have hge := grownCap_ge w n 0 e
  generalize hκ : grownCap w n 0 e = κ at *
  have hle := M.le_new hn w.heap.size κ
  obtain ⟨h2, h3⟩ := h.alloc_drew (κ := κ) hn hlim (fun _ => .inl rfl) (OR_new (ty := e) (sz := ti.size) (Z := Builtin.zeroCells z.cells (κ - n)) (hr.mono hle) h1 (upd_same _ _ _) (by
    rw [zeroCells_size hzs, hu, ← Nat.add_mul]; congr 1; omega))
  refine ⟨_, _, _, exec_app ho (by rw [hx1, hv]; exact hap), h2, h3, fun _ hb => hb, ?_⟩
  simp only [ER]
  exact ⟨.inr rfl, Nat.le_refl _, κ, hge, (by intro h; cases h), fun _ _ => (upd_same M.k nx κ).symm, by rw [show (M.new nx w.heap.size κ).m nx = w.heap.size from upd_same _ _ _]⟩

/-- One's row is full: a new one. -/
theorem ok_app_ex (h : EI M H.get w) (hρ : ∀ x e, ρ x = some e → ER M e (a.eval x)) (hlim : nx < LIM) {t e n b off m c : Nat} {x y : Operand} {ey : EV} {cs old : List EV} {ti : TypeInfo} {z : Value} (ht : P.underlying t = some (.slice e)) (hi : P.info? e = some ti) (hz : ti.zero = some z) (hzs : z.cells.size = ti.size)
    (hx : ρ x = some (.s true b off m c)) (ho' : srcE H ti.size (.s true b off m c) = some (m, old)) (hy : ρ y = some ey) (hs : srcE H ti.size ey = some (n, cs)) (hfull : c < m + n) (hb : (m + n) * ti.bytes ≤ 140737488355328) (h63 : m + n ≤ 9223372036854775807) :
    Ok P a M H w nx (.call { callee := .builtin .append, args := #[x, y], argTypes := #[t, t] }) (.s false nx 0 (m + n) (m + n)) (H.set FU nx (some (.row e ti.size false (old ++ cs)))) (nx + 1) := by
  refine .one fun hn o ho => ?_
  obtain ⟨ad, c1, us, hv, hu, hcs, hr, h1, hcell⟩ := srcE_ok h (hρ _ _ hy) hs
  have hx1 := hρ _ _ hx
  obtain ⟨ad0, c0, us0, hv0, hu0, hcs0, hr0, h10, hcell0⟩ := srcE_ok h hx1 ho'
  simp only [ER] at hx1
  obtain ⟨_, _, c', _, hce, _, he⟩ := hx1
  have hc' : c' = c := hce trivial
  subst hc'
  rw [he] at hv0
  simp only [Value.slice.injEq, Option.some.injEq, true_and] at hv0
  obtain ⟨rfl, rfl⟩ := hv0
  have hap := run_append_grow (P := P) w t o.type e ti z ht hi hz _ m c' us0 hu0 hcell0 ad n c1 us hu hcell hfull (by omega) (growslice_fits hfull hb)
  have hge := grownCap_ge w (m + n) c' e
  generalize hκ : grownCap w (m + n) c' e = κ at *
  have hle := M.le_new hn w.heap.size κ
  have happ : ERL M (old ++ cs) (us0 ++ us) := hr0.append hr
  obtain ⟨h2, h3⟩ := h.alloc_drew (κ := κ) hn hlim (fun _ => .inl rfl) (OR_new (ty := e) (sz := ti.size) (Z := Builtin.zeroCells z.cells (κ - (m + n))) (happ.mono hle) (fun u hu => (List.mem_append.1 hu).elim (h10 u) (h1 u)) (upd_same _ _ _) (by
    rw [zeroCells_size hzs, List.length_append, hu, hu0, ← Nat.add_mul, ← Nat.add_mul]; congr 1; omega))
  refine ⟨_, _, _, exec_app ho (by rw [he, hv]; exact hap), by simpa using h2, by simpa using h3, fun _ hb => hb, ?_⟩
  simp only [ER]
  exact ⟨.inr rfl, Nat.le_refl _, κ, hge, (by intro h; cases h), fun _ _ => (upd_same M.k nx κ).symm, by rw [show (M.new nx w.heap.size κ).m nx = w.heap.size from upd_same _ _ _]⟩

/-- There is room. -/
theorem ok_app_room (h : EI M H.get w) (hρ : ∀ x e, ρ x = some e → ER M e (a.eval x)) {t e n b m c sz : Nat} {x y : Operand} {ey : EV} {cs old : List EV} {ex ex' : Bool} {ti : TypeInfo} (ht : P.underlying t = some (.slice e)) (hi : P.info? e = some ti)
    (hx : ρ x = some (.s ex b 0 m c)) (hb : H.get b = some (.row e sz ex' old)) (hy : ρ y = some ey) (hs : srcE H ti.size ey = some (n, cs)) (hroom : m + n ≤ c) (hfit : m * ti.size + cs.length ≤ old.length) :
    Ok P a M H w nx (.call { callee := .builtin .append, args := #[x, y], argTypes := #[t, t] }) (.s ex b 0 (m + n) c) (H.set FU b (some (.row e sz ex' (setL old (m * ti.size) cs)))) nx := by
  refine ⟨Nat.le_refl _, fun _ o ho => ?_⟩
  obtain ⟨ad, c1, us, hv, hu, hcs, hr, h1, hcell⟩ := srcE_ok h (hρ _ _ hy) hs
  have hx1 := hρ _ _ hx
  simp only [ER] at hx1
  obtain ⟨hbn, _, c', hcc, hce, hci, he⟩ := hx1
  obtain ⟨_, r, h4, C, rfl, _⟩ := h.ob b _ hb
  obtain ⟨h5, h6, h7⟩ := h.setRow hb h4 hr h1 hfit
  have hap := run_append_room (P := P) w t o.type e ti ht hi (M.m b) m c' C h4 ad n c1 us hu hcell h1 (by omega) h5
  refine ⟨_, _, M, exec_app ho (by rw [he, hv]; exact hap), by unfold setL at h6; exact h6, by unfold setL at h7; exact h7, fun _ hb => .inl hb, ?_⟩
  simp only [ER]
  exact ⟨hbn, by omega, c', by omega, hce, hci, rfl⟩
end
end Go.Proofs.YtaopcacmfhdfkaaGreatDoor.Ev

namespace Go.Proofs.YtaopcacmfhdfkaaGreatDoor.Ev
open Go Go.RowKit Go.Proofs.YtaopcacmfhdfkaaGreatDoor.Vc
set_option linter.unusedSimpArgs false
set_option linter.unusedVariables false

section
variable {nx : Nat} {M : Nm} {H : EH} {w : World} {P : Program} {a : Act} {ρ : Operand → Option EV}

/-- A row that may be full: the old name is given up. -/
theorem ok_app_in (h : EI M H.get w) (hρ : ∀ x e, ρ x = some e → ER M e (a.eval x)) (hlim : nx < LIM) {t e n b m c : Nat} {x y : Operand} {ey : EV} {cs old : List EV} {ti : TypeInfo} {z : Value} (ht : P.underlying t = some (.slice e)) (hi : P.info? e = some ti) (hz : ti.zero = some z) (hzs : z.cells.size = ti.size)
    (hx : ρ x = some (.s false b 0 m c)) (hb : H.get b = some (.row e ti.size false old)) (hm : m * ti.size ≤ old.length) (hy : ρ y = some ey) (hs : srcE H ti.size ey = some (n, cs)) (hfull : c < m + n) (hbt : (m + n) * ti.bytes ≤ 140737488355328) (h63 : m + n ≤ 9223372036854775807) :
    Ok P a M H w nx (.call { callee := .builtin .append, args := #[x, y], argTypes := #[t, t] }) (.s false nx 0 (m + n) (m + n)) ((H.set FU b none).set FU nx (some (.row e ti.size false (old.take (m * ti.size) ++ cs)))) (nx + 1) := by
  refine .one fun hn o ho => ?_
  obtain ⟨ad, c1, us, hv, hu, hcs, hr, h1, hcell⟩ := srcE_ok h (hρ _ _ hy) hs
  have hx1 := hρ _ _ hx
  simp only [ER] at hx1
  obtain ⟨hbn, hmc, c', hcc, _, hci, he⟩ := hx1
  have hk : c' = M.k b := hci trivial trivial
  subst hk
  have hb0 : H.get b ≠ none := by rw [hb]; simp
  have hget : ∀ j, (H.set FU b none).get j = if j = b then none else H.get j := fun j => Tr.get_set _ _ _ _ _ (lim_fu (h.lim b hbn))
  have hkill : ∀ j, (H.set FU b none).get j = H.get j ∨ (H.set FU b none).get j = none := fun j => by
    rw [hget]; split
    · exact .inr rfl
    · exact .inl rfl
  obtain ⟨_, r, h4, C, rfl, h5, _, h6, h7⟩ := h.ob b _ hb
  have hCk := h6 rfl
  obtain ⟨us0, hu0, hr0, h10, hcell0⟩ := h.cells (off := 0) hb (m := m * ti.size) (by omega)
  rw [List.drop_zero] at hr0
  have happ : ERL M (old.take (m * ti.size) ++ cs) (us0 ++ us) := hr0.append hr
  by_cases hroom : m + n ≤ M.k b
  · -- in place
    have hfit : m * ti.size + us.length ≤ C.size := by rw [hu, hCk, ← Nat.add_mul]; exact Nat.mul_le_mul_right _ hroom
    have hap := run_append_room (P := P) w t o.type e ti ht hi (M.m b) m (M.k b) C h4 ad n c1 us hu hcell h1 hroom hfit
    have hle := M.le_new hn (M.m b) (M.k b)
    have hC0 : C.toList.take (m * ti.size) = us0 := by
      apply List.ext_getElem?
      intro j
      by_cases hj : j < m * ti.size
      · have := hcell0 j us0[j] (List.getElem?_eq_getElem (by omega))
        rw [add_lit] at this
        simp only [World.cell?, h4, Option.isSome_none, Bool.false_eq_true, if_false, Nat.zero_add] at this
        rw [List.getElem?_take_of_lt hj, Array.getElem?_toList, this, List.getElem?_eq_getElem (by omega)]
      · rw [List.getElem?_eq_none (by simp; omega), List.getElem?_eq_none (by omega)]
    obtain ⟨h8, h9⟩ := h.fresh (H1 := H.set FU b none) (w' := w.setRow (M.m b) (C.toList.take (m * ti.size) ++ us ++ C.toList.drop (m * ti.size + us.length)).toArray) (g := M.m b) (κ := M.k b) hn hlim hkill rfl rfl rfl (by simp [World.setRow]) (fun k _ hk => setRow_other w _ k _ hk) (.inr ⟨b, hb0, rfl, by rw [hget, if_pos rfl]⟩) (setRow_heap w _ C _ e _ h4)
      (o := .row e ti.size false (old.take (m * ti.size) ++ cs)) (by
        rw [hC0]
        have := OR_new (M' := M.new nx (M.m b) (M.k b)) (b := nx) (ty := e) (sz := ti.size) (κ := M.k b) (Z := (C.toList.drop (m * ti.size + us.length)).toArray) (happ.mono hle) (fun u hu => (List.mem_append.1 hu).elim (h10 u) (h1 u)) (upd_same _ _ _) (by
          simp [hu0]; omega)
        rwa [List.append_toArray] at this)
    refine ⟨_, _, _, exec_app ho (by rw [he, hv]; exact hap), h8, h9, fun _ hb => hb, ?_⟩
    simp only [ER]
    exact ⟨.inr rfl, Nat.le_refl _, M.k b, hroom, (by intro h; cases h), fun _ _ => (upd_same M.k nx _).symm, by rw [show (M.new nx (M.m b) (M.k b)).m nx = M.m b from upd_same _ _ _]⟩
  · -- anew
    have hap := run_append_grow (P := P) w t o.type e ti z ht hi hz ⟨M.m b, 0, none⟩ m (M.k b) us0 hu0 hcell0 ad n c1 us hu hcell (by omega) (by omega) (growslice_fits (by omega) hbt)
    have hge := grownCap_ge w (m + n) (M.k b) e
    generalize hκ : grownCap w (m + n) (M.k b) e = κ at *
    have hle := M.le_new hn w.heap.size κ
    obtain ⟨h8, h9⟩ := h.alloc_drew (κ := κ) (H1 := H.set FU b none) hn hlim hkill (OR_new (ty := e) (sz := ti.size) (Z := Builtin.zeroCells z.cells (κ - (m + n))) (happ.mono hle) (fun u hu => (List.mem_append.1 hu).elim (h10 u) (h1 u)) (upd_same _ _ _) (by
      rw [zeroCells_size hzs, List.length_append, hu, hu0, ← Nat.add_mul, ← Nat.add_mul]; congr 1; omega))
    refine ⟨_, _, _, exec_app ho (by rw [he, hv]; exact hap), by simpa using h8, by simpa using h9, fun _ hb => hb, ?_⟩
    simp only [ER]
    exact ⟨.inr rfl, Nat.le_refl _, κ, hge, (by intro h; cases h), fun _ _ => (upd_same M.k nx κ).symm, by rw [show (M.new nx w.heap.size κ).m nx = w.heap.size from upd_same _ _ _]⟩

/-- Nothing is appended. -/
theorem ok_app_zero (h : EI M H.get w) (hρ : ∀ x e, ρ x = some e → ER M e (a.eval x)) {t e b off m c : Nat} {ex : Bool} {x y : Operand} {ti : TypeInfo} (ht : P.underlying t = some (.slice e)) (hi : P.info? e = some ti)
    (hx : ρ x = some (.s ex b off m c)) (hy : ρ y = some (.v (.slice none 0 0))) :
    Ok P a M H w nx (.call { callee := .builtin .append, args := #[x, y], argTypes := #[t, t] }) (.s ex b off m c) H nx := by
  have hx1 := hρ _ _ hx
  have hy1 := of_v (hρ _ _ hy)
  have hx2 := hx1
  simp only [ER] at hx2
  obtain ⟨_, hmc, c', hcc, _, _, he⟩ := hx2
  refine .pure h (y := a.eval x) (fun o ho => exec_app ho ?_) hx1
  rw [hy1, he]
  exact run_append_zero ht hi _ _ _ _ _ (by omega)
theorem ok_app_nz (h : EI M H.get w) (hρ : ∀ x e, ρ x = some e → ER M e (a.eval x)) {t e : Nat} {x y : Operand} {ti : TypeInfo} (ht : P.underlying t = some (.slice e)) (hi : P.info? e = some ti)
    (hx : ρ x = some (.v (.slice none 0 0))) (hy : ρ y = some (.v (.slice none 0 0))) :
    Ok P a M H w nx (.call { callee := .builtin .append, args := #[x, y], argTypes := #[t, t] }) (.v (.slice none 0 0)) H nx := by
  have hx1 := of_v (hρ _ _ hx)
  have hy1 := of_v (hρ _ _ hy)
  refine .pure h (y := .slice none 0 0) (fun o ho => exec_app ho ?_) (er_v rfl)
  rw [hy1, hx1]
  exact run_append_zero ht hi _ _ _ _ _ (Nat.le_refl _)
end
end Go.Proofs.YtaopcacmfhdfkaaGreatDoor.Ev

namespace Go.Proofs.YtaopcacmfhdfkaaGreatDoor.Ev
open Go Go.RowKit Go.Proofs.YtaopcacmfhdfkaaGreatDoor.Vc
set_option linter.unusedSimpArgs false
set_option linter.unusedVariables false

abbrev Rs := Option (EV × EH × Nat)

noncomputable def isEqE (op : BinOp) : Bool := match op with | .eql | .neq => true | _ => false
/-- Two values and a sign. -/
noncomputable def evBin (P : Program) (op : BinOp) (t : TypeId) (x y : Option EV) (H : EH) (nx : Nat) : Rs :=
  match x, y with
  | some (.v u), some (.v v) => bif isEqE op then
      (match P.underlying t, u, v with
        | some .bool, .bool u, .bool v => some (.v (.bool (bif (match op with | .neq => true | _ => false) then u != v else u == v)), H, nx)
        | some (.int _), u, v => (vbin op u v).map fun r => (.v r, H, nx)
        | some .string, u, v => (vbin op u v).map fun r => (.v r, H, nx)
        | _, _, _ => none)
      else (vbin op u v).map fun r => (.v r, H, nx)
  | _, _ => none
noncomputable def evConv (P : Program) (t t' : TypeId) (x : Option EV) (H : EH) (nx : Nat) : Rs :=
  match P.underlying t, P.underlying t', x with
  | some _, some (.int k), some (.v (.int _ m)) => some (.v (.int k (k.wrap m)), H, nx)
  | _, _, _ => none
noncomputable def evLoad (P : Program) (L : List (Nat × Array Value)) (t : TypeId) (x : Option EV) (H : EH) (nx : Nat) : Rs :=
  match aggSize P t, x with
  | some (some m), some e => (memE L H m e).map fun cs => (.a cs, H, nx)
  | some none, some e => match memE L H 1 e with | some [v] => some (v, H, nx) | _ => none
  | _, _ => none
noncomputable def evFad (P : Program) (t : TypeId) (x : Option EV) (k : Nat) (H : EH) (nx : Nat) : Rs :=
  match P.underlying t, x with
  | some (.struct fs), some (.p b off) => match fs[k]? with
    | some f => match P.info? f.type with
      | some i => grd (!Nat.beq i.size 0) (some (.p b (off + f.offset), H, nx))
      | none => none
    | none => none
  | some (.struct fs), some (.g b off) => match fs[k]? with
    | some f => match P.info? f.type with
      | some i => grd (!Nat.beq i.size 0) (some (.g b (off + f.offset), H, nx))
      | none => none
    | none => none
  | _, _ => none
noncomputable def evIad (P : Program) (t : TypeId) (x i : Option EV) (H : EH) (nx : Nat) : Rs :=
  match P.underlying t, x, i with
  | some (.slice e), some (.s _ b off n _), some (.v (.int _ (.ofNat m))) => match P.info? e with
    | some ti => grd (Nat.blt m n) (some (.p b (off + m * ti.size), H, nx))
    | none => none
  | some (.array ln e), some (.p b off), some (.v (.int _ (.ofNat m))) => match P.info? e with
    | some ti => grd (Nat.blt m ln) (some (.p b (off + m * ti.size), H, nx))
    | none => none
  | some (.array ln e), some (.g b off), some (.v (.int _ (.ofNat m))) => match P.info? e with
    | some ti => grd (Nat.blt m ln) (some (.g b (off + m * ti.size), H, nx))
    | none => none
  | _, _, _ => none
noncomputable def evFld (P : Program) (t : TypeId) (x : Option EV) (k : Nat) (H : EH) (nx : Nat) : Rs :=
  match P.underlying t, x with
  | some (.struct fs), some (.a cs) => match fs[k]? with
    | some f => match aggSize P f.type with
      | some (some m) => grd (Nat.ble (f.offset + m) cs.length) (some (.a ((cs.drop f.offset).take m), H, nx))
      | some none => (cs[f.offset]?).map fun v => (v, H, nx)
      | none => none
    | none => none
  | _, _ => none
noncomputable def evBox (ty : TypeId) (x : Option EV) (H : EH) (nx : Nat) : Rs :=
  match x with
  | some e => match cellsE e with
    | some cs => grd (Nat.blt nx LIM) (some (.p nx 0, H.set FU nx (some (.row ty cs.length true cs)), nx + 1))
    | none => none
  | none => none
noncomputable def evNew (P : Program) (ty : TypeId) (H : EH) (nx : Nat) : Rs :=
  match P.info? ty with
  | some i => match i.zero with
    | some z => grd (plainAgg z) (evBox ty (some (evOf z)) H nx)
    | none => none
  | none => none
noncomputable def evSidx (P : Program) (t : TypeId) (x i : Option EV) (H : EH) (nx : Nat) : Rs :=
  match P.underlying t, x, i with
  | some .string, some (.v (.string b)), some (.v (.int _ (.ofNat m))) => (b[m]?).map fun (u : UInt8) => (.v (.int .u8 u.toNat), H, nx)
  | _, _, _ => none
noncomputable def evSlc (P : Program) (ρ : Operand → Option EV) (t : TypeId) (x lo hi : Option Operand) (H : EH) (nx : Nat) : Rs :=
  match P.underlying t, x.bind ρ with
  | some .string, some (.v (.string b)) => match bndE ρ lo 0, bndE ρ hi b.size with
    | some l, some m => grd (Nat.ble l m && Nat.ble m b.size) (some (.v (.string (b.extract l m)), H, nx))
    | _, _ => none
  | some (.slice e), some (.s ex b off n c) => match bndE ρ lo 0, bndE ρ hi n, P.info? e with
    | some l, some m, some ti => grd (Nat.ble l m && Nat.ble m c && Nat.blt l c && Nat.blt 0 ti.size) (some (.s ex b (off + l * ti.size) (m - l) (c - l), H, nx))
    | _, _, _ => none
  | _, _ => none
noncomputable def evMki (P : Program) (t : TypeId) (x : Option EV) (H : EH) (nx : Nat) : Rs :=
  match x with
  | some e => grd (P.concrete t) (some (.x t e, H, nx))
  | none => none
/-- append -/
noncomputable def evApp (P : Program) (t : TypeId) (x y : Option EV) (H : EH) (nx : Nat) : Rs :=
  match P.underlying t with
  | some (.slice e) => match P.info? e with
    | some ti => match ti.zero with
      | some z => grd (Nat.beq z.cells.size ti.size && Nat.blt nx LIM) (match x, y with
        | some (.v (.slice none 0 0)), some (.v (.slice none 0 0)) => some (.v (.slice none 0 0), H, nx)
        | some (.s ex b off m c), some (.v (.slice none 0 0)) => some (.s ex b off m c, H, nx)
        | some (.v (.slice none 0 0)), some ey => match srcE H ti.size ey with
          | some (n, cs) => grd (Nat.blt 0 n && Nat.ble (n * ti.bytes) 140737488355328 && Nat.ble n 9223372036854775807) (some (.s false nx 0 n n, H.set FU nx (some (.row e ti.size false cs)), nx + 1))
          | none => none
        | some (.s ex b off m c), some ey => match srcE H ti.size ey, H.get b with
          | some (n, cs), some (.row e' sz ex' old) => grd (Nat.beq e' e && Nat.ble ((m + n) * ti.bytes) 140737488355328 && Nat.ble (m + n) 9223372036854775807)
            (bif Nat.ble (m + n) c then grd (Nat.beq off 0 && Nat.ble (m * ti.size + cs.length) old.length) (some (.s ex b 0 (m + n) c, H.set FU b (some (.row e sz ex' (setL old (m * ti.size) cs))), nx))
            else bif ex then grd (Nat.ble (off + m * ti.size) old.length) (some (.s false nx 0 (m + n) (m + n), H.set FU nx (some (.row e ti.size false ((old.drop off).take (m * ti.size) ++ cs))), nx + 1))
            else grd (Nat.beq off 0 && Nat.beq sz ti.size && !ex' && Nat.ble (m * ti.size) old.length) (some (.s false nx 0 (m + n) (m + n), (H.set FU b none).set FU nx (some (.row e ti.size false (old.take (m * ti.size) ++ cs))), nx + 1)))
          | _, _ => none
        | _, _ => none)
      | none => none
    | none => none
  | _ => none

section
variable {nx : Nat} {M : Nm} {H : EH} {w : World} {P : Program} {a : Act} {ρ : Operand → Option EV}

theorem evBin_ok (h : EI M H.get w) (hρ : ∀ x e, ρ x = some e → ER M e (a.eval x)) {op : BinOp} {t ty : TypeId} {x y : Operand} {v : EV} {H' : EH} {nx' : Nat} (hr : evBin P op t (ρ x) (ρ y) H nx = some (v, H', nx')) : Ok P a M H w nx (.binOp op t x y ty) v H' nx' := by
  unfold evBin at hr
  split at hr
  · rename_i u v' hx hy
    have key : ∀ {r}, (vbin op u v').map (fun r => (EV.v r, H, nx)) = some r → r = (v, H', nx') → Ok P a M H w nx (.binOp op t x y ty) v H' nx' := by
      intro r h1 h2
      simp only [Option.map_eq_some_iff] at h1
      obtain ⟨r', h3, rfl⟩ := h1
      simp only [Prod.mk.injEq] at h2
      obtain ⟨rfl, rfl, rfl⟩ := h2
      exact ok_bin h hρ hx hy h3
    cases he : isEqE op with
    | false => rw [he] at hr; exact key hr rfl
    | true =>
      rw [he] at hr
      simp only [cond_true] at hr
      split at hr
      · rename_i u1 v1 ht
        simp only [Option.some.injEq, Prod.mk.injEq] at hr
        obtain ⟨rfl, rfl, rfl⟩ := hr
        unfold isEqE at he
        cases op <;> first | cases he | skip
        · exact ok_beq (ne := false) h hρ ht hx hy
        · exact ok_beq (ne := true) h hρ ht hx hy
      · exact key hr rfl
      · exact key hr rfl
      · cases hr
  · cases hr

theorem evConv_ok (h : EI M H.get w) (hρ : ∀ x e, ρ x = some e → ER M e (a.eval x)) {t t' : TypeId} {x : Operand} {v : EV} {H' : EH} {nx' : Nat} (hr : evConv P t t' (ρ x) H nx = some (v, H', nx')) : Ok P a M H w nx (.convert t t' x) v H' nx' := by
  unfold evConv at hr
  split at hr
  · rename_i h1 h2 h3
    simp only [Option.some.injEq, Prod.mk.injEq] at hr
    obtain ⟨rfl, rfl, rfl⟩ := hr
    exact ok_conv h hρ h1 h2 h3
  · cases hr

theorem evLoad_ok (h : EI M H.get w) (hρ : ∀ x e, ρ x = some e → ER M e (a.eval x)) {t : TypeId} {x : Operand} {v : EV} {H' : EH} {nx' : Nat} (hr : evLoad P M.L t (ρ x) H nx = some (v, H', nx')) : Ok P a M H w nx (.load t x) v H' nx' := by
  unfold evLoad at hr
  split at hr
  · rename_i h1 h2
    simp only [Option.map_eq_some_iff, Prod.mk.injEq] at hr
    obtain ⟨cs, h3, rfl, rfl, rfl⟩ := hr
    exact ok_load h hρ h1 h2 h3
  · rename_i h1 h2
    split at hr
    · rename_i h3
      simp only [Option.some.injEq, Prod.mk.injEq] at hr
      obtain ⟨rfl, rfl, rfl⟩ := hr
      exact ok_load1 h hρ h1 h2 h3
    · cases hr
  · cases hr

theorem evFad_ok (h : EI M H.get w) (hρ : ∀ x e, ρ x = some e → ER M e (a.eval x)) {t k : Nat} {x : Operand} {v : EV} {H' : EH} {nx' : Nat} (hr : evFad P t (ρ x) k H nx = some (v, H', nx')) : Ok P a M H w nx (.fieldAddr t x k) v H' nx' := by
  unfold evFad at hr
  split at hr
  · rename_i h1 h2
    split at hr
    · rename_i h3
      split at hr
      · rename_i h4
        obtain ⟨h5, h6⟩ := grd_some hr
        simp only [Option.some.injEq, Prod.mk.injEq] at h6
        obtain ⟨rfl, rfl, rfl⟩ := h6
        exact ok_fad h hρ h1 h3 h4 (by rw [beq_def] at h5; simpa using h5) h2
      · cases hr
    · cases hr
  · rename_i h1 h2
    split at hr
    · rename_i h3
      split at hr
      · rename_i h4
        obtain ⟨h5, h6⟩ := grd_some hr
        simp only [Option.some.injEq, Prod.mk.injEq] at h6
        obtain ⟨rfl, rfl, rfl⟩ := h6
        exact ok_fadG h hρ h1 h3 h4 (by rw [beq_def] at h5; simpa using h5) h2
      · cases hr
    · cases hr
  · cases hr

theorem evIad_ok (h : EI M H.get w) (hρ : ∀ x e, ρ x = some e → ER M e (a.eval x)) {t : Nat} {x i : Operand} {v : EV} {H' : EH} {nx' : Nat} (hr : evIad P t (ρ x) (ρ i) H nx = some (v, H', nx')) : Ok P a M H w nx (.indexAddr t x i) v H' nx' := by
  unfold evIad at hr
  split at hr
  · rename_i h1 h2 h3
    split at hr
    · rename_i h4
      obtain ⟨h5, h6⟩ := grd_some hr
      simp only [Option.some.injEq, Prod.mk.injEq] at h6
      obtain ⟨rfl, rfl, rfl⟩ := h6
      exact ok_iad h hρ h1 h4 h3 (Int.natCast_nonneg _) (Nat.le_of_ble_eq_true h5) h2
    · cases hr
  · rename_i h1 h2 h3
    split at hr
    · rename_i h4
      obtain ⟨h5, h6⟩ := grd_some hr
      simp only [Option.some.injEq, Prod.mk.injEq] at h6
      obtain ⟨rfl, rfl, rfl⟩ := h6
      exact ok_aad h hρ h1 h4 h3 (Int.natCast_nonneg _) (by have := Nat.le_of_ble_eq_true h5; simp only [Int.ofNat_eq_natCast]; omega) h2
    · cases hr
  · rename_i h1 h2 h3
    split at hr
    · rename_i h4
      obtain ⟨h5, h6⟩ := grd_some hr
      simp only [Option.some.injEq, Prod.mk.injEq] at h6
      obtain ⟨rfl, rfl, rfl⟩ := h6
      exact ok_aadG h hρ h1 h4 h3 (Int.natCast_nonneg _) (by have := Nat.le_of_ble_eq_true h5; simp only [Int.ofNat_eq_natCast]; omega) h2
    · cases hr
  · cases hr

theorem evFld_ok (h : EI M H.get w) (hρ : ∀ x e, ρ x = some e → ER M e (a.eval x)) {t k : Nat} {x : Operand} {v : EV} {H' : EH} {nx' : Nat} (hr : evFld P t (ρ x) k H nx = some (v, H', nx')) : Ok P a M H w nx (.field t x k) v H' nx' := by
  unfold evFld at hr
  split at hr
  · rename_i h1 h2
    split at hr
    · rename_i h3
      split at hr
      · rename_i h4
        obtain ⟨h5, h6⟩ := grd_some hr
        simp only [Option.some.injEq, Prod.mk.injEq] at h6
        obtain ⟨rfl, rfl, rfl⟩ := h6
        exact ok_fld h hρ h1 h3 h4 h2 (Nat.le_of_ble_eq_true h5)
      · rename_i h4
        simp only [Option.map_eq_some_iff, Prod.mk.injEq] at hr
        obtain ⟨_, h5, rfl, rfl, rfl⟩ := hr
        exact ok_fld1 h hρ h1 h3 h4 h2 h5
      · cases hr
    · cases hr
  · cases hr

theorem evBox_ok (h : EI M H.get w) (hρ : ∀ x e, ρ x = some e → ER M e (a.eval x)) {ty : Nat} {x : Operand} {v : EV} {H' : EH} {nx' : Nat} (hr : evBox ty (ρ x) H nx = some (v, H', nx')) : Ok P a M H w nx (.box ty x) v H' nx' := by
  unfold evBox at hr
  split at hr
  · rename_i h1
    split at hr
    · rename_i h2
      obtain ⟨h5, h6⟩ := grd_some hr
      simp only [Option.some.injEq, Prod.mk.injEq] at h6
      obtain ⟨rfl, rfl, rfl⟩ := h6
      exact ok_box h hρ (Nat.le_of_ble_eq_true h5) h1 h2
    · cases hr
  · cases hr

theorem evNew_ok (h : EI M H.get w) {ty : Nat} {v : EV} {H' : EH} {nx' : Nat} (hr : evNew P ty H nx = some (v, H', nx')) : Ok P a M H w nx (.alloc ty) v H' nx' := by
  unfold evNew at hr
  split at hr
  · rename_i h1
    split at hr
    · rename_i h2
      obtain ⟨h3, h4⟩ := grd_some hr
      simp only [evBox] at h4
      split at h4
      · rename_i h5
        obtain ⟨h6, h7⟩ := grd_some h4
        simp only [Option.some.injEq, Prod.mk.injEq] at h7
        obtain ⟨rfl, rfl, rfl⟩ := h7
        exact ok_new h (Nat.le_of_ble_eq_true h6) h1 h2 h3 h5
      · cases h4
    · cases hr
  · cases hr

theorem evSidx_ok (h : EI M H.get w) (hρ : ∀ x e, ρ x = some e → ER M e (a.eval x)) {t : Nat} {x i : Operand} {v : EV} {H' : EH} {nx' : Nat} (hr : evSidx P t (ρ x) (ρ i) H nx = some (v, H', nx')) : Ok P a M H w nx (.index t x i) v H' nx' := by
  unfold evSidx at hr
  split at hr
  · rename_i h1 h2 h3
    simp only [Option.map_eq_some_iff, Prod.mk.injEq] at hr
    obtain ⟨u, h4, rfl, rfl, rfl⟩ := hr
    exact ok_sidx h hρ h1 h2 h3 (Int.natCast_nonneg _) h4
  · cases hr

theorem evSlc_ok (h : EI M H.get w) (hρ : ∀ x e, ρ x = some e → ER M e (a.eval x)) {t : Nat} {x : Operand} {lo hi : Option Operand} {v : EV} {H' : EH} {nx' : Nat} (hr : evSlc P ρ t (some x) lo hi H nx = some (v, H', nx')) : Ok P a M H w nx (.slice t x lo hi none) v H' nx' := by
  simp only [evSlc, Option.bind_some] at hr
  split at hr
  · rename_i h1 h2
    split at hr
    · rename_i h3 h4
      obtain ⟨h5, h6⟩ := grd_some hr
      simp only [Option.some.injEq, Prod.mk.injEq] at h6
      obtain ⟨rfl, rfl, rfl⟩ := h6
      rw [Bool.and_eq_true] at h5
      exact ok_scut h hρ h1 h2 h3 h4 (Nat.le_of_ble_eq_true h5.1) (Nat.le_of_ble_eq_true h5.2)
    · cases hr
  · rename_i h1 h2
    split at hr
    · rename_i h3 h4 h5
      obtain ⟨h6, h7⟩ := grd_some hr
      simp only [Option.some.injEq, Prod.mk.injEq] at h7
      obtain ⟨rfl, rfl, rfl⟩ := h7
      simp only [Bool.and_eq_true] at h6
      exact ok_slc h hρ h1 h5 h2 h3 h4 (Nat.le_of_ble_eq_true h6.1.1.1) (Nat.le_of_ble_eq_true h6.1.1.2) (Nat.le_of_ble_eq_true h6.1.2) (Nat.le_of_ble_eq_true h6.2)
    · cases hr
  · cases hr

theorem evMki_ok (h : EI M H.get w) (hρ : ∀ x e, ρ x = some e → ER M e (a.eval x)) {t : Nat} {x : Operand} {v : EV} {H' : EH} {nx' : Nat} (hr : evMki P t (ρ x) H nx = some (v, H', nx')) : Ok P a M H w nx (.makeInterface t x) v H' nx' := by
  unfold evMki at hr
  split at hr
  · rename_i h1
    obtain ⟨h2, h3⟩ := grd_some hr
    simp only [Option.some.injEq, Prod.mk.injEq] at h3
    obtain ⟨rfl, rfl, rfl⟩ := h3
    exact ok_mki h hρ h2 h1
  · cases hr
end
end Go.Proofs.YtaopcacmfhdfkaaGreatDoor.Ev

namespace Go.Proofs.YtaopcacmfhdfkaaGreatDoor.Ev
open Go Go.RowKit Go.Proofs.YtaopcacmfhdfkaaGreatDoor.Vc
set_option linter.unusedSimpArgs false
set_option linter.unusedVariables false

/-- len -/
noncomputable def evLen (P : Program) (t : TypeId) (x : Option EV) (H : EH) (nx : Nat) : Rs :=
  match P.underlying t, x with
  | some (.slice _), some (.s _ _ _ n _) => some (.v (.int .i64 (n : Nat)), H, nx)
  | some (.slice _), some (.v (.slice none 0 0)) => some (.v (.int .i64 0), H, nx)
  | some .string, some (.v (.string s)) => some (.v (.int .i64 (s.size : Nat)), H, nx)
  | _, _ => none
noncomputable def evMm (mx : Bool) (x y : Option EV) (H : EH) (nx : Nat) : Rs :=
  match x, y with
  | some (.v (.int k u)), some (.v (.int k' v)) => grd (decide (k = k')) (some (.v (.int k (bif mx then max u v else min u v)), H, nx))
  | _, _ => none

/-- Is it nil? (Of a value by itself.) -/
noncomputable def nilV : Nat → Value → Option Bool
  | 0, .nilIface => some true
  | 0, .iface _ _ => some false
  | 1, .slice none 0 0 => some true
  | 1, .slice (some _) _ _ => some false
  | 2, .pointer none => some true
  | 2, .pointer (some _) => some false
  | _, _ => none
noncomputable def nilE : Nat → EV → Option Bool
  | 0, .v .nilIface => some true
  | 0, .x _ _ => some false
  | 1, .v (.slice none 0 0) => some true
  | 1, .s _ _ _ _ _ => some false
  | 2, .v (.pointer none) => some true
  | 2, .p _ _ => some false
  | _, _ => none
theorem nilE_ok {M : Nm} {k : Nat} {e : EV} {y : Value} {b : Bool} (hr : ER M e y) (h : nilE k e = some b) : nilV k y = some b := by
  unfold nilE at h
  split at h <;> first | cases h | skip
  all_goals simp only [ER] at hr
  all_goals first
    | (obtain ⟨_, rfl⟩ := hr; rfl)
    | (obtain ⟨_, rfl, _⟩ := hr; rfl)
    | (obtain ⟨_, _, _, _, _, _, rfl⟩ := hr; rfl)

/-- Is it nil: the comparison. -/
noncomputable def evNil (P : Program) (op : BinOp) (t : TypeId) (x : Option EV) (y : Operand) (H : EH) (nx : Nat) : Rs :=
  match isEq op, P.underlying t, x, y with
  | some ne, some td, some e, .const c => match nilKind td c with
    | some k => (nilE k e).map fun b => (.v (.bool (b != ne)), H, nx)
    | none => none
  | _, _, _, _ => none

/-- A pointer that isn't nil. -/
noncomputable def evNck (x : Option EV) (H : EH) (nx : Nat) : Rs :=
  match x with
  | some (.p b off) => some (.p b off, H, nx)
  | some (.g b off) => some (.g b off, H, nx)
  | some (.f fn fs cs) => match fn with | .func _ => some (.f fn fs cs, H, nx) | _ => none
  | _ => none

/-- A type asserted. -/
noncomputable def evTas (P : Program) (x : Option EV) (t : TypeId) (H : EH) (nx : Nat) : Rs :=
  match P.underlying t, P.info? t with
  | some (.interface _), _ => none
  | some _, some i => match i.zero with
    | some z => grd (plainAgg z) (match x with
      | some (.x t' y) => bif Nat.beq t' t then some (.t [y, .v (.bool true)], H, nx) else some (.t [evOf z, .v (.bool false)], H, nx)
      | some (.v .nilIface) => some (.t [evOf z, .v (.bool false)], H, nx)
      | _ => none)
    | none => none
  | _, _ => none

section
variable {nx : Nat} {M : Nm} {H : EH} {w : World} {P : Program} {a : Act} {ρ : Operand → Option EV}

theorem evLen_ok (h : EI M H.get w) (hρ : ∀ x e, ρ x = some e → ER M e (a.eval x)) {t : Nat} {x : Operand} {v : EV} {H' : EH} {nx' : Nat} (hr : evLen P t (ρ x) H nx = some (v, H', nx')) : Ok P a M H w nx (.call { callee := .builtin .len, args := #[x], argTypes := #[t] }) v H' nx' := by
  unfold evLen at hr
  split at hr <;> first | cases hr | skip
  · rename_i h1 h2; exact ok_lens h hρ h1 h2
  · rename_i h1 h2; exact ok_lenn h hρ h1 h2
  · rename_i h1 h2; exact ok_lenb h hρ h1 h2

theorem evMm_ok (h : EI M H.get w) (hρ : ∀ x e, ρ x = some e → ER M e (a.eval x)) {mx : Bool} {x y : Operand} {ts : Array Nat} {v : EV} {H' : EH} {nx' : Nat} (hr : evMm mx (ρ x) (ρ y) H nx = some (v, H', nx')) : Ok P a M H w nx (.call { callee := .builtin (bif mx then .max else .min), args := #[x, y], argTypes := ts }) v H' nx' := by
  unfold evMm at hr
  split at hr
  · rename_i h1 h2
    obtain ⟨h3, h4⟩ := grd_some hr
    simp only [Option.some.injEq, Prod.mk.injEq] at h4
    obtain ⟨rfl, rfl, rfl⟩ := h4
    obtain rfl := of_decide_eq_true h3
    exact ok_mm h hρ h1 h2
  · cases hr

theorem evApp_ok (h : EI M H.get w) (hρ : ∀ x e, ρ x = some e → ER M e (a.eval x)) {t : Nat} {x y : Operand} {v : EV} {H' : EH} {nx' : Nat} (hr : evApp P t (ρ x) (ρ y) H nx = some (v, H', nx')) : Ok P a M H w nx (.call { callee := .builtin .append, args := #[x, y], argTypes := #[t, t] }) v H' nx' := by
  unfold evApp at hr
  split at hr
  · rename_i e ht
    split at hr
    · rename_i ti hi
      split at hr
      · rename_i z hz
        obtain ⟨h1, hr⟩ := grd_some hr
        rw [Bool.and_eq_true] at h1
        have hzs : z.cells.size = ti.size := Nat.eq_of_beq_eq_true h1.1
        have hlim : nx < LIM := Nat.le_of_ble_eq_true h1.2
        split at hr
        · rename_i h2 h3
          simp only [Option.some.injEq, Prod.mk.injEq] at hr
          obtain ⟨rfl, rfl, rfl⟩ := hr
          exact ok_app_nz h hρ ht hi h2 h3
        · rename_i h2 h3
          simp only [Option.some.injEq, Prod.mk.injEq] at hr
          obtain ⟨rfl, rfl, rfl⟩ := hr
          exact ok_app_zero h hρ ht hi h2 h3
        · rename_i h2 h3
          split at hr
          · rename_i n cs hs
            obtain ⟨h4, h5⟩ := grd_some hr
            simp only [Option.some.injEq, Prod.mk.injEq] at h5
            obtain ⟨rfl, rfl, rfl⟩ := h5
            simp only [Bool.and_eq_true] at h4
            exact ok_app_nil h hρ hlim ht hi hz hzs h2 h3 hs (Nat.le_of_ble_eq_true h4.1.1) (Nat.le_of_ble_eq_true h4.1.2) (Nat.le_of_ble_eq_true h4.2)
          · cases hr
        · rename_i ex b off m c ey _ h2 h3
          split at hr
          · rename_i n cs e' sz ex' old hs hb
            obtain ⟨h4, hr⟩ := grd_some hr
            simp only [Bool.and_eq_true] at h4
            obtain rfl := Nat.eq_of_beq_eq_true h4.1.1
            have hbt := Nat.le_of_ble_eq_true h4.1.2
            have h63 := Nat.le_of_ble_eq_true h4.2
            cases hroom : Nat.ble (m + n) c with
            | true =>
              rw [hroom] at hr
              simp only [cond_true] at hr
              obtain ⟨h5, h6⟩ := grd_some hr
              simp only [Option.some.injEq, Prod.mk.injEq] at h6
              obtain ⟨rfl, rfl, rfl⟩ := h6
              rw [Bool.and_eq_true] at h5
              obtain rfl := Nat.eq_of_beq_eq_true h5.1
              exact ok_app_room h hρ ht hi h2 hb h3 hs (Nat.le_of_ble_eq_true hroom) (Nat.le_of_ble_eq_true h5.2)
            | false =>
              have hfull : c < m + n := by
                have : ¬ (m + n ≤ c) := fun hle => by rw [Nat.ble_eq_true_of_le hle] at hroom; cases hroom
                omega
              rw [hroom] at hr
              simp only [cond_false] at hr
              cases hex : ex with
              | true =>
                subst hex
                simp only [cond_true] at hr
                obtain ⟨h5, h6⟩ := grd_some hr
                simp only [Option.some.injEq, Prod.mk.injEq] at h6
                obtain ⟨rfl, rfl, rfl⟩ := h6
                refine ok_app_ex h hρ hlim ht hi hz hzs h2 ?_ h3 hs hfull hbt h63
                simp only [srcE, hb, h5, cond_true]
              | false =>
                subst hex
                simp only [cond_false] at hr
                obtain ⟨h5, h6⟩ := grd_some hr
                simp only [Option.some.injEq, Prod.mk.injEq] at h6
                obtain ⟨rfl, rfl, rfl⟩ := h6
                simp only [Bool.and_eq_true, Bool.not_eq_true'] at h5
                obtain rfl := Nat.eq_of_beq_eq_true h5.1.1.1
                obtain rfl := Nat.eq_of_beq_eq_true h5.1.1.2
                obtain rfl := h5.1.2
                exact ok_app_in h hρ hlim ht hi hz hzs h2 hb (Nat.le_of_ble_eq_true h5.2) h3 hs hfull hbt h63
          · cases hr
        · cases hr
      · cases hr
    · cases hr
  · cases hr

theorem run_nilV {x : Operand} {c u : Value} {td : TypeDesc} {t k : Nat} {b : Bool} (ht : P.underlying t = some td) (hc : nilKind td c = some k) (hx : nilV k u = some b) (ne : Bool) :
    (do eqGuard (bif ne then .neq else .eql) t x (.const c) u c; binOp (bif ne then .neq else .eql) t u c : Sem Value).run P w = .ok (.bool (b != ne)) w := by
  have key : (Op.equal t u c).run P w = .ok b w ∧ (eqGuard (bif ne then .neq else .eql) t x (.const c) u c).run P w = .ok () w ∧ ∀ op, (op = .eql ∨ op = .neq) → binOp op t u c = (match op with | .eql => do pure (.bool (← Op.equal t u c)) | _ => do pure (.bool (!(← Op.equal t u c)))) := by
    unfold nilKind at hc
    split at hc <;> first | cases hc | skip
    all_goals
      unfold nilV at hx
      split at hx <;> first | (cases hx; done) | (simp_all; done) | skip
      all_goals
        obtain rfl := Option.some.inj hx
        refine ⟨?_, ?_, ?_⟩
        · unfold Op.equal
          rw [show Op.maxDepth = 9999 + 1 from rfl, Op.equalIn]
          simp only [Sem.run_bind, run_underlying ht, Result.andThen_ok]
          rfl
        · cases ne <;> simp [eqGuard]
        · rintro op (rfl | rfl) <;> rfl
  obtain ⟨h1, h2, h3⟩ := key
  rw [Sem.run_bind, h2]
  cases ne
  · simp only [cond_false, Result.andThen_ok, h3 _ (.inl rfl)]
    rw [Sem.run_bind, h1]; simp
  · simp only [cond_true, Result.andThen_ok, h3 _ (.inr rfl)]
    rw [Sem.run_bind, h1]; simp

theorem evNil_ok (h : EI M H.get w) (hρ : ∀ x e, ρ x = some e → ER M e (a.eval x)) {op : BinOp} {t ty : TypeId} {x y : Operand} {v : EV} {H' : EH} {nx' : Nat} (hr : evNil P op t (ρ x) y H nx = some (v, H', nx')) : Ok P a M H w nx (.binOp op t x y ty) v H' nx' := by
  unfold evNil at hr
  split at hr
  · rename_i ne td e c h1 h2 h3
    split at hr
    · rename_i k h4
      simp only [Option.map_eq_some_iff, Prod.mk.injEq] at hr
      obtain ⟨b, h5, rfl, rfl, rfl⟩ := hr
      have hop : op = (bif ne then .neq else .eql) := by unfold isEq at h1; split at h1 <;> cases h1 <;> rfl
      subst hop
      refine .pure h (y := .bool (b != ne)) (fun o ho => ?_) (er_v rfl)
      have := run_nilV (P := P) (w := w) (x := x) h2 h4 (nilE_ok (hρ _ _ h3) h5) ne
      have hev : a.eval (.const c) = c := rfl
      simp only [execOp, ho, hev]
      rw [Sem.run_bind, this]; rfl
    · cases hr
  · cases hr

theorem evNck_ok (h : EI M H.get w) (hρ : ∀ x e, ρ x = some e → ER M e (a.eval x)) {x : Operand} {v : EV} {H' : EH} {nx' : Nat} (hr : evNck (ρ x) H nx = some (v, H', nx')) : Ok P a M H w nx (.nilCheck x) v H' nx' := by
  unfold evNck at hr
  split at hr
  · rename_i h1
    simp only [Option.some.injEq, Prod.mk.injEq] at hr
    obtain ⟨rfl, rfl, rfl⟩ := hr
    have h2 := hρ _ _ h1
    have h3 := h2
    simp only [ER] at h3
    exact .pure h (y := a.eval x) (fun o ho => by simp [execOp, ho, h3.2]) h2
  · rename_i h1
    simp only [Option.some.injEq, Prod.mk.injEq] at hr
    obtain ⟨rfl, rfl, rfl⟩ := hr
    have h2 := hρ _ _ h1
    have h3 := h2
    simp only [ER] at h3
    exact .pure h (y := a.eval x) (fun o ho => by simp [execOp, ho, h3.2]) h2
  · rename_i h1
    split at hr
    · simp only [Option.some.injEq, Prod.mk.injEq] at hr
      obtain ⟨rfl, rfl, rfl⟩ := hr
      have h2 := hρ _ _ h1
      have h3 := h2
      simp only [ER] at h3
      obtain ⟨vs, us, he, _⟩ := h3
      exact .pure h (y := a.eval x) (fun o ho => by simp [execOp, ho, he]) h2
    · cases hr
  · cases hr

theorem er_pair {e : EV} {y : Value} {b : Bool} (h : ER M e y) : ER M (.t [e, .v (.bool b)]) (.tuple #[y, .bool b]) := by
  simp only [ER]
  exact ⟨[y, .bool b], rfl, by simp only [ERL]; exact ⟨_, _, rfl, h, _, _, rfl, er_v rfl, rfl⟩⟩

theorem evTas_ok (h : EI M H.get w) (hρ : ∀ x e, ρ x = some e → ER M e (a.eval x)) {x : Operand} {t xt : TypeId} {v : EV} {H' : EH} {nx' : Nat} (hr : evTas P (ρ x) t H nx = some (v, H', nx')) : Ok P a M H w nx (.typeAssert x xt t true) v H' nx' := by
  unfold evTas at hr
  split at hr
  · cases hr
  · rename_i d i hne h0 hi
    have hd : ∀ ms, d ≠ .interface ms := fun ms e => hne ms e
    split at hr
    · rename_i z hz
      obtain ⟨hp, hr⟩ := grd_some hr
      split at hr
      · rename_i t' y h1
        have h2 := hρ _ _ h1
        simp only [ER] at h2
        obtain ⟨u, he, h2⟩ := h2
        cases hb : Nat.beq t' t with
        | true =>
          obtain rfl := Nat.eq_of_beq_eq_true hb
          rw [hb] at hr
          simp only [cond_true, Option.some.injEq, Prod.mk.injEq] at hr
          obtain ⟨rfl, rfl, rfl⟩ := hr
          exact .pure h (y := .tuple #[u, .bool true]) (fun o ho => by simp [execOp, ho, he, run_tas_hit h0 hd]) (er_pair h2)
        | false =>
          have hn : t' ≠ t := by rintro rfl; rw [Nat.beq_refl] at hb; cases hb
          rw [hb] at hr
          simp only [cond_false, Option.some.injEq, Prod.mk.injEq] at hr
          obtain ⟨rfl, rfl, rfl⟩ := hr
          exact .pure h (y := .tuple #[z, .bool false]) (fun o ho => by simp [execOp, ho, he, run_tas_miss h0 hd hi hz hn]) (er_pair (er_evOf hp).1)
      · rename_i h1
        have he := of_v (hρ _ _ h1)
        simp only [Option.some.injEq, Prod.mk.injEq] at hr
        obtain ⟨rfl, rfl, rfl⟩ := hr
        exact .pure h (y := .tuple #[z, .bool false]) (fun o ho => by simp [execOp, ho, he, run_tas_nil h0 hd hi hz]) (er_pair (er_evOf hp).1)
      · cases hr
    · cases hr
  · cases hr
end
end Go.Proofs.YtaopcacmfhdfkaaGreatDoor.Ev

namespace Go.Proofs.YtaopcacmfhdfkaaGreatDoor.Ev
open Go Go.RowKit Go.Proofs.YtaopcacmfhdfkaaGreatDoor.Vc
set_option linter.unusedSimpArgs false
set_option linter.unusedVariables false

/-- Parts put into their places. -/
noncomputable def fillE : List EV → List (Nat × Nat × EV) → Option (List EV)
  | l, [] => some l
  | l, (off, sz, v) :: ps => match cellsE v with
    | some c => grd (Nat.beq c.length sz && Nat.ble (off + sz) l.length) (fillE (setL l off c) ps)
    | none => none

section
variable {nx : Nat} {M : Nm} {H : EH} {w : World} {P : Program} {a : Act} {ρ : Operand → Option EV}

theorem fillE_ok {place : Nat → Option (Nat × Nat)} : ∀ (ps : List (Nat × Nat × EV)) (qs : List (Nat × Value)) (l r : List EV) (arr : Array Value),
    ERL M l arr.toList → (∀ u ∈ arr.toList, u.oneCell' = true) → ps.length = qs.length →
    (∀ (i : Nat) (p : Nat × Nat × EV) (q : Nat × Value), ps[i]? = some p → qs[i]? = some q → place q.1 = some (p.1, p.2.1) ∧ ER M p.2.2 q.2) →
    fillE l ps = some r → ∃ arr', Instr.fill place arr qs = some arr' ∧ ERL M r arr'.toList ∧ ∀ u ∈ arr'.toList, u.oneCell' = true
  | [], [], l, r, arr, h, h1, _, _, hf => by
    simp only [fillE, Option.some.injEq] at hf; subst hf
    exact ⟨arr, rfl, h, h1⟩
  | [], _ :: _, _, _, _, _, _, hl, _, _ => by simp at hl
  | _ :: _, [], _, _, _, _, _, hl, _, _ => by simp at hl
  | (off, sz, v) :: ps, (i, y) :: qs, l, r, arr, h, h1, hl, hp, hf => by
    simp only [fillE] at hf
    split at hf
    · rename_i c hc
      obtain ⟨hcond, hf⟩ := grd_some hf
      rw [Bool.and_eq_true] at hcond
      have hc1 := Nat.eq_of_beq_eq_true hcond.1
      have hc2 := Nat.le_of_ble_eq_true hcond.2
      obtain ⟨hpl, hv⟩ := hp 0 _ _ rfl rfl
      obtain ⟨h2, h2'⟩ := cellsE_ok hv hc
      have h3 := h2.length
      have h4 := h.length
      have hsz : y.cells.size = sz := by rw [← Array.length_toList, h3]; exact hc1
      have hfit : off + y.cells.size ≤ arr.size := by rw [hsz, ← Array.length_toList, h4]; exact hc2
      have hset := foldl_setA y.cells arr off hfit
      obtain ⟨arr', h5, h6⟩ := fillE_ok (place := place) ps qs (setL l off c) r (y.cells.zipIdx.foldl (fun cs x => cs.setIfInBounds (off + x.2) x.1) arr)
        (by rw [hset]; exact h.setL h2)
        (by
          rw [hset]
          intro u hu
          unfold setL at hu
          simp only [List.append_assoc, List.mem_append] at hu
          rcases hu with hu | hu | hu
          · exact h1 u (List.mem_of_mem_take hu)
          · exact h2' u hu
          · exact h1 u (List.mem_of_mem_drop hu))
        (by simpa using hl)
        (fun j p q hj hq => hp (j + 1) p q (by simpa using hj) (by simpa using hq)) hf
      refine ⟨arr', ?_, h6⟩
      simp only at hpl
      simp only [Instr.fill, hpl]
      rw [if_neg (by simp only [Bool.or_eq_true, decide_eq_true_eq, not_or]; omega)]
      exact h5
    · cases hf

/-- Parts of a struct. -/
noncomputable def partsE (ls : List (Nat × Nat)) (ρ : Operand → Option EV) : List (Nat × Operand) → Option (List (Nat × Nat × EV))
  | [] => some []
  | (i, x) :: ps => match ls[i]?, ρ x, partsE ls ρ ps with
    | some (o, s), some e, some r => some ((o, s, e) :: r)
    | _, _, _ => none
theorem partsE_ok (hρ : ∀ x e, ρ x = some e → ER M e (a.eval x)) {ls : List (Nat × Nat)} : ∀ {ps : List (Nat × Operand)} {r : List (Nat × Nat × EV)}, partsE ls ρ ps = some r → r.length = ps.length ∧ ∀ (i : Nat) (p : Nat × Nat × EV) (q : Nat × Value), r[i]? = some p → (ps.map fun q => (q.1, a.eval q.2))[i]? = some q → ls[q.1]? = some (p.1, p.2.1) ∧ ER M p.2.2 q.2
  | [], r, h => by simp only [partsE, Option.some.injEq] at h; subst h; simp
  | (i, x) :: ps, r, h => by
    simp only [partsE] at h
    split at h
    · rename_i o s e r' h1 h2 h3
      obtain rfl := Option.some.inj h
      obtain ⟨h4, h5⟩ := partsE_ok hρ h3
      refine ⟨by simp [h4], fun j p q hp hq => ?_⟩
      cases j with
      | zero =>
        simp at hp hq
        subst hp; subst hq
        exact ⟨h1, hρ _ _ h2⟩
      | succ j => exact h5 j p q (by simpa using hp) (by simpa using hq)
    · cases h

/-- Parts of an array. -/
noncomputable def partsA (sz : Nat) (ρ : Operand → Option EV) : List (Nat × Operand) → Option (List (Nat × Nat × EV))
  | [] => some []
  | (i, x) :: ps => match ρ x, partsA sz ρ ps with
    | some e, some r => some ((i * sz, sz, e) :: r)
    | _, _ => none
theorem partsA_ok (hρ : ∀ x e, ρ x = some e → ER M e (a.eval x)) {sz : Nat} : ∀ {ps : List (Nat × Operand)} {r : List (Nat × Nat × EV)}, partsA sz ρ ps = some r → r.length = ps.length ∧ ∀ (i : Nat) (p : Nat × Nat × EV) (q : Nat × Value), r[i]? = some p → (ps.map fun q => (q.1, a.eval q.2))[i]? = some q → (some (q.1 * sz, sz) = some (p.1, p.2.1)) ∧ ER M p.2.2 q.2
  | [], r, h => by simp only [partsA, Option.some.injEq] at h; subst h; simp
  | (i, x) :: ps, r, h => by
    simp only [partsA] at h
    split at h
    · rename_i e r' h2 h3
      obtain rfl := Option.some.inj h
      obtain ⟨h4, h5⟩ := partsA_ok hρ h3
      refine ⟨by simp [h4], fun j p q hp hq => ?_⟩
      cases j with
      | zero =>
        simp at hp hq
        subst hp; subst hq
        exact ⟨rfl, hρ _ _ h2⟩
      | succ j => exact h5 j p q (by simpa using hp) (by simpa using hq)
    · cases h

noncomputable def evBld (P : Program) (t : TypeId) (parts : List (Nat × Operand)) (ρ : Operand → Option EV) (H : EH) (nx : Nat) : Rs :=
  match P.underlying t, P.info? t with
  | some (.struct fs), some i => match i.zero with
    | some (.agg zs) => grd (zs.toList.all fun v => plain v && v.oneCell') (match (fs.toList.mapM fun f => (P.info? f.type).map fun i => (f.offset, i.size)) with
      | some ls => match partsE ls ρ parts with
        | some ps => (fillE (zs.toList.map .v) ps).map fun r => (.a r, H, nx)
        | none => none
      | none => none)
    | _ => none
  | some (.array _ e), some i => match i.zero, P.info? e with
    | some (.agg zs), some ie => grd (zs.toList.all fun v => plain v && v.oneCell') (match partsA ie.size ρ parts with
      | some ps => (fillE (zs.toList.map .v) ps).map fun r => (.a r, H, nx)
      | none => none)
    | _, _ => none
  | _, _ => none

theorem evBld_ok (h : EI M H.get w) (hρ : ∀ x e, ρ x = some e → ER M e (a.eval x)) {t : TypeId} {parts : Array (Nat × Operand)} {v : EV} {H' : EH} {nx' : Nat} (hr : evBld P t parts.toList ρ H nx = some (v, H', nx')) : Ok P a M H w nx (.build t parts) v H' nx' := by
  unfold evBld at hr
  split at hr
  · rename_i fs i ht hi
    split at hr
    · rename_i zs hz
      obtain ⟨hp, hr⟩ := grd_some hr
      split at hr
      · rename_i ls hls
        split at hr
        · rename_i ps hps
          simp only [Option.map_eq_some_iff, Prod.mk.injEq] at hr
          obtain ⟨r, hfill, rfl, rfl, rfl⟩ := hr
          obtain ⟨hlen, hparts⟩ := partsE_ok hρ hps
          obtain ⟨arr', h1, h2, h3⟩ := fillE_ok (place := (ls[·]?)) ps ((parts.map fun q => (q.1, a.eval q.2)).toList) (zs.toList.map .v) r zs (erl_plain hp)
            (by simp only [List.all_eq_true, Bool.and_eq_true] at hp; exact fun u hu => (hp u hu).2) (by simp [hlen]) (fun j p q hj hq => hparts j p q hj (by simpa using hq)) hfill
          refine .pure h (y := .agg arr') (fun o ho => ?_) ?_
          · have hm := run_mapM_places (P := P) (w := w) (mapM_opt hls)
            simp only [bind_pure_comp] at hm
            simp only [Array.toList_map] at h1
            simp [execOp, ho, Instr.build, zeroValue, typeInfo, hi, hz, run_underlying ht, hm, Value.cells, h1]
          · simp only [ER]; exact ⟨arr'.toList, by simp, h3, h2⟩
        · cases hr
      · cases hr
    · cases hr
  · rename_i ln e i ht hi
    split at hr
    · rename_i zs ie hz hie
      obtain ⟨hp, hr⟩ := grd_some hr
      split at hr
      · rename_i ps hps
        simp only [Option.map_eq_some_iff, Prod.mk.injEq] at hr
        obtain ⟨r, hfill, rfl, rfl, rfl⟩ := hr
        obtain ⟨hlen, hparts⟩ := partsA_ok hρ hps
        obtain ⟨arr', h1, h2, h3⟩ := fillE_ok (place := fun i => some (i * ie.size, ie.size)) ps ((parts.map fun q => (q.1, a.eval q.2)).toList) (zs.toList.map .v) r zs (erl_plain hp)
          (by simp only [List.all_eq_true, Bool.and_eq_true] at hp; exact fun u hu => (hp u hu).2) (by simp [hlen]) (fun j p q hj hq => hparts j p q hj (by simpa using hq)) hfill
        refine .pure h (y := .agg arr') (fun o ho => ?_) ?_
        · simp only [Array.toList_map] at h1
          simp [execOp, ho, Instr.build, zeroValue, typeInfo, hi, hz, run_underlying ht, sizeOf, hie, Value.cells, h1]
        · simp only [ER]; exact ⟨arr'.toList, by simp, h3, h2⟩
      · cases hr
    · cases hr
  · cases hr
end
end Go.Proofs.YtaopcacmfhdfkaaGreatDoor.Ev

namespace Go.Proofs.YtaopcacmfhdfkaaGreatDoor.Ev
open Go Go.RowKit Go.Proofs.YtaopcacmfhdfkaaGreatDoor.Vc
set_option linter.unusedSimpArgs false
set_option linter.unusedVariables false

/-- Elements, cell by cell. -/
noncomputable def flatE (sz : Nat) : List EV → Option (List EV)
  | [] => some []
  | e :: es => match cellsE e, flatE sz es with
    | some c, some r => grd (Nat.beq c.length sz) (some (c ++ r))
    | _, _ => none
noncomputable def idxB : Nat → List (Nat × Operand) → Bool
  | _, [] => true
  | k, p :: ps => Nat.beq p.1 k && idxB (k + 1) ps

section
variable {nx : Nat} {M : Nm} {H : EH} {w : World} {P : Program} {a : Act} {ρ : Operand → Option EV}

theorem flatE_ok {sz : Nat} : ∀ {es : List EV} {ys : List Value} {r : List EV}, ERL M es ys → flatE sz es = some r → ERL M r (ys.flatMap (·.cells.toList)) ∧ (∀ y ∈ ys, y.cells.toList.length = sz) ∧ ∀ u ∈ ys.flatMap (·.cells.toList), u.oneCell' = true
  | [], ys, r, h, hf => by
    simp only [ERL] at h; subst h
    simp only [flatE, Option.some.injEq] at hf; subst hf
    simp [ERL]
  | e :: es, ys, r, h, hf => by
    simp only [ERL] at h
    obtain ⟨u, us, rfl, h1, h2⟩ := h
    simp only [flatE] at hf
    split at hf
    · rename_i c r' hc hr
      obtain ⟨hl, hf⟩ := grd_some hf
      obtain rfl := Option.some.inj hf
      obtain ⟨h3, h4⟩ := cellsE_ok h1 hc
      obtain ⟨h5, h6, h7⟩ := flatE_ok h2 hr
      refine ⟨by rw [List.flatMap_cons]; exact h3.append h5, fun y hy => ?_, fun v hv => ?_⟩
      · rcases List.mem_cons.1 hy with rfl | hy
        · rw [h3.length]; exact Nat.eq_of_beq_eq_true hl
        · exact h6 y hy
      · rw [List.flatMap_cons, List.mem_append] at hv
        exact hv.elim (h4 v) (h7 v)
    · cases hf

theorem idxB_ok : ∀ {ps : List (Nat × Operand)} {k : Nat}, idxB k ps = true → ps.map (fun q => (q.1, a.eval q.2)) = (List.range' k (ps.map fun q => a.eval q.2).length).zip (ps.map fun q => a.eval q.2)
  | [], k, _ => by simp
  | p :: ps, k, h => by
    simp only [idxB, Bool.and_eq_true] at h
    obtain rfl := Nat.eq_of_beq_eq_true h.1
    simp only [List.map_cons, List.length_cons, List.range'_succ, List.zip_cons_cons]
    rw [idxB_ok h.2]

/-- A row of just so many elements. -/
theorem EI.row (h : EI M H.get w) (hn : ¬ M.d nx) (hl : nx < LIM) {e sz m l : Nat} {cs : List EV} {C : Array Value} (hlm : l ≤ m) (hr : ERL M cs C.toList) (h1 : ∀ u ∈ C.toList, u.oneCell' = true) :
    ∃ M', EI M' (H.set FU nx (some (.row e sz true cs))).get (w.alloc (.cells C e)) ∧ Stp M H.get w M' (H.set FU nx (some (.row e sz true cs))).get (w.alloc (.cells C e)) ∧ (∀ b, M'.d b → M.d b ∨ b = nx) ∧
      ER M' (.s true nx 0 l m) (.slice (some ⟨w.heap.size, 0, none⟩) l m) := by
  have hle := M.le_new hn w.heap.size 0
  have hlen := hr.length
  obtain ⟨h3, h4⟩ := h.alloc (o := .row e sz true cs) (c := .cells C e) (κ := 0) hn hl ⟨C, rfl, by rw [← Array.length_toList, hlen]; exact Nat.le_refl _, fun _ => by rw [← Array.length_toList, hlen], (by intro h; cases h), fun i x hx => by
    obtain ⟨u, h5, h6⟩ := hr.get i x hx
    exact ⟨u, by simpa using h5, h6.mono hle _ _, h1 u (List.mem_of_getElem? h5)⟩⟩
  refine ⟨_, h3, h4, fun _ hb => hb, ?_⟩
  simp only [ER]
  exact ⟨.inr rfl, hlm, m, Nat.le_refl _, fun _ => rfl, (by intro h; cases h), by rw [show (M.new nx w.heap.size 0).m nx = w.heap.size from upd_same _ _ _]⟩

noncomputable def evBsl (P : Program) (t m : Nat) (parts : List (Nat × Operand)) (ρ : Operand → Option EV) (H : EH) (nx : Nat) : Rs :=
  match P.underlying t with
  | some (.slice e) => match P.info? e with
    | some ti => match ti.zero with
      | some z => grd (Nat.beq z.cells.size ti.size && Nat.ble (m * ti.size) 16777216 && Nat.beq parts.length m && idxB 0 parts && Nat.blt nx LIM) (match mapE ρ (parts.map (·.2)) with
        | some es => match flatE ti.size es with
          | some cs => some (.s true nx 0 m m, H.set FU nx (some (.row e ti.size true cs)), nx + 1)
          | none => none
        | none => none)
      | none => none
    | none => none
  | _ => none

theorem evBsl_ok (h : EI M H.get w) (hρ : ∀ x e, ρ x = some e → ER M e (a.eval x)) {t m : Nat} {parts : Array (Nat × Operand)} {v : EV} {H' : EH} {nx' : Nat} (hr : evBsl P t m parts.toList ρ H nx = some (v, H', nx')) : Ok P a M H w nx (.buildSlice t m parts) v H' nx' := by
  unfold evBsl at hr
  split at hr
  · rename_i e ht
    split at hr
    · rename_i ti hi
      split at hr
      · rename_i z hz
        obtain ⟨hg, hr⟩ := grd_some hr
        simp only [Bool.and_eq_true] at hg
        obtain ⟨⟨⟨⟨_, hsz⟩, hpl⟩, hidx⟩, hlim⟩ := hg
        replace hsz := Nat.le_of_ble_eq_true hsz
        replace hpl := Nat.eq_of_beq_eq_true hpl
        split at hr
        · rename_i es hes
          split at hr
          · rename_i cs hcs
            simp only [Option.some.injEq, Prod.mk.injEq] at hr
            obtain ⟨rfl, rfl, rfl⟩ := hr
            have hval := mapE_ok hρ hes
            obtain ⟨h1, h2, h3⟩ := flatE_ok hval hcs
            rw [List.map_map] at h1 h2 h3
            have hys : (parts.toList.map (fun q => a.eval q.2)).length = m := by simp only [List.length_map]; exact hpl
            have hfun : (a.eval ∘ fun x : Nat × Operand => x.2) = fun q => a.eval q.2 := rfl
            rw [hfun] at h1 h2 h3
            obtain ⟨arr', h4, h5⟩ := fill_seq (sz := ti.size) (parts.toList.map fun q => a.eval q.2) 0 ((Array.range (m * ti.size)).map ((if m * ti.size = 0 then #[] else z.cells)[· % (if m * ti.size = 0 then #[] else z.cells).size]!)) h2 (by rw [hys]; simp)
            simp only [Nat.zero_mul, List.take_zero, List.nil_append] at h5
            refine .one fun hn => ?_
            obtain ⟨M', h6, h7, h8, h9⟩ := h.row (e := e) (sz := ti.size) (m := m) (l := m) (cs := cs) (C := arr') hn (Nat.le_of_ble_eq_true hlim) (Nat.le_refl _) (by rw [h5]; exact h1) (by rw [h5]; exact h3)
            intro o ho
            refine ⟨_, _, M', ?_, h6, h7, h8, h9⟩
            rw [← idxB_ok hidx] at h4
            by_cases h0 : m * ti.size = 0
            · simp only [h0, if_true] at h4
              have h4' := h4
              simp only [Array.range_zero', Array.map_empty] at h4'
              simp [execOp, ho, Instr.buildSlice, run_underlying ht, sizeOf, typeInfo, hi, h0, h4', newRow, Array.range_zero']
            · simp only [h0, if_false] at h4
              have hsz' : ¬ (16777216 < m * ti.size) := by omega
              simp [execOp, ho, Instr.buildSlice, run_underlying ht, sizeOf, typeInfo, hi, hsz', h0, zeroValue, hz, h4, newRow]
          · cases hr
        · cases hr
      · cases hr
    · cases hr
  · cases hr

/-- So many times. -/
noncomputable def repE : Nat → List EV → List EV → List EV
  | 0, _, acc => acc
  | n + 1, c, acc => repE n c (c ++ acc)
theorem repE_eq : ∀ (n : Nat) (c acc : List EV), repE n c acc = (List.replicate n c).flatten ++ acc
  | 0, c, acc => by simp [repE]
  | n + 1, c, acc => by
    rw [repE, repE_eq n, List.replicate_succ', List.flatten_append]
    simp

noncomputable def evMks (P : Program) (t : Nat) (x y : Option EV) (H : EH) (nx : Nat) : Rs :=
  match P.underlying t, x, y with
  | some (.slice e), some (.v (.int _ (.ofNat l))), some (.v (.int _ (.ofNat m))) => match P.info? e with
    | some ti => match ti.zero with
      | some z => grd (plainAgg z && Nat.beq z.cells.size ti.size && Nat.ble l m && Nat.ble (ti.bytes * m) 281474976710656 && Nat.ble m 9223372036854775807 && Nat.blt nx LIM) (match cellsE (evOf z) with
        | some c => some (.s true nx 0 l m, H.set FU nx (some (.row e ti.size true (repE m c []))), nx + 1)
        | none => none)
      | none => none
    | none => none
  | _, _, _ => none

theorem erl_made {z : Array Value} {c : List EV} (hc : ERL M c z.toList) : ∀ (m : Nat), ERL M (List.replicate m c).flatten (madeCells z (m * z.size)).toList := by
  intro m
  have hl := hc.length
  rw [Array.length_toList] at hl
  refine .of_get ?_ fun i x hx => ?_
  · have : (madeCells z (m * z.size)).size = m * z.size := size_madeCells _ _
    rw [Array.length_toList, this]
    simp [List.length_flatten, hl]
  · have hlt := (List.getElem?_eq_some_iff.1 hx).1
    have hlen : (List.replicate m c).flatten.length = m * z.size := by simp [List.length_flatten, hl]
    rw [hlen] at hlt
    have hz : 0 < z.size := by rcases Nat.eq_zero_or_pos z.size with h0 | h0; · simp [h0] at hlt
                               · exact h0
    have hq : ∀ (m : Nat) (i : Nat), i < m * z.size → (List.replicate m c).flatten[i]? = c[i % z.size]? := by
      intro m
      induction m with
      | zero => intro i hi; simp at hi
      | succ m ih =>
        intro i hi
        rw [List.replicate_succ, List.flatten_cons]
        by_cases h1 : i < z.size
        · rw [List.getElem?_append_left (by omega), Nat.mod_eq_of_lt h1]
        · rw [List.getElem?_append_right (by omega), ← hl, ih (i - z.size) (by rw [Nat.add_mul] at hi; omega)]
          congr 1
          conv => rhs; rw [show i = (i - z.size) + z.size by omega]
          rw [Nat.add_mod_right]
    rw [hq m i hlt] at hx
    obtain ⟨y, h1, h2⟩ := hc.get _ _ hx
    exact ⟨y, by rw [madeCells_get _ _ _ hlt]; exact h1, h2⟩

theorem evMks_ok (h : EI M H.get w) (hρ : ∀ x e, ρ x = some e → ER M e (a.eval x)) {t : Nat} {x y : Operand} {v : EV} {H' : EH} {nx' : Nat} (hr : evMks P t (ρ x) (ρ y) H nx = some (v, H', nx')) : Ok P a M H w nx (.makeSlice t x y) v H' nx' := by
  unfold evMks at hr
  split at hr
  · rename_i e k l k' m ht hx hy
    split at hr
    · rename_i ti hi
      split at hr
      · rename_i z hz
        obtain ⟨hg, hr⟩ := grd_some hr
        simp only [Bool.and_eq_true] at hg
        obtain ⟨⟨⟨⟨⟨hp, hzs⟩, hlm⟩, hb⟩, h63⟩, hlim⟩ := hg
        replace hlm := Nat.le_of_ble_eq_true hlm
        have hzs := Nat.eq_of_beq_eq_true hzs
        have hb := Nat.le_of_ble_eq_true hb
        have h63 := Nat.le_of_ble_eq_true h63
        split at hr
        · rename_i c hc
          simp only [Option.some.injEq, Prod.mk.injEq] at hr
          obtain ⟨rfl, rfl, rfl⟩ := hr
          have h1 := of_v (hρ _ _ hx)
          have h2 := of_v (hρ _ _ hy)
          obtain ⟨h3, h4⟩ := cellsE_ok (er_evOf hp).1 hc
          have hrun := run_make (P := P) w t e ti z ht hi hz k k' (l : Int) (m : Int) (Int.natCast_nonneg _) (Int.ofNat_le.2 hlm) (by rw [← Int.natCast_mul]; exact Int.ofNat_le.2 hb) (Int.ofNat_le.2 h63)
          simp only [Int.toNat_natCast] at hrun
          have hrow := erl_made (M := M) h3 m
          rw [hzs] at hrow
          refine .one fun hn => ?_
          obtain ⟨M', h6, h7, h8, h9⟩ := h.row (e := e) (sz := ti.size) (m := m) (l := l) (cs := repE m c []) (C := madeCells z.cells (m * ti.size)) hn (Nat.le_of_ble_eq_true hlim) hlm (by rw [repE_eq, List.append_nil]; exact hrow) (fun u hu => by
            obtain ⟨i, hi'⟩ := List.mem_iff_getElem?.1 hu
            have hlt := (List.getElem?_eq_some_iff.1 hi').1
            rw [Array.length_toList, size_madeCells] at hlt
            rw [← hzs] at hi' hlt
            rw [madeCells_get _ _ _ hlt] at hi'
            exact h4 u (List.mem_of_getElem? hi'))
          exact fun o ho => ⟨_, _, M', by simp [execOp, ho, h1, h2, hrun], h6, h7, h8, h9⟩
        · cases hr
      · cases hr
    · cases hr
  · cases hr
end
end Go.Proofs.YtaopcacmfhdfkaaGreatDoor.Ev

namespace Go.Proofs.YtaopcacmfhdfkaaGreatDoor.Ev
open Go Go.RowKit Go.Proofs.YtaopcacmfhdfkaaGreatDoor.Vc
set_option linter.unusedSimpArgs false
set_option linter.unusedVariables false

/-- Whether two structs of whole numbers are alike, field by field. -/
noncomputable def eqE : List Nat → List EV → List EV → Option Bool
  | [], _, _ => some true
  | f :: fs, xs, ys => match xs[f]?, ys[f]? with
    | some (.v (.int k a)), some (.v (.int k' b)) => grd (decide (k = k')) ((eqE fs xs ys).map fun r => (a == b) && r)
    | _, _ => none
noncomputable def evAeq (P : Program) (op : BinOp) (t : TypeId) (x y : Option EV) (H : EH) (nx : Nat) : Rs :=
  match isEq op, x, y with
  | some ne, some (.a xs), some (.a ys) => match structInts P t with
    | some fs => (eqE fs xs ys).map fun r => (.v (.bool (bif ne then !r else r)), H, nx)
    | none => none
  | _, _, _ => none

section
variable {nx : Nat} {M : Nm} {H : EH} {w : World} {P : Program} {a : Act} {ρ : Operand → Option EV}

theorem run_eqFieldsE {d : Nat} {xs ys : List EV} {X Y : List Value} (hx : ERL M xs X) (hy : ERL M ys Y) : ∀ (fs : List Field) (r : Bool), (∀ f ∈ fs, intF P f = true) → eqE (fs.map (·.offset)) xs ys = some r →
    (Op.eqFields (d + 1) X.toArray Y.toArray fs).run P w = .ok r w
  | [], r, _, h => by
    simp only [List.map_nil, eqE, Option.some.injEq] at h
    subst h; rfl
  | f :: fs, r, hf, h => by
    have h1 := hf f (by simp)
    unfold intF at h1
    simp only [Bool.and_eq_true, bne_iff_ne, ne_eq] at h1
    obtain ⟨hn, h1⟩ := h1
    split at h1
    · rename_i k ht
      simp only [List.map_cons, eqE] at h
      split at h
      · rename_i k1 a k2 b e1 e2
        obtain ⟨hkk, h9⟩ := grd_some h
        obtain rfl := of_decide_eq_true hkk
        simp only [Option.map_eq_some_iff] at h9
        obtain ⟨r', h2, rfl⟩ := h9
        obtain ⟨u, e3, e4⟩ := hx.get _ _ e1
        obtain ⟨u', e5, e6⟩ := hy.get _ _ e2
        obtain rfl := of_v e4
        obtain rfl := of_v e6
        have ih := run_eqFieldsE (d := d) hx hy fs r' (fun f hf' => hf f (by simp [hf'])) h2
        simp only [Op.eqFields, ne_eq, hn, not_false_eq_true, if_true, Sem.run_bind]
        rw [run_part_int ht (v := .int k1 a) (by simpa using e3)]
        simp only [Result.andThen_ok]
        rw [run_part_int ht (v := .int k1 b) (by simpa using e5)]
        simp only [Result.andThen_ok]
        rw [run_equalIn_int w d f.type k1 k a b ht]
        simp only [Result.andThen_ok]
        cases hab : (a == b)
        · simp
        · simp only [Bool.not_true, Bool.false_eq_true, if_false, Bool.true_and]; exact ih
      · cases h
    · cases h1

theorem evAeq_ok (h : EI M H.get w) (hρ : ∀ x e, ρ x = some e → ER M e (a.eval x)) {op : BinOp} {t ty : TypeId} {x y : Operand} {v : EV} {H' : EH} {nx' : Nat} (hr : evAeq P op t (ρ x) (ρ y) H nx = some (v, H', nx')) : Ok P a M H w nx (.binOp op t x y ty) v H' nx' := by
  unfold evAeq at hr
  split at hr
  · rename_i ne xs ys hop hx hy
    split at hr
    · rename_i fs ht
      simp only [Option.map_eq_some_iff, Prod.mk.injEq] at hr
      obtain ⟨r, hr, rfl, rfl, rfl⟩ := hr
      have h1 := hρ _ _ hx; simp only [ER] at h1; obtain ⟨X', e1, _, hX⟩ := h1
      have h2 := hρ _ _ hy; simp only [ER] at h2; obtain ⟨Y', e2, _, hY⟩ := h2
      unfold structInts at ht
      split at ht
      · rename_i fs' hu
        split at ht
        · rename_i hc
          obtain rfl := Option.some.inj ht
          obtain ⟨c1, c2, c3⟩ := hc
          rw [List.all_eq_true] at c1
          have hfo : P.fieldsOf t = fs' := by unfold Program.fieldsOf; rw [hu]
          have hrun : (Op.equalIn 10000 t (.agg X'.toArray) (.agg Y'.toArray)).run P w = .ok r w := by
            rw [show (10000 : Nat) = 9999 + 1 from rfl, run_equalIn_struct w 9999 t _ _ (by rw [hfo]; exact hu) c2, hfo, show (9999 : Nat) = 9998 + 1 from rfl]
            exact run_eqFieldsE hX hY fs'.toList r c1 hr
          have hop' : op = (bif ne then .neq else .eql) := by unfold isEq at hop; split at hop <;> cases hop <;> rfl
          subst hop'
          refine .pure h (y := .bool (bif ne then !r else r)) (fun o ho => ?_) (er_v rfl)
          cases ne
          · simp [execOp, ho, e1, e2, run_eqGuard_agg w .eql t x y _ _ c3, run_eql_struct, hrun]
          · simp [execOp, ho, e1, e2, run_eqGuard_agg w .neq t x y _ _ c3, run_neq_struct, hrun]
        · cases ht
      · cases ht
    · cases hr
  · cases hr
end
end Go.Proofs.YtaopcacmfhdfkaaGreatDoor.Ev

namespace Go.Proofs.YtaopcacmfhdfkaaGreatDoor.Ev
open Go Go.RowKit Go.Proofs.YtaopcacmfhdfkaaGreatDoor.Vc
set_option linter.unusedSimpArgs false
set_option linter.unusedVariables false

section
variable {nx : Nat} {M : Nm} {H : EH} {w : World} {P : Program} {a : Act} {ρ : Operand → Option EV}

/-- A cut of a slice with a bound of its room: the room is just so much from then on. -/
theorem ok_slc3 (h : EI M H.get w) (hρ : ∀ x e, ρ x = some e → ER M e (a.eval x)) {t e b off n c l m q : Nat} {ex : Bool} {x hi mx : Operand} {k k' : IntKind} {lo : Option Operand} {ti : TypeInfo} (ht : P.underlying t = some (.slice e)) (hi' : P.info? e = some ti)
    (hx : ρ x = some (.s ex b off n c)) (hl : bndE ρ lo 0 = some l) (hh : ρ hi = some (.v (.int k (.ofNat m)))) (hm : ρ mx = some (.v (.int k' (.ofNat q)))) (h1 : l ≤ m) (h2 : m ≤ q) (h3 : q ≤ c) :
    Ok P a M H w nx (.slice t x lo (some hi) (some mx)) (.s true b (if q = l then off else off + l * ti.size) (m - l) (q - l)) H nx := by
  have h4 := hρ _ _ hx
  simp only [ER] at h4
  obtain ⟨hb, hnc, c', hc', hex, hin, he⟩ := h4
  have e1 := of_v (hρ _ _ hh)
  have e2 := of_v (hρ _ _ hm)
  have b1 : (q : Int) ≤ (c' : Int) := by omega
  have b2 : (m : Int) ≤ (q : Int) := by omega
  have b3 : (l : Int) ≤ (m : Int) := by omega
  have hbd : (Instr.sliceBounds true n c' (lo.map a.eval) (some (a.eval hi)) (some (a.eval mx))).run P w = .ok (l, m, q) w := by
    rcases bndE_ok hρ hl with ⟨rfl, rfl⟩ | ⟨z, kz, rfl, hz⟩
    · simp [Instr.sliceBounds, e1, e2, run_sliceBound _ _ _ _ _ (Int.natCast_nonneg q) b1, run_sliceBound _ _ _ _ _ (Int.natCast_nonneg m) b2]
    · simp [Instr.sliceBounds, e1, e2, hz, run_sliceBound _ _ _ _ _ (Int.natCast_nonneg q) b1, run_sliceBound _ _ _ _ _ (Int.natCast_nonneg m) b2, run_sliceBound _ _ _ _ _ (Int.natCast_nonneg l) b3]
  refine .pure h (y := .slice (some (if q = l then (⟨M.m b, off, none⟩ : Addr) else (⟨M.m b, off, none⟩ : Addr).add (l * ti.size))) (m - l) (q - l)) (fun o ho => ?_) ?_
  · by_cases hq : q = l
    · subst hq
      simp [execOp, ho, Instr.sliceAt, Instr.slice, run_underlying ht, he, hbd, sizeOf, typeInfo, hi']
    · simp [execOp, ho, Instr.sliceAt, Instr.slice, run_underlying ht, he, hbd, sizeOf, typeInfo, hi', hq]
  · simp only [ER]
    refine ⟨hb, by omega, q - l, Nat.le_refl _, fun _ => rfl, (by intro h; cases h), ?_⟩
    split
    · rfl
    · rw [add_lit]

noncomputable def evSlc3 (P : Program) (ρ : Operand → Option EV) (t : TypeId) (x : Operand) (lo : Option Operand) (hi mx : Operand) (H : EH) (nx : Nat) : Rs :=
  match P.underlying t, ρ x, ρ hi, ρ mx with
  | some (.slice e), some (.s _ b off _ c), some (.v (.int _ (.ofNat m))), some (.v (.int _ (.ofNat q))) => match bndE ρ lo 0, P.info? e with
    | some l, some ti => grd (Nat.ble l m && Nat.ble m q && Nat.ble q c) (some (.s true b (if q = l then off else off + l * ti.size) (m - l) (q - l), H, nx))
    | _, _ => none
  | _, _, _, _ => none
theorem evSlc3_ok (h : EI M H.get w) (hρ : ∀ x e, ρ x = some e → ER M e (a.eval x)) {t : Nat} {x hi mx : Operand} {lo : Option Operand} {v : EV} {H' : EH} {nx' : Nat} (hr : evSlc3 P ρ t x lo hi mx H nx = some (v, H', nx')) : Ok P a M H w nx (.slice t x lo (some hi) (some mx)) v H' nx' := by
  unfold evSlc3 at hr
  split at hr
  · rename_i h1 h2 h3 h4
    split at hr
    · rename_i h5 h6
      obtain ⟨h7, h8⟩ := grd_some hr
      simp only [Option.some.injEq, Prod.mk.injEq] at h8
      obtain ⟨rfl, rfl, rfl⟩ := h8
      simp only [Bool.and_eq_true] at h7
      exact ok_slc3 h hρ h1 h6 h2 h5 h3 h4 (Nat.le_of_ble_eq_true h7.1.1) (Nat.le_of_ble_eq_true h7.1.2) (Nat.le_of_ble_eq_true h7.2)
    · cases hr
  · cases hr
end
end Go.Proofs.YtaopcacmfhdfkaaGreatDoor.Ev
