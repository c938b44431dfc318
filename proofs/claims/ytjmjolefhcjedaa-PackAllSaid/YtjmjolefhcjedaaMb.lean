/- Plans, changed: what stays right. -/
import Derived.Test.YtjmjolefhcjedaaQb
namespace Go.Proofs.Ytjmjolefhcjedaa.Vc
/-! Plans, changed: sums over places; a place more, a place less. -/

theorem Plan.ext {p q : Plan} (h1 : p.frame = q.frame) (h2 : p.cores = q.cores) (h3 : p.places = q.places) : p = q := by
  cases p; cases q; simp only at h1 h2 h3; rw [h1, h2, h3]

/-- A place more, in its place. -/
def Plan.ins (q : Plan) (x : Place) : Plan := { q with places := q.places.take (posOf q.places x.unit) ++ ([x] ++ q.places.drop (posOf q.places x.unit)) }
theorem put_ins (p : Plan) (x : Place) : p.put x = (p.drop x.unit).ins x := rfl

theorem sum_ins {f : Place → Nat} {l : List Place} {x : Place} {k : Nat} : ((l.take k ++ ([x] ++ l.drop k)).map f).sum = f x + (l.map f).sum := by
  conv => rhs; rw [← List.take_append_drop k l]
  simp only [List.map_append, List.sum_append, List.map_cons, List.map_nil, List.sum_cons, List.sum_nil]
  omega
theorem sumI_ins {f : Place → Int} {l : List Place} {x : Place} {k : Nat} : ((l.take k ++ ([x] ++ l.drop k)).map f).sum = f x + (l.map f).sum := by
  conv => rhs; rw [← List.take_append_drop k l]
  simp only [List.map_append, List.sum_append, List.map_cons, List.map_nil, List.sum_cons, List.sum_nil]
  omega
theorem filter_other {l : List Place} {u : Int} (h : ∀ x ∈ l, x.unit ≠ u) : l.filter (fun x => decide (x.unit ≠ u)) = l := List.filter_eq_self.2 fun x hx => by simpa using h x hx
theorem sum_drop {f : Place → Nat} {l : List Place} {u : Int} (hpw : l.Pairwise fun a b => a.unit < b.unit) : (l.map f).sum = ((l.find? fun x => decide (x.unit = u)).elim 0 f) + ((l.filter fun x => decide (x.unit ≠ u)).map f).sum := by
  induction l with
  | nil => simp
  | cons a l ih =>
    rw [List.pairwise_cons] at hpw
    by_cases h : a.unit = u
    · have h1 : l.filter (fun x => decide (x.unit ≠ u)) = l := filter_other fun x hx => by have := hpw.1 x hx; omega
      rw [List.find?_cons_of_pos (by simpa using h), List.filter_cons_of_neg (by simpa using h), h1]
      simp
    · rw [List.find?_cons_of_neg (by simpa using h), List.filter_cons_of_pos (by simpa using h), List.map_cons, List.map_cons, List.sum_cons, List.sum_cons, ih hpw.2]
      omega
theorem sumI_nonneg {α : Type} {f : α → Int} {l : List α} (h : ∀ x ∈ l, 0 ≤ f x) : 0 ≤ (l.map f).sum := by
  induction l with
  | nil => simp
  | cons a l ih =>
    rw [List.map_cons, List.sum_cons]
    have := h a (by simp)
    have := ih fun x hx => h x (by simp [hx])
    omega

/-- How many ticks of a core a place has, by its windows, and whole. -/
def Place.ld (c : Int) (x : Place) : Int := (sumTo (fun t => x.at c t) 64 : Nat) + (if x.wholeAt c = true then x.share else 0)
theorem shareSum_wholes (p : Plan) (c : Int) : shareSum (p.wholes c) = (p.places.map fun x => if x.wholeAt c = true then x.share else 0).sum := by
  unfold shareSum Plan.wholes
  generalize p.places = l
  induction l with
  | nil => rfl
  | cons a l ih =>
    by_cases h : a.wholeAt c = true
    · rw [List.filter_cons_of_pos h, List.map_cons, List.map_cons, List.sum_cons, List.map_cons, List.sum_cons, ih, if_pos h]; rfl
    · rw [List.filter_cons_of_neg h, List.map_cons, List.sum_cons, ih, if_neg h]; omega
theorem sumTo_sum (l : List Place) (c : Int) (n : Nat) : sumTo (fun t => (l.map fun x => x.at c t).sum) n = (l.map fun x => sumTo (fun t => x.at c t) n).sum := by
  induction l with
  | nil =>
    simp only [List.map_nil, List.sum_nil]
    rw [sumTo_const]; rfl
  | cons a l ih =>
    simp only [List.map_cons, List.sum_cons]
    rw [sumTo_add, ih]
theorem sum_pos_any {l : List Place} {f : Place → Nat} : decide (0 < (l.map f).sum) = l.any fun x => decide (0 < f x) := by
  induction l with
  | nil => rfl
  | cons a l ih =>
    rw [List.map_cons, List.sum_cons, List.any_cons, ← ih, Bool.eq_iff_iff]
    simp only [Bool.or_eq_true, decide_eq_true_eq]
    omega
theorem popN_windows (p : Plan) {c : Int} (hc : 0 ≤ c) (ha : ∀ t : Nat, t < 64 → p.atc c t ≤ 1) : popN (p.windows c) 64 = sumTo (fun t => p.atc c t) 64 := by
  unfold popN
  rw [countP_range]
  refine sumTo_congr fun t ht => ?_
  have h1 := ha t ht
  have h2 : hasT (p.windows c) t = decide (0 < p.atc c t) := by
    rw [hasT_windows]
    unfold Plan.atc
    rw [sum_pos_any]
    congr 1
    funext x
    rw [at_pos x hc]
  rw [h2]
  rcases Nat.lt_or_ge 0 (p.atc c t) with h | h
  · rw [decide_eq_true h]; show 1 = _; omega
  · rw [decide_eq_false (by omega)]; show 0 = _; omega
theorem load_sum (p : Plan) {c : Int} (hc : 0 ≤ c) (ha : ∀ t : Nat, t < 64 → p.atc c t ≤ 1) : p.load c = (p.places.map (Place.ld c)).sum := by
  unfold Plan.load
  rw [popN_windows p hc ha, shareSum_wholes]
  unfold Plan.atc
  rw [sumTo_sum]
  generalize p.places = l
  clear ha
  induction l with
  | nil => rfl
  | cons a l ih =>
    simp only [List.map_cons, List.sum_cons]
    rw [← ih]
    unfold Place.ld
    omega

theorem coresI_congr {p q : Plan} (h2 : p.cores = q.cores) : p.coresI = q.coresI := by
  unfold Plan.coresI
  congr 1
  funext c
  unfold Plan.has
  rw [h2]
theorem mem_coresI {p : Plan} {c : Int} : c ∈ p.coresI ↔ p.has c = true := by
  unfold Plan.coresI
  rw [List.mem_filter]
  constructor
  · exact fun h => h.2
  · intro h
    refine ⟨?_, h⟩
    have := has_range h
    rw [List.mem_map]
    exact ⟨c.toNat, by rw [List.mem_range]; omega, by omega⟩

theorem at_nil {x : Place} (h : x.pieces = []) (c t : Int) : x.at c t = 0 := by unfold Place.at; rw [h]; rfl
theorem Plan.right.load_sum {p : Plan} (h : p.right) {c : Int} (hc : p.has c = true) : p.load c = (p.places.map (Place.ld c)).sum := by
  have hr := has_range hc
  refine Go.Proofs.Ytjmjolefhcjedaa.Vc.load_sum p hr.1 fun t ht => ?_
  have := h.apart c.toNat (by omega) t ht
  rwa [show ((c.toNat : Nat) : Int) = c by omega] at this
theorem ld_nonneg {p : Plan} {x : Place} (h : x.ok p) (c : Int) : 0 ≤ x.ld c := by
  unfold Place.ld
  have := h.2.1
  split <;> omega
theorem mem_ins {q : Plan} {x y : Place} : y ∈ (q.ins x).places ↔ y = x ∨ y ∈ q.places := by
  unfold Plan.ins
  simp only [List.mem_append, List.mem_singleton]
  constructor
  · rintro (h | h | h)
    · exact .inr (List.mem_of_mem_take h)
    · exact .inl h
    · exact .inr (List.mem_of_mem_drop h)
  · rintro (h | h)
    · exact .inr (.inl h)
    · rw [← List.take_append_drop (posOf q.places x.unit) q.places, List.mem_append] at h
      rcases h with h | h
      · exact .inl h
      · exact .inr (.inr h)
theorem posOf_lt {l : List Place} {u : Int} : ∀ y ∈ l.take (posOf l u), y.unit < u := by
  intro y hy
  obtain ⟨j, hj, rfl⟩ := List.mem_take_iff_getElem.1 hy
  have := List.not_of_lt_findIdx (p := fun x : Place => decide (u ≤ x.unit)) (xs := l) (i := j) (by unfold posOf at hj; omega)
  simpa using this
theorem posOf_ge {l : List Place} {u : Int} (hpw : l.Pairwise fun a b => a.unit < b.unit) : ∀ y ∈ l.drop (posOf l u), u ≤ y.unit := by
  intro y hy
  obtain ⟨j, hj, rfl⟩ := List.mem_drop_iff_getElem.1 hy
  have h1 : posOf l u < l.length := by omega
  have h2 := List.findIdx_getElem (p := fun x : Place => decide (u ≤ x.unit)) (xs := l) (w := h1)
  simp only [decide_eq_true_eq] at h2
  rcases Nat.eq_zero_or_pos j with h | h
  · subst h; exact h2
  · have h3 := List.pairwise_iff_getElem.1 hpw (posOf l u) (posOf l u + j) h1 (by omega) (by omega)
    have h4 : u ≤ (l[posOf l u]'h1).unit := h2
    omega
theorem pw_ins {q : Plan} {x : Place} (hpw : q.places.Pairwise fun a b => a.unit < b.unit) (hx : ∀ y ∈ q.places, y.unit ≠ x.unit) : (q.ins x).places.Pairwise fun a b => a.unit < b.unit := by
  unfold Plan.ins
  simp only
  have hlt := posOf_lt (l := q.places) (u := x.unit)
  have hge := posOf_ge (u := x.unit) hpw
  have hpw' := hpw
  rw [← List.take_append_drop (posOf q.places x.unit) q.places, List.pairwise_append] at hpw'
  rw [List.pairwise_append]
  refine ⟨hpw'.1, ?_, fun a ha b hb => ?_⟩
  · rw [List.singleton_append, List.pairwise_cons]
    refine ⟨fun y hy => ?_, hpw'.2.1⟩
    have h1 := hge y hy
    have h2 := hx y (List.mem_of_mem_drop hy)
    omega
  · rcases List.mem_append.1 hb with hb | hb
    · obtain rfl := List.mem_singleton.1 hb
      exact hlt a ha
    · exact hpw'.2.2 a ha b hb
theorem splits_ins (q : Plan) (x : Place) : (q.ins x).splits = q.splits + if x.split = true then 1 else 0 := by
  unfold Plan.splits Plan.ins
  simp only
  conv => rhs; rw [← List.take_append_drop (posOf q.places x.unit) q.places]
  simp only [List.countP_append, List.countP_cons, List.countP_nil]
  omega
theorem atc_ins (q : Plan) (x : Place) (c t : Int) : (q.ins x).atc c t = x.at c t + q.atc c t := sum_ins
/-- A place more: what is asked of it. -/
theorem right_ins {q : Plan} {x : Place} (h : q.right) (hu : ∀ y ∈ q.places, y.unit ≠ x.unit) (hx : x.ok q) (ha : ∀ c : Nat, c < 16 → ∀ t : Nat, t < 64 → x.at c t + q.atc c t ≤ 1)
    (hf : q.splits + (if x.split = true then 1 else 0) < q.coresI.length) (hl : ∀ c, q.has c = true → x.ld c + q.load c ≤ q.frame) : (q.ins x).right := by
  have hap : ∀ c : Nat, c < 16 → ∀ t : Nat, t < 64 → (q.ins x).atc c t ≤ 1 := fun c hc t ht => by rw [atc_ins]; exact ha c hc t ht
  refine ⟨h.lo, h.hi, h.cs, h.cm, fun y hy => ?_, pw_ins h.pw hu, hap, ?_, fun c hc => ?_⟩
  · rcases mem_ins.1 hy with rfl | hy
    · exact hx
    · exact h.ok y hy
  · rw [splits_ins]; exact hf
  · have hh : q.has c = true := (mem_coresI (p := q)).1 hc
    have hr := has_range hh
    have h1 := hl c hh
    rw [h.load_sum hh] at h1
    rw [Go.Proofs.Ytjmjolefhcjedaa.Vc.load_sum (q.ins x) hr.1 fun t ht => by
      have := hap c.toNat (by omega) t ht
      rwa [show ((c.toNat : Nat) : Int) = c by omega] at this]
    have h2 : ((q.ins x).places.map (Place.ld c)).sum = x.ld c + (q.places.map (Place.ld c)).sum := sumI_ins
    rw [h2]; exact h1
theorem ld_whole {x : Place} (h : x.pieces = []) (c : Int) : x.ld c = if x.core = c then x.share else 0 := by
  unfold Place.ld Place.wholeAt
  rw [sumTo_congr (h := fun _ => 0) fun t _ => at_nil h c t, sumTo_const]
  simp only [show x.split = false from nil_split.1 h, Bool.not_false, Bool.true_and, decide_eq_true_eq]
  omega
/-- A whole place more. -/
theorem right_ins_whole {q : Plan} {x : Place} (h : q.right) (hu : ∀ y ∈ q.places, y.unit ≠ x.unit) (h0 : x.pieces = []) (h1 : isUnit x.unit = true) (h2 : 1 ≤ x.share) (h3 : q.has x.core = true) (h4 : x.share ≤ q.room x.core) : (q.ins x).right := by
  unfold Plan.room at h4
  rw [if_pos h3] at h4
  have hsp : x.split = false := nil_split.1 h0
  have h6 : 0 ≤ q.load x.core := by
    rw [h.load_sum h3]
    exact sumI_nonneg fun y hy => ld_nonneg (h.ok y hy) _
  refine right_ins h hu ⟨h1, h2, by omega, by rw [if_pos h0]; exact h3⟩ (fun c hc t ht => ?_) ?_ (fun c hc => ?_)
  · rw [at_nil h0, Nat.zero_add]; exact h.apart c hc t ht
  · rw [hsp]; simpa using h.few
  · have h5 := h.room c (mem_coresI.2 hc)
    rw [ld_whole h0]
    split
    · rename_i hcc; subst hcc; omega
    · omega

/-- How a place more, a place less changes a core's load. -/
theorem load_ins {q : Plan} {x : Place} (h : q.right) (h' : (q.ins x).right) {c : Int} (hc : q.has c = true) : (q.ins x).load c = x.ld c + q.load c := by
  rw [h.load_sum hc, h'.load_sum (c := c) hc]
  exact sumI_ins
theorem find_mem {p : Plan} (hpw : p.places.Pairwise fun a b => a.unit < b.unit) {u : Int} {x : Place} : p.find u = some x ↔ x ∈ p.places ∧ x.unit = u := by
  unfold Plan.find
  constructor
  · intro h
    exact ⟨List.mem_of_find?_eq_some h, by simpa using List.find?_some h⟩
  · rintro ⟨h1, h2⟩
    obtain ⟨i, hi, rfl⟩ := List.getElem_of_mem h1
    refine find_at hi (fun y hy => ?_) h2
    obtain ⟨j, hj, rfl⟩ := List.mem_take_iff_getElem.1 hy
    have := List.pairwise_iff_getElem.1 hpw j i (by omega) hi (by omega)
    omega
theorem find_none {p : Plan} {u : Int} : p.find u = none ↔ ∀ x ∈ p.places, x.unit ≠ u := by
  unfold Plan.find
  rw [List.find?_eq_none]
  simp
theorem mem_drop {p : Plan} {u : Int} {x : Place} : x ∈ (p.drop u).places ↔ x ∈ p.places ∧ x.unit ≠ u := by
  unfold Plan.drop
  simp
theorem find_drop {p : Plan} (hpw : p.places.Pairwise fun a b => a.unit < b.unit) (u v : Int) : (p.drop u).find v = if v = u then none else p.find v := by
  split
  · rename_i h
    rw [find_none]
    intro x hx
    rw [h]; exact (mem_drop.1 hx).2
  · rename_i h
    cases hf : p.find v with
    | none =>
      rw [find_none] at hf ⊢
      exact fun x hx => hf x (mem_drop.1 hx).1
    | some x =>
      rw [find_mem hpw] at hf
      rw [find_mem (pw_drop hpw), mem_drop]
      exact ⟨⟨hf.1, by omega⟩, hf.2⟩
theorem find_ins {q : Plan} {x : Place} (hpw : q.places.Pairwise fun a b => a.unit < b.unit) (hu : ∀ y ∈ q.places, y.unit ≠ x.unit) (v : Int) : (q.ins x).find v = if v = x.unit then some x else q.find v := by
  split
  · rename_i h
    rw [find_mem (pw_ins hpw hu), mem_ins]
    exact ⟨.inl rfl, h.symm⟩
  · rename_i h
    cases hf : q.find v with
    | none =>
      rw [find_none] at hf ⊢
      intro y hy
      rcases mem_ins.1 hy with rfl | hy
      · omega
      · exact hf y hy
    | some y =>
      rw [find_mem hpw] at hf
      rw [find_mem (pw_ins hpw hu), mem_ins]
      exact ⟨.inr hf.1, hf.2⟩
theorem drop_other {p : Plan} {u : Int} : ∀ y ∈ (p.drop u).places, y.unit ≠ u := fun _ hy => (mem_drop.1 hy).2
theorem find_put {p : Plan} (hpw : p.places.Pairwise fun a b => a.unit < b.unit) (x : Place) (v : Int) : (p.put x).find v = if v = x.unit then some x else p.find v := by
  rw [put_ins, find_ins (pw_drop hpw) drop_other, find_drop hpw]
  split
  · rfl
  · rfl
/-- Sorted lists with the same members are one. -/
theorem sorted_ext {α : Type} {k : α → Int} : ∀ {l m : List α}, l.Pairwise (fun a b => k a < k b) → m.Pairwise (fun a b => k a < k b) → (∀ x, x ∈ l ↔ x ∈ m) → l = m
  | [], [], _, _, _ => rfl
  | [], b :: m, _, _, h => by have := (h b).2 (by simp); simp at this
  | a :: l, [], _, _, h => by have := (h a).1 (by simp); simp at this
  | a :: l, b :: m, h1, h2, h => by
    rw [List.pairwise_cons] at h1 h2
    have hab : a = b := by
      have h3 := (h a).1 (by simp)
      have h4 := (h b).2 (by simp)
      rcases List.mem_cons.1 h3 with h3 | h3
      · exact h3
      rcases List.mem_cons.1 h4 with h4 | h4
      · exact h4.symm
      have := h1.1 b h4
      have := h2.1 a h3
      omega
    subst hab
    congr 1
    refine sorted_ext h1.2 h2.2 fun x => ?_
    have hx := h x
    rw [List.mem_cons, List.mem_cons] at hx
    constructor
    · intro hm
      rcases hx.1 (.inr hm) with e | e
      · subst e; have := h1.1 x hm; omega
      · exact e
    · intro hm
      rcases hx.2 (.inr hm) with e | e
      · subst e; have := h2.1 x hm; omega
      · exact e
end Go.Proofs.Ytjmjolefhcjedaa.Vc

namespace Go.Proofs.Ytjmjolefhcjedaa.Vc
/-! Room made on a core: a step, and step after step. -/

theorem snoc_ind {α : Type} {P : List α → Prop} (h0 : P []) (h1 : ∀ l a, P l → P (l ++ [a])) (l : List α) : P l := by
  rw [← List.reverse_reverse l]
  induction l.reverse with
  | nil => exact h0
  | cons a m ih => rw [List.reverse_cons]; exact h1 _ _ ih

theorem unit_pos {u : Int} (h : isUnit u = true) : 1 ≤ u ∧ u ≤ 1040 := by
  unfold isUnit at h
  simp only [decide_eq_true_eq] at h
  omega
/-- One unit moved away. -/
def Plan.step (p : Plan) (c : Int) : Option (Plan × Int) :=
  if (p.next c (p.wholes c)).unit = 0 then none else
  some (p.put ⟨(p.next c (p.wholes c)).unit, (p.next c (p.wholes c)).share, p.to c (p.next c (p.wholes c)).share, []⟩, (p.next c (p.wholes c)).unit)
/-- What a step does. -/
structure Stepped (p : Plan) (c : Int) (q : Plan) (u : Int) : Prop where
  right : q.right
  frame : q.frame = p.frame
  cores : q.cores = p.cores
  was : ∃ x, p.find u = some x ∧ x.pieces = [] ∧ x.core = c ∧ ∃ d, d ≠ c ∧ p.has d = true ∧ x.share ≤ p.room d ∧ q = p.put ⟨u, x.share, d, []⟩
theorem put_len {p : Plan} {x : Place} (hpw : p.places.Pairwise fun a b => a.unit < b.unit) (h : (p.find x.unit).isSome = true) : (p.put x).places.length = p.places.length := by
  have h1 : ∀ l : List Place, (l.map fun _ => 1).sum = l.length := by
    intro l; induction l with
    | nil => rfl
    | cons a l ih => rw [List.map_cons, List.sum_cons, ih, List.length_cons]; omega
  have h2 := sum_drop (f := fun _ => 1) (u := x.unit) hpw
  have h3 : (List.map (fun _ => 1) (p.put x).places).sum = 1 + ((p.drop x.unit).places.map fun _ => 1).sum := sum_ins
  rw [h1, h1] at h3
  rw [h1] at h2
  rw [h3]
  obtain ⟨y, hy⟩ := Option.isSome_iff_exists.1 h
  unfold Plan.find at hy
  rw [hy, h1] at h2
  show _ = _
  have : (p.drop x.unit).places = p.places.filter fun y => decide (y.unit ≠ x.unit) := rfl
  rw [this]
  simp only [Option.elim_some] at h2
  omega
/-- Step after step: as many as k. -/
def Plan.empt (c n : Int) : Nat → Plan → List Int → Option (Plan × List Int)
  | 0, p, m => if p.room c < n then none else some (p, m)
  | k + 1, p, m => if p.room c < n then (match p.step c with | none => none | some (q, u) => Plan.empt c n k q (m ++ [u])) else some (p, m)
def Plan.wants (p : Plan) : List Want := p.places.map Place.want
/-- What is so behind some steps from p0, m moved. -/
structure Moved (p0 : Plan) (c : Int) (p : Plan) (m : List Int) : Prop where
  right : p.right
  frame : p.frame = p0.frame
  cores : p.cores = p0.cores
  len : p.places.length = p0.places.length
  pieces : ∀ x ∈ p.places, x.pieces = [] ∨ x ∈ p0.places
  nodup : m.Nodup
  mv : ∀ u ∈ m, ∃ x y, p0.find u = some x ∧ x.pieces = [] ∧ x.core = c ∧ p.find u = some y ∧ y.pieces = [] ∧ y.core ≠ c ∧ y.share = x.share
  st : ∀ u, u ∉ m → p.find u = p0.find u
  splits : p.splits = p0.splits
theorem Moved.refl {p : Plan} (h : p.right) (c : Int) : Moved p c p [] := ⟨h, rfl, rfl, rfl, fun _ hx => .inr hx, List.nodup_nil, by simp, fun _ _ => rfl, rfl⟩
theorem splits_sum (l : List Place) : l.countP Place.split = (l.map fun x => if x.split = true then 1 else 0).sum := by
  induction l with
  | nil => rfl
  | cons a l ih => rw [List.countP_cons, List.map_cons, List.sum_cons, ih]; omega
theorem splits_drop {p : Plan} (hpw : p.places.Pairwise fun a b => a.unit < b.unit) (u : Int) : p.splits = ((p.find u).elim 0 fun x => if x.split = true then 1 else 0) + (p.drop u).splits := by
  unfold Plan.splits
  rw [splits_sum, splits_sum]
  exact sum_drop hpw
theorem splits_put_whole {p : Plan} (hpw : p.places.Pairwise fun a b => a.unit < b.unit) {y x : Place} (hy : p.find x.unit = some y) (h1 : y.pieces = []) (h2 : x.pieces = []) : (p.put x).splits = p.splits := by
  rw [put_ins, splits_ins, splits_drop hpw x.unit, hy, nil_split.1 h2]
  simp only [Option.elim_some, nil_split.1 h1]
  simp
theorem put_find_len {p : Plan} (h : p.right) {u : Int} {x : Place} (hf : p.find u = some x) {d s : Int} : (p.put ⟨u, s, d, []⟩).places.length = p.places.length :=
  put_len h.pw (by show (p.find u).isSome = true; rw [hf]; rfl)
theorem Moved.step {p0 p q : Plan} {c u : Int} {m : List Int} (h : Moved p0 c p m) (hs : Stepped p c q u) : Moved p0 c q (m ++ [u]) ∧ u ∉ m := by
  obtain ⟨x, hx1, hx2, hx3, d, hd1, hd2, hd3, hq⟩ := hs.was
  have hum : u ∉ m := by
    intro hu
    obtain ⟨x', y, _, _, _, h4, _, h6, _⟩ := h.mv u hu
    rw [hx1] at h4
    obtain rfl := Option.some.inj h4
    exact h6 hx3
  have hfu : p0.find u = some x := by rw [← h.st u hum]; exact hx1
  refine ⟨⟨hs.right, hs.frame.trans h.frame, hs.cores.trans h.cores, ?_, ?_, ?_, ?_, ?_, ?_⟩, hum⟩
  · rw [hq, put_find_len h.right hx1]; exact h.len
  · intro z hz
    rw [hq, put_ins] at hz
    rcases mem_ins.1 hz with rfl | hz
    · exact .inl rfl
    · exact h.pieces z (mem_drop.1 hz).1
  · rw [List.nodup_append]
    exact ⟨h.nodup, by simp, fun a ha b hb hab => by obtain rfl := List.mem_singleton.1 hb; subst hab; exact hum ha⟩
  · intro v hv
    rw [List.mem_append] at hv
    rw [hq, find_put h.right.pw]
    simp only
    by_cases hvu : v = u
    · subst hvu
      exact ⟨x, ⟨v, x.share, d, []⟩, hfu, hx2, hx3, by rw [if_pos rfl], rfl, hd1, rfl⟩
    · rw [if_neg hvu]
      rcases hv with hv | hv
      · exact h.mv v hv
      · exact absurd (List.mem_singleton.1 hv) hvu
  · intro v hv
    rw [List.mem_append, not_or] at hv
    rw [hq, find_put h.right.pw, if_neg fun e => hv.2 (by simpa using e)]
    exact h.st v hv.1
  · rw [hq, splits_put_whole h.right.pw (x := ⟨u, x.share, d, []⟩) hx1 hx2 rfl]; exact h.splits
theorem Moved.light {p0 p : Plan} {c : Int} {m : List Int} (h : Moved p0 c p m) (hl : p0.light) : p.light :=
  ⟨by rw [h.len]; exact hl.1, fun x hx => by
    rcases h.pieces x hx with e | e
    · rw [e]; simp
    · exact hl.2 x e⟩
/-- The wants, by the units. -/
theorem wants_ext {p q : Plan} (hp : p.places.Pairwise fun a b => a.unit < b.unit) (hq : q.places.Pairwise fun a b => a.unit < b.unit) (h : ∀ u, (p.find u).map Place.share = (q.find u).map Place.share) : p.wants = q.wants := by
  refine sorted_ext (k := Want.unit) (by unfold Plan.wants; rw [List.pairwise_map]; exact hp) (by unfold Plan.wants; rw [List.pairwise_map]; exact hq) fun w => ?_
  have key : ∀ {p : Plan}, (p.places.Pairwise fun a b => a.unit < b.unit) → (w ∈ p.wants ↔ (p.find w.unit).map Place.share = some w.share) := by
    intro p hp
    unfold Plan.wants
    rw [List.mem_map]
    constructor
    · rintro ⟨x, hx, rfl⟩
      rw [show p.find x.want.unit = some x from (find_mem hp).2 ⟨hx, rfl⟩]; rfl
    · intro h
      rw [Option.map_eq_some_iff] at h
      obtain ⟨x, h1, h2⟩ := h
      rw [find_mem hp] at h1
      refine ⟨x, h1.1, ?_⟩
      unfold Place.want
      rw [h1.2, h2]
  rw [key hp, key hq, h]
theorem Moved.wants {p0 p : Plan} {c : Int} {m : List Int} (h : Moved p0 c p m) (h0 : p0.right) : p0.wants = p.wants := by
  refine wants_ext h0.pw h.right.pw fun u => ?_
  by_cases hu : u ∈ m
  · obtain ⟨x, y, h1, _, _, h4, _, _, h7⟩ := h.mv u hu
    rw [h1, h4]; simp [h7]
  · rw [h.st u hu]
end Go.Proofs.Ytjmjolefhcjedaa.Vc

namespace Go.Proofs.Ytjmjolefhcjedaa.Vc
/-! Who is moved. -/

theorem likeOn_refl (x : Place) (c : Nat) : x.likeOn x c := ⟨rfl, fun _ _ => rfl⟩
theorem moves_same {p q : Plan} {u : Int} (h : q.find u = p.find u) : p.moves q u = false := by
  unfold Plan.moves
  rw [h]
  cases p.find u with
  | none => rfl
  | some x =>
    simp only [decide_eq_false_iff_not]
    rintro ⟨c, _, h⟩
    exact h (likeOn_refl x c)
theorem on_whole {x : Place} (h : x.pieces = []) (c : Int) : x.on c = decide (x.core = c) := by
  unfold Place.on
  rw [h]; simp
theorem moves_whole {p q : Plan} {u : Int} {x y : Place} (h1 : p.find u = some x) (h2 : q.find u = some y) (hx : x.pieces = []) (hy : y.pieces = []) (h0 : 0 ≤ x.core) (h15 : x.core ≤ 15) (hne : y.core ≠ x.core) : p.moves q u = true := by
  unfold Plan.moves
  rw [h1, h2]
  simp only [decide_eq_true_eq]
  refine ⟨x.core.toNat, by omega, fun h => ?_⟩
  have h3 := h.1
  rw [on_whole hx, on_whole hy, Bool.eq_iff_iff] at h3
  simp only [decide_eq_true_eq] at h3
  omega
theorem unitsTo_mem {p q : Plan} {n : Nat} {u : Int} : u ∈ unitsTo p q n ↔ (1 ≤ u ∧ u ≤ n) ∧ ((p.find u).isSome = true ∨ (q.find u).isSome = true) := by
  unfold unitsTo
  rw [List.mem_filter, List.mem_map, Bool.or_eq_true]
  constructor
  · rintro ⟨⟨k, hk, rfl⟩, h⟩
    rw [List.mem_range] at hk
    exact ⟨by omega, h⟩
  · rintro ⟨h1, h⟩
    exact ⟨⟨(u - 1).toNat, by rw [List.mem_range]; omega, by omega⟩, h⟩
theorem Moved.list {p0 p : Plan} {c : Int} {m : List Int} (h : Moved p0 c p m) (h0 : p0.right) : ∀ u, u ∈ movedL p0 p ↔ u ∈ m := by
  intro u
  unfold movedL
  rw [List.mem_filter]
  constructor
  · rintro ⟨_, h2⟩
    refine Classical.byContradiction fun hu => ?_
    rw [moves_same (h.st u hu)] at h2
    cases h2
  · intro hu
    obtain ⟨x, y, h1, h2, h3, h4, h5, h6, _⟩ := h.mv u hu
    have hx := (find_mem h0.pw).1 h1
    have hok := h0.ok x hx.1
    have hup := unit_pos hok.1
    have hc := hok.2.2.2
    rw [if_pos h2] at hc
    have hr := has_range hc
    refine ⟨unitsTo_mem.2 ⟨by omega, .inl (by rw [h1]; rfl)⟩, moves_whole h1 h4 h2 h5 hr.1 hr.2 (by omega)⟩
end Go.Proofs.Ytjmjolefhcjedaa.Vc

namespace Go.Proofs.Ytjmjolefhcjedaa.Vc
/-! First fit. -/

def Plan.firstC (p : Plan) (n : Int) : Option Int := p.coresI.find? fun c => decide (n ≤ p.room c)
theorem firstC_some {p : Plan} {n c : Int} (h : p.firstC n = some c) : p.has c = true ∧ n ≤ p.room c := by
  have h1 := List.find?_some h
  exact ⟨mem_coresI.1 (List.mem_of_find?_eq_some h), by simpa using h1⟩
theorem firstC_none {p : Plan} {n : Int} : p.firstC n = none ↔ ∀ c, p.has c = true → p.room c < n := by
  unfold Plan.firstC
  rw [List.find?_eq_none]
  constructor
  · intro h c hc
    have := h c (mem_coresI.2 hc)
    simpa using this
  · intro h c hc
    have := h c (mem_coresI.1 hc)
    simpa using this

/-- One want, placed or left over. -/
def fitS (s : Plan × List Want) (w : Want) : Plan × List Want := match s.1.firstC w.share with
  | none => (s.1, s.2 ++ [w])
  | some c => (s.1.put ⟨w.unit, w.share, c, []⟩, s.2)
def Plan.fit (p : Plan) (l : List Want) : Plan × List Want := l.foldl fitS (p, [])

/-- Wants that may be placed in a plan. -/
structure WantsFor (p : Plan) (l : List Want) : Prop where
  ok : ∀ w ∈ l, isUnit w.unit = true ∧ 1 ≤ w.share ∧ w.share ≤ p.frame
  nd : l.Pairwise fun a b => a.unit ≠ b.unit
  new : ∀ w ∈ l, ∀ x ∈ p.places, x.unit ≠ w.unit

theorem drop_absent {p : Plan} {u : Int} (h : ∀ x ∈ p.places, x.unit ≠ u) : p.drop u = p := by
  refine Plan.ext rfl rfl ?_
  exact filter_other h
theorem put_absent {p : Plan} {x : Place} (h : ∀ y ∈ p.places, y.unit ≠ x.unit) : p.put x = p.ins x := by
  rw [put_ins, drop_absent h]
theorem ins_len (q : Plan) (x : Place) : (q.ins x).places.length = q.places.length + 1 := by
  unfold Plan.ins
  simp only [List.length_append, List.length_take, List.length_drop, List.length_cons, List.length_nil]
  have : posOf q.places x.unit ≤ q.places.length := List.findIdx_le_length
  omega

/-- What is so behind some of the wants. -/
structure Fitted (p : Plan) (l : List Want) (q : Plan) (left : List Want) : Prop where
  right : q.right
  frame : q.frame = p.frame
  cores : q.cores = p.cores
  len : q.places.length + left.length = p.places.length + l.length
  mem : ∀ x ∈ q.places, x ∈ p.places ∨ (x.pieces = [] ∧ ∃ w ∈ l, w = x.want)
  keep : ∀ x ∈ p.places, x ∈ q.places
  over : ∀ w ∈ left, w ∈ l ∧ ∀ c, q.has c = true → q.room c < w.share
  put : ∀ w ∈ l, w ∈ left ∨ ∃ x ∈ q.places, x.pieces = [] ∧ x.want = w
  sub : left.Sublist l
  splits : q.splits = p.splits
  loads : shareSum left + (q.places.map Place.share).sum = shareSum l + (p.places.map Place.share).sum
theorem shareSum_snoc (l : List Want) (w : Want) : shareSum (l ++ [w]) = shareSum l + w.share := by
  unfold shareSum; simp
theorem room_ins {q : Plan} {x : Place} (h : q.right) (h' : (q.ins x).right) {c : Int} (hc : q.has c = true) : (q.ins x).room c = q.room c - x.ld c := by
  unfold Plan.room
  rw [if_pos hc, if_pos (show (q.ins x).has c = true from hc), load_ins h h' hc]
  show q.frame - _ = _
  omega
theorem fit_all {p : Plan} (hp : p.right) (l : List Want) : WantsFor p l → Fitted p l (p.fit l).1 (p.fit l).2 := by
  refine snoc_ind (P := fun l => WantsFor p l → Fitted p l (p.fit l).1 (p.fit l).2) ?_ ?_ l
  · intro _
    exact ⟨hp, rfl, rfl, rfl, fun x hx => .inl hx, fun x hx => hx, by intro w hw; simp [Plan.fit] at hw, by simp, by simp [Plan.fit], rfl, rfl⟩
  · intro l w ih hW
    have hpw := List.pairwise_append.1 hW.nd
    have ih := ih ⟨fun v hv => hW.ok v (List.mem_append.2 (.inl hv)), hpw.1, fun v hv => hW.new v (List.mem_append.2 (.inl hv))⟩
    have hw := hW.ok w (by simp)
    have e : p.fit (l ++ [w]) = fitS (p.fit l) w := by unfold Plan.fit; rw [List.foldl_append]; rfl
    rw [e]
    generalize p.fit l = s at *
    obtain ⟨q, left⟩ := s
    simp only at ih
    unfold fitS
    cases hf : q.firstC w.share with
    | none =>
      simp only
      refine ⟨ih.right, ih.frame, ih.cores, ?_, fun x hx => ?_, ih.keep, fun v hv => ?_, fun v hv => ?_, List.Sublist.append ih.sub (List.Sublist.refl _), ih.splits, ?_⟩
      · have := ih.len; simp only [List.length_append, List.length_cons, List.length_nil]; omega
      · rcases ih.mem x hx with h | ⟨h1, v, h2, h3⟩
        · exact .inl h
        · exact .inr ⟨h1, v, List.mem_append.2 (.inl h2), h3⟩
      · rcases List.mem_append.1 hv with hv | hv
        · exact ⟨List.mem_append.2 (.inl (ih.over v hv).1), (ih.over v hv).2⟩
        · obtain rfl := List.mem_singleton.1 hv
          exact ⟨by simp, firstC_none.1 hf⟩
      · rcases List.mem_append.1 hv with hv | hv
        · rcases ih.put v hv with h | h
          · exact .inl (List.mem_append.2 (.inl h))
          · exact .inr h
        · exact .inl (List.mem_append.2 (.inr hv))
      · have := ih.loads; rw [shareSum_snoc, shareSum_snoc]; omega
    | some c =>
      simp only
      obtain ⟨hc, hr⟩ := firstC_some hf
      have hnew : ∀ y ∈ q.places, y.unit ≠ w.unit := fun y hy => by
        rcases ih.mem y hy with h | ⟨h1, v, h2, h3⟩
        · exact hW.new w (by simp) y h
        · have := hpw.2.2 v h2 w (by simp)
          rw [h3] at this
          exact this
      rw [put_absent (x := ⟨w.unit, w.share, c, []⟩) hnew]
      have hR : (q.ins ⟨w.unit, w.share, c, []⟩).right := right_ins_whole ih.right hnew rfl hw.1 hw.2.1 hc hr
      refine ⟨hR, ih.frame, ih.cores, ?_, fun x hx => ?_, fun x hx => mem_ins.2 (.inr (ih.keep x hx)), fun v hv => ?_, fun v hv => ?_, ?_, ?_, ?_⟩
      · have := ih.len; rw [ins_len]; simp only [List.length_append, List.length_cons, List.length_nil]; omega
      · rcases mem_ins.1 hx with rfl | hx
        · exact .inr ⟨rfl, w, by simp, rfl⟩
        · rcases ih.mem x hx with h | ⟨h1, v, h2, h3⟩
          · exact .inl h
          · exact .inr ⟨h1, v, List.mem_append.2 (.inl h2), h3⟩
      · refine ⟨List.mem_append.2 (.inl (ih.over v hv).1), fun d hd => ?_⟩
        have h1 := (ih.over v hv).2 d hd
        have hd' : q.has d = true := hd
        rw [room_ins ih.right hR hd', ld_whole rfl]
        have := hw.2.1
        simp only
        split <;> omega
      · rcases List.mem_append.1 hv with hv | hv
        · rcases ih.put v hv with h | ⟨x, h1, h2⟩
          · exact .inl h
          · exact .inr ⟨x, mem_ins.2 (.inr h1), h2⟩
        · obtain rfl := List.mem_singleton.1 hv
          exact .inr ⟨_, mem_ins.2 (.inl rfl), rfl, rfl⟩
      · exact List.Sublist.trans ih.sub (List.sublist_append_left _ _)
      · rw [splits_ins]; exact ih.splits
      · have := ih.loads
        have e2 : ((q.ins ⟨w.unit, w.share, c, []⟩).places.map Place.share).sum = w.share + (q.places.map Place.share).sum := sumI_ins
        rw [shareSum_snoc, e2]; omega
/-- Who is placed, and where the shares are: all on the cores. -/
theorem room_sum {p : Plan} (h : p.right) (hw : ∀ x ∈ p.places, x.pieces = []) : (p.coresI.map p.room).sum = p.frame * p.coresI.length - (p.places.map Place.share).sum := by
  have h1 : ∀ l : List Int, (∀ c ∈ l, p.has c = true) → (l.map p.room).sum = p.frame * l.length - (l.map fun c => (p.places.map (Place.ld c)).sum).sum := by
    intro l
    induction l with
    | nil => intro _; simp
    | cons c l ih =>
      intro hl
      simp only [List.map_cons, List.sum_cons, List.length_cons]
      rw [ih fun d hd => hl d (by simp [hd])]
      have hc := hl c (by simp)
      have : p.room c = p.frame - (p.places.map (Place.ld c)).sum := by unfold Plan.room; rw [if_pos hc, h.load_sum hc]
      rw [this]
      have : p.frame * ((l.length + 1 : Nat) : Int) = p.frame * (l.length : Int) + p.frame := by rw [Int.natCast_add, Int.mul_add]; simp
      omega
  rw [h1 p.coresI fun c hc => mem_coresI.1 hc]
  have h2 : ∀ (P : List Place) (l : List Int), (∀ x ∈ P, x.pieces = [] ∧ x.core ∈ l) → l.Nodup → (l.map fun c => (P.map (Place.ld c)).sum).sum = (P.map Place.share).sum := by
    intro P
    induction P with
    | nil =>
      intro l g1 g2
      clear g1 g2
      simp only [List.map_nil, List.sum_nil]
      induction l with
      | nil => rfl
      | cons a l ih => rw [List.map_cons, List.sum_cons, ih]; rfl
    | cons x P ih =>
      intro l hx hl
      simp only [List.map_cons, List.sum_cons]
      have e : (l.map fun c => Place.ld c x + (P.map (Place.ld c)).sum).sum = (l.map fun c => Place.ld c x).sum + (l.map fun c => (P.map (Place.ld c)).sum).sum := by
        clear hx hl
        induction l with
        | nil => rfl
        | cons a l ih2 => simp only [List.map_cons, List.sum_cons]; rw [ih2]; omega
      rw [e, ih l (fun y hy => hx y (by simp [hy])) hl]
      have hx0 := hx x (by simp)
      have e2 : ∀ l : List Int, l.Nodup → (l.map fun c => Place.ld c x).sum = if x.core ∈ l then x.share else 0 := by
        intro l
        induction l with
        | nil => intro _; rfl
        | cons a l ih3 =>
          intro hn
          rw [List.nodup_cons] at hn
          simp only [List.map_cons, List.sum_cons, List.mem_cons]
          rw [ih3 hn.2, ld_whole hx0.1]
          by_cases ha : x.core = a
          · rw [if_pos ha, if_neg (by rw [ha]; exact hn.1), if_pos (.inl ha)]; omega
          · rw [if_neg ha]
            by_cases hm : x.core ∈ l
            · rw [if_pos hm, if_pos (.inr hm)]; omega
            · rw [if_neg hm, if_neg (by rintro (h | h); exact ha h; exact hm h)]; omega
      rw [e2 l hl, if_pos hx0.2]
  rw [h2 p.places p.coresI (fun x hx => ⟨hw x hx, mem_coresI.2 (by
    have := (h.ok x hx).2.2.2
    rwa [if_pos (hw x hx)] at this)⟩) ?_]
  unfold Plan.coresI
  refine List.Pairwise.filter _ ?_
  rw [List.pairwise_map]
  exact List.Pairwise.imp (fun h e => h (by omega)) List.nodup_range
/-- Sure: by the shares alone nobody is left over. -/
theorem fit_sure {p : Plan} (h0 : p.places = []) (hp : p.right) {l : List Want} (hW : WantsFor p l) {a : Int} (ha : ∀ w ∈ l, w.share ≤ a)
    (hs : shareSum l + (p.coresI.length - 1) * a < p.coresI.length * p.frame + p.coresI.length) : (p.fit l).2 = [] := by
  have hF := fit_all hp l hW
  generalize p.fit l = s at *
  obtain ⟨q, left⟩ := s
  simp only at hF ⊢
  cases left with
  | nil => rfl
  | cons w left =>
    exfalso
    obtain ⟨hwl, hroom⟩ := hF.over w (by simp)
    have hwp : ∀ x ∈ q.places, x.pieces = [] := fun x hx => by
      rcases hF.mem x hx with h | h
      · rw [h0] at h; simp at h
      · exact h.1
    have h1 := room_sum hF.right hwp
    have hci : q.coresI = p.coresI := coresI_congr hF.cores
    rw [hci] at h1
    have h2 : ∀ l : List Int, (∀ c ∈ l, q.has c = true) → (l.map q.room).sum ≤ l.length * (w.share - 1) := by
      intro l
      induction l with
      | nil => intro _; simp
      | cons c l ih =>
        intro hl
        have := ih fun d hd => hl d (by simp [hd])
        have := hroom c (hl c (by simp))
        simp only [List.map_cons, List.sum_cons, List.length_cons]
        have : ((l.length + 1 : Nat) : Int) * (w.share - 1) = (l.length : Int) * (w.share - 1) + (w.share - 1) := by rw [Int.natCast_add, Int.add_mul]; simp
        omega
    have h3 := h2 p.coresI fun c hc => by rw [← hci] at hc; exact mem_coresI.1 hc
    have h4 := hF.loads
    rw [h0] at h4
    simp only [List.map_nil, List.sum_nil] at h4
    have h5 : shareSum (w :: left) = w.share + shareSum left := by unfold shareSum; simp
    have h6 : 0 ≤ shareSum left := by
      refine sumI_nonneg fun v hv => ?_
      have := (hW.ok v (hF.over v (by simp [hv])).1).2.1
      omega
    have h7 := ha w hwl
    have h8 : 1 ≤ p.coresI.length := by have := hp.few; omega
    rw [hF.frame] at h1
    generalize (p.coresI.map q.room).sum = R at *
    generalize (q.places.map Place.share).sum = S at *
    generalize p.coresI.length = n at *
    obtain ⟨k, rfl⟩ : ∃ k, n = k + 1 := ⟨n - 1, by omega⟩
    have e1 : ((k + 1 : Nat) : Int) * (w.share - 1) = k * w.share + w.share - k - 1 := by
      rw [Int.natCast_add, Int.add_mul, Int.mul_sub]; simp; omega
    have e2 : (((k + 1 : Nat) : Int) - 1) * a = k * a := by congr 1; omega
    have e3 : p.frame * ((k + 1 : Nat) : Int) = ((k + 1 : Nat) : Int) * p.frame := Int.mul_comm _ _
    have e4 : (k : Int) * w.share ≤ k * a := Int.mul_le_mul_of_nonneg_left h7 (by omega)
    rw [e1] at h3
    rw [e2] at hs
    rw [e3] at h1
    omega
end Go.Proofs.Ytjmjolefhcjedaa.Vc

namespace Go.Proofs.Ytjmjolefhcjedaa.Vc
/-! Orders of wants. -/

def orI (a b : Int) : Int := if a ≠ 0 then a else b
/-- The compare of order and of settle: shares falling, then units rising. -/
def cfS (x y : Want) : Int := orI (cmpI y.share x.share) (cmpI x.unit y.unit)
theorem cfS_lt {x y : Want} : cfS x y < 0 ↔ y.share < x.share ∨ (x.share = y.share ∧ x.unit < y.unit) := by
  unfold cfS orI cmpI
  repeat' split
  all_goals omega
def srtS (l : List Want) : List Want := l.mergeSort fun x y => !decide (cfS y x < 0)
def leD (a b : Want) : Prop := b.share < a.share ∨ (a.share = b.share ∧ a.unit ≤ b.unit)
theorem leD_antisymm {a b : Want} (h1 : leD a b) (h2 : leD b a) : a = b := by
  unfold leD at h1 h2
  have h3 : a.share = b.share := by omega
  have h4 : a.unit = b.unit := by omega
  cases a; cases b; simp only at h3 h4; rw [h3, h4]
theorem srtS_pw (l : List Want) : (srtS l).Pairwise leD := by
  unfold srtS
  refine List.Pairwise.imp ?_ (List.pairwise_mergeSort ?_ ?_ l)
  · intro a b h
    simp only [Bool.not_eq_true', decide_eq_false_iff_not, cfS_lt] at h
    unfold leD; omega
  · intro a b c h1 h2
    simp only [Bool.not_eq_true', decide_eq_false_iff_not, cfS_lt] at *
    omega
  · intro a b
    simp only [Bool.or_eq_true, Bool.not_eq_true', decide_eq_false_iff_not, cfS_lt]
    omega
theorem srtS_perm (l : List Want) : (srtS l).Perm l := List.mergeSort_perm _ _
/-- There is one sorted list. -/
theorem srtS_uniq {l m : List Want} (h1 : m.Perm l) (h2 : m.Pairwise leD) : m = srtS l :=
  List.Perm.eq_of_pairwise (le := leD) (fun _ _ _ _ h h' => leD_antisymm h h') h2 (srtS_pw l) (h1.trans (srtS_perm l).symm)
theorem srtS_congr {l m : List Want} (h : l.Perm m) : srtS l = srtS m := srtS_uniq ((srtS_perm l).trans h) (srtS_pw l)

end Go.Proofs.Ytjmjolefhcjedaa.Vc

namespace Go.Proofs.Ytjmjolefhcjedaa.Vc
/-! A split unit made whole. -/

def Plan.splitsW (p : Plan) : List Want := (p.places.filter Place.split).map Place.want
def Plan.roomM (p : Plan) (n : Int) (b : Nat) : Option (Plan × Int × List Int) := p.coresI.findSome? fun c => (Plan.empt c n b p []).map fun r => (r.1, c, r.2)
def Plan.tryS (p : Plan) (b : Nat) (w : Want) : Option (Plan × Int × List Int) :=
  match (p.drop w.unit).firstC w.share with
  | some c => some ((p.drop w.unit).put ⟨w.unit, w.share, c, []⟩, c, [])
  | none => ((p.drop w.unit).roomM w.share b).map fun r => (r.1.put ⟨w.unit, w.share, r.2.1, []⟩, r.2.1, r.2.2)
structure Mv where
  unit : Int
  core : Int
  others : List Int
def Plan.settle (p : Plan) (b : Nat) : Option (Plan × Mv) := (srtS p.splitsW).findSome? fun w => (p.tryS b w).map fun r => (r.1, ⟨w.unit, r.2.1, r.2.2⟩)

/-- Step after step. -/
inductive Steps (b : Nat) (p : Plan) : List Mv → Plan → Prop where
  | nil : Steps b p [] p
  | snoc {l : List Mv} {q r : Plan} {m : Mv} (h : Steps b p l q) (hs : q.settle b = some (r, m)) : Steps b p (l ++ [m]) r
theorem Steps.at {b : Nat} {p : Plan} {l : List Mv} {q : Plan} (hs : Steps b p l q) : ∀ i, i ≤ l.length → ∃ r, Steps b p (l.take i) r ∧ (∀ h : i < l.length, ∃ r', r.settle b = some (r', l[i]) ∧ Steps b p (l.take (i + 1)) r') ∧ (i = l.length → r = q) := by
  induction hs with
  | nil => intro i hi; exact ⟨p, by simpa using Steps.nil, fun h => by simp at h, fun _ => rfl⟩
  | @snoc l q r m h hs ih =>
    intro i hi
    rw [List.length_append, List.length_singleton] at hi
    rcases Nat.lt_or_ge i l.length with h1 | h1
    · obtain ⟨s, g1, g2, g3⟩ := ih i (by omega)
      refine ⟨s, by rw [List.take_append_of_le_length (by omega)]; exact g1, fun _ => ?_, fun e => by simp at e; omega⟩
      rw [List.getElem_append_left h1, List.take_append_of_le_length (by omega)]
      exact g2 h1
    · rcases Nat.eq_or_lt_of_le h1 with h2 | h2
      · subst h2
        refine ⟨q, by rw [List.take_left]; exact h, fun _ => ?_, fun e => by simp at e⟩
        refine ⟨r, ?_, ?_⟩
        · rw [List.getElem_append_right (by omega)]; simpa using hs
        · rw [List.take_of_length_le (by simp)]; exact .snoc h hs
      · refine ⟨r, ?_, fun h => by simp at h; omega, fun _ => rfl⟩
        rw [List.take_of_length_le (by simp; omega)]
        exact .snoc h hs
end Go.Proofs.Ytjmjolefhcjedaa.Vc

namespace Go.Proofs.Ytjmjolefhcjedaa.Vc
end Go.Proofs.Ytjmjolefhcjedaa.Vc

namespace Go.Proofs.Ytjmjolefhcjedaa.Vc
/-! All steps of settle, one by one. -/
def Plan.itS (b : Nat) (p : Plan) : Nat → Plan
  | 0 => p
  | i + 1 => match (Plan.itS b p i).settle b with
    | none => Plan.itS b p i
    | some (q, _) => q
theorem Steps.it {b : Nat} {p : Plan} {l : List Mv} {q : Plan} (h : Steps b p l q) : q = p.itS b l.length ∧ ∀ i, ∀ hi : i < l.length, (p.itS b i).settle b = some (p.itS b (i + 1), l[i]) := by
  induction h with
  | nil => exact ⟨rfl, fun i hi => by simp at hi⟩
  | @snoc l q r m h hs ih =>
    obtain ⟨h1, h2⟩ := ih
    have h3 : p.itS b (l.length + 1) = r := by
      show (match (p.itS b l.length).settle b with | none => _ | some (q, _) => q) = r
      rw [← h1, hs]
    refine ⟨by rw [List.length_append, List.length_singleton, h3], fun i hi => ?_⟩
    rw [List.length_append, List.length_singleton] at hi
    rcases Nat.lt_or_ge i l.length with h4 | h4
    · rw [List.getElem_append_left h4]; exact h2 i h4
    · have e : i = l.length := by omega
      subst e
      rw [List.getElem_append_right (by omega), h3, ← h1, hs]
      simp
end Go.Proofs.Ytjmjolefhcjedaa.Vc
