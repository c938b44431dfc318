/- Plans, changed: what stays right. -/
import Derived.Test.YtjmjolefhcjedaaQa
namespace Go.Proofs.Ytjmjolefhcjedaa.Vc
/-! Plans, changed: sums over places; a place more, a place less. -/

theorem Plan.ext {p q : Plan} (h1 : p.frame = q.frame) (h2 : p.cores = q.cores) (h3 : p.places = q.places) : p = q := by
  cases p; cases q; simp only at h1 h2 h3; rw [h1, h2, h3]

/-- A place more, in its place. -/
def Plan.ins (q : Plan) (x : Place) : Plan := { q with places := q.places.take (posOf q.places x.unit) ++ ([x] ++ q.places.drop (posOf q.places x.unit)) }
theorem put_ins (p : Plan) (x : Place) : p.put x = (p.drop x.unit).ins x := rfl

theorem sum_ins {f : Place → Nat} {l : List Place} {x : Place} {k : Nat} : ((l.take k ++ ([x] ++ l.drop k)).map f).sum = f x + (l.map f).sum := by
  conv => rhs; rw [← List.take_append_drop k l]
  simp only [List.map_append, List.sum_append, List.map_cons, List.map_nil, List.sum_cons, List.sum_nil]
  omega
theorem sumI_ins {f : Place → Int} {l : List Place} {x : Place} {k : Nat} : ((l.take k ++ ([x] ++ l.drop k)).map f).sum = f x + (l.map f).sum := by
  conv => rhs; rw [← List.take_append_drop k l]
  simp only [List.map_append, List.sum_append, List.map_cons, List.map_nil, List.sum_cons, List.sum_nil]
  omega
theorem filter_other {l : List Place} {u : Int} (h : ∀ x ∈ l, x.unit ≠ u) : l.filter (fun x => decide (x.unit ≠ u)) = l := List.filter_eq_self.2 fun x hx => by simpa using h x hx
theorem sum_drop {f : Place → Nat} {l : List Place} {u : Int} (hpw : l.Pairwise fun a b => a.unit < b.unit) : (l.map f).sum = ((l.find? fun x => decide (x.unit = u)).elim 0 f) + ((l.filter fun x => decide (x.unit ≠ u)).map f).sum := by
  induction l with
  | nil => simp
  | cons a l ih =>
    rw [List.pairwise_cons] at hpw
    by_cases h : a.unit = u
    · have h1 : l.filter (fun x => decide (x.unit ≠ u)) = l := filter_other fun x hx => by have := hpw.1 x hx; omega
      rw [List.find?_cons_of_pos (by simpa using h), List.filter_cons_of_neg (by simpa using h), h1]
      simp
    · rw [List.find?_cons_of_neg (by simpa using h), List.filter_cons_of_pos (by simpa using h), List.map_cons, List.map_cons, List.sum_cons, List.sum_cons, ih hpw.2]
      omega
theorem sumI_drop {f : Place → Int} {l : List Place} {u : Int} (hpw : l.Pairwise fun a b => a.unit < b.unit) : (l.map f).sum = ((l.find? fun x => decide (x.unit = u)).elim 0 f) + ((l.filter fun x => decide (x.unit ≠ u)).map f).sum := by
  induction l with
  | nil => simp
  | cons a l ih =>
    rw [List.pairwise_cons] at hpw
    by_cases h : a.unit = u
    · have h1 : l.filter (fun x => decide (x.unit ≠ u)) = l := filter_other fun x hx => by have := hpw.1 x hx; omega
      rw [List.find?_cons_of_pos (by simpa using h), List.filter_cons_of_neg (by simpa using h), h1]
      simp
    · rw [List.find?_cons_of_neg (by simpa using h), List.filter_cons_of_pos (by simpa using h), List.map_cons, List.map_cons, List.sum_cons, List.sum_cons, ih hpw.2]
      omega
theorem sumI_nonneg {α : Type} {f : α → Int} {l : List α} (h : ∀ x ∈ l, 0 ≤ f x) : 0 ≤ (l.map f).sum := by
  induction l with
  | nil => simp
  | cons a l ih =>
    rw [List.map_cons, List.sum_cons]
    have := h a (by simp)
    have := ih fun x hx => h x (by simp [hx])
    omega

/-- How many ticks of a core a place has, by its windows, and whole. -/
def Place.ld (c : Int) (x : Place) : Int := (sumTo (fun t => x.at c t) 64 : Nat) + (if x.wholeAt c = true then x.share else 0)
theorem shareSum_wholes (p : Plan) (c : Int) : shareSum (p.wholes c) = (p.places.map fun x => if x.wholeAt c = true then x.share else 0).sum := by
  unfold shareSum Plan.wholes
  generalize p.places = l
  induction l with
  | nil => rfl
  | cons a l ih =>
    by_cases h : a.wholeAt c = true
    · rw [List.filter_cons_of_pos h, List.map_cons, List.map_cons, List.sum_cons, List.map_cons, List.sum_cons, ih, if_pos h]; rfl
    · rw [List.filter_cons_of_neg h, List.map_cons, List.sum_cons, ih, if_neg h]; omega
theorem sumTo_sum (l : List Place) (c : Int) (n : Nat) : sumTo (fun t => (l.map fun x => x.at c t).sum) n = (l.map fun x => sumTo (fun t => x.at c t) n).sum := by
  induction l with
  | nil =>
    simp only [List.map_nil, List.sum_nil]
    rw [sumTo_const]; rfl
  | cons a l ih =>
    simp only [List.map_cons, List.sum_cons]
    rw [sumTo_add, ih]
theorem sum_pos_any {l : List Place} {f : Place → Nat} : decide (0 < (l.map f).sum) = l.any fun x => decide (0 < f x) := by
  induction l with
  | nil => rfl
  | cons a l ih =>
    rw [List.map_cons, List.sum_cons, List.any_cons, ← ih, Bool.eq_iff_iff]
    simp only [Bool.or_eq_true, decide_eq_true_eq]
    omega
theorem popN_windows (p : Plan) {c : Int} (hc : 0 ≤ c) (ha : ∀ t : Nat, t < 64 → p.atc c t ≤ 1) : popN (p.windows c) 64 = sumTo (fun t => p.atc c t) 64 := by
  unfold popN
  rw [countP_range]
  refine sumTo_congr fun t ht => ?_
  have h1 := ha t ht
  have h2 : hasT (p.windows c) t = decide (0 < p.atc c t) := by
    rw [hasT_windows]
    unfold Plan.atc
    rw [sum_pos_any]
    congr 1
    funext x
    rw [at_pos x hc]
  rw [h2]
  rcases Nat.lt_or_ge 0 (p.atc c t) with h | h
  · rw [decide_eq_true h]; show 1 = _; omega
  · rw [decide_eq_false (by omega)]; show 0 = _; omega
theorem cast_sum (l : List Nat) : ((l.sum : Nat) : Int) = (l.map fun n : Nat => (n : Int)).sum := by
  induction l with
  | nil => rfl
  | cons a l ih => rw [List.sum_cons, List.map_cons, List.sum_cons, ← ih]; omega
theorem load_sum (p : Plan) {c : Int} (hc : 0 ≤ c) (ha : ∀ t : Nat, t < 64 → p.atc c t ≤ 1) : p.load c = (p.places.map (Place.ld c)).sum := by
  unfold Plan.load
  rw [popN_windows p hc ha, shareSum_wholes]
  unfold Plan.atc
  rw [sumTo_sum]
  generalize p.places = l
  clear ha
  induction l with
  | nil => rfl
  | cons a l ih =>
    simp only [List.map_cons, List.sum_cons]
    rw [← ih]
    unfold Place.ld
    omega

theorem ok_congr {p q : Plan} {x : Place} (h1 : p.frame = q.frame) (h2 : p.cores = q.cores) : x.ok p ↔ x.ok q := by
  unfold Place.ok Place.sp Plan.has
  rw [h1, h2]
theorem coresI_congr {p q : Plan} (h2 : p.cores = q.cores) : p.coresI = q.coresI := by
  unfold Plan.coresI
  congr 1
  funext c
  unfold Plan.has
  rw [h2]
theorem has_congr {p q : Plan} (h2 : p.cores = q.cores) (c : Int) : p.has c = q.has c := by
  unfold Plan.has; rw [h2]
theorem mem_coresI {p : Plan} {c : Int} : c ∈ p.coresI ↔ p.has c = true := by
  unfold Plan.coresI
  rw [List.mem_filter]
  constructor
  · exact fun h => h.2
  · intro h
    refine ⟨?_, h⟩
    have := has_range h
    rw [List.mem_map]
    exact ⟨c.toNat, by rw [List.mem_range]; omega, by omega⟩

theorem at_nil {x : Place} (h : x.pieces = []) (c t : Int) : x.at c t = 0 := by unfold Place.at; rw [h]; rfl
theorem atc_drop_le {p : Plan} (hpw : p.places.Pairwise fun a b => a.unit < b.unit) (u c t : Int) : (p.drop u).atc c t ≤ p.atc c t := by
  unfold Plan.atc
  rw [sum_drop (u := u) hpw]
  show _ ≤ _
  have : (p.drop u).places = p.places.filter fun x => decide (x.unit ≠ u) := rfl
  rw [this]; omega
theorem Plan.right.load_sum {p : Plan} (h : p.right) {c : Int} (hc : p.has c = true) : p.load c = (p.places.map (Place.ld c)).sum := by
  have hr := has_range hc
  refine Go.Proofs.Ytjmjolefhcjedaa.Vc.load_sum p hr.1 fun t ht => ?_
  have := h.apart c.toNat (by omega) t ht
  rwa [show ((c.toNat : Nat) : Int) = c by omega] at this
theorem ld_nonneg {p : Plan} {x : Place} (h : x.ok p) (c : Int) : 0 ≤ x.ld c := by
  unfold Place.ld
  have := h.2.1
  split <;> omega
theorem right_drop {p : Plan} (h : p.right) (u : Int) : (p.drop u).right := by
  have hm : ∀ x ∈ (p.drop u).places, x ∈ p.places := fun x hx => (List.mem_filter.1 hx).1
  have hap : ∀ c : Nat, c < 16 → ∀ t : Nat, t < 64 → (p.drop u).atc c t ≤ 1 := fun c hc t ht => Nat.le_trans (atc_drop_le h.pw u c t) (h.apart c hc t ht)
  refine ⟨h.lo, h.hi, h.cs, h.cm, fun x hx => (ok_congr (p := p) rfl rfl).1 (h.ok x (hm x hx)), pw_drop h.pw, hap, ?_, fun c hc => ?_⟩
  · refine Nat.lt_of_le_of_lt ?_ h.few
    unfold Plan.splits
    exact List.Sublist.countP_le List.filter_sublist
  · have hc' : c ∈ p.coresI := hc
    have hh := mem_coresI.1 hc'
    have hr := has_range hh
    have h1 := h.room c hc'
    rw [h.load_sum hh, sumI_drop (u := u) h.pw] at h1
    rw [Go.Proofs.Ytjmjolefhcjedaa.Vc.load_sum (p.drop u) hr.1 fun t ht => by
      have := hap c.toNat (by omega) t ht
      rwa [show ((c.toNat : Nat) : Int) = c by omega] at this]
    have h2 : 0 ≤ ((p.places.find? fun x => decide (x.unit = u)).elim 0 (Place.ld c)) := by
      cases hf : p.places.find? fun x => decide (x.unit = u) with
      | none => exact Int.le_refl _
      | some x => exact ld_nonneg (h.ok x (List.mem_of_find?_eq_some hf)) c
    show (List.map (Place.ld c) (p.places.filter fun x => decide (x.unit ≠ u))).sum ≤ p.frame
    omega

theorem mem_ins {q : Plan} {x y : Place} : y ∈ (q.ins x).places ↔ y = x ∨ y ∈ q.places := by
  unfold Plan.ins
  simp only [List.mem_append, List.mem_singleton]
  constructor
  · rintro (h | h | h)
    · exact .inr (List.mem_of_mem_take h)
    · exact .inl h
    · exact .inr (List.mem_of_mem_drop h)
  · rintro (h | h)
    · exact .inr (.inl h)
    · rw [← List.take_append_drop (posOf q.places x.unit) q.places, List.mem_append] at h
      rcases h with h | h
      · exact .inl h
      · exact .inr (.inr h)
theorem posOf_lt {l : List Place} {u : Int} : ∀ y ∈ l.take (posOf l u), y.unit < u := by
  intro y hy
  obtain ⟨j, hj, rfl⟩ := List.mem_take_iff_getElem.1 hy
  have := List.not_of_lt_findIdx (p := fun x : Place => decide (u ≤ x.unit)) (xs := l) (i := j) (by unfold posOf at hj; omega)
  simpa using this
theorem posOf_ge {l : List Place} {u : Int} (hpw : l.Pairwise fun a b => a.unit < b.unit) : ∀ y ∈ l.drop (posOf l u), u ≤ y.unit := by
  intro y hy
  obtain ⟨j, hj, rfl⟩ := List.mem_drop_iff_getElem.1 hy
  have h1 : posOf l u < l.length := by omega
  have h2 := List.findIdx_getElem (p := fun x : Place => decide (u ≤ x.unit)) (xs := l) (w := h1)
  simp only [decide_eq_true_eq] at h2
  rcases Nat.eq_zero_or_pos j with h | h
  · subst h; exact h2
  · have h3 := List.pairwise_iff_getElem.1 hpw (posOf l u) (posOf l u + j) h1 (by omega) (by omega)
    have h4 : u ≤ (l[posOf l u]'h1).unit := h2
    omega
theorem pw_ins {q : Plan} {x : Place} (hpw : q.places.Pairwise fun a b => a.unit < b.unit) (hx : ∀ y ∈ q.places, y.unit ≠ x.unit) : (q.ins x).places.Pairwise fun a b => a.unit < b.unit := by
  unfold Plan.ins
  simp only
  have hlt := posOf_lt (l := q.places) (u := x.unit)
  have hge := posOf_ge (u := x.unit) hpw
  have hpw' := hpw
  rw [← List.take_append_drop (posOf q.places x.unit) q.places, List.pairwise_append] at hpw'
  rw [List.pairwise_append]
  refine ⟨hpw'.1, ?_, fun a ha b hb => ?_⟩
  · rw [List.singleton_append, List.pairwise_cons]
    refine ⟨fun y hy => ?_, hpw'.2.1⟩
    have h1 := hge y hy
    have h2 := hx y (List.mem_of_mem_drop hy)
    omega
  · rcases List.mem_append.1 hb with hb | hb
    · obtain rfl := List.mem_singleton.1 hb
      exact hlt a ha
    · exact hpw'.2.2 a ha b hb
theorem light_ins {q : Plan} {x : Place} (h1 : q.places.length < 60) (h : q.light) (hx : x.pieces.length ≤ 20) : (q.ins x).light := by
  refine ⟨?_, fun y hy => ?_⟩
  · unfold Plan.ins
    simp only [List.length_append, List.length_take, List.length_drop, List.length_cons, List.length_nil]
    omega
  · rcases mem_ins.1 hy with rfl | hy
    · exact hx
    · exact h.2 y hy
theorem splits_ins (q : Plan) (x : Place) : (q.ins x).splits = q.splits + if x.split = true then 1 else 0 := by
  unfold Plan.splits Plan.ins
  simp only
  conv => rhs; rw [← List.take_append_drop (posOf q.places x.unit) q.places]
  simp only [List.countP_append, List.countP_cons, List.countP_nil]
  omega
theorem atc_ins (q : Plan) (x : Place) (c t : Int) : (q.ins x).atc c t = x.at c t + q.atc c t := sum_ins
/-- A place more: what is asked of it. -/
theorem right_ins {q : Plan} {x : Place} (h : q.right) (hu : ∀ y ∈ q.places, y.unit ≠ x.unit) (hx : x.ok q) (ha : ∀ c : Nat, c < 16 → ∀ t : Nat, t < 64 → x.at c t + q.atc c t ≤ 1)
    (hf : q.splits + (if x.split = true then 1 else 0) < q.coresI.length) (hl : ∀ c, q.has c = true → x.ld c + q.load c ≤ q.frame) : (q.ins x).right := by
  have hap : ∀ c : Nat, c < 16 → ∀ t : Nat, t < 64 → (q.ins x).atc c t ≤ 1 := fun c hc t ht => by rw [atc_ins]; exact ha c hc t ht
  refine ⟨h.lo, h.hi, h.cs, h.cm, fun y hy => ?_, pw_ins h.pw hu, hap, ?_, fun c hc => ?_⟩
  · rcases mem_ins.1 hy with rfl | hy
    · exact hx
    · exact h.ok y hy
  · rw [splits_ins]; exact hf
  · have hh : q.has c = true := (mem_coresI (p := q)).1 hc
    have hr := has_range hh
    have h1 := hl c hh
    rw [h.load_sum hh] at h1
    rw [Go.Proofs.Ytjmjolefhcjedaa.Vc.load_sum (q.ins x) hr.1 fun t ht => by
      have := hap c.toNat (by omega) t ht
      rwa [show ((c.toNat : Nat) : Int) = c by omega] at this]
    have h2 : ((q.ins x).places.map (Place.ld c)).sum = x.ld c + (q.places.map (Place.ld c)).sum := sumI_ins
    rw [h2]; exact h1
theorem ld_whole {x : Place} (h : x.pieces = []) (c : Int) : x.ld c = if x.core = c then x.share else 0 := by
  unfold Place.ld Place.wholeAt
  rw [sumTo_congr (h := fun _ => 0) fun t _ => at_nil h c t, sumTo_const]
  simp only [show x.split = false from nil_split.1 h, Bool.not_false, Bool.true_and, decide_eq_true_eq]
  omega
/-- A whole place more. -/
theorem right_ins_whole {q : Plan} {x : Place} (h : q.right) (hu : ∀ y ∈ q.places, y.unit ≠ x.unit) (h0 : x.pieces = []) (h1 : isUnit x.unit = true) (h2 : 1 ≤ x.share) (h3 : q.has x.core = true) (h4 : x.share ≤ q.room x.core) : (q.ins x).right := by
  unfold Plan.room at h4
  rw [if_pos h3] at h4
  have hsp : x.split = false := nil_split.1 h0
  have h6 : 0 ≤ q.load x.core := by
    rw [h.load_sum h3]
    exact sumI_nonneg fun y hy => ld_nonneg (h.ok y hy) _
  refine right_ins h hu ⟨h1, h2, by omega, by rw [if_pos h0]; exact h3⟩ (fun c hc t ht => ?_) ?_ (fun c hc => ?_)
  · rw [at_nil h0, Nat.zero_add]; exact h.apart c hc t ht
  · rw [hsp]; simpa using h.few
  · have h5 := h.room c (mem_coresI.2 hc)
    rw [ld_whole h0]
    split
    · rename_i hcc; subst hcc; omega
    · omega

/-- How a place more, a place less changes a core's load. -/
theorem load_ins {q : Plan} {x : Place} (h : q.right) (h' : (q.ins x).right) {c : Int} (hc : q.has c = true) : (q.ins x).load c = x.ld c + q.load c := by
  rw [h.load_sum hc, h'.load_sum (c := c) hc]
  exact sumI_ins
theorem load_drop {p : Plan} (h : p.right) (u : Int) {c : Int} (hc : p.has c = true) : p.load c = ((p.find u).elim 0 (Place.ld c)) + (p.drop u).load c := by
  rw [h.load_sum hc, (right_drop h u).load_sum (c := c) hc]
  exact sumI_drop h.pw

theorem find_mem {p : Plan} (hpw : p.places.Pairwise fun a b => a.unit < b.unit) {u : Int} {x : Place} : p.find u = some x ↔ x ∈ p.places ∧ x.unit = u := by
  unfold Plan.find
  constructor
  · intro h
    exact ⟨List.mem_of_find?_eq_some h, by simpa using List.find?_some h⟩
  · rintro ⟨h1, h2⟩
    obtain ⟨i, hi, rfl⟩ := List.getElem_of_mem h1
    refine find_at hi (fun y hy => ?_) h2
    obtain ⟨j, hj, rfl⟩ := List.mem_take_iff_getElem.1 hy
    have := List.pairwise_iff_getElem.1 hpw j i (by omega) hi (by omega)
    omega
theorem find_none {p : Plan} {u : Int} : p.find u = none ↔ ∀ x ∈ p.places, x.unit ≠ u := by
  unfold Plan.find
  rw [List.find?_eq_none]
  simp
theorem mem_drop {p : Plan} {u : Int} {x : Place} : x ∈ (p.drop u).places ↔ x ∈ p.places ∧ x.unit ≠ u := by
  unfold Plan.drop
  simp
theorem find_drop {p : Plan} (hpw : p.places.Pairwise fun a b => a.unit < b.unit) (u v : Int) : (p.drop u).find v = if v = u then none else p.find v := by
  split
  · rename_i h
    rw [find_none]
    intro x hx
    rw [h]; exact (mem_drop.1 hx).2
  · rename_i h
    cases hf : p.find v with
    | none =>
      rw [find_none] at hf ⊢
      exact fun x hx => hf x (mem_drop.1 hx).1
    | some x =>
      rw [find_mem hpw] at hf
      rw [find_mem (pw_drop hpw), mem_drop]
      exact ⟨⟨hf.1, by omega⟩, hf.2⟩
theorem find_ins {q : Plan} {x : Place} (hpw : q.places.Pairwise fun a b => a.unit < b.unit) (hu : ∀ y ∈ q.places, y.unit ≠ x.unit) (v : Int) : (q.ins x).find v = if v = x.unit then some x else q.find v := by
  split
  · rename_i h
    rw [find_mem (pw_ins hpw hu), mem_ins]
    exact ⟨.inl rfl, h.symm⟩
  · rename_i h
    cases hf : q.find v with
    | none =>
      rw [find_none] at hf ⊢
      intro y hy
      rcases mem_ins.1 hy with rfl | hy
      · omega
      · exact hf y hy
    | some y =>
      rw [find_mem hpw] at hf
      rw [find_mem (pw_ins hpw hu), mem_ins]
      exact ⟨.inr hf.1, hf.2⟩
theorem drop_other {p : Plan} {u : Int} : ∀ y ∈ (p.drop u).places, y.unit ≠ u := fun _ hy => (mem_drop.1 hy).2
theorem find_put {p : Plan} (hpw : p.places.Pairwise fun a b => a.unit < b.unit) (x : Place) (v : Int) : (p.put x).find v = if v = x.unit then some x else p.find v := by
  rw [put_ins, find_ins (pw_drop hpw) drop_other, find_drop hpw]
  split
  · rfl
  · rfl
theorem pw_put {p : Plan} (hpw : p.places.Pairwise fun a b => a.unit < b.unit) (x : Place) : (p.put x).places.Pairwise fun a b => a.unit < b.unit := pw_ins (pw_drop hpw) drop_other

/-- Sorted lists with the same members are one. -/
theorem sorted_ext {α : Type} {k : α → Int} : ∀ {l m : List α}, l.Pairwise (fun a b => k a < k b) → m.Pairwise (fun a b => k a < k b) → (∀ x, x ∈ l ↔ x ∈ m) → l = m
  | [], [], _, _, _ => rfl
  | [], b :: m, _, _, h => by have := (h b).2 (by simp); simp at this
  | a :: l, [], _, _, h => by have := (h a).1 (by simp); simp at this
  | a :: l, b :: m, h1, h2, h => by
    rw [List.pairwise_cons] at h1 h2
    have hab : a = b := by
      have h3 := (h a).1 (by simp)
      have h4 := (h b).2 (by simp)
      rcases List.mem_cons.1 h3 with h3 | h3
      · exact h3
      rcases List.mem_cons.1 h4 with h4 | h4
      · exact h4.symm
      have := h1.1 b h4
      have := h2.1 a h3
      omega
    subst hab
    congr 1
    refine sorted_ext h1.2 h2.2 fun x => ?_
    have hx := h x
    rw [List.mem_cons, List.mem_cons] at hx
    constructor
    · intro hm
      rcases hx.1 (.inr hm) with e | e
      · subst e; have := h1.1 x hm; omega
      · exact e
    · intro hm
      rcases hx.2 (.inr hm) with e | e
      · subst e; have := h2.1 x hm; omega
      · exact e
/-- Plans with the same places. -/
theorem plan_ext {p q : Plan} (h1 : p.frame = q.frame) (h2 : p.cores = q.cores) (hp : p.places.Pairwise fun a b => a.unit < b.unit) (hq : q.places.Pairwise fun a b => a.unit < b.unit) (h : ∀ u, p.find u = q.find u) : p = q := by
  refine Plan.ext h1 h2 (sorted_ext hp hq fun x => ?_)
  have := h x.unit
  constructor
  · intro hx
    have h3 := (find_mem hp (u := x.unit)).2 ⟨hx, rfl⟩
    rw [this, find_mem hq] at h3
    exact h3.1
  · intro hx
    have h3 := (find_mem hq (u := x.unit)).2 ⟨hx, rfl⟩
    rw [← this, find_mem hp] at h3
    exact h3.1
end Go.Proofs.Ytjmjolefhcjedaa.Vc

namespace Go.Proofs.Ytjmjolefhcjedaa.Vc
/-! Room made on a core: a step, and step after step. -/

theorem snoc_ind {α : Type} {P : List α → Prop} (h0 : P []) (h1 : ∀ l a, P l → P (l ++ [a])) (l : List α) : P l := by
  rw [← List.reverse_reverse l]
  induction l.reverse with
  | nil => exact h0
  | cons a m ih => rw [List.reverse_cons]; exact h1 _ _ ih

theorem to_other {p : Plan} {c n : Int} (hn : 1 ≤ n) : p.to c n = (p.other c n).getD (-1) := by
  unfold Plan.to Plan.other Plan.coresI
  rw [List.find?_filter]
  congr 1
  congr 1
  funext d
  rw [Bool.eq_iff_iff]
  simp only [Bool.and_eq_true, decide_eq_true_eq]
  constructor
  · rintro ⟨⟨h1, h2⟩, h3⟩; exact ⟨h2, h1, by omega⟩
  · rintro ⟨h1, h2, h3⟩; exact ⟨⟨h2, h1⟩, by omega⟩
theorem other_some {p : Plan} {c n d : Int} (hn : 1 ≤ n) (h : p.other c n = some d) : d ≠ c ∧ p.has d = true ∧ n ≤ p.room d ∧ 0 ≤ d := by
  unfold Plan.other at h
  have h1 := List.find?_some h
  have h2 := List.mem_of_find?_eq_some h
  rw [mem_coresI] at h2
  have := has_range h2
  simp only [decide_eq_true_eq] at h1
  exact ⟨h1.1, h2, by omega, this.1⟩

def Plan.good (p : Plan) (c : Int) (w : Want) : Bool := (p.other c w.share).isSome
theorem good_to {p : Plan} {c : Int} {w : Want} (hw : 1 ≤ w.share) : p.good c w = true ↔ 0 ≤ p.to c w.share := by
  unfold Plan.good
  rw [to_other hw]
  cases h : p.other c w.share with
  | none => simp
  | some d => simp [(other_some hw h).2.2.2]
def leW (a b : Want) : Prop := a.share < b.share ∨ (a.share = b.share ∧ a.unit ≤ b.unit)
theorem leW_antisymm {a b : Want} (h1 : leW a b) (h2 : leW b a) : a = b := by
  unfold leW at h1 h2
  have h3 : a.share = b.share := by omega
  have h4 : a.unit = b.unit := by omega
  cases a; cases b; simp only at h3 h4; rw [h3, h4]
theorem next_is {p : Plan} {c : Int} (l : List Want) (hpw : l.Pairwise fun a b => a.unit < b.unit) (hl : ∀ w ∈ l, 0 < w.unit ∧ 1 ≤ w.share) :
    ((∀ w ∈ l, p.good c w = false) ∧ p.next c l = ⟨0, 0⟩) ∨ (p.next c l ∈ l ∧ p.good c (p.next c l) = true ∧ ∀ w ∈ l, p.good c w = true → leW (p.next c l) w) := by
  revert hpw hl
  refine snoc_ind (P := fun l => l.Pairwise (fun a b => a.unit < b.unit) → (∀ w ∈ l, 0 < w.unit ∧ 1 ≤ w.share) → ((∀ w ∈ l, p.good c w = false) ∧ p.next c l = ⟨0, 0⟩) ∨ (p.next c l ∈ l ∧ p.good c (p.next c l) = true ∧ ∀ w ∈ l, p.good c w = true → leW (p.next c l) w)) ?_ ?_ l
  · intro _ _; exact .inl ⟨by simp, rfl⟩
  · intro l a ih hpw hl
    rw [List.pairwise_append] at hpw
    have ih := ih hpw.1 fun w hw => hl w (List.mem_append.2 (.inl hw))
    have ha := hl a (by simp)
    have e : p.next c (l ++ [a]) = if p.good c a = true ∧ ((p.next c l).unit = 0 ∨ a.share < (p.next c l).share) then a else p.next c l := by
      have e1 : p.next c (l ++ [a]) = p.better c (p.next c l) a := by unfold Plan.next; rw [List.foldl_append]; rfl
      rw [e1]
      unfold Plan.better
      simp only [good_to ha.2]
    rw [e]
    rcases ih with ⟨h1, h2⟩ | ⟨h1, h2, h3⟩
    · rw [h2]
      by_cases hg : p.good c a = true
      · rw [if_pos ⟨hg, .inl rfl⟩]
        refine .inr ⟨by simp, hg, fun w hw hgw => ?_⟩
        rcases List.mem_append.1 hw with hw | hw
        · rw [h1 w hw] at hgw; cases hgw
        · obtain rfl := List.mem_singleton.1 hw
          exact .inr ⟨rfl, Int.le_refl _⟩
      · rw [if_neg fun h => hg h.1]
        refine .inl ⟨fun w hw => ?_, rfl⟩
        rcases List.mem_append.1 hw with hw | hw
        · exact h1 w hw
        · obtain rfl := List.mem_singleton.1 hw
          simpa using hg
    · have hu := (hl _ (List.mem_append.2 (.inl h1))).1
      by_cases hg : p.good c a = true ∧ ((p.next c l).unit = 0 ∨ a.share < (p.next c l).share)
      · rw [if_pos hg]
        refine .inr ⟨by simp, hg.1, fun w hw hgw => ?_⟩
        rcases List.mem_append.1 hw with hw | hw
        · have := h3 w hw hgw
          unfold leW at this ⊢
          omega
        · obtain rfl := List.mem_singleton.1 hw
          exact .inr ⟨rfl, Int.le_refl _⟩
      · rw [if_neg hg]
        refine .inr ⟨List.mem_append.2 (.inl h1), h2, fun w hw hgw => ?_⟩
        rcases List.mem_append.1 hw with hw | hw
        · exact h3 w hw hgw
        · obtain rfl := List.mem_singleton.1 hw
          have := hpw.2.2 _ h1 w (by simp)
          unfold leW
          have h5 : ¬ (w.share < (p.next c l).share) := fun h => hg ⟨hgw, .inr h⟩
          omega
theorem find_sorted {s : List Want} {g : Want → Bool} (hs : s.Pairwise leW) {w : Want} (h1 : w ∈ s) (h2 : g w = true) (h3 : ∀ v ∈ s, g v = true → leW w v) : s.find? g = some w := by
  cases hf : s.find? g with
  | none => rw [List.find?_eq_none] at hf; exact absurd h2 (hf w h1)
  | some v =>
    obtain ⟨h4, as1, bs1, rfl, h5⟩ := List.find?_eq_some_iff_append.1 hf
    congr 1
    have h6 := h3 v (by simp) h4
    rw [List.mem_append] at h1
    rcases h1 with h1 | h1
    · have := h5 w h1; rw [h2] at this; cases this
    rcases List.mem_cons.1 h1 with h1 | h1
    · exact h1.symm
    rw [List.pairwise_append, List.pairwise_cons] at hs
    exact leW_antisymm (hs.2.1.1 w h1) h6

theorem wholes_iff {p : Plan} {c : Int} {w : Want} : w ∈ p.wholes c ↔ ∃ x ∈ p.places, x.pieces = [] ∧ x.core = c ∧ x.want = w := by
  unfold Plan.wholes
  rw [List.mem_map]
  constructor
  · rintro ⟨x, hx, rfl⟩
    rw [List.mem_filter] at hx
    obtain ⟨h1, h2⟩ := hx
    unfold Place.wholeAt at h2
    rw [Bool.and_eq_true, decide_eq_true_eq] at h2
    exact ⟨x, h1, nil_split.2 (by simpa using h2.1), h2.2, rfl⟩
  · rintro ⟨x, h1, h2, h3, rfl⟩
    refine ⟨x, ?_, rfl⟩
    rw [List.mem_filter]
    refine ⟨h1, ?_⟩
    unfold Place.wholeAt
    rw [nil_split.1 h2, h3]; simp
theorem wholes_pw {p : Plan} (hpw : p.places.Pairwise fun a b => a.unit < b.unit) (c : Int) : (p.wholes c).Pairwise fun a b => a.unit < b.unit := by
  unfold Plan.wholes
  rw [List.pairwise_map]
  exact hpw.filter _
theorem unit_pos {u : Int} (h : isUnit u = true) : 1 ≤ u ∧ u ≤ 1040 := by
  unfold isUnit at h
  simp only [decide_eq_true_eq] at h
  omega
theorem wholes_ok {p : Plan} (h : p.right) {c : Int} : ∀ w ∈ p.wholes c, 0 < w.unit ∧ 1 ≤ w.share := by
  intro w hw
  obtain ⟨x, h1, _, _, rfl⟩ := wholes_iff.1 hw
  have h2 := h.ok x h1
  have := unit_pos h2.1
  exact ⟨by show 0 < x.unit; omega, h2.2.1⟩
/-- The unit that is moved next: by the sorted list, by the page. -/
theorem next_sorted {p : Plan} (h : p.right) {c : Int} {s : List Want} (hp : s.Perm (p.wholes c)) (hs : s.Pairwise leW) :
    s.find? (p.good c) = if (p.next c (p.wholes c)).unit = 0 then none else some (p.next c (p.wholes c)) := by
  rcases next_is (p := p) (c := c) _ (wholes_pw h.pw c) (wholes_ok h) with ⟨h1, h2⟩ | ⟨h1, h2, h3⟩
  · rw [h2, if_pos rfl, List.find?_eq_none]
    intro w hw
    rw [h1 w (hp.mem_iff.1 hw)]; simp
  · have := (wholes_ok h _ h1).1
    rw [if_neg (by omega)]
    exact find_sorted hs (hp.mem_iff.2 h1) h2 fun v hv => h3 v (hp.mem_iff.1 hv)

/-- One unit moved away. -/
def Plan.step (p : Plan) (c : Int) : Option (Plan × Int) :=
  if (p.next c (p.wholes c)).unit = 0 then none else
  some (p.put ⟨(p.next c (p.wholes c)).unit, (p.next c (p.wholes c)).share, p.to c (p.next c (p.wholes c)).share, []⟩, (p.next c (p.wholes c)).unit)
/-- What a step does. -/
structure Stepped (p : Plan) (c : Int) (q : Plan) (u : Int) : Prop where
  right : q.right
  frame : q.frame = p.frame
  cores : q.cores = p.cores
  was : ∃ x, p.find u = some x ∧ x.pieces = [] ∧ x.core = c ∧ ∃ d, d ≠ c ∧ p.has d = true ∧ x.share ≤ p.room d ∧ q = p.put ⟨u, x.share, d, []⟩
theorem put_len {p : Plan} {x : Place} (hpw : p.places.Pairwise fun a b => a.unit < b.unit) (h : (p.find x.unit).isSome = true) : (p.put x).places.length = p.places.length := by
  have h1 : ∀ l : List Place, (l.map fun _ => 1).sum = l.length := by
    intro l; induction l with
    | nil => rfl
    | cons a l ih => rw [List.map_cons, List.sum_cons, ih, List.length_cons]; omega
  have h2 := sum_drop (f := fun _ => 1) (u := x.unit) hpw
  have h3 : (List.map (fun _ => 1) (p.put x).places).sum = 1 + ((p.drop x.unit).places.map fun _ => 1).sum := sum_ins
  rw [h1, h1] at h3
  rw [h1] at h2
  rw [h3]
  obtain ⟨y, hy⟩ := Option.isSome_iff_exists.1 h
  unfold Plan.find at hy
  rw [hy, h1] at h2
  show _ = _
  have : (p.drop x.unit).places = p.places.filter fun y => decide (y.unit ≠ x.unit) := rfl
  rw [this]
  simp only [Option.elim_some] at h2
  omega
theorem room_drop {p : Plan} (h : p.right) (u : Int) {d : Int} (hd : p.has d = true) : p.room d ≤ (p.drop u).room d := by
  have h1 := load_drop h u hd
  have h2 : 0 ≤ (p.find u).elim 0 (Place.ld d) := by
    cases hf : p.find u with
    | none => exact Int.le_refl _
    | some x => exact ld_nonneg (h.ok x (List.mem_of_find?_eq_some hf)) d
  unfold Plan.room
  rw [if_pos hd, if_pos (show (p.drop u).has d = true from hd)]
  show _ ≤ p.frame - (p.drop u).load d
  omega
/-- A unit of a right plan put whole on a core that has room: the plan is right. -/
theorem right_put {p : Plan} (h : p.right) {x : Place} (h0 : x.pieces = []) (h1 : isUnit x.unit = true) (h2 : 1 ≤ x.share) (h3 : p.has x.core = true) (h4 : x.share ≤ (p.drop x.unit).room x.core) : (p.put x).right := by
  rw [put_ins]
  exact right_ins_whole (right_drop h _) drop_other h0 h1 h2 h3 h4
theorem step_is {p : Plan} (h : p.right) {c : Int} {q : Plan} {u : Int} (hs : p.step c = some (q, u)) : Stepped p c q u := by
  unfold Plan.step at hs
  split at hs
  · cases hs
  rename_i hu
  simp only [Option.some.injEq, Prod.mk.injEq] at hs
  rcases next_is (p := p) (c := c) _ (wholes_pw h.pw c) (wholes_ok h) with ⟨h1, h2⟩ | ⟨h1, h2, h3⟩
  · rw [h2] at hu; exact absurd rfl hu
  generalize hw : p.next c (p.wholes c) = w at *
  obtain ⟨x, hx1, hx2, hx3, rfl⟩ := wholes_iff.1 h1
  obtain ⟨rfl, rfl⟩ := hs
  have hok := h.ok x hx1
  have hsh : 1 ≤ x.want.share := hok.2.1
  have hg : p.good c x.want = true := h2
  unfold Plan.good at hg
  obtain ⟨d, hd⟩ := Option.isSome_iff_exists.1 hg
  obtain ⟨hd1, hd2, hd3, hd4⟩ := other_some hsh hd
  have hto : p.to c x.want.share = d := by rw [to_other hsh, hd]; rfl
  rw [hto]
  refine ⟨right_put h rfl hok.1 hsh hd2 ?_, rfl, rfl, x, (find_mem h.pw).2 ⟨hx1, rfl⟩, hx2, hx3, d, hd1, hd2, hd3, rfl⟩
  exact Int.le_trans hd3 (room_drop h _ hd2)

/-- Step after step: as many as k. -/
def Plan.empt (c n : Int) : Nat → Plan → List Int → Option (Plan × List Int)
  | 0, p, m => if p.room c < n then none else some (p, m)
  | k + 1, p, m => if p.room c < n then (match p.step c with | none => none | some (q, u) => Plan.empt c n k q (m ++ [u])) else some (p, m)
theorem empt_done {c n : Int} {k : Nat} {p : Plan} {m : List Int} (h : ¬ p.room c < n) : Plan.empt c n k p m = some (p, m) := by
  cases k <;> (unfold Plan.empt; rw [if_neg h])

def Place.wantT (x : Place) : Want := x.want
def Plan.wants (p : Plan) : List Want := p.places.map Place.want
/-- What is so behind some steps from p0, m moved. -/
structure Moved (p0 : Plan) (c : Int) (p : Plan) (m : List Int) : Prop where
  right : p.right
  frame : p.frame = p0.frame
  cores : p.cores = p0.cores
  len : p.places.length = p0.places.length
  pieces : ∀ x ∈ p.places, x.pieces = [] ∨ x ∈ p0.places
  nodup : m.Nodup
  mv : ∀ u ∈ m, ∃ x y, p0.find u = some x ∧ x.pieces = [] ∧ x.core = c ∧ p.find u = some y ∧ y.pieces = [] ∧ y.core ≠ c ∧ y.share = x.share
  st : ∀ u, u ∉ m → p.find u = p0.find u
  splits : p.splits = p0.splits
theorem Moved.refl {p : Plan} (h : p.right) (c : Int) : Moved p c p [] := ⟨h, rfl, rfl, rfl, fun _ hx => .inr hx, List.nodup_nil, by simp, fun _ _ => rfl, rfl⟩
theorem splits_sum (l : List Place) : l.countP Place.split = (l.map fun x => if x.split = true then 1 else 0).sum := by
  induction l with
  | nil => rfl
  | cons a l ih => rw [List.countP_cons, List.map_cons, List.sum_cons, ih]; omega
theorem splits_drop {p : Plan} (hpw : p.places.Pairwise fun a b => a.unit < b.unit) (u : Int) : p.splits = ((p.find u).elim 0 fun x => if x.split = true then 1 else 0) + (p.drop u).splits := by
  unfold Plan.splits
  rw [splits_sum, splits_sum]
  exact sum_drop hpw
theorem splits_put_whole {p : Plan} (hpw : p.places.Pairwise fun a b => a.unit < b.unit) {y x : Place} (hy : p.find x.unit = some y) (h1 : y.pieces = []) (h2 : x.pieces = []) : (p.put x).splits = p.splits := by
  rw [put_ins, splits_ins, splits_drop hpw x.unit, hy, nil_split.1 h2]
  simp only [Option.elim_some, nil_split.1 h1]
  simp
theorem put_find_len {p : Plan} (h : p.right) {u : Int} {x : Place} (hf : p.find u = some x) {d s : Int} : (p.put ⟨u, s, d, []⟩).places.length = p.places.length :=
  put_len h.pw (by show (p.find u).isSome = true; rw [hf]; rfl)
theorem Moved.step {p0 p q : Plan} {c u : Int} {m : List Int} (h : Moved p0 c p m) (hs : Stepped p c q u) : Moved p0 c q (m ++ [u]) ∧ u ∉ m := by
  obtain ⟨x, hx1, hx2, hx3, d, hd1, hd2, hd3, hq⟩ := hs.was
  have hum : u ∉ m := by
    intro hu
    obtain ⟨x', y, _, _, _, h4, _, h6, _⟩ := h.mv u hu
    rw [hx1] at h4
    obtain rfl := Option.some.inj h4
    exact h6 hx3
  have hfu : p0.find u = some x := by rw [← h.st u hum]; exact hx1
  refine ⟨⟨hs.right, hs.frame.trans h.frame, hs.cores.trans h.cores, ?_, ?_, ?_, ?_, ?_, ?_⟩, hum⟩
  · rw [hq, put_find_len h.right hx1]; exact h.len
  · intro z hz
    rw [hq, put_ins] at hz
    rcases mem_ins.1 hz with rfl | hz
    · exact .inl rfl
    · exact h.pieces z (mem_drop.1 hz).1
  · rw [List.nodup_append]
    exact ⟨h.nodup, by simp, fun a ha b hb hab => by obtain rfl := List.mem_singleton.1 hb; subst hab; exact hum ha⟩
  · intro v hv
    rw [List.mem_append] at hv
    rw [hq, find_put h.right.pw]
    simp only
    by_cases hvu : v = u
    · subst hvu
      exact ⟨x, ⟨v, x.share, d, []⟩, hfu, hx2, hx3, by rw [if_pos rfl], rfl, hd1, rfl⟩
    · rw [if_neg hvu]
      rcases hv with hv | hv
      · exact h.mv v hv
      · exact absurd (List.mem_singleton.1 hv) hvu
  · intro v hv
    rw [List.mem_append, not_or] at hv
    rw [hq, find_put h.right.pw, if_neg fun e => hv.2 (by simpa using e)]
    exact h.st v hv.1
  · rw [hq, splits_put_whole h.right.pw (x := ⟨u, x.share, d, []⟩) hx1 hx2 rfl]; exact h.splits
theorem empt_moved {p0 : Plan} {c n : Int} : ∀ {k : Nat} {p : Plan} {m : List Int} {r : Plan × List Int}, Moved p0 c p m → Plan.empt c n k p m = some r → Moved p0 c r.1 r.2 ∧ r.2.length ≤ m.length + k ∧ n ≤ r.1.room c
  | 0, p, m, r, h, he => by
    unfold Plan.empt at he
    split at he
    · cases he
    · obtain rfl := Option.some.inj he
      exact ⟨h, by simp, Int.not_lt.1 ‹_›⟩
  | k + 1, p, m, r, h, he => by
    unfold Plan.empt at he
    split at he
    · split at he
      · cases he
      · rename_i q u hs
        have h1 := (h.step (step_is h.right hs)).1
        obtain ⟨h2, h3, h4⟩ := empt_moved h1 he
        rw [List.length_append] at h3
        exact ⟨h2, by simpa [Nat.add_assoc, Nat.add_comm 1 k] using h3, h4⟩
    · obtain rfl := Option.some.inj he
      exact ⟨h, by simp, Int.not_lt.1 ‹_›⟩
theorem Moved.light {p0 p : Plan} {c : Int} {m : List Int} (h : Moved p0 c p m) (hl : p0.light) : p.light :=
  ⟨by rw [h.len]; exact hl.1, fun x hx => by
    rcases h.pieces x hx with e | e
    · rw [e]; simp
    · exact hl.2 x e⟩
/-- The wants, by the units. -/
theorem wants_ext {p q : Plan} (hp : p.places.Pairwise fun a b => a.unit < b.unit) (hq : q.places.Pairwise fun a b => a.unit < b.unit) (h : ∀ u, (p.find u).map Place.share = (q.find u).map Place.share) : p.wants = q.wants := by
  refine sorted_ext (k := Want.unit) (by unfold Plan.wants; rw [List.pairwise_map]; exact hp) (by unfold Plan.wants; rw [List.pairwise_map]; exact hq) fun w => ?_
  have key : ∀ {p : Plan}, (p.places.Pairwise fun a b => a.unit < b.unit) → (w ∈ p.wants ↔ (p.find w.unit).map Place.share = some w.share) := by
    intro p hp
    unfold Plan.wants
    rw [List.mem_map]
    constructor
    · rintro ⟨x, hx, rfl⟩
      rw [show p.find x.want.unit = some x from (find_mem hp).2 ⟨hx, rfl⟩]; rfl
    · intro h
      rw [Option.map_eq_some_iff] at h
      obtain ⟨x, h1, h2⟩ := h
      rw [find_mem hp] at h1
      refine ⟨x, h1.1, ?_⟩
      unfold Place.want
      rw [h1.2, h2]
  rw [key hp, key hq, h]
theorem Moved.wants {p0 p : Plan} {c : Int} {m : List Int} (h : Moved p0 c p m) (h0 : p0.right) : p0.wants = p.wants := by
  refine wants_ext h0.pw h.right.pw fun u => ?_
  by_cases hu : u ∈ m
  · obtain ⟨x, y, h1, _, _, h4, _, _, h7⟩ := h.mv u hu
    rw [h1, h4]; simp [h7]
  · rw [h.st u hu]
end Go.Proofs.Ytjmjolefhcjedaa.Vc

namespace Go.Proofs.Ytjmjolefhcjedaa.Vc
/-! Who is moved. -/

theorem likeOn_refl (x : Place) (c : Nat) : x.likeOn x c := ⟨rfl, fun _ _ => rfl⟩
theorem moves_same {p q : Plan} {u : Int} (h : q.find u = p.find u) : p.moves q u = false := by
  unfold Plan.moves
  rw [h]
  cases p.find u with
  | none => rfl
  | some x =>
    simp only [decide_eq_false_iff_not]
    rintro ⟨c, _, h⟩
    exact h (likeOn_refl x c)
theorem on_whole {x : Place} (h : x.pieces = []) (c : Int) : x.on c = decide (x.core = c) := by
  unfold Place.on
  rw [h]; simp
theorem moves_whole {p q : Plan} {u : Int} {x y : Place} (h1 : p.find u = some x) (h2 : q.find u = some y) (hx : x.pieces = []) (hy : y.pieces = []) (h0 : 0 ≤ x.core) (h15 : x.core ≤ 15) (hne : y.core ≠ x.core) : p.moves q u = true := by
  unfold Plan.moves
  rw [h1, h2]
  simp only [decide_eq_true_eq]
  refine ⟨x.core.toNat, by omega, fun h => ?_⟩
  have h3 := h.1
  rw [on_whole hx, on_whole hy, Bool.eq_iff_iff] at h3
  simp only [decide_eq_true_eq] at h3
  omega
theorem unitsTo_mem {p q : Plan} {n : Nat} {u : Int} : u ∈ unitsTo p q n ↔ (1 ≤ u ∧ u ≤ n) ∧ ((p.find u).isSome = true ∨ (q.find u).isSome = true) := by
  unfold unitsTo
  rw [List.mem_filter, List.mem_map, Bool.or_eq_true]
  constructor
  · rintro ⟨⟨k, hk, rfl⟩, h⟩
    rw [List.mem_range] at hk
    exact ⟨by omega, h⟩
  · rintro ⟨h1, h⟩
    exact ⟨⟨(u - 1).toNat, by rw [List.mem_range]; omega, by omega⟩, h⟩
theorem unitsTo_nodup (p q : Plan) (n : Nat) : (unitsTo p q n).Nodup := by
  unfold unitsTo
  refine List.Pairwise.filter _ ?_
  rw [List.pairwise_map]
  refine List.Pairwise.imp ?_ (List.nodup_range (n := n))
  intro a b h e
  omega
theorem movedL_nodup (p q : Plan) : (movedL p q).Nodup := List.Pairwise.filter _ (unitsTo_nodup p q 1040)
theorem Moved.list {p0 p : Plan} {c : Int} {m : List Int} (h : Moved p0 c p m) (h0 : p0.right) : ∀ u, u ∈ movedL p0 p ↔ u ∈ m := by
  intro u
  unfold movedL
  rw [List.mem_filter]
  constructor
  · rintro ⟨_, h2⟩
    refine Classical.byContradiction fun hu => ?_
    rw [moves_same (h.st u hu)] at h2
    cases h2
  · intro hu
    obtain ⟨x, y, h1, h2, h3, h4, h5, h6, _⟩ := h.mv u hu
    have hx := (find_mem h0.pw).1 h1
    have hok := h0.ok x hx.1
    have hup := unit_pos hok.1
    have hc := hok.2.2.2
    rw [if_pos h2] at hc
    have hr := has_range hc
    refine ⟨unitsTo_mem.2 ⟨by omega, .inl (by rw [h1]; rfl)⟩, moves_whole h1 h4 h2 h5 hr.1 hr.2 (by omega)⟩
theorem nodup_len {l m : List Int} (hl : l.Nodup) (hm : m.Nodup) (h : ∀ u, u ∈ l ↔ u ∈ m) : l.length = m.length :=
  ((List.perm_ext_iff_of_nodup hl hm).2 h).length_eq
theorem Moved.len_list {p0 p : Plan} {c : Int} {m : List Int} (h : Moved p0 c p m) (h0 : p0.right) : m.length = (movedL p0 p).length :=
  nodup_len h.nodup (movedL_nodup _ _) fun u => (h.list h0 u).symm
theorem count_one {m : List Int} (hm : m.Nodup) {u : Int} (h : u ∈ m) : (m.filter fun x => decide (x = u)).length = 1 := by
  induction m with
  | nil => simp at h
  | cons a m ih =>
    rw [List.nodup_cons] at hm
    by_cases he : a = u
    · subst he
      rw [List.filter_cons_of_pos (by simp), List.filter_eq_nil_iff.2]
      · rfl
      · intro x hx hxa
        simp only [decide_eq_true_eq] at hxa
        subst hxa; exact hm.1 hx
    · rw [List.filter_cons_of_neg (by simpa using he)]
      refine ih hm.2 ?_
      rcases List.mem_cons.1 h with e | e
      · exact absurd e.symm he
      · exact e
end Go.Proofs.Ytjmjolefhcjedaa.Vc

namespace Go.Proofs.Ytjmjolefhcjedaa.Vc
/-! First fit. -/

def Plan.firstC (p : Plan) (n : Int) : Option Int := p.coresI.find? fun c => decide (n ≤ p.room c)
theorem firstC_some {p : Plan} {n c : Int} (h : p.firstC n = some c) : p.has c = true ∧ n ≤ p.room c := by
  have h1 := List.find?_some h
  exact ⟨mem_coresI.1 (List.mem_of_find?_eq_some h), by simpa using h1⟩
theorem firstC_none {p : Plan} {n : Int} : p.firstC n = none ↔ ∀ c, p.has c = true → p.room c < n := by
  unfold Plan.firstC
  rw [List.find?_eq_none]
  constructor
  · intro h c hc
    have := h c (mem_coresI.2 hc)
    simpa using this
  · intro h c hc
    have := h c (mem_coresI.1 hc)
    simpa using this

/-- One want, placed or left over. -/
def fitS (s : Plan × List Want) (w : Want) : Plan × List Want := match s.1.firstC w.share with
  | none => (s.1, s.2 ++ [w])
  | some c => (s.1.put ⟨w.unit, w.share, c, []⟩, s.2)
def Plan.fit (p : Plan) (l : List Want) : Plan × List Want := l.foldl fitS (p, [])

/-- Wants that may be placed in a plan. -/
structure WantsFor (p : Plan) (l : List Want) : Prop where
  ok : ∀ w ∈ l, isUnit w.unit = true ∧ 1 ≤ w.share ∧ w.share ≤ p.frame
  nd : l.Pairwise fun a b => a.unit ≠ b.unit
  new : ∀ w ∈ l, ∀ x ∈ p.places, x.unit ≠ w.unit

theorem drop_absent {p : Plan} {u : Int} (h : ∀ x ∈ p.places, x.unit ≠ u) : p.drop u = p := by
  refine Plan.ext rfl rfl ?_
  exact filter_other h
theorem put_absent {p : Plan} {x : Place} (h : ∀ y ∈ p.places, y.unit ≠ x.unit) : p.put x = p.ins x := by
  rw [put_ins, drop_absent h]
theorem ins_len (q : Plan) (x : Place) : (q.ins x).places.length = q.places.length + 1 := by
  unfold Plan.ins
  simp only [List.length_append, List.length_take, List.length_drop, List.length_cons, List.length_nil]
  have : posOf q.places x.unit ≤ q.places.length := List.findIdx_le_length
  omega

/-- What is so behind some of the wants. -/
structure Fitted (p : Plan) (l : List Want) (q : Plan) (left : List Want) : Prop where
  right : q.right
  frame : q.frame = p.frame
  cores : q.cores = p.cores
  len : q.places.length + left.length = p.places.length + l.length
  mem : ∀ x ∈ q.places, x ∈ p.places ∨ (x.pieces = [] ∧ ∃ w ∈ l, w = x.want)
  keep : ∀ x ∈ p.places, x ∈ q.places
  over : ∀ w ∈ left, w ∈ l ∧ ∀ c, q.has c = true → q.room c < w.share
  put : ∀ w ∈ l, w ∈ left ∨ ∃ x ∈ q.places, x.pieces = [] ∧ x.want = w
  sub : left.Sublist l
  splits : q.splits = p.splits
  loads : shareSum left + (q.places.map Place.share).sum = shareSum l + (p.places.map Place.share).sum
theorem shareSum_snoc (l : List Want) (w : Want) : shareSum (l ++ [w]) = shareSum l + w.share := by
  unfold shareSum; simp
theorem room_ins {q : Plan} {x : Place} (h : q.right) (h' : (q.ins x).right) {c : Int} (hc : q.has c = true) : (q.ins x).room c = q.room c - x.ld c := by
  unfold Plan.room
  rw [if_pos hc, if_pos (show (q.ins x).has c = true from hc), load_ins h h' hc]
  show q.frame - _ = _
  omega
theorem fit_all {p : Plan} (hp : p.right) (l : List Want) : WantsFor p l → Fitted p l (p.fit l).1 (p.fit l).2 := by
  refine snoc_ind (P := fun l => WantsFor p l → Fitted p l (p.fit l).1 (p.fit l).2) ?_ ?_ l
  · intro _
    exact ⟨hp, rfl, rfl, rfl, fun x hx => .inl hx, fun x hx => hx, by intro w hw; simp [Plan.fit] at hw, by simp, by simp [Plan.fit], rfl, rfl⟩
  · intro l w ih hW
    have hpw := List.pairwise_append.1 hW.nd
    have ih := ih ⟨fun v hv => hW.ok v (List.mem_append.2 (.inl hv)), hpw.1, fun v hv => hW.new v (List.mem_append.2 (.inl hv))⟩
    have hw := hW.ok w (by simp)
    have e : p.fit (l ++ [w]) = fitS (p.fit l) w := by unfold Plan.fit; rw [List.foldl_append]; rfl
    rw [e]
    generalize p.fit l = s at *
    obtain ⟨q, left⟩ := s
    simp only at ih
    unfold fitS
    cases hf : q.firstC w.share with
    | none =>
      simp only
      refine ⟨ih.right, ih.frame, ih.cores, ?_, fun x hx => ?_, ih.keep, fun v hv => ?_, fun v hv => ?_, List.Sublist.append ih.sub (List.Sublist.refl _), ih.splits, ?_⟩
      · have := ih.len; simp only [List.length_append, List.length_cons, List.length_nil]; omega
      · rcases ih.mem x hx with h | ⟨h1, v, h2, h3⟩
        · exact .inl h
        · exact .inr ⟨h1, v, List.mem_append.2 (.inl h2), h3⟩
      · rcases List.mem_append.1 hv with hv | hv
        · exact ⟨List.mem_append.2 (.inl (ih.over v hv).1), (ih.over v hv).2⟩
        · obtain rfl := List.mem_singleton.1 hv
          exact ⟨by simp, firstC_none.1 hf⟩
      · rcases List.mem_append.1 hv with hv | hv
        · rcases ih.put v hv with h | h
          · exact .inl (List.mem_append.2 (.inl h))
          · exact .inr h
        · exact .inl (List.mem_append.2 (.inr hv))
      · have := ih.loads; rw [shareSum_snoc, shareSum_snoc]; omega
    | some c =>
      simp only
      obtain ⟨hc, hr⟩ := firstC_some hf
      have hnew : ∀ y ∈ q.places, y.unit ≠ w.unit := fun y hy => by
        rcases ih.mem y hy with h | ⟨h1, v, h2, h3⟩
        · exact hW.new w (by simp) y h
        · have := hpw.2.2 v h2 w (by simp)
          rw [h3] at this
          exact this
      rw [put_absent (x := ⟨w.unit, w.share, c, []⟩) hnew]
      have hR : (q.ins ⟨w.unit, w.share, c, []⟩).right := right_ins_whole ih.right hnew rfl hw.1 hw.2.1 hc hr
      refine ⟨hR, ih.frame, ih.cores, ?_, fun x hx => ?_, fun x hx => mem_ins.2 (.inr (ih.keep x hx)), fun v hv => ?_, fun v hv => ?_, ?_, ?_, ?_⟩
      · have := ih.len; rw [ins_len]; simp only [List.length_append, List.length_cons, List.length_nil]; omega
      · rcases mem_ins.1 hx with rfl | hx
        · exact .inr ⟨rfl, w, by simp, rfl⟩
        · rcases ih.mem x hx with h | ⟨h1, v, h2, h3⟩
          · exact .inl h
          · exact .inr ⟨h1, v, List.mem_append.2 (.inl h2), h3⟩
      · refine ⟨List.mem_append.2 (.inl (ih.over v hv).1), fun d hd => ?_⟩
        have h1 := (ih.over v hv).2 d hd
        have hd' : q.has d = true := hd
        rw [room_ins ih.right hR hd', ld_whole rfl]
        have := hw.2.1
        simp only
        split <;> omega
      · rcases List.mem_append.1 hv with hv | hv
        · rcases ih.put v hv with h | ⟨x, h1, h2⟩
          · exact .inl h
          · exact .inr ⟨x, mem_ins.2 (.inr h1), h2⟩
        · obtain rfl := List.mem_singleton.1 hv
          exact .inr ⟨_, mem_ins.2 (.inl rfl), rfl, rfl⟩
      · exact List.Sublist.trans ih.sub (List.sublist_append_left _ _)
      · rw [splits_ins]; exact ih.splits
      · have := ih.loads
        have e2 : ((q.ins ⟨w.unit, w.share, c, []⟩).places.map Place.share).sum = w.share + (q.places.map Place.share).sum := sumI_ins
        rw [shareSum_snoc, e2]; omega
/-- Who is placed, and where the shares are: all on the cores. -/
theorem room_sum {p : Plan} (h : p.right) (hw : ∀ x ∈ p.places, x.pieces = []) : (p.coresI.map p.room).sum = p.frame * p.coresI.length - (p.places.map Place.share).sum := by
  have h1 : ∀ l : List Int, (∀ c ∈ l, p.has c = true) → (l.map p.room).sum = p.frame * l.length - (l.map fun c => (p.places.map (Place.ld c)).sum).sum := by
    intro l
    induction l with
    | nil => intro _; simp
    | cons c l ih =>
      intro hl
      simp only [List.map_cons, List.sum_cons, List.length_cons]
      rw [ih fun d hd => hl d (by simp [hd])]
      have hc := hl c (by simp)
      have : p.room c = p.frame - (p.places.map (Place.ld c)).sum := by unfold Plan.room; rw [if_pos hc, h.load_sum hc]
      rw [this]
      have : p.frame * ((l.length + 1 : Nat) : Int) = p.frame * (l.length : Int) + p.frame := by rw [Int.natCast_add, Int.mul_add]; simp
      omega
  rw [h1 p.coresI fun c hc => mem_coresI.1 hc]
  have h2 : ∀ (P : List Place) (l : List Int), (∀ x ∈ P, x.pieces = [] ∧ x.core ∈ l) → l.Nodup → (l.map fun c => (P.map (Place.ld c)).sum).sum = (P.map Place.share).sum := by
    intro P
    induction P with
    | nil =>
      intro l g1 g2
      clear g1 g2
      simp only [List.map_nil, List.sum_nil]
      induction l with
      | nil => rfl
      | cons a l ih => rw [List.map_cons, List.sum_cons, ih]; rfl
    | cons x P ih =>
      intro l hx hl
      simp only [List.map_cons, List.sum_cons]
      have e : (l.map fun c => Place.ld c x + (P.map (Place.ld c)).sum).sum = (l.map fun c => Place.ld c x).sum + (l.map fun c => (P.map (Place.ld c)).sum).sum := by
        clear hx hl
        induction l with
        | nil => rfl
        | cons a l ih2 => simp only [List.map_cons, List.sum_cons]; rw [ih2]; omega
      rw [e, ih l (fun y hy => hx y (by simp [hy])) hl]
      have hx0 := hx x (by simp)
      have e2 : ∀ l : List Int, l.Nodup → (l.map fun c => Place.ld c x).sum = if x.core ∈ l then x.share else 0 := by
        intro l
        induction l with
        | nil => intro _; rfl
        | cons a l ih3 =>
          intro hn
          rw [List.nodup_cons] at hn
          simp only [List.map_cons, List.sum_cons, List.mem_cons]
          rw [ih3 hn.2, ld_whole hx0.1]
          by_cases ha : x.core = a
          · rw [if_pos ha, if_neg (by rw [ha]; exact hn.1), if_pos (.inl ha)]; omega
          · rw [if_neg ha]
            by_cases hm : x.core ∈ l
            · rw [if_pos hm, if_pos (.inr hm)]; omega
            · rw [if_neg hm, if_neg (by rintro (h | h); exact ha h; exact hm h)]; omega
      rw [e2 l hl, if_pos hx0.2]
  rw [h2 p.places p.coresI (fun x hx => ⟨hw x hx, mem_coresI.2 (by
    have := (h.ok x hx).2.2.2
    rwa [if_pos (hw x hx)] at this)⟩) ?_]
  unfold Plan.coresI
  refine List.Pairwise.filter _ ?_
  rw [List.pairwise_map]
  exact List.Pairwise.imp (fun h e => h (by omega)) List.nodup_range
/-- Sure: by the shares alone nobody is left over. -/
theorem fit_sure {p : Plan} (h0 : p.places = []) (hp : p.right) {l : List Want} (hW : WantsFor p l) {a : Int} (ha : ∀ w ∈ l, w.share ≤ a)
    (hs : shareSum l + (p.coresI.length - 1) * a < p.coresI.length * p.frame + p.coresI.length) : (p.fit l).2 = [] := by
  have hF := fit_all hp l hW
  generalize p.fit l = s at *
  obtain ⟨q, left⟩ := s
  simp only at hF ⊢
  cases left with
  | nil => rfl
  | cons w left =>
    exfalso
    obtain ⟨hwl, hroom⟩ := hF.over w (by simp)
    have hwp : ∀ x ∈ q.places, x.pieces = [] := fun x hx => by
      rcases hF.mem x hx with h | h
      · rw [h0] at h; simp at h
      · exact h.1
    have h1 := room_sum hF.right hwp
    have hci : q.coresI = p.coresI := coresI_congr hF.cores
    rw [hci] at h1
    have h2 : ∀ l : List Int, (∀ c ∈ l, q.has c = true) → (l.map q.room).sum ≤ l.length * (w.share - 1) := by
      intro l
      induction l with
      | nil => intro _; simp
      | cons c l ih =>
        intro hl
        have := ih fun d hd => hl d (by simp [hd])
        have := hroom c (hl c (by simp))
        simp only [List.map_cons, List.sum_cons, List.length_cons]
        have : ((l.length + 1 : Nat) : Int) * (w.share - 1) = (l.length : Int) * (w.share - 1) + (w.share - 1) := by rw [Int.natCast_add, Int.add_mul]; simp
        omega
    have h3 := h2 p.coresI fun c hc => by rw [← hci] at hc; exact mem_coresI.1 hc
    have h4 := hF.loads
    rw [h0] at h4
    simp only [List.map_nil, List.sum_nil] at h4
    have h5 : shareSum (w :: left) = w.share + shareSum left := by unfold shareSum; simp
    have h6 : 0 ≤ shareSum left := by
      refine sumI_nonneg fun v hv => ?_
      have := (hW.ok v (hF.over v (by simp [hv])).1).2.1
      omega
    have h7 := ha w hwl
    have h8 : 1 ≤ p.coresI.length := by have := hp.few; omega
    rw [hF.frame] at h1
    generalize (p.coresI.map q.room).sum = R at *
    generalize (q.places.map Place.share).sum = S at *
    generalize p.coresI.length = n at *
    obtain ⟨k, rfl⟩ : ∃ k, n = k + 1 := ⟨n - 1, by omega⟩
    have e1 : ((k + 1 : Nat) : Int) * (w.share - 1) = k * w.share + w.share - k - 1 := by
      rw [Int.natCast_add, Int.add_mul, Int.mul_sub]; simp; omega
    have e2 : (((k + 1 : Nat) : Int) - 1) * a = k * a := by congr 1; omega
    have e3 : p.frame * ((k + 1 : Nat) : Int) = ((k + 1 : Nat) : Int) * p.frame := Int.mul_comm _ _
    have e4 : (k : Int) * w.share ≤ k * a := Int.mul_le_mul_of_nonneg_left h7 (by omega)
    rw [e1] at h3
    rw [e2] at hs
    rw [e3] at h1
    omega
end Go.Proofs.Ytjmjolefhcjedaa.Vc

namespace Go.Proofs.Ytjmjolefhcjedaa.Vc
/-! Orders of wants. -/

def orI (a b : Int) : Int := if a ≠ 0 then a else b
/-- The compare of moves: shares rising, then units rising. -/
def cfM (x y : Want) : Int := orI (cmpI x.share y.share) (cmpI x.unit y.unit)
/-- The compare of order and of settle: shares falling, then units rising. -/
def cfS (x y : Want) : Int := orI (cmpI y.share x.share) (cmpI x.unit y.unit)
theorem cfM_lt {x y : Want} : cfM x y < 0 ↔ x.share < y.share ∨ (x.share = y.share ∧ x.unit < y.unit) := by
  unfold cfM orI cmpI
  repeat' split
  all_goals omega
theorem cfS_lt {x y : Want} : cfS x y < 0 ↔ y.share < x.share ∨ (x.share = y.share ∧ x.unit < y.unit) := by
  unfold cfS orI cmpI
  repeat' split
  all_goals omega
def srtM (l : List Want) : List Want := l.mergeSort fun x y => !decide (cfM y x < 0)
def srtS (l : List Want) : List Want := l.mergeSort fun x y => !decide (cfS y x < 0)
def leD (a b : Want) : Prop := b.share < a.share ∨ (a.share = b.share ∧ a.unit ≤ b.unit)
theorem leD_antisymm {a b : Want} (h1 : leD a b) (h2 : leD b a) : a = b := by
  unfold leD at h1 h2
  have h3 : a.share = b.share := by omega
  have h4 : a.unit = b.unit := by omega
  cases a; cases b; simp only at h3 h4; rw [h3, h4]
theorem srtM_pw (l : List Want) : (srtM l).Pairwise leW := by
  unfold srtM
  refine List.Pairwise.imp ?_ (List.pairwise_mergeSort ?_ ?_ l)
  · intro a b h
    simp only [Bool.not_eq_true', decide_eq_false_iff_not, cfM_lt] at h
    unfold leW; omega
  · intro a b c h1 h2
    simp only [Bool.not_eq_true', decide_eq_false_iff_not, cfM_lt] at *
    omega
  · intro a b
    simp only [Bool.or_eq_true, Bool.not_eq_true', decide_eq_false_iff_not, cfM_lt]
    omega
theorem srtM_perm (l : List Want) : (srtM l).Perm l := List.mergeSort_perm _ _
theorem srtS_pw (l : List Want) : (srtS l).Pairwise leD := by
  unfold srtS
  refine List.Pairwise.imp ?_ (List.pairwise_mergeSort ?_ ?_ l)
  · intro a b h
    simp only [Bool.not_eq_true', decide_eq_false_iff_not, cfS_lt] at h
    unfold leD; omega
  · intro a b c h1 h2
    simp only [Bool.not_eq_true', decide_eq_false_iff_not, cfS_lt] at *
    omega
  · intro a b
    simp only [Bool.or_eq_true, Bool.not_eq_true', decide_eq_false_iff_not, cfS_lt]
    omega
theorem srtS_perm (l : List Want) : (srtS l).Perm l := List.mergeSort_perm _ _
/-- There is one sorted list. -/
theorem srtS_uniq {l m : List Want} (h1 : m.Perm l) (h2 : m.Pairwise leD) : m = srtS l :=
  List.Perm.eq_of_pairwise (le := leD) (fun _ _ _ _ h h' => leD_antisymm h h') h2 (srtS_pw l) (h1.trans (srtS_perm l).symm)
theorem srtS_congr {l m : List Want} (h : l.Perm m) : srtS l = srtS m := srtS_uniq ((srtS_perm l).trans h) (srtS_pw l)

/-- The document's way: one behind the other put in its place. -/
def aheadW (a b : Want) : Bool := decide (b.share < a.share) || (decide (a.share = b.share) && decide (a.unit < b.unit))
def putPos (l : List Want) (w : Want) : Nat := l.findIdx (aheadW w)
def putW (l : List Want) (w : Want) : List Want := l.take (putPos l w) ++ ([w] ++ l.drop (putPos l w))
def sortW (l : List Want) : List Want := l.foldl putW []
theorem ahead_iff {a b : Want} : aheadW a b = true ↔ ¬ leD b a := by
  unfold aheadW leD
  simp only [Bool.or_eq_true, Bool.and_eq_true, decide_eq_true_eq]
  omega
theorem putW_perm (l : List Want) (w : Want) : (putW l w).Perm (w :: l) := by
  unfold putW
  refine List.Perm.trans List.perm_append_comm ?_
  rw [List.singleton_append, List.cons_append]
  refine List.Perm.cons _ ?_
  refine List.Perm.trans List.perm_append_comm ?_
  rw [List.take_append_drop]
theorem putW_pw {l : List Want} (w : Want) (h : l.Pairwise leD) : (putW l w).Pairwise leD := by
  have htr : ∀ {a b c : Want}, leD a b → leD b c → leD a c := by
    intro a b c h1 h2; unfold leD at *; omega
  have hlt : ∀ v ∈ l.take (putPos l w), leD v w := by
    intro v hv
    obtain ⟨j, hj, rfl⟩ := List.mem_take_iff_getElem.1 hv
    have := List.not_of_lt_findIdx (p := aheadW w) (xs := l) (i := j) (by unfold putPos at hj; omega)
    exact Classical.byContradiction fun hc => by
      have h2 := ahead_iff.2 hc
      simp [h2] at this
  have hge : ∀ v ∈ l.drop (putPos l w), leD w v := by
    intro v hv
    obtain ⟨j, hj, rfl⟩ := List.mem_drop_iff_getElem.1 hv
    have h1 : putPos l w < l.length := by omega
    have h2 := List.findIdx_getElem (p := aheadW w) (xs := l) (w := h1)
    have h3 : ¬ leD (l[putPos l w]'h1) w := ahead_iff.1 h2
    have h4 : leD w (l[putPos l w]'h1) := by unfold leD at *; omega
    rcases Nat.eq_zero_or_pos j with h | h
    · subst h; exact h4
    · exact htr h4 (List.pairwise_iff_getElem.1 ‹_› (putPos l w) (putPos l w + j) h1 (by omega) (by omega))
  unfold putW
  have h' := h
  rw [← List.take_append_drop (putPos l w) l, List.pairwise_append] at h'
  rw [List.pairwise_append]
  refine ⟨h'.1, ?_, fun a ha b hb => ?_⟩
  · rw [List.singleton_append, List.pairwise_cons]
    exact ⟨hge, h'.2.1⟩
  · rcases List.mem_append.1 hb with hb | hb
    · obtain rfl := List.mem_singleton.1 hb
      exact hlt a ha
    · exact h'.2.2 a ha b hb
theorem sortW_all (l : List Want) : (sortW l).Perm l ∧ (sortW l).Pairwise leD := by
  refine snoc_ind (P := fun l => (sortW l).Perm l ∧ (sortW l).Pairwise leD) ⟨List.Perm.refl _, List.Pairwise.nil⟩ ?_ l
  intro l a ih
  have e : sortW (l ++ [a]) = putW (sortW l) a := by unfold sortW; rw [List.foldl_append]; rfl
  rw [e]
  refine ⟨?_, putW_pw a ih.2⟩
  refine (putW_perm _ _).trans ?_
  refine ((ih.1).cons a).trans ?_
  rw [← List.singleton_append]
  exact List.perm_append_comm
theorem sortW_eq (l : List Want) : sortW l = srtS l := srtS_uniq (sortW_all l).1 (sortW_all l).2
end Go.Proofs.Ytjmjolefhcjedaa.Vc

namespace Go.Proofs.Ytjmjolefhcjedaa.Vc
/-! A split unit made whole. -/

def Plan.splitsW (p : Plan) : List Want := (p.places.filter Place.split).map Place.want
def Plan.roomM (p : Plan) (n : Int) (b : Nat) : Option (Plan × Int × List Int) := p.coresI.findSome? fun c => (Plan.empt c n b p []).map fun r => (r.1, c, r.2)
def Plan.tryS (p : Plan) (b : Nat) (w : Want) : Option (Plan × Int × List Int) :=
  match (p.drop w.unit).firstC w.share with
  | some c => some ((p.drop w.unit).put ⟨w.unit, w.share, c, []⟩, c, [])
  | none => ((p.drop w.unit).roomM w.share b).map fun r => (r.1.put ⟨w.unit, w.share, r.2.1, []⟩, r.2.1, r.2.2)
structure Mv where
  unit : Int
  core : Int
  others : List Int
def Plan.settle (p : Plan) (b : Nat) : Option (Plan × Mv) := (srtS p.splitsW).findSome? fun w => (p.tryS b w).map fun r => (r.1, ⟨w.unit, r.2.1, r.2.2⟩)

theorem roomM_some {p : Plan} (h : p.right) {n : Int} {b : Nat} {q : Plan} {c : Int} {m : List Int} (hr : p.roomM n b = some (q, c, m)) :
    p.has c = true ∧ Moved p c q m ∧ m.length ≤ b ∧ n ≤ q.room c := by
  unfold Plan.roomM at hr
  obtain ⟨d, hd, hr⟩ := List.exists_of_findSome?_eq_some hr
  rw [Option.map_eq_some_iff] at hr
  obtain ⟨r, h1, h2⟩ := hr
  simp only [Prod.mk.injEq] at h2
  obtain ⟨rfl, rfl, rfl⟩ := h2
  obtain ⟨h3, h4, h5⟩ := empt_moved (Moved.refl h d) h1
  exact ⟨mem_coresI.1 hd, h3, by simpa using h4, h5⟩

/-- What a try does: x's unit made whole on c, m moved. -/
structure Settled (p : Plan) (b : Nat) (x : Place) (q : Plan) (c : Int) (m : List Int) : Prop where
  right : q.right
  frame : q.frame = p.frame
  cores : q.cores = p.cores
  len : q.places.length = p.places.length
  light : p.light → q.light
  wants : p.wants = q.wants
  splits : q.splits + 1 = p.splits
  few : m.length ≤ b
  list : m.length + 1 = (movedL p q).length
theorem put_len_new {r : Plan} {y : Place} (h : ∀ z ∈ r.places, z.unit ≠ y.unit) : (r.put y).places.length = r.places.length + 1 := by
  rw [put_absent h, ins_len]
theorem drop_len {p : Plan} (hpw : p.places.Pairwise fun a b => a.unit < b.unit) {u : Int} {x : Place} (hx : p.find u = some x) : (p.drop u).places.length + 1 = p.places.length := by
  have h1 : ∀ l : List Place, (l.map fun _ => 1).sum = l.length := by
    intro l; induction l with
    | nil => rfl
    | cons a l ih => rw [List.map_cons, List.sum_cons, ih, List.length_cons]; omega
  have h2 := sum_drop (f := fun _ => 1) (u := u) hpw
  rw [h1, h1] at h2
  unfold Plan.find at hx
  rw [hx] at h2
  simp only [Option.elim_some] at h2
  show (p.places.filter fun x => decide (x.unit ≠ u)).length + 1 = _
  omega
theorem moves_split {p q : Plan} (h : p.right) {u : Int} {x y : Place} (h1 : p.find u = some x) (h2 : q.find u = some y) (hx : x.split = true) (hy : y.pieces = []) : p.moves q u = true := by
  have hok := (h.ok x ((find_mem h.pw).1 h1).1).2.2.2
  rw [if_neg (by intro e; rw [nil_split.1 e] at hx; cases hx)] at hok
  obtain ⟨g1, g2, _, g4, _⟩ := hok
  have hp0 : 0 < x.pieces.length := by omega
  have hp1 : 1 < x.pieces.length := by omega
  have hlt := List.pairwise_iff_getElem.1 g2 0 1 hp0 hp1 (by omega)
  have hc0 := has_range (g1 _ (List.getElem_mem hp0)).1
  have hc1 := has_range (g1 _ (List.getElem_mem hp1)).1
  have hon : ∀ i (hi : i < x.pieces.length), x.on x.pieces[i].core = true := fun i hi => by
    unfold Place.on
    rw [if_neg (by omega), List.any_eq_true]
    exact ⟨_, List.getElem_mem hi, by simp⟩
  have key : ∀ i (hi : i < x.pieces.length), 0 ≤ x.pieces[i].core → x.pieces[i].core ≤ 15 → y.core ≠ x.pieces[i].core → p.moves q u = true := by
    intro i hi a1 a2 a3
    unfold Plan.moves
    rw [h1, h2]
    simp only [decide_eq_true_eq]
    refine ⟨x.pieces[i].core.toNat, by omega, fun hl => ?_⟩
    have h3 := hl.1
    rw [show ((x.pieces[i].core.toNat : Nat) : Int) = x.pieces[i].core by omega, hon i hi, on_whole hy, eq_comm, decide_eq_true_eq] at h3
    exact a3 h3
  by_cases he : y.core = x.pieces[0].core
  · exact key 1 hp1 hc1.1 hc1.2 (by omega)
  · exact key 0 hp0 hc0.1 hc0.2 he
theorem settled {p r : Plan} (h : p.right) {b : Nat} {u : Int} {x : Place} (hx : p.find u = some x) (hs : x.split = true) {c : Int} {m : List Int} (hm : Moved (p.drop u) c r m) (hl : m.length ≤ b) (hc : p.has c = true) (hr : x.share ≤ r.room c) :
    Settled p b x (r.put ⟨u, x.share, c, []⟩) c m := by
  have hxm := (find_mem h.pw).1 hx
  have hok := h.ok x hxm.1
  have hum : u ∉ m := by
    intro hu
    obtain ⟨x', y, h1, _⟩ := hm.mv u hu
    rw [find_drop h.pw, if_pos rfl] at h1
    cases h1
  have hru : r.find u = none := by rw [hm.st u hum, find_drop h.pw, if_pos rfl]
  have hnew : ∀ z ∈ r.places, z.unit ≠ (⟨u, x.share, c, []⟩ : Place).unit := fun z hz => find_none.1 hru z hz
  have hrc : r.has c = true := by rw [has_congr hm.cores]; exact hc
  have hR : (r.put ⟨u, x.share, c, []⟩).right := by
    rw [put_absent hnew]
    exact right_ins_whole hm.right hnew rfl (by show isUnit u = true; rw [← hxm.2]; exact hok.1) hok.2.1 hrc hr
  have hfind : ∀ v, (r.put ⟨u, x.share, c, []⟩).find v = if v = u then some ⟨u, x.share, c, []⟩ else r.find v := fun v => find_put hm.right.pw _ v
  have hother : ∀ v, v ∉ m → v ≠ u → (r.put ⟨u, x.share, c, []⟩).find v = p.find v := fun v hv hvu => by
    rw [hfind, if_neg hvu, hm.st v hv, find_drop h.pw, if_neg hvu]
  have hmv : ∀ v ∈ m, v ≠ u ∧ ∃ x' y, p.find v = some x' ∧ x'.pieces = [] ∧ (r.put ⟨u, x.share, c, []⟩).find v = some y ∧ y.pieces = [] ∧ x'.core ≠ y.core ∧ y.share = x'.share := fun v hv => by
    have hvu : v ≠ u := fun e => hum (e ▸ hv)
    obtain ⟨x', y, h1, h2, h3, h4, h5, h6, h7⟩ := hm.mv v hv
    rw [find_drop h.pw, if_neg hvu] at h1
    refine ⟨hvu, x', y, h1, h2, ?_, h5, by omega, h7⟩
    rw [hfind, if_neg hvu, h4]
  have hlen : (r.put ⟨u, x.share, c, []⟩).places.length = p.places.length := by
    rw [put_len_new hnew, hm.len, drop_len h.pw hx]
  refine ⟨hR, hm.frame, hm.cores, hlen, ?_, ?_, ?_, hl, ?_⟩
  · intro hli
    refine ⟨by rw [hlen]; exact hli.1, fun z hz => ?_⟩
    rw [put_absent hnew] at hz
    rcases mem_ins.1 hz with rfl | hz
    · exact Nat.zero_le _
    · rcases hm.pieces z hz with e | e
      · rw [e]; exact Nat.zero_le _
      · exact hli.2 z (mem_drop.1 e).1
  · refine wants_ext h.pw hR.pw fun v => ?_
    by_cases hvu : v = u
    · subst hvu; rw [hfind, if_pos rfl, hx]; rfl
    · by_cases hv : v ∈ m
      · obtain ⟨_, x', y, h1, _, h3, _, _, h5⟩ := hmv v hv
        rw [h1, h3]; simp [h5]
      · rw [hother v hv hvu]
  · have e1 : (r.put ⟨u, x.share, c, []⟩).splits = r.splits := by rw [put_absent hnew, splits_ins]; rfl
    have e2 := splits_drop h.pw u
    rw [hx] at e2
    simp only [Option.elim_some, hs, if_true] at e2
    rw [e1, hm.splits]; omega
  · have hnd : (u :: m).Nodup := List.nodup_cons.2 ⟨hum, hm.nodup⟩
    rw [show m.length + 1 = (u :: m).length from rfl]
    refine nodup_len hnd (movedL_nodup _ _) fun v => ?_
    unfold movedL
    rw [List.mem_cons, List.mem_filter]
    constructor
    · rintro (rfl | hv)
      · have hup := unit_pos hok.1
        refine ⟨unitsTo_mem.2 ⟨by omega, .inl (by rw [hx]; rfl)⟩, moves_split h hx (by rw [hfind, if_pos rfl]) hs rfl⟩
      · obtain ⟨_, x', y, h1, h2, h3, h4, h5, _⟩ := hmv v hv
        have hx' := (find_mem h.pw).1 h1
        have hok' := h.ok x' hx'.1
        have hup := unit_pos hok'.1
        have hcr := hok'.2.2.2
        rw [if_pos h2] at hcr
        have hrg := has_range hcr
        exact ⟨unitsTo_mem.2 ⟨by omega, .inl (by rw [h1]; rfl)⟩, moves_whole h1 h3 h2 h4 hrg.1 hrg.2 (by omega)⟩
    · rintro ⟨_, h2⟩
      refine Classical.byContradiction fun hn => ?_
      rw [not_or] at hn
      rw [moves_same (hother v hn.2 hn.1)] at h2
      cases h2
theorem tryS_some {p : Plan} (h : p.right) {b : Nat} {x : Place} (hx : x ∈ p.places) (hs : x.split = true) {q : Plan} {c : Int} {m : List Int} (ht : p.tryS b x.want = some (q, c, m)) : Settled p b x q c m := by
  have hf : p.find x.unit = some x := (find_mem h.pw).2 ⟨hx, rfl⟩
  unfold Plan.tryS at ht
  simp only [Place.want] at ht
  split at ht
  · rename_i d hd
    simp only [Option.some.injEq, Prod.mk.injEq] at ht
    obtain ⟨rfl, rfl, rfl⟩ := ht
    obtain ⟨h1, h2⟩ := firstC_some hd
    exact settled h hf hs (Moved.refl (right_drop h _) _) (Nat.zero_le _) h1 h2
  · rw [Option.map_eq_some_iff] at ht
    obtain ⟨⟨r, c', m'⟩, h1, h2⟩ := ht
    simp only [Prod.mk.injEq] at h2
    obtain ⟨rfl, rfl, rfl⟩ := h2
    obtain ⟨h3, h4, h5, h6⟩ := roomM_some (right_drop h _) h1
    exact settled h hf hs h4 h5 h3 h6
theorem splitsW_mem {p : Plan} {w : Want} : w ∈ srtS p.splitsW ↔ ∃ x ∈ p.places, x.split = true ∧ x.want = w := by
  rw [(srtS_perm _).mem_iff]
  unfold Plan.splitsW
  rw [List.mem_map]
  constructor
  · rintro ⟨x, hx, rfl⟩
    exact ⟨x, (List.mem_filter.1 hx).1, (List.mem_filter.1 hx).2, rfl⟩
  · rintro ⟨x, h1, h2, rfl⟩
    exact ⟨x, List.mem_filter.2 ⟨h1, h2⟩, rfl⟩
theorem settle_some {p : Plan} (h : p.right) {b : Nat} {q : Plan} {m : Mv} (ht : p.settle b = some (q, m)) : ∃ x, Settled p b x q m.core m.others := by
  unfold Plan.settle at ht
  obtain ⟨w, hw, ht⟩ := List.exists_of_findSome?_eq_some ht
  obtain ⟨x, h1, h2, rfl⟩ := splitsW_mem.1 hw
  rw [Option.map_eq_some_iff] at ht
  obtain ⟨⟨q', c', m'⟩, h3, h4⟩ := ht
  simp only [Prod.mk.injEq] at h4
  obtain ⟨rfl, rfl⟩ := h4
  exact ⟨x, tryS_some h h1 h2 h3⟩

/-- Step after step. -/
inductive Steps (b : Nat) (p : Plan) : List Mv → Plan → Prop where
  | nil : Steps b p [] p
  | snoc {l : List Mv} {q r : Plan} {m : Mv} (h : Steps b p l q) (hs : q.settle b = some (r, m)) : Steps b p (l ++ [m]) r
theorem Steps.good {b : Nat} {p : Plan} (h : p.right) (hl : p.light) {l : List Mv} {q : Plan} (hs : Steps b p l q) : q.right ∧ q.light ∧ q.splits + l.length = p.splits := by
  induction hs with
  | nil => exact ⟨h, hl, rfl⟩
  | snoc _ hs ih =>
    obtain ⟨x, hx⟩ := settle_some ih.1 hs
    refine ⟨hx.right, hx.light ih.2.1, ?_⟩
    have := hx.splits
    rw [List.length_append, List.length_singleton]
    omega
theorem Steps.at {b : Nat} {p : Plan} {l : List Mv} {q : Plan} (hs : Steps b p l q) : ∀ i, i ≤ l.length → ∃ r, Steps b p (l.take i) r ∧ (∀ h : i < l.length, ∃ r', r.settle b = some (r', l[i]) ∧ Steps b p (l.take (i + 1)) r') ∧ (i = l.length → r = q) := by
  induction hs with
  | nil => intro i hi; exact ⟨p, by simpa using Steps.nil, fun h => by simp at h, fun _ => rfl⟩
  | @snoc l q r m h hs ih =>
    intro i hi
    rw [List.length_append, List.length_singleton] at hi
    rcases Nat.lt_or_ge i l.length with h1 | h1
    · obtain ⟨s, g1, g2, g3⟩ := ih i (by omega)
      refine ⟨s, by rw [List.take_append_of_le_length (by omega)]; exact g1, fun _ => ?_, fun e => by simp at e; omega⟩
      rw [List.getElem_append_left h1, List.take_append_of_le_length (by omega)]
      exact g2 h1
    · rcases Nat.eq_or_lt_of_le h1 with h2 | h2
      · subst h2
        refine ⟨q, by rw [List.take_left]; exact h, fun _ => ?_, fun e => by simp at e⟩
        refine ⟨r, ?_, ?_⟩
        · rw [List.getElem_append_right (by omega)]; simpa using hs
        · rw [List.take_of_length_le (by simp)]; exact .snoc h hs
      · refine ⟨r, ?_, fun h => by simp at h; omega, fun _ => rfl⟩
        rw [List.take_of_length_le (by simp; omega)]
        exact .snoc h hs
end Go.Proofs.Ytjmjolefhcjedaa.Vc

namespace Go.Proofs.Ytjmjolefhcjedaa.Vc
theorem step_found {p : Plan} (h : p.right) {c : Int} {s : List Want} (hp : s.Perm (p.wholes c)) (hs : s.Pairwise leW) {i : Nat} (hi : i < s.length) (h1 : ∀ w ∈ s.take i, p.good c w = false) (h2 : p.good c s[i] = true) :
    p.step c = some (p.put ⟨s[i].unit, s[i].share, (p.other c s[i].share).getD 0, []⟩, s[i].unit) := by
  have h3 := next_sorted h hp hs
  rw [find_first hi h1 h2] at h3
  split at h3
  · cases h3
  rename_i hu
  have h4 : p.next c (p.wholes c) = s[i] := (Option.some.inj h3).symm
  have hw := wholes_ok h s[i] (hp.mem_iff.1 (List.getElem_mem hi))
  unfold Plan.step
  rw [h4, if_neg (by rw [h4] at hu; exact hu), to_other hw.2]
  unfold Plan.good at h2
  obtain ⟨d, hd⟩ := Option.isSome_iff_exists.1 h2
  rw [hd]
  rfl
theorem step_no {p : Plan} (h : p.right) {c : Int} {s : List Want} (hp : s.Perm (p.wholes c)) (hs : s.Pairwise leW) (h1 : ∀ w ∈ s, p.good c w = false) : p.step c = none := by
  have h3 := next_sorted h hp hs
  rw [List.find?_eq_none.2 fun w hw => by rw [h1 w hw]; simp] at h3
  split at h3
  · rename_i hu
    unfold Plan.step
    rw [if_pos hu]
  · cases h3
end Go.Proofs.Ytjmjolefhcjedaa.Vc

namespace Go.Proofs.Ytjmjolefhcjedaa.Vc
/-! All steps of settle, one by one. -/
def Plan.itS (b : Nat) (p : Plan) : Nat → Plan
  | 0 => p
  | i + 1 => match (Plan.itS b p i).settle b with
    | none => Plan.itS b p i
    | some (q, _) => q
theorem Steps.it {b : Nat} {p : Plan} {l : List Mv} {q : Plan} (h : Steps b p l q) : q = p.itS b l.length ∧ ∀ i, ∀ hi : i < l.length, (p.itS b i).settle b = some (p.itS b (i + 1), l[i]) := by
  induction h with
  | nil => exact ⟨rfl, fun i hi => by simp at hi⟩
  | @snoc l q r m h hs ih =>
    obtain ⟨h1, h2⟩ := ih
    have h3 : p.itS b (l.length + 1) = r := by
      show (match (p.itS b l.length).settle b with | none => _ | some (q, _) => q) = r
      rw [← h1, hs]
    refine ⟨by rw [List.length_append, List.length_singleton, h3], fun i hi => ?_⟩
    rw [List.length_append, List.length_singleton] at hi
    rcases Nat.lt_or_ge i l.length with h4 | h4
    · rw [List.getElem_append_left h4]; exact h2 i h4
    · have e : i = l.length := by omega
      subst e
      rw [List.getElem_append_right (by omega), h3, ← h1, hs]
      simp
def Plan.allS (b : Nat) : Nat → Plan → List Mv → Plan × List Mv
  | 0, p, l => (p, l)
  | k + 1, p, l => match p.settle b with
    | none => (p, l)
    | some (q, m) => Plan.allS b k q (l ++ [m])
theorem settle_no {p : Plan} (h : p.right) {b : Nat} (h0 : p.splits = 0) : p.settle b = none := by
  cases hs : p.settle b with
  | none => rfl
  | some r =>
    obtain ⟨q, m⟩ := r
    obtain ⟨x, hx⟩ := settle_some h hs
    have := hx.splits
    omega
theorem allS_none {b : Nat} {k : Nat} {p : Plan} {l : List Mv} (h : p.settle b = none) : Plan.allS b k p l = (p, l) := by
  cases k with
  | zero => rfl
  | succ k => unfold Plan.allS; rw [h]
theorem allS_some {b : Nat} {p q : Plan} {l : List Mv} {m : Mv} (hp : p.right) (h : p.settle b = some (q, m)) : Plan.allS b p.splits p l = Plan.allS b q.splits q (l ++ [m]) := by
  obtain ⟨x, hx⟩ := settle_some hp h
  have e := hx.splits
  rw [← e]
  conv => lhs; unfold Plan.allS
  rw [h]
theorem allS_all {b : Nat} {p0 : Plan} (h0 : p0.right) (hl0 : p0.light) : ∀ (n : Nat) (p : Plan) (l : List Mv), p.splits = n → Steps b p0 l p → Steps b p0 (Plan.allS b p.splits p l).2 (Plan.allS b p.splits p l).1 ∧ (Plan.allS b p.splits p l).1.settle b = none := by
  intro n
  induction n with
  | zero =>
    intro p l hn hs
    have hr := (hs.good h0 hl0).1
    have := settle_no hr (b := b) hn
    rw [allS_none this]
    exact ⟨hs, this⟩
  | succ n ih =>
    intro p l hn hs
    have hr := (hs.good h0 hl0).1
    cases hq : p.settle b with
    | none => rw [allS_none hq]; exact ⟨hs, hq⟩
    | some r =>
      obtain ⟨q, m⟩ := r
      rw [allS_some hr hq]
      obtain ⟨x, hx⟩ := settle_some hr hq
      exact ih q (l ++ [m]) (by have := hx.splits; omega) (.snoc hs hq)
end Go.Proofs.Ytjmjolefhcjedaa.Vc
