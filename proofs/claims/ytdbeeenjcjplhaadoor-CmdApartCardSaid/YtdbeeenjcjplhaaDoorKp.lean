/- How arguments are read. -/
import Derived.Test.YtdbeeenjcjplhaaDoorEh
import Derived.Test.YtdbeeenjcjplhaaDoorKm
import Derived.Test.YtdbeeenjcjplhaaDoorKo
namespace Go.Proofs.YtdbeeenjcjplhaaDoor.Vc
open Go Go.RowKit Go.Proofs Go.Proofs.Tryd
set_option linter.unusedSimpArgs false
set_option linter.unusedVariables false
open Go.ChangeShapes Go.WideShapes
theorem rByte : Reads prog 5 1 fun l => ∃ b : BitVec 8, l = [bytTV b] := by
  refine (reads_int underlying5 (by kernel_rfl)).mono ?_
  rintro l ⟨n, rfl, hw⟩
  simp only [Lit.wf, IntKind.min, IntKind.max, IntKind.signed, IntKind.bits, Bool.and_eq_true] at hw
  have h1 : 0 ≤ n := by simpa using hw.1
  have h2 : n < 256 := by have := hw.2; simp at this; omega
  refine ⟨BitVec.ofNat 8 n.toNat, ?_⟩
  have e : Int.ofNat (BitVec.ofNat 8 n.toNat).toNat = n := by
    rw [BitVec.toNat_ofNat, Nat.mod_eq_of_lt (by omega)]
    show ((n.toNat : Nat) : Int) = n
    omega
  unfold bytTV
  rw [e]
theorem rCmd : Reads prog 65 8 fun l => ∃ c : CmdF, CmdF.tv c = .a l := by
  refine (reads_struct (Rs := [_, _, _, _, _, _, _, _]) underlying65 (by kernel_rfl) ⟨rfl, 1, rInt, rfl, 1, rInt, rfl, 1, rInt, rfl, 1, rInt, rfl, 1, rInt, rfl, 1, rInt, rfl, 1, rInt, rfl, 1, rInt, rfl⟩).mono ?_
  rintro l ⟨_, _, rfl, ⟨a1, rfl, _⟩, _, _, rfl, ⟨a2, rfl, _⟩, _, _, rfl, ⟨a3, rfl, _⟩, _, _, rfl, ⟨a4, rfl, _⟩, _, _, rfl, ⟨a5, rfl, _⟩, _, _, rfl, ⟨a6, rfl, _⟩, _, _, rfl, ⟨a7, rfl, _⟩, _, _, rfl, ⟨a8, rfl, _⟩, rfl⟩
  exact ⟨⟨a1, a2, a3, a4, a5, a6, a7, a8⟩, rfl⟩
set_option maxRecDepth 100000 in
theorem argCmd {H : Type} {enc : TypeId × Value → H} {w : World} {r : Reach} {b0 : Nat} {v : Value} {d : DataW H} {q : List MemPlace} (hv : Value.okWide prog w r b0 65 v) (h : DataW.Trod enc prog w 0 (fun _ => true) true 65 v d q) :
    ∃ c : CmdF, True ∧ ∀ E, Rel w (fun k => k < w.heap.size) E noObs c.tv v := by
  obtain ⟨l, ⟨c, hc⟩, h1⟩ := arg_agg rCmd underlying65 hv h
  exact ⟨c, trivial, fun E => by rw [hc]; exact h1 E⟩
set_option maxRecDepth 100000 in
theorem argBytes {H : Type} {enc : TypeId × Value → H} {w : World} {r : Reach} {b0 : Nat} {v : Value} {d : DataW H} {q : List MemPlace} (hv : Value.okWide prog w r b0 72 v) (h : DataW.Trod enc prog w 0 (fun _ => true) true 72 v d q) :
    ∃ l : List (BitVec 8), True ∧ ∀ E, Rel w (fun k => k < w.heap.size) E noObs (.s 1 (l.map bytTV)) v := by
  obtain ⟨a, n, c, rfl⟩ := okWide_slice underlying72 hv
  obtain ⟨x, ⟨xs, hxs, hl, hx⟩, h1⟩ := arg_one (reads_slice false underlying72 (by kernel_rfl) (by decide) (by simp) rByte) (by simp) h
  simp only [List.cons.injEq, and_true] at hxs
  subst hxs
  obtain ⟨l, rfl⟩ := exists_map (f := bytTV) (xs := xs) fun x h => by
    obtain ⟨c, ⟨y, hy⟩, rfl⟩ := hx x h
    exact ⟨y, by rw [hy]; rfl⟩
  exact ⟨l, trivial, h1⟩
theorem law7 (c : CmdF) (_ : True) (op : Int) (_h : I64 op) : Spec prog 7 [c.tv, tI op] [] (tB true) [] := s7 s37 c op
theorem law8 (c : CmdF) (_ : True) : Spec prog 8 [c.tv] [] (tB true) [] := s8 s37 c
theorem law9 (l : List (BitVec 8)) (_ : True) : Spec prog 9 [.s 1 (l.map bytTV)] [] (tB true) [] := s9 s37 l
theorem law10 (c : CmdF) (_ : True) (l : List (BitVec 8)) (_ : True) : Spec prog 10 [c.tv, .s 1 (l.map bytTV)] [] (tB true) [] := s10 s37 c l
theorem law11 (c : CmdF) (_ : True) (d : CmdF) (_ : True) : Spec prog 11 [c.tv, d.tv] [] (tB true) [] := s11 s37 c d
end Go.Proofs.YtdbeeenjcjplhaaDoor.Vc
