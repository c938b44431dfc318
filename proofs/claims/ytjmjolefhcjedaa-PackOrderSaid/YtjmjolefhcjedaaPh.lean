/- How arguments are read. -/
import Derived.Test.YtjmjolefhcjedaaVx
import Derived.Test.YtjmjolefhcjedaaFd
import Derived.Test.YtjmjolefhcjedaaRows
import Derived.WalkKit
import Derived.OpenShut
import Derived.ShutString
import Derived.Below
import Derived.Carry
import Derived.SizedLaws
import Derived.Test.YtjmjolefhcjedaaPg
namespace Go.Proofs.Ytjmjolefhcjedaa.Vc
open Go Go.RowKit Go.Proofs.Try
open Go.ChangeShapes Go.WideShapes

theorem Reads.mono {P : Program} {t : TypeId} {z : Nat} {R R' : List TV → Prop} (h : Reads P t z R) (hR : ∀ l, R l → R' l) : Reads P t z R' :=
  ⟨h.1, fun enc w fuel cs x hx => by
    obtain ⟨h1, h2, l, h3, h4⟩ := h.2 enc w fuel cs x hx
    exact ⟨h1, h2, l, hR l h3, h4⟩⟩
theorem wf_u64 {n : Int} (h : (Lit.int .u64 n).wf = true) : ∃ x : BitVec 64, n = Int.ofNat x.toNat := by
  simp only [Lit.wf, IntKind.min, IntKind.max, IntKind.signed, IntKind.bits, Bool.and_eq_true] at h
  refine ⟨BitVec.ofNat 64 n.toNat, ?_⟩
  have h1 : 0 ≤ n := by simpa using h.1
  have h2 : n < 18446744073709551616 := by have := h.2; simp at this; omega
  rw [BitVec.toNat_ofNat, Nat.mod_eq_of_lt (by omega)]
  show n = ((n.toNat : Nat) : Int)
  omega
theorem wf_u32 {n : Int} (h : (Lit.int .u32 n).wf = true) : ∃ x : BitVec 32, n = Int.ofNat x.toNat := by
  simp only [Lit.wf, IntKind.min, IntKind.max, IntKind.signed, IntKind.bits, Bool.and_eq_true] at h
  refine ⟨BitVec.ofNat 32 n.toNat, ?_⟩
  have h1 : 0 ≤ n := by simpa using h.1
  have h2 : n < 4294967296 := by have := h.2; simp at this; omega
  rw [BitVec.toNat_ofNat, Nat.mod_eq_of_lt (by omega)]
  show n = ((n.toNat : Nat) : Int)
  omega
theorem rInt : Reads prog 3 1 fun l => ∃ n, l = [tI n] ∧ (Lit.int .i64 n).wf = true := reads_int underlying3 (by kernel_rfl)
theorem rPiece : Reads prog 116 2 fun l => ∃ y : Piece, Piece.tv y = .a l := by
  refine (reads_struct (Rs := [_, _]) underlying116 (by kernel_rfl) ⟨rfl, 1, rInt, rfl, 1, reads_int underlying96 (by kernel_rfl), rfl⟩).mono ?_
  rintro l ⟨_, _, rfl, ⟨n, rfl, _⟩, _, _, rfl, ⟨m, rfl, hm⟩, rfl⟩
  obtain ⟨x, rfl⟩ := wf_u64 hm
  exact ⟨⟨n, x⟩, rfl⟩
theorem rPlace : Reads prog 34 4 fun l => ∃ y : Place, Place.tv y = .a l := by
  refine (reads_struct (Rs := [_, _, _, _]) underlying34 (by kernel_rfl) ⟨rfl, 1, rInt, rfl, 1, rInt, rfl, 1, rInt, rfl, 1, reads_slice true underlying32 (by kernel_rfl) (by decide) (by simp) rPiece, rfl⟩).mono ?_
  rintro l ⟨_, _, rfl, ⟨a, rfl, _⟩, _, _, rfl, ⟨b, rfl, _⟩, _, _, rfl, ⟨c, rfl, _⟩, _, _, rfl, ⟨xs, rfl, _, hx⟩, rfl⟩
  obtain ⟨ps, rfl⟩ := exists_map (f := Piece.tv) (xs := xs) fun x h => by
    obtain ⟨c, ⟨y, hy⟩, rfl⟩ := hx x h
    exact ⟨y, by rw [hy]; rfl⟩
  exact ⟨⟨a, b, c, ps⟩, rfl⟩
theorem rPlan : Reads prog 25 3 fun l => ∃ p : Plan, Plan.tv p = .a l := by
  refine (reads_struct (Rs := [_, _, _]) underlying25 (by kernel_rfl) ⟨rfl, 1, rInt, rfl, 1, reads_int underlying22 (by kernel_rfl), rfl, 1, reads_slice true underlying23 (by kernel_rfl) (by decide) (by simp) rPlace, rfl⟩).mono ?_
  rintro l ⟨_, _, rfl, ⟨a, rfl, _⟩, _, _, rfl, ⟨b, rfl, hb⟩, _, _, rfl, ⟨xs, rfl, _, hx⟩, rfl⟩
  obtain ⟨ps, rfl⟩ := exists_map (f := Place.tv) (xs := xs) fun x h => by
    obtain ⟨c, ⟨y, hy⟩, rfl⟩ := hx x h
    exact ⟨y, by rw [hy]; rfl⟩
  obtain ⟨x, rfl⟩ := wf_u32 hb
  exact ⟨⟨a, x, ps⟩, rfl⟩
set_option maxRecDepth 100000 in
theorem argPlan {H : Type} {enc : TypeId × Value → H} {w : World} {r : Reach} {b0 : Nat} {v : Value} {d : DataW H} {q : List MemPlace} (hv : Value.okWide prog w r b0 25 v) (h : DataW.Trod enc prog w 0 (fun _ => true) true 25 v d q) :
    ∃ p : Plan, ∀ E, Rel w (fun k => k < w.heap.size) E noObs p.tv v := by
  obtain ⟨l, ⟨p, hp⟩, h1⟩ := arg_agg rPlan underlying25 hv h
  exact ⟨p, fun E => by rw [hp]; exact h1 E⟩
set_option maxRecDepth 100000 in
theorem argInt {H : Type} {enc : TypeId × Value → H} {w : World} {r : Reach} {b0 : Nat} {v : Value} {d : DataW H} {q : List MemPlace} (hv : Value.okWide prog w r b0 3 v) (h : DataW.Trod enc prog w 0 (fun _ => true) true 3 v d q) :
    ∃ n : Int, (Lit.int .i64 n).wf = true ∧ ∀ E, Rel w (fun k => k < w.heap.size) E noObs (tI n) v := by
  obtain ⟨n, rfl⟩ := okWide_int underlying3 hv
  obtain ⟨x, ⟨m, hm, hw⟩, h1⟩ := arg_one rInt (by simp) h
  simp only [List.cons.injEq, and_true] at hm
  subst hm
  exact ⟨m, hw, h1⟩
theorem rWant : Reads prog 63 2 fun l => ∃ y : Want, Want.tv y = .a l := by
  refine (reads_struct (Rs := [_, _]) underlying63 (by kernel_rfl) ⟨rfl, 1, rInt, rfl, 1, rInt, rfl⟩).mono ?_
  rintro l ⟨_, _, rfl, ⟨a, rfl, _⟩, _, _, rfl, ⟨b, rfl, _⟩, rfl⟩
  exact ⟨⟨a, b⟩, rfl⟩
set_option maxRecDepth 100000 in
theorem argWants {H : Type} {enc : TypeId × Value → H} {w : World} {r : Reach} {b0 : Nat} {v : Value} {d : DataW H} {q : List MemPlace} (hv : Value.okWide prog w r b0 51 v) (h : DataW.Trod enc prog w 0 (fun _ => true) true 51 v d q) :
    ∃ l : List Want, l.length ≤ 9223372036854775807 ∧ ∀ E, Rel w (fun k => k < w.heap.size) E noObs (.s 2 (l.map Want.tv)) v := by
  obtain ⟨a, n, c, rfl⟩ := okWide_slice underlying51 hv
  obtain ⟨x, ⟨xs, hxs, hl, hx⟩, h1⟩ := arg_one (reads_slice true underlying51 (by kernel_rfl) (by decide) (by simp) rWant) (by simp) h
  simp only [List.cons.injEq, and_true] at hxs
  subst hxs
  obtain ⟨l, rfl⟩ := exists_map (f := Want.tv) (xs := xs) fun x h => by
    obtain ⟨c, ⟨y, hy⟩, rfl⟩ := hx x h
    exact ⟨y, by rw [hy]; rfl⟩
  exact ⟨l, by rw [List.length_map] at hl; unfold maxLen at hl; exact hl, h1⟩
end Go.Proofs.Ytjmjolefhcjedaa.Vc

namespace Go.Proofs.Ytjmjolefhcjedaa.Vc
open Go Go.RowKit Go.Proofs.Try
open Go.ChangeShapes Go.WideShapes
set_option maxRecDepth 100000 in
theorem argU32 {H : Type} {enc : TypeId × Value → H} {w : World} {r : Reach} {b0 : Nat} {v : Value} {d : DataW H} {q : List MemPlace} (hv : Value.okWide prog w r b0 22 v) (h : DataW.Trod enc prog w 0 (fun _ => true) true 22 v d q) :
    ∃ n : BitVec 32, ∀ E, Rel w (fun k => k < w.heap.size) E noObs (tW n) v := by
  obtain ⟨n, rfl⟩ := okWide_int underlying22 hv
  obtain ⟨x, ⟨m, hm, hw⟩, h1⟩ := arg_one (reads_int (t := 22) (k := .u32) underlying22 (by kernel_rfl)) (by simp) h
  simp only [List.cons.injEq, and_true] at hm
  subst hm
  obtain ⟨y, rfl⟩ := wf_u32 hw
  exact ⟨y, h1⟩
theorem wf_u8 {n : Int} (h : (Lit.int .u8 n).wf = true) : ∃ x : BitVec 8, n = Int.ofNat x.toNat := by
  simp only [Lit.wf, IntKind.min, IntKind.max, IntKind.signed, IntKind.bits, Bool.and_eq_true] at h
  refine ⟨BitVec.ofNat 8 n.toNat, ?_⟩
  have h1 : 0 ≤ n := by simpa using h.1
  have h2 : n < 256 := by have := h.2; simp at this; omega
  rw [BitVec.toNat_ofNat, Nat.mod_eq_of_lt (by omega)]
  show n = ((n.toNat : Nat) : Int)
  omega
set_option maxRecDepth 100000 in
theorem argU8 {H : Type} {enc : TypeId × Value → H} {w : World} {r : Reach} {b0 : Nat} {v : Value} {d : DataW H} {q : List MemPlace} (hv : Value.okWide prog w r b0 5 v) (h : DataW.Trod enc prog w 0 (fun _ => true) true 5 v d q) :
    ∃ n : BitVec 8, ∀ E, Rel w (fun k => k < w.heap.size) E noObs (tY n) v := by
  obtain ⟨n, rfl⟩ := okWide_int underlying5 hv
  obtain ⟨x, ⟨m, hm, hw⟩, h1⟩ := arg_one (reads_int (t := 5) (k := .u8) underlying5 (by kernel_rfl)) (by simp) h
  simp only [List.cons.injEq, and_true] at hm
  subst hm
  obtain ⟨y, rfl⟩ := wf_u8 hw
  exact ⟨y, h1⟩
end Go.Proofs.Ytjmjolefhcjedaa.Vc
