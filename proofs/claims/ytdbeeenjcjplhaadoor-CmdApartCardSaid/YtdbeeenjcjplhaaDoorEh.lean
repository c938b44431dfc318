/- How arguments are read, and the variables that the library reads. -/
import Derived.Test.YtdbeeenjcjplhaaDoorEd
import Derived.Test.YtdbeeenjcjplhaaDoorEe
import Derived.Test.YtdbeeenjcjplhaaDoorEf
import Derived.Test.YtdbeeenjcjplhaaDoorRows
import Derived.WalkKit
import Derived.OpenShut
import Derived.ShutString
import Derived.Below
import Derived.Carry
import Derived.SizedLaws
import Derived.ChangeSame
import Derived.ChangeVars
import Derived.JoinedOf
import Derived.RowKit
import Derived.RowKitTokens
import Derived.LaidLaws
import Derived.LaidHandle
import Derived.Stop.Joined
import Derived.Stop.LaidErr
namespace Go.Proofs.YtdbeeenjcjplhaaDoor.Vc
open Go Go.RowKit Go.Proofs Go.Proofs.Tryd
open Go.ChangeShapes Go.WideShapes
open Go.Proofs.YtdbeeenjcjplhaaDoor
theorem Reads.mono {P : Program} [Lay P] {t : TypeId} {z : Nat} {R R' : List TV → Prop} (h : Reads P t z R) (hR : ∀ l, R l → R' l) : Reads P t z R' :=
  ⟨h.1, fun enc w fuel cs x hx => by
    obtain ⟨h1, h2, l, h3, h4⟩ := h.2 enc w fuel cs x hx
    exact ⟨h1, h2, l, hR l h3, h4⟩⟩
theorem wf_i64 {n : Int} (h : (Lit.int .i64 n).wf = true) : I64 n := by
  simp only [Lit.wf, IntKind.min, IntKind.max, IntKind.signed, IntKind.bits, Bool.and_eq_true] at h
  exact ⟨by simpa using h.1, by simpa using h.2⟩
theorem rInt : Reads prog 3 1 fun l => ∃ n, l = [tI n] ∧ I64 n := (reads_int underlying3 (by kernel_rfl)).mono fun l ⟨n, h1, h2⟩ => ⟨n, h1, wf_i64 h2⟩
theorem rStr : Reads prog 9 1 fun l => ∃ s : ByteArray, l = [tS s] ∧ s.size ≤ 9223372036854775807 := reads_string underlying9 (by kernel_rfl)
theorem rAct : Reads prog 60 4 fun l => ∃ y : ActF, ActF.tv y = .a l ∧ y.a.natAbs ≤ 9223372036854775808 ∧ I64 y.a ∧ I64 y.c := by
  refine (reads_struct (Rs := [_, _, _, _]) underlying60 (by kernel_rfl) ⟨rfl, 1, rInt, rfl, 1, rInt, rfl, 1, rStr, rfl, 1, rInt, rfl⟩).mono ?_
  rintro l ⟨_, _, rfl, ⟨k, rfl, _⟩, _, _, rfl, ⟨c, rfl, hc⟩, _, _, rfl, ⟨p, rfl, _⟩, _, _, rfl, ⟨a, rfl, ha⟩, rfl⟩
  have h1 := ha.lo
  have h2 := ha.hi
  exact ⟨⟨k, c, p, a⟩, rfl, by show a.natAbs ≤ _; omega, ha, hc⟩
set_option maxRecDepth 100000 in
theorem argInt {H : Type} {enc : TypeId × Value → H} {w : World} {r : Reach} {b0 : Nat} {v : Value} {d : DataW H} {q : List MemPlace} (hv : Value.okWide prog w r b0 3 v) (h : DataW.Trod enc prog w 0 (fun _ => true) true 3 v d q) :
    ∃ n : Int, I64 n ∧ ∀ E, Rel w (fun k => k < w.heap.size) E noObs (tI n) v := by
  obtain ⟨n, rfl⟩ := okWide_int underlying3 hv
  obtain ⟨x, ⟨m, hm, hw⟩, h1⟩ := arg_one rInt (by simp) h
  simp only [List.cons.injEq, and_true] at hm
  subst hm
  exact ⟨m, hw, h1⟩
set_option maxRecDepth 100000 in
theorem argStr {H : Type} {enc : TypeId × Value → H} {w : World} {r : Reach} {b0 : Nat} {v : Value} {d : DataW H} {q : List MemPlace} (hv : Value.okWide prog w r b0 9 v) (h : DataW.Trod enc prog w 0 (fun _ => true) true 9 v d q) :
    ∃ s : ByteArray, s.size ≤ 9223372036854775807 ∧ ∀ E, Rel w (fun k => k < w.heap.size) E noObs (tS s) v := by
  obtain ⟨n, rfl⟩ := okWide_string underlying9 hv
  obtain ⟨x, ⟨m, hm, hw⟩, h1⟩ := arg_one rStr (by simp) h
  simp only [List.cons.injEq, and_true] at hm
  subst hm
  exact ⟨m, hw, h1⟩
set_option maxRecDepth 100000 in
theorem argActs {H : Type} {enc : TypeId × Value → H} {w : World} {r : Reach} {b0 : Nat} {v : Value} {d : DataW H} {q : List MemPlace} (hv : Value.okWide prog w r b0 40 v) (h : DataW.Trod enc prog w 0 (fun _ => true) true 40 v d q) :
    ∃ l : List ActF, (l.length ≤ 9223372036854775807 ∧ ∀ x ∈ l, I64 x.a ∧ I64 x.c) ∧ ∀ E, Rel w (fun k => k < w.heap.size) E noObs (.s 4 (l.map ActF.tv)) v := by
  obtain ⟨a, n, c, rfl⟩ := okWide_slice underlying40 hv
  obtain ⟨x, ⟨xs, hxs, hl, hx⟩, h1⟩ := arg_one (reads_slice true underlying40 (by kernel_rfl) (by decide) (by simp) rAct) (by simp) h
  simp only [List.cons.injEq, and_true] at hxs
  subst hxs
  obtain ⟨l, rfl, hq⟩ := exists_mapP (f := ActF.tv) (Q := fun x => I64 x.a ∧ I64 x.c) (xs := xs) fun x h => by
    obtain ⟨c, ⟨y, hy, _, h3⟩, rfl⟩ := hx x h
    exact ⟨y, by rw [hy]; rfl, h3⟩
  exact ⟨l, ⟨by simpa [maxLen] using hl, hq⟩, h1⟩
theorem et : prog.globalNamed "errors.errorType" = some 0 := by kernel_rfl
theorem rt : (prog.cutTypes.find? (·.1 == "internal/reflectlite.rtype")).map (·.2) = some 127 := by kernel_rfl
theorem oneRow : ((List.range 206).filter fun t => prog.rowNamed t [101, 114, 114, 111, 114]) = [28] := by kernel_rfl
theorem tsize : prog.types.size = 206 := by kernel_rfl
theorem heap_of_var {w : World} {name : String} {g : Nat} {cs : Array Value} (hg : prog.globalNamed name = some g) (h : w.var? prog name = some cs) : ∃ ty fr, w.heap[g]? = some (.cells cs ty fr) := by
  unfold World.var? at h
  rw [hg] at h
  simp only [Option.bind_some] at h
  split at h
  · rename_i h1
    obtain rfl := Option.some.inj h
    exact ⟨_, _, h1⟩
  · cases h
/-- The condition on the variables, for all walks. -/
theorem laid_of_met {W : World} (h : laidMetH prog Rows.faultAsksRow.laid W) : laidW prog W (fun k => k < W.heap.size) := by
  have h' : laidMet prog [("math/bits.deBruijn32tab", Rows.laid_math_bits_deBruijn32tab), ("math/bits.deBruijn64tab", Rows.laid_math_bits_deBruijn64tab), ("internal/strconv.uint64pow10", Rows.laid_internal_strconv_uint64pow10)] W ∧ handlesMet prog [("errors.errorType", Rows.laid_errors_errorType)] W := h
  obtain ⟨name, u, ty, e1, e2, e3, e4, e5⟩ := h'.2 _ (List.mem_singleton.2 rfl)
  have en : name = [101, 114, 114, 111, 114] := (Option.some.inj e1).symm
  subst en
  obtain rfl := Option.some.inj (rt.symm.trans e2)
  have hm : ty ∈ (List.range 206).filter fun t => prog.rowNamed t [101, 114, 114, 111, 114] := List.mem_filter.2 ⟨List.mem_range.2 (by rw [← tsize]; exact e3), e4⟩
  rw [oneRow] at hm
  obtain rfl := List.mem_singleton.1 hm
  have hh : typeHandle prog 28 = .pointer (some ⟨5, 28, none⟩) := by kernel_rfl
  rw [hh] at e5
  have h2 : laidMet prog [("internal/strconv.uint64pow10", Lib.tabData .u64 Lib.pow10Tab)] W := h'.1.tail.tail
  have h3 : Lib.TabIs prog W "internal/strconv.uint64pow10" .u64 Lib.pow10Tab := Lib.tabIs_of_head glob2 (by kernel_rfl : (prog.globals[2]?).map (·.type) = some 171) underlying171 underlying106 (by kernel_rfl) (by kernel_rfl) h2
  intro b cs hb
  have hb' : (b, cs) ∈ [(0, #[Value.iface 127 (.agg #[.pointer (some ⟨5, 28, none⟩)])]), (2, (Lib.pow10Tab.map fun z => Value.int .u64 z).toArray)] := hb
  rcases List.mem_cons.1 hb' with h4 | h4
  · obtain ⟨rfl, rfl⟩ := Prod.mk.inj h4
    obtain ⟨ty, fr, h5⟩ := heap_of_var et e5
    exact ⟨(Array.getElem?_eq_some_iff.1 h5).1, ty, fr, h5⟩
  · obtain ⟨rfl, rfl⟩ := Prod.mk.inj (List.mem_singleton.1 h4)
    obtain ⟨ty, fr, h5⟩ := heap_of_var glob2 h3
    exact ⟨(Array.getElem?_eq_some_iff.1 h5).1, ty, fr, h5⟩
/-- A world that meets the condition: the settled one, the variables' cells laid. -/
noncomputable def laidWorld (os : Os) : World :=
  let w0 := World.holding prog os ⟨#[], #[], []⟩
  let put (cs : Array Value) : Obj → Obj := fun
    | .cells _ t frozen => .cells cs t frozen
    | o => o
  { w0 with heap := (((w0.heap.modify 0 (put #[.iface 127 (.agg #[.pointer (some ⟨5, 28, none⟩)])])).modify 2 (put (Lib.pow10Tab.map fun z => Value.int .u64 z).toArray)).modify 3 (put #[.int .u8 0, .int .u8 1, .int .u8 28, .int .u8 2, .int .u8 29, .int .u8 14, .int .u8 24, .int .u8 3, .int .u8 30, .int .u8 22, .int .u8 20, .int .u8 15, .int .u8 25, .int .u8 17, .int .u8 4, .int .u8 8, .int .u8 31, .int .u8 27, .int .u8 13, .int .u8 23, .int .u8 21, .int .u8 19, .int .u8 16, .int .u8 7, .int .u8 26, .int .u8 12, .int .u8 18, .int .u8 6, .int .u8 11, .int .u8 5, .int .u8 10, .int .u8 9])).modify 4 (put #[.int .u8 0, .int .u8 1, .int .u8 56, .int .u8 2, .int .u8 57, .int .u8 49, .int .u8 28, .int .u8 3, .int .u8 61, .int .u8 58, .int .u8 42, .int .u8 50, .int .u8 38, .int .u8 29, .int .u8 17, .int .u8 4, .int .u8 62, .int .u8 47, .int .u8 59, .int .u8 36, .int .u8 45, .int .u8 43, .int .u8 51, .int .u8 22, .int .u8 53, .int .u8 39, .int .u8 33, .int .u8 30, .int .u8 24, .int .u8 18, .int .u8 12, .int .u8 5, .int .u8 63, .int .u8 55, .int .u8 48, .int .u8 27, .int .u8 60, .int .u8 41, .int .u8 37, .int .u8 16, .int .u8 46, .int .u8 35, .int .u8 44, .int .u8 21, .int .u8 52, .int .u8 32, .int .u8 23, .int .u8 11, .int .u8 54, .int .u8 26, .int .u8 40, .int .u8 15, .int .u8 34, .int .u8 20, .int .u8 31, .int .u8 10, .int .u8 25, .int .u8 14, .int .u8 19, .int .u8 9, .int .u8 13, .int .u8 8, .int .u8 7, .int .u8 6]) }
theorem laidWorld_met (os : Os) (args : Array Value) : laidMetH prog Rows.faultAsksRow.laid ((laidWorld os).forCall (fun _ _ => 0) ⟨#[], args, []⟩).memory :=
  laidMetH_of_parts (laidMet_of_run' 8 (by kernel_rfl) (by kernel_rfl)) (by kernel_rfl)
theorem own : ownKnob prog.godebug = none := by kernel_rfl
theorem laidOut : laidOutB prog = true := by kernel_rfl
end Go.Proofs.YtdbeeenjcjplhaaDoor.Vc
