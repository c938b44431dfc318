/- The law DispNobody returns true at every input, and leaves what it was given; the table of the library's package math/bits is as its text lays it. -/
import Derived.Test.YtaopcacmfhdfkaaGreatDoorKb
import Derived.Test.YtaopcacmfhdfkaaGreatDoorRows
import Derived.Test.YtaopcacmfhdfkaaGreatDoorTie
import Derived.Test.YtaopcacmfhdfkaaGreatDoorCards
import Derived.SevenTiedAt
import Derived.WalkKit
import Derived.OpenShut
import Derived.Below
import Derived.Carry
import Derived.SizedLaws
import Derived.ChangeSame
import Derived.ChangeVars
import Derived.JoinedOf
import Derived.RowKit
import Derived.RowKitTokens
import Derived.LaidLaws
import Derived.LaidHandle
import Derived.Lib.LaidTab
namespace Go.Proofs.YtaopcacmfhdfkaaGreatDoor.Ev
open Go Go.RowKit Go.Proofs.YtaopcacmfhdfkaaGreatDoor.Vc Go.Proofs Go.Proofs.Tryz
set_option linter.unusedSimpArgs false
set_option linter.unusedVariables false
open Go.ChangeShapes Go.WideShapes
open Go.Proofs.YtaopcacmfhdfkaaGreatDoor
theorem glob0 : prog.globalNamed "math/bits.deBruijn64tab" = some 0 := by kernel_rfl
theorem heap_of_var {w : World} {name : String} {g : Nat} {cs : Array Value} (hg : prog.globalNamed name = some g) (h : w.var? prog name = some cs) : ∃ ty fr, w.heap[g]? = some (.cells cs ty fr) := by
  unfold World.var? at h
  rw [hg] at h
  simp only [Option.bind_some] at h
  split at h
  · rename_i h1
    obtain rfl := Option.some.inj h
    exact ⟨_, _, h1⟩
  · cases h
/-- The condition on the variable. -/
theorem laid_of_met {W : World} (h : laidMetH prog Rows.dispNobodyRow.laid W) : laidW prog W (fun k => k < W.heap.size) := by
  have h2 : laidMet prog [("math/bits.deBruijn64tab", Lib.tabData .u8 tab64)] W := h
  have h3 : Lib.TabIs prog W "math/bits.deBruijn64tab" .u8 tab64 := Lib.tabIs_of_head glob0 (by kernel_rfl : (prog.globals[0]?).map (·.type) = some 226) underlying226 underlying5 (by kernel_rfl) (by kernel_rfl) h2
  intro b cs hb
  have hb' : (b, cs) ∈ [(0, (tab64.map fun z => Value.int .u8 z).toArray)] := hb
  obtain ⟨rfl, rfl⟩ := Prod.mk.inj (List.mem_singleton.1 hb')
  obtain ⟨ty, fr, h5⟩ := heap_of_var glob0 h3
  exact ⟨(Array.getElem?_eq_some_iff.1 h5).1, ty, fr, h5⟩
/-- A world that meets the condition: the settled one, the variable's cells laid. -/
noncomputable def laidWorld (os : Os) : World :=
  let w0 := World.holding prog os ⟨#[], #[], []⟩
  let put (cs : Array Value) : Obj → Obj := fun
    | .cells _ t frozen => .cells cs t frozen
    | o => o
  { w0 with heap := w0.heap.modify 0 (put #[.int .u8 0, .int .u8 1, .int .u8 56, .int .u8 2, .int .u8 57, .int .u8 49, .int .u8 28, .int .u8 3, .int .u8 61, .int .u8 58, .int .u8 42, .int .u8 50, .int .u8 38, .int .u8 29, .int .u8 17, .int .u8 4, .int .u8 62, .int .u8 47, .int .u8 59, .int .u8 36, .int .u8 45, .int .u8 43, .int .u8 51, .int .u8 22, .int .u8 53, .int .u8 39, .int .u8 33, .int .u8 30, .int .u8 24, .int .u8 18, .int .u8 12, .int .u8 5, .int .u8 63, .int .u8 55, .int .u8 48, .int .u8 27, .int .u8 60, .int .u8 41, .int .u8 37, .int .u8 16, .int .u8 46, .int .u8 35, .int .u8 44, .int .u8 21, .int .u8 52, .int .u8 32, .int .u8 23, .int .u8 11, .int .u8 54, .int .u8 26, .int .u8 40, .int .u8 15, .int .u8 34, .int .u8 20, .int .u8 31, .int .u8 10, .int .u8 25, .int .u8 14, .int .u8 19, .int .u8 9, .int .u8 13, .int .u8 8, .int .u8 7, .int .u8 6]) }
theorem laidWorld_met (os : Os) (args : Array Value) : laidMetH prog Rows.dispNobodyRow.laid ((laidWorld os).forCall (fun _ _ => 0) ⟨#[], args, []⟩).memory :=
  laidMetH_of_parts (laidMet_of_run' 8 (by kernel_rfl) (by kernel_rfl)) (by kernel_rfl)
theorem own : ownKnob prog.godebug = none := by kernel_rfl
theorem laidOut : laidOutB prog = true := by kernel_rfl
end Go.Proofs.YtaopcacmfhdfkaaGreatDoor.Ev
namespace Go.Proofs.YtaopcacmfhdfkaaGreatDoor.dispNobody
open Go Go.ChangeShapes Go.WideShapes Go.ChangeAt Go.RowKit
set_option maxRecDepth 100000 in
theorem lifted (os : Os) (started : os.Started) (H : Type) (enc : TypeId × Value → H) :
    ReturnsInHanded {} Tryz.checked os 3 .any (fun w args => (Rows.dispNobodySpec.pre enc Tryz.prog Tryz.f3 [] false w args ∧ laidMetH Tryz.prog Rows.dispNobodyRow.laid w) ∧ sizedMet enc Tryz.prog Tryz.f3 (OpenSpec.ofChange Rows.dispNobodySpec) false w args)
      (Rows.dispNobodySpec.post enc Tryz.prog Tryz.f3 false true false false) := by
  refine returnsInHanded_of_change_and (C := Tryz.checked) (X := fun w _ => laidMetH Tryz.prog Rows.dispNobodyRow.laid w) (fun _ _ _ hh h => h.of_heap hh) Go.Proofs.YtaopcacmfhdfkaaGreatDoor.Ev.own started (by kernel_rfl) Tryz.func3
    (ChangeSpec.witness_at (enc := enc) (C := Tryz.checked) (os := os) (X := fun w _ => laidMetH Tryz.prog Rows.dispNobodyRow.laid w) false (Go.Proofs.YtaopcacmfhdfkaaGreatDoor.Ev.laidWorld os) #[.int .i64 0, .int .i64 0, .agg #[.int .i64 0, .int .u32 0, .slice none 0 0]] 8 rfl (by kernel_rfl) (by kernel_rfl) (by kernel_rfl) (by kernel_rfl) (by kernel_rfl) (Go.Proofs.YtaopcacmfhdfkaaGreatDoor.Ev.laidWorld_met os _)) ?_
  intro W base args ds gs before hval0 hW _ _ hL _
  have hval : ∀ (j : Nat) t v, Tryz.f3.params[j]? = some t → args[j]? = some v → Value.okWide Tryz.prog W .any base t v := hval0
  have hW' := hW
  obtain ⟨p, q, hA0, hV, rfl, hfz, hnd⟩ := hW
  have hA : DataW.TrodAll enc Tryz.prog W 0 (fun _ => true) true Tryz.f3.params.toList args.toList ds p := hA0
  rw [Tryz.params3] at hA hval
  obtain ⟨v0, vs0, d0, ds0, p0, q0, hargs, rfl, rfl, h0, r0⟩ := trodAll_cons hA
  obtain ⟨v1, vs1, d1, ds1, p1, q1, rfl, rfl, rfl, h1, r1⟩ := trodAll_cons r0
  obtain ⟨v2, vs2, d2, ds2, p2, q2, rfl, rfl, rfl, h2, r2⟩ := trodAll_cons r1
  obtain ⟨rfl, rfl, rfl⟩ := trodAll_nil r2
  obtain rfl : args = #[v0, v1, v2] := by cases args; simp_all
  obtain ⟨rfl, rfl⟩ := trodVars_none hV
  have lt0 : ∀ x ∈ p0, x.block < W.heap.size := by obtain ⟨m, hm⟩ := h0; exact DataW.trod_lt m _ _ _ hm
  have lt1 : ∀ x ∈ p1, x.block < W.heap.size := by obtain ⟨m, hm⟩ := h1; exact DataW.trod_lt m _ _ _ hm
  have lt2 : ∀ x ∈ p2, x.block < W.heap.size := by obtain ⟨m, hm⟩ := h2; exact DataW.trod_lt m _ _ _ hm
  have hv2 := hval 2 25 v2 rfl rfl
  clear hA0 hval0
  refine (Go.Proofs.YtaopcacmfhdfkaaGreatDoor.Ev.law3 (v0 := v0) (v1 := v1) hv2 (Go.Proofs.YtaopcacmfhdfkaaGreatDoor.Ev.laid_of_met hL)).mono fun e W' ⟨he, bel⟩ => ?_
  subst he
  exact ⟨_, rfl, _, _, _, [], _, [], hW', trodAll_mk1 (shut_bool Tryz.underlying4 _),
    (trodAll_cons_mk (Below.trod Go.Proofs.YtaopcacmfhdfkaaGreatDoor.Ev.laidOut (by kernel_rfl) (of_decide_eq_true (by kernel_rfl)) h0 bel lt0) (trodAll_cons_mk (Below.trod Go.Proofs.YtaopcacmfhdfkaaGreatDoor.Ev.laidOut (by kernel_rfl) (of_decide_eq_true (by kernel_rfl)) h1 bel lt1) (trodAll_cons_mk (Below.trod Go.Proofs.YtaopcacmfhdfkaaGreatDoor.Ev.laidOut (by kernel_rfl) (of_decide_eq_true (by kernel_rfl)) h2 bel lt2) trodAll_mk0))), rfl, bel.frame _, fun h => by cases h⟩
theorem over : Rows.dispNobodyRow.holds Tryz.pinned (OpenSpec.ofChange Rows.dispNobodySpec) :=
  OpenClaim.holds_of_wide 3 Tryz.f3 rfl rfl rfl rfl rfl rfl rfl ⟨rfl, rfl, rfl, rfl, rfl⟩ rfl rfl rfl rfl rfl (by kernel_rfl) Tryz.func3 (by kernel_rfl)
    (of_decide_eq_true (by kernel_rfl)) (by unfold Func.isWrapper; first | (rw [if_pos (by decide +kernel)]; kernel_rfl) | (rw [if_neg (by decide +kernel)]; exact ⟨rfl, rfl⟩))
    (fun os started H enc _ => lifted os started H enc)
theorem proved : Rows.DispNobodyCardSaid :=
  Claim7.holds_tied_plain_at .later [] [.data] true (true, "a4fc4c5c9dd0aba520082ce10907b618f01dbfcacafa02deb4b9e67bbfcea733") false
    over (fun _ h => by cases h) (by kernel_rfl) (fun _ h => by cases h) dispNobody_row_tie rfl ⟨rfl, rfl⟩ (by kernel_rfl) rfl
    (fun f fn hf hfn => by
      obtain rfl : f = 3 := Option.some.inj ((show Tryz.prog.funcNamed "dogwatch/dogwatchlaw31.DispNobody" = some 3 by kernel_rfl).symm.trans hf) |>.symm
      obtain rfl : fn = Tryz.f3 := (Option.some.inj (Tryz.func3.symm.trans hfn)).symm
      exact ⟨by kernel_rfl, fun j t ht => by
        rw [Tryz.params3] at ht
        have hmem : t ∈ [3, 3, 25] := by
          have := List.mem_of_getElem? (l := [3, 3, 25]) (i := j) (a := t) (by simpa using ht)
          exact this
        have hall : [3, 3, 25].all (fun t => !Tryz.prog.wantsStandIn t) = true := by kernel_rfl
        have := List.all_eq_true.1 hall t hmem
        show Tryz.prog.wantsStandIn t = false
        simpa using this⟩)
    (by kernel_rfl)
#print axioms proved
end Go.Proofs.YtaopcacmfhdfkaaGreatDoor.dispNobody
