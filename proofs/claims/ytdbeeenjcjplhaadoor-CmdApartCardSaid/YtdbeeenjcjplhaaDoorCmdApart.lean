/- For every two commands CmdApart returns true and leaves its arguments as they were; the library's listed variables hold what the program's text lays. -/
import Derived.Test.YtdbeeenjcjplhaaDoorKp
import Derived.Test.YtdbeeenjcjplhaaDoorTie
import Derived.Test.YtdbeeenjcjplhaaDoorCards
import Derived.SevenTiedAt
namespace Go.Proofs.YtdbeeenjcjplhaaDoor.cmdApart
open Go Go.ChangeShapes Go.WideShapes Go.ChangeAt Go.RowKit
set_option linter.unusedSimpArgs false
set_option linter.unusedVariables false
set_option maxRecDepth 100000 in
theorem lifted (os : Os) (started : os.Started) (H : Type) (enc : TypeId × Value → H) :
    ReturnsInHanded {} Tryd.checked os 11 .any (fun w args => (Rows.cmdApartSpec.pre enc Tryd.prog Tryd.f11 [] false w args ∧ laidMetH Tryd.prog Rows.cmdApartRow.laid w) ∧ sizedMet enc Tryd.prog Tryd.f11 (OpenSpec.ofChange Rows.cmdApartSpec) false w args)
      (Rows.cmdApartSpec.post enc Tryd.prog Tryd.f11 false true false false) := by
  refine returnsInHanded_of_change_and (C := Tryd.checked) (X := fun w _ => laidMetH Tryd.prog Rows.cmdApartRow.laid w) (fun _ _ _ hh h => h.of_heap hh) Go.Proofs.YtdbeeenjcjplhaaDoor.Vc.own started (by kernel_rfl) Tryd.func11
    (ChangeSpec.witness_at (enc := enc) (C := Tryd.checked) (os := os) (X := fun w _ => laidMetH Tryd.prog Rows.cmdApartRow.laid w) false (Go.Proofs.YtdbeeenjcjplhaaDoor.Vc.laidWorld os) #[.agg #[.int .i64 0, .int .i64 0, .int .i64 0, .int .i64 0, .int .i64 0, .int .i64 0, .int .i64 0, .int .i64 0], .agg #[.int .i64 0, .int .i64 0, .int .i64 0, .int .i64 0, .int .i64 0, .int .i64 0, .int .i64 0, .int .i64 0]] 8 rfl (by kernel_rfl) (by kernel_rfl) (by kernel_rfl) (by kernel_rfl) (by kernel_rfl) (Go.Proofs.YtdbeeenjcjplhaaDoor.Vc.laidWorld_met os _)) ?_
  intro W base args ds gs before hval0 hW _ _ hL _
  have hval : ∀ (j : Nat) t v, Tryd.f11.params[j]? = some t → args[j]? = some v → Value.okWide Tryd.prog W .any base t v := hval0
  have hW' := hW
  obtain ⟨p, q, hA0, hV, rfl, hfz, hnd⟩ := hW
  have hA : DataW.TrodAll enc Tryd.prog W 0 (fun _ => true) true Tryd.f11.params.toList args.toList ds p := hA0
  rw [Tryd.params11] at hA hval
  obtain ⟨v0, vs0, d0, ds0, p0, q0, hargs, rfl, rfl, h0, r0⟩ := trodAll_cons hA
  obtain ⟨v1, vs1, d1, ds1, p1, q1, rfl, rfl, rfl, h1, r1⟩ := trodAll_cons r0
  obtain ⟨rfl, rfl, rfl⟩ := trodAll_nil r1
  obtain rfl : args = #[v0, v1] := by cases args; simp_all
  obtain ⟨rfl, rfl⟩ := trodVars_none hV
  obtain ⟨a0, w0, k0⟩ := Go.Proofs.YtdbeeenjcjplhaaDoor.Vc.argCmd (hval 0 65 v0 rfl rfl) h0
  obtain ⟨a1, w1, k1⟩ := Go.Proofs.YtdbeeenjcjplhaaDoor.Vc.argCmd (hval 1 65 v1 rfl rfl) h1
  have lt0 : ∀ x ∈ p0, x.block < W.heap.size := by obtain ⟨m, hm⟩ := h0; exact DataW.trod_lt m _ _ _ hm
  have lt1 : ∀ x ∈ p1, x.block < W.heap.size := by obtain ⟨m, hm⟩ := h1; exact DataW.trod_lt m _ _ _ hm
  clear hA0 hval0
  refine ((Go.Proofs.YtdbeeenjcjplhaaDoor.Vc.law11 a0 w0 a1 w1).calls (w := W) (vs := [v0, v1]) (fun E => by simp only [Go.Proofs.YtdbeeenjcjplhaaDoor.Vc.RelL]; exact ⟨_, _, rfl, k0 E, _, _, rfl, k1 E, rfl⟩) (Go.Proofs.YtdbeeenjcjplhaaDoor.Vc.laid_of_met hL)).mono fun e W' ⟨v, he, bel, hv⟩ => ?_
  subst he
  obtain rfl := hv _ rfl
  exact ⟨_, rfl, _, _, _, [], _, [], hW', trodAll_mk1 (shut_bool Tryd.underlying4 _),
    (trodAll_cons_mk (Below.trod Go.Proofs.YtdbeeenjcjplhaaDoor.Vc.laidOut (by kernel_rfl) (of_decide_eq_true (by kernel_rfl)) h0 bel lt0) (trodAll_cons_mk (Below.trod Go.Proofs.YtdbeeenjcjplhaaDoor.Vc.laidOut (by kernel_rfl) (of_decide_eq_true (by kernel_rfl)) h1 bel lt1) trodAll_mk0)), rfl, bel.frame _, fun h => by cases h⟩
theorem over : Rows.cmdApartRow.holds Tryd.pinned (OpenSpec.ofChange Rows.cmdApartSpec) :=
  OpenClaim.holds_of_wide 11 Tryd.f11 rfl rfl rfl rfl rfl rfl rfl ⟨rfl, rfl, rfl, rfl, rfl⟩ rfl rfl rfl rfl rfl (by kernel_rfl) Tryd.func11 (by kernel_rfl)
    (of_decide_eq_true (by kernel_rfl)) (by unfold Func.isWrapper; first | (rw [if_pos (by decide +kernel)]; kernel_rfl) | (rw [if_neg (by decide +kernel)]; exact ⟨rfl, rfl⟩))
    (fun os started H enc _ => lifted os started H enc)
theorem proved : Rows.CmdApartCardSaid :=
  Claim7.holds_tied_plain_at .later [] [.data, .data, .data, .handle] true (true, "eae7cba2abe8fbfeaacd20e315b660a6e545394ad676401c2b28855d0e256f74") true
    over (fun _ h => by cases h) (by kernel_rfl) (fun _ h => by cases h) cmdApart_row_tie rfl ⟨rfl, rfl⟩ (by kernel_rfl) rfl
    (fun f fn hf hfn => by
      obtain rfl : f = 11 := Option.some.inj ((show Tryd.prog.funcNamed "dogwatch/dogwatchlaw11.CmdApart" = some 11 by kernel_rfl).symm.trans hf) |>.symm
      obtain rfl : fn = Tryd.f11 := (Option.some.inj (Tryd.func11.symm.trans hfn)).symm
      exact ⟨by kernel_rfl, fun j t ht => by
        rw [Tryd.params11] at ht
        have hmem : t ∈ [65, 65] := by
          have := List.mem_of_getElem? (l := [65, 65]) (i := j) (a := t) (by simpa using ht)
          exact this
        have hall : [65, 65].all (fun t => !Tryd.prog.wantsStandIn t) = true := by kernel_rfl
        have := List.all_eq_true.1 hall t hmem
        show Tryd.prog.wantsStandIn t = false
        simpa using this⟩)
    (by kernel_rfl)
#print axioms proved
end Go.Proofs.YtdbeeenjcjplhaaDoor.cmdApart
