/- The keys of an empty map, collected: none. -/
import Derived.Test.YtaopcacmfhdfkaaGreatDoorWc
import Derived.Shelf.SlIterI.Nil
import Derived.Shelf.SlGeneric
import Derived.Ground.GgzProg
import Derived.Test.YtaopcacmfhdfkaaGreatDoorProg
namespace Go.Proofs.YtaopcacmfhdfkaaGreatDoor.Ev
open Go Go.RowKit Go.Proofs.YtaopcacmfhdfkaaGreatDoor.Vc Go.Proofs.Tryz Go.Proofs Go.Maps Go.Sort Go.Shelf
set_option linter.unusedSimpArgs false
set_option linter.unusedVariables false
def keysA_ren : Go.Shelf.Ren := ⟨fun | 7 => 42 | 10 => 81 | n => n, fun | 23 => 28 | 26 => 3 | 3 => 41 | 28 => 114 | 0 => 0 | 27 => 113 | 33 => 43 | 4 => 4 | n => n, fun | n => n⟩
theorem keysA : Go.Proofs.SlLaysZI.n7 Tryz.prog keysA_ren := {
  mixed := by kernel_rfl
  f7 := ⟨Tryz.f42.name, by decide, Tryz.func42.trans (congrArg some (by kernel_rfl))⟩
  f10 := ⟨Tryz.f81.name, by decide, Tryz.func81.trans (congrArg some (by kernel_rfl))⟩
  t0 := Tryz.underlying0
  a0 := Tryz.isAgg0
  z0 := Tryz.sizeOf0
  v0 := Tryz.zeroValue0
  t4 := Tryz.underlying4
  a4 := Tryz.isAgg4
  z4 := Tryz.sizeOf4
  v4 := Tryz.zeroValue4
  t23 := Tryz.underlying28
  a23 := Tryz.isAgg28
  z23 := Tryz.sizeOf28
  v23 := Tryz.zeroValue28
  t26 := Tryz.underlying3
  a26 := Tryz.isAgg3
  z26 := Tryz.sizeOf3
  v26 := Tryz.zeroValue3
  t27 := Tryz.underlying113
  a27 := Tryz.isAgg113
  z27 := Tryz.sizeOf113
  v27 := Tryz.zeroValue113
  t28 := Tryz.underlying114
  a28 := Tryz.isAgg114
  z28 := Tryz.sizeOf114
  v28 := Tryz.zeroValue114
  t33 := Tryz.underlying43
  a33 := Tryz.isAgg43
  z33 := Tryz.sizeOf43
  v33 := Tryz.zeroValue43 }
def collA_ren : Go.Shelf.Ren := ⟨fun | 8 => 79 | 11 => 127 | n => n, fun | 26 => 3 | 28 => 114 | 24 => 35 | 0 => 0 | 33 => 43 | 4 => 4 | n => n, fun | n => n⟩
theorem collA : Go.Proofs.SlLaysZI.n8 Tryz.prog collA_ren := {
  mixed := by kernel_rfl
  f8 := ⟨Tryz.f79.name, by decide, Tryz.func79.trans (congrArg some (by kernel_rfl))⟩
  f11 := ⟨Tryz.f127.name, by decide, Tryz.func127.trans (congrArg some (by kernel_rfl))⟩
  t0 := Tryz.underlying0
  a0 := Tryz.isAgg0
  z0 := Tryz.sizeOf0
  v0 := Tryz.zeroValue0
  t24 := Tryz.underlying35
  a24 := Tryz.isAgg35
  z24 := Tryz.sizeOf35
  v24 := Tryz.zeroValue35
  t26 := Tryz.underlying3
  a26 := Tryz.isAgg3
  z26 := Tryz.sizeOf3
  v26 := Tryz.zeroValue3
  t28 := Tryz.underlying114
  a28 := Tryz.isAgg114
  z28 := Tryz.sizeOf114
  v28 := Tryz.zeroValue114
  i26 := by kernel_rfl }
theorem coll0 : ∀ g ∈ [81], ∀ (w : World) (bx b clock : Nat), w.cell? ⟨bx, 0, none⟩ = some (.map (some b)) → bx < w.heap.size → w.heap[b]? = some (.map #[] clock) → Calls prog 79 #[.func (.func g) #[] #[.pointer (some ⟨bx, 0, none⟩)]] w fun e w' => e = .returned (.slice none 0 0) ∧ Below w.heap.size w w' := by
  intro g hg w bx b clock hc hlt hb
  obtain rfl := List.mem_singleton.1 hg
  refine (callsIn_wide (n := 5)).1 ?_
  have hown : w.ownsMap prog 3 (fun _ => (none : Option (DataW Unit × List MemPlace))) b 0 (.map []) := ⟨#[], clock, hb, ⟨by simp, MapKept.stamped_empty clock, by simp⟩, by simp, rfl⟩
  have hseq : SeqGives Fence.wide 3 prog 81 #[.pointer (some ⟨bx, 0, none⟩)] encZ (fun ss => ss.Perm (intKeys (.map [] : DataW Unit))) (Maps.size (.map [] : DataW Unit)) w :=
    AnyZI.keys_gives (ρ := keysA_ren) { keysA with } Fence.wide _ trivial rfl (by omega) bx b 0 (.map []) w hlt hc hown
  have cS := AnyZI.collect_in collA Fence.wide 5 trivial trivial rfl (by omega) 81 #[.pointer (some ⟨bx, 0, none⟩)] trivial (enters_of func81 (by kernel_rfl) rfl) _ _ (by simp [Maps.size]) (by simp [Maps.size]) w hseq
  change CallsIn _ _ prog 79 _ _ _ at cS
  refine cS.mono ?_
  rintro e w' ⟨v, ss, rfl, hS, _, hnil, hB⟩
  have : ss = [] := List.perm_nil.1 hS
  rw [hnil.2 this]
  exact ⟨rfl, hB⟩
end Go.Proofs.YtaopcacmfhdfkaaGreatDoor.Ev
