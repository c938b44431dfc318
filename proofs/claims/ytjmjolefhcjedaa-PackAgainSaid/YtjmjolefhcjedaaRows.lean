/-
  No cell of these rows narrows 'for every input' (looked for: loops, veiled, ifaces, maps, wideKeys, modest, calm, conditions, laid).
  DERIVED. THE GIVEN ROWS OF THIS SEAT. 15 by the template 'for every input the law returns true; each argument reads behind the call as it read before'; 0 by the template 'total and deterministic' (their statements: YtjmjolefhcjedaaTotals.lean).
  GIVEN WITH THE SEED: the statements are not yours to turn. If you find one false, say at which input.
  Laid BY PROGRAM, IN A SANDBOX (cutbox-rows.mjs): the forced cells as the released guide's own fill.sh prints them over the translation 75a0eb5c6881faa6… (all of the seat's roots in one cut). By AI agents, Wed Nov 11 2026. No macro, syntax, notation, axiom, sorry.
-/
import Derived.Test.YtjmjolefhcjedaaChecked
import GoSem.Claim
import GoSem.ClaimJoined
import GoSem.ClaimMapViews
import Derived.JoinedTies
import Derived.KernelRfl
namespace Go.Proofs.Ytjmjolefhcjedaa
/- THE CELL 'sum', in the pinned program and in every row, IS THE sha256 OF THE DUMP (.gsa) THAT YtjmjolefhcjedaaProg.lean LOADS. Nothing in Lean hashes anything: it is a label: what it is worth is what the hold of that sum in a sandbox is worth. -/
noncomputable def Try.pinned : Pinned := { name := "ytjmjolefhcjedaa", sum := "75a0eb5c6881faa69252641776b5f197983b7b0f068211b80c42cd8ad50f44e7", checked := Try.checked }
namespace Rows
def none {H : Type} : Left H := { results := [], args := [] }

/-- 'dogwatchlaw39.SupplyLeast': WHATEVER THE INPUT: true; the input reads as it did. -/
def supplyLeastSpec : ChangeSpec := { name := "supplyLeast", fn := fun _ => fun
  | [d1, d2, d3] => { results := [.lit (.bool true)], args := [d1, d2, d3] }
  | _ => none }
def supplyLeastRow : OpenClaim := { program := "ytjmjolefhcjedaa", sum := "75a0eb5c6881faa69252641776b5f197983b7b0f068211b80c42cd8ad50f44e7", func := "dogwatch/dogwatchlaw39.SupplyLeast", spec := "supplyLeast", unfollowed := true, recurses := true, apart := false }
def SupplyLeastSaid : Prop := supplyLeastRow.holds Try.pinned (OpenSpec.ofChange supplyLeastSpec)

/-- ITS FALSE NEIGHBOUR: 'it returns false'. Refute it at one input. -/
def supplyLeastWrong : ChangeSpec := { name := "supplyLeast", fn := fun _ => fun
  | [d1, d2, d3] => { results := [.lit (.bool false)], args := [d1, d2, d3] }
  | _ => none }
def SupplyLeastWrongFalsely : Prop := supplyLeastRow.holds Try.pinned (OpenSpec.ofChange supplyLeastWrong)

/-- 'dogwatchlaw39.SupplyAdds': WHATEVER THE INPUT: true; the input reads as it did. -/
def supplyAddsSpec : ChangeSpec := { name := "supplyAdds", fn := fun _ => fun
  | [d1, d2, d3, d4] => { results := [.lit (.bool true)], args := [d1, d2, d3, d4] }
  | _ => none }
def supplyAddsRow : OpenClaim := { program := "ytjmjolefhcjedaa", sum := "75a0eb5c6881faa69252641776b5f197983b7b0f068211b80c42cd8ad50f44e7", func := "dogwatch/dogwatchlaw39.SupplyAdds", spec := "supplyAdds", unfollowed := true, recurses := true, apart := false }
def SupplyAddsSaid : Prop := supplyAddsRow.holds Try.pinned (OpenSpec.ofChange supplyAddsSpec)

/-- ITS FALSE NEIGHBOUR: 'it returns false'. Refute it at one input. -/
def supplyAddsWrong : ChangeSpec := { name := "supplyAdds", fn := fun _ => fun
  | [d1, d2, d3, d4] => { results := [.lit (.bool false)], args := [d1, d2, d3, d4] }
  | _ => none }
def SupplyAddsWrongFalsely : Prop := supplyAddsRow.holds Try.pinned (OpenSpec.ofChange supplyAddsWrong)

/-- 'dogwatchlaw39.SupplyAfter': WHATEVER THE INPUT: true; the input reads as it did. -/
def supplyAfterSpec : ChangeSpec := { name := "supplyAfter", fn := fun _ => fun
  | [d1, d2, d3] => { results := [.lit (.bool true)], args := [d1, d2, d3] }
  | _ => none }
def supplyAfterRow : OpenClaim := { program := "ytjmjolefhcjedaa", sum := "75a0eb5c6881faa69252641776b5f197983b7b0f068211b80c42cd8ad50f44e7", func := "dogwatch/dogwatchlaw39.SupplyAfter", spec := "supplyAfter", unfollowed := true, recurses := true, apart := false }
def SupplyAfterSaid : Prop := supplyAfterRow.holds Try.pinned (OpenSpec.ofChange supplyAfterSpec)

/-- ITS FALSE NEIGHBOUR: 'it returns false'. Refute it at one input. -/
def supplyAfterWrong : ChangeSpec := { name := "supplyAfter", fn := fun _ => fun
  | [d1, d2, d3] => { results := [.lit (.bool false)], args := [d1, d2, d3] }
  | _ => none }
def SupplyAfterWrongFalsely : Prop := supplyAfterRow.holds Try.pinned (OpenSpec.ofChange supplyAfterWrong)

/-- 'dogwatchlaw23.MovesRoom': WHATEVER THE INPUT: true; the input reads as it did. -/
def movesRoomSpec : ChangeSpec := { name := "movesRoom", fn := fun _ => fun
  | [d1, d2, d3] => { results := [.lit (.bool true)], args := [d1, d2, d3] }
  | _ => none }
def movesRoomRow : OpenClaim := { program := "ytjmjolefhcjedaa", sum := "75a0eb5c6881faa69252641776b5f197983b7b0f068211b80c42cd8ad50f44e7", func := "dogwatch/dogwatchlaw23.MovesRoom", spec := "movesRoom", inPlace := ["slices.overlaps[dogwatch/api.Place]"], unfollowed := true, recurses := true, apart := false }
def MovesRoomSaid : Prop := movesRoomRow.holds Try.pinned (OpenSpec.ofChange movesRoomSpec)

/-- ITS FALSE NEIGHBOUR: 'it returns false'. Refute it at one input. -/
def movesRoomWrong : ChangeSpec := { name := "movesRoom", fn := fun _ => fun
  | [d1, d2, d3] => { results := [.lit (.bool false)], args := [d1, d2, d3] }
  | _ => none }
def MovesRoomWrongFalsely : Prop := movesRoomRow.holds Try.pinned (OpenSpec.ofChange movesRoomWrong)

/-- 'dogwatchlaw23.MovesKeep': WHATEVER THE INPUT: true; the input reads as it did. -/
def movesKeepSpec : ChangeSpec := { name := "movesKeep", fn := fun _ => fun
  | [d1, d2, d3] => { results := [.lit (.bool true)], args := [d1, d2, d3] }
  | _ => none }
def movesKeepRow : OpenClaim := { program := "ytjmjolefhcjedaa", sum := "75a0eb5c6881faa69252641776b5f197983b7b0f068211b80c42cd8ad50f44e7", func := "dogwatch/dogwatchlaw23.MovesKeep", spec := "movesKeep", inPlace := ["slices.overlaps[dogwatch/api.Place]"], unfollowed := true, recurses := true, apart := false }
def MovesKeepSaid : Prop := movesKeepRow.holds Try.pinned (OpenSpec.ofChange movesKeepSpec)

/-- ITS FALSE NEIGHBOUR: 'it returns false'. Refute it at one input. -/
def movesKeepWrong : ChangeSpec := { name := "movesKeep", fn := fun _ => fun
  | [d1, d2, d3] => { results := [.lit (.bool false)], args := [d1, d2, d3] }
  | _ => none }
def MovesKeepWrongFalsely : Prop := movesKeepRow.holds Try.pinned (OpenSpec.ofChange movesKeepWrong)

/-- 'dogwatchlaw23.MovesEmpty': WHATEVER THE INPUT: true; the input reads as it did. -/
def movesEmptySpec : ChangeSpec := { name := "movesEmpty", fn := fun _ => fun
  | [d1, d2, d3, d4] => { results := [.lit (.bool true)], args := [d1, d2, d3, d4] }
  | _ => none }
def movesEmptyRow : OpenClaim := { program := "ytjmjolefhcjedaa", sum := "75a0eb5c6881faa69252641776b5f197983b7b0f068211b80c42cd8ad50f44e7", func := "dogwatch/dogwatchlaw23.MovesEmpty", spec := "movesEmpty", inPlace := ["slices.overlaps[dogwatch/api.Place]"], unfollowed := true, recurses := true, apart := false }
def MovesEmptySaid : Prop := movesEmptyRow.holds Try.pinned (OpenSpec.ofChange movesEmptySpec)

/-- ITS FALSE NEIGHBOUR: 'it returns false'. Refute it at one input. -/
def movesEmptyWrong : ChangeSpec := { name := "movesEmpty", fn := fun _ => fun
  | [d1, d2, d3, d4] => { results := [.lit (.bool false)], args := [d1, d2, d3, d4] }
  | _ => none }
def MovesEmptyWrongFalsely : Prop := movesEmptyRow.holds Try.pinned (OpenSpec.ofChange movesEmptyWrong)

/-- 'dogwatchlaw18.FfdTight': WHATEVER THE INPUT: true; the input reads as it did. -/
def ffdTightSpec : ChangeSpec := { name := "ffdTight", fn := fun _ => fun
  | [d1, d2] => { results := [.lit (.bool true)], args := [d1, d2] }
  | _ => none }
def ffdTightRow : OpenClaim := { program := "ytjmjolefhcjedaa", sum := "75a0eb5c6881faa69252641776b5f197983b7b0f068211b80c42cd8ad50f44e7", func := "dogwatch/dogwatchlaw18.FfdTight", spec := "ffdTight", inPlace := ["slices.overlaps[dogwatch/api.Place]"], unfollowed := true, recurses := true, apart := false }
def FfdTightSaid : Prop := ffdTightRow.holds Try.pinned (OpenSpec.ofChange ffdTightSpec)

/-- ITS FALSE NEIGHBOUR: 'it returns false'. Refute it at one input. -/
def ffdTightWrong : ChangeSpec := { name := "ffdTight", fn := fun _ => fun
  | [d1, d2] => { results := [.lit (.bool false)], args := [d1, d2] }
  | _ => none }
def FfdTightWrongFalsely : Prop := ffdTightRow.holds Try.pinned (OpenSpec.ofChange ffdTightWrong)

/-- 'dogwatchlaw18.FfdSure': WHATEVER THE INPUT: true; the input reads as it did. -/
def ffdSureSpec : ChangeSpec := { name := "ffdSure", fn := fun _ => fun
  | [d1, d2, d3] => { results := [.lit (.bool true)], args := [d1, d2, d3] }
  | _ => none }
def ffdSureRow : OpenClaim := { program := "ytjmjolefhcjedaa", sum := "75a0eb5c6881faa69252641776b5f197983b7b0f068211b80c42cd8ad50f44e7", func := "dogwatch/dogwatchlaw18.FfdSure", spec := "ffdSure", inPlace := ["slices.overlaps[dogwatch/api.Place]"], unfollowed := true, recurses := true, apart := false }
def FfdSureSaid : Prop := ffdSureRow.holds Try.pinned (OpenSpec.ofChange ffdSureSpec)

/-- ITS FALSE NEIGHBOUR: 'it returns false'. Refute it at one input. -/
def ffdSureWrong : ChangeSpec := { name := "ffdSure", fn := fun _ => fun
  | [d1, d2, d3] => { results := [.lit (.bool false)], args := [d1, d2, d3] }
  | _ => none }
def FfdSureWrongFalsely : Prop := ffdSureRow.holds Try.pinned (OpenSpec.ofChange ffdSureWrong)

/-- 'dogwatchlaw18.FfdFits': WHATEVER THE INPUT: true; the input reads as it did. -/
def ffdFitsSpec : ChangeSpec := { name := "ffdFits", fn := fun _ => fun
  | [d1, d2, d3] => { results := [.lit (.bool true)], args := [d1, d2, d3] }
  | _ => none }
def ffdFitsRow : OpenClaim := { program := "ytjmjolefhcjedaa", sum := "75a0eb5c6881faa69252641776b5f197983b7b0f068211b80c42cd8ad50f44e7", func := "dogwatch/dogwatchlaw18.FfdFits", spec := "ffdFits", inPlace := ["slices.overlaps[dogwatch/api.Place]"], unfollowed := true, recurses := true, apart := false }
def FfdFitsSaid : Prop := ffdFitsRow.holds Try.pinned (OpenSpec.ofChange ffdFitsSpec)

/-- ITS FALSE NEIGHBOUR: 'it returns false'. Refute it at one input. -/
def ffdFitsWrong : ChangeSpec := { name := "ffdFits", fn := fun _ => fun
  | [d1, d2, d3] => { results := [.lit (.bool false)], args := [d1, d2, d3] }
  | _ => none }
def FfdFitsWrongFalsely : Prop := ffdFitsRow.holds Try.pinned (OpenSpec.ofChange ffdFitsWrong)

/-- 'dogwatchlaw40.SettleSteps': WHATEVER THE INPUT: true; the input reads as it did. -/
def settleStepsSpec : ChangeSpec := { name := "settleSteps", fn := fun _ => fun
  | [d1, d2] => { results := [.lit (.bool true)], args := [d1, d2] }
  | _ => none }
def settleStepsRow : OpenClaim := { program := "ytjmjolefhcjedaa", sum := "75a0eb5c6881faa69252641776b5f197983b7b0f068211b80c42cd8ad50f44e7", func := "dogwatch/dogwatchlaw40.SettleSteps", spec := "settleSteps", inPlace := ["slices.overlaps[dogwatch/api.Place]"], unfollowed := true, recurses := true, apart := false }
def SettleStepsSaid : Prop := settleStepsRow.holds Try.pinned (OpenSpec.ofChange settleStepsSpec)

/-- ITS FALSE NEIGHBOUR: 'it returns false'. Refute it at one input. -/
def settleStepsWrong : ChangeSpec := { name := "settleSteps", fn := fun _ => fun
  | [d1, d2] => { results := [.lit (.bool false)], args := [d1, d2] }
  | _ => none }
def SettleStepsWrongFalsely : Prop := settleStepsRow.holds Try.pinned (OpenSpec.ofChange settleStepsWrong)

/-- 'dogwatchlaw40.SettleKeeps': WHATEVER THE INPUT: true; the input reads as it did. -/
def settleKeepsSpec : ChangeSpec := { name := "settleKeeps", fn := fun _ => fun
  | [d1, d2] => { results := [.lit (.bool true)], args := [d1, d2] }
  | _ => none }
def settleKeepsRow : OpenClaim := { program := "ytjmjolefhcjedaa", sum := "75a0eb5c6881faa69252641776b5f197983b7b0f068211b80c42cd8ad50f44e7", func := "dogwatch/dogwatchlaw40.SettleKeeps", spec := "settleKeeps", inPlace := ["slices.overlaps[dogwatch/api.Place]"], unfollowed := true, recurses := true, apart := false }
def SettleKeepsSaid : Prop := settleKeepsRow.holds Try.pinned (OpenSpec.ofChange settleKeepsSpec)

/-- ITS FALSE NEIGHBOUR: 'it returns false'. Refute it at one input. -/
def settleKeepsWrong : ChangeSpec := { name := "settleKeeps", fn := fun _ => fun
  | [d1, d2] => { results := [.lit (.bool false)], args := [d1, d2] }
  | _ => none }
def SettleKeepsWrongFalsely : Prop := settleKeepsRow.holds Try.pinned (OpenSpec.ofChange settleKeepsWrong)

/-- 'dogwatchlaw40.SettleEnds': WHATEVER THE INPUT: true; the input reads as it did. -/
def settleEndsSpec : ChangeSpec := { name := "settleEnds", fn := fun _ => fun
  | [d1, d2] => { results := [.lit (.bool true)], args := [d1, d2] }
  | _ => none }
def settleEndsRow : OpenClaim := { program := "ytjmjolefhcjedaa", sum := "75a0eb5c6881faa69252641776b5f197983b7b0f068211b80c42cd8ad50f44e7", func := "dogwatch/dogwatchlaw40.SettleEnds", spec := "settleEnds", inPlace := ["slices.overlaps[dogwatch/api.Place]"], unfollowed := true, recurses := true, apart := false }
def SettleEndsSaid : Prop := settleEndsRow.holds Try.pinned (OpenSpec.ofChange settleEndsSpec)

/-- ITS FALSE NEIGHBOUR: 'it returns false'. Refute it at one input. -/
def settleEndsWrong : ChangeSpec := { name := "settleEnds", fn := fun _ => fun
  | [d1, d2] => { results := [.lit (.bool false)], args := [d1, d2] }
  | _ => none }
def SettleEndsWrongFalsely : Prop := settleEndsRow.holds Try.pinned (OpenSpec.ofChange settleEndsWrong)

/-- 'dogwatchlaw20.PackAll': WHATEVER THE INPUT: true; the input reads as it did. -/
def packAllSpec : ChangeSpec := { name := "packAll", fn := fun _ => fun
  | [d1, d2, d3] => { results := [.lit (.bool true)], args := [d1, d2, d3] }
  | _ => none }
def packAllRow : OpenClaim := { program := "ytjmjolefhcjedaa", sum := "75a0eb5c6881faa69252641776b5f197983b7b0f068211b80c42cd8ad50f44e7", func := "dogwatch/dogwatchlaw20.PackAll", spec := "packAll", inPlace := ["slices.overlaps[dogwatch/api.Place]"], unfollowed := true, recurses := true, apart := false }
def PackAllSaid : Prop := packAllRow.holds Try.pinned (OpenSpec.ofChange packAllSpec)

/-- ITS FALSE NEIGHBOUR: 'it returns false'. Refute it at one input. -/
def packAllWrong : ChangeSpec := { name := "packAll", fn := fun _ => fun
  | [d1, d2, d3] => { results := [.lit (.bool false)], args := [d1, d2, d3] }
  | _ => none }
def PackAllWrongFalsely : Prop := packAllRow.holds Try.pinned (OpenSpec.ofChange packAllWrong)

/-- 'dogwatchlaw20.PackOrder': WHATEVER THE INPUT: true; the input reads as it did. -/
def packOrderSpec : ChangeSpec := { name := "packOrder", fn := fun _ => fun
  | [d1, d2, d3, d4] => { results := [.lit (.bool true)], args := [d1, d2, d3, d4] }
  | _ => none }
def packOrderRow : OpenClaim := { program := "ytjmjolefhcjedaa", sum := "75a0eb5c6881faa69252641776b5f197983b7b0f068211b80c42cd8ad50f44e7", func := "dogwatch/dogwatchlaw20.PackOrder", spec := "packOrder", inPlace := ["slices.overlaps[dogwatch/api.Place]"], unfollowed := true, recurses := true, apart := false }
def PackOrderSaid : Prop := packOrderRow.holds Try.pinned (OpenSpec.ofChange packOrderSpec)

/-- ITS FALSE NEIGHBOUR: 'it returns false'. Refute it at one input. -/
def packOrderWrong : ChangeSpec := { name := "packOrder", fn := fun _ => fun
  | [d1, d2, d3, d4] => { results := [.lit (.bool false)], args := [d1, d2, d3, d4] }
  | _ => none }
def PackOrderWrongFalsely : Prop := packOrderRow.holds Try.pinned (OpenSpec.ofChange packOrderWrong)

/-- 'dogwatchlaw20.PackAgain': WHATEVER THE INPUT: true; the input reads as it did. -/
def packAgainSpec : ChangeSpec := { name := "packAgain", fn := fun _ => fun
  | [d] => { results := [.lit (.bool true)], args := [d] }
  | _ => none }
def packAgainRow : OpenClaim := { program := "ytjmjolefhcjedaa", sum := "75a0eb5c6881faa69252641776b5f197983b7b0f068211b80c42cd8ad50f44e7", func := "dogwatch/dogwatchlaw20.PackAgain", spec := "packAgain", inPlace := ["slices.overlaps[dogwatch/api.Place]"], unfollowed := true, recurses := true, apart := false }
def PackAgainSaid : Prop := packAgainRow.holds Try.pinned (OpenSpec.ofChange packAgainSpec)

/-- ITS FALSE NEIGHBOUR: 'it returns false'. Refute it at one input. -/
def packAgainWrong : ChangeSpec := { name := "packAgain", fn := fun _ => fun
  | [d] => { results := [.lit (.bool false)], args := [d] }
  | _ => none }
def PackAgainWrongFalsely : Prop := packAgainRow.holds Try.pinned (OpenSpec.ofChange packAgainWrong)

/- THE SECOND FORM. 'bulk': how many values and letters a reading holds, each counted each time it is reached (what is shared counts as often as it is met; a slice's spare places count too). A statement '..UptoSaid' is the law's where the arguments, and the package variables that the reading takes, are together of bulk at most 1048576: NARROWER than '..Said'. Prove '..Said' where nothing that the law and all that it calls make is longer than what came in: it says more and counts as full. Else prove '..UptoSaid'. A law counts once. -/
mutual
def uptoBulk {H : Type} : DataW H → Nat
  | .lit (.string bytes) => bytes.length + 1
  | .lit _ => 1
  | .nil => 1
  | .ptr d => uptoBulk d + 1
  | .slice elems spare => uptoBulkAll elems + uptoBulkAll spare + 1
  | .agg parts => uptoBulkAll parts + 1
  | .iface _ d => uptoBulk d + 1
  | .map entries => uptoBulkEntries entries + 1
  | .held _ => 1
def uptoBulkAll {H : Type} : List (DataW H) → Nat
  | [] => 0
  | d :: r => uptoBulk d + uptoBulkAll r
def uptoBulkEntries {H : Type} : List (Lit × DataW H) → Nat
  | [] => 0
  | x :: r => uptoBulkEntry x + uptoBulkEntries r
def uptoBulkEntry {H : Type} : Lit × DataW H → Nat
  | (.string bytes, d) => bytes.length + uptoBulk d + 1
  | (_, d) => uptoBulk d + 1
 end
def uptoSmall : (H : Type) → List (DataW H) → Bool := fun _ ds => decide (uptoBulkAll ds ≤ 1048576)
def OpenSpec.upto (s : _root_.Go.ChangeSpec) : _root_.Go.OpenSpec := { _root_.Go.OpenSpec.ofChange s with cond := some uptoSmall }

/-- 'dogwatchlaw39.SupplyLeast', WHERE WHAT IT READS IS OF BULK AT MOST 1048576: true; the input reads as it did. -/
def supplyLeastUptoRow : OpenClaim := { program := "ytjmjolefhcjedaa", sum := "75a0eb5c6881faa69252641776b5f197983b7b0f068211b80c42cd8ad50f44e7", func := "dogwatch/dogwatchlaw39.SupplyLeast", spec := "supplyLeast", unfollowed := true, recurses := true, apart := false, narrowed := true }
def SupplyLeastUptoSaid : Prop := supplyLeastUptoRow.holds Try.pinned (OpenSpec.upto supplyLeastSpec)

/-- 'dogwatchlaw39.SupplyAdds', WHERE WHAT IT READS IS OF BULK AT MOST 1048576: true; the input reads as it did. -/
def supplyAddsUptoRow : OpenClaim := { program := "ytjmjolefhcjedaa", sum := "75a0eb5c6881faa69252641776b5f197983b7b0f068211b80c42cd8ad50f44e7", func := "dogwatch/dogwatchlaw39.SupplyAdds", spec := "supplyAdds", unfollowed := true, recurses := true, apart := false, narrowed := true }
def SupplyAddsUptoSaid : Prop := supplyAddsUptoRow.holds Try.pinned (OpenSpec.upto supplyAddsSpec)

/-- 'dogwatchlaw39.SupplyAfter', WHERE WHAT IT READS IS OF BULK AT MOST 1048576: true; the input reads as it did. -/
def supplyAfterUptoRow : OpenClaim := { program := "ytjmjolefhcjedaa", sum := "75a0eb5c6881faa69252641776b5f197983b7b0f068211b80c42cd8ad50f44e7", func := "dogwatch/dogwatchlaw39.SupplyAfter", spec := "supplyAfter", unfollowed := true, recurses := true, apart := false, narrowed := true }
def SupplyAfterUptoSaid : Prop := supplyAfterUptoRow.holds Try.pinned (OpenSpec.upto supplyAfterSpec)

/-- 'dogwatchlaw23.MovesRoom', WHERE WHAT IT READS IS OF BULK AT MOST 1048576: true; the input reads as it did. -/
def movesRoomUptoRow : OpenClaim := { program := "ytjmjolefhcjedaa", sum := "75a0eb5c6881faa69252641776b5f197983b7b0f068211b80c42cd8ad50f44e7", func := "dogwatch/dogwatchlaw23.MovesRoom", spec := "movesRoom", inPlace := ["slices.overlaps[dogwatch/api.Place]"], unfollowed := true, recurses := true, apart := false, narrowed := true }
def MovesRoomUptoSaid : Prop := movesRoomUptoRow.holds Try.pinned (OpenSpec.upto movesRoomSpec)

/-- 'dogwatchlaw23.MovesKeep', WHERE WHAT IT READS IS OF BULK AT MOST 1048576: true; the input reads as it did. -/
def movesKeepUptoRow : OpenClaim := { program := "ytjmjolefhcjedaa", sum := "75a0eb5c6881faa69252641776b5f197983b7b0f068211b80c42cd8ad50f44e7", func := "dogwatch/dogwatchlaw23.MovesKeep", spec := "movesKeep", inPlace := ["slices.overlaps[dogwatch/api.Place]"], unfollowed := true, recurses := true, apart := false, narrowed := true }
def MovesKeepUptoSaid : Prop := movesKeepUptoRow.holds Try.pinned (OpenSpec.upto movesKeepSpec)

/-- 'dogwatchlaw23.MovesEmpty', WHERE WHAT IT READS IS OF BULK AT MOST 1048576: true; the input reads as it did. -/
def movesEmptyUptoRow : OpenClaim := { program := "ytjmjolefhcjedaa", sum := "75a0eb5c6881faa69252641776b5f197983b7b0f068211b80c42cd8ad50f44e7", func := "dogwatch/dogwatchlaw23.MovesEmpty", spec := "movesEmpty", inPlace := ["slices.overlaps[dogwatch/api.Place]"], unfollowed := true, recurses := true, apart := false, narrowed := true }
def MovesEmptyUptoSaid : Prop := movesEmptyUptoRow.holds Try.pinned (OpenSpec.upto movesEmptySpec)

/-- 'dogwatchlaw18.FfdTight', WHERE WHAT IT READS IS OF BULK AT MOST 1048576: true; the input reads as it did. -/
def ffdTightUptoRow : OpenClaim := { program := "ytjmjolefhcjedaa", sum := "75a0eb5c6881faa69252641776b5f197983b7b0f068211b80c42cd8ad50f44e7", func := "dogwatch/dogwatchlaw18.FfdTight", spec := "ffdTight", inPlace := ["slices.overlaps[dogwatch/api.Place]"], unfollowed := true, recurses := true, apart := false, narrowed := true }
def FfdTightUptoSaid : Prop := ffdTightUptoRow.holds Try.pinned (OpenSpec.upto ffdTightSpec)

/-- 'dogwatchlaw18.FfdSure', WHERE WHAT IT READS IS OF BULK AT MOST 1048576: true; the input reads as it did. -/
def ffdSureUptoRow : OpenClaim := { program := "ytjmjolefhcjedaa", sum := "75a0eb5c6881faa69252641776b5f197983b7b0f068211b80c42cd8ad50f44e7", func := "dogwatch/dogwatchlaw18.FfdSure", spec := "ffdSure", inPlace := ["slices.overlaps[dogwatch/api.Place]"], unfollowed := true, recurses := true, apart := false, narrowed := true }
def FfdSureUptoSaid : Prop := ffdSureUptoRow.holds Try.pinned (OpenSpec.upto ffdSureSpec)

/-- 'dogwatchlaw18.FfdFits', WHERE WHAT IT READS IS OF BULK AT MOST 1048576: true; the input reads as it did. -/
def ffdFitsUptoRow : OpenClaim := { program := "ytjmjolefhcjedaa", sum := "75a0eb5c6881faa69252641776b5f197983b7b0f068211b80c42cd8ad50f44e7", func := "dogwatch/dogwatchlaw18.FfdFits", spec := "ffdFits", inPlace := ["slices.overlaps[dogwatch/api.Place]"], unfollowed := true, recurses := true, apart := false, narrowed := true }
def FfdFitsUptoSaid : Prop := ffdFitsUptoRow.holds Try.pinned (OpenSpec.upto ffdFitsSpec)

/-- 'dogwatchlaw40.SettleSteps', WHERE WHAT IT READS IS OF BULK AT MOST 1048576: true; the input reads as it did. -/
def settleStepsUptoRow : OpenClaim := { program := "ytjmjolefhcjedaa", sum := "75a0eb5c6881faa69252641776b5f197983b7b0f068211b80c42cd8ad50f44e7", func := "dogwatch/dogwatchlaw40.SettleSteps", spec := "settleSteps", inPlace := ["slices.overlaps[dogwatch/api.Place]"], unfollowed := true, recurses := true, apart := false, narrowed := true }
def SettleStepsUptoSaid : Prop := settleStepsUptoRow.holds Try.pinned (OpenSpec.upto settleStepsSpec)

/-- 'dogwatchlaw40.SettleKeeps', WHERE WHAT IT READS IS OF BULK AT MOST 1048576: true; the input reads as it did. -/
def settleKeepsUptoRow : OpenClaim := { program := "ytjmjolefhcjedaa", sum := "75a0eb5c6881faa69252641776b5f197983b7b0f068211b80c42cd8ad50f44e7", func := "dogwatch/dogwatchlaw40.SettleKeeps", spec := "settleKeeps", inPlace := ["slices.overlaps[dogwatch/api.Place]"], unfollowed := true, recurses := true, apart := false, narrowed := true }
def SettleKeepsUptoSaid : Prop := settleKeepsUptoRow.holds Try.pinned (OpenSpec.upto settleKeepsSpec)

/-- 'dogwatchlaw40.SettleEnds', WHERE WHAT IT READS IS OF BULK AT MOST 1048576: true; the input reads as it did. -/
def settleEndsUptoRow : OpenClaim := { program := "ytjmjolefhcjedaa", sum := "75a0eb5c6881faa69252641776b5f197983b7b0f068211b80c42cd8ad50f44e7", func := "dogwatch/dogwatchlaw40.SettleEnds", spec := "settleEnds", inPlace := ["slices.overlaps[dogwatch/api.Place]"], unfollowed := true, recurses := true, apart := false, narrowed := true }
def SettleEndsUptoSaid : Prop := settleEndsUptoRow.holds Try.pinned (OpenSpec.upto settleEndsSpec)

/-- 'dogwatchlaw20.PackAll', WHERE WHAT IT READS IS OF BULK AT MOST 1048576: true; the input reads as it did. -/
def packAllUptoRow : OpenClaim := { program := "ytjmjolefhcjedaa", sum := "75a0eb5c6881faa69252641776b5f197983b7b0f068211b80c42cd8ad50f44e7", func := "dogwatch/dogwatchlaw20.PackAll", spec := "packAll", inPlace := ["slices.overlaps[dogwatch/api.Place]"], unfollowed := true, recurses := true, apart := false, narrowed := true }
def PackAllUptoSaid : Prop := packAllUptoRow.holds Try.pinned (OpenSpec.upto packAllSpec)

/-- 'dogwatchlaw20.PackOrder', WHERE WHAT IT READS IS OF BULK AT MOST 1048576: true; the input reads as it did. -/
def packOrderUptoRow : OpenClaim := { program := "ytjmjolefhcjedaa", sum := "75a0eb5c6881faa69252641776b5f197983b7b0f068211b80c42cd8ad50f44e7", func := "dogwatch/dogwatchlaw20.PackOrder", spec := "packOrder", inPlace := ["slices.overlaps[dogwatch/api.Place]"], unfollowed := true, recurses := true, apart := false, narrowed := true }
def PackOrderUptoSaid : Prop := packOrderUptoRow.holds Try.pinned (OpenSpec.upto packOrderSpec)

/-- 'dogwatchlaw20.PackAgain', WHERE WHAT IT READS IS OF BULK AT MOST 1048576: true; the input reads as it did. -/
def packAgainUptoRow : OpenClaim := { program := "ytjmjolefhcjedaa", sum := "75a0eb5c6881faa69252641776b5f197983b7b0f068211b80c42cd8ad50f44e7", func := "dogwatch/dogwatchlaw20.PackAgain", spec := "packAgain", inPlace := ["slices.overlaps[dogwatch/api.Place]"], unfollowed := true, recurses := true, apart := false, narrowed := true }
def PackAgainUptoSaid : Prop := packAgainUptoRow.holds Try.pinned (OpenSpec.upto packAgainSpec)

end Rows
end Go.Proofs.Ytjmjolefhcjedaa
