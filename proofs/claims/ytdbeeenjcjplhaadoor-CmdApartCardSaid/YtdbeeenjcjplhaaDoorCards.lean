/-
  DERIVED. GIVEN WITH THE SEED: THE CARDS: each row of YtdbeeenjcjplhaaDoorRows.lean that lists a variable, with what it lists TIED to the program's text (the seventh form; the later family's looks); each row that meets fmt, with fmt's text TOLD by the authors' own Lean function (tested against real Go, not proved from fmt's source: count such statements apart). THE CARD IS WHAT COUNTS. Prove the row's statement (the work); the ties are given (YtdbeeenjcjplhaaDoorTie.lean); close each card by the builder's one call (the guide's Derived/Test/ToyasCard.lean, 'card_holds'). Laid BY PROGRAM, IN A SANDBOX (cutbox-door.mjs). By AI agents, Wed Nov 11 2026. No macro, syntax, notation, axiom, sorry.
-/
import Derived.Test.YtdbeeenjcjplhaaDoorRows
import GoSem.ClaimSeven
namespace Go.Proofs.YtdbeeenjcjplhaaDoor
namespace Rows

/-- THE TIED CARD OF 'dogwatchlaw01.FaultAsks'. -/
def faultAsksCard : Claim7 := { stood := { row := faultAsksRow, standIns := [], harness := (true, "eae7cba2abe8fbfeaacd20e315b660a6e545394ad676401c2b28855d0e256f74"), looks := true }, kinds := [], alts := [], laidByText := true, laidKinds := [.data, .data, .data, .handle], laidTests := true, laidLooks := .later }
def FaultAsksCardSaid : Prop := Claim7.holds Tryd.pinned (.plain (OpenSpec.ofChange faultAsksSpec)) faultAsksCard

/-- THE TIED CARD OF 'dogwatchlaw01.FaultTells'. -/
def faultTellsCard : Claim7 := { stood := { row := faultTellsRow, standIns := [], harness := (true, "eae7cba2abe8fbfeaacd20e315b660a6e545394ad676401c2b28855d0e256f74"), looks := true }, kinds := [], alts := [], laidByText := true, laidKinds := [.data, .data, .data, .handle], laidTests := true, laidLooks := .later }
def FaultTellsCardSaid : Prop := Claim7.holds Tryd.pinned (.plain (OpenSpec.ofChange faultTellsSpec)) faultTellsCard

/-- THE TIED CARD OF 'dogwatchlaw01.FaultFinds'. -/
def faultFindsCard : Claim7 := { stood := { row := faultFindsRow, standIns := [], harness := (true, "eae7cba2abe8fbfeaacd20e315b660a6e545394ad676401c2b28855d0e256f74"), looks := true }, kinds := [], alts := [], laidByText := true, laidKinds := [.data, .data, .data, .handle], laidTests := true, laidLooks := .later }
def FaultFindsCardSaid : Prop := Claim7.holds Tryd.pinned (.plain (OpenSpec.ofChange faultFindsSpec)) faultFindsCard

/-- THE TIED CARD OF 'dogwatchlaw01.FaultInner'. -/
def faultInnerCard : Claim7 := { stood := { row := faultInnerRow, standIns := [], harness := (true, "eae7cba2abe8fbfeaacd20e315b660a6e545394ad676401c2b28855d0e256f74"), looks := true }, kinds := [], alts := [], laidByText := true, laidKinds := [.data, .data, .data, .handle], laidTests := true, laidLooks := .later }
def FaultInnerCardSaid : Prop := Claim7.holds Tryd.pinned (.plain (OpenSpec.ofChange faultInnerSpec)) faultInnerCard

/-- THE TIED CARD OF 'dogwatchlaw11.CmdChecks'. -/
def cmdChecksCard : Claim7 := { stood := { row := cmdChecksRow, standIns := [], harness := (true, "eae7cba2abe8fbfeaacd20e315b660a6e545394ad676401c2b28855d0e256f74"), looks := true }, kinds := [], alts := [], laidByText := true, laidKinds := [.data, .data, .data, .handle], laidTests := true, laidLooks := .later }
def CmdChecksCardSaid : Prop := Claim7.holds Tryd.pinned (.plain (OpenSpec.ofChange cmdChecksSpec)) cmdChecksCard

/-- THE TIED CARD OF 'dogwatchlaw11.CmdWrites'. -/
def cmdWritesCard : Claim7 := { stood := { row := cmdWritesRow, standIns := [], harness := (true, "eae7cba2abe8fbfeaacd20e315b660a6e545394ad676401c2b28855d0e256f74"), looks := true }, kinds := [], alts := [], laidByText := true, laidKinds := [.data, .data, .data, .handle], laidTests := true, laidLooks := .later }
def CmdWritesCardSaid : Prop := Claim7.holds Tryd.pinned (.plain (OpenSpec.ofChange cmdWritesSpec)) cmdWritesCard

/-- THE TIED CARD OF 'dogwatchlaw11.CmdReads'. -/
def cmdReadsCard : Claim7 := { stood := { row := cmdReadsRow, standIns := [], harness := (true, "eae7cba2abe8fbfeaacd20e315b660a6e545394ad676401c2b28855d0e256f74"), looks := true }, kinds := [], alts := [], laidByText := true, laidKinds := [.data, .data, .data, .handle], laidTests := true, laidLooks := .later }
def CmdReadsCardSaid : Prop := Claim7.holds Tryd.pinned (.plain (OpenSpec.ofChange cmdReadsSpec)) cmdReadsCard

/-- THE TIED CARD OF 'dogwatchlaw11.CmdBack'. -/
def cmdBackCard : Claim7 := { stood := { row := cmdBackRow, standIns := [], harness := (true, "eae7cba2abe8fbfeaacd20e315b660a6e545394ad676401c2b28855d0e256f74"), looks := true }, kinds := [], alts := [], laidByText := true, laidKinds := [.data, .data, .data, .handle], laidTests := true, laidLooks := .later }
def CmdBackCardSaid : Prop := Claim7.holds Tryd.pinned (.plain (OpenSpec.ofChange cmdBackSpec)) cmdBackCard

/-- THE TIED CARD OF 'dogwatchlaw11.CmdApart'. -/
def cmdApartCard : Claim7 := { stood := { row := cmdApartRow, standIns := [], harness := (true, "eae7cba2abe8fbfeaacd20e315b660a6e545394ad676401c2b28855d0e256f74"), looks := true }, kinds := [], alts := [], laidByText := true, laidKinds := [.data, .data, .data, .handle], laidTests := true, laidLooks := .later }
def CmdApartCardSaid : Prop := Claim7.holds Tryd.pinned (.plain (OpenSpec.ofChange cmdApartSpec)) cmdApartCard

/-- THE SECOND FORM's CARD OF 'dogwatchlaw01.FaultAsks'. -/
def faultAsksUptoCard : Claim7 := { stood := { row := faultAsksUptoRow, standIns := [], harness := (true, "eae7cba2abe8fbfeaacd20e315b660a6e545394ad676401c2b28855d0e256f74"), looks := true }, kinds := [], alts := [], laidByText := true, laidKinds := [.data, .data, .data, .handle], laidTests := true, laidLooks := .later }
def FaultAsksUptoCardSaid : Prop := Claim7.holds Tryd.pinned (.plain (OpenSpec.upto faultAsksSpec)) faultAsksUptoCard

/-- THE SECOND FORM's CARD OF 'dogwatchlaw01.FaultTells'. -/
def faultTellsUptoCard : Claim7 := { stood := { row := faultTellsUptoRow, standIns := [], harness := (true, "eae7cba2abe8fbfeaacd20e315b660a6e545394ad676401c2b28855d0e256f74"), looks := true }, kinds := [], alts := [], laidByText := true, laidKinds := [.data, .data, .data, .handle], laidTests := true, laidLooks := .later }
def FaultTellsUptoCardSaid : Prop := Claim7.holds Tryd.pinned (.plain (OpenSpec.upto faultTellsSpec)) faultTellsUptoCard

/-- THE SECOND FORM's CARD OF 'dogwatchlaw01.FaultFinds'. -/
def faultFindsUptoCard : Claim7 := { stood := { row := faultFindsUptoRow, standIns := [], harness := (true, "eae7cba2abe8fbfeaacd20e315b660a6e545394ad676401c2b28855d0e256f74"), looks := true }, kinds := [], alts := [], laidByText := true, laidKinds := [.data, .data, .data, .handle], laidTests := true, laidLooks := .later }
def FaultFindsUptoCardSaid : Prop := Claim7.holds Tryd.pinned (.plain (OpenSpec.upto faultFindsSpec)) faultFindsUptoCard

/-- THE SECOND FORM's CARD OF 'dogwatchlaw01.FaultInner'. -/
def faultInnerUptoCard : Claim7 := { stood := { row := faultInnerUptoRow, standIns := [], harness := (true, "eae7cba2abe8fbfeaacd20e315b660a6e545394ad676401c2b28855d0e256f74"), looks := true }, kinds := [], alts := [], laidByText := true, laidKinds := [.data, .data, .data, .handle], laidTests := true, laidLooks := .later }
def FaultInnerUptoCardSaid : Prop := Claim7.holds Tryd.pinned (.plain (OpenSpec.upto faultInnerSpec)) faultInnerUptoCard

/-- THE SECOND FORM's CARD OF 'dogwatchlaw11.CmdChecks'. -/
def cmdChecksUptoCard : Claim7 := { stood := { row := cmdChecksUptoRow, standIns := [], harness := (true, "eae7cba2abe8fbfeaacd20e315b660a6e545394ad676401c2b28855d0e256f74"), looks := true }, kinds := [], alts := [], laidByText := true, laidKinds := [.data, .data, .data, .handle], laidTests := true, laidLooks := .later }
def CmdChecksUptoCardSaid : Prop := Claim7.holds Tryd.pinned (.plain (OpenSpec.upto cmdChecksSpec)) cmdChecksUptoCard

/-- THE SECOND FORM's CARD OF 'dogwatchlaw11.CmdWrites'. -/
def cmdWritesUptoCard : Claim7 := { stood := { row := cmdWritesUptoRow, standIns := [], harness := (true, "eae7cba2abe8fbfeaacd20e315b660a6e545394ad676401c2b28855d0e256f74"), looks := true }, kinds := [], alts := [], laidByText := true, laidKinds := [.data, .data, .data, .handle], laidTests := true, laidLooks := .later }
def CmdWritesUptoCardSaid : Prop := Claim7.holds Tryd.pinned (.plain (OpenSpec.upto cmdWritesSpec)) cmdWritesUptoCard

/-- THE SECOND FORM's CARD OF 'dogwatchlaw11.CmdReads'. -/
def cmdReadsUptoCard : Claim7 := { stood := { row := cmdReadsUptoRow, standIns := [], harness := (true, "eae7cba2abe8fbfeaacd20e315b660a6e545394ad676401c2b28855d0e256f74"), looks := true }, kinds := [], alts := [], laidByText := true, laidKinds := [.data, .data, .data, .handle], laidTests := true, laidLooks := .later }
def CmdReadsUptoCardSaid : Prop := Claim7.holds Tryd.pinned (.plain (OpenSpec.upto cmdReadsSpec)) cmdReadsUptoCard

/-- THE SECOND FORM's CARD OF 'dogwatchlaw11.CmdBack'. -/
def cmdBackUptoCard : Claim7 := { stood := { row := cmdBackUptoRow, standIns := [], harness := (true, "eae7cba2abe8fbfeaacd20e315b660a6e545394ad676401c2b28855d0e256f74"), looks := true }, kinds := [], alts := [], laidByText := true, laidKinds := [.data, .data, .data, .handle], laidTests := true, laidLooks := .later }
def CmdBackUptoCardSaid : Prop := Claim7.holds Tryd.pinned (.plain (OpenSpec.upto cmdBackSpec)) cmdBackUptoCard

/-- THE SECOND FORM's CARD OF 'dogwatchlaw11.CmdApart'. -/
def cmdApartUptoCard : Claim7 := { stood := { row := cmdApartUptoRow, standIns := [], harness := (true, "eae7cba2abe8fbfeaacd20e315b660a6e545394ad676401c2b28855d0e256f74"), looks := true }, kinds := [], alts := [], laidByText := true, laidKinds := [.data, .data, .data, .handle], laidTests := true, laidLooks := .later }
def CmdApartUptoCardSaid : Prop := Claim7.holds Tryd.pinned (.plain (OpenSpec.upto cmdApartSpec)) cmdApartUptoCard
end Rows
end Go.Proofs.YtdbeeenjcjplhaaDoor
