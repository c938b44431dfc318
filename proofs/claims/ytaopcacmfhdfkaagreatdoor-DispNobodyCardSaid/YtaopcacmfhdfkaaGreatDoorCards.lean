/-
  DERIVED. GIVEN WITH THE SEED: THE CARDS: each row of YtaopcacmfhdfkaaGreatDoorRows.lean that lists a variable, with what it lists TIED to the program's text (the seventh form; the later family's looks); each row that meets fmt, with fmt's text TOLD by the authors' own Lean function (tested against real Go, not proved from fmt's source: count such statements apart). THE CARD IS WHAT COUNTS. Prove the row's statement (the work); the ties are given (YtaopcacmfhdfkaaGreatDoorTie.lean); close each card by the builder's one call (the guide's Derived/Test/ToyasCard.lean, 'card_holds'). Laid BY PROGRAM, IN A SANDBOX (cutbox-door.mjs). By AI agents, Wed Nov 11 2026. No macro, syntax, notation, axiom, sorry.
-/
import Derived.Test.YtaopcacmfhdfkaaGreatDoorRows
import GoSem.ClaimSeven
namespace Go.Proofs.YtaopcacmfhdfkaaGreatDoor
namespace Rows

/-- THE TIED CARD OF 'dogwatchlaw31.DispNobody'. -/
def dispNobodyCard : Claim7 := { stood := { row := dispNobodyRow, standIns := [], harness := (true, "a4fc4c5c9dd0aba520082ce10907b618f01dbfcacafa02deb4b9e67bbfcea733"), looks := false }, kinds := [], alts := [], laidByText := true, laidKinds := [.data], laidTests := true, laidLooks := .later }
def DispNobodyCardSaid : Prop := Claim7.holds Tryz.pinned (.plain (OpenSpec.ofChange dispNobodySpec)) dispNobodyCard

/-- THE TIED CARD OF 'dogwatchlaw31.DispPlays'. -/
def dispPlaysCard : Claim7 := { stood := { row := dispPlaysRow, standIns := [], harness := (true, "a4fc4c5c9dd0aba520082ce10907b618f01dbfcacafa02deb4b9e67bbfcea733"), looks := false }, kinds := [], alts := [], laidByText := true, laidKinds := [.data], laidTests := true, laidLooks := .later }
def DispPlaysCardSaid : Prop := Claim7.holds Tryz.pinned (.plain (OpenSpec.ofChange dispPlaysSpec)) dispPlaysCard

/-- THE TIED CARD OF 'dogwatchlaw31.DispAlone'. -/
def dispAloneCard : Claim7 := { stood := { row := dispAloneRow, standIns := [], harness := (true, "a4fc4c5c9dd0aba520082ce10907b618f01dbfcacafa02deb4b9e67bbfcea733"), looks := false }, kinds := [], alts := [], laidByText := true, laidKinds := [.data], laidTests := true, laidLooks := .later }
def DispAloneCardSaid : Prop := Claim7.holds Tryz.pinned (.plain (OpenSpec.ofChange dispAloneSpec)) dispAloneCard

/-- THE TIED CARD OF 'dogwatchlaw31.DispPromised'. -/
def dispPromisedCard : Claim7 := { stood := { row := dispPromisedRow, standIns := [], harness := (true, "a4fc4c5c9dd0aba520082ce10907b618f01dbfcacafa02deb4b9e67bbfcea733"), looks := false }, kinds := [], alts := [], laidByText := true, laidKinds := [.data], laidTests := true, laidLooks := .later }
def DispPromisedCardSaid : Prop := Claim7.holds Tryz.pinned (.plain (OpenSpec.ofChange dispPromisedSpec)) dispPromisedCard

/-- THE TIED CARD OF 'dogwatchlaw31.DispRests'. -/
def dispRestsCard : Claim7 := { stood := { row := dispRestsRow, standIns := [], harness := (true, "a4fc4c5c9dd0aba520082ce10907b618f01dbfcacafa02deb4b9e67bbfcea733"), looks := false }, kinds := [], alts := [], laidByText := true, laidKinds := [.data], laidTests := true, laidLooks := .later }
def DispRestsCardSaid : Prop := Claim7.holds Tryz.pinned (.plain (OpenSpec.ofChange dispRestsSpec)) dispRestsCard

/-- THE SECOND FORM's CARD OF 'dogwatchlaw31.DispNobody'. -/
def dispNobodyUptoCard : Claim7 := { stood := { row := dispNobodyUptoRow, standIns := [], harness := (true, "a4fc4c5c9dd0aba520082ce10907b618f01dbfcacafa02deb4b9e67bbfcea733"), looks := false }, kinds := [], alts := [], laidByText := true, laidKinds := [.data], laidTests := true, laidLooks := .later }
def DispNobodyUptoCardSaid : Prop := Claim7.holds Tryz.pinned (.plain (OpenSpec.upto dispNobodySpec)) dispNobodyUptoCard

/-- THE SECOND FORM's CARD OF 'dogwatchlaw31.DispPlays'. -/
def dispPlaysUptoCard : Claim7 := { stood := { row := dispPlaysUptoRow, standIns := [], harness := (true, "a4fc4c5c9dd0aba520082ce10907b618f01dbfcacafa02deb4b9e67bbfcea733"), looks := false }, kinds := [], alts := [], laidByText := true, laidKinds := [.data], laidTests := true, laidLooks := .later }
def DispPlaysUptoCardSaid : Prop := Claim7.holds Tryz.pinned (.plain (OpenSpec.upto dispPlaysSpec)) dispPlaysUptoCard

/-- THE SECOND FORM's CARD OF 'dogwatchlaw31.DispAlone'. -/
def dispAloneUptoCard : Claim7 := { stood := { row := dispAloneUptoRow, standIns := [], harness := (true, "a4fc4c5c9dd0aba520082ce10907b618f01dbfcacafa02deb4b9e67bbfcea733"), looks := false }, kinds := [], alts := [], laidByText := true, laidKinds := [.data], laidTests := true, laidLooks := .later }
def DispAloneUptoCardSaid : Prop := Claim7.holds Tryz.pinned (.plain (OpenSpec.upto dispAloneSpec)) dispAloneUptoCard

/-- THE SECOND FORM's CARD OF 'dogwatchlaw31.DispPromised'. -/
def dispPromisedUptoCard : Claim7 := { stood := { row := dispPromisedUptoRow, standIns := [], harness := (true, "a4fc4c5c9dd0aba520082ce10907b618f01dbfcacafa02deb4b9e67bbfcea733"), looks := false }, kinds := [], alts := [], laidByText := true, laidKinds := [.data], laidTests := true, laidLooks := .later }
def DispPromisedUptoCardSaid : Prop := Claim7.holds Tryz.pinned (.plain (OpenSpec.upto dispPromisedSpec)) dispPromisedUptoCard

/-- THE SECOND FORM's CARD OF 'dogwatchlaw31.DispRests'. -/
def dispRestsUptoCard : Claim7 := { stood := { row := dispRestsUptoRow, standIns := [], harness := (true, "a4fc4c5c9dd0aba520082ce10907b618f01dbfcacafa02deb4b9e67bbfcea733"), looks := false }, kinds := [], alts := [], laidByText := true, laidKinds := [.data], laidTests := true, laidLooks := .later }
def DispRestsUptoCardSaid : Prop := Claim7.holds Tryz.pinned (.plain (OpenSpec.upto dispRestsSpec)) dispRestsUptoCard
end Rows
end Go.Proofs.YtaopcacmfhdfkaaGreatDoor
