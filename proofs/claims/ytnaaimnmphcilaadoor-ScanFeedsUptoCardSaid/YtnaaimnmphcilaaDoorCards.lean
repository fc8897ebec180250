/-
  DERIVED. GIVEN WITH THE SEED: THE CARDS: each row of YtnaaimnmphcilaaDoorRows.lean that lists a variable, with what it lists TIED to the program's text (the seventh form; the later family's looks); each row that meets fmt, with fmt's text TOLD by the authors' own Lean function (tested against real Go, not proved from fmt's source: count such statements apart). THE CARD IS WHAT COUNTS. Prove the row's statement (the work); the ties are given (YtnaaimnmphcilaaDoorTie.lean); close each card by the builder's one call (the guide's Derived/Test/ToyasCard.lean, 'card_holds'). Laid BY PROGRAM, IN A SANDBOX (cutbox-door.mjs). By AI agents, Wed Nov 11 2026. No macro, syntax, notation, axiom, sorry.
-/
import Derived.Test.YtnaaimnmphcilaaDoorRows
import GoSem.ClaimSeven
namespace Go.Proofs.YtnaaimnmphcilaaDoor
namespace Rows

/-- THE TIED CARD OF 'gessolaw01.CodeBack'. -/
def codeBackCard : Claim7 := { stood := { row := codeBackRow, standIns := [], harness := (true, "58960f3b2a065a2593dbd37d291b99d93770b1533f0a18ea003ed7e15eda16a3"), looks := false }, kinds := [], alts := [], laidByText := true, laidKinds := [.data, .pinned], laidTests := true, laidLooks := .later }
def CodeBackCardSaid : Prop := Claim7.holds Tryd.pinned (.plain (OpenSpec.ofChange codeBackSpec)) codeBackCard

/-- THE TIED CARD OF 'gessolaw01.CodeCuts'. -/
def codeCutsCard : Claim7 := { stood := { row := codeCutsRow, standIns := [], harness := (true, "58960f3b2a065a2593dbd37d291b99d93770b1533f0a18ea003ed7e15eda16a3"), looks := false }, kinds := [], alts := [], laidByText := true, laidKinds := [.data, .pinned], laidTests := true, laidLooks := .later }
def CodeCutsCardSaid : Prop := Claim7.holds Tryd.pinned (.plain (OpenSpec.ofChange codeCutsSpec)) codeCutsCard

/-- THE TIED CARD OF 'gessolaw02.ScanOpens'. -/
def scanOpensCard : Claim7 := { stood := { row := scanOpensRow, standIns := [], harness := (true, "58960f3b2a065a2593dbd37d291b99d93770b1533f0a18ea003ed7e15eda16a3"), looks := false }, kinds := [], alts := [], laidByText := true, laidKinds := [.data, .pinned], laidTests := true, laidLooks := .later }
def ScanOpensCardSaid : Prop := Claim7.holds Tryd.pinned (.plain (OpenSpec.ofChange scanOpensSpec)) scanOpensCard

/-- THE TIED CARD OF 'gessolaw02.ScanFeeds'. -/
def scanFeedsCard : Claim7 := { stood := { row := scanFeedsRow, standIns := [], harness := (true, "58960f3b2a065a2593dbd37d291b99d93770b1533f0a18ea003ed7e15eda16a3"), looks := false }, kinds := [], alts := [], laidByText := true, laidKinds := [.data, .pinned], laidTests := true, laidLooks := .later }
def ScanFeedsCardSaid : Prop := Claim7.holds Tryd.pinned (.plain (OpenSpec.ofChange scanFeedsSpec)) scanFeedsCard

/-- THE TIED CARD OF 'gessolaw02.ScanStays'. -/
def scanStaysCard : Claim7 := { stood := { row := scanStaysRow, standIns := [], harness := (true, "58960f3b2a065a2593dbd37d291b99d93770b1533f0a18ea003ed7e15eda16a3"), looks := false }, kinds := [], alts := [], laidByText := true, laidKinds := [.data, .pinned], laidTests := true, laidLooks := .later }
def ScanStaysCardSaid : Prop := Claim7.holds Tryd.pinned (.plain (OpenSpec.ofChange scanStaysSpec)) scanStaysCard

/-- THE TIED CARD OF 'gessolaw02.ScanBytes'. -/
def scanBytesCard : Claim7 := { stood := { row := scanBytesRow, standIns := [], harness := (true, "58960f3b2a065a2593dbd37d291b99d93770b1533f0a18ea003ed7e15eda16a3"), looks := false }, kinds := [], alts := [], laidByText := true, laidKinds := [.data, .pinned], laidTests := true, laidLooks := .later }
def ScanBytesCardSaid : Prop := Claim7.holds Tryd.pinned (.plain (OpenSpec.ofChange scanBytesSpec)) scanBytesCard

/-- THE TIED CARD OF 'gessolaw01.CodeCodes'. -/
def codeCodesCard : Claim7 := { stood := { row := codeCodesRow, standIns := [], harness := (true, "58960f3b2a065a2593dbd37d291b99d93770b1533f0a18ea003ed7e15eda16a3"), looks := false }, kinds := [], alts := [], laidByText := true, laidKinds := [.data, .pinned], laidTests := true, laidLooks := .later }
def CodeCodesCardSaid : Prop := Claim7.holds Tryd.pinned (.plain (OpenSpec.ofChange codeCodesSpec)) codeCodesCard

/-- THE TIED CARD OF 'gessolaw02.ScanGoes'. -/
def scanGoesCard : Claim7 := { stood := { row := scanGoesRow, standIns := [], harness := (true, "58960f3b2a065a2593dbd37d291b99d93770b1533f0a18ea003ed7e15eda16a3"), looks := false }, kinds := [], alts := [], laidByText := true, laidKinds := [.data, .pinned], laidTests := true, laidLooks := .later }
def ScanGoesCardSaid : Prop := Claim7.holds Tryd.pinned (.plain (OpenSpec.ofChange scanGoesSpec)) scanGoesCard

/-- THE TIED CARD OF 'gessolaw02.ScanCuts'. -/
def scanCutsCard : Claim7 := { stood := { row := scanCutsRow, standIns := [], harness := (true, "58960f3b2a065a2593dbd37d291b99d93770b1533f0a18ea003ed7e15eda16a3"), looks := false }, kinds := [], alts := [], laidByText := true, laidKinds := [.data, .pinned], laidTests := true, laidLooks := .later }
def ScanCutsCardSaid : Prop := Claim7.holds Tryd.pinned (.plain (OpenSpec.ofChange scanCutsSpec)) scanCutsCard

/-- THE SECOND FORM's CARD OF 'gessolaw01.CodeBack'. -/
def codeBackUptoCard : Claim7 := { stood := { row := codeBackUptoRow, standIns := [], harness := (true, "58960f3b2a065a2593dbd37d291b99d93770b1533f0a18ea003ed7e15eda16a3"), looks := false }, kinds := [], alts := [], laidByText := true, laidKinds := [.data, .pinned], laidTests := true, laidLooks := .later }
def CodeBackUptoCardSaid : Prop := Claim7.holds Tryd.pinned (.plain (OpenSpec.upto codeBackSpec)) codeBackUptoCard

/-- THE SECOND FORM's CARD OF 'gessolaw01.CodeCuts'. -/
def codeCutsUptoCard : Claim7 := { stood := { row := codeCutsUptoRow, standIns := [], harness := (true, "58960f3b2a065a2593dbd37d291b99d93770b1533f0a18ea003ed7e15eda16a3"), looks := false }, kinds := [], alts := [], laidByText := true, laidKinds := [.data, .pinned], laidTests := true, laidLooks := .later }
def CodeCutsUptoCardSaid : Prop := Claim7.holds Tryd.pinned (.plain (OpenSpec.upto codeCutsSpec)) codeCutsUptoCard

/-- THE SECOND FORM's CARD OF 'gessolaw02.ScanOpens'. -/
def scanOpensUptoCard : Claim7 := { stood := { row := scanOpensUptoRow, standIns := [], harness := (true, "58960f3b2a065a2593dbd37d291b99d93770b1533f0a18ea003ed7e15eda16a3"), looks := false }, kinds := [], alts := [], laidByText := true, laidKinds := [.data, .pinned], laidTests := true, laidLooks := .later }
def ScanOpensUptoCardSaid : Prop := Claim7.holds Tryd.pinned (.plain (OpenSpec.upto scanOpensSpec)) scanOpensUptoCard

/-- THE SECOND FORM's CARD OF 'gessolaw02.ScanFeeds'. -/
def scanFeedsUptoCard : Claim7 := { stood := { row := scanFeedsUptoRow, standIns := [], harness := (true, "58960f3b2a065a2593dbd37d291b99d93770b1533f0a18ea003ed7e15eda16a3"), looks := false }, kinds := [], alts := [], laidByText := true, laidKinds := [.data, .pinned], laidTests := true, laidLooks := .later }
def ScanFeedsUptoCardSaid : Prop := Claim7.holds Tryd.pinned (.plain (OpenSpec.upto scanFeedsSpec)) scanFeedsUptoCard

/-- THE SECOND FORM's CARD OF 'gessolaw02.ScanStays'. -/
def scanStaysUptoCard : Claim7 := { stood := { row := scanStaysUptoRow, standIns := [], harness := (true, "58960f3b2a065a2593dbd37d291b99d93770b1533f0a18ea003ed7e15eda16a3"), looks := false }, kinds := [], alts := [], laidByText := true, laidKinds := [.data, .pinned], laidTests := true, laidLooks := .later }
def ScanStaysUptoCardSaid : Prop := Claim7.holds Tryd.pinned (.plain (OpenSpec.upto scanStaysSpec)) scanStaysUptoCard

/-- THE SECOND FORM's CARD OF 'gessolaw02.ScanBytes'. -/
def scanBytesUptoCard : Claim7 := { stood := { row := scanBytesUptoRow, standIns := [], harness := (true, "58960f3b2a065a2593dbd37d291b99d93770b1533f0a18ea003ed7e15eda16a3"), looks := false }, kinds := [], alts := [], laidByText := true, laidKinds := [.data, .pinned], laidTests := true, laidLooks := .later }
def ScanBytesUptoCardSaid : Prop := Claim7.holds Tryd.pinned (.plain (OpenSpec.upto scanBytesSpec)) scanBytesUptoCard

/-- THE SECOND FORM's CARD OF 'gessolaw01.CodeCodes'. -/
def codeCodesUptoCard : Claim7 := { stood := { row := codeCodesUptoRow, standIns := [], harness := (true, "58960f3b2a065a2593dbd37d291b99d93770b1533f0a18ea003ed7e15eda16a3"), looks := false }, kinds := [], alts := [], laidByText := true, laidKinds := [.data, .pinned], laidTests := true, laidLooks := .later }
def CodeCodesUptoCardSaid : Prop := Claim7.holds Tryd.pinned (.plain (OpenSpec.upto codeCodesSpec)) codeCodesUptoCard

/-- THE SECOND FORM's CARD OF 'gessolaw02.ScanGoes'. -/
def scanGoesUptoCard : Claim7 := { stood := { row := scanGoesUptoRow, standIns := [], harness := (true, "58960f3b2a065a2593dbd37d291b99d93770b1533f0a18ea003ed7e15eda16a3"), looks := false }, kinds := [], alts := [], laidByText := true, laidKinds := [.data, .pinned], laidTests := true, laidLooks := .later }
def ScanGoesUptoCardSaid : Prop := Claim7.holds Tryd.pinned (.plain (OpenSpec.upto scanGoesSpec)) scanGoesUptoCard

/-- THE SECOND FORM's CARD OF 'gessolaw02.ScanCuts'. -/
def scanCutsUptoCard : Claim7 := { stood := { row := scanCutsUptoRow, standIns := [], harness := (true, "58960f3b2a065a2593dbd37d291b99d93770b1533f0a18ea003ed7e15eda16a3"), looks := false }, kinds := [], alts := [], laidByText := true, laidKinds := [.data, .pinned], laidTests := true, laidLooks := .later }
def ScanCutsUptoCardSaid : Prop := Claim7.holds Tryd.pinned (.plain (OpenSpec.upto scanCutsSpec)) scanCutsUptoCard
end Rows
end Go.Proofs.YtnaaimnmphcilaaDoor
