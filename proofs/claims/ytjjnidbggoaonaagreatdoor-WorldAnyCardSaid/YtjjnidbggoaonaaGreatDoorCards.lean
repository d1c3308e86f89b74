/-
  DERIVED. GIVEN WITH THE SEED: THE CARDS: each row of YtjjnidbggoaonaaGreatDoorRows.lean that lists a variable, with what it lists TIED to the program's text (the seventh form; the later family's looks); each row that meets fmt, with fmt's text TOLD by the authors' own Lean function (tested against real Go, not proved from fmt's source: count such statements apart). THE CARD IS WHAT COUNTS. Prove the row's statement (the work); the ties are given (YtjjnidbggoaonaaGreatDoorTie.lean); close each card by the builder's one call (the guide's Derived/Test/ToyasCard.lean, 'card_holds'). Laid BY PROGRAM, IN A SANDBOX (cutbox-door.mjs). By AI agents, Wed Nov 11 2026. No macro, syntax, notation, axiom, sorry.
-/
import Derived.Test.YtjjnidbggoaonaaGreatDoorRows
import GoSem.ClaimSeven
namespace Go.Proofs.YtjjnidbggoaonaaGreatDoor
namespace Rows

/-- THE TIED CARD OF 'glacislaw24.AsmLines'. -/
def asmLinesCard : Claim7 := { stood := { row := asmLinesRow, standIns := [], harness := (true, "8f0a2b624d3c1c8d812bdbb5b09e34addfebd73d33682f8bbb7f7af57593b789"), looks := true }, kinds := [], alts := [], laidByText := true, laidKinds := [.data, .data, .data, .data, .sentinel, .sentinel, .listed, .data, .pinned], laidTests := true, laidLooks := .later }
def AsmLinesCardSaid : Prop := Claim7.holds Tryz.pinned (.plain (OpenSpec.ofChange asmLinesSpec)) asmLinesCard

/-- THE TIED CARD OF 'glacislaw24.AsmLabels'. -/
def asmLabelsCard : Claim7 := { stood := { row := asmLabelsRow, standIns := [], harness := (true, "8f0a2b624d3c1c8d812bdbb5b09e34addfebd73d33682f8bbb7f7af57593b789"), looks := true }, kinds := [], alts := [], laidByText := true, laidKinds := [.data, .data, .data, .data, .sentinel, .sentinel, .listed, .data, .pinned], laidTests := true, laidLooks := .later }
def AsmLabelsCardSaid : Prop := Claim7.holds Tryz.pinned (.plain (OpenSpec.ofChange asmLabelsSpec)) asmLabelsCard

/-- THE TIED CARD OF 'glacislaw24.AsmBlanks'. -/
def asmBlanksCard : Claim7 := { stood := { row := asmBlanksRow, standIns := [], harness := (true, "8f0a2b624d3c1c8d812bdbb5b09e34addfebd73d33682f8bbb7f7af57593b789"), looks := true }, kinds := [], alts := [], laidByText := true, laidKinds := [.data, .data, .data, .data, .sentinel, .sentinel, .listed, .data, .pinned], laidTests := true, laidLooks := .later }
def AsmBlanksCardSaid : Prop := Claim7.holds Tryz.pinned (.plain (OpenSpec.ofChange asmBlanksSpec)) asmBlanksCard

/-- THE TIED CARD OF 'glacislaw24.AsmFaults'. -/
def asmFaultsCard : Claim7 := { stood := { row := asmFaultsRow, standIns := [], harness := (true, "8f0a2b624d3c1c8d812bdbb5b09e34addfebd73d33682f8bbb7f7af57593b789"), looks := true }, kinds := [], alts := [], laidByText := true, laidKinds := [.data, .data, .data, .data, .sentinel, .sentinel, .listed, .data, .pinned], laidTests := true, laidLooks := .later }
def AsmFaultsCardSaid : Prop := Claim7.holds Tryz.pinned (.plain (OpenSpec.ofChange asmFaultsSpec)) asmFaultsCard

/-- THE TIED CARD OF 'glacislaw24.AsmNumbers'. -/
def asmNumbersCard : Claim7 := { stood := { row := asmNumbersRow, standIns := [], harness := (true, "8f0a2b624d3c1c8d812bdbb5b09e34addfebd73d33682f8bbb7f7af57593b789"), looks := true }, kinds := [], alts := [], laidByText := true, laidKinds := [.data, .data, .data, .data, .sentinel, .sentinel, .listed, .data, .pinned], laidTests := true, laidLooks := .later }
def AsmNumbersCardSaid : Prop := Claim7.holds Tryz.pinned (.plain (OpenSpec.ofChange asmNumbersSpec)) asmNumbersCard

/-- THE TIED CARD OF 'glacislaw24.AsmAny'. -/
def asmAnyCard : Claim7 := { stood := { row := asmAnyRow, standIns := [], harness := (true, "8f0a2b624d3c1c8d812bdbb5b09e34addfebd73d33682f8bbb7f7af57593b789"), looks := true }, kinds := [], alts := [], laidByText := true, laidKinds := [.data, .data, .data, .data, .sentinel, .sentinel, .listed, .data, .pinned], laidTests := true, laidLooks := .later }
def AsmAnyCardSaid : Prop := Claim7.holds Tryz.pinned (.plain (OpenSpec.ofChange asmAnySpec)) asmAnyCard

/-- THE TIED CARD OF 'glacislaw24.AsmBack'. -/
def asmBackCard : Claim7 := { stood := { row := asmBackRow, standIns := [], harness := (true, "8f0a2b624d3c1c8d812bdbb5b09e34addfebd73d33682f8bbb7f7af57593b789"), looks := true }, kinds := [], alts := [], laidByText := true, laidKinds := [.data, .data, .data, .data, .sentinel, .sentinel, .listed, .data, .pinned], laidTests := true, laidLooks := .later }
def AsmBackCardSaid : Prop := Claim7.holds Tryz.pinned (.plain (OpenSpec.ofChange asmBackSpec)) asmBackCard

/-- THE TIED CARD OF 'glacislaw25.WorldBack'. -/
def worldBackCard : Claim7 := { stood := { row := worldBackRow, standIns := [], harness := (true, "8f0a2b624d3c1c8d812bdbb5b09e34addfebd73d33682f8bbb7f7af57593b789"), looks := true }, kinds := [], alts := [], laidByText := true, laidKinds := [.data, .data, .data, .data, .sentinel, .sentinel, .listed, .data, .pinned, .pinned], laidTests := true, laidLooks := .later }
def WorldBackCardSaid : Prop := Claim7.holds Tryz.pinned (.plain (OpenSpec.ofChange worldBackSpec)) worldBackCard

/-- THE TIED CARD OF 'glacislaw25.WorldBlanks'. -/
def worldBlanksCard : Claim7 := { stood := { row := worldBlanksRow, standIns := [], harness := (true, "8f0a2b624d3c1c8d812bdbb5b09e34addfebd73d33682f8bbb7f7af57593b789"), looks := true }, kinds := [], alts := [], laidByText := true, laidKinds := [.data, .data, .data, .data, .sentinel, .sentinel, .listed, .data, .pinned, .pinned], laidTests := true, laidLooks := .later }
def WorldBlanksCardSaid : Prop := Claim7.holds Tryz.pinned (.plain (OpenSpec.ofChange worldBlanksSpec)) worldBlanksCard

/-- THE TIED CARD OF 'glacislaw25.WorldAny'. -/
def worldAnyCard : Claim7 := { stood := { row := worldAnyRow, standIns := [], harness := (true, "8f0a2b624d3c1c8d812bdbb5b09e34addfebd73d33682f8bbb7f7af57593b789"), looks := true }, kinds := [], alts := [], laidByText := true, laidKinds := [.data, .data, .data, .data, .sentinel, .sentinel, .listed, .data, .pinned, .pinned], laidTests := true, laidLooks := .later }
def WorldAnyCardSaid : Prop := Claim7.holds Tryz.pinned (.plain (OpenSpec.ofChange worldAnySpec)) worldAnyCard

/-- THE SECOND FORM's CARD OF 'glacislaw24.AsmLines'. -/
def asmLinesUptoCard : Claim7 := { stood := { row := asmLinesUptoRow, standIns := [], harness := (true, "8f0a2b624d3c1c8d812bdbb5b09e34addfebd73d33682f8bbb7f7af57593b789"), looks := true }, kinds := [], alts := [], laidByText := true, laidKinds := [.data, .data, .data, .data, .sentinel, .sentinel, .listed, .data, .pinned], laidTests := true, laidLooks := .later }
def AsmLinesUptoCardSaid : Prop := Claim7.holds Tryz.pinned (.plain (OpenSpec.upto asmLinesSpec)) asmLinesUptoCard

/-- THE SECOND FORM's CARD OF 'glacislaw24.AsmLabels'. -/
def asmLabelsUptoCard : Claim7 := { stood := { row := asmLabelsUptoRow, standIns := [], harness := (true, "8f0a2b624d3c1c8d812bdbb5b09e34addfebd73d33682f8bbb7f7af57593b789"), looks := true }, kinds := [], alts := [], laidByText := true, laidKinds := [.data, .data, .data, .data, .sentinel, .sentinel, .listed, .data, .pinned], laidTests := true, laidLooks := .later }
def AsmLabelsUptoCardSaid : Prop := Claim7.holds Tryz.pinned (.plain (OpenSpec.upto asmLabelsSpec)) asmLabelsUptoCard

/-- THE SECOND FORM's CARD OF 'glacislaw24.AsmBlanks'. -/
def asmBlanksUptoCard : Claim7 := { stood := { row := asmBlanksUptoRow, standIns := [], harness := (true, "8f0a2b624d3c1c8d812bdbb5b09e34addfebd73d33682f8bbb7f7af57593b789"), looks := true }, kinds := [], alts := [], laidByText := true, laidKinds := [.data, .data, .data, .data, .sentinel, .sentinel, .listed, .data, .pinned], laidTests := true, laidLooks := .later }
def AsmBlanksUptoCardSaid : Prop := Claim7.holds Tryz.pinned (.plain (OpenSpec.upto asmBlanksSpec)) asmBlanksUptoCard

/-- THE SECOND FORM's CARD OF 'glacislaw24.AsmFaults'. -/
def asmFaultsUptoCard : Claim7 := { stood := { row := asmFaultsUptoRow, standIns := [], harness := (true, "8f0a2b624d3c1c8d812bdbb5b09e34addfebd73d33682f8bbb7f7af57593b789"), looks := true }, kinds := [], alts := [], laidByText := true, laidKinds := [.data, .data, .data, .data, .sentinel, .sentinel, .listed, .data, .pinned], laidTests := true, laidLooks := .later }
def AsmFaultsUptoCardSaid : Prop := Claim7.holds Tryz.pinned (.plain (OpenSpec.upto asmFaultsSpec)) asmFaultsUptoCard

/-- THE SECOND FORM's CARD OF 'glacislaw24.AsmNumbers'. -/
def asmNumbersUptoCard : Claim7 := { stood := { row := asmNumbersUptoRow, standIns := [], harness := (true, "8f0a2b624d3c1c8d812bdbb5b09e34addfebd73d33682f8bbb7f7af57593b789"), looks := true }, kinds := [], alts := [], laidByText := true, laidKinds := [.data, .data, .data, .data, .sentinel, .sentinel, .listed, .data, .pinned], laidTests := true, laidLooks := .later }
def AsmNumbersUptoCardSaid : Prop := Claim7.holds Tryz.pinned (.plain (OpenSpec.upto asmNumbersSpec)) asmNumbersUptoCard

/-- THE SECOND FORM's CARD OF 'glacislaw24.AsmAny'. -/
def asmAnyUptoCard : Claim7 := { stood := { row := asmAnyUptoRow, standIns := [], harness := (true, "8f0a2b624d3c1c8d812bdbb5b09e34addfebd73d33682f8bbb7f7af57593b789"), looks := true }, kinds := [], alts := [], laidByText := true, laidKinds := [.data, .data, .data, .data, .sentinel, .sentinel, .listed, .data, .pinned], laidTests := true, laidLooks := .later }
def AsmAnyUptoCardSaid : Prop := Claim7.holds Tryz.pinned (.plain (OpenSpec.upto asmAnySpec)) asmAnyUptoCard

/-- THE SECOND FORM's CARD OF 'glacislaw24.AsmBack'. -/
def asmBackUptoCard : Claim7 := { stood := { row := asmBackUptoRow, standIns := [], harness := (true, "8f0a2b624d3c1c8d812bdbb5b09e34addfebd73d33682f8bbb7f7af57593b789"), looks := true }, kinds := [], alts := [], laidByText := true, laidKinds := [.data, .data, .data, .data, .sentinel, .sentinel, .listed, .data, .pinned], laidTests := true, laidLooks := .later }
def AsmBackUptoCardSaid : Prop := Claim7.holds Tryz.pinned (.plain (OpenSpec.upto asmBackSpec)) asmBackUptoCard

/-- THE SECOND FORM's CARD OF 'glacislaw25.WorldBack'. -/
def worldBackUptoCard : Claim7 := { stood := { row := worldBackUptoRow, standIns := [], harness := (true, "8f0a2b624d3c1c8d812bdbb5b09e34addfebd73d33682f8bbb7f7af57593b789"), looks := true }, kinds := [], alts := [], laidByText := true, laidKinds := [.data, .data, .data, .data, .sentinel, .sentinel, .listed, .data, .pinned, .pinned], laidTests := true, laidLooks := .later }
def WorldBackUptoCardSaid : Prop := Claim7.holds Tryz.pinned (.plain (OpenSpec.upto worldBackSpec)) worldBackUptoCard

/-- THE SECOND FORM's CARD OF 'glacislaw25.WorldBlanks'. -/
def worldBlanksUptoCard : Claim7 := { stood := { row := worldBlanksUptoRow, standIns := [], harness := (true, "8f0a2b624d3c1c8d812bdbb5b09e34addfebd73d33682f8bbb7f7af57593b789"), looks := true }, kinds := [], alts := [], laidByText := true, laidKinds := [.data, .data, .data, .data, .sentinel, .sentinel, .listed, .data, .pinned, .pinned], laidTests := true, laidLooks := .later }
def WorldBlanksUptoCardSaid : Prop := Claim7.holds Tryz.pinned (.plain (OpenSpec.upto worldBlanksSpec)) worldBlanksUptoCard

/-- THE SECOND FORM's CARD OF 'glacislaw25.WorldAny'. -/
def worldAnyUptoCard : Claim7 := { stood := { row := worldAnyUptoRow, standIns := [], harness := (true, "8f0a2b624d3c1c8d812bdbb5b09e34addfebd73d33682f8bbb7f7af57593b789"), looks := true }, kinds := [], alts := [], laidByText := true, laidKinds := [.data, .data, .data, .data, .sentinel, .sentinel, .listed, .data, .pinned, .pinned], laidTests := true, laidLooks := .later }
def WorldAnyUptoCardSaid : Prop := Claim7.holds Tryz.pinned (.plain (OpenSpec.upto worldAnySpec)) worldAnyUptoCard
end Rows
end Go.Proofs.YtjjnidbggoaonaaGreatDoor
