/-
  DERIVED. GIVEN WITH THE SEED: THE CARDS: each row of YtidaopggidccmaaDoorRows.lean that lists a variable, with what it lists TIED to the program's text (the seventh form; the later family's looks); each row that meets fmt, with fmt's text TOLD by the authors' own Lean function (tested against real Go, not proved from fmt's source: count such statements apart). THE CARD IS WHAT COUNTS. Prove the row's statement (the work); the ties are given (YtidaopggidccmaaDoorTie.lean); close each card by the builder's one call (the guide's Derived/Test/ToyasCard.lean, 'card_holds'). Laid BY PROGRAM, IN A SANDBOX (cutbox-door.mjs). By AI agents, Wed Nov 11 2026. No macro, syntax, notation, axiom, sorry.
-/
import Derived.Test.YtidaopggidccmaaDoorRows
import GoSem.ClaimSeven
namespace Go.Proofs.YtidaopggidccmaaDoor
namespace Rows

/-- THE TIED CARD OF 'glacislaw04.IsaNames'. -/
def isaNamesCard : Claim7 := { stood := { row := isaNamesRow, standIns := [], harness := (true, "98d899b9727463a4c99ebed9cb3f5892c89314228f1cc3854725bcadec61c8f0"), looks := true }, kinds := [], alts := [], laidByText := true, laidKinds := [.data, .data, .data, .listed, .data], laidTests := true, laidLooks := .later }
def IsaNamesCardSaid : Prop := Claim7.holds Tryd.pinned (.plain (OpenSpec.ofChange isaNamesSpec)) isaNamesCard

/-- THE TIED CARD OF 'glacislaw04.IsaApart'. -/
def isaApartCard : Claim7 := { stood := { row := isaApartRow, standIns := [], harness := (true, "98d899b9727463a4c99ebed9cb3f5892c89314228f1cc3854725bcadec61c8f0"), looks := true }, kinds := [], alts := [], laidByText := true, laidKinds := [.data, .data, .data, .listed, .data], laidTests := true, laidLooks := .later }
def IsaApartCardSaid : Prop := Claim7.holds Tryd.pinned (.plain (OpenSpec.ofChange isaApartSpec)) isaApartCard

/-- THE TIED CARD OF 'glacislaw04.IsaBytes'. -/
def isaBytesCard : Claim7 := { stood := { row := isaBytesRow, standIns := [], harness := (true, "98d899b9727463a4c99ebed9cb3f5892c89314228f1cc3854725bcadec61c8f0"), looks := true }, kinds := [], alts := [], laidByText := true, laidKinds := [.data, .data, .data, .listed, .data], laidTests := true, laidLooks := .later }
def IsaBytesCardSaid : Prop := Claim7.holds Tryd.pinned (.plain (OpenSpec.ofChange isaBytesSpec)) isaBytesCard

/-- THE TIED CARD OF 'glacislaw21.CallsOf'. -/
def callsOfCard : Claim7 := { stood := { row := callsOfRow, standIns := [], harness := (true, "98d899b9727463a4c99ebed9cb3f5892c89314228f1cc3854725bcadec61c8f0"), looks := true }, kinds := [], alts := [], laidByText := true, laidKinds := [.data, .listed, .data, .pinned], laidTests := true, laidLooks := .later }
def CallsOfCardSaid : Prop := Claim7.holds Tryd.pinned (.plain (OpenSpec.ofChange callsOfSpec)) callsOfCard

/-- THE TIED CARD OF 'glacislaw21.CallsKinds'. -/
def callsKindsCard : Claim7 := { stood := { row := callsKindsRow, standIns := [], harness := (true, "98d899b9727463a4c99ebed9cb3f5892c89314228f1cc3854725bcadec61c8f0"), looks := true }, kinds := [], alts := [], laidByText := true, laidKinds := [.data, .listed, .data, .pinned], laidTests := true, laidLooks := .later }
def CallsKindsCardSaid : Prop := Claim7.holds Tryd.pinned (.plain (OpenSpec.ofChange callsKindsSpec)) callsKindsCard

/-- THE TIED CARD OF 'glacislaw21.CallsNames'. -/
def callsNamesCard : Claim7 := { stood := { row := callsNamesRow, standIns := [], harness := (true, "98d899b9727463a4c99ebed9cb3f5892c89314228f1cc3854725bcadec61c8f0"), looks := true }, kinds := [], alts := [], laidByText := true, laidKinds := [.data, .listed, .data, .pinned], laidTests := true, laidLooks := .later }
def CallsNamesCardSaid : Prop := Claim7.holds Tryd.pinned (.plain (OpenSpec.ofChange callsNamesSpec)) callsNamesCard

/-- THE TIED CARD OF 'glacislaw04.IsaTexts'. -/
def isaTextsCard : Claim7 := { stood := { row := isaTextsRow, standIns := [], harness := (true, "98d899b9727463a4c99ebed9cb3f5892c89314228f1cc3854725bcadec61c8f0"), looks := true }, kinds := [], alts := [], laidByText := true, laidKinds := [.data, .data, .data, .sentinel, .sentinel, .listed, .data], laidTests := true, laidLooks := .later }
def IsaTextsCardSaid : Prop := Claim7.holds Tryd.pinned (.plain (OpenSpec.ofChange isaTextsSpec)) isaTextsCard

/-- THE TIED CARD OF 'glacislaw04.IsaBack'. -/
def isaBackCard : Claim7 := { stood := { row := isaBackRow, standIns := [], harness := (true, "98d899b9727463a4c99ebed9cb3f5892c89314228f1cc3854725bcadec61c8f0"), looks := true }, kinds := [], alts := [], laidByText := true, laidKinds := [.data, .data, .data, .sentinel, .sentinel, .listed, .data], laidTests := true, laidLooks := .later }
def IsaBackCardSaid : Prop := Claim7.holds Tryd.pinned (.plain (OpenSpec.ofChange isaBackSpec)) isaBackCard

/-- THE SECOND FORM's CARD OF 'glacislaw04.IsaNames'. -/
def isaNamesUptoCard : Claim7 := { stood := { row := isaNamesUptoRow, standIns := [], harness := (true, "98d899b9727463a4c99ebed9cb3f5892c89314228f1cc3854725bcadec61c8f0"), looks := true }, kinds := [], alts := [], laidByText := true, laidKinds := [.data, .data, .data, .listed, .data], laidTests := true, laidLooks := .later }
def IsaNamesUptoCardSaid : Prop := Claim7.holds Tryd.pinned (.plain (OpenSpec.upto isaNamesSpec)) isaNamesUptoCard

/-- THE SECOND FORM's CARD OF 'glacislaw04.IsaApart'. -/
def isaApartUptoCard : Claim7 := { stood := { row := isaApartUptoRow, standIns := [], harness := (true, "98d899b9727463a4c99ebed9cb3f5892c89314228f1cc3854725bcadec61c8f0"), looks := true }, kinds := [], alts := [], laidByText := true, laidKinds := [.data, .data, .data, .listed, .data], laidTests := true, laidLooks := .later }
def IsaApartUptoCardSaid : Prop := Claim7.holds Tryd.pinned (.plain (OpenSpec.upto isaApartSpec)) isaApartUptoCard

/-- THE SECOND FORM's CARD OF 'glacislaw04.IsaBytes'. -/
def isaBytesUptoCard : Claim7 := { stood := { row := isaBytesUptoRow, standIns := [], harness := (true, "98d899b9727463a4c99ebed9cb3f5892c89314228f1cc3854725bcadec61c8f0"), looks := true }, kinds := [], alts := [], laidByText := true, laidKinds := [.data, .data, .data, .listed, .data], laidTests := true, laidLooks := .later }
def IsaBytesUptoCardSaid : Prop := Claim7.holds Tryd.pinned (.plain (OpenSpec.upto isaBytesSpec)) isaBytesUptoCard

/-- THE SECOND FORM's CARD OF 'glacislaw21.CallsOf'. -/
def callsOfUptoCard : Claim7 := { stood := { row := callsOfUptoRow, standIns := [], harness := (true, "98d899b9727463a4c99ebed9cb3f5892c89314228f1cc3854725bcadec61c8f0"), looks := true }, kinds := [], alts := [], laidByText := true, laidKinds := [.data, .listed, .data, .pinned], laidTests := true, laidLooks := .later }
def CallsOfUptoCardSaid : Prop := Claim7.holds Tryd.pinned (.plain (OpenSpec.upto callsOfSpec)) callsOfUptoCard

/-- THE SECOND FORM's CARD OF 'glacislaw21.CallsKinds'. -/
def callsKindsUptoCard : Claim7 := { stood := { row := callsKindsUptoRow, standIns := [], harness := (true, "98d899b9727463a4c99ebed9cb3f5892c89314228f1cc3854725bcadec61c8f0"), looks := true }, kinds := [], alts := [], laidByText := true, laidKinds := [.data, .listed, .data, .pinned], laidTests := true, laidLooks := .later }
def CallsKindsUptoCardSaid : Prop := Claim7.holds Tryd.pinned (.plain (OpenSpec.upto callsKindsSpec)) callsKindsUptoCard

/-- THE SECOND FORM's CARD OF 'glacislaw21.CallsNames'. -/
def callsNamesUptoCard : Claim7 := { stood := { row := callsNamesUptoRow, standIns := [], harness := (true, "98d899b9727463a4c99ebed9cb3f5892c89314228f1cc3854725bcadec61c8f0"), looks := true }, kinds := [], alts := [], laidByText := true, laidKinds := [.data, .listed, .data, .pinned], laidTests := true, laidLooks := .later }
def CallsNamesUptoCardSaid : Prop := Claim7.holds Tryd.pinned (.plain (OpenSpec.upto callsNamesSpec)) callsNamesUptoCard

/-- THE SECOND FORM's CARD OF 'glacislaw04.IsaTexts'. -/
def isaTextsUptoCard : Claim7 := { stood := { row := isaTextsUptoRow, standIns := [], harness := (true, "98d899b9727463a4c99ebed9cb3f5892c89314228f1cc3854725bcadec61c8f0"), looks := true }, kinds := [], alts := [], laidByText := true, laidKinds := [.data, .data, .data, .sentinel, .sentinel, .listed, .data], laidTests := true, laidLooks := .later }
def IsaTextsUptoCardSaid : Prop := Claim7.holds Tryd.pinned (.plain (OpenSpec.upto isaTextsSpec)) isaTextsUptoCard

/-- THE SECOND FORM's CARD OF 'glacislaw04.IsaBack'. -/
def isaBackUptoCard : Claim7 := { stood := { row := isaBackUptoRow, standIns := [], harness := (true, "98d899b9727463a4c99ebed9cb3f5892c89314228f1cc3854725bcadec61c8f0"), looks := true }, kinds := [], alts := [], laidByText := true, laidKinds := [.data, .data, .data, .sentinel, .sentinel, .listed, .data], laidTests := true, laidLooks := .later }
def IsaBackUptoCardSaid : Prop := Claim7.holds Tryd.pinned (.plain (OpenSpec.upto isaBackSpec)) isaBackUptoCard
end Rows
end Go.Proofs.YtidaopggidccmaaDoor
