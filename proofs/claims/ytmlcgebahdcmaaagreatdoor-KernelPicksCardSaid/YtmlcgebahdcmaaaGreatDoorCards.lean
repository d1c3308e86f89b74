/-
  DERIVED. GIVEN WITH THE SEED: THE CARDS: each row of YtmlcgebahdcmaaaGreatDoorRows.lean that lists a variable, with what it lists TIED to the program's text (the seventh form; the later family's looks); each row that meets fmt, with fmt's text TOLD by the authors' own Lean function (tested against real Go, not proved from fmt's source: count such statements apart). THE CARD IS WHAT COUNTS. Prove the row's statement (the work); the ties are given (YtmlcgebahdcmaaaGreatDoorTie.lean); close each card by the builder's one call (the guide's Derived/Test/ToyasCard.lean, 'card_holds'). Laid BY PROGRAM, IN A SANDBOX (cutbox-door.mjs). By AI agents, Wed Nov 11 2026. No macro, syntax, notation, axiom, sorry.
-/
import Derived.Test.YtmlcgebahdcmaaaGreatDoorRows
import GoSem.ClaimSeven
namespace Go.Proofs.YtmlcgebahdcmaaaGreatDoor
namespace Rows

/-- THE TIED CARD OF 'glacislaw22.KernelPicks'. -/
def kernelPicksCard : Claim7 := { stood := { row := kernelPicksRow, standIns := [], harness := (true, "ef39aa48f42fdecf54e0b1b6a6053dee5c18b1cf84fa2fb961ee97f47aec1938"), looks := true }, kinds := [], alts := [], laidByText := true, laidKinds := [.data, .listed, .data, .data, .pinned], laidTests := true, laidLooks := .later }
def KernelPicksCardSaid : Prop := Claim7.holds Tryz.pinned (.plain (OpenSpec.ofChange kernelPicksSpec)) kernelPicksCard

/-- THE TIED CARD OF 'glacislaw22.KernelCats'. -/
def kernelCatsCard : Claim7 := { stood := { row := kernelCatsRow, standIns := [], harness := (true, "ef39aa48f42fdecf54e0b1b6a6053dee5c18b1cf84fa2fb961ee97f47aec1938"), looks := true }, kinds := [], alts := [], laidByText := true, laidKinds := [.data, .listed, .data, .data, .pinned], laidTests := true, laidLooks := .later }
def KernelCatsCardSaid : Prop := Claim7.holds Tryz.pinned (.plain (OpenSpec.ofChange kernelCatsSpec)) kernelCatsCard

/-- THE TIED CARD OF 'glacislaw22.KernelFaults'. -/
def kernelFaultsCard : Claim7 := { stood := { row := kernelFaultsRow, standIns := [], harness := (true, "ef39aa48f42fdecf54e0b1b6a6053dee5c18b1cf84fa2fb961ee97f47aec1938"), looks := true }, kinds := [], alts := [], laidByText := true, laidKinds := [.data, .listed, .data, .data, .pinned], laidTests := true, laidLooks := .later }
def KernelFaultsCardSaid : Prop := Claim7.holds Tryz.pinned (.plain (OpenSpec.ofChange kernelFaultsSpec)) kernelFaultsCard

/-- THE SECOND FORM's CARD OF 'glacislaw22.KernelPicks'. -/
def kernelPicksUptoCard : Claim7 := { stood := { row := kernelPicksUptoRow, standIns := [], harness := (true, "ef39aa48f42fdecf54e0b1b6a6053dee5c18b1cf84fa2fb961ee97f47aec1938"), looks := true }, kinds := [], alts := [], laidByText := true, laidKinds := [.data, .listed, .data, .data, .pinned], laidTests := true, laidLooks := .later }
def KernelPicksUptoCardSaid : Prop := Claim7.holds Tryz.pinned (.plain (OpenSpec.upto kernelPicksSpec)) kernelPicksUptoCard

/-- THE SECOND FORM's CARD OF 'glacislaw22.KernelCats'. -/
def kernelCatsUptoCard : Claim7 := { stood := { row := kernelCatsUptoRow, standIns := [], harness := (true, "ef39aa48f42fdecf54e0b1b6a6053dee5c18b1cf84fa2fb961ee97f47aec1938"), looks := true }, kinds := [], alts := [], laidByText := true, laidKinds := [.data, .listed, .data, .data, .pinned], laidTests := true, laidLooks := .later }
def KernelCatsUptoCardSaid : Prop := Claim7.holds Tryz.pinned (.plain (OpenSpec.upto kernelCatsSpec)) kernelCatsUptoCard

/-- THE SECOND FORM's CARD OF 'glacislaw22.KernelFaults'. -/
def kernelFaultsUptoCard : Claim7 := { stood := { row := kernelFaultsUptoRow, standIns := [], harness := (true, "ef39aa48f42fdecf54e0b1b6a6053dee5c18b1cf84fa2fb961ee97f47aec1938"), looks := true }, kinds := [], alts := [], laidByText := true, laidKinds := [.data, .listed, .data, .data, .pinned], laidTests := true, laidLooks := .later }
def KernelFaultsUptoCardSaid : Prop := Claim7.holds Tryz.pinned (.plain (OpenSpec.upto kernelFaultsSpec)) kernelFaultsUptoCard
end Rows
end Go.Proofs.YtmlcgebahdcmaaaGreatDoor
