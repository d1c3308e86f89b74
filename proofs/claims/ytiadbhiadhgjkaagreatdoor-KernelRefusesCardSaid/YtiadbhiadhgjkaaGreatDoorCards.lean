/-
  DERIVED. GIVEN WITH THE SEED: THE CARDS: each row of YtiadbhiadhgjkaaGreatDoorRows.lean that lists a variable, with what it lists TIED to the program's text (the seventh form; the later family's looks); each row that meets fmt, with fmt's text TOLD by the authors' own Lean function (tested against real Go, not proved from fmt's source: count such statements apart). THE CARD IS WHAT COUNTS. Prove the row's statement (the work); the ties are given (YtiadbhiadhgjkaaGreatDoorTie.lean); close each card by the builder's one call (the guide's Derived/Test/ToyasCard.lean, 'card_holds'). Laid BY PROGRAM, IN A SANDBOX (cutbox-door.mjs). By AI agents, Wed Nov 11 2026. No macro, syntax, notation, axiom, sorry.
-/
import Derived.Test.YtiadbhiadhgjkaaGreatDoorRows
import GoSem.ClaimSeven
namespace Go.Proofs.YtiadbhiadhgjkaaGreatDoor
namespace Rows

/-- THE TIED CARD OF 'glacislaw22.KernelCats'. -/
def kernelCatsCard : Claim7 := { stood := { row := kernelCatsRow, standIns := [], harness := (true, "7aa088c7d5087ad72881f54769c242d640ba659570a4e0ccd9eb3c9ae5b0fcaf"), looks := true }, kinds := [], alts := [], laidByText := true, laidKinds := [.data, .listed, .data, .data, .pinned], laidTests := true, laidLooks := .later }
def KernelCatsCardSaid : Prop := Claim7.holds Tryz.pinned (.plain (OpenSpec.ofChange kernelCatsSpec)) kernelCatsCard

/-- THE TIED CARD OF 'glacislaw22.KernelRefuses'. -/
def kernelRefusesCard : Claim7 := { stood := { row := kernelRefusesRow, standIns := [], harness := (true, "7aa088c7d5087ad72881f54769c242d640ba659570a4e0ccd9eb3c9ae5b0fcaf"), looks := true }, kinds := [], alts := [], laidByText := true, laidKinds := [.data, .listed, .data, .data, .pinned], laidTests := true, laidLooks := .later }
def KernelRefusesCardSaid : Prop := Claim7.holds Tryz.pinned (.plain (OpenSpec.ofChange kernelRefusesSpec)) kernelRefusesCard

/-- THE TIED CARD OF 'glacislaw22.KernelFaults'. -/
def kernelFaultsCard : Claim7 := { stood := { row := kernelFaultsRow, standIns := [], harness := (true, "7aa088c7d5087ad72881f54769c242d640ba659570a4e0ccd9eb3c9ae5b0fcaf"), looks := true }, kinds := [], alts := [], laidByText := true, laidKinds := [.data, .listed, .data, .data, .pinned], laidTests := true, laidLooks := .later }
def KernelFaultsCardSaid : Prop := Claim7.holds Tryz.pinned (.plain (OpenSpec.ofChange kernelFaultsSpec)) kernelFaultsCard

/-- THE SECOND FORM's CARD OF 'glacislaw22.KernelCats'. -/
def kernelCatsUptoCard : Claim7 := { stood := { row := kernelCatsUptoRow, standIns := [], harness := (true, "7aa088c7d5087ad72881f54769c242d640ba659570a4e0ccd9eb3c9ae5b0fcaf"), looks := true }, kinds := [], alts := [], laidByText := true, laidKinds := [.data, .listed, .data, .data, .pinned], laidTests := true, laidLooks := .later }
def KernelCatsUptoCardSaid : Prop := Claim7.holds Tryz.pinned (.plain (OpenSpec.upto kernelCatsSpec)) kernelCatsUptoCard

/-- THE SECOND FORM's CARD OF 'glacislaw22.KernelRefuses'. -/
def kernelRefusesUptoCard : Claim7 := { stood := { row := kernelRefusesUptoRow, standIns := [], harness := (true, "7aa088c7d5087ad72881f54769c242d640ba659570a4e0ccd9eb3c9ae5b0fcaf"), looks := true }, kinds := [], alts := [], laidByText := true, laidKinds := [.data, .listed, .data, .data, .pinned], laidTests := true, laidLooks := .later }
def KernelRefusesUptoCardSaid : Prop := Claim7.holds Tryz.pinned (.plain (OpenSpec.upto kernelRefusesSpec)) kernelRefusesUptoCard

/-- THE SECOND FORM's CARD OF 'glacislaw22.KernelFaults'. -/
def kernelFaultsUptoCard : Claim7 := { stood := { row := kernelFaultsUptoRow, standIns := [], harness := (true, "7aa088c7d5087ad72881f54769c242d640ba659570a4e0ccd9eb3c9ae5b0fcaf"), looks := true }, kinds := [], alts := [], laidByText := true, laidKinds := [.data, .listed, .data, .data, .pinned], laidTests := true, laidLooks := .later }
def KernelFaultsUptoCardSaid : Prop := Claim7.holds Tryz.pinned (.plain (OpenSpec.upto kernelFaultsSpec)) kernelFaultsUptoCard
end Rows
end Go.Proofs.YtiadbhiadhgjkaaGreatDoor
