/- Of the proof of this claim: a joined text. -/
import Derived.Test.YtiadbhiadhgjkaaGreatDoorRows
import Derived.JoinedOf
import Derived.ProofKit
set_option maxRecDepth 100000
namespace Go.Proofs.YtiadbhiadhgjkaaGreatDoor.kernelFaults
open Go.ChangeShapes Go.WideShapes Go.ChangeAt Go.RowKit
theorem in_place : (Rows.kernelFaultsRow.inPlace == Tryz.prog.inPlace 5) = true := by kernel_rfl
theorem not_followed : (Rows.kernelFaultsRow.unfollowed == Tryz.prog.unfollowed 5) = true := by kernel_rfl
theorem may_recurse : (Rows.kernelFaultsRow.recurses == Tryz.prog.recurses 5) = true := by kernel_rfl
theorem vars_named : (Rows.kernelFaultsRow.named == Tryz.prog.varsNamed 5) = true := by kernel_rfl
theorem facts : joinedFacts Tryz.prog 5 Tryz.f5 Rows.kernelFaultsSpec Rows.kernelFaultsRow = true := by
 unfold joinedFacts;rw [in_place, not_followed, may_recurse, vars_named];kernel_rfl
end Go.Proofs.YtiadbhiadhgjkaaGreatDoor.kernelFaults
