import Derived.Test.YtiadbhiadhgjkaaGreatDoorRows
import Derived.JoinedOf
import Derived.ProofKit
set_option maxRecDepth 100000
namespace Go.Proofs.YtiadbhiadhgjkaaGreatDoor.kernelCats
open Go.ChangeShapes Go.WideShapes Go.ChangeAt Go.RowKit
theorem NY:(Rows.kernelCatsRow.inPlace==Tryz.prog.inPlace 3)=true:=by kernel_rfl
theorem AU:(Rows.kernelCatsRow.unfollowed==Tryz.prog.unfollowed 3)=true:=by kernel_rfl
theorem Dm:(Rows.kernelCatsRow.recurses==Tryz.prog.recurses 3)=true:=by kernel_rfl
theorem EW:(Rows.kernelCatsRow.named==Tryz.prog.varsNamed 3)=true:=by kernel_rfl
theorem facts:joinedFacts Tryz.prog 3 Tryz.f3 Rows.kernelCatsSpec Rows.kernelCatsRow=true:=by
 unfold joinedFacts;rw[NY,AU,Dm,EW];kernel_rfl
end Go.Proofs.YtiadbhiadhgjkaaGreatDoor.kernelCats
