/- AsmFaults as its frame calls it. -/
import Derived.Test.YtjjnidbggoaonaaGreatDoorAzL
import Derived.Test.YtjjnidbggoaonaaGreatDoorAsFw
import Derived.Test.YtjjnidbggoaonaaGreatDoorArgs
namespace Go.Proofs.YtjjnidbggoaonaaGreatDoor
open Go.RowKit Go.ChangeShapes

theorem faults_law (which above : Int) (W : World) (h0 : (Lit.int .i64 which).wf = true) (_ : (Lit.int .i64 above).wf = true) (h : HasAz W) :
    Calls Tryz.prog 6 #[.int .i64 which, .int .i64 above] W fun e w' => e = .returned (.bool true) ∧ Below W.heap.size W w' :=
  faults_walk which above (wf_i64 h0).1 (wf_i64 h0).2 W h
end Go.Proofs.YtjjnidbggoaonaaGreatDoor
