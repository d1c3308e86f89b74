/- From what a row lists of package-level variables to what a walk wants of them. -/
import Derived.Test.YtidaopggidccmaaDoorIsaN
import Derived.Lib.LaidTab
import Derived.Lib.LaidU8
import Derived.LaidMore
import Derived.ProofKit
import Derived.Stop.LaidErr
namespace Go.Proofs.YtidaopggidccmaaDoor
open Go.RowKit
set_option maxRecDepth 100000

theorem pow_of {W : World} {l : List (String × DataW Unit)} (h : laidMet Tryd.prog (("internal/strconv.uint64pow10", Rows.laid_internal_strconv_uint64pow10) :: l) W) : HasPow W :=
  Lib.tabIs_of_head (P := Tryd.prog) (g := 4) (t := 128) (e := 35) (n := 20) (rest := l) (by kernel_rfl) (by kernel_rfl) Tryd.underlying128 Tryd.underlying35 (by kernel_rfl) (by kernel_rfl) h
theorem sp_of {W : World} {l : List (String × DataW Unit)} (h : laidMet Tryd.prog (("strings.asciiSpace", Rows.laid_strings_asciiSpace) :: l) W) : HasSp W :=
  Lib.tabIs_of_head (P := Tryd.prog) (g := 0) (t := 70) (e := 5) (n := 256) (rest := l) (by kernel_rfl) (by kernel_rfl) Tryd.underlying70 Tryd.underlying5 (by kernel_rfl) (by kernel_rfl) h
end Go.Proofs.YtidaopggidccmaaDoor
