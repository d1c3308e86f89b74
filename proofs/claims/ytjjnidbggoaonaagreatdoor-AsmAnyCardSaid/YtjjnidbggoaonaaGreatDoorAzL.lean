/- From what a row lists of package-level variables to what the assembler's walks want of them. -/
import Derived.Test.YtjjnidbggoaonaaGreatDoorAsFit
import Derived.Test.YtjjnidbggoaonaaGreatDoorRows
import Derived.Lib.LaidTab
import Derived.Lib.LaidU8
import Derived.LaidMore
import Derived.ProofKit
import Derived.Stop.LaidErr
import Derived.SizedLaws
namespace Go.Proofs.YtjjnidbggoaonaaGreatDoor
open Go.RowKit
set_option maxRecDepth 100000

theorem pow_of {W : World} {l : List (String × DataW Unit)} (h : laidMet Tryz.prog (("internal/strconv.uint64pow10", Rows.laid_internal_strconv_uint64pow10) :: l) W) : HasPow W :=
  Lib.tabIs_of_head (P := Tryz.prog) (g := 2) (t := 213) (e := 47) (n := 20) (rest := l) (by kernel_rfl) (by kernel_rfl) Tryz.underlying213 Tryz.underlying47 (by kernel_rfl) (by kernel_rfl) h
theorem sp_of {W : World} {l : List (String × DataW Unit)} (h : laidMet Tryz.prog (("strings.asciiSpace", Rows.laid_strings_asciiSpace) :: l) W) : HasSp W :=
  Lib.tabIs_of_head (P := Tryz.prog) (g := 0) (t := 163) (e := 5) (n := 256) (rest := l) (by kernel_rfl) (by kernel_rfl) Tryz.underlying163 Tryz.underlying5 (by kernel_rfl) (by kernel_rfl) h
theorem starred : "*" ++ "errors.errorString" = "*errors.errorString" := by decide
theorem err_row (u : TypeId) (h : Tryz.prog.typeName? 3 u = some "*errors.errorString") : u = 263 :=
  typeName_ptr_named (nm := "errors.errorString") (by rw [starred]; kernel_rfl) (by kernel_rfl) (by decide) u (by rw [starred]; exact h)
theorem var_cell {P : Program} {W : World} {n : String} {g : Nat} {v : Value} (hg : P.globalNamed n = some g) (h : W.var? P n = some #[v]) : W.cell? ⟨g, 0, none⟩ = some v := World.var?_cell hg h 0
theorem er_of {W : World} {l : List (String × DataW Unit)} (h : laidMet Tryz.prog (("strconv.ErrRange", Rows.laid_strconv_ErrRange) :: l) W) : HasErr 7 W := by
  obtain ⟨a, s, hv, _, _, _⟩ := laid_sentinel h (show Tryz.prog.globalNamed "strconv.ErrRange" = some 7 by kernel_rfl) (show (Tryz.prog.globals[7]?).map (·.type) = some 92 by kernel_rfl) Tryz.underlying92 err_row Tryz.underlying263 Tryz.underlying265 rfl rfl Tryz.underlying9 (by kernel_rfl) (by kernel_rfl)
  exact ⟨_, var_cell (by kernel_rfl) hv, .inr ⟨_, _, rfl⟩⟩
theorem max_of {w : World} (h : w.ShapedOpen Tryz.prog) : HasMax w :=
  cell_of_shapedOpen_int (zero := #[.int .i64 0]) (t := 3) h (of_decide_eq_true (by kernel_rfl)) (by kernel_rfl) rfl (by kernel_rfl) (by kernel_rfl) Tryz.underlying3
def dbL : List Int := [0, 1, 56, 2, 57, 49, 28, 3, 61, 58, 42, 50, 38, 29, 17, 4, 62, 47, 59, 36, 45, 43, 51, 22, 53, 39, 33, 30, 24, 18, 12, 5, 63, 55, 48, 27, 60, 41, 37, 16, 46, 35, 44, 21, 52, 32, 23, 11, 54, 26, 40, 15, 34, 20, 31, 10, 25, 14, 19, 9, 13, 8, 7, 6]
theorem tz_of {W : World} {l : List (String × DataW Unit)} (h : laidMet Tryz.prog (("math/bits.deBruijn64tab", Rows.laid_math_bits_deBruijn64tab) :: l) W) : HasTz W := by
  have h1 : Lib.TabIs Tryz.prog W "math/bits.deBruijn64tab" .u8 dbL := Lib.tabIs_of_head (P := Tryz.prog) (g := 9) (t := 258) (e := 5) (n := 64) (rest := l) (by kernel_rfl) (by kernel_rfl) Tryz.underlying258 Tryz.underlying5 (by kernel_rfl) (by kernel_rfl) h
  exact h1.cell (g := 9) (by kernel_rfl) 15 (by decide)
theorem az_of {W : World} {a c e d : String × DataW Unit} {l : List (String × DataW Unit)} (h : laidMet Tryz.prog (a :: ("math/bits.deBruijn64tab", Rows.laid_math_bits_deBruijn64tab) :: ("internal/strconv.uint64pow10", Rows.laid_internal_strconv_uint64pow10) :: c :: ("strconv.ErrRange", Rows.laid_strconv_ErrRange) :: e :: d :: ("strings.asciiSpace", Rows.laid_strings_asciiSpace) :: l) W) (hs : W.ShapedOpen Tryz.prog) : HasAz W :=
  ⟨⟨pow_of h.tail.tail, sp_of h.tail.tail.tail.tail.tail.tail.tail, er_of h.tail.tail.tail.tail, max_of hs⟩, tz_of h.tail⟩
end Go.Proofs.YtjjnidbggoaonaaGreatDoor
