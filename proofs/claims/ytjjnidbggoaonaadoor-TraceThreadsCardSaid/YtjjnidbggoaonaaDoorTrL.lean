/- From what a row lists of package-level variables to what the trace walks want of them. -/
import Derived.Test.YtjjnidbggoaonaaDoorTrEv
import Derived.Test.YtjjnidbggoaonaaDoorRows
import Derived.Lib.LaidTab
import Derived.Lib.LaidU8
import Derived.LaidMore
import Derived.ProofKit
import Derived.Stop.LaidErr
import Derived.SizedLaws
namespace Go.Proofs.YtjjnidbggoaonaaDoor
open Go.RowKit
set_option maxRecDepth 100000

theorem pow_of {W : World} {l : List (String × DataW Unit)} (h : laidMet Tryd.prog (("internal/strconv.uint64pow10", Rows.laid_internal_strconv_uint64pow10) :: l) W) : HasPow W :=
  Lib.tabIs_of_head (P := Tryd.prog) (g := 2) (t := 125) (e := 22) (n := 20) (rest := l) (by kernel_rfl) (by kernel_rfl) Tryd.underlying125 Tryd.underlying22 (by kernel_rfl) (by kernel_rfl) h
theorem sp_of {W : World} {l : List (String × DataW Unit)} (h : laidMet Tryd.prog (("strings.asciiSpace", Rows.laid_strings_asciiSpace) :: l) W) : HasSp W :=
  Lib.tabIs_of_head (P := Tryd.prog) (g := 0) (t := 81) (e := 5) (n := 256) (rest := l) (by kernel_rfl) (by kernel_rfl) Tryd.underlying81 Tryd.underlying5 (by kernel_rfl) (by kernel_rfl) h
theorem starred : "*" ++ "errors.errorString" = "*errors.errorString" := by decide
theorem err_row (u : TypeId) (h : Tryd.prog.typeName? 3 u = some "*errors.errorString") : u = 140 :=
  typeName_ptr_named (nm := "errors.errorString") (by rw [starred]; kernel_rfl) (by kernel_rfl) (by decide) u (by rw [starred]; exact h)
theorem var_cell {P : Program} {W : World} {n : String} {g : Nat} {v : Value} (hg : P.globalNamed n = some g) (h : W.var? P n = some #[v]) : W.cell? ⟨g, 0, none⟩ = some v := World.var?_cell hg h 0
theorem er_of {W : World} {l : List (String × DataW Unit)} (h : laidMet Tryd.prog (("strconv.ErrRange", Rows.laid_strconv_ErrRange) :: l) W) : HasErr 4 W := by
  obtain ⟨a, s, hv, _, _, _⟩ := laid_sentinel h (show Tryd.prog.globalNamed "strconv.ErrRange" = some 4 by kernel_rfl) (show (Tryd.prog.globals[4]?).map (·.type) = some 72 by kernel_rfl) Tryd.underlying72 err_row Tryd.underlying140 Tryd.underlying142 rfl rfl Tryd.underlying9 (by kernel_rfl) (by kernel_rfl)
  exact ⟨_, var_cell (by kernel_rfl) hv, .inr ⟨_, _, rfl⟩⟩
theorem es_of {W : World} {l : List (String × DataW Unit)} (h : laidMet Tryd.prog (("strconv.ErrSyntax", Rows.laid_strconv_ErrSyntax) :: l) W) : HasErr 3 W := by
  obtain ⟨a, s, hv, _, _, _⟩ := laid_sentinel h (show Tryd.prog.globalNamed "strconv.ErrSyntax" = some 3 by kernel_rfl) (show (Tryd.prog.globals[3]?).map (·.type) = some 72 by kernel_rfl) Tryd.underlying72 err_row Tryd.underlying140 Tryd.underlying142 rfl rfl Tryd.underlying9 (by kernel_rfl) (by kernel_rfl)
  exact ⟨_, var_cell (by kernel_rfl) hv, .inr ⟨_, _, rfl⟩⟩
theorem max_of {w : World} (h : w.ShapedOpen Tryd.prog) : HasMax w :=
  cell_of_shapedOpen_int (zero := #[.int .i64 0]) (t := 3) h (of_decide_eq_true (by kernel_rfl)) (by kernel_rfl) rfl (by kernel_rfl) (by kernel_rfl) Tryd.underlying3
theorem tr_of {W : World} {a b c d : String × DataW Unit} {l : List (String × DataW Unit)} (h : laidMet Tryd.prog (a :: b :: ("internal/strconv.uint64pow10", Rows.laid_internal_strconv_uint64pow10) :: c :: ("strconv.ErrRange", Rows.laid_strconv_ErrRange) :: ("strconv.ErrSyntax", Rows.laid_strconv_ErrSyntax) :: d :: ("strings.asciiSpace", Rows.laid_strings_asciiSpace) :: l) W) (hs : W.ShapedOpen Tryd.prog) : HasTr W :=
  ⟨pow_of h.tail.tail, sp_of h.tail.tail.tail.tail.tail.tail.tail, es_of h.tail.tail.tail.tail.tail, er_of h.tail.tail.tail.tail, max_of hs⟩
end Go.Proofs.YtjjnidbggoaonaaDoor
