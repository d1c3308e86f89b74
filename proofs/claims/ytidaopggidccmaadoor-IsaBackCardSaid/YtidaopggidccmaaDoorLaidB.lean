/- From what a row lists to what isa.Parse reads: White_Space, the two errors. -/
import Derived.Test.YtidaopggidccmaaDoorLaid
import Derived.Test.YtidaopggidccmaaDoorParA
import Derived.Test.YtidaopggidccmaaDoorShelfD
import Derived.Lib.LaidU8
import Derived.Stop.LaidErr
namespace Go.Proofs.YtidaopggidccmaaDoor
open Go.RowKit
set_option maxRecDepth 100000

theorem white_of {W : World} {l : List (String × DataW Unit)} (h : laidMet Tryd.prog (("unicode.White_Space", Rows.laid_unicode_White_Space) :: l) W) : HasWhite W :=
  whiteTab_of_reads Tryd.lays199 ⟨by kernel_rfl, by kernel_rfl, by kernel_rfl, by kernel_rfl, by kernel_rfl, by kernel_rfl, by kernel_rfl, by kernel_rfl⟩
    (Go.Lib.laidMet.reads h (by rw [show Lib.whiteData = Rows.laid_unicode_White_Space from by kernel_rfl]; exact List.mem_cons_self))
theorem starred : "*" ++ "errors.errorString" = "*errors.errorString" := by decide
theorem err_row (u : TypeId) (h : Tryd.prog.typeName? 3 u = some "*errors.errorString") : u = 131 :=
  typeName_ptr_named (nm := "errors.errorString") (by rw [starred]; kernel_rfl) (by kernel_rfl) (by decide) u (by rw [starred]; exact h)
theorem var_cell {P : Program} {W : World} {n : String} {g : Nat} {v : Value} (hg : P.globalNamed n = some g) (h : W.var? P n = some #[v]) : W.cell? ⟨g, 0, none⟩ = some v := World.var?_cell hg h 0
theorem er_of {W : World} {l : List (String × DataW Unit)} (h : laidMet Tryd.prog (("strconv.ErrRange", Rows.laid_strconv_ErrRange) :: l) W) : HasErr 3 W := by
  obtain ⟨a, s, hv, _, _, _⟩ := laid_sentinel h (show Tryd.prog.globalNamed "strconv.ErrRange" = some 3 by kernel_rfl) (show (Tryd.prog.globals[3]?).map (·.type) = some 63 by kernel_rfl) Tryd.underlying63 err_row Tryd.underlying131 Tryd.underlying133 rfl rfl Tryd.underlying9 (by kernel_rfl) (by kernel_rfl)
  exact ⟨_, var_cell (by kernel_rfl) hv, .inr ⟨_, _, rfl⟩⟩
theorem es_of {W : World} {l : List (String × DataW Unit)} (h : laidMet Tryd.prog (("strconv.ErrSyntax", Rows.laid_strconv_ErrSyntax) :: l) W) : HasErr 2 W := by
  obtain ⟨a, s, hv, _, _, _⟩ := laid_sentinel h (show Tryd.prog.globalNamed "strconv.ErrSyntax" = some 2 by kernel_rfl) (show (Tryd.prog.globals[2]?).map (·.type) = some 63 by kernel_rfl) Tryd.underlying63 err_row Tryd.underlying131 Tryd.underlying133 rfl rfl Tryd.underlying9 (by kernel_rfl) (by kernel_rfl)
  exact ⟨_, var_cell (by kernel_rfl) hv, .inr ⟨_, _, rfl⟩⟩
theorem par_of {W : World} {a b : String × DataW Unit} (h : laidMet Tryd.prog (a :: b :: ("internal/strconv.uint64pow10", Rows.laid_internal_strconv_uint64pow10) :: ("strconv.ErrRange", Rows.laid_strconv_ErrRange) :: ("strconv.ErrSyntax", Rows.laid_strconv_ErrSyntax) :: ("unicode.White_Space", Rows.laid_unicode_White_Space) :: ("strings.asciiSpace", Rows.laid_strings_asciiSpace) :: []) W) : HasPar W :=
  ⟨pow_of h.tail.tail, sp_of h.tail.tail.tail.tail.tail.tail, white_of h.tail.tail.tail.tail.tail, es_of h.tail.tail.tail.tail, er_of h.tail.tail.tail⟩
end Go.Proofs.YtidaopggidccmaaDoor
