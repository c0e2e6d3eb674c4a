/-
  Proved here: out of a row's list: the variable of the error of syntax holds an error; out of the world's shape: the library's variable of the longest search holds an int.
  Conditions: none beyond those in each statement.
-/
import Derived.Test.YtckgjpaccgpdpaaGreatDoorLaid
import Derived.Test.YtckgjpaccgpdpaaGreatDoorSplW
import Derived.Shelf.Vars
import Derived.ChangeMaps5
namespace Go.Proofs.YtckgjpaccgpdpaaGreatDoor
open Go.RowKit

theorem gErr : Tryz.prog.globalNamed "strconv.ErrSyntax" = some 4 := by kernel_rfl
theorem err_of {rest : List (String × DataW Unit)} {W : World} (h : laidMet Tryz.prog (("strconv.ErrSyntax", Rows.laid_strconv_ErrSyntax) :: rest) W) : ErrS W := by
  obtain ⟨a, s, hv, _⟩ := laid_sentinel (tp := 122) h gErr (by kernel_rfl) Tryz.underlying80 (fun u hu => typeName_ptr_named (nm := "errors.errorString") (by kernel_rfl) (by kernel_rfl) (by decide) u (hu.trans (congrArg some (by decide)))) Tryz.underlying122 Tryz.underlying124 rfl rfl Tryz.underlying9 (by kernel_rfl) (by kernel_rfl)
  exact ⟨_, _, hv⟩
theorem max_of {W : World} (h : W.ShapedOpen Tryz.prog) : MaxL W :=
  cell_of_shapedOpen_int (zero := #[.int .i64 0]) (t := 3) h (of_decide_eq_true (by kernel_rfl)) (by kernel_rfl) rfl (by kernel_rfl) (by kernel_rfl) Tryz.underlying3

end Go.Proofs.YtckgjpaccgpdpaaGreatDoor
