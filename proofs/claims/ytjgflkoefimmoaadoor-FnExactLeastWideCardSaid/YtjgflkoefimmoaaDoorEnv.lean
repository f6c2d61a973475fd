/- What a row says of the library's variables when the call begins. -/
import Derived.Test.YtjgflkoefimmoaaDoorTxtI
import Derived.Shelf.Vars
namespace Go.Proofs.YtjgflkoefimmoaaDoor
open Go Go.RowKit
set_option linter.unusedVariables false
set_option linter.unusedSimpArgs false
theorem maxW_of {w : World} (h : w.ShapedOpen Tryd.prog) : MaxW w :=
  cell_of_shapedOpen_int (g := 2) (t := 3) (zero := #[.int .i64 0]) h (by decide +kernel) (by kernel_rfl) rfl (by kernel_rfl) (by kernel_rfl) Tryd.underlying3
end Go.Proofs.YtjgflkoefimmoaaDoor
