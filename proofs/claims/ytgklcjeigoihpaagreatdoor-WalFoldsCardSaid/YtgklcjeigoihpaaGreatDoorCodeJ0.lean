/- Closed facts of the row, by the kernel. -/
import Derived.Test.YtgklcjeigoihpaaGreatDoorRows
import Derived.KernelRfl
import Derived.JoinedOf
import Derived.SevenTiedAt
namespace Go.Proofs.YtgklcjeigoihpaaGreatDoor
open Go Go.Proofs
set_option maxRecDepth 100000
set_option linter.unusedVariables false
theorem j1 : (Rows.walFoldsRow.inPlace == Tryz.pinned.checked.prog.inPlace 3) = true := by kernel_rfl
end Go.Proofs.YtgklcjeigoihpaaGreatDoor
