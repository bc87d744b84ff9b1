/- Closed facts of the row, by the kernel. -/
import Derived.Test.YtgklcjeigoihpaaGreatDoorRows
import Derived.KernelRfl
import Derived.JoinedOf
import Derived.SevenTiedAt
namespace Go.Proofs.YtgklcjeigoihpaaGreatDoor
open Go Go.Proofs
set_option maxRecDepth 100000
set_option linter.unusedVariables false
theorem j2 : (Rows.walFoldsRow.unfollowed == Tryz.pinned.checked.prog.unfollowed 3) = true := by kernel_rfl
theorem j3 : (Rows.walFoldsRow.recurses == Tryz.pinned.checked.prog.recurses 3) = true := by kernel_rfl
end Go.Proofs.YtgklcjeigoihpaaGreatDoor
