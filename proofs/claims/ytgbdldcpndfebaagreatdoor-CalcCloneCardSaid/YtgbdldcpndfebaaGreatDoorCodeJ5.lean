/- Closed facts of the row, by the kernel. -/
import Derived.Test.YtgbdldcpndfebaaGreatDoorRows
import Derived.KernelRfl
import Derived.JoinedOf
import Derived.SevenTiedAt
namespace Go.Proofs.YtgbdldcpndfebaaGreatDoor
open Go Go.Proofs
set_option maxRecDepth 100000
set_option linter.unusedVariables false
theorem jgoes : false = Rows.calcCloneRow.goesBy Tryz.pinned.checked.prog := by kernel_rfl
end Go.Proofs.YtgbdldcpndfebaaGreatDoor
