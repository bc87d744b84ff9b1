/- Closed facts of the row, by the kernel. -/
import Derived.Test.YtgklcjeigoihpaaGreatDoorRows
import Derived.KernelRfl
import Derived.JoinedOf
import Derived.SevenTiedAt
namespace Go.Proofs.YtgklcjeigoihpaaGreatDoor
open Go Go.Proofs
set_option maxRecDepth 100000
set_option linter.unusedVariables false
theorem j5 : laidOutB Tryz.pinned.checked.prog = true := by kernel_rfl
theorem j6 : mapsRowed Tryz.pinned.checked.prog = true := by kernel_rfl
end Go.Proofs.YtgklcjeigoihpaaGreatDoor
