/- Closed facts of the row, by the kernel. -/
import Derived.Test.YtgbdldcpndfebaaGreatDoorRows
import Derived.KernelRfl
import Derived.JoinedOf
import Derived.SevenTiedAt
namespace Go.Proofs.YtgbdldcpndfebaaGreatDoor
open Go Go.Proofs
set_option maxRecDepth 100000
set_option linter.unusedVariables false
theorem j7 : Tryz.pinned.checked.prog.stopsHeard = true := by kernel_rfl
theorem j8 : Tryz.pinned.checked.prog.mayEnter = true := by kernel_rfl
theorem j9 : (Rows.calcCloneRow.lifted == Tryz.pinned.checked.prog.liftsFinal) = true := by kernel_rfl
theorem j10 : (Tryz.pinned.checked.prog.make == some Rows.calcCloneRow.make) = true := by kernel_rfl
theorem j11 : (Rows.calcCloneRow.plainKeys == Tryz.pinned.checked.prog.plainKeys) = true := by kernel_rfl
theorem j12 : Rows.calcCloneRow.wf (OpenSpec.ofChange Rows.calcCloneSpec) = true := by kernel_rfl
end Go.Proofs.YtgbdldcpndfebaaGreatDoor
