/- Closed facts of the row, by the kernel. -/
import Derived.Test.YtgklcjeigoihpaaGreatDoorRows
import Derived.KernelRfl
import Derived.JoinedOf
import Derived.SevenTiedAt
namespace Go.Proofs.YtgklcjeigoihpaaGreatDoor
open Go Go.Proofs
set_option maxRecDepth 100000
set_option linter.unusedVariables false
theorem j7 : Tryz.pinned.checked.prog.stopsHeard = true := by kernel_rfl
theorem j8 : Tryz.pinned.checked.prog.mayEnter = true := by kernel_rfl
theorem j9 : (Rows.walFoldsRow.lifted == Tryz.pinned.checked.prog.liftsFinal) = true := by kernel_rfl
theorem j10 : (Tryz.pinned.checked.prog.make == some Rows.walFoldsRow.make) = true := by kernel_rfl
theorem j11 : (Rows.walFoldsRow.plainKeys == Tryz.pinned.checked.prog.plainKeys) = true := by kernel_rfl
theorem j12 : Rows.walFoldsRow.wf (OpenSpec.ofChange Rows.walFoldsSpec) = true := by kernel_rfl
end Go.Proofs.YtgklcjeigoihpaaGreatDoor
