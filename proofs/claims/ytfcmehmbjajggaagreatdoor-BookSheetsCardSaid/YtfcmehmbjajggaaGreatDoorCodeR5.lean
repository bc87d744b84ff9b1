/- The runs, by the kernel, case by case. -/
import Derived.Test.YtfcmehmbjajggaaGreatDoorCodeT
import Derived.KernelRfl
namespace Go.Proofs.YtfcmehmbjajggaaGreatDoor
open Go Go.Eng
namespace Code
set_option maxRecDepth 100000
set_option linter.unusedVariables false
theorem ends19 : (run [n6 19, .y 1 0 (-9223372036854775808) (-1)] && run [n6 19, .y 1 0 19 9223372036854775807] && run [n6 19, .y 1 0 15 18]) = true := by kernel_rfl
theorem gone19 : (List.all [0, 1, 2, 3, 4, 5, 6, 7, 8, 9, 10, 11, 12, 13, 14] fun g => run [n6 19, n6 g]) = true := by kernel_rfl
theorem ends20 : (run [n6 20, .y 1 0 (-9223372036854775808) (-1)] && run [n6 20, .y 1 0 20 9223372036854775807] && run [n6 20, .y 1 0 15 19]) = true := by kernel_rfl
theorem gone20 : (List.all [0, 1, 2, 3, 4, 5, 6, 7, 8, 9, 10, 11, 12, 13, 14] fun g => run [n6 20, n6 g]) = true := by kernel_rfl

end Code
end Go.Proofs.YtfcmehmbjajggaaGreatDoor
