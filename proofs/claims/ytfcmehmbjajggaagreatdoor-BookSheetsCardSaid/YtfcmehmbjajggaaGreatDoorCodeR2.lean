/- The runs, by the kernel, case by case. -/
import Derived.Test.YtfcmehmbjajggaaGreatDoorCodeT
import Derived.KernelRfl
namespace Go.Proofs.YtfcmehmbjajggaaGreatDoor
open Go Go.Eng
namespace Code
set_option maxRecDepth 100000
set_option linter.unusedVariables false
theorem ends13 : (run [n6 13, .y 1 0 (-9223372036854775808) (-1)] && run [n6 13, .y 1 0 13 9223372036854775807]) = true := by kernel_rfl
theorem gone13 : (List.all [0, 1, 2, 3, 4, 5, 6, 7, 8, 9, 10, 11, 12] fun g => run [n6 13, n6 g]) = true := by kernel_rfl
theorem ends14 : (run [n6 14, .y 1 0 (-9223372036854775808) (-1)] && run [n6 14, .y 1 0 14 9223372036854775807]) = true := by kernel_rfl
theorem gone14 : (List.all [0, 1, 2, 3, 4, 5, 6, 7, 8, 9, 10, 11, 12, 13] fun g => run [n6 14, n6 g]) = true := by kernel_rfl

end Code
end Go.Proofs.YtfcmehmbjajggaaGreatDoor
