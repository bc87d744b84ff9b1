/- The runs, by the kernel, case by case. -/
import Derived.Test.YtfcmehmbjajggaaGreatDoorCodeT
import Derived.KernelRfl
namespace Go.Proofs.YtfcmehmbjajggaaGreatDoor
open Go Go.Eng
namespace Code
set_option maxRecDepth 100000
set_option linter.unusedVariables false
theorem ends15 : (run [n6 15, .y 1 0 (-9223372036854775808) (-1)] && run [n6 15, .y 1 0 15 9223372036854775807]) = true := by kernel_rfl
theorem gone15 : (List.all [0, 1, 2, 3, 4, 5, 6, 7, 8, 9, 10, 11, 12, 13, 14] fun g => run [n6 15, n6 g]) = true := by kernel_rfl
theorem ends16 : (run [n6 16, .y 1 0 (-9223372036854775808) (-1)] && run [n6 16, .y 1 0 16 9223372036854775807] && run [n6 16, .y 1 0 15 15]) = true := by kernel_rfl
theorem gone16 : (List.all [0, 1, 2, 3, 4, 5, 6, 7, 8, 9, 10, 11, 12, 13, 14] fun g => run [n6 16, n6 g]) = true := by kernel_rfl

end Code
end Go.Proofs.YtfcmehmbjajggaaGreatDoor
