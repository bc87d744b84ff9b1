/- The runs, by the kernel, case by case. -/
import Derived.Test.YtfcmehmbjajggaaGreatDoorCodeT
import Derived.KernelRfl
namespace Go.Proofs.YtfcmehmbjajggaaGreatDoor
open Go Go.Eng
namespace Code
set_option maxRecDepth 100000
set_option linter.unusedVariables false
theorem ends9 : (run [n6 9, .y 1 0 (-9223372036854775808) (-1)] && run [n6 9, .y 1 0 9 9223372036854775807]) = true := by kernel_rfl
theorem gone9 : (List.all [0, 1, 2, 3, 4, 5, 6, 7, 8] fun g => run [n6 9, n6 g]) = true := by kernel_rfl
theorem ends10 : (run [n6 10, .y 1 0 (-9223372036854775808) (-1)] && run [n6 10, .y 1 0 10 9223372036854775807]) = true := by kernel_rfl
theorem gone10 : (List.all [0, 1, 2, 3, 4, 5, 6, 7, 8, 9] fun g => run [n6 10, n6 g]) = true := by kernel_rfl
theorem ends11 : (run [n6 11, .y 1 0 (-9223372036854775808) (-1)] && run [n6 11, .y 1 0 11 9223372036854775807]) = true := by kernel_rfl
theorem gone11 : (List.all [0, 1, 2, 3, 4, 5, 6, 7, 8, 9, 10] fun g => run [n6 11, n6 g]) = true := by kernel_rfl
theorem ends12 : (run [n6 12, .y 1 0 (-9223372036854775808) (-1)] && run [n6 12, .y 1 0 12 9223372036854775807]) = true := by kernel_rfl
theorem gone12 : (List.all [0, 1, 2, 3, 4, 5, 6, 7, 8, 9, 10, 11] fun g => run [n6 12, n6 g]) = true := by kernel_rfl

end Code
end Go.Proofs.YtfcmehmbjajggaaGreatDoor
