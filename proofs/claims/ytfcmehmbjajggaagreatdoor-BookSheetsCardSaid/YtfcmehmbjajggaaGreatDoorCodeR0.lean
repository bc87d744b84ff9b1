/- The runs, by the kernel, case by case. -/
import Derived.Test.YtfcmehmbjajggaaGreatDoorCodeT
import Derived.KernelRfl
namespace Go.Proofs.YtfcmehmbjajggaaGreatDoor
open Go Go.Eng
namespace Code
set_option maxRecDepth 100000
set_option linter.unusedVariables false
theorem outs : (run [.y 0 0 (-9223372036854775808) (-1), .y 1 0 (-9223372036854775808) 9223372036854775807] && run [.y 0 0 21 9223372036854775807, .y 1 0 (-9223372036854775808) 9223372036854775807]) = true := by kernel_rfl
theorem ends0 : (run [n6 0, .y 1 0 (-9223372036854775808) (-1)] && run [n6 0, .y 1 0 0 9223372036854775807]) = true := by kernel_rfl
theorem ends1 : (run [n6 1, .y 1 0 (-9223372036854775808) (-1)] && run [n6 1, .y 1 0 1 9223372036854775807]) = true := by kernel_rfl
theorem gone1 : (List.all [0] fun g => run [n6 1, n6 g]) = true := by kernel_rfl
theorem ends2 : (run [n6 2, .y 1 0 (-9223372036854775808) (-1)] && run [n6 2, .y 1 0 2 9223372036854775807]) = true := by kernel_rfl
theorem gone2 : (List.all [0, 1] fun g => run [n6 2, n6 g]) = true := by kernel_rfl
theorem ends3 : (run [n6 3, .y 1 0 (-9223372036854775808) (-1)] && run [n6 3, .y 1 0 3 9223372036854775807]) = true := by kernel_rfl
theorem gone3 : (List.all [0, 1, 2] fun g => run [n6 3, n6 g]) = true := by kernel_rfl
theorem ends4 : (run [n6 4, .y 1 0 (-9223372036854775808) (-1)] && run [n6 4, .y 1 0 4 9223372036854775807]) = true := by kernel_rfl
theorem gone4 : (List.all [0, 1, 2, 3] fun g => run [n6 4, n6 g]) = true := by kernel_rfl
theorem ends5 : (run [n6 5, .y 1 0 (-9223372036854775808) (-1)] && run [n6 5, .y 1 0 5 9223372036854775807]) = true := by kernel_rfl
theorem gone5 : (List.all [0, 1, 2, 3, 4] fun g => run [n6 5, n6 g]) = true := by kernel_rfl
theorem ends6 : (run [n6 6, .y 1 0 (-9223372036854775808) (-1)] && run [n6 6, .y 1 0 6 9223372036854775807]) = true := by kernel_rfl
theorem gone6 : (List.all [0, 1, 2, 3, 4, 5] fun g => run [n6 6, n6 g]) = true := by kernel_rfl
theorem ends7 : (run [n6 7, .y 1 0 (-9223372036854775808) (-1)] && run [n6 7, .y 1 0 7 9223372036854775807]) = true := by kernel_rfl
theorem gone7 : (List.all [0, 1, 2, 3, 4, 5, 6] fun g => run [n6 7, n6 g]) = true := by kernel_rfl
theorem ends8 : (run [n6 8, .y 1 0 (-9223372036854775808) (-1)] && run [n6 8, .y 1 0 8 9223372036854775807]) = true := by kernel_rfl
theorem gone8 : (List.all [0, 1, 2, 3, 4, 5, 6, 7] fun g => run [n6 8, n6 g]) = true := by kernel_rfl

end Code
end Go.Proofs.YtfcmehmbjajggaaGreatDoor
