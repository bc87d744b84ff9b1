/- The runs, by the kernel, case by case. -/
import Derived.Test.YtfnnannkoabobaaGreatDoorCodeT
import Derived.KernelRfl
namespace Go.Proofs.YtfnnannkoabobaaGreatDoor
open Go Go.Eng
namespace Code
set_option maxRecDepth 100000
set_option linter.unusedVariables false
theorem outs : (run [.y 0 0 (-9223372036854775808) (-1), .y 1 0 (-9223372036854775808) 9223372036854775807] && (run [.y 0 0 21 9223372036854775807, .y 1 0 (-9223372036854775808) 9223372036854775807] && (run [.y 0 0 0 20, .y 1 0 (-9223372036854775808) (-1)] && run [.y 0 0 0 20, .y 1 0 1099511627777 9223372036854775807]))) = true := by kernel_rfl
theorem ends0 : run [n6 0, .y 1 0 0 1099511627776] = true := by kernel_rfl
theorem ends1 : run [n6 1, .y 1 0 0 1099511627776] = true := by kernel_rfl
theorem ends2 : run [n6 2, .y 1 0 0 1099511627776] = true := by kernel_rfl
theorem ends3 : run [n6 3, .y 1 0 0 1099511627776] = true := by kernel_rfl
theorem ends4 : run [n6 4, .y 1 0 0 1099511627776] = true := by kernel_rfl
theorem ends5 : run [n6 5, .y 1 0 0 1099511627776] = true := by kernel_rfl
theorem ends6 : run [n6 6, .y 1 0 0 1099511627776] = true := by kernel_rfl
theorem ends7 : run [n6 7, .y 1 0 0 1099511627776] = true := by kernel_rfl
theorem ends8 : run [n6 8, .y 1 0 0 1099511627776] = true := by kernel_rfl
theorem ends9 : run [n6 9, .y 1 0 0 1099511627776] = true := by kernel_rfl
theorem ends10 : run [n6 10, .y 1 0 0 1099511627776] = true := by kernel_rfl
theorem ends11 : run [n6 11, .y 1 0 0 1099511627776] = true := by kernel_rfl
theorem ends12 : run [n6 12, .y 1 0 0 1099511627776] = true := by kernel_rfl
theorem ends13 : run [n6 13, .y 1 0 0 1099511627776] = true := by kernel_rfl
theorem ends14 : run [n6 14, .y 1 0 0 1099511627776] = true := by kernel_rfl
theorem ends15 : run [n6 15, .y 1 0 0 1099511627776] = true := by kernel_rfl

end Code
end Go.Proofs.YtfnnannkoabobaaGreatDoor
