/- The runs, by the kernel, case by case. -/
import Derived.Test.YtfnnannkoabobaaGreatDoorCodeT
import Derived.KernelRfl
namespace Go.Proofs.YtfnnannkoabobaaGreatDoor
open Go Go.Eng
namespace Code
set_option maxRecDepth 100000
set_option linter.unusedVariables false
theorem ends16 : run [n6 16, .y 1 0 0 1099511627776] = true := by kernel_rfl
theorem ends17 : run [n6 17, .y 1 0 0 1099511627776] = true := by kernel_rfl
theorem ends18 : run [n6 18, .y 1 0 0 1099511627776] = true := by kernel_rfl

end Code
end Go.Proofs.YtfnnannkoabobaaGreatDoor
