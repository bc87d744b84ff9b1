/- Answers told once, by the kernel. -/
import Derived.Test.YtfnnannkoabobaaGreatDoorCodeT
import Derived.KernelRfl
namespace Go.Proofs.YtfnnannkoabobaaGreatDoor
open Go Go.Eng
namespace Code
set_option maxRecDepth 100000
set_option linter.unusedVariables false
theorem told6b : (lineOps.all fun l => [true, false].all fun p => endsV (goT tab 1000000 q6 [.a l, (.a (setPre ++ .y 1 0 0 1099511627796 :: setPost)), .b p] ⟨.nil, .e⟩) (.t [.a l, .b true])) = true := by kernel_rfl

end Code
end Go.Proofs.YtfnnannkoabobaaGreatDoor
