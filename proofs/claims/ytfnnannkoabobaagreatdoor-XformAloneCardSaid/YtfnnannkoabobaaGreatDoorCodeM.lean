/- Answers told once, by the kernel. -/
import Derived.Test.YtfnnannkoabobaaGreatDoorCodeT
import Derived.KernelRfl
namespace Go.Proofs.YtfnnannkoabobaaGreatDoor
open Go Go.Eng
namespace Code
set_option maxRecDepth 100000
set_option linter.unusedVariables false
theorem told4 : (memo4.all fun e => flats e.1 && endsV (goT tab 1000000 q4 e.1 ⟨.nil, .e⟩) e.2) = true := by kernel_rfl
theorem told6a : (lineOps.all fun l => [true, false].all fun p => endsV (goT tab 1000000 q6 [(.a (setPre ++ .y 1 0 0 1099511627796 :: setPost)), .a l, .b p] ⟨.nil, .e⟩) (.t [(.a (setPre ++ .y 1 0 0 1099511627796 :: setPost)), .b true])) = true := by kernel_rfl

end Code
end Go.Proofs.YtfnnannkoabobaaGreatDoor
