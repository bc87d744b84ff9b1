/- The run, by the kernel. -/
import Derived.Test.YthjgmpfejgjbaaaGreatDoorMCodeT
import Derived.KernelRfl
namespace Go.Proofs.YthjgmpfejgjbaaaGreatDoor
open Go Go.Eng
namespace Code
set_option maxRecDepth 100000
set_option linter.unusedVariables false
theorem runs : endsJ (goT tab 1000000 q3 [] ⟨.nil, .e⟩) = true := by kernel_rfl

end Code
end Go.Proofs.YthjgmpfejgjbaaaGreatDoor
