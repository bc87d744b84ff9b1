/- The run, by the kernel. -/
import Derived.Test.YtapfdkdlfmpicaaGreatDoorCodeT
import Derived.KernelRfl
namespace Go.Proofs.YtapfdkdlfmpicaaGreatDoor
open Go Go.Eng
namespace Code
set_option maxRecDepth 100000
set_option linter.unusedVariables false
theorem runs1 : endsJ (goT tab1 1000000 q3 [] ⟨.nil, .e⟩) = true := by kernel_rfl

end Code
end Go.Proofs.YtapfdkdlfmpicaaGreatDoor
