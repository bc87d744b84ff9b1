/- Runs, by the kernel. -/
import Derived.Test.YtgklcjeigoihpaaGreatDoorCodeT
import Derived.KernelRfl
namespace Go.Proofs.YtgklcjeigoihpaaGreatDoor
open Go Go.Eng
namespace Code
set_option maxRecDepth 100000
set_option linter.unusedVariables false
theorem r54 : endsJ (goT tabO 1000000 q3 [n6 5, n6 4, .y 5000 0 0 9223372036854775807] ⟨.nil, .e⟩) = true := by kernel_rfl

end Code
end Go.Proofs.YtgklcjeigoihpaaGreatDoor
