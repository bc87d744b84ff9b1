/- Runs, by the kernel. -/
import Derived.Test.YtgklcjeigoihpaaGreatDoorCodeT
import Derived.KernelRfl
namespace Go.Proofs.YtgklcjeigoihpaaGreatDoor
open Go Go.Eng
namespace Code
set_option maxRecDepth 100000
set_option linter.unusedVariables false
theorem r21 : endsJ (goT tabO 1000000 q3 [n6 2, n6 1, .y 5000 0 0 9223372036854775807] ⟨.nil, .e⟩) = true := by kernel_rfl
theorem r13 : endsJ (goT tabO 1000000 q3 [n6 1, n6 3, .y 5000 0 0 9223372036854775807] ⟨.nil, .e⟩) = true := by kernel_rfl
theorem r30 : endsJ (goT tabO 1000000 q3 [n6 3, n6 0, .y 5000 0 0 9223372036854775807] ⟨.nil, .e⟩) = true := by kernel_rfl
theorem r12 : endsJ (goT tabO 1000000 q3 [n6 1, n6 2, .y 5000 0 0 9223372036854775807] ⟨.nil, .e⟩) = true := by kernel_rfl
theorem r10 : endsJ (goT tabO 1000000 q3 [n6 1, n6 0, .y 5000 0 0 9223372036854775807] ⟨.nil, .e⟩) = true := by kernel_rfl

end Code
end Go.Proofs.YtgklcjeigoihpaaGreatDoor
