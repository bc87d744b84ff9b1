/- Runs, by the kernel. -/
import Derived.Test.YtgklcjeigoihpaaGreatDoorCodeT
import Derived.KernelRfl
namespace Go.Proofs.YtgklcjeigoihpaaGreatDoor
open Go Go.Eng
namespace Code
set_option maxRecDepth 100000
set_option linter.unusedVariables false
theorem r53 : endsJ (goT tabO 1000000 q3 [n6 5, n6 3, .y 5000 0 0 9223372036854775807] ⟨.nil, .e⟩) = true := by kernel_rfl
theorem r0 : endsJ (goT tabO 1000000 q3 [n6 0, .y 1 0 0 4, .y 5000 0 0 9223372036854775807] ⟨.nil, .e⟩) = true := by kernel_rfl
theorem gA : endsJ (goT tabO 1000000 q3 [.y 0 0 (-9223372036854775808) (-1), .y 1 0 (-9223372036854775808) 9223372036854775807, .y 5000 0 (-9223372036854775808) 9223372036854775807] ⟨.nil, .e⟩) = true := by kernel_rfl
theorem gB : endsJ (goT tabO 1000000 q3 [.y 0 0 6 9223372036854775807, .y 1 0 (-9223372036854775808) 9223372036854775807, .y 5000 0 (-9223372036854775808) 9223372036854775807] ⟨.nil, .e⟩) = true := by kernel_rfl
theorem gC : endsJ (goT tabO 1000000 q3 [.y 0 0 0 5, .y 1 0 (-9223372036854775808) (-1), .y 5000 0 (-9223372036854775808) 9223372036854775807] ⟨.nil, .e⟩) = true := by kernel_rfl
theorem gD : endsJ (goT tabO 1000000 q3 [.y 0 0 0 5, .y 1 0 5 9223372036854775807, .y 5000 0 (-9223372036854775808) 9223372036854775807] ⟨.nil, .e⟩) = true := by kernel_rfl
theorem gE : endsJ (goT tabO 1000000 q3 [.y 0 0 0 5, .y 1 0 0 4, .y 5000 0 (-9223372036854775808) (-1)] ⟨.nil, .e⟩) = true := by kernel_rfl

end Code
end Go.Proofs.YtgklcjeigoihpaaGreatDoor
