/- The run, by the kernel. -/
import Derived.Test.YtgbdldcpndfebaaGreatDoorCodeT
import Derived.KernelRfl
namespace Go.Proofs.YtgbdldcpndfebaaGreatDoor
open Go Go.Eng
namespace Code
set_option maxRecDepth 100000
set_option linter.unusedVariables false
theorem runs1 : endsJ (goT tabO1 1000000 q3 [.o 2000, .o 2001] ⟨.nil, .e⟩) = true := by kernel_rfl

end Code
end Go.Proofs.YtgbdldcpndfebaaGreatDoor
