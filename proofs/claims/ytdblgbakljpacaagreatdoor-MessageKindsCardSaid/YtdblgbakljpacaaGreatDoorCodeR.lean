/- The run, by the kernel. -/
import Derived.Test.YtdblgbakljpacaaGreatDoorCodeT
import Derived.KernelRfl
namespace Go.Proofs.YtdblgbakljpacaaGreatDoor
open Go Go.Eng
namespace Code
set_option maxRecDepth 100000
set_option linter.unusedVariables false
theorem runs : endsTrue (run tab 1000000 (.call q3 []) .nil ⟨.nil, .e⟩) = true := by kernel_rfl

end Code
end Go.Proofs.YtdblgbakljpacaaGreatDoor
