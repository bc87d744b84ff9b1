/- Answers told once, by the kernel. -/
import Derived.Test.YtfcmehmbjajggaaGreatDoorCodeT
import Derived.KernelRfl
namespace Go.Proofs.YtfcmehmbjajggaaGreatDoor
open Go Go.Eng
namespace Code
set_option maxRecDepth 100000
set_option linter.unusedVariables false
theorem told33 : (memo33.all fun e => flats e.1 && endsV (goT tab 1000000 q33 e.1 ⟨.nil, .e⟩) e.2) = true := by kernel_rfl
theorem told4 : (memo4.all fun e => flats e.1 && endsV (goT tab 1000000 q4 e.1 ⟨.nil, .e⟩) e.2) = true := by kernel_rfl
theorem told7 : (memo7.all fun e => flats e.1 && endsV (goT tab 1000000 q7 e.1 ⟨.nil, .e⟩) e.2) = true := by kernel_rfl

end Code
end Go.Proofs.YtfcmehmbjajggaaGreatDoor
