/- Answers told once, by the kernel. -/
import Derived.Test.YtgklcjeigoihpaaGreatDoorCodeT
import Derived.KernelRfl
namespace Go.Proofs.YtgklcjeigoihpaaGreatDoor
open Go Go.Eng
namespace Code
set_option maxRecDepth 100000
set_option linter.unusedVariables false
theorem told4 : (memo4.all fun p => endsV (goT tabS 1000000 q4 p.1 ⟨.nil, .e⟩) p.2 && flats p.1) = true := by kernel_rfl
theorem told46 : (memo46.all fun p => endsV (goT tabS 1000000 q46 p.1 ⟨.nil, .e⟩) p.2 && flats p.1) = true := by kernel_rfl
theorem told85 : (memo85.all fun p => endsV (goT tabS 1000000 q85 p.1 ⟨.nil, .e⟩) p.2 && flats p.1) = true := by kernel_rfl
theorem told94 : (memo94.all fun p => endsV (goT tabS 1000000 q94 p.1 ⟨.nil, .e⟩) p.2 && flats p.1) = true := by kernel_rfl
theorem told97 : (memo97.all fun p => endsV (goT tabS 1000000 q97 p.1 ⟨.nil, .e⟩) p.2 && flats p.1) = true := by kernel_rfl
theorem told113 : (memo113.all fun p => endsV (goT tabS 1000000 q113 p.1 ⟨.nil, .e⟩) p.2 && flats p.1) = true := by kernel_rfl
theorem told119 : (memo119.all fun p => endsV (goT tabS 1000000 q119 p.1 ⟨.nil, .e⟩) p.2 && flats p.1) = true := by kernel_rfl
theorem told138 : (memo138.all fun p => endsV (goT tabS 1000000 q138 p.1 ⟨.nil, .e⟩) p.2 && flats p.1) = true := by kernel_rfl
theorem told46B : endsV (goT tabS 1000000 q46 [cellBV, cellBV] ⟨.nil, .e⟩) (.b true) = true := by kernel_rfl

end Code
end Go.Proofs.YtgklcjeigoihpaaGreatDoor
