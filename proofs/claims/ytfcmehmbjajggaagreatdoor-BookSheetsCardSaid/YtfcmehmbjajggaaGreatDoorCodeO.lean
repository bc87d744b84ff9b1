/- What is known of some functions by other means. -/
import Derived.Test.YtfcmehmbjajggaaGreatDoorCodeE
import Derived.Test.YtfcmehmbjajggaaGreatDoorCodeM
import Derived.Test.YtfcmehmbjajggaaGreatDoorWalks
import Derived.KernelRfl
namespace Go.Proofs.YtfcmehmbjajggaaGreatDoor
open Go Go.Eng
namespace Code
set_option maxRecDepth 100000
set_option linter.unusedVariables false
section
variable [Env]
theorem memo33_ok : OrcOk Go.Proofs.Tryz.prog 0 q33 (memoO memo33) := memo_ok fun a v h h0 => by
  have := List.all_eq_true.1 told33 _ h
  simp only [Bool.and_eq_true] at this
  exact callOk_flat (by kernel_rfl) tab_ok this.2 this.1 h0
theorem memo7_ok : OrcOk Go.Proofs.Tryz.prog 0 q7 (memoO memo7) := memo_ok fun a v h h0 => by
  have := List.all_eq_true.1 told7 _ h
  simp only [Bool.and_eq_true] at this
  exact callOk_flat (by kernel_rfl) tab_ok this.2 this.1 h0
theorem o33 {p : Path} (h : p = q33 := by rfl) : EntG Go.Proofs.Tryz.prog 0 (planOf Go.Proofs.Tryz.prog 0) p (some O33) := by subst h; exact EntG.orc memo33_ok
theorem o7 {p : Path} (h : p = q7 := by rfl) : EntG Go.Proofs.Tryz.prog 0 (planOf Go.Proofs.Tryz.prog 0) p (some O7) := by subst h; exact EntG.orc memo7_ok
theorem o16 {p : Path} (h : p.num = 16 := by rfl) : EntG Go.Proofs.Tryz.prog 0 (planOf Go.Proofs.Tryz.prog 0) p (some O16) := EntG.orc (orc16 h)
theorem o18 {p : Path} (h : p.num = 18 := by rfl) : EntG Go.Proofs.Tryz.prog 0 (planOf Go.Proofs.Tryz.prog 0) p (some O18) := EntG.orc (orc18 h)
theorem o24 {p : Path} (h : p.num = 24 := by rfl) : EntG Go.Proofs.Tryz.prog 0 (planOf Go.Proofs.Tryz.prog 0) p (some O24) := EntG.orc (orc24 h)
theorem memo4_ok : OrcOk Go.Proofs.Tryz.prog 0 q4 (memoO memo4) := memo_ok fun a v h h0 => by
  have := List.all_eq_true.1 told4 _ h
  simp only [Bool.and_eq_true] at this
  exact callOk_flat (by kernel_rfl) tab_ok this.2 this.1 h0
theorem o4 {p : Path} (h : p = q4 := by rfl) : EntG Go.Proofs.Tryz.prog 0 (planOf Go.Proofs.Tryz.prog 0) p (some O4) := by subst h; exact EntG.orc memo4_ok
theorem tabO_ok : AllT (EntG Go.Proofs.Tryz.prog 0 (planOf Go.Proofs.Tryz.prog 0)) tabO := (show AllT _ tabO from ⟨EntG.none, ⟨EntG.none, ⟨e3, ⟨o7, ⟨e15, ⟨EntG.none, ⟨EntG.none, ⟨EntG.none, trivial, trivial⟩, ⟨EntG.none, trivial, trivial⟩⟩, ⟨EntG.none, ⟨EntG.none, trivial, trivial⟩, trivial⟩⟩, ⟨e47, ⟨e79, ⟨EntG.none, trivial, trivial⟩, ⟨EntG.none, trivial, trivial⟩⟩, ⟨e111, ⟨EntG.none, trivial, trivial⟩, trivial⟩⟩⟩, ⟨EntG.none, ⟨EntG.none, ⟨EntG.none, ⟨e135, trivial, trivial⟩, ⟨EntG.none, trivial, trivial⟩⟩, ⟨EntG.none, ⟨EntG.none, trivial, trivial⟩, trivial⟩⟩, ⟨EntG.none, ⟨EntG.none, ⟨EntG.none, trivial, trivial⟩, ⟨EntG.none, trivial, trivial⟩⟩, ⟨EntG.none, ⟨EntG.none, trivial, trivial⟩, trivial⟩⟩⟩⟩, ⟨e11, ⟨e19, ⟨e35, ⟨e67, ⟨EntG.none, trivial, trivial⟩, ⟨EntG.none, trivial, trivial⟩⟩, ⟨EntG.none, ⟨EntG.none, trivial, trivial⟩, trivial⟩⟩, ⟨e51, ⟨e83, ⟨EntG.none, trivial, trivial⟩, ⟨EntG.none, trivial, trivial⟩⟩, ⟨EntG.none, ⟨EntG.none, trivial, trivial⟩, trivial⟩⟩⟩, ⟨e27, ⟨e43, ⟨EntG.none, ⟨EntG.none, trivial, trivial⟩, ⟨EntG.none, trivial, trivial⟩⟩, ⟨EntG.none, ⟨EntG.none, trivial, trivial⟩, trivial⟩⟩, ⟨EntG.none, ⟨EntG.none, ⟨EntG.none, trivial, trivial⟩, ⟨EntG.none, trivial, trivial⟩⟩, ⟨e123, ⟨EntG.none, trivial, trivial⟩, trivial⟩⟩⟩⟩⟩, ⟨e5, ⟨e9, ⟨e17, ⟨o33, ⟨EntG.none, ⟨EntG.none, trivial, trivial⟩, ⟨EntG.none, trivial, trivial⟩⟩, ⟨EntG.none, ⟨EntG.none, trivial, trivial⟩, trivial⟩⟩, ⟨e49, ⟨EntG.none, ⟨e145, trivial, trivial⟩, ⟨EntG.none, trivial, trivial⟩⟩, ⟨e113, ⟨EntG.none, trivial, trivial⟩, trivial⟩⟩⟩, ⟨EntG.none, ⟨EntG.none, ⟨EntG.none, ⟨EntG.none, trivial, trivial⟩, ⟨EntG.none, trivial, trivial⟩⟩, ⟨EntG.none, ⟨EntG.none, trivial, trivial⟩, trivial⟩⟩, ⟨e57, ⟨EntG.none, ⟨EntG.none, trivial, trivial⟩, ⟨EntG.none, trivial, trivial⟩⟩, ⟨EntG.none, ⟨EntG.none, trivial, trivial⟩, trivial⟩⟩⟩⟩, ⟨e13, ⟨e21, ⟨EntG.none, ⟨EntG.none, ⟨EntG.none, trivial, trivial⟩, ⟨EntG.none, trivial, trivial⟩⟩, ⟨e101, ⟨EntG.none, trivial, trivial⟩, trivial⟩⟩, ⟨e53, ⟨e85, ⟨EntG.none, trivial, trivial⟩, ⟨EntG.none, trivial, trivial⟩⟩, ⟨EntG.none, ⟨EntG.none, trivial, trivial⟩, trivial⟩⟩⟩, ⟨EntG.none, ⟨EntG.none, ⟨e77, ⟨e141, trivial, trivial⟩, ⟨EntG.none, trivial, trivial⟩⟩, ⟨e109, ⟨EntG.none, trivial, trivial⟩, trivial⟩⟩, ⟨EntG.none, ⟨EntG.none, ⟨EntG.none, trivial, trivial⟩, trivial⟩, ⟨e125, ⟨EntG.none, trivial, trivial⟩, trivial⟩⟩⟩⟩⟩⟩, ⟨EntG.none, ⟨o4, ⟨e8, ⟨o16, ⟨e32, ⟨EntG.none, ⟨EntG.none, trivial, trivial⟩, ⟨EntG.none, trivial, trivial⟩⟩, ⟨EntG.none, ⟨EntG.none, trivial, trivial⟩, trivial⟩⟩, ⟨e48, ⟨e80, ⟨EntG.none, trivial, trivial⟩, ⟨EntG.none, trivial, trivial⟩⟩, ⟨EntG.none, ⟨EntG.none, trivial, trivial⟩, trivial⟩⟩⟩, ⟨o24, ⟨EntG.none, ⟨EntG.none, ⟨e136, trivial, trivial⟩, ⟨EntG.none, trivial, trivial⟩⟩, ⟨EntG.none, ⟨EntG.none, trivial, trivial⟩, trivial⟩⟩, ⟨EntG.none, ⟨EntG.none, ⟨EntG.none, trivial, trivial⟩, ⟨EntG.none, trivial, trivial⟩⟩, ⟨EntG.none, ⟨EntG.none, trivial, trivial⟩, trivial⟩⟩⟩⟩, ⟨e12, ⟨e20, ⟨EntG.none, ⟨e68, ⟨EntG.none, trivial, trivial⟩, ⟨EntG.none, trivial, trivial⟩⟩, ⟨e100, ⟨EntG.none, trivial, trivial⟩, trivial⟩⟩, ⟨e52, ⟨EntG.none, ⟨EntG.none, trivial, trivial⟩, ⟨EntG.none, trivial, trivial⟩⟩, ⟨EntG.none, ⟨EntG.none, trivial, trivial⟩, trivial⟩⟩⟩, ⟨e28, ⟨e44, ⟨e76, ⟨EntG.none, trivial, trivial⟩, ⟨EntG.none, trivial, trivial⟩⟩, ⟨EntG.none, ⟨EntG.none, trivial, trivial⟩, trivial⟩⟩, ⟨EntG.none, ⟨EntG.none, ⟨EntG.none, trivial, trivial⟩, ⟨EntG.none, trivial, trivial⟩⟩, ⟨e124, ⟨EntG.none, trivial, trivial⟩, trivial⟩⟩⟩⟩⟩, ⟨e6, ⟨e10, ⟨o18, ⟨e34, ⟨EntG.none, ⟨EntG.none, trivial, trivial⟩, ⟨EntG.none, trivial, trivial⟩⟩, ⟨e98, ⟨EntG.none, trivial, trivial⟩, trivial⟩⟩, ⟨EntG.none, ⟨EntG.none, ⟨EntG.none, trivial, trivial⟩, ⟨EntG.none, trivial, trivial⟩⟩, ⟨EntG.none, ⟨EntG.none, trivial, trivial⟩, trivial⟩⟩⟩, ⟨EntG.none, ⟨e42, ⟨EntG.none, ⟨e138, trivial, trivial⟩, ⟨EntG.none, trivial, trivial⟩⟩, ⟨EntG.none, ⟨EntG.none, trivial, trivial⟩, trivial⟩⟩, ⟨EntG.none, ⟨EntG.none, ⟨EntG.none, trivial, trivial⟩, ⟨EntG.none, trivial, trivial⟩⟩, ⟨EntG.none, ⟨EntG.none, trivial, trivial⟩, trivial⟩⟩⟩⟩, ⟨e14, ⟨e22, ⟨EntG.none, ⟨EntG.none, ⟨e134, trivial, trivial⟩, ⟨EntG.none, trivial, trivial⟩⟩, ⟨EntG.none, ⟨EntG.none, trivial, trivial⟩, trivial⟩⟩, ⟨EntG.none, ⟨e86, ⟨EntG.none, trivial, trivial⟩, ⟨EntG.none, trivial, trivial⟩⟩, ⟨EntG.none, ⟨EntG.none, trivial, trivial⟩, trivial⟩⟩⟩, ⟨EntG.none, ⟨e46, ⟨e78, ⟨EntG.none, trivial, trivial⟩, ⟨EntG.none, trivial, trivial⟩⟩, ⟨e110, ⟨EntG.none, trivial, trivial⟩, trivial⟩⟩, ⟨EntG.none, ⟨EntG.none, ⟨EntG.none, trivial, trivial⟩, trivial⟩, ⟨e126, ⟨EntG.none, trivial, trivial⟩, trivial⟩⟩⟩⟩⟩⟩⟩)
end

end Code
end Go.Proofs.YtfcmehmbjajggaaGreatDoor
