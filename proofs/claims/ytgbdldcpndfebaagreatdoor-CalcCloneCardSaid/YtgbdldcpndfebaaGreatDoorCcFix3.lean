/- CalcClone, the walks: ref1.fix below 0. -/
import Derived.Test.YtgbdldcpndfebaaGreatDoorCcFix2
set_option linter.unusedSimpArgs false
set_option linter.unusedVariables false
namespace Go.Proofs.YtgbdldcpndfebaaGreatDoor
open Go Go.RowKit Go.Proofs Go.Cc
set_option maxRecDepth 100000 in
set_option maxHeartbeats 2000000 in
theorem fix_neg (x : Nat) (h : x ≤ 2147483648) (h0 : 0 < x) (w : World) : Calls Tryz.prog 47 #[wV x, .bool true] w fun e w' => e = .returned (.tuple #[n64 (-(x : Int)), .bool true]) ∧ Below w.heap.size w w' := by
  have hor : bits BinOp.or IntKind.u64 0 0 = 0 := by kernel_rfl
  have hx : decide ((9223372036854775808 : Int) < (x : Int)) = false := decide_eq_false (by omega)
  have hwx : IntKind.u64.wrap (x : Int) = x := by rw [IntKind.wrap_u64]; omega
  have hz : ((x : Int) == 0) = false := by simp; omega
  have e1 : wrap64 (x : Int) = x := by unfold wrap64; omega
  have e2 : IntKind.u64.wrap ((x : Int) - 1) = x - 1 := by rw [IntKind.wrap_u64]; omega
  have e3 : wrap64 ((x : Int) - 1) = x - 1 := by unfold wrap64; omega
  go_enter Tryz.func47, Tryz.ntmps47
  iterate 112 (try go_step)
  have HK : Hid (x ≤ 2147483648) := h
  clear h
  go_wp2
  go_ret2
  refine ⟨?_, (Below.refl _ _).alloc (Nat.le_refl _) _⟩
  refine congrArg (fun z => Ending.returned (.tuple #[.int .i64 z, .bool true])) (?_ : wrap64 (wrap64 (-((x : Int) - 1)) - 1) = -(x : Int))
  have hk := HK.out
  clear e1 e2 e3 hwx hz hx HK
  unfold wrap64
  omega
end Go.Proofs.YtgbdldcpndfebaaGreatDoor
