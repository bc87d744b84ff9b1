/- CalcClone, the walks: ref1.fix, plus. -/
import Derived.Test.YtgbdldcpndfebaaGreatDoorCcFix
set_option linter.unusedSimpArgs false
set_option linter.unusedVariables false
namespace Go.Proofs.YtgbdldcpndfebaaGreatDoor
open Go Go.RowKit Go.Proofs Go.Cc
set_option maxRecDepth 100000 in
set_option maxHeartbeats 2000000 in
theorem fix_pos (x : Nat) (h : x ≤ 2147483648) (w : World) : Calls Tryz.prog 47 #[wV x, .bool false] w fun e w' => e = .returned (.tuple #[n64 x, .bool true]) ∧ Below w.heap.size w w' := by
  have hor : bits BinOp.or IntKind.u64 0 0 = 0 := by kernel_rfl
  have hx : decide ((9223372036854775808 : Int) ≤ (x : Int)) = false := decide_eq_false (by omega)
  have hx2 : decide (9223372036854775808 ≤ x) = false := decide_eq_false (by omega)
  have hwx : IntKind.u64.wrap (x : Int) = x := by rw [IntKind.wrap_u64]; omega
  have e1 : wrap64 (x : Int) = x := by unfold wrap64; omega
  clear h
  go_enter Tryz.func47, Tryz.ntmps47
  iterate 112 (try go_step)
  refine wp_cond_split rfl (fun hc => ?_) (fun hc => ?_)
  · cases hc
  · clear hc hx hx2
    go_wp2
    go_ret2
    refine ⟨?_, (Below.refl _ _).alloc (Nat.le_refl _) _⟩
    first | rfl | (simp [e1]; done) | trace_state
end Go.Proofs.YtgbdldcpndfebaaGreatDoor
