/- CalcClone, the walks: ref1.one, fix, Num. -/
import Derived.Test.YtgbdldcpndfebaaGreatDoorCcPrint
import Derived.Laws.Rows
import Derived.KernelRfl
set_option linter.unusedSimpArgs false
set_option linter.unusedVariables false
namespace Go.Proofs.YtgbdldcpndfebaaGreatDoor
open Go Go.RowKit Go.Proofs Go.Cc

abbrev wV (x : Nat) : Value := .agg #[nu x, nu 0, nu 0, nu 0, nu 0, nu 0]

set_option maxRecDepth 100000 in
set_option maxHeartbeats 2000000 in
theorem num_w (a : Int) (w : World) : Calls Tryz.prog 18 #[n64 a] w fun e w' => e = .returned (.agg #[n64 1, n64 a, .string ⟨#[]⟩, .bool false, n64 0]) ∧ Below w.heap.size w w' := by
  go_enter Tryz.func18, Tryz.ntmps18
  go_wp2
  refine bodyPost_ret (v := .agg #[n64 1, n64 a, .string ⟨#[]⟩, .bool false, n64 0]) ?_ rfl ⟨rfl, (Below.refl _ _).alloc (Nat.le_refl _) _⟩
  exact results_cell_row (P := Tryz.prog) rfl _ _ w.heap.size 27 _ (0, 0) _ rfl (heap_alloc_last w _) Tryz.underlying27 rfl (by kernel_rfl)

set_option maxRecDepth 100000 in
set_option maxHeartbeats 2000000 in
theorem one_w (x : Nat) (h : x < 4294967296) (w : World) : Calls Tryz.prog 46 #[nu x] w fun e w' => e = .returned (wV x) ∧ Below w.heap.size w w' := by
  have e1 : (x : Int) % 4294967296 = x := by omega
  have e2 : (x : Int) / 4294967296 = 0 := by omega
  go_enter Tryz.func46, Tryz.ntmps46
  go_wp2
  all_goals refine bodyPost_ret (v := wV x) ?_ rfl ⟨rfl, ?_⟩
  · exact results_cell_row (P := Tryz.prog) rfl _ _ w.heap.size 107 _ (0, 0) _ rfl ((Below.heap_alloc _ _ _ (by simp)).trans (heap_alloc_last w _)) Tryz.underlying107 rfl (by kernel_rfl)
  · exact ((Below.refl _ _).alloc (Nat.le_refl _) _).alloc (by simp) _
end Go.Proofs.YtgbdldcpndfebaaGreatDoor
