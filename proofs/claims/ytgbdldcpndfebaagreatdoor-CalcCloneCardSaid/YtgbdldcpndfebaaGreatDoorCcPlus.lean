/- CalcClone, the walks: ref1.plus where no digit is carried. -/
import Derived.Test.YtgbdldcpndfebaaGreatDoorCcRes
set_option linter.unusedSimpArgs false
set_option linter.unusedVariables false
namespace Go.Proofs.YtgbdldcpndfebaaGreatDoor
open Go Go.RowKit Go.Proofs Go.Cc
set_option maxRecDepth 100000 in
set_option maxHeartbeats 4000000 in
theorem plus_w (x d : Nat) (h : x + d < 4294967296) (w : World) : Calls Tryz.prog 45 #[wV x, wV d] w fun e w' => e = .returned (wV (x + d)) ∧ Below w.heap.size w w' := by
  have e1 : ((x : Int) + d) % 4294967296 = x + d := by omega
  have e2 : ((x : Int) + d) / 4294967296 = 0 := by omega
  have ew : IntKind.u64.wrap ((x : Int) + d) = x + d := by rw [IntKind.wrap_u64]; omega
  go_enter Tryz.func45, Tryz.ntmps45
  go_wp2
  refine wp_loop_rounds 7 ?_
  iterate 6
    rw [rounds_succ]
    go_wp2
    go_quiet (fail)
    go_wp2
  rw [rounds_succ]
  go_wp2
  refine bodyPost_ret (v := wV (x + d)) ?_ rfl ⟨rfl, ?_⟩
  · refine res_cell (cs := #[.int .u64 ((x : Int) + d), nu 0, nu 0, nu 0, nu 0, nu 0]) rfl rfl ?hg rfl rfl
    iterate 5 refine set_is #[.int .u64 ((x : Int) + d), nu 0, nu 0, nu 0, nu 0, nu 0] rfl ?_
    refine set_is #[nu 0, nu 0, nu 0, nu 0, nu 0, nu 0] rfl ?_
    iterate 6
      refine (set_other _ _ _ _ _ (by omega)).trans ?_
      refine (drewN_at _ _ _).trans ?_
    refine (alloc_old _ _ _ (by simp)).trans ?_
    exact alloc_at _ _ _ (by simp)
  · iterate 6 refine bl_set _ _ (by omega) ?_
    iterate 6
      refine bl_set _ _ (by omega) ?_
      refine bl_drew _ ?_
    iterate 4 refine bl_new _ (by simp; try omega) ?_
    exact Below.refl _ _
end Go.Proofs.YtgbdldcpndfebaaGreatDoor
