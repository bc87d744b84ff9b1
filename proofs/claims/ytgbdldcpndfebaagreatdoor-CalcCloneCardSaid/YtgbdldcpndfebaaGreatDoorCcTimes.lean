/- CalcClone, the walks: ref1.times by 10 where no digit is carried. -/
import Derived.Test.YtgbdldcpndfebaaGreatDoorCcRes
import Derived.StillTailTactics
set_option linter.unusedSimpArgs false
set_option linter.unusedVariables false
namespace Go.Proofs.YtgbdldcpndfebaaGreatDoor
open Go Go.RowKit Go.Proofs Go.Cc
set_option maxRecDepth 100000 in
set_option maxHeartbeats 2000000 in
theorem one_e (w : World) : Calls Tryz.prog 46 #[nu 10] w fun e w' => e = .returned (wV 10) ∧ ∃ A B, w' = (w.alloc A).alloc B := by
  go_enter Tryz.func46, Tryz.ntmps46
  go_wp2
  all_goals refine bodyPost_ret (v := wV 10) ?_ rfl ⟨rfl, ?_⟩
  · exact results_cell_row (P := Tryz.prog) rfl _ _ w.heap.size 107 _ (0, 0) _ rfl ((Below.heap_alloc _ _ _ (by simp)).trans (heap_alloc_last w _)) Tryz.underlying107 rfl (by kernel_rfl)
  · exact ⟨_, _, rfl⟩

/-- What stands in memory while the product is made. -/
structure TW (w : World) (x : Nat) (r : Int) (W : World) : Prop where
  below : Below w.heap.size w W
  a : W.heap[w.heap.size]? = some (.cells #[nu x, nu 0, nu 0, nu 0, nu 0, nu 0] 107 (0, 0))
  t : W.heap[w.heap.size + 1]? = some (.cells #[nu 0, nu 0, nu 0, nu 0, nu 0, nu 0] 107 (0, 0))
  b : W.heap[w.heap.size + 1 + 1 + 1 + 1]? = some (.cells #[nu 10, nu 0, nu 0, nu 0, nu 0, nu 0] 107 (0, 0))
  r : W.heap[w.heap.size + 1 + 1 + 1 + 1 + 1]? = some (.cells #[.int .u64 r, nu 0, nu 0, nu 0, nu 0, nu 0] 107 (0, 0))
theorem TW.st {w W : World} {x : Nat} {r r' : Int} (h : TW w x r W) (o : Nat) (v : Value) (he : (#[.int .u64 r, nu 0, nu 0, nu 0, nu 0, nu 0] : Array Value).setIfInBounds o v = #[.int .u64 r', nu 0, nu 0, nu 0, nu 0, nu 0]) : TW w x r' (W.setCell ⟨w.heap.size + 1 + 1 + 1 + 1 + 1, o, none⟩ v) :=
  ⟨bl_set _ _ (by omega) h.below, (set_other _ _ _ _ _ (by omega)).trans h.a, (set_other _ _ _ _ _ (by omega)).trans h.t, (set_other _ _ _ _ _ (by omega)).trans h.b, set_is _ he h.r⟩
theorem TW.dr {w W : World} {x : Nat} {r : Int} (h : TW w x r W) (n : Nat) : TW w x r (W.drewN n) := ⟨bl_drew _ h.below, h.a, h.t, h.b, h.r⟩
theorem TW.start (w : World) (x : Nat) (A B : Obj) : TW w x 0 ((((((w.alloc (.cells #[nu x, nu 0, nu 0, nu 0, nu 0, nu 0] 107)).alloc (.cells #[nu 0, nu 0, nu 0, nu 0, nu 0, nu 0] 107)).alloc A).alloc B).alloc (.cells #[nu 10, nu 0, nu 0, nu 0, nu 0, nu 0] 107)).alloc (.cells #[nu 0, nu 0, nu 0, nu 0, nu 0, nu 0] 107)) := by
  refine ⟨?_, ?_, ?_, ?_, ?_⟩
  · iterate 6 refine bl_new _ (by simp; try omega) ?_
    exact Below.refl _ _
  · iterate 5 refine (alloc_old _ _ _ (by simp; try omega)).trans ?_
    exact alloc_at _ _ _ (by simp)
  · iterate 4 refine (alloc_old _ _ _ (by simp; try omega)).trans ?_
    exact alloc_at _ _ _ (by simp)
  · refine (alloc_old _ _ _ (by simp)).trans ?_
    exact alloc_at _ _ _ (by simp)
  · exact alloc_at _ _ _ (by simp)
section
variable {w W : World} {x : Nat} {r : Int} (h : TW w x r W)
include h
theorem TW.ca (j : Nat) (v : Value) (hv : (#[nu x, nu 0, nu 0, nu 0, nu 0, nu 0] : Array Value)[j]? = some v) : W.cell? ⟨w.heap.size, j, none⟩ = some v := (Go.Joins.cell_of_block h.a j).trans hv
theorem TW.cb (j : Nat) (v : Value) (hv : (#[nu 10, nu 0, nu 0, nu 0, nu 0, nu 0] : Array Value)[j]? = some v) : W.cell? ⟨w.heap.size + 1 + 1 + 1 + 1, j, none⟩ = some v := (Go.Joins.cell_of_block h.b j).trans hv
theorem TW.cr (j : Nat) (v : Value) (hv : (#[.int .u64 r, nu 0, nu 0, nu 0, nu 0, nu 0] : Array Value)[j]? = some v) : W.cell? ⟨w.heap.size + 1 + 1 + 1 + 1 + 1, j, none⟩ = some v := (Go.Joins.cell_of_block h.r j).trans hv
theorem TW.ct (j : Nat) (v : Value) (hv : (#[nu 0, nu 0, nu 0, nu 0, nu 0, nu 0] : Array Value)[j]? = some v) : W.cell? ⟨w.heap.size + 1, j, none⟩ = some v := (Go.Joins.cell_of_block h.t j).trans hv
theorem TW.fr (j : Nat) : W.frozen? ⟨w.heap.size + 1 + 1 + 1 + 1 + 1, j, none⟩ = false := Go.Joins.unfrozen_of_block h.r j
theorem TW.ft (j : Nat) : W.frozen? ⟨w.heap.size + 1, j, none⟩ = false := Go.Joins.unfrozen_of_block h.t j
end
set_option maxRecDepth 100000 in
set_option maxHeartbeats 8000000 in
theorem times_w (x : Nat) (h : 10 * x < 4294967296) (w : World) : Calls Tryz.prog 44 #[wV x, nu 10] w fun e w' => e = .returned (wV (10 * x)) ∧ Below w.heap.size w w' := by
  have e1 : ((x : Int) * 10) % 4294967296 = x * 10 := by omega
  have e2 : ((x : Int) * 10) / 4294967296 = 0 := by omega
  have ew : IntKind.u64.wrap ((x : Int) * 10) = x * 10 := by rw [IntKind.wrap_u64]; omega
  have w1 : IntKind.i64.wrap 1 = 1 := by kernel_rfl
  have w01 : IntKind.i64.wrap (0 + 1) = 1 := by kernel_rfl
  have w2 : IntKind.i64.wrap 2 = 2 := by kernel_rfl
  have w3 : IntKind.i64.wrap 3 = 3 := by kernel_rfl
  have w4 : IntKind.i64.wrap 4 = 4 := by kernel_rfl
  have w5 : IntKind.i64.wrap 5 = 5 := by kernel_rfl
  have w6 : IntKind.i64.wrap 6 = 6 := by kernel_rfl
  go_enter Tryz.func44, Tryz.ntmps44
  go_wp2_with (first
    | (go_at_call 46; refine (one_e _).mono ?_; rintro e w1 ⟨rfl, A, B, rfl⟩)
    | fail)
  go_loopw [7] (fun v7 wr => ∃ i : Nat, i ≤ 6 ∧ v7 = n64 i ∧ Hid (TW w x (if i = 0 then 0 else x * 10) wr)) (fun v7 _ => (6 - intOf v7).toNat)
  case atStart => exact ⟨0, by omega, rfl, TW.start w x A B⟩
  case round =>
    obtain ⟨i, hi, rfl, HT⟩ := hrel
    have hi' : i = 0 ∨ i = 1 ∨ i = 2 ∨ i = 3 ∨ i = 4 ∨ i = 5 ∨ i = 6 := by omega
    clear hi
    rcases hi' with rfl | rfl | rfl | rfl | rfl | rfl | rfl
    · have HT0 : Hid (TW w x 0 wr) := HT
      clear HT
      have ca0 := HT0.out.ca 0 (nu x) rfl
      have cb0 := HT0.out.cb 0 (nu 10) rfl
      have cb1 := HT0.out.cb 1 (nu 0) rfl
      have cr0 := HT0.out.cr 0 (nu 0) rfl
      have fr0 := HT0.out.fr 0
      have cr1 := HT0.out.cr 1 (nu 0) rfl
      have fr1 := HT0.out.fr 1
      have cr2 := HT0.out.cr 2 (nu 0) rfl
      have fr2 := HT0.out.fr 2
      go_wp2
      refine wp_loop_rounds 3 ?_
      iterate 2
        rw [rounds_succ]
        go_wp2
        go_quiet (fail)
        go_wp2
      rw [rounds_succ]
      go_wp2
      refine ⟨⟨1, by omega, rfl, (?_ : TW w x ((x : Int) * 10) _)⟩, by decide⟩
      refine TW.st (r := (x : Int) * 10) ?_ _ _ rfl
      refine TW.st (r := (x : Int) * 10) ?_ _ _ rfl
      refine TW.dr ?_ _
      refine TW.st (r := 0) ?_ _ _ rfl
      refine TW.dr ?_ _
      exact HT0.out
    · have HT0 : Hid (TW w x ((x : Int) * 10) wr) := HT
      clear HT
      have ca0 := HT0.out.ca 1 (nu 0) rfl
      have cb0 := HT0.out.cb 0 (nu 10) rfl
      have cb1 := HT0.out.cb 1 (nu 0) rfl
      have cr1 := HT0.out.cr 1 (nu 0) rfl
      have fr1 := HT0.out.fr 1
      have cr2 := HT0.out.cr 2 (nu 0) rfl
      have fr2 := HT0.out.fr 2
      have cr3 := HT0.out.cr 3 (nu 0) rfl
      have fr3 := HT0.out.fr 3
      go_wp2
      refine wp_loop_rounds 3 ?_
      iterate 2
        rw [rounds_succ]
        go_wp2
        go_quiet (fail)
        go_wp2
      rw [rounds_succ]
      go_wp2
      refine ⟨⟨2, by omega, rfl, (?_ : TW w x ((x : Int) * 10) _)⟩, by decide⟩
      refine TW.st (r := (x : Int) * 10) ?_ _ _ rfl
      refine TW.st (r := (x : Int) * 10) ?_ _ _ rfl
      refine TW.dr ?_ _
      refine TW.st (r := ((x : Int) * 10)) ?_ _ _ rfl
      refine TW.dr ?_ _
      exact HT0.out
    · have HT0 : Hid (TW w x ((x : Int) * 10) wr) := HT
      clear HT
      have ca0 := HT0.out.ca 2 (nu 0) rfl
      have cb0 := HT0.out.cb 0 (nu 10) rfl
      have cb1 := HT0.out.cb 1 (nu 0) rfl
      have cr2 := HT0.out.cr 2 (nu 0) rfl
      have fr2 := HT0.out.fr 2
      have cr3 := HT0.out.cr 3 (nu 0) rfl
      have fr3 := HT0.out.fr 3
      have cr4 := HT0.out.cr 4 (nu 0) rfl
      have fr4 := HT0.out.fr 4
      go_wp2
      refine wp_loop_rounds 3 ?_
      iterate 2
        rw [rounds_succ]
        go_wp2
        go_quiet (fail)
        go_wp2
      rw [rounds_succ]
      go_wp2
      refine ⟨⟨3, by omega, rfl, (?_ : TW w x ((x : Int) * 10) _)⟩, by decide⟩
      refine TW.st (r := (x : Int) * 10) ?_ _ _ rfl
      refine TW.st (r := (x : Int) * 10) ?_ _ _ rfl
      refine TW.dr ?_ _
      refine TW.st (r := ((x : Int) * 10)) ?_ _ _ rfl
      refine TW.dr ?_ _
      exact HT0.out
    · have HT0 : Hid (TW w x ((x : Int) * 10) wr) := HT
      clear HT
      have ca0 := HT0.out.ca 3 (nu 0) rfl
      have cb0 := HT0.out.cb 0 (nu 10) rfl
      have cb1 := HT0.out.cb 1 (nu 0) rfl
      have cr3 := HT0.out.cr 3 (nu 0) rfl
      have fr3 := HT0.out.fr 3
      have cr4 := HT0.out.cr 4 (nu 0) rfl
      have fr4 := HT0.out.fr 4
      have cr5 := HT0.out.cr 5 (nu 0) rfl
      have fr5 := HT0.out.fr 5
      go_wp2
      refine wp_loop_rounds 3 ?_
      iterate 2
        rw [rounds_succ]
        go_wp2
        go_quiet (fail)
        go_wp2
      rw [rounds_succ]
      go_wp2
      refine ⟨⟨4, by omega, rfl, (?_ : TW w x ((x : Int) * 10) _)⟩, by decide⟩
      refine TW.st (r := (x : Int) * 10) ?_ _ _ rfl
      refine TW.st (r := (x : Int) * 10) ?_ _ _ rfl
      refine TW.dr ?_ _
      refine TW.st (r := ((x : Int) * 10)) ?_ _ _ rfl
      refine TW.dr ?_ _
      exact HT0.out
    · have HT0 : Hid (TW w x ((x : Int) * 10) wr) := HT
      clear HT
      have ca0 := HT0.out.ca 4 (nu 0) rfl
      have cb0 := HT0.out.cb 0 (nu 10) rfl
      have cb1 := HT0.out.cb 1 (nu 0) rfl
      have cr4 := HT0.out.cr 4 (nu 0) rfl
      have fr4 := HT0.out.fr 4
      have cr5 := HT0.out.cr 5 (nu 0) rfl
      have fr5 := HT0.out.fr 5
      go_wp2
      refine wp_loop_rounds 3 ?_
      iterate 2
        rw [rounds_succ]
        go_wp2
        go_quiet (fail)
        go_wp2
      rw [rounds_succ]
      go_wp2
      refine ⟨⟨5, by omega, rfl, (?_ : TW w x ((x : Int) * 10) _)⟩, by decide⟩
      refine TW.st (r := (x : Int) * 10) ?_ _ _ rfl
      refine TW.dr ?_ _
      refine TW.st (r := ((x : Int) * 10)) ?_ _ _ rfl
      refine TW.dr ?_ _
      exact HT0.out
    · have HT0 : Hid (TW w x ((x : Int) * 10) wr) := HT
      clear HT
      have ca0 := HT0.out.ca 5 (nu 0) rfl
      have cb0 := HT0.out.cb 0 (nu 10) rfl
      have cb1 := HT0.out.cb 1 (nu 0) rfl
      have cr5 := HT0.out.cr 5 (nu 0) rfl
      have fr5 := HT0.out.fr 5
      go_wp2
      refine wp_loop_rounds 3 ?_
      iterate 1
        rw [rounds_succ]
        go_wp2
        go_quiet (fail)
        go_wp2
      rw [rounds_succ]
      go_wp2
      refine ⟨⟨6, by omega, rfl, (?_ : TW w x ((x : Int) * 10) _)⟩, by decide⟩
      refine TW.st (r := ((x : Int) * 10)) ?_ _ _ rfl
      refine TW.dr ?_ _
      exact HT0.out
    · have HT0 : Hid (TW w x ((x : Int) * 10) wr) := HT
      clear HT
      go_wp2
      go_loopw [10] (fun v10 wq => ∃ j : Nat, j ≤ 5 ∧ v10 = n64 j ∧ Hid (TW w x ((x : Int) * 10) wq)) (fun v10 _ => (5 - intOf v10).toNat)
      case atStart => exact ⟨0, by omega, rfl, HT0⟩
      case round =>
        obtain ⟨j, hj, rfl, HT⟩ := hrel
        have hj' : j = 0 ∨ j = 1 ∨ j = 2 ∨ j = 3 ∨ j = 4 ∨ j = 5 := by omega
        clear hj
        rcases hj' with rfl | rfl | rfl | rfl | rfl | rfl
        · have cr0 := HT.out.cr 0 (.int .u64 ((x : Int) * 10)) rfl
          have cr1 := HT.out.cr 1 (nu 0) rfl
          have fr0 := HT.out.fr 0
          have fr1 := HT.out.fr 1
          have HT1 : Hid (TW w x ((x : Int) * 10) wr) := HT
          clear HT
          go_wp2
          go_still_tail 10, (by kernel_rfl)
          go_wp2
          refine ⟨?_, (show (5 - intOf (n64 1)).toNat < (5 - intOf (n64 0)).toNat by decide)⟩
          (repeat apply Exists.intro)
          refine ⟨⟨1, by omega, rfl, (?_ : TW w x ((x : Int) * 10) _)⟩, rfl⟩
          rw [World.drew_is_drewN]
          refine TW.dr ?_ 1
          refine TW.st (r := (x : Int) * 10) ?_ _ _ rfl
          refine TW.st (r := (x : Int) * 10) ?_ _ _ rfl
          exact HT1.out
        · have cr0 := HT.out.cr 1 (nu 0) rfl
          have cr1 := HT.out.cr 2 (nu 0) rfl
          have fr0 := HT.out.fr 1
          have fr1 := HT.out.fr 2
          have HT1 : Hid (TW w x ((x : Int) * 10) wr) := HT
          clear HT
          go_wp2
          go_still_tail 10, (by kernel_rfl)
          go_wp2
          refine ⟨?_, (show (5 - intOf (n64 2)).toNat < (5 - intOf (n64 1)).toNat by decide)⟩
          (repeat apply Exists.intro)
          refine ⟨⟨2, by omega, rfl, (?_ : TW w x ((x : Int) * 10) _)⟩, rfl⟩
          rw [World.drew_is_drewN]
          refine TW.dr ?_ 1
          refine TW.st (r := (x : Int) * 10) ?_ _ _ rfl
          refine TW.st (r := (x : Int) * 10) ?_ _ _ rfl
          exact HT1.out
        · have cr0 := HT.out.cr 2 (nu 0) rfl
          have cr1 := HT.out.cr 3 (nu 0) rfl
          have fr0 := HT.out.fr 2
          have fr1 := HT.out.fr 3
          have HT1 : Hid (TW w x ((x : Int) * 10) wr) := HT
          clear HT
          go_wp2
          go_still_tail 10, (by kernel_rfl)
          go_wp2
          refine ⟨?_, (show (5 - intOf (n64 3)).toNat < (5 - intOf (n64 2)).toNat by decide)⟩
          (repeat apply Exists.intro)
          refine ⟨⟨3, by omega, rfl, (?_ : TW w x ((x : Int) * 10) _)⟩, rfl⟩
          rw [World.drew_is_drewN]
          refine TW.dr ?_ 1
          refine TW.st (r := (x : Int) * 10) ?_ _ _ rfl
          refine TW.st (r := (x : Int) * 10) ?_ _ _ rfl
          exact HT1.out
        · have cr0 := HT.out.cr 3 (nu 0) rfl
          have cr1 := HT.out.cr 4 (nu 0) rfl
          have fr0 := HT.out.fr 3
          have fr1 := HT.out.fr 4
          have HT1 : Hid (TW w x ((x : Int) * 10) wr) := HT
          clear HT
          go_wp2
          go_still_tail 10, (by kernel_rfl)
          go_wp2
          refine ⟨?_, (show (5 - intOf (n64 4)).toNat < (5 - intOf (n64 3)).toNat by decide)⟩
          (repeat apply Exists.intro)
          refine ⟨⟨4, by omega, rfl, (?_ : TW w x ((x : Int) * 10) _)⟩, rfl⟩
          rw [World.drew_is_drewN]
          refine TW.dr ?_ 1
          refine TW.st (r := (x : Int) * 10) ?_ _ _ rfl
          refine TW.st (r := (x : Int) * 10) ?_ _ _ rfl
          exact HT1.out
        · have cr0 := HT.out.cr 4 (nu 0) rfl
          have cr1 := HT.out.cr 5 (nu 0) rfl
          have fr0 := HT.out.fr 4
          have fr1 := HT.out.fr 5
          have HT1 : Hid (TW w x ((x : Int) * 10) wr) := HT
          clear HT
          go_wp2
          go_still_tail 10, (by kernel_rfl)
          go_wp2
          refine ⟨?_, (show (5 - intOf (n64 5)).toNat < (5 - intOf (n64 4)).toNat by decide)⟩
          (repeat apply Exists.intro)
          refine ⟨⟨5, by omega, rfl, (?_ : TW w x ((x : Int) * 10) _)⟩, rfl⟩
          rw [World.drew_is_drewN]
          refine TW.dr ?_ 1
          refine TW.st (r := (x : Int) * 10) ?_ _ _ rfl
          refine TW.st (r := (x : Int) * 10) ?_ _ _ rfl
          exact HT1.out
        · have HT1 : Hid (TW w x ((x : Int) * 10) wr) := HT
          clear HT
          have cr0 := HT1.out.cr 0 (.int .u64 ((x : Int) * 10)) rfl
          have ct0 := HT1.out.ct 0 (nu 0) rfl
          have ft0 := HT1.out.ft 0
          have cr1 := HT1.out.cr 1 (nu 0) rfl
          have ct1 := HT1.out.ct 1 (nu 0) rfl
          have ft1 := HT1.out.ft 1
          have cr2 := HT1.out.cr 2 (nu 0) rfl
          have ct2 := HT1.out.ct 2 (nu 0) rfl
          have ft2 := HT1.out.ft 2
          have cr3 := HT1.out.cr 3 (nu 0) rfl
          have ct3 := HT1.out.ct 3 (nu 0) rfl
          have ft3 := HT1.out.ft 3
          have cr4 := HT1.out.cr 4 (nu 0) rfl
          have ct4 := HT1.out.ct 4 (nu 0) rfl
          have ft4 := HT1.out.ft 4
          have cr5 := HT1.out.cr 5 (nu 0) rfl
          have ct5 := HT1.out.ct 5 (nu 0) rfl
          have ft5 := HT1.out.ft 5
          go_wp2
          refine bodyPost_ret (v := wV (10 * x)) ?_ rfl ⟨rfl, ?_⟩
          · refine res_cell (cs := #[.int .u64 ((x : Int) * 10), nu 0, nu 0, nu 0, nu 0, nu 0]) rfl rfl ?_ ?_ rfl
            · iterate 5 refine set_is #[.int .u64 ((x : Int) * 10), nu 0, nu 0, nu 0, nu 0, nu 0] rfl ?_
              refine set_is #[nu 0, nu 0, nu 0, nu 0, nu 0, nu 0] rfl ?_
              exact HT1.out.t
            · exact congrArg (fun z => Value.agg #[.int .u64 z, nu 0, nu 0, nu 0, nu 0, nu 0]) (by omega)
          · iterate 6 refine bl_set _ _ (by omega) ?_
            exact HT1.out.below
end Go.Proofs.YtgbdldcpndfebaaGreatDoor
