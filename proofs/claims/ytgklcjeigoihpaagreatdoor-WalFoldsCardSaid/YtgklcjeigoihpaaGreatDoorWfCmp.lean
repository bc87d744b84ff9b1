/- WalFolds, the walks: how two places are compared. -/
import Derived.Test.YtgklcjeigoihpaaGreatDoorWfSum
import Derived.StillTailTactics
import Derived.RegionTactic
import Derived.Deep.RegionWith
import Derived.Sort.OwnSorted
set_option linter.unusedSimpArgs false
set_option linter.unusedVariables false
namespace Go.Proofs.YtgklcjeigoihpaaGreatDoor
open Go Go.RowKit Go.Proofs Go.Sort

def cf1 (x y : Int) : Int := if x < y then -1 else if y < x then 1 else 0

set_option maxRecDepth 100000 in
theorem nan_w (x : Int) (W : World) : Calls Tryz.prog 155 #[n64 x] W fun e w' => e = .returned (.bool false) ∧ w' = W := by
  go_enter Tryz.func155, Tryz.ntmps155
  go_wp2
  all_goals go_ret
  all_goals first
    | exact ⟨rfl, rfl⟩
    | (simp; done)
set_option maxRecDepth 100000 in
theorem cmp_w (x y : Int) (W : World) : Calls Tryz.prog 136 #[n64 x, n64 y] W fun e w' => e = .returned (n64 (cf1 x y)) ∧ w' = W := by
  have TK : Hid True := trivial
  go_enter Tryz.func136, Tryz.ntmps136
  go_wp2_with (first
    | (have g := TK; clear g; go_at_call 155; refine (nan_w x _).mono ?_; rintro e w1 ⟨rfl, rfl⟩; clear TK)
    | (go_at_call 155; refine (nan_w y _).mono ?_; rintro e w1 ⟨rfl, rfl⟩)
    | fail)
  all_goals go_ret
  all_goals refine ⟨congrArg (fun z => Ending.returned (n64 z)) (?_ : _ = cf1 x y), rfl⟩
  all_goals unfold cf1
  all_goals repeat' split
  all_goals omega
set_option maxRecDepth 100000 in
theorem or_w (g : Nat) (p q : Int) (W : World) (h0 : W.cell? ⟨g, 0, none⟩ = some (n64 p)) (h1 : W.cell? ⟨g, 1, none⟩ = some (n64 q)) : Calls Tryz.prog 135 #[.slice (some ⟨g, 0, none⟩) 2 2] W fun e w' => e = .returned (n64 (if p ≠ 0 then p else q)) ∧ w' = W := by
  by_cases hp : p = 0
  · subst hp
    rw [if_neg (by simp)]
    by_cases hq : q = 0
    · subst hq
      go_enter Tryz.func135, Tryz.ntmps135
      go_wp2
      go_rounds 3
      all_goals go_ret
      all_goals exact ⟨rfl, rfl⟩
    · have hb : (q != 0) = true := by simp [hq]
      clear hq
      go_enter Tryz.func135, Tryz.ntmps135
      go_wp2
      go_rounds 3
      all_goals go_ret
      all_goals exact ⟨rfl, rfl⟩
  · rw [if_pos hp]
    have hb : (p != 0) = true := by simp [hp]
    clear hp
    go_enter Tryz.func135, Tryz.ntmps135
    go_wp2
    go_rounds 3
    all_goals go_ret
    all_goals exact ⟨rfl, rfl⟩
theorem alloc2_grow (w : World) (o o' : Obj) : (w.alloc o).alloc o' = grow w (#[o] ++ #[o']) := by
  rw [alloc_eq_grow, alloc_eq_grow, grow_grow]
/-- How two places are ordered. -/
def cf2 (r c r' c' : Int) : Int := if cf1 r r' ≠ 0 then cf1 r r' else cf1 c c'
set_option maxRecDepth 100000 in
set_option maxHeartbeats 4000000 in
theorem clo_w (s s' : ByteArray) (r c r' c' : Int) (W : World) : Calls Tryz.prog 134 #[.agg #[.string s, n64 r, n64 c], .agg #[.string s', n64 r', n64 c']] W fun e w' => e = .returned (n64 (cf2 r c r' c')) ∧ ∃ q os', w' = grow (W.drewN q) os' := by
  go_enter Tryz.func134, Tryz.ntmps134
  go_wp2
  refine (fun (k : ∀ W2, (W2.cell? ⟨W.heap.size, 1, none⟩ = some (n64 r) ∧ W2.cell? ⟨W.heap.size, 2, none⟩ = some (n64 c) ∧ W2.cell? ⟨W.heap.size + 1, 1, none⟩ = some (n64 r') ∧ W2.cell? ⟨W.heap.size + 1, 2, none⟩ = some (n64 c') ∧ ∃ os, W2 = grow W os) → Code.wp _ _ _ _ W2) => k _ ?_) (fun W2 hW => ?_)
  · exact ⟨by simp, by simp, by simp, by simp, _, alloc2_grow W _ _⟩
  · obtain ⟨c1, c2, c3, c4, os, hos⟩ := hW
    have HO : Hid (W2 = grow W os) := hos
    clear hos
    have TK : Hid True := trivial
    obtain ⟨p, hp⟩ : ∃ p, p = cf1 r r' := ⟨_, rfl⟩
    obtain ⟨q, hq⟩ : ∃ q, q = cf1 c c' := ⟨_, rfl⟩
    obtain ⟨z, hz⟩ : ∃ z, z = if p ≠ 0 then p else q := ⟨_, rfl⟩
    have HZ : Hid (z = cf2 r c r' c') := by show z = cf2 r c r' c'; rw [hz, hp, hq]; rfl
    have m1 := fun w => cmp_w r r' w
    have m2 := fun w => cmp_w c c' w
    have m3 := fun g w h0 h1 => or_w g p q w h0 h1
    rw [← hp] at m1
    rw [← hq] at m2
    rw [← hz] at m3
    clear hp hq hz
    refine wp_region_still_tail 10 (by kernel_rfl) (by kernel_rfl) ?_
    simp only [List.take_succ_cons, List.take_zero, List.drop_succ_cons, List.drop_zero]
    iterate 4 still_step
    still_call (m1 _)
    iterate 4 still_step
    still_call (m2 _)
    refine wpStill_nil ?_
    go_wp2_with (first
      | (go_at_call 135; refine (m3 _ _ (by simp) (by simp)).mono ?_; rintro e w1 ⟨rfl, rfl⟩)
      | fail)
    go_ret
    refine ⟨congrArg (fun y => Ending.returned (n64 y)) HZ.out, 1, os ++ #[.cells #[n64 p, n64 q] 3], ?_⟩
    rw [HO.out, alloc_eq_grow, grow_grow, drew_grow]
    rfl
end Go.Proofs.YtgklcjeigoihpaaGreatDoor
