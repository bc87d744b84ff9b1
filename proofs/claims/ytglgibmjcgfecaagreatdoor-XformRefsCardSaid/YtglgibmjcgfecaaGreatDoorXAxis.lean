/- XformFollows, the walks: lines, in the program and in the document's words. -/
import Derived.WalkKit
import Derived.BigGuard
import Derived.BigCall
import Derived.CellFam
import Derived.Deep.Draws
import Derived.Deep.QuietTactic
import Derived.BigQuiet
import Derived.BigRegion
import Derived.Deep.LoopGhost
import Derived.Lib.Hide
import Derived.Test.YtglgibmjcgfecaaGreatDoorXPure
import Derived.Test.YtglgibmjcgfecaaGreatDoorXLeaf
set_option linter.unusedSimpArgs false
set_option linter.unusedVariables false
set_option linter.unusedSimpArgs false
set_option linter.unusedVariables false
namespace Go.Proofs.YtglgibmjcgfecaaGreatDoor
open Go Go.RowKit Go.Proofs Go.Xf

abbrev lnV (l : Ln) : Value := .agg #[n64 l.k, n64 l.a, n64 l.t]

theorem wr {x : Int} (h1 : -9223372036854775808 ≤ x) (h2 : x ≤ 9223372036854775807) : wrap64 x = x := by
  unfold wrap64; first | (simp; omega) | omega

set_option maxRecDepth 100000 in
set_option maxHeartbeats 1000000 in
theorem number_w (n : Int) (w : World) : Calls Tryz.prog 36 #[n64 n] w fun e w' => e = .returned (.bool (decide (0 ≤ n ∧ n < 2199023255552))) ∧ w' = w := by
  go_enter Tryz.func36, Tryz.ntmps36
  go_wp2
  all_goals go_ret
  all_goals refine ⟨?_, rfl⟩
  all_goals simp [*]
  all_goals first | done | omega
set_option maxRecDepth 100000 in
set_option maxHeartbeats 1000000 in
theorem left_w (n a : Int) (hn : 0 ≤ n) (hx : n ≤ 9223372036854775807) (w : World) : Calls Tryz.prog 12 #[n64 n, n64 a] w fun e w' => e = .returned (n64 (less n a)) ∧ w' = w := by
  have h1 : wrap64 (n - 1) = n - 1 := wr (by omega) (by omega)
  go_enter Tryz.func12, Tryz.ntmps12
  go_wp2
  all_goals go_ret
  all_goals refine ⟨?_, rfl⟩
  all_goals unfold less
  all_goals simp [*]
  all_goals first | done | omega
set_option maxRecDepth 100000 in
set_option maxHeartbeats 1000000 in
theorem less_w (n a : Int) (hn : 0 ≤ n) (hx : n ≤ 9223372036854775807) (w : World) : Calls Tryz.prog 62 #[n64 n, n64 a] w fun e w' => e = .returned (n64 (less n a)) ∧ w' = w := by
  have h1 : wrap64 (n - 1) = n - 1 := wr (by omega) (by omega)
  go_enter Tryz.func62, Tryz.ntmps62
  go_wp2
  all_goals go_ret
  all_goals refine ⟨?_, rfl⟩
  all_goals unfold less
  all_goals simp [*]
  all_goals first | done | omega
set_option maxRecDepth 100000 in
set_option maxHeartbeats 1000000 in
theorem out_w (n : Int) (w : World) : Calls Tryz.prog 11 #[n64 n] w fun e w' => e = .returned (.bool (decide (n < 0 ∨ 1152921504606846976 < n))) ∧ w' = w := by
  go_enter Tryz.func11, Tryz.ntmps11
  go_wp2
  all_goals go_ret
  all_goals refine ⟨?_, rfl⟩
  all_goals simp [*]
  all_goals first | done | omega
set_option maxRecDepth 100000 in
set_option maxHeartbeats 1000000 in
theorem asked_w (n : Int) (w : World) : Calls Tryz.prog 61 #[n64 n] w fun e w' => e = .returned (.bool (decide (0 ≤ n ∧ n ≤ 1152921504606846976))) ∧ w' = w := by
  go_enter Tryz.func61, Tryz.ntmps61
  go_wp2
  all_goals go_ret
  all_goals refine ⟨?_, rfl⟩
  all_goals simp [*]
  all_goals first | done | omega
set_option maxRecDepth 100000 in
set_option maxHeartbeats 2000000 in
theorem may_r (l : Ln) (hk : Fits l.k) (ha : Fits l.a) (w : World) : Calls Tryz.prog 6 #[lnV l] w fun e w' => e = .returned (.bool (mayL l)) ∧ Below w.heap.size w w' := by
  obtain ⟨k, a, t⟩ := l
  by_cases hM : a < 2199023255552
  · have h1 : wrap64 (a + 1) = a + 1 := wr (by have := ha.1; simp only at this; omega) (by omega)
    go_enter Tryz.func6, Tryz.ntmps6
    go_wp2
    all_goals try simp only [h1] at *
    all_goals go_ret
    all_goals refine ⟨?_, by first | exact Below.refl _ _ | exact (Below.refl _ _).alloc (Nat.le_refl _) _⟩
    all_goals simp only [Bool.and_eq_true, decide_eq_true_eq, beq_iff_eq, beq_eq_false_iff_ne, ne_eq, bne_iff_ne] at *
    all_goals (show _ = Ending.returned (Value.bool _); refine congrArg (fun b => Ending.returned (Value.bool b)) (Bool.eq_iff_iff.2 ?_))
    all_goals rw [mayL_eq]
    all_goals unfold MayL
    all_goals simp
    all_goals first | done | omega
  · go_enter Tryz.func6, Tryz.ntmps6
    go_wp2
    all_goals go_ret
    all_goals refine ⟨?_, by first | exact Below.refl _ _ | exact (Below.refl _ _).alloc (Nat.le_refl _) _⟩
    all_goals simp only [Bool.and_eq_true, decide_eq_true_eq, beq_iff_eq, beq_eq_false_iff_ne, ne_eq, bne_iff_ne] at *
    all_goals (show _ = Ending.returned (Value.bool _); refine congrArg (fun b => Ending.returned (Value.bool b)) (Bool.eq_iff_iff.2 ?_))
    all_goals rw [mayL_eq]
    all_goals unfold MayL
    all_goals simp
    all_goals first | done | omega
set_option maxRecDepth 100000 in
set_option maxHeartbeats 2000000 in
theorem may_a (l : Ln) (ha : Fits l.a) (ht : Fits l.t) (w : World) : Calls Tryz.prog 21 #[lnV l] w fun e w' => e = .returned (.bool (mayL l)) ∧ Below w.heap.size w w' := by
  obtain ⟨k, a, t⟩ := l
  by_cases hM : 0 ≤ t
  · have h1 : wrap64 (t - 1) = t - 1 := wr (by omega) (by have := ht.2; simp only at this; omega)
    go_enter Tryz.func21, Tryz.ntmps21
    go_wp2_with (first
      | (go_at_call 36; refine (number_w _ _).mono ?_; rintro e w' ⟨rfl, rfl⟩)
      | fail)
    all_goals try simp only [h1] at *
    all_goals go_ret
    all_goals refine ⟨?_, by first | exact Below.refl _ _ | exact (Below.refl _ _).alloc (Nat.le_refl _) _⟩
    all_goals simp only [Bool.and_eq_true, decide_eq_true_eq, beq_iff_eq, beq_eq_false_iff_ne, ne_eq, bne_iff_ne] at *
    all_goals (show _ = Ending.returned (Value.bool _); refine congrArg (fun b => Ending.returned (Value.bool b)) (Bool.eq_iff_iff.2 ?_))
    all_goals rw [mayL_eq]
    all_goals unfold MayL
    all_goals simp
    all_goals first | done | omega
  · go_enter Tryz.func21, Tryz.ntmps21
    go_wp2_with (first
      | (go_at_call 36; refine (number_w _ _).mono ?_; rintro e w' ⟨rfl, rfl⟩)
      | fail)
    all_goals go_ret
    all_goals refine ⟨?_, by first | exact Below.refl _ _ | exact (Below.refl _ _).alloc (Nat.le_refl _) _⟩
    all_goals simp only [Bool.and_eq_true, decide_eq_true_eq, beq_iff_eq, beq_eq_false_iff_ne, ne_eq, bne_iff_ne] at *
    all_goals (show _ = Ending.returned (Value.bool _); refine congrArg (fun b => Ending.returned (Value.bool b)) (Bool.eq_iff_iff.2 ?_))
    all_goals rw [mayL_eq]
    all_goals unfold MayL
    all_goals simp
    all_goals first | done | omega
end Go.Proofs.YtglgibmjcgfecaaGreatDoor

set_option linter.unusedSimpArgs false
set_option linter.unusedVariables false
namespace Go.Proofs.YtglgibmjcgfecaaGreatDoor
open Go Go.RowKit Go.Proofs Go.Xf

theorem laid_cell (w : World) (cs : Array Value) (e : TypeId) (j : Nat) : (w.alloc (.cells cs e)).cell? ⟨w.heap.size, j, none⟩ = cs[j]? := by
  rw [World.cell?]
  show (match (w.alloc (.cells cs e)).heap[w.heap.size]? with
    | some (.cells c _ _) => c[j]?
    | _ => none) = _
  rw [heap_alloc_new]
theorem laid_stays {w w' : World} {cs : Array Value} {e : TypeId} {B : Nat} (hb : Below B (w.alloc (.cells cs e)) w') (hB : w.heap.size < B) (j : Nat) : w'.cell? ⟨w.heap.size, j, none⟩ = cs[j]? :=
  (hb.cell hB).trans (laid_cell w cs e j)
theorem below_laid {w w' : World} {o : Obj} (hb : Below (w.alloc o).heap.size (w.alloc o) w') : Below w.heap.size w w' :=
  ((Below.refl _ _).alloc (Nat.le_refl _) _).trans (hb.mono (by simp))

set_option maxRecDepth 100000 in
set_option maxHeartbeats 2000000 in
theorem idx_a1 (l : Ln) (i : Int) (hk : Fits l.k) (ha : Fits l.a) (ht : Fits l.t) (hi : Fits i) (hm : MayL l) (hi0 : 0 ≤ i ∧ i ≤ 1152921504606846976) (w : World) : Calls Tryz.prog 42 #[lnV l, n64 i] w fun e w' => e = .returned (n64 (idx l i)) ∧ Below w.heap.size w w' := by
  have hB : mayL l = true := (mayL_eq l).2 hm
  have H := fun w => may_a l ha ht w
  have hx : ¬ (¬ MayL l ∨ i < 0 ∨ 1152921504606846976 < i) := by
    rintro (h | h | h)
    · exact h hm
    · omega
    · omega
  have hg : idx l i = if l.k = 1 then (if l.a ≤ i then i + 1 else i) else if l.k = 2 then (if i = l.a then -1 else less i l.a) else if i = l.a then less l.t l.a else if less l.t l.a ≤ less i l.a then less i l.a + 1 else less i l.a := if_neg hx
  rw [hg]
  rw [hB] at H
  have hm2 := hm
  clear hx hg hm hB
  obtain ⟨k, a, t⟩ := l
  unfold MayL at hm2
  simp only at hm2 ⊢
  obtain ⟨hm3, hm4, hm5, hm6, hm7⟩ := hm2
  have h1 : wrap64 (i + 1) = i + 1 := wr (by omega) (by omega)
  have h2 : wrap64 (less i a + 1) = less i a + 1 := wr (by have := less_lo (n := i) (a := a) hi0.1 hm3; omega) (by have := less_hi (n := i) (a := a); omega)
  go_enter Tryz.func42, Tryz.ntmps42
  go_wp2_with (first
    | (go_at_call 61; refine (asked_w _ _).mono ?_; rintro e w' ⟨rfl, rfl⟩; simp only [show (decide (0 ≤ i ∧ i ≤ 1152921504606846976)) = true from decide_eq_true hi0])
    | (go_at_call 21; refine (H _).mono ?_; rintro e w' ⟨rfl, hb⟩; have c0 := laid_stays hb (by simp) 0; have c1 := laid_stays hb (by simp) 1; have c2 := laid_stays hb (by simp) 2; simp only [List.getElem?_toArray, List.getElem?_cons_zero, List.getElem?_cons_succ] at c0 c1 c2)
    | (go_at_call 62; refine (less_w _ _ (by omega) (by omega) _).mono ?_; rintro e w2 ⟨rfl, rfl⟩)
    | fail)
  all_goals try simp only [h1, h2] at *
  all_goals go_ret
  all_goals refine ⟨?_, below_laid hb⟩
  all_goals simp only [decide_eq_true_eq, decide_eq_false_iff_not, beq_iff_eq, beq_eq_false_iff_ne, ne_eq] at *
  all_goals (show _ = Ending.returned (n64 _); refine congrArg (fun b => Ending.returned (n64 b)) ?_)
  all_goals first | done | (repeat' split) <;> first | rfl | omega
set_option maxRecDepth 100000 in
set_option maxHeartbeats 2000000 in
theorem idx_r1 (l : Ln) (i : Int) (hk : Fits l.k) (ha : Fits l.a) (ht : Fits l.t) (hi : Fits i) (hm : MayL l) (hi0 : 0 ≤ i ∧ i ≤ 1152921504606846976) (w : World) : Calls Tryz.prog 7 #[lnV l, n64 i] w fun e w' => e = .returned (n64 (idx l i)) ∧ Below w.heap.size w w' := by
  have hB : mayL l = true := (mayL_eq l).2 hm
  have H := fun w => may_r l hk ha w
  have hx : ¬ (¬ MayL l ∨ i < 0 ∨ 1152921504606846976 < i) := by
    rintro (h | h | h)
    · exact h hm
    · omega
    · omega
  have hg : idx l i = if l.k = 1 then (if l.a ≤ i then i + 1 else i) else if l.k = 2 then (if i = l.a then -1 else less i l.a) else if i = l.a then less l.t l.a else if less l.t l.a ≤ less i l.a then less i l.a + 1 else less i l.a := if_neg hx
  rw [hg]
  rw [hB] at H
  have hm2 := hm
  clear hx hg hm hB
  obtain ⟨k, a, t⟩ := l
  unfold MayL at hm2
  simp only at hm2 ⊢
  obtain ⟨hm3, hm4, hm5, hm6, hm7⟩ := hm2
  have h1 : wrap64 (i + 1) = i + 1 := wr (by omega) (by omega)
  have h2 : wrap64 (less i a + 1) = less i a + 1 := wr (by have := less_lo (n := i) (a := a) hi0.1 hm3; omega) (by have := less_hi (n := i) (a := a); omega)
  go_enter Tryz.func7, Tryz.ntmps7
  go_wp2_with (first
    | (go_at_call 11; refine (out_w _ _).mono ?_; rintro e w' ⟨rfl, rfl⟩; simp only [show (decide (i < 0 ∨ 1152921504606846976 < i)) = false from decide_eq_false (by omega)])
    | (go_at_call 6; refine (H _).mono ?_; rintro e w' ⟨rfl, hb⟩; have c0 := laid_stays hb (by simp) 0; have c1 := laid_stays hb (by simp) 1; have c2 := laid_stays hb (by simp) 2; simp only [List.getElem?_toArray, List.getElem?_cons_zero, List.getElem?_cons_succ] at c0 c1 c2)
    | (go_at_call 12; refine (left_w _ _ (by omega) (by omega) _).mono ?_; rintro e w2 ⟨rfl, rfl⟩)
    | fail)
  all_goals try simp only [h1, h2] at *
  all_goals go_ret
  all_goals refine ⟨?_, below_laid hb⟩
  all_goals simp only [decide_eq_true_eq, decide_eq_false_iff_not, beq_iff_eq, beq_eq_false_iff_ne, ne_eq] at *
  all_goals (show _ = Ending.returned (n64 _); refine congrArg (fun b => Ending.returned (n64 b)) ?_)
  all_goals first | done | (repeat' split) <;> first | rfl | omega
end Go.Proofs.YtglgibmjcgfecaaGreatDoor

set_option linter.unusedSimpArgs false
set_option linter.unusedVariables false
namespace Go.Proofs.YtglgibmjcgfecaaGreatDoor
open Go Go.RowKit Go.Proofs Go.Xf

theorem laid_cell2 (w : World) (cs cs' : Array Value) (e e' : TypeId) (j : Nat) : ((w.alloc (.cells cs e)).alloc (.cells cs' e')).cell? ⟨w.heap.size, j, none⟩ = cs[j]? :=
  (((Below.refl (w.alloc (.cells cs e)).heap.size _).alloc (Nat.le_refl _) _).cell (by simp)).trans (laid_cell w cs e j)
theorem laid_cell3 (w : World) (cs cs' : Array Value) (e e' : TypeId) (j : Nat) : ((w.alloc (.cells cs e)).alloc (.cells cs' e')).cell? ⟨w.heap.size + 1, j, none⟩ = cs'[j]? := by
  simp
theorem stays2 {w w' : World} {cs cs' : Array Value} {e e' : TypeId} {B : Nat} (hb : Below B ((w.alloc (.cells cs e)).alloc (.cells cs' e')) w') (hB : w.heap.size < B) (j : Nat) : w'.cell? ⟨w.heap.size, j, none⟩ = cs[j]? :=
  (hb.cell hB).trans (laid_cell2 w cs cs' e e' j)
theorem stays3 {w w' : World} {cs cs' : Array Value} {e e' : TypeId} {B : Nat} (hb : Below B ((w.alloc (.cells cs e)).alloc (.cells cs' e')) w') (hB : w.heap.size + 1 < B) (j : Nat) : w'.cell? ⟨w.heap.size + 1, j, none⟩ = cs'[j]? :=
  (hb.cell hB).trans (laid_cell3 w cs cs' e e' j)
theorem below_laid2 {w w' : World} {o o' : Obj} {B : Nat} (hb : Below B ((w.alloc o).alloc o') w') (hB : w.heap.size ≤ B) : Below w.heap.size w w' :=
  (((Below.refl _ _).alloc (Nat.le_refl _) _).alloc (by simp) _).trans (hb.mono hB)

set_option maxRecDepth 100000 in
set_option maxHeartbeats 1000000 in
theorem line_w (n : Int) (w : World) : Calls Tryz.prog 19 #[n64 n] w fun e w' => e = .returned (.bool (decide (0 ≤ n ∧ n < 2199023255552))) ∧ w' = w := by
  go_enter Tryz.func19, Tryz.ntmps19
  go_wp2
  all_goals go_ret
  all_goals refine ⟨?_, rfl⟩
  all_goals simp [*]
  all_goals first | done | omega
set_option maxRecDepth 100000 in
set_option maxHeartbeats 4000000 in
theorem eq_w (k r c lk a t : Int) (w : World) : Calls Tryz.prog 24 #[opV k r c lk a t, opV k r c lk a t] w fun e w' => e = .returned (.bool true) ∧ Below w.heap.size w w' := by
  go_enter Tryz.func24, Tryz.ntmps24
  go_wp2_with (first
    | (go_at_call 41; refine (same0 _).mono ?_; rintro e w' ⟨rfl, hb⟩; have p17 : w'.cell? ⟨w.heap.size, 17, none⟩ = some (n64 lk) := stays2 hb (by simp; omega) 17; have p18 : w'.cell? ⟨w.heap.size, 18, none⟩ = some (n64 a) := stays2 hb (by simp; omega) 18; have p19 : w'.cell? ⟨w.heap.size, 19, none⟩ = some (n64 t) := stays2 hb (by simp; omega) 19; have p20 : w'.cell? ⟨w.heap.size, 20, none⟩ = some (sN) := stays2 hb (by simp; omega) 20; have p21 : w'.cell? ⟨w.heap.size, 21, none⟩ = some (n64 0) := stays2 hb (by simp; omega) 21; have p22 : w'.cell? ⟨w.heap.size, 22, none⟩ = some (sE) := stays2 hb (by simp; omega) 22; have q17 : w'.cell? ⟨w.heap.size + 1, 17, none⟩ = some (n64 lk) := stays3 hb (by simp) 17; have q18 : w'.cell? ⟨w.heap.size + 1, 18, none⟩ = some (n64 a) := stays3 hb (by simp) 18; have q19 : w'.cell? ⟨w.heap.size + 1, 19, none⟩ = some (n64 t) := stays3 hb (by simp) 19; have q20 : w'.cell? ⟨w.heap.size + 1, 20, none⟩ = some (sN) := stays3 hb (by simp) 20; have q21 : w'.cell? ⟨w.heap.size + 1, 21, none⟩ = some (n64 0) := stays3 hb (by simp) 21; have q22 : w'.cell? ⟨w.heap.size + 1, 22, none⟩ = some (sE) := stays3 hb (by simp) 22; have hb1 : Below w.heap.size w w' := below_laid2 hb (by simp; omega); clear hb)
    | (go_at_call 39; refine (eqRects0 _).mono ?_; rintro e w2 ⟨rfl, hb2⟩; have p20 := (hb2.cell (World.block_lt_of_cell? _ _ p20)).trans p20; have q20 := (hb2.cell (World.block_lt_of_cell? _ _ q20)).trans q20; have p21 := (hb2.cell (World.block_lt_of_cell? _ _ p21)).trans p21; have q21 := (hb2.cell (World.block_lt_of_cell? _ _ q21)).trans q21; have p22 := (hb2.cell (World.block_lt_of_cell? _ _ p22)).trans p22; have q22 := (hb2.cell (World.block_lt_of_cell? _ _ q22)).trans q22; have hb3 : Below w.heap.size w w2 := hb1.trans (hb2.mono hb1.size); clear hb2)
    | fail)
  all_goals go_ret
  all_goals exact ⟨rfl, hb3⟩
end Go.Proofs.YtglgibmjcgfecaaGreatDoor

