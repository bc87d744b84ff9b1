/- XformFollows, the walks: which operations may be. -/
import Derived.Test.YtglgibmjcgfecaaGreatDoorXOps
set_option linter.unusedSimpArgs false
set_option linter.unusedVariables false
set_option linter.unusedSimpArgs false
set_option linter.unusedVariables false
namespace Go.Proofs.YtglgibmjcgfecaaGreatDoor
open Go Go.RowKit Go.Proofs Go.Xf

theorem after18 {w w' : World} {cs cs' : List Value} {e e' : TypeId} (hb : Below ((w.alloc (.cells cs.toArray e)).alloc (.cells cs'.toArray e')).heap.size ((w.alloc (.cells cs.toArray e)).alloc (.cells cs'.toArray e')) w') :
    w'.rangeAt w.heap.size 0 cs ∧ w'.rangeAt (w.heap.size + 1) 0 cs' ∧ (∀ j, w'.frozen? ⟨w.heap.size + 1, j, none⟩ = false) ∧ Below w.heap.size w w' := by
  refine ⟨range_below (fun j v hj => ?_) hb (by simp; omega), range_below (fun j v hj => ?_) hb (by simp), fun j => ?_, below_laid2 hb (by simp; omega)⟩
  · rw [Nat.zero_add, laid_cell2]; simpa using hj
  · rw [Nat.zero_add, laid_cell3]; simpa using hj
  · rw [hb.frozen (by simp)]
    simp

set_option maxRecDepth 100000 in
set_option maxHeartbeats 4000000 in
theorem may_line2 (l : Ln) (ha : Fits l.a) (ht : Fits l.t) (hm : MayL l) (w : World) : Calls Tryz.prog 14 #[opV 2 0 0 l.k l.a l.t] w fun e w' => e = .returned (.bool true) ∧ Below w.heap.size w w' := by
  have hB : mayL l = true := (mayL_eq l).2 hm
  have H := fun w => may_a l ha ht w
  rw [hB] at H
  obtain ⟨lk, a, t⟩ := l
  simp only
  go_enter Tryz.func14, Tryz.ntmps14
  go_wp2_with (first
    | (refine stNew40 _ _ rfl rfl _ rfl (by simp) (opL 2 0 0 0 0 0) rfl rfl rfl (opL_one _ _ _ _ _ _) ?_)
    | (refine ld40g _ rfl _ _ rfl _ rfl HP.out (by rfl) ?_)
    | (refine ld40g _ rfl _ _ rfl _ rfl HQ.out (by rfl) ?_)
    | (go_at_call 18; refine (id0 _).mono ?_; rintro e w' ⟨rfl, hb⟩; have hS := after18 (cs := opL 2 0 0 lk a t) (cs' := opL 2 0 0 0 0 0) hb; clear hb; obtain ⟨hP, hQ, hF, hb1⟩ := hS; have HP1 : Hid _ := hP; have HQ1 : Hid _ := hQ; have HB1 : Hid _ := hb1; have p0 : w'.cell? ⟨w.heap.size, 0, none⟩ = some (n64 2) := hP 0 _ rfl; have p17 : w'.cell? ⟨w.heap.size, 17, none⟩ = some (n64 lk) := hP 17 _ rfl; have p18 : w'.cell? ⟨w.heap.size, 18, none⟩ = some (n64 a) := hP 18 _ rfl; have p19 : w'.cell? ⟨w.heap.size, 19, none⟩ = some (n64 t) := hP 19 _ rfl; have q17 : w'.cell? ⟨w.heap.size + 1, 17, none⟩ = some (n64 0) := hQ 17 _ rfl; have q18 : w'.cell? ⟨w.heap.size + 1, 18, none⟩ = some (n64 0) := hQ 18 _ rfl; have q19 : w'.cell? ⟨w.heap.size + 1, 19, none⟩ = some (n64 0) := hQ 19 _ rfl; have f17 := hF 17; have f18 := hF 18; have f19 := hF 19; have HS1 : Hid (w.heap.size + 1 < w'.heap.size) := World.block_lt_of_cell? _ _ q17; clear hP hQ hF hb1)
    | (go_at_call 21; refine (H _).mono ?_; rintro e w2 ⟨rfl, hb2⟩; have HP : Hid (w2.rangeAt w.heap.size 0 (opL 2 0 0 lk a t)) := range_below (range_other (range_other (range_other HP1.out (by omega)) (by omega)) (by omega)) hb2 (by have := HS1.out; simp; omega); have HQ : Hid (w2.rangeAt (w.heap.size + 1) 0 (opL 2 0 0 lk a t)) := range_below (range_set (range_set (range_set HQ1.out 17 (n64 lk) (by simp)) 18 (n64 a) (by simp)) 19 (n64 t) (by simp)) hb2 (by have := HS1.out; simp; omega); have HB2 : Hid (Below w.heap.size w w2) := (((HB1.out.setCell (by simp) _).setCell (by simp) _).setCell (by simp) _).trans (hb2.mono (by have := HS1.out; simp; omega)); clear hb2 p0 p17 p18 p19 q17 q18 q19 f17 f18 f19)
    | (go_at_call 24; refine (eq_w _ _ _ _ _ _ _).mono ?_; rintro e w3 ⟨rfl, hb4⟩)
    | fail)
  all_goals go_ret
  all_goals exact ⟨rfl, HB2.out.trans (hb4.mono HB2.out.size)⟩
set_option maxRecDepth 100000 in
set_option maxHeartbeats 4000000 in
theorem may_line3 (l : Ln) (ha : Fits l.a) (ht : Fits l.t) (hm : MayL l) (w : World) : Calls Tryz.prog 14 #[opV 3 0 0 l.k l.a l.t] w fun e w' => e = .returned (.bool true) ∧ Below w.heap.size w w' := by
  have hB : mayL l = true := (mayL_eq l).2 hm
  have H := fun w => may_a l ha ht w
  rw [hB] at H
  obtain ⟨lk, a, t⟩ := l
  simp only
  go_enter Tryz.func14, Tryz.ntmps14
  go_wp2_with (first
    | (refine stNew40 _ _ rfl rfl _ rfl (by simp) (opL 3 0 0 0 0 0) rfl rfl rfl (opL_one _ _ _ _ _ _) ?_)
    | (refine ld40g _ rfl _ _ rfl _ rfl HP.out (by rfl) ?_)
    | (refine ld40g _ rfl _ _ rfl _ rfl HQ.out (by rfl) ?_)
    | (go_at_call 18; refine (id0 _).mono ?_; rintro e w' ⟨rfl, hb⟩; have hS := after18 (cs := opL 3 0 0 lk a t) (cs' := opL 3 0 0 0 0 0) hb; clear hb; obtain ⟨hP, hQ, hF, hb1⟩ := hS; have HP1 : Hid _ := hP; have HQ1 : Hid _ := hQ; have HB1 : Hid _ := hb1; have p0 : w'.cell? ⟨w.heap.size, 0, none⟩ = some (n64 3) := hP 0 _ rfl; have p17 : w'.cell? ⟨w.heap.size, 17, none⟩ = some (n64 lk) := hP 17 _ rfl; have p18 : w'.cell? ⟨w.heap.size, 18, none⟩ = some (n64 a) := hP 18 _ rfl; have p19 : w'.cell? ⟨w.heap.size, 19, none⟩ = some (n64 t) := hP 19 _ rfl; have q17 : w'.cell? ⟨w.heap.size + 1, 17, none⟩ = some (n64 0) := hQ 17 _ rfl; have q18 : w'.cell? ⟨w.heap.size + 1, 18, none⟩ = some (n64 0) := hQ 18 _ rfl; have q19 : w'.cell? ⟨w.heap.size + 1, 19, none⟩ = some (n64 0) := hQ 19 _ rfl; have f17 := hF 17; have f18 := hF 18; have f19 := hF 19; have HS1 : Hid (w.heap.size + 1 < w'.heap.size) := World.block_lt_of_cell? _ _ q17; clear hP hQ hF hb1)
    | (go_at_call 21; refine (H _).mono ?_; rintro e w2 ⟨rfl, hb2⟩; have HP : Hid (w2.rangeAt w.heap.size 0 (opL 3 0 0 lk a t)) := range_below (range_other (range_other (range_other HP1.out (by omega)) (by omega)) (by omega)) hb2 (by have := HS1.out; simp; omega); have HQ : Hid (w2.rangeAt (w.heap.size + 1) 0 (opL 3 0 0 lk a t)) := range_below (range_set (range_set (range_set HQ1.out 17 (n64 lk) (by simp)) 18 (n64 a) (by simp)) 19 (n64 t) (by simp)) hb2 (by have := HS1.out; simp; omega); have HB2 : Hid (Below w.heap.size w w2) := (((HB1.out.setCell (by simp) _).setCell (by simp) _).setCell (by simp) _).trans (hb2.mono (by have := HS1.out; simp; omega)); clear hb2 p0 p17 p18 p19 q17 q18 q19 f17 f18 f19)
    | (go_at_call 24; refine (eq_w _ _ _ _ _ _ _).mono ?_; rintro e w3 ⟨rfl, hb4⟩)
    | fail)
  all_goals go_ret
  all_goals exact ⟨rfl, HB2.out.trans (hb4.mono HB2.out.size)⟩
end Go.Proofs.YtglgibmjcgfecaaGreatDoor

