/- XformRefs, the walks: an operation that sets a formula may be. -/
import Derived.Test.YtglgibmjcgfecaaGreatDoorRLines
set_option linter.unusedSimpArgs false
set_option linter.unusedVariables false
set_option linter.unusedSimpArgs false
set_option linter.unusedVariables false
namespace Go.Proofs.YtglgibmjcgfecaaGreatDoor
open Go Go.RowKit Go.Proofs Go.Xf Go.Sort

set_option maxRecDepth 100000 in
set_option maxHeartbeats 8000000 in
theorem mayF (r c : Int) (hr0 : 0 ≤ r) (hr1 : r < 2199023255552) (hc0 : 0 ≤ c) (hc1 : c < 2199023255552) (ks : List Kid) (vk : Value) (hn : ks.length ≤ 8) (N : Nat) (w : World) (hk : ∀ k ∈ ks, k.Ok) (hT : Tab w) (h5 : 5 < N) (hN : N ≤ w.heap.size) (hA : SumAt w N ks vk) :
    Calls Tryz.prog 14 #[.agg (opF r c vk).toArray] w fun e w' => e = .returned (.bool true) ∧ Below w.heap.size w w' := by
  have HA : Hid (SumAt w N ks vk) := hA
  have HT : Hid (Tab w) := hT
  obtain ⟨p, q, rfl, _⟩ := hA
  clear hT
  go_enter Tryz.func14, Tryz.ntmps14
  go_wp2_with (first
    | (refine stNew40 _ _ rfl rfl _ rfl (by simp) (opL 1 0 0 0 0 0) rfl rfl rfl (opL_one _ _ _ _ _ _) ?_)
    | (go_at_call 18; refine (id0 _).mono ?_; rintro e w1 ⟨rfl, hb⟩; have hS := after18F (cs := opF r c (.slice p ks.length q)) (cs' := opL 1 0 0 0 0 0) hb; clear hb; obtain ⟨hP, hQ, hF, hb1⟩ := hS; have HP1 : Hid (w1.rangeAt w.heap.size 0 (opF r c (.slice p ks.length q))) := hP; have HQ1 : Hid (w1.rangeAt (w.heap.size + 1) 0 (opL 1 0 0 0 0 0)) := hQ; have HB1 : Hid (Below w.heap.size w w1) := hb1; have p0 := hP 0 _ rfl; have p2 := hP 2 _ rfl; have p3 := hP 3 _ rfl; have p4 := hP 4 _ rfl; have p5 := hP 5 _ rfl; have p6 := hP 6 _ rfl; have p7 := hP 7 _ rfl; have p8 := hP 8 _ rfl; have p9 := hP 9 _ rfl; have p10 := hP 10 _ rfl; have p11 := hP 11 _ rfl; have p12 := hP 12 _ rfl; have p13 := hP 13 _ rfl; have p14 := hP 14 _ rfl; have p15 := hP 15 _ rfl; have p16 := hP 16 _ rfl; have q2 := hQ 2 _ rfl; have q3 := hQ 3 _ rfl; have q4 := hQ 4 _ rfl; have q5 := hQ 5 _ rfl; have q6 := hQ 6 _ rfl; have q7 := hQ 7 _ rfl; have q8 := hQ 8 _ rfl; have q9 := hQ 9 _ rfl; have q10 := hQ 10 _ rfl; have q11 := hQ 11 _ rfl; have q12 := hQ 12 _ rfl; have q13 := hQ 13 _ rfl; have q14 := hQ 14 _ rfl; have q15 := hQ 15 _ rfl; have q16 := hQ 16 _ rfl; have f2 := hF 2; have f3 := hF 3; have f4 := hF 4; have f5 := hF 5; have f6 := hF 6; have f7 := hF 7; have f8 := hF 8; have f9 := hF 9; have f10 := hF 10; have f11 := hF 11; have f12 := hF 12; have f13 := hF 13; have f14 := hF 14; have f15 := hF 15; have f16 := hF 16; simp only [Nat.zero_add] at p0 p2 q2 p3 q3 p4 q4 p5 q5 p6 q6 p7 q7 p8 q8 p9 q9 p10 q10 p11 q11 p12 q12 p13 q13 p14 q14 p15 q15 p16 q16; have HF1 : Hid (∀ j, w1.frozen? ⟨w.heap.size + 1, j, none⟩ = false) := hF; have HS1 : Hid (w.heap.size + 1 < w1.heap.size) := World.block_lt_of_cell? _ _ q2; clear hP hQ hF hb1)
    | fail)
  go_region
  refine (fun (k : ∀ W, (W.rangeAt w.heap.size 0 (opF r c (.slice p ks.length q)) ∧ W.rangeAt (w.heap.size + 1) 0 (opF r c (.slice p ks.length q)) ∧ Below w.heap.size w W) → Exit.then _ _ Exit.normal _ W) => k _ (mayF_state r c _ HP1.out HQ1.out HF1.out HB1.out _ ?hh)) (fun W4 h4 => ?_)
  case hh => simp only [World.setCells, Nat.reduceAdd]
  obtain ⟨hP, hQ, hb⟩ := h4
  have HP : Hid (W4.rangeAt w.heap.size 0 (opF r c (.slice p ks.length q))) := hP
  have HQ : Hid (W4.rangeAt (w.heap.size + 1) 0 (opF r c (.slice p ks.length q))) := hQ
  have HB : Hid (Below w.heap.size w W4) := hb
  have HS : Hid (w.heap.size + 1 < W4.heap.size) := World.block_lt_of_cell? _ _ (hQ 0 _ rfl)
  have p2 : W4.cell? ⟨w.heap.size, 2, none⟩ = some (n64 r) := hP 2 _ rfl
  have p3 : W4.cell? ⟨w.heap.size, 3, none⟩ = some (n64 c) := hP 3 _ rfl
  have p4 : W4.cell? ⟨w.heap.size, 4, none⟩ = some (.bool true) := hP 4 _ rfl
  have p5 : W4.cell? ⟨w.heap.size, 5, none⟩ = some (n64 0) := hP 5 _ rfl
  have p6 : W4.cell? ⟨w.heap.size, 6, none⟩ = some (n64 0) := hP 6 _ rfl
  have p7 : W4.cell? ⟨w.heap.size, 7, none⟩ = some sE := hP 7 _ rfl
  have p8 : W4.cell? ⟨w.heap.size, 8, none⟩ = some (.bool false) := hP 8 _ rfl
  have p9 : W4.cell? ⟨w.heap.size, 9, none⟩ = some (n64 0) := hP 9 _ rfl
  have p10 : W4.cell? ⟨w.heap.size, 10, none⟩ = some (n64 9) := hP 10 _ rfl
  have p11 : W4.cell? ⟨w.heap.size, 11, none⟩ = some (n64 0) := hP 11 _ rfl
  have p12 : W4.cell? ⟨w.heap.size, 12, none⟩ = some (.string bSUM) := hP 12 _ rfl
  have p13 : W4.cell? ⟨w.heap.size, 13, none⟩ = some (.bool false) := hP 13 _ rfl
  have p14 : W4.cell? ⟨w.heap.size, 14, none⟩ = some (n64 0) := hP 14 _ rfl
  have p15 : W4.cell? ⟨w.heap.size, 15, none⟩ = some sN := hP 15 _ rfl
  have p16 : W4.cell? ⟨w.heap.size, 16, none⟩ = some (.slice p ks.length q) := hP 16 _ rfl
  clear hP hQ hb HP1 HQ1 HB1 HS1 f2 f3 f4 f5 f6 f7 f8 f9 f10 f11 f12 f13 f14 f15 f16
  have HL : Hid (∀ u n, (n = r ∨ n = c) → Calls Tryz.prog 19 #[n64 n] u fun e w' => e = .returned (.bool true) ∧ w' = u) := fun u n hn => (line_w n u).mono fun e w' ⟨h1, h2⟩ => ⟨by rw [h1, decide_eq_true (by rcases hn with rfl | rfl <;> omega)], h2⟩
  go_wp2_with (first
    | (go_at_call 19; refine (HL.out _ _ (by first | exact .inl rfl | exact .inr rfl)).mono ?_; rintro e u5 ⟨rfl, rfl⟩)
    | (go_at_call 20; refine (mayCellF ks _ hn N _ hk (HT.out.next HB.out) h5 (Nat.le_trans hN HB.out.size) (HA.out.move (fun b hb => HB.out.block b (by omega)))).mono ?_; rintro e u6 ⟨rfl, hb6⟩; have HP6 : Hid (u6.rangeAt w.heap.size 0 (opF r c (.slice p ks.length q))) := range_below HP.out hb6 (by have := HS.out; omega); have HQ6 : Hid (u6.rangeAt (w.heap.size + 1) 0 (opF r c (.slice p ks.length q))) := range_below HQ.out hb6 HS.out; have HB6 : Hid (Below w.heap.size w u6) := HB.out.trans (hb6.mono HB.out.size); clear hb6 p2 p3 p4 p5 p6 p7 p8 p9 p10 p11 p12 p13 p14 p15 p16)
    | (have g6 := HP6; clear g6; refine ld40g _ rfl _ _ rfl _ rfl HP6.out (by rfl) ?_)
    | (have g6 := HQ6; clear g6; refine ld40g _ rfl _ _ rfl _ rfl HQ6.out (by rfl) ?_)
    | (go_at_call 24; refine (eqF r c ks _ hn N _ (Nat.le_trans hN HB6.out.size) (HA.out.move (fun b hb => HB6.out.block b (by omega)))).mono ?_; rintro e u7 ⟨rfl, hb7⟩; have HB7 : Hid (Below w.heap.size w u7) := HB6.out.trans (hb7.mono HB6.out.size); clear hb7)
    | fail)
  all_goals go_ret
  all_goals exact ⟨rfl, HB7.out⟩
end Go.Proofs.YtglgibmjcgfecaaGreatDoor

set_option linter.unusedSimpArgs false
set_option linter.unusedVariables false
namespace Go.Proofs.YtglgibmjcgfecaaGreatDoor
open Go Go.RowKit Go.Proofs Go.Xf Go.Sort

set_option maxRecDepth 100000 in
set_option maxHeartbeats 8000000 in
theorem mayF_off (r c : Int) (hro : ¬ (0 ≤ r ∧ r < 2199023255552)) (hc0 : 0 ≤ c) (hc1 : c < 2199023255552) (ks : List Kid) (vk : Value) (hn : ks.length ≤ 8) (N : Nat) (w : World) (hk : ∀ k ∈ ks, k.Ok) (hT : Tab w) (h5 : 5 < N) (hN : N ≤ w.heap.size) (hA : SumAt w N ks vk) :
    Calls Tryz.prog 14 #[.agg (opF r c vk).toArray] w fun e w' => e = .returned (.bool false) ∧ Below w.heap.size w w' := by
  have HA : Hid (SumAt w N ks vk) := hA
  have HT : Hid (Tab w) := hT
  obtain ⟨p, q, rfl, _⟩ := hA
  clear hT
  go_enter Tryz.func14, Tryz.ntmps14
  go_wp2_with (first
    | (refine stNew40 _ _ rfl rfl _ rfl (by simp) (opL 1 0 0 0 0 0) rfl rfl rfl (opL_one _ _ _ _ _ _) ?_)
    | (go_at_call 18; refine (id0 _).mono ?_; rintro e w1 ⟨rfl, hb⟩; have hS := after18F (cs := opF r c (.slice p ks.length q)) (cs' := opL 1 0 0 0 0 0) hb; clear hb; obtain ⟨hP, hQ, hF, hb1⟩ := hS; have HP1 : Hid (w1.rangeAt w.heap.size 0 (opF r c (.slice p ks.length q))) := hP; have HQ1 : Hid (w1.rangeAt (w.heap.size + 1) 0 (opL 1 0 0 0 0 0)) := hQ; have HB1 : Hid (Below w.heap.size w w1) := hb1; have p0 := hP 0 _ rfl; have p2 := hP 2 _ rfl; have p3 := hP 3 _ rfl; have p4 := hP 4 _ rfl; have p5 := hP 5 _ rfl; have p6 := hP 6 _ rfl; have p7 := hP 7 _ rfl; have p8 := hP 8 _ rfl; have p9 := hP 9 _ rfl; have p10 := hP 10 _ rfl; have p11 := hP 11 _ rfl; have p12 := hP 12 _ rfl; have p13 := hP 13 _ rfl; have p14 := hP 14 _ rfl; have p15 := hP 15 _ rfl; have p16 := hP 16 _ rfl; have q2 := hQ 2 _ rfl; have q3 := hQ 3 _ rfl; have q4 := hQ 4 _ rfl; have q5 := hQ 5 _ rfl; have q6 := hQ 6 _ rfl; have q7 := hQ 7 _ rfl; have q8 := hQ 8 _ rfl; have q9 := hQ 9 _ rfl; have q10 := hQ 10 _ rfl; have q11 := hQ 11 _ rfl; have q12 := hQ 12 _ rfl; have q13 := hQ 13 _ rfl; have q14 := hQ 14 _ rfl; have q15 := hQ 15 _ rfl; have q16 := hQ 16 _ rfl; have f2 := hF 2; have f3 := hF 3; have f4 := hF 4; have f5 := hF 5; have f6 := hF 6; have f7 := hF 7; have f8 := hF 8; have f9 := hF 9; have f10 := hF 10; have f11 := hF 11; have f12 := hF 12; have f13 := hF 13; have f14 := hF 14; have f15 := hF 15; have f16 := hF 16; simp only [Nat.zero_add] at p0 p2 q2 p3 q3 p4 q4 p5 q5 p6 q6 p7 q7 p8 q8 p9 q9 p10 q10 p11 q11 p12 q12 p13 q13 p14 q14 p15 q15 p16 q16; have HF1 : Hid (∀ j, w1.frozen? ⟨w.heap.size + 1, j, none⟩ = false) := hF; have HS1 : Hid (w.heap.size + 1 < w1.heap.size) := World.block_lt_of_cell? _ _ q2; clear hP hQ hF hb1)
    | fail)
  go_region
  refine (fun (k : ∀ W, (W.rangeAt w.heap.size 0 (opF r c (.slice p ks.length q)) ∧ W.rangeAt (w.heap.size + 1) 0 (opF r c (.slice p ks.length q)) ∧ Below w.heap.size w W) → Exit.then _ _ Exit.normal _ W) => k _ (mayF_state r c _ HP1.out HQ1.out HF1.out HB1.out _ ?hh)) (fun W4 h4 => ?_)
  case hh => simp only [World.setCells, Nat.reduceAdd]
  obtain ⟨hP, hQ, hb⟩ := h4
  have HP : Hid (W4.rangeAt w.heap.size 0 (opF r c (.slice p ks.length q))) := hP
  have HQ : Hid (W4.rangeAt (w.heap.size + 1) 0 (opF r c (.slice p ks.length q))) := hQ
  have HB : Hid (Below w.heap.size w W4) := hb
  have HS : Hid (w.heap.size + 1 < W4.heap.size) := World.block_lt_of_cell? _ _ (hQ 0 _ rfl)
  have p2 : W4.cell? ⟨w.heap.size, 2, none⟩ = some (n64 r) := hP 2 _ rfl
  have p3 : W4.cell? ⟨w.heap.size, 3, none⟩ = some (n64 c) := hP 3 _ rfl
  have p4 : W4.cell? ⟨w.heap.size, 4, none⟩ = some (.bool true) := hP 4 _ rfl
  have p5 : W4.cell? ⟨w.heap.size, 5, none⟩ = some (n64 0) := hP 5 _ rfl
  have p6 : W4.cell? ⟨w.heap.size, 6, none⟩ = some (n64 0) := hP 6 _ rfl
  have p7 : W4.cell? ⟨w.heap.size, 7, none⟩ = some sE := hP 7 _ rfl
  have p8 : W4.cell? ⟨w.heap.size, 8, none⟩ = some (.bool false) := hP 8 _ rfl
  have p9 : W4.cell? ⟨w.heap.size, 9, none⟩ = some (n64 0) := hP 9 _ rfl
  have p10 : W4.cell? ⟨w.heap.size, 10, none⟩ = some (n64 9) := hP 10 _ rfl
  have p11 : W4.cell? ⟨w.heap.size, 11, none⟩ = some (n64 0) := hP 11 _ rfl
  have p12 : W4.cell? ⟨w.heap.size, 12, none⟩ = some (.string bSUM) := hP 12 _ rfl
  have p13 : W4.cell? ⟨w.heap.size, 13, none⟩ = some (.bool false) := hP 13 _ rfl
  have p14 : W4.cell? ⟨w.heap.size, 14, none⟩ = some (n64 0) := hP 14 _ rfl
  have p15 : W4.cell? ⟨w.heap.size, 15, none⟩ = some sN := hP 15 _ rfl
  have p16 : W4.cell? ⟨w.heap.size, 16, none⟩ = some (.slice p ks.length q) := hP 16 _ rfl
  clear hP hQ hb HP1 HQ1 HB1 HS1 f2 f3 f4 f5 f6 f7 f8 f9 f10 f11 f12 f13 f14 f15 f16
  have HL : Hid (∀ u, Calls Tryz.prog 19 #[n64 r] u fun e w' => e = .returned (.bool false) ∧ w' = u) := fun u => (line_w r u).mono fun e w' ⟨h1, h2⟩ => ⟨by rw [h1, decide_eq_false hro], h2⟩
  go_wp2_with (first
    | (go_at_call 19; refine (HL.out _).mono ?_; rintro e u5 ⟨rfl, rfl⟩)
    | fail)
  all_goals go_ret
  all_goals exact ⟨rfl, HB.out⟩
end Go.Proofs.YtglgibmjcgfecaaGreatDoor

set_option linter.unusedSimpArgs false
set_option linter.unusedVariables false
namespace Go.Proofs.YtglgibmjcgfecaaGreatDoor
open Go Go.RowKit Go.Proofs Go.Xf Go.Sort

theorem sum_apart2 {w w' : World} {N t : Nat} {x : Int} {ks : List Kid} {vk : Value} (h : SumAt w N ks vk) (ct : w.cell? ⟨t, 0, none⟩ = some (n64 x)) (hx : x ≠ 5 ∧ x ≠ 4) (ho : ∀ k, k ≠ t → w'.heap[k]? = w.heap[k]?) : SumAt w' N ks vk := by
  obtain ⟨p, q, e, hq, hk⟩ := h
  refine ⟨p, q, e, hq, fun h0 => ?_⟩
  obtain ⟨g, e2, hg, hkid⟩ := hk h0
  have hgt : g ≠ t := fun e => by
    subst e
    obtain ⟨vs, h1, h2⟩ := hkid 0 h0
    cases hkk : ks[0]! with
    | rf r c ra ca =>
      rw [hkk] at h1
      obtain ⟨h', q', rfl, _⟩ := h1
      have := h2 0 _ rfl
      simp at this
      rw [ct] at this
      simp at this
      exact hx.1 this
    | er =>
      rw [hkk] at h1
      have e : vs = exE := h1
      subst e
      have := h2 0 _ rfl
      simp at this
      rw [ct] at this
      simp at this
      exact hx.2 this
  refine ⟨g, e2, hg, fun i hi => ?_⟩
  obtain ⟨vs, h1, h2⟩ := hkid i hi
  refine ⟨vs, ?_, range_block h2 (ho g hgt)⟩
  cases hkk : ks[i]! with
  | rf r c ra ca =>
    rw [hkk] at h1
    obtain ⟨h', q', e3, hq', hlt, hr⟩ := h1
    refine ⟨h', q', e3, hq', hlt, range_block hr (ho h' fun e4 => ?_)⟩
    subst e4
    have := hr 0 _ rfl
    simp at this
    rw [ct] at this
    simp at this
  | er =>
    rw [hkk] at h1
    exact h1
theorem SumAt.grow {w : World} {N N' : Nat} {ks : List Kid} {vk : Value} (h : SumAt w N ks vk) (hN : N ≤ N') : SumAt w N' ks vk := by
  obtain ⟨p, q, e, hq, hk⟩ := h
  refine ⟨p, q, e, hq, fun h0 => ?_⟩
  obtain ⟨g, e2, hg, hkid⟩ := hk h0
  refine ⟨g, e2, Nat.lt_of_lt_of_le hg hN, fun i hi => ?_⟩
  obtain ⟨vs, h1, h2⟩ := hkid i hi
  refine ⟨vs, ?_, h2⟩
  cases hkk : ks[i]! with
  | rf r c ra ca =>
    rw [hkk] at h1
    obtain ⟨h', q', e3, hq', hlt, hr⟩ := h1
    exact ⟨h', q', e3, hq', Nat.lt_of_lt_of_le hlt hN, hr⟩
  | er => rw [hkk] at h1; exact h1

theorem Blk.frozen {w : World} {g : Nat} {cs : List Value} (h : Blk w g cs) (j : Nat) : w.frozen? ⟨g, j, none⟩ = false := by
  have h' : w.heap[g]? = some (.cells cs.toArray 40 (0, 0)) := h
  unfold World.frozen?
  simp only [h']
  simp
theorem Blk.set {w : World} {g : Nat} {cs : List Value} (h : Blk w g cs) (i : Nat) (x : Value) : Blk (w.setCell ⟨g, i, none⟩ x) g (cs.set i x) := by
  have h' : w.heap[g]? = some (.cells cs.toArray 40 (0, 0)) := h
  show (w.setCell ⟨g, i, none⟩ x).heap[g]? = _
  simp only [World.setCell, Array.getElem?_modify, if_true, h', Option.map_some, Option.isSome, Bool.false_eq_true, if_false]
  simp
def setL : List Value → Nat → List Value → List Value
  | cs, _, [] => cs
  | cs, o, v :: vs => setL (cs.set o v) (o + 1) vs
theorem Blk.sets {g : Nat} : ∀ (vs : List Value) (o : Nat) (w : World) (cs : List Value), Blk w g cs → Blk (w.setCells g o vs) g (setL cs o vs)
  | [], _, _, _, h => h
  | v :: vs, o, w, cs, h => by
    rw [World.setCells, setL]
    exact Blk.sets vs (o + 1) _ _ (h.set o v)
theorem Blk.there {w : World} {g : Nat} {cs : List Value} (h : Blk w g cs) (o n : Nat) (hn : o + n ≤ cs.length) : w.there g o n := fun j hj =>
  ⟨by rw [show w.cell? ⟨g, o + j, none⟩ = cs.toArray[o + j]? from blk_cell h (o + j)]; simp; omega, h.frozen _⟩
theorem Blk.sub {w : World} {g o : Nat} {cs vs : List Value} (h : Blk w g cs) (hv : ∀ j v, vs[j]? = some v → cs[o + j]? = some v) : w.rangeAt g o vs := fun j v hj => (blk_cell h (o + j)).trans (by simpa using hv j v hj)

/-- The three boxes. -/
theorem boxes3 (w : World) (a b c : List Value) : Blk (((w.alloc (.cells a.toArray 40)).alloc (.cells b.toArray 40)).alloc (.cells c.toArray 40)) w.heap.size a ∧ Blk (((w.alloc (.cells a.toArray 40)).alloc (.cells b.toArray 40)).alloc (.cells c.toArray 40)) (w.heap.size + 1) b ∧ Blk (((w.alloc (.cells a.toArray 40)).alloc (.cells b.toArray 40)).alloc (.cells c.toArray 40)) (w.heap.size + 1 + 1) c ∧ Below w.heap.size w (((w.alloc (.cells a.toArray 40)).alloc (.cells b.toArray 40)).alloc (.cells c.toArray 40)) := by
  have e1 : (w.alloc (.cells a.toArray 40)).heap.size = w.heap.size + 1 := by simp
  have e2 : ((w.alloc (.cells a.toArray 40)).alloc (.cells b.toArray 40)).heap.size = w.heap.size + 1 + 1 := by simp
  refine ⟨?_, ?_, ?_, below_3 w _ _ _⟩
  · exact (at_old _ _ _ (by omega)).trans ((at_old _ _ _ (by omega)).trans (at_last _ _ _ rfl))
  · exact (at_old _ _ _ (by omega)).trans (at_last _ _ _ e1.symm)
  · exact at_last _ _ _ e2.symm
theorem opF_one (r c : Int) (p : Option Addr) (n q : Nat) : ∀ v ∈ opF r c (.slice p n q), v.oneCell' = true := List.all_eq_true.1 (show (opF r c (.slice p n q)).all (·.oneCell') = true from rfl)
theorem exF_in (r c : Int) (vk : Value) : ∀ j v, (exF vk)[j]? = some v → (opF r c vk)[10 + j]? = some v := fun j v hj => by
  have hl : j < 7 := by have := (List.getElem?_eq_some_iff.1 hj).1; simpa using this
  match j, hl with
  | 0, _ => exact hj
  | 1, _ => exact hj
  | 2, _ => exact hj
  | 3, _ => exact hj
  | 4, _ => exact hj
  | 5, _ => exact hj
  | 6, _ => exact hj
end Go.Proofs.YtglgibmjcgfecaaGreatDoor

set_option linter.unusedSimpArgs false
set_option linter.unusedVariables false
namespace Go.Proofs.YtglgibmjcgfecaaGreatDoor
open Go Go.RowKit Go.Proofs Go.Xf Go.Sort

abbrev opLn (l : Ln) : List Value := opL 2 0 0 l.k l.a l.t

theorem sumF_one {w : World} {N : Nat} {ks : List Kid} {vk : Value} {r c : Int} (h : SumAt w N ks vk) : ∀ v ∈ opF r c vk, v.oneCell' = true := by
  obtain ⟨p, q, rfl, _⟩ := h
  exact opF_one _ _ _ _ _
theorem res40two {fn : Func} {p q : Tmp} {tmps : Array Value} {w : World} {g : Nat} {cs : List Value} {v : Value} (h : fn.results = #[.cell p 40, .tmp q]) (hp : tmps.getD p undef = .pointer (some ⟨g, 0, none⟩)) (hg : Blk w g cs) (hq : tmps.getD q undef = v)
    (hs : 23 = cs.toArray.size) : (results fn tmps).run Tryz.prog w = .ok (.tuple #[.agg cs.toArray, v]) w := by
  have hp' : tmps[p]?.getD undef = .pointer (some ⟨g, 0, none⟩) := by simpa using hp
  have hq' : tmps[q]?.getD undef = v := by simpa using hq
  have hi : (Tryz.prog.info? 40).map (·.size) = some cs.toArray.size := by rw [← hs]; kernel_rfl
  simp only [results, h]
  simp [hp', hq', asAddr, run_loadVar_row w g 40 40 cs.toArray (0, 0) _ hg Tryz.underlying40 rfl hi]
theorem Blk.row {w : World} {g : Nat} {r c : Int} {vk : Value} (h : Blk w g (opF r c vk)) (z : Int) : Blk (w.setCell ⟨g, 2, none⟩ (n64 z)) g (opF z c vk) := h.set 2 (n64 z)
theorem Blk.tree {w : World} {g : Nat} {r c : Int} {vk : Value} (h : Blk w g (opF r c vk)) (vk' : Value) : Blk (w.setCells g 10 (exF vk')) g (opF r c vk') := Blk.sets (exF vk') 10 _ _ h
theorem Blk.expr {w : World} {g : Nat} {r c : Int} {vk : Value} (h : Blk w g (opF r c vk)) : w.rangeAt g 10 (exF vk) := h.sub (exF_in r c vk)

theorem st35o {ops : Array Oper} {rest : List Oper} {op : Oper} {a : Act} {w : World} {Q : Exit → Act → World → Prop} (x y : Operand) (hgd : op.guard = none) (ho : op.op = .store 35 x y)
    (b o : Nat) (hx : a.eval x = .pointer (some ⟨b, o, none⟩)) (cs : List Value) (hy : a.eval y = .agg cs.toArray) (hl : cs.length = 7) (ht : w.there b o 7) (h1 : ∀ v ∈ cs, v.oneCell' = true)
    (h : ∀ w2, w2 = w.setCells b o cs → wpList Tryz.prog ops Q rest (a.put op.dst undef) w2) : wpList Tryz.prog ops Q (op :: rest) a w := st35 x y hgd ho b o hx cs hy hl ht h1 (h _ rfl)

set_option maxRecDepth 100000 in
set_option maxHeartbeats 4000000 in
theorem lines_w (l : Ln) (fk : Fits l.k) (fa : Fits l.a) (ft : Fits l.t) (hm : MayL l) (r c : Int) (hr0 : 0 ≤ r) (hr1 : r < 2199023255552) (ks : List Kid) (vk : Value) (hn : ks.length ≤ 8) (pr : Bool) (N : Nat) (w : World) (hk : ∀ k ∈ ks, k.Ok) (hT : Tab w) (h5 : 5 < N) (hN : N ≤ w.heap.size) (hA : SumAt w N ks vk) :
    Calls Tryz.prog 25 #[.agg (opF r c vk).toArray, .agg (opLn l).toArray, .bool pr] w fun e w' => ∃ vk', e = .returned (.tuple #[.agg (opF (idx l r) c vk').toArray, .bool true]) ∧ Below w.heap.size w w' ∧ SumAt w' w'.heap.size (ks.map (stepK l)) vk' := by
  have HA : Hid (SumAt w N ks vk) := hA
  have HT : Hid (Tab w) := hT
  obtain ⟨p, q, rfl, _⟩ := hA
  have HIX : Hid (∀ u : World, Calls Tryz.prog 42 #[lnV l, n64 r] u fun e w' => e = .returned (n64 (idx l r)) ∧ Below u.heap.size u w') := fun u => idx_a1 l r fk fa ft ⟨by omega, by omega⟩ hm ⟨hr0, by omega⟩ u
  obtain ⟨z, hz⟩ : ∃ z, z = idx l r := ⟨_, rfl⟩
  rw [← hz] at HIX ⊢
  clear hT hz
  go_enter Tryz.func25, Tryz.ntmps25
  go_wp2_with (first
    | (go_at_call 42; refine (HIX.out _).mono ?_; rintro e u1 ⟨rfl, hb1⟩; obtain ⟨k3, k4, k6, kb⟩ := boxes3 w (opF r c (.slice p ks.length q)) (opLn l) opNL; have K3 : Hid (Blk u1 w.heap.size (opF r c (.slice p ks.length q))) := k3.below hb1 k3.lt; have K4 : Hid (Blk u1 (w.heap.size + 1) (opLn l)) := k4.below hb1 k4.lt; have K6 : Hid (Blk u1 (w.heap.size + 1 + 1) opNL) := k6.below hb1 k6.lt; have HB1 : Hid (Below w.heap.size w u1) := kb.trans (hb1.mono kb.size); have p0 : u1.cell? ⟨w.heap.size, 0, none⟩ = some (n64 1) := K3.out.range 0 _ rfl; have p1 : u1.cell? ⟨w.heap.size, 1, none⟩ = some s0 := K3.out.range 1 _ rfl; have p2 : u1.cell? ⟨w.heap.size, 2, none⟩ = some (n64 r) := K3.out.range 2 _ rfl; have p4 : u1.cell? ⟨w.heap.size, 4, none⟩ = some (.bool true) := K3.out.range 4 _ rfl; have q1 : u1.cell? ⟨w.heap.size + 1, 1, none⟩ = some s0 := K4.out.range 1 _ rfl; have q17 : u1.cell? ⟨w.heap.size + 1, 17, none⟩ = some (n64 l.k) := K4.out.range 17 _ rfl; have q18 : u1.cell? ⟨w.heap.size + 1, 18, none⟩ = some (n64 l.a) := K4.out.range 18 _ rfl; have q19 : u1.cell? ⟨w.heap.size + 1, 19, none⟩ = some (n64 l.t) := K4.out.range 19 _ rfl; have f2 := K3.out.frozen 2; clear k3 k4 k6 kb hb1)
    | (have g1 := K3; clear g1; refine ld35 _ rfl rfl _ _ rfl (exF (.slice p ks.length q)) rfl (K3.out.row z).expr ?_)
    | (go_at_call 45; refine (lines_sum l fk fa ft hm ks hn hk (.slice p ks.length q) N _ (Nat.le_trans hN (HB1.out.setCell (Nat.le_refl _) _).size) h5 (HT.out.next (HB1.out.setCell (Nat.le_refl _) _)) (HA.out.move (fun b hb => (HB1.out.setCell (Nat.le_refl _) _).block b (by omega)))).mono ?_; rintro e u2 ⟨vk', rfl, hb2, ha2⟩; have L3 : Hid (Blk u2 w.heap.size (opF z c (.slice p ks.length q))) := (K3.out.row z).below hb2 (K3.out.row z).lt; have L6 : Hid (Blk u2 (w.heap.size + 1 + 1) opNL) := Blk.below (w := u1.setCell ⟨w.heap.size, 2, none⟩ (n64 z)) ((set_heap_ne _ _ _ _ _ (by omega)).trans K6.out) hb2 (by simpa [World.setCell] using K6.out.lt); have HB2 : Hid (Below w.heap.size w u2) := (HB1.out.setCell (Nat.le_refl _) _).trans (hb2.mono (HB1.out.setCell (Nat.le_refl _) _).size); have HA2 : Hid (SumAt u2 u2.heap.size (ks.map (stepK l)) vk') := ha2; clear hb2 ha2 p0 p1 p2 p4 q1 q17 q18 q19 f2 K3 K4 K6 HB1)
    | (have g1 := L3; clear g1; refine st35o _ _ rfl rfl w.heap.size 10 rfl (exF vk') rfl rfl (L3.out.there 10 7 (by simp)) (sum_one HA2.out) ?_; intro u3 hu3; have M3 : Hid (Blk u3 w.heap.size (opF z c vk')) := (by rw [hu3]; exact L3.out.tree vk'); have M6 : Hid (Blk u3 (w.heap.size + 1 + 1) opNL) := (by rw [hu3]; exact (setCells_ne _ _ _ _ _ (by omega)).trans L6.out); have MB : Hid (Below w.heap.size w u3) := (by rw [hu3]; exact below_setCells HB2.out (Nat.le_refl _) _ _); have MA : Hid (SumAt u3 u3.heap.size (ks.map (stepK l)) vk') := (by rw [hu3, setCells_size]; exact sum_apart2 HA2.out (L3.out.range 0 _ rfl) (by decide) (fun k hk => setCells_ne _ _ _ _ _ hk)); clear hu3 L3 L6 HB2 HA2)
    | (have g1 := M3; clear g1; refine ld40 _ rfl rfl _ _ rfl (opF z c vk') rfl M3.out.range ?_)
    | (have g1 := M6; clear g1; refine stBlk _ _ rfl rfl _ rfl (opF z c vk') rfl rfl (sumF_one MA.out) opNL rfl M6.out ?_; intro W3 k3 ho3 hs3 hb3; have F6 : Hid (Blk W3 (w.heap.size + 1 + 1) (opF z c vk')) := k3; have FB : Hid (Below w.heap.size w W3) := MB.out.trans (hb3.mono (by omega)); have FA : Hid (SumAt W3 W3.heap.size (ks.map (stepK l)) vk') := (by rw [hs3]; exact sum_apart2 MA.out (M6.out.range 0 _ rfl) (by decide) ho3); clear k3 ho3 hs3 hb3)
    | fail)
  all_goals refine bodyPost_ret (v := .tuple #[.agg (opF z c vk').toArray, .bool true]) ?_ rfl ⟨_, rfl, FB.out, FA.out⟩
  all_goals exact res40two (p := 6) (q := 7) rfl rfl F6.out rfl rfl
end Go.Proofs.YtglgibmjcgfecaaGreatDoor

set_option linter.unusedSimpArgs false
set_option linter.unusedVariables false
namespace Go.Proofs.YtglgibmjcgfecaaGreatDoor
open Go Go.RowKit Go.Proofs Go.Xf Go.Sort

set_option maxRecDepth 100000 in
set_option maxHeartbeats 4000000 in
theorem behind_set (l : Ln) (fk : Fits l.k) (fa : Fits l.a) (ft : Fits l.t) (hm : MayL l) (r c : Int) (hr0 : 0 ≤ r) (hr1 : r < 2199023255552) (ks : List Kid) (vk : Value) (hn : ks.length ≤ 8) (pr : Bool) (N : Nat) (w : World) (hk : ∀ k ∈ ks, k.Ok) (hT : Tab w) (h5 : 5 < N) (hN : N ≤ w.heap.size) (hA : SumAt w N ks vk) :
    Calls Tryz.prog 15 #[.agg (opF r c vk).toArray, .agg (opLn l).toArray, .bool pr] w fun e w' => ∃ vk', e = .returned (.tuple #[.agg (opF (idx l r) c vk').toArray, .bool true]) ∧ Below w.heap.size w w' ∧ SumAt w' w'.heap.size (ks.map (stepK l)) vk' := by
  have HA : Hid (SumAt w N ks vk) := hA
  have HT : Hid (Tab w) := hT
  obtain ⟨p, q, rfl, _⟩ := hA
  have HX := boxes3 w (opF r c (.slice p ks.length q)) (opLn l) opNL
  have HX : Hid _ := HX
  clear hT
  go_enter Tryz.func15, Tryz.ntmps15
  go_wp2_with (first
    | (have g1 := HX; clear g1; refine ld40 _ rfl rfl w.heap.size 0 rfl (opF r c (.slice p ks.length q)) rfl HX.out.1.range ?_)
    | (have g1 := HX; clear g1; refine ld40 _ rfl rfl (w.heap.size + 1) 0 rfl (opLn l) rfl HX.out.2.1.range ?_)
    | (go_at_call 25; refine (lines_w l fk fa ft hm r c hr0 hr1 ks (.slice p ks.length q) hn pr N _ hk (HT.out.next HX.out.2.2.2) h5 (Nat.le_trans hN HX.out.2.2.2.size) (HA.out.move (fun b hb => HX.out.2.2.2.block b (by omega)))).mono ?_; rintro e u2 ⟨vk', rfl, hb2, ha2⟩; have M6 : Hid (Blk u2 (w.heap.size + 1 + 1) opNL) := HX.out.2.2.1.below hb2 HX.out.2.2.1.lt; have MB : Hid (Below w.heap.size w u2) := HX.out.2.2.2.trans (hb2.mono HX.out.2.2.2.size); have MA : Hid (SumAt u2 u2.heap.size (ks.map (stepK l)) vk') := ha2; clear hb2 ha2 HX)
    | (have g1 := M6; clear g1; refine stBlk _ _ rfl rfl _ rfl (opF (idx l r) c vk') rfl rfl (sumF_one MA.out) opNL rfl M6.out ?_; intro W3 k3 ho3 hs3 hb3; have F6 : Hid (Blk W3 (w.heap.size + 1 + 1) (opF (idx l r) c vk')) := k3; have FB : Hid (Below w.heap.size w W3) := MB.out.trans (hb3.mono (by omega)); have FA : Hid (SumAt W3 W3.heap.size (ks.map (stepK l)) vk') := (by rw [hs3]; exact sum_apart2 MA.out (M6.out.range 0 _ rfl) (by decide) ho3); clear k3 ho3 hs3 hb3)
    | fail)
  all_goals refine bodyPost_ret (v := .tuple #[.agg (opF (idx l r) c vk').toArray, .bool true]) ?_ rfl ⟨_, rfl, FB.out, FA.out⟩
  all_goals exact res40two (p := 6) (q := 7) rfl rfl F6.out rfl rfl

set_option maxRecDepth 100000 in
set_option maxHeartbeats 4000000 in
theorem behind_line (l : Ln) (r c : Int) (p : Option Addr) (n q : Nat) (pr : Bool) (w : World) :
    Calls Tryz.prog 15 #[.agg (opLn l).toArray, .agg (opF r c (.slice p n q)).toArray, .bool pr] w fun e w' => e = .returned (.tuple #[.agg (opLn l).toArray, .bool true]) ∧ Below w.heap.size w w' := by
  have HX := boxes3 w (opLn l) (opF r c (.slice p n q)) opNL
  have HX : Hid _ := HX
  go_enter Tryz.func15, Tryz.ntmps15
  go_wp2_with (first
    | (have g1 := HX; clear g1; refine ld40 _ rfl rfl w.heap.size 0 rfl (opLn l) rfl HX.out.1.range ?_)
    | (have g1 := HX; clear g1; refine stBlk _ _ rfl rfl _ rfl (opLn l) rfl rfl (opL_one _ _ _ _ _ _) opNL rfl HX.out.2.2.1 ?_; intro W3 k3 ho3 hs3 hb3; have F6 : Hid (Blk W3 (w.heap.size + 1 + 1) (opLn l)) := k3; have FB : Hid (Below w.heap.size w W3) := HX.out.2.2.2.trans (hb3.mono (by omega)); clear k3 ho3 hs3 hb3 HX)
    | fail)
  all_goals refine bodyPost_ret (v := .tuple #[.agg (opLn l).toArray, .bool true]) ?_ rfl ⟨rfl, FB.out⟩
  all_goals exact res40two (p := 6) (q := 7) rfl rfl F6.out rfl rfl
end Go.Proofs.YtglgibmjcgfecaaGreatDoor

