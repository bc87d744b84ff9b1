/- XformRefs, the walks: one reference is turned. -/
import Derived.Test.YtglgibmjcgfecaaGreatDoorREq
import Derived.Deep.RegionHeld3
import Derived.Deep.RegionWith
import Derived.BigRegion
set_option linter.unusedSimpArgs false
set_option linter.unusedVariables false
set_option linter.unusedSimpArgs false
set_option linter.unusedVariables false
namespace Go.Proofs.YtglgibmjcgfecaaGreatDoor
open Go Go.RowKit Go.Proofs Go.Xf Go.Sort

/-- Of what was there, one block alone may have changed. -/
structure Chg (w : World) (h : Nat) (u : World) : Prop where
  os : u.os = w.os
  tape : u.tape = w.tape
  output : u.output = w.output
  size : w.heap.size ≤ u.heap.size
  block : ∀ b, b < w.heap.size → b ≠ h → u.heap[b]? = w.heap[b]?
theorem Chg.of_below {w u : World} (h : Nat) (hb : Below w.heap.size w u) : Chg w h u := ⟨hb.os, hb.tape, hb.output, hb.size, fun b hl _ => hb.block b hl⟩
theorem Chg.next {w u u' : World} {h : Nat} (c : Chg w h u) (hb : Below u.heap.size u u') : Chg w h u' :=
  ⟨hb.os.trans c.os, hb.tape.trans c.tape, hb.output.trans c.output, Nat.le_trans c.size hb.size, fun b hl hn => (hb.block b (Nat.lt_of_lt_of_le hl c.size)).trans (c.block b hl hn)⟩
theorem Chg.after {w u u' : World} {h : Nat} (hb : Below w.heap.size w u) (c : Chg u h u') : Chg w h u' :=
  ⟨c.os.trans hb.os, c.tape.trans hb.tape, c.output.trans hb.output, Nat.le_trans hb.size c.size, fun b hl hn => (c.block b (Nat.lt_of_lt_of_le hl hb.size) hn).trans (hb.block b hl)⟩
theorem Chg.set {w : World} (h o : Nat) (x : Value) : Chg w h (w.setCell ⟨h, o, none⟩ x) := ⟨rfl, rfl, rfl, by simp [World.setCell], fun b _ hn => set_heap_ne w h o x b hn⟩

theorem blk_cell {w : World} {g : Nat} {cs : Array Value} {e : TypeId} {fr : Nat × Nat} (h : w.heap[g]? = some (.cells cs e fr)) (j : Nat) : w.cell? ⟨g, j, none⟩ = cs[j]? := by
  unfold World.cell?
  simp only [h]
  simp
set_option maxRecDepth 100000 in
theorem of_w (r c : Int) (ra ca : Bool) (w : World) : Calls Tryz.prog 54 #[.agg (rfL r c ra ca).toArray, s0] w fun e w' => e = .returned s0 ∧ Below w.heap.size w w' := by
  go_enter Tryz.func54, Tryz.ntmps54
  go_wp2
  all_goals go_ret
  all_goals exact ⟨rfl, (Below.refl _ _).alloc (Nat.le_refl _) _⟩

set_option maxRecDepth 100000 in
set_option maxHeartbeats 4000000 in
theorem turn_w (l : Ln) (fk : Fits l.k) (fa : Fits l.a) (ft : Fits l.t) (hm : MayL l) (r c : Int) (ra ca : Bool) (hr0 : 0 ≤ r) (hr1 : r < 2199023255552) (h bh bo br bl : Nat) (w : World) (hh : h < w.heap.size)
    (c1 : w.cell? ⟨h, 1, none⟩ = some (n64 r)) (f1 : w.frozen? ⟨h, 1, none⟩ = false)
    (ch : w.cell? ⟨bh, 0, none⟩ = some s0) (co : w.cell? ⟨bo, 0, none⟩ = some s0) (cr : w.cell? ⟨br, 0, none⟩ = some (.bool true)) (l0 : w.cell? ⟨bl, 0, none⟩ = some (n64 l.k)) (l1 : w.cell? ⟨bl, 1, none⟩ = some (n64 l.a)) (l2 : w.cell? ⟨bl, 2, none⟩ = some (n64 l.t)) :
    Calls Tryz.prog 65 #[.agg (rfL r c ra ca).toArray, .pointer (some ⟨h, 0, none⟩), .pointer (some ⟨bh, 0, none⟩), .pointer (some ⟨bo, 0, none⟩), .pointer (some ⟨br, 0, none⟩), .pointer (some ⟨bl, 0, none⟩)] w fun e w' =>
      e = .returned (.bool (decide (0 ≤ idx l r ∧ idx l r < 2199023255552))) ∧ ∃ u, Below w.heap.size w u ∧ w' = u.setCell ⟨h, 1, none⟩ (n64 (idx l r)) := by
  have HH : Hid (∀ W, Below w.heap.size w W → W.cell? ⟨h, 1, none⟩ = some (n64 r) ∧ W.frozen? ⟨h, 1, none⟩ = false ∧ W.cell? ⟨bh, 0, none⟩ = some s0 ∧ W.cell? ⟨bo, 0, none⟩ = some s0 ∧ W.cell? ⟨br, 0, none⟩ = some (.bool true) ∧ W.cell? ⟨bl, 0, none⟩ = some (n64 l.k) ∧ W.cell? ⟨bl, 1, none⟩ = some (n64 l.a) ∧ W.cell? ⟨bl, 2, none⟩ = some (n64 l.t)) := fun W hW =>
    ⟨(hW.cell (World.block_lt_of_cell? _ _ c1)).trans c1, (hW.frozen (World.block_lt_of_cell? _ _ c1)).trans f1, (hW.cell (World.block_lt_of_cell? _ _ ch)).trans ch, (hW.cell (World.block_lt_of_cell? _ _ co)).trans co, (hW.cell (World.block_lt_of_cell? _ _ cr)).trans cr, (hW.cell (World.block_lt_of_cell? _ _ l0)).trans l0, (hW.cell (World.block_lt_of_cell? _ _ l1)).trans l1, (hW.cell (World.block_lt_of_cell? _ _ l2)).trans l2⟩
  clear c1 f1 ch co cr l0 l1 l2
  go_enter Tryz.func65, Tryz.ntmps65
  go_wp2
  refine (fun (k : ∀ W, (Below w.heap.size w W ∧ W.heap[w.heap.size]? = some (.cells (rfL r c ra ca).toArray 46 (0, 0))) → Code.wp _ _ _ _ W) => k _ ?hh) (fun W hW => ?_)
  case hh => exact ⟨(Below.refl _ _).alloc (Nat.le_refl _) _, heap_alloc_last w _⟩
  obtain ⟨hb1, hbx⟩ := hW
  obtain ⟨c1, f1, ch, co, cr, l0, l1, l2⟩ := HH.out W hb1
  have d0 := cell_regrown (show W.cell? ⟨w.heap.size, 0, none⟩ = some sE from (blk_cell hbx 0).trans rfl)
  have d1 := cell_regrown (show W.cell? ⟨w.heap.size, 1, none⟩ = some (n64 r) from (blk_cell hbx 1).trans rfl)
  have d2 := cell_regrown (show W.cell? ⟨w.heap.size, 2, none⟩ = some (n64 c) from (blk_cell hbx 2).trans rfl)
  have d3 := cell_regrown (show W.cell? ⟨w.heap.size, 3, none⟩ = some (.bool ra) from (blk_cell hbx 3).trans rfl)
  have d4 := cell_regrown (show W.cell? ⟨w.heap.size, 4, none⟩ = some (.bool ca) from (blk_cell hbx 4).trans rfl)
  have k1 := cell_regrown ch
  have k2 := cell_regrown co
  have HB1 : Hid (Below w.heap.size w W) := hb1
  have cF : ∀ d os, Calls Tryz.prog 54 #[.agg (rfL r c ra ca).toArray, s0] (grow (redrawn W d) os) fun e w'' => e = .returned s0 ∧ ∃ p : Regrown, w'' = grow (redrawn W p.d) p.os := fun d os => Calls.regrown_of (of_w r c ra ca _)
  clear c1 f1 ch co cr l0 l1 l2 hb1 hbx
  refine wp_region_quiet_below (by kernel_rfl) (by kernel_rfl) ?_
  repeat (quiet_step (exact cF _ _))
  refine wpQuiet_nil ?_
  intro _ hw'
  obtain ⟨⟨dq, osq⟩, hw''⟩ := hw'
  subst hw''
  refine (fun (k : ∀ W2, Below w.heap.size w W2 → _) => k _ (HB1.out.trans ((below_regrown W dq osq).mono HB1.out.size))) (fun W2 hb2 => ?_)
  obtain ⟨c1, f1, ch, co, cr, l0, l1, l2⟩ := HH.out W2 hb2
  have HB2 : Hid (Below w.heap.size w W2) := hb2
  clear d0 d1 d2 d3 d4 k1 k2 cF HB1 ch co hb2
  go_wp2
  obtain ⟨z, hz⟩ : ∃ z, z = idx l r := ⟨_, rfl⟩
  have HZ : Hid (z = idx l r) := hz
  have HIX : Hid (∀ u : World, Calls Tryz.prog 42 #[lnV l, n64 r] u fun e w' => e = .returned (n64 z) ∧ Below u.heap.size u w') := fun u => by rw [hz]; exact idx_a1 l r fk fa ft ⟨by omega, by omega⟩ hm ⟨hr0, by omega⟩ u
  clear hz
  have hL : ∀ u, u = W2.drew → Below w.heap.size w u := fun u hu => by subst hu; exact below_dr HB2.out
  have HL : Hid (∀ u, u = W2.drew → Below w.heap.size w u) := hL
  clear hL
  go_region_with (first
    | (go_at_call 42; refine (HIX.out _).mono ?_; rintro e u3 ⟨rfl, hb3⟩; have HB3 : Hid (Below w.heap.size w u3) := (below_dr HB2.out).trans (hb3.mono (by have := HB2.out.size; show w.heap.size ≤ W2.drew.heap.size; exact this)); clear c1 f1 cr l0 l1 l2 hb3; obtain ⟨c1, f1, _, _, _, _, _, _⟩ := HH.out u3 HB3.out)
    | fail)
  all_goals go_wp2
  all_goals go_ret
  all_goals refine ⟨?_, u3, HB3.out, by rw [← HZ.out]⟩
  all_goals rw [← HZ.out]
  all_goals simp [*]
  all_goals (intros; omega)
end Go.Proofs.YtglgibmjcgfecaaGreatDoor

set_option linter.unusedSimpArgs false
set_option linter.unusedVariables false
namespace Go.Proofs.YtglgibmjcgfecaaGreatDoor
open Go Go.RowKit Go.Proofs Go.Xf Go.Sort

/-- What the closure holds. -/
structure Caps (w : World) (l : Ln) (bh bo br bl : Nat) : Prop where
  ch : w.cell? ⟨bh, 0, none⟩ = some s0
  co : w.cell? ⟨bo, 0, none⟩ = some s0
  cr : w.cell? ⟨br, 0, none⟩ = some (.bool true)
  l0 : w.cell? ⟨bl, 0, none⟩ = some (n64 l.k)
  l1 : w.cell? ⟨bl, 1, none⟩ = some (n64 l.a)
  l2 : w.cell? ⟨bl, 2, none⟩ = some (n64 l.t)
theorem Caps.move {w w' : World} {l : Ln} {bh bo br bl B : Nat} (c : Caps w l bh bo br bl) (hB : bh < B ∧ bo < B ∧ br < B ∧ bl < B) (hb : ∀ b, b < B → w'.heap[b]? = w.heap[b]?) : Caps w' l bh bo br bl := by
  obtain ⟨h1, h2, h3, h4⟩ := hB
  exact ⟨(World.cell?_of_block (hb _ h1)).trans c.ch, (World.cell?_of_block (hb _ h2)).trans c.co, (World.cell?_of_block (hb _ h3)).trans c.cr, (World.cell?_of_block (hb _ h4)).trans c.l0, (World.cell?_of_block (hb _ h4)).trans c.l1, (World.cell?_of_block (hb _ h4)).trans c.l2⟩

abbrev turnV (bh bo br bl : Nat) : Value := .func (.func 65) #[] #[.pointer (some ⟨bh, 0, none⟩), .pointer (some ⟨bo, 0, none⟩), .pointer (some ⟨br, 0, none⟩), .pointer (some ⟨bl, 0, none⟩)]
def okRow (l : Ln) (r : Int) : Prop := 0 ≤ idx l r ∧ idx l r < 2199023255552
instance (l : Ln) (r : Int) : Decidable (okRow l r) := by unfold okRow; infer_instance

theorem RefOwn.set {w : World} {B h : Nat} {r c z : Int} {ra ca : Bool} (k : RefOwn w B h r c ra ca) : RefOwn (w.setCell ⟨h, 1, none⟩ (n64 z)) B h z c ra ca := by
  obtain ⟨h1, cur, hg, h5, hc⟩ := k
  refine ⟨h1, cur.setIfInBounds 1 (n64 z), ?_, by simpa using h5, ?_⟩
  · simp only [World.setCell, Array.getElem?_modify, if_true, hg, Option.map_some, Option.isSome, Bool.false_eq_true, if_false]
  · rw [Array.toList_setIfInBounds, List.take_set, hc]
    rfl

theorem Chg.put {w u u' : World} {h g : Nat} (c : Chg w h u) (hb : Below g u u') (hg : w.heap.size ≤ g) : Chg w h u' :=
  ⟨hb.os.trans c.os, hb.tape.trans c.tape, hb.output.trans c.output, Nat.le_trans c.size hb.size, fun b hl hn => (hb.block b (by omega)).trans (c.block b hl hn)⟩
theorem each_state {w W u u3 : World} {B h : Nat} {r c z : Int} {ra ca : Bool} {cs cs' : List Value} (hlt : h < w.heap.size) (hR : RefOwn w B h r c ra ca) (hb1 : Below w.heap.size w W) (hk2 : Bl7 W w.heap.size cs) (hk4 : Bl7 W (w.heap.size + 1) cs') (hu : Below W.heap.size W u) (hu3 : u3 = u.setCell ⟨h, 1, none⟩ (n64 z)) :
    Bl7 u3 w.heap.size cs ∧ Bl7 u3 (w.heap.size + 1) cs' ∧ RefOwn u3 B h z c ra ca ∧ Chg w h u3 := by
  subst hu3
  refine ⟨(set_heap_ne _ _ _ _ _ (by omega)).trans (hk2.below hu hk2.lt), (set_heap_ne _ _ _ _ _ (by omega)).trans (hk4.below hu hk4.lt), ?_, ?_⟩
  · exact (hR.move ((hu.block h (Nat.lt_of_lt_of_le hlt hb1.size)).trans (hb1.block h hlt)) (Nat.le_refl _)).set
  · have c1 := Chg.of_below h (hb1.trans (hu.mono hb1.size))
    exact ⟨c1.os, c1.tape, c1.output, by simpa [World.setCell] using c1.size, fun b hl hn => (set_heap_ne _ _ _ _ _ hn).trans (c1.block b hl hn)⟩
set_option maxRecDepth 100000 in
theorem lost_w (w : World) : Calls Tryz.prog 71 #[] w fun e w' => e = .returned (.agg exE.toArray) ∧ Below w.heap.size w w' := by
  go_enter Tryz.func71, Tryz.ntmps71
  go_wp2
  all_goals refine bodyPost_ret (v := .agg exE.toArray) ?_ rfl ⟨rfl, (Below.refl _ _).alloc (Nat.le_refl _) _⟩
  all_goals exact res7 (p := 0) rfl rfl (Bl7.new w exE) rfl

set_option maxRecDepth 100000 in
set_option maxHeartbeats 4000000 in
theorem each_ref (l : Ln) (fk : Fits l.k) (fa : Fits l.a) (ft : Fits l.t) (hm : MayL l) (r c : Int) (ra ca : Bool) (hk : Kid.Ok (.rf r c ra ca)) (h q bh bo br bl B : Nat) (hq : 1 ≤ q) (hB : bh < B ∧ bo < B ∧ br < B ∧ bl < B) (w : World) (hBw : B ≤ w.heap.size) (hc : Caps w l bh bo br bl) (hR : RefOwn w B h r c ra ca) :
    Calls Tryz.prog 52 #[.agg (exR (.slice (some ⟨h, 0, none⟩) 1 q)).toArray, turnV bh bo br bl] w fun e w' =>
      ((okRow l r ∧ e = .returned (.agg (exR (.slice (some ⟨h, 0, none⟩) 1 q)).toArray) ∧ RefOwn w' B h (idx l r) c ra ca) ∨ (¬ okRow l r ∧ e = .returned (.agg exE.toArray))) ∧ Chg w h w' := by
  obtain ⟨h0, h1, h2, h3⟩ := hk
  have hlt := hR.lt
  have c0 : w.cell? ⟨h, 0, none⟩ = some sE := hR.range 0 _ rfl
  have c1 : w.cell? ⟨h, 1, none⟩ = some (n64 r) := hR.range 1 _ rfl
  have c2 : w.cell? ⟨h, 2, none⟩ = some (n64 c) := hR.range 2 _ rfl
  have c3 : w.cell? ⟨h, 3, none⟩ = some (.bool ra) := hR.range 3 _ rfl
  have c4 : w.cell? ⟨h, 4, none⟩ = some (.bool ca) := hR.range 4 _ rfl
  have HR : Hid (RefOwn w B h r c ra ca) := hR
  have HC : Hid (Caps w l bh bo br bl) := hc
  clear hR hc
  go_enter Tryz.func52, Tryz.ntmps52
  go_wp2
  refine wp_loop_rounds 1 ?_
  rw [rounds_succ]
  go_wp2
  refine wp_loop_rounds 2 ?_
  rw [rounds_succ]
  go_wp2
  refine (fun (k : ∀ W, (Below w.heap.size w W ∧ Bl7 W w.heap.size (exR (.slice (some ⟨h, 0, none⟩) 1 q)) ∧ Bl7 W (w.heap.size + 1) z7 ∧ W.heap[w.heap.size + 1 + 1]? = some (.cells (rfL r c ra ca).toArray 46 (0, 0))) → Code.wp _ _ _ _ W) => k _ ?hh) (fun W hW => ?_)
  case hh =>
    refine ⟨below_3 w _ _ _, ?_, ?_, ?_⟩
    · exact ((((Below.refl (w.alloc (.cells (exR (.slice (some ⟨h, 0, none⟩) 1 q)).toArray 35)).heap.size _).alloc (Nat.le_refl _) _).alloc (by simp) _).block w.heap.size (by simp)).trans (Bl7.new w _)
    · have hx := Bl7.new (w.alloc (.cells (exR (.slice (some ⟨h, 0, none⟩) 1 q)).toArray 35)) z7
      rw [show (w.alloc (.cells (exR (.slice (some ⟨h, 0, none⟩) 1 q)).toArray 35)).heap.size = w.heap.size + 1 by simp] at hx
      exact (((Below.refl ((w.alloc (.cells (exR (.slice (some ⟨h, 0, none⟩) 1 q)).toArray 35)).alloc (.cells z7.toArray 35)).heap.size _).alloc (Nat.le_refl _) _).block (w.heap.size + 1) (by simp)).trans hx
    · have hx := heap_alloc_last ((w.alloc (.cells (exR (.slice (some ⟨h, 0, none⟩) 1 q)).toArray 35)).alloc (.cells z7.toArray 35)) (.cells (rfL r c ra ca).toArray 46)
      simpa using hx
  obtain ⟨hb1, hk2, hk4, hk7⟩ := hW
  have HB1 : Hid (Below w.heap.size w W) := hb1
  have K2 : Hid (Bl7 W w.heap.size (exR (.slice (some ⟨h, 0, none⟩) 1 q))) := hk2
  have K4 : Hid (Bl7 W (w.heap.size + 1) z7) := hk4
  have d0 : W.cell? ⟨w.heap.size + 1 + 1, 0, none⟩ = some sE := (blk_cell hk7 0).trans rfl
  have d1 : W.cell? ⟨w.heap.size + 1 + 1, 1, none⟩ = some (n64 r) := (blk_cell hk7 1).trans rfl
  have d2 : W.cell? ⟨w.heap.size + 1 + 1, 2, none⟩ = some (n64 c) := (blk_cell hk7 2).trans rfl
  have d3 : W.cell? ⟨w.heap.size + 1 + 1, 3, none⟩ = some (.bool ra) := (blk_cell hk7 3).trans rfl
  have d4 : W.cell? ⟨w.heap.size + 1 + 1, 4, none⟩ = some (.bool ca) := (blk_cell hk7 4).trans rfl
  have b5 : W.cell? ⟨w.heap.size, 5, none⟩ = some (.slice (some ⟨h, 0, none⟩) 1 q) := (blk_cell hk2 5).trans rfl
  have HCW : Hid (Caps W l bh bo br bl ∧ W.cell? ⟨h, 1, none⟩ = some (n64 r) ∧ W.frozen? ⟨h, 1, none⟩ = false) := ⟨HC.out.move hB (fun b hb => hb1.block b (by omega)), (hb1.cell hlt).trans c1, (hb1.frozen hlt).trans (HR.out.frozen 1)⟩
  clear hb1 hk2 hk4 hk7 c0 c1 c2 c3 c4
  go_still_tail 6, (by kernel_rfl)
  have HTW : Hid (∀ u, u = W.drew → Calls Tryz.prog 65 #[.agg (rfL r c ra ca).toArray, .pointer (some ⟨h, 0, none⟩), .pointer (some ⟨bh, 0, none⟩), .pointer (some ⟨bo, 0, none⟩), .pointer (some ⟨br, 0, none⟩), .pointer (some ⟨bl, 0, none⟩)] u fun e w' =>
      e = .returned (.bool (decide (okRow l r))) ∧ ∃ u, Below W.heap.size W u ∧ w' = u.setCell ⟨h, 1, none⟩ (n64 (idx l r))) := fun u hu => by
    subst hu
    obtain ⟨⟨e1, e2, e3, e4, e5, e6⟩, e7, e8⟩ := HCW.out
    exact (turn_w l fk fa ft hm r c ra ca h0 h1 h bh bo br bl W.drew (Nat.lt_of_lt_of_le hlt HB1.out.size) e7 e8 e1 e2 e3 e4 e5 e6).mono fun e w' ⟨h1, u, h2, h3⟩ => ⟨h1, u, ⟨h2.os, h2.tape, h2.output, h2.size, h2.block⟩, h3⟩
  by_cases hok : okRow l r
  · have HOK : Hid (okRow l r) := hok
    rw [decide_eq_true hok] at HTW
    clear hok
    go_wp2_with (first
      | (go_at_call 65; refine (HTW.out _ rfl).mono ?_; rintro e u3 ⟨rfl, u, hu, hu3⟩; have hX := each_state hlt HR.out HB1.out K2.out K4.out hu hu3; clear hu3; obtain ⟨x1, x2, x3, x4⟩ := hX; have E2 : Hid (Bl7 u3 w.heap.size (exR (.slice (some ⟨h, 0, none⟩) 1 q))) := x1; have E4 : Hid (Bl7 u3 (w.heap.size + 1) z7) := x2; have ER : Hid (RefOwn u3 B h (idx l r) c ra ca) := x3; have EC : Hid (Chg w h u3) := x4; clear x1 x2 x3 x4 hu d0 d1 d2 d3 d4 b5)
      | fail)
    rw [rounds_succ]
    go_wp2_with (first
      | (have g1 := E2; clear g1; refine ld35 _ rfl rfl _ _ rfl _ rfl E2.out.range ?_)
      | (have g1 := E4; clear g1; refine st7 _ _ rfl rfl _ rfl (exR (.slice (some ⟨h, 0, none⟩) 1 q)) rfl rfl (exR_one _ _) _ rfl E4.out ?_; intro W2 k2 ho2 hs2 hb2; have F4 : Hid (Bl7 W2 (w.heap.size + 1) (exR (.slice (some ⟨h, 0, none⟩) 1 q))) := k2; have FR : Hid (RefOwn W2 B h (idx l r) c ra ca) := ER.out.move (ho2 _ (by omega)) (Nat.le_refl _); have FC : Hid (Chg w h W2) := EC.out.put hb2 (by omega); clear k2 ho2 hs2 hb2)
      | fail)
    all_goals refine bodyPost_ret (v := .agg (exR (.slice (some ⟨h, 0, none⟩) 1 q)).toArray) ?_ rfl ⟨.inl ⟨HOK.out, rfl, FR.out⟩, FC.out⟩
    all_goals exact res7 (p := 4) rfl rfl F4.out rfl
  · have HOK : Hid (¬ okRow l r) := hok
    rw [decide_eq_false hok] at HTW
    clear hok
    go_wp2_with (first
      | (go_at_call 65; refine (HTW.out _ rfl).mono ?_; rintro e u3 ⟨rfl, u, hu, hu3⟩; have hX := each_state hlt HR.out HB1.out K2.out K4.out hu hu3; clear hu3; obtain ⟨x1, x2, x3, x4⟩ := hX; have E2 : Hid (Bl7 u3 w.heap.size (exR (.slice (some ⟨h, 0, none⟩) 1 q))) := x1; have E4 : Hid (Bl7 u3 (w.heap.size + 1) z7) := x2; have ER : Hid (RefOwn u3 B h (idx l r) c ra ca) := x3; have EC : Hid (Chg w h u3) := x4; clear x1 x2 x3 x4 hu d0 d1 d2 d3 d4 b5)
      | (go_at_call 71; refine (lost_w _).mono ?_; rintro e u4 ⟨rfl, hb4⟩; have G4 : Hid (Bl7 u4 (w.heap.size + 1) z7) := E4.out.below hb4 E4.out.lt; have GC : Hid (Chg w h u4) := EC.out.next hb4; clear hb4 E2 E4 ER EC)
      | (have g1 := G4; clear g1; refine st7 _ _ rfl rfl _ rfl exE rfl rfl exE_one _ rfl G4.out ?_; intro W2 k2 ho2 hs2 hb2; have F4 : Hid (Bl7 W2 (w.heap.size + 1) exE) := k2; have FC : Hid (Chg w h W2) := GC.out.put hb2 (by omega); clear k2 ho2 hs2 hb2)
      | fail)
    all_goals refine bodyPost_ret (v := .agg exE.toArray) ?_ rfl ⟨.inr ⟨HOK.out, rfl⟩, FC.out⟩
    all_goals exact res7 (p := 4) rfl rfl F4.out rfl
end Go.Proofs.YtglgibmjcgfecaaGreatDoor

set_option linter.unusedSimpArgs false
set_option linter.unusedVariables false
namespace Go.Proofs.YtglgibmjcgfecaaGreatDoor
open Go Go.RowKit Go.Proofs Go.Xf Go.Sort

def stepK (l : Ln) : Kid → Kid
  | .rf r c ra ca => if okRow l r then .rf (idx l r) c ra ca else .er
  | .er => .er
theorem stepK_ok {l : Ln} {k : Kid} (h : k.Ok) : (stepK l k).Ok := by
  cases k with
  | rf r c ra ca =>
    unfold stepK
    by_cases ho : okRow l r
    · simp only [if_pos ho]; exact ⟨ho.1, ho.2, h.2.2.1, h.2.2.2⟩
    · simp only [if_neg ho]; trivial
  | er => trivial
theorem stepK_rf {l : Ln} {k : Kid} (h : (stepK l k).isRf = true) : k.isRf = true := by
  cases k with
  | rf r c ra ca => rfl
  | er => exact h

/-- Of what was there, at most one block may have changed. -/
structure Chk (w : World) (p : Bool) (h : Nat) (u : World) : Prop where
  os : u.os = w.os
  tape : u.tape = w.tape
  output : u.output = w.output
  size : w.heap.size ≤ u.heap.size
  block : ∀ b, b < w.heap.size → (p = true → b ≠ h) → u.heap[b]? = w.heap[b]?

set_option maxRecDepth 100000 in
set_option maxHeartbeats 4000000 in
theorem each_err (bh bo br bl : Nat) (w : World) : Calls Tryz.prog 52 #[.agg exE.toArray, turnV bh bo br bl] w fun e w' => e = .returned (.agg exE.toArray) ∧ Below w.heap.size w w' := by
  go_enter Tryz.func52, Tryz.ntmps52
  go_wp2
  refine wp_loop_rounds 1 ?_
  rw [rounds_succ]
  go_wp2
  refine (fun (k : ∀ W, (Bl7 W w.heap.size exE ∧ Bl7 W (w.heap.size + 1) z7 ∧ Below w.heap.size w W) → Code.wp _ _ _ _ W) => k _ ?hh) (fun W hW => ?_)
  case hh => exact grown_boxes (row := none) (cs := exE) (cs' := z7) ⟨rfl, rfl, rfl, Nat.le_refl _, fun _ _ _ => rfl⟩
  obtain ⟨hk2, hk4, hb⟩ := hW
  have E2 : Hid (Bl7 W w.heap.size exE) := hk2
  have E4 : Hid (Bl7 W (w.heap.size + 1) z7) := hk4
  have EB : Hid (Below w.heap.size w W) := hb
  clear hk2 hk4 hb
  refine wp_loop_rounds 1 ?_
  rw [rounds_succ]
  go_wp2_with (first
    | (refine ld35 _ rfl rfl _ _ rfl _ rfl E2.out.range ?_)
    | (refine st7 _ _ rfl rfl _ rfl exE rfl rfl exE_one _ rfl E4.out ?_; intro W2 k2 ho2 hs2 hb2; have F4 : Hid (Bl7 W2 (w.heap.size + 1) exE) := k2; have FB : Hid (Below w.heap.size w W2) := EB.out.trans (hb2.mono (by omega)); clear k2 ho2 hs2 hb2)
    | fail)
  all_goals refine bodyPost_ret (v := .agg exE.toArray) ?_ rfl ⟨rfl, FB.out⟩
  all_goals exact res7 (p := 4) rfl rfl F4.out rfl

theorem each_kid (l : Ln) (fk : Fits l.k) (fa : Fits l.a) (ft : Fits l.t) (hm : MayL l) (k : Kid) (vs : List Value) (hk : k.Ok) (h bh bo br bl B : Nat) (hB : bh < B ∧ bo < B ∧ br < B ∧ bl < B) (w : World) (hBw : B ≤ w.heap.size) (hc : Caps w l bh bo br bl) (hO : KidOwn w B k vs h) :
    Calls Tryz.prog 52 #[.agg vs.toArray, turnV bh bo br bl] w fun e w' => ∃ vs', e = .returned (.agg vs'.toArray) ∧ KidOwn w' B (stepK l k) vs' h ∧ Chk w k.isRf h w' := by
  cases k with
  | rf r c ra ca =>
    obtain ⟨⟨q, rfl, hq⟩, hR⟩ := hO
    refine (each_ref l fk fa ft hm r c ra ca hk h q bh bo br bl B hq hB w hBw hc hR).mono ?_
    rintro e w' ⟨h1, h2⟩
    have hC : Chk w true h w' := ⟨h2.os, h2.tape, h2.output, h2.size, fun b hb hn => h2.block b hb (hn rfl)⟩
    rcases h1 with ⟨ho, rfl, hR'⟩ | ⟨ho, rfl⟩
    · refine ⟨_, rfl, ?_, hC⟩
      unfold stepK
      simp only [if_pos ho]
      exact ⟨⟨q, rfl, hq⟩, hR'⟩
    · refine ⟨_, rfl, ?_, hC⟩
      unfold stepK
      simp only [if_neg ho]
      exact rfl
  | er =>
    have e : vs = exE := hO
    subst e
    exact (each_err bh bo br bl w).mono fun e w' ⟨h1, h2⟩ => ⟨_, h1, rfl, ⟨h2.os, h2.tape, h2.output, h2.size, fun b hb _ => h2.block b hb⟩⟩
end Go.Proofs.YtglgibmjcgfecaaGreatDoor

set_option linter.unusedSimpArgs false
set_option linter.unusedVariables false
namespace Go.Proofs.YtglgibmjcgfecaaGreatDoor
open Go Go.RowKit Go.Proofs Go.Xf Go.Sort

theorem setCells_ne (b : Nat) : ∀ (vs : List Value) (o : Nat) (w : World) (k : Nat), k ≠ b → (w.setCells b o vs).heap[k]? = w.heap[k]?
  | [], _, _, _, _ => rfl
  | v :: vs, o, w, k, h => by
    rw [World.setCells, setCells_ne b vs (o + 1) _ k h]
    exact set_heap_ne w b o v k h
theorem setCells_size (b : Nat) : ∀ (vs : List Value) (o : Nat) (w : World), (w.setCells b o vs).heap.size = w.heap.size
  | [], _, _ => rfl
  | v :: vs, o, w => by
    rw [World.setCells, setCells_size b vs (o + 1) _]
    simp [World.setCell]
theorem setCells_str (b : Nat) : ∀ (vs : List Value) (o : Nat) (w : World), (w.setCells b o vs).os = w.os ∧ (w.setCells b o vs).tape = w.tape ∧ (w.setCells b o vs).output = w.output
  | [], _, _ => ⟨rfl, rfl, rfl⟩
  | v :: vs, o, w => by
    rw [World.setCells]
    exact setCells_str b vs (o + 1) _
theorem there_move {w w' : World} {g o n : Nat} (h : w.there g o n) (hb : w'.heap[g]? = w.heap[g]?) : w'.there g o n := fun j hj =>
  ⟨by rw [World.cell?_of_block (w := w) (w' := w') (a := ⟨g, o + j, none⟩) hb]; exact (h j hj).1, by rw [World.frozen?_of_block (w := w) (w' := w') (a := ⟨g, o + j, none⟩) hb]; exact (h j hj).2⟩

/-- What does not change in the round: where the arguments lie. -/
structure EG (w : World) (B : Nat) (ks : List Kid) (g : Nat) (H : Nat → Nat) : Prop where
  lo : B ≤ g
  hi : g < w.heap.size
  ref : ∀ j, j < ks.length → ks[j]!.isRf = true → B ≤ H j ∧ H j < w.heap.size ∧ H j ≠ g
  apart : ∀ j j', j < ks.length → j' < ks.length → ks[j]!.isRf = true → ks[j']!.isRf = true → j ≠ j' → H j ≠ H j'
structure ES (w : World) (B : Nat) (l : Ln) (ks : List Kid) (vk : Value) (g : Nat) (H : Nat → Nat) (i : Nat) (u : World) : Prop where
  below : Below B w u
  b2 : Bl7 u w.heap.size (exF vk)
  b4 : Bl7 u (w.heap.size + 1) z7
  kid : ∀ j, j < ks.length → ∃ vs, KidOwn u B (if j < i then stepK l ks[j]! else ks[j]!) vs (H j) ∧ u.rangeAt g (j * 7) vs ∧ u.there g (j * 7) 7

theorem KidOwn.len {w : World} {B h : Nat} {k : Kid} {vs : List Value} (o : KidOwn w B k vs h) : vs.length = 7 := by
  obtain ⟨K, E, V, rfl, _⟩ := o.shape
  rfl

theorem ES.next {w u u' : World} {B : Nat} {l : Ln} {ks : List Kid} {vk : Value} {g : Nat} {H : Nat → Nat} {i : Nat} (G : EG w B ks g H) (h : ES w B l ks vk g H i u) (hB : B ≤ w.heap.size) (hb : Below u.heap.size u u') : ES w B l ks vk g H i u' := by
  have hsz : w.heap.size < u.heap.size := h.b2.lt
  refine ⟨h.below.trans (hb.mono (by omega)), h.b2.below hb h.b2.lt, h.b4.below hb h.b4.lt, fun j hj => ?_⟩
  obtain ⟨vs, h1, h2, h3⟩ := h.kid j hj
  refine ⟨vs, h1.move (fun hk => ?_) (Nat.le_refl _), range_block h2 (hb.block g (by have := G.hi; omega)), there_move h3 (hb.block g (by have := G.hi; omega))⟩
  have hk' : ks[j]!.isRf = true := by
    by_cases e : j < i
    · rw [if_pos e] at hk; exact stepK_rf hk
    · rw [if_neg e] at hk; exact hk
  exact hb.block _ (by have := (G.ref j hj hk').2.1; omega)

theorem ES.step {w u u3 : World} {B : Nat} {l : Ln} {ks : List Kid} {vk : Value} {g : Nat} {H : Nat → Nat} {i : Nat} {vs' : List Value} (G : EG w B ks g H) (hB : B ≤ w.heap.size) (h : ES w B l ks vk g H i u) (hi : i < ks.length)
    (hc : Chk u ks[i]!.isRf (H i) u3) (ho : KidOwn u3 B (stepK l ks[i]!) vs' (H i)) : ES w B l ks vk g H (i + 1) (u3.setCells g (i * 7) vs') := by
  have hsz : w.heap.size + 1 < u.heap.size := h.b4.lt
  have hl := ho.len
  have keep : ∀ b, b < u.heap.size → b ≠ g → (ks[i]!.isRf = true → b ≠ H i) → (u3.setCells g (i * 7) vs').heap[b]? = u.heap[b]? := fun b hb hg hn => (setCells_ne _ _ _ _ _ hg).trans (hc.block b hb hn)
  have hgi : ks[i]!.isRf = true → g ≠ H i := fun hr => fun e => (G.ref i hi hr).2.2 e.symm
  obtain ⟨s1, s2, s3⟩ := setCells_str g vs' (i * 7) u3
  have hlo := G.lo
  have hhi := G.hi
  refine ⟨⟨s1.trans (hc.os.trans h.below.os), s2.trans (hc.tape.trans h.below.tape), s3.trans (hc.output.trans h.below.output), ?_, fun b hb => ?_⟩, ?_, ?_, fun j hj => ?_⟩
  · rw [setCells_size]; exact Nat.le_trans h.below.size hc.size
  · rw [keep b (by omega) (by omega) (fun hr => by have := (G.ref i hi hr).1; omega)]
    exact h.below.block b hb
  · exact (keep _ (by omega) (by omega) (fun hr => by have := (G.ref i hi hr).2.1; omega)).trans h.b2
  · exact (keep _ (by omega) (by omega) (fun hr => by have := (G.ref i hi hr).2.1; omega)).trans h.b4
  · obtain ⟨vs, h1, h2, h3⟩ := h.kid j hj
    have t3 : u3.there g (j * 7) 7 := there_move h3 (hc.block g (by omega) hgi)
    by_cases e : j = i
    · subst e
      refine ⟨vs', ?_, World.rangeAt_setCells_same _ _ _ _ (by rw [hl]; exact t3), World.there_setCells t3 _ _ _⟩
      rw [if_pos (by omega)]
      exact ho.move (fun hr => setCells_ne _ _ _ _ _ (fun e => (hgi (stepK_rf hr)) e.symm)) (Nat.le_refl _)
    · have hk' : (if j < i + 1 then stepK l ks[j]! else ks[j]!) = (if j < i then stepK l ks[j]! else ks[j]!) := by
        by_cases e2 : j < i
        · rw [if_pos e2, if_pos (by omega)]
        · rw [if_neg e2, if_neg (by omega)]
      rw [hk']
      have hrf : (if j < i then stepK l ks[j]! else ks[j]!).isRf = true → ks[j]!.isRf = true := fun hk => by
        by_cases e2 : j < i
        · rw [if_pos e2] at hk; exact stepK_rf hk
        · rw [if_neg e2] at hk; exact hk
      refine ⟨vs, h1.move (fun hk => ?_) (Nat.le_refl _), ?_, World.there_setCells t3 _ _ _⟩
      · obtain ⟨a1, a2, a3⟩ := G.ref j hj (hrf hk)
        exact keep _ (by omega) a3 (fun hr => G.apart j i hj hi (hrf hk) hr e)
      · refine World.rangeAt_setCells_apart (range_block h2 (hc.block g (by omega) hgi)) _ _ _ ?_
        rw [h1.len, hl]
        omega
end Go.Proofs.YtglgibmjcgfecaaGreatDoor

set_option linter.unusedSimpArgs false
set_option linter.unusedVariables false
namespace Go.Proofs.YtglgibmjcgfecaaGreatDoor
open Go Go.RowKit Go.Proofs Go.Xf Go.Sort

theorem KidOwn.shape2 {w : World} {B h : Nat} {k : Kid} {vs : List Value} (o : KidOwn w B k vs h) : ∃ K E p n q, vs = exK K E (.slice p n q) := by
  cases k with
  | rf r c ra ca => obtain ⟨⟨q, e, _⟩, _⟩ := o; exact ⟨_, _, _, _, _, e⟩
  | er => exact ⟨_, _, _, _, _, o⟩
set_option maxRecDepth 100000 in
set_option maxHeartbeats 8000000 in
theorem each_some (l : Ln) (fk : Fits l.k) (fa : Fits l.a) (ft : Fits l.t) (hm : MayL l) (ks : List Kid) (hn : ks.length ≤ 8) (hk : ∀ k ∈ ks, k.Ok) (g q bh bo br bl B : Nat) (H : Nat → Nat) (hB : bh < B ∧ bo < B ∧ br < B ∧ bl < B) (w : World) (hBw : B ≤ w.heap.size) (hc : Caps w l bh bo br bl)
    (hq : ks.length ≤ q) (G : EG w B ks g H) (hK : ∀ j, j < ks.length → ∃ vs, KidOwn w B ks[j]! vs (H j) ∧ w.rangeAt g (j * 7) vs ∧ w.there g (j * 7) 7) :
    Calls Tryz.prog 52 #[.agg (exF (.slice (some ⟨g, 0, none⟩) ks.length q)).toArray, turnV bh bo br bl] w fun e w' => e = .returned (.agg (exF (.slice (some ⟨g, 0, none⟩) ks.length q)).toArray) ∧ Below B w w' ∧
      ∀ j, j < ks.length → ∃ vs, KidOwn w' B (stepK l ks[j]!) vs (H j) ∧ w'.rangeAt g (j * 7) vs := by
  have HC : Hid (Caps w l bh bo br bl) := hc
  have HG : Hid (EG w B ks g H) := G
  have HK : Hid (∀ j, j < ks.length → ∃ vs, KidOwn w B ks[j]! vs (H j) ∧ w.rangeAt g (j * 7) vs ∧ w.there g (j * 7) 7) := hK
  obtain ⟨n, hnn⟩ : ∃ n, n = ks.length := ⟨_, rfl⟩
  have HN : Hid (n = ks.length) := hnn
  rw [← hnn] at hn hq ⊢
  clear hc G hK hnn
  go_enter Tryz.func52, Tryz.ntmps52
  go_wp2
  refine (fun (k : ∀ W, ES w B l ks (.slice (some ⟨g, 0, none⟩) n q) g H 0 W → Code.wp _ _ _ _ W) => k _ ?hh) (fun W hW => ?_)
  case hh =>
    have hg := grown_boxes (w := w) (u := (w.alloc (.cells (exF (.slice (some ⟨g, 0, none⟩) n q)).toArray 35)).alloc (.cells z7.toArray 35)) (row := none) (cs := exF (.slice (some ⟨g, 0, none⟩) n q)) (cs' := z7) ⟨rfl, rfl, rfl, Nat.le_refl _, fun _ _ _ => rfl⟩
    refine ⟨hg.2.2.mono hBw, hg.1, hg.2.1, fun j hj => ?_⟩
    obtain ⟨vs, h1, h2, h3⟩ := HK.out j hj
    refine ⟨vs, by rw [if_neg (Nat.not_lt_zero _)]; exact h1.move (fun hr => hg.2.2.block _ (HG.out.ref j hj hr).2.1) (Nat.le_refl _), range_block h2 (hg.2.2.block _ HG.out.hi), there_move h3 (hg.2.2.block _ HG.out.hi)⟩
  have HW : Hid (ES w B l ks (.slice (some ⟨g, 0, none⟩) n q) g H 0 W) := hW
  clear hW
  go_loopw [11] (fun v11 u => ∃ i : Nat, i ≤ n ∧ v11 = .int .i64 (i : Nat) ∧ Hid (ES w B l ks (.slice (some ⟨g, 0, none⟩) n q) g H i u)) (fun v11 _ => n - (intOf v11).toNat)
  case atStart => exact ⟨0, Nat.zero_le _, rfl, HW.out⟩
  case round =>
    obtain ⟨i, hi, rfl, HI⟩ := hrel
    clear HW
    by_cases hlt : i < n
    · have hlk : i < ks.length := HN.out ▸ hlt
      obtain ⟨vs, h1, h2, h3⟩ := HI.out.kid i hlk
      rw [if_neg (Nat.lt_irrefl _)] at h1
      obtain ⟨K, E, V, rfl, hV1⟩ := h1.shape
      have HO : Hid (KidOwn wr B ks[i]! (exK K E V) (H i)) := h1
      have hsz : w.heap.size < wr.heap.size := HI.out.b2.lt
      have HCW : Hid (Caps wr l bh bo br bl) := HC.out.move hB (fun b hb => HI.out.below.block b hb)
      have HKO : Hid (ks[i]!.Ok) := hk _ (by rw [getElem!_pos ks i hlk]; exact List.getElem_mem _)
      have b6 : wr.cell? ⟨w.heap.size, 6, none⟩ = some (.slice (some ⟨g, 0, none⟩) n q) := HI.out.b2.range 6 _ rfl
      have d0 : wr.cell? ⟨g, i * 7, none⟩ = some (n64 K) := h2 0 _ rfl
      have d1 : wr.cell? ⟨g, i * 7 + 1, none⟩ = some (n64 0) := h2 1 _ rfl
      have d2 : wr.cell? ⟨g, i * 7 + 2, none⟩ = some sE := h2 2 _ rfl
      have d3 : wr.cell? ⟨g, i * 7 + 3, none⟩ = some (.bool false) := h2 3 _ rfl
      have d4 : wr.cell? ⟨g, i * 7 + 4, none⟩ = some (n64 E) := h2 4 _ rfl
      have d5 : wr.cell? ⟨g, i * 7 + 5, none⟩ = some V := h2 5 _ rfl
      have d6 : wr.cell? ⟨g, i * 7 + 6, none⟩ = some sN := h2 6 _ rfl
      have HEK : Hid (∀ u, u = wr.drew → Calls Tryz.prog 52 #[.agg (exK K E V).toArray, turnV bh bo br bl] u fun e w' => ∃ vs', e = .returned (.agg vs'.toArray) ∧ KidOwn w' B (stepK l ks[i]!) vs' (H i) ∧ Chk wr ks[i]!.isRf (H i) w') := fun u hu => by
        subst hu
        exact (each_kid l fk fa ft hm ks[i]! _ HKO.out (H i) bh bo br bl B hB wr.drew (by show B ≤ wr.heap.size; omega) (HCW.out.move hB (fun _ _ => rfl)) (HO.out.move (fun _ => rfl) (Nat.le_refl _))).mono fun e w' ⟨vs', e1, e2, e3⟩ => ⟨vs', e1, e2, ⟨e3.os, e3.tape, e3.output, e3.size, e3.block⟩⟩
      have HT : Hid (wr.there g (i * 7) 7) := h3
      clear h1 h2 h3
      go_wp2
      go_region_with (first
        | (go_at_call 52; refine (HEK.out _ rfl).mono ?_; rintro e u3 ⟨vs', rfl, ho', hc'⟩; obtain ⟨K', E', sp, sn, sq, rfl⟩ := ho'.shape2; have hgi : ks[i]!.isRf = true → g ≠ H i := (fun hr e => (HG.out.ref i hlk hr).2.2 e.symm); have hgb : u3.heap[g]? = wr.heap[g]? := hc'.block g (by have := HG.out.hi; omega) hgi; have hT3 : u3.there g (i * 7) 7 := there_move HT.out hgb; have b6 : u3.cell? ⟨w.heap.size, 6, none⟩ = some (.slice (some ⟨g, 0, none⟩) n q) := (World.cell?_of_block (hc'.block _ hsz (fun hr => by have := (HG.out.ref i hlk hr).2.1; show w.heap.size ≠ H i; omega))).trans b6; have t0 := hT3 0 (by omega); have t1 := hT3 1 (by omega); have t2 := hT3 2 (by omega); have t3 := hT3 3 (by omega); have t4 := hT3 4 (by omega); have t5 := hT3 5 (by omega); have t6 := hT3 6 (by omega); rw [Nat.add_zero] at t0; have f0 := t0.2; clear t0; have t0 := (World.cell?_of_block (a := ⟨g, i * 7, none⟩) hgb).trans d0; have f1 := t1.2; clear t1; have t1 := (World.cell?_of_block (a := ⟨g, i * 7 + 1, none⟩) hgb).trans d1; have f2 := t2.2; clear t2; have t2 := (World.cell?_of_block (a := ⟨g, i * 7 + 2, none⟩) hgb).trans d2; have f3 := t3.2; clear t3; have t3 := (World.cell?_of_block (a := ⟨g, i * 7 + 3, none⟩) hgb).trans d3; have f4 := t4.2; clear t4; have t4 := (World.cell?_of_block (a := ⟨g, i * 7 + 4, none⟩) hgb).trans d4; have f5 := t5.2; clear t5; have t5 := (World.cell?_of_block (a := ⟨g, i * 7 + 5, none⟩) hgb).trans d5; have f6 := t6.2; clear t6; have t6 := (World.cell?_of_block (a := ⟨g, i * 7 + 6, none⟩) hgb).trans d6; have HO3 : Hid (KidOwn u3 B (stepK l ks[i]!) (exK K' E' (.slice sp sn sq)) (H i)) := ho'; have HC3 : Hid (Chk wr ks[i]!.isRf (H i) u3) := hc'; clear ho' hc' hgi hT3 hgb d0 d1 d2 d3 d4 d5 d6)
        | fail)
      all_goals have hE : ES w B l ks (.slice (some ⟨g, 0, none⟩) n q) g H (i + 1) (u3.setCells g (i * 7) (exK K' E' (.slice sp sn sq))) := HI.out.step HG.out hBw hlk HC3.out HO3.out
      all_goals refine (fun (k : ∀ W4, ES w B l ks (.slice (some ⟨g, 0, none⟩) n q) g H (i + 1) W4 → Exit.inBlock 1 _ Exit.normal _ W4) => k _ hE) (fun W4 h4 => ?_)
      all_goals have H4 : Hid (ES w B l ks (.slice (some ⟨g, 0, none⟩) n q) g H (i + 1) W4) := h4
      all_goals clear h4 hE t0 t1 t2 t3 t4 t5 t6 f0 f1 f2 f3 f4 f5 f6 b6 HO3 HC3
      all_goals go_wp2
      all_goals refine ⟨⟨i + 1, by omega, by rw [Int.natCast_add]; rfl, H4⟩, ?_⟩
      all_goals (simp [intOf]; omega)
    · have e : i = n := by omega
      subst e
      have hk6 : Hid (∀ j, j < i → ∃ vs, KidOwn wr B (stepK l ks[j]!) vs (H j) ∧ wr.rangeAt g (j * 7) vs) := fun j hj => by
        obtain ⟨vs, h1, h2, h3⟩ := HI.out.kid j (HN.out ▸ hj)
        rw [if_pos hj] at h1
        exact ⟨vs, h1, h2⟩
      have b5 : wr.cell? ⟨w.heap.size, 5, none⟩ = some sN := HI.out.b2.range 5 _ rfl
      go_wp2
      refine wp_loop_rounds 1 ?_
      rw [rounds_succ]
      go_wp2_with (first
        | (refine ld35 _ rfl rfl _ _ rfl _ rfl HI.out.b2.range ?_)
        | (refine st7 _ _ rfl rfl _ rfl (exF (.slice (some ⟨g, 0, none⟩) i q)) rfl rfl (exF_one _ _ _) _ rfl HI.out.b4 ?_; intro W2 k2 ho2 hs2 hb2; have F4 : Hid (Bl7 W2 (w.heap.size + 1) (exF (.slice (some ⟨g, 0, none⟩) i q))) := k2; have FB : Hid (Below B w W2) := HI.out.below.trans (hb2.mono (by omega)); have FK : Hid (∀ j, j < i → ∃ vs, KidOwn W2 B (stepK l ks[j]!) vs (H j) ∧ W2.rangeAt g (j * 7) vs) := (fun j hj => by obtain ⟨vs, h1, h2⟩ := hk6.out j hj; exact ⟨vs, h1.move (fun hr => ho2 _ (by have := (HG.out.ref j (HN.out ▸ hj) (stepK_rf hr)).2.1; omega)) (Nat.le_refl _), range_block h2 (ho2 _ (by have := HG.out.hi; omega))⟩); clear k2 ho2 hs2 hb2)
        | fail)
      all_goals refine bodyPost_ret (v := .agg (exF (.slice (some ⟨g, 0, none⟩) i q)).toArray) ?_ rfl ⟨rfl, FB.out, FK.out⟩
      all_goals exact res7 (p := 4) rfl rfl F4.out rfl
end Go.Proofs.YtglgibmjcgfecaaGreatDoor

