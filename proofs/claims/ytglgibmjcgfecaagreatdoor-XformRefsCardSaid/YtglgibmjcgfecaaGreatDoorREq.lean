/- XformRefs, the walks: a tree is the same as itself. -/
import Derived.Test.YtglgibmjcgfecaaGreatDoorRPrint
import Derived.StillTailTactics
import Derived.Laws.AppendOwnNone
set_option linter.unusedSimpArgs false
set_option linter.unusedVariables false
set_option linter.unusedSimpArgs false
set_option linter.unusedVariables false
namespace Go.Proofs.YtglgibmjcgfecaaGreatDoor
open Go Go.RowKit Go.Proofs Go.Xf

theorem below_dN (w : World) (k : Nat) : Below w.heap.size w (w.drewN k) := ⟨rfl, rfl, rfl, Nat.le_refl _, fun _ _ => rfl⟩
set_option maxRecDepth 100000 in
set_option maxHeartbeats 4000000 in
theorem eq_ref (r c : Int) (ra ca : Bool) (g q : Nat) (hq : 1 ≤ q) (m : Int) (hm : 1 ≤ m) (hm2 : m ≤ 100000) (L N : Nat) (w : World) (hNL : N ≤ L) (hN : N ≤ w.heap.size) (hg : g < N) (hr : w.rangeAt g 0 (rfL r c ra ca)) (hc : w.cell? ⟨L, 0, none⟩ = some (n64 m)) (hf : w.frozen? ⟨L, 0, none⟩ = false) :
    Calls Tryz.prog 77 #[.agg (exR (.slice (some ⟨g, 0, none⟩) 1 q)).toArray, .agg (exR (.slice (some ⟨g, 0, none⟩) 1 q)).toArray, .pointer (some ⟨L, 0, none⟩)] w fun e w' => e = .returned (.bool true) ∧ Cnt w L (m - 1) w' := by
  have HC : Hid (Cnt w L m w) := Cnt.start hc hf
  have hL : L < w.heap.size := HC.out.lt
  have e1 : wrap64 (m - 1) = m - 1 := wr (by omega) (by omega)
  have c0 : w.cell? ⟨g, 0, none⟩ = some sE := hr 0 _ rfl
  have c1 : w.cell? ⟨g, 1, none⟩ = some (n64 r) := hr 1 _ rfl
  have c2 : w.cell? ⟨g, 2, none⟩ = some (n64 c) := hr 2 _ rfl
  have c3 : w.cell? ⟨g, 3, none⟩ = some (.bool ra) := hr 3 _ rfl
  have c4 : w.cell? ⟨g, 4, none⟩ = some (.bool ca) := hr 4 _ rfl
  have hgL : g ≠ L := by omega
  have hgw : g < w.heap.size := by omega
  clear hr
  go_enter Tryz.func77, Tryz.ntmps77
  go_wp2_with (first
    | fail)
  refine wp_loop_rounds 2 ?_
  rw [rounds_succ]
  go_wp2
  all_goals go_quiet (fail)
  all_goals go_wp2
  all_goals rw [rounds_succ]
  all_goals go_wp2
  all_goals refine wp_loop_rounds 1 ?_
  all_goals rw [rounds_succ]
  all_goals go_wp2
  all_goals go_ret
  all_goals exact ⟨rfl, (((Hid.out HC).set (m - 1)).laid _ |>.laid _).next (below_dN _ _)⟩

set_option maxRecDepth 100000 in
set_option maxHeartbeats 4000000 in
theorem eq_err (m : Int) (hm : 1 ≤ m) (hm2 : m ≤ 100000) (L : Nat) (w : World) (hc : w.cell? ⟨L, 0, none⟩ = some (n64 m)) (hf : w.frozen? ⟨L, 0, none⟩ = false) :
    Calls Tryz.prog 77 #[.agg exE.toArray, .agg exE.toArray, .pointer (some ⟨L, 0, none⟩)] w fun e w' => e = .returned (.bool true) ∧ Cnt w L (m - 1) w' := by
  have HC : Hid (Cnt w L m w) := Cnt.start hc hf
  have hL : L < w.heap.size := HC.out.lt
  have e1 : wrap64 (m - 1) = m - 1 := wr (by omega) (by omega)
  go_enter Tryz.func77, Tryz.ntmps77
  go_wp2
  all_goals refine wp_loop_rounds 1 ?_
  all_goals rw [rounds_succ]
  all_goals go_wp2
  all_goals refine wp_loop_rounds 1 ?_
  all_goals rw [rounds_succ]
  all_goals go_wp2
  all_goals go_ret
  all_goals exact ⟨rfl, (((Hid.out HC).set (m - 1)).laid _ |>.laid _)⟩

theorem two_a (w u : World) (h : u.heap.size = w.heap.size) (cs cs' : Array Value) (e e' : TypeId) (j : Nat) : ((u.alloc (.cells cs e)).alloc (.cells cs' e')).cell? ⟨w.heap.size, j, none⟩ = cs[j]? := by rw [← h]; exact laid_cell2 u cs cs' e e' j
theorem two_b (w u : World) (h : u.heap.size = w.heap.size) (cs cs' : Array Value) (e e' : TypeId) (j : Nat) : ((u.alloc (.cells cs e)).alloc (.cells cs' e')).cell? ⟨w.heap.size + 1, j, none⟩ = cs'[j]? := by rw [← h]; exact laid_cell3 u cs cs' e e' j
theorem KidAt.shape {w : World} {N : Nat} {k : Kid} {vs : List Value} (h : KidAt w N k vs) : ∃ K E V, vs = exK K E V := by
  cases k with
  | rf r c ra ca => obtain ⟨g, q, e, _⟩ := h; exact ⟨_, _, _, e⟩
  | er => exact ⟨_, _, _, h⟩
theorem eq_kid (k : Kid) (vs : List Value) (m : Int) (hm : 1 ≤ m) (hm2 : m ≤ 100000) (L N : Nat) (w : World) (hN : N ≤ w.heap.size) (hNL : N ≤ L) (hA : KidAt w N k vs) (hc : w.cell? ⟨L, 0, none⟩ = some (n64 m)) (hf : w.frozen? ⟨L, 0, none⟩ = false) :
    Calls Tryz.prog 77 #[.agg vs.toArray, .agg vs.toArray, .pointer (some ⟨L, 0, none⟩)] w fun e w' => e = .returned (.bool true) ∧ Cnt w L (m - 1) w' := by
  cases k with
  | rf r c ra ca =>
    obtain ⟨g, q, rfl, hq, hg, hr⟩ := hA
    exact eq_ref r c ra ca g q hq m hm hm2 L N w hNL hN hg hr hc hf
  | er =>
    have e : vs = exE := hA
    subst e
    exact eq_err m hm hm2 L w hc hf

set_option maxRecDepth 100000 in
set_option maxHeartbeats 4000000 in
theorem eq_sum (ks : List Kid) (vk : Value) (m : Int) (hn : ks.length ≤ 8) (hm : 9 ≤ m) (hm2 : m ≤ 100000) (L N : Nat) (w : World) (hN : N ≤ w.heap.size) (hNL : N ≤ L) (hA : SumAt w N ks vk) (hc : w.cell? ⟨L, 0, none⟩ = some (n64 m)) (hf : w.frozen? ⟨L, 0, none⟩ = false) :
    Calls Tryz.prog 77 #[.agg (exF vk).toArray, .agg (exF vk).toArray, .pointer (some ⟨L, 0, none⟩)] w fun e w' => e = .returned (.bool true) ∧ Cnt w L (m - 1 - ks.length) w' := by
  have HC : Hid (Cnt w L m w) := Cnt.start hc hf
  have hL : L < w.heap.size := HC.out.lt
  have e1 : wrap64 (m - 1) = m - 1 := wr (by omega) (by omega)
  obtain ⟨p, q, rfl, hq, hA⟩ := hA
  have HA : Hid (0 < ks.length → ∃ g, p = some ⟨g, 0, none⟩ ∧ KidsAt w N ks g) := hA
  obtain ⟨n, hnn⟩ : ∃ n, n = ks.length := ⟨_, rfl⟩
  have HN : Hid (n = ks.length) := hnn
  rw [← hnn] at hn hq ⊢
  clear hA hnn
  go_enter Tryz.func77, Tryz.ntmps77
  go_wp2
  refine wp_loop_rounds 1 ?_
  rw [rounds_succ]
  go_wp2
  refine (fun (k : ∀ W, (Cnt w L (m - 1) W ∧ W.cell? ⟨w.heap.size, 6, none⟩ = some (.slice p n q) ∧ W.cell? ⟨w.heap.size + 1, 6, none⟩ = some (.slice p n q)) → Code.wp _ _ _ _ W) => k _ ?hh) (fun w1 hW => ?_)
  · exact ⟨(((Hid.out HC).set (m - 1)).laid _ |>.laid _), two_a _ _ (by simp [World.setCell]) _ _ _ _ 6, two_b _ _ (by simp [World.setCell]) _ _ _ _ 6⟩
  obtain ⟨hw1, hb0, hb1⟩ := hW
  have HC1 : Hid (Cnt w L (m - 1) w1) := hw1
  have HB : Hid (w1.cell? ⟨w.heap.size, 6, none⟩ = some (.slice p n q) ∧ w1.cell? ⟨w.heap.size + 1, 6, none⟩ = some (.slice p n q)) := ⟨hb0, hb1⟩
  clear hw1 hb0 hb1 hc hf
  · go_loopw [92] (fun v92 u => ∃ i : Nat, i ≤ n ∧ v92 = .int .i64 (i : Nat) ∧ Hid (Cnt w1 L (m - 1 - i) u)) (fun v92 _ => n - (intOf v92).toNat)
    case atStart => exact ⟨0, Nat.zero_le _, rfl, (show Cnt w1 L (m - 1 - ((0 : Nat) : Int)) w1 from by simpa using Cnt.start HC1.out.cell HC1.out.frozen)⟩
    case round =>
      obtain ⟨i, hi, rfl, HI⟩ := hrel
      by_cases hlt : i < n
      · obtain ⟨g, rfl, hg, hkid⟩ := HA.out (by rw [← HN.out]; omega)
        obtain ⟨vs, hvs, hrg⟩ := hkid i (by rw [← HN.out]; exact hlt)
        have HV : Hid (KidAt wr N ks[i]! vs) := hvs.move (fun b hb => (HI.out.old hNL (Nat.le_trans hN HC1.out.size) b hb).trans (HC1.out.old hNL hN b hb))
        have HR : wr.rangeAt g (i * 7) vs := range_block hrg ((HI.out.old hNL (Nat.le_trans hN HC1.out.size) g hg).trans (HC1.out.old hNL hN g hg))
        have HS : Hid (N ≤ wr.heap.size) := Nat.le_trans (Nat.le_trans hN HC1.out.size) HI.out.size
        have b0 : wr.cell? ⟨w.heap.size, 6, none⟩ = some (.slice (some ⟨g, 0, none⟩) n q) := (World.cell?_of_block (HI.out.block _ (World.block_lt_of_cell? _ _ HB.out.1) (by show w.heap.size ≠ L; omega))).trans HB.out.1
        have b1 : wr.cell? ⟨w.heap.size + 1, 6, none⟩ = some (.slice (some ⟨g, 0, none⟩) n q) := (World.cell?_of_block (HI.out.block _ (World.block_lt_of_cell? _ _ HB.out.2) (by show w.heap.size + 1 ≠ L; omega))).trans HB.out.2
        obtain ⟨K, E, V, rfl⟩ := hvs.shape
        have d0 : wr.cell? ⟨g, i * 7, none⟩ = some (n64 K) := HR 0 _ rfl
        have d1 : wr.cell? ⟨g, i * 7 + 1, none⟩ = some (n64 0) := HR 1 _ rfl
        have d2 : wr.cell? ⟨g, i * 7 + 2, none⟩ = some sE := HR 2 _ rfl
        have d3 : wr.cell? ⟨g, i * 7 + 3, none⟩ = some (.bool false) := HR 3 _ rfl
        have d4 : wr.cell? ⟨g, i * 7 + 4, none⟩ = some (n64 E) := HR 4 _ rfl
        have d5 : wr.cell? ⟨g, i * 7 + 5, none⟩ = some V := HR 5 _ rfl
        have d6 : wr.cell? ⟨g, i * 7 + 6, none⟩ = some sN := HR 6 _ rfl
        clear hvs hrg hkid HR
        go_wp2
        go_still_tail 11, (by kernel_rfl)
        go_wp2_with (first
          | (go_at_call 77; refine (eq_kid ks[i]! _ (m - 1 - i) (by omega) (by omega) L N wr.drew HS.out hNL (HV.out.move (fun _ _ => rfl)) HI.out.cell HI.out.frozen).mono ?_; rintro e u3 ⟨rfl, hb3⟩; have HI3 : Hid (Cnt w1 L (m - 1 - i - 1) u3) := (HI.out.next (below_dr (Below.refl _ _))).trans hb3; clear hb3)
          | fail)
        all_goals refine ⟨⟨i + 1, by omega, by rw [Int.natCast_add]; rfl, (show Cnt w1 L (m - 1 - ((i + 1 : Nat) : Int)) u3 from by rw [show m - 1 - ((i + 1 : Nat) : Int) = m - 1 - i - 1 by omega]; exact HI3.out)⟩, ?_⟩
        all_goals (simp [intOf]; omega)
      · go_wp2
        go_ret
        have e : i = n := by omega
        subst e
        exact ⟨rfl, HC1.out.trans HI.out⟩
end Go.Proofs.YtglgibmjcgfecaaGreatDoor

set_option linter.unusedSimpArgs false
set_option linter.unusedVariables false
namespace Go.Proofs.YtglgibmjcgfecaaGreatDoor
open Go Go.RowKit Go.Proofs Go.Xf

theorem third_c (w : World) (a b : Obj) (cs : Array Value) (e : TypeId) (j : Nat) : (((w.alloc a).alloc b).alloc (.cells cs e)).cell? ⟨w.heap.size + 1 + 1, j, none⟩ = cs[j]? := by
  have := laid_cell ((w.alloc a).alloc b) cs e j
  simpa using this
theorem third_f (w : World) (a b : Obj) (cs : Array Value) (e : TypeId) (j : Nat) : (((w.alloc a).alloc b).alloc (.cells cs e)).frozen? ⟨w.heap.size + 1 + 1, j, none⟩ = false := by
  have := laid_frozen ((w.alloc a).alloc b) cs e j
  simpa using this
set_option maxRecDepth 100000 in
set_option maxHeartbeats 2000000 in
/-- parse.Eq: a tree SUM(..) is the same as itself. -/
theorem Eq_sum (ks : List Kid) (vk : Value) (hn : ks.length ≤ 8) (N : Nat) (w : World) (hN : N ≤ w.heap.size) (hA : SumAt w N ks vk) :
    Calls Tryz.prog 59 #[.agg (exF vk).toArray, .agg (exF vk).toArray] w fun e w' => e = .returned (.bool true) ∧ Below w.heap.size w w' := by
  have hA0 := hA
  obtain ⟨p, q, rfl, hq, hA⟩ := hA
  have HA : Hid (SumAt w N ks (.slice p ks.length q)) := hA0
  clear hA hA0
  go_enter Tryz.func59, Tryz.ntmps59
  go_wp2_with (first
    | (go_at_call 77; refine (eq_sum ks (.slice p ks.length q) 65536 hn (by omega) (by omega) (w.heap.size + 1 + 1) N _ (by simp; omega) (by omega) (HA.out.move (fun b hb => (below_3 w _ _ _).block b (by omega))) (third_c w _ _ _ _ 0) (third_f w _ _ _ _ 0)).mono ?_; rintro e w1 ⟨rfl, hb1⟩; have HB : Hid (Below w.heap.size w w1) := ((below_3 w _ _ _).trans (hb1.below (by omega) (by simp; omega))); clear hb1)
    | fail)
  all_goals go_ret
  all_goals exact ⟨rfl, HB.out⟩
end Go.Proofs.YtglgibmjcgfecaaGreatDoor

set_option linter.unusedSimpArgs false
set_option linter.unusedVariables false
namespace Go.Proofs.YtglgibmjcgfecaaGreatDoor
open Go Go.RowKit Go.Proofs Go.Xf

/-- A reference in a block of the call's own. -/
def RefOwn (w : World) (B h : Nat) (r c : Int) (ra ca : Bool) : Prop := B ≤ h ∧ ∃ cur : Array Value, w.heap[h]? = some (.cells cur 46 (0, 0)) ∧ 5 ≤ cur.size ∧ cur.toList.take 5 = rfL r c ra ca
theorem RefOwn.lt {w : World} {B h : Nat} {r c : Int} {ra ca : Bool} (k : RefOwn w B h r c ra ca) : h < w.heap.size := by
  obtain ⟨_, cur, hg, _⟩ := k
  exact (Array.getElem?_eq_some_iff.1 hg).1
theorem RefOwn.move {w w' : World} {B B' h : Nat} {r c : Int} {ra ca : Bool} (k : RefOwn w B h r c ra ca) (hb : w'.heap[h]? = w.heap[h]?) (hB : B' ≤ B) : RefOwn w' B' h r c ra ca := by
  obtain ⟨h1, cur, hg, h2⟩ := k
  exact ⟨Nat.le_trans hB h1, cur, hb.trans hg, h2⟩
theorem RefOwn.range {w : World} {B h : Nat} {r c : Int} {ra ca : Bool} (k : RefOwn w B h r c ra ca) : w.rangeAt h 0 (rfL r c ra ca) := by
  obtain ⟨_, cur, hg, h5, hc⟩ := k
  intro j v hj
  have hj5 : j < 5 := by have := (List.getElem?_eq_some_iff.1 hj).1; simpa using this
  unfold World.cell?
  rw [Nat.zero_add]
  simp only [hg]
  rw [← hc, List.getElem?_take_of_lt hj5] at hj
  simpa using hj
theorem RefOwn.frozen {w : World} {B h : Nat} {r c : Int} {ra ca : Bool} (k : RefOwn w B h r c ra ca) (j : Nat) : w.frozen? ⟨h, j, none⟩ = false := by
  obtain ⟨_, cur, hg, _⟩ := k
  unfold World.frozen?
  simp only [hg]
  simp
theorem RefOwn.of_row {w : World} {B : Nat} {v : Value} {r c : Int} {ra ca : Bool} (h : w.ownsRow B 46 5 v 1 (rfL r c ra ca)) : ∃ g q, v = .slice (some ⟨g, 0, none⟩) 1 q ∧ 1 ≤ q ∧ RefOwn w B g r c ra ca := by
  rcases h.2 with ⟨_, h0⟩ | ⟨g, cap, cur, rfl, hb, hg, hn, hm, hs, ht⟩
  · cases h0
  · exact ⟨g, cap, rfl, hn, hb, cur, hg, by omega, by simpa using ht⟩

/-- How an argument lies in memory of the call's own. -/
def KidOwn (w : World) (B : Nat) : Kid → List Value → Nat → Prop
  | .rf r c ra ca, vs, h => (∃ q, vs = exR (.slice (some ⟨h, 0, none⟩) 1 q) ∧ 1 ≤ q) ∧ RefOwn w B h r c ra ca
  | .er, vs, _ => vs = exE

theorem Tryz.info46 : (Tryz.prog.info? 46).map (fun i => (i.zero, i.size, i.bytes)) = some (some (.agg #[sE, n64 0, n64 0, .bool false, .bool false]), 5, 40) := by kernel_rfl
theorem rfL_one (r c : Int) (ra ca : Bool) : ∀ v ∈ rfL r c ra ca, v.oneCell' = true := List.all_eq_true.1 (show (rfL r c ra ca).all (·.oneCell') = true from rfl)

theorem grown_boxes {w u : World} {cs cs' : List Value} {row : Option Nat} (hg : ((w.alloc (.cells cs.toArray 35)).alloc (.cells cs'.toArray 35)).grownBy u row) (hr : ∀ k, row = some k → w.heap.size + 2 ≤ k := by intro _ h; cases h) : Bl7 u w.heap.size cs ∧ Bl7 u (w.heap.size + 1) cs' ∧ Below w.heap.size w u := by
  have hb : Below (w.heap.size + 2) ((w.alloc (.cells cs.toArray 35)).alloc (.cells cs'.toArray 35)) u := (Below.refl _ _).grown hg (by simp) hr
  refine ⟨(hb.block _ (by omega)).trans ?_, (hb.block _ (by omega)).trans ?_, (((Below.refl _ _).alloc (Nat.le_refl _) _).alloc (by simp) _).trans (hb.mono (by omega))⟩
  · have h1 := ((Below.refl (w.alloc (.cells cs.toArray 35)).heap.size (w.alloc (.cells cs.toArray 35))).alloc (Nat.le_refl _) (.cells cs'.toArray 35)).block w.heap.size (by simp)
    exact h1.trans (Bl7.new w cs)
  · have h2 : ((w.alloc (.cells cs.toArray 35)).alloc (.cells cs'.toArray 35)).heap[(w.alloc (.cells cs.toArray 35)).heap.size]? = some (.cells cs'.toArray 35 (0, 0)) := Bl7.new (w.alloc (.cells cs.toArray 35)) cs'
    rw [show (w.alloc (.cells cs.toArray 35)).heap.size = w.heap.size + 1 by simp] at h2
    exact h2
theorem Bl7.frozen {w : World} {g : Nat} {cs : List Value} (h : Bl7 w g cs) (j : Nat) : w.frozen? ⟨g, j, none⟩ = false := by
  have h' : w.heap[g]? = some (.cells cs.toArray 35 (0, 0)) := h
  unfold World.frozen?
  simp only [h']
  simp
theorem Bl7.set {w : World} {g : Nat} {cs : List Value} (h : Bl7 w g cs) (i : Nat) (x : Value) : Bl7 (w.setCell ⟨g, i, none⟩ x) g (cs.set i x) := by
  have h' : w.heap[g]? = some (.cells cs.toArray 35 (0, 0)) := h
  show (w.setCell ⟨g, i, none⟩ x).heap[g]? = _
  simp only [World.setCell, Array.getElem?_modify, if_true, h', Option.map_some, Option.isSome, Bool.false_eq_true, if_false]
  simp
theorem exR_one (p : Option Addr) (q : Nat) : ∀ v ∈ exR (.slice p 1 q), v.oneCell' = true := List.all_eq_true.1 (show (exR (.slice p 1 q)).all (·.oneCell') = true from rfl)
theorem exE_one : ∀ v ∈ exE, v.oneCell' = true := List.all_eq_true.1 (show exE.all (·.oneCell') = true from rfl)
theorem res7 {fn : Func} {p : Tmp} {tmps : Array Value} {w : World} {g : Nat} {cs : List Value} (h : fn.results = #[.cell p 35]) (hp : tmps.getD p undef = .pointer (some ⟨g, 0, none⟩)) (hg : Bl7 w g cs)
    (hs : 7 = cs.toArray.size) : (results fn tmps).run Tryz.prog w = .ok (.agg cs.toArray) w := by
  exact results_cell_row (P := Tryz.prog) h _ _ g 35 _ (0, 0) _ hp hg Tryz.underlying35 rfl (by rw [← hs]; kernel_rfl)
theorem set_heap_ne (w : World) (b o : Nat) (x : Value) (k : Nat) (h : k ≠ b) : (w.setCell ⟨b, o, none⟩ x).heap[k]? = w.heap[k]? := by
  simp only [World.setCell, Array.getElem?_modify]
  rw [if_neg (fun e => h e.symm)]

set_option maxRecDepth 100000 in
set_option maxHeartbeats 4000000 in
theorem clone_ref (r c : Int) (ra ca : Bool) (g q : Nat) (hq : 1 ≤ q) (w : World) (hg : g < w.heap.size) (hr : w.rangeAt g 0 (rfL r c ra ca)) :
    Calls Tryz.prog 29 #[.agg (exR (.slice (some ⟨g, 0, none⟩) 1 q)).toArray] w fun e w' => ∃ h q', e = .returned (.agg (exR (.slice (some ⟨h, 0, none⟩) 1 q')).toArray) ∧ 1 ≤ q' ∧ Below w.heap.size w w' ∧ RefOwn w' w.heap.size h r c ra ca := by
  obtain ⟨i0, hi, hz0, hz1, hz2⟩ := info_parts Tryz.info46
  go_enter Tryz.func29, Tryz.ntmps29
  go_wp2_with (first
    | (at_builtin; refine wpList_append_own _ rfl (.const (.slice none 0 0)) (.tmp 7) 32 rfl (w.heap.size + 2) 46 i0 (.agg #[sE, n64 0, n64 0, .bool false, .bool false]) 5 40 Tryz.underlying32 hi hz0 hz1 hz2 rfl (by decide) (.slice none 0 0) 0 [] rfl (World.ownsRow_nil _ _ _ _) ⟨g, 0, none⟩ 1 q (rfL r c ra ca) rfl rfl (fun j x hj => by rw [Addr.add_mid]; exact range_below hr (((Below.refl w.heap.size w).alloc (Nat.le_refl _) _).alloc (by simp) _) hg j x hj) (rfL_one r c ra ca) (by unfold maxLen; omega) (by omega) (by simp) ?_; intro v1 u1 ho1 hg1 _; obtain ⟨h1, q1, rfl, hq1, hR1⟩ := RefOwn.of_row (r := r) (c := c) (ra := ra) (ca := ca) ho1; have HR1 : Hid (RefOwn u1 (w.heap.size + 2) h1 r c ra ca) := hR1; have hK := grown_boxes hg1; obtain ⟨hk1, hk2, hkb⟩ := hK; have K1 : Hid (Bl7 u1 w.heap.size (exR (.slice (some ⟨g, 0, none⟩) 1 q))) := hk1; have K2 : Hid (Bl7 u1 (w.heap.size + 1) [n64 0, n64 0, sE, .bool false, n64 0, sN, sN]) := hk2; have HB1 : Hid (Below w.heap.size w u1) := hkb; have p5 : u1.cell? ⟨w.heap.size, 5, none⟩ = some (.slice (some ⟨g, 0, none⟩) 1 q) := K1.out.range 5 _ rfl; have f5 : u1.frozen? ⟨w.heap.size, 5, none⟩ = false := K1.out.frozen 5; have p6 : u1.cell? ⟨w.heap.size, 6, none⟩ = some sN := K1.out.range 6 _ rfl; have HG1 : Hid (w.heap.size + 2 ≤ u1.heap.size) := (by have := hg1.size; simp at this; show w.heap.size + 2 ≤ u1.heap.size; omega); clear ho1 hg1 hR1 hk1 hk2 hkb)
    | fail)
  refine (fun (k : ∀ W, (Bl7 W w.heap.size (exR (.slice (some ⟨h1, 0, none⟩) 1 q1)) ∧ Bl7 W (w.heap.size + 1) [n64 0, n64 0, sE, .bool false, n64 0, sN, sN] ∧ RefOwn W (w.heap.size + 2) h1 r c ra ca ∧ Below w.heap.size w W) → Code.wp _ _ _ _ W) => k _ ?hh) (fun W hW => ?_)
  case hh => exact ⟨K1.out.set 5 _, (set_heap_ne _ _ _ _ _ (by omega)).trans K2.out, HR1.out.move (set_heap_ne _ _ _ _ _ (by have := HR1.out.1; omega)) (Nat.le_refl _), HB1.out.setCell (Nat.le_refl _) _⟩
  obtain ⟨hk1, hk2, hr1, hb1⟩ := hW
  have G1 : Hid (Bl7 W w.heap.size (exR (.slice (some ⟨h1, 0, none⟩) 1 q1))) := hk1
  have G2 : Hid (Bl7 W (w.heap.size + 1) [n64 0, n64 0, sE, .bool false, n64 0, sN, sN]) := hk2
  have GR : Hid (RefOwn W (w.heap.size + 2) h1 r c ra ca) := hr1
  have GB : Hid (Below w.heap.size w W) := hb1
  have g6 : W.cell? ⟨w.heap.size, 6, none⟩ = some sN := G1.out.range 6 _ rfl
  have gf : W.frozen? ⟨w.heap.size, 6, none⟩ = false := G1.out.frozen 6
  clear hk1 hk2 hr1 hb1 K1 K2 HR1 HB1 HG1 p5 f5 p6
  refine wp_loop_rounds 1 ?_
  rw [rounds_succ]
  go_wp2_with (first
    | (refine ld35 _ rfl rfl _ _ rfl _ rfl (G1.out.set 6 sN).range ?_)
    | (refine st7 _ _ rfl rfl _ rfl (exR (.slice (some ⟨h1, 0, none⟩) 1 q1)) rfl rfl (exR_one _ _) _ rfl ((set_heap_ne _ _ _ _ _ (by omega)).trans G2.out) ?_; intro W2 k2 ho2 hs2 hb2; have E2 : Hid (Bl7 W2 (w.heap.size + 1) (exR (.slice (some ⟨h1, 0, none⟩) 1 q1))) := k2; have ER : Hid (RefOwn W2 w.heap.size h1 r c ra ca) := GR.out.move ((ho2 _ (by have := GR.out.1; omega)).trans (set_heap_ne _ _ _ _ _ (by have := GR.out.1; omega))) (by omega); have EB : Hid (Below w.heap.size w W2) := (GB.out.setCell (Nat.le_refl _) _).trans (hb2.mono (by omega)); clear k2 ho2 hs2 hb2)
    | fail)
  refine bodyPost_ret (v := .agg (exR (.slice (some ⟨h1, 0, none⟩) 1 q1)).toArray) ?_ rfl ⟨h1, q1, rfl, hq1, EB.out, ER.out⟩
  exact res7 (p := 2) rfl rfl E2.out rfl

set_option maxRecDepth 100000 in
set_option maxHeartbeats 4000000 in
theorem clone_err (w : World) : Calls Tryz.prog 29 #[.agg exE.toArray] w fun e w' => e = .returned (.agg exE.toArray) ∧ Below w.heap.size w w' := by
  obtain ⟨i0, hi, hz0, hz1, hz2⟩ := info_parts Tryz.info46
  go_enter Tryz.func29, Tryz.ntmps29
  go_wp2_with (first
    | (at_builtin; refine wpList_append_own_none rfl (.const (.slice none 0 0)) (.tmp 7) 32 rfl (w.heap.size + 2) 46 i0 5 Tryz.underlying32 hi (.slice none 0 0) 0 [] rfl (World.ownsRow_nil _ _ _ _) rfl ?_)
    | fail)
  refine (fun (k : ∀ W, (Bl7 W w.heap.size exE ∧ Bl7 W (w.heap.size + 1) [n64 0, n64 0, sE, .bool false, n64 0, sN, sN] ∧ Below w.heap.size w W) → Code.wp _ _ _ _ W) => k _ ?hh) (fun W hW => ?_)
  case hh => exact grown_boxes (row := none) (cs := exE) (cs' := [n64 0, n64 0, sE, .bool false, n64 0, sN, sN]) ⟨rfl, rfl, rfl, Nat.le_refl _, fun _ _ _ => rfl⟩
  obtain ⟨hk1, hk2, hb1⟩ := hW
  have G1 : Hid (Bl7 W w.heap.size exE) := hk1
  have G2 : Hid (Bl7 W (w.heap.size + 1) [n64 0, n64 0, sE, .bool false, n64 0, sN, sN]) := hk2
  have GB : Hid (Below w.heap.size w W) := hb1
  have g6 : W.cell? ⟨w.heap.size, 6, none⟩ = some sN := G1.out.range 6 _ rfl
  have gf : W.frozen? ⟨w.heap.size, 6, none⟩ = false := G1.out.frozen 6
  clear hk1 hk2 hb1
  refine wp_loop_rounds 1 ?_
  rw [rounds_succ]
  go_wp2_with (first
    | (refine ld35 _ rfl rfl _ _ rfl _ rfl (G1.out.set 6 sN).range ?_)
    | (refine st7 _ _ rfl rfl _ rfl exE rfl rfl exE_one _ rfl ((set_heap_ne _ _ _ _ _ (by omega)).trans G2.out) ?_; intro W2 k2 ho2 hs2 hb2; have E2 : Hid (Bl7 W2 (w.heap.size + 1) exE) := k2; have EB : Hid (Below w.heap.size w W2) := (GB.out.setCell (Nat.le_refl _) _).trans (hb2.mono (by omega)); clear k2 ho2 hs2 hb2)
    | fail)
  refine bodyPost_ret (v := .agg exE.toArray) ?_ rfl ⟨rfl, EB.out⟩
  exact res7 (p := 2) rfl rfl E2.out rfl

theorem clone_kid (k : Kid) (vs : List Value) (N : Nat) (w : World) (hN : N ≤ w.heap.size) (hA : KidAt w N k vs) :
    Calls Tryz.prog 29 #[.agg vs.toArray] w fun e w' => ∃ vs' h, e = .returned (.agg vs'.toArray) ∧ Below w.heap.size w w' ∧ KidOwn w' w.heap.size k vs' h := by
  cases k with
  | rf r c ra ca =>
    obtain ⟨g, q, rfl, hq, hg, hr⟩ := hA
    exact (clone_ref r c ra ca g q hq w (Nat.lt_of_lt_of_le hg hN) hr).mono fun e w' ⟨h, q', e1, e2, e3, e4⟩ => ⟨_, h, e1, e3, ⟨q', rfl, e2⟩, e4⟩
  | er =>
    have e : vs = exE := hA
    subst e
    exact (clone_err w).mono fun e w' ⟨e1, e2⟩ => ⟨_, 0, e1, e2, rfl⟩
end Go.Proofs.YtglgibmjcgfecaaGreatDoor

set_option linter.unusedSimpArgs false
set_option linter.unusedVariables false
namespace Go.Proofs.YtglgibmjcgfecaaGreatDoor
open Go Go.RowKit Go.Proofs Go.Xf

def Kid.isRf : Kid → Bool
  | .rf _ _ _ _ => true
  | .er => false
theorem KidOwn.shape {w : World} {B h : Nat} {k : Kid} {vs : List Value} (o : KidOwn w B k vs h) : ∃ K E V, vs = exK K E V ∧ V.oneCell' = true := by
  cases k with
  | rf r c ra ca => obtain ⟨⟨q, e, _⟩, _⟩ := o; exact ⟨_, _, _, e, rfl⟩
  | er => exact ⟨_, _, _, o, rfl⟩
theorem KidOwn.move {w w' : World} {B B' h : Nat} {k : Kid} {vs : List Value} (o : KidOwn w B k vs h) (hm : k.isRf = true → w'.heap[h]? = w.heap[h]?) (hB : B' ≤ B) : KidOwn w' B' k vs h := by
  cases k with
  | rf r c ra ca => exact ⟨o.1, o.2.move (hm rfl) hB⟩
  | er => exact o
theorem KidOwn.tag {w : World} {B h : Nat} {k : Kid} {vs : List Value} (o : KidOwn w B k vs h) (hk : k.isRf = true) : B ≤ h ∧ ∃ cur, w.heap[h]? = some (.cells cur 46 (0, 0)) := by
  cases k with
  | rf r c ra ca => obtain ⟨_, h1, cur, h2, _⟩ := o; exact ⟨h1, cur, h2⟩
  | er => cases hk
theorem KidOwn.at {w : World} {B h N : Nat} {k : Kid} {vs : List Value} (o : KidOwn w B k vs h) (hN : w.heap.size ≤ N) : KidAt w N k vs := by
  cases k with
  | rf r c ra ca => obtain ⟨⟨q, e, hq⟩, hr⟩ := o; exact ⟨h, q, e, hq, Nat.lt_of_lt_of_le hr.lt hN, hr.range⟩
  | er => exact o

/-- Arguments that lie one behind the other in cells, each reference in a block of its own. -/
structure Grp (w : World) (B : Nat) (ks : List Kid) (n : Nat) (xs : List Value) (H : Nat → Nat) : Prop where
  kid : ∀ j, j < n → ∃ vs, KidOwn w B ks[j]! vs (H j) ∧ ∀ t v, vs[t]? = some v → xs[j * 7 + t]? = some v
  apart : ∀ j j', j < n → j' < n → ks[j]!.isRf = true → ks[j']!.isRf = true → j ≠ j' → H j ≠ H j'
theorem Grp.move {w w' : World} {B : Nat} {ks : List Kid} {n : Nat} {xs : List Value} {H : Nat → Nat} (g : Grp w B ks n xs H) (hm : ∀ (b : Nat) (cur : Array Value), w.heap[b]? = some (.cells cur 46 (0, 0)) → w'.heap[b]? = w.heap[b]?) : Grp w' B ks n xs H := by
  refine ⟨fun j hj => ?_, g.apart⟩
  obtain ⟨vs, h1, h2⟩ := g.kid j hj
  refine ⟨vs, h1.move (fun hk => ?_) (Nat.le_refl _), h2⟩
  obtain ⟨_, cur, hc⟩ := h1.tag hk
  exact hm _ cur hc
theorem Grp.next {w w' : World} {B : Nat} {ks : List Kid} {n : Nat} {xs : List Value} {H : Nat → Nat} (g : Grp w B ks n xs H) (hb : Below w.heap.size w w') : Grp w' B ks n xs H :=
  g.move fun b cur hc => hb.block b (Array.getElem?_eq_some_iff.1 hc).1
theorem Grp.grown {w w' : World} {B B' : Nat} {ks : List Kid} {n m : Nat} {xs ys : List Value} {H : Nat → Nat} {v : Value} (g : Grp w B ks n xs H) (ho : w.ownsRow B' 35 7 v m ys) (hg : w.grownBy w' v.ownBlock) : Grp w' B ks n xs H := by
  refine g.move fun b cur hc => hg.block b (Array.getElem?_eq_some_iff.1 hc).1 fun e => ?_
  rcases ho.2 with ⟨rfl, _⟩ | ⟨k, cap, cur', rfl, _, hk, _⟩
  · simp [Value.ownBlock] at e
  · simp [Value.ownBlock] at e
    subst e
    rw [hk] at hc
    simp at hc
theorem Grp.snoc {w w' : World} {B : Nat} {ks : List Kid} {n : Nat} {xs : List Value} {H : Nat → Nat} {vs : List Value} {h : Nat} (g : Grp w B ks n xs H) (g' : Grp w' B ks n xs H) (hl : xs.length = n * 7) (hv : KidOwn w' w.heap.size ks[n]! vs h) (hB : B ≤ w.heap.size) :
    Grp w' B ks (n + 1) (xs ++ vs) (fun j => if j = n then h else H j) := by
  have old : ∀ j, j < n → ks[j]!.isRf = true → H j < w.heap.size := fun j hj hk => by
    obtain ⟨vs', h1, _⟩ := g.kid j hj
    obtain ⟨_, cur, hc⟩ := h1.tag hk
    exact (Array.getElem?_eq_some_iff.1 hc).1
  refine ⟨fun j hj => ?_, fun j j' hj hj' hk hk' hne => ?_⟩
  · by_cases e : j = n
    · subst e
      refine ⟨vs, by simpa using hv.move (fun _ => rfl) hB, fun t v ht => ?_⟩
      rw [List.getElem?_append_right (by omega), hl]
      rw [show j * 7 + t - j * 7 = t by omega]
      exact ht
    · obtain ⟨vs', h1, h2⟩ := g'.kid j (by omega)
      refine ⟨vs', by simpa [e] using h1, fun t v ht => ?_⟩
      have := h2 t v ht
      rw [List.getElem?_append_left (List.getElem?_eq_some_iff.1 this).1]
      exact this
  · show (if j = n then h else H j) ≠ (if j' = n then h else H j')
    by_cases e : j = n
    · subst e
      have h1 := (hv.tag hk).1
      have h2 := old j' (by omega) hk'
      rw [if_pos rfl, if_neg (by omega)]
      omega
    · by_cases e' : j' = n
      · subst e'
        have h1 := (hv.tag hk').1
        have h2 := old j (by omega) hk
        rw [if_pos rfl, if_neg e]
        omega
      · rw [if_neg e, if_neg e']
        exact g.apart j j' (by omega) (by omega) hk hk' hne
/-- How a tree SUM(..) lies in memory of the call's own. -/
def SumOwn (w : World) (B : Nat) (ks : List Kid) (vk : Value) : Prop := ∃ xs H, w.ownsRow B 35 7 vk ks.length xs ∧ Grp w B ks ks.length xs H
theorem SumOwn.at {w : World} {B : Nat} {ks : List Kid} {vk : Value} (o : SumOwn w B ks vk) : SumAt w w.heap.size ks vk := by
  obtain ⟨xs, H, ho, hg⟩ := o
  rcases ho.2 with ⟨rfl, h0⟩ | ⟨g, cap, cur, rfl, hb, hgg, hn, hm, hs, ht⟩
  · exact ⟨none, 0, by rw [h0], by omega, fun h => by omega⟩
  · refine ⟨_, cap, rfl, hn, fun _ => ⟨g, rfl, (Array.getElem?_eq_some_iff.1 hgg).1, fun i hi => ?_⟩⟩
    obtain ⟨vs, h1, h2⟩ := hg.kid i hi
    refine ⟨vs, h1.at (Nat.le_refl _), fun t v hv => ?_⟩
    have h3 := h2 t v hv
    have hlt : i * 7 + t < ks.length * 7 := by
      have := (List.getElem?_eq_some_iff.1 h3).1
      rw [ho.1] at this; exact this
    unfold World.cell?
    simp only [hgg]
    rw [← ht, List.getElem?_take_of_lt hlt] at h3
    simpa using h3
end Go.Proofs.YtglgibmjcgfecaaGreatDoor

set_option linter.unusedSimpArgs false
set_option linter.unusedVariables false
namespace Go.Proofs.YtglgibmjcgfecaaGreatDoor
open Go Go.RowKit Go.Proofs Go.Xf

abbrev z7 : List Value := [n64 0, n64 0, sE, .bool false, n64 0, sN, sN]
theorem Tryz.info35 : (Tryz.prog.info? 35).map (fun i => (i.zero, i.size, i.bytes)) = some (some (.agg z7.toArray), 7, 96) := by kernel_rfl
theorem exK_one (K E : Int) (V : Value) (h : V.oneCell' = true) : ∀ v ∈ exK K E V, v.oneCell' = true := List.all_eq_true.1 (by show (exK K E V).all (·.oneCell') = true; simp only [List.all_cons, h]; rfl)

/-- What holds in the round over the arguments. -/
structure ClS (w : World) (N : Nat) (ks : List Kid) (vk : Value) (i : Nat) (v : Value) (u : World) : Prop where
  below : Below w.heap.size w u
  b1 : Bl7 u w.heap.size (exF vk)
  b2 : Bl7 u (w.heap.size + 1) z7
  own : ∃ xs H, u.ownsRow (w.heap.size + 2) 35 7 v i xs ∧ Grp u (w.heap.size + 2) ks i xs H
theorem ClS.next {w : World} {N : Nat} {ks : List Kid} {vk : Value} {i : Nat} {v : Value} {u u' : World} (h : ClS w N ks vk i v u) (hb : Below u.heap.size u u') : ClS w N ks vk i v u' := by
  obtain ⟨xs, H, ho, hg⟩ := h.own
  exact ⟨h.below.trans (hb.mono h.below.size), h.b1.below hb h.b1.lt, h.b2.below hb h.b2.lt, xs, H, owns_block ho fun g _ hg => hb.block g hg, hg.next hb⟩

theorem ClS.app {w : World} {N : Nat} {ks : List Kid} {vk : Value} {i : Nat} {v v7 : Value} {u2 u4 u7 : World} {xs vs : List Value} {H : Nat → Nat} {h' : Nat} {o : Obj} (h : ClS w N ks vk i v u2) (hb : Below u2.heap.size u2 u4) (hox : u2.ownsRow (w.heap.size + 2) 35 7 v i xs) (hgx : Grp u2 (w.heap.size + 2) ks i xs H)
    (hv : KidOwn u4 u2.heap.size ks[i]! vs h') (hB : w.heap.size + 2 ≤ u2.heap.size) (ho7 : u7.ownsRow (w.heap.size + 2) 35 7 v7 (i + 1) (xs ++ vs)) (hg7 : (u4.alloc o).grownBy u7 v.ownBlock) : ClS w N ks vk (i + 1) v7 u7 := by
  have hb5 : Below u2.heap.size u2 (u4.alloc o) := hb.trans ((Below.refl _ _).alloc hb.size o)
  have hrow : ∀ k, v.ownBlock = some k → w.heap.size + 2 ≤ k := fun k hk => (hox.lt k hk).1
  have hb7 : Below (w.heap.size + 2) u2 u7 := (hb5.mono hB).grown hg7 (Nat.le_trans hB hb5.size) hrow
  have ho5 : (u4.alloc o).ownsRow (w.heap.size + 2) 35 7 v i xs := owns_block hox fun g _ hg => hb5.block g hg
  refine ⟨h.below.trans (hb7.mono (by omega)), h.b1.below hb7 (by omega), h.b2.below hb7 (by omega), xs ++ vs, _, ho7, ((Grp.snoc hgx (hgx.next hb) hox.1 hv hB).next ((Below.refl _ _).alloc (Nat.le_refl _) o)).grown ho5 hg7⟩

theorem shape7_any {w : World} {B : Nat} {v : Value} {n : Nat} {xs : List Value} (h : w.ownsRow B 35 7 v n xs) : ∃ p c, v = .slice p n c := by
  rcases h.2 with ⟨hv, hn⟩ | ⟨g, cap, cur, hv, _⟩
  · exact ⟨_, _, by rw [hv, hn]⟩
  · exact ⟨_, _, hv⟩
theorem exF_one (p : Option Addr) (n q : Nat) : ∀ v ∈ exF (.slice p n q), v.oneCell' = true := List.all_eq_true.1 (show (exF (.slice p n q)).all (·.oneCell') = true from rfl)
theorem sum_done {u u' : World} {B : Nat} {ks : List Kid} {v : Value} {n : Nat} {xs : List Value} {H : Nat → Nat} (hn : n = ks.length) (ho : u.ownsRow (B + 2) 35 7 v n xs) (hg : Grp u (B + 2) ks n xs H) (hb : ∀ b, B + 2 ≤ b → u'.heap[b]? = u.heap[b]?) : SumOwn u' B ks v := by
  subst hn
  have ho' : u'.ownsRow (B + 2) 35 7 v ks.length xs := owns_block ho fun g hg _ => hb g hg
  refine ⟨xs, H, ⟨ho'.1, ?_⟩, fun j hj => ?_, hg.apart⟩
  · rcases ho'.2 with h | ⟨g, cap, cur, e, hb2, r⟩
    · exact .inl h
    · exact .inr ⟨g, cap, cur, e, by omega, r⟩
  · obtain ⟨vs, h1, h2⟩ := hg.kid j hj
    exact ⟨vs, h1.move (fun hk => hb _ (h1.tag hk).1) (by omega), h2⟩

set_option maxRecDepth 100000 in
set_option maxHeartbeats 4000000 in
theorem clone_sum (ks : List Kid) (vk : Value) (hn : ks.length ≤ 8) (N : Nat) (w : World) (hN : N ≤ w.heap.size) (hA : SumAt w N ks vk) :
    Calls Tryz.prog 29 #[.agg (exF vk).toArray] w fun e w' => ∃ vk', e = .returned (.agg (exF vk').toArray) ∧ Below w.heap.size w w' ∧ SumOwn w' w.heap.size ks vk' := by
  obtain ⟨i0, hi, hz0, hz1, hz2⟩ := info_parts Tryz.info46
  obtain ⟨j0, hj, hy0, hy1, hy2⟩ := info_parts Tryz.info35
  obtain ⟨p, q, rfl, hq, hA⟩ := hA
  have HA : Hid (0 < ks.length → ∃ g, p = some ⟨g, 0, none⟩ ∧ KidsAt w N ks g) := hA
  obtain ⟨n, hnn⟩ : ∃ n, n = ks.length := ⟨_, rfl⟩
  have HN : Hid (n = ks.length) := hnn
  rw [← hnn] at hn hq ⊢
  clear hA hnn
  go_enter Tryz.func29, Tryz.ntmps29
  go_wp2_with (first
    | (at_builtin; refine wpList_append_own_none rfl (.const (.slice none 0 0)) (.tmp 7) 32 rfl (w.heap.size + 2) 46 i0 5 Tryz.underlying32 hi (.slice none 0 0) 0 [] rfl (World.ownsRow_nil _ _ _ _) rfl ?_)
    | fail)
  refine (fun (k : ∀ W, ClS w N ks (.slice p n q) 0 (.slice none 0 0) W → Code.wp _ _ _ _ W) => k _ ?hh) (fun W hW => ?_)
  case hh =>
    have hg := grown_boxes (w := w) (u := (w.alloc (.cells (exF (.slice p n q)).toArray 35)).alloc (.cells z7.toArray 35)) (row := none) (cs := exF (.slice p n q)) (cs' := z7) ⟨rfl, rfl, rfl, Nat.le_refl _, fun _ _ _ => rfl⟩
    exact ⟨hg.2.2, hg.1, hg.2.1, [], fun _ => 0, World.ownsRow_nil _ _ _ _, ⟨fun j hj => absurd hj (Nat.not_lt_zero _), fun j j' hj => absurd hj (Nat.not_lt_zero _)⟩⟩
  have HW : Hid (ClS w N ks (.slice p n q) 0 (.slice none 0 0) W) := hW
  clear hW
  go_loopw [3, 13] (fun v3 v13 u => ∃ i : Nat, i ≤ n ∧ v13 = .int .i64 (i : Nat) ∧ Hid (ClS w N ks (.slice p n q) i v3 u)) (fun _ v13 _ => n - (intOf v13).toNat)
  case atStart => exact ⟨0, Nat.zero_le _, rfl, HW.out⟩
  case round =>
    obtain ⟨i, hi, rfl, HC⟩ := hrel
    by_cases hlt : i < n
    · obtain ⟨g, rfl, hg, hkid⟩ := HA.out (by rw [← HN.out]; omega)
      obtain ⟨vs, hvs, hrg⟩ := hkid i (by rw [← HN.out]; exact hlt)
      have HV : Hid (KidAt wr N ks[i]! vs) := hvs.move (fun b hb => HC.out.below.block b (Nat.lt_of_lt_of_le hb hN))
      have HR : Hid (wr.rangeAt g (i * 7) vs) := range_block hrg (HC.out.below.block g (Nat.lt_of_lt_of_le hg hN))
      have HS : Hid (N ≤ wr.heap.size) := Nat.le_trans hN HC.out.below.size
      clear hvs hrg hkid HW
      go_wp2_with (first
        | (refine ld35 _ rfl rfl _ _ rfl _ (HV.out.len) HR.out ?_)
        | (have g1 := HV; clear g1; refine st7L _ _ rfl rfl _ rfl rfl vs rfl HV.out.len rfl HV.out.one ?_; intro u2 by2 lo2 sz2; have K2 : Hid (Bl7 u2 wr.heap.size vs) := by2; have HC2 : Hid (ClS w N ks (.slice (some ⟨g, 0, none⟩) n q) i u3 u2) := HC.out.next lo2; have HV2 : Hid (KidAt u2 N ks[i]! vs) := HV.out.move (fun b hb => lo2.block b (Nat.lt_of_lt_of_le hb HS.out)); have HS2 : Hid (N ≤ u2.heap.size) := Nat.le_trans HS.out lo2.size; have HL2 : Hid (vs.length = 7) := HV.out.len; clear by2 lo2 sz2 HV HC HS HR)
        | (have g1 := K2; clear g1; refine ld35 _ rfl rfl _ _ rfl _ HL2.out K2.out.range ?_)
        | (go_at_call 29; refine (clone_kid ks[i]! vs N _ HS2.out HV2.out).mono ?_; rintro e u4 ⟨vs', h', rfl, hb4, ho4⟩; obtain ⟨K, E, V, rfl, hV1⟩ := ho4.shape; have HC4 : Hid (ClS w N ks (.slice (some ⟨g, 0, none⟩) n q) i u3 u4) := HC2.out.next hb4; have HO4 : Hid (KidOwn u4 u2.heap.size ks[i]! (exK K E V) h' ∧ V.oneCell' = true) := ⟨ho4, hV1⟩; have HB4 : Hid (Below u2.heap.size u2 u4) := hb4; clear hb4 ho4 hV1)
        | (have g4 := HO4; clear g4; at_builtin; obtain ⟨xs, H, hox, hgx⟩ := HC2.out.own; refine wpList_append_own _ rfl (.tmp 17) (.tmp 20) 33 rfl (w.heap.size + 2) 35 j0 (.agg z7.toArray) 7 96 Tryz.underlying33 hj hy0 hy1 hy2 rfl (by decide) u3 i xs rfl ((owns_block hox fun g _ hg => HB4.out.block g hg).alloc _) ⟨u4.heap.size, 0, none⟩ 1 1 (exK K E V) rfl rfl (fun j x hj => by rw [Addr.add_mid]; exact range_laid u4 (exK K E V) 35 j x hj) (exK_one K E V HO4.out.2) (by unfold maxLen; omega) (by omega) (by have := HB4.out.size; have := HC2.out.b2.lt; simp; omega) ?_; intro v7 u7 ho7 hg7 _; have HC7 : Hid (ClS w N ks (.slice (some ⟨g, 0, none⟩) n q) (i + 1) v7 u7) := HC2.out.app HB4.out hox hgx HO4.out.1 HC2.out.b2.lt ho7 hg7; clear ho7 hg7 hox hgx)
        | fail)
      all_goals refine ⟨⟨i + 1, by omega, by rw [Int.natCast_add]; rfl, HC7⟩, ?_⟩
      all_goals (simp [intOf]; omega)
    · have e : i = n := by omega
      subst e
      obtain ⟨xs, H, hox, hgx⟩ := HC.out.own
      obtain ⟨pr, cr, rfl⟩ := shape7_any hox
      have HO : Hid (wr.ownsRow (w.heap.size + 2) 35 7 (.slice pr i cr) i xs ∧ Grp wr (w.heap.size + 2) ks i xs H) := ⟨hox, hgx⟩
      have g6 : wr.cell? ⟨w.heap.size, 6, none⟩ = some (.slice p i q) := HC.out.b1.range 6 _ rfl
      have gf : wr.frozen? ⟨w.heap.size, 6, none⟩ = false := HC.out.b1.frozen 6
      clear hox hgx HW hlt
      go_wp2_with (first
        | (refine ld35 _ rfl rfl _ _ rfl _ rfl (HC.out.b1.set 6 (.slice pr i cr)).range ?_)
        | (refine st7 _ _ rfl rfl _ rfl (exF (.slice pr i cr)) rfl rfl (exF_one _ _ _) _ rfl ((set_heap_ne _ _ _ _ _ (by omega)).trans HC.out.b2) ?_; intro W2 k2 ho2 hs2 hb2; have E2 : Hid (Bl7 W2 (w.heap.size + 1) (exF (.slice pr i cr))) := k2; have ER : Hid (SumOwn W2 w.heap.size ks (.slice pr i cr)) := sum_done HN.out HO.out.1 HO.out.2 (fun b hb => (ho2 b (by omega)).trans (set_heap_ne _ _ _ _ _ (by omega))); have EB : Hid (Below w.heap.size w W2) := (HC.out.below.setCell (Nat.le_refl _) _).trans (hb2.mono (by omega)); clear k2 ho2 hs2 hb2)
        | fail)
      all_goals refine bodyPost_ret (v := .agg (exF (.slice pr i cr)).toArray) ?_ rfl ⟨_, rfl, EB.out, ER.out⟩
      all_goals exact res7 (p := 2) rfl rfl E2.out rfl
end Go.Proofs.YtglgibmjcgfecaaGreatDoor

