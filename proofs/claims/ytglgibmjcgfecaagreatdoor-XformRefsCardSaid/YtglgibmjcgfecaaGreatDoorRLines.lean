/- XformRefs, the walks: rewrite.Lines of SUM(..). -/
import Derived.Test.YtglgibmjcgfecaaGreatDoorREach
import Derived.BigRegion
set_option linter.unusedSimpArgs false
set_option linter.unusedVariables false
set_option linter.unusedSimpArgs false
set_option linter.unusedVariables false
namespace Go.Proofs.YtglgibmjcgfecaaGreatDoor
open Go Go.RowKit Go.Proofs Go.Xf Go.Sort

set_option maxRecDepth 100000 in
set_option maxHeartbeats 4000000 in
theorem each_zero (p : Option Addr) (q bh bo br bl : Nat) (w : World) : Calls Tryz.prog 52 #[.agg (exF (.slice p 0 q)).toArray, turnV bh bo br bl] w fun e w' => e = .returned (.agg (exF (.slice p 0 q)).toArray) ∧ Below w.heap.size w w' := by
  go_enter Tryz.func52, Tryz.ntmps52
  go_wp2
  refine wp_loop_rounds 1 ?_
  rw [rounds_succ]
  go_wp2
  refine (fun (k : ∀ W, (Bl7 W w.heap.size (exF (.slice p 0 q)) ∧ Bl7 W (w.heap.size + 1) z7 ∧ Below w.heap.size w W) → Code.wp _ _ _ _ W) => k _ ?hh) (fun W hW => ?_)
  case hh => exact grown_boxes (row := none) (cs := exF (.slice p 0 q)) (cs' := z7) ⟨rfl, rfl, rfl, Nat.le_refl _, fun _ _ _ => rfl⟩
  obtain ⟨hk2, hk4, hb⟩ := hW
  have E2 : Hid (Bl7 W w.heap.size (exF (.slice p 0 q))) := hk2
  have E4 : Hid (Bl7 W (w.heap.size + 1) z7) := hk4
  have EB : Hid (Below w.heap.size w W) := hb
  clear hk2 hk4 hb
  refine wp_loop_rounds 1 ?_
  rw [rounds_succ]
  go_wp2_with (first
    | (refine ld35 _ rfl rfl _ _ rfl _ rfl E2.out.range ?_)
    | (refine st7 _ _ rfl rfl _ rfl (exF (.slice p 0 q)) rfl rfl (exF_one _ _ _) _ rfl E4.out ?_; intro W2 k2 ho2 hs2 hb2; have F4 : Hid (Bl7 W2 (w.heap.size + 1) (exF (.slice p 0 q))) := k2; have FB : Hid (Below w.heap.size w W2) := EB.out.trans (hb2.mono (by omega)); clear k2 ho2 hs2 hb2)
    | fail)
  all_goals refine bodyPost_ret (v := .agg (exF (.slice p 0 q)).toArray) ?_ rfl ⟨rfl, FB.out⟩
  all_goals exact res7 (p := 4) rfl rfl F4.out rfl

theorem each_sum (l : Ln) (fk : Fits l.k) (fa : Fits l.a) (ft : Fits l.t) (hm : MayL l) (ks : List Kid) (hn : ks.length ≤ 8) (hk : ∀ k ∈ ks, k.Ok) (vk : Value) (bh bo br bl B : Nat) (hB : bh < B ∧ bo < B ∧ br < B ∧ bl < B) (w : World) (hBw : B ≤ w.heap.size) (hc : Caps w l bh bo br bl) (hS : SumOwn w B ks vk) :
    Calls Tryz.prog 52 #[.agg (exF vk).toArray, turnV bh bo br bl] w fun e w' => e = .returned (.agg (exF vk).toArray) ∧ Below B w w' ∧ SumAt w' w'.heap.size (ks.map (stepK l)) vk := by
  obtain ⟨xs, H, ho, hg⟩ := hS
  by_cases h0 : ks.length = 0
  · obtain ⟨p, q, rfl⟩ := shape7_any ho
    rw [h0]
    refine (each_zero p q bh bo br bl w).mono fun e w' ⟨h1, h2⟩ => ⟨h1, h2.mono hBw, p, q, by rw [List.length_map, h0], by rw [List.length_map, h0]; exact Nat.zero_le _, fun h => absurd h (by rw [List.length_map, h0]; omega)⟩
  · rcases ho.2 with ⟨_, e⟩ | ⟨g, cap, cur, rfl, hb, hgg, hnc, hmx, hs, ht⟩
    · exact absurd e h0
    · have hglt : g < w.heap.size := (Array.getElem?_eq_some_iff.1 hgg).1
      have G : EG w B ks g H := by
        refine ⟨hb, hglt, fun j hj hr => ?_, hg.apart⟩
        obtain ⟨vs, h1, _⟩ := hg.kid j hj
        obtain ⟨hlo, cur', hc'⟩ := h1.tag hr
        refine ⟨hlo, (Array.getElem?_eq_some_iff.1 hc').1, fun e => ?_⟩
        rw [e, hgg] at hc'
        simp at hc'
      have hK : ∀ j, j < ks.length → ∃ vs, KidOwn w B ks[j]! vs (H j) ∧ w.rangeAt g (j * 7) vs ∧ w.there g (j * 7) 7 := fun j hj => by
        obtain ⟨vs, h1, h2⟩ := hg.kid j hj
        refine ⟨vs, h1, fun t v hv => ?_, fun t ht7 => ⟨?_, ?_⟩⟩
        · have h3 := h2 t v hv
          have hlt : j * 7 + t < ks.length * 7 := by
            have := (List.getElem?_eq_some_iff.1 h3).1
            rw [ho.1] at this; exact this
          rw [blk_cell hgg]
          rw [← ht, List.getElem?_take_of_lt hlt] at h3
          simpa using h3
        · rw [blk_cell hgg]
          have : j * 7 + t < cur.size := by rw [hs]; have := Nat.mul_le_mul_right 7 hnc; omega
          simp [this]
        · unfold World.frozen?
          simp only [hgg]
          simp
      refine (each_some l fk fa ft hm ks hn hk g cap bh bo br bl B H hB w hBw hc hnc G hK).mono fun e w' ⟨h1, h2, h3⟩ => ⟨h1, h2, some ⟨g, 0, none⟩, cap, by rw [List.length_map], by rw [List.length_map]; exact hnc, fun _ => ⟨g, rfl, Nat.lt_of_lt_of_le hglt h2.size, fun j hj => ?_⟩⟩
      rw [List.length_map] at hj
      obtain ⟨vs, h4, h5⟩ := h3 j hj
      refine ⟨vs, ?_, h5⟩
      have e2 : (ks.map (stepK l))[j]! = stepK l ks[j]! := by
        rw [getElem!_pos _ j (by simpa using hj), getElem!_pos ks j hj, List.getElem_map]
      rw [e2]
      exact h4.at (Nat.le_refl _)

theorem at_last (w : World) (o : Obj) (k : Nat) (h : k = w.heap.size) : (w.alloc o).heap[k]? = some o := by subst h; exact heap_alloc_last w o
theorem at_old (w : World) (o : Obj) (k : Nat) (h : k < w.heap.size) : (w.alloc o).heap[k]? = w.heap[k]? := Below.heap_alloc _ _ _ h
theorem six (w : World) (a b c d e f : Obj) : let W := (((((w.alloc a).alloc b).alloc c).alloc d).alloc e).alloc f
    W.heap.size = w.heap.size + 6 ∧ W.heap[w.heap.size]? = some a ∧ W.heap[w.heap.size + 1]? = some b ∧ W.heap[w.heap.size + 1 + 1]? = some c ∧ W.heap[w.heap.size + 1 + 1 + 1]? = some d ∧ W.heap[w.heap.size + 1 + 1 + 1 + 1]? = some e ∧ W.heap[w.heap.size + 1 + 1 + 1 + 1 + 1]? = some f ∧ Below w.heap.size w W := by
  intro W
  have e1 : (w.alloc a).heap.size = w.heap.size + 1 := by simp
  have e2 : ((w.alloc a).alloc b).heap.size = w.heap.size + 1 + 1 := by simp
  have e3 : (((w.alloc a).alloc b).alloc c).heap.size = w.heap.size + 1 + 1 + 1 := by simp
  have e4 : ((((w.alloc a).alloc b).alloc c).alloc d).heap.size = w.heap.size + 1 + 1 + 1 + 1 := by simp
  have e5 : (((((w.alloc a).alloc b).alloc c).alloc d).alloc e).heap.size = w.heap.size + 1 + 1 + 1 + 1 + 1 := by simp
  have e6 : W.heap.size = w.heap.size + 1 + 1 + 1 + 1 + 1 + 1 := by show ((((((w.alloc a).alloc b).alloc c).alloc d).alloc e).alloc f).heap.size = _; simp
  refine ⟨e6, ?_, ?_, ?_, ?_, ?_, ?_, ?_⟩
  · exact (at_old _ _ _ (by omega)).trans ((at_old _ _ _ (by omega)).trans ((at_old _ _ _ (by omega)).trans ((at_old _ _ _ (by omega)).trans ((at_old _ _ _ (by omega)).trans (at_last _ _ _ rfl)))))
  · exact (at_old _ _ _ (by omega)).trans ((at_old _ _ _ (by omega)).trans ((at_old _ _ _ (by omega)).trans ((at_old _ _ _ (by omega)).trans (at_last _ _ _ e1.symm))))
  · exact (at_old _ _ _ (by omega)).trans ((at_old _ _ _ (by omega)).trans ((at_old _ _ _ (by omega)).trans (at_last _ _ _ e2.symm)))
  · exact (at_old _ _ _ (by omega)).trans ((at_old _ _ _ (by omega)).trans (at_last _ _ _ e3.symm))
  · exact (at_old _ _ _ (by omega)).trans (at_last _ _ _ e4.symm)
  · exact at_last _ _ _ e5.symm
  · exact (((((((Below.refl w.heap.size w).alloc (Nat.le_refl _) a).alloc (by omega) b).alloc (by omega) c).alloc (by omega) d).alloc (by omega) e).alloc (by omega) f)
/-- What rewrite.Lines has laid. -/
structure LnS (w : World) (l : Ln) (vk : Value) (W : World) : Prop where
  below : Below w.heap.size w W
  b0 : Bl7 W w.heap.size (exF vk)
  b1 : W.heap[w.heap.size + 1]? = some (.cells #[s0] 9 (0, 0))
  b2 : W.heap[w.heap.size + 1 + 1]? = some (.cells #[s0] 9 (0, 0))
  b3 : W.heap[w.heap.size + 1 + 1 + 1]? = some (.cells #[.bool true] 4 (0, 0))
  b4 : W.heap[w.heap.size + 1 + 1 + 1 + 1]? = some (.cells #[n64 l.k, n64 l.a, n64 l.t] 28 (0, 0))
  b5 : Bl7 W (w.heap.size + 1 + 1 + 1 + 1 + 1) z7
theorem LnS.lt {w W : World} {l : Ln} {vk : Value} (h : LnS w l vk W) : w.heap.size + 1 + 1 + 1 + 1 + 1 < W.heap.size := h.b5.lt
theorem LnS.under {w W W' : World} {l : Ln} {vk : Value} (h : LnS w l vk W) {B : Nat} (hb : Below B W W') (hB : w.heap.size + 6 ≤ B) : LnS w l vk W' := by
  have hlt := h.lt
  exact ⟨h.below.trans (hb.mono (by omega)), (hb.block _ (by omega)).trans h.b0, (hb.block _ (by omega)).trans h.b1, (hb.block _ (by omega)).trans h.b2, (hb.block _ (by omega)).trans h.b3, (hb.block _ (by omega)).trans h.b4, (hb.block _ (by omega)).trans h.b5⟩
theorem LnS.next {w W W' : World} {l : Ln} {vk : Value} (h : LnS w l vk W) (hb : Below W.heap.size W W') : LnS w l vk W' := h.under hb (by have := h.lt; omega)
theorem LnS.caps {w W : World} {l : Ln} {vk : Value} (h : LnS w l vk W) : Caps W l (w.heap.size + 1) (w.heap.size + 1 + 1) (w.heap.size + 1 + 1 + 1) (w.heap.size + 1 + 1 + 1 + 1) :=
  ⟨(blk_cell h.b1 0).trans rfl, (blk_cell h.b2 0).trans rfl, (blk_cell h.b3 0).trans rfl, (blk_cell h.b4 0).trans rfl, (blk_cell h.b4 1).trans rfl, (blk_cell h.b4 2).trans rfl⟩
theorem LnS.start (w : World) (l : Ln) (vk : Value) : LnS w l vk ((((((w.alloc (.cells (exF vk).toArray 35)).alloc (.cells #[s0] 9)).alloc (.cells #[s0] 9)).alloc (.cells #[.bool true] 4)).alloc (.cells #[n64 l.k, n64 l.a, n64 l.t] 28)).alloc (.cells z7.toArray 35)) := by
  obtain ⟨_, h0, h1, h2, h3, h4, h5, h6⟩ := six w (.cells (exF vk).toArray 35) (.cells #[s0] 9) (.cells #[s0] 9) (.cells #[.bool true] 4) (.cells #[n64 l.k, n64 l.a, n64 l.t] 28) (.cells z7.toArray 35)
  exact ⟨h6, h0, h1, h2, h3, h4, h5⟩

theorem sum_one {w : World} {N : Nat} {ks : List Kid} {vk : Value} (h : SumAt w N ks vk) : ∀ v ∈ exF vk, v.oneCell' = true := by
  obtain ⟨p, q, rfl, _⟩ := h
  exact exF_one _ _ _
theorem sum_apart {w w' : World} {N N' t : Nat} {ks : List Kid} {vk : Value} (h : SumAt w N ks vk) (ht : Bl7 w t z7) (ho : ∀ k, k ≠ t → w'.heap[k]? = w.heap[k]?) (hN : w'.heap.size = w.heap.size) (hNN : N = w.heap.size := by rfl) (hNN' : N' = w'.heap.size := by rfl) : SumAt w' N' ks vk := by
  subst hNN
  subst hNN'
  rw [hN]
  have ct : w.cell? ⟨t, 0, none⟩ = some (n64 0) := ht.range 0 _ rfl
  obtain ⟨p, q, e, hq, hk⟩ := h
  refine ⟨p, q, e, hq, fun h0 => ?_⟩
  obtain ⟨g, e2, hg, hkid⟩ := hk h0
  have hgt : g ≠ t := fun e => by
    subst e
    obtain ⟨vs, h1, h2⟩ := hkid 0 h0
    cases hkk : ks[0]! with
    | rf r c ra ca =>
      rw [hkk] at h1
      obtain ⟨h', q', rfl, _⟩ := h1
      have := h2 0 _ rfl
      simp at this
      rw [ct] at this
      simp at this
    | er =>
      rw [hkk] at h1
      have e : vs = exE := h1
      subst e
      have := h2 0 _ rfl
      simp at this
      rw [ct] at this
      simp at this
  refine ⟨g, e2, hg, fun i hi => ?_⟩
  obtain ⟨vs, h1, h2⟩ := hkid i hi
  refine ⟨vs, ?_, range_block h2 (ho g hgt)⟩
  cases hkk : ks[i]! with
  | rf r c ra ca =>
    rw [hkk] at h1
    obtain ⟨h', q', e3, hq', hlt, hr⟩ := h1
    refine ⟨h', q', e3, hq', hlt, range_block hr (ho h' fun e4 => ?_)⟩
    subst e4
    have := hr 0 _ rfl
    simp at this
    rw [ct] at this
    simp at this
  | er =>
    rw [hkk] at h1
    exact h1

set_option maxRecDepth 100000 in
set_option maxHeartbeats 4000000 in
theorem lines_sum (l : Ln) (fk : Fits l.k) (fa : Fits l.a) (ft : Fits l.t) (hm : MayL l) (ks : List Kid) (hn : ks.length ≤ 8) (hk : ∀ k ∈ ks, k.Ok) (vk : Value) (N : Nat) (w : World) (hN : N ≤ w.heap.size) (h5 : 5 < N) (hT : Tab w) (hA : SumAt w N ks vk) :
    Calls Tryz.prog 45 #[.agg (exF vk).toArray, s0, s0, .bool true, lnV l] w fun e w' => ∃ vk', e = .returned (.agg (exF vk').toArray) ∧ Below w.heap.size w w' ∧ SumAt w' w'.heap.size (ks.map (stepK l)) vk' := by
  have hA0 := hA
  obtain ⟨p, q, rfl, hq, hA⟩ := hA
  have HA : Hid (SumAt w N ks (.slice p ks.length q)) := hA0
  have HT : Hid (Tab w) := hT
  clear hA hA0 hT
  have HM : Hid (∀ u, Calls Tryz.prog 21 #[lnV l] u fun e w' => e = .returned (.bool true) ∧ Below u.heap.size u w') := fun u => by have := may_a l fa ft u; rw [(mayL_eq l).2 hm] at this; exact this
  go_enter Tryz.func45, Tryz.ntmps45
  go_wp2_with (first
    | (go_at_call 32; refine (May_sum ks (.slice p ks.length q) hn N _ hk (HT.out.next (LnS.start w l (.slice p ks.length q)).below) h5 (Nat.le_trans hN (LnS.start w l (.slice p ks.length q)).below.size) (HA.out.move (fun b hb => (LnS.start w l (.slice p ks.length q)).below.block b (by omega)))).mono ?_; rintro e u1 ⟨rfl, hb1⟩; have L1 : Hid (LnS w l (.slice p ks.length q) u1) := (LnS.start w l (.slice p ks.length q)).next hb1; clear hb1; have c0 := (blk_cell L1.out.b4 0); have c1 := (blk_cell L1.out.b4 1); have c2 := (blk_cell L1.out.b4 2); simp only [List.getElem?_toArray, List.getElem?_cons_zero, List.getElem?_cons_succ] at c0 c1 c2)
    | (go_at_call 21; refine (HM.out _).mono ?_; rintro e u2 ⟨rfl, hb2⟩; have L2 : Hid (LnS w l (.slice p ks.length q) u2) := L1.out.next hb2; clear hb2 L1 c0 c1 c2)
    | (have g2 := L2; clear g2; refine ld35 _ rfl rfl _ _ rfl _ rfl L2.out.b0.range ?_)
    | (go_at_call 29; refine (clone_sum ks (.slice p ks.length q) hn N _ (Nat.le_trans hN L2.out.below.size) (HA.out.move (fun b hb => L2.out.below.block b (by omega)))).mono ?_; rintro e u3 ⟨vk', rfl, hb3, ho3⟩; have L3 : Hid (LnS w l (.slice p ks.length q) u3) := L2.out.next hb3; have O3 : Hid (SumOwn u3 u2.heap.size ks vk') := ho3; have S3 : Hid (w.heap.size + 6 ≤ u2.heap.size ∧ u2.heap.size ≤ u3.heap.size) := ⟨L2.out.lt, hb3.size⟩; clear hb3 ho3 L2)
    | (go_at_call 52; refine (each_sum l fk fa ft hm ks hn hk vk' _ _ _ _ u2.heap.size (by have := S3.out.1; omega) u3 S3.out.2 L3.out.caps O3.out).mono ?_; rintro e u4 ⟨rfl, hb4, hs4⟩; have L4 : Hid (LnS w l (.slice p ks.length q) u4) := L3.out.under hb4 S3.out.1; have A4 : Hid (SumAt u4 u4.heap.size (ks.map (stepK l)) vk') := hs4; clear hb4 hs4)
    | (have g4 := L4; clear g4; refine st7 _ _ rfl rfl _ rfl (exF vk') rfl rfl (sum_one A4.out) _ rfl L4.out.b5 ?_; intro W2 k2 ho2 hs2 hb2; have F4 : Hid (Bl7 W2 (w.heap.size + 1 + 1 + 1 + 1 + 1) (exF vk')) := k2; have FB : Hid (Below w.heap.size w W2) := L4.out.below.trans (hb2.mono (by omega)); have FA : Hid (SumAt W2 W2.heap.size (ks.map (stepK l)) vk') := sum_apart A4.out L4.out.b5 ho2 hs2; clear k2 ho2 hs2 hb2)
    | fail)
  all_goals refine bodyPost_ret (v := .agg (exF vk').toArray) ?_ rfl ⟨_, rfl, FB.out, FA.out⟩
  all_goals exact res7 (p := 10) rfl rfl F4.out rfl
end Go.Proofs.YtglgibmjcgfecaaGreatDoor

set_option linter.unusedSimpArgs false
set_option linter.unusedVariables false
namespace Go.Proofs.YtglgibmjcgfecaaGreatDoor
open Go Go.RowKit Go.Proofs Go.Xf Go.Sort

/-- A cell with a formula; an operation that sets it. -/
abbrev ceF (vk : Value) : List Value := [.bool true, n64 0, n64 0, sE, .bool false, n64 0, n64 9, n64 0, .string bSUM, .bool false, n64 0, sN, vk]
abbrev opF (r c : Int) (vk : Value) : List Value := [n64 1, s0, n64 r, n64 c, .bool true, n64 0, n64 0, sE, .bool false, n64 0, n64 9, n64 0, .string bSUM, .bool false, n64 0, sN, vk, n64 0, n64 0, n64 0, sN, n64 0, sE]

set_option maxRecDepth 100000 in
theorem valEq0 (w : World) : Calls Tryz.prog 33 #[.agg vlZ.toArray, .agg vlZ.toArray] w fun e w' => e = .returned (.bool true) ∧ Below w.heap.size w w' := by
  go_enter Tryz.func33, Tryz.ntmps33
  go_wp2
  all_goals go_ret
  all_goals exact ⟨rfl, ((Below.refl _ _).alloc (Nat.le_refl _) _).alloc (by simp) _⟩

set_option maxRecDepth 100000 in
set_option maxHeartbeats 4000000 in
theorem mayCellF (ks : List Kid) (vk : Value) (hn : ks.length ≤ 8) (N : Nat) (w : World) (hk : ∀ k ∈ ks, k.Ok) (hT : Tab w) (h5 : 5 < N) (hN : N ≤ w.heap.size) (hA : SumAt w N ks vk) :
    Calls Tryz.prog 20 #[.agg (ceF vk).toArray] w fun e w' => e = .returned (.bool true) ∧ Below w.heap.size w w' := by
  have HA : Hid (SumAt w N ks vk) := hA
  have HT : Hid (Tab w) := hT
  obtain ⟨p, q, rfl, _⟩ := hA
  clear hT
  go_enter Tryz.func20, Tryz.ntmps20
  go_wp2_with (first
    | (go_at_call 32; refine (May_sum ks _ hn N _ hk (HT.out.next ((Below.refl _ _).alloc (Nat.le_refl _) _)) h5 (by simp; omega) (HA.out.move (fun b hb => ((Below.refl w.heap.size w).alloc (Nat.le_refl _) _).block b (by omega)))).mono ?_; rintro e u1 ⟨rfl, hb1⟩; have p1 := kept1 hb1 1; have p2 := kept1 hb1 2; have p3 := kept1 hb1 3; have p4 := kept1 hb1 4; have p5 := kept1 hb1 5; simp only [List.getElem?_toArray, List.getElem?_cons_zero, List.getElem?_cons_succ] at p1 p2 p3 p4 p5; have HB1 : Hid (Below w.heap.size w u1) := kept_below hb1; clear hb1)
    | (go_at_call 33; refine (valEq0 _).mono ?_; rintro e u2 ⟨rfl, hb2⟩; have HB2 : Hid (Below w.heap.size w u2) := HB1.out.trans (hb2.mono HB1.out.size); clear hb2 p1 p2 p3 p4 p5)
    | fail)
  all_goals go_ret
  all_goals exact ⟨rfl, HB2.out⟩

theorem two_kept {w w1 : World} {cs cs' : Array Value} {e e' : TypeId} (hb : Below ((w.alloc (.cells cs e)).alloc (.cells cs' e')).heap.size ((w.alloc (.cells cs e)).alloc (.cells cs' e')) w1) :
    (∀ j, w1.cell? ⟨w.heap.size, j, none⟩ = cs[j]?) ∧ (∀ j, w1.cell? ⟨w.heap.size + 1, j, none⟩ = cs'[j]?) ∧ Below w.heap.size w w1 ∧ w.heap.size ≤ w1.heap.size := by
  have hbb := below_laid2 hb (by simp; omega)
  exact ⟨fun j => stays2 hb (by simp; omega) j, fun j => stays3 hb (by simp) j, hbb, hbb.size⟩
set_option maxRecDepth 100000 in
set_option maxHeartbeats 4000000 in
theorem sameF (ks : List Kid) (vk : Value) (hn : ks.length ≤ 8) (N : Nat) (w : World) (hN : N ≤ w.heap.size) (hA : SumAt w N ks vk) :
    Calls Tryz.prog 41 #[.agg (ceF vk).toArray, .agg (ceF vk).toArray] w fun e w' => e = .returned (.bool true) ∧ Below w.heap.size w w' := by
  have HA : Hid (SumAt w N ks vk) := hA
  obtain ⟨p, q, rfl, _⟩ := hA
  go_enter Tryz.func41, Tryz.ntmps41
  go_wp2_with (first
    | (go_at_call 33; refine (valEq0 _).mono ?_; rintro e u1 ⟨rfl, hb1⟩; have HX := two_kept hb1; obtain ⟨x1, x2, x3, x4⟩ := HX; have HB1 : Hid (Below w.heap.size w u1) := x3; have HS1 : Hid (w.heap.size ≤ u1.heap.size) := x4; have p6 := x1 6; have p7 := x1 7; have p8 := x1 8; have p9 := x1 9; have p10 := x1 10; have p11 := x1 11; have p12 := x1 12; have q6 := x2 6; have q7 := x2 7; have q8 := x2 8; have q9 := x2 9; have q10 := x2 10; have q11 := x2 11; have q12 := x2 12; simp only [List.getElem?_toArray, List.getElem?_cons_zero, List.getElem?_cons_succ] at p6 p7 p8 p9 p10 p11 p12 q6 q7 q8 q9 q10 q11 q12; clear hb1 x1 x2 x3 x4)
    | (go_at_call 59; refine (Eq_sum ks _ hn N _ (Nat.le_trans hN HS1.out) (HA.out.move (fun b hb => HB1.out.block b (by omega)))).mono ?_; rintro e u2 ⟨rfl, hb2⟩; have HB2 : Hid (Below w.heap.size w u2) := HB1.out.trans (hb2.mono HB1.out.size); clear hb2)
    | fail)
  all_goals go_ret
  all_goals exact ⟨rfl, HB2.out⟩
end Go.Proofs.YtglgibmjcgfecaaGreatDoor

set_option linter.unusedSimpArgs false
set_option linter.unusedVariables false
namespace Go.Proofs.YtglgibmjcgfecaaGreatDoor
open Go Go.RowKit Go.Proofs Go.Xf Go.Sort

set_option maxRecDepth 100000 in
set_option maxHeartbeats 4000000 in
theorem eqF (r c : Int) (ks : List Kid) (vk : Value) (hn : ks.length ≤ 8) (N : Nat) (w : World) (hN : N ≤ w.heap.size) (hA : SumAt w N ks vk) :
    Calls Tryz.prog 24 #[.agg (opF r c vk).toArray, .agg (opF r c vk).toArray] w fun e w' => e = .returned (.bool true) ∧ Below w.heap.size w w' := by
  have HA : Hid (SumAt w N ks vk) := hA
  obtain ⟨p, q, rfl, _⟩ := hA
  go_enter Tryz.func24, Tryz.ntmps24
  go_wp2_with (first
    | (go_at_call 41; refine (sameF ks _ hn N _ (by simp; omega) (HA.out.move (fun b hb => (((Below.refl w.heap.size w).alloc (Nat.le_refl _) _).alloc (by simp) _).block b (by omega)))).mono ?_; rintro e w1 ⟨rfl, hb⟩; obtain ⟨x1, x2, x3, x4⟩ := two_kept hb; have HB1 : Hid (Below w.heap.size w w1) := x3; have p17 := x1 17; have p18 := x1 18; have p19 := x1 19; have p20 := x1 20; have p21 := x1 21; have p22 := x1 22; have q17 := x2 17; have q18 := x2 18; have q19 := x2 19; have q20 := x2 20; have q21 := x2 21; have q22 := x2 22; simp only [List.getElem?_toArray, List.getElem?_cons_zero, List.getElem?_cons_succ] at p17 p18 p19 p20 p21 p22 q17 q18 q19 q20 q21 q22; clear hb x1 x2 x3 x4)
    | (go_at_call 39; refine (eqRects0 _).mono ?_; rintro e w2 ⟨rfl, hb2⟩; have p21 := (hb2.cell (World.block_lt_of_cell? _ _ p21)).trans p21; have q21 := (hb2.cell (World.block_lt_of_cell? _ _ q21)).trans q21; have p22 := (hb2.cell (World.block_lt_of_cell? _ _ p22)).trans p22; have q22 := (hb2.cell (World.block_lt_of_cell? _ _ q22)).trans q22; have HB3 : Hid (Below w.heap.size w w2) := HB1.out.trans (hb2.mono HB1.out.size); clear hb2)
    | fail)
  all_goals go_ret
  all_goals exact ⟨rfl, HB3.out⟩

end Go.Proofs.YtglgibmjcgfecaaGreatDoor

set_option linter.unusedSimpArgs false
set_option linter.unusedVariables false
namespace Go.Proofs.YtglgibmjcgfecaaGreatDoor
open Go Go.RowKit Go.Proofs Go.Xf Go.Sort

theorem below_setCells {B b : Nat} {a w : World} (h : Below B a w) (hB : B ≤ b) (o : Nat) (vs : List Value) : Below B a (w.setCells b o vs) := by
  obtain ⟨s1, s2, s3⟩ := setCells_str b vs o w
  exact ⟨s1.trans h.os, s2.trans h.tape, s3.trans h.output, by rw [setCells_size]; exact h.size, fun k hk => (setCells_ne b vs o w k (by omega)).trans (h.block k hk)⟩
theorem rangeAt_mid {w : World} {t : Nat} (pre mid mid' post : List Value) (h : w.rangeAt t 0 (pre ++ (mid ++ post))) (hl : mid'.length = mid.length) (hf : ∀ j, w.frozen? ⟨t, j, none⟩ = false) : (w.setCells t pre.length mid').rangeAt t 0 (pre ++ (mid' ++ post)) := by
  have hth : w.there t pre.length mid'.length := fun j hj => by
    refine ⟨?_, hf _⟩
    have h1 : (pre ++ (mid ++ post))[pre.length + j]? = some (mid[j]'(by omega)) := by
      rw [List.getElem?_append_right (by omega), show pre.length + j - pre.length = j by omega, List.getElem?_append_left (by omega)]
      exact List.getElem?_eq_getElem (by omega)
    have h2 := h (pre.length + j) _ h1
    rw [Nat.zero_add] at h2
    rw [h2]; rfl
  intro j v hj
  by_cases h1 : j < pre.length
  · rw [List.getElem?_append_left h1] at hj
    have h2 := World.rangeAt_setCells_apart (b' := t) (o' := 0) (cs := pre) (fun i u hi => h i u (by rw [List.getElem?_append_left (List.getElem?_eq_some_iff.1 hi).1]; exact hi)) t pre.length mid' (by omega)
    exact h2 j v hj
  · rw [List.getElem?_append_right (by omega)] at hj
    by_cases h3 : j - pre.length < mid'.length
    · rw [List.getElem?_append_left h3] at hj
      have h2 := World.rangeAt_setCells_same w t pre.length mid' hth (j - pre.length) v hj
      rw [show 0 + j = pre.length + (j - pre.length) by omega]
      exact h2
    · rw [List.getElem?_append_right (by omega)] at hj
      have h2 := World.rangeAt_setCells_apart (w := w) (b' := t) (o' := pre.length + mid.length) (cs := post) (fun i u hi => by
        have := h (pre.length + mid.length + i) u (by rw [List.getElem?_append_right (by omega), List.getElem?_append_right (by omega)]; rw [show pre.length + mid.length + i - pre.length - mid.length = i by omega]; exact hi)
        rw [Nat.zero_add] at this; exact this) t pre.length mid' (by omega)
      have h4 := h2 (j - pre.length - mid'.length) v hj
      rw [show 0 + j = pre.length + mid.length + (j - pre.length - mid'.length) by omega]
      exact h4
theorem after18F {w w' : World} {cs cs' : List Value} {e e' : TypeId} (hb : Below ((w.alloc (.cells cs.toArray e)).alloc (.cells cs'.toArray e')).heap.size ((w.alloc (.cells cs.toArray e)).alloc (.cells cs'.toArray e')) w') :
    w'.rangeAt w.heap.size 0 cs ∧ w'.rangeAt (w.heap.size + 1) 0 cs' ∧ (∀ j, w'.frozen? ⟨w.heap.size + 1, j, none⟩ = false) ∧ Below w.heap.size w w' := by
  refine ⟨range_below (fun j v hj => ?_) hb (by simp; omega), range_below (fun j v hj => ?_) hb (by simp), fun j => ?_, below_laid2 hb (by simp; omega)⟩
  · rw [Nat.zero_add, laid_cell2]; simpa using hj
  · rw [Nat.zero_add, laid_cell3]; simpa using hj
  · rw [hb.frozen (by simp)]
    simp

theorem drew_heap (x : World) : x.drew.heap = x.heap := rfl
theorem mayF_state {w w1 : World} (r c : Int) (vk : Value) (hP : w1.rangeAt w.heap.size 0 (opF r c vk)) (hQ : w1.rangeAt (w.heap.size + 1) 0 (opL 1 0 0 0 0 0)) (hF : ∀ j, w1.frozen? ⟨w.heap.size + 1, j, none⟩ = false) (hB : Below w.heap.size w w1) (W : World) (hW0 : W = (w1.setCells (w.heap.size + 1) 2 [n64 r, n64 c, .bool true, n64 0, n64 0, sE, .bool false, n64 0, n64 9, n64 0, .string bSUM, .bool false, n64 0, sN, vk]).drew) :
    W.rangeAt w.heap.size 0 (opF r c vk) ∧ W.rangeAt (w.heap.size + 1) 0 (opF r c vk) ∧ Below w.heap.size w W := by
  have hW : W.heap = (w1.setCells (w.heap.size + 1) 2 [n64 r, n64 c, .bool true, n64 0, n64 0, sE, .bool false, n64 0, n64 9, n64 0, .string bSUM, .bool false, n64 0, sN, vk]).heap   := by rw [hW0, drew_heap]
  have hb := below_setCells hB (Nat.le_succ _) 2 [n64 r, n64 c, .bool true, n64 0, n64 0, sE, .bool false, n64 0, n64 9, n64 0, .string bSUM, .bool false, n64 0, sN, vk]
  refine ⟨range_block hP ?_, ?_, by rw [hW0]; exact below_dr hb⟩
  · rw [hW]; exact setCells_ne (w.heap.size + 1) [n64 r, n64 c, .bool true, n64 0, n64 0, sE, .bool false, n64 0, n64 9, n64 0, .string bSUM, .bool false, n64 0, sN, vk] 2 w1 w.heap.size (by omega)
  · have hm := rangeAt_mid [n64 1, s0] [n64 0, n64 0, .bool false, n64 0, n64 0, sE, .bool false, n64 0, n64 0, n64 0, sE, .bool false, n64 0, sN, sN] [n64 r, n64 c, .bool true, n64 0, n64 0, sE, .bool false, n64 0, n64 9, n64 0, .string bSUM, .bool false, n64 0, sN, vk] [n64 0, n64 0, n64 0, sN, n64 0, sE] hQ rfl hF
    exact range_block hm (congrArg (fun h => h[w.heap.size + 1]?) hW)
end Go.Proofs.YtglgibmjcgfecaaGreatDoor

