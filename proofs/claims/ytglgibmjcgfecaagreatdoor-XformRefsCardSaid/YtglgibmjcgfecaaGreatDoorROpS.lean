/- XformRefs, the walks: xform.Op of an operation that sets a formula, behind one on lines. -/
import Derived.Test.YtglgibmjcgfecaaGreatDoorROp
set_option linter.unusedSimpArgs false
set_option linter.unusedVariables false
set_option linter.unusedSimpArgs false
set_option linter.unusedVariables false
namespace Go.Proofs.YtglgibmjcgfecaaGreatDoor
open Go Go.RowKit Go.Proofs Go.Xf Go.Sort

theorem map_ok {l : Ln} {ks : List Kid} (hk : ∀ k ∈ ks, k.Ok) : ∀ k ∈ ks.map (stepK l), k.Ok := by
  intro k hm
  obtain ⟨k', h1, rfl⟩ := List.mem_map.1 hm
  exact stepK_ok (hk k' h1)

set_option maxRecDepth 100000 in
set_option maxHeartbeats 4000000 in
theorem opSet (l : Ln) (fk : Fits l.k) (fa : Fits l.a) (ft : Fits l.t) (hm : MayL l) (r c : Int) (hr0 : 0 ≤ r) (hr1 : r < 2199023255552) (hc0 : 0 ≤ c) (hc1 : c < 2199023255552) (ks : List Kid) (vk : Value) (hn : ks.length ≤ 8) (pr : Bool) (N : Nat) (w : World) (hk : ∀ k ∈ ks, k.Ok) (hT : Tab w) (h5 : 5 < N) (hN : N ≤ w.heap.size) (hA : SumAt w N ks vk) :
    Calls Tryz.prog 10 #[.agg (opF r c vk).toArray, .agg (opLn l).toArray, .bool pr] w fun e w' => Below w.heap.size w w' ∧ ((okRow l r ∧ ∃ vk', e = .returned (.tuple #[.agg (opF (idx l r) c vk').toArray, .bool true]) ∧ SumAt w' w'.heap.size (ks.map (stepK l)) vk') ∨ (¬ okRow l r ∧ e = .returned (.tuple #[.agg opNL.toArray, .bool false]))) := by
  have HA : Hid (SumAt w N ks vk) := hA
  have HT : Hid (Tab w) := hT
  obtain ⟨p, q, rfl, _⟩ := hA
  obtain ⟨z, hz⟩ : ∃ z, z = idx l r := ⟨_, rfl⟩
  have HZ : Hid (z = idx l r) := hz
  rw [← hz]
  clear hz
  have HX0 := boxes3 w (opF r c (.slice p ks.length q)) (opLn l) opNL
  have HX : Hid _ := HX0
  clear HX0
  clear hT
  go_enter Tryz.func10, Tryz.ntmps10
  go_wp2_with (first
    | (have g1 := HX; clear g1; refine ld40 _ rfl rfl w.heap.size 0 rfl (opF r c (.slice p ks.length q)) rfl HX.out.1.range ?_)
    | (have g1 := HX; clear g1; go_at_call 14; refine (mayF r c hr0 hr1 hc0 hc1 ks (.slice p ks.length q) hn N _ hk (HT.out.next HX.out.2.2.2) h5 (Nat.le_trans hN HX.out.2.2.2.size) (HA.out.move (fun b hb => HX.out.2.2.2.block b (by omega)))).mono ?_; rintro e u1 ⟨rfl, hb1⟩; have K3 : Hid (Blk u1 w.heap.size (opF r c (.slice p ks.length q))) := HX.out.1.below hb1 HX.out.1.lt; have K4 : Hid (Blk u1 (w.heap.size + 1) (opLn l)) := HX.out.2.1.below hb1 HX.out.2.1.lt; have K6 : Hid (Blk u1 (w.heap.size + 1 + 1) opNL) := HX.out.2.2.1.below hb1 HX.out.2.2.1.lt; have B1 : Hid (Below w.heap.size w u1) := HX.out.2.2.2.trans (hb1.mono HX.out.2.2.2.size); clear hb1 HX)
    | (have g1 := K4; clear g1; refine ld40g _ rfl (w.heap.size + 1) 0 rfl (opLn l) rfl K4.out.range (by rfl) ?_)
    | (have g1 := K4; clear g1; go_at_call 14; refine (may_line2 l fa ft hm _).mono ?_; rintro e u2 ⟨rfl, hb2⟩; have M3 : Hid (Blk u2 w.heap.size (opF r c (.slice p ks.length q))) := K3.out.below hb2 K3.out.lt; have M4 : Hid (Blk u2 (w.heap.size + 1) (opLn l)) := K4.out.below hb2 K4.out.lt; have M6 : Hid (Blk u2 (w.heap.size + 1 + 1) opNL) := K6.out.below hb2 K6.out.lt; have B2 : Hid (Below w.heap.size w u2) := B1.out.trans (hb2.mono B1.out.size); clear hb2 K3 K4 K6 B1)
    | fail)
  have HT2 : Hid (Tab u2) := HT.out.next B2.out
  have A2 : Hid (SumAt u2 N ks (.slice p ks.length q)) := HA.out.move (fun b hb => B2.out.block b (by omega))
  have hN2 : N ≤ u2.heap.size := Nat.le_trans hN B2.out.size
  refine wp_region_held (S := fun W => Below u2.heap.size u2 W) (by kernel_rfl) ?_
  have hS0 : Below u2.heap.size u2 { u2 with drawn := u2.drawn + 1 } := ⟨rfl, rfl, rfl, Nat.le_refl _, fun _ _ => rfl⟩
  refine (fun (k : ∀ W, Below u2.heap.size u2 W → wpAnyH _ _ _ _ _ _ _ _ W) => k _ hS0) (fun W0 hw0 => ?_)
  clear hS0
  refine wpAnyH_take (i := 0) (v := .agg (opF r c (.slice p ks.length q)).toArray) rfl (by kernel_rfl) (by kernel_rfl) (by kernel_rfl) (fun _ _ _ h => h) (yieldsIf_load_mid rfl 40 _ rfl w.heap.size 0 rfl _ _ (fun W hW => (M3.out.below hW M3.out.lt).range) Tryz.underlying40 rfl info40) hw0 ?_
  simp only [Act.put, List.setIfInBounds_toArray, List.set_cons_zero, List.set_cons_succ]
  refine wpAnyH_take (i := 5) (v := .agg (opLn l).toArray) rfl (by kernel_rfl) (by kernel_rfl) (by kernel_rfl) (fun _ _ _ h => h) (yieldsIf_load_mid rfl 40 _ rfl (w.heap.size + 1) 0 rfl _ _ (fun W hW => (M4.out.below hW M4.out.lt).range) Tryz.underlying40 rfl info40) hw0 ?_
  simp only [Act.put, List.setIfInBounds_toArray, List.set_cons_zero, List.set_cons_succ]
  refine wpAnyH_take (i := 6) (v := .bool pr) rfl (by kernel_rfl) (by kernel_rfl) (by kernel_rfl) (fun _ _ _ h => h) (Or.inl ⟨by rfl, fun w _ => by go_simp⟩) hw0 ?_
  simp only [Act.put, List.setIfInBounds_toArray, List.set_cons_zero, List.set_cons_succ]
  refine wpAnyH_ready (rs := [1, 11]) (by kernel_rfl) (by simp) ?_
  refine AllReadyH.cons rfl (fun K hK => ?_) ?_
  · go_simp
    refine (fun (k : ∀ W, Below W0.heap.size W0 W ∧ Blk W W0.heap.size (opF r c (.slice p ks.length q)) → K _ W) => k _ ⟨(Below.refl _ _).alloc (Nat.le_refl _) _, Blk.new W0 (opF r c (.slice p ks.length q))⟩) (fun W1 hj => ?_)
    obtain ⟨hb, hx⟩ := hj
    have hw1 : Below u2.heap.size u2 W1 := hw0.trans (hb.mono hw0.size)
    refine hK.out _ _ hw1 (fun _ => ?_)
    have hk1 : Blk W1 W0.heap.size (opF r c (.slice p ks.length q)) := hx
    clear hb hK hw0 hx
    refine wpAnyH_ready (rs := [2, 11]) (by kernel_rfl) (by simp) ?_
    refine AllReadyH.cons rfl (fun K hK => ?_) ?_
    · go_simp
      refine (opClone_set r c ks (.slice p ks.length q) hn W0.heap.size 1 N W1 (Nat.le_trans hN2 hw1.size) (A2.out.move (fun b hb => hw1.block b (by omega))) hk1.lt hk1.range (Nat.le_refl _)).mono ?_
      rintro e W2 ⟨g2, c2, vk2, rfl, hcc, hgg, hrr, hb, haa⟩
      have hw2 : Below u2.heap.size u2 W2 := hw1.trans (hb.mono hw1.size)
      have hk2 : Blk W2 W0.heap.size (opF r c (.slice p ks.length q)) := hk1.below hb hk1.lt
      have hg2 : g2 < W2.heap.size ∧ W2.rangeAt g2 0 (opF r c vk2) ∧ SumAt W2 W2.heap.size ks vk2 := ⟨hgg, hrr, haa⟩
      refine hK.out _ _ hw2 (fun _ => ?_)
      clear hb hK hw1 hk1 hgg hrr hcc haa hk2
      refine wpAnyH_take (i := 3) (v := .pointer (some ⟨g2, 0, none⟩)) rfl (by kernel_rfl) (by kernel_rfl) (by kernel_rfl) (fun _ _ _ h => h) (Or.inl ⟨by rfl, fun w _ => by go_simp⟩) hw2 ?_
      simp only [Act.put, List.setIfInBounds_toArray, List.set_cons_zero, List.set_cons_succ]
      refine wpAnyH_ready (rs := [4, 11]) (by kernel_rfl) (by simp) ?_
      refine AllReadyH.cons rfl (fun K hK => ?_) ?_
      · refine stepLd40 rfl (.tmp 23) rfl g2 0 rfl (opF r c vk2) rfl hg2.2.1 ?_
        refine hK.out _ _ hw2 (fun _ => ?_)
        simp only [Act.put, List.setIfInBounds_toArray, List.set_cons_zero, List.set_cons_succ]
        clear hK
        refine wpAnyH_ready (rs := [7, 11]) (by kernel_rfl) (by simp) ?_
        refine AllReadyH.cons rfl (fun K hK => ?_) ?_
        · go_simp
          refine (behind_set l fk fa ft hm r c hr0 hr1 ks vk2 hn pr W2.heap.size W2 hk (HT2.out.next hw2) (by have := hw2.size; omega) (Nat.le_refl _) hg2.2.2).mono ?_
          rintro e W4 ⟨vk3, rfl, hb, ha3⟩
          rw [← HZ.out]
          have hw4 : Below u2.heap.size u2 W4 := hw2.trans (hb.mono hw2.size)
          have hg4 : g2 < W4.heap.size ∧ W4.rangeAt g2 0 (opF r c vk2) ∧ SumAt W4 W4.heap.size ks vk2 := ⟨Nat.lt_of_lt_of_le hg2.1 hb.size, range_below hg2.2.1 hb hg2.1, (hg2.2.2.move (fun b hb' => hb.block b hb')).grow hb.size⟩
          have ha4 : SumAt W4 W4.heap.size (ks.map (stepK l)) vk3 := ha3
          refine hK.out _ _ hw4 (fun _ => ?_)
          clear hb hK hw2 hg2 ha3 hg4
          refine wpAnyH_take (i := 8) (v := .tuple #[.agg (opF z c vk3).toArray, .bool true]) rfl (by kernel_rfl) (by kernel_rfl) (by kernel_rfl) (fun _ _ _ h => h) (Or.inl ⟨by rfl, fun w _ => by go_simp⟩) hw4 ?_
          simp only [Act.put, List.setIfInBounds_toArray, List.set_cons_zero, List.set_cons_succ]
          refine wpAnyH_take (i := 9) (v := (.agg (opF z c vk3).toArray)) rfl (by kernel_rfl) (by kernel_rfl) (by kernel_rfl) (fun _ _ _ h => h) (Or.inl ⟨by rfl, fun w _ => by go_simp⟩) hw4 ?_
          simp only [Act.put, List.setIfInBounds_toArray, List.set_cons_zero, List.set_cons_succ]
          refine wpAnyH_take (i := 10) (v := .bool true) rfl (by kernel_rfl) (by kernel_rfl) (by kernel_rfl) (fun _ _ _ h => h) (Or.inl ⟨by rfl, fun w _ => by go_simp⟩) hw4 ?_
          simp only [Act.put, List.setIfInBounds_toArray, List.set_cons_zero, List.set_cons_succ]
          refine wpAnyH_ready (rs := [11]) (by kernel_rfl) (by simp) ?_
          refine AllReadyH.cons rfl (fun K hK => ?_) ?_
          · go_simp
            refine (fun (k : ∀ W, Below W4.heap.size W4 W ∧ Blk W W4.heap.size opNL → K _ W) => k _ ⟨(Below.refl _ _).alloc (Nat.le_refl _) _, Blk.new W4 opNL⟩) (fun W5 hj => ?_)
            obtain ⟨hb, hx⟩ := hj
            have hw5 : Below u2.heap.size u2 W5 := hw4.trans (hb.mono hw4.size)
            have ha5 : SumAt W5 W5.heap.size (ks.map (stepK l)) vk3 := (ha4.move (fun b hb' => hb.block b hb')).grow hb.size
            refine hK.out _ _ hw5 (fun _ => ?_)
            have hlo : u2.heap.size ≤ W4.heap.size := hw4.size
            have hz5 : Blk W5 W4.heap.size opNL := hx
            clear hb hK hw4 ha4 hx
            refine wpAnyH_ready (rs := [12]) (by kernel_rfl) (by simp) ?_
            refine AllReadyH.cons rfl (fun K hK => ?_) ?_
            · refine stepSt40 rfl (.tmp 8) (.tmp 28) rfl W4.heap.size rfl (opF z c vk3) rfl rfl (sumF_one ha5) opNL rfl hz5 ?_
              intro W6 k2 ho2 hs2 hb2
              have hw6 : Below u2.heap.size u2 W6 := hw5.trans (hb2.mono hlo)
              have ha6 : SumAt W6 W6.heap.size (ks.map (stepK l)) vk3 := (by rw [hs2]; exact sum_apart2 ha5 (hz5.range 0 _ rfl) (by decide) ho2)
              have hf6 : Blk W6 W4.heap.size (opF z c vk3) := k2
              refine hK.out _ _ hw6 (fun _ => ?_)
              simp only [Act.put, List.setIfInBounds_toArray, List.set_cons_zero, List.set_cons_succ]
              clear hK k2 ho2 hs2 hb2 hz5 ha5
              refine wpAnyH_take (i := 13) (v := .bool true) rfl (by kernel_rfl) (by kernel_rfl) (by kernel_rfl) (fun _ _ _ h => h) (Or.inl ⟨by rfl, fun w _ => by go_simp⟩) hw6 ?_
              simp only [Act.put, List.setIfInBounds_toArray, List.set_cons_zero, List.set_cons_succ]
              refine wpAnyH_done (by kernel_rfl) ?_ _
              have FZ : Hid (Blk W6 W4.heap.size (opF z c vk3)) := hf6
              have F6 : Hid (Blk W6 (w.heap.size + 1 + 1) opNL) := M6.out.below hw6 M6.out.lt
              have FB : Hid (Below w.heap.size w W6) := B2.out.trans (hw6.mono B2.out.size)
              have FA : Hid (SumAt W6 W6.heap.size (ks.map (stepK l)) vk3) := ha6
              have FT : Hid (Tab W6) := HT2.out.next hw6
              have FS : Hid (5 < W6.heap.size) := by have := hw6.size; show 5 < W6.heap.size; omega
              clear hf6 hw6 hlo ha6
              by_cases hon : okRow l r
              · have HON : Hid (okRow l r) := hon
                obtain ⟨hz0, hz1⟩ := hon
                rw [← HZ.out] at hz0 hz1
                go_wp2_with (first
                  | (have g1 := FZ; clear g1; refine ld40g _ rfl W4.heap.size 0 rfl (opF z c vk3) rfl FZ.out.range (by rfl) ?_)
                  | (have g1 := FZ; clear g1; go_at_call 14; refine (mayF z c hz0 hz1 hc0 hc1 (ks.map (stepK l)) vk3 (by rw [List.length_map]; exact hn) _ _ (map_ok hk) FT.out FS.out (Nat.le_refl _) FA.out).mono ?_; rintro e Wa ⟨rfl, hba⟩; have Z2 : Hid (Blk Wa W4.heap.size (opF z c vk3)) := FZ.out.below hba FZ.out.lt; have G6 : Hid (Blk Wa (w.heap.size + 1 + 1) opNL) := F6.out.below hba F6.out.lt; have GB : Hid (Below w.heap.size w Wa) := FB.out.trans (hba.mono FB.out.size); have GA : Hid (SumAt Wa Wa.heap.size (ks.map (stepK l)) vk3) := (FA.out.move (fun b hb' => hba.block b hb')).grow hba.size; clear hba FZ F6 FB FA FT FS)
                  | (have g1 := Z2; clear g1; refine ld40 _ rfl rfl W4.heap.size 0 rfl (opF z c vk3) rfl Z2.out.range ?_)
                  | (have g1 := G6; clear g1; refine stBlk _ _ rfl rfl _ rfl (opF z c vk3) rfl rfl (sumF_one GA.out) opNL rfl G6.out ?_; intro Wb k2 ho2 hs2 hb2; have R6 : Hid (Blk Wb (w.heap.size + 1 + 1) (opF z c vk3)) := k2; have RB : Hid (Below w.heap.size w Wb) := GB.out.trans (hb2.mono (by omega)); have RA : Hid (SumAt Wb Wb.heap.size (ks.map (stepK l)) vk3) := (by rw [hs2]; exact sum_apart2 GA.out (G6.out.range 0 _ rfl) (by decide) ho2); clear k2 ho2 hs2 hb2)
                  | fail)
                all_goals refine bodyPost_ret (v := .tuple #[.agg (opF z c vk3).toArray, .bool true]) ?_ rfl ⟨RB.out, .inl ⟨HON.out, vk3, rfl, RA.out⟩⟩
                all_goals exact res40two (p := 6) (q := 7) rfl rfl R6.out rfl rfl
              · have HON : Hid (¬ okRow l r) := hon
                have hzo : ¬ (0 ≤ z ∧ z < 2199023255552) := by rw [HZ.out]; exact hon
                have HZO : Hid (¬ (0 ≤ z ∧ z < 2199023255552)) := hzo
                clear hon hzo
                go_wp2_with (first
                  | (have g1 := FZ; clear g1; refine ld40g _ rfl W4.heap.size 0 rfl (opF z c vk3) rfl FZ.out.range (by rfl) ?_)
                  | (have g1 := FZ; clear g1; go_at_call 14; refine (mayF_off z c HZO.out hc0 hc1 (ks.map (stepK l)) vk3 (by rw [List.length_map]; exact hn) _ _ (map_ok hk) FT.out FS.out (Nat.le_refl _) FA.out).mono ?_; rintro e Wa ⟨rfl, hba⟩; have G6 : Hid (Blk Wa (w.heap.size + 1 + 1) opNL) := F6.out.below hba F6.out.lt; have GB : Hid (Below w.heap.size w Wa) := FB.out.trans (hba.mono FB.out.size); clear hba FZ F6 FB FA FT FS)
                  | (have g1 := G6; clear g1; refine stBlk _ _ rfl rfl _ rfl opNL rfl rfl opN_one opNL rfl G6.out ?_; intro Wb k2 ho2 hs2 hb2; have R6 : Hid (Blk Wb (w.heap.size + 1 + 1) opNL) := k2; have RB : Hid (Below w.heap.size w Wb) := GB.out.trans (hb2.mono (by omega)); clear k2 ho2 hs2 hb2)
                  | fail)
                all_goals refine bodyPost_ret (v := .tuple #[.agg opNL.toArray, .bool false]) ?_ rfl ⟨RB.out, .inr ⟨HON.out, rfl⟩⟩
                all_goals exact res40two (p := 6) (q := 7) rfl rfl R6.out rfl rfl
            exact AllReadyH.nil
          exact AllReadyH.nil
        refine AllReadyH.cons rfl (fun K hK => ?_) ?_
        · go_simp
          refine (fun (k : ∀ W, Below W2.heap.size W2 W ∧ Blk W W2.heap.size opNL → K _ W) => k _ ⟨(Below.refl _ _).alloc (Nat.le_refl _) _, Blk.new W2 opNL⟩) (fun W7 hj => ?_)
          obtain ⟨hb, hx⟩ := hj
          have hw7 : Below u2.heap.size u2 W7 := hw2.trans (hb.mono hw2.size)
          have hg7 : g2 < W7.heap.size ∧ W7.rangeAt g2 0 (opF r c vk2) ∧ SumAt W7 W7.heap.size ks vk2 := ⟨Nat.lt_of_lt_of_le hg2.1 hb.size, range_below hg2.2.1 hb hg2.1, (hg2.2.2.move (fun b hb' => hb.block b hb')).grow hb.size⟩
          refine hK.out _ _ hw7 (fun _ => ?_)
          have hlo : u2.heap.size ≤ W2.heap.size := hw2.size
          have hz7 : Blk W7 W2.heap.size opNL := hx
          clear hb hK hw2 hg2 hx
          refine wpAnyH_ready (rs := [7]) (by kernel_rfl) (by simp) ?_
          refine AllReadyH.cons rfl (fun K hK => ?_) ?_
          · go_simp
            refine (behind_set l fk fa ft hm r c hr0 hr1 ks vk2 hn pr W7.heap.size W7 hk (HT2.out.next hw7) (by have := hw7.size; omega) (Nat.le_refl _) hg7.2.2).mono ?_
            rintro e W8 ⟨vk3, rfl, hb, ha3⟩
            rw [← HZ.out]
            have hw8 : Below u2.heap.size u2 W8 := hw7.trans (hb.mono hw7.size)
            have hg8 : g2 < W8.heap.size ∧ W8.rangeAt g2 0 (opF r c vk2) ∧ SumAt W8 W8.heap.size ks vk2 := ⟨Nat.lt_of_lt_of_le hg7.1 hb.size, range_below hg7.2.1 hb hg7.1, (hg7.2.2.move (fun b hb' => hb.block b hb')).grow hb.size⟩
            have hz8 : Blk W8 W2.heap.size opNL := hz7.below hb hz7.lt
            have ha8 : SumAt W8 W8.heap.size (ks.map (stepK l)) vk3 := ha3
            refine hK.out _ _ hw8 (fun _ => ?_)
            clear hb hK hw7 hg7 hz7 ha3 hg8
            refine wpAnyH_take (i := 8) (v := .tuple #[.agg (opF z c vk3).toArray, .bool true]) rfl (by kernel_rfl) (by kernel_rfl) (by kernel_rfl) (fun _ _ _ h => h) (Or.inl ⟨by rfl, fun w _ => by go_simp⟩) hw8 ?_
            simp only [Act.put, List.setIfInBounds_toArray, List.set_cons_zero, List.set_cons_succ]
            refine wpAnyH_take (i := 9) (v := (.agg (opF z c vk3).toArray)) rfl (by kernel_rfl) (by kernel_rfl) (by kernel_rfl) (fun _ _ _ h => h) (Or.inl ⟨by rfl, fun w _ => by go_simp⟩) hw8 ?_
            simp only [Act.put, List.setIfInBounds_toArray, List.set_cons_zero, List.set_cons_succ]
            refine wpAnyH_take (i := 10) (v := .bool true) rfl (by kernel_rfl) (by kernel_rfl) (by kernel_rfl) (fun _ _ _ h => h) (Or.inl ⟨by rfl, fun w _ => by go_simp⟩) hw8 ?_
            simp only [Act.put, List.setIfInBounds_toArray, List.set_cons_zero, List.set_cons_succ]
            refine wpAnyH_ready (rs := [12]) (by kernel_rfl) (by simp) ?_
            refine AllReadyH.cons rfl (fun K hK => ?_) ?_
            · refine stepSt40 rfl (.tmp 8) (.tmp 28) rfl W2.heap.size rfl (opF z c vk3) rfl rfl (sumF_one ha8) opNL rfl hz8 ?_
              intro W9 k2 ho2 hs2 hb2
              have hw9 : Below u2.heap.size u2 W9 := hw8.trans (hb2.mono hlo)
              have ha9 : SumAt W9 W9.heap.size (ks.map (stepK l)) vk3 := (by rw [hs2]; exact sum_apart2 ha8 (hz8.range 0 _ rfl) (by decide) ho2)
              have hf9 : Blk W9 W2.heap.size (opF z c vk3) := k2
              refine hK.out _ _ hw9 (fun _ => ?_)
              simp only [Act.put, List.setIfInBounds_toArray, List.set_cons_zero, List.set_cons_succ]
              clear hK k2 ho2 hs2 hb2 hz8 ha8
              refine wpAnyH_take (i := 13) (v := .bool true) rfl (by kernel_rfl) (by kernel_rfl) (by kernel_rfl) (fun _ _ _ h => h) (Or.inl ⟨by rfl, fun w _ => by go_simp⟩) hw9 ?_
              simp only [Act.put, List.setIfInBounds_toArray, List.set_cons_zero, List.set_cons_succ]
              refine wpAnyH_done (by kernel_rfl) ?_ _
              have FZ : Hid (Blk W9 W2.heap.size (opF z c vk3)) := hf9
              have F6 : Hid (Blk W9 (w.heap.size + 1 + 1) opNL) := M6.out.below hw9 M6.out.lt
              have FB : Hid (Below w.heap.size w W9) := B2.out.trans (hw9.mono B2.out.size)
              have FA : Hid (SumAt W9 W9.heap.size (ks.map (stepK l)) vk3) := ha9
              have FT : Hid (Tab W9) := HT2.out.next hw9
              have FS : Hid (5 < W9.heap.size) := by have := hw9.size; show 5 < W9.heap.size; omega
              clear hf9 hw9 hlo ha9
              by_cases hon : okRow l r
              · have HON : Hid (okRow l r) := hon
                obtain ⟨hz0, hz1⟩ := hon
                rw [← HZ.out] at hz0 hz1
                go_wp2_with (first
                  | (have g1 := FZ; clear g1; refine ld40g _ rfl W2.heap.size 0 rfl (opF z c vk3) rfl FZ.out.range (by rfl) ?_)
                  | (have g1 := FZ; clear g1; go_at_call 14; refine (mayF z c hz0 hz1 hc0 hc1 (ks.map (stepK l)) vk3 (by rw [List.length_map]; exact hn) _ _ (map_ok hk) FT.out FS.out (Nat.le_refl _) FA.out).mono ?_; rintro e Wa ⟨rfl, hba⟩; have Z2 : Hid (Blk Wa W2.heap.size (opF z c vk3)) := FZ.out.below hba FZ.out.lt; have G6 : Hid (Blk Wa (w.heap.size + 1 + 1) opNL) := F6.out.below hba F6.out.lt; have GB : Hid (Below w.heap.size w Wa) := FB.out.trans (hba.mono FB.out.size); have GA : Hid (SumAt Wa Wa.heap.size (ks.map (stepK l)) vk3) := (FA.out.move (fun b hb' => hba.block b hb')).grow hba.size; clear hba FZ F6 FB FA FT FS)
                  | (have g1 := Z2; clear g1; refine ld40 _ rfl rfl W2.heap.size 0 rfl (opF z c vk3) rfl Z2.out.range ?_)
                  | (have g1 := G6; clear g1; refine stBlk _ _ rfl rfl _ rfl (opF z c vk3) rfl rfl (sumF_one GA.out) opNL rfl G6.out ?_; intro Wb k2 ho2 hs2 hb2; have R6 : Hid (Blk Wb (w.heap.size + 1 + 1) (opF z c vk3)) := k2; have RB : Hid (Below w.heap.size w Wb) := GB.out.trans (hb2.mono (by omega)); have RA : Hid (SumAt Wb Wb.heap.size (ks.map (stepK l)) vk3) := (by rw [hs2]; exact sum_apart2 GA.out (G6.out.range 0 _ rfl) (by decide) ho2); clear k2 ho2 hs2 hb2)
                  | fail)
                all_goals refine bodyPost_ret (v := .tuple #[.agg (opF z c vk3).toArray, .bool true]) ?_ rfl ⟨RB.out, .inl ⟨HON.out, vk3, rfl, RA.out⟩⟩
                all_goals exact res40two (p := 6) (q := 7) rfl rfl R6.out rfl rfl
              · have HON : Hid (¬ okRow l r) := hon
                have hzo : ¬ (0 ≤ z ∧ z < 2199023255552) := by rw [HZ.out]; exact hon
                have HZO : Hid (¬ (0 ≤ z ∧ z < 2199023255552)) := hzo
                clear hon hzo
                go_wp2_with (first
                  | (have g1 := FZ; clear g1; refine ld40g _ rfl W2.heap.size 0 rfl (opF z c vk3) rfl FZ.out.range (by rfl) ?_)
                  | (have g1 := FZ; clear g1; go_at_call 14; refine (mayF_off z c HZO.out hc0 hc1 (ks.map (stepK l)) vk3 (by rw [List.length_map]; exact hn) _ _ (map_ok hk) FT.out FS.out (Nat.le_refl _) FA.out).mono ?_; rintro e Wa ⟨rfl, hba⟩; have G6 : Hid (Blk Wa (w.heap.size + 1 + 1) opNL) := F6.out.below hba F6.out.lt; have GB : Hid (Below w.heap.size w Wa) := FB.out.trans (hba.mono FB.out.size); clear hba FZ F6 FB FA FT FS)
                  | (have g1 := G6; clear g1; refine stBlk _ _ rfl rfl _ rfl opNL rfl rfl opN_one opNL rfl G6.out ?_; intro Wb k2 ho2 hs2 hb2; have R6 : Hid (Blk Wb (w.heap.size + 1 + 1) opNL) := k2; have RB : Hid (Below w.heap.size w Wb) := GB.out.trans (hb2.mono (by omega)); clear k2 ho2 hs2 hb2)
                  | fail)
                all_goals refine bodyPost_ret (v := .tuple #[.agg opNL.toArray, .bool false]) ?_ rfl ⟨RB.out, .inr ⟨HON.out, rfl⟩⟩
                all_goals exact res40two (p := 6) (q := 7) rfl rfl R6.out rfl rfl
            exact AllReadyH.nil
          exact AllReadyH.nil
        exact AllReadyH.nil
      refine AllReadyH.cons rfl (fun K hK => ?_) ?_
      · go_simp
        refine (fun (k : ∀ W, Below W2.heap.size W2 W ∧ Blk W W2.heap.size opNL → K _ W) => k _ ⟨(Below.refl _ _).alloc (Nat.le_refl _) _, Blk.new W2 opNL⟩) (fun W10 hj => ?_)
        obtain ⟨hb, hx⟩ := hj
        have hw10 : Below u2.heap.size u2 W10 := hw2.trans (hb.mono hw2.size)
        have hg10 : g2 < W10.heap.size ∧ W10.rangeAt g2 0 (opF r c vk2) ∧ SumAt W10 W10.heap.size ks vk2 := ⟨Nat.lt_of_lt_of_le hg2.1 hb.size, range_below hg2.2.1 hb hg2.1, (hg2.2.2.move (fun b hb' => hb.block b hb')).grow hb.size⟩
        refine hK.out _ _ hw10 (fun _ => ?_)
        have hlo : u2.heap.size ≤ W2.heap.size := hw2.size
        have hz10 : Blk W10 W2.heap.size opNL := hx
        clear hb hK hw2 hg2 hx
        refine wpAnyH_ready (rs := [4]) (by kernel_rfl) (by simp) ?_
        refine AllReadyH.cons rfl (fun K hK => ?_) ?_
        · refine stepLd40 rfl (.tmp 23) rfl g2 0 rfl (opF r c vk2) rfl hg10.2.1 ?_
          refine hK.out _ _ hw10 (fun _ => ?_)
          simp only [Act.put, List.setIfInBounds_toArray, List.set_cons_zero, List.set_cons_succ]
          clear hK
          refine wpAnyH_ready (rs := [7]) (by kernel_rfl) (by simp) ?_
          refine AllReadyH.cons rfl (fun K hK => ?_) ?_
          · go_simp
            refine (behind_set l fk fa ft hm r c hr0 hr1 ks vk2 hn pr W10.heap.size W10 hk (HT2.out.next hw10) (by have := hw10.size; omega) (Nat.le_refl _) hg10.2.2).mono ?_
            rintro e W12 ⟨vk3, rfl, hb, ha3⟩
            rw [← HZ.out]
            have hw12 : Below u2.heap.size u2 W12 := hw10.trans (hb.mono hw10.size)
            have hg12 : g2 < W12.heap.size ∧ W12.rangeAt g2 0 (opF r c vk2) ∧ SumAt W12 W12.heap.size ks vk2 := ⟨Nat.lt_of_lt_of_le hg10.1 hb.size, range_below hg10.2.1 hb hg10.1, (hg10.2.2.move (fun b hb' => hb.block b hb')).grow hb.size⟩
            have hz12 : Blk W12 W2.heap.size opNL := hz10.below hb hz10.lt
            have ha12 : SumAt W12 W12.heap.size (ks.map (stepK l)) vk3 := ha3
            refine hK.out _ _ hw12 (fun _ => ?_)
            clear hb hK hw10 hg10 hz10 ha3 hg12
            refine wpAnyH_take (i := 8) (v := .tuple #[.agg (opF z c vk3).toArray, .bool true]) rfl (by kernel_rfl) (by kernel_rfl) (by kernel_rfl) (fun _ _ _ h => h) (Or.inl ⟨by rfl, fun w _ => by go_simp⟩) hw12 ?_
            simp only [Act.put, List.setIfInBounds_toArray, List.set_cons_zero, List.set_cons_succ]
            refine wpAnyH_take (i := 9) (v := (.agg (opF z c vk3).toArray)) rfl (by kernel_rfl) (by kernel_rfl) (by kernel_rfl) (fun _ _ _ h => h) (Or.inl ⟨by rfl, fun w _ => by go_simp⟩) hw12 ?_
            simp only [Act.put, List.setIfInBounds_toArray, List.set_cons_zero, List.set_cons_succ]
            refine wpAnyH_take (i := 10) (v := .bool true) rfl (by kernel_rfl) (by kernel_rfl) (by kernel_rfl) (fun _ _ _ h => h) (Or.inl ⟨by rfl, fun w _ => by go_simp⟩) hw12 ?_
            simp only [Act.put, List.setIfInBounds_toArray, List.set_cons_zero, List.set_cons_succ]
            refine wpAnyH_ready (rs := [12]) (by kernel_rfl) (by simp) ?_
            refine AllReadyH.cons rfl (fun K hK => ?_) ?_
            · refine stepSt40 rfl (.tmp 8) (.tmp 28) rfl W2.heap.size rfl (opF z c vk3) rfl rfl (sumF_one ha12) opNL rfl hz12 ?_
              intro W13 k2 ho2 hs2 hb2
              have hw13 : Below u2.heap.size u2 W13 := hw12.trans (hb2.mono hlo)
              have ha13 : SumAt W13 W13.heap.size (ks.map (stepK l)) vk3 := (by rw [hs2]; exact sum_apart2 ha12 (hz12.range 0 _ rfl) (by decide) ho2)
              have hf13 : Blk W13 W2.heap.size (opF z c vk3) := k2
              refine hK.out _ _ hw13 (fun _ => ?_)
              simp only [Act.put, List.setIfInBounds_toArray, List.set_cons_zero, List.set_cons_succ]
              clear hK k2 ho2 hs2 hb2 hz12 ha12
              refine wpAnyH_take (i := 13) (v := .bool true) rfl (by kernel_rfl) (by kernel_rfl) (by kernel_rfl) (fun _ _ _ h => h) (Or.inl ⟨by rfl, fun w _ => by go_simp⟩) hw13 ?_
              simp only [Act.put, List.setIfInBounds_toArray, List.set_cons_zero, List.set_cons_succ]
              refine wpAnyH_done (by kernel_rfl) ?_ _
              have FZ : Hid (Blk W13 W2.heap.size (opF z c vk3)) := hf13
              have F6 : Hid (Blk W13 (w.heap.size + 1 + 1) opNL) := M6.out.below hw13 M6.out.lt
              have FB : Hid (Below w.heap.size w W13) := B2.out.trans (hw13.mono B2.out.size)
              have FA : Hid (SumAt W13 W13.heap.size (ks.map (stepK l)) vk3) := ha13
              have FT : Hid (Tab W13) := HT2.out.next hw13
              have FS : Hid (5 < W13.heap.size) := by have := hw13.size; show 5 < W13.heap.size; omega
              clear hf13 hw13 hlo ha13
              by_cases hon : okRow l r
              · have HON : Hid (okRow l r) := hon
                obtain ⟨hz0, hz1⟩ := hon
                rw [← HZ.out] at hz0 hz1
                go_wp2_with (first
                  | (have g1 := FZ; clear g1; refine ld40g _ rfl W2.heap.size 0 rfl (opF z c vk3) rfl FZ.out.range (by rfl) ?_)
                  | (have g1 := FZ; clear g1; go_at_call 14; refine (mayF z c hz0 hz1 hc0 hc1 (ks.map (stepK l)) vk3 (by rw [List.length_map]; exact hn) _ _ (map_ok hk) FT.out FS.out (Nat.le_refl _) FA.out).mono ?_; rintro e Wa ⟨rfl, hba⟩; have Z2 : Hid (Blk Wa W2.heap.size (opF z c vk3)) := FZ.out.below hba FZ.out.lt; have G6 : Hid (Blk Wa (w.heap.size + 1 + 1) opNL) := F6.out.below hba F6.out.lt; have GB : Hid (Below w.heap.size w Wa) := FB.out.trans (hba.mono FB.out.size); have GA : Hid (SumAt Wa Wa.heap.size (ks.map (stepK l)) vk3) := (FA.out.move (fun b hb' => hba.block b hb')).grow hba.size; clear hba FZ F6 FB FA FT FS)
                  | (have g1 := Z2; clear g1; refine ld40 _ rfl rfl W2.heap.size 0 rfl (opF z c vk3) rfl Z2.out.range ?_)
                  | (have g1 := G6; clear g1; refine stBlk _ _ rfl rfl _ rfl (opF z c vk3) rfl rfl (sumF_one GA.out) opNL rfl G6.out ?_; intro Wb k2 ho2 hs2 hb2; have R6 : Hid (Blk Wb (w.heap.size + 1 + 1) (opF z c vk3)) := k2; have RB : Hid (Below w.heap.size w Wb) := GB.out.trans (hb2.mono (by omega)); have RA : Hid (SumAt Wb Wb.heap.size (ks.map (stepK l)) vk3) := (by rw [hs2]; exact sum_apart2 GA.out (G6.out.range 0 _ rfl) (by decide) ho2); clear k2 ho2 hs2 hb2)
                  | fail)
                all_goals refine bodyPost_ret (v := .tuple #[.agg (opF z c vk3).toArray, .bool true]) ?_ rfl ⟨RB.out, .inl ⟨HON.out, vk3, rfl, RA.out⟩⟩
                all_goals exact res40two (p := 6) (q := 7) rfl rfl R6.out rfl rfl
              · have HON : Hid (¬ okRow l r) := hon
                have hzo : ¬ (0 ≤ z ∧ z < 2199023255552) := by rw [HZ.out]; exact hon
                have HZO : Hid (¬ (0 ≤ z ∧ z < 2199023255552)) := hzo
                clear hon hzo
                go_wp2_with (first
                  | (have g1 := FZ; clear g1; refine ld40g _ rfl W2.heap.size 0 rfl (opF z c vk3) rfl FZ.out.range (by rfl) ?_)
                  | (have g1 := FZ; clear g1; go_at_call 14; refine (mayF_off z c HZO.out hc0 hc1 (ks.map (stepK l)) vk3 (by rw [List.length_map]; exact hn) _ _ (map_ok hk) FT.out FS.out (Nat.le_refl _) FA.out).mono ?_; rintro e Wa ⟨rfl, hba⟩; have G6 : Hid (Blk Wa (w.heap.size + 1 + 1) opNL) := F6.out.below hba F6.out.lt; have GB : Hid (Below w.heap.size w Wa) := FB.out.trans (hba.mono FB.out.size); clear hba FZ F6 FB FA FT FS)
                  | (have g1 := G6; clear g1; refine stBlk _ _ rfl rfl _ rfl opNL rfl rfl opN_one opNL rfl G6.out ?_; intro Wb k2 ho2 hs2 hb2; have R6 : Hid (Blk Wb (w.heap.size + 1 + 1) opNL) := k2; have RB : Hid (Below w.heap.size w Wb) := GB.out.trans (hb2.mono (by omega)); clear k2 ho2 hs2 hb2)
                  | fail)
                all_goals refine bodyPost_ret (v := .tuple #[.agg opNL.toArray, .bool false]) ?_ rfl ⟨RB.out, .inr ⟨HON.out, rfl⟩⟩
                all_goals exact res40two (p := 6) (q := 7) rfl rfl R6.out rfl rfl
            exact AllReadyH.nil
          exact AllReadyH.nil
        exact AllReadyH.nil
      exact AllReadyH.nil
    refine AllReadyH.cons rfl (fun K hK => ?_) ?_
    · go_simp
      refine (fun (k : ∀ W, Below W1.heap.size W1 W ∧ Blk W W1.heap.size opNL → K _ W) => k _ ⟨(Below.refl _ _).alloc (Nat.le_refl _) _, Blk.new W1 opNL⟩) (fun W14 hj => ?_)
      obtain ⟨hb, hx⟩ := hj
      have hw14 : Below u2.heap.size u2 W14 := hw1.trans (hb.mono hw1.size)
      have hk14 : Blk W14 W0.heap.size (opF r c (.slice p ks.length q)) := hk1.below hb hk1.lt
      refine hK.out _ _ hw14 (fun _ => ?_)
      have hlo : u2.heap.size ≤ W1.heap.size := hw1.size
      have hz14 : Blk W14 W1.heap.size opNL := hx
      clear hb hK hw1 hk1 hx
      refine wpAnyH_ready (rs := [2]) (by kernel_rfl) (by simp) ?_
      refine AllReadyH.cons rfl (fun K hK => ?_) ?_
      · go_simp
        refine (opClone_set r c ks (.slice p ks.length q) hn W0.heap.size 1 N W14 (Nat.le_trans hN2 hw14.size) (A2.out.move (fun b hb => hw14.block b (by omega))) hk14.lt hk14.range (Nat.le_refl _)).mono ?_
        rintro e W15 ⟨g2, c2, vk2, rfl, hcc, hgg, hrr, hb, haa⟩
        have hw15 : Below u2.heap.size u2 W15 := hw14.trans (hb.mono hw14.size)
        have hk15 : Blk W15 W0.heap.size (opF r c (.slice p ks.length q)) := hk14.below hb hk14.lt
        have hz15 : Blk W15 W1.heap.size opNL := hz14.below hb hz14.lt
        have hg15 : g2 < W15.heap.size ∧ W15.rangeAt g2 0 (opF r c vk2) ∧ SumAt W15 W15.heap.size ks vk2 := ⟨hgg, hrr, haa⟩
        refine hK.out _ _ hw15 (fun _ => ?_)
        clear hb hK hw14 hk14 hz14 hgg hrr hcc haa hk15
        refine wpAnyH_take (i := 3) (v := .pointer (some ⟨g2, 0, none⟩)) rfl (by kernel_rfl) (by kernel_rfl) (by kernel_rfl) (fun _ _ _ h => h) (Or.inl ⟨by rfl, fun w _ => by go_simp⟩) hw15 ?_
        simp only [Act.put, List.setIfInBounds_toArray, List.set_cons_zero, List.set_cons_succ]
        refine wpAnyH_ready (rs := [4]) (by kernel_rfl) (by simp) ?_
        refine AllReadyH.cons rfl (fun K hK => ?_) ?_
        · refine stepLd40 rfl (.tmp 23) rfl g2 0 rfl (opF r c vk2) rfl hg15.2.1 ?_
          refine hK.out _ _ hw15 (fun _ => ?_)
          simp only [Act.put, List.setIfInBounds_toArray, List.set_cons_zero, List.set_cons_succ]
          clear hK
          refine wpAnyH_ready (rs := [7]) (by kernel_rfl) (by simp) ?_
          refine AllReadyH.cons rfl (fun K hK => ?_) ?_
          · go_simp
            refine (behind_set l fk fa ft hm r c hr0 hr1 ks vk2 hn pr W15.heap.size W15 hk (HT2.out.next hw15) (by have := hw15.size; omega) (Nat.le_refl _) hg15.2.2).mono ?_
            rintro e W17 ⟨vk3, rfl, hb, ha3⟩
            rw [← HZ.out]
            have hw17 : Below u2.heap.size u2 W17 := hw15.trans (hb.mono hw15.size)
            have hz17 : Blk W17 W1.heap.size opNL := hz15.below hb hz15.lt
            have hg17 : g2 < W17.heap.size ∧ W17.rangeAt g2 0 (opF r c vk2) ∧ SumAt W17 W17.heap.size ks vk2 := ⟨Nat.lt_of_lt_of_le hg15.1 hb.size, range_below hg15.2.1 hb hg15.1, (hg15.2.2.move (fun b hb' => hb.block b hb')).grow hb.size⟩
            have ha17 : SumAt W17 W17.heap.size (ks.map (stepK l)) vk3 := ha3
            refine hK.out _ _ hw17 (fun _ => ?_)
            clear hb hK hw15 hz15 hg15 ha3 hg17
            refine wpAnyH_take (i := 8) (v := .tuple #[.agg (opF z c vk3).toArray, .bool true]) rfl (by kernel_rfl) (by kernel_rfl) (by kernel_rfl) (fun _ _ _ h => h) (Or.inl ⟨by rfl, fun w _ => by go_simp⟩) hw17 ?_
            simp only [Act.put, List.setIfInBounds_toArray, List.set_cons_zero, List.set_cons_succ]
            refine wpAnyH_take (i := 9) (v := (.agg (opF z c vk3).toArray)) rfl (by kernel_rfl) (by kernel_rfl) (by kernel_rfl) (fun _ _ _ h => h) (Or.inl ⟨by rfl, fun w _ => by go_simp⟩) hw17 ?_
            simp only [Act.put, List.setIfInBounds_toArray, List.set_cons_zero, List.set_cons_succ]
            refine wpAnyH_take (i := 10) (v := .bool true) rfl (by kernel_rfl) (by kernel_rfl) (by kernel_rfl) (fun _ _ _ h => h) (Or.inl ⟨by rfl, fun w _ => by go_simp⟩) hw17 ?_
            simp only [Act.put, List.setIfInBounds_toArray, List.set_cons_zero, List.set_cons_succ]
            refine wpAnyH_ready (rs := [12]) (by kernel_rfl) (by simp) ?_
            refine AllReadyH.cons rfl (fun K hK => ?_) ?_
            · refine stepSt40 rfl (.tmp 8) (.tmp 28) rfl W1.heap.size rfl (opF z c vk3) rfl rfl (sumF_one ha17) opNL rfl hz17 ?_
              intro W18 k2 ho2 hs2 hb2
              have hw18 : Below u2.heap.size u2 W18 := hw17.trans (hb2.mono hlo)
              have ha18 : SumAt W18 W18.heap.size (ks.map (stepK l)) vk3 := (by rw [hs2]; exact sum_apart2 ha17 (hz17.range 0 _ rfl) (by decide) ho2)
              have hf18 : Blk W18 W1.heap.size (opF z c vk3) := k2
              refine hK.out _ _ hw18 (fun _ => ?_)
              simp only [Act.put, List.setIfInBounds_toArray, List.set_cons_zero, List.set_cons_succ]
              clear hK k2 ho2 hs2 hb2 hz17 ha17
              refine wpAnyH_take (i := 13) (v := .bool true) rfl (by kernel_rfl) (by kernel_rfl) (by kernel_rfl) (fun _ _ _ h => h) (Or.inl ⟨by rfl, fun w _ => by go_simp⟩) hw18 ?_
              simp only [Act.put, List.setIfInBounds_toArray, List.set_cons_zero, List.set_cons_succ]
              refine wpAnyH_done (by kernel_rfl) ?_ _
              have FZ : Hid (Blk W18 W1.heap.size (opF z c vk3)) := hf18
              have F6 : Hid (Blk W18 (w.heap.size + 1 + 1) opNL) := M6.out.below hw18 M6.out.lt
              have FB : Hid (Below w.heap.size w W18) := B2.out.trans (hw18.mono B2.out.size)
              have FA : Hid (SumAt W18 W18.heap.size (ks.map (stepK l)) vk3) := ha18
              have FT : Hid (Tab W18) := HT2.out.next hw18
              have FS : Hid (5 < W18.heap.size) := by have := hw18.size; show 5 < W18.heap.size; omega
              clear hf18 hw18 hlo ha18
              by_cases hon : okRow l r
              · have HON : Hid (okRow l r) := hon
                obtain ⟨hz0, hz1⟩ := hon
                rw [← HZ.out] at hz0 hz1
                go_wp2_with (first
                  | (have g1 := FZ; clear g1; refine ld40g _ rfl W1.heap.size 0 rfl (opF z c vk3) rfl FZ.out.range (by rfl) ?_)
                  | (have g1 := FZ; clear g1; go_at_call 14; refine (mayF z c hz0 hz1 hc0 hc1 (ks.map (stepK l)) vk3 (by rw [List.length_map]; exact hn) _ _ (map_ok hk) FT.out FS.out (Nat.le_refl _) FA.out).mono ?_; rintro e Wa ⟨rfl, hba⟩; have Z2 : Hid (Blk Wa W1.heap.size (opF z c vk3)) := FZ.out.below hba FZ.out.lt; have G6 : Hid (Blk Wa (w.heap.size + 1 + 1) opNL) := F6.out.below hba F6.out.lt; have GB : Hid (Below w.heap.size w Wa) := FB.out.trans (hba.mono FB.out.size); have GA : Hid (SumAt Wa Wa.heap.size (ks.map (stepK l)) vk3) := (FA.out.move (fun b hb' => hba.block b hb')).grow hba.size; clear hba FZ F6 FB FA FT FS)
                  | (have g1 := Z2; clear g1; refine ld40 _ rfl rfl W1.heap.size 0 rfl (opF z c vk3) rfl Z2.out.range ?_)
                  | (have g1 := G6; clear g1; refine stBlk _ _ rfl rfl _ rfl (opF z c vk3) rfl rfl (sumF_one GA.out) opNL rfl G6.out ?_; intro Wb k2 ho2 hs2 hb2; have R6 : Hid (Blk Wb (w.heap.size + 1 + 1) (opF z c vk3)) := k2; have RB : Hid (Below w.heap.size w Wb) := GB.out.trans (hb2.mono (by omega)); have RA : Hid (SumAt Wb Wb.heap.size (ks.map (stepK l)) vk3) := (by rw [hs2]; exact sum_apart2 GA.out (G6.out.range 0 _ rfl) (by decide) ho2); clear k2 ho2 hs2 hb2)
                  | fail)
                all_goals refine bodyPost_ret (v := .tuple #[.agg (opF z c vk3).toArray, .bool true]) ?_ rfl ⟨RB.out, .inl ⟨HON.out, vk3, rfl, RA.out⟩⟩
                all_goals exact res40two (p := 6) (q := 7) rfl rfl R6.out rfl rfl
              · have HON : Hid (¬ okRow l r) := hon
                have hzo : ¬ (0 ≤ z ∧ z < 2199023255552) := by rw [HZ.out]; exact hon
                have HZO : Hid (¬ (0 ≤ z ∧ z < 2199023255552)) := hzo
                clear hon hzo
                go_wp2_with (first
                  | (have g1 := FZ; clear g1; refine ld40g _ rfl W1.heap.size 0 rfl (opF z c vk3) rfl FZ.out.range (by rfl) ?_)
                  | (have g1 := FZ; clear g1; go_at_call 14; refine (mayF_off z c HZO.out hc0 hc1 (ks.map (stepK l)) vk3 (by rw [List.length_map]; exact hn) _ _ (map_ok hk) FT.out FS.out (Nat.le_refl _) FA.out).mono ?_; rintro e Wa ⟨rfl, hba⟩; have G6 : Hid (Blk Wa (w.heap.size + 1 + 1) opNL) := F6.out.below hba F6.out.lt; have GB : Hid (Below w.heap.size w Wa) := FB.out.trans (hba.mono FB.out.size); clear hba FZ F6 FB FA FT FS)
                  | (have g1 := G6; clear g1; refine stBlk _ _ rfl rfl _ rfl opNL rfl rfl opN_one opNL rfl G6.out ?_; intro Wb k2 ho2 hs2 hb2; have R6 : Hid (Blk Wb (w.heap.size + 1 + 1) opNL) := k2; have RB : Hid (Below w.heap.size w Wb) := GB.out.trans (hb2.mono (by omega)); clear k2 ho2 hs2 hb2)
                  | fail)
                all_goals refine bodyPost_ret (v := .tuple #[.agg opNL.toArray, .bool false]) ?_ rfl ⟨RB.out, .inr ⟨HON.out, rfl⟩⟩
                all_goals exact res40two (p := 6) (q := 7) rfl rfl R6.out rfl rfl
            exact AllReadyH.nil
          exact AllReadyH.nil
        exact AllReadyH.nil
      exact AllReadyH.nil
    exact AllReadyH.nil
  refine AllReadyH.cons rfl (fun K hK => ?_) ?_
  · go_simp
    refine (fun (k : ∀ W, Below W0.heap.size W0 W ∧ Blk W W0.heap.size opNL → K _ W) => k _ ⟨(Below.refl _ _).alloc (Nat.le_refl _) _, Blk.new W0 opNL⟩) (fun W19 hj => ?_)
    obtain ⟨hb, hx⟩ := hj
    have hw19 : Below u2.heap.size u2 W19 := hw0.trans (hb.mono hw0.size)
    refine hK.out _ _ hw19 (fun _ => ?_)
    have hlo : u2.heap.size ≤ W0.heap.size := hw0.size
    have hz19 : Blk W19 W0.heap.size opNL := hx
    clear hb hK hw0 hx
    refine wpAnyH_ready (rs := [1]) (by kernel_rfl) (by simp) ?_
    refine AllReadyH.cons rfl (fun K hK => ?_) ?_
    · go_simp
      refine (fun (k : ∀ W, Below W19.heap.size W19 W ∧ Blk W W19.heap.size (opF r c (.slice p ks.length q)) → K _ W) => k _ ⟨(Below.refl _ _).alloc (Nat.le_refl _) _, Blk.new W19 (opF r c (.slice p ks.length q))⟩) (fun W20 hj => ?_)
      obtain ⟨hb, hx⟩ := hj
      have hw20 : Below u2.heap.size u2 W20 := hw19.trans (hb.mono hw19.size)
      have hz20 : Blk W20 W0.heap.size opNL := hz19.below hb hz19.lt
      refine hK.out _ _ hw20 (fun _ => ?_)
      have hk20 : Blk W20 W19.heap.size (opF r c (.slice p ks.length q)) := hx
      clear hb hK hw19 hz19 hx
      refine wpAnyH_ready (rs := [2]) (by kernel_rfl) (by simp) ?_
      refine AllReadyH.cons rfl (fun K hK => ?_) ?_
      · go_simp
        refine (opClone_set r c ks (.slice p ks.length q) hn W19.heap.size 1 N W20 (Nat.le_trans hN2 hw20.size) (A2.out.move (fun b hb => hw20.block b (by omega))) hk20.lt hk20.range (Nat.le_refl _)).mono ?_
        rintro e W21 ⟨g2, c2, vk2, rfl, hcc, hgg, hrr, hb, haa⟩
        have hw21 : Below u2.heap.size u2 W21 := hw20.trans (hb.mono hw20.size)
        have hz21 : Blk W21 W0.heap.size opNL := hz20.below hb hz20.lt
        have hk21 : Blk W21 W19.heap.size (opF r c (.slice p ks.length q)) := hk20.below hb hk20.lt
        have hg21 : g2 < W21.heap.size ∧ W21.rangeAt g2 0 (opF r c vk2) ∧ SumAt W21 W21.heap.size ks vk2 := ⟨hgg, hrr, haa⟩
        refine hK.out _ _ hw21 (fun _ => ?_)
        clear hb hK hw20 hz20 hk20 hgg hrr hcc haa hk21
        refine wpAnyH_take (i := 3) (v := .pointer (some ⟨g2, 0, none⟩)) rfl (by kernel_rfl) (by kernel_rfl) (by kernel_rfl) (fun _ _ _ h => h) (Or.inl ⟨by rfl, fun w _ => by go_simp⟩) hw21 ?_
        simp only [Act.put, List.setIfInBounds_toArray, List.set_cons_zero, List.set_cons_succ]
        refine wpAnyH_ready (rs := [4]) (by kernel_rfl) (by simp) ?_
        refine AllReadyH.cons rfl (fun K hK => ?_) ?_
        · refine stepLd40 rfl (.tmp 23) rfl g2 0 rfl (opF r c vk2) rfl hg21.2.1 ?_
          refine hK.out _ _ hw21 (fun _ => ?_)
          simp only [Act.put, List.setIfInBounds_toArray, List.set_cons_zero, List.set_cons_succ]
          clear hK
          refine wpAnyH_ready (rs := [7]) (by kernel_rfl) (by simp) ?_
          refine AllReadyH.cons rfl (fun K hK => ?_) ?_
          · go_simp
            refine (behind_set l fk fa ft hm r c hr0 hr1 ks vk2 hn pr W21.heap.size W21 hk (HT2.out.next hw21) (by have := hw21.size; omega) (Nat.le_refl _) hg21.2.2).mono ?_
            rintro e W23 ⟨vk3, rfl, hb, ha3⟩
            rw [← HZ.out]
            have hw23 : Below u2.heap.size u2 W23 := hw21.trans (hb.mono hw21.size)
            have hz23 : Blk W23 W0.heap.size opNL := hz21.below hb hz21.lt
            have hg23 : g2 < W23.heap.size ∧ W23.rangeAt g2 0 (opF r c vk2) ∧ SumAt W23 W23.heap.size ks vk2 := ⟨Nat.lt_of_lt_of_le hg21.1 hb.size, range_below hg21.2.1 hb hg21.1, (hg21.2.2.move (fun b hb' => hb.block b hb')).grow hb.size⟩
            have ha23 : SumAt W23 W23.heap.size (ks.map (stepK l)) vk3 := ha3
            refine hK.out _ _ hw23 (fun _ => ?_)
            clear hb hK hw21 hz21 hg21 ha3 hg23
            refine wpAnyH_take (i := 8) (v := .tuple #[.agg (opF z c vk3).toArray, .bool true]) rfl (by kernel_rfl) (by kernel_rfl) (by kernel_rfl) (fun _ _ _ h => h) (Or.inl ⟨by rfl, fun w _ => by go_simp⟩) hw23 ?_
            simp only [Act.put, List.setIfInBounds_toArray, List.set_cons_zero, List.set_cons_succ]
            refine wpAnyH_take (i := 9) (v := (.agg (opF z c vk3).toArray)) rfl (by kernel_rfl) (by kernel_rfl) (by kernel_rfl) (fun _ _ _ h => h) (Or.inl ⟨by rfl, fun w _ => by go_simp⟩) hw23 ?_
            simp only [Act.put, List.setIfInBounds_toArray, List.set_cons_zero, List.set_cons_succ]
            refine wpAnyH_take (i := 10) (v := .bool true) rfl (by kernel_rfl) (by kernel_rfl) (by kernel_rfl) (fun _ _ _ h => h) (Or.inl ⟨by rfl, fun w _ => by go_simp⟩) hw23 ?_
            simp only [Act.put, List.setIfInBounds_toArray, List.set_cons_zero, List.set_cons_succ]
            refine wpAnyH_ready (rs := [12]) (by kernel_rfl) (by simp) ?_
            refine AllReadyH.cons rfl (fun K hK => ?_) ?_
            · refine stepSt40 rfl (.tmp 8) (.tmp 28) rfl W0.heap.size rfl (opF z c vk3) rfl rfl (sumF_one ha23) opNL rfl hz23 ?_
              intro W24 k2 ho2 hs2 hb2
              have hw24 : Below u2.heap.size u2 W24 := hw23.trans (hb2.mono hlo)
              have ha24 : SumAt W24 W24.heap.size (ks.map (stepK l)) vk3 := (by rw [hs2]; exact sum_apart2 ha23 (hz23.range 0 _ rfl) (by decide) ho2)
              have hf24 : Blk W24 W0.heap.size (opF z c vk3) := k2
              refine hK.out _ _ hw24 (fun _ => ?_)
              simp only [Act.put, List.setIfInBounds_toArray, List.set_cons_zero, List.set_cons_succ]
              clear hK k2 ho2 hs2 hb2 hz23 ha23
              refine wpAnyH_take (i := 13) (v := .bool true) rfl (by kernel_rfl) (by kernel_rfl) (by kernel_rfl) (fun _ _ _ h => h) (Or.inl ⟨by rfl, fun w _ => by go_simp⟩) hw24 ?_
              simp only [Act.put, List.setIfInBounds_toArray, List.set_cons_zero, List.set_cons_succ]
              refine wpAnyH_done (by kernel_rfl) ?_ _
              have FZ : Hid (Blk W24 W0.heap.size (opF z c vk3)) := hf24
              have F6 : Hid (Blk W24 (w.heap.size + 1 + 1) opNL) := M6.out.below hw24 M6.out.lt
              have FB : Hid (Below w.heap.size w W24) := B2.out.trans (hw24.mono B2.out.size)
              have FA : Hid (SumAt W24 W24.heap.size (ks.map (stepK l)) vk3) := ha24
              have FT : Hid (Tab W24) := HT2.out.next hw24
              have FS : Hid (5 < W24.heap.size) := by have := hw24.size; show 5 < W24.heap.size; omega
              clear hf24 hw24 hlo ha24
              by_cases hon : okRow l r
              · have HON : Hid (okRow l r) := hon
                obtain ⟨hz0, hz1⟩ := hon
                rw [← HZ.out] at hz0 hz1
                go_wp2_with (first
                  | (have g1 := FZ; clear g1; refine ld40g _ rfl W0.heap.size 0 rfl (opF z c vk3) rfl FZ.out.range (by rfl) ?_)
                  | (have g1 := FZ; clear g1; go_at_call 14; refine (mayF z c hz0 hz1 hc0 hc1 (ks.map (stepK l)) vk3 (by rw [List.length_map]; exact hn) _ _ (map_ok hk) FT.out FS.out (Nat.le_refl _) FA.out).mono ?_; rintro e Wa ⟨rfl, hba⟩; have Z2 : Hid (Blk Wa W0.heap.size (opF z c vk3)) := FZ.out.below hba FZ.out.lt; have G6 : Hid (Blk Wa (w.heap.size + 1 + 1) opNL) := F6.out.below hba F6.out.lt; have GB : Hid (Below w.heap.size w Wa) := FB.out.trans (hba.mono FB.out.size); have GA : Hid (SumAt Wa Wa.heap.size (ks.map (stepK l)) vk3) := (FA.out.move (fun b hb' => hba.block b hb')).grow hba.size; clear hba FZ F6 FB FA FT FS)
                  | (have g1 := Z2; clear g1; refine ld40 _ rfl rfl W0.heap.size 0 rfl (opF z c vk3) rfl Z2.out.range ?_)
                  | (have g1 := G6; clear g1; refine stBlk _ _ rfl rfl _ rfl (opF z c vk3) rfl rfl (sumF_one GA.out) opNL rfl G6.out ?_; intro Wb k2 ho2 hs2 hb2; have R6 : Hid (Blk Wb (w.heap.size + 1 + 1) (opF z c vk3)) := k2; have RB : Hid (Below w.heap.size w Wb) := GB.out.trans (hb2.mono (by omega)); have RA : Hid (SumAt Wb Wb.heap.size (ks.map (stepK l)) vk3) := (by rw [hs2]; exact sum_apart2 GA.out (G6.out.range 0 _ rfl) (by decide) ho2); clear k2 ho2 hs2 hb2)
                  | fail)
                all_goals refine bodyPost_ret (v := .tuple #[.agg (opF z c vk3).toArray, .bool true]) ?_ rfl ⟨RB.out, .inl ⟨HON.out, vk3, rfl, RA.out⟩⟩
                all_goals exact res40two (p := 6) (q := 7) rfl rfl R6.out rfl rfl
              · have HON : Hid (¬ okRow l r) := hon
                have hzo : ¬ (0 ≤ z ∧ z < 2199023255552) := by rw [HZ.out]; exact hon
                have HZO : Hid (¬ (0 ≤ z ∧ z < 2199023255552)) := hzo
                clear hon hzo
                go_wp2_with (first
                  | (have g1 := FZ; clear g1; refine ld40g _ rfl W0.heap.size 0 rfl (opF z c vk3) rfl FZ.out.range (by rfl) ?_)
                  | (have g1 := FZ; clear g1; go_at_call 14; refine (mayF_off z c HZO.out hc0 hc1 (ks.map (stepK l)) vk3 (by rw [List.length_map]; exact hn) _ _ (map_ok hk) FT.out FS.out (Nat.le_refl _) FA.out).mono ?_; rintro e Wa ⟨rfl, hba⟩; have G6 : Hid (Blk Wa (w.heap.size + 1 + 1) opNL) := F6.out.below hba F6.out.lt; have GB : Hid (Below w.heap.size w Wa) := FB.out.trans (hba.mono FB.out.size); clear hba FZ F6 FB FA FT FS)
                  | (have g1 := G6; clear g1; refine stBlk _ _ rfl rfl _ rfl opNL rfl rfl opN_one opNL rfl G6.out ?_; intro Wb k2 ho2 hs2 hb2; have R6 : Hid (Blk Wb (w.heap.size + 1 + 1) opNL) := k2; have RB : Hid (Below w.heap.size w Wb) := GB.out.trans (hb2.mono (by omega)); clear k2 ho2 hs2 hb2)
                  | fail)
                all_goals refine bodyPost_ret (v := .tuple #[.agg opNL.toArray, .bool false]) ?_ rfl ⟨RB.out, .inr ⟨HON.out, rfl⟩⟩
                all_goals exact res40two (p := 6) (q := 7) rfl rfl R6.out rfl rfl
            exact AllReadyH.nil
          exact AllReadyH.nil
        exact AllReadyH.nil
      exact AllReadyH.nil
    exact AllReadyH.nil
  exact AllReadyH.nil
end Go.Proofs.YtglgibmjcgfecaaGreatDoor

