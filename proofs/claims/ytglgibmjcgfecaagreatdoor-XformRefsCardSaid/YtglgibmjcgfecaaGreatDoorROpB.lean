/- XformRefs, the walks: xform.Op of an operation on lines, behind one that sets a formula. -/
import Derived.Test.YtglgibmjcgfecaaGreatDoorROp
set_option linter.unusedSimpArgs false
set_option linter.unusedVariables false
set_option linter.unusedSimpArgs false
set_option linter.unusedVariables false
namespace Go.Proofs.YtglgibmjcgfecaaGreatDoor
open Go Go.RowKit Go.Proofs Go.Xf Go.Sort

set_option maxRecDepth 100000 in
set_option maxHeartbeats 4000000 in
theorem opBack (l : Ln) (fk : Fits l.k) (fa : Fits l.a) (ft : Fits l.t) (hm : MayL l) (r c : Int) (hr0 : 0 ≤ r) (hr1 : r < 2199023255552) (hc0 : 0 ≤ c) (hc1 : c < 2199023255552) (ks : List Kid) (vk : Value) (hn : ks.length ≤ 8) (pr : Bool) (N : Nat) (w : World) (hk : ∀ k ∈ ks, k.Ok) (hT : Tab w) (h5 : 5 < N) (hN : N ≤ w.heap.size) (hA : SumAt w N ks vk) :
    Calls Tryz.prog 10 #[.agg (opLn l).toArray, .agg (opF r c vk).toArray, .bool pr] w fun e w' => e = .returned (.tuple #[.agg (opLn l).toArray, .bool true]) ∧ Below w.heap.size w w' := by
  have HA : Hid (SumAt w N ks vk) := hA
  have HT : Hid (Tab w) := hT
  obtain ⟨p, q, rfl, _⟩ := hA
  have HX0 := boxes3 w (opLn l) (opF r c (.slice p ks.length q)) opNL
  have HX : Hid _ := HX0
  clear HX0
  clear hT
  go_enter Tryz.func10, Tryz.ntmps10
  go_wp2_with (first
    | (have g1 := HX; clear g1; refine ld40 _ rfl rfl w.heap.size 0 rfl (opLn l) rfl HX.out.1.range ?_)
    | (have g1 := HX; clear g1; go_at_call 14; refine (may_line2 l fa ft hm _).mono ?_; rintro e u1 ⟨rfl, hb1⟩; have K3 : Hid (Blk u1 w.heap.size (opLn l)) := HX.out.1.below hb1 HX.out.1.lt; have K4 : Hid (Blk u1 (w.heap.size + 1) (opF r c (.slice p ks.length q))) := HX.out.2.1.below hb1 HX.out.2.1.lt; have K6 : Hid (Blk u1 (w.heap.size + 1 + 1) opNL) := HX.out.2.2.1.below hb1 HX.out.2.2.1.lt; have B1 : Hid (Below w.heap.size w u1) := HX.out.2.2.2.trans (hb1.mono HX.out.2.2.2.size); clear hb1 HX)
    | (have g1 := K4; clear g1; go_at_call 14; refine (mayF r c hr0 hr1 hc0 hc1 ks (.slice p ks.length q) hn N _ hk (HT.out.next B1.out) h5 (Nat.le_trans hN B1.out.size) (HA.out.move (fun b hb => B1.out.block b (by omega)))).mono ?_; rintro e u2 ⟨rfl, hb2⟩; have M3 : Hid (Blk u2 w.heap.size (opLn l)) := K3.out.below hb2 K3.out.lt; have M4 : Hid (Blk u2 (w.heap.size + 1) (opF r c (.slice p ks.length q))) := K4.out.below hb2 K4.out.lt; have M6 : Hid (Blk u2 (w.heap.size + 1 + 1) opNL) := K6.out.below hb2 K6.out.lt; have B2 : Hid (Below w.heap.size w u2) := B1.out.trans (hb2.mono B1.out.size); clear hb2 K3 K4 K6 B1)
    | (have g1 := K4; clear g1; refine ld40g _ rfl (w.heap.size + 1) 0 rfl (opF r c (.slice p ks.length q)) rfl K4.out.range (by rfl) ?_)
    | fail)
  refine wp_region_held (S := fun W => Below u2.heap.size u2 W) (by kernel_rfl) ?_
  have hS0 : Below u2.heap.size u2 { u2 with drawn := u2.drawn + 1 } := ⟨rfl, rfl, rfl, Nat.le_refl _, fun _ _ => rfl⟩
  refine (fun (k : ∀ W, Below u2.heap.size u2 W → wpAnyH _ _ _ _ _ _ _ _ W) => k _ hS0) (fun W0 hw0 => ?_)
  clear hS0
  refine wpAnyH_take (i := 0) (v := .agg (opLn l).toArray) rfl (by kernel_rfl) (by kernel_rfl) (by kernel_rfl) (fun _ _ _ h => h) (yieldsIf_load_mid rfl 40 _ rfl w.heap.size 0 rfl _ _ (fun W hW => (M3.out.below hW M3.out.lt).range) Tryz.underlying40 rfl info40) hw0 ?_
  simp only [Act.put, List.setIfInBounds_toArray, List.set_cons_zero, List.set_cons_succ]
  refine wpAnyH_take (i := 5) (v := .agg (opF r c (.slice p ks.length q)).toArray) rfl (by kernel_rfl) (by kernel_rfl) (by kernel_rfl) (fun _ _ _ h => h) (yieldsIf_load_mid rfl 40 _ rfl (w.heap.size + 1) 0 rfl _ _ (fun W hW => (M4.out.below hW M4.out.lt).range) Tryz.underlying40 rfl info40) hw0 ?_
  simp only [Act.put, List.setIfInBounds_toArray, List.set_cons_zero, List.set_cons_succ]
  refine wpAnyH_take (i := 6) (v := .bool pr) rfl (by kernel_rfl) (by kernel_rfl) (by kernel_rfl) (fun _ _ _ h => h) (Or.inl ⟨by rfl, fun w _ => by go_simp⟩) hw0 ?_
  simp only [Act.put, List.setIfInBounds_toArray, List.set_cons_zero, List.set_cons_succ]
  refine wpAnyH_ready (rs := [1, 11]) (by kernel_rfl) (by simp) ?_
  refine AllReadyH.cons rfl (fun K hK => ?_) ?_
  · go_simp
    refine (fun (k : ∀ W, Below W0.heap.size W0 W ∧ Blk W W0.heap.size (opLn l) → K _ W) => k _ ⟨(Below.refl _ _).alloc (Nat.le_refl _) _, Blk.new W0 (opLn l)⟩) (fun W1 hj => ?_)
    obtain ⟨hb, hx⟩ := hj
    have hw1 : Below u2.heap.size u2 W1 := hw0.trans (hb.mono hw0.size)
    refine hK.out _ _ hw1 (fun _ => ?_)
    have hk1 : Blk W1 W0.heap.size (opLn l) := hx
    clear hb hK hw0 hx
    refine wpAnyH_ready (rs := [2, 11]) (by kernel_rfl) (by simp) ?_
    refine AllReadyH.cons rfl (fun K hK => ?_) ?_
    · go_simp
      refine (opClone_line l W0.heap.size 1 W1 hk1.lt hk1.range (Nat.le_refl _)).mono ?_
      rintro e W2 ⟨g2, c2, rfl, hcc, hgg, hrr, hb⟩
      have hw2 : Below u2.heap.size u2 W2 := hw1.trans (hb.mono hw1.size)
      have hk2 : Blk W2 W0.heap.size (opLn l) := hk1.below hb hk1.lt
      have hg2 : g2 < W2.heap.size ∧ W2.rangeAt g2 0 (opLn l) := ⟨hgg, hrr⟩
      refine hK.out _ _ hw2 (fun _ => ?_)
      clear hb hK hw1 hk1 hgg hrr hcc hk2
      refine wpAnyH_take (i := 3) (v := .pointer (some ⟨g2, 0, none⟩)) rfl (by kernel_rfl) (by kernel_rfl) (by kernel_rfl) (fun _ _ _ h => h) (Or.inl ⟨by rfl, fun w _ => by go_simp⟩) hw2 ?_
      simp only [Act.put, List.setIfInBounds_toArray, List.set_cons_zero, List.set_cons_succ]
      refine wpAnyH_ready (rs := [4, 11]) (by kernel_rfl) (by simp) ?_
      refine AllReadyH.cons rfl (fun K hK => ?_) ?_
      · refine stepLd40 rfl (.tmp 23) rfl g2 0 rfl (opLn l) rfl hg2.2 ?_
        refine hK.out _ _ hw2 (fun _ => ?_)
        simp only [Act.put, List.setIfInBounds_toArray, List.set_cons_zero, List.set_cons_succ]
        clear hK
        refine wpAnyH_ready (rs := [7, 11]) (by kernel_rfl) (by simp) ?_
        refine AllReadyH.cons rfl (fun K hK => ?_) ?_
        · go_simp
          refine (behind_line l r c p ks.length q pr W2).mono ?_
          rintro e W4 ⟨rfl, hb⟩
          have hw4 : Below u2.heap.size u2 W4 := hw2.trans (hb.mono hw2.size)
          have hg4 : g2 < W4.heap.size ∧ W4.rangeAt g2 0 (opLn l) := ⟨Nat.lt_of_lt_of_le hg2.1 hb.size, range_below hg2.2 hb hg2.1⟩
          refine hK.out _ _ hw4 (fun _ => ?_)
          clear hb hK hw2 hg2 hg4
          refine wpAnyH_take (i := 8) (v := .tuple #[.agg (opLn l).toArray, .bool true]) rfl (by kernel_rfl) (by kernel_rfl) (by kernel_rfl) (fun _ _ _ h => h) (Or.inl ⟨by rfl, fun w _ => by go_simp⟩) hw4 ?_
          simp only [Act.put, List.setIfInBounds_toArray, List.set_cons_zero, List.set_cons_succ]
          refine wpAnyH_take (i := 9) (v := (.agg (opLn l).toArray)) rfl (by kernel_rfl) (by kernel_rfl) (by kernel_rfl) (fun _ _ _ h => h) (Or.inl ⟨by rfl, fun w _ => by go_simp⟩) hw4 ?_
          simp only [Act.put, List.setIfInBounds_toArray, List.set_cons_zero, List.set_cons_succ]
          refine wpAnyH_take (i := 10) (v := .bool true) rfl (by kernel_rfl) (by kernel_rfl) (by kernel_rfl) (fun _ _ _ h => h) (Or.inl ⟨by rfl, fun w _ => by go_simp⟩) hw4 ?_
          simp only [Act.put, List.setIfInBounds_toArray, List.set_cons_zero, List.set_cons_succ]
          refine wpAnyH_ready (rs := [11]) (by kernel_rfl) (by simp) ?_
          refine AllReadyH.cons rfl (fun K hK => ?_) ?_
          · go_simp
            refine (fun (k : ∀ W, Below W4.heap.size W4 W ∧ Blk W W4.heap.size opNL → K _ W) => k _ ⟨(Below.refl _ _).alloc (Nat.le_refl _) _, Blk.new W4 opNL⟩) (fun W5 hj => ?_)
            obtain ⟨hb, hx⟩ := hj
            have hw5 : Below u2.heap.size u2 W5 := hw4.trans (hb.mono hw4.size)
            refine hK.out _ _ hw5 (fun _ => ?_)
            have hlo : u2.heap.size ≤ W4.heap.size := hw4.size
            have hz5 : Blk W5 W4.heap.size opNL := hx
            clear hb hK hw4 hx
            refine wpAnyH_ready (rs := [12]) (by kernel_rfl) (by simp) ?_
            refine AllReadyH.cons rfl (fun K hK => ?_) ?_
            · refine stepSt40 rfl (.tmp 8) (.tmp 28) rfl W4.heap.size rfl (opLn l) rfl rfl (opL_one _ _ _ _ _ _) opNL rfl hz5 ?_
              intro W6 k2 ho2 hs2 hb2
              have hw6 : Below u2.heap.size u2 W6 := hw5.trans (hb2.mono hlo)
              have hf6 : Blk W6 W4.heap.size (opLn l) := k2
              refine hK.out _ _ hw6 (fun _ => ?_)
              simp only [Act.put, List.setIfInBounds_toArray, List.set_cons_zero, List.set_cons_succ]
              clear hK k2 ho2 hs2 hb2 hz5
              refine wpAnyH_take (i := 13) (v := .bool true) rfl (by kernel_rfl) (by kernel_rfl) (by kernel_rfl) (fun _ _ _ h => h) (Or.inl ⟨by rfl, fun w _ => by go_simp⟩) hw6 ?_
              simp only [Act.put, List.setIfInBounds_toArray, List.set_cons_zero, List.set_cons_succ]
              refine wpAnyH_done (by kernel_rfl) ?_ _
              have FZ : Hid (Blk W6 W4.heap.size (opLn l)) := hf6
              have F6 : Hid (Blk W6 (w.heap.size + 1 + 1) opNL) := M6.out.below hw6 M6.out.lt
              have FB : Hid (Below w.heap.size w W6) := B2.out.trans (hw6.mono B2.out.size)
              clear hf6 hw6 hlo
              go_wp2_with (first
                | (have g1 := FZ; clear g1; refine ld40g _ rfl W4.heap.size 0 rfl (opLn l) rfl FZ.out.range (by rfl) ?_)
                | (have g1 := FZ; clear g1; go_at_call 14; refine (may_line2 l fa ft hm _).mono ?_; rintro e Wa ⟨rfl, hba⟩; have Z2 : Hid (Blk Wa W4.heap.size (opLn l)) := FZ.out.below hba FZ.out.lt; have G6 : Hid (Blk Wa (w.heap.size + 1 + 1) opNL) := F6.out.below hba F6.out.lt; have GB : Hid (Below w.heap.size w Wa) := FB.out.trans (hba.mono FB.out.size); clear hba FZ F6 FB)
                | (have g1 := Z2; clear g1; refine ld40 _ rfl rfl W4.heap.size 0 rfl (opLn l) rfl Z2.out.range ?_)
                | (have g1 := G6; clear g1; refine stBlk _ _ rfl rfl _ rfl (opLn l) rfl rfl (opL_one _ _ _ _ _ _) opNL rfl G6.out ?_; intro Wb k2 ho2 hs2 hb2; have R6 : Hid (Blk Wb (w.heap.size + 1 + 1) (opLn l)) := k2; have RB : Hid (Below w.heap.size w Wb) := GB.out.trans (hb2.mono (by omega)); clear k2 ho2 hs2 hb2)
                | fail)
              all_goals refine bodyPost_ret (v := .tuple #[.agg (opLn l).toArray, .bool true]) ?_ rfl ⟨rfl, RB.out⟩
              all_goals exact res40two (p := 6) (q := 7) rfl rfl R6.out rfl rfl
            exact AllReadyH.nil
          exact AllReadyH.nil
        refine AllReadyH.cons rfl (fun K hK => ?_) ?_
        · go_simp
          refine (fun (k : ∀ W, Below W2.heap.size W2 W ∧ Blk W W2.heap.size opNL → K _ W) => k _ ⟨(Below.refl _ _).alloc (Nat.le_refl _) _, Blk.new W2 opNL⟩) (fun W7 hj => ?_)
          obtain ⟨hb, hx⟩ := hj
          have hw7 : Below u2.heap.size u2 W7 := hw2.trans (hb.mono hw2.size)
          have hg7 : g2 < W7.heap.size ∧ W7.rangeAt g2 0 (opLn l) := ⟨Nat.lt_of_lt_of_le hg2.1 hb.size, range_below hg2.2 hb hg2.1⟩
          refine hK.out _ _ hw7 (fun _ => ?_)
          have hlo : u2.heap.size ≤ W2.heap.size := hw2.size
          have hz7 : Blk W7 W2.heap.size opNL := hx
          clear hb hK hw2 hg2 hx
          refine wpAnyH_ready (rs := [7]) (by kernel_rfl) (by simp) ?_
          refine AllReadyH.cons rfl (fun K hK => ?_) ?_
          · go_simp
            refine (behind_line l r c p ks.length q pr W7).mono ?_
            rintro e W8 ⟨rfl, hb⟩
            have hw8 : Below u2.heap.size u2 W8 := hw7.trans (hb.mono hw7.size)
            have hg8 : g2 < W8.heap.size ∧ W8.rangeAt g2 0 (opLn l) := ⟨Nat.lt_of_lt_of_le hg7.1 hb.size, range_below hg7.2 hb hg7.1⟩
            have hz8 : Blk W8 W2.heap.size opNL := hz7.below hb hz7.lt
            refine hK.out _ _ hw8 (fun _ => ?_)
            clear hb hK hw7 hg7 hz7 hg8
            refine wpAnyH_take (i := 8) (v := .tuple #[.agg (opLn l).toArray, .bool true]) rfl (by kernel_rfl) (by kernel_rfl) (by kernel_rfl) (fun _ _ _ h => h) (Or.inl ⟨by rfl, fun w _ => by go_simp⟩) hw8 ?_
            simp only [Act.put, List.setIfInBounds_toArray, List.set_cons_zero, List.set_cons_succ]
            refine wpAnyH_take (i := 9) (v := (.agg (opLn l).toArray)) rfl (by kernel_rfl) (by kernel_rfl) (by kernel_rfl) (fun _ _ _ h => h) (Or.inl ⟨by rfl, fun w _ => by go_simp⟩) hw8 ?_
            simp only [Act.put, List.setIfInBounds_toArray, List.set_cons_zero, List.set_cons_succ]
            refine wpAnyH_take (i := 10) (v := .bool true) rfl (by kernel_rfl) (by kernel_rfl) (by kernel_rfl) (fun _ _ _ h => h) (Or.inl ⟨by rfl, fun w _ => by go_simp⟩) hw8 ?_
            simp only [Act.put, List.setIfInBounds_toArray, List.set_cons_zero, List.set_cons_succ]
            refine wpAnyH_ready (rs := [12]) (by kernel_rfl) (by simp) ?_
            refine AllReadyH.cons rfl (fun K hK => ?_) ?_
            · refine stepSt40 rfl (.tmp 8) (.tmp 28) rfl W2.heap.size rfl (opLn l) rfl rfl (opL_one _ _ _ _ _ _) opNL rfl hz8 ?_
              intro W9 k2 ho2 hs2 hb2
              have hw9 : Below u2.heap.size u2 W9 := hw8.trans (hb2.mono hlo)
              have hf9 : Blk W9 W2.heap.size (opLn l) := k2
              refine hK.out _ _ hw9 (fun _ => ?_)
              simp only [Act.put, List.setIfInBounds_toArray, List.set_cons_zero, List.set_cons_succ]
              clear hK k2 ho2 hs2 hb2 hz8
              refine wpAnyH_take (i := 13) (v := .bool true) rfl (by kernel_rfl) (by kernel_rfl) (by kernel_rfl) (fun _ _ _ h => h) (Or.inl ⟨by rfl, fun w _ => by go_simp⟩) hw9 ?_
              simp only [Act.put, List.setIfInBounds_toArray, List.set_cons_zero, List.set_cons_succ]
              refine wpAnyH_done (by kernel_rfl) ?_ _
              have FZ : Hid (Blk W9 W2.heap.size (opLn l)) := hf9
              have F6 : Hid (Blk W9 (w.heap.size + 1 + 1) opNL) := M6.out.below hw9 M6.out.lt
              have FB : Hid (Below w.heap.size w W9) := B2.out.trans (hw9.mono B2.out.size)
              clear hf9 hw9 hlo
              go_wp2_with (first
                | (have g1 := FZ; clear g1; refine ld40g _ rfl W2.heap.size 0 rfl (opLn l) rfl FZ.out.range (by rfl) ?_)
                | (have g1 := FZ; clear g1; go_at_call 14; refine (may_line2 l fa ft hm _).mono ?_; rintro e Wa ⟨rfl, hba⟩; have Z2 : Hid (Blk Wa W2.heap.size (opLn l)) := FZ.out.below hba FZ.out.lt; have G6 : Hid (Blk Wa (w.heap.size + 1 + 1) opNL) := F6.out.below hba F6.out.lt; have GB : Hid (Below w.heap.size w Wa) := FB.out.trans (hba.mono FB.out.size); clear hba FZ F6 FB)
                | (have g1 := Z2; clear g1; refine ld40 _ rfl rfl W2.heap.size 0 rfl (opLn l) rfl Z2.out.range ?_)
                | (have g1 := G6; clear g1; refine stBlk _ _ rfl rfl _ rfl (opLn l) rfl rfl (opL_one _ _ _ _ _ _) opNL rfl G6.out ?_; intro Wb k2 ho2 hs2 hb2; have R6 : Hid (Blk Wb (w.heap.size + 1 + 1) (opLn l)) := k2; have RB : Hid (Below w.heap.size w Wb) := GB.out.trans (hb2.mono (by omega)); clear k2 ho2 hs2 hb2)
                | fail)
              all_goals refine bodyPost_ret (v := .tuple #[.agg (opLn l).toArray, .bool true]) ?_ rfl ⟨rfl, RB.out⟩
              all_goals exact res40two (p := 6) (q := 7) rfl rfl R6.out rfl rfl
            exact AllReadyH.nil
          exact AllReadyH.nil
        exact AllReadyH.nil
      refine AllReadyH.cons rfl (fun K hK => ?_) ?_
      · go_simp
        refine (fun (k : ∀ W, Below W2.heap.size W2 W ∧ Blk W W2.heap.size opNL → K _ W) => k _ ⟨(Below.refl _ _).alloc (Nat.le_refl _) _, Blk.new W2 opNL⟩) (fun W10 hj => ?_)
        obtain ⟨hb, hx⟩ := hj
        have hw10 : Below u2.heap.size u2 W10 := hw2.trans (hb.mono hw2.size)
        have hg10 : g2 < W10.heap.size ∧ W10.rangeAt g2 0 (opLn l) := ⟨Nat.lt_of_lt_of_le hg2.1 hb.size, range_below hg2.2 hb hg2.1⟩
        refine hK.out _ _ hw10 (fun _ => ?_)
        have hlo : u2.heap.size ≤ W2.heap.size := hw2.size
        have hz10 : Blk W10 W2.heap.size opNL := hx
        clear hb hK hw2 hg2 hx
        refine wpAnyH_ready (rs := [4]) (by kernel_rfl) (by simp) ?_
        refine AllReadyH.cons rfl (fun K hK => ?_) ?_
        · refine stepLd40 rfl (.tmp 23) rfl g2 0 rfl (opLn l) rfl hg10.2 ?_
          refine hK.out _ _ hw10 (fun _ => ?_)
          simp only [Act.put, List.setIfInBounds_toArray, List.set_cons_zero, List.set_cons_succ]
          clear hK
          refine wpAnyH_ready (rs := [7]) (by kernel_rfl) (by simp) ?_
          refine AllReadyH.cons rfl (fun K hK => ?_) ?_
          · go_simp
            refine (behind_line l r c p ks.length q pr W10).mono ?_
            rintro e W12 ⟨rfl, hb⟩
            have hw12 : Below u2.heap.size u2 W12 := hw10.trans (hb.mono hw10.size)
            have hg12 : g2 < W12.heap.size ∧ W12.rangeAt g2 0 (opLn l) := ⟨Nat.lt_of_lt_of_le hg10.1 hb.size, range_below hg10.2 hb hg10.1⟩
            have hz12 : Blk W12 W2.heap.size opNL := hz10.below hb hz10.lt
            refine hK.out _ _ hw12 (fun _ => ?_)
            clear hb hK hw10 hg10 hz10 hg12
            refine wpAnyH_take (i := 8) (v := .tuple #[.agg (opLn l).toArray, .bool true]) rfl (by kernel_rfl) (by kernel_rfl) (by kernel_rfl) (fun _ _ _ h => h) (Or.inl ⟨by rfl, fun w _ => by go_simp⟩) hw12 ?_
            simp only [Act.put, List.setIfInBounds_toArray, List.set_cons_zero, List.set_cons_succ]
            refine wpAnyH_take (i := 9) (v := (.agg (opLn l).toArray)) rfl (by kernel_rfl) (by kernel_rfl) (by kernel_rfl) (fun _ _ _ h => h) (Or.inl ⟨by rfl, fun w _ => by go_simp⟩) hw12 ?_
            simp only [Act.put, List.setIfInBounds_toArray, List.set_cons_zero, List.set_cons_succ]
            refine wpAnyH_take (i := 10) (v := .bool true) rfl (by kernel_rfl) (by kernel_rfl) (by kernel_rfl) (fun _ _ _ h => h) (Or.inl ⟨by rfl, fun w _ => by go_simp⟩) hw12 ?_
            simp only [Act.put, List.setIfInBounds_toArray, List.set_cons_zero, List.set_cons_succ]
            refine wpAnyH_ready (rs := [12]) (by kernel_rfl) (by simp) ?_
            refine AllReadyH.cons rfl (fun K hK => ?_) ?_
            · refine stepSt40 rfl (.tmp 8) (.tmp 28) rfl W2.heap.size rfl (opLn l) rfl rfl (opL_one _ _ _ _ _ _) opNL rfl hz12 ?_
              intro W13 k2 ho2 hs2 hb2
              have hw13 : Below u2.heap.size u2 W13 := hw12.trans (hb2.mono hlo)
              have hf13 : Blk W13 W2.heap.size (opLn l) := k2
              refine hK.out _ _ hw13 (fun _ => ?_)
              simp only [Act.put, List.setIfInBounds_toArray, List.set_cons_zero, List.set_cons_succ]
              clear hK k2 ho2 hs2 hb2 hz12
              refine wpAnyH_take (i := 13) (v := .bool true) rfl (by kernel_rfl) (by kernel_rfl) (by kernel_rfl) (fun _ _ _ h => h) (Or.inl ⟨by rfl, fun w _ => by go_simp⟩) hw13 ?_
              simp only [Act.put, List.setIfInBounds_toArray, List.set_cons_zero, List.set_cons_succ]
              refine wpAnyH_done (by kernel_rfl) ?_ _
              have FZ : Hid (Blk W13 W2.heap.size (opLn l)) := hf13
              have F6 : Hid (Blk W13 (w.heap.size + 1 + 1) opNL) := M6.out.below hw13 M6.out.lt
              have FB : Hid (Below w.heap.size w W13) := B2.out.trans (hw13.mono B2.out.size)
              clear hf13 hw13 hlo
              go_wp2_with (first
                | (have g1 := FZ; clear g1; refine ld40g _ rfl W2.heap.size 0 rfl (opLn l) rfl FZ.out.range (by rfl) ?_)
                | (have g1 := FZ; clear g1; go_at_call 14; refine (may_line2 l fa ft hm _).mono ?_; rintro e Wa ⟨rfl, hba⟩; have Z2 : Hid (Blk Wa W2.heap.size (opLn l)) := FZ.out.below hba FZ.out.lt; have G6 : Hid (Blk Wa (w.heap.size + 1 + 1) opNL) := F6.out.below hba F6.out.lt; have GB : Hid (Below w.heap.size w Wa) := FB.out.trans (hba.mono FB.out.size); clear hba FZ F6 FB)
                | (have g1 := Z2; clear g1; refine ld40 _ rfl rfl W2.heap.size 0 rfl (opLn l) rfl Z2.out.range ?_)
                | (have g1 := G6; clear g1; refine stBlk _ _ rfl rfl _ rfl (opLn l) rfl rfl (opL_one _ _ _ _ _ _) opNL rfl G6.out ?_; intro Wb k2 ho2 hs2 hb2; have R6 : Hid (Blk Wb (w.heap.size + 1 + 1) (opLn l)) := k2; have RB : Hid (Below w.heap.size w Wb) := GB.out.trans (hb2.mono (by omega)); clear k2 ho2 hs2 hb2)
                | fail)
              all_goals refine bodyPost_ret (v := .tuple #[.agg (opLn l).toArray, .bool true]) ?_ rfl ⟨rfl, RB.out⟩
              all_goals exact res40two (p := 6) (q := 7) rfl rfl R6.out rfl rfl
            exact AllReadyH.nil
          exact AllReadyH.nil
        exact AllReadyH.nil
      exact AllReadyH.nil
    refine AllReadyH.cons rfl (fun K hK => ?_) ?_
    · go_simp
      refine (fun (k : ∀ W, Below W1.heap.size W1 W ∧ Blk W W1.heap.size opNL → K _ W) => k _ ⟨(Below.refl _ _).alloc (Nat.le_refl _) _, Blk.new W1 opNL⟩) (fun W14 hj => ?_)
      obtain ⟨hb, hx⟩ := hj
      have hw14 : Below u2.heap.size u2 W14 := hw1.trans (hb.mono hw1.size)
      have hk14 : Blk W14 W0.heap.size (opLn l) := hk1.below hb hk1.lt
      refine hK.out _ _ hw14 (fun _ => ?_)
      have hlo : u2.heap.size ≤ W1.heap.size := hw1.size
      have hz14 : Blk W14 W1.heap.size opNL := hx
      clear hb hK hw1 hk1 hx
      refine wpAnyH_ready (rs := [2]) (by kernel_rfl) (by simp) ?_
      refine AllReadyH.cons rfl (fun K hK => ?_) ?_
      · go_simp
        refine (opClone_line l W0.heap.size 1 W14 hk14.lt hk14.range (Nat.le_refl _)).mono ?_
        rintro e W15 ⟨g2, c2, rfl, hcc, hgg, hrr, hb⟩
        have hw15 : Below u2.heap.size u2 W15 := hw14.trans (hb.mono hw14.size)
        have hk15 : Blk W15 W0.heap.size (opLn l) := hk14.below hb hk14.lt
        have hz15 : Blk W15 W1.heap.size opNL := hz14.below hb hz14.lt
        have hg15 : g2 < W15.heap.size ∧ W15.rangeAt g2 0 (opLn l) := ⟨hgg, hrr⟩
        refine hK.out _ _ hw15 (fun _ => ?_)
        clear hb hK hw14 hk14 hz14 hgg hrr hcc hk15
        refine wpAnyH_take (i := 3) (v := .pointer (some ⟨g2, 0, none⟩)) rfl (by kernel_rfl) (by kernel_rfl) (by kernel_rfl) (fun _ _ _ h => h) (Or.inl ⟨by rfl, fun w _ => by go_simp⟩) hw15 ?_
        simp only [Act.put, List.setIfInBounds_toArray, List.set_cons_zero, List.set_cons_succ]
        refine wpAnyH_ready (rs := [4]) (by kernel_rfl) (by simp) ?_
        refine AllReadyH.cons rfl (fun K hK => ?_) ?_
        · refine stepLd40 rfl (.tmp 23) rfl g2 0 rfl (opLn l) rfl hg15.2 ?_
          refine hK.out _ _ hw15 (fun _ => ?_)
          simp only [Act.put, List.setIfInBounds_toArray, List.set_cons_zero, List.set_cons_succ]
          clear hK
          refine wpAnyH_ready (rs := [7]) (by kernel_rfl) (by simp) ?_
          refine AllReadyH.cons rfl (fun K hK => ?_) ?_
          · go_simp
            refine (behind_line l r c p ks.length q pr W15).mono ?_
            rintro e W17 ⟨rfl, hb⟩
            have hw17 : Below u2.heap.size u2 W17 := hw15.trans (hb.mono hw15.size)
            have hz17 : Blk W17 W1.heap.size opNL := hz15.below hb hz15.lt
            have hg17 : g2 < W17.heap.size ∧ W17.rangeAt g2 0 (opLn l) := ⟨Nat.lt_of_lt_of_le hg15.1 hb.size, range_below hg15.2 hb hg15.1⟩
            refine hK.out _ _ hw17 (fun _ => ?_)
            clear hb hK hw15 hz15 hg15 hg17
            refine wpAnyH_take (i := 8) (v := .tuple #[.agg (opLn l).toArray, .bool true]) rfl (by kernel_rfl) (by kernel_rfl) (by kernel_rfl) (fun _ _ _ h => h) (Or.inl ⟨by rfl, fun w _ => by go_simp⟩) hw17 ?_
            simp only [Act.put, List.setIfInBounds_toArray, List.set_cons_zero, List.set_cons_succ]
            refine wpAnyH_take (i := 9) (v := (.agg (opLn l).toArray)) rfl (by kernel_rfl) (by kernel_rfl) (by kernel_rfl) (fun _ _ _ h => h) (Or.inl ⟨by rfl, fun w _ => by go_simp⟩) hw17 ?_
            simp only [Act.put, List.setIfInBounds_toArray, List.set_cons_zero, List.set_cons_succ]
            refine wpAnyH_take (i := 10) (v := .bool true) rfl (by kernel_rfl) (by kernel_rfl) (by kernel_rfl) (fun _ _ _ h => h) (Or.inl ⟨by rfl, fun w _ => by go_simp⟩) hw17 ?_
            simp only [Act.put, List.setIfInBounds_toArray, List.set_cons_zero, List.set_cons_succ]
            refine wpAnyH_ready (rs := [12]) (by kernel_rfl) (by simp) ?_
            refine AllReadyH.cons rfl (fun K hK => ?_) ?_
            · refine stepSt40 rfl (.tmp 8) (.tmp 28) rfl W1.heap.size rfl (opLn l) rfl rfl (opL_one _ _ _ _ _ _) opNL rfl hz17 ?_
              intro W18 k2 ho2 hs2 hb2
              have hw18 : Below u2.heap.size u2 W18 := hw17.trans (hb2.mono hlo)
              have hf18 : Blk W18 W1.heap.size (opLn l) := k2
              refine hK.out _ _ hw18 (fun _ => ?_)
              simp only [Act.put, List.setIfInBounds_toArray, List.set_cons_zero, List.set_cons_succ]
              clear hK k2 ho2 hs2 hb2 hz17
              refine wpAnyH_take (i := 13) (v := .bool true) rfl (by kernel_rfl) (by kernel_rfl) (by kernel_rfl) (fun _ _ _ h => h) (Or.inl ⟨by rfl, fun w _ => by go_simp⟩) hw18 ?_
              simp only [Act.put, List.setIfInBounds_toArray, List.set_cons_zero, List.set_cons_succ]
              refine wpAnyH_done (by kernel_rfl) ?_ _
              have FZ : Hid (Blk W18 W1.heap.size (opLn l)) := hf18
              have F6 : Hid (Blk W18 (w.heap.size + 1 + 1) opNL) := M6.out.below hw18 M6.out.lt
              have FB : Hid (Below w.heap.size w W18) := B2.out.trans (hw18.mono B2.out.size)
              clear hf18 hw18 hlo
              go_wp2_with (first
                | (have g1 := FZ; clear g1; refine ld40g _ rfl W1.heap.size 0 rfl (opLn l) rfl FZ.out.range (by rfl) ?_)
                | (have g1 := FZ; clear g1; go_at_call 14; refine (may_line2 l fa ft hm _).mono ?_; rintro e Wa ⟨rfl, hba⟩; have Z2 : Hid (Blk Wa W1.heap.size (opLn l)) := FZ.out.below hba FZ.out.lt; have G6 : Hid (Blk Wa (w.heap.size + 1 + 1) opNL) := F6.out.below hba F6.out.lt; have GB : Hid (Below w.heap.size w Wa) := FB.out.trans (hba.mono FB.out.size); clear hba FZ F6 FB)
                | (have g1 := Z2; clear g1; refine ld40 _ rfl rfl W1.heap.size 0 rfl (opLn l) rfl Z2.out.range ?_)
                | (have g1 := G6; clear g1; refine stBlk _ _ rfl rfl _ rfl (opLn l) rfl rfl (opL_one _ _ _ _ _ _) opNL rfl G6.out ?_; intro Wb k2 ho2 hs2 hb2; have R6 : Hid (Blk Wb (w.heap.size + 1 + 1) (opLn l)) := k2; have RB : Hid (Below w.heap.size w Wb) := GB.out.trans (hb2.mono (by omega)); clear k2 ho2 hs2 hb2)
                | fail)
              all_goals refine bodyPost_ret (v := .tuple #[.agg (opLn l).toArray, .bool true]) ?_ rfl ⟨rfl, RB.out⟩
              all_goals exact res40two (p := 6) (q := 7) rfl rfl R6.out rfl rfl
            exact AllReadyH.nil
          exact AllReadyH.nil
        exact AllReadyH.nil
      exact AllReadyH.nil
    exact AllReadyH.nil
  refine AllReadyH.cons rfl (fun K hK => ?_) ?_
  · go_simp
    refine (fun (k : ∀ W, Below W0.heap.size W0 W ∧ Blk W W0.heap.size opNL → K _ W) => k _ ⟨(Below.refl _ _).alloc (Nat.le_refl _) _, Blk.new W0 opNL⟩) (fun W19 hj => ?_)
    obtain ⟨hb, hx⟩ := hj
    have hw19 : Below u2.heap.size u2 W19 := hw0.trans (hb.mono hw0.size)
    refine hK.out _ _ hw19 (fun _ => ?_)
    have hlo : u2.heap.size ≤ W0.heap.size := hw0.size
    have hz19 : Blk W19 W0.heap.size opNL := hx
    clear hb hK hw0 hx
    refine wpAnyH_ready (rs := [1]) (by kernel_rfl) (by simp) ?_
    refine AllReadyH.cons rfl (fun K hK => ?_) ?_
    · go_simp
      refine (fun (k : ∀ W, Below W19.heap.size W19 W ∧ Blk W W19.heap.size (opLn l) → K _ W) => k _ ⟨(Below.refl _ _).alloc (Nat.le_refl _) _, Blk.new W19 (opLn l)⟩) (fun W20 hj => ?_)
      obtain ⟨hb, hx⟩ := hj
      have hw20 : Below u2.heap.size u2 W20 := hw19.trans (hb.mono hw19.size)
      have hz20 : Blk W20 W0.heap.size opNL := hz19.below hb hz19.lt
      refine hK.out _ _ hw20 (fun _ => ?_)
      have hk20 : Blk W20 W19.heap.size (opLn l) := hx
      clear hb hK hw19 hz19 hx
      refine wpAnyH_ready (rs := [2]) (by kernel_rfl) (by simp) ?_
      refine AllReadyH.cons rfl (fun K hK => ?_) ?_
      · go_simp
        refine (opClone_line l W19.heap.size 1 W20 hk20.lt hk20.range (Nat.le_refl _)).mono ?_
        rintro e W21 ⟨g2, c2, rfl, hcc, hgg, hrr, hb⟩
        have hw21 : Below u2.heap.size u2 W21 := hw20.trans (hb.mono hw20.size)
        have hz21 : Blk W21 W0.heap.size opNL := hz20.below hb hz20.lt
        have hk21 : Blk W21 W19.heap.size (opLn l) := hk20.below hb hk20.lt
        have hg21 : g2 < W21.heap.size ∧ W21.rangeAt g2 0 (opLn l) := ⟨hgg, hrr⟩
        refine hK.out _ _ hw21 (fun _ => ?_)
        clear hb hK hw20 hz20 hk20 hgg hrr hcc hk21
        refine wpAnyH_take (i := 3) (v := .pointer (some ⟨g2, 0, none⟩)) rfl (by kernel_rfl) (by kernel_rfl) (by kernel_rfl) (fun _ _ _ h => h) (Or.inl ⟨by rfl, fun w _ => by go_simp⟩) hw21 ?_
        simp only [Act.put, List.setIfInBounds_toArray, List.set_cons_zero, List.set_cons_succ]
        refine wpAnyH_ready (rs := [4]) (by kernel_rfl) (by simp) ?_
        refine AllReadyH.cons rfl (fun K hK => ?_) ?_
        · refine stepLd40 rfl (.tmp 23) rfl g2 0 rfl (opLn l) rfl hg21.2 ?_
          refine hK.out _ _ hw21 (fun _ => ?_)
          simp only [Act.put, List.setIfInBounds_toArray, List.set_cons_zero, List.set_cons_succ]
          clear hK
          refine wpAnyH_ready (rs := [7]) (by kernel_rfl) (by simp) ?_
          refine AllReadyH.cons rfl (fun K hK => ?_) ?_
          · go_simp
            refine (behind_line l r c p ks.length q pr W21).mono ?_
            rintro e W23 ⟨rfl, hb⟩
            have hw23 : Below u2.heap.size u2 W23 := hw21.trans (hb.mono hw21.size)
            have hz23 : Blk W23 W0.heap.size opNL := hz21.below hb hz21.lt
            have hg23 : g2 < W23.heap.size ∧ W23.rangeAt g2 0 (opLn l) := ⟨Nat.lt_of_lt_of_le hg21.1 hb.size, range_below hg21.2 hb hg21.1⟩
            refine hK.out _ _ hw23 (fun _ => ?_)
            clear hb hK hw21 hz21 hg21 hg23
            refine wpAnyH_take (i := 8) (v := .tuple #[.agg (opLn l).toArray, .bool true]) rfl (by kernel_rfl) (by kernel_rfl) (by kernel_rfl) (fun _ _ _ h => h) (Or.inl ⟨by rfl, fun w _ => by go_simp⟩) hw23 ?_
            simp only [Act.put, List.setIfInBounds_toArray, List.set_cons_zero, List.set_cons_succ]
            refine wpAnyH_take (i := 9) (v := (.agg (opLn l).toArray)) rfl (by kernel_rfl) (by kernel_rfl) (by kernel_rfl) (fun _ _ _ h => h) (Or.inl ⟨by rfl, fun w _ => by go_simp⟩) hw23 ?_
            simp only [Act.put, List.setIfInBounds_toArray, List.set_cons_zero, List.set_cons_succ]
            refine wpAnyH_take (i := 10) (v := .bool true) rfl (by kernel_rfl) (by kernel_rfl) (by kernel_rfl) (fun _ _ _ h => h) (Or.inl ⟨by rfl, fun w _ => by go_simp⟩) hw23 ?_
            simp only [Act.put, List.setIfInBounds_toArray, List.set_cons_zero, List.set_cons_succ]
            refine wpAnyH_ready (rs := [12]) (by kernel_rfl) (by simp) ?_
            refine AllReadyH.cons rfl (fun K hK => ?_) ?_
            · refine stepSt40 rfl (.tmp 8) (.tmp 28) rfl W0.heap.size rfl (opLn l) rfl rfl (opL_one _ _ _ _ _ _) opNL rfl hz23 ?_
              intro W24 k2 ho2 hs2 hb2
              have hw24 : Below u2.heap.size u2 W24 := hw23.trans (hb2.mono hlo)
              have hf24 : Blk W24 W0.heap.size (opLn l) := k2
              refine hK.out _ _ hw24 (fun _ => ?_)
              simp only [Act.put, List.setIfInBounds_toArray, List.set_cons_zero, List.set_cons_succ]
              clear hK k2 ho2 hs2 hb2 hz23
              refine wpAnyH_take (i := 13) (v := .bool true) rfl (by kernel_rfl) (by kernel_rfl) (by kernel_rfl) (fun _ _ _ h => h) (Or.inl ⟨by rfl, fun w _ => by go_simp⟩) hw24 ?_
              simp only [Act.put, List.setIfInBounds_toArray, List.set_cons_zero, List.set_cons_succ]
              refine wpAnyH_done (by kernel_rfl) ?_ _
              have FZ : Hid (Blk W24 W0.heap.size (opLn l)) := hf24
              have F6 : Hid (Blk W24 (w.heap.size + 1 + 1) opNL) := M6.out.below hw24 M6.out.lt
              have FB : Hid (Below w.heap.size w W24) := B2.out.trans (hw24.mono B2.out.size)
              clear hf24 hw24 hlo
              go_wp2_with (first
                | (have g1 := FZ; clear g1; refine ld40g _ rfl W0.heap.size 0 rfl (opLn l) rfl FZ.out.range (by rfl) ?_)
                | (have g1 := FZ; clear g1; go_at_call 14; refine (may_line2 l fa ft hm _).mono ?_; rintro e Wa ⟨rfl, hba⟩; have Z2 : Hid (Blk Wa W0.heap.size (opLn l)) := FZ.out.below hba FZ.out.lt; have G6 : Hid (Blk Wa (w.heap.size + 1 + 1) opNL) := F6.out.below hba F6.out.lt; have GB : Hid (Below w.heap.size w Wa) := FB.out.trans (hba.mono FB.out.size); clear hba FZ F6 FB)
                | (have g1 := Z2; clear g1; refine ld40 _ rfl rfl W0.heap.size 0 rfl (opLn l) rfl Z2.out.range ?_)
                | (have g1 := G6; clear g1; refine stBlk _ _ rfl rfl _ rfl (opLn l) rfl rfl (opL_one _ _ _ _ _ _) opNL rfl G6.out ?_; intro Wb k2 ho2 hs2 hb2; have R6 : Hid (Blk Wb (w.heap.size + 1 + 1) (opLn l)) := k2; have RB : Hid (Below w.heap.size w Wb) := GB.out.trans (hb2.mono (by omega)); clear k2 ho2 hs2 hb2)
                | fail)
              all_goals refine bodyPost_ret (v := .tuple #[.agg (opLn l).toArray, .bool true]) ?_ rfl ⟨rfl, RB.out⟩
              all_goals exact res40two (p := 6) (q := 7) rfl rfl R6.out rfl rfl
            exact AllReadyH.nil
          exact AllReadyH.nil
        exact AllReadyH.nil
      exact AllReadyH.nil
    exact AllReadyH.nil
  exact AllReadyH.nil
end Go.Proofs.YtglgibmjcgfecaaGreatDoor

