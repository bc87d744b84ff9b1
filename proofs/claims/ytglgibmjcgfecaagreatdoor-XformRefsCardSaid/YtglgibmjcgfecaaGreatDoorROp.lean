/- XformRefs, the walks: op.Clone of one operation. -/
import Derived.Test.YtglgibmjcgfecaaGreatDoorRMay
import Derived.Test.YtglgibmjcgfecaaGreatDoorXMay
set_option linter.unusedSimpArgs false
set_option linter.unusedVariables false
set_option linter.unusedSimpArgs false
set_option linter.unusedVariables false
namespace Go.Proofs.YtglgibmjcgfecaaGreatDoor
open Go Go.RowKit Go.Proofs Go.Xf Go.Sort

theorem own_one {w : World} {B : Nat} {v : Value} {cs : List Value} (h : w.ownsRow B 40 23 v 1 cs) : ∃ g c, v = .slice (some ⟨g, 0, none⟩) 1 c ∧ 1 ≤ c ∧ g < w.heap.size ∧ w.rangeAt g 0 cs := by
  rcases h.2 with ⟨_, hn⟩ | ⟨g, cap, cur, hv, hb, hg, hn, _, _, ht⟩
  · cases hn
  · refine ⟨g, cap, hv, hn, (Array.getElem?_eq_some_iff.1 hg).1, fun j u hj => ?_⟩
    have hl : j < 23 := by
      have h1 := (List.getElem?_eq_some_iff.1 hj).1
      have h2 := h.1
      omega
    rw [← ht, List.getElem?_take_of_lt (by omega)] at hj
    rw [blk_cell hg, Nat.zero_add]
    simpa using hj
theorem Blk.nilR {w : World} {g : Nat} {r c : Int} {vk : Value} (h : Blk w g (opF r c vk)) : Blk (w.setCell ⟨g, 20, none⟩ sN) g (opF r c vk) := h.set 20 sN
set_option maxRecDepth 100000 in
set_option maxHeartbeats 4000000 in
theorem opClone_set (r c : Int) (ks : List Kid) (vk : Value) (hn : ks.length ≤ 8) (ga ca N : Nat) (w : World) (hN : N ≤ w.heap.size) (hA : SumAt w N ks vk) (hg : ga < w.heap.size) (hr : w.rangeAt ga 0 (opF r c vk)) (hca : 1 ≤ ca) :
    Calls Tryz.prog 16 #[.slice (some ⟨ga, 0, none⟩) 1 ca] w fun e w' => ∃ g c' vk', e = .returned (.slice (some ⟨g, 0, none⟩) 1 c') ∧ 1 ≤ c' ∧ g < w'.heap.size ∧ w'.rangeAt g 0 (opF r c vk') ∧ Below w.heap.size w w' ∧ SumAt w' w'.heap.size ks vk' := by
  obtain ⟨i0, hi, hz0, hz1, hz2⟩ := info_parts Tryz.info40
  have HA : Hid (SumAt w N ks vk) := hA
  obtain ⟨p, q, rfl, _⟩ := hA
  have HR : Hid (w.rangeAt ga 0 (opF r c (.slice p ks.length q))) := hr
  clear hr
  go_enter Tryz.func16, Tryz.ntmps16
  go_wp2
  refine wp_loop_rounds 2 ?_
  rw [rounds_succ]
  go_wp2_with (first
    | (have g1 := HR; clear g1; refine ld40 _ rfl rfl ga 0 rfl (opF r c (.slice p ks.length q)) rfl HR.out ?_)
    | (have g1 := HR; clear g1; refine stLast _ _ rfl rfl w.heap.size rfl rfl (opF r c (.slice p ks.length q)) rfl rfl rfl (opF_one _ _ _ _ _) ?_; intro u1 k1 lo1 sz1; have K1 : Hid (Blk u1 w.heap.size (opF r c (.slice p ks.length q))) := k1; have B1 : Hid (Below w.heap.size w u1) := lo1; have A1 : Hid (SumAt u1 N ks (.slice p ks.length q)) := HA.out.move (fun b hb => lo1.block b (by omega)); have p20 : u1.cell? ⟨w.heap.size, 20, none⟩ = some sN := k1.range 20 _ rfl; clear k1 lo1 sz1 HR)
    | (go_at_call 28; refine (cloneRects0 _).mono ?_; rintro e u2 ⟨rfl, hb2⟩; have K2 : Hid (Blk u2 w.heap.size (opF r c (.slice p ks.length q))) := K1.out.below hb2 K1.out.lt; have B2 : Hid (Below w.heap.size w u2) := B1.out.trans (hb2.mono B1.out.size); have A2 : Hid (SumAt u2 N ks (.slice p ks.length q)) := A1.out.move (fun b hb => hb2.block b (by have := K1.out.lt; omega)); have p20 : u2.cell? ⟨w.heap.size, 20, none⟩ = some sN := K2.out.range 20 _ rfl; have f20 := K2.out.frozen 20; clear hb2 K1 B1 A1)
    | (have g1 := K2; clear g1; refine ld35 _ rfl rfl w.heap.size 10 rfl (exF (.slice p ks.length q)) rfl (K2.out.nilR.expr) ?_)
    | (go_at_call 29; refine (clone_sum ks (.slice p ks.length q) hn N _ (Nat.le_trans hN (B2.out.setCell (Nat.le_refl _) _).size) (A2.out.move (fun b hb => set_heap_ne _ _ _ _ _ (by omega)))).mono ?_; rintro e u3 ⟨vk', rfl, hb3, ho3⟩; have K3 : Hid (Blk u3 w.heap.size (opF r c (.slice p ks.length q))) := K2.out.nilR.below hb3 K2.out.nilR.lt; have B3 : Hid (Below w.heap.size w u3) := (B2.out.setCell (Nat.le_refl _) _).trans (hb3.mono (B2.out.setCell (Nat.le_refl _) _).size); have A3 : Hid (SumAt u3 u3.heap.size ks vk') := ho3.at; clear hb3 ho3 K2 B2 A2 p20 f20)
    | (have g1 := K3; clear g1; refine st35o _ _ rfl rfl w.heap.size 10 rfl (exF vk') rfl rfl (K3.out.there 10 7 (by simp)) (sum_one A3.out) ?_; intro u4 hu4; have K4 : Hid (Blk u4 w.heap.size (opF r c vk')) := (by rw [hu4]; exact K3.out.tree vk'); have B4 : Hid (Below w.heap.size w u4) := (by rw [hu4]; exact below_setCells B3.out (Nat.le_refl _) _ _); have A4 : Hid (SumAt u4 u4.heap.size ks vk') := (by rw [hu4, setCells_size]; exact sum_apart2 A3.out (K3.out.range 0 _ rfl) (by decide) (fun k hk => setCells_ne _ _ _ _ _ hk)); clear hu4 K3 B3 A3)
    | (have g1 := K4; clear g1; refine ld40 _ rfl rfl _ _ rfl (opF r c vk') rfl K4.out.range ?_)
    | (have g1 := K4; clear g1; at_builtin; refine wpList_append_own _ rfl (.tmp 22) (.tmp 24) 25 rfl w.heap.size 40 i0 opN 23 264 Tryz.underlying25 hi hz0 hz1 hz2 rfl (by decide) (.slice none 0 0) 0 [] rfl (World.ownsRow_nil _ _ _ _) ⟨u4.heap.size, 0, none⟩ 1 1 (opF r c vk') rfl rfl (fun j x hj => by rw [Addr.add_mid]; exact range_laid u4 (opF r c vk') 40 j x hj) (sumF_one A4.out) (by unfold maxLen; omega) (by omega) (by have := B4.out.size; simp; omega) ?_; intro v5 u5 ho5 hg5 _; have O5 : Hid (u5.ownsRow w.heap.size 40 23 v5 1 (opF r c vk')) := ho5; have B5 : Hid (Below w.heap.size w u5) := (B4.out.alloc B4.out.size _).grown hg5 (by have := B4.out.size; simp; omega) (fun k hk => by simp [Value.ownBlock] at hk); have A5 : Hid (SumAt u5 u5.heap.size ks vk') := (A4.out.move (w' := u5) (fun b hb => ((((Below.refl u4.heap.size u4).alloc (Nat.le_refl _) _).grown hg5 (by simp) (fun k hk => by simp [Value.ownBlock] at hk)).block b hb))).grow ((((Below.refl u4.heap.size u4).alloc (Nat.le_refl _) _).grown hg5 (by simp) (fun k hk => by simp [Value.ownBlock] at hk)).size); clear ho5 hg5)
    | fail)
  rw [rounds_succ]
  go_wp2
  go_ret
  obtain ⟨g, cap, rfl, hc1, hgl, hrr⟩ := own_one O5.out
  exact ⟨g, cap, vk', rfl, hc1, hgl, hrr, B5.out, A5.out⟩
end Go.Proofs.YtglgibmjcgfecaaGreatDoor

set_option linter.unusedSimpArgs false
set_option linter.unusedVariables false
namespace Go.Proofs.YtglgibmjcgfecaaGreatDoor
open Go Go.RowKit Go.Proofs Go.Xf Go.Sort

theorem Blk.nilL {w : World} {g : Nat} {l : Ln} (h : Blk w g (opLn l)) : Blk (w.setCell ⟨g, 20, none⟩ sN) g (opLn l) := h.set 20 sN
theorem Blk.treeL {w : World} {g : Nat} {l : Ln} (h : Blk w g (opLn l)) : Blk (w.setCells g 10 exZ) g (opLn l) := Blk.sets exZ 10 _ _ h
theorem exZ_in (l : Ln) : ∀ j v, exZ[j]? = some v → (opLn l)[10 + j]? = some v := fun j v hj => by
  have hl : j < 7 := by have := (List.getElem?_eq_some_iff.1 hj).1; simpa using this
  match j, hl with
  | 0, _ => exact hj
  | 1, _ => exact hj
  | 2, _ => exact hj
  | 3, _ => exact hj
  | 4, _ => exact hj
  | 5, _ => exact hj
  | 6, _ => exact hj
theorem Blk.exprL {w : World} {g : Nat} {l : Ln} (h : Blk w g (opLn l)) : w.rangeAt g 10 exZ := h.sub (exZ_in l)
theorem exZ_one : ∀ v ∈ exZ, v.oneCell' = true := List.all_eq_true.1 (show exZ.all (·.oneCell') = true from rfl)

set_option maxRecDepth 100000 in
set_option maxHeartbeats 4000000 in
theorem opClone_line (l : Ln) (ga ca : Nat) (w : World) (hg : ga < w.heap.size) (hr : w.rangeAt ga 0 (opLn l)) (hca : 1 ≤ ca) :
    Calls Tryz.prog 16 #[.slice (some ⟨ga, 0, none⟩) 1 ca] w fun e w' => ∃ g c', e = .returned (.slice (some ⟨g, 0, none⟩) 1 c') ∧ 1 ≤ c' ∧ g < w'.heap.size ∧ w'.rangeAt g 0 (opLn l) ∧ Below w.heap.size w w' := by
  obtain ⟨i0, hi, hz0, hz1, hz2⟩ := info_parts Tryz.info40
  have HR : Hid (w.rangeAt ga 0 (opLn l)) := hr
  clear hr
  go_enter Tryz.func16, Tryz.ntmps16
  go_wp2
  refine wp_loop_rounds 2 ?_
  rw [rounds_succ]
  go_wp2_with (first
    | (have g1 := HR; clear g1; refine ld40 _ rfl rfl ga 0 rfl (opLn l) rfl HR.out ?_)
    | (have g1 := HR; clear g1; refine stLast _ _ rfl rfl w.heap.size rfl rfl (opLn l) rfl rfl rfl (opL_one _ _ _ _ _ _) ?_; intro u1 k1 lo1 sz1; have K1 : Hid (Blk u1 w.heap.size (opLn l)) := k1; have B1 : Hid (Below w.heap.size w u1) := lo1; have p20 : u1.cell? ⟨w.heap.size, 20, none⟩ = some sN := k1.range 20 _ rfl; clear k1 lo1 sz1 HR)
    | (go_at_call 28; refine (cloneRects0 _).mono ?_; rintro e u2 ⟨rfl, hb2⟩; have K2 : Hid (Blk u2 w.heap.size (opLn l)) := K1.out.below hb2 K1.out.lt; have B2 : Hid (Below w.heap.size w u2) := B1.out.trans (hb2.mono B1.out.size); have p20 : u2.cell? ⟨w.heap.size, 20, none⟩ = some sN := K2.out.range 20 _ rfl; have f20 := K2.out.frozen 20; clear hb2 K1 B1)
    | (have g1 := K2; clear g1; refine ld35 _ rfl rfl w.heap.size 10 rfl exZ rfl (K2.out.nilL.exprL) ?_)
    | (go_at_call 29; refine (cloneExpr0 _).mono ?_; rintro e u3 ⟨rfl, hb3⟩; have K3 : Hid (Blk u3 w.heap.size (opLn l)) := K2.out.nilL.below hb3 K2.out.nilL.lt; have B3 : Hid (Below w.heap.size w u3) := (B2.out.setCell (Nat.le_refl _) _).trans (hb3.mono (B2.out.setCell (Nat.le_refl _) _).size); clear hb3 K2 B2 p20 f20)
    | (have g1 := K3; clear g1; refine st35o _ _ rfl rfl w.heap.size 10 rfl exZ rfl rfl (K3.out.there 10 7 (by simp)) exZ_one ?_; intro u4 hu4; have K4 : Hid (Blk u4 w.heap.size (opLn l)) := (by rw [hu4]; exact K3.out.treeL); have B4 : Hid (Below w.heap.size w u4) := (by rw [hu4]; exact below_setCells B3.out (Nat.le_refl _) _ _); clear hu4 K3 B3)
    | (have g1 := K4; clear g1; refine ld40 _ rfl rfl _ _ rfl (opLn l) rfl K4.out.range ?_)
    | (have g1 := K4; clear g1; at_builtin; refine wpList_append_own _ rfl (.tmp 22) (.tmp 24) 25 rfl w.heap.size 40 i0 opN 23 264 Tryz.underlying25 hi hz0 hz1 hz2 rfl (by decide) (.slice none 0 0) 0 [] rfl (World.ownsRow_nil _ _ _ _) ⟨u4.heap.size, 0, none⟩ 1 1 (opLn l) rfl rfl (fun j x hj => by rw [Addr.add_mid]; exact range_laid u4 (opLn l) 40 j x hj) (opL_one _ _ _ _ _ _) (by unfold maxLen; omega) (by omega) (by have := B4.out.size; simp; omega) ?_; intro v5 u5 ho5 hg5 _; have O5 : Hid (u5.ownsRow w.heap.size 40 23 v5 1 (opLn l)) := ho5; have B5 : Hid (Below w.heap.size w u5) := (B4.out.alloc B4.out.size _).grown hg5 (by have := B4.out.size; simp; omega) (fun k hk => by simp [Value.ownBlock] at hk); clear ho5 hg5)
    | fail)
  rw [rounds_succ]
  go_wp2
  go_ret
  obtain ⟨g, cap, rfl, hc1, hgl, hrr⟩ := own_one O5.out
  exact ⟨g, cap, rfl, hc1, hgl, hrr, B5.out⟩
end Go.Proofs.YtglgibmjcgfecaaGreatDoor

set_option linter.unusedSimpArgs false
set_option linter.unusedVariables false
namespace Go.Proofs.YtglgibmjcgfecaaGreatDoor
open Go Go.RowKit Go.Proofs Go.Xf Go.Sort

theorem stepLd40 {ops : Array Oper} {o : Oper} {a : Act} {w : World} {K : Act → World → Prop} {Q : Exit → Act → World → Prop} {E : Prop} (hg : o.guard = none) (x : Operand) (ho : o.op = .load 40 x)
    (b off : Nat) (hx : a.eval x = .pointer (some ⟨b, off, none⟩)) (cs : List Value) (hl : cs.length = 23) (hc : w.rangeAt b off cs) (h : K (a.put o.dst (.agg cs.toArray)) w) :
    if Region.wanted o (yielded ops a.tmps) = true then Oper.wp Tryz.prog o a w K Q else E := by
  have hw : Region.wanted o (yielded ops a.tmps) = true := by simp [Region.wanted, hg]
  rw [if_pos hw]
  exact wp_load_mid 40 x ho b off hx cs _ hc Tryz.underlying40 rfl (by rw [hl]; exact info40) h

theorem stepSt40 {ops : Array Oper} {o : Oper} {a : Act} {w : World} {K : Act → World → Prop} {Q : Exit → Act → World → Prop} {E : Prop} (hg : o.guard = none) (x y : Operand) (ho : o.op = .store 40 x y)
    (g : Nat) (hx : a.eval x = .pointer (some ⟨g, 0, none⟩)) (cs : List Value) (hy : a.eval y = .agg cs.toArray) (hl : cs.length = 23) (h1 : ∀ v ∈ cs, v.oneCell' = true) (old : List Value) (hold : old.length = 23) (hb : Blk w g old)
    (h : ∀ w2, Blk w2 g cs → (∀ k, k ≠ g → w2.heap[k]? = w.heap[k]?) → w2.heap.size = w.heap.size → Below g w w2 → K (a.put o.dst undef) w2) :
    if Region.wanted o (yielded ops a.tmps) = true then Oper.wp Tryz.prog o a w K Q else E := by
  have hw : Region.wanted o (yielded ops a.tmps) = true := by simp [Region.wanted, hg]
  rw [if_pos hw]
  refine wp_store_row 40 x y ho g cs.toArray hx hy 40 old.toArray hb (by simpa [hl] using Go.Proofs.YtglgibmjcgfecaaGreatDoor.info40) (by simp [hl, hold]) (all_oneCell_toArray h1) (h _ ?_ ?_ ?_ ?_)
  · exact setRow_heap w g _ _ 40 _ hb
  · intro k hk
    simp only [World.setRow, Array.getElem?_modify]
    rw [if_neg (fun e => hk e.symm)]
  · simp [World.setRow]
  · refine ⟨rfl, rfl, rfl, by simp [World.setRow], fun k hk => ?_⟩
    simp only [World.setRow, Array.getElem?_modify]
    rw [if_neg (by omega)]
end Go.Proofs.YtglgibmjcgfecaaGreatDoor

