/- xform.Batches, of one operation that sets an empty cell, behind some on lines. -/
import Derived.Test.YtglgibmjcgfecaaGreatDoorXOps
set_option linter.unusedSimpArgs false
set_option linter.unusedVariables false
set_option linter.unusedSimpArgs false
set_option linter.unusedVariables false
namespace Go.Proofs.YtglgibmjcgfecaaGreatDoor
open Go Go.RowKit Go.Proofs Go.Xf

def GoodB (b : Bool × Ln) : Prop := MayL b.2 ∧ Fits b.2.k
theorem GoodB.a {b : Bool × Ln} (h : GoodB b) : Fits b.2.a := ⟨by have := h.1.1; omega, by have := h.1.2.1; omega⟩
theorem GoodB.t {b : Bool × Ln} (h : GoodB b) : Fits b.2.t := ⟨by have := h.1.2.2.1; omega, by have := h.1.2.2.2.1; omega⟩

theorem op_on (b : Bool × Ln) (p : Int × Int) (hp : On p) (hg : GoodB b) (hon : On (Xf.step b p)) (w : World) :
    Calls Tryz.prog 10 #[.agg (opS p).toArray, .agg (opO b).toArray, .bool false] w fun e w' => e = .returned (.tuple #[.agg (opS (Xf.step b p)).toArray, .bool true]) ∧ Below w.heap.size w w' := by
  have ha := hg.a
  have ht := hg.t
  obtain ⟨rows, l⟩ := b
  obtain ⟨r, c⟩ := p
  unfold Xf.step at hon ⊢
  rw [if_pos hp] at hon ⊢
  cases rows with
  | true => exact op_set2 r c l ⟨hp.1, hp.2.2.1⟩ ⟨hp.2.1, hp.2.2.2⟩ hg.2 ha ht hg.1 ⟨hon.1, hon.2.2.1⟩ w
  | false => exact op_set3 r c l ⟨hp.1, hp.2.2.1⟩ ⟨hp.2.1, hp.2.2.2⟩ hg.2 ha ht hg.1 ⟨hon.2.1, hon.2.2.2⟩ w
theorem op_off (b : Bool × Ln) (p : Int × Int) (hp : On p) (hg : GoodB b) (hon : ¬ On (Xf.step b p)) (w : World) :
    Calls Tryz.prog 10 #[.agg (opS p).toArray, .agg (opO b).toArray, .bool false] w fun e w' => e = .returned (.tuple #[.agg opNL.toArray, .bool false]) ∧ Below w.heap.size w w' := by
  have ha := hg.a
  have ht := hg.t
  obtain ⟨rows, l⟩ := b
  obtain ⟨r, c⟩ := p
  unfold Xf.step at hon
  rw [if_pos hp] at hon
  cases rows with
  | true => exact op_gone2 r c l ⟨hp.1, hp.2.2.1⟩ ⟨hp.2.1, hp.2.2.2⟩ hg.2 ha ht hg.1 (fun h => hon ⟨h.1, hp.2.1, h.2, hp.2.2.2⟩) w
  | false => exact op_gone3 r c l ⟨hp.1, hp.2.2.1⟩ ⟨hp.2.1, hp.2.2.2⟩ hg.2 ha ht hg.1 (fun h => hon ⟨hp.1, h.1, hp.2.2.1, h.2⟩) w
theorem op_back (b : Bool × Ln) (p : Int × Int) (hp : On p) (hg : GoodB b) (w : World) :
    Calls Tryz.prog 10 #[.agg (opO b).toArray, .agg (opS p).toArray, .bool true] w fun e w' => e = .returned (.tuple #[.agg (opO b).toArray, .bool true]) ∧ Below w.heap.size w w' := by
  have ha := hg.a
  have ht := hg.t
  obtain ⟨rows, l⟩ := b
  obtain ⟨r, c⟩ := p
  cases rows with
  | true => exact op_line2 r c l ⟨hp.1, hp.2.2.1⟩ ⟨hp.2.1, hp.2.2.2⟩ hg.2 ha ht hg.1 w
  | false => exact op_line3 r c l ⟨hp.1, hp.2.2.1⟩ ⟨hp.2.1, hp.2.2.2⟩ hg.2 ha ht hg.1 w

theorem shapeO {w : World} {B : Nat} {v : Value} {n : Nat} {xs : List Value} (h : w.ownsRow B 40 23 v n xs) (h0 : 0 < n) : ∃ g c, v = .slice (some ⟨g, 0, none⟩) n c ∧ n ≤ c ∧ B ≤ g ∧ g < w.heap.size ∧ ∀ j u, xs[j]? = some u → w.cell? ⟨g, 0 + j, none⟩ = some u := by
  rcases h.2 with ⟨hv, hn⟩ | ⟨g, cap, cur, hv, hb, hg, hn, _⟩
  · omega
  · refine ⟨g, cap, hv, hn, hb, (Array.getElem?_eq_some_iff.1 hg).1, fun j u hj => ?_⟩
    have := h.cells (g := g) (by rw [hv]; rfl) j u hj
    rw [Addr.add_mid] at this
    exact this
theorem shapeO_any {w : World} {B : Nat} {v : Value} {n : Nat} {xs : List Value} (h : w.ownsRow B 40 23 v n xs) : ∃ p c, v = .slice p n c := by
  rcases h.2 with ⟨hv, hn⟩ | ⟨g, cap, cur, hv, _⟩
  · exact ⟨_, _, by rw [hv, hn]⟩
  · exact ⟨_, _, hv⟩
theorem rows_of {w : World} {g : Nat} {os : List (Bool × Ln)} (h : ∀ j u, (cellsO os)[j]? = some u → w.cell? ⟨g, 0 + j, none⟩ = some u) : ∀ j, j < os.length → w.rangeAt g (j * 23) (opO os[j]!) := by
  intro j hj t v ht
  have h23 : t < 23 := by have := (List.getElem?_eq_some_iff.1 ht).1; simpa using this
  have := h (j * 23 + t) v (by rw [cellsO_get os j t hj h23]; exact ht)
  rw [Nat.zero_add] at this
  exact this

set_option maxRecDepth 100000 in
set_option maxHeartbeats 4000000 in
theorem batches_w (os : List (Bool × Ln)) (p : Int × Int) (hp : On p) (hl : os.length ≤ 8) (h0 : 0 < os.length) (hgood : ∀ b ∈ os, GoodB b) (ga ca g0 c0 : Nat) (w : World) (hA : w.rangeAt ga 0 (opS p)) (hal : ga < w.heap.size) (hca : 1 ≤ ca)
    (hrow : ∀ j u, (cellsO os)[j]? = some u → w.cell? ((⟨g0, 0, none⟩ : Addr).add j) = some u) (hg0 : g0 < w.heap.size) (hc0 : os.length ≤ c0) :
    Calls Tryz.prog 8 #[.slice (some ⟨ga, 0, none⟩) 1 ca, .slice (some ⟨g0, 0, none⟩) os.length c0, .bool false] w fun e w' => ∃ vo q1 q2, e = .returned (.tuple #[vo, .slice q1 os.length q2]) ∧ Below w.heap.size w w' ∧
      (On (steps os p) → ∃ g c, vo = .slice (some ⟨g, 0, none⟩) 1 c ∧ 1 ≤ c ∧ w'.rangeAt g 0 (opS (steps os p))) ∧ (¬ On (steps os p) → ∃ q c, vo = .slice q 0 c) := by
  obtain ⟨i0, hi, hz0, hz1, hz2⟩ := info_parts Tryz.info40
  obtain ⟨n, hn⟩ : ∃ n, n = os.length := ⟨_, rfl⟩
  have HN : Hid (n = os.length) := hn
  have HROW : Hid (∀ j u, (cellsO os)[j]? = some u → w.cell? ((⟨g0, 0, none⟩ : Addr).add j) = some u) := hrow
  have HA : Hid (w.rangeAt ga 0 (opS p)) := hA
  rw [← hn] at hl h0 hc0 ⊢
  clear hn hrow hA
  have hfO := fold_O
  have hfS := fold_S
  go_enter Tryz.func8, Tryz.ntmps8
  go_wp2_with (first
    | (at_builtin; refine wpList_append_own _ rfl (.const (.slice none 0 0)) (.tmp 17) 25 rfl w.heap.size 40 i0 opN 23 264 Tryz.underlying25 hi hz0 hz1 hz2 rfl (by decide) (.slice none 0 0) 0 [] rfl (World.ownsRow_nil _ _ _ _) ⟨g0, 0, none⟩ n c0 (cellsO os) rfl (by rw [cellsO_len, HN.out]) HROW.out (cellsO_one _) (by unfold maxLen; omega) (by omega) (Nat.le_refl _) ?_; intro v1 w1 ho1 hg1 _)
    | fail)
  rw [Nat.zero_add, List.nil_append] at ho1
  have HB1 : Hid (Below w.heap.size w w1) := (Below.refl _ _).grown hg1 (Nat.le_refl _) (fun k hk => by simp [Value.ownBlock] at hk)
  obtain ⟨g1, c1, rfl, hc1, hg1w, hg1s, hx1⟩ := shapeO ho1 h0
  have HR1 : Hid (∀ j, j < n → w1.rangeAt g1 (j * 23) (opO os[j]!)) := by rw [HN.out]; exact rows_of hx1
  have HA1 : Hid (w1.rangeAt ga 0 (opS p)) := range_below HA.out HB1.out hal
  clear ho1 hg1 hx1
  go_wp2
  go_loopw [1, 8, 21] (fun v1' v8 v21 wr => (v21 = .int .i64 0 ∧ v8 = .slice none 0 0 ∧ v1' = .slice (some ⟨g1, 0, none⟩) n c1 ∧ wr = w1) ∨
    (v21 = .int .i64 1 ∧ (∃ q1 q2, v1' = .slice q1 n q2) ∧ Hid (Below w.heap.size w wr) ∧ Hid ((On (steps os p) → ∃ g c, v8 = .slice (some ⟨g, 0, none⟩) 1 c ∧ 1 ≤ c ∧ wr.rangeAt g 0 (opS (steps os p))) ∧ (¬ On (steps os p) → ∃ q c, v8 = .slice q 0 c)))) (fun _ _ v21 _ => 1 - (intOf v21).toNat)
  case atStart => exact .inl ⟨rfl, rfl, rfl, rfl⟩
  case round =>
    rcases hrel with ⟨rfl, rfl, rfl, rfl⟩ | ⟨rfl, ⟨q1, q2, rfl⟩, HBf, HF⟩
    · go_wp2_with (first
        | (refine ld40 _ rfl rfl _ _ rfl _ rfl HA1.out ?_)
        | (refine stLast _ _ rfl rfl _ rfl rfl (opS p) rfl rfl rfl (opS_one p) ?_; intro w2 hb2 hlo2 hs2)
        | fail)
      have HS0 : Hid (Stt w g1 wr.heap.size (wr.heap.size + 1) n os w2 (opS p) (.slice none 0 0) 0) :=
        ⟨by omega, Nat.lt_succ_self _, by omega, HB1.out.size, Nat.le_succ_of_le HB1.out.size, HB1.out.trans (hlo2.mono HB1.out.size), by rw [hs2]; exact Nat.le_refl _, fun j hj => range_block (HR1.out j hj) (hlo2.block _ hg1s), hb2, ⟨[], World.ownsRow_nil _ _ _ _⟩⟩
      obtain ⟨gx, hgx⟩ : ∃ gx, gx = wr.heap.size := ⟨_, rfl⟩
      rw [← hgx] at HS0 ⊢
      clear hb2 hlo2 hs2 HR1 HA1 hgx
      go_loopw [11, 12, 27] (fun v11 v12 v27 u => ∃ k, k ≤ n ∧ v27 = .int .i64 (k : Nat) ∧ v12 = .bool (decide (On (steps (os.take k) p))) ∧ Hid (∃ cs, Stt w g1 gx (gx + 1) n os u cs v11 k ∧ cs.length = 23 ∧ (On (steps (os.take k) p) → cs = opS (steps (os.take k) p)))) (fun _ _ v27 _ => n - (intOf v27).toNat)
      case atStart => exact ⟨0, Nat.zero_le _, rfl, by rw [show steps (os.take 0) p = p from rfl, decide_eq_true hp], ⟨_, HS0.out, rfl, fun _ => rfl⟩⟩
      case round =>
        obtain ⟨k, hk, rfl, rfl, HC⟩ := hrel
        obtain ⟨q, hq⟩ : ∃ q, q = steps (os.take k) p := ⟨_, rfl⟩
        rw [← hq] at HC ⊢
        have HQ : Hid (q = steps (os.take k) p) := hq
        clear hq
        obtain ⟨cs, hcs, hcl, hcq⟩ := HC.out
        clear HC HS0
        by_cases hlt : k < n
        · obtain ⟨b, hb⟩ : ∃ b, b = os[k]! := ⟨_, rfl⟩
          have hkl : k < os.length := HN.out ▸ hlt
          have hbm : b ∈ os := by rw [hb, getElem!_pos os k hkl]; exact List.getElem_mem hkl
          have hgb : GoodB b := hgood b hbm
          have HST : Hid (steps (os.take (k + 1)) p = Xf.step b q) := by
            show _ = _
            rw [List.take_succ_eq_append_getElem hkl, steps_snoc, ← HQ.out, hb, getElem!_pos os k hkl]
          have HE : Hid (wr.rangeAt g1 (k * 23) (opO b)) := by rw [hb]; exact hcs.elem hlt
          clear hb hbm
          by_cases hon : On q
          · have hcs' := hcq hon
            subst hcs'
            have HS : Hid (Stt w g1 gx (gx + 1) n os wr (opS q) u11 k) := hcs
            clear hcs hcq hcl
            rw [decide_eq_true hon]
            by_cases hst : On (Xf.step b q)
            · go_wp2_with (first
                | (refine ld40 _ rfl rfl _ _ rfl _ rfl HE.out ?_)
                | (refine ld40 _ rfl rfl _ _ rfl _ rfl Y2.out.range ?_)
                | (refine ld40 _ rfl rfl _ _ rfl _ rfl S2.out.blk.range ?_)
                | (refine ld40 _ rfl rfl _ _ rfl _ rfl Y4.out.range ?_)
                | (refine ld40 _ rfl rfl _ _ rfl _ rfl S4.out.blk.range ?_)
                | (refine ld40 _ rfl rfl _ _ rfl _ rfl Z6.out.range ?_)
                | (have g0 := HS; clear g0; refine stLast _ _ rfl rfl _ rfl rfl (opO b) rfl rfl rfl (opO_one b) ?_; intro u2 by2 lo2 sz2; have S2 : Hid (Stt w g1 gx (gx + 1) n os u2 (opS q) u11 k) := HS.out.last rfl lo2; have Y2 : Hid (Blk u2 wr.heap.size (opO b)) := by2; clear HS HE by2 lo2 sz2)
                | (have g2 := S2; clear g2; go_at_call 10; refine (op_back b q hon hgb _).mono ?_; rintro e u3 ⟨rfl, hb3⟩; have S3 : Hid (Stt w g1 gx (gx + 1) n os u3 (opS q) u11 k) := S2.out.fresh hb3; have Y3 : Hid (Blk u3 wr.heap.size (opO b)) := Y2.out.below hb3 Y2.out.lt; clear S2 Y2 hb3)
                | (have g3 := S3; clear g3; refine stLast _ _ rfl rfl _ rfl rfl (opO b) rfl rfl rfl (opO_one b) ?_; intro u4 by4 lo4 sz4; have S4 : Hid (Stt w g1 gx (gx + 1) n os u4 (opS q) u11 k) := S3.out.last rfl lo4; have Y4 : Hid (Blk u4 wr.heap.size (opO b)) := Y3.out.below lo4 Y3.out.lt; have Z4 : Hid (Blk u4 u3.heap.size (opO b)) := by4; have N4 : Hid (gx < u3.heap.size) := S3.out.size; clear S3 Y3 by4 lo4 sz4)
                | (have g4 := S4; clear g4; go_at_call 10; refine (op_on b q hon hgb hst _).mono ?_; rintro e u5 ⟨rfl, hb5⟩; have S5 : Hid (Stt w g1 gx (gx + 1) n os u5 (opS q) u11 k) := S4.out.fresh hb5; have Z5 : Hid (Blk u5 u3.heap.size (opO b)) := Z4.out.below hb5 Z4.out.lt; clear S4 Y4 Z4 hb5)
                | (have g5 := S5; clear g5; refine stBlk _ _ rfl rfl _ rfl (opS (Xf.step b q)) rfl rfl (opS_one _) (opS q) rfl S5.out.blk ?_; intro u6 bx6 ho6 sz6 lo6; have S6 : Hid (Stt w g1 gx (gx + 1) n os u6 (opS (Xf.step b q)) u11 k) := S5.out.put bx6 ho6 sz6 lo6; have Z6 : Hid (Blk u6 u3.heap.size (opO b)) := (ho6 _ (Nat.ne_of_gt N4.out)).trans Z5.out; clear S5 Z5 bx6 ho6 sz6 lo6)
                | (have g6 := S6; clear g6; at_builtin; obtain ⟨xs6, hx6⟩ := S6.out.rest; refine wpList_append_own _ rfl (.tmp 53) (.tmp 55) 25 rfl (gx + 1) 40 i0 opN 23 264 Tryz.underlying25 hi hz0 hz1 hz2 rfl (by decide) u11 k xs6 rfl (hx6.alloc _) ⟨u6.heap.size, 0, none⟩ 1 1 (opO b) rfl rfl (fun j x hj => by rw [Addr.add_mid]; exact range_laid u6 (opO b) 40 j x hj) (opO_one b) (by unfold maxLen; omega) (by omega) (by have := S6.out.size; simp; omega) ?_; intro v7 u7 ho7 hg7 _; have S7 : Hid (Stt w g1 gx (gx + 1) n os u7 (opS (Xf.step b q)) v7 (k + 1)) := (S6.out.fresh ((Below.refl _ _).alloc (Nat.le_refl _) _)).app ho7 (hx6.alloc _) hg7; clear hx6 ho7 hg7 S6 Z6)
                | fail)
              go_roundw
              case rel => exact ⟨k + 1, by omega, by go_num, by rw [HST.out, decide_eq_true hst], ⟨_, S7.out, rfl, fun _ => by rw [HST.out]⟩⟩
              case measure => simp [intOf]; omega
            · go_wp2_with (first
                | (refine ld40 _ rfl rfl _ _ rfl _ rfl HE.out ?_)
                | (refine ld40 _ rfl rfl _ _ rfl _ rfl Y2.out.range ?_)
                | (refine ld40 _ rfl rfl _ _ rfl _ rfl S2.out.blk.range ?_)
                | (refine ld40 _ rfl rfl _ _ rfl _ rfl Y4.out.range ?_)
                | (refine ld40 _ rfl rfl _ _ rfl _ rfl S4.out.blk.range ?_)
                | (refine ld40 _ rfl rfl _ _ rfl _ rfl Z6.out.range ?_)
                | (have g0 := HS; clear g0; refine stLast _ _ rfl rfl _ rfl rfl (opO b) rfl rfl rfl (opO_one b) ?_; intro u2 by2 lo2 sz2; have S2 : Hid (Stt w g1 gx (gx + 1) n os u2 (opS q) u11 k) := HS.out.last rfl lo2; have Y2 : Hid (Blk u2 wr.heap.size (opO b)) := by2; clear HS HE by2 lo2 sz2)
                | (have g2 := S2; clear g2; go_at_call 10; refine (op_back b q hon hgb _).mono ?_; rintro e u3 ⟨rfl, hb3⟩; have S3 : Hid (Stt w g1 gx (gx + 1) n os u3 (opS q) u11 k) := S2.out.fresh hb3; have Y3 : Hid (Blk u3 wr.heap.size (opO b)) := Y2.out.below hb3 Y2.out.lt; clear S2 Y2 hb3)
                | (have g3 := S3; clear g3; refine stLast _ _ rfl rfl _ rfl rfl (opO b) rfl rfl rfl (opO_one b) ?_; intro u4 by4 lo4 sz4; have S4 : Hid (Stt w g1 gx (gx + 1) n os u4 (opS q) u11 k) := S3.out.last rfl lo4; have Y4 : Hid (Blk u4 wr.heap.size (opO b)) := Y3.out.below lo4 Y3.out.lt; have Z4 : Hid (Blk u4 u3.heap.size (opO b)) := by4; have N4 : Hid (gx < u3.heap.size) := S3.out.size; clear S3 Y3 by4 lo4 sz4)
                | (have g4 := S4; clear g4; go_at_call 10; refine (op_off b q hon hgb hst _).mono ?_; rintro e u5 ⟨rfl, hb5⟩; have S5 : Hid (Stt w g1 gx (gx + 1) n os u5 (opS q) u11 k) := S4.out.fresh hb5; have Z5 : Hid (Blk u5 u3.heap.size (opO b)) := Z4.out.below hb5 Z4.out.lt; clear S4 Y4 Z4 hb5)
                | (have g5 := S5; clear g5; refine stBlk _ _ rfl rfl _ rfl (opNL) rfl rfl (opN_one) (opS q) rfl S5.out.blk ?_; intro u6 bx6 ho6 sz6 lo6; have S6 : Hid (Stt w g1 gx (gx + 1) n os u6 (opNL) u11 k) := S5.out.put bx6 ho6 sz6 lo6; have Z6 : Hid (Blk u6 u3.heap.size (opO b)) := (ho6 _ (Nat.ne_of_gt N4.out)).trans Z5.out; clear S5 Z5 bx6 ho6 sz6 lo6)
                | (have g6 := S6; clear g6; at_builtin; obtain ⟨xs6, hx6⟩ := S6.out.rest; refine wpList_append_own _ rfl (.tmp 53) (.tmp 55) 25 rfl (gx + 1) 40 i0 opN 23 264 Tryz.underlying25 hi hz0 hz1 hz2 rfl (by decide) u11 k xs6 rfl (hx6.alloc _) ⟨u6.heap.size, 0, none⟩ 1 1 (opO b) rfl rfl (fun j x hj => by rw [Addr.add_mid]; exact range_laid u6 (opO b) 40 j x hj) (opO_one b) (by unfold maxLen; omega) (by omega) (by have := S6.out.size; simp; omega) ?_; intro v7 u7 ho7 hg7 _; have S7 : Hid (Stt w g1 gx (gx + 1) n os u7 (opNL) v7 (k + 1)) := (S6.out.fresh ((Below.refl _ _).alloc (Nat.le_refl _) _)).app ho7 (hx6.alloc _) hg7; clear hx6 ho7 hg7 S6 Z6)
                | fail)
              go_roundw
              case rel => exact ⟨k + 1, by omega, by go_num, by rw [HST.out, decide_eq_false hst], ⟨_, S7.out, rfl, fun h => absurd (HST.out ▸ h) hst⟩⟩
              case measure => simp [intOf]; omega
          · have HS : Hid (Stt w g1 gx (gx + 1) n os wr cs u11 k) := hcs
            have HCL : Hid (cs.length = 23) := hcl
            have hst : ¬ On (Xf.step b q) := by rw [step_off hon]; exact hon
            clear hcs hcq hcl
            rw [decide_eq_false hon]
            go_wp2_with (first
                | (refine ld40 _ rfl rfl _ _ rfl _ rfl HE.out ?_)
                | (refine ld40 _ rfl rfl _ _ rfl _ rfl Y2.out.range ?_)
                | (have g0 := HS; clear g0; refine stLast _ _ rfl rfl _ rfl rfl (opO b) rfl rfl rfl (opO_one b) ?_; intro u2 by2 lo2 sz2; have S2 : Hid (Stt w g1 gx (gx + 1) n os u2 (cs) u11 k) := HS.out.last rfl lo2; have Y2 : Hid (Blk u2 wr.heap.size (opO b)) := by2; clear HS HE by2 lo2 sz2)
                | (have g6 := S2; clear g6; at_builtin; obtain ⟨xs6, hx6⟩ := S2.out.rest; refine wpList_append_own _ rfl (.tmp 33) (.tmp 35) 25 rfl (gx + 1) 40 i0 opN 23 264 Tryz.underlying25 hi hz0 hz1 hz2 rfl (by decide) u11 k xs6 rfl (hx6.alloc _) ⟨u2.heap.size, 0, none⟩ 1 1 (opO b) rfl rfl (fun j x hj => by rw [Addr.add_mid]; exact range_laid u2 (opO b) 40 j x hj) (opO_one b) (by unfold maxLen; omega) (by omega) (by have := S2.out.size; simp; omega) ?_; intro v7 u7 ho7 hg7 _; have S7 : Hid (Stt w g1 gx (gx + 1) n os u7 (cs) v7 (k + 1)) := (S2.out.fresh ((Below.refl _ _).alloc (Nat.le_refl _) _)).app ho7 (hx6.alloc _) hg7; clear hx6 ho7 hg7 S2 Y2)
                | fail)
            go_roundw
            case rel => exact ⟨k + 1, by omega, by go_num, by rw [HST.out, decide_eq_false hst], ⟨_, S7.out, HCL.out, fun h => absurd (HST.out ▸ h) hst⟩⟩
            case measure => simp [intOf]; omega
        · have hkn : k = n := by omega
          subst hkn
          have HQ2 : Hid (q = steps os p) := by
            show q = steps os p
            rw [HQ.out, HN.out, List.take_length]
          obtain ⟨xs, hx⟩ := hcs.rest
          obtain ⟨pr, cr, rfl⟩ := shapeO_any hx
          have HBw : Hid (Below w.heap.size w wr) := hcs.below
          have HSZ : Hid (gx + 1 ≤ wr.heap.size) := hcs.size
          have HWX : Hid (w.heap.size ≤ gx) := hcs.wx
          by_cases hon : On q
          · have hcs' := hcq hon
            subst hcs'
            have HX : Hid (Blk wr gx (opS q)) := hcs.blk
            clear hcs hcq hcl hx
            rw [decide_eq_true hon]
            go_wp2_with (first
              | (refine ld40 _ rfl rfl _ _ rfl _ rfl HX.out.range ?_)
              | (have g6 := HX; clear g6; at_builtin; refine wpList_append_own _ rfl (.tmp 59) (.tmp 61) 25 rfl (gx + 1) 40 i0 opN 23 264 Tryz.underlying25 hi hz0 hz1 hz2 rfl (by decide) (.slice none 0 0) 0 [] rfl (World.ownsRow_nil _ _ _ _) ⟨wr.heap.size, 0, none⟩ 1 1 (opS q) rfl rfl (fun j x hj => by rw [Addr.add_mid]; exact range_laid wr (opS q) 40 j x hj) (opS_one q) (by unfold maxLen; omega) (by omega) (by have := HSZ.out; simp; omega) ?_; intro v7 u7 ho7 hg7 _; have HB7 : Hid (Below w.heap.size w u7) := (HBw.out.alloc HBw.out.size _).grown hg7 (by have := HBw.out.size; simp; omega) (fun k hk => by simp [Value.ownBlock] at hk); rw [Nat.zero_add, List.nil_append] at ho7; obtain ⟨g7, c7, rfl, hc7, hg7w, hg7s, hx7⟩ := shapeO ho7 (by decide); have HX7 : Hid (u7.rangeAt g7 0 (opS q)) := fun j v hj => hx7 j v hj; clear ho7 hg7 hx7 HX HBw)
              | fail)
            go_roundw
            case rel => exact .inr ⟨by go_num, ⟨_, _, rfl⟩, HB7.out, fun _ => ⟨_, _, rfl, hc7, HQ2.out ▸ HX7.out⟩, fun h => absurd (HQ2.out ▸ hon) h⟩
            case measure => simp [intOf]
          · clear hcs hcq hcl hx
            rw [decide_eq_false hon]
            go_wp2
            go_roundw
            case rel => exact .inr ⟨by go_num, ⟨_, _, rfl⟩, HBw.out, fun h => absurd h (HQ2.out ▸ hon), fun _ => ⟨_, _, rfl⟩⟩
            case measure => simp [intOf]
    · go_wp2
      refine bodyPost_ret (results_tmp2 rfl _ _ _) rfl ?_
      exact ⟨_, _, _, rfl, HBf.out, HF.out⟩
end Go.Proofs.YtglgibmjcgfecaaGreatDoor

set_option linter.unusedSimpArgs false
set_option linter.unusedVariables false
namespace Go.Proofs.YtglgibmjcgfecaaGreatDoor
open Go Go.RowKit Go.Proofs Go.Xf

set_option maxRecDepth 100000 in
set_option maxHeartbeats 8000000 in
theorem batches_0 (p : Int × Int) (ga ca : Nat) (w : World) (hA : w.rangeAt ga 0 (opS p)) (hal : ga < w.heap.size) (hca : 1 ≤ ca) :
    Calls Tryz.prog 8 #[.slice (some ⟨ga, 0, none⟩) 1 ca, .slice none 0 0, .bool false] w fun e w' => ∃ vo, e = .returned (.tuple #[vo, .slice none 0 0]) ∧ Below w.heap.size w w' ∧
      ∃ g c, vo = .slice (some ⟨g, 0, none⟩) 1 c ∧ 1 ≤ c ∧ w'.rangeAt g 0 (opS p) := by
  obtain ⟨i0, hi, hz0, hz1, hz2⟩ := info_parts Tryz.info40
  have HA1 : Hid (w.rangeAt ga 0 (opS p)) := hA
  have hfS := fold_S
  clear hA
  go_enter Tryz.func8, Tryz.ntmps8
  go_wp2
  go_loopw [1, 8, 21] (fun v1' v8 v21 wr => (v21 = .int .i64 0 ∧ v8 = .slice none 0 0 ∧ v1' = .slice none 0 0 ∧ wr = w) ∨
    (v21 = .int .i64 1 ∧ v1' = .slice none 0 0 ∧ Hid (Below w.heap.size w wr) ∧ Hid (∃ g c, v8 = .slice (some ⟨g, 0, none⟩) 1 c ∧ 1 ≤ c ∧ wr.rangeAt g 0 (opS p)))) (fun _ _ v21 _ => 1 - (intOf v21).toNat)
  case atStart => exact .inl ⟨rfl, rfl, rfl, rfl⟩
  case round =>
    rcases hrel with ⟨rfl, rfl, rfl, rfl⟩ | ⟨rfl, rfl, HBf, HF⟩
    · go_wp2_with (first
        | (have g6 := HA1; clear g6; refine ld40 _ rfl rfl _ _ rfl _ rfl HA1.out ?_)
        | (have g6 := HA1; clear g6; refine stLast _ _ rfl rfl _ rfl rfl (opS p) rfl rfl rfl (opS_one p) ?_; intro w2 hb2 hlo2 hs2; have HX2 : Hid (Blk w2 wr.heap.size (opS p)) := hb2; have HB2 : Hid (Below wr.heap.size wr w2) := hlo2; clear hb2 hlo2 hs2 HA1)
        | fail)
      obtain ⟨gx, hgx⟩ : ∃ gx, gx = wr.heap.size := ⟨_, rfl⟩
      have HGX : Hid (wr.heap.size = gx ∧ Below gx wr w2) := ⟨hgx.symm, by rw [hgx]; exact HB2.out⟩
      rw [← hgx] at HX2 ⊢
      clear hgx HB2
      go_loopw [11, 12, 27] (fun v11 v12 v27 u => v11 = .slice none 0 0 ∧ v12 = .bool true ∧ v27 = .int .i64 0 ∧ u = w2) (fun _ _ _ _ => 0)
      case atStart => exact ⟨rfl, rfl, rfl, rfl⟩
      case round =>
        obtain ⟨rfl, rfl, rfl, rfl⟩ := hrel
        go_wp2_with (first
          | (have g6 := HX2; clear g6; refine ld40 _ rfl rfl _ _ rfl _ rfl HX2.out.range ?_)
          | (have g6 := HX2; clear g6; at_builtin; refine wpList_append_own _ rfl (.tmp 59) (.tmp 61) 25 rfl wr.heap.size 40 i0 opN 23 264 Tryz.underlying25 hi hz0 hz1 hz2 rfl (by decide) (.slice none 0 0) 0 [] rfl (World.ownsRow_nil _ _ _ _) ⟨wr.heap.size, 0, none⟩ 1 1 (opS p) rfl rfl (fun j x hj => by rw [Addr.add_mid]; exact range_laid wr (opS p) 40 j x hj) (opS_one p) (by unfold maxLen; omega) (by omega) (by simp) ?_; intro v7 u7 ho7 hg7 _; have HB7 : Hid (Below wr.heap.size wr u7) := ((Below.refl _ _).alloc (Nat.le_refl _) _).grown hg7 (by simp) (fun k hk => by simp [Value.ownBlock] at hk); rw [Nat.zero_add, List.nil_append] at ho7; obtain ⟨g7, c7, rfl, hc7, hg7w, hg7s, hx7⟩ := shapeO ho7 (by decide); have HX7 : Hid (u7.rangeAt g7 0 (opS p)) := fun j v hj => hx7 j v hj; clear ho7 hg7 hx7 HX2)
          | fail)
        go_roundw
        case rel => exact .inr ⟨by go_num, rfl, by obtain ⟨e1, e2⟩ := HGX.out; rw [e1]; exact e2.trans (HB7.out.mono (by have := e2.size; omega)), ⟨_, _, rfl, hc7, HX7.out⟩⟩
        case measure => simp [intOf]
    · go_wp2
      go_ret2
      exact ⟨_, rfl, HBf.out, HF.out⟩
end Go.Proofs.YtglgibmjcgfecaaGreatDoor

