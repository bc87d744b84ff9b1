/- counterpanelaw18.XformFollows, walked, given what comes in. -/
import Derived.Test.YtglgibmjcgfecaaGreatDoorXBatch
set_option linter.unusedSimpArgs false
set_option linter.unusedVariables false
set_option linter.unusedSimpArgs false
set_option linter.unusedVariables false
namespace Go.Proofs.YtglgibmjcgfecaaGreatDoor
open Go Go.RowKit Go.Proofs Go.Xf

theorem owns_keep {w w' : World} {B : Nat} {e : TypeId} {size : Nat} {v : Value} {n : Nat} {xs : List Value} (h : w.ownsRow B e size v n xs) (hb : ∀ r, v.ownBlock = some r → w'.heap[r]? = w.heap[r]?) : w'.ownsRow B e size v n xs := by
  refine ⟨h.1, ?_⟩
  rcases h.2 with hn | ⟨g, cap, cur, rfl, hg, hgg, rest⟩
  · exact .inl hn
  · exact .inr ⟨g, cap, cur, rfl, hg, by rw [hb g rfl]; exact hgg, rest⟩
theorem owns_fresh {w w' : World} {B : Nat} {e : TypeId} {size : Nat} {v : Value} {n : Nat} {xs : List Value} (h : w.ownsRow B e size v n xs) (hf : Below w.heap.size w w') : w'.ownsRow B e size v n xs :=
  owns_block h fun g _ hg => hf.block g hg
theorem blk_frozen {w : World} {g : Nat} {cs : List Value} (h : Blk w g cs) (j : Nat) : w.frozen? ⟨g, j, none⟩ = false := by
  have h' : w.heap[g]? = some (.cells cs.toArray 40 (0, 0)) := h
  unfold World.frozen?
  simp only [h']
  simp
theorem blk_set {w : World} {g : Nat} {cs : List Value} (h : Blk w g cs) (i : Nat) (x : Value) : Blk (w.setCell ⟨g, i, none⟩ x) g (cs.set i x) := by
  have h' : w.heap[g]? = some (.cells cs.toArray 40 (0, 0)) := h
  show (w.setCell ⟨g, i, none⟩ x).heap[g]? = _
  simp only [World.setCell, Array.getElem?_modify, if_true, h', Option.map_some, Option.isSome, Bool.false_eq_true, if_false]
  simp
theorem pick_no {L : List Ln} {R : List Bool} {k : Nat} (h : ¬ MayL L[k]!) : pick L R (k + 1) = pick L R k := by rw [pick, if_neg h, List.append_nil]
theorem pick_yes {L : List Ln} {R : List Bool} {k : Nat} (h : MayL L[k]!) : pick L R (k + 1) = pick L R k ++ [(if h : k < R.length then R[k] else false, L[k]!)] := by rw [pick, if_pos h]
theorem pick_idx (L : List Ln) (R : List Bool) : ∀ n, ∀ b ∈ pick L R n, ∃ i, i < n ∧ b.2 = L[i]!
  | 0, _, h => by cases h
  | n + 1, b, h => by
    rw [pick, List.mem_append] at h
    rcases h with h | h
    · obtain ⟨i, hi, e⟩ := pick_idx L R n b h
      exact ⟨i, by omega, e⟩
    · split at h
      · simp only [List.mem_singleton] at h; subst h; exact ⟨n, by omega, rfl⟩
      · cases h
theorem steps_pick {L : List Ln} {R : List Bool} {k : Nat} (h : MayL L[k]!) (p : Int × Int) : steps (pick L R (k + 1)) p = Xf.step (if h : k < R.length then R[k] else false, L[k]!) (steps (pick L R k) p) := by rw [pick_yes h, steps_snoc]

set_option maxRecDepth 100000 in
set_option maxHeartbeats 16000000 in
theorem follows_w (row col : Int) (L : List Ln) (R : List Bool) (pl pr : Option Addr) (cl cr : Nat) (w : World) (frow : Fits row) (fcol : Fits col) (hF : ∀ i, i < L.length → Fits L[i]!.k ∧ Fits L[i]!.a ∧ Fits L[i]!.t)
    (hL : 0 < L.length → ∃ bl ol, pl = some ⟨bl, ol, none⟩ ∧ bl < w.heap.size ∧ ∀ i, i < L.length → w.cell? ⟨bl, ol + i * 3, none⟩ = some (n64 L[i]!.k) ∧ w.cell? ⟨bl, ol + i * 3 + 1, none⟩ = some (n64 L[i]!.a) ∧ w.cell? ⟨bl, ol + i * 3 + 2, none⟩ = some (n64 L[i]!.t))
    (hR : 0 < R.length → ∃ br or', pr = some ⟨br, or', none⟩ ∧ br < w.heap.size ∧ ∀ i, i < R.length → w.cell? ⟨br, or' + i, none⟩ = some (.bool R[i]!)) :
    Calls Tryz.prog 3 #[n64 row, n64 col, .slice pl L.length cl, .slice pr R.length cr] w fun e w' => e = .returned (.bool true) ∧ Below w.heap.size w w' := by
  obtain ⟨i0, hi, hz0, hz1, hz2⟩ := info_parts Tryz.info40
  have hfO := fold_O
  have hfS := fold_S
  obtain ⟨nl, hnl⟩ : ∃ nl, nl = L.length := ⟨_, rfl⟩
  obtain ⟨nr, hnr⟩ : ∃ nr, nr = R.length := ⟨_, rfl⟩
  have HNL : Hid (nl = L.length) := hnl
  have HNR : Hid (nr = R.length) := hnr
  have HL : Hid (0 < nl → ∃ bl ol, pl = some ⟨bl, ol, none⟩ ∧ bl < w.heap.size ∧ ∀ i, i < nl → w.cell? ⟨bl, ol + i * 3, none⟩ = some (n64 L[i]!.k) ∧ w.cell? ⟨bl, ol + i * 3 + 1, none⟩ = some (n64 L[i]!.a) ∧ w.cell? ⟨bl, ol + i * 3 + 2, none⟩ = some (n64 L[i]!.t)) := by rw [hnl]; exact hL
  have HR : Hid (0 < nr → ∃ br or', pr = some ⟨br, or', none⟩ ∧ br < w.heap.size ∧ ∀ i, i < nr → w.cell? ⟨br, or' + i, none⟩ = some (.bool R[i]!)) := by rw [hnr]; exact hR
  have HF : Hid (∀ i, i < nl → Fits L[i]!.k ∧ Fits L[i]!.a ∧ Fits L[i]!.t) := by rw [hnl]; exact hF
  rw [← hnl, ← hnr]
  clear hnl hnr hL hR hF
  by_cases hin : ¬ (0 ≤ row ∧ 0 ≤ col ∧ row ≤ 549755813888 ∧ col ≤ 549755813888)
  · go_enter Tryz.func3, Tryz.ntmps3
    go_wp2_with (first
      | (go_at_call 5; refine (begun _).mono ?_; rintro e w1 ⟨rfl, hb⟩; have HB1 : Hid (Below w.heap.size w w1) := hb; clear hb)
      | (go_loopw [] (fun _ => False) (fun _ => 0))
      | fail)
    all_goals go_ret
    all_goals exact ⟨rfl, HB1.out⟩
  have hin2 : 0 ≤ row ∧ 0 ≤ col ∧ row ≤ 549755813888 ∧ col ≤ 549755813888 := Decidable.not_not.1 hin
  obtain ⟨hr0, hc0, hr1, hc1⟩ := hin2
  clear hin
  go_enter Tryz.func3, Tryz.ntmps3
  go_wp2_with (first
    | (go_at_call 5; refine (begun _).mono ?_; rintro e w1 ⟨rfl, hb⟩; have HB1 : Hid (Below w.heap.size w w1) := hb; clear hb)
    | fail)
  go_loopw [10, 11, 12, 13] (fun v10 v11 v12 v13 u => ∃ k, k ≤ nl ∧ k ≤ 8 ∧ v13 = .int .i64 (k : Nat) ∧ v11 = n64 (steps (pick L R k) (row, col)).1 ∧ v12 = n64 (steps (pick L R k) (row, col)).2 ∧
    Hid (u.ownsRow w.heap.size 40 23 v10 (pick L R k).length (cellsO (pick L R k))) ∧ Hid ((pick L R k).length = 0 → v10 = .slice none 0 0) ∧ Hid (Below w.heap.size w u)) (fun _ _ _ v13 _ => 8 - (intOf v13).toNat)
  case atStart => exact ⟨0, Nat.zero_le _, Nat.zero_le _, rfl, rfl, rfl, World.ownsRow_nil _ _ _ _, fun _ => rfl, HB1.out⟩
  case round =>
    obtain ⟨k, hk, hk8, rfl, rfl, rfl, HO, HZ, HB⟩ := hrel
    by_cases hlt : k < nl ∧ k < 8
    · obtain ⟨hlt1, hlt2⟩ := hlt
      obtain ⟨bl, ol, rfl, hbl, hcells⟩ := HL.out (by omega)
      obtain ⟨os, hos⟩ : ∃ os, os = pick L R k := ⟨_, rfl⟩
      obtain ⟨q, hq⟩ : ∃ q, q = steps (pick L R k) (row, col) := ⟨_, rfl⟩
      obtain ⟨l, hl⟩ : ∃ l, l = L[k]! := ⟨_, rfl⟩
      obtain ⟨fk, fa, ft⟩ := HF.out k hlt1
      have hcl := hcells k hlt1
      rw [← hl] at fk fa ft hcl
      rw [← hos] at HO HZ
      rw [← hq]
      have HOS : Hid (os = pick L R k) := hos
      have HQ : Hid (q = steps (pick L R k) (row, col)) := hq
      have HLK : Hid (l = L[k]!) := hl
      have HC : Hid (w.cell? ⟨bl, ol + k * 3, none⟩ = some (n64 l.k) ∧ w.cell? ⟨bl, ol + k * 3 + 1, none⟩ = some (n64 l.a) ∧ w.cell? ⟨bl, ol + k * 3 + 2, none⟩ = some (n64 l.t)) := hcl
      have HBL : Hid (bl < w.heap.size) := hbl
      have c0 := (HB.out.cell hbl).trans hcl.1
      have c1 := (HB.out.cell hbl).trans hcl.2.1
      have c2 := (HB.out.cell hbl).trans hcl.2.2
      have HOL : Hid (os.length ≤ 8) := by
        show os.length ≤ 8
        rw [hos]; exact Nat.le_trans (pick_len L R k) hk8
      clear hos hq hl hcl hcells hbl
      have H6 := fun w => may_r l fk fa w
      by_cases hm : MayL l
      · rw [(mayL_eq l).2 hm] at H6
        have HPK0 : Hid (pick L R (k + 1) = os ++ [(if h : k < R.length then R[k] else false, L[k]!)]) := by
          show _ = _
          rw [pick_yes (HLK.out ▸ hm), HOS.out]
        have HSP0 : Hid (steps (pick L R (k + 1)) (row, col) = Xf.step (if h : k < R.length then R[k] else false, L[k]!) q) := by
          show _ = _
          rw [steps_pick (HLK.out ▸ hm), HQ.out]
        rw [← HLK.out] at HPK0 HSP0
        by_cases hkr : k < nr
        · obtain ⟨br, or', rfl, hbr, hrc⟩ := HR.out (by omega)
          have hrk := hrc k hkr
          have hkR : k < R.length := HNR.out ▸ hkr
          clear hrc
          have e0 : (if h : k < R.length then R[k] else false) = R[k]! := by rw [dif_pos hkR, getElem!_pos R k hkR]
          rw [e0] at HPK0 HSP0
          cases hf : R[k]! with
          | true =>
            rw [hf] at hrk HPK0 HSP0
            have HRC : Hid (w.cell? ⟨br, or' + k, none⟩ = some (.bool true)) := hrk
            have HPK := HPK0
            clear hrk e0 hf
            by_cases hon : On q
            · have HSP : Hid (steps (pick L R (k + 1)) (row, col) = (idx l q.1, q.2)) := by rw [HSP0.out]; unfold Xf.step; rw [if_pos hon]; rfl
              obtain ⟨ho1, ho2, ho3, ho4⟩ := hon
              go_wp2_with (first
                | (go_at_call 6; refine (H6 _).mono ?_; rintro e u2 ⟨rfl, hb⟩; have HO2 : Hid (u2.ownsRow w.heap.size 40 23 u10 os.length (cellsO os)) := owns_fresh HO.out hb; have HB2 : Hid (Below w.heap.size w u2) := HB.out.trans (hb.mono HB.out.size); clear hb HO HB c0 c1 c2; have c0 := (HB2.out.cell HBL.out).trans HC.out.1; have c1 := (HB2.out.cell HBL.out).trans HC.out.2.1; have c2 := (HB2.out.cell HBL.out).trans HC.out.2.2)
                | (have g2 := HO2; clear g2; refine stLast _ _ rfl rfl _ rfl rfl (opO (false, l)) rfl rfl rfl (opO_one _) ?_; intro u3 by3 lo3 sz3; have K3 : Hid (Blk u3 u2.heap.size (opO (false, l))) := by3; have HB3 : Hid (Below w.heap.size w u3) := HB2.out.trans (lo3.mono HB2.out.size); have HO3 : Hid (u3.ownsRow w.heap.size 40 23 u10 os.length (cellsO os)) := owns_fresh HO2.out lo3; have HLT : Hid (∀ r, u10.ownBlock = some r → w.heap.size ≤ r ∧ r < u2.heap.size) := fun r hr => ⟨(HO2.out.lt r hr).1, (HO2.out.lt r hr).2⟩; have HWG : Hid (w.heap.size ≤ u2.heap.size) := HB2.out.size; have HGS : Hid (u2.heap.size < u3.heap.size) := K3.out.lt; have rc : u3.cell? ⟨br, or' + k, none⟩ = some (.bool true) := (HB3.out.cell hbr).trans HRC.out; have p0 : u3.cell? ⟨u2.heap.size, 0, none⟩ = some (n64 3) := K3.out.range 0 _ rfl; have f0 : u3.frozen? ⟨u2.heap.size, 0, none⟩ = false := blk_frozen K3.out 0; clear HO2 HB2 by3 lo3 sz3 c0 c1 c2)
                | (have g3 := K3; clear g3; refine ld40 _ rfl rfl _ _ rfl (opO (true, l)) rfl (show World.rangeAt _ _ 0 _ from (blk_set K3.out 0 (n64 2)).range) ?_; obtain ⟨u4, hu4⟩ : ∃ u4, u4 = u3.setCell ⟨u2.heap.size, 0, none⟩ (n64 2) := ⟨_, rfl⟩; rw [← hu4]; have K4 : Hid (Blk u4 u2.heap.size (opO (true, l))) := (by rw [hu4]; exact blk_set K3.out 0 (n64 2)); have HB4 : Hid (Below w.heap.size w u4) := (by rw [hu4]; exact HB3.out.setCell HWG.out _); have HO4 : Hid (u4.ownsRow w.heap.size 40 23 u10 os.length (cellsO os)) := (by rw [hu4]; exact owns_keep HO3.out fun r hr => Below.heap_setCell _ _ _ _ (Nat.ne_of_lt (HLT.out r hr).2)); have HS4 : Hid (u2.heap.size < u4.heap.size) := K4.out.lt; clear hu4 K3 HB3 HO3 HGS rc p0 f0)
                | (have g4 := HO4; clear g4; at_builtin; refine wpList_append_own _ rfl (.tmp 70) (.tmp 72) 25 rfl w.heap.size 40 i0 opN 23 264 Tryz.underlying25 hi hz0 hz1 hz2 rfl (by decide) u10 os.length (cellsO os) rfl (HO4.out.alloc _) ⟨u4.heap.size, 0, none⟩ 1 1 (opO (true, l)) rfl rfl (fun j x hj => by rw [Addr.add_mid]; exact range_laid u4 (opO (true, l)) 40 j x hj) (opO_one _) (by have := HOL.out; unfold maxLen; omega) (by have := HOL.out; omega) (by have := HB4.out.size; simp; omega) ?_; intro v7 u7 ho7 hg7 _; have HO7 : Hid (u7.ownsRow w.heap.size 40 23 v7 (os.length + 1) (cellsO (os ++ [(true, l)]))) := (by rw [cellsO_snoc]; exact ho7); have HB7 : Hid (Below w.heap.size w u7) := (HB4.out.alloc HB4.out.size _).grown hg7 (by have := HB4.out.size; simp; omega) (fun r hr => (HLT.out r hr).1); have K7 : Hid (Blk u7 u2.heap.size (opO (true, l))) := (hg7.block _ (by have := HS4.out; simp; omega) (fun e => by have := (HLT.out _ e.symm).2; omega)).trans ((Below.heap_alloc _ _ _ HS4.out).trans K4.out); have p0 : u7.cell? ⟨u2.heap.size, 0, none⟩ = some (n64 2) := K7.out.range 0 _ rfl; have c0 := (HB7.out.cell HBL.out).trans HC.out.1; have c1 := (HB7.out.cell HBL.out).trans HC.out.2.1; have c2 := (HB7.out.cell HBL.out).trans HC.out.2.2; clear ho7 hg7 HO4 HB4 K4)
                | (go_at_call 7; refine (idx_r1 l q.1 fk fa ft ⟨by omega, by omega⟩ hm ⟨by omega, by omega⟩ _).mono ?_; rintro e u8 ⟨rfl, hb8⟩; have HO8 : Hid (u8.ownsRow w.heap.size 40 23 v7 (os.length + 1) (cellsO (os ++ [(true, l)]))) := owns_fresh HO7.out hb8; have HB8 : Hid (Below w.heap.size w u8) := HB7.out.trans (hb8.mono HB7.out.size); clear hb8 HO7 HB7 K7 p0 c0 c1 c2)
                | fail)
              all_goals go_roundw
              all_goals first | exact ⟨k + 1, by omega, by omega, by go_num, by rw [HSP.out], by rw [HSP.out], by rw [HPK.out, List.length_append]; exact HO8, fun h => by rw [HPK.out] at h; simp at h, HB8⟩ | (simp [intOf]; omega)
            · have HSP : Hid (steps (pick L R (k + 1)) (row, col) = q) := by rw [HSP0.out]; exact step_off hon
              unfold On at hon
              go_wp2_with (first
                | (go_at_call 6; refine (H6 _).mono ?_; rintro e u2 ⟨rfl, hb⟩; have HO2 : Hid (u2.ownsRow w.heap.size 40 23 u10 os.length (cellsO os)) := owns_fresh HO.out hb; have HB2 : Hid (Below w.heap.size w u2) := HB.out.trans (hb.mono HB.out.size); clear hb HO HB c0 c1 c2; have c0 := (HB2.out.cell HBL.out).trans HC.out.1; have c1 := (HB2.out.cell HBL.out).trans HC.out.2.1; have c2 := (HB2.out.cell HBL.out).trans HC.out.2.2)
                | (have g2 := HO2; clear g2; refine stLast _ _ rfl rfl _ rfl rfl (opO (false, l)) rfl rfl rfl (opO_one _) ?_; intro u3 by3 lo3 sz3; have K3 : Hid (Blk u3 u2.heap.size (opO (false, l))) := by3; have HB3 : Hid (Below w.heap.size w u3) := HB2.out.trans (lo3.mono HB2.out.size); have HO3 : Hid (u3.ownsRow w.heap.size 40 23 u10 os.length (cellsO os)) := owns_fresh HO2.out lo3; have HLT : Hid (∀ r, u10.ownBlock = some r → w.heap.size ≤ r ∧ r < u2.heap.size) := fun r hr => ⟨(HO2.out.lt r hr).1, (HO2.out.lt r hr).2⟩; have HWG : Hid (w.heap.size ≤ u2.heap.size) := HB2.out.size; have HGS : Hid (u2.heap.size < u3.heap.size) := K3.out.lt; have rc : u3.cell? ⟨br, or' + k, none⟩ = some (.bool true) := (HB3.out.cell hbr).trans HRC.out; have p0 : u3.cell? ⟨u2.heap.size, 0, none⟩ = some (n64 3) := K3.out.range 0 _ rfl; have f0 : u3.frozen? ⟨u2.heap.size, 0, none⟩ = false := blk_frozen K3.out 0; clear HO2 HB2 by3 lo3 sz3 c0 c1 c2)
                | (have g3 := K3; clear g3; refine ld40 _ rfl rfl _ _ rfl (opO (true, l)) rfl (show World.rangeAt _ _ 0 _ from (blk_set K3.out 0 (n64 2)).range) ?_; obtain ⟨u4, hu4⟩ : ∃ u4, u4 = u3.setCell ⟨u2.heap.size, 0, none⟩ (n64 2) := ⟨_, rfl⟩; rw [← hu4]; have K4 : Hid (Blk u4 u2.heap.size (opO (true, l))) := (by rw [hu4]; exact blk_set K3.out 0 (n64 2)); have HB4 : Hid (Below w.heap.size w u4) := (by rw [hu4]; exact HB3.out.setCell HWG.out _); have HO4 : Hid (u4.ownsRow w.heap.size 40 23 u10 os.length (cellsO os)) := (by rw [hu4]; exact owns_keep HO3.out fun r hr => Below.heap_setCell _ _ _ _ (Nat.ne_of_lt (HLT.out r hr).2)); have HS4 : Hid (u2.heap.size < u4.heap.size) := K4.out.lt; clear hu4 K3 HB3 HO3 HGS rc p0 f0)
                | (have g4 := HO4; clear g4; at_builtin; refine wpList_append_own _ rfl (.tmp 70) (.tmp 72) 25 rfl w.heap.size 40 i0 opN 23 264 Tryz.underlying25 hi hz0 hz1 hz2 rfl (by decide) u10 os.length (cellsO os) rfl (HO4.out.alloc _) ⟨u4.heap.size, 0, none⟩ 1 1 (opO (true, l)) rfl rfl (fun j x hj => by rw [Addr.add_mid]; exact range_laid u4 (opO (true, l)) 40 j x hj) (opO_one _) (by have := HOL.out; unfold maxLen; omega) (by have := HOL.out; omega) (by have := HB4.out.size; simp; omega) ?_; intro v7 u7 ho7 hg7 _; have HO7 : Hid (u7.ownsRow w.heap.size 40 23 v7 (os.length + 1) (cellsO (os ++ [(true, l)]))) := (by rw [cellsO_snoc]; exact ho7); have HB7 : Hid (Below w.heap.size w u7) := (HB4.out.alloc HB4.out.size _).grown hg7 (by have := HB4.out.size; simp; omega) (fun r hr => (HLT.out r hr).1); have K7 : Hid (Blk u7 u2.heap.size (opO (true, l))) := (hg7.block _ (by have := HS4.out; simp; omega) (fun e => by have := (HLT.out _ e.symm).2; omega)).trans ((Below.heap_alloc _ _ _ HS4.out).trans K4.out); have p0 : u7.cell? ⟨u2.heap.size, 0, none⟩ = some (n64 2) := K7.out.range 0 _ rfl; have c0 := (HB7.out.cell HBL.out).trans HC.out.1; have c1 := (HB7.out.cell HBL.out).trans HC.out.2.1; have c2 := (HB7.out.cell HBL.out).trans HC.out.2.2; clear ho7 hg7 HO4 HB4 K4)
                | fail)
              all_goals go_roundw
              all_goals first | exact ⟨k + 1, by omega, by omega, by go_num, by rw [HSP.out], by rw [HSP.out], by rw [HPK.out, List.length_append]; exact HO7, fun h => by rw [HPK.out] at h; simp at h, HB7⟩ | (simp [intOf]; omega)
          | false =>
            rw [hf] at hrk HPK0 HSP0
            have HRC : Hid (w.cell? ⟨br, or' + k, none⟩ = some (.bool false)) := hrk
            have HPK := HPK0
            clear hrk e0 hf
            by_cases hon : On q
            · have HSP : Hid (steps (pick L R (k + 1)) (row, col) = (q.1, idx l q.2)) := by rw [HSP0.out]; unfold Xf.step; rw [if_pos hon]; rfl
              obtain ⟨ho1, ho2, ho3, ho4⟩ := hon
              go_wp2_with (first
                | (go_at_call 6; refine (H6 _).mono ?_; rintro e u2 ⟨rfl, hb⟩; have HO2 : Hid (u2.ownsRow w.heap.size 40 23 u10 os.length (cellsO os)) := owns_fresh HO.out hb; have HB2 : Hid (Below w.heap.size w u2) := HB.out.trans (hb.mono HB.out.size); clear hb HO HB c0 c1 c2; have c0 := (HB2.out.cell HBL.out).trans HC.out.1; have c1 := (HB2.out.cell HBL.out).trans HC.out.2.1; have c2 := (HB2.out.cell HBL.out).trans HC.out.2.2)
                | (have g2 := HO2; clear g2; refine stLast _ _ rfl rfl _ rfl rfl (opO (false, l)) rfl rfl rfl (opO_one _) ?_; intro u3 by3 lo3 sz3; have K3 : Hid (Blk u3 u2.heap.size (opO (false, l))) := by3; have HB3 : Hid (Below w.heap.size w u3) := HB2.out.trans (lo3.mono HB2.out.size); have HO3 : Hid (u3.ownsRow w.heap.size 40 23 u10 os.length (cellsO os)) := owns_fresh HO2.out lo3; have HLT : Hid (∀ r, u10.ownBlock = some r → w.heap.size ≤ r ∧ r < u2.heap.size) := fun r hr => ⟨(HO2.out.lt r hr).1, (HO2.out.lt r hr).2⟩; have HWG : Hid (w.heap.size ≤ u2.heap.size) := HB2.out.size; have HGS : Hid (u2.heap.size < u3.heap.size) := K3.out.lt; have rc : u3.cell? ⟨br, or' + k, none⟩ = some (.bool false) := (HB3.out.cell hbr).trans HRC.out; have p0 : u3.cell? ⟨u2.heap.size, 0, none⟩ = some (n64 3) := K3.out.range 0 _ rfl; have f0 : u3.frozen? ⟨u2.heap.size, 0, none⟩ = false := blk_frozen K3.out 0; clear HO2 HB2 by3 lo3 sz3 c0 c1 c2)
                | (have g3 := K3; clear g3; refine ld40 _ rfl rfl _ _ rfl (opO (false, l)) rfl K3.out.range ?_; have K4 : Hid (Blk u3 u2.heap.size (opO (false, l))) := K3; have HB4 : Hid (Below w.heap.size w u3) := HB3; have HO4 : Hid (u3.ownsRow w.heap.size 40 23 u10 os.length (cellsO os)) := HO3; have HS4 : Hid (u2.heap.size < u3.heap.size) := HGS; clear K3 HB3 HO3 HGS p0 f0 rc)
                | (have g4 := HO4; clear g4; at_builtin; refine wpList_append_own _ rfl (.tmp 70) (.tmp 72) 25 rfl w.heap.size 40 i0 opN 23 264 Tryz.underlying25 hi hz0 hz1 hz2 rfl (by decide) u10 os.length (cellsO os) rfl (HO4.out.alloc _) ⟨u3.heap.size, 0, none⟩ 1 1 (opO (false, l)) rfl rfl (fun j x hj => by rw [Addr.add_mid]; exact range_laid u3 (opO (false, l)) 40 j x hj) (opO_one _) (by have := HOL.out; unfold maxLen; omega) (by have := HOL.out; omega) (by have := HB4.out.size; simp; omega) ?_; intro v7 u7 ho7 hg7 _; have HO7 : Hid (u7.ownsRow w.heap.size 40 23 v7 (os.length + 1) (cellsO (os ++ [(false, l)]))) := (by rw [cellsO_snoc]; exact ho7); have HB7 : Hid (Below w.heap.size w u7) := (HB4.out.alloc HB4.out.size _).grown hg7 (by have := HB4.out.size; simp; omega) (fun r hr => (HLT.out r hr).1); have K7 : Hid (Blk u7 u2.heap.size (opO (false, l))) := (hg7.block _ (by have := HS4.out; simp; omega) (fun e => by have := (HLT.out _ e.symm).2; omega)).trans ((Below.heap_alloc _ _ _ HS4.out).trans K4.out); have p0 : u7.cell? ⟨u2.heap.size, 0, none⟩ = some (n64 3) := K7.out.range 0 _ rfl; have c0 := (HB7.out.cell HBL.out).trans HC.out.1; have c1 := (HB7.out.cell HBL.out).trans HC.out.2.1; have c2 := (HB7.out.cell HBL.out).trans HC.out.2.2; clear ho7 hg7 HO4 HB4 K4)
                | (go_at_call 7; refine (idx_r1 l q.2 fk fa ft ⟨by omega, by omega⟩ hm ⟨by omega, by omega⟩ _).mono ?_; rintro e u8 ⟨rfl, hb8⟩; have HO8 : Hid (u8.ownsRow w.heap.size 40 23 v7 (os.length + 1) (cellsO (os ++ [(false, l)]))) := owns_fresh HO7.out hb8; have HB8 : Hid (Below w.heap.size w u8) := HB7.out.trans (hb8.mono HB7.out.size); clear hb8 HO7 HB7 K7 p0 c0 c1 c2)
                | fail)
              all_goals go_roundw
              all_goals first | exact ⟨k + 1, by omega, by omega, by go_num, by rw [HSP.out], by rw [HSP.out], by rw [HPK.out, List.length_append]; exact HO8, fun h => by rw [HPK.out] at h; simp at h, HB8⟩ | (simp [intOf]; omega)
            · have HSP : Hid (steps (pick L R (k + 1)) (row, col) = q) := by rw [HSP0.out]; exact step_off hon
              unfold On at hon
              go_wp2_with (first
                | (go_at_call 6; refine (H6 _).mono ?_; rintro e u2 ⟨rfl, hb⟩; have HO2 : Hid (u2.ownsRow w.heap.size 40 23 u10 os.length (cellsO os)) := owns_fresh HO.out hb; have HB2 : Hid (Below w.heap.size w u2) := HB.out.trans (hb.mono HB.out.size); clear hb HO HB c0 c1 c2; have c0 := (HB2.out.cell HBL.out).trans HC.out.1; have c1 := (HB2.out.cell HBL.out).trans HC.out.2.1; have c2 := (HB2.out.cell HBL.out).trans HC.out.2.2)
                | (have g2 := HO2; clear g2; refine stLast _ _ rfl rfl _ rfl rfl (opO (false, l)) rfl rfl rfl (opO_one _) ?_; intro u3 by3 lo3 sz3; have K3 : Hid (Blk u3 u2.heap.size (opO (false, l))) := by3; have HB3 : Hid (Below w.heap.size w u3) := HB2.out.trans (lo3.mono HB2.out.size); have HO3 : Hid (u3.ownsRow w.heap.size 40 23 u10 os.length (cellsO os)) := owns_fresh HO2.out lo3; have HLT : Hid (∀ r, u10.ownBlock = some r → w.heap.size ≤ r ∧ r < u2.heap.size) := fun r hr => ⟨(HO2.out.lt r hr).1, (HO2.out.lt r hr).2⟩; have HWG : Hid (w.heap.size ≤ u2.heap.size) := HB2.out.size; have HGS : Hid (u2.heap.size < u3.heap.size) := K3.out.lt; have rc : u3.cell? ⟨br, or' + k, none⟩ = some (.bool false) := (HB3.out.cell hbr).trans HRC.out; have p0 : u3.cell? ⟨u2.heap.size, 0, none⟩ = some (n64 3) := K3.out.range 0 _ rfl; have f0 : u3.frozen? ⟨u2.heap.size, 0, none⟩ = false := blk_frozen K3.out 0; clear HO2 HB2 by3 lo3 sz3 c0 c1 c2)
                | (have g3 := K3; clear g3; refine ld40 _ rfl rfl _ _ rfl (opO (false, l)) rfl K3.out.range ?_; have K4 : Hid (Blk u3 u2.heap.size (opO (false, l))) := K3; have HB4 : Hid (Below w.heap.size w u3) := HB3; have HO4 : Hid (u3.ownsRow w.heap.size 40 23 u10 os.length (cellsO os)) := HO3; have HS4 : Hid (u2.heap.size < u3.heap.size) := HGS; clear K3 HB3 HO3 HGS p0 f0 rc)
                | (have g4 := HO4; clear g4; at_builtin; refine wpList_append_own _ rfl (.tmp 70) (.tmp 72) 25 rfl w.heap.size 40 i0 opN 23 264 Tryz.underlying25 hi hz0 hz1 hz2 rfl (by decide) u10 os.length (cellsO os) rfl (HO4.out.alloc _) ⟨u3.heap.size, 0, none⟩ 1 1 (opO (false, l)) rfl rfl (fun j x hj => by rw [Addr.add_mid]; exact range_laid u3 (opO (false, l)) 40 j x hj) (opO_one _) (by have := HOL.out; unfold maxLen; omega) (by have := HOL.out; omega) (by have := HB4.out.size; simp; omega) ?_; intro v7 u7 ho7 hg7 _; have HO7 : Hid (u7.ownsRow w.heap.size 40 23 v7 (os.length + 1) (cellsO (os ++ [(false, l)]))) := (by rw [cellsO_snoc]; exact ho7); have HB7 : Hid (Below w.heap.size w u7) := (HB4.out.alloc HB4.out.size _).grown hg7 (by have := HB4.out.size; simp; omega) (fun r hr => (HLT.out r hr).1); have K7 : Hid (Blk u7 u2.heap.size (opO (false, l))) := (hg7.block _ (by have := HS4.out; simp; omega) (fun e => by have := (HLT.out _ e.symm).2; omega)).trans ((Below.heap_alloc _ _ _ HS4.out).trans K4.out); have p0 : u7.cell? ⟨u2.heap.size, 0, none⟩ = some (n64 3) := K7.out.range 0 _ rfl; have c0 := (HB7.out.cell HBL.out).trans HC.out.1; have c1 := (HB7.out.cell HBL.out).trans HC.out.2.1; have c2 := (HB7.out.cell HBL.out).trans HC.out.2.2; clear ho7 hg7 HO4 HB4 K4)
                | fail)
              all_goals go_roundw
              all_goals first | exact ⟨k + 1, by omega, by omega, by go_num, by rw [HSP.out], by rw [HSP.out], by rw [HPK.out, List.length_append]; exact HO7, fun h => by rw [HPK.out] at h; simp at h, HB7⟩ | (simp [intOf]; omega)
        · have hkR : ¬ k < R.length := HNR.out ▸ hkr
          rw [dif_neg hkR] at HPK0 HSP0
          have HPK := HPK0
          by_cases hon : On q
          · have HSP : Hid (steps (pick L R (k + 1)) (row, col) = (q.1, idx l q.2)) := by rw [HSP0.out]; unfold Xf.step; rw [if_pos hon]; rfl
            obtain ⟨ho1, ho2, ho3, ho4⟩ := hon
            go_wp2_with (first
              | (go_at_call 6; refine (H6 _).mono ?_; rintro e u2 ⟨rfl, hb⟩; have HO2 : Hid (u2.ownsRow w.heap.size 40 23 u10 os.length (cellsO os)) := owns_fresh HO.out hb; have HB2 : Hid (Below w.heap.size w u2) := HB.out.trans (hb.mono HB.out.size); clear hb HO HB c0 c1 c2; have c0 := (HB2.out.cell HBL.out).trans HC.out.1; have c1 := (HB2.out.cell HBL.out).trans HC.out.2.1; have c2 := (HB2.out.cell HBL.out).trans HC.out.2.2)
              | (have g2 := HO2; clear g2; refine stLast _ _ rfl rfl _ rfl rfl (opO (false, l)) rfl rfl rfl (opO_one _) ?_; intro u3 by3 lo3 sz3; have K3 : Hid (Blk u3 u2.heap.size (opO (false, l))) := by3; have HB3 : Hid (Below w.heap.size w u3) := HB2.out.trans (lo3.mono HB2.out.size); have HO3 : Hid (u3.ownsRow w.heap.size 40 23 u10 os.length (cellsO os)) := owns_fresh HO2.out lo3; have HLT : Hid (∀ r, u10.ownBlock = some r → w.heap.size ≤ r ∧ r < u2.heap.size) := fun r hr => ⟨(HO2.out.lt r hr).1, (HO2.out.lt r hr).2⟩; have HWG : Hid (w.heap.size ≤ u2.heap.size) := HB2.out.size; have HGS : Hid (u2.heap.size < u3.heap.size) := K3.out.lt; have p0 : u3.cell? ⟨u2.heap.size, 0, none⟩ = some (n64 3) := K3.out.range 0 _ rfl; have f0 : u3.frozen? ⟨u2.heap.size, 0, none⟩ = false := blk_frozen K3.out 0; clear HO2 HB2 by3 lo3 sz3 c0 c1 c2)
              | (have g3 := K3; clear g3; refine ld40 _ rfl rfl _ _ rfl (opO (false, l)) rfl K3.out.range ?_; have K4 : Hid (Blk u3 u2.heap.size (opO (false, l))) := K3; have HB4 : Hid (Below w.heap.size w u3) := HB3; have HO4 : Hid (u3.ownsRow w.heap.size 40 23 u10 os.length (cellsO os)) := HO3; have HS4 : Hid (u2.heap.size < u3.heap.size) := HGS; clear K3 HB3 HO3 HGS p0 f0)
              | (have g4 := HO4; clear g4; at_builtin; refine wpList_append_own _ rfl (.tmp 70) (.tmp 72) 25 rfl w.heap.size 40 i0 opN 23 264 Tryz.underlying25 hi hz0 hz1 hz2 rfl (by decide) u10 os.length (cellsO os) rfl (HO4.out.alloc _) ⟨u3.heap.size, 0, none⟩ 1 1 (opO (false, l)) rfl rfl (fun j x hj => by rw [Addr.add_mid]; exact range_laid u3 (opO (false, l)) 40 j x hj) (opO_one _) (by have := HOL.out; unfold maxLen; omega) (by have := HOL.out; omega) (by have := HB4.out.size; simp; omega) ?_; intro v7 u7 ho7 hg7 _; have HO7 : Hid (u7.ownsRow w.heap.size 40 23 v7 (os.length + 1) (cellsO (os ++ [(false, l)]))) := (by rw [cellsO_snoc]; exact ho7); have HB7 : Hid (Below w.heap.size w u7) := (HB4.out.alloc HB4.out.size _).grown hg7 (by have := HB4.out.size; simp; omega) (fun r hr => (HLT.out r hr).1); have K7 : Hid (Blk u7 u2.heap.size (opO (false, l))) := (hg7.block _ (by have := HS4.out; simp; omega) (fun e => by have := (HLT.out _ e.symm).2; omega)).trans ((Below.heap_alloc _ _ _ HS4.out).trans K4.out); have p0 : u7.cell? ⟨u2.heap.size, 0, none⟩ = some (n64 3) := K7.out.range 0 _ rfl; have c0 := (HB7.out.cell HBL.out).trans HC.out.1; have c1 := (HB7.out.cell HBL.out).trans HC.out.2.1; have c2 := (HB7.out.cell HBL.out).trans HC.out.2.2; clear ho7 hg7 HO4 HB4 K4)
              | (go_at_call 7; refine (idx_r1 l q.2 fk fa ft ⟨by omega, by omega⟩ hm ⟨by omega, by omega⟩ _).mono ?_; rintro e u8 ⟨rfl, hb8⟩; have HO8 : Hid (u8.ownsRow w.heap.size 40 23 v7 (os.length + 1) (cellsO (os ++ [(false, l)]))) := owns_fresh HO7.out hb8; have HB8 : Hid (Below w.heap.size w u8) := HB7.out.trans (hb8.mono HB7.out.size); clear hb8 HO7 HB7 K7 p0 c0 c1 c2)
              | fail)
            all_goals go_roundw
            all_goals first | exact ⟨k + 1, by omega, by omega, by go_num, by rw [HSP.out], by rw [HSP.out], by rw [HPK.out, List.length_append]; exact HO8, fun h => by rw [HPK.out] at h; simp at h, HB8⟩ | (simp [intOf]; omega)
          · have HSP : Hid (steps (pick L R (k + 1)) (row, col) = q) := by rw [HSP0.out]; exact step_off hon
            unfold On at hon
            go_wp2_with (first
              | (go_at_call 6; refine (H6 _).mono ?_; rintro e u2 ⟨rfl, hb⟩; have HO2 : Hid (u2.ownsRow w.heap.size 40 23 u10 os.length (cellsO os)) := owns_fresh HO.out hb; have HB2 : Hid (Below w.heap.size w u2) := HB.out.trans (hb.mono HB.out.size); clear hb HO HB c0 c1 c2; have c0 := (HB2.out.cell HBL.out).trans HC.out.1; have c1 := (HB2.out.cell HBL.out).trans HC.out.2.1; have c2 := (HB2.out.cell HBL.out).trans HC.out.2.2)
              | (have g2 := HO2; clear g2; refine stLast _ _ rfl rfl _ rfl rfl (opO (false, l)) rfl rfl rfl (opO_one _) ?_; intro u3 by3 lo3 sz3; have K3 : Hid (Blk u3 u2.heap.size (opO (false, l))) := by3; have HB3 : Hid (Below w.heap.size w u3) := HB2.out.trans (lo3.mono HB2.out.size); have HO3 : Hid (u3.ownsRow w.heap.size 40 23 u10 os.length (cellsO os)) := owns_fresh HO2.out lo3; have HLT : Hid (∀ r, u10.ownBlock = some r → w.heap.size ≤ r ∧ r < u2.heap.size) := fun r hr => ⟨(HO2.out.lt r hr).1, (HO2.out.lt r hr).2⟩; have HWG : Hid (w.heap.size ≤ u2.heap.size) := HB2.out.size; have HGS : Hid (u2.heap.size < u3.heap.size) := K3.out.lt; have p0 : u3.cell? ⟨u2.heap.size, 0, none⟩ = some (n64 3) := K3.out.range 0 _ rfl; have f0 : u3.frozen? ⟨u2.heap.size, 0, none⟩ = false := blk_frozen K3.out 0; clear HO2 HB2 by3 lo3 sz3 c0 c1 c2)
              | (have g3 := K3; clear g3; refine ld40 _ rfl rfl _ _ rfl (opO (false, l)) rfl K3.out.range ?_; have K4 : Hid (Blk u3 u2.heap.size (opO (false, l))) := K3; have HB4 : Hid (Below w.heap.size w u3) := HB3; have HO4 : Hid (u3.ownsRow w.heap.size 40 23 u10 os.length (cellsO os)) := HO3; have HS4 : Hid (u2.heap.size < u3.heap.size) := HGS; clear K3 HB3 HO3 HGS p0 f0)
              | (have g4 := HO4; clear g4; at_builtin; refine wpList_append_own _ rfl (.tmp 70) (.tmp 72) 25 rfl w.heap.size 40 i0 opN 23 264 Tryz.underlying25 hi hz0 hz1 hz2 rfl (by decide) u10 os.length (cellsO os) rfl (HO4.out.alloc _) ⟨u3.heap.size, 0, none⟩ 1 1 (opO (false, l)) rfl rfl (fun j x hj => by rw [Addr.add_mid]; exact range_laid u3 (opO (false, l)) 40 j x hj) (opO_one _) (by have := HOL.out; unfold maxLen; omega) (by have := HOL.out; omega) (by have := HB4.out.size; simp; omega) ?_; intro v7 u7 ho7 hg7 _; have HO7 : Hid (u7.ownsRow w.heap.size 40 23 v7 (os.length + 1) (cellsO (os ++ [(false, l)]))) := (by rw [cellsO_snoc]; exact ho7); have HB7 : Hid (Below w.heap.size w u7) := (HB4.out.alloc HB4.out.size _).grown hg7 (by have := HB4.out.size; simp; omega) (fun r hr => (HLT.out r hr).1); have K7 : Hid (Blk u7 u2.heap.size (opO (false, l))) := (hg7.block _ (by have := HS4.out; simp; omega) (fun e => by have := (HLT.out _ e.symm).2; omega)).trans ((Below.heap_alloc _ _ _ HS4.out).trans K4.out); have p0 : u7.cell? ⟨u2.heap.size, 0, none⟩ = some (n64 3) := K7.out.range 0 _ rfl; have c0 := (HB7.out.cell HBL.out).trans HC.out.1; have c1 := (HB7.out.cell HBL.out).trans HC.out.2.1; have c2 := (HB7.out.cell HBL.out).trans HC.out.2.2; clear ho7 hg7 HO4 HB4 K4)
              | fail)
            all_goals go_roundw
            all_goals first | exact ⟨k + 1, by omega, by omega, by go_num, by rw [HSP.out], by rw [HSP.out], by rw [HPK.out, List.length_append]; exact HO7, fun h => by rw [HPK.out] at h; simp at h, HB7⟩ | (simp [intOf]; omega)
      · rw [show mayL l = false by rw [Bool.eq_false_iff]; intro h; exact hm ((mayL_eq l).1 h)] at H6
        go_wp2_with (first
          | (go_at_call 6; refine (H6 _).mono ?_; rintro e u2 ⟨rfl, hb⟩; have HO2 : Hid (u2.ownsRow w.heap.size 40 23 u10 os.length (cellsO os)) := owns_fresh HO.out hb; have HB2 : Hid (Below w.heap.size w u2) := HB.out.trans (hb.mono HB.out.size); clear hb HO HB c0 c1 c2)
          | fail)
        go_roundw
        case rel => exact ⟨k + 1, by omega, by omega, by go_num, by rw [pick_no (HLK.out ▸ hm), HQ.out], by rw [pick_no (HLK.out ▸ hm), HQ.out], by rw [pick_no (HLK.out ▸ hm), ← HOS.out]; exact HO2, by rw [pick_no (HLK.out ▸ hm), ← HOS.out]; exact HZ, HB2⟩
        case measure => simp [intOf]; omega
    · have hk2 : ¬ (k < nl ∧ k < 8) := hlt
      obtain ⟨os, hos⟩ : ∃ os, os = pick L R k := ⟨_, rfl⟩
      obtain ⟨q, hq⟩ : ∃ q, q = steps (pick L R k) (row, col) := ⟨_, rfl⟩
      rw [← hos] at HO HZ
      rw [← hq]
      have HQ : Hid (q = steps os (row, col)) := by rw [hos]; exact hq
      have HOL : Hid (os.length ≤ 8) := by
        show os.length ≤ 8
        rw [hos]; exact Nat.le_trans (pick_len L R k) hk8
      have hgood : ∀ b ∈ os, GoodB b := by
        intro b hb
        rw [hos] at hb
        refine ⟨pick_may L R k b hb, ?_⟩
        obtain ⟨i, hi, hbi⟩ := pick_idx L R k b hb
        rw [hbi]
        exact (HF.out i (by omega)).1
      have HG : Hid (∀ b ∈ os, GoodB b) := hgood
      have hon : On (row, col) := ⟨hr0, hc0, by simp only; omega, by simp only; omega⟩
      have HON : Hid (On (row, col)) := hon
      clear hos hq hgood hon hlt
      by_cases h0 : os.length = 0
      · have hz := HZ.out h0
        subst hz
        have hnil : os = [] := List.length_eq_zero_iff.1 h0
        have HQ2 : Hid (q = (row, col)) := by rw [hnil] at HQ; exact HQ.out
        have e1 : q.1 = row := by rw [HQ2.out]
        have e2 : q.2 = col := by rw [HQ2.out]
        rw [e1, e2]
        clear e1 e2 HQ hnil HG HOL h0 HO HZ
        go_wp2_with (first
          | (go_at_call 8; refine (batches_0 (row, col) wr.heap.size 1 _ (range_laid wr (opS (row, col)) 40) (by simp) (by decide)).mono ?_; rintro e w2 ⟨vo, rfl, hb, gx, cx, rfl, hcx, hrx⟩; have HBF : Hid (Below w.heap.size w w2) := (HB.out.alloc HB.out.size _).trans (hb.mono (by have := HB.out.size; simp; omega)); have x2 : w2.cell? ⟨gx, 2, none⟩ = some (n64 row) := hrx 2 _ rfl; have x3 : w2.cell? ⟨gx, 3, none⟩ = some (n64 col) := hrx 3 _ rfl; clear hb hrx HB)
          | fail)
        all_goals go_ret
        all_goals refine ⟨?_, HBF.out⟩
        all_goals first | rfl | (simp; done) | (simp; omega)
      · obtain ⟨g1, c1, rfl, hc1, hg1w, hg1s, hx1⟩ := shapeO HO.out (by omega)
        have HX1 : Hid (∀ j u, (cellsO os)[j]? = some u → wr.cell? ⟨g1, 0 + j, none⟩ = some u) := hx1
        clear hx1
        by_cases hqon : On q
        · have HQO : Hid (On q) := hqon
          obtain ⟨ho1, ho2, ho3, ho4⟩ := hqon
          go_wp2_with (first
            | (go_at_call 8; refine (batches_w os (row, col) HON.out HOL.out (by omega) HG.out wr.heap.size 1 g1 c1 _ (range_laid wr (opS (row, col)) 40) (by simp) (by decide) (fun j x hj => by rw [Addr.add_mid]; exact (((Below.refl wr.heap.size wr).alloc (Nat.le_refl _) _).cell hg1s).trans (HX1.out j x hj)) (by simp; omega) hc1).mono ?_; rintro e w2 ⟨vo, q1, q2, rfl, hb, h1, h2⟩; rw [← HQ.out] at h1 h2; have HBF : Hid (Below w.heap.size w w2) := (HB.out.alloc HB.out.size _).trans (hb.mono (by have := HB.out.size; simp; omega)); obtain ⟨gx, cx, rfl, hcx, hrx⟩ := h1 HQO.out; have x2 : w2.cell? ⟨gx, 2, none⟩ = some (n64 q.1) := hrx 2 _ rfl; have x3 : w2.cell? ⟨gx, 3, none⟩ = some (n64 q.2) := hrx 3 _ rfl; clear hb h1 h2 hrx HX1 HB HO)
            | fail)
          all_goals go_ret
          all_goals refine ⟨?_, HBF.out⟩
          all_goals first | rfl | (simp; done) | (simp; omega)
        · have HQO : Hid (¬ On q) := hqon
          unfold On at hqon
          go_wp2_with (first
            | (go_at_call 8; refine (batches_w os (row, col) HON.out HOL.out (by omega) HG.out wr.heap.size 1 g1 c1 _ (range_laid wr (opS (row, col)) 40) (by simp) (by decide) (fun j x hj => by rw [Addr.add_mid]; exact (((Below.refl wr.heap.size wr).alloc (Nat.le_refl _) _).cell hg1s).trans (HX1.out j x hj)) (by simp; omega) hc1).mono ?_; rintro e w2 ⟨vo, q1, q2, rfl, hb, h1, h2⟩; rw [← HQ.out] at h1 h2; have HBF : Hid (Below w.heap.size w w2) := (HB.out.alloc HB.out.size _).trans (hb.mono (by have := HB.out.size; simp; omega)); obtain ⟨gx, cx, rfl⟩ := h2 HQO.out; clear hb h1 h2 HX1 HB HO)
            | fail)
          all_goals go_ret
          all_goals refine ⟨?_, HBF.out⟩
          all_goals first | rfl | (simp; done) | (simp; omega)
end Go.Proofs.YtglgibmjcgfecaaGreatDoor

