/- counterpanelaw18.XformRefs, walked, given what comes in. -/
import Derived.Test.YtglgibmjcgfecaaGreatDoorRBat
set_option linter.unusedSimpArgs false
set_option linter.unusedVariables false
set_option linter.unusedSimpArgs false
set_option linter.unusedVariables false
namespace Go.Proofs.YtglgibmjcgfecaaGreatDoor
open Go Go.RowKit Go.Proofs Go.Xf Go.Sort

theorem range_laid2 (w : World) (c0 : Obj) (cs : List Value) : ((w.alloc c0).alloc (.cells cs.toArray 35)).rangeAt (w.heap.size + 1) 0 cs := by
  have := range_laid (w.alloc c0) cs 35
  simpa using this
set_option maxRecDepth 100000 in
set_option maxHeartbeats 16000000 in
theorem refs_w (R : List Rf) (L : List Ln) (pr pl : Option Addr) (cr cl : Nat) (w : World) (hT : Tab w)
    (hF : ∀ i, i < L.length → Fits L[i]!.k ∧ Fits L[i]!.a ∧ Fits L[i]!.t)
    (hR : 0 < R.length → ∃ br or', pr = some ⟨br, or', none⟩ ∧ br < w.heap.size ∧ ∀ i, i < R.length → w.cell? ⟨br, or' + i * 5, none⟩ = some (.string R[i]!.s) ∧ w.cell? ⟨br, or' + i * 5 + 1, none⟩ = some (n64 R[i]!.r) ∧ w.cell? ⟨br, or' + i * 5 + 2, none⟩ = some (n64 R[i]!.c) ∧ w.cell? ⟨br, or' + i * 5 + 3, none⟩ = some (.bool R[i]!.ra) ∧ w.cell? ⟨br, or' + i * 5 + 4, none⟩ = some (.bool R[i]!.ca))
    (hL : 0 < L.length → ∃ bl ol, pl = some ⟨bl, ol, none⟩ ∧ bl < w.heap.size ∧ ∀ i, i < L.length → w.cell? ⟨bl, ol + i * 3, none⟩ = some (n64 L[i]!.k) ∧ w.cell? ⟨bl, ol + i * 3 + 1, none⟩ = some (n64 L[i]!.a) ∧ w.cell? ⟨bl, ol + i * 3 + 2, none⟩ = some (n64 L[i]!.t)) :
    Calls Tryz.prog 4 #[.slice pr R.length cr, .slice pl L.length cl] w fun e w' => e = .returned (.bool true) ∧ Below w.heap.size w w' := by
  obtain ⟨i0, hi, hz0, hz1, hz2⟩ := info_parts Tryz.info40
  obtain ⟨j0, hj, hy0, hy1, hy2⟩ := info_parts Tryz.info35
  obtain ⟨nl, hnl⟩ : ∃ nl, nl = L.length := ⟨_, rfl⟩
  obtain ⟨nr, hnr⟩ : ∃ nr, nr = R.length := ⟨_, rfl⟩
  have HL : Hid (0 < nl → ∃ bl ol, pl = some ⟨bl, ol, none⟩ ∧ bl < w.heap.size ∧ ∀ i, i < nl → w.cell? ⟨bl, ol + i * 3, none⟩ = some (n64 L[i]!.k) ∧ w.cell? ⟨bl, ol + i * 3 + 1, none⟩ = some (n64 L[i]!.a) ∧ w.cell? ⟨bl, ol + i * 3 + 2, none⟩ = some (n64 L[i]!.t)) := by rw [hnl]; exact hL
  have HR : Hid (0 < nr → ∃ br or', pr = some ⟨br, or', none⟩ ∧ br < w.heap.size ∧ ∀ i, i < nr → w.cell? ⟨br, or' + i * 5, none⟩ = some (.string R[i]!.s) ∧ w.cell? ⟨br, or' + i * 5 + 1, none⟩ = some (n64 R[i]!.r) ∧ w.cell? ⟨br, or' + i * 5 + 2, none⟩ = some (n64 R[i]!.c) ∧ w.cell? ⟨br, or' + i * 5 + 3, none⟩ = some (.bool R[i]!.ra) ∧ w.cell? ⟨br, or' + i * 5 + 4, none⟩ = some (.bool R[i]!.ca)) := by rw [hnr]; exact hR
  have HF : Hid (∀ i, i < nl → Fits L[i]!.k ∧ Fits L[i]!.a ∧ Fits L[i]!.t) := by rw [hnl]; exact hF
  have HT : Hid (Tab w) := hT
  rw [← hnl, ← hnr]
  clear hnl hnr hL hR hF hT
  go_enter Tryz.func4, Tryz.ntmps4
  go_wp2_with (first
    | (go_at_call 5; refine (begun _).mono ?_; rintro e w1 ⟨rfl, hb⟩; have HB1 : Hid (Below w.heap.size w w1) := hb; clear hb)
    | (refine st7L _ _ rfl rfl _ rfl rfl (exF sN) rfl rfl rfl (exF_one _ _ _) ?_; intro u2 by2 lo2 sz2; have RS0 : Hid (RS w w1.heap.size [] sN u2) := RS.start (HB1.out.trans (lo2.mono HB1.out.size)) by2 HB1.out.size; clear by2 lo2 sz2 HB1)
    | fail)
  obtain ⟨E, hE⟩ : ∃ E, E = w1.heap.size := ⟨_, rfl⟩
  rw [← hE] at RS0 ⊢
  clear hE
  rename_i K0 hK0
  go_loopw [7] (fun v7 u => ∃ k, k ≤ nr ∧ k ≤ 8 ∧ v7 = .int .i64 (k : Nat) ∧ Hid (∃ v, RS w E (pickR R k) v u)) (fun v7 _ => 8 - (intOf v7).toNat)
  case atStart => exact ⟨0, Nat.zero_le _, Nat.zero_le _, rfl, ⟨_, RS0.out⟩⟩
  case round =>
    obtain ⟨k, hk, hk8, rfl, HK⟩ := hrel
    by_cases hlt : k < nr ∧ k < 8
    · obtain ⟨hlt1, hlt2⟩ := hlt
      obtain ⟨br, or', rfl, hbr, hcells⟩ := HR.out (by omega)
      have hck := hcells k hlt1
      obtain ⟨ks, hks⟩ : ∃ ks, ks = pickR R k := ⟨_, rfl⟩
      obtain ⟨x, hx⟩ : ∃ x, x = R[k]! := ⟨_, rfl⟩
      rw [← hx] at hck
      rw [← hks] at HK
      obtain ⟨v, hv⟩ := HK.out
      obtain ⟨xs0, H0, hox0, hgx0⟩ := hv.own
      obtain ⟨p, q, rfl⟩ := shape7_any hox0
      have HV : Hid (RS w E ks (.slice p ks.length q) wr) := hv
      have HKS : Hid (ks = pickR R k) := hks
      have HX : Hid (x = R[k]!) := hx
      have HKL : Hid (ks.length ≤ 8) := by show ks.length ≤ 8; rw [hks]; exact Nat.le_trans (pickR_len R k) hk8
      have c0 := (HV.out.below.cell hbr).trans hck.1
      have c1 := (HV.out.below.cell hbr).trans hck.2.1
      have c2 := (HV.out.below.cell hbr).trans hck.2.2.1
      have c3 := (HV.out.below.cell hbr).trans hck.2.2.2.1
      have c4 := (HV.out.below.cell hbr).trans hck.2.2.2.2
      clear hks hx hv HK hck hcells hox0 hgx0 RS0
      have H9 := fun w => mayRef_w x.r x.c x.ra x.ca w
      by_cases hm : MayP x.r x.c
      · rw [decide_eq_true hm] at H9
        by_cases h39 : x.r < 549755813888
        · go_wp2_with (first
            | (go_at_call 9; refine (H9 _).mono ?_; rintro e u2 ⟨rfl, hb⟩; have D := laid_stays hb (by simp); have d0 := D 0; have d1 := D 1; have d2 := D 2; have d3 := D 3; have d4 := D 4; simp only [List.getElem?_toArray, List.getElem?_cons_zero, List.getElem?_cons_succ] at d0 d1 d2 d3 d4; have HV2 : Hid (RS w E ks (.slice p ks.length q) u2) := HV.out.next (below_laid hb); have p6 : u2.cell? ⟨E, 6, none⟩ = some (.slice p ks.length q) := HV2.out.blk.range 6 _ rfl; clear D hb HV c0 c1 c2 c3 c4)
            | (have g4 := HV2; clear g4; at_builtin; obtain ⟨xs, H, hox, hgx⟩ := HV2.out.own; refine wpList_append_own _ rfl (.tmp 47) (.tmp 51) 33 rfl (E + 1) 35 j0 (.agg z7.toArray) 7 96 Tryz.underlying33 hj hy0 hy1 hy2 rfl (by decide) (.slice p ks.length q) ks.length xs rfl (((owns_block hox fun g _ hg => ((Below.refl u2.heap.size u2).alloc (Nat.le_refl _) _).block g hg)).alloc _) ⟨u2.heap.size + 1, 0, none⟩ 1 1 (exR (.slice (some ⟨u2.heap.size, 0, none⟩) 1 1)) rfl rfl (fun j y hj => by rw [Addr.add_mid]; exact range_laid2 u2 _ _ j y hj) (exR_one _ _) (by have := HKL.out; unfold maxLen; omega) (by have := HKL.out; omega) (by have := HV2.out.blk.lt; simp; omega) ?_; intro v7 u7 ho7 hg7 _; obtain ⟨pp, qq, rfl⟩ := shape7_any ho7; obtain ⟨hb7, hl7, hr7⟩ := HV2.out.app (r := x.r) (c := x.c) (ra := x.ra) (ca := x.ca) hox hgx ho7 hg7; have p7 : u7.cell? ⟨E, 6, none⟩ = some (.slice p ks.length q) := hb7.range 6 _ rfl; have f7 : u7.frozen? ⟨E, 6, none⟩ = false := hb7.frozen 6; have HR7 : Hid (RS w E (ks ++ [.rf x.r x.c x.ra x.ca]) (.slice pp (ks.length + 1) qq) (u7.setCell ⟨E, 6, none⟩ (.slice pp (ks.length + 1) qq))) := hr7; clear ho7 hg7 hox hgx hb7 hl7 hr7 p6 d0 d1 d2 d3 d4 HV2)
            | fail)
          all_goals go_roundw
          all_goals first | exact ⟨k + 1, by omega, by omega, by go_num, by rw [pickR_yes (HX.out ▸ ⟨hm, h39⟩), ← HKS.out, ← HX.out]; exact ⟨_, HR7.out⟩⟩ | (simp [intOf]; omega)
        · go_wp2_with (first
            | (go_at_call 9; refine (H9 _).mono ?_; rintro e u2 ⟨rfl, hb⟩; have D := laid_stays hb (by simp); have d0 := D 0; have d1 := D 1; have d2 := D 2; have d3 := D 3; have d4 := D 4; simp only [List.getElem?_toArray, List.getElem?_cons_zero, List.getElem?_cons_succ] at d0 d1 d2 d3 d4; have HV2 : Hid (RS w E ks (.slice p ks.length q) u2) := HV.out.next (below_laid hb); have p6 : u2.cell? ⟨E, 6, none⟩ = some (.slice p ks.length q) := HV2.out.blk.range 6 _ rfl; clear D hb HV c0 c1 c2 c3 c4)
            | fail)
          all_goals go_roundw
          all_goals first | exact ⟨k + 1, by omega, by omega, by go_num, by rw [pickR_no (HX.out ▸ fun h => absurd h.2 (by omega)), ← HKS.out]; exact ⟨_, HV2.out⟩⟩ | (simp [intOf]; omega)
      · rw [decide_eq_false hm] at H9
        go_wp2_with (first
          | (go_at_call 9; refine (H9 _).mono ?_; rintro e u2 ⟨rfl, hb⟩; have D := laid_stays hb (by simp); have d0 := D 0; have d1 := D 1; have d2 := D 2; have d3 := D 3; have d4 := D 4; simp only [List.getElem?_toArray, List.getElem?_cons_zero, List.getElem?_cons_succ] at d0 d1 d2 d3 d4; have HV2 : Hid (RS w E ks (.slice p ks.length q) u2) := HV.out.next (below_laid hb); have p6 : u2.cell? ⟨E, 6, none⟩ = some (.slice p ks.length q) := HV2.out.blk.range 6 _ rfl; clear D hb HV c0 c1 c2 c3 c4)
          | fail)
        all_goals go_roundw
        all_goals first | exact ⟨k + 1, by omega, by omega, by go_num, by rw [pickR_no (HX.out ▸ fun h => hm h.1), ← HKS.out]; exact ⟨_, HV2.out⟩⟩ | (simp [intOf]; omega)
    · obtain ⟨ks, hks⟩ : ∃ ks, ks = pickR R k := ⟨_, rfl⟩
      rw [← hks] at HK
      obtain ⟨v, hv⟩ := HK.out
      obtain ⟨xs0, H0, hox0, hgx0⟩ := hv.own
      obtain ⟨p, q, rfl⟩ := shape7_any hox0
      have HS : Hid (SumAt wr wr.heap.size ks (.slice p ks.length q)) := hv.sum
      have HBK : Hid (Bl7 wr E (exF (.slice p ks.length q))) := hv.blk
      have HB : Hid (Below w.heap.size w wr) := hv.below
      have HKO : Hid (ks.length ≤ 8 ∧ ∀ x ∈ ks, ∃ r c ra ca, x = .rf r c ra ca ∧ MayP r c) := by
        show _ ∧ _
        rw [hks]; exact ⟨Nat.le_trans (pickR_len R k) hk8, pickR_ok R k⟩
      clear hks HK hv hox0 hgx0 RS0 HR
      obtain ⟨W1, hW1⟩ : ∃ W : World, W = wr := ⟨_, rfl⟩
      subst hW1
      have REST1 : ∀  (u2 u3 u7 u8 u9 u10 u11 u12 u13 u14 u15 u16 u17 u18 u19 u20 u21 u22 u23 u24 u25 u26 u27 u28 u29 u30 u31 u32 u33 u34 u35 u36 u37 u38 u39 u40 u41 u42 u43 u44 u45 u46 u47 u48 u49 u50 u51 u52 u53 u54 u55 u56 u57 u58 u59 u60 u61 u62 u63 u64 u65 u66 u67 u68 u69 u70 u71 u72 u73 u74 u75 u76 u77 u78 u79 u80 u81 u82 u83 u84 u85 u86 u87 u88 u89 u90 u91 u92 u93 u94 u95 u96 u97 u98 u99 u100 u101 u102 u103 u104 u105 u106 u107 u108 u109 u110 u111 u112 u113 u114 u115 u116 u117 u118 u119 u120 u121 u122 u123 u124 u125 u126 u127 u128 u129 u130 u131 u132 u133 u134 u135 u136 u137 u138 u139 u140 u141 u142 u143 u144 u145 u146 u147 u148 u149 u150 u151 u152 u153 u154 u155 u156 u157 u158 u159 u160 u161 u162 u163 u164 u165 u166 u167 u168 u169 u170 u171 u172 u173 u174 u175 u176 u177 u178 u179 u180 u181 u182 u183 u184 u185 u186 u187 u188 u189 u190 u191 u192 u193 u194 u195 u196 u197 u198 u199 u200 u201 u202 u203 : Value), K0 ⟨#[.slice pr nr cr, .slice pl nl cl, u2, u3, .bool false, .bool true, .pointer (some ⟨E, 0, none⟩), u7, u8, u9, u10, u11, u12, u13, u14, u15, u16, u17, u18, u19, u20, u21, u22, u23, u24, u25, u26, u27, u28, u29, u30, u31, u32, u33, u34, u35, u36, u37, u38, u39, u40, u41, u42, u43, u44, u45, u46, u47, u48, u49, u50, u51, u52, u53, u54, u55, u56, u57, u58, u59, u60, u61, u62, u63, u64, u65, u66, u67, u68, u69, u70, u71, u72, u73, u74, u75, u76, u77, u78, u79, u80, u81, u82, u83, u84, u85, u86, u87, u88, u89, u90, u91, u92, u93, u94, u95, u96, u97, u98, u99, u100, u101, u102, u103, u104, u105, u106, u107, u108, u109, u110, u111, u112, u113, u114, u115, u116, u117, u118, u119, u120, u121, u122, u123, u124, u125, u126, u127, u128, u129, u130, u131, u132, u133, u134, u135, u136, u137, u138, u139, u140, u141, u142, u143, u144, u145, u146, u147, u148, u149, u150, u151, u152, u153, u154, u155, u156, u157, u158, u159, u160, u161, u162, u163, u164, u165, u166, u167, u168, u169, u170, u171, u172, u173, u174, u175, u176, u177, u178, u179, u180, u181, u182, u183, u184, u185, u186, u187, u188, u189, u190, u191, u192, u193, u194, u195, u196, u197, u198, u199, u200, u201, u202, u203], []⟩ W1 := by
        intro  u2 u3 u7 u8 u9 u10 u11 u12 u13 u14 u15 u16 u17 u18 u19 u20 u21 u22 u23 u24 u25 u26 u27 u28 u29 u30 u31 u32 u33 u34 u35 u36 u37 u38 u39 u40 u41 u42 u43 u44 u45 u46 u47 u48 u49 u50 u51 u52 u53 u54 u55 u56 u57 u58 u59 u60 u61 u62 u63 u64 u65 u66 u67 u68 u69 u70 u71 u72 u73 u74 u75 u76 u77 u78 u79 u80 u81 u82 u83 u84 u85 u86 u87 u88 u89 u90 u91 u92 u93 u94 u95 u96 u97 u98 u99 u100 u101 u102 u103 u104 u105 u106 u107 u108 u109 u110 u111 u112 u113 u114 u115 u116 u117 u118 u119 u120 u121 u122 u123 u124 u125 u126 u127 u128 u129 u130 u131 u132 u133 u134 u135 u136 u137 u138 u139 u140 u141 u142 u143 u144 u145 u146 u147 u148 u149 u150 u151 u152 u153 u154 u155 u156 u157 u158 u159 u160 u161 u162 u163 u164 u165 u166 u167 u168 u169 u170 u171 u172 u173 u174 u175 u176 u177 u178 u179 u180 u181 u182 u183 u184 u185 u186 u187 u188 u189 u190 u191 u192 u193 u194 u195 u196 u197 u198 u199 u200 u201 u202 u203
        refine hK0 _ _ ?_
        clear hK0
        clear hlt hk hk8
        go_wp2_with (fail)
        rename_i K2 hK2
        have HBw : Hid (Below w.heap.size w W1) := HB
        go_loopw [9, 10] (fun v9 v10 u => ∃ k, k ≤ nl ∧ k ≤ 8 ∧ v10 = .int .i64 (k : Nat) ∧
          Hid (u.ownsRow W1.heap.size 40 23 v9 (pickT L k).length (cellsO (pickT L k))) ∧ Hid ((pickT L k).length = 0 → v9 = .slice none 0 0) ∧ Hid (Below W1.heap.size W1 u)) (fun _ v10 _ => 8 - (intOf v10).toNat)
        case atStart => exact ⟨0, Nat.zero_le _, Nat.zero_le _, rfl, World.ownsRow_nil _ _ _ _, fun _ => rfl, Below.refl _ _⟩
        case round =>
          obtain ⟨k, hk, hk8, rfl, HO, HZ, HB0⟩ := hrel
          by_cases hlt : k < nl ∧ k < 8
          · obtain ⟨hlt1, hlt2⟩ := hlt
            obtain ⟨bl, ol, rfl, hbl, hcells⟩ := HL.out (by omega)
            obtain ⟨os, hos⟩ : ∃ os, os = pickT L k := ⟨_, rfl⟩
            obtain ⟨l, hl⟩ : ∃ l, l = L[k]! := ⟨_, rfl⟩
            obtain ⟨fk, fa, ft⟩ := HF.out k hlt1
            have hcl := hcells k hlt1
            rw [← hl] at fk fa ft hcl
            rw [← hos] at HO HZ
            have HOS : Hid (os = pickT L k) := hos
            have HLK : Hid (l = L[k]!) := hl
            have HC : Hid (w.cell? ⟨bl, ol + k * 3, none⟩ = some (n64 l.k) ∧ w.cell? ⟨bl, ol + k * 3 + 1, none⟩ = some (n64 l.a) ∧ w.cell? ⟨bl, ol + k * 3 + 2, none⟩ = some (n64 l.t)) := hcl
            have HBL : Hid (bl < w.heap.size) := hbl
            have c0 := ((HBw.out.trans (HB0.out.mono HBw.out.size)).cell hbl).trans hcl.1
            have c1 := ((HBw.out.trans (HB0.out.mono HBw.out.size)).cell hbl).trans hcl.2.1
            have c2 := ((HBw.out.trans (HB0.out.mono HBw.out.size)).cell hbl).trans hcl.2.2
            have HOL : Hid (os.length ≤ 8) := by
              show os.length ≤ 8
              rw [hos]; exact Nat.le_trans (pickT_len L k) hk8
            have hfO := fold_O
            clear hos hl hcl hcells hbl
            have H6 := fun w => may_r l fk fa w
            by_cases hm : MayL l
            · rw [(mayL_eq l).2 hm] at H6
              go_wp2_with (first
                | (go_at_call 6; refine (H6 _).mono ?_; rintro e u2 ⟨rfl, hb⟩; have HO2 : Hid (u2.ownsRow W1.heap.size 40 23 u9 os.length (cellsO os)) := (owns_block HO.out fun g _ hg => hb.block g hg); have HB2 : Hid (Below W1.heap.size W1 u2) := HB0.out.trans (hb.mono HB0.out.size); clear hb HO HB0 c0 c1 c2; have c0 := ((HBw.out.trans (HB2.out.mono HBw.out.size)).cell HBL.out).trans HC.out.1; have c1 := ((HBw.out.trans (HB2.out.mono HBw.out.size)).cell HBL.out).trans HC.out.2.1; have c2 := ((HBw.out.trans (HB2.out.mono HBw.out.size)).cell HBL.out).trans HC.out.2.2)
                | (have g4 := HO2; clear g4; at_builtin; refine wpList_append_own _ rfl (.tmp 69) (.tmp 75) 25 rfl W1.heap.size 40 i0 opN 23 264 Tryz.underlying25 hi hz0 hz1 hz2 rfl (by decide) u9 os.length (cellsO os) rfl (HO2.out.alloc _) ⟨u2.heap.size, 0, none⟩ 1 1 (opO (true, l)) rfl rfl (fun j x hj => by rw [Addr.add_mid]; exact range_laid u2 (opO (true, l)) 40 j x hj) (opO_one _) (by have := HOL.out; unfold maxLen; omega) (by have := HOL.out; omega) (by have := HB2.out.size; simp; omega) ?_; intro v7 u7 ho7 hg7 _; have HO7 : Hid (u7.ownsRow W1.heap.size 40 23 v7 (os.length + 1) (cellsO (os ++ [(true, l)]))) := (by rw [cellsO_snoc]; exact ho7); have HB7 : Hid (Below W1.heap.size W1 u7) := (HB2.out.alloc HB2.out.size _).grown hg7 (by have := HB2.out.size; simp; omega) (fun r hr => (HO2.out.lt r hr).1); clear ho7 hg7 HO2 HB2 c0 c1 c2)
                | fail)
              all_goals go_roundw
              all_goals first | exact ⟨k + 1, by omega, by omega, by go_num, by rw [pickT_yes (HLK.out ▸ hm), ← HOS.out, ← HLK.out, List.length_append]; exact HO7, fun h => by rw [pickT_yes (HLK.out ▸ hm)] at h; simp at h, HB7⟩ | (simp [intOf]; omega)
            · rw [show mayL l = false by rw [Bool.eq_false_iff]; intro h; exact hm ((mayL_eq l).1 h)] at H6
              go_wp2_with (first
                | (go_at_call 6; refine (H6 _).mono ?_; rintro e u2 ⟨rfl, hb⟩; have HO2 : Hid (u2.ownsRow W1.heap.size 40 23 u9 os.length (cellsO os)) := (owns_block HO.out fun g _ hg => hb.block g hg); have HB2 : Hid (Below W1.heap.size W1 u2) := HB0.out.trans (hb.mono HB0.out.size); clear hb HO HB0 c0 c1 c2; have c0 := ((HBw.out.trans (HB2.out.mono HBw.out.size)).cell HBL.out).trans HC.out.1; have c1 := ((HBw.out.trans (HB2.out.mono HBw.out.size)).cell HBL.out).trans HC.out.2.1; have c2 := ((HBw.out.trans (HB2.out.mono HBw.out.size)).cell HBL.out).trans HC.out.2.2)
                | fail)
              all_goals go_roundw
              all_goals first | exact ⟨k + 1, by omega, by omega, by go_num, by rw [pickT_no (HLK.out ▸ hm), ← HOS.out]; exact HO2, by rw [pickT_no (HLK.out ▸ hm), ← HOS.out]; exact HZ, HB2⟩ | (simp [intOf]; omega)
          · obtain ⟨os, hos⟩ : ∃ os, os = pickT L k := ⟨_, rfl⟩
            rw [← hos] at HO HZ
            have HOG : Hid (os.length ≤ 8 ∧ ∀ b ∈ os, GoodT b) := by
              show _ ∧ _
              rw [hos]
              refine ⟨Nat.le_trans (pickT_len L k) hk8, fun b hb => ?_⟩
              obtain ⟨i, hi, rfl, hm⟩ := pickT_ok L k b hb
              exact ⟨rfl, hm, (HF.out i (by omega)).1⟩
            obtain ⟨n, hn⟩ : ∃ n, n = os.length := ⟨_, rfl⟩
            have HN : Hid (n = os.length) := hn
            rw [← hn] at HO HZ
            obtain ⟨p9, c9, rfl⟩ := shapeO_any HO.out
            obtain ⟨W2, hW2⟩ : ∃ W : World, W = wr := ⟨_, rfl⟩
            subst hW2
            have HP9 : Hid (0 < n → ∃ g, p9 = some ⟨g, 0, none⟩ ∧ g < W2.heap.size ∧ ∀ j, j < n → W2.rangeAt g (j * 23) (opO os[j]!)) := by
              intro h0
              obtain ⟨g, cc, e, _, _, hg, hx⟩ := shapeO HO.out h0
              simp only [Value.slice.injEq] at e
              refine ⟨g, e.1, hg, ?_⟩
              rw [hn]; exact rows_of hx
            have HB2 : Hid (Below w.heap.size w W2) := HBw.out.trans (HB0.out.mono HBw.out.size)
            have HS2 : Hid (SumAt W2 W2.heap.size ks (.slice p ks.length q)) := (HS.out.move (fun b hb => HB0.out.block b hb)).grow HB0.out.size
            have HBK2 : Hid (Bl7 W2 E (exF (.slice p ks.length q))) := HBK.out.below HB0.out HBK.out.lt
            have HT2 : Hid (Tab W2) := HT.out.next HB2.out
            clear hos hn HS HBK HB0 HBw HB HF HL
            have REST2 : ∀  (u2 u3 u7 u8 u10 u11 u12 u13 u14 u15 u16 u17 u18 u19 u20 u21 u22 u23 u24 u25 u26 u27 u28 u29 u30 u31 u32 u33 u34 u35 u36 u37 u38 u39 u40 u41 u42 u43 u44 u45 u46 u47 u48 u49 u50 u51 u52 u53 u54 u55 u56 u57 u58 u59 u60 u61 u62 u63 u64 u65 u66 u67 u68 u69 u70 u71 u72 u73 u74 u75 u76 u77 u78 u79 u80 u81 u82 u83 u84 u85 u86 u87 u88 u89 u90 u91 u92 u93 u94 u95 u96 u97 u98 u99 u100 u101 u102 u103 u104 u105 u106 u107 u108 u109 u110 u111 u112 u113 u114 u115 u116 u117 u118 u119 u120 u121 u122 u123 u124 u125 u126 u127 u128 u129 u130 u131 u132 u133 u134 u135 u136 u137 u138 u139 u140 u141 u142 u143 u144 u145 u146 u147 u148 u149 u150 u151 u152 u153 u154 u155 u156 u157 u158 u159 u160 u161 u162 u163 u164 u165 u166 u167 u168 u169 u170 u171 u172 u173 u174 u175 u176 u177 u178 u179 u180 u181 u182 u183 u184 u185 u186 u187 u188 u189 u190 u191 u192 u193 u194 u195 u196 u197 u198 u199 u200 u201 u202 u203 : Value), K2 ⟨#[.slice pr nr cr, .slice pl nl cl, u2, u3, .bool false, .bool true, .pointer (some ⟨E, 0, none⟩), u7, u8, .slice p9 n c9, u10, u11, u12, u13, u14, u15, u16, u17, u18, u19, u20, u21, u22, u23, u24, u25, u26, u27, u28, u29, u30, u31, u32, u33, u34, u35, u36, u37, u38, u39, u40, u41, u42, u43, u44, u45, u46, u47, u48, u49, u50, u51, u52, u53, u54, u55, u56, u57, u58, u59, u60, u61, u62, u63, u64, u65, u66, u67, u68, u69, u70, u71, u72, u73, u74, u75, u76, u77, u78, u79, u80, u81, u82, u83, u84, u85, u86, u87, u88, u89, u90, u91, u92, u93, u94, u95, u96, u97, u98, u99, u100, u101, u102, u103, u104, u105, u106, u107, u108, u109, u110, u111, u112, u113, u114, u115, u116, u117, u118, u119, u120, u121, u122, u123, u124, u125, u126, u127, u128, u129, u130, u131, u132, u133, u134, u135, u136, u137, u138, u139, u140, u141, u142, u143, u144, u145, u146, u147, u148, u149, u150, u151, u152, u153, u154, u155, u156, u157, u158, u159, u160, u161, u162, u163, u164, u165, u166, u167, u168, u169, u170, u171, u172, u173, u174, u175, u176, u177, u178, u179, u180, u181, u182, u183, u184, u185, u186, u187, u188, u189, u190, u191, u192, u193, u194, u195, u196, u197, u198, u199, u200, u201, u202, u203], []⟩ W2 := by
              intro  u2 u3 u7 u8 u10 u11 u12 u13 u14 u15 u16 u17 u18 u19 u20 u21 u22 u23 u24 u25 u26 u27 u28 u29 u30 u31 u32 u33 u34 u35 u36 u37 u38 u39 u40 u41 u42 u43 u44 u45 u46 u47 u48 u49 u50 u51 u52 u53 u54 u55 u56 u57 u58 u59 u60 u61 u62 u63 u64 u65 u66 u67 u68 u69 u70 u71 u72 u73 u74 u75 u76 u77 u78 u79 u80 u81 u82 u83 u84 u85 u86 u87 u88 u89 u90 u91 u92 u93 u94 u95 u96 u97 u98 u99 u100 u101 u102 u103 u104 u105 u106 u107 u108 u109 u110 u111 u112 u113 u114 u115 u116 u117 u118 u119 u120 u121 u122 u123 u124 u125 u126 u127 u128 u129 u130 u131 u132 u133 u134 u135 u136 u137 u138 u139 u140 u141 u142 u143 u144 u145 u146 u147 u148 u149 u150 u151 u152 u153 u154 u155 u156 u157 u158 u159 u160 u161 u162 u163 u164 u165 u166 u167 u168 u169 u170 u171 u172 u173 u174 u175 u176 u177 u178 u179 u180 u181 u182 u183 u184 u185 u186 u187 u188 u189 u190 u191 u192 u193 u194 u195 u196 u197 u198 u199 u200 u201 u202 u203
              refine hK2 _ _ ?_
              clear hK2
              clear hlt hk hk8
              have G2 : Hid True := trivial
              go_wp2_with (first
                | (have g := G2; clear g; clear G2; refine ld35 _ rfl rfl _ _ rfl _ rfl HBK2.out.range ?_)
                | (go_at_call 8; refine (batchesF_all os 1048576 3 ks (.slice p ks.length q) ⟨by omega, by omega⟩ (by omega) (by omega) ⟨HKO.out.1, fun x hx => by obtain ⟨r, c, ra, ca, rfl, h⟩ := HKO.out.2 x hx; exact h⟩ HOG.out.1 HOG.out.2 W2.heap.size 1 n (.slice p9 n c9) W1.heap.size _ HN.out (HT2.out.next ((Below.refl _ _).alloc (Nat.le_refl _) _)) ((HS2.out.move (fun b hb => ((Below.refl W2.heap.size W2).alloc (Nat.le_refl _) _).block b hb)).grow (by simp)) (range_laid W2 (opF 1048576 3 (.slice p ks.length q)) 40) (by simp) (by decide) (HO.out.alloc _) HZ.out).mono ?_; rintro e W3 ⟨vo, v2, rfl, hb, h1, h2⟩; have HB3 : Hid (Below W2.heap.size W2 W3) := ((Below.refl _ _).alloc (Nat.le_refl _) _).trans (hb.mono (by simp)); have HC1 : Hid (OnR (runF os (1048576, ks)).1 → ∃ g cc vk', vo = .slice (some ⟨g, 0, none⟩) 1 cc ∧ 1 ≤ cc ∧ W3.rangeAt g 0 (opF (runF os (1048576, ks)).1 3 vk') ∧ SumAt W3 W3.heap.size (runF os (1048576, ks)).2 vk') := h1; have HC2 : Hid (¬ OnR (runF os (1048576, ks)).1 → ∃ q cc, vo = .slice q 0 cc) := h2; clear hb h1 h2 HO HZ)
                | fail)
              rename_i K4 hK4
              obtain ⟨pf, hpf⟩ : ∃ pf, pf = runF os (1048576, ks) := ⟨_, rfl⟩
              rw [← hpf] at HC1 HC2
              have HPF : Hid (pf = runF os (1048576, ks)) := hpf
              clear hpf
              have hn8 : n ≤ 8 := by have := HOG.out.1; have := HN.out; omega
              have REST3 : ∀ (W4 : World) (HB4 : Hid (Below W3.heap.size W3 W4)) (u2 u3 u7 u8 u10 u11 u13 u15 u16 u17 u18 u19 u20 u21 u22 u23 u24 u25 u26 u27 u28 u29 u30 u31 u32 u33 u34 u35 u36 u37 u38 u39 u40 u41 u42 u43 u44 u45 u46 u47 u48 u49 u50 u51 u52 u53 u54 u55 u56 u57 u58 u59 u60 u61 u62 u63 u64 u65 u66 u67 u68 u69 u70 u71 u72 u73 u74 u75 u76 u77 u78 u79 u80 u81 u82 u83 u84 u85 u86 u87 u88 u89 u90 u91 u92 u93 u94 u95 u96 u97 u98 u99 u100 u101 u102 u103 u104 u105 u106 u107 u108 u109 u110 u111 u112 u113 u114 u115 u116 u117 u118 u119 u120 u121 u122 u123 u124 u125 u126 u127 u128 u129 u130 u131 u132 u133 u134 u135 u136 u137 u138 u139 u140 u141 u142 u143 u144 u145 u146 u147 u148 u149 u150 u151 u152 u153 u154 u155 u156 u157 u158 u159 u160 u161 u162 u163 u164 u165 u166 u167 u168 u169 u170 u171 u172 u173 u174 u175 u176 u177 u178 u179 u180 u181 u182 u183 u184 u185 u186 u187 u188 u189 u190 u191 u192 u193 u194 u195 u196 u197 u198 u199 u200 u201 u202 u203 : Value), K4 ⟨#[.slice pr nr cr, .slice pl nl cl, u2, u3, .bool false, .bool true, .pointer (some ⟨E, 0, none⟩), u7, u8, .slice p9 n c9, u10, u11, vo, u13, n64 pf.1, u15, u16, u17, u18, u19, u20, u21, u22, u23, u24, u25, u26, u27, u28, u29, u30, u31, u32, u33, u34, u35, u36, u37, u38, u39, u40, u41, u42, u43, u44, u45, u46, u47, u48, u49, u50, u51, u52, u53, u54, u55, u56, u57, u58, u59, u60, u61, u62, u63, u64, u65, u66, u67, u68, u69, u70, u71, u72, u73, u74, u75, u76, u77, u78, u79, u80, u81, u82, u83, u84, u85, u86, u87, u88, u89, u90, u91, u92, u93, u94, u95, u96, u97, u98, u99, u100, u101, u102, u103, u104, u105, u106, u107, u108, u109, u110, u111, u112, u113, u114, u115, u116, u117, u118, u119, u120, u121, u122, u123, u124, u125, u126, u127, u128, u129, u130, u131, u132, u133, u134, u135, u136, u137, u138, u139, u140, u141, u142, u143, u144, u145, u146, u147, u148, u149, u150, u151, u152, u153, u154, u155, u156, u157, u158, u159, u160, u161, u162, u163, u164, u165, u166, u167, u168, u169, u170, u171, u172, u173, u174, u175, u176, u177, u178, u179, u180, u181, u182, u183, u184, u185, u186, u187, u188, u189, u190, u191, u192, u193, u194, u195, u196, u197, u198, u199, u200, u201, u202, u203], []⟩ W4 := by
                intro W4 HB4 u2 u3 u7 u8 u10 u11 u13 u15 u16 u17 u18 u19 u20 u21 u22 u23 u24 u25 u26 u27 u28 u29 u30 u31 u32 u33 u34 u35 u36 u37 u38 u39 u40 u41 u42 u43 u44 u45 u46 u47 u48 u49 u50 u51 u52 u53 u54 u55 u56 u57 u58 u59 u60 u61 u62 u63 u64 u65 u66 u67 u68 u69 u70 u71 u72 u73 u74 u75 u76 u77 u78 u79 u80 u81 u82 u83 u84 u85 u86 u87 u88 u89 u90 u91 u92 u93 u94 u95 u96 u97 u98 u99 u100 u101 u102 u103 u104 u105 u106 u107 u108 u109 u110 u111 u112 u113 u114 u115 u116 u117 u118 u119 u120 u121 u122 u123 u124 u125 u126 u127 u128 u129 u130 u131 u132 u133 u134 u135 u136 u137 u138 u139 u140 u141 u142 u143 u144 u145 u146 u147 u148 u149 u150 u151 u152 u153 u154 u155 u156 u157 u158 u159 u160 u161 u162 u163 u164 u165 u166 u167 u168 u169 u170 u171 u172 u173 u174 u175 u176 u177 u178 u179 u180 u181 u182 u183 u184 u185 u186 u187 u188 u189 u190 u191 u192 u193 u194 u195 u196 u197 u198 u199 u200 u201 u202 u203
                refine hK4 _ _ ?_
                clear hK4
                have HBF : Hid (Below w.heap.size w W4) := HB2.out.trans ((HB3.out.trans (HB4.out.mono HB3.out.size)).mono HB2.out.size)
                by_cases hon : OnR pf.1
                · obtain ⟨gx, cx, vk', rfl, hcx, hrg, hsum⟩ := HC1.out hon
                  obtain ⟨p', q', rfl, hq', hkid'⟩ := hsum
                  have hnk : pf.2.length = ks.length := by rw [HPF.out, runF_len]
                  obtain ⟨nk, hk⟩ : ∃ nk, nk = ks.length := ⟨_, rfl⟩
                  have HNK : Hid (nk = ks.length ∧ nk = pf.2.length) := ⟨hk, by rw [hk, hnk]⟩
                  have HSF : Hid (0 < nk → ∃ g, p' = some ⟨g, 0, none⟩ ∧ KidsAt W3 W3.heap.size pf.2 g) := by rw [HNK.out.2]; exact hkid'
                  have HS0 : Hid (0 < nk → ∃ g, p = some ⟨g, 0, none⟩ ∧ KidsAt W2 W2.heap.size ks g) := by
                    obtain ⟨p0, q0, e0, _, h0⟩ := HS2.out
                    simp only [Value.slice.injEq] at e0
                    rw [HNK.out.1, e0.1]; exact h0
                  have HONP : Hid (OnR pf.1) := hon
                  have HB24 : Hid (Below W2.heap.size W2 W4) := HB3.out.trans (HB4.out.mono HB3.out.size)
                  have hgx : gx < W3.heap.size := World.block_lt_of_cell? _ _ (hrg 0 _ rfl)
                  have c16 : W4.cell? ⟨gx, 16, none⟩ = some (.slice p' pf.2.length q') := (HB4.out.cell hgx).trans (hrg 16 _ rfl)
                  have e6 : W4.cell? ⟨E, 6, none⟩ = some (.slice p ks.length q) := (HB24.out.cell HBK2.out.lt).trans (HBK2.out.range 6 _ rfl)
                  obtain ⟨ho1, ho2⟩ := hon
                  have hk8 : nk ≤ 8 := by rw [hk]; exact HKO.out.1
                  rw [← HNK.out.2] at c16
                  rw [← hk] at e6
                  clear hk
                  clear hrg hkid' HC1 HC2 hnk HB3 hq'
                  go_wp2_with (fail)
                  go_loopw [17] (fun v17 u => ∃ i, i ≤ nk ∧ v17 = .int .i64 (i : Nat) ∧ Hid (Below W4.heap.size W4 u)) (fun v17 _ => nk - (intOf v17).toNat)
                  case atStart => exact ⟨0, Nat.zero_le _, rfl, Below.refl _ _⟩
                  case round =>
                    obtain ⟨i, hik, rfl, HBi⟩ := hrel
                    by_cases hlt : i < nk
                    · obtain ⟨ge, rfl, hge, hkid⟩ := HS0.out (by omega)
                      obtain ⟨vs, hvs, hrg⟩ := hkid i (by rw [← HNK.out.1]; exact hlt)
                      have hil : i < ks.length := by rw [← HNK.out.1]; exact hlt
                      have hif : i < pf.2.length := by rw [← HNK.out.2]; exact hlt
                      obtain ⟨r0, cc0, ra0, ca0, e0, hm0⟩ := HKO.out.2 ks[i]! (by rw [getElem!_pos ks i hil]; exact List.getElem_mem hil)
                      have HE0 : Hid (ks[i]! = .rf r0 cc0 ra0 ca0) := e0
                      rw [e0] at hvs
                      obtain ⟨h0, q0, rfl, hq0, hh0, hr0⟩ := hvs
                      obtain ⟨kf, hkf⟩ : ∃ kf, kf = pf.2[i]! := ⟨_, rfl⟩
                      have HKF : Hid (kf = pf.2[i]!) := hkf
                      obtain ⟨g', hgp, hg', hkid'⟩ := HSF.out (by omega)
                      subst hgp
                      obtain ⟨vs', hvs', hrg'⟩ := hkid' i hif
                      rw [← hkf] at hvs'
                      have HV : Hid (KidAt W3 W3.heap.size kf vs' ∧ W3.rangeAt g' (i * 7) vs' ∧ g' < W3.heap.size) := ⟨hvs', hrg', hg'⟩
                      have HKK : Hid (kf.Ok) := by
                        have := (GoodK.run os (q := (1048576, ks)) ⟨HKO.out.1, fun x hx => by obtain ⟨r, c, ra, ca, rfl, h⟩ := HKO.out.2 x hx; exact h⟩).2
                        rw [← HPF.out] at this
                        exact this kf (by rw [hkf, getElem!_pos pf.2 i hif]; exact List.getElem_mem hif)
                      have HB2i : Hid (Below W2.heap.size W2 wr) := HB24.out.trans (HBi.out.mono HB24.out.size)
                      have e6i : wr.cell? ⟨E, 6, none⟩ = some (.slice (some ⟨ge, 0, none⟩) nk q) := (HBi.out.cell (World.block_lt_of_cell? _ _ e6)).trans e6
                      have e5i : wr.cell? ⟨ge, i * 7 + 5, none⟩ = some (.slice (some ⟨h0, 0, none⟩) 1 q0) := (HB2i.out.cell hge).trans (hrg 5 _ rfl)
                      have e1i : wr.cell? ⟨h0, 1, none⟩ = some (n64 r0) := (HB2i.out.cell hh0).trans (hr0 1 _ rfl)
                      clear hkid hrg e0 hq0 hr0 hkf hkid' hrg' hvs' c16
                      go_wp2_with (fail)
                      rename_i K8 hK8
                      have REST4 : ∀ (W5 : World) (HB5 : Hid (Below W4.heap.size W4 W5)) (u4 u19 u135 u136 u137 u138 u139 u140 u141 u142 u143 u144 u145 u146 u147 u148 u149 u150 u151 u152 u153 u154 u155 u156 u157 u158 u159 u160 u161 u162 u163 u164 u165 u166 u167 u168 u169 u170 u171 u172 u173 u174 u175 u176 u177 u178 u179 u180 u181 u182 u183 u184 u185 u186 u187 u188 u189 u190 u191 u192 u193 u194 u195 u196 u197 u198 u199 u200 u201 u202 : Value), K8 ⟨#[.slice pr nr cr, .slice pl nl cl, u2, u3, u4, .bool true, .pointer (some ⟨E, 0, none⟩), u7, u8, .slice p9 n c9, u10, u11, .slice (some ⟨gx, 0, none⟩) 1 cx, u13, n64 pf.1, u15, .slice (some ⟨g', 0, none⟩) nk q', .int .i64 (i : Nat), n64 (rowK kf), u19, u20, u21, u22, u23, u24, u25, u26, u27, u28, u29, u30, u31, u32, u33, u34, u35, u36, u37, u38, u39, u40, u41, u42, u43, u44, u45, u46, u47, u48, u49, u50, u51, u52, u53, u54, u55, u56, u57, u58, u59, u60, u61, u62, u63, u64, u65, u66, u67, u68, u69, u70, u71, u72, u73, u74, u75, u76, u77, u78, u79, u80, u81, u82, u83, u84, u85, u86, u87, u88, u89, u90, u91, u92, u93, u94, u95, u96, u97, u98, u99, u100, u101, u102, u103, u104, u105, u106, u107, n64 pf.1, .bool (decide (pf.1 < 0)), .bool (decide (pf.1 < 0)), n64 pf.1, .bool (decide (2199023255552 ≤ pf.1)), .bool (decide (pf.1 < 0) || decide (2199023255552 ≤ pf.1)), u114, u115, u116, u117, u118, u119, .slice (some ⟨gx, 0, none⟩) 1 cx, .int .i64 1, .bool false, .slice (some ⟨gx, 0, none⟩) 1 cx, .pointer (some ⟨gx, 0, none⟩), .pointer (some ⟨gx, 4, none⟩), .pointer (some ⟨gx, 10, none⟩), .pointer (some ⟨gx, 16, none⟩), .slice (some ⟨g', 0, none⟩) nk q', .slice (some ⟨g', 0, none⟩) nk q', .int .i64 (nk : Nat), .pointer (some ⟨E, 6, none⟩), .slice (some ⟨ge, 0, none⟩) nk q, .int .i64 (nk : Nat), .bool false, u135, u136, u137, u138, u139, u140, u141, u142, u143, u144, u145, u146, u147, u148, u149, u150, u151, u152, u153, u154, u155, u156, u157, u158, u159, u160, u161, u162, u163, u164, u165, u166, u167, u168, u169, u170, u171, u172, u173, u174, u175, u176, u177, u178, u179, u180, u181, u182, u183, u184, u185, u186, u187, u188, u189, u190, u191, u192, u193, u194, u195, u196, u197, u198, u199, u200, u201, u202, u203], []⟩ W5 := by
                        intro W5 HB5 u4 u19 u135 u136 u137 u138 u139 u140 u141 u142 u143 u144 u145 u146 u147 u148 u149 u150 u151 u152 u153 u154 u155 u156 u157 u158 u159 u160 u161 u162 u163 u164 u165 u166 u167 u168 u169 u170 u171 u172 u173 u174 u175 u176 u177 u178 u179 u180 u181 u182 u183 u184 u185 u186 u187 u188 u189 u190 u191 u192 u193 u194 u195 u196 u197 u198 u199 u200 u201 u202
                        refine hK8 _ _ ?_
                        clear hK8
                        have HB35 : Hid (Below W3.heap.size W3 W5) := HB4.out.trans (HB5.out.mono HB4.out.size)
                        clear e6i e5i e1i e6
                        cases kf with
                        | rf r1 cc1 ra1 ca1 =>
                          obtain ⟨h1, q1, rfl, hq1, hh1, hr1⟩ := HV.out.1
                          have d0 : W5.cell? ⟨g', i * 7, none⟩ = some (n64 5) := (HB35.out.cell HV.out.2.2).trans (HV.out.2.1 0 _ rfl)
                          have d5 : W5.cell? ⟨g', i * 7 + 5, none⟩ = some (.slice (some ⟨h1, 0, none⟩) 1 q1) := (HB35.out.cell HV.out.2.2).trans (HV.out.2.1 5 _ rfl)
                          have d1 : W5.cell? ⟨h1, 1, none⟩ = some (n64 r1) := (HB35.out.cell hh1).trans (hr1 1 _ rfl)
                          have hr : 0 ≤ r1 := HKK.out.1
                          clear hq1 hr1
                          rw [show rowK (Kid.rf r1 cc1 ra1 ca1) = r1 from rfl]
                          go_wp2_with (fail)
                          all_goals go_roundw
                          all_goals first | exact ⟨i + 1, by omega, by go_num, HB5⟩ | (simp [intOf]; omega)
                        | er =>
                          have e : vs' = exE := HV.out.1
                          subst e
                          have d0 : W5.cell? ⟨g', i * 7, none⟩ = some (n64 4) := (HB35.out.cell HV.out.2.2).trans (HV.out.2.1 0 _ rfl)
                          rw [show rowK Kid.er = -1 from rfl]
                          go_wp2_with (fail)
                          all_goals go_roundw
                          all_goals first | exact ⟨i + 1, by omega, by go_num, HB5⟩ | (simp [intOf]; omega)
                      go_loopw [18, 19] (fun v18 v19 u => ∃ j, j ≤ n ∧ v19 = .int .i64 (j : Nat) ∧ v18 = n64 (rowK (runF (os.take j) (1048576, ks)).2[i]!) ∧ Hid (Below W4.heap.size W4 u)) (fun _ v19 _ => n - (intOf v19).toNat)
                      case atStart => exact ⟨0, Nat.zero_le _, rfl, by rw [show runF (os.take 0) (1048576, ks) = (1048576, ks) from rfl]; show _ = n64 (rowK ks[i]!); rw [HE0.out]; rfl, HBi⟩
                      case round =>
                        obtain ⟨j, hjn, rfl, rfl, HBi⟩ := hrel
                        by_cases hlj : j < n
                        · obtain ⟨x, hx⟩ : ∃ x, x = (runF (os.take j) (1048576, ks)).2[i]! := ⟨_, rfl⟩
                          have hjl : j < os.length := HN.out ▸ hlj
                          have HXN : Hid ((runF (os.take (j + 1)) (1048576, ks)).2[i]! = stepK os[j]!.2 x) := by
                            rw [hx]; exact kid_next (q := (1048576, ks)) hjl (by rw [← HPF.out]; exact HONP.out) hil
                          have HXO : Hid (x.Ok) := by
                            have := (GoodK.run (os.take j) (q := (1048576, ks)) ⟨HKO.out.1, fun x hx => by obtain ⟨r, c, ra, ca, rfl, h⟩ := HKO.out.2 x hx; exact h⟩).2
                            exact this x (by rw [hx, getElem!_pos _ i (by rw [runF_len]; exact hil)]; exact List.getElem_mem _)
                          rw [← hx]
                          cases x with
                          | rf r1 cc1 ra1 ca1 =>
                            obtain ⟨b, hb⟩ : ∃ b, b = os[j]! := ⟨_, rfl⟩
                            have HGB : Hid (GoodT b) := HOG.out.2 b (by rw [hb, getElem!_pos os j hjl]; exact List.getElem_mem hjl)
                            obtain ⟨g9, hp9, hg9, hrow⟩ := HP9.out (by omega)
                            subst hp9
                            have HRW : Hid (wr.rangeAt g9 (j * 23) (opO b)) := by
                              rw [hb]; exact range_block (hrow j hlj) ((HB24.out.trans (HBi.out.mono HB24.out.size)).block g9 hg9)
                            rw [← hb] at HXN
                            have c0 := HRW.out 17 _ rfl
                            have c1 := HRW.out 18 _ rfl
                            have c2 := HRW.out 19 _ rfl
                            have HXR : Hid (rowK (runF (os.take (j + 1)) (1048576, ks)).2[i]! = if 2199023255552 ≤ idx b.2 r1 then -1 else idx b.2 r1) := by show _ = _; rw [HXN.out, rowK_step]
                            have hr0 : 0 ≤ r1 := HXO.out.1
                            have hr1 : r1 < 2199023255552 := HXO.out.2.1
                            clear REST4 hK8 hrow hx hb e6i e5i e1i e6
                            rw [show rowK (Kid.rf r1 cc1 ra1 ca1) = r1 from rfl]
                            go_wp2_with (first
                              | (go_at_call 7; refine (idx_r1 b.2 r1 HGB.out.2.2 HGB.out.a HGB.out.t ⟨by omega, by omega⟩ HGB.out.2.1 ⟨by omega, by omega⟩ _).mono ?_; rintro e u8 ⟨rfl, hb8⟩; have HB8 : Hid (Below W4.heap.size W4 u8) := HBi.out.trans (hb8.mono HBi.out.size); clear hb8 HBi c0 c1 c2)
                              | fail)
                            all_goals go_roundw
                            all_goals first | exact ⟨j + 1, by omega, by go_num, by rw [HXR.out]; first | rw [if_pos (by omega)] | rw [if_neg (by omega)], HB8⟩ | (simp [intOf]; omega)
                          | er =>
                            have ekf : kf = .er := by rw [HKF.out, HPF.out]; exact er_upto (q := (1048576, ks)) j hil hx.symm
                            have e : (-1 : Int) = rowK kf := by rw [ekf]; rfl
                            rw [show rowK Kid.er = rowK kf by rw [ekf]]
                            have hneg : rowK kf < 0 := by rw [← e]; decide
                            clear hK8 hx ekf e6i e5i e1i e6 e
                            go_wp2_with (fail)
                            all_goals first | exact HBi | (exact REST4 wr HBi _ _ _ _ _ _ _ _ _ _ _ _ _ _ _ _ _ _ _ _ _ _ _ _ _ _ _ _ _ _ _ _ _ _ _ _ _ _ _ _ _ _ _ _ _ _ _ _ _ _ _ _ _ _ _ _ _ _ _ _ _ _ _ _ _ _ _ _ _ _)
                        · have e : (runF (os.take j) (1048576, ks)).2[i]! = kf := by rw [HKF.out, HPF.out, show j = os.length by have := HN.out; omega, List.take_length]
                          rw [e]
                          clear hK8 e6i e5i e1i e6
                          go_wp2_with (fail)
                          all_goals first | exact HBi | (exact REST4 wr HBi _ _ _ _ _ _ _ _ _ _ _ _ _ _ _ _ _ _ _ _ _ _ _ _ _ _ _ _ _ _ _ _ _ _ _ _ _ _ _ _ _ _ _ _ _ _ _ _ _ _ _ _ _ _ _ _ _ _ _ _ _ _ _ _ _ _ _ _ _ _)
                    · have e : i = nk := by omega
                      subst e
                      clear e6
                      go_wp2_with (fail)
                      go_ret
                      exact ⟨rfl, HBF.out.trans (HBi.out.mono HBF.out.size)⟩
                · obtain ⟨qx, cx, rfl⟩ := HC2.out hon
                  unfold OnR at hon
                  clear HC1 HC2
                  go_wp2_with (fail)
                  all_goals go_ret
                  all_goals refine ⟨?_, HBF.out⟩
                  all_goals first | rfl | (simp; done) | (simp; omega)
              go_loopw [14, 15] (fun v14 v15 u => ∃ j, j ≤ n ∧ v15 = .int .i64 (j : Nat) ∧ v14 = n64 (runF (os.take j) (1048576, ks)).1 ∧ Hid (Below W3.heap.size W3 u)) (fun _ v15 _ => n - (intOf v15).toNat)
              case atStart => exact ⟨0, Nat.zero_le _, rfl, rfl, Below.refl _ _⟩
              case round =>
                obtain ⟨j, hjn, rfl, rfl, HBw⟩ := hrel
                by_cases hlt : j < n
                · obtain ⟨b, hb⟩ : ∃ b, b = os[j]! := ⟨_, rfl⟩
                  have hjl : j < os.length := HN.out ▸ hlt
                  have HGB : Hid (GoodT b) := HOG.out.2 b (by rw [hb, getElem!_pos os j hjl]; exact List.getElem_mem hjl)
                  have HNX : Hid (runF (os.take (j + 1)) (1048576, ks) = stF b (runF (os.take j) (1048576, ks))) := by rw [hb]; exact runF_next hjl
                  obtain ⟨g9, rfl, hg9, hrow⟩ := HP9.out (by omega)
                  have HRW : Hid (wr.rangeAt g9 (j * 23) (opO b)) := by
                    rw [hb]; exact range_block (hrow j hlt) ((HB3.out.trans (HBw.out.mono HB3.out.size)).block g9 hg9)
                  obtain ⟨x, hx⟩ : ∃ x, x = runF (os.take j) (1048576, ks) := ⟨_, rfl⟩
                  rw [← hx] at HNX ⊢
                  have HX : Hid (x = runF (os.take j) (1048576, ks)) := hx
                  clear hx hb hrow
                  have c0 := HRW.out 17 _ rfl
                  have c1 := HRW.out 18 _ rfl
                  have c2 := HRW.out 19 _ rfl
                  by_cases hon : OnR x.1
                  · have HON : Hid (OnR x.1) := hon
                    have HNX2 : Hid ((runF (os.take (j + 1)) (1048576, ks)).1 = idx b.2 x.1) := by show _ = _; rw [HNX.out, stF_on hon]
                    obtain ⟨ho1, ho2⟩ := hon
                    clear REST3 hK4
                    go_wp2_with (first
                      | (go_at_call 7; refine (idx_r1 b.2 x.1 HGB.out.2.2 HGB.out.a HGB.out.t ⟨by omega, by omega⟩ HGB.out.2.1 ⟨by omega, by omega⟩ _).mono ?_; rintro e u8 ⟨rfl, hb8⟩; have HB8 : Hid (Below W3.heap.size W3 u8) := HBw.out.trans (hb8.mono HBw.out.size); clear hb8 HBw c0 c1 c2)
                      | fail)
                    all_goals go_roundw
                    all_goals first | exact ⟨j + 1, by omega, by go_num, by rw [HNX2.out], HB8⟩ | (simp [intOf]; omega)
                  · have e : x.1 = pf.1 := by rw [HPF.out, HX.out]; exact congrArg Prod.fst (runF_upto j (by rw [← HX.out]; exact hon)).symm
                    have HON : Hid (¬ OnR x.1) := hon
                    rw [e] at hon ⊢
                    unfold OnR at hon
                    clear hK4 c0 c1 c2
                    go_wp2_with (fail)
                    all_goals first | exact HBw | (exact REST3 wr HBw _ _ _ _ _ _ _ _ _ _ _ _ _ _ _ _ _ _ _ _ _ _ _ _ _ _ _ _ _ _ _ _ _ _ _ _ _ _ _ _ _ _ _ _ _ _ _ _ _ _ _ _ _ _ _ _ _ _ _ _ _ _ _ _ _ _ _ _ _ _ _ _ _ _ _ _ _ _ _ _ _ _ _ _ _ _ _ _ _ _ _ _ _ _ _ _ _ _ _ _ _ _ _ _ _ _ _ _ _ _ _ _ _ _ _ _ _ _ _ _ _ _ _ _ _ _ _ _ _ _ _ _ _ _ _ _ _ _ _ _ _ _ _ _ _ _ _ _ _ _ _ _ _ _ _ _ _ _ _ _ _ _ _ _ _ _ _ _ _ _ _ _ _ _ _ _ _ _ _ _ _ _ _ _ _ _ _ _ _ _ _ _ _ _ _ _)
                · have e : (runF (os.take j) (1048576, ks)).1 = pf.1 := by rw [HPF.out, show j = os.length by have := HN.out; omega, List.take_length]
                  rw [e]
                  clear hK4
                  go_wp2_with (fail)
                  all_goals first | exact HBw | (exact REST3 wr HBw _ _ _ _ _ _ _ _ _ _ _ _ _ _ _ _ _ _ _ _ _ _ _ _ _ _ _ _ _ _ _ _ _ _ _ _ _ _ _ _ _ _ _ _ _ _ _ _ _ _ _ _ _ _ _ _ _ _ _ _ _ _ _ _ _ _ _ _ _ _ _ _ _ _ _ _ _ _ _ _ _ _ _ _ _ _ _ _ _ _ _ _ _ _ _ _ _ _ _ _ _ _ _ _ _ _ _ _ _ _ _ _ _ _ _ _ _ _ _ _ _ _ _ _ _ _ _ _ _ _ _ _ _ _ _ _ _ _ _ _ _ _ _ _ _ _ _ _ _ _ _ _ _ _ _ _ _ _ _ _ _ _ _ _ _ _ _ _ _ _ _ _ _ _ _ _ _ _ _ _ _ _ _ _ _ _ _ _ _ _ _ _ _ _ _ _)
            clear hK2
            go_wp2_with (fail)
            all_goals exact REST2 _ _ _ _ _ _ _ _ _ _ _ _ _ _ _ _ _ _ _ _ _ _ _ _ _ _ _ _ _ _ _ _ _ _ _ _ _ _ _ _ _ _ _ _ _ _ _ _ _ _ _ _ _ _ _ _ _ _ _ _ _ _ _ _ _ _ _ _ _ _ _ _ _ _ _ _ _ _ _ _ _ _ _ _ _ _ _ _ _ _ _ _ _ _ _ _ _ _ _ _ _ _ _ _ _ _ _ _ _ _ _ _ _ _ _ _ _ _ _ _ _ _ _ _ _ _ _ _ _ _ _ _ _ _ _ _ _ _ _ _ _ _ _ _ _ _ _ _ _ _ _ _ _ _ _ _ _ _ _ _ _ _ _ _ _ _ _ _ _ _ _ _ _ _ _ _ _ _ _ _ _ _ _ _ _ _ _ _ _ _ _ _ _ _ _ _ _ _

      clear hK0
      go_wp2_with (fail)
      all_goals exact REST1 _ _ _ _ _ _ _ _ _ _ _ _ _ _ _ _ _ _ _ _ _ _ _ _ _ _ _ _ _ _ _ _ _ _ _ _ _ _ _ _ _ _ _ _ _ _ _ _ _ _ _ _ _ _ _ _ _ _ _ _ _ _ _ _ _ _ _ _ _ _ _ _ _ _ _ _ _ _ _ _ _ _ _ _ _ _ _ _ _ _ _ _ _ _ _ _ _ _ _ _ _ _ _ _ _ _ _ _ _ _ _ _ _ _ _ _ _ _ _ _ _ _ _ _ _ _ _ _ _ _ _ _ _ _ _ _ _ _ _ _ _ _ _ _ _ _ _ _ _ _ _ _ _ _ _ _ _ _ _ _ _ _ _ _ _ _ _ _ _ _ _ _ _ _ _ _ _ _ _ _ _ _ _ _ _ _ _ _ _ _ _ _ _ _ _ _ _ _ _
end Go.Proofs.YtglgibmjcgfecaaGreatDoor

