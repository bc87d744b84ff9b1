/- region.bands. -/
import Derived.Test.YtjngjfgbholgpaaWalks
set_option linter.unusedSimpArgs false
set_option linter.unusedVariables false
namespace Go.Proofs.Ytjngjfgbholgpaa
open Go Go.RowKit Go.Proofs Go.Reg Go.Lib

/-- The row at that place holds these numbers. -/
structure RowI (w : World) (blk off : Nat) (l : List Int) : Prop where
  lt : blk < w.heap.size
  c : ∀ i, i < l.length → w.cell? ⟨blk, off + i, none⟩ = some (n64 l[i]!)
theorem RowI.fresh {w w' : World} {blk off : Nat} {l : List Int} (h : RowI w blk off l) {B : Nat} (hb : Below B w w') (hB : blk < B) : RowI w' blk off l :=
  ⟨Nat.lt_of_lt_of_le h.lt hb.size, fun i hi => (hb.cell hB).trans (h.c i hi)⟩

def bst (f : Int → List Sp) (l : List Int) (i : Nat) : List Rc × Nat × List Sp := ((l.zip l.tail).take i).foldl (bstep f) ([], 0, [])
theorem bst_zero (f : Int → List Sp) (l : List Int) : bst f l 0 = ([], 0, []) := rfl
theorem bst_succ (f : Int → List Sp) (l : List Int) (i : Nat) (hi : i + 1 < l.length) : bst f l (i + 1) = bstep f (bst f l i) (l[i]!, l[i + 1]!) := by
  have h : i < (l.zip l.tail).length := by simp; omega
  rw [bst, List.take_succ_eq_append_getElem h, List.foldl_append]
  simp only [List.foldl_cons, List.foldl_nil, List.getElem_zip, List.getElem_tail]
  rw [getElem!_pos l i (by omega), getElem!_pos l (i + 1) hi]
  rfl
theorem bst_all (f : Int → List Sp) (l : List Int) (i : Nat) (hi : ¬ i + 1 < l.length) : (bst f l i).1 = bandsF f l := by
  rw [bst, List.take_of_length_le (by simp; omega)]; rfl
theorem bstep_len (f : Int → List Sp) (hf : ∀ r, (f r).length ≤ 256) (st : List Rc × Nat × List Sp) (p : Int × Int) : (bstep f st p).1.length ≤ st.1.length + 256 := by
  unfold bstep
  split
  · simp; omega
  · have := hf p.1; simp; omega
set_option maxRecDepth 20000 in
theorem bst_len (f : Int → List Sp) (hf : ∀ r, (f r).length ≤ 256) (l : List Int) : ∀ i, (bst f l i).1.length ≤ i * 256
  | 0 => by simp [bst_zero]
  | i + 1 => by
    have ih := bst_len f hf l i
    by_cases hi : i + 1 < l.length
    · rw [bst_succ f l i hi]
      have := bstep_len f hf (bst f l i) (l[i]!, l[i + 1]!)
      omega
    · have : bst f l (i + 1) = bst f l i := by
        rw [bst, bst, List.take_of_length_le (by simp; omega), List.take_of_length_le (by simp; omega)]
      rw [this]; omega

theorem own_ne {w : World} {B B' n m : Nat} {v v' : Value} {xs ys : List Value} (h : w.ownsRow B 27 4 v n xs) (h' : w.ownsRow B' 44 2 v' m ys) : v'.ownBlock = none ∨ v'.ownBlock ≠ v.ownBlock := by
  rcases h'.2 with ⟨rfl, _⟩ | ⟨g, cap, cur, rfl, _, hg, _⟩
  · exact .inl rfl
  · refine .inr fun e => ?_
    rcases h.2 with ⟨rfl, _⟩ | ⟨g2, cap2, cur2, rfl, _, hg2, _⟩
    · simp [Value.ownBlock] at e
    · simp [Value.ownBlock] at e
      subst e
      rw [hg] at hg2
      simp at hg2

theorem below_drewN {B : Nat} {w w' : World} (h : Below B w w') (q : Nat) : Below B w (w'.drewN q) := ⟨h.os, h.tape, h.output, h.size, h.block⟩

theorem shape {w : World} {B : Nat} {e : TypeId} {size n : Nat} {v : Value} {xs : List Value} (h : w.ownsRow B e size v n xs) : ∃ p c, v = .slice p n c ∧ (n ≠ 0 → ∃ g, p = some ⟨g, 0, none⟩) := by
  rcases h.2 with ⟨rfl, rfl⟩ | ⟨g, cap, cur, rfl, _⟩
  · exact ⟨_, _, rfl, fun h => absurd rfl h⟩
  · exact ⟨_, _, rfl, fun _ => ⟨g, rfl⟩⟩

theorem eq_any {w : World} {B B' : Nat} {v v' : Value} {x y : List Sp} (h : w.ownsRow B 44 2 v x.length (cellsS x)) (h' : w.ownsRow B' 44 2 v' y.length (cellsS y)) (hx : x ≠ []) (hn : x.length ≤ 256) :
    Calls Try.prog 23 #[v, v'] w fun e w' => e = .returned (.bool (decide (x = y))) ∧ ∃ q, w' = w.drewN q := by
  obtain ⟨p, c, rfl, hp⟩ := shape h
  obtain ⟨p', c', rfl, hp'⟩ := shape h'
  by_cases hl : x.length = y.length
  · have h0 : x.length ≠ 0 := fun h => hx (List.length_eq_zero_iff.1 h)
    obtain ⟨g, rfl⟩ := hp h0
    obtain ⟨g', rfl⟩ := hp' (by omega)
    exact eq_row g 0 c g' 0 c' x y w (owns_rowS h).2.1 (owns_rowS h').2.1 hl (by omega)
  · refine (eq_len p p' _ c _ c' w hl).mono ?_
    rintro e w' ⟨rfl, rfl⟩
    exact ⟨by rw [decide_eq_false (fun h : x = y => hl (by rw [h]))], 0, rfl⟩

set_option maxRecDepth 100000 in
set_option maxHeartbeats 8000000 in
theorem bands_row (ba oa ca : Nat) (l : List Int) (cb : Value) (f : Int → List Sp) (w : World) (hA : RowI w ba oa l) (hn : l.length ≤ 600) (hf : ∀ r, (f r).length ≤ 256)
    (hc : ∀ (row : Int) (W : World), Below w.heap.size w W → Calls Try.prog 22 #[.int .i64 row, cb] W fun e w' => ∃ v, e = .returned v ∧ w'.ownsRow W.heap.size 44 2 v (f row).length (cellsS (f row)) ∧ Below W.heap.size W w') :
    Calls Try.prog 14 #[.slice (some ⟨ba, oa, none⟩) l.length ca, .func (.func 22) #[] #[cb]] w fun e w' => ∃ v, e = .returned v ∧ w'.ownsRow w.heap.size 27 4 v (bandsF f l).length (cellsR (bandsF f l)) ∧ Below w.heap.size w w' := by
  obtain ⟨i0, hi, hz0, hz1, hz2⟩ := info_parts Try.info27
  have HA : Hid (RowI w ba oa l) := hA
  have HF : Hid (∀ r, (f r).length ≤ 256) := hf
  have HC : Hid (∀ (row : Int) (W : World), Below w.heap.size w W → Calls Try.prog 22 #[.int .i64 row, cb] W fun e w' => ∃ v, e = .returned v ∧ w'.ownsRow W.heap.size 44 2 v (f row).length (cellsS (f row)) ∧ Below W.heap.size W w') := hc
  obtain ⟨n, hnn⟩ : ∃ n, n = l.length := ⟨_, rfl⟩
  rw [← hnn] at hn ⊢
  have HN : Hid (n = l.length) := hnn
  clear hnn hA hf hc
  go_enter Try.func14, Try.ntmps14
  go_wp2
  go_loopw [5, 6, 7, 8] (fun v5 v6 v7 v8 wr => ∃ (i : Nat), (i + 1 ≤ n ∨ i = 0) ∧ v8 = .int .i64 i ∧ v7 = .int .i64 (bst f l i).2.1 ∧ Hid (wr.ownsRow w.heap.size 27 4 v5 (bst f l i).1.length (cellsR (bst f l i).1)) ∧ Hid (wr.ownsRow w.heap.size 44 2 v6 (bst f l i).2.2.length (cellsS (bst f l i).2.2)) ∧ Hid (Below w.heap.size w wr)) (fun _ _ _ v8 _ => n - (intOf v8).toNat)
  case atStart => exact ⟨0, .inr rfl, rfl, rfl, World.ownsRow_nil _ _ _ _, World.ownsRow_nil _ _ _ _, Below.refl _ _⟩
  case round =>
    obtain ⟨i, hin, rfl, hv7, HO, HL, HB⟩ := hrel
    by_cases hlt : i + 1 < n
    · obtain ⟨a, ha⟩ : ∃ a, a = l[i]! := ⟨_, rfl⟩
      obtain ⟨b, hb⟩ : ∃ b, b = l[i + 1]! := ⟨_, rfl⟩
      have hW := HA.out.fresh HB.out HA.out.lt
      have hca := hW.c i (by have := HN.out; omega)
      have hcb := hW.c (i + 1) (by have := HN.out; omega)
      rw [← ha] at hca
      rw [← hb] at hcb
      have HS : Hid (bst f l (i + 1) = bstep f (bst f l i) (a, b)) := by
        rw [ha, hb]; exact bst_succ f l i (by have := HN.out; omega)
      have hbl := bst_len f HF.out l i
      obtain ⟨st, hst⟩ : ∃ st, st = bst f l i := ⟨_, rfl⟩
      rw [← hst] at HO HL hv7 hbl HS
      have HBB : Hid (l[i + 1]! = b) := hb.symm
      have HAA : Hid (l[i]! = a) := ha.symm
      clear hst ha hb hW hin
      obtain ⟨out, fr, last⟩ := st
      simp only at HO HL hv7 hbl HS
      subst hv7
      have hb0 := HB.out.size
      by_cases h0 : f a = []
      · have hS0 : Hid (bst f l (i + 1) = (out, out.length, [])) := by
          have e : bst f l (i + 1) = (out, out.length, []) := by rw [HS.out, bstep, if_neg (by simp [h0])]; simp [h0]
          exact e
        obtain ⟨po, co, hu5, hpo⟩ := shape HO.out
        subst hu5
        clear hpo HS
        go_wp2_with (first
          | (go_at_call 22; refine (HC.out _ _ HB.out).mono ?_; rintro e w2 ⟨v9, rfl, ho9, hb9⟩; rw [h0] at ho9; simp only [List.length_nil] at ho9; obtain ⟨p9, c9, rfl, -⟩ := shape ho9; have HO9 : Hid (w2.ownsRow wr.heap.size 44 2 (.slice p9 0 c9) 0 (cellsS [])) := ho9; have HO2 : Hid (w2.ownsRow w.heap.size 27 4 _ _ _) := owns_fresh HO.out hb9; have HB2 : Hid (Below w.heap.size w w2) := HB.out.trans (hb9.mono hb0); clear ho9 hb9)
          | fail)
        go_loopw [5, 55] (fun v5 v55 wr3 => v5 = .slice po out.length co ∧ v55 = .int .i64 0 ∧ wr3 = w2) (fun _ _ _ => 0)
        case atStart => exact ⟨rfl, rfl, rfl⟩
        case round =>
          obtain ⟨rfl, rfl, rfl⟩ := hrel
          go_wp2_with fail
          go_roundw
          case rel => exact ⟨i + 1, .inl (by omega), by go_num, by rw [hS0.out], by rw [hS0.out]; exact HO2, by rw [hS0.out]; exact owns_base HO9.out hb0, HB2⟩
          case measure => simp [intOf]; omega
      · obtain ⟨m, hm⟩ : ∃ m, (f a).length = m + 1 := ⟨(f a).length - 1, by have := List.length_pos_iff.2 h0; omega⟩
        have hm256 : m + 1 ≤ 256 := hm ▸ HF.out a
        obtain ⟨po, co, hu5, hpo⟩ := shape HO.out
        subst hu5
        have HPO : Hid (out.length ≠ 0 → ∃ g, po = some ⟨g, 0, none⟩) := hpo
        clear hpo
        by_cases hE : f a = last
        · have hS2 : Hid (bst f l (i + 1) = (out.take fr ++ (out.drop fr).map (fun r => { r with r1 := b }), fr, last)) := by
            have e : bst f l (i + 1) = (out.take fr ++ (out.drop fr).map (fun r => { r with r1 := b }), fr, last) := by rw [HS.out, bstep, if_pos ⟨h0, hE⟩]
            exact e
          have HM : Hid ((f a).length = m + 1) := hm
          have HE : Hid (f a = last) := hE
          have H0 : Hid (f a ≠ []) := h0
          clear HS hE h0
          go_wp2_with (first
            | (go_at_call 22; refine (HC.out _ _ HB.out).mono ?_; rintro e w2 ⟨v9, rfl, ho9, hb9⟩; obtain ⟨p9, c9, rfl, hp9⟩ := shape ho9; obtain ⟨g9, rfl⟩ := hp9 (by omega); rw [hm] at ho9 ⊢; have HO9 : Hid (w2.ownsRow wr.heap.size 44 2 (.slice (some ⟨g9, 0, none⟩) (m + 1) c9) (f a).length (cellsS (f a))) := by { rw [hm]; exact ho9 }; have HO2 : Hid (w2.ownsRow w.heap.size 27 4 _ _ _) := owns_fresh HO.out hb9; have HL2 : Hid (w2.ownsRow w.heap.size 44 2 _ _ _) := owns_fresh HL.out hb9; have HB2 : Hid (Below w.heap.size w w2) := HB.out.trans (hb9.mono hb0); have HZ : Hid (wr.heap.size ≤ w2.heap.size) := hb9.size; clear ho9 hb9)
            | (go_at_call 23; refine (eq_any HO9.out HL2.out H0.out (by have := HM.out; omega)).mono ?_; rintro e w3 ⟨rfl, q, rfl⟩; rw [decide_eq_true HE.out])
            | fail)
          go_loopw [10] (fun v10 wr3 => ∃ (k : Nat) (os : List Rc), v10 = .int .i64 k ∧ fr ≤ k ∧ k ≤ 1000000 + fr ∧ Hid (put1 out fr k b os) ∧ Hid (k ≤ fr ∨ k ≤ out.length) ∧ Hid (wr3.ownsRow w.heap.size 27 4 (.slice po out.length co) os.length (cellsR os)) ∧ Hid (wr3.ownsRow w.heap.size 44 2 u6 last.length (cellsS last)) ∧ Hid (Below w.heap.size w wr3)) (fun v10 _ => out.length - (intOf v10).toNat)
          case atStart => exact ⟨fr, out, rfl, Nat.le_refl _, by omega, put1_start out fr b, .inl (Nat.le_refl _), HO2, HL2, below_drewN HB2.out q⟩
          case round =>
            clear HO HL HB
            obtain ⟨k, os, rfl, hfk, hkb, HP, HKB, HO3, HL3, HB3⟩ := hrel
            by_cases hk : k < out.length
            · obtain ⟨go, rfl⟩ := HPO.out (by omega)
              have hos : os.length = out.length := HP.out.1
              rw [hos] at HO3
              have hW := HA.out.fresh HB3.out HA.out.lt
              have hcb3 := hW.c (i + 1) (by have := HN.out; omega)
              rw [HBB.out] at hcb3
              have hpc := HO3.out.cellAt (k * 4 + 2) (by omega)
              rw [cellsR_get os k 2 (by omega) (by decide)] at hpc
              simp only [enR, List.getElem?_cons_succ, List.getElem?_cons_zero] at hpc
              have hpf := HO3.out.frozenAt (k * 4 + 2)
              obtain ⟨u0, hu0⟩ : ∃ u0, u0 = os[k]!.r1 := ⟨_, rfl⟩
              rw [← hu0] at hpc
              have HST : Hid ((wr.setCell ⟨go, k * 4 + 2, none⟩ (n64 b)).ownsRow w.heap.size 27 4 (.slice (some ⟨go, 0, none⟩) out.length co) (os.set k { os[k]! with r1 := b }).length (cellsR (os.set k { os[k]! with r1 := b }))) := by
                have := (HO3.out.stored (k * 4 + 2) (n64 b)).1
                rw [cellsR_set os k b (by omega)] at this
                rw [List.length_set, hos]; exact this
              have HLT : Hid ((wr.setCell ⟨go, k * 4 + 2, none⟩ (n64 b)).ownsRow w.heap.size 44 2 u6 last.length (cellsS last)) := HL3.out.kept (HO3.out.stored (k * 4 + 2) (n64 b)).2 (own_ne HO3.out HL3.out)
              have HBT : Hid (Below w.heap.size w (wr.setCell ⟨go, k * 4 + 2, none⟩ (n64 b))) := HB3.out.setCell ((HO3.out.lt go rfl).1) _
              have HPT : Hid (put1 out fr (k + 1) b (os.set k { os[k]! with r1 := b })) := put1_step HP.out (by omega) hfk
              clear hu0 hos hW
              go_wp2_with fail
              go_roundw
              case rel => exact ⟨k + 1, _, by go_num, by omega, by omega, HPT, .inr (by omega), HST, HLT, HBT⟩
              case measure => simp [intOf]; omega
            · have e := put1_end HP.out (by omega)
              have hos : os.length = out.length := HP.out.1
              go_wp2_with fail
              go_roundw
              case rel => exact ⟨i + 1, .inl (by omega), by go_num, by rw [hS2.out], by rw [hS2.out]; show World.ownsRow _ _ _ _ _ (List.length (_ ++ _)) (cellsR (_ ++ _)); rw [← e]; exact HO3.out, by rw [hS2.out]; exact HL3, HB3⟩
              case measure => simp [intOf]; omega
        · have hS3 : Hid (bst f l (i + 1) = (out ++ (f a).map (fun s => ⟨a, s.lo, b, s.hi⟩), out.length, f a)) := by
            have e : bst f l (i + 1) = (out ++ (f a).map (fun s => ⟨a, s.lo, b, s.hi⟩), out.length, f a) := by rw [HS.out, bstep, if_neg (fun h => hE h.2)]
            exact e
          have HM : Hid ((f a).length = m + 1) := hm
          have HE : Hid (¬ f a = last) := hE
          have H0 : Hid (f a ≠ []) := h0
          clear HS hE h0
          go_wp2_with (first
            | (go_at_call 22; refine (HC.out _ _ HB.out).mono ?_; rintro e w2 ⟨v9, rfl, ho9, hb9⟩; obtain ⟨p9, c9, rfl, hp9⟩ := shape ho9; obtain ⟨g9, rfl⟩ := hp9 (by omega); rw [hm] at ho9 ⊢; have HO9 : Hid (w2.ownsRow wr.heap.size 44 2 (.slice (some ⟨g9, 0, none⟩) (m + 1) c9) (f a).length (cellsS (f a))) := by { rw [hm]; exact ho9 }; have HO2 : Hid (w2.ownsRow w.heap.size 27 4 _ _ _) := owns_fresh HO.out hb9; have HL2 : Hid (w2.ownsRow w.heap.size 44 2 _ _ _) := owns_fresh HL.out hb9; have HB2 : Hid (Below w.heap.size w w2) := HB.out.trans (hb9.mono hb0); have HZ : Hid (wr.heap.size ≤ w2.heap.size) := hb9.size; clear ho9 hb9)
            | (go_at_call 23; refine (eq_any HO9.out HL2.out H0.out (by have := HM.out; omega)).mono ?_; rintro e w3 ⟨rfl, q, rfl⟩; rw [decide_eq_false HE.out])
            | fail)
          clear HO HL HB
          go_loopw [5, 55] (fun v5 v55 wr3 => ∃ (k : Nat), k ≤ m + 1 ∧ v55 = .int .i64 k ∧ Hid (wr3.ownsRow w.heap.size 27 4 v5 (out.length + k) (cellsR (out ++ ((f a).take k).map fun s => ⟨a, s.lo, b, s.hi⟩))) ∧ Hid (wr3.ownsRow wr.heap.size 44 2 (.slice (some ⟨g9, 0, none⟩) (m + 1) c9) (f a).length (cellsS (f a))) ∧ Hid (Below w.heap.size w wr3)) (fun _ v55 _ => m + 1 - (intOf v55).toNat)
          case atStart => exact ⟨0, Nat.zero_le _, rfl, by simp only [List.take_zero, List.map_nil, List.append_nil, Nat.add_zero]; exact HO2, HO9, below_drewN HB2.out q⟩
          case round =>
            clear HO2 HO9 HL2 HB2
            obtain ⟨k, hkm, rfl, HO3, HL3, HB3⟩ := hrel
            by_cases hk : k < m + 1
            · obtain ⟨s, hs⟩ : ∃ s, s = (f a)[k]! := ⟨_, rfl⟩
              have HSE : Hid (s = (f a)[k]!) := hs
              have hr := (owns_rowS HL3.out).2.1
              have hs0 := hr.c0 k (by have := HM.out; omega)
              have hs1 := hr.c1 k (by have := HM.out; omega)
              rw [Nat.zero_add, ← hs] at hs0 hs1
              have hW := HA.out.fresh HB3.out HA.out.lt
              have hca3 := hW.c i (by have := HN.out; omega)
              have hcb3 := hW.c (i + 1) (by have := HN.out; omega)
              rw [HAA.out] at hca3
              rw [HBB.out] at hcb3
              have LF : Hid (∀ j u, (enR ⟨a, s.lo, b, s.hi⟩)[j]? = some u → ((wr.alloc (.cells #[n64 s.lo, n64 s.hi] 44)).alloc (.cells #[n64 a, n64 s.lo, n64 b, n64 s.hi] 27)).cell? ((⟨wr.heap.size + 1, 0, none⟩ : Addr).add j) = some u) := by
                have := laid_get (wr.alloc (.cells #[n64 s.lo, n64 s.hi] 44)) (enR ⟨a, s.lo, b, s.hi⟩) 27
                rw [show (wr.alloc (.cells #[n64 s.lo, n64 s.hi] 44)).heap.size = wr.heap.size + 1 by simp] at this
                exact this
              have hi1 : i < n := by omega
              have hbl2 : ba < wr.heap.size := hW.lt
              clear hs hr hW
              go_wp2_with fail
              have hxa : (wr.alloc (.cells #[.int .i64 s.lo, .int .i64 s.hi] 44)).drew.cell? ⟨ba, oa + i, none⟩ = some (n64 a) := (((Below.refl wr.heap.size wr).alloc (Nat.le_refl _) _).drew.cell (p := ⟨ba, oa + i, none⟩) hbl2).trans hca3
              have hxb : (wr.alloc (.cells #[.int .i64 s.lo, .int .i64 s.hi] 44)).drew.cell? ⟨ba, oa + (i + 1), none⟩ = some (n64 b) := (((Below.refl wr.heap.size wr).alloc (Nat.le_refl _) _).drew.cell (p := ⟨ba, oa + (i + 1), none⟩) hbl2).trans hcb3
              have hx0 : (wr.alloc (.cells #[.int .i64 s.lo, .int .i64 s.hi] 44)).drew.cell? ⟨wr.heap.size, 0, none⟩ = some (n64 s.lo) := by simp
              have hx1 : (wr.alloc (.cells #[.int .i64 s.lo, .int .i64 s.hi] 44)).drew.cell? ⟨wr.heap.size, 1, none⟩ = some (n64 s.hi) := by simp
              have hw1 : IntKind.i64.wrap ((i : Int) + 1) = (i : Int) + 1 := by simp [IntKind.wrap, IntKind.bits, IntKind.signed]; omega
              have hw2 : 0 ≤ (i : Int) + 1 := by omega
              have hw3 : (i : Int) + 1 < (n : Int) := by omega
              have hw4 : ((i : Int) + 1).toNat = i + 1 := by omega
              go_region_law (refine step_append_mine rfl (.tmp 59) (.tmp 74) 22 rfl w.heap.size 27 i0 (.agg #[n64 0, n64 0, n64 0, n64 0]) 4 32 Try.underlying22 hi hz0 hz1 hz2 rfl (by decide) u5 (out.length + k) (cellsR (out ++ ((f a).take k).map fun s => ⟨a, s.lo, b, s.hi⟩)) (by simp [Act.eval]) (owns_fresh HO3.out (by repeat (first | exact Below.refl _ _ | apply Below.drew | refine Below.alloc ?_ (by simp) _))) ⟨wr.heap.size + 1, 0, none⟩ 1 1 (enR ⟨a, s.lo, b, s.hi⟩) (by simp [Act.eval]) rfl (by exact LF.out) (enR_one _) (by unfold maxLen; omega) (by omega) (by have := HB3.out.size; simp; omega) ?_; intro v3 w3 ho hg)
              all_goals (
                have HO5 : Hid (w3.ownsRow w.heap.size 27 4 v3 (out.length + (k + 1)) (cellsR (out ++ ((f a).take (k + 1)).map fun s => ⟨a, s.lo, b, s.hi⟩))) := (by
                  have e3 : (f a).take (k + 1) = (f a).take k ++ [s] := (by rw [List.take_succ_eq_append_getElem (by have := HM.out; omega), HSE.out, getElem!_pos (f a) k (by have := HM.out; omega)])
                  rw [e3, List.map_append, ← List.append_assoc]
                  simp only [List.map_cons, List.map_nil]
                  rw [cellsR_snoc]
                  exact ho)
                have HL5 : Hid (w3.ownsRow _ 44 2 (.slice (some ⟨g9, 0, none⟩) (m + 1) c9) (f a).length (cellsS (f a))) := World.ownsRow.kept (owns_fresh HL3.out (by repeat (first | exact Below.refl _ _ | apply Below.drew | refine Below.alloc ?_ (by simp) _))) hg (own_ne HO3.out HL3.out)
                have HB5 : Hid (Below w.heap.size w w3) := below_append (HB3.out.trans (by repeat (first | exact Below.refl _ _ | apply Below.drew | refine Below.alloc ?_ (by have := HB3.out.size; first | (simp; done) | (simp; omega)) _))) (by have := HB3.out.size; simp; omega) (owns_fresh HO3.out (by repeat (first | exact Below.refl _ _ | apply Below.drew | refine Below.alloc ?_ (by simp) _))) hg
                clear ho hg HO3 HL3 HB3 hxa hxb hx0 hx1 hw1 hw2 hw3 hw4 LF
                go_wp2_with fail
                go_roundw
                case rel => exact ⟨k + 1, by omega, by go_num, HO5, HL5, HB5⟩
                case measure => simp [intOf]; omega)
            · have e : (f a).take k = f a := List.take_of_length_le (by have := HM.out; omega)
              rw [e] at HO3
              have HO4 : Hid (wr.ownsRow w.heap.size 27 4 u5 (out ++ (f a).map (fun s => (⟨a, s.lo, b, s.hi⟩ : Rc))).length (cellsR (out ++ (f a).map (fun s => (⟨a, s.lo, b, s.hi⟩ : Rc))))) := by
                have e2 : (out ++ (f a).map (fun s => (⟨a, s.lo, b, s.hi⟩ : Rc))).length = out.length + k := by simp; have := HM.out; omega
                rw [e2]; exact HO3.out
              go_wp2_with fail
              go_roundw
              case rel => exact ⟨i + 1, .inl (by omega), by go_num, by rw [hS3.out], by rw [hS3.out]; exact HO4, by rw [hS3.out]; exact owns_base HL3.out hb0, HB3⟩
              case measure => simp [intOf]; omega
    · go_wp2_with fail
      go_ret
      have e := bst_all f l i (by have := HN.out; omega)
      rw [e] at HO
      exact ⟨_, rfl, HO.out, HB.out⟩
end Go.Proofs.Ytjngjfgbholgpaa

