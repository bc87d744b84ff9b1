/- XformRefs: a formula behind some operations on lines; what memory holds meanwhile. -/
import Derived.Test.YtglgibmjcgfecaaGreatDoorROpS
import Derived.Test.YtglgibmjcgfecaaGreatDoorROpB
import Derived.Test.YtglgibmjcgfecaaGreatDoorXBatch
set_option linter.unusedSimpArgs false
set_option linter.unusedVariables false
set_option linter.unusedSimpArgs false
set_option linter.unusedVariables false
namespace Go.Proofs.YtglgibmjcgfecaaGreatDoor
open Go Go.RowKit Go.Proofs Go.Xf Go.Sort

/-- Is a row on a sheet? -/
def OnR (r : Int) : Prop := 0 ≤ r ∧ r < 2199023255552
instance (r : Int) : Decidable (OnR r) := by unfold OnR; infer_instance
/-- The row and the arguments behind one operation on rows. -/
def stF (b : Bool × Ln) (q : Int × List Kid) : Int × List Kid := if OnR q.1 then (idx b.2 q.1, q.2.map (stepK b.2)) else q
def runF : List (Bool × Ln) → Int × List Kid → Int × List Kid
  | [], q => q
  | b :: l, q => runF l (stF b q)
theorem runF_snoc : ∀ (l : List (Bool × Ln)) (b : Bool × Ln) (q : Int × List Kid), runF (l ++ [b]) q = stF b (runF l q)
  | [], _, _ => rfl
  | _ :: l, b, q => by simp only [List.cons_append, runF]; exact runF_snoc l b _
theorem stF_off {b : Bool × Ln} {q : Int × List Kid} (h : ¬ OnR q.1) : stF b q = q := by unfold stF; rw [if_neg h]
theorem stF_on {b : Bool × Ln} {q : Int × List Kid} (h : OnR q.1) : stF b q = (idx b.2 q.1, q.2.map (stepK b.2)) := by unfold stF; rw [if_pos h]
def GoodK (q : Int × List Kid) : Prop := q.2.length ≤ 8 ∧ ∀ k ∈ q.2, k.Ok
theorem GoodK.step {b : Bool × Ln} {q : Int × List Kid} (h : GoodK q) : GoodK (stF b q) := by
  by_cases ho : OnR q.1
  · rw [stF_on ho]; exact ⟨by simpa using h.1, map_ok h.2⟩
  · rw [stF_off ho]; exact h
theorem GoodK.run : ∀ (l : List (Bool × Ln)) {q : Int × List Kid}, GoodK q → GoodK (runF l q)
  | [], _, h => h
  | _ :: l, _, h => GoodK.run l h.step
def GoodT (b : Bool × Ln) : Prop := b.1 = true ∧ MayL b.2 ∧ Fits b.2.k
theorem GoodT.a {b : Bool × Ln} (h : GoodT b) : Fits b.2.a := ⟨by have := h.2.1.1; omega, by have := h.2.1.2.1; omega⟩
theorem GoodT.t {b : Bool × Ln} (h : GoodT b) : Fits b.2.t := ⟨by have := h.2.1.2.2.1; omega, by have := h.2.1.2.2.2.1; omega⟩
theorem GoodT.op {b : Bool × Ln} (h : GoodT b) : opO b = opLn b.2 := by unfold opO; rw [if_pos h.1]

theorem sum_apart3 {w w' : World} {N t : Nat} {x : Int} {ks : List Kid} {vk : Value} (h : SumAt w N ks vk) (ct : w.cell? ⟨t, 0, none⟩ = some (n64 x)) (hx : x ≠ 5 ∧ x ≠ 4) (ho : ∀ k, k < N → k ≠ t → w'.heap[k]? = w.heap[k]?) : SumAt w' N ks vk := by
  obtain ⟨p, q, e, hq, hk⟩ := h
  refine ⟨p, q, e, hq, fun h0 => ?_⟩
  obtain ⟨g, e2, hg, hkid⟩ := hk h0
  have hgt : g ≠ t := fun e => by
    subst e
    obtain ⟨vs, h1, h2⟩ := hkid 0 h0
    cases hkk : ks[0]! with
    | rf r c ra ca =>
      rw [hkk] at h1
      obtain ⟨h', q', rfl, _⟩ := h1
      have := h2 0 _ rfl
      simp at this
      rw [ct] at this
      simp at this
      exact hx.1 this
    | er =>
      rw [hkk] at h1
      have e : vs = exE := h1
      subst e
      have := h2 0 _ rfl
      simp at this
      rw [ct] at this
      simp at this
      exact hx.2 this
  refine ⟨g, e2, hg, fun i hi => ?_⟩
  obtain ⟨vs, h1, h2⟩ := hkid i hi
  refine ⟨vs, ?_, range_block h2 (ho g hg hgt)⟩
  cases hkk : ks[i]! with
  | rf r c ra ca =>
    rw [hkk] at h1
    obtain ⟨h', q', e3, hq', hlt, hr⟩ := h1
    refine ⟨h', q', e3, hq', hlt, range_block hr (ho h' hlt fun e4 => ?_)⟩
    subst e4
    have := hr 0 _ rfl
    simp at this
    rw [ct] at this
    simp at this
  | er =>
    rw [hkk] at h1
    exact h1

/-- A row of the call's own whose first operation is one on rows. -/
def Hd (u : World) (B : Nat) (v : Value) (k : Nat) : Prop := ∃ xs, u.ownsRow B 40 23 v k xs ∧ (0 < k → xs[0]? = some (n64 2)) ∧ (k = 0 → v = .slice none 0 0)
theorem Hd.next {u u' : World} {B : Nat} {v : Value} {k : Nat} (h : Hd u B v k) (hb : Below u.heap.size u u') : Hd u' B v k := by
  obtain ⟨xs, h1, h2⟩ := h
  exact ⟨xs, owns_block h1 fun g _ hg => hb.block g hg, h2⟩

/-- What holds in the round while the formula's cell is on the sheet. -/
structure SF (w : World) (gb gx B n : Nat) (os : List (Bool × Ln)) (u : World) (r c : Int) (ks : List Kid) (vk : Value) (v : Value) (k : Nat) : Prop where
  st : Stt w gb gx B n os u (opF r c vk) v k
  hd : Hd u B v k
  tr : SumAt u u.heap.size ks vk
variable {w : World} {gb gx B n : Nat} {os : List (Bool × Ln)} {u u' : World} {r c : Int} {ks : List Kid} {vk : Value} {v : Value} {k : Nat}
theorem SF.fresh (h : SF w gb gx B n os u r c ks vk v k) (hb : Below u.heap.size u u') : SF w gb gx B n os u' r c ks vk v k :=
  ⟨h.st.fresh hb, h.hd.next hb, (h.tr.move (fun b hb' => hb.block b hb')).grow hb.size⟩
theorem SF.last (h : SF w gb gx B n os u r c ks vk v k) {g : Nat} (hg : g = u.heap.size) (hb : Below g u u') : SF w gb gx B n os u' r c ks vk v k := h.fresh (by rw [← hg]; exact hb)
theorem SF.put (h : SF w gb gx B n os u r c ks vk v k) {r' : Int} {ks' : List Kid} {vk' : Value} (ha : SumAt u u.heap.size ks' vk') (hb : Blk u' gx (opF r' c vk')) (ho : ∀ k, k ≠ gx → u'.heap[k]? = u.heap[k]?) (hs : u'.heap.size = u.heap.size) (hbl : Below gx u u') : SF w gb gx B n os u' r' c ks' vk' v k := by
  refine ⟨h.st.put hb ho hs hbl, ?_, ?_⟩
  · obtain ⟨xs, h1, h2⟩ := h.hd
    exact ⟨xs, owns_block h1 fun g hg _ => ho g (by have := h.st.gxB; omega), h2⟩
  · rw [hs]; exact sum_apart2 ha (h.st.blk.range 0 _ rfl) (by decide) ho
theorem SF.app (h : SF w gb gx B n os u r c ks vk v k) {xs : List Value} {v' : Value} {b : Bool × Ln} (hb : b.1 = true) (hv : u.ownsRow B 40 23 v k xs) (hx : 0 < k → xs[0]? = some (n64 2)) (hz : k = 0 → v = .slice none 0 0) (ho : u'.ownsRow B 40 23 v' (k + 1) (xs ++ opO b)) (hg : u.grownBy u' v.ownBlock) : SF w gb gx B n os u' r c ks vk v' (k + 1) := by
  refine ⟨h.st.app ho hv hg, ⟨_, ho, fun _ => ?_, fun e => absurd e (by omega)⟩, ?_⟩
  · by_cases h0 : 0 < k
    · rw [List.getElem?_append_left (by have := hv.1; omega)]; exact hx h0
    · have hx0 : xs = [] := List.length_eq_zero_iff.1 (by have := hv.1; omega)
      rw [hx0, List.nil_append]
      unfold opO; rw [if_pos hb]; rfl
  · refine SumAt.grow ?_ hg.size
    rcases hv.2 with ⟨rfl, _⟩ | ⟨g, cap, cur, rfl, hBg, hgg, hn, _, _, ht⟩
    · exact h.tr.move (fun b hb' => hg.block b hb' (by simp [Value.ownBlock]))
    · by_cases h0 : 0 < k
      · have hc : u.cell? ⟨g, 0, none⟩ = some (n64 2) := by
          have h3 := hx h0
          rw [← ht, List.getElem?_take_of_lt (by omega)] at h3
          rw [blk_cell hgg]
          simpa using h3
        exact sum_apart3 h.tr hc (by decide) (fun b hb' hne => hg.block b hb' (by simpa [Value.ownBlock] using hne))
      · have := hz (by omega)
        cases this
end Go.Proofs.YtglgibmjcgfecaaGreatDoor

set_option linter.unusedSimpArgs false
set_option linter.unusedVariables false
namespace Go.Proofs.YtglgibmjcgfecaaGreatDoor
open Go Go.RowKit Go.Proofs Go.Xf Go.Sort

theorem opB_w (b : Bool × Ln) (hg : GoodT b) (r c : Int) (hr : OnR r) (hc0 : 0 ≤ c) (hc1 : c < 2199023255552) (ks : List Kid) (vk : Value) (hk : ks.length ≤ 8 ∧ ∀ k ∈ ks, k.Ok) (w : World) (hT : Tab w) (hA : SumAt w w.heap.size ks vk) :
    Calls Tryz.prog 10 #[.agg (opO b).toArray, .agg (opF r c vk).toArray, .bool false] w fun e w' => e = .returned (.tuple #[.agg (opO b).toArray, .bool true]) ∧ Below w.heap.size w w' := by
  rw [hg.op]
  exact opBack b.2 hg.2.2 hg.a hg.t hg.2.1 r c hr.1 hr.2 hc0 hc1 ks vk hk.1 false w.heap.size w hk.2 hT hT.lt (Nat.le_refl _) hA
theorem opS_w (b : Bool × Ln) (hg : GoodT b) (r c : Int) (hr : OnR r) (hc0 : 0 ≤ c) (hc1 : c < 2199023255552) (ks : List Kid) (vk : Value) (hk : ks.length ≤ 8 ∧ ∀ k ∈ ks, k.Ok) (w : World) (hT : Tab w) (hA : SumAt w w.heap.size ks vk) :
    Calls Tryz.prog 10 #[.agg (opF r c vk).toArray, .agg (opO b).toArray, .bool true] w fun e w' => Below w.heap.size w w' ∧ ((OnR (idx b.2 r) ∧ ∃ vk', e = .returned (.tuple #[.agg (opF (idx b.2 r) c vk').toArray, .bool true]) ∧ SumAt w' w'.heap.size (ks.map (stepK b.2)) vk') ∨ (¬ OnR (idx b.2 r) ∧ e = .returned (.tuple #[.agg opNL.toArray, .bool false]))) := by
  rw [hg.op]
  exact opSet b.2 hg.2.2 hg.a hg.t hg.2.1 r c hr.1 hr.2 hc0 hc1 ks vk hk.1 true w.heap.size w hk.2 hT hT.lt (Nat.le_refl _) hA
theorem opS_on (b : Bool × Ln) (hg : GoodT b) (r c : Int) (hr : OnR r) (hc0 : 0 ≤ c) (hc1 : c < 2199023255552) (ks : List Kid) (vk : Value) (hk : ks.length ≤ 8 ∧ ∀ k ∈ ks, k.Ok) (w : World) (hT : Tab w) (hA : SumAt w w.heap.size ks vk) (ho : OnR (idx b.2 r)) :
    Calls Tryz.prog 10 #[.agg (opF r c vk).toArray, .agg (opO b).toArray, .bool true] w fun e w' => ∃ vk', e = .returned (.tuple #[.agg (opF (idx b.2 r) c vk').toArray, .bool true]) ∧ Below w.heap.size w w' ∧ SumAt w' w'.heap.size (ks.map (stepK b.2)) vk' :=
  (opS_w b hg r c hr hc0 hc1 ks vk hk w hT hA).mono fun e w' ⟨h1, h2⟩ => by
    rcases h2 with ⟨_, vk', h3, h4⟩ | ⟨h3, _⟩
    · exact ⟨vk', h3, h1, h4⟩
    · exact absurd ho h3
theorem opS_off (b : Bool × Ln) (hg : GoodT b) (r c : Int) (hr : OnR r) (hc0 : 0 ≤ c) (hc1 : c < 2199023255552) (ks : List Kid) (vk : Value) (hk : ks.length ≤ 8 ∧ ∀ k ∈ ks, k.Ok) (w : World) (hT : Tab w) (hA : SumAt w w.heap.size ks vk) (ho : ¬ OnR (idx b.2 r)) :
    Calls Tryz.prog 10 #[.agg (opF r c vk).toArray, .agg (opO b).toArray, .bool true] w fun e w' => e = .returned (.tuple #[.agg opNL.toArray, .bool false]) ∧ Below w.heap.size w w' :=
  (opS_w b hg r c hr hc0 hc1 ks vk hk w hT hA).mono fun e w' ⟨h1, h2⟩ => by
    rcases h2 with ⟨h3, _⟩ | ⟨_, h3⟩
    · exact absurd h3 ho
    · exact ⟨h3, h1⟩
theorem fold_F (r c : Int) (vk : Value) : (opF r c vk).length = 23 := rfl

set_option maxRecDepth 100000 in
set_option maxHeartbeats 8000000 in
theorem batchesF (os : List (Bool × Ln)) (r c : Int) (ks : List Kid) (vk : Value) (hp : OnR r) (hc0' : 0 ≤ c) (hc1' : c < 2199023255552) (hks : GoodK (r, ks)) (hl : os.length ≤ 8) (h0 : 0 < os.length) (hgood : ∀ b ∈ os, GoodT b) (ga ca g0 c0 : Nat) (w : World) (hT : Tab w) (hTr : SumAt w w.heap.size ks vk) (hA : w.rangeAt ga 0 (opF r c vk)) (hal : ga < w.heap.size) (hca : 1 ≤ ca)
    (hrow : ∀ j u, (cellsO os)[j]? = some u → w.cell? ((⟨g0, 0, none⟩ : Addr).add j) = some u) (hg0 : g0 < w.heap.size) (hc0 : os.length ≤ c0) :
    Calls Tryz.prog 8 #[.slice (some ⟨ga, 0, none⟩) 1 ca, .slice (some ⟨g0, 0, none⟩) os.length c0, .bool true] w fun e w' => ∃ vo v2, e = .returned (.tuple #[vo, v2]) ∧ Below w.heap.size w w' ∧
      (OnR (runF os (r, ks)).1 → ∃ g cc vk', vo = .slice (some ⟨g, 0, none⟩) 1 cc ∧ 1 ≤ cc ∧ w'.rangeAt g 0 (opF (runF os (r, ks)).1 c vk') ∧ SumAt w' w'.heap.size (runF os (r, ks)).2 vk') ∧ (¬ OnR (runF os (r, ks)).1 → ∃ q cc, vo = .slice q 0 cc) := by
  obtain ⟨i0, hi, hz0, hz1, hz2⟩ := info_parts Tryz.info40
  obtain ⟨n, hn⟩ : ∃ n, n = os.length := ⟨_, rfl⟩
  have HN : Hid (n = os.length) := hn
  have HROW : Hid (∀ j u, (cellsO os)[j]? = some u → w.cell? ((⟨g0, 0, none⟩ : Addr).add j) = some u) := hrow
  have HA : Hid (w.rangeAt ga 0 (opF r c vk)) := hA
  have HTR : Hid (SumAt w w.heap.size ks vk) := hTr
  have HT : Hid (Tab w) := hT
  obtain ⟨pf, hpf⟩ : ∃ pf, pf = runF os (r, ks) := ⟨_, rfl⟩
  have HPF : Hid (pf = runF os (r, ks)) := hpf
  rw [← hpf]
  rw [← hn] at hl h0 hc0 ⊢
  clear hn hrow hA hTr hT hpf
  have hfO := fold_O
  obtain ⟨vp, vn, rfl, _⟩ := HTR.out
  go_enter Tryz.func8, Tryz.ntmps8
  go_wp2_with (first
    | (at_builtin; refine wpList_append_own _ rfl (.const (.slice none 0 0)) (.tmp 17) 25 rfl w.heap.size 40 i0 opN 23 264 Tryz.underlying25 hi hz0 hz1 hz2 rfl (by decide) (.slice none 0 0) 0 [] rfl (World.ownsRow_nil _ _ _ _) ⟨g0, 0, none⟩ n c0 (cellsO os) rfl (by rw [cellsO_len, HN.out]) HROW.out (cellsO_one _) (by unfold maxLen; omega) (by omega) (Nat.le_refl _) ?_; intro v1 w1 ho1 hg1 _)
    | fail)
  rw [Nat.zero_add, List.nil_append] at ho1
  have HB1 : Hid (Below w.heap.size w w1) := (Below.refl _ _).grown hg1 (Nat.le_refl _) (fun k hk => by simp [Value.ownBlock] at hk)
  obtain ⟨g1, c1, rfl, hc1, hg1w, hg1s, hx1⟩ := shapeO ho1 h0
  have HR1 : Hid (∀ j, j < n → w1.rangeAt g1 (j * 23) (opO os[j]!)) := by rw [HN.out]; exact rows_of hx1
  have HA1 : Hid (w1.rangeAt ga 0 (opF r c (.slice vp ks.length vn))) := range_below HA.out HB1.out hal
  have HTR1 : Hid (SumAt w1 w1.heap.size ks (.slice vp ks.length vn)) := (HTR.out.move (fun b hb => HB1.out.block b hb)).grow HB1.out.size
  clear ho1 hg1 hx1
  go_wp2
  go_loopw [1, 8, 21] (fun v1' v8 v21 wr => (v21 = .int .i64 0 ∧ v8 = .slice none 0 0 ∧ v1' = .slice (some ⟨g1, 0, none⟩) n c1 ∧ wr = w1) ∨
    (v21 = .int .i64 1 ∧ (∃ q1 q2, v1' = .slice q1 n q2) ∧ Hid (Below w.heap.size w wr) ∧ Hid ((OnR pf.1 → ∃ g cc vk', v8 = .slice (some ⟨g, 0, none⟩) 1 cc ∧ 1 ≤ cc ∧ wr.rangeAt g 0 (opF pf.1 c vk') ∧ SumAt wr wr.heap.size pf.2 vk') ∧ (¬ OnR pf.1 → ∃ q cc, v8 = .slice q 0 cc)))) (fun _ _ v21 _ => 1 - (intOf v21).toNat)
  case atStart => exact .inl ⟨rfl, rfl, rfl, rfl⟩
  case round =>
    rcases hrel with ⟨rfl, rfl, rfl, rfl⟩ | ⟨rfl, ⟨q1, q2, rfl⟩, HBf, HF⟩
    · go_wp2_with (first
        | (refine ld40 _ rfl rfl _ _ rfl _ rfl HA1.out ?_)
        | (refine stLast _ _ rfl rfl _ rfl rfl (opF r c (.slice vp ks.length vn)) rfl rfl rfl (opF_one _ _ _ _ _) ?_; intro w2 hb2 hlo2 hs2)
        | fail)
      have HS0 : Hid (SF w g1 wr.heap.size (wr.heap.size + 1) n os w2 r c ks (.slice vp ks.length vn) (.slice none 0 0) 0) :=
        ⟨⟨by omega, Nat.lt_succ_self _, by omega, HB1.out.size, Nat.le_succ_of_le HB1.out.size, HB1.out.trans (hlo2.mono HB1.out.size), by rw [hs2]; exact Nat.le_refl _, fun j hj => range_block (HR1.out j hj) (hlo2.block _ hg1s), hb2, ⟨[], World.ownsRow_nil _ _ _ _⟩⟩, ⟨[], World.ownsRow_nil _ _ _ _, fun h => absurd h (by omega), fun _ => rfl⟩, (HTR1.out.move (fun b hb => hlo2.block b hb)).grow hlo2.size⟩
      obtain ⟨gx, hgx⟩ : ∃ gx, gx = wr.heap.size := ⟨_, rfl⟩
      rw [← hgx] at HS0 ⊢
      clear hb2 hlo2 hs2 HR1 HA1 hgx HTR1
      go_loopw [11, 12, 27] (fun v11 v12 v27 u => ∃ k, k ≤ n ∧ v27 = .int .i64 (k : Nat) ∧ v12 = .bool (decide (OnR (runF (os.take k) (r, ks)).1)) ∧ Hid ((OnR (runF (os.take k) (r, ks)).1 → ∃ vk', SF w g1 gx (gx + 1) n os u (runF (os.take k) (r, ks)).1 c (runF (os.take k) (r, ks)).2 vk' v11 k) ∧ (¬ OnR (runF (os.take k) (r, ks)).1 → ∃ cs, Stt w g1 gx (gx + 1) n os u cs v11 k ∧ cs.length = 23))) (fun _ _ v27 _ => n - (intOf v27).toNat)
      case atStart => exact ⟨0, Nat.zero_le _, rfl, by rw [show runF (os.take 0) (r, ks) = (r, ks) from rfl, decide_eq_true hp], ⟨fun _ => ⟨_, HS0.out⟩, fun h => absurd hp h⟩⟩
      case round =>
        obtain ⟨k, hk, rfl, rfl, HC⟩ := hrel
        have hkk : GoodK (runF (os.take k) (r, ks)) := GoodK.run _ hks
        obtain ⟨q, hq⟩ : ∃ q, q = runF (os.take k) (r, ks) := ⟨_, rfl⟩
        rw [← hq] at HC hkk ⊢
        have HQ : Hid (q = runF (os.take k) (r, ks)) := hq
        obtain ⟨q1, q2⟩ := q
        have HKK : Hid (q2.length ≤ 8 ∧ ∀ k ∈ q2, k.Ok) := hkk
        simp only at HC ⊢
        clear hq HS0 hkk
        by_cases hlt : k < n
        · obtain ⟨b, hb⟩ : ∃ b, b = os[k]! := ⟨_, rfl⟩
          have hkl : k < os.length := HN.out ▸ hlt
          have hbm : b ∈ os := by rw [hb, getElem!_pos os k hkl]; exact List.getElem_mem hkl
          have HGB : Hid (GoodT b) := hgood b hbm
          have HRN : Hid (runF (os.take (k + 1)) (r, ks) = stF b (q1, q2)) := by
            show _ = _
            rw [List.take_succ_eq_append_getElem hkl, runF_snoc, ← HQ.out, hb, getElem!_pos os k hkl]
          have HBK : Hid (b = os[k]!) := hb
          clear hb hbm
          by_cases hon : OnR q1
          · obtain ⟨vk', hcs⟩ := HC.out.1 hon
            obtain ⟨vkp, vkq, rfl, _⟩ := hcs.tr
            obtain ⟨vk, hvk⟩ : ∃ vk : Value, vk = .slice vkp q2.length vkq := ⟨_, rfl⟩
            rw [← hvk] at hcs
            have HE : Hid (wr.rangeAt g1 (k * 23) (opO b)) := by rw [HBK.out]; exact hcs.st.elem hlt
            have HS : Hid (SF w g1 gx (gx + 1) n os wr q1 c q2 vk u11 k) := hcs
            have HON : Hid (OnR q1) := hon
            clear hcs HC hvk
            rw [decide_eq_true hon]
            by_cases hst : OnR (idx b.2 q1)
            · have HST : Hid (OnR (idx b.2 q1)) := hst
              have HR2 : Hid (runF (os.take (k + 1)) (r, ks) = (idx b.2 q1, q2.map (stepK b.2))) := by show _ = _; rw [HRN.out, stF_on hon]
              clear hon hst
              go_wp2_with (first
                | (refine ld40 _ rfl rfl _ _ rfl _ rfl HE.out ?_)
                | (refine ld40 _ rfl rfl _ _ rfl _ rfl Y2.out.range ?_)
                | (refine ld40 _ rfl rfl _ _ rfl _ rfl S2.out.st.blk.range ?_)
                | (refine ld40 _ rfl rfl _ _ rfl _ rfl Y4.out.range ?_)
                | (refine ld40 _ rfl rfl _ _ rfl _ rfl S4.out.st.blk.range ?_)
                | (refine ld40 _ rfl rfl _ _ rfl _ rfl Z6.out.range ?_)
                | (have g0 := HS; clear g0; refine stLast _ _ rfl rfl _ rfl rfl (opO b) rfl rfl rfl (opO_one b) ?_; intro u2 by2 lo2 sz2; have S2 : Hid (SF w g1 gx (gx + 1) n os u2 q1 c q2 vk u11 k) := HS.out.last rfl lo2; have Y2 : Hid (Blk u2 wr.heap.size (opO b)) := by2; clear HS HE by2 lo2 sz2)
                | (have g2 := S2; clear g2; go_at_call 10; refine (opB_w b HGB.out q1 c HON.out hc0' hc1' q2 vk HKK.out _ (HT.out.next S2.out.st.below) S2.out.tr).mono ?_; rintro e u3 ⟨rfl, hb3⟩; have S3 : Hid (SF w g1 gx (gx + 1) n os u3 q1 c q2 vk u11 k) := S2.out.fresh hb3; have Y3 : Hid (Blk u3 wr.heap.size (opO b)) := Y2.out.below hb3 Y2.out.lt; clear S2 Y2 hb3)
                | (have g3 := S3; clear g3; refine stLast _ _ rfl rfl _ rfl rfl (opO b) rfl rfl rfl (opO_one b) ?_; intro u4 by4 lo4 sz4; have S4 : Hid (SF w g1 gx (gx + 1) n os u4 q1 c q2 vk u11 k) := S3.out.last rfl lo4; have Y4 : Hid (Blk u4 wr.heap.size (opO b)) := Y3.out.below lo4 Y3.out.lt; have Z4 : Hid (Blk u4 u3.heap.size (opO b)) := by4; have N4 : Hid (gx < u3.heap.size) := S3.out.st.size; clear S3 Y3 by4 lo4 sz4)
                | (have g4 := S4; clear g4; go_at_call 10; refine (opS_on b HGB.out q1 c HON.out hc0' hc1' q2 vk HKK.out _ (HT.out.next S4.out.st.below) S4.out.tr HST.out).mono ?_; rintro e u5 ⟨vk5, rfl, hb5, ha5⟩; have S5 : Hid (SF w g1 gx (gx + 1) n os u5 q1 c q2 vk u11 k) := S4.out.fresh hb5; have A5 : Hid (SumAt u5 u5.heap.size (q2.map (stepK b.2)) vk5) := ha5; have Z5 : Hid (Blk u5 u3.heap.size (opO b)) := Z4.out.below hb5 Z4.out.lt; clear S4 Y4 Z4 hb5 ha5)
                | (have g5 := S5; clear g5; refine stBlk _ _ rfl rfl _ rfl (opF (idx b.2 q1) c vk5) rfl rfl (sumF_one A5.out) (opF q1 c vk) rfl S5.out.st.blk ?_; intro u6 bx6 ho6 sz6 lo6; have S6 : Hid (SF w g1 gx (gx + 1) n os u6 (idx b.2 q1) c (q2.map (stepK b.2)) vk5 u11 k) := S5.out.put A5.out bx6 ho6 sz6 lo6; have Z6 : Hid (Blk u6 u3.heap.size (opO b)) := (ho6 _ (Nat.ne_of_gt N4.out)).trans Z5.out; clear S5 Z5 A5 bx6 ho6 sz6 lo6)
                | (have g6 := S6; clear g6; at_builtin; obtain ⟨xs6, hx6, hy6, hw6⟩ := S6.out.hd; refine wpList_append_own _ rfl (.tmp 53) (.tmp 55) 25 rfl (gx + 1) 40 i0 opN 23 264 Tryz.underlying25 hi hz0 hz1 hz2 rfl (by decide) u11 k xs6 rfl (hx6.alloc _) ⟨u6.heap.size, 0, none⟩ 1 1 (opO b) rfl rfl (fun j x hj => by rw [Addr.add_mid]; exact range_laid u6 (opO b) 40 j x hj) (opO_one b) (by unfold maxLen; omega) (by omega) (by have := S6.out.st.size; simp; omega) ?_; intro v7 u7 ho7 hg7 _; have S7 : Hid (SF w g1 gx (gx + 1) n os u7 (idx b.2 q1) c (q2.map (stepK b.2)) vk5 v7 (k + 1)) := (S6.out.fresh ((Below.refl _ _).alloc (Nat.le_refl _) _)).app HGB.out.1 (hx6.alloc _) hy6 hw6 ho7 hg7; clear hx6 ho7 hg7 hy6 hw6 S6)
                | fail)
              go_roundw
              case rel => exact ⟨k + 1, by omega, by go_num, by rw [HR2.out, decide_eq_true HST.out], ⟨fun _ => by rw [HR2.out]; exact ⟨_, S7.out⟩, fun h => absurd HST.out (by rw [HR2.out] at h; exact h)⟩⟩
              case measure => simp [intOf]; omega
            · have HST : Hid (¬ OnR (idx b.2 q1)) := hst
              have HR2 : Hid (runF (os.take (k + 1)) (r, ks) = (idx b.2 q1, q2.map (stepK b.2))) := by show _ = _; rw [HRN.out, stF_on hon]
              clear hon hst
              go_wp2_with (first
                | (refine ld40 _ rfl rfl _ _ rfl _ rfl HE.out ?_)
                | (refine ld40 _ rfl rfl _ _ rfl _ rfl Y2.out.range ?_)
                | (refine ld40 _ rfl rfl _ _ rfl _ rfl S2.out.st.blk.range ?_)
                | (refine ld40 _ rfl rfl _ _ rfl _ rfl Y4.out.range ?_)
                | (refine ld40 _ rfl rfl _ _ rfl _ rfl S4.out.st.blk.range ?_)
                | (refine ld40 _ rfl rfl _ _ rfl _ rfl Z6.out.range ?_)
                | (have g0 := HS; clear g0; refine stLast _ _ rfl rfl _ rfl rfl (opO b) rfl rfl rfl (opO_one b) ?_; intro u2 by2 lo2 sz2; have S2 : Hid (SF w g1 gx (gx + 1) n os u2 q1 c q2 vk u11 k) := HS.out.last rfl lo2; have Y2 : Hid (Blk u2 wr.heap.size (opO b)) := by2; clear HS HE by2 lo2 sz2)
                | (have g2 := S2; clear g2; go_at_call 10; refine (opB_w b HGB.out q1 c HON.out hc0' hc1' q2 vk HKK.out _ (HT.out.next S2.out.st.below) S2.out.tr).mono ?_; rintro e u3 ⟨rfl, hb3⟩; have S3 : Hid (SF w g1 gx (gx + 1) n os u3 q1 c q2 vk u11 k) := S2.out.fresh hb3; have Y3 : Hid (Blk u3 wr.heap.size (opO b)) := Y2.out.below hb3 Y2.out.lt; clear S2 Y2 hb3)
                | (have g3 := S3; clear g3; refine stLast _ _ rfl rfl _ rfl rfl (opO b) rfl rfl rfl (opO_one b) ?_; intro u4 by4 lo4 sz4; have S4 : Hid (SF w g1 gx (gx + 1) n os u4 q1 c q2 vk u11 k) := S3.out.last rfl lo4; have Y4 : Hid (Blk u4 wr.heap.size (opO b)) := Y3.out.below lo4 Y3.out.lt; have Z4 : Hid (Blk u4 u3.heap.size (opO b)) := by4; have N4 : Hid (gx < u3.heap.size) := S3.out.st.size; clear S3 Y3 by4 lo4 sz4)
                | (have g4 := S4; clear g4; go_at_call 10; refine (opS_off b HGB.out q1 c HON.out hc0' hc1' q2 vk HKK.out _ (HT.out.next S4.out.st.below) S4.out.tr HST.out).mono ?_; rintro e u5 ⟨rfl, hb5⟩; have S5 : Hid (Stt w g1 gx (gx + 1) n os u5 (opF q1 c vk) u11 k) := S4.out.st.fresh hb5; have Z5 : Hid (Blk u5 u3.heap.size (opO b)) := Z4.out.below hb5 Z4.out.lt; clear S4 Y4 Z4 hb5)
                | (have g5 := S5; clear g5; refine stBlk _ _ rfl rfl _ rfl opNL rfl rfl opN_one (opF q1 c vk) rfl S5.out.blk ?_; intro u6 bx6 ho6 sz6 lo6; have S6 : Hid (Stt w g1 gx (gx + 1) n os u6 opNL u11 k) := S5.out.put bx6 ho6 sz6 lo6; have Z6 : Hid (Blk u6 u3.heap.size (opO b)) := (ho6 _ (Nat.ne_of_gt N4.out)).trans Z5.out; clear S5 Z5 bx6 ho6 sz6 lo6)
                | (have g6 := S6; clear g6; at_builtin; obtain ⟨xs6, hx6⟩ := S6.out.rest; refine wpList_append_own _ rfl (.tmp 53) (.tmp 55) 25 rfl (gx + 1) 40 i0 opN 23 264 Tryz.underlying25 hi hz0 hz1 hz2 rfl (by decide) u11 k xs6 rfl (hx6.alloc _) ⟨u6.heap.size, 0, none⟩ 1 1 (opO b) rfl rfl (fun j x hj => by rw [Addr.add_mid]; exact range_laid u6 (opO b) 40 j x hj) (opO_one b) (by unfold maxLen; omega) (by omega) (by have := S6.out.size; simp; omega) ?_; intro v7 u7 ho7 hg7 _; have S7 : Hid (Stt w g1 gx (gx + 1) n os u7 opNL v7 (k + 1)) := (S6.out.fresh ((Below.refl _ _).alloc (Nat.le_refl _) _)).app ho7 (hx6.alloc _) hg7; clear hx6 ho7 hg7 S6)
                | fail)
              go_roundw
              case rel => exact ⟨k + 1, by omega, by go_num, by rw [HR2.out, decide_eq_false HST.out], ⟨fun h => absurd (by rw [HR2.out] at h; exact h) HST.out, fun _ => ⟨_, S7.out, rfl⟩⟩⟩
              case measure => simp [intOf]; omega
          · obtain ⟨cs, hcs, hcl⟩ := HC.out.2 hon
            have HE : Hid (wr.rangeAt g1 (k * 23) (opO b)) := by rw [HBK.out]; exact hcs.elem hlt
            have HS : Hid (Stt w g1 gx (gx + 1) n os wr cs u11 k) := hcs
            have HCL : Hid (cs.length = 23) := hcl
            have HR2 : Hid (runF (os.take (k + 1)) (r, ks) = (q1, q2)) := by show _ = _; rw [HRN.out, stF_off hon]
            have HON : Hid (¬ OnR q1) := hon
            clear hcs hcl HC
            rw [decide_eq_false hon]
            clear hon
            go_wp2_with (first
                | (refine ld40 _ rfl rfl _ _ rfl _ rfl HE.out ?_)
                | (refine ld40 _ rfl rfl _ _ rfl _ rfl Y2.out.range ?_)
                | (have g0 := HS; clear g0; refine stLast _ _ rfl rfl _ rfl rfl (opO b) rfl rfl rfl (opO_one b) ?_; intro u2 by2 lo2 sz2; have S2 : Hid (Stt w g1 gx (gx + 1) n os u2 cs u11 k) := HS.out.last rfl lo2; have Y2 : Hid (Blk u2 wr.heap.size (opO b)) := by2; clear HS HE by2 lo2 sz2)
                | (have g6 := S2; clear g6; at_builtin; obtain ⟨xs6, hx6⟩ := S2.out.rest; refine wpList_append_own _ rfl (.tmp 33) (.tmp 35) 25 rfl (gx + 1) 40 i0 opN 23 264 Tryz.underlying25 hi hz0 hz1 hz2 rfl (by decide) u11 k xs6 rfl (hx6.alloc _) ⟨u2.heap.size, 0, none⟩ 1 1 (opO b) rfl rfl (fun j x hj => by rw [Addr.add_mid]; exact range_laid u2 (opO b) 40 j x hj) (opO_one b) (by unfold maxLen; omega) (by omega) (by have := S2.out.size; simp; omega) ?_; intro v7 u7 ho7 hg7 _; have S7 : Hid (Stt w g1 gx (gx + 1) n os u7 cs v7 (k + 1)) := (S2.out.fresh ((Below.refl _ _).alloc (Nat.le_refl _) _)).app ho7 (hx6.alloc _) hg7; clear hx6 ho7 hg7 S2)
                | fail)
            go_roundw
            case rel => exact ⟨k + 1, by omega, by go_num, by rw [HR2.out, decide_eq_false HON.out], ⟨fun h => absurd (by rw [HR2.out] at h; exact h) HON.out, fun _ => ⟨_, S7.out, HCL.out⟩⟩⟩
            case measure => simp [intOf]; omega
        · have hkn : k = n := by omega
          subst hkn
          have HQ2 : Hid (pf = (q1, q2)) := by
            show pf = (q1, q2)
            rw [HPF.out, HQ.out, HN.out, List.take_length]
          have hp1 : pf.1 = q1 := by rw [HQ2.out]
          have hp2 : pf.2 = q2 := by rw [HQ2.out]
          have HP : Hid (pf.1 = q1 ∧ pf.2 = q2) := ⟨hp1, hp2⟩
          clear hp1 hp2
          by_cases hon : OnR q1
          · obtain ⟨vk', hcs⟩ := HC.out.1 hon
            obtain ⟨xs, hx⟩ := hcs.st.rest
            obtain ⟨prx, crx, rfl⟩ := shapeO_any hx
            have HX : Hid (SF w g1 gx (gx + 1) k os wr q1 c q2 vk' (.slice prx k crx) k) := hcs
            have HON : Hid (OnR q1) := hon
            clear hcs hx HC
            rw [decide_eq_true hon]
            clear hon
            go_wp2_with (first
              | (refine ld40 _ rfl rfl _ _ rfl _ rfl HX.out.st.blk.range ?_)
              | (have g6 := HX; clear g6; at_builtin; refine wpList_append_own _ rfl (.tmp 59) (.tmp 61) 25 rfl (gx + 1) 40 i0 opN 23 264 Tryz.underlying25 hi hz0 hz1 hz2 rfl (by decide) (.slice none 0 0) 0 [] rfl (World.ownsRow_nil _ _ _ _) ⟨wr.heap.size, 0, none⟩ 1 1 (opF q1 c vk') rfl rfl (fun j x hj => by rw [Addr.add_mid]; exact range_laid wr (opF q1 c vk') 40 j x hj) (sumF_one HX.out.tr) (by unfold maxLen; omega) (by omega) (by have := HX.out.st.size; simp; omega) ?_; intro v7 u7 ho7 hg7 _; have HF7 : Below wr.heap.size wr u7 := ((Below.refl wr.heap.size wr).alloc (Nat.le_refl _) _).grown hg7 (by simp) (fun k hk => by simp [Value.ownBlock] at hk); have HB7 : Hid (Below w.heap.size w u7) := HX.out.st.below.trans (HF7.mono HX.out.st.below.size); have HT7 : Hid (SumAt u7 u7.heap.size q2 vk') := (HX.out.tr.move (fun b hb => HF7.block b hb)).grow HF7.size; rw [Nat.zero_add, List.nil_append] at ho7; obtain ⟨g7, c7, rfl, hc7, hg7s, hx7⟩ := own_one ho7; have HX7 : Hid (u7.rangeAt g7 0 (opF q1 c vk')) := hx7; clear ho7 hg7 hx7 HX HF7)
              | fail)
            go_roundw
            case rel => exact .inr ⟨by go_num, ⟨_, _, rfl⟩, HB7.out, ⟨fun _ => ⟨_, _, vk', rfl, hc7, by rw [HP.out.1]; exact HX7.out, by rw [HP.out.2]; exact HT7.out⟩, fun h => absurd HON.out (by rw [← HP.out.1]; exact h)⟩⟩
            case measure => simp [intOf]
          · obtain ⟨cs, hcs, hcl⟩ := HC.out.2 hon
            obtain ⟨xs, hx⟩ := hcs.rest
            obtain ⟨prx, crx, rfl⟩ := shapeO_any hx
            have HBw : Hid (Below w.heap.size w wr) := hcs.below
            have HON : Hid (¬ OnR q1) := hon
            clear hcs hcl hx HC
            rw [decide_eq_false hon]
            clear hon
            go_wp2
            go_roundw
            case rel => exact .inr ⟨by go_num, ⟨_, _, rfl⟩, HBw.out, ⟨fun h => absurd (by rw [← HP.out.1]; exact h) HON.out, fun _ => ⟨_, _, rfl⟩⟩⟩
            case measure => simp [intOf]
    · go_wp2
      refine bodyPost_ret (results_tmp2 rfl _ _ _) rfl ?_
      exact ⟨_, _, rfl, HBf.out, HF.out.1, HF.out.2⟩
end Go.Proofs.YtglgibmjcgfecaaGreatDoor

set_option linter.unusedSimpArgs false
set_option linter.unusedVariables false
namespace Go.Proofs.YtglgibmjcgfecaaGreatDoor
open Go Go.RowKit Go.Proofs Go.Xf Go.Sort

def MayP (r c : Int) : Prop := 0 ≤ r ∧ r < 2199023255552 ∧ 0 ≤ c ∧ c < 2199023255552
instance (r c : Int) : Decidable (MayP r c) := by unfold MayP; infer_instance
set_option maxRecDepth 100000 in
theorem mayRef_w (r c : Int) (ra ca : Bool) (w : World) : Calls Tryz.prog 9 #[.agg (rfL r c ra ca).toArray] w fun e w' => e = .returned (.bool (decide (MayP r c))) ∧ Below w.heap.size w w' := by
  go_enter Tryz.func9, Tryz.ntmps9
  go_wp2
  all_goals go_ret
  all_goals refine ⟨?_, (Below.refl _ _).alloc (Nat.le_refl _) _⟩
  all_goals refine congrArg (fun b => Ending.returned (.bool b)) ?_
  all_goals try simp only [decide_eq_true_eq, decide_eq_false_iff_not] at *
  all_goals first | (refine (decide_eq_true ?_).symm; unfold MayP; omega) | (refine (decide_eq_false ?_).symm; unfold MayP; omega) | (rw [Bool.eq_iff_iff]; simp only [decide_eq_true_eq]; unfold MayP; omega)

structure Rf where
  s : ByteArray
  r : Int
  c : Int
  ra : Bool
  ca : Bool
  deriving Inhabited
def MayR (x : Rf) : Prop := MayP x.r x.c ∧ x.r < 549755813888
instance (x : Rf) : Decidable (MayR x) := by unfold MayR; infer_instance
/-- The arguments: the first n references, those that may be. -/
def pickR (R : List Rf) : Nat → List Kid
  | 0 => []
  | n + 1 => pickR R n ++ (if MayR R[n]! then [.rf R[n]!.r R[n]!.c R[n]!.ra R[n]!.ca] else [])
theorem pickR_len (R : List Rf) : ∀ n, (pickR R n).length ≤ n
  | 0 => Nat.le_refl _
  | n + 1 => by
    rw [pickR, List.length_append]
    have := pickR_len R n
    split <;> simp <;> omega
theorem pickR_ok (R : List Rf) : ∀ n, ∀ k ∈ pickR R n, ∃ r c ra ca, k = .rf r c ra ca ∧ MayP r c
  | 0, _, h => by cases h
  | n + 1, k, h => by
    rw [pickR, List.mem_append] at h
    rcases h with h | h
    · exact pickR_ok R n k h
    · split at h
      · next hm => simp only [List.mem_singleton] at h; exact ⟨_, _, _, _, h, hm.1⟩
      · cases h
theorem pickR_Ok (R : List Rf) (n : Nat) : ∀ k ∈ pickR R n, k.Ok := fun k hk => by
  obtain ⟨r, c, ra, ca, rfl, h⟩ := pickR_ok R n k hk
  exact h
theorem pickR_no {R : List Rf} {k : Nat} (h : ¬ MayR R[k]!) : pickR R (k + 1) = pickR R k := by rw [pickR, if_neg h, List.append_nil]
theorem pickR_yes {R : List Rf} {k : Nat} (h : MayR R[k]!) : pickR R (k + 1) = pickR R k ++ [.rf R[k]!.r R[k]!.c R[k]!.ra R[k]!.ca] := by rw [pickR, if_pos h]
/-- The operations: the first n lines, those that may be. -/
def pickT (L : List Ln) : Nat → List (Bool × Ln)
  | 0 => []
  | n + 1 => pickT L n ++ (if MayL L[n]! then [(true, L[n]!)] else [])
theorem pickT_len (L : List Ln) : ∀ n, (pickT L n).length ≤ n
  | 0 => Nat.le_refl _
  | n + 1 => by
    rw [pickT, List.length_append]
    have := pickT_len L n
    split <;> simp <;> omega
theorem pickT_no {L : List Ln} {k : Nat} (h : ¬ MayL L[k]!) : pickT L (k + 1) = pickT L k := by rw [pickT, if_neg h, List.append_nil]
theorem pickT_yes {L : List Ln} {k : Nat} (h : MayL L[k]!) : pickT L (k + 1) = pickT L k ++ [(true, L[k]!)] := by rw [pickT, if_pos h]
theorem pickT_ok (L : List Ln) : ∀ n, ∀ b ∈ pickT L n, ∃ i, i < n ∧ b = (true, L[i]!) ∧ MayL L[i]!
  | 0, _, h => by cases h
  | n + 1, b, h => by
    rw [pickT, List.mem_append] at h
    rcases h with h | h
    · obtain ⟨i, hi, e⟩ := pickT_ok L n b h
      exact ⟨i, by omega, e⟩
    · split at h
      · next hm => simp only [List.mem_singleton] at h; exact ⟨n, by omega, h, hm⟩
      · cases h

/-- The row of an argument; less than none where it was lost. -/
def rowK : Kid → Int
  | .rf r _ _ _ => r
  | .er => -1
theorem rowK_er (l : Ln) : stepK l .er = .er := rfl
theorem rowK_step {l : Ln} {r c : Int} {ra ca : Bool} : rowK (stepK l (.rf r c ra ca)) = if 2199023255552 ≤ idx l r then -1 else idx l r := by
  have := idx_lo l r
  by_cases h : okRow l r
  · have h' := h
    unfold okRow at h'
    rw [show stepK l (.rf r c ra ca) = .rf (idx l r) c ra ca from if_pos h, if_neg (by omega)]
    rfl
  · have h' := h
    unfold okRow at h'
    rw [show stepK l (.rf r c ra ca) = .er from if_neg h]
    show (-1 : Int) = _
    split <;> omega
theorem runF_off : ∀ (l : List (Bool × Ln)) {q : Int × List Kid}, ¬ OnR q.1 → runF l q = q
  | [], _, _ => rfl
  | _ :: l, _, h => by rw [runF, stF_off h]; exact runF_off l h
theorem runF_append : ∀ (l l' : List (Bool × Ln)) (q : Int × List Kid), runF (l ++ l') q = runF l' (runF l q)
  | [], _, _ => rfl
  | _ :: l, l', q => by simp only [List.cons_append, runF]; exact runF_append l l' _
theorem runF_upto {os : List (Bool × Ln)} {q : Int × List Kid} (j : Nat) (h : ¬ OnR (runF (os.take j) q).1) : runF os q = runF (os.take j) q := by
  conv => lhs; rw [← List.take_append_drop j os]
  rw [runF_append, runF_off _ h]
theorem runF_on {os : List (Bool × Ln)} {q : Int × List Kid} (h : OnR (runF os q).1) (j : Nat) : OnR (runF (os.take j) q).1 := by
  by_cases hj : OnR (runF (os.take j) q).1
  · exact hj
  · rw [runF_upto j hj] at h; exact h
theorem runF_next {os : List (Bool × Ln)} {q : Int × List Kid} {j : Nat} (hj : j < os.length) : runF (os.take (j + 1)) q = stF os[j]! (runF (os.take j) q) := by
  rw [List.take_succ_eq_append_getElem hj, runF_snoc, getElem!_pos os j hj]
theorem stF_len {b : Bool × Ln} {q : Int × List Kid} : (stF b q).2.length = q.2.length := by
  unfold stF; split <;> simp
theorem runF_len : ∀ (l : List (Bool × Ln)) {q : Int × List Kid}, (runF l q).2.length = q.2.length
  | [], _ => rfl
  | _ :: l, _ => by rw [runF, runF_len l, stF_len]
theorem map_get {l : Ln} {ks : List Kid} {i : Nat} (hi : i < ks.length) : (ks.map (stepK l))[i]! = stepK l ks[i]! := by
  rw [getElem!_pos _ i (by simpa using hi), getElem!_pos ks i hi, List.getElem_map]
theorem kid_next {os : List (Bool × Ln)} {q : Int × List Kid} {i j : Nat} (hj : j < os.length) (ho : OnR (runF os q).1) (hi : i < q.2.length) : (runF (os.take (j + 1)) q).2[i]! = stepK os[j]!.2 (runF (os.take j) q).2[i]! := by
  rw [runF_next hj, stF_on (runF_on ho j)]
  exact map_get (by rw [runF_len]; exact hi)
theorem er_stays : ∀ (l : List (Bool × Ln)) (q : Int × List Kid) (i : Nat), i < q.2.length → q.2[i]! = .er → (runF l q).2[i]! = .er
  | [], _, _, _, h => h
  | b :: l, q, i, hi, h => by
    rw [runF]
    refine er_stays l _ i (by rw [stF_len]; exact hi) ?_
    by_cases ho : OnR q.1
    · rw [stF_on ho]
      show (q.2.map (stepK b.2))[i]! = .er
      rw [map_get hi, h]; rfl
    · rw [stF_off ho]; exact h
theorem er_upto {os : List (Bool × Ln)} {q : Int × List Kid} (j : Nat) {i : Nat} (hi : i < q.2.length) (h : (runF (os.take j) q).2[i]! = .er) : (runF os q).2[i]! = .er := by
  conv => lhs; rw [← List.take_append_drop j os]
  rw [runF_append]
  exact er_stays _ _ i (by rw [runF_len]; exact hi) h
theorem rowK_lt {k : Kid} (h : k.Ok) : -1 ≤ rowK k ∧ rowK k < 2199023255552 := by
  cases k with
  | rf r c ra ca => obtain ⟨h1, h2, _⟩ := h; simp only [rowK]; omega
  | er => simp only [rowK]; omega

theorem Grp.ext {w : World} {B : Nat} {ks ks' : List Kid} {n : Nat} {xs : List Value} {H : Nat → Nat} (g : Grp w B ks n xs H) (h : ∀ j, j < n → ks[j]! = ks'[j]!) : Grp w B ks' n xs H :=
  ⟨fun j hj => by rw [← h j hj]; exact g.kid j hj, fun j j' hj hj' => by rw [← h j hj, ← h j' hj']; exact g.apart j j' hj hj'⟩
theorem snoc_lt {ks : List Kid} {k : Kid} {j : Nat} (h : j < ks.length) : ks[j]! = (ks ++ [k])[j]! := by
  rw [getElem!_pos ks j h, getElem!_pos _ j (by simp; omega), List.getElem_append_left h]
theorem snoc_last {ks : List Kid} {k : Kid} : (ks ++ [k])[ks.length]! = k := by
  rw [getElem!_pos _ ks.length (by simp)]; simp

/-- What holds in the round over the references: the tree's first node stands in a block; its arguments in a row of the call's own. -/
structure RS (w : World) (E : Nat) (ks : List Kid) (v : Value) (u : World) : Prop where
  wE : w.heap.size ≤ E
  below : Below w.heap.size w u
  blk : Bl7 u E (exF v)
  own : ∃ xs H, u.ownsRow (E + 1) 35 7 v ks.length xs ∧ Grp u (E + 1) ks ks.length xs H
theorem RS.next {w : World} {E : Nat} {ks : List Kid} {v : Value} {u u' : World} (h : RS w E ks v u) (hb : Below u.heap.size u u') : RS w E ks v u' := by
  obtain ⟨xs, H, ho, hg⟩ := h.own
  exact ⟨h.wE, h.below.trans (hb.mono h.below.size), h.blk.below hb h.blk.lt, xs, H, owns_block ho fun g _ hg => hb.block g hg, hg.next hb⟩
theorem RefOwn.new (w : World) (r c : Int) (ra ca : Bool) : RefOwn (w.alloc (.cells (rfL r c ra ca).toArray 46)) w.heap.size w.heap.size r c ra ca :=
  ⟨Nat.le_refl _, _, heap_alloc_last w _, Nat.le_refl _, rfl⟩
theorem RS.app {w : World} {E : Nat} {ks : List Kid} {v v7 : Value} {u2 u7 : World} {xs : List Value} {H : Nat → Nat} {r c : Int} {ra ca : Bool} {o : Obj} (h : RS w E ks v u2) (hox : u2.ownsRow (E + 1) 35 7 v ks.length xs) (hgx : Grp u2 (E + 1) ks ks.length xs H)
    (ho7 : u7.ownsRow (E + 1) 35 7 v7 (ks.length + 1) (xs ++ exR (.slice (some ⟨u2.heap.size, 0, none⟩) 1 1))) (hg7 : ((u2.alloc (.cells (rfL r c ra ca).toArray 46)).alloc o).grownBy u7 v.ownBlock) :
    Bl7 u7 E (exF v) ∧ Below w.heap.size w u7 ∧ RS w E (ks ++ [.rf r c ra ca]) v7 (u7.setCell ⟨E, 6, none⟩ v7) := by
  have hE : E < u2.heap.size := h.blk.lt
  have hb5 : Below u2.heap.size u2 ((u2.alloc (.cells (rfL r c ra ca).toArray 46)).alloc o) := ((Below.refl _ _).alloc (Nat.le_refl _) _).alloc (by simp) _
  have hrow : ∀ k, v.ownBlock = some k → E + 1 ≤ k := fun k hk => (hox.lt k hk).1
  have hb7 : Below (E + 1) u2 u7 := (hb5.mono (by omega)).grown hg7 (by simp; omega) hrow
  have ho5 : ((u2.alloc (.cells (rfL r c ra ca).toArray 46)).alloc o).ownsRow (E + 1) 35 7 v ks.length xs := owns_block hox fun g _ hg => hb5.block g hg
  have b7 : Bl7 u7 E (exF v) := h.blk.below hb7 (by omega)
  have l7 : Below w.heap.size w u7 := h.below.trans (hb7.mono (by have := h.wE; omega))
  have hv : KidOwn (u2.alloc (.cells (rfL r c ra ca).toArray 46)) u2.heap.size (ks ++ [.rf r c ra ca])[ks.length]! (exR (.slice (some ⟨u2.heap.size, 0, none⟩) 1 1)) u2.heap.size := by
    rw [snoc_last]; exact ⟨⟨1, rfl, Nat.le_refl _⟩, RefOwn.new u2 r c ra ca⟩
  have hgx' : Grp u2 (E + 1) (ks ++ [.rf r c ra ca]) ks.length xs H := hgx.ext fun j hj => snoc_lt hj
  have g7 := ((Grp.snoc hgx' (hgx'.next ((Below.refl _ _).alloc (Nat.le_refl _) _)) hox.1 hv (by omega)).next ((Below.refl _ _).alloc (Nat.le_refl _) o)).grown ho5 hg7
  refine ⟨b7, l7, h.wE, l7.setCell h.wE _, b7.set 6 v7, xs ++ exR (.slice (some ⟨u2.heap.size, 0, none⟩) 1 1), fun j => if j = ks.length then u2.heap.size else H j, ?_, ?_⟩
  · rw [List.length_append]
    exact owns_block ho7 fun g hg _ => set_heap_ne _ _ _ _ _ (by omega)
  · rw [List.length_append]
    exact g7.move fun b cur hc => set_heap_ne _ _ _ _ _ fun e => by
      subst e
      have hb : u7.heap[b]? = some (.cells (exF v).toArray 35 (0, 0)) := b7
      rw [hb] at hc
      simp at hc
theorem RS.start {w u : World} {E : Nat} (hb : Below w.heap.size w u) (hE : Bl7 u E (exF sN)) (hw : w.heap.size ≤ E) : RS w E [] sN u :=
  ⟨hw, hb, hE, [], fun _ => 0, World.ownsRow_nil _ _ _ _, ⟨fun j hj => absurd hj (Nat.not_lt_zero _), fun j j' hj => absurd hj (Nat.not_lt_zero _)⟩⟩
theorem RS.sum {w : World} {E : Nat} {ks : List Kid} {v : Value} {u : World} (h : RS w E ks v u) : SumAt u u.heap.size ks v := by
  obtain ⟨xs, H, ho, hg⟩ := h.own
  exact SumOwn.at (B := E + 1) ⟨xs, H, ho, hg⟩
end Go.Proofs.YtglgibmjcgfecaaGreatDoor

set_option linter.unusedSimpArgs false
set_option linter.unusedVariables false
namespace Go.Proofs.YtglgibmjcgfecaaGreatDoor
open Go Go.RowKit Go.Proofs Go.Xf Go.Sort

set_option maxRecDepth 100000 in
set_option maxHeartbeats 8000000 in
theorem batchesF_0 (r c : Int) (ks : List Kid) (vk : Value) (ga ca : Nat) (w : World) (hTr : SumAt w w.heap.size ks vk) (hA : w.rangeAt ga 0 (opF r c vk)) (hal : ga < w.heap.size) (hca : 1 ≤ ca) :
    Calls Tryz.prog 8 #[.slice (some ⟨ga, 0, none⟩) 1 ca, .slice none 0 0, .bool true] w fun e w' => ∃ vo, e = .returned (.tuple #[vo, .slice none 0 0]) ∧ Below w.heap.size w w' ∧
      ∃ g cc, vo = .slice (some ⟨g, 0, none⟩) 1 cc ∧ 1 ≤ cc ∧ w'.rangeAt g 0 (opF r c vk) ∧ SumAt w' w'.heap.size ks vk := by
  obtain ⟨i0, hi, hz0, hz1, hz2⟩ := info_parts Tryz.info40
  have HA1 : Hid (w.rangeAt ga 0 (opF r c vk)) := hA
  have HTR : Hid (SumAt w w.heap.size ks vk) := hTr
  clear hA hTr
  obtain ⟨vp, vn, rfl, _⟩ := HTR.out
  go_enter Tryz.func8, Tryz.ntmps8
  go_wp2
  go_loopw [1, 8, 21] (fun v1' v8 v21 wr => (v21 = .int .i64 0 ∧ v8 = .slice none 0 0 ∧ v1' = .slice none 0 0 ∧ wr = w) ∨
    (v21 = .int .i64 1 ∧ v1' = .slice none 0 0 ∧ Hid (Below w.heap.size w wr) ∧ Hid (∃ g cc, v8 = .slice (some ⟨g, 0, none⟩) 1 cc ∧ 1 ≤ cc ∧ wr.rangeAt g 0 (opF r c (.slice vp ks.length vn)) ∧ SumAt wr wr.heap.size ks (.slice vp ks.length vn)))) (fun _ _ v21 _ => 1 - (intOf v21).toNat)
  case atStart => exact .inl ⟨rfl, rfl, rfl, rfl⟩
  case round =>
    rcases hrel with ⟨rfl, rfl, rfl, rfl⟩ | ⟨rfl, rfl, HBf, HF⟩
    · go_wp2_with (first
        | (have g6 := HA1; clear g6; refine ld40 _ rfl rfl _ _ rfl _ rfl HA1.out ?_)
        | (have g6 := HA1; clear g6; refine stLast _ _ rfl rfl _ rfl rfl (opF r c (.slice vp ks.length vn)) rfl rfl rfl (opF_one _ _ _ _ _) ?_; intro w2 hb2 hlo2 hs2; have HX2 : Hid (Blk w2 wr.heap.size (opF r c (.slice vp ks.length vn))) := hb2; have HB2 : Hid (Below wr.heap.size wr w2) := hlo2; clear hb2 hlo2 hs2 HA1)
        | fail)
      obtain ⟨gx, hgx⟩ : ∃ gx, gx = wr.heap.size := ⟨_, rfl⟩
      have HGX : Hid (wr.heap.size = gx ∧ Below gx wr w2) := ⟨hgx.symm, by rw [hgx]; exact HB2.out⟩
      have HT2 : Hid (SumAt w2 w2.heap.size ks (.slice vp ks.length vn)) := (HTR.out.move (fun b hb => HB2.out.block b hb)).grow HB2.out.size
      rw [← hgx] at HX2 ⊢
      clear hgx HB2
      go_loopw [11, 12, 27] (fun v11 v12 v27 u => v11 = .slice none 0 0 ∧ v12 = .bool true ∧ v27 = .int .i64 0 ∧ u = w2) (fun _ _ _ _ => 0)
      case atStart => exact ⟨rfl, rfl, rfl, rfl⟩
      case round =>
        obtain ⟨rfl, rfl, rfl, rfl⟩ := hrel
        go_wp2_with (first
          | (have g6 := HX2; clear g6; refine ld40 _ rfl rfl _ _ rfl _ rfl HX2.out.range ?_)
          | (have g6 := HX2; clear g6; at_builtin; refine wpList_append_own _ rfl (.tmp 59) (.tmp 61) 25 rfl wr.heap.size 40 i0 opN 23 264 Tryz.underlying25 hi hz0 hz1 hz2 rfl (by decide) (.slice none 0 0) 0 [] rfl (World.ownsRow_nil _ _ _ _) ⟨wr.heap.size, 0, none⟩ 1 1 (opF r c (.slice vp ks.length vn)) rfl rfl (fun j x hj => by rw [Addr.add_mid]; exact range_laid wr (opF r c (.slice vp ks.length vn)) 40 j x hj) (opF_one _ _ _ _ _) (by unfold maxLen; omega) (by omega) (by simp) ?_; intro v7 u7 ho7 hg7 _; have HF7 : Below wr.heap.size wr u7 := ((Below.refl _ _).alloc (Nat.le_refl _) _).grown hg7 (by simp) (fun k hk => by simp [Value.ownBlock] at hk); have HB7 : Hid (Below wr.heap.size wr u7) := HF7; have HT7 : Hid (SumAt u7 u7.heap.size ks (.slice vp ks.length vn)) := (HT2.out.move (fun b hb => HF7.block b hb)).grow HF7.size; rw [Nat.zero_add, List.nil_append] at ho7; obtain ⟨g7, c7, rfl, hc7, hg7s, hx7⟩ := own_one ho7; have HX7 : Hid (u7.rangeAt g7 0 (opF r c (.slice vp ks.length vn))) := hx7; clear ho7 hg7 hx7 HX2 HF7)
          | fail)
        go_roundw
        case rel => exact .inr ⟨by go_num, rfl, by obtain ⟨e1, e2⟩ := HGX.out; rw [e1]; exact e2.trans (HB7.out.mono (by have := e2.size; omega)), ⟨_, _, rfl, hc7, HX7.out, HT7.out⟩⟩
        case measure => simp [intOf]
    · go_wp2
      go_ret2
      exact ⟨_, rfl, HBf.out, HF.out⟩

theorem batchesF_all (os : List (Bool × Ln)) (r c : Int) (ks : List Kid) (vk : Value) (hp : OnR r) (hc0' : 0 ≤ c) (hc1' : c < 2199023255552) (hks : GoodK (r, ks)) (hl : os.length ≤ 8) (hgood : ∀ b ∈ os, GoodT b) (ga ca n : Nat) (v : Value) (B : Nat) (w : World) (hn : n = os.length) (hT : Tab w) (hTr : SumAt w w.heap.size ks vk) (hA : w.rangeAt ga 0 (opF r c vk)) (hal : ga < w.heap.size) (hca : 1 ≤ ca)
    (hO : w.ownsRow B 40 23 v n (cellsO os)) (hz : n = 0 → v = .slice none 0 0) :
    Calls Tryz.prog 8 #[.slice (some ⟨ga, 0, none⟩) 1 ca, v, .bool true] w fun e w' => ∃ vo v2, e = .returned (.tuple #[vo, v2]) ∧ Below w.heap.size w w' ∧
      (OnR (runF os (r, ks)).1 → ∃ g cc vk', vo = .slice (some ⟨g, 0, none⟩) 1 cc ∧ 1 ≤ cc ∧ w'.rangeAt g 0 (opF (runF os (r, ks)).1 c vk') ∧ SumAt w' w'.heap.size (runF os (r, ks)).2 vk') ∧ (¬ OnR (runF os (r, ks)).1 → ∃ q cc, vo = .slice q 0 cc) := by
  subst hn
  by_cases h0 : os.length = 0
  · obtain rfl := hz h0
    obtain rfl := List.length_eq_zero_iff.1 h0
    refine (batchesF_0 r c ks vk ga ca w hTr hA hal hca).mono fun e w' ⟨vo, h1, h2, g, cc, h3, h4, h5, h6⟩ => ⟨vo, _, h1, h2, fun _ => ⟨g, cc, vk, h3, h4, h5, h6⟩, fun h => absurd hp h⟩
  · obtain ⟨g1, c1, rfl, hc1, _, hg1s, hx1⟩ := shapeO hO (by omega)
    exact batchesF os r c ks vk hp hc0' hc1' hks hl (by omega) hgood ga ca g1 c1 w hT hTr hA hal hca (fun j u hj => by rw [Addr.add_mid]; exact hx1 j u hj) hg1s hc1
end Go.Proofs.YtglgibmjcgfecaaGreatDoor

