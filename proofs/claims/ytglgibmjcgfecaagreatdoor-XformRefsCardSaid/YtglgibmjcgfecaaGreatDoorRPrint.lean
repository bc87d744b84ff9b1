/- XformRefs, the walks: a reference that may be is printed as some text. -/
import Derived.Test.YtglgibmjcgfecaaGreatDoorXOps
import Derived.Test.YtglgibmjcgfecaaGreatDoorRShelf
import Derived.Lib.QuietBelow
import Derived.Lib.LaidTab
import Derived.Lib.ItoaLen
import Derived.Laws.IdiomStrings
import Derived.Deep.MidRow
import Derived.Deep.WholeRow
set_option linter.unusedSimpArgs false
set_option linter.unusedVariables false
set_option linter.unusedSimpArgs false
set_option linter.unusedVariables false
namespace Go.Proofs.YtglgibmjcgfecaaGreatDoor
open Go Go.RowKit Go.Proofs Go.Xf Go.Sort

theorem conv1 (u : World) (x : Int) : (convert 164 9 (.slice (some ⟨u.heap.size, 0, none⟩) 1 1)).run Tryz.prog (u.alloc (.cells #[.int .u8 x] 5)) = .ok (.string ⟨#[UInt8.ofNat x.toNat]⟩) (u.alloc (.cells #[.int .u8 x] 5)) := by
  rw [run_convert_bytes_string _ 164 9 5 _ _ _ Tryz.underlying164 Tryz.underlying5 Tryz.underlying9]
  have hl := run_loadCells_list (P := Tryz.prog) (u.alloc (.cells #[.int .u8 x] 5)) ⟨u.heap.size, 0, none⟩ [.int .u8 x] (fun j v hj => by
    have h0 : j = 0 := by
      have := (List.getElem?_eq_some_iff.1 hj).1
      simpa using this
    subst h0
    simp at hj
    subst hj
    simp [Addr.add])
  rw [run_bytesToString _ _ 1 1 [x] hl]
  rfl

theorem wrp {x : Int} (h1 : -9223372036854775808 ≤ x) (h2 : x ≤ 9223372036854775807) : wrap64 x = x := wr h1 h2
theorem size1 (c : UInt8) (s : ByteArray) : ((⟨#[c]⟩ : ByteArray) ++ s).size = 1 + s.size := by rw [ByteArray.size_append]; rfl
theorem size1p (c : UInt8) (s : ByteArray) : 0 < ((⟨#[c]⟩ : ByteArray) ++ s).size := by rw [size1]; omega

set_option maxRecDepth 100000 in
set_option maxHeartbeats 2000000 in
theorem colName_w (c : Int) (h0 : 0 ≤ c) (h1 : c < 2199023255552) (w : World) : Calls Tryz.prog 115 #[n64 c] w fun e w' => ∃ s : ByteArray, e = .returned (.string s) ∧ 0 < s.size ∧ s.size ≤ 2199023255553 ∧ Below w.heap.size w w' := by
  have e1 : wrap64 (c + 1) = c + 1   := wrp (by omega) (by omega)
  go_enter Tryz.func115, Tryz.ntmps115
  go_wp2
  go_loopw [0, 3] (fun v0 v3 wr => ∃ (m : Int) (s : ByteArray), v0 = n64 m ∧ v3 = .string s ∧ 0 ≤ m ∧ m + s.size ≤ 2199023255553 ∧ (0 < m ∨ 0 < s.size) ∧ Hid (Below w.heap.size w wr)) (fun v0 _ _ => (intOf v0).toNat)
  case atStart => exact ⟨c + 1, ⟨#[]⟩, by first | rfl | rw [e1], rfl, by omega, by simp [ByteArray.size]; omega, by omega, Below.refl _ _⟩
  case round =>
    obtain ⟨m, s, rfl, rfl, hm, hsz, hne, HB⟩ := hrel
    have hcv := conv1
    by_cases hm0 : 0 < m
    · have q1 : wrap64 (m - 1) = m - 1   := wrp (by omega) (by omega)
      have q2 : (m - 1).tmod 26 = (m - 1) % 26 := Int.tmod_eq_emod_of_nonneg (by omega)
      have q3 : (m - 1).tdiv 26 = (m - 1) / 26 := Int.tdiv_eq_ediv_of_nonneg (by omega)
      go_wp2
      refine ⟨⟨(m - 1) / 26, _, rfl, rfl, by omega, ?_, .inr (size1p _ _), HB.out.alloc HB.out.size _⟩, ?_⟩
      · rw [size1]; omega
      · simp [intOf]; omega
    · have hm1 : m = 0 := by omega
      subst hm1
      go_wp2
      all_goals first
        | (exfalso; simp at *; done)
        | skip
      all_goals go_ret
      all_goals exact ⟨s, rfl, by omega, by omega, HB.out⟩

theorem below_grow0 (w : World) (k : Nat) (os : Array Obj) : Below w.heap.size w (grow (w.drewN k) os) :=
  ⟨rfl, rfl, rfl, by show w.heap.size ≤ (w.heap ++ os).size; rw [Array.size_append]; omega, fun j hj => by show (w.heap ++ os)[j]? = _; rw [Array.getElem?_append_left hj]⟩

/-- The table of powers that printing reads. -/
def Tab (w : World) : Prop := Lib.TabIs Tryz.prog w "internal/strconv.uint64pow10" .u64 Lib.pow10Tab
theorem tab5 : Tryz.prog.globalNamed "internal/strconv.uint64pow10" = some 5 := by kernel_rfl
theorem Tab.block {w w' : World} (h : Tab w) (hb : w'.heap[5]? = w.heap[5]?) : Tab w' := by
  unfold Tab Lib.TabIs World.var? at h ⊢
  rw [tab5] at h ⊢
  simp only [Option.bind_some] at h ⊢
  rw [hb]; exact h
theorem Tab.lt {w : World} (h : Tab w) : 5 < w.heap.size := by
  unfold Tab Lib.TabIs World.var? at h
  rw [tab5] at h
  by_cases hn : 5 < w.heap.size
  · exact hn
  · simp [Array.getElem?_eq_none (Nat.le_of_not_lt hn)] at h
theorem Tab.below {w w' : World} {B : Nat} (h : Tab w) (hb : Below B w w') (hB : 5 < B) : Tab w' := h.block (hb.block 5 hB)
theorem Tab.next {w w' : World} (h : Tab w) (hb : Below w.heap.size w w') : Tab w' := h.below hb h.lt

def signS (v : Bool) : ByteArray := if v then ⟨#[36]⟩ else ⟨#[]⟩
theorem signS_size (v : Bool) : (signS v).size ≤ 1 := by cases v <;> decide
set_option maxRecDepth 100000 in
theorem sign_w (v : Bool) (w : World) : Calls Tryz.prog 116 #[.bool v] w fun e w' => e = .returned (.string (signS v)) ∧ w' = w := by
  cases v
  all_goals go_enter Tryz.func116, Tryz.ntmps116
  all_goals go_wp2
  all_goals go_ret
  all_goals exact ⟨rfl, rfl⟩
theorem toList_ne {T : ByteArray} (h : 0 < T.size) : T.toList.isEmpty = false := by
  have : T.toList.length = T.size := by simp [ByteArray.toList_eq]
  cases e : T.toList with
  | nil => rw [e] at this; simp at this; omega
  | cons => rfl

theorem kept1 {w w1 : World} {cs : Array Value} {e : TypeId} (hb : Below (w.alloc (.cells cs e)).heap.size (w.alloc (.cells cs e)) w1) (j : Nat) : w1.cell? ⟨w.heap.size, j, none⟩ = cs[j]? := by
  rw [hb.cell (by simp)]
  exact laid_cell w cs e j
theorem kept_below {w w1 : World} {o : Obj} (hb : Below (w.alloc o).heap.size (w.alloc o) w1) : Below w.heap.size w w1 := ((Below.refl _ _).alloc (Nat.le_refl _) _).trans (hb.mono (by simp))
theorem format_w (n : Int) (h0 : -9223372036854775808 ≤ n) (h1 : n ≤ 9223372036854775807) (il : ByteArray) (hil : il = ⟨(Lib.itoa n).toArray⟩) (w : World) (hT : Tab w) :
    Calls Tryz.prog 117 #[.int .i64 n, .int .i64 10] w fun e w' => e = .returned (.string il) ∧ Below w.heap.size w w' := by
  subst hil
  refine (Tryz.strconv_FormatInt_10 n h0 h1 w hT).mono ?_
  rintro e w2 ⟨rfl, kk, os, rfl⟩
  exact ⟨rfl, below_grow0 w kk os⟩
set_option maxRecDepth 100000 in
set_option maxHeartbeats 2000000 in
theorem print_w (r c : Int) (ra ca : Bool) (h0 : 0 ≤ r) (h1 : r < 2199023255552) (h2 : 0 ≤ c) (h3 : c < 2199023255552) (w : World) (hT : Tab w) :
    Calls Tryz.prog 88 #[.agg #[.string ⟨#[]⟩, n64 r, n64 c, .bool ra, .bool ca]] w fun e w' => ∃ s : ByteArray, e = .returned (.string s) ∧ 0 < s.size ∧ Below w.heap.size w w' := by
  have e1 : wrap64 (r + 1) = r + 1 := wr (by omega) (by omega)
  have HT : Hid (Tab w) := hT
  clear hT
  go_enter Tryz.func88, Tryz.ntmps88
  go_wp2_with (first
    | (go_at_call 115; refine (colName_w c h2 h3 _).mono ?_; rintro e w1 ⟨s1, rfl, hs1, hs2, hb1⟩; have hne := toList_ne hs1; have p0 : w1.cell? ⟨w.heap.size, 0, none⟩ = some (.string ⟨#[]⟩) := kept1 hb1 0; have p1 : w1.cell? ⟨w.heap.size, 1, none⟩ = some (n64 r) := kept1 hb1 1; have p3 : w1.cell? ⟨w.heap.size, 3, none⟩ = some (.bool ra) := kept1 hb1 3; have p4 : w1.cell? ⟨w.heap.size, 4, none⟩ = some (.bool ca) := kept1 hb1 4; have HB1 : Hid (Below w.heap.size w w1) := kept_below hb1; have HS1 : Hid (w.heap.size < w1.heap.size) := (by have := hb1.size; simp at this; show w.heap.size < w1.heap.size; omega); clear hb1)
    | fail)
  · have z1 := signS_size ca
    have z2 := signS_size ra
    have z3 := Lib.itoa_length_le (r + 1) (by omega) (by omega)
    obtain ⟨il, hil⟩ : ∃ il : ByteArray, il = ⟨(Lib.itoa (r + 1)).toArray⟩ := ⟨_, rfl⟩
    have z4 : il.size ≤ 21 := by rw [hil]; exact z3
    have HIL : Hid (il = ⟨(Lib.itoa (r + 1)).toArray⟩) := hil
    have k1 : ¬ 9223372036854775807 < (signS ca).size + s1.size := by omega
    have k2 : ¬ 9223372036854775807 < (signS ca).size + s1.size + (signS ra).size := by omega
    have k3 : ¬ 9223372036854775807 < (signS ca).size + s1.size + (signS ra).size + il.size := by omega
    clear z4 hil
    clear z1 z2 z3
    have HT1 : Hid (Tab w1) := HT.out.next HB1.out
    have k0 := cell_regrown p0
    have kk1 := cell_regrown p1
    have kk3 := cell_regrown p3
    have kk4 := cell_regrown p4
    have cF : ∀ d os, Calls Tryz.prog 117 #[.int .i64 (r + 1), .int .i64 10] (grow (redrawn w1 d) os) fun e w'' => e = .returned (.string il) ∧ ∃ p : Regrown, w'' = grow (redrawn w1 p.d) p.os := fun d os => Calls.regrown_of (format_w (r + 1) (by omega) (by omega) il HIL.out _ (HT1.out.next (below_regrown w1 d os)))
    have cS : ∀ v d os, Calls Tryz.prog 116 #[.bool v] (grow (redrawn w1 d) os) fun e w'' => e = .returned (.string (signS v)) ∧ ∃ p : Regrown, w'' = grow (redrawn w1 p.d) p.os := fun v d os => Calls.regrown_of ((sign_w v _).mono fun e w' ⟨he, hw⟩ => ⟨he, by subst hw; exact Below.refl _ _⟩)
    have e2 : IntKind.i64.wrap (r + 1) = r + 1 := by unfold IntKind.wrap; simp [IntKind.bits, IntKind.signed]; omega
    refine wp_region_quiet_below (by kernel_rfl) (by kernel_rfl) ?_
    repeat (quiet_step (first | exact cF _ _ | exact cS _ _ _))
    refine wpQuiet_nil ?_
    intro _ hw'
    obtain ⟨⟨dq, osq⟩, hw''⟩ := hw'
    subst hw''
    have q0 := k0 dq osq
    have HB2 : Hid (Below w.heap.size w (grow (redrawn w1 dq) osq)) := HB1.out.trans ((below_regrown w1 dq osq).mono HB1.out.size)
    go_wp2
    go_ret
    exact ⟨_, rfl, by rw [ByteArray.size_append, ByteArray.size_append, ByteArray.size_append]; omega, HB2.out⟩
end Go.Proofs.YtglgibmjcgfecaaGreatDoor

set_option linter.unusedSimpArgs false
set_option linter.unusedVariables false
namespace Go.Proofs.YtglgibmjcgfecaaGreatDoor
open Go Go.RowKit Go.Proofs Go.Xf

/-- An argument: a reference, or one that was lost. -/
inductive Kid where
  | rf (r c : Int) (ra ca : Bool)
  | er
  deriving Inhabited

def Kid.Ok : Kid → Prop
  | .rf r c _ _ => 0 ≤ r ∧ r < 2199023255552 ∧ 0 ≤ c ∧ c < 2199023255552
  | .er => True

abbrev bSUM : ByteArray := ⟨#[83, 85, 77]⟩
abbrev exF (vk : Value) : List Value := [n64 9, n64 0, .string bSUM, .bool false, n64 0, sN, vk]
abbrev exR (v : Value) : List Value := [n64 5, n64 0, sE, .bool false, n64 0, v, sN]
abbrev exE : List Value := [n64 4, n64 0, sE, .bool false, n64 1, sN, sN]
abbrev rfL (r c : Int) (ra ca : Bool) : List Value := [sE, n64 r, n64 c, .bool ra, .bool ca]

/-- How an argument lies, below a block. -/
def KidAt (w : World) (N : Nat) : Kid → List Value → Prop
  | .rf r c ra ca, vs => ∃ h q, vs = exR (.slice (some ⟨h, 0, none⟩) 1 q) ∧ 1 ≤ q ∧ h < N ∧ w.rangeAt h 0 (rfL r c ra ca)
  | .er, vs => vs = exE

theorem KidAt.move {w w' : World} {N : Nat} {k : Kid} {vs : List Value} (h : KidAt w N k vs) (hb : ∀ b, b < N → w'.heap[b]? = w.heap[b]?) : KidAt w' N k vs := by
  cases k with
  | rf r c ra ca =>
    obtain ⟨g, q, e, hq, hg, hr⟩ := h
    exact ⟨g, q, e, hq, hg, range_block hr (hb g hg)⟩
  | er => exact h
theorem KidAt.len {w : World} {N : Nat} {k : Kid} {vs : List Value} (h : KidAt w N k vs) : vs.length = 7 := by
  cases k with
  | rf r c ra ca => obtain ⟨g, q, rfl, hq, hg, hr⟩ := h; rfl
  | er => have e : vs = exE := h; subst e; rfl
theorem KidAt.one {w : World} {N : Nat} {k : Kid} {vs : List Value} (h : KidAt w N k vs) : ∀ v ∈ vs, v.oneCell' = true := by
  cases k with
  | rf r c ra ca =>
    obtain ⟨g, q, rfl, hq, hg, hr⟩ := h
    exact List.all_eq_true.1 (show (exR (.slice (some ⟨g, 0, none⟩) 1 q)).all (·.oneCell') = true from rfl)
  | er => have e : vs = exE := h; subst e; exact List.all_eq_true.1 (show exE.all (·.oneCell') = true from rfl)

/-- How the arguments lie, below a block. -/
structure KidsAt (w : World) (N : Nat) (ks : List Kid) (g : Nat) : Prop where
  lt : g < N
  each : ∀ i, i < ks.length → ∃ vs, KidAt w N ks[i]! vs ∧ w.rangeAt g (i * 7) vs
def SumAt (w : World) (N : Nat) (ks : List Kid) (vk : Value) : Prop :=
  ∃ p q, vk = .slice p ks.length q ∧ ks.length ≤ q ∧ (0 < ks.length → ∃ g, p = some ⟨g, 0, none⟩ ∧ KidsAt w N ks g)
theorem SumAt.move {w w' : World} {N : Nat} {ks : List Kid} {vk : Value} (h : SumAt w N ks vk) (hb : ∀ b, b < N → w'.heap[b]? = w.heap[b]?) : SumAt w' N ks vk := by
  obtain ⟨p, q, e, hq, h⟩ := h
  refine ⟨p, q, e, hq, fun h0 => ?_⟩
  obtain ⟨g, e2, hg, hk⟩ := h h0
  refine ⟨g, e2, hg, fun i hi => ?_⟩
  obtain ⟨vs, h1, h2⟩ := hk i hi
  exact ⟨vs, h1.move hb, range_block h2 (hb g hg)⟩

/-- A counter, and what lies beside it. -/
structure Cnt (w : World) (L : Nat) (m : Int) (u : World) : Prop where
  os : u.os = w.os
  tape : u.tape = w.tape
  output : u.output = w.output
  size : w.heap.size ≤ u.heap.size
  block : ∀ b, b < w.heap.size → b ≠ L → u.heap[b]? = w.heap[b]?
  cell : u.cell? ⟨L, 0, none⟩ = some (n64 m)
  frozen : u.frozen? ⟨L, 0, none⟩ = false
theorem Cnt.start {w : World} {L : Nat} {m : Int} (hc : w.cell? ⟨L, 0, none⟩ = some (n64 m)) (hf : w.frozen? ⟨L, 0, none⟩ = false) : Cnt w L m w := ⟨rfl, rfl, rfl, Nat.le_refl _, fun _ _ _ => rfl, hc, hf⟩
theorem Cnt.lt {w u : World} {L : Nat} {m : Int} (h : Cnt w L m u) : L < u.heap.size := World.block_lt_of_cell? _ _ h.cell
theorem Cnt.trans {w u u' : World} {L : Nat} {m m' : Int} (h : Cnt w L m u) (k : Cnt u L m' u') : Cnt w L m' u' :=
  ⟨k.os.trans h.os, k.tape.trans h.tape, k.output.trans h.output, Nat.le_trans h.size k.size, fun b hb hn => (k.block b (Nat.lt_of_lt_of_le hb h.size) hn).trans (h.block b hb hn), k.cell, k.frozen⟩
theorem Cnt.next {w u u' : World} {L : Nat} {m : Int} (h : Cnt w L m u) (hb : Below u.heap.size u u') : Cnt w L m u' :=
  ⟨hb.os.trans h.os, hb.tape.trans h.tape, hb.output.trans h.output, Nat.le_trans h.size hb.size, fun b hl hn => (hb.block b (Nat.lt_of_lt_of_le hl h.size)).trans (h.block b hl hn), (hb.cell h.lt).trans h.cell, (hb.frozen h.lt).trans h.frozen⟩
theorem Cnt.set {w u : World} {L : Nat} {m : Int} (h : Cnt w L m u) (m' : Int) : Cnt w L m' (u.setCell ⟨L, 0, none⟩ (n64 m')) := by
  refine ⟨h.os, h.tape, h.output, by simpa [World.setCell] using h.size, fun b hb hn => ?_, set_self h.cell, ?_⟩
  · simp only [World.setCell, Array.getElem?_modify]
    rw [if_neg (fun e => hn e.symm)]
    exact h.block b hb hn
  · simpa using h.frozen
theorem Cnt.below {w u : World} {L : Nat} {m : Int} (h : Cnt w L m u) {B : Nat} (hB : B ≤ L) (hw : B ≤ w.heap.size) : Below B w u :=
  ⟨h.os, h.tape, h.output, h.size, fun b hb => h.block b (Nat.lt_of_lt_of_le hb hw) (by omega)⟩
end Go.Proofs.YtglgibmjcgfecaaGreatDoor

set_option linter.unusedSimpArgs false
set_option linter.unusedVariables false
namespace Go.Proofs.YtglgibmjcgfecaaGreatDoor
open Go Go.RowKit Go.Proofs Go.Xf

theorem below_3 (w : World) (a b c : Obj) : Below w.heap.size w (((w.alloc a).alloc b).alloc c) := (((Below.refl _ _).alloc (Nat.le_refl _) _).alloc (by simp) _).alloc (by simp; omega) _
theorem below_dr {B : Nat} {a w : World} (h : Below B a w) : Below B a w.drew := h.trans ⟨rfl, rfl, rfl, Nat.le_refl _, fun _ _ => rfl⟩
theorem own_kept {w w1 : World} {cs cs' : Array Value} {e e' : TypeId} {o : Obj} (hb : Below (((w.alloc (.cells cs e)).alloc (.cells cs' e')).alloc o).heap.size (((w.alloc (.cells cs e)).alloc (.cells cs' e')).alloc o) w1) :
    (∀ j, w1.cell? ⟨w.heap.size, j, none⟩ = cs[j]?) ∧ (∀ j, w1.cell? ⟨w.heap.size + 1, j, none⟩ = cs'[j]?) ∧ Below w.heap.size w w1 := by
  have hb2 := kept_below hb
  refine ⟨fun j => stays2 hb2 (by simp; omega) j, fun j => stays3 hb2 (by simp) j, below_laid2 hb2 (by simp; omega)⟩
set_option maxRecDepth 100000 in
set_option maxHeartbeats 2000000 in
theorem own_ref (r c : Int) (ra ca : Bool) (h q : Nat) (hk : Kid.Ok (.rf r c ra ca)) (hq : 1 ≤ q) (w : World) (hT : Tab w) (hh : h < w.heap.size) (hr : w.rangeAt h 0 (rfL r c ra ca)) :
    Calls Tryz.prog 75 #[.agg (exR (.slice (some ⟨h, 0, none⟩) 1 q)).toArray] w fun e w' => e = .returned (.bool true) ∧ Below w.heap.size w w' := by
  obtain ⟨h0, h1, h2, h3⟩ := hk
  have c0 : w.cell? ⟨h, 0, none⟩ = some sE := hr 0 _ rfl
  have c1 : w.cell? ⟨h, 1, none⟩ = some (n64 r) := hr 1 _ rfl
  have c2 : w.cell? ⟨h, 2, none⟩ = some (n64 c) := hr 2 _ rfl
  have c3 : w.cell? ⟨h, 3, none⟩ = some (.bool ra) := hr 3 _ rfl
  have c4 : w.cell? ⟨h, 4, none⟩ = some (.bool ca) := hr 4 _ rfl
  have HT : Hid (Tab w) := hT
  clear hr hT
  go_enter Tryz.func75, Tryz.ntmps75
  go_wp2_with (fail)
  refine wp_loop_rounds 2 ?_
  rw [rounds_succ]
  go_wp2_with (first
    | (go_at_call 88; refine (print_w r c ra ca h0 h1 h2 h3 _ (HT.out.next (below_3 _ _ _ _))).mono ?_; rintro e w1 ⟨s1, rfl, hs1, hb1⟩; have hne := toList_ne hs1; have hA := own_kept hb1; obtain ⟨hA1, hA3, hbA⟩ := hA; have HB : Hid (Below w.heap.size w w1) := hbA; have p1 := hA1 1; have p2 := hA1 2; have p3 := hA1 3; have p4 := hA1 4; have p5 := hA1 5; have p6 := hA1 6; have q1 := hA3 1; have q2 := hA3 2; have q3 := hA3 3; have q4 := hA3 4; simp only [List.getElem?_toArray, List.getElem?_cons_zero, List.getElem?_cons_succ] at p1 p2 p3 p4 p5 p6 q1 q2 q3 q4; clear hA1 hA3 hbA hb1)
    | fail)
  all_goals rw [rounds_succ]
  all_goals go_wp2
  all_goals go_ret
  all_goals exact ⟨rfl, HB.out⟩

set_option maxRecDepth 100000 in
set_option maxHeartbeats 2000000 in
theorem own_err (w : World) : Calls Tryz.prog 75 #[.agg exE.toArray] w fun e w' => e = .returned (.bool true) ∧ Below w.heap.size w w' := by
  go_enter Tryz.func75, Tryz.ntmps75
  go_wp2
  refine wp_loop_rounds 1 ?_
  rw [rounds_succ]
  go_wp2
  all_goals go_ret
  all_goals refine ⟨rfl, ?_⟩
  all_goals repeat' first | exact Below.refl _ _ | refine Below.setCell ?_ ?_ _ | refine Below.alloc ?_ ?_ _
  all_goals first | (simp; done) | (simp; omega)

set_option maxRecDepth 100000 in
set_option maxHeartbeats 2000000 in
theorem named_w (w : World) : Calls Tryz.prog 87 #[.string bSUM] w fun e w' => e = .returned (.bool true) ∧ w' = w := by
  go_enter Tryz.func87, Tryz.ntmps87
  go_wp2
  refine wp_loop_rounds 4 ?_
  iterate 4
    rw [rounds_succ]
    go_wp2
  all_goals go_ret
  all_goals exact ⟨rfl, rfl⟩

set_option maxRecDepth 100000 in
set_option maxHeartbeats 2000000 in
theorem own_sum (p : Option Addr) (n q : Nat) (hn : n ≤ 8) (w : World) : Calls Tryz.prog 75 #[.agg (exF (.slice p n q)).toArray] w fun e w' => e = .returned (.bool true) ∧ Below w.heap.size w w' := by
  go_enter Tryz.func75, Tryz.ntmps75
  go_wp2_with (first
    | (go_at_call 87; refine (named_w _).mono ?_; rintro e w1 ⟨rfl, rfl⟩)
    | go_in)
  go_region
  all_goals go_wp2_with (first
    | (go_at_call 87; refine (named_w _).mono ?_; rintro e w1 ⟨rfl, rfl⟩)
    | go_in)
  all_goals refine wp_loop_rounds 1 ?_
  all_goals rw [rounds_succ]
  all_goals go_wp2
  all_goals go_ret
  all_goals refine ⟨rfl, ?_⟩
  all_goals repeat' first | exact Below.refl _ _ | refine Below.setCell ?_ ?_ _ | refine Below.alloc ?_ ?_ _ | refine below_dr ?_
  all_goals first | (simp; done) | (simp; omega)

theorem own_kid {w : World} {N : Nat} {k : Kid} {vs : List Value} (hk : k.Ok) (hT : Tab w) (hN : N ≤ w.heap.size) (h : KidAt w N k vs) : Calls Tryz.prog 75 #[.agg vs.toArray] w fun e w' => e = .returned (.bool true) ∧ Below w.heap.size w w' := by
  cases k with
  | rf r c ra ca =>
    obtain ⟨g, q, rfl, hq, hg, hr⟩ := h
    exact own_ref r c ra ca g q hk hq w hT (Nat.lt_of_lt_of_le hg hN) hr
  | er =>
    have e : vs = exE := h
    subst e
    exact own_err w
end Go.Proofs.YtglgibmjcgfecaaGreatDoor

set_option linter.unusedSimpArgs false
set_option linter.unusedVariables false
namespace Go.Proofs.YtglgibmjcgfecaaGreatDoor
open Go Go.RowKit Go.Proofs Go.Xf

theorem info35 : (Tryz.prog.info? 35).map (·.size) = some 7 := by kernel_rfl

theorem ld35 {ops : Array Oper} {rest : List Oper} {op : Oper} {a : Act} {w : World} {Q : Exit → Act → World → Prop} (x : Operand) (hgd : op.guard = none) (ho : op.op = .load 35 x)
    (b o : Nat) (hx : a.eval x = .pointer (some ⟨b, o, none⟩)) (cs : List Value) (hl : cs.length = 7) (hc : w.rangeAt b o cs)
    (h : wpList Tryz.prog ops Q rest (a.put op.dst (.agg cs.toArray)) w) : wpList Tryz.prog ops Q (op :: rest) a w :=
  wpList_load_mid hgd 35 x ho b o hx cs _ hc Tryz.underlying35 rfl (by rw [hl]; exact info35) h

theorem ld35g {ops : Array Oper} {rest : List Oper} {op : Oper} {a : Act} {w : World} {Q : Exit → Act → World → Prop} (x : Operand) (ho : op.op = .load 35 x)
    (b o : Nat) (hx : a.eval x = .pointer (some ⟨b, o, none⟩)) (cs : List Value) (hl : cs.length = 7) (hc : w.rangeAt b o cs) (hw : Region.wanted op (yielded ops a.tmps) = true)
    (h : wpList Tryz.prog ops Q rest (a.put op.dst (.agg cs.toArray)) w) : wpList Tryz.prog ops Q (op :: rest) a w := by
  unfold wpList
  rw [if_pos hw]
  exact .inl (wp_load_mid 35 x ho b o hx cs _ hc Tryz.underlying35 rfl (by rw [hl]; exact info35) h)
theorem st35 {ops : Array Oper} {rest : List Oper} {op : Oper} {a : Act} {w : World} {Q : Exit → Act → World → Prop} (x y : Operand) (hgd : op.guard = none) (ho : op.op = .store 35 x y)
    (b o : Nat) (hx : a.eval x = .pointer (some ⟨b, o, none⟩)) (cs : List Value) (hy : a.eval y = .agg cs.toArray) (hl : cs.length = 7) (ht : w.there b o 7) (h1 : ∀ v ∈ cs, v.oneCell' = true)
    (h : wpList Tryz.prog ops Q rest (a.put op.dst undef) (w.setCells b o cs)) : wpList Tryz.prog ops Q (op :: rest) a w :=
  wpList_store_mid hgd 35 x y ho b o cs.toArray hx hy (by simpa [hl] using ht) (by simpa [hl] using info35) (all_oneCell_toArray h1) h

set_option maxRecDepth 100000 in
theorem stNew35 {ops : Array Oper} {rest : List Oper} {op : Oper} {a : Act} {w : World} {c : Array Value} {Q : Exit → Act → World → Prop} (x y : Operand) (hgd : op.guard = none) (ho : op.op = .store 35 x y)
    (b : Nat) (hx : a.eval x = .pointer (some ⟨b, 0, none⟩)) (hb : b = w.heap.size) (cs : List Value) (hy : a.eval y = .agg cs.toArray) (hl : cs.length = 7) (hcl : c.size = 7) (h1 : ∀ v ∈ cs, v.oneCell' = true)
    (h : wpList Tryz.prog ops Q rest (a.put op.dst undef) (w.alloc (.cells cs.toArray 35))) : wpList Tryz.prog ops Q (op :: rest) a (w.alloc (.cells c 35)) := by
  refine wpList_plain hgd fun K hK => ?_
  unfold Oper.wp execOp
  subst hb
  simp only [ho, hx, hy, Instr.storeAt, Instr.sureAddr, Sem.run_bind, Sem.run_pure, Result.andThen_ok, run_storeVar_new w 35 c cs.toArray (P := Tryz.prog) (by simpa [hl] using info35) (by simp [hl, hcl]) (all_oneCell_toArray h1)]
  exact hK _ _ h


/-- A block of an operation's cells. -/
def Bl7 (w : World) (g : Nat) (cs : List Value) : Prop := w.heap[g]? = some (.cells cs.toArray 35 (0, 0))
theorem Bl7.lt {w : World} {g : Nat} {cs : List Value} (h : Bl7 w g cs) : g < w.heap.size := (Array.getElem?_eq_some_iff.1 h).1
theorem Bl7.range {w : World} {g : Nat} {cs : List Value} (h : Bl7 w g cs) : w.rangeAt g 0 cs := by
  intro j v hj
  unfold World.cell?
  have h' : w.heap[g]? = some (.cells cs.toArray 35 (0, 0)) := h
  rw [Nat.zero_add]
  simp only [h']
  simpa using hj
theorem Bl7.below {w w' : World} {g B : Nat} {cs : List Value} (h : Bl7 w g cs) (hb : Below B w w') (hB : g < B) : Bl7 w' g cs := (hb.block g hB).trans h
theorem Bl7.new (w : World) (cs : List Value) : Bl7 (w.alloc (.cells cs.toArray 35)) w.heap.size cs := heap_alloc_last w _
/-- A store of a whole operation into a block of one. -/
theorem st7 {ops : Array Oper} {rest : List Oper} {op : Oper} {a : Act} {w : World} {Q : Exit → Act → World → Prop} (x y : Operand) (hgd : op.guard = none) (ho : op.op = .store 35 x y)
    (g : Nat) (hx : a.eval x = .pointer (some ⟨g, 0, none⟩)) (cs : List Value) (hy : a.eval y = .agg cs.toArray) (hl : cs.length = 7) (h1 : ∀ v ∈ cs, v.oneCell' = true) (old : List Value) (hold : old.length = 7) (hb : Bl7 w g old)
    (h : ∀ w2, Bl7 w2 g cs → (∀ k, k ≠ g → w2.heap[k]? = w.heap[k]?) → w2.heap.size = w.heap.size → Below g w w2 → wpList Tryz.prog ops Q rest (a.put op.dst undef) w2) : wpList Tryz.prog ops Q (op :: rest) a w := by
  refine wpList_plain hgd fun K hK => wp_store_row 35 x y ho g cs.toArray hx hy 35 old.toArray hb (by simpa [hl] using Go.Proofs.YtglgibmjcgfecaaGreatDoor.info35) (by simp [hl, hold]) (all_oneCell_toArray h1) (hK _ _ (h _ ?_ ?_ ?_ ?_))
  · exact setRow_heap w g _ _ 35 _ hb
  · intro k hk
    simp only [World.setRow, Array.getElem?_modify]
    rw [if_neg (fun e => hk e.symm)]
  · simp [World.setRow]
  · refine ⟨rfl, rfl, rfl, by simp [World.setRow], fun k hk => ?_⟩
    simp only [World.setRow, Array.getElem?_modify]
    rw [if_neg (by omega)]
/-- The same into the block that was made last. -/
theorem st7L {ops : Array Oper} {rest : List Oper} {op : Oper} {a : Act} {w : World} {c : Array Value} {Q : Exit → Act → World → Prop} (x y : Operand) (hgd : op.guard = none) (ho : op.op = .store 35 x y)
    (g : Nat) (hx : a.eval x = .pointer (some ⟨g, 0, none⟩)) (hg : g = w.heap.size) (cs : List Value) (hy : a.eval y = .agg cs.toArray) (hl : cs.length = 7) (hcl : c.size = 7) (h1 : ∀ v ∈ cs, v.oneCell' = true)
    (h : ∀ w2, Bl7 w2 g cs → Below g w w2 → w2.heap.size = g + 1 → wpList Tryz.prog ops Q rest (a.put op.dst undef) w2) : wpList Tryz.prog ops Q (op :: rest) a (w.alloc (.cells c 35)) := by
  refine stNew35 x y hgd ho g hx hg cs hy hl hcl h1 (h _ ?_ ?_ ?_)
  · rw [hg]; exact Bl7.new w cs
  · rw [hg]; exact (Below.refl _ _).alloc (Nat.le_refl _) _
  · rw [hg]; simp

end Go.Proofs.YtglgibmjcgfecaaGreatDoor

set_option linter.unusedSimpArgs false
set_option linter.unusedVariables false
namespace Go.Proofs.YtglgibmjcgfecaaGreatDoor
open Go Go.RowKit Go.Proofs Go.Xf

theorem Cnt.laid {w u : World} {L : Nat} {m : Int} (h : Cnt w L m u) (o : Obj) : Cnt w L m (u.alloc o) := h.next ((Below.refl _ _).alloc (Nat.le_refl _) _)
abbrev exK (K E : Int) (V : Value) : List Value := [n64 K, n64 0, sE, .bool false, n64 E, V, sN]

set_option maxRecDepth 100000 in
set_option maxHeartbeats 2000000 in
theorem may_leaf (K E : Int) (V : Value) (hV : ∃ p n q, V = .slice p n q) (d m : Int) (hd : d ≤ 50) (hm : 1 ≤ m) (hm2 : m ≤ 1000) (L : Nat) (w : World) (hc : w.cell? ⟨L, 0, none⟩ = some (n64 m)) (hf : w.frozen? ⟨L, 0, none⟩ = false)
    (hown : ∀ u, Cnt w L (m - 1) u → Calls Tryz.prog 75 #[.agg (exK K E V).toArray] u fun e w' => e = .returned (.bool true) ∧ Below u.heap.size u w') :
    Calls Tryz.prog 56 #[.agg (exK K E V).toArray, n64 d, .pointer (some ⟨L, 0, none⟩)] w fun e w' => e = .returned (.bool true) ∧ Cnt w L (m - 1) w' := by
  have HC : Hid (Cnt w L m w) := Cnt.start hc hf
  have hL : L < w.heap.size := HC.out.lt
  have e1 : wrap64 (m - 1) = m - 1 := wr (by omega) (by omega)
  obtain ⟨p, n, q, rfl⟩ := hV
  go_enter Tryz.func56, Tryz.ntmps56
  go_wp2_with (first
    | (go_at_call 75; refine (hown _ (((Hid.out HC).set (m - 1)).laid _)).mono ?_; rintro e w1 ⟨rfl, hb1⟩; have hS : (w.setCell ⟨L, 0, none⟩ (n64 (m - 1))).heap.size = w.heap.size := (by simp [World.setCell]); have p6 : w1.cell? ⟨w.heap.size, 6, none⟩ = some sN := (by have := kept1 hb1 6; rw [hS] at this; exact this); have HC1 : Hid (Cnt w L (m - 1) w1) := ((((Hid.out HC).set (m - 1)).laid _).next hb1); clear hb1 hS)
    | fail)
  all_goals refine wp_loop_rounds 1 ?_
  all_goals rw [rounds_succ]
  all_goals go_wp2
  all_goals go_ret
  all_goals exact ⟨rfl, HC1.out⟩

theorem Cnt.old {w u : World} {L : Nat} {m : Int} {N : Nat} (h : Cnt w L m u) (hN : N ≤ L) (hw : N ≤ w.heap.size) (b : Nat) (hb : b < N) : u.heap[b]? = w.heap[b]? := h.block b (Nat.lt_of_lt_of_le hb hw) (by omega)
theorem Cnt.tab {w u : World} {L : Nat} {m : Int} {N : Nat} (h : Cnt w L m u) (hN : N ≤ L) (hw : N ≤ w.heap.size) (h5 : 5 < N) (hT : Tab w) : Tab u := hT.block (h.old hN hw 5 h5)

theorem may_kid (k : Kid) (vs : List Value) (d m : Int) (hd : d ≤ 50) (hm : 1 ≤ m) (hm2 : m ≤ 1000) (L N : Nat) (w : World) (hk : k.Ok) (hT : Tab w) (h5 : 5 < N) (hN : N ≤ w.heap.size) (hNL : N ≤ L) (hA : KidAt w N k vs) (hc : w.cell? ⟨L, 0, none⟩ = some (n64 m)) (hf : w.frozen? ⟨L, 0, none⟩ = false) :
    Calls Tryz.prog 56 #[.agg vs.toArray, n64 d, .pointer (some ⟨L, 0, none⟩)] w fun e w' => e = .returned (.bool true) ∧ Cnt w L (m - 1) w' := by
  have hown : ∀ u, Cnt w L (m - 1) u → Calls Tryz.prog 75 #[.agg vs.toArray] u fun e w' => e = .returned (.bool true) ∧ Below u.heap.size u w' := fun u hu =>
    own_kid hk (hu.tab hNL hN h5 hT) (Nat.le_trans hN hu.size) (hA.move (hu.old hNL hN))
  cases k with
  | rf r c ra ca =>
    obtain ⟨g, q, rfl, hq, hg, hr⟩ := hA
    exact may_leaf 5 0 _ ⟨_, _, _, rfl⟩ d m hd hm hm2 L w hc hf hown
  | er =>
    have e : vs = exE := hA
    subst e
    exact may_leaf 4 1 _ ⟨_, _, _, rfl⟩ d m hd hm hm2 L w hc hf hown

set_option maxRecDepth 100000 in
set_option maxHeartbeats 2000000 in
theorem may_sum (ks : List Kid) (vk : Value) (m : Int) (hn : ks.length ≤ 8) (hm : 9 ≤ m) (hm2 : m ≤ 1000) (L N : Nat) (w : World) (hk : ∀ k ∈ ks, k.Ok) (hT : Tab w) (h5 : 5 < N) (hN : N ≤ w.heap.size) (hNL : N ≤ L) (hA : SumAt w N ks vk) (hc : w.cell? ⟨L, 0, none⟩ = some (n64 m)) (hf : w.frozen? ⟨L, 0, none⟩ = false) :
    Calls Tryz.prog 56 #[.agg (exF vk).toArray, n64 1, .pointer (some ⟨L, 0, none⟩)] w fun e w' => e = .returned (.bool true) ∧ Cnt w L (m - 1 - ks.length) w' := by
  have HC : Hid (Cnt w L m w) := Cnt.start hc hf
  have hL : L < w.heap.size := HC.out.lt
  have e1 : wrap64 (m - 1) = m - 1 := wr (by omega) (by omega)
  obtain ⟨p, q, rfl, hq, hA⟩ := hA
  have HA : Hid (0 < ks.length → ∃ g, p = some ⟨g, 0, none⟩ ∧ KidsAt w N ks g) := hA
  obtain ⟨n, hnn⟩ : ∃ n, n = ks.length := ⟨_, rfl⟩
  have HN : Hid (n = ks.length) := hnn
  rw [← hnn] at hn hq ⊢
  clear hA hnn
  go_enter Tryz.func56, Tryz.ntmps56
  go_wp2_with (first
    | (go_at_call 75; refine (own_sum _ _ _ hn _).mono ?_; rintro e w1 ⟨rfl, hb1⟩; have hS : (w.setCell ⟨L, 0, none⟩ (n64 (m - 1))).heap.size = w.heap.size := (by simp [World.setCell]); have p6 : w1.cell? ⟨w.heap.size, 6, none⟩ = some (.slice p n q) := (by have := kept1 hb1 6; rw [hS] at this; exact this); have HC1 : Hid (Cnt w L (m - 1) w1) := ((((Hid.out HC).set (m - 1)).laid _).next hb1); clear hb1 hS)
    | fail)
  · go_loopw [30] (fun v30 u => ∃ i : Nat, i ≤ n ∧ v30 = .int .i64 (i : Nat) ∧ Hid (Cnt w L (m - 1 - i) u)) (fun v30 _ => n - (intOf v30).toNat)
    case atStart => exact ⟨0, Nat.zero_le _, rfl, (show Cnt w L (m - 1 - ((0 : Nat) : Int)) w1 from by simpa using HC1.out)⟩
    case round =>
      obtain ⟨i, hi, rfl, HI⟩ := hrel
      by_cases hlt : i < n
      · obtain ⟨g, rfl, hg, hkid⟩ := HA.out (by rw [← HN.out]; omega)
        obtain ⟨vs, hvs, hrg⟩ := hkid i (by rw [← HN.out]; exact hlt)
        have HV : Hid (KidAt wr N ks[i]! vs) := hvs.move (HI.out.old hNL hN)
        have HR : Hid (wr.rangeAt g (i * 7) vs) := range_block hrg (HI.out.old hNL hN g hg)
        have HK : Hid (ks[i]!.Ok) := hk _ (by rw [getElem!_pos ks i (by rw [← HN.out]; exact hlt)]; exact List.getElem_mem _)
        have HS : Hid (wr.heap.size ≥ N ∧ Tab wr) := ⟨Nat.le_trans hN HI.out.size, HI.out.tab hNL hN h5 hT⟩
        clear hvs hrg hkid
        go_wp2_with (first
          | (refine ld35 _ rfl rfl _ _ rfl _ (HV.out.len) HR.out ?_)
          | (have g1 := HV; clear g1; refine st7L _ _ rfl rfl _ rfl rfl vs rfl HV.out.len rfl HV.out.one ?_; intro u2 by2 lo2 sz2; have K2 : Hid (Bl7 u2 wr.heap.size vs) := by2; have HI2 : Hid (Cnt w L (m - 1 - i) u2) := HI.out.next lo2; have HV2 : Hid (KidAt u2 N ks[i]! vs) := HV.out.move (fun b hb => lo2.block b (Nat.lt_of_lt_of_le hb HS.out.1)); have HS2 : Hid (u2.heap.size ≥ N ∧ Tab u2) := ⟨Nat.le_trans HS.out.1 lo2.size, HS.out.2.next lo2⟩; have HL2 : Hid (vs.length = 7) := HV.out.len; clear by2 lo2 sz2 HV HI HS HR)
          | (have g1 := K2; clear g1; refine ld35 _ rfl rfl _ _ rfl _ HL2.out K2.out.range ?_)
          | (go_at_call 56; refine (may_kid ks[i]! vs _ (m - 1 - i) (by omega) (by omega) (by omega) L N _ HK.out HS2.out.2 h5 HS2.out.1 hNL HV2.out HI2.out.cell HI2.out.frozen).mono ?_; rintro e u3 ⟨rfl, hb3⟩; have HI3 : Hid (Cnt w L (m - 1 - i - 1) u3) := HI2.out.trans hb3; clear hb3)
          | fail)
        all_goals refine ⟨⟨i + 1, by omega, by rw [Int.natCast_add]; rfl, (show Cnt w L (m - 1 - ((i + 1 : Nat) : Int)) u3 from by rw [show m - 1 - ((i + 1 : Nat) : Int) = m - 1 - i - 1 by omega]; exact HI3.out)⟩, ?_⟩
        all_goals (simp [intOf]; omega)
      · go_wp2
        go_ret
        have e : i = n := by omega
        subst e
        exact ⟨rfl, HI.out⟩

set_option maxRecDepth 100000 in
set_option maxHeartbeats 2000000 in
/-- parse.May: a tree SUM(..) may be. -/
theorem May_sum (ks : List Kid) (vk : Value) (hn : ks.length ≤ 8) (N : Nat) (w : World) (hk : ∀ k ∈ ks, k.Ok) (hT : Tab w) (h5 : 5 < N) (hN : N ≤ w.heap.size) (hA : SumAt w N ks vk) :
    Calls Tryz.prog 32 #[.agg (exF vk).toArray] w fun e w' => e = .returned (.bool true) ∧ Below w.heap.size w w' := by
  have hA0 := hA
  obtain ⟨p, q, rfl, hq, hA⟩ := hA
  have HA : Hid (SumAt w N ks (.slice p ks.length q)) := hA0
  clear hA hA0
  go_enter Tryz.func32, Tryz.ntmps32
  go_wp2_with (first
    | (go_at_call 56; refine (may_sum ks (.slice p ks.length q) 200 hn (by omega) (by omega) (w.heap.size + 1) N _ hk (hT.next (((Below.refl _ _).alloc (Nat.le_refl _) _).alloc (by simp) _)) h5 (by simp; omega) (by omega) (HA.out.move (fun b hb => ((((Below.refl w.heap.size w).alloc (Nat.le_refl _) _).alloc (by simp) _)).block b (by omega))) (by simp) (by simp)).mono ?_; rintro e w1 ⟨rfl, hb1⟩; have HB : Hid (Below w.heap.size w w1) := ((((Below.refl w.heap.size w).alloc (Nat.le_refl _) _).alloc (by simp) _).trans (hb1.below (by omega) (by simp; omega))); clear hb1)
    | fail)
  all_goals go_ret
  all_goals exact ⟨rfl, HB.out⟩
end Go.Proofs.YtglgibmjcgfecaaGreatDoor

