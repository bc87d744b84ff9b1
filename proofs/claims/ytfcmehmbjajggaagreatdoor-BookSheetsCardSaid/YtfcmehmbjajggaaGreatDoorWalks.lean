/- The ids of a map, collected and sorted; the walk over all formulas where no cell is set: what the calls do, walked by hand. -/
import Derived.Test.YtfcmehmbjajggaaGreatDoorProg
import Derived.Sort.KeysCollected
import Derived.Sort.OwnSorted
import Derived.Maps.RangeWalk
import Derived.Maps.AppendAt
import Derived.Maps.OwnSet
import Derived.WalkKit
import Derived.OwnWalk
import Derived.LoopTactic
import Derived.KernelRfl
import Derived.Below
import Derived.Test.YtfcmehmbjajggaaGreatDoorShelf
import Derived.Test.YtfcmehmbjajggaaGreatDoorEngRa
namespace Go.Proofs.YtfcmehmbjajggaaGreatDoor
open Go Go.RowKit Go.Maps Go.Sort Go.Proofs

theorem law9 : Keyed Tryz.prog 9 := string_keyed Tryz.underlying9
theorem info9 : (Tryz.prog.info? 9).map (fun i => (i.zero, i.size, i.bytes)) = some (some (.string ⟨#[]⟩), 1, 16) := by kernel_rfl

/-- Any value reads as nothing. -/
def anyV (_ : Value) : Option (DataW Unit × List MemPlace) := some (.nil, [])

theorem size_strKeys {w : World} {b n : Nat} {D0 : DataW Unit} (hown : w.ownsMap Tryz.prog 9 anyV b n D0) : (strKeys D0).length = Maps.size D0 := by
  obtain ⟨es, clock, _, _, _, rfl⟩ := hown
  exact List.length_map ..

/-- slices.Sort at strings, over this program. -/
def SortS : Prop := ∀ (blk off cap : Nat) (ss : List (List UInt8)) (w : World), Holds encStr w blk off ss.toArray → blk < w.heap.size → ss.length < 4611686018427387904 →
  Calls Tryz.prog 27 #[.slice (some ⟨blk, off, none⟩) ss.length cap] w fun e w' => e = .returned (.tuple #[]) ∧ ∃ n os, w' = grow (putRow encStr (Sort.ahead w n) blk off (ss.mergeSort fun x y => decide (x ≤ y)).toArray) os


set_option maxRecDepth 100000 in
set_option maxHeartbeats 1000000 in
theorem sorted16 (hsort : SortS) (b n : Nat) (D0 : DataW Unit) (w : World) (hown : w.ownsMap Tryz.prog 9 anyV b n D0) (hmax : Maps.size D0 ≤ 1000) (hpos : 0 < Maps.size D0) :
    Calls Tryz.prog 16 #[.map (some b)] w fun e w' => ∃ (g cap : Nat) (ss : List (List UInt8)), e = .returned (.slice (some ⟨g, 0, none⟩) ss.length cap) ∧ ss.Perm (strKeys D0) ∧
      w'.ownsRow w.heap.size 9 1 (.slice (some ⟨g, 0, none⟩) ss.length cap) ss.length ((ss.mergeSort (fun x y => decide (x ≤ y))).map encStr) ∧ Below w.heap.size w w' := by
  obtain ⟨i0, hi, hz0, hz1, hz2⟩ := info_parts info9
  have hbl := hown.lt
  go_enter Tryz.func16, Tryz.ntmps16
  go_wp2_with (first
    | (at_range; refine wpList_range_own _ rfl _ 52 rfl 9 50 law9 Tryz.underlying52 _ b n _ rfl hown ?_; intro w0 hrg0 hg0 hs0)
    | go_in)
  go_frame
  go_loopw [3] (fun v wr => ∃ (left : Lit → Bool) (cnt : Nat) (ss : List (List UInt8)), wr.ranges Tryz.prog 9 anyV b w.heap.size n D0 left cnt ∧ ss.length + cnt ≤ Maps.size D0 ∧
      wr.ownsRow w.heap.size 9 1 v ss.length (ss.map encStr) ∧ Collected D0 left ss ∧ Below w.heap.size w wr)
    (fun _ wr => wr.rangeLeft b w.heap.size)
  case atStart =>
    exact ⟨_, _, [], hrg0, by simp, ⟨by simp, .inl ⟨rfl, rfl⟩⟩, Collected.start D0, (Below.refl _ _).grown hg0 (Nat.le_refl _) (fun j hj => by cases hj)⟩
  case round =>
    obtain ⟨left, cnt, ss, hrg, hcs, hrow, hC, hnx⟩ := hrel
    go_wp2_with (first
      | (at_next; refine wpList_next_ranges _ rfl _ rfl 9 law9 anyV encStr (fun v : Value => v) (fun key kl hk => by obtain ⟨x, hx, _⟩ := Maps.keyOf_str Tryz.underlying9 hk; exact ⟨x, hx⟩) (fun v y hv => ⟨v, rfl⟩) b w.heap.size n _ _ _ rfl hrg ?_ ?_)
      | go_in)
    · intro hc0 hl0
      have hP : Hid (ss.Perm (strKeys D0)) := hC.perm hown law9 Tryz.underlying9 hl0
      rcases hrow.2 with ⟨hnil, hz⟩ | ⟨g, cap, cur, rfl, hbase, hb, h1, h2, h3, h4⟩
      · have h5 := hP.out.length_eq
        rw [size_strKeys hown] at h5
        omega
      have hH : Holds encStr wr g 0 ss.toArray := holds_of_block hb (by simpa using h4)
      have hgl : g < wr.heap.size := (Array.getElem?_eq_some_iff.1 hb).1
      have hc := hsort g 0 cap ss wr hH hgl (by omega)
      clear hcs hc0
      go_wp2_with (go_at_call 27; refine hc.mono ?_; rintro e w' ⟨rfl, nn, os, rfl⟩)
      go_ret
      exact ⟨g, cap, ss, rfl, hP.out, ownsRow_sorted (by simp) hbase hb h1 h2 h3, hnx.grown (grownBy_sorted _) hnx.size (fun j hj => by cases hj; exact hbase)⟩
    · intro x c kl yd yp w2 cnt2 hkey hlk hv hat hrg2 hlt hg2 hs2 hen
      obtain ⟨x', ex, rfl, _⟩ := Maps.keyOf_str Tryz.underlying9 hkey
      obtain rfl : x = x' := encStr_inj ex
      have hrow2 := hrow.kept hg2 (Or.inr (row_ne_iter hrow hrg).symm)
      have hb2 := hg2.size
      clear hs2
      go_wp2_with (first
        | (at_builtin; refine wpList_append_own _ rfl _ _ 41 rfl w.heap.size 9 i0 (.string ⟨#[]⟩) 1 16 Tryz.underlying41 hi hz0 hz1 hz2 rfl (by decide) _ _ _ rfl (hrow2.alloc _) ⟨w2.heap.size, 0, none⟩ 1 1 [encStr x] rfl rfl (cell_one_new _ _ _) (by simp [Value.oneCell', encStr]) (by unfold maxLen; omega) (by omega) (by have := hnx.size; simp; omega) ?_; intro v' w3 hown' hg3 hnil3; go_frame)
        | go_in)
      have hrg3 := (hrg2.alloc _).kept hg3 (row_ne_low hrow2 hbl) (row_ne_iter hrow2 hrg2)
      go_roundw
      case rel =>
        refine ⟨_, cnt2, ss ++ [x], hrg3, ?_, by simpa using hown', hC.step hlk hat, ?_⟩
        · simp; omega
        · exact ((hnx.grown hg2 hnx.size (fun j hj => by cases hj; exact Nat.le_refl _)).alloc (by have := hnx.size; omega) _).grown hg3 (by have := hnx.size; simp; omega) (fun j hj => (hrow2.lt j hj).1)
      case measure => rw [hrg3.left_eq, hrg.left_eq]; exact hlt

set_option maxRecDepth 100000 in
set_option maxHeartbeats 1000000 in
theorem sorted18 (hsort : SortS) (b n : Nat) (D0 : DataW Unit) (w : World) (hown : w.ownsMap Tryz.prog 9 anyV b n D0) (hmax : Maps.size D0 ≤ 1000) (hpos : 0 < Maps.size D0) :
    Calls Tryz.prog 18 #[.map (some b)] w fun e w' => ∃ (g cap : Nat) (ss : List (List UInt8)), e = .returned (.slice (some ⟨g, 0, none⟩) ss.length cap) ∧ ss.Perm (strKeys D0) ∧
      w'.ownsRow w.heap.size 9 1 (.slice (some ⟨g, 0, none⟩) ss.length cap) ss.length ((ss.mergeSort (fun x y => decide (x ≤ y))).map encStr) ∧ Below w.heap.size w w' := by
  obtain ⟨i0, hi, hz0, hz1, hz2⟩ := info_parts info9
  have hbl := hown.lt
  go_enter Tryz.func18, Tryz.ntmps18
  go_wp2_with (first
    | (at_range; refine wpList_range_own _ rfl _ 53 rfl 9 3 law9 Tryz.underlying53 _ b n _ rfl hown ?_; intro w0 hrg0 hg0 hs0)
    | go_in)
  go_frame
  go_loopw [3] (fun v wr => ∃ (left : Lit → Bool) (cnt : Nat) (ss : List (List UInt8)), wr.ranges Tryz.prog 9 anyV b w.heap.size n D0 left cnt ∧ ss.length + cnt ≤ Maps.size D0 ∧
      wr.ownsRow w.heap.size 9 1 v ss.length (ss.map encStr) ∧ Collected D0 left ss ∧ Below w.heap.size w wr)
    (fun _ wr => wr.rangeLeft b w.heap.size)
  case atStart =>
    exact ⟨_, _, [], hrg0, by simp, ⟨by simp, .inl ⟨rfl, rfl⟩⟩, Collected.start D0, (Below.refl _ _).grown hg0 (Nat.le_refl _) (fun j hj => by cases hj)⟩
  case round =>
    obtain ⟨left, cnt, ss, hrg, hcs, hrow, hC, hnx⟩ := hrel
    go_wp2_with (first
      | (at_next; refine wpList_next_ranges _ rfl _ rfl 9 law9 anyV encStr (fun v : Value => v) (fun key kl hk => by obtain ⟨x, hx, _⟩ := Maps.keyOf_str Tryz.underlying9 hk; exact ⟨x, hx⟩) (fun v y hv => ⟨v, rfl⟩) b w.heap.size n _ _ _ rfl hrg ?_ ?_)
      | go_in)
    · intro hc0 hl0
      have hP : Hid (ss.Perm (strKeys D0)) := hC.perm hown law9 Tryz.underlying9 hl0
      rcases hrow.2 with ⟨hnil, hz⟩ | ⟨g, cap, cur, rfl, hbase, hb, h1, h2, h3, h4⟩
      · have h5 := hP.out.length_eq
        rw [size_strKeys hown] at h5
        omega
      have hH : Holds encStr wr g 0 ss.toArray := holds_of_block hb (by simpa using h4)
      have hgl : g < wr.heap.size := (Array.getElem?_eq_some_iff.1 hb).1
      have hc := hsort g 0 cap ss wr hH hgl (by omega)
      clear hcs hc0
      go_wp2_with (go_at_call 27; refine hc.mono ?_; rintro e w' ⟨rfl, nn, os, rfl⟩)
      go_ret
      exact ⟨g, cap, ss, rfl, hP.out, ownsRow_sorted (by simp) hbase hb h1 h2 h3, hnx.grown (grownBy_sorted _) hnx.size (fun j hj => by cases hj; exact hbase)⟩
    · intro x c kl yd yp w2 cnt2 hkey hlk hv hat hrg2 hlt hg2 hs2 hen
      obtain ⟨x', ex, rfl, _⟩ := Maps.keyOf_str Tryz.underlying9 hkey
      obtain rfl : x = x' := encStr_inj ex
      have hrow2 := hrow.kept hg2 (Or.inr (row_ne_iter hrow hrg).symm)
      have hb2 := hg2.size
      clear hs2
      go_wp2_with (first
        | (at_builtin; refine wpList_append_own _ rfl _ _ 41 rfl w.heap.size 9 i0 (.string ⟨#[]⟩) 1 16 Tryz.underlying41 hi hz0 hz1 hz2 rfl (by decide) _ _ _ rfl (hrow2.alloc _) ⟨w2.heap.size, 0, none⟩ 1 1 [encStr x] rfl rfl (cell_one_new _ _ _) (by simp [Value.oneCell', encStr]) (by unfold maxLen; omega) (by omega) (by have := hnx.size; simp; omega) ?_; intro v' w3 hown' hg3 hnil3; go_frame)
        | go_in)
      have hrg3 := (hrg2.alloc _).kept hg3 (row_ne_low hrow2 hbl) (row_ne_iter hrow2 hrg2)
      go_roundw
      case rel =>
        refine ⟨_, cnt2, ss ++ [x], hrg3, ?_, by simpa using hown', hC.step hlk hat, ?_⟩
        · simp; omega
        · exact ((hnx.grown hg2 hnx.size (fun j hj => by cases hj; exact Nat.le_refl _)).alloc (by have := hnx.size; omega) _).grown hg3 (by have := hnx.size; simp; omega) (fun j hj => (hrow2.lt j hj).1)
      case measure => rw [hrg3.left_eq, hrg.left_eq]; exact hlt

end Go.Proofs.YtfcmehmbjajggaaGreatDoor
namespace Go.Proofs.YtfcmehmbjajggaaGreatDoor
open Go Go.RowKit Go.Maps Go.Sort Go.Proofs

/-- A page without cells, in a world. -/
def Bare (w : World) (v : Value) : Prop := ∃ g mc clock, v = .pointer (some ⟨g, 0, none⟩) ∧ g < w.heap.size ∧ mc < w.heap.size ∧ w.cell? ⟨g, 1, none⟩ = some (.map (some mc)) ∧ w.heap[mc]? = some (.map #[] clock)

open Classical in
noncomputable def bareV (w : World) (v : Value) : Option (DataW Unit × List MemPlace) := if Bare w v then some (.nil, []) else none

theorem bareV_some {w : World} {v : Value} {y : DataW Unit × List MemPlace} (h : bareV w v = some y) : Bare w v := by
  unfold bareV at h
  split at h
  · assumption
  · cases h

set_option maxRecDepth 100000 in
set_option maxHeartbeats 1000000 in
theorem formulas24 (B b n : Nat) (fv : Value) (D0 : DataW Unit) (w : World) (hcell : w.cell? ⟨B, 0, none⟩ = some (.map (some b))) (hown : w.ownsMap Tryz.prog 9 (bareV w) b n D0) :
    Calls Tryz.prog 24 #[.pointer (some ⟨B, 0, none⟩), fv] w fun e w' => e = .returned (.tuple #[]) ∧ Below w.heap.size w w' := by
  have hbl := hown.lt
  go_enter Tryz.func24, Tryz.ntmps24
  go_wp2_with (first
    | (at_range; refine wpList_range_own _ rfl _ 52 rfl 9 50 law9 Tryz.underlying52 _ b n _ rfl hown ?_; intro w0 hrg0 hg0 hs0)
    | go_in)
  go_frame
  go_loopw [13] (fun _ wr => ∃ (left : Lit → Bool) (cnt : Nat), wr.ranges Tryz.prog 9 (bareV w) b w.heap.size n D0 left cnt ∧ Below w.heap.size w wr)
    (fun _ wr => wr.rangeLeft b w.heap.size)
  case atStart =>
    exact ⟨_, _, hrg0, (Below.refl _ _).grown hg0 (Nat.le_refl _) (fun j hj => by cases hj)⟩
  case round =>
    obtain ⟨left, cnt, hrg, hnx⟩ := hrel
    go_wp2_with (first
      | (at_next; refine wpList_next_ranges _ rfl _ rfl 9 law9 (bareV w) encStr (fun g : Nat => .pointer (some ⟨g, 0, none⟩)) (fun key kl hk => by obtain ⟨x, hx, _⟩ := Maps.keyOf_str Tryz.underlying9 hk; exact ⟨x, hx⟩) (fun v y hv => by obtain ⟨g, mc, clock, h1, _⟩ := bareV_some hv; exact ⟨g, h1⟩) b w.heap.size n _ _ _ rfl hrg ?_ ?_)
      | go_in)
    · intro hc0 hl0
      clear hc0
      go_wp2
      go_end0
      exact ⟨rfl, hnx⟩
    · intro x g kl yd yp w2 cnt2 hkey hlk hv hat hrg2 hlt hg2 hs2 hen
      obtain ⟨g', mc, clock, h1, h2, h3, h4, h5⟩ := bareV_some hv
      obtain rfl : g = g' := by injection h1 with h1; injection h1 with h1; injection h1
      have hb2 : Below w.heap.size w w2 := hnx.grown hg2 hnx.size (fun j hj => by cases hj; exact Nat.le_refl _)
      have hc1 : w2.cell? ⟨g, 1, none⟩ = some (.map (some mc)) := (hb2.cell (p := ⟨g, 1, none⟩) h2).trans h4
      have hm2 : w2.heap[mc]? = some (.map #[] clock) := (hb2.block mc h3).trans h5
      have hr2 := run_range_map (P := Tryz.prog) w2 61 69 35 mc #[] clock Tryz.underlying61 hm2
      have hn2 : ∀ ty, (Instr.next (.pointer (some ⟨w2.heap.size, 0, none⟩)) false ty).run Tryz.prog (w2.alloc (.mapIter (some mc) clock #[] clock)) = .ok (.tuple #[.bool false]) (w2.alloc (.mapIter (some mc) clock #[] clock)) := by
        intro ty
        rcases run_next_at (P := Tryz.prog) (w2.alloc (.mapIter (some mc) clock #[] clock)) ty w2.heap.size mc clock clock #[] #[] clock (heap_alloc_new _ _) ((Below.heap_alloc w2 _ mc (Nat.lt_of_lt_of_le h3 hb2.size)).trans hm2) (by simp) (Nat.le_refl _) with ⟨_, h⟩ | ⟨e, he, _⟩
        · exact h
        · simp [leftOf] at he
      clear hs2 h4 h5 hv h1 hm2
      go_wp2_with fail
      refine wp_loop_rounds 1 ?_
      rw [rounds_succ]
      go_wp2
      go_roundw
      case rel => exact ⟨_, cnt2, hrg2.alloc _, hb2.alloc hb2.size _⟩
      case measure => rw [(hrg2.alloc _).left_eq, hrg.left_eq]; exact hlt
end Go.Proofs.YtfcmehmbjajggaaGreatDoor
namespace Go.Proofs.YtfcmehmbjajggaaGreatDoor
open Go Go.RowKit Go.Maps Go.Sort Go.Proofs Go.Eng

theorem sortS : SortS := fun blk off cap ss w hH hblk hsz => Tryz.slices_Sort_string blk off cap ss w hH hblk hsz

theorem stamped_of {L : List MapEntry} {clock : Nat} (h1 : ∀ x ∈ L, x.born < clock) (h2 : (L.map (·.born)).Nodup) (h3 : (L.map (·.key)).Nodup) : Go.MapKept.Stamped L.toArray clock := ⟨by simpa using h1, by simpa using h2, by simpa using h3⟩

theorem owns_of {R : Value → Option (DataW Unit × List MemPlace)} {w : World} {b : Nat} {L : List MapEntry} {clock : Nat} (hb : w.heap[b]? = some (.map L.toArray clock)) (h1 : ∀ x ∈ L, x.born < clock) (h2 : (L.map (·.born)).Nodup) (h3 : (L.map (·.key)).Nodup)
    (h4 : ∀ x ∈ L, ∃ s : List UInt8, x.key = .string ⟨s.toArray⟩ ∧ s.length ≤ 1000) (h5 : L.length ≤ 1000) (hR : ∀ x ∈ L, ∃ y, R x.val = some y) :
    w.ownsMap Tryz.prog 9 R b L.length (.map ((L.map (Go.WideElems.rg Tryz.prog 9 R)).foldr DataW.insert [])) := by
  refine ⟨L.toArray, clock, hb, ⟨by simp [maxLen]; omega, stamped_of h1 h2 h3, fun x hx => ?_⟩, by simp, by simp⟩
  have hx : x ∈ L := by simpa using hx
  obtain ⟨s, hs, hl⟩ := h4 x hx
  obtain ⟨y, hy⟩ := hR x hx
  refine ⟨(.string s, y.1), ?_⟩
  have hk : keyOf Tryz.prog 9 x.key = some (.string s) := by
    rw [hs]
    simp only [keyOf, Tryz.underlying9, mapKey]
    rw [if_pos (by simp [ByteArray.size, maxLen]; omega)]
  simp [Go.WideElems.rd, hk, hy]

theorem size_of {R : Value → Option (DataW Unit × List MemPlace)} (L : List MapEntry) : Maps.size (.map ((L.map (Go.WideElems.rg Tryz.prog 9 R)).foldr DataW.insert []) : DataW Unit) = L.length := by
  simp [Maps.size, length_sorted]

theorem sorted_con (f : Nat) (h : ∀ (b n : Nat) (D0 : DataW Unit) (w : World), w.ownsMap Tryz.prog 9 anyV b n D0 → Maps.size D0 ≤ 1000 → 0 < Maps.size D0 →
    Calls Tryz.prog f #[.map (some b)] w fun e w' => ∃ (g cap : Nat) (ss : List (List UInt8)), e = .returned (.slice (some ⟨g, 0, none⟩) ss.length cap) ∧ ss.Perm (strKeys D0) ∧
      w'.ownsRow w.heap.size 9 1 (.slice (some ⟨g, 0, none⟩) ss.length cap) ss.length ((ss.mergeSort (fun x y => decide (x ≤ y))).map encStr) ∧ RowKit.Below w.heap.size w w')
    (w : World) (b : Nat) (L : List MapEntry) (clock : Nat) (hb : w.heap[b]? = some (.map L.toArray clock)) (h1 : ∀ x ∈ L, x.born < clock) (h2 : (L.map (·.born)).Nodup) (h3 : (L.map (·.key)).Nodup)
    (h4 : ∀ x ∈ L, ∃ s : List UInt8, x.key = .string ⟨s.toArray⟩ ∧ s.length ≤ 1000) (hne : L ≠ []) (h5 : L.length ≤ 1000) :
    Calls Tryz.prog f #[.map (some b)] w fun e w' => ∃ g cap cur, e = .returned (.slice (some ⟨g, 0, none⟩) L.length cap) ∧ w.heap.size ≤ g ∧ w'.heap[g]? = some (.cells cur 9 (0, 0)) ∧ L.length ≤ cap ∧ cur.size = cap ∧ RowKit.Below w.heap.size w w' := by
  have hown := owns_of (R := anyV) hb h1 h2 h3 h4 h5 (fun x _ => ⟨_, rfl⟩)
  have hs := size_of (R := anyV) L
  have hp : 0 < L.length := List.length_pos_iff.2 hne
  refine (h b _ _ w hown (by rw [hs]; exact h5) (by rw [hs]; exact hp)).mono ?_
  rintro e w' ⟨g, cap, ss, rfl, hperm, hrow, hbl⟩
  have hl : ss.length = L.length := by rw [hperm.length_eq, size_strKeys hown, hs]
  rcases hrow.2 with ⟨hnil, _⟩ | ⟨g', cap', cur, hv, hbase, hh, q1, q2, q3, q4⟩
  · cases hnil
  · cases hv
    exact ⟨g, cap, cur, by rw [hl], hbase, hh, by omega, by omega, hbl⟩

theorem orc16 [Env] {ng : Nat} {p : Path} (hp : p.num = 16) : OrcOk Tryz.prog ng p (sortO 9) :=
  sortO_ok (by rw [hp]; exact enters_of Tryz.func16 (by kernel_rfl) rfl) (by rw [hp]; exact sorted_con 16 (sorted16 sortS))

theorem orc18 [Env] {ng : Nat} {p : Path} (hp : p.num = 18) : OrcOk Tryz.prog ng p (sortO 9) :=
  sortO_ok (by rw [hp]; exact enters_of Tryz.func18 (by kernel_rfl) rfl) (by rw [hp]; exact sorted_con 18 (sorted18 sortS))

theorem orc24 [Env] {ng : Nat} {p : Path} (hp : p.num = 24) : OrcOk Tryz.prog ng p formO := by
  refine formO_ok (by rw [hp]; exact enters_of Tryz.func24 (by kernel_rfl) rfl) ?_
  rw [hp]
  intro w B b fv L clock hcell hb h1 h2 h3 h4 h5 hbare
  exact formulas24 B b _ fv _ w hcell (owns_of (R := bareV w) hb h1 h2 h3 h4 h5 (fun x hx => ⟨(.nil, []), by
    unfold bareV
    rw [if_pos (show Bare w x.val from hbare x hx)]⟩))

end Go.Proofs.YtfcmehmbjajggaaGreatDoor
