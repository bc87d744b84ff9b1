/- region.norm, region.Norm. -/
import Derived.Test.YtjngjfgbholgpaaBands
import Derived.Shelf.SortM.SortNone
import Derived.Deep.Slices
import Derived.ChangeArms
set_option linter.unusedSimpArgs false
set_option linter.unusedVariables false
namespace Go.Proofs.Ytjngjfgbholgpaa
open Go Go.RowKit Go.Proofs Go.Reg Go.Lib

theorem mayB_ok (r : Rc) : mayB r = true ↔ r.Ok := by
  simp only [mayB, Bool.and_eq_true, decide_eq_true_eq]
  constructor
  · rintro ⟨⟨⟨⟨⟨h1, h2⟩, h3⟩, h4⟩, h5⟩, h6⟩; exact ⟨h1, h2, h3, h4, h5, h6⟩
  · rintro ⟨h1, h2, h3, h4, h5, h6⟩; exact ⟨⟨⟨⟨⟨h1, h2⟩, h3⟩, h4⟩, h5⟩, h6⟩
theorem rightL_ok (rs : List Rc) : ∀ r ∈ rightL rs, r.Ok := fun r hr => (mayB_ok r).1 (List.mem_filter.1 hr).2

theorem spansF_off {rs : List Rc} {row : Int} (h : rowL rs row = []) : spansF rs row = [] := by simp [spansF, h, mergeL]

theorem spans_any (blk off cap : Nat) (rs : List Rc) (row : Int) (w : World) (hR : RowR w blk off rs) (hn : rs.length ≤ 256) (hok : ∀ r ∈ rs, r.Ok) :
    Calls Try.prog 18 #[.slice (some ⟨blk, off, none⟩) rs.length cap, .int .i64 row] w fun e w' => ∃ v, e = .returned v ∧ w'.ownsRow w.heap.size 44 2 v (spansF rs row).length (cellsS (spansF rs row)) ∧ Below w.heap.size w w' := by
  by_cases h : rowL rs row = []
  · refine (spans_off blk off cap rs row w hR hn h).mono ?_
    rintro e w' ⟨rfl, hb⟩
    refine ⟨_, rfl, ?_, hb⟩
    rw [spansF_off h]
    exact World.ownsRow_nil _ _ _ _
  · exact spans_row blk off cap rs row w hR hn hok h

theorem closure22 (bx blk off cap : Nat) (rs : List Rc) (row : Int) (w : World) (hc : w.cell? ⟨bx, 0, none⟩ = some (.slice (some ⟨blk, off, none⟩) rs.length cap)) (hR : RowR w blk off rs) (hn : rs.length ≤ 256) (hok : ∀ r ∈ rs, r.Ok) :
    Calls Try.prog 22 #[.int .i64 row, .pointer (some ⟨bx, 0, none⟩)] w fun e w' => ∃ v, e = .returned v ∧ w'.ownsRow w.heap.size 44 2 v (spansF rs row).length (cellsS (spansF rs row)) ∧ Below w.heap.size w w' := by
  have H := spans_any blk off cap rs row w hR hn hok
  clear hR hn hok
  go_enter Try.func22, Try.ntmps22
  go_wp2_with (first
    | (go_at_call 18; refine H.mono ?_; rintro e w2 ⟨v, rfl, ho, hb⟩; have HO : Hid (w2.ownsRow w.heap.size 44 2 v _ _) := ho; have HB : Hid (Below w.heap.size w w2) := hb; clear ho hb)
    | fail)
  go_ret
  exact ⟨_, rfl, HO.out, HB.out⟩

theorem spansF_256 {rs : List Rc} (hok : ∀ r ∈ rs, r.Ok) (hn : rs.length ≤ 256) (row : Int) : (spansF rs row).length ≤ 256 := by
  have := spansF_len hok row
  have h2 := List.length_filter_le (fun r : Rc => decide (r.r0 ≤ row) && decide (row < r.r1)) rs
  omega

theorem cutsL_len (rs : List Rc) : (cutsL rs).length ≤ rs.length * 2 := by
  unfold cutsL
  refine Nat.le_trans (compact_length_le _) ?_
  rw [List.length_mergeSort, ends_len]; exact Nat.le_refl _

def normL (rs : List Rc) : List Rc := bandsF (spansF rs) (cutsL rs)

theorem owns_rowI {w : World} {B g n cap : Nat} {l : List Int} {e : TypeId} (h : w.ownsRow B e 1 (.slice (some ⟨g, 0, none⟩) n cap) l.length (l.map n64)) : n = l.length ∧ RowI w g 0 l ∧ B ≤ g := by
  rcases h.2 with ⟨h1, _⟩ | ⟨g', cap', cur, hv, hb, hg, hn, hm, hs, ht⟩
  · simp at h1
  · simp only [Value.slice.injEq, Option.some.injEq, Addr.mk.injEq] at hv
    obtain ⟨⟨rfl, -, -⟩, rfl, rfl⟩ := hv
    refine ⟨rfl, ⟨(Array.getElem?_eq_some_iff.1 hg).1, fun i hi => ?_⟩, hb⟩
    have := h.cells (g := g) rfl i (n64 l[i]!) (by simp [hi])
    rw [Nat.zero_add]; simp only [Addr.add] at this; split at this
    · next h0 => simpa [h0] using this
    · simpa using this

set_option maxRecDepth 100000 in
set_option maxHeartbeats 2000000 in
theorem norm_row (blk off cap : Nat) (rs : List Rc) (w : World) (hR : RowR w blk off rs) (hn : rs.length ≤ 256) (hok : ∀ r ∈ rs, r.Ok) (h0 : 0 < rs.length) :
    Calls Try.prog 12 #[.slice (some ⟨blk, off, none⟩) rs.length cap] w fun e w' => ∃ v, e = .returned v ∧ w'.ownsRow w.heap.size 27 4 v (normL rs).length (cellsR (normL rs)) ∧ Below w.heap.size w w' := by
  obtain ⟨sv, hsv⟩ : ∃ sv : Value, sv = .slice (some ⟨blk, off, none⟩) rs.length cap := ⟨_, rfl⟩
  obtain ⟨w1, hw1⟩ : ∃ w1, w1 = (w.alloc (.cells #[sv] 22)).alloc (.cells #[sv] 22) := ⟨_, rfl⟩
  have hz1 : w1.heap.size = w.heap.size + 2 := by rw [hw1]; simp
  have hb1 : Below w.heap.size w w1 := by rw [hw1]; exact ((Below.refl _ _).alloc (Nat.le_refl _) _).alloc (by simp) _
  have hc1 : w1.cell? ⟨w.heap.size + 1, 0, none⟩ = some sv := by rw [hw1]; simp
  have hx1 : w1.cell? ⟨w.heap.size, 0, none⟩ = some sv := by rw [hw1]; simp
  have hR1 : RowR w1 blk off rs := hR.fresh hb1 hR.lt
  have H15 := cuts_row (w.heap.size + 1) 0 1 blk off cap rs w1 (by omega) (by rw [hc1, hsv]) hR1 hn h0
  have hne : cutsL rs ≠ [] := fun h => by
    have := (cutsL_is rs).mem (rs[0]).r0
    rw [h] at this
    exact absurd (this.2 (mem_ends.2 ⟨rs[0], List.getElem_mem h0, .inl rfl⟩)) (by simp)
  have H14 : ∀ (w2 : World) (v : Value), w2.ownsRow w1.heap.size 2 1 v (cutsL rs).length ((cutsL rs).map n64) → Below w1.heap.size w1 w2 →
      Calls Try.prog 14 #[v, .func (.func 22) #[] #[.pointer (some ⟨w.heap.size, 0, none⟩)]] w2 fun e w' => ∃ v, e = .returned v ∧ w'.ownsRow w.heap.size 27 4 v (normL rs).length (cellsR (normL rs)) ∧ Below w.heap.size w w' := by
    intro w2 v ho hb
    obtain ⟨p, c, rfl, hp⟩ := shape ho
    obtain ⟨g, rfl⟩ := hp (fun h => hne (List.length_eq_zero_iff.1 h))
    have hI := (owns_rowI ho).2.1
    have hz2 := hb.size
    refine (bands_row g 0 c (cutsL rs) (.pointer (some ⟨w.heap.size, 0, none⟩)) (spansF rs) w2 hI (by have := cutsL_len rs; omega) (spansF_256 hok hn) fun row W hW => ?_).mono ?_
    · exact closure22 w.heap.size blk off cap rs row W (by rw [hW.cell (by show w.heap.size < w2.heap.size; omega), hb.cell (by show w.heap.size < w1.heap.size; omega), hx1, hsv]) ((hR1.fresh hb hR1.lt).fresh hW (Nat.lt_of_lt_of_le hR1.lt hb.size)) hn hok
    · rintro e w' ⟨v', rfl, ho', hb'⟩
      exact ⟨v', rfl, owns_base ho' (by omega), hb1.trans ((hb.mono (by omega)).trans (hb'.mono (by omega)))⟩
  have HW : Hid (w1 = (w.alloc (.cells #[sv] 22)).alloc (.cells #[sv] 22)) := hw1
  rw [hw1] at H15
  subst hsv
  clear hw1 hz1 hb1 hc1 hx1 hR1 hne hR hn hok h0
  go_enter Try.func12, Try.ntmps12
  go_wp2_with (first
    | (go_at_call 15; refine H15.mono ?_; rintro e w2 ⟨v, rfl, ho, hb⟩; rw [← HW.out] at ho hb; have H2 := H14 w2 v ho hb; clear ho hb H14 H15)
    | (go_at_call 14; refine H2.mono ?_; rintro e w3 ⟨v3, rfl, ho, hb⟩; have HO : Hid (w3.ownsRow w.heap.size 27 4 v3 _ _) := ho; have HB : Hid (Below w.heap.size w w3) := hb; clear ho hb H2)
    | fail)
  go_ret
  exact ⟨_, rfl, HO.out, HB.out⟩

set_option maxRecDepth 100000 in
set_option maxHeartbeats 2000000 in
theorem Norm_row (blk off cap : Nat) (rs : List Rc) (w : World) (hR : RowR w blk off rs) (hn : rs.length ≤ 256) (hc : rs.length ≤ cap) (h0 : rightL rs ≠ []) :
    Calls Try.prog 6 #[.slice (some ⟨blk, off, none⟩) rs.length cap] w fun e w' => ∃ v, e = .returned v ∧ w'.ownsRow w.heap.size 27 4 v (normL (rightL rs)).length (cellsR (normL (rightL rs))) ∧ Below w.heap.size w w' := by
  have H13 := right_row blk off cap rs w hR hn hc
  have hl : (rightL rs).length ≤ rs.length := List.length_filter_le _ _
  have H12 : ∀ (w2 : World) (v : Value), w2.ownsRow w.heap.size 27 4 v (rightL rs).length (cellsR (rightL rs)) → Below w.heap.size w w2 →
      Calls Try.prog 12 #[v] w2 fun e w' => ∃ v, e = .returned v ∧ w'.ownsRow w.heap.size 27 4 v (normL (rightL rs)).length (cellsR (normL (rightL rs))) ∧ Below w.heap.size w w' := by
    intro w2 v ho hb
    obtain ⟨p, c, rfl, hp⟩ := shape ho
    obtain ⟨g, rfl⟩ := hp (fun h => h0 (List.length_eq_zero_iff.1 h))
    refine (norm_row g 0 c (rightL rs) w2 (owns_row ho).2.1 (by omega) (rightL_ok rs) (List.length_pos_iff.2 h0)).mono ?_
    rintro e w' ⟨v', rfl, ho', hb'⟩
    exact ⟨v', rfl, owns_base ho' hb.size, hb.trans (hb'.mono hb.size)⟩
  clear hR hn hc h0 hl
  go_enter Try.func6, Try.ntmps6
  go_wp2_with (first
    | (go_at_call 13; refine H13.mono ?_; rintro e w2 ⟨v, rfl, ho, hb⟩; have H2 := H12 w2 v ho hb; clear ho hb H12 H13)
    | (go_at_call 12; refine H2.mono ?_; rintro e w3 ⟨v3, rfl, ho, hb⟩; have HO : Hid (w3.ownsRow w.heap.size 27 4 v3 _ _) := ho; have HB : Hid (Below w.heap.size w w3) := hb; clear ho hb H2)
    | fail)
  go_ret
  exact ⟨_, rfl, HO.out, HB.out⟩
end Go.Proofs.Ytjngjfgbholgpaa

namespace Go.Proofs.Ytjngjfgbholgpaa
open Go Go.RowKit Go.Proofs Go.Reg Go.Lib Go.Shelf

theorem sort_none (p : Option Addr) (cap : Nat) (w : World) : Calls Try.prog 24 #[.slice p 0 cap] w fun e w' => e = .returned (.tuple #[]) ∧ w' = w := by
  have h := AnyM.slices_Sort_int_none Try.laysSlM5_f24 p cap w
  change Calls Try.prog 24 _ _ _ at h
  exact h

set_option maxRecDepth 100000 in
set_option maxHeartbeats 2000000 in
theorem cuts_none (b2 o2 cap2 : Nat) (p : Option Addr) (cap : Nat) (w : World) (hcell : w.cell? ⟨b2, o2, none⟩ = some (.slice p 0 cap)) :
    Calls Try.prog 15 #[.slice (some ⟨b2, o2, none⟩) 1 cap2] w fun e w' => e = .returned (.slice none 0 0) ∧ w' = w := by
  go_enter Try.func15, Try.ntmps15
  go_wp2
  go_loopw [3, 10] (fun v vi wr => ∃ (t : Nat), t ≤ 1 ∧ vi = .int .i64 t ∧ v = .slice none 0 0 ∧ wr = w) (fun _ vi _ => 1 - (intOf vi).toNat)
  case atStart => exact ⟨0, by omega, rfl, rfl, rfl⟩
  case round =>
    obtain ⟨t, ht, rfl, rfl, rfl⟩ := hrel
    by_cases hlt : t = 0
    · subst hlt
      go_wp2
      go_loopw [3, 16] (fun v vi wr2 => v = .slice none 0 0 ∧ vi = .int .i64 0 ∧ wr2 = wr) (fun _ _ _ => 0)
      case atStart => exact ⟨rfl, rfl, rfl⟩
      case round =>
        obtain ⟨rfl, rfl, rfl⟩ := hrel
        go_wp2
        go_roundw
        case rel => exact ⟨1, by omega, by go_num, by first | trivial | exact ⟨rfl, rfl⟩ | simp⟩
        case measure => simp [intOf]
    · have ht1 : t = 1 := by omega
      subst ht1
      go_wp2_with (first
        | (go_at_call 24; refine (sort_none _ _ _).mono ?_; rintro e w2 ⟨rfl, rfl⟩)
        | (go_at_call 25; refine (Try.slices_Compact_int_empty _ _ _).mono ?_; rintro e w3 ⟨rfl, rfl⟩)
        | fail)
      go_ret
      exact ⟨rfl, rfl⟩

set_option maxRecDepth 100000 in
set_option maxHeartbeats 2000000 in
theorem bands_none (fv : Value) (w : World) : Calls Try.prog 14 #[.slice none 0 0, fv] w fun e w' => e = .returned (.slice none 0 0) ∧ w' = w := by
  go_enter Try.func14, Try.ntmps14
  go_wp2
  go_loopw [5, 6, 7, 8] (fun v5 _ _ v8 wr => v5 = .slice none 0 0 ∧ v8 = .int .i64 0 ∧ wr = w) (fun _ _ _ _ _ => 0)
  case atStart => exact ⟨rfl, rfl, rfl⟩
  case round =>
    obtain ⟨rfl, rfl, rfl⟩ := hrel
    go_wp2
    go_ret
    exact ⟨rfl, rfl⟩

set_option maxRecDepth 100000 in
set_option maxHeartbeats 2000000 in
theorem norm_none (p : Option Addr) (cap : Nat) (w : World) : Calls Try.prog 12 #[.slice p 0 cap] w fun e w' => e = .returned (.slice none 0 0) ∧ Below w.heap.size w w' := by
  have H15 := cuts_none (w.heap.size + 1) 0 1 p cap ((w.alloc (.cells #[.slice p 0 cap] 22)).alloc (.cells #[.slice p 0 cap] 22)) (by simp)
  go_enter Try.func12, Try.ntmps12
  go_wp2_with (first
    | (go_at_call 15; refine H15.mono ?_; rintro e w2 ⟨rfl, rfl⟩; clear H15)
    | (go_at_call 14; refine (bands_none _ _).mono ?_; rintro e w3 ⟨rfl, rfl⟩)
    | fail)
  go_ret
  exact ⟨rfl, ((Below.refl _ _).alloc (Nat.le_refl _) _).alloc (by simp) _⟩

theorem normL_nil : normL [] = [] := by
  have : cutsL [] = [] := List.eq_nil_of_length_eq_zero (by have := cutsL_len []; simpa using this)
  rw [normL, this]; rfl

/-- Norm of at most 256 rectangles. -/
theorem Norm_some (blk off cap : Nat) (rs : List Rc) (w : World) (hR : RowR w blk off rs) (hn : rs.length ≤ 256) (hc : rs.length ≤ cap) :
    Calls Try.prog 6 #[.slice (some ⟨blk, off, none⟩) rs.length cap] w fun e w' => ∃ v, e = .returned v ∧ w'.ownsRow w.heap.size 27 4 v (normL (rightL rs)).length (cellsR (normL (rightL rs))) ∧ Below w.heap.size w w' := by
  by_cases h0 : rightL rs = []
  · have H13 := right_row blk off cap rs w hR hn hc
    rw [h0] at H13 ⊢
    rw [normL_nil]
    clear hR hn hc h0
    go_enter Try.func6, Try.ntmps6
    go_wp2_with (first
      | (go_at_call 13; refine H13.mono ?_; rintro e w2 ⟨v, rfl, ho, hb⟩; obtain ⟨p, c, rfl, -⟩ := shape ho; have HB : Hid (Below w.heap.size w w2) := hb; clear ho hb H13)
      | (go_at_call 12; refine (norm_none _ _ _).mono ?_; rintro e w3 ⟨rfl, hb⟩; have HB3 : Hid (Below w.heap.size w w3) := HB.out.trans (hb.mono HB.out.size); clear hb HB)
      | fail)
    go_ret
    exact ⟨_, rfl, World.ownsRow_nil _ _ _ _, HB3.out⟩
  · exact Norm_row blk off cap rs w hR hn hc h0

theorem Norm_none (p : Option Addr) (cap : Nat) (w : World) : Calls Try.prog 6 #[.slice p 0 cap] w fun e w' => e = .returned (.slice none 0 0) ∧ Below w.heap.size w w' := by
  go_enter Try.func6, Try.ntmps6
  go_wp2_with (first
    | (go_at_call 13; refine (right_none _ _ _).mono ?_; rintro e w2 ⟨rfl, rfl⟩)
    | (go_at_call 12; refine (norm_none _ _ _).mono ?_; rintro e w3 ⟨rfl, hb⟩; have HB : Hid (Below w2.heap.size w2 w3) := hb; clear hb)
    | fail)
  go_ret
  exact ⟨rfl, HB.out⟩
end Go.Proofs.Ytjngjfgbholgpaa

namespace Go.Proofs.Ytjngjfgbholgpaa
open Go Go.RowKit Go.Proofs Go.Reg Go.Lib

theorem normL_is {rs : List Rc} (hok : ∀ r ∈ rs, r.Ok) : IsNorm rs (normL rs) := isNorm_bands hok (cutsL_is rs)

theorem norm_turn (R : List Rc) (k : Nat) : normL (rightL (R.drop k ++ R)) = normL (rightL R) := by
  refine IsNorm.unique (normL_is (rightL_ok _)) (normL_is (rightL_ok _)) (spansF_set (rightL_ok _) fun r => ?_)
  simp only [rightL, List.mem_filter, List.mem_append]
  constructor
  · rintro ⟨h | h, hm⟩
    · exact ⟨List.mem_of_mem_drop h, hm⟩
    · exact ⟨h, hm⟩
  · rintro ⟨h, hm⟩; exact ⟨.inr h, hm⟩

theorem norm_twice (R : List Rc) : normL (rightL (normL (rightL R))) = normL (rightL R) := by
  have h := normL_is (rightL_ok R)
  have hx := IsNorm.ok (rightL_ok R) h
  have e : rightL (normL (rightL R)) = normL (rightL R) := List.filter_eq_self.2 fun r hr => (mayB_ok r).2 (hx r hr)
  rw [e]
  exact IsNorm.again (rightL_ok R) h (normL_is hx)

theorem norm_short (R : List Rc) (h : R.length ≤ 12) : (normL (rightL R)).length ≤ 144 := by
  have h1 := norm_len (rightL_ok R) (cutsL_is (rightL R))
  have h2 : (rightL R).length ≤ 12 := Nat.le_trans (List.length_filter_le _ _) h
  exact Nat.le_trans h1 (Nat.le_trans (Nat.mul_le_mul h2 h2) (by decide))

theorem cut_row (blk off cap : Nat) (n : Nat) (w : World) (hc : n ≤ cap) :
    Calls Try.prog 5 #[.slice (some ⟨blk, off, none⟩) n cap] w fun e w' => e = .returned (.slice (some ⟨blk, off, none⟩) (min n 12) cap) ∧ w' = w := by
  by_cases h : 12 < n
  · have e : min n 12 = 12 := by omega
    rw [e]
    have h2 : 12 ≤ cap := by omega
    go_enter Try.func5, Try.ntmps5
    go_wp2
    all_goals go_ret
    all_goals exact ⟨rfl, rfl⟩
  · have e : min n 12 = n := by omega
    rw [e]
    go_enter Try.func5, Try.ntmps5
    go_wp2
    all_goals go_ret
    all_goals exact ⟨rfl, rfl⟩
theorem cut_nil (w : World) : Calls Try.prog 5 #[.slice none 0 0] w fun e w' => e = .returned (.slice none 0 0) ∧ w' = w := by
  go_enter Try.func5, Try.ntmps5
  go_wp2
  all_goals go_ret
  all_goals exact ⟨rfl, rfl⟩
end Go.Proofs.Ytjngjfgbholgpaa

namespace Go.Proofs.Ytjngjfgbholgpaa
open Go Go.RowKit Go.Proofs Go.Reg Go.Lib

theorem row_cells {w : World} {blk off : Nat} {rs : List Rc} (h : RowR w blk off rs) : ∀ j u, (cellsR rs)[j]? = some u → w.cell? ((⟨blk, off, none⟩ : Addr).add j) = some u := by
  intro j u hj
  have hlt : j < (cellsR rs).length := (List.getElem?_eq_some_iff.1 hj).1
  rw [cellsR_len] at hlt
  have hq : j / 4 < rs.length := by omega
  have ej : j / 4 * 4 + j % 4 = j := by omega
  have hg := cellsR_get rs (j / 4) (j % 4) hq (by omega)
  rw [ej, hj] at hg
  have ea : ((⟨blk, off, none⟩ : Addr).add j) = ⟨blk, off + j, none⟩ := by
    unfold Addr.add; split
    · next h => rw [h]; rfl
    · rfl
  rw [ea]
  have h4 : j % 4 = 0 ∨ j % 4 = 1 ∨ j % 4 = 2 ∨ j % 4 = 3 := by omega
  rcases h4 with e | e | e | e <;> rw [e] at hg
  · have := h.c0 _ hq; rw [show off + j / 4 * 4 = off + j by omega] at this; rw [this]; simpa [enR] using hg.symm
  · have := h.c1 _ hq; rw [show off + j / 4 * 4 + 1 = off + j by omega] at this; rw [this]; simpa [enR] using hg.symm
  · have := h.c2 _ hq; rw [show off + j / 4 * 4 + 2 = off + j by omega] at this; rw [this]; simpa [enR] using hg.symm
  · have := h.c3 _ hq; rw [show off + j / 4 * 4 + 3 = off + j by omega] at this; rw [this]; simpa [enR] using hg.symm

theorem cellsR_one (rs : List Rc) : ∀ u ∈ cellsR rs, u.oneCell' = true := by
  intro u hu
  obtain ⟨r, _, hr⟩ := List.mem_flatMap.1 hu
  exact enR_one r u hr

theorem RowR.drop {w : World} {blk off : Nat} {rs : List Rc} (h : RowR w blk off rs) (k : Nat) : RowR w blk (off + k * 4) (rs.drop k) := by
  have g : ∀ i, i < (rs.drop k).length → k + i < rs.length ∧ (rs.drop k)[i]! = rs[k + i]! := fun i hi => by
    rw [List.length_drop] at hi
    refine ⟨by omega, ?_⟩
    rw [getElem!_pos _ i (by rw [List.length_drop]; exact hi), getElem!_pos rs (k + i) (by omega), List.getElem_drop]
  refine ⟨h.lt, fun i hi => ?_, fun i hi => ?_, fun i hi => ?_, fun i hi => ?_⟩ <;> rw [(g i hi).2, show off + k * 4 + i * 4 = off + (k + i) * 4 by omega]
  · exact h.c0 _ (g i hi).1
  · exact h.c1 _ (g i hi).1
  · exact h.c2 _ (g i hi).1
  · exact h.c3 _ (g i hi).1

/-- Norm of a call's own slice, an empty one too. -/
theorem Norm_own {w : World} {B : Nat} {v : Value} {rs : List Rc} (h : w.ownsRow B 27 4 v rs.length (cellsR rs)) (hn : rs.length ≤ 256) (hB : B ≤ w.heap.size) :
    Calls Try.prog 6 #[v] w fun e w' => ∃ v', e = .returned v' ∧ w'.ownsRow B 27 4 v' (normL (rightL rs)).length (cellsR (normL (rightL rs))) ∧ Below w.heap.size w w' := by
  obtain ⟨p, c, rfl, hp⟩ := shape h
  by_cases h0 : rs.length = 0
  · have hr : rs = [] := List.length_eq_zero_iff.1 h0
    subst hr
    refine (Norm_none p c w).mono ?_
    rintro e w' ⟨rfl, hb⟩
    have e : normL (rightL []) = [] := normL_nil
    rw [e]
    exact ⟨_, rfl, World.ownsRow_nil _ _ _ _, hb⟩
  · obtain ⟨g, rfl⟩ := hp h0
    have hr := owns_row h
    refine (Norm_some g 0 c rs w hr.2.1 hn hr.2.2.2).mono ?_
    rintro e w' ⟨v', rfl, ho, hb⟩
    exact ⟨v', rfl, owns_base ho hB, hb⟩

set_option maxRecDepth 100000 in
set_option maxHeartbeats 4000000 in
theorem order_row (H4 : ∀ w, Calls Try.prog 4 #[] w fun e w' => e = .returned (.bool true) ∧ Below w.heap.size w w') (blk off cap : Nat) (rs : List Rc) (turn : Int) (w : World) (hR : RowR w blk off rs) (hc : rs.length ≤ cap) (h0 : 0 < rs.length) :
    Calls Try.prog 3 #[.slice (some ⟨blk, off, none⟩) rs.length cap, .int .i64 turn] w fun e w' => e = .returned (.bool true) ∧ Below w.heap.size w w' := by
  obtain ⟨i0, hi, hz0, hz1, hz2⟩ := info_parts Try.info27
  obtain ⟨R, hRR⟩ : ∃ R, R = rs.take 12 := ⟨_, rfl⟩
  obtain ⟨n, hn⟩ : ∃ n, n = min rs.length 12 := ⟨_, rfl⟩
  have hl : R.length = n := by rw [hRR, hn]; simp; omega
  have HR : Hid (RowR w blk off R) := by rw [hRR]; exact hR.take 12
  have H5 := cut_row blk off cap rs.length w hc
  rw [← hn] at H5
  have hn12 : n ≤ 12 := by omega
  have hn0 : 0 < n := by omega
  have hnc : n ≤ cap := by omega
  have HN : Hid (R.length = n) := hl
  clear hl hRR hR
  obtain ⟨kk, hkk⟩ : ∃ kk, kk = (turn.tmod n).natAbs := ⟨_, rfl⟩
  have hk1 : kk < n := by
    have := Int.natAbs_tmod turn n
    rw [hkk, this]; exact Nat.mod_lt _ (by simpa using hn0)
  by_cases hneg : turn.tmod n < 0
  · have hq : turn.tmod n = -(kk : Int) := by omega
    have hk0 : 0 < kk := by omega
    have hk9 : kk ≤ 12 := by omega
    have hnz : ¬ (n : Int) = 0 := by omega
    have HNM : Hid (n = min rs.length 12) := hn
    clear hkk hneg hn
    go_enter Try.func3, Try.ntmps3
    go_wp2_with (first
      | (go_at_call 4; refine (H4 _).mono ?_; rintro e w1 ⟨rfl, hb⟩; have HB1 : Hid (Below w.heap.size w w1) := hb; have H51 := cut_row blk off cap rs.length w1 hc; rw [← HNM.out] at H51; have HR1 : Hid (RowR w1 blk off R) := HR.out.fresh hb HR.out.lt; clear hb H5)
      | (go_at_call 5; refine H51.mono ?_; rintro e w2 ⟨rfl, rfl⟩; clear H51)
      | (at_builtin; refine wpList_append_own _ rfl (.const (.slice none 0 0)) (.tmp 36) 22 rfl w.heap.size 27 i0 (.agg #[n64 0, n64 0, n64 0, n64 0]) 4 32 Try.underlying22 hi hz0 hz1 hz2 rfl (by decide) (.slice none 0 0) 0 [] rfl (World.ownsRow_nil _ _ _ _) ⟨blk, off + kk * 4, none⟩ (n - kk) (cap - kk) (cellsR (R.drop kk)) rfl (by rw [cellsR_len, List.length_drop, HN.out]) (row_cells (HR1.out.drop kk)) (cellsR_one _) (by unfold maxLen; omega) (by omega) HB1.out.size ?_; intro v1 w3 ho1 hg1 _; have HB3 : Hid (Below w.heap.size w w3) := HB1.out.grown hg1 HB1.out.size (fun k hk => by simp [Value.ownBlock] at hk); have HO1 : Hid (w3.ownsRow w.heap.size 27 4 v1 (n - kk) (cellsR (R.drop kk))) := (by have h := ho1; rw [Nat.zero_add, List.nil_append] at h; exact h); have HR3 : Hid (RowR w3 blk off R) := HR.out.fresh HB3.out HR.out.lt; clear ho1 hg1)
      | (at_builtin; refine wpList_append_own _ rfl (.tmp 37) (.tmp 38) 22 rfl w.heap.size 27 i0 (.agg #[n64 0, n64 0, n64 0, n64 0]) 4 32 Try.underlying22 hi hz0 hz1 hz2 rfl (by decide) _ (n - kk) (cellsR (R.drop kk)) rfl HO1.out ⟨blk, off, none⟩ n cap (cellsR R) rfl (by rw [cellsR_len, HN.out]) (row_cells HR3.out) (cellsR_one _) (by unfold maxLen; omega) (by omega) HB3.out.size ?_; intro v2 w4 ho2 hg2 _; have HB4 : Hid (Below w.heap.size w w4) := HB3.out.grown hg2 HB3.out.size (fun k hk => (HO1.out.lt k hk).1); have HO2 : Hid (w4.ownsRow w.heap.size 27 4 v2 (R.drop kk ++ R).length (cellsR (R.drop kk ++ R))) := (by rw [cellsR_append, List.length_append, List.length_drop, HN.out]; exact ho2); have HR4 : Hid (RowR w4 blk off R) := HR.out.fresh HB4.out HR.out.lt; have H6 := Norm_some blk off cap R w4 HR4.out (by rw [HN.out]; omega) (by rw [HN.out]; exact hnc); rw [HN.out] at H6; clear ho2 hg2)
      | (go_at_call 6; refine H6.mono ?_; rintro e w5 ⟨v5, rfl, ho, hb⟩; have HB5 : Hid (Below w.heap.size w w5) := HB4.out.trans (hb.mono HB4.out.size); have HX5 : Hid (w5.ownsRow w.heap.size 27 4 v5 _ _) := owns_base ho HB4.out.size; have HO5 : Hid (w5.ownsRow w.heap.size 27 4 v2 _ _) := owns_fresh HO2.out hb; have H7 := Norm_own HO5.out (by rw [List.length_append, List.length_drop, HN.out]; omega) HB5.out.size; rw [norm_turn] at H7; clear ho hb H6)
      | (go_at_call 6; refine H7.mono ?_; rintro e w6 ⟨v6, rfl, ho, hb⟩; have HB6 : Hid (Below w.heap.size w w6) := HB5.out.trans (hb.mono HB5.out.size); have HY6 : Hid (w6.ownsRow w.heap.size 27 4 v6 _ _) := ho; have HX6 : Hid (w6.ownsRow w.heap.size 27 4 v5 _ _) := owns_fresh HX5.out hb; have H8 := Norm_own HX6.out (by have := norm_short R (by rw [HN.out]; exact hn12); omega) HB6.out.size; rw [norm_twice] at H8; clear ho hb H7)
      | (go_at_call 6; refine H8.mono ?_; rintro e w7 ⟨v7, rfl, ho, hb⟩; have HB7 : Hid (Below w.heap.size w w7) := HB6.out.trans (hb.mono HB6.out.size); have HZ7 : Hid (w7.ownsRow w.heap.size 27 4 v7 _ _) := ho; have HY7 : Hid (w7.ownsRow w.heap.size 27 4 v6 _ _) := owns_fresh HY6.out hb; have HX7 : Hid (w7.ownsRow w.heap.size 27 4 v5 _ _) := owns_fresh HX6.out hb; obtain ⟨px, cx, rfl, hpx⟩ := shape HX7.out; obtain ⟨py, cy, rfl, hpy⟩ := shape HY7.out; obtain ⟨pz, cz, rfl, hpz⟩ := shape HZ7.out; clear ho hb H8)
      | fail)
    have hX : (normL (rightL R)).length ≤ 144 := norm_short R (by rw [HN.out]; exact hn12)
    obtain ⟨X, hXX⟩ : ∃ X, X = normL (rightL R) := ⟨_, rfl⟩
    rw [← hXX] at HX7 HY7 HZ7 hX hpx hpy hpz ⊢
    obtain ⟨xl, hxl⟩ : ∃ xl, xl = X.length := ⟨_, rfl⟩
    rw [← hxl] at hX hpx hpy hpz ⊢
    have HXL : Hid (xl = X.length) := hxl
    have HPX : Hid (xl ≠ 0 → (∃ g, px = some ⟨g, 0, none⟩) ∧ (∃ g, py = some ⟨g, 0, none⟩) ∧ (∃ g, pz = some ⟨g, 0, none⟩)) := fun h => ⟨hpx h, hpy h, hpz h⟩
    have HX8 : Hid (w7.ownsRow w.heap.size 27 4 (.slice px xl cx) X.length (cellsR X)) := by rw [hxl]; exact HX7
    have HY8 : Hid (w7.ownsRow w.heap.size 27 4 (.slice py xl cy) X.length (cellsR X)) := by rw [hxl]; exact HY7
    have HZ8 : Hid (w7.ownsRow w.heap.size 27 4 (.slice pz xl cz) X.length (cellsR X)) := by rw [hxl]; exact HZ7
    clear hpx hpy hpz hxl hXX HX7 HY7 HZ7
    go_loopw [11] (fun v11 wr => ∃ (k q : Nat), k ≤ xl ∧ v11 = .int .i64 k ∧ wr = w7.drewN q) (fun v11 _ => xl - (intOf v11).toNat)
    case atStart => exact ⟨0, 0, Nat.zero_le _, rfl, rfl⟩
    case round =>
      obtain ⟨k, q, hk, rfl, rfl⟩ := hrel
      by_cases hlt : k < xl
      · obtain ⟨⟨gx, rfl⟩, ⟨gy, rfl⟩, ⟨gz, rfl⟩⟩ := HPX.out (by omega)
        have rx := (owns_row HX8.out).2.1
        have ry := (owns_row HY8.out).2.1
        have rz := (owns_row HZ8.out).2.1
        obtain ⟨r, hr⟩ : ∃ r, r = X[k]! := ⟨_, rfl⟩
        have hlx : k < X.length := HXL.out ▸ hlt
        have x0 := rx.c0 k hlx
        have x1 := rx.c1 k hlx
        have x2 := rx.c2 k hlx
        have x3 := rx.c3 k hlx
        have y0 := ry.c0 k hlx
        have y1 := ry.c1 k hlx
        have y2 := ry.c2 k hlx
        have y3 := ry.c3 k hlx
        have z0 := rz.c0 k hlx
        have z1 := rz.c1 k hlx
        have z2 := rz.c2 k hlx
        have z3 := rz.c3 k hlx
        rw [← hr, Nat.zero_add] at x0 x1 x2 x3 y0 y1 y2 y3 z0 z1 z2 z3
        clear rx ry rz hr hlx
        go_wp2_with fail
        go_region
        go_wp2_with fail
        go_roundw
        case rel => exact ⟨k + 1, q + 1, by omega, by go_num, rfl⟩
        case measure => simp [intOf]; omega
      · go_wp2_with fail
        go_ret
        exact ⟨rfl, below_drewN HB7.out q⟩
  · have hq : turn.tmod n = (kk : Int) := by omega
    have hnz : ¬ (n : Int) = 0 := by omega
    have HNM : Hid (n = min rs.length 12) := hn
    clear hkk hneg hn
    go_enter Try.func3, Try.ntmps3
    go_wp2_with (first
      | (go_at_call 4; refine (H4 _).mono ?_; rintro e w1 ⟨rfl, hb⟩; have HB1 : Hid (Below w.heap.size w w1) := hb; have H51 := cut_row blk off cap rs.length w1 hc; rw [← HNM.out] at H51; have HR1 : Hid (RowR w1 blk off R) := HR.out.fresh hb HR.out.lt; clear hb H5)
      | (go_at_call 5; refine H51.mono ?_; rintro e w2 ⟨rfl, rfl⟩; clear H51)
      | (at_builtin; refine wpList_append_own _ rfl (.const (.slice none 0 0)) (.tmp 36) 22 rfl w.heap.size 27 i0 (.agg #[n64 0, n64 0, n64 0, n64 0]) 4 32 Try.underlying22 hi hz0 hz1 hz2 rfl (by decide) (.slice none 0 0) 0 [] rfl (World.ownsRow_nil _ _ _ _) ⟨blk, off + kk * 4, none⟩ (n - kk) (cap - kk) (cellsR (R.drop kk)) rfl (by rw [cellsR_len, List.length_drop, HN.out]) (row_cells (HR1.out.drop kk)) (cellsR_one _) (by unfold maxLen; omega) (by omega) HB1.out.size ?_; intro v1 w3 ho1 hg1 _; have HB3 : Hid (Below w.heap.size w w3) := HB1.out.grown hg1 HB1.out.size (fun k hk => by simp [Value.ownBlock] at hk); have HO1 : Hid (w3.ownsRow w.heap.size 27 4 v1 (n - kk) (cellsR (R.drop kk))) := (by have h := ho1; rw [Nat.zero_add, List.nil_append] at h; exact h); have HR3 : Hid (RowR w3 blk off R) := HR.out.fresh HB3.out HR.out.lt; clear ho1 hg1)
      | (at_builtin; refine wpList_append_own _ rfl (.tmp 37) (.tmp 38) 22 rfl w.heap.size 27 i0 (.agg #[n64 0, n64 0, n64 0, n64 0]) 4 32 Try.underlying22 hi hz0 hz1 hz2 rfl (by decide) _ (n - kk) (cellsR (R.drop kk)) rfl HO1.out ⟨blk, off, none⟩ n cap (cellsR R) rfl (by rw [cellsR_len, HN.out]) (row_cells HR3.out) (cellsR_one _) (by unfold maxLen; omega) (by omega) HB3.out.size ?_; intro v2 w4 ho2 hg2 _; have HB4 : Hid (Below w.heap.size w w4) := HB3.out.grown hg2 HB3.out.size (fun k hk => (HO1.out.lt k hk).1); have HO2 : Hid (w4.ownsRow w.heap.size 27 4 v2 (R.drop kk ++ R).length (cellsR (R.drop kk ++ R))) := (by rw [cellsR_append, List.length_append, List.length_drop, HN.out]; exact ho2); have HR4 : Hid (RowR w4 blk off R) := HR.out.fresh HB4.out HR.out.lt; have H6 := Norm_some blk off cap R w4 HR4.out (by rw [HN.out]; omega) (by rw [HN.out]; exact hnc); rw [HN.out] at H6; clear ho2 hg2)
      | (go_at_call 6; refine H6.mono ?_; rintro e w5 ⟨v5, rfl, ho, hb⟩; have HB5 : Hid (Below w.heap.size w w5) := HB4.out.trans (hb.mono HB4.out.size); have HX5 : Hid (w5.ownsRow w.heap.size 27 4 v5 _ _) := owns_base ho HB4.out.size; have HO5 : Hid (w5.ownsRow w.heap.size 27 4 v2 _ _) := owns_fresh HO2.out hb; have H7 := Norm_own HO5.out (by rw [List.length_append, List.length_drop, HN.out]; omega) HB5.out.size; rw [norm_turn] at H7; clear ho hb H6)
      | (go_at_call 6; refine H7.mono ?_; rintro e w6 ⟨v6, rfl, ho, hb⟩; have HB6 : Hid (Below w.heap.size w w6) := HB5.out.trans (hb.mono HB5.out.size); have HY6 : Hid (w6.ownsRow w.heap.size 27 4 v6 _ _) := ho; have HX6 : Hid (w6.ownsRow w.heap.size 27 4 v5 _ _) := owns_fresh HX5.out hb; have H8 := Norm_own HX6.out (by have := norm_short R (by rw [HN.out]; exact hn12); omega) HB6.out.size; rw [norm_twice] at H8; clear ho hb H7)
      | (go_at_call 6; refine H8.mono ?_; rintro e w7 ⟨v7, rfl, ho, hb⟩; have HB7 : Hid (Below w.heap.size w w7) := HB6.out.trans (hb.mono HB6.out.size); have HZ7 : Hid (w7.ownsRow w.heap.size 27 4 v7 _ _) := ho; have HY7 : Hid (w7.ownsRow w.heap.size 27 4 v6 _ _) := owns_fresh HY6.out hb; have HX7 : Hid (w7.ownsRow w.heap.size 27 4 v5 _ _) := owns_fresh HX6.out hb; obtain ⟨px, cx, rfl, hpx⟩ := shape HX7.out; obtain ⟨py, cy, rfl, hpy⟩ := shape HY7.out; obtain ⟨pz, cz, rfl, hpz⟩ := shape HZ7.out; clear ho hb H8)
      | fail)
    have hX : (normL (rightL R)).length ≤ 144 := norm_short R (by rw [HN.out]; exact hn12)
    obtain ⟨X, hXX⟩ : ∃ X, X = normL (rightL R) := ⟨_, rfl⟩
    rw [← hXX] at HX7 HY7 HZ7 hX hpx hpy hpz ⊢
    obtain ⟨xl, hxl⟩ : ∃ xl, xl = X.length := ⟨_, rfl⟩
    rw [← hxl] at hX hpx hpy hpz ⊢
    have HXL : Hid (xl = X.length) := hxl
    have HPX : Hid (xl ≠ 0 → (∃ g, px = some ⟨g, 0, none⟩) ∧ (∃ g, py = some ⟨g, 0, none⟩) ∧ (∃ g, pz = some ⟨g, 0, none⟩)) := fun h => ⟨hpx h, hpy h, hpz h⟩
    have HX8 : Hid (w7.ownsRow w.heap.size 27 4 (.slice px xl cx) X.length (cellsR X)) := by rw [hxl]; exact HX7
    have HY8 : Hid (w7.ownsRow w.heap.size 27 4 (.slice py xl cy) X.length (cellsR X)) := by rw [hxl]; exact HY7
    have HZ8 : Hid (w7.ownsRow w.heap.size 27 4 (.slice pz xl cz) X.length (cellsR X)) := by rw [hxl]; exact HZ7
    clear hpx hpy hpz hxl hXX HX7 HY7 HZ7
    go_loopw [11] (fun v11 wr => ∃ (k q : Nat), k ≤ xl ∧ v11 = .int .i64 k ∧ wr = w7.drewN q) (fun v11 _ => xl - (intOf v11).toNat)
    case atStart => exact ⟨0, 0, Nat.zero_le _, rfl, rfl⟩
    case round =>
      obtain ⟨k, q, hk, rfl, rfl⟩ := hrel
      by_cases hlt : k < xl
      · obtain ⟨⟨gx, rfl⟩, ⟨gy, rfl⟩, ⟨gz, rfl⟩⟩ := HPX.out (by omega)
        have rx := (owns_row HX8.out).2.1
        have ry := (owns_row HY8.out).2.1
        have rz := (owns_row HZ8.out).2.1
        obtain ⟨r, hr⟩ : ∃ r, r = X[k]! := ⟨_, rfl⟩
        have hlx : k < X.length := HXL.out ▸ hlt
        have x0 := rx.c0 k hlx
        have x1 := rx.c1 k hlx
        have x2 := rx.c2 k hlx
        have x3 := rx.c3 k hlx
        have y0 := ry.c0 k hlx
        have y1 := ry.c1 k hlx
        have y2 := ry.c2 k hlx
        have y3 := ry.c3 k hlx
        have z0 := rz.c0 k hlx
        have z1 := rz.c1 k hlx
        have z2 := rz.c2 k hlx
        have z3 := rz.c3 k hlx
        rw [← hr, Nat.zero_add] at x0 x1 x2 x3 y0 y1 y2 y3 z0 z1 z2 z3
        clear rx ry rz hr hlx
        go_wp2_with fail
        go_region
        go_wp2_with fail
        go_roundw
        case rel => exact ⟨k + 1, q + 1, by omega, by go_num, rfl⟩
        case measure => simp [intOf]; omega
      · go_wp2_with fail
        go_ret
        exact ⟨rfl, below_drewN HB7.out q⟩

theorem cut_none (p : Option Addr) (cap : Nat) (w : World) : Calls Try.prog 5 #[.slice p 0 cap] w fun e w' => e = .returned (.slice p 0 cap) ∧ w' = w := by
  go_enter Try.func5, Try.ntmps5
  go_wp2
  all_goals go_ret
  all_goals exact ⟨rfl, rfl⟩

set_option maxRecDepth 100000 in
set_option maxHeartbeats 4000000 in
theorem order_none (H4 : ∀ w, Calls Try.prog 4 #[] w fun e w' => e = .returned (.bool true) ∧ Below w.heap.size w w') (p : Option Addr) (cap : Nat) (turn : Int) (w : World) :
    Calls Try.prog 3 #[.slice p 0 cap, .int .i64 turn] w fun e w' => e = .returned (.bool true) ∧ Below w.heap.size w w' := by
  go_enter Try.func3, Try.ntmps3
  go_wp2_with (first
    | (go_at_call 4; refine (H4 _).mono ?_; rintro e w1 ⟨rfl, hb⟩; have HB1 : Hid (Below w.heap.size w w1) := hb; clear hb)
    | (go_at_call 5; refine (cut_none _ _ _).mono ?_; rintro e w2 ⟨rfl, rfl⟩)
    | (go_at_call 6; refine (Norm_none _ _ _).mono ?_; rintro e w3 ⟨rfl, hb⟩; have HB3 : Hid (Below w.heap.size w w3) := HB1.out.trans (hb.mono HB1.out.size); clear hb)
    | fail)
  go_ret
  exact ⟨rfl, HB3.out⟩
end Go.Proofs.Ytjngjfgbholgpaa

namespace Go.Proofs.Ytjngjfgbholgpaa
open Go Go.RowKit Go.Proofs Go.Reg Go.Lib Go.ChangeShapes Go.WideShapes Go.Deep

theorem open_rect {H : Type} {enc : TypeId × Value → H} {w : World} {base : Nat} {spare : Nat → Bool} {held : Bool} {fuel : Nat} {cs : List Value} {x : DataW H × List MemPlace} (h : DataW.trod enc Try.prog w base spare held fuel 27 cs = some x) :
    ∃ r : Rc, cs = enR r := by
  obtain ⟨xs, n, _, rfl, hl, hlen, hf⟩ := DataW.trod_struct Try.underlying27 h
  have h4 : cs.length = 4 := hl
  match cs, h4 with
  | [c0, c1, c2, c3], _ =>
    have e2 : Try.prog.cellsOf 2 = 1 := by kernel_rfl
    have one : ∀ (y : DataW H × List MemPlace) (c : Value), DataW.trod enc Try.prog w base spare held n 2 [c] = some y → ∃ z, c = n64 z := fun y c hy => by
      obtain ⟨z, hz, _⟩ := DataW.trod_int Try.underlying2 hy
      exact ⟨z, by simpa using hz⟩
    match xs, hlen with
    | [y0, y1, y2, y3], _ =>
      have g0 := hf 0 _ rfl
      have g1 := hf 1 _ rfl
      have g2 := hf 2 _ rfl
      have g3 := hf 3 _ rfl
      simp [e2] at g0 g1 g2 g3
      obtain ⟨z0, rfl⟩ := one _ _ g0
      obtain ⟨z1, rfl⟩ := one _ _ g1
      obtain ⟨z2, rfl⟩ := one _ _ g2
      obtain ⟨z3, rfl⟩ := one _ _ g3
      exact ⟨⟨z0, z1, z2, z3⟩, rfl⟩

theorem spot_none {w : World} {a : Addr} {v : Value} (h : w.cell? a = some v) : a.spot = none := by
  unfold World.cell? at h
  split at h
  · split at h
    · cases h
    · next hs => cases e : a.spot with
      | none => rfl
      | some s => rw [e] at hs; exact absurd rfl hs
  · cases h

theorem open_rects {H : Type} {enc : TypeId × Value → H} {w : World} {held : Bool} {fuel : Nat} {cs : List Value} {x : DataW H × List MemPlace} (h : DataW.trod enc Try.prog w 0 (fun _ => true) held fuel 22 cs = some x) :
    (∃ p cap, cs = [.slice p 0 cap]) ∨ ∃ blk off cap rs, cs = [.slice (some ⟨blk, off, none⟩) rs.length cap] ∧ rs.length ≤ cap ∧ 0 < rs.length ∧ RowR w blk off rs := by
  rcases open_slice Try.underlying22 h with ⟨h0, _⟩ | ⟨a, len, cap, m, n, D, Pl, rfl, _, hlc, hcm, hm, _, hx⟩
  · exact .inl ⟨_, _, h0⟩
  · by_cases hl : len = 0
    · subst hl; exact .inl ⟨_, _, rfl⟩
    · right
      have hm' : m = cap := by simpa using hm
      subst hm'
      have e4 : Try.prog.cellsOf 27 = 4 := by kernel_rfl
      rw [e4] at hx
      have each : ∀ i, i < len → ∃ r : Rc, ∀ t, t < 4 → w.cell? (a.add (i * 4) |>.add t) = (enR r)[t]? := fun i hi => by
        obtain ⟨cs', h1, h2⟩ := hx i (by omega)
        obtain ⟨r, rfl⟩ := open_rect h2
        exact ⟨r, (World.cells?_some h1).2.2⟩
      obtain ⟨r0, hr0⟩ := each 0 (by omega)
      have hc0 := hr0 0 (by decide)
      simp [Addr.add, enR] at hc0
      have hs := spot_none hc0
      obtain ⟨blk, off, spot⟩ := a
      simp only at hs
      subst hs
      have hlt := World.block_lt_of_cell? _ _ hc0
      obtain ⟨F, hF⟩ : ∃ F : Nat → Rc, ∀ i, i < len → ∀ t, t < 4 → w.cell? ((⟨blk, off, none⟩ : Addr).add (i * 4) |>.add t) = (enR (F i))[t]? :=
        ⟨fun i => if hi : i < len then Classical.choose (each i hi) else default, fun i hi t ht => by
          simp only [dif_pos hi]; exact Classical.choose_spec (each i hi) t ht⟩
      have ad : ∀ i t, ((⟨blk, off, none⟩ : Addr).add (i * 4) |>.add t) = ⟨blk, off + i * 4 + t, none⟩ := fun i t => by
        have g : ∀ (o j : Nat), ((⟨blk, o, none⟩ : Addr).add j) = ⟨blk, o + j, none⟩ := fun o j => by
          unfold Addr.add; split
          · next h => rw [h]; rfl
          · rfl
        rw [g, g]
      have len' : ((List.range len).map F).length = len := by simp
      have get : ∀ i, i < len → ((List.range len).map F)[i]! = F i := fun i hi => by
        rw [getElem!_pos _ i (by rw [len']; exact hi)]; simp
      refine ⟨blk, off, m, (List.range len).map F, by rw [len'], by rw [len']; exact hlc, by rw [len']; omega, hlt, ?_, ?_, ?_, ?_⟩ <;> intro i hi <;> rw [len'] at hi <;> rw [get i hi]
      · have := hF i hi 0 (by decide); rw [ad] at this; simpa [enR] using this
      · have := hF i hi 1 (by decide); rw [ad] at this; simpa [enR] using this
      · have := hF i hi 2 (by decide); rw [ad] at this; simpa [enR] using this
      · have := hF i hi 3 (by decide); rw [ad] at this; simpa [enR] using this
end Go.Proofs.Ytjngjfgbholgpaa

