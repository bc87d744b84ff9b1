/- RegionOrder, the walks: what a row of rectangles, of spans, of numbers holds; what stays while a call makes blocks of its own. -/
import Derived.Test.YtjngjfgbholgpaaProg
import Derived.WalkKit
import Derived.BigGuard
import Derived.BigCall
import Derived.CellFam
import Derived.Deep.Draws
import Derived.Deep.QuietTactic
import Derived.BigQuiet
import Derived.BigRegion
import Derived.Deep.LoopGhost
import Derived.Lib.Hide
import Derived.Test.YtjngjfgbholgpaaReg
import Derived.Test.YtjngjfgbholgpaaShelf
import Derived.Lib.OwnBridge
import Derived.Deep.RegionLaw
set_option linter.unusedSimpArgs false
set_option linter.unusedVariables false
namespace Go.Proofs.Ytjngjfgbholgpaa
open Go Go.RowKit Go.Proofs Go.Reg

abbrev n64 (x : Int) : Value := .int .i64 x
def Rc.vals (r : Rc) : Array Value := #[n64 r.r0, n64 r.c0, n64 r.r1, n64 r.c1]
def mayB (r : Rc) : Bool := decide (0 ≤ r.r0) && decide (0 ≤ r.c0) && decide (r.r0 < r.r1) && decide (r.c0 < r.c1) && decide (r.r1 ≤ 4398046511104) && decide (r.c1 ≤ 4398046511104)

set_option maxRecDepth 100000 in
set_option maxHeartbeats 1000000 in
theorem may (r : Rc) (w : World) : Calls Try.prog 11 #[.agg #[n64 r.r0, n64 r.c0, n64 r.r1, n64 r.c1]] w fun e w' => e = .returned (.bool (mayB r)) ∧ Below w.heap.size w w' := by
  go_enter Try.func11, Try.ntmps11
  go_wp2
  all_goals go_ret
  all_goals refine ⟨?_, (Below.refl _ _).alloc (Nat.le_refl _) _⟩
  all_goals simp [mayB, *]
  all_goals first | done | omega
end Go.Proofs.Ytjngjfgbholgpaa

namespace Go.Proofs.Ytjngjfgbholgpaa
open Go Go.RowKit Go.Proofs Go.Reg

def enR (r : Rc) : List Value := [n64 r.r0, n64 r.c0, n64 r.r1, n64 r.c1]
def enS (s : Sp) : List Value := [n64 s.lo, n64 s.hi]
def cellsR (rs : List Rc) : List Value := rs.flatMap enR
def cellsS (l : List Sp) : List Value := l.flatMap enS
@[simp] theorem cellsR_len (rs : List Rc) : (cellsR rs).length = rs.length * 4 := by
  induction rs with
  | nil => rfl
  | cons r rs ih => simp only [cellsR, List.flatMap_cons, List.length_append] at *; simp only [ih, enR, List.length_cons, List.length_nil]; omega
@[simp] theorem cellsS_len (l : List Sp) : (cellsS l).length = l.length * 2 := by
  induction l with
  | nil => rfl
  | cons r rs ih => simp only [cellsS, List.flatMap_cons, List.length_append] at *; simp only [ih, enS, List.length_cons, List.length_nil]; omega
theorem cellsR_snoc (rs : List Rc) (r : Rc) : cellsR (rs ++ [r]) = cellsR rs ++ enR r := by simp [cellsR]
theorem cellsS_snoc (rs : List Sp) (r : Sp) : cellsS (rs ++ [r]) = cellsS rs ++ enS r := by simp [cellsS]
theorem cellsR_append (rs ks : List Rc) : cellsR (rs ++ ks) = cellsR rs ++ cellsR ks := by simp [cellsR]

theorem cellsR_get : ∀ (rs : List Rc) (i t : Nat), i < rs.length → t < 4 → (cellsR rs)[i * 4 + t]? = (enR rs[i]!)[t]?
  | [], i, _, h, _ => absurd h (Nat.not_lt_zero _)
  | r :: rs, 0, t, _, ht => by
    rw [cellsR, List.flatMap_cons, Nat.zero_mul, Nat.zero_add, List.getElem?_append_left (by simpa [enR] using ht)]; simp
  | r :: rs, i + 1, t, h, ht => by
    rw [cellsR, List.flatMap_cons, List.getElem?_append_right (by simp [enR]; omega), show (i + 1) * 4 + t - (enR r).length = i * 4 + t by simp [enR]; omega]
    rw [show (rs.flatMap enR) = cellsR rs from rfl, cellsR_get rs i t (by simpa using h) ht]; simp
theorem cellsS_get : ∀ (rs : List Sp) (i t : Nat), i < rs.length → t < 2 → (cellsS rs)[i * 2 + t]? = (enS rs[i]!)[t]?
  | [], i, _, h, _ => absurd h (Nat.not_lt_zero _)
  | r :: rs, 0, t, _, ht => by
    rw [cellsS, List.flatMap_cons, Nat.zero_mul, Nat.zero_add, List.getElem?_append_left (by simpa [enS] using ht)]; simp
  | r :: rs, i + 1, t, h, ht => by
    rw [cellsS, List.flatMap_cons, List.getElem?_append_right (by simp [enS]; omega), show (i + 1) * 2 + t - (enS r).length = i * 2 + t by simp [enS]; omega]
    rw [show (rs.flatMap enS) = cellsS rs from rfl, cellsS_get rs i t (by simpa using h) ht]; simp

/-- The row at that place holds these rectangles. -/
structure RowR (w : World) (blk off : Nat) (rs : List Rc) : Prop where
  lt : blk < w.heap.size
  c0 : ∀ i, i < rs.length → w.cell? ⟨blk, off + i * 4, none⟩ = some (n64 rs[i]!.r0)
  c1 : ∀ i, i < rs.length → w.cell? ⟨blk, off + i * 4 + 1, none⟩ = some (n64 rs[i]!.c0)
  c2 : ∀ i, i < rs.length → w.cell? ⟨blk, off + i * 4 + 2, none⟩ = some (n64 rs[i]!.r1)
  c3 : ∀ i, i < rs.length → w.cell? ⟨blk, off + i * 4 + 3, none⟩ = some (n64 rs[i]!.c1)

abbrev Fresh (w w' : World) : Prop := Below w.heap.size w w'

theorem RowR.fresh {w w' : World} {blk off : Nat} {rs : List Rc} (h : RowR w blk off rs) {B : Nat} (hb : Below B w w') (hB : blk < B) : RowR w' blk off rs :=
  ⟨Nat.lt_of_lt_of_le h.lt hb.size, fun i hi => (hb.cell hB).trans (h.c0 i hi), fun i hi => (hb.cell hB).trans (h.c1 i hi), fun i hi => (hb.cell hB).trans (h.c2 i hi), fun i hi => (hb.cell hB).trans (h.c3 i hi)⟩

theorem RowR.take {w : World} {blk off : Nat} {rs : List Rc} (h : RowR w blk off rs) (n : Nat) : RowR w blk off (rs.take n) := by
  have g : ∀ i, i < (rs.take n).length → i < rs.length ∧ (rs.take n)[i]! = rs[i]! := fun i hi => by
    rw [List.length_take] at hi; have h1 : i < n := by omega
    have h2 : i < rs.length := by omega
    exact ⟨h2, by simp [List.getElem!_eq_getElem?_getD, h1]⟩
  exact ⟨h.lt, fun i hi => (g i hi).2 ▸ h.c0 i (g i hi).1, fun i hi => (g i hi).2 ▸ h.c1 i (g i hi).1, fun i hi => (g i hi).2 ▸ h.c2 i (g i hi).1, fun i hi => (g i hi).2 ▸ h.c3 i (g i hi).1⟩

theorem owns_fresh {w w' : World} {B : Nat} {e : TypeId} {size : Nat} {v : Value} {n : Nat} {xs : List Value} (h : w.ownsRow B e size v n xs) (hf : Fresh w w') : w'.ownsRow B e size v n xs := by
  refine ⟨h.1, ?_⟩
  rcases h.2 with hn | ⟨g, cap, cur, rfl, hb, hgg, rest⟩
  · exact .inl hn
  · exact .inr ⟨g, cap, cur, rfl, hb, by rw [hf.block g (Array.getElem?_eq_some_iff.1 hgg).1]; exact hgg, rest⟩

/-- What a call's own slice of rectangles is. -/
theorem owns_row {w : World} {B g n cap : Nat} {rs : List Rc} {e : TypeId} (h : w.ownsRow B e 4 (.slice (some ⟨g, 0, none⟩) n cap) rs.length (cellsR rs)) : n = rs.length ∧ RowR w g 0 rs ∧ B ≤ g ∧ n ≤ cap := by
  rcases h.2 with ⟨h1, _⟩ | ⟨g', cap', cur, hv, hb, hg, hn, hm, hs, ht⟩
  · simp at h1
  · simp only [Value.slice.injEq, Option.some.injEq, Addr.mk.injEq] at hv
    obtain ⟨⟨rfl, -, -⟩, rfl, rfl⟩ := hv
    have cell : ∀ j u, (cellsR rs)[j]? = some u → w.cell? ⟨g, 0 + j, none⟩ = some u := fun j u hj => by
      have := h.cells (g := g) rfl j u hj
      rw [Nat.zero_add]; simp only [Addr.add] at this; split at this
      · next h0 => simpa [h0] using this
      · simpa using this
    refine ⟨rfl, ⟨(Array.getElem?_eq_some_iff.1 hg).1, fun i hi => ?_, fun i hi => ?_, fun i hi => ?_, fun i hi => ?_⟩, hb, hn⟩
    · exact cell (i * 4) _ (by have := cellsR_get rs i 0 hi (by decide); rw [Nat.add_zero] at this; rw [this]; rfl)
    · rw [Nat.add_assoc]; exact cell (i * 4 + 1) _ (by rw [cellsR_get rs i 1 hi (by decide)]; rfl)
    · rw [Nat.add_assoc]; exact cell (i * 4 + 2) _ (by rw [cellsR_get rs i 2 hi (by decide)]; rfl)
    · rw [Nat.add_assoc]; exact cell (i * 4 + 3) _ (by rw [cellsR_get rs i 3 hi (by decide)]; rfl)

/-- The cells of a block that has just been laid. -/
theorem laid_get (w : World) (cs : List Value) (e : TypeId) : ∀ j u, cs[j]? = some u → (w.alloc (.cells cs.toArray e)).cell? ((⟨w.heap.size, 0, none⟩ : Addr).add j) = some u := by
  intro j u hj
  have ea : ((⟨w.heap.size, 0, none⟩ : Addr).add j) = ⟨w.heap.size, j, none⟩ := by
    unfold Addr.add; split
    · next h => rw [h]
    · simp
  rw [ea, World.cell?]
  show (match (w.alloc (.cells cs.toArray e)).heap[w.heap.size]? with
    | some (.cells c _ _) => c[j]?
    | _ => none) = some u
  rw [heap_alloc_new]
  simpa using hj
theorem enR_one (r : Rc) : ∀ u ∈ enR r, u.oneCell' = true := by
  intro u hu; simp [enR] at hu; rcases hu with rfl | rfl | rfl | rfl <;> rfl
theorem enS_one (r : Sp) : ∀ u ∈ enS r, u.oneCell' = true := by
  intro u hu; simp [enS] at hu; rcases hu with rfl | rfl <;> rfl
/-- Behind an append onto a call's own row. -/
theorem below_append {B : Nat} {w w2 w3 : World} {e : TypeId} {size n : Nat} {v : Value} {xs : List Value} (hb : Below B w w2) (hB : B ≤ w2.heap.size) (ho : w2.ownsRow B e size v n xs) (hg : w2.grownBy w3 v.ownBlock) : Below B w w3 :=
  hb.grown hg hB fun k hk => (ho.lt k hk).1
theorem size_laid (w : World) (o : Obj) {B : Nat} (h : B ≤ w.heap.size) : B ≤ (w.alloc o).heap.size := by simp; omega
end Go.Proofs.Ytjngjfgbholgpaa

namespace Go.Proofs.Ytjngjfgbholgpaa
open Go Go.RowKit Go.Proofs Go.Reg

theorem Try.info27 : (Try.prog.info? 27).map (fun i => (i.zero, i.size, i.bytes)) = some (some (.agg #[n64 0, n64 0, n64 0, n64 0]), 4, 32) := by kernel_rfl
theorem Try.info44 : (Try.prog.info? 44).map (fun i => (i.zero, i.size, i.bytes)) = some (some (.agg #[n64 0, n64 0]), 2, 16) := by kernel_rfl
theorem Try.info2 : (Try.prog.info? 2).map (fun i => (i.zero, i.size, i.bytes)) = some (some (n64 0), 1, 8) := by kernel_rfl

def rightL (rs : List Rc) : List Rc := rs.filter mayB
theorem rightL_take (rs : List Rc) (k : Nat) (hk : k < rs.length) : rightL (rs.take (k + 1)) = if mayB rs[k]! then rightL (rs.take k) ++ [rs[k]!] else rightL (rs.take k) := by
  rw [rightL, List.take_succ_eq_append_getElem hk, List.filter_append]
  have e : rs[k]! = rs[k] := getElem!_pos rs k hk
  rw [e]
  by_cases hm : mayB rs[k] = true
  · simp [hm, rightL]
  · simp [hm, rightL]
theorem rightL_len (rs : List Rc) (k : Nat) : (rightL (rs.take k)).length ≤ k := by
  have := List.length_filter_le mayB (rs.take k)
  have h2 := List.length_take_le k rs
  unfold rightL; omega

set_option maxRecDepth 100000 in
set_option maxHeartbeats 2000000 in
theorem right_row (blk off cap : Nat) (rs : List Rc) (w : World) (hR : RowR w blk off rs) (hn : rs.length ≤ 256) (hc : rs.length ≤ cap) :
    Calls Try.prog 13 #[.slice (some ⟨blk, off, none⟩) rs.length cap] w fun e w' => ∃ v, e = .returned v ∧ w'.ownsRow w.heap.size 27 4 v (rightL rs).length (cellsR (rightL rs)) ∧ Below w.heap.size w w' := by
  obtain ⟨i0, hi, hz0, hz1, hz2⟩ := info_parts Try.info27
  have HR : Hid (RowR w blk off rs) := hR
  obtain ⟨n, hnn⟩ : ∃ n, n = rs.length := ⟨_, rfl⟩
  rw [← hnn] at hn hc ⊢
  have HN : Hid (n = rs.length) := hnn
  clear hnn hR
  go_enter Try.func13, Try.ntmps13
  go_wp2
  go_loopw [3, 12] (fun v vi wr => ∃ (k : Nat), k ≤ n ∧ vi = .int .i64 k ∧ Hid (wr.ownsRow w.heap.size 27 4 v (rightL (rs.take k)).length (cellsR (rightL (rs.take k)))) ∧ Hid (Below w.heap.size w wr)) (fun _ vi _ => n - (intOf vi).toNat)
  case atStart => exact ⟨0, Nat.zero_le _, rfl, World.ownsRow_nil _ _ _ _, Below.refl _ _⟩
  case round =>
    obtain ⟨k, hk, rfl, HO, HB⟩ := hrel
    by_cases hlt : k < n
    · obtain ⟨r, hr⟩ : ∃ r, r = rs[k]! := ⟨_, rfl⟩
      have HE : Hid (r = rs[k]!) := hr
      have hW := HR.out.fresh HB.out HR.out.lt
      have hc0 := hW.c0 k (HN.out ▸ hlt)
      have hc1 := hW.c1 k (HN.out ▸ hlt)
      have hc2 := hW.c2 k (HN.out ▸ hlt)
      have hc3 := hW.c3 k (HN.out ▸ hlt)
      rw [← hr] at hc0 hc1 hc2 hc3
      clear hr hW
      go_wp2_with (first
        | (go_at_call 11; refine (may r _).mono ?_; rintro e w2 ⟨rfl, hF⟩; have hl0 : w2.cell? ⟨wr.heap.size, 0, none⟩ = some (n64 r.r0) := (hF.cell (by simp)).trans (by simp); have hl1 : w2.cell? ⟨wr.heap.size, 1, none⟩ = some (n64 r.c0) := (hF.cell (by simp)).trans (by simp); have hl2 : w2.cell? ⟨wr.heap.size, 2, none⟩ = some (n64 r.r1) := (hF.cell (by simp)).trans (by simp); have hl3 : w2.cell? ⟨wr.heap.size, 3, none⟩ = some (n64 r.c1) := (hF.cell (by simp)).trans (by simp); have HO2 : Hid (w2.ownsRow w.heap.size 27 4 _ _ _) := owns_fresh (HO.out.alloc _) hF; have HB2 : Hid (Below w.heap.size w w2) := (HB.out.alloc HB.out.size _).trans (hF.mono (by simp; exact Nat.le_succ_of_le HB.out.size)); clear hF HO HB hc0 hc1 hc2 hc3)
        | (at_builtin; refine wpList_append_own _ rfl _ _ 22 rfl w.heap.size 27 i0 (.agg #[n64 0, n64 0, n64 0, n64 0]) 4 32 Try.underlying22 hi hz0 hz1 hz2 rfl (by decide) _ _ _ rfl (HO2.out.alloc _) ⟨w2.heap.size, 0, none⟩ 1 1 (enR r) rfl rfl ?c1 ?c2 ?c3 ?c4 ?c5 ?_)
        | fail)
      case c1 => exact laid_get w2 (enR r) 27
      case c2 => exact enR_one r
      case c3 => have := rightL_len rs k; unfold maxLen; omega
      case c4 => have := rightL_len rs k; omega
      case c5 => exact size_laid _ _ HB2.out.size
      · intro v' w3 ho hg _
        have hm : mayB r = true := by assumption
        have E := rightL_take rs k (HN.out ▸ hlt)
        rw [← HE.out, if_pos hm] at E
        have HO3 : Hid (w3.ownsRow w.heap.size 27 4 v' (rightL (rs.take (k + 1))).length (cellsR (rightL (rs.take (k + 1))))) := by
          rw [E, cellsR_snoc, List.length_append]; exact ho
        have HB3 : Hid (Below w.heap.size w w3) := below_append (HB2.out.alloc HB2.out.size _) (size_laid _ _ HB2.out.size) (HO2.out.alloc _) hg
        clear ho hg HO2 HB2 E
        go_wp2
        go_roundw
        case rel => exact ⟨k + 1, by omega, by go_num, HO3, HB3⟩
        case measure => simp [intOf]; omega
      · have hm : mayB r = false := by assumption
        have E := rightL_take rs k (HN.out ▸ hlt)
        rw [← HE.out, if_neg (by simp [hm])] at E
        go_roundw
        case rel => exact ⟨k + 1, by omega, by go_num, by rw [E]; exact HO2, HB2⟩
        case measure => simp [intOf]; omega
    · go_wp2
      go_ret
      have e : rs.take k = rs := List.take_of_length_le (by have := HN.out; omega)
      have HO' := HO.out
      rw [e] at HO'
      exact ⟨_, rfl, HO', HB.out⟩

theorem right_none (p : Option Addr) (cap : Nat) (w : World) : Calls Try.prog 13 #[.slice p 0 cap] w fun e w' => e = .returned (.slice none 0 0) ∧ w' = w := by
  go_enter Try.func13, Try.ntmps13
  go_wp2
  go_loopw [3, 12] (fun v vi wr => v = .slice none 0 0 ∧ vi = .int .i64 0 ∧ wr = w) (fun _ _ _ => 0)
  case atStart => exact ⟨rfl, rfl, rfl⟩
  case round =>
    obtain ⟨rfl, rfl, rfl⟩ := hrel
    go_wp2
    go_ret
    exact ⟨rfl, rfl⟩
end Go.Proofs.Ytjngjfgbholgpaa

namespace Go.Proofs.Ytjngjfgbholgpaa
open Go Go.RowKit Go.Proofs Go.Reg Go.Lib

theorem compact_up (d : Array Int) (hs : ∀ i j, i ≤ j → j < d.size → d[i]! ≤ d[j]!) : ∀ m, m ≤ d.size →
    (compactUpTo d m).Pairwise (· < ·) ∧ (∀ x, x ∈ compactUpTo d m ↔ ∃ j, j < m ∧ d[j]! = x)
  | 0, _ => ⟨by simp [compactUpTo], fun x => by simp [compactUpTo]⟩
  | m + 1, hm => by
    obtain ⟨h1, h2⟩ := compact_up d hs m (by omega)
    rw [compactUpTo_succ]
    by_cases hk : keeps d m = true
    · rw [if_pos hk]
      refine ⟨List.pairwise_append.2 ⟨h1, by simp, fun x hx y hy => ?_⟩, fun x => ?_⟩
      · obtain ⟨j, hj, rfl⟩ := (h2 x).1 hx
        obtain rfl : y = d[m]! := by simpa using hy
        have a := hs j (m - 1) (by omega) (by omega)
        have b := hs (m - 1) m (by omega) (by omega)
        have c : d[m]! ≠ d[m - 1]! := by
          simp only [keeps, decide_eq_true_eq] at hk
          rcases hk with h | h
          · omega
          · exact h
        omega
      · rw [List.mem_append, h2]
        constructor
        · rintro (⟨j, hj, rfl⟩ | h)
          · exact ⟨j, by omega, rfl⟩
          · exact ⟨m, by omega, (List.mem_singleton.1 h).symm⟩
        · rintro ⟨j, hj, rfl⟩
          by_cases e : j = m
          · subst e; exact .inr (by simp)
          · exact .inl ⟨j, by omega, rfl⟩
    · rw [if_neg hk, List.append_nil]
      refine ⟨h1, fun x => ?_⟩
      rw [h2]
      constructor
      · rintro ⟨j, hj, rfl⟩; exact ⟨j, by omega, rfl⟩
      · rintro ⟨j, hj, rfl⟩
        by_cases e : j = m
        · subst e
          have hk' : ¬ (j = 0 ∨ d[j]! ≠ d[j - 1]!) := by simpa [keeps] using hk
          have hk2 : j ≠ 0 ∧ d[j]! = d[j - 1]! := by
            refine ⟨fun h => hk' (.inl h), ?_⟩
            by_cases h : d[j]! = d[j - 1]!
            · exact h
            · exact absurd (.inr h) hk'
          exact ⟨j - 1, by omega, hk2.2.symm⟩
        · exact ⟨j, by omega, rfl⟩

def cutsL (rs : List Rc) : List Int := compact ((ends rs).mergeSort fun x y => decide (x ≤ y))

theorem cutsL_is (rs : List Rc) : IsCuts rs (cutsL rs) := by
  obtain ⟨zs, hz⟩ : ∃ zs, zs = (ends rs).mergeSort fun x y => decide (x ≤ y) := ⟨_, rfl⟩
  have hp : zs.Perm (ends rs) := by rw [hz]; exact List.mergeSort_perm _ _
  have hs : zs.Pairwise (fun x y => x ≤ y) := by
    have := List.pairwise_mergeSort (le := fun x y : Int => decide (x ≤ y)) (by intro a b c; simp; omega) (by intro a b; simp; omega) (ends rs)
    rw [← hz] at this
    exact this.imp (by simp)
  have H := compact_up zs.toArray (fun i j hij hj => by
    simp at hj
    rw [getElem!_pos zs.toArray i (by simp; omega), getElem!_pos zs.toArray j (by simpa using hj)]
    rcases Nat.lt_or_ge i j with h | h
    · simpa using List.pairwise_iff_getElem.1 hs i j (by omega) hj h
    · have : i = j := by omega
      subst this; exact Int.le_refl _) zs.length (by simp)
  refine ⟨by rw [cutsL, ← hz]; exact H.1, fun x => ?_⟩
  rw [cutsL, ← hz, compact, H.2, ← hp.mem_iff]
  constructor
  · rintro ⟨j, hj, rfl⟩; rw [getElem!_pos zs.toArray j (by simpa using hj)]; simp
  · intro hx
    obtain ⟨j, hj, rfl⟩ := List.getElem_of_mem hx
    exact ⟨j, hj, by rw [getElem!_pos zs.toArray j (by simpa using hj)]; simp⟩

theorem Row_grow {B : Nat} {e : TypeId} {size n : Nat} {v : Value} {xs : List Value} {w : World} (os : Array Obj) (h : w.ownsRow B e size v n xs) : (Sort.grow w os).ownsRow B e size v n xs := by
  refine ⟨h.1, ?_⟩
  rcases h.2 with hn | ⟨g, cap, cur, rfl, hb, hgg, rest⟩
  · exact .inl hn
  · exact .inr ⟨g, cap, cur, rfl, hb, by rw [Sort.heap_grow_old w os (Array.getElem?_eq_some_iff.1 hgg).1]; exact hgg, rest⟩

theorem below_grow {B : Nat} {w0 w : World} (os : Array Obj) (h : Below B w0 w) (hB : B ≤ w.heap.size) : Below B w0 (Sort.grow w os) :=
  ⟨h.os, h.tape, h.output, by have := h.size; simp [Sort.grow]; omega, fun k hk => (Sort.heap_grow_old w os (by omega)).trans (h.block k hk)⟩

theorem sort_own {B n : Nat} {v : Value} {zs : List Int} {w : World} (h : w.ownsRow B 2 1 v n (zs.map n64)) (hv : v ≠ .slice none 0 0) (hn : n < 4611686018427387904) (hB : B ≤ w.heap.size) :
    Calls Try.prog 24 #[v] w fun e w' => e = .returned (.tuple #[]) ∧ w'.ownsRow B 2 1 v n ((zs.mergeSort fun x y => decide (x ≤ y)).map n64) ∧ Below B w w' := by
  obtain ⟨g, cap, rfl, hg, hgl, hnc, hcm, hl, hH⟩ := holds_of_ownsRow h hv
  subst hl
  refine (Try.slices_Sort_int g 0 cap zs w hH hgl hn).mono ?_
  rintro e w' ⟨rfl, q, os, rfl⟩
  refine ⟨rfl, Row_grow os ?_, below_grow os (below_putRow (Below.refl _ _) hg) (by simp [Sort.ahead]; exact hB)⟩
  have := ownsRow_putRow (q := q) (k := zs.length) (ys := zs.mergeSort fun x y => decide (x ≤ y)) h (by simp) (Nat.le_refl _)
  rwa [List.take_of_length_le (by simp)] at this

theorem compact_own {B n : Nat} {v : Value} {zs : List Int} {w : World} (h : w.ownsRow B 2 1 v n (zs.map n64)) (hv : v ≠ .slice none 0 0) (hn : n < 4611686018427387904) :
    Calls Try.prog 25 #[v] w fun e w' => ∃ v', e = .returned v' ∧ w'.ownsRow B 2 1 v' (compact zs).length ((compact zs).map n64) ∧ Below B w w' := by
  obtain ⟨g, cap, rfl, hg, hgl, hnc, hcm, hl, hH⟩ := holds_of_ownsRow h hv
  subst hl
  refine (Try.slices_Compact_int g 0 cap zs w hH (by omega) hnc).mono ?_
  rintro e w' ⟨rfl, q, rfl⟩
  have hle := compact_length_le zs
  refine ⟨_, rfl, ?_, below_putRow (Below.refl _ _) hg⟩
  have := ownsRow_putRow (q := q) (k := (compact zs).length) (ys := compact zs ++ List.replicate (zs.length - (compact zs).length) 0) h (by simp; omega) hle
  rwa [List.take_left] at this
end Go.Proofs.Ytjngjfgbholgpaa

namespace Go.Proofs.Ytjngjfgbholgpaa
open Go Go.RowKit Go.Proofs Go.Reg Go.Lib

theorem ends_take (rs : List Rc) (k : Nat) (hk : k < rs.length) : ends (rs.take (k + 1)) = ends (rs.take k) ++ [rs[k]!.r0, rs[k]!.r1] := by
  rw [ends, List.take_succ_eq_append_getElem hk, List.flatMap_append, getElem!_pos rs k hk]; rfl
theorem ends_len (rs : List Rc) : (ends rs).length = rs.length * 2 := by
  induction rs with
  | nil => rfl
  | cons r rs ih => simp only [ends, List.flatMap_cons, List.length_append] at *; simp only [ih, List.length_cons, List.length_nil]; omega

set_option maxRecDepth 100000 in
set_option maxHeartbeats 2000000 in
theorem cuts_row (b2 o2 cap2 blk off cap : Nat) (rs : List Rc) (w : World) (hb2 : b2 < w.heap.size) (hcell : w.cell? ⟨b2, o2, none⟩ = some (.slice (some ⟨blk, off, none⟩) rs.length cap)) (hR : RowR w blk off rs) (hn : rs.length ≤ 256) (h0 : 0 < rs.length) :
    Calls Try.prog 15 #[.slice (some ⟨b2, o2, none⟩) 1 cap2] w fun e w' => ∃ v, e = .returned v ∧ w'.ownsRow w.heap.size 2 1 v (cutsL rs).length ((cutsL rs).map n64) ∧ Below w.heap.size w w' := by
  obtain ⟨i0, hi, hz0, hz1, hz2⟩ := info_parts Try.info2
  have HR : Hid (RowR w blk off rs) := hR
  obtain ⟨n, hnn⟩ : ∃ n, n = rs.length := ⟨_, rfl⟩
  rw [← hnn] at hn hcell h0
  have HN : Hid (n = rs.length) := hnn
  clear hnn hR
  go_enter Try.func15, Try.ntmps15
  go_wp2
  go_loopw [3, 10] (fun v vi wr => ∃ (t : Nat), t ≤ 1 ∧ vi = .int .i64 t ∧ Hid (wr.ownsRow w.heap.size 2 1 v (if t = 0 then 0 else n * 2) (if t = 0 then [] else (ends rs).map n64)) ∧ Hid (Below w.heap.size w wr)) (fun _ vi _ => 1 - (intOf vi).toNat)
  case atStart => exact ⟨0, by omega, rfl, World.ownsRow_nil _ _ _ _, Below.refl _ _⟩
  case round =>
    obtain ⟨t, ht, rfl, HO, HB⟩ := hrel
    by_cases hlt : t = 0
    · subst hlt
      have hcw := (HB.out.cell (p := ⟨b2, o2, none⟩) hb2).trans hcell
      go_wp2
      go_loopw [3, 16] (fun v vi wr2 => ∃ (k : Nat), k ≤ n ∧ vi = .int .i64 k ∧ Hid (wr2.ownsRow w.heap.size 2 1 v (k * 2) ((ends (rs.take k)).map n64)) ∧ Hid (Below w.heap.size w wr2)) (fun _ vi _ => n - (intOf vi).toNat)
      case atStart => exact ⟨0, Nat.zero_le _, rfl, HO, HB⟩
      case round =>
        clear HO HB hcw
        obtain ⟨k, hk, rfl, HO, HB⟩ := hrel
        by_cases hlt : k < n
        · obtain ⟨r, hr⟩ : ∃ r, r = rs[k]! := ⟨_, rfl⟩
          have HE : Hid (r = rs[k]!) := hr
          have hW := HR.out.fresh HB.out HR.out.lt
          have hc0 := hW.c0 k (HN.out ▸ hlt)
          have hc1 := hW.c1 k (HN.out ▸ hlt)
          have hc2 := hW.c2 k (HN.out ▸ hlt)
          have hc3 := hW.c3 k (HN.out ▸ hlt)
          rw [← hr] at hc0 hc1 hc2 hc3
          clear hr hW
          go_wp2_with (first
            | (at_builtin; refine wpList_append_own _ rfl _ _ 35 rfl w.heap.size 2 i0 (n64 0) 1 8 Try.underlying35 hi hz0 hz1 hz2 rfl (by decide) _ _ _ rfl ((HO.out.alloc _).alloc _) ⟨wr.heap.size + 1, 0, none⟩ 2 2 [n64 r.r0, n64 r.r1] rfl rfl ?c1 ?c2 ?c3 ?c4 ?c5 ?_)
            | fail)
          case c1 => have := laid_get (wr.alloc (.cells #[n64 r.r0, n64 r.c0, n64 r.r1, n64 r.c1] 27)) [n64 r.r0, n64 r.r1] 2; simpa using this
          case c2 => intro u hu; simp at hu; rcases hu with rfl | rfl <;> rfl
          case c3 => unfold maxLen; omega
          case c4 => omega
          case c5 => exact size_laid _ _ (size_laid _ _ HB.out.size)
          · intro v' w3 ho hg _
            have E := ends_take rs k (HN.out ▸ hlt)
            rw [← HE.out] at E
            have HO3 : Hid (w3.ownsRow w.heap.size 2 1 v' ((k + 1) * 2) ((ends (rs.take (k + 1))).map n64)) := by
              rw [E, List.map_append, show (k + 1) * 2 = k * 2 + 2 by omega]; exact ho
            have HB3 : Hid (Below w.heap.size w w3) := below_append ((HB.out.alloc HB.out.size _).alloc (size_laid _ _ HB.out.size) _) (size_laid _ _ (size_laid _ _ HB.out.size)) ((HO.out.alloc _).alloc _) hg
            clear ho hg HO HB E
            go_wp2
            go_roundw
            case rel => exact ⟨k + 1, by omega, by go_num, HO3, HB3⟩
            case measure => simp [intOf]; omega
        · go_wp2
          have e : rs.take k = rs := List.take_of_length_le (by have := HN.out; omega)
          have ek : k = n := by omega
          rw [e, ek] at HO
          go_roundw
          case rel => exact ⟨1, by omega, by go_num, HO, HB⟩
          case measure => simp [intOf]
    · have ht1 : t = 1 := by omega
      subst ht1
      obtain ⟨v, hv⟩ : ∃ v, v = u3 := ⟨_, rfl⟩
      have HO1 : Hid (wr.ownsRow w.heap.size 2 1 u3 (n * 2) ((ends rs).map n64)) := HO
      have hvn : Hid (u3 ≠ .slice none 0 0) := fun h => by
        have := HO1.out
        rw [h] at this
        rcases this.2 with ⟨_, h2⟩ | ⟨g, cap, cur, h1, _⟩
        · omega
        · simp at h1
      clear hv HO v
      go_wp2_with (first
        | (go_at_call 24; refine (sort_own HO1.out hvn.out (by omega) HB.out.size).mono ?_; rintro e w2 ⟨rfl, hO2, hB2⟩; have HO2 : Hid (w2.ownsRow w.heap.size 2 1 u3 (n * 2) _) := hO2; have HB2 : Hid (Below w.heap.size w w2) := HB.out.trans hB2; clear hO2 hB2)
        | (go_at_call 25; refine (compact_own HO2.out hvn.out (by omega)).mono ?_; rintro e w3 ⟨v', rfl, hO3, hB3⟩; have HO3 : Hid (w3.ownsRow w.heap.size 2 1 v' _ _) := hO3; have HB3 : Hid (Below w.heap.size w w3) := HB2.out.trans hB3; clear hO3 hB3)
        | fail)
      go_ret
      exact ⟨_, rfl, HO3.out, HB3.out⟩

end Go.Proofs.Ytjngjfgbholgpaa

namespace Go.Proofs.Ytjngjfgbholgpaa
open Go Go.RowKit Go.Proofs Go.Reg Go.Lib Go.Sort Go.Shelf

/-- Spans whose beginnings are small. -/
abbrev Bs := { s : Sp // 0 ≤ s.lo ∧ s.lo ≤ 4398046511104 }
instance : Inhabited Bs := ⟨⟨⟨0, 0⟩, by decide⟩⟩
def encB (x : Bs) : List Value := enS x.1
def cfB (x y : Bs) : Int := min (max (x.1.lo - y.1.lo) (-1)) 1

theorem ltB (x y : Bs) : ltOf cfB x y = decide (x.1.lo < y.1.lo) := by
  unfold ltOf cfB
  congr 1
  apply propext
  omega

theorem swoB : SWO (ltOf cfB) where
  irrefl x := by rw [ltB]; simp
  trans x y z h1 h2 := by rw [ltB] at *; simp at *; omega
  ntrans x y z h1 h2 := by rw [ltB] at *; simp at *; omega

set_option maxHeartbeats 1000000 in
theorem closure27 (x y : Bs) (W : World) : Calls Try.prog 27 #[.agg #[n64 x.1.lo, n64 x.1.hi], .agg #[n64 y.1.lo, n64 y.1.hi]] W fun e w' => e = .returned (.int .i64 (cfB x y)) ∧ ∃ q os', w' = grow (W.drewN q) os' := by
  have hx := x.2
  have hy := y.2
  obtain ⟨a, ha⟩ : ∃ a, a = x.1.lo := ⟨_, rfl⟩
  obtain ⟨b, hb⟩ : ∃ b, b = y.1.lo := ⟨_, rfl⟩
  have hr : cfB x y = min (max (a - b) (-1)) 1 := by rw [ha, hb]; rfl
  rw [hr, ← ha, ← hb]
  rw [← ha] at hx
  rw [← hb] at hy
  clear hr ha hb
  have HX : Hid (0 ≤ a ∧ a ≤ 4398046511104) := hx
  obtain ⟨hx1, hx2⟩ := hx
  obtain ⟨hy1, hy2⟩ := hy
  clear HX
  go_enter Try.func27, Try.ntmps27
  go_wp2
  go_ret
  exact ⟨rfl, 0, _, by rw [alloc_eq_grow, alloc_eq_grow, grow_grow]; rfl⟩

/-- The row at that place holds these spans. -/
structure RowS (w : World) (blk off : Nat) (l : List Sp) : Prop where
  lt : blk < w.heap.size
  c0 : ∀ i, i < l.length → w.cell? ⟨blk, off + i * 2, none⟩ = some (n64 l[i]!.lo)
  c1 : ∀ i, i < l.length → w.cell? ⟨blk, off + i * 2 + 1, none⟩ = some (n64 l[i]!.hi)

theorem RowS.fresh {w w' : World} {blk off : Nat} {l : List Sp} (h : RowS w blk off l) {B : Nat} (hb : Below B w w') (hB : blk < B) : RowS w' blk off l :=
  ⟨Nat.lt_of_lt_of_le h.lt hb.size, fun i hi => (hb.cell hB).trans (h.c0 i hi), fun i hi => (hb.cell hB).trans (h.c1 i hi)⟩

/-- What a call's own slice of spans is. -/
theorem owns_rowS {w : World} {B g n cap : Nat} {l : List Sp} {e : TypeId} (h : w.ownsRow B e 2 (.slice (some ⟨g, 0, none⟩) n cap) l.length (cellsS l)) : n = l.length ∧ RowS w g 0 l ∧ B ≤ g ∧ n ≤ cap ∧ ∀ j, w.frozen? ⟨g, j, none⟩ = false := by
  rcases h.2 with ⟨h1, _⟩ | ⟨g', cap', cur, hv, hb, hg, hn, hm, hs, ht⟩
  · simp at h1
  · simp only [Value.slice.injEq, Option.some.injEq, Addr.mk.injEq] at hv
    obtain ⟨⟨rfl, -, -⟩, rfl, rfl⟩ := hv
    have cell : ∀ j u, (cellsS l)[j]? = some u → w.cell? ⟨g, 0 + j, none⟩ = some u := fun j u hj => by
      have := h.cells (g := g) rfl j u hj
      rw [Nat.zero_add]; simp only [Addr.add] at this; split at this
      · next h0 => simpa [h0] using this
      · simpa using this
    refine ⟨rfl, ⟨(Array.getElem?_eq_some_iff.1 hg).1, fun i hi => ?_, fun i hi => ?_⟩, hb, hn, fun j => by simp [World.frozen?, hg]⟩
    · exact cell (i * 2) _ (by have := cellsS_get l i 0 hi (by decide); rw [Nat.add_zero] at this; rw [this]; rfl)
    · rw [Nat.add_assoc]; exact cell (i * 2 + 1) _ (by rw [cellsS_get l i 1 hi (by decide)]; rfl)

theorem sortF_own {B n : Nat} {v : Value} {l : List Sp} {w : World} (hl : ∀ s ∈ l, 0 ≤ s.lo ∧ s.lo ≤ 4398046511104) (h : w.ownsRow B 44 2 v n (cellsS l)) (hv : v ≠ .slice none 0 0) (hn : n < 4611686018427387904) (hB : B ≤ w.heap.size) :
    Calls Try.prog 26 #[v, .func (.func 27) #[] #[]] w fun e w' => e = .returned (.tuple #[]) ∧ ∃ g cap d', v = .slice (some ⟨g, 0, none⟩) n cap ∧ B ≤ g ∧ n ≤ cap ∧ d'.Perm l ∧ d'.Pairwise (fun a b => a.lo ≤ b.lo) ∧ RowS w' g 0 d' ∧ Below B w w' := by
  have hln : n = l.length := by have := h.1; simp at this; omega
  subst hln
  obtain ⟨g, cap, rfl⟩ : ∃ g cap, v = .slice (some ⟨g, 0, none⟩) l.length cap := by
    rcases h.2 with ⟨h1, _⟩ | ⟨g, cap, cur, h1, _⟩
    · exact absurd h1 hv
    · exact ⟨g, cap, h1⟩
  obtain ⟨-, hR, hBg, hnc, hfz⟩ := owns_rowS h
  obtain ⟨d, hd⟩ : ∃ d : Array Bs, d.toList.map (·.1) = l := ⟨(l.attach.map fun x => ⟨x.1, hl x.1 x.2⟩).toArray, by simp⟩
  have hsz : d.size = l.length := by rw [← hd]; simp
  have hget : ∀ i, i < l.length → (d[i]!).1 = l[i]! := fun i hi => by
    subst hd
    rw [getElem!_pos d i (by omega), getElem!_pos _ i hi]; simp
  have hH : HoldsK encB 2 w g 0 d := by
    intro j hj
    have hj' : j < d.size * 2 := by simpa using hj
    have hq : j / 2 < l.length := by omega
    refine ⟨?_, hfz _⟩
    rw [get_flatK encB 2 d j hj']
    show _ = some (enS (d[j / 2]!).1)[j % 2]!
    rw [hget _ hq]
    have h2 : j % 2 = 0 ∨ j % 2 = 1 := by omega
    rcases h2 with e | e
    · have := hR.c0 (j / 2) hq
      rw [show 0 + j / 2 * 2 = 0 + j by omega] at this
      rw [this, e]; rfl
    · have := hR.c1 (j / 2) hq
      rw [show 0 + j / 2 * 2 + 1 = 0 + j by omega] at this
      rw [this, e]; rfl
  have eg : ∀ args w, (callFunc 27 args).run Try.prog w = .ok (.enter 27 args) w := enters_of Try.func27 (by kernel_rfl) rfl
  have hcon := AnyQ.slices_SortFunc Try.laysSlF06_f26 2 Try.isAgg44 Try.sizeOf44 encB (fun _ => rfl) (fun x v hv => enS_one x.1 v hv) cfB swoB 27 #[] g 0 cap d w eg (fun _ _ _ _ x y => closure27 x y _) hH hR.lt (by omega)
  change Calls Try.prog 26 _ _ _ at hcon
  rw [hsz] at hcon
  refine hcon.mono ?_
  rintro e w' ⟨rfl, d', q, os, hp, hs, rfl⟩
  have hs' : d'.size = l.length := by rw [hp.1, hsz]
  have hH' := holdsK_sortWorldK encB 2 w g 0 q d d' os hR.lt hH hp.1
  refine ⟨rfl, g, cap, d'.toList.map (·.1), rfl, hBg, hnc, ?_, ?_, ⟨?_, ?_, ?_⟩, ?_⟩
  · have := hp.2.2
    rw [← hsz, Array.extract_size] at this
    have e' : d'.extract 0 d.size = d' := by rw [← hp.1, Array.extract_size]
    rw [e'] at this
    have := this.map (·.1)
    rwa [hd] at this
  · rw [List.pairwise_iff_getElem]
    intro i j hi hj hij
    simp at hi hj
    have := hs i j (Nat.zero_le _) hij (by omega)
    rw [ltB] at this
    simp at this
    simp
    rw [getElem!_pos d' i (by omega), getElem!_pos d' j (by omega)] at this
    exact this
  · simp [sortWorldK, grow, putRowK, putRow, mapBlock, Sort.ahead]; have := hR.lt; omega
  · intro i hi
    simp at hi
    have := (hH'.cell (i := i) (c := 0) hi (by decide)).1
    rw [Nat.add_zero] at this
    rw [this]
    show some (enS (d'[i]!).1)[0]! = _
    rw [getElem!_pos d' i hi, getElem!_pos _ i (by simpa using hi)]
    simp [enS]
  · intro i hi
    simp at hi
    have := (hH'.cell (i := i) (c := 1) hi (by decide)).1
    rw [this]
    show some (enS (d'[i]!).1)[1]! = _
    rw [getElem!_pos d' i hi, getElem!_pos _ i (by simpa using hi)]
    simp [enS]
  · exact below_grow os (below_putRow (Below.refl _ _) hBg) (by simp [putRowK, putRow, mapBlock, Sort.ahead]; exact hB)
end Go.Proofs.Ytjngjfgbholgpaa

namespace Go.Proofs.Ytjngjfgbholgpaa
open Go Go.RowKit Go.Proofs Go.Reg Go.Lib

def onRow (row : Int) (r : Rc) : Bool := decide (r.r0 ≤ row) && decide (row < r.r1)
theorem rowL_take (rs : List Rc) (row : Int) (k : Nat) (hk : k < rs.length) : rowL (rs.take (k + 1)) row = if onRow row rs[k]! then rowL (rs.take k) row ++ [⟨rs[k]!.c0, rs[k]!.c1⟩] else rowL (rs.take k) row := by
  have e : rs[k]! = rs[k] := getElem!_pos rs k hk
  rw [rowL, List.take_succ_eq_append_getElem hk, List.filter_append, List.map_append, e]
  by_cases hm : onRow row rs[k] = true
  · rw [if_pos hm]; simp [onRow] at hm; simp [hm, rowL]
  · rw [if_neg hm]; simp [onRow] at hm; simp [rowL]; exact hm
theorem rowL_len (rs : List Rc) (row : Int) (k : Nat) : (rowL (rs.take k) row).length ≤ k := by
  have := List.length_filter_le (fun r => decide (r.r0 ≤ row) && decide (row < r.r1)) (rs.take k)
  have h2 := List.length_take_le k rs
  unfold rowL; rw [List.length_map]; omega

theorem mstep_len (out : List Sp) (s : Sp) : (mstep out s).length ≤ out.length + 1 := by
  unfold mstep
  split
  · simp
  · split
    · simp
    · simp
theorem mergeL_len (d : List Sp) : ∀ k, (mergeL (d.take k)).length ≤ k
  | 0 => by simp [mergeL]
  | k + 1 => by
    by_cases hk : k < d.length
    · rw [List.take_succ_eq_append_getElem hk, mergeL_snoc]
      have := mergeL_len d k
      have := mstep_len (mergeL (d.take k)) d[k]
      omega
    · rw [List.take_of_length_le (by omega)]
      have := mergeL_len d k
      rw [List.take_of_length_le (by omega)] at this
      omega
theorem mergeL_take (d : List Sp) (k : Nat) (hk : k < d.length) : mergeL (d.take (k + 1)) = mstep (mergeL (d.take k)) d[k]! := by
  rw [List.take_succ_eq_append_getElem hk, mergeL_snoc, getElem!_pos d k hk]

theorem mstep_none (s : Sp) {out : List Sp} (h : out.getLast? = none) : mstep out s = [s] := by simp [mstep, h]
theorem mstep_app {out : List Sp} {p s : Sp} (h : out.getLast? = some p) (hlt : p.hi < s.lo) : mstep out s = out ++ [s] := by
  simp only [mstep, h]; rw [if_neg (by omega)]
theorem mstep_put {out : List Sp} {p s : Sp} {q : Nat} (h : out.getLast? = some p) (hq : out.length = q + 1) (hle : s.lo ≤ p.hi) :
    (mstep out s).length = q + 1 ∧ (cellsS out).set (q * 2 + 1) (n64 (max p.hi s.hi)) = cellsS (mstep out s) := by
  have ho := snoc_of_getLast? h
  have hl : out.dropLast.length = q := by simp; omega
  have e : mstep out s = out.dropLast ++ [⟨p.lo, max p.hi s.hi⟩] := by
    simp only [mstep, h]; rw [if_pos hle]
    congr 3
    split <;> omega
  rw [e]
  refine ⟨by simp; omega, ?_⟩
  rw [ho, cellsS_snoc, List.dropLast_concat, cellsS_snoc, List.set_append_right _ _ (by simp at hl ⊢; omega)]
  congr 1
  rw [cellsS_len, hl, show q * 2 + 1 - q * 2 = 1 by omega]
  rfl
theorem owns_base {w : World} {B B' : Nat} {e : TypeId} {size n : Nat} {v : Value} {xs : List Value} (h : w.ownsRow B e size v n xs) (hB : B' ≤ B) : w.ownsRow B' e size v n xs := by
  refine ⟨h.1, ?_⟩
  rcases h.2 with hn | ⟨g, cap, cur, rfl, hb, rest⟩
  · exact .inl hn
  · exact .inr ⟨g, cap, cur, rfl, Nat.le_trans hB hb, rest⟩

set_option maxRecDepth 100000 in
set_option maxHeartbeats 4000000 in
theorem spans_row (blk off cap : Nat) (rs : List Rc) (row : Int) (w : World) (hR : RowR w blk off rs) (hn : rs.length ≤ 256) (hok : ∀ r ∈ rs, r.Ok) (hne : rowL rs row ≠ []) :
    Calls Try.prog 18 #[.slice (some ⟨blk, off, none⟩) rs.length cap, .int .i64 row] w fun e w' => ∃ v, e = .returned v ∧ w'.ownsRow w.heap.size 44 2 v (spansF rs row).length (cellsS (spansF rs row)) ∧ Below w.heap.size w w' := by
  obtain ⟨i0, hi, hz0, hz1, hz2⟩ := info_parts Try.info44
  have HR : Hid (RowR w blk off rs) := hR
  have HK : Hid (∀ r ∈ rs, r.Ok) := hok
  have HNE : Hid (rowL rs row ≠ []) := hne
  obtain ⟨n, hnn⟩ : ∃ n, n = rs.length := ⟨_, rfl⟩
  rw [← hnn] at hn ⊢
  have HN : Hid (n = rs.length) := hnn
  clear hnn hR hok hne
  go_enter Try.func18, Try.ntmps18
  go_wp2
  go_loopw [5, 14] (fun v vi wr => ∃ (k : Nat), k ≤ n ∧ vi = .int .i64 k ∧ Hid (wr.ownsRow w.heap.size 44 2 v (rowL (rs.take k) row).length (cellsS (rowL (rs.take k) row))) ∧ Hid (Below w.heap.size w wr)) (fun _ vi _ => n - (intOf vi).toNat)
  case atStart => exact ⟨0, Nat.zero_le _, rfl, World.ownsRow_nil _ _ _ _, Below.refl _ _⟩
  case round =>
    obtain ⟨k, hk, rfl, HO, HB⟩ := hrel
    by_cases hlt : k < n
    · obtain ⟨r, hr⟩ : ∃ r, r = rs[k]! := ⟨_, rfl⟩
      have HE : Hid (r = rs[k]!) := hr
      have hW := HR.out.fresh HB.out HR.out.lt
      have hc0 := hW.c0 k (HN.out ▸ hlt)
      have hc1 := hW.c1 k (HN.out ▸ hlt)
      have hc2 := hW.c2 k (HN.out ▸ hlt)
      have hc3 := hW.c3 k (HN.out ▸ hlt)
      rw [← hr] at hc0 hc1 hc2 hc3
      clear hr hW
      go_wp2_with (first
        | (at_builtin; refine wpList_append_own _ rfl _ _ 37 rfl w.heap.size 44 i0 (.agg #[n64 0, n64 0]) 2 16 Try.underlying37 hi hz0 hz1 hz2 rfl (by decide) _ _ _ rfl ((HO.out.alloc _).alloc _) ⟨wr.heap.size + 1, 0, none⟩ 1 1 (enS ⟨r.c0, r.c1⟩) rfl rfl ?c1 ?c2 ?c3 ?c4 ?c5 ?_)
        | fail)
      case c1 => have := laid_get (wr.alloc (.cells #[n64 r.r0, n64 r.c0, n64 r.r1, n64 r.c1] 27)) (enS ⟨r.c0, r.c1⟩) 44; simpa [enS] using this
      case c2 => exact enS_one _
      case c3 => have := rowL_len rs row k; unfold maxLen; omega
      case c4 => have := rowL_len rs row k; omega
      case c5 => exact size_laid _ _ (size_laid _ _ HB.out.size)
      · intro v' w3 ho hg _
        have h1 : r.r0 ≤ row := by assumption
        have h2 : row < r.r1 := by assumption
        have E := rowL_take rs row k (HN.out ▸ hlt)
        rw [← HE.out, if_pos (by simp [onRow, h1, h2])] at E
        have HO3 : Hid (w3.ownsRow w.heap.size 44 2 v' (rowL (rs.take (k + 1)) row).length (cellsS (rowL (rs.take (k + 1)) row))) := by
          rw [E, cellsS_snoc, List.length_append]; exact ho
        have HB3 : Hid (Below w.heap.size w w3) := below_append ((HB.out.alloc HB.out.size _).alloc (size_laid _ _ HB.out.size) _) (size_laid _ _ (size_laid _ _ HB.out.size)) ((HO.out.alloc _).alloc _) hg
        clear ho hg HO HB E
        go_wp2
        go_roundw
        case rel => exact ⟨k + 1, by omega, by go_num, HO3, HB3⟩
        case measure => simp [intOf]; omega
      · have h2 : r.r1 ≤ row := by assumption
        have E := rowL_take rs row k (HN.out ▸ hlt)
        rw [← HE.out, if_neg (by simp [onRow]; omega)] at E
        go_roundw
        case rel => exact ⟨k + 1, by omega, by go_num, by rw [E]; exact HO.out.alloc _, HB.out.alloc HB.out.size _⟩
        case measure => simp [intOf]; omega
      · have h1 : ¬ r.r0 ≤ row := by assumption
        have E := rowL_take rs row k (HN.out ▸ hlt)
        rw [← HE.out, if_neg (by simp [onRow]; omega)] at E
        go_roundw
        case rel => exact ⟨k + 1, by omega, by go_num, by rw [E]; exact HO.out.alloc _, HB.out.alloc HB.out.size _⟩
        case measure => simp [intOf]; omega
    · have e : rs.take k = rs := List.take_of_length_le (by have := HN.out; omega)
      rw [e] at HO
      obtain ⟨l0, hl0⟩ : ∃ l0, l0 = rowL rs row := ⟨_, rfl⟩
      have HL0 : Hid (l0 = rowL rs row) := hl0
      have hlen : l0.length ≤ n := by have := rowL_len rs row k; rw [e] at this; rw [hl0]; omega
      rw [← hl0] at HO
      clear hl0 e
      have HV : Hid (u5 ≠ .slice none 0 0) := fun h => by
        have := HO.out
        rw [h] at this
        rcases this.2 with ⟨_, h2⟩ | ⟨g, cap, cur, h1, _⟩
        · exact HNE.out (by rw [← HL0.out]; exact List.length_eq_zero_iff.1 h2)
        · simp at h1
      have HS : Hid (∀ s ∈ l0, 0 ≤ s.lo ∧ s.lo ≤ 4398046511104) := fun s hs => by
        rw [HL0.out] at hs
        obtain ⟨r, hr, -, -, rfl⟩ := mem_rowL.1 hs
        have := HK.out r hr
        exact ⟨this.b, by have h1 := this.d; have h2 := this.f; show r.c0 ≤ 4398046511104; omega⟩
      go_wp2_with (first
        | (go_at_call 26; refine (sortF_own HS.out HO.out HV.out (by omega) HB.out.size).mono ?_; rintro e w2 ⟨rfl, g, capl, d, rfl, hg, hnc, hp, hs, hrow, hb⟩)
        | fail)
      have HB2 : Hid (Below w.heap.size w w2) := HB.out.trans hb
      have HP : Hid (d.Perm l0) := hp
      have HSo : Hid (d.Pairwise (fun a b => a.lo ≤ b.lo)) := hs
      have HW : Hid (RowS w2 g 0 d) := hrow
      have hm : d.length = l0.length := hp.length_eq
      rw [← hm] at hlen hnc ⊢
      clear HO HV hb hp hs hrow
      obtain ⟨m, hmm⟩ : ∃ m, m = d.length := ⟨_, rfl⟩
      have HM : Hid (m = d.length) := hmm
      rw [← hmm] at hlen hnc ⊢
      clear hm hmm HB hlt hk
      go_loopw [8, 41] (fun v vi wr => ∃ (k : Nat), k ≤ m ∧ vi = .int .i64 k ∧ Hid (wr.ownsRow w2.heap.size 44 2 v (mergeL (d.take k)).length (cellsS (mergeL (d.take k)))) ∧ Hid (Below w2.heap.size w2 wr)) (fun _ vi _ => m - (intOf vi).toNat)
      case atStart => exact ⟨0, Nat.zero_le _, rfl, World.ownsRow_nil _ _ _ _, Below.refl _ _⟩
      case round =>
        obtain ⟨k, hk, rfl, HO, HB⟩ := hrel
        by_cases hlt : k < m
        · obtain ⟨s, hs⟩ : ∃ s, s = d[k]! := ⟨_, rfl⟩
          have HE : Hid (s = d[k]!) := hs
          have hW := HW.out.fresh HB.out HW.out.lt
          have hc0 := hW.c0 k (HM.out ▸ hlt)
          have hc1 := hW.c1 k (HM.out ▸ hlt)
          rw [← hs] at hc0 hc1
          rw [Nat.zero_add] at hc0 hc1
          clear hs hW
          have hML := mergeL_len d k
          have E := mergeL_take d k (HM.out ▸ hlt)
          rw [← HE.out] at E
          obtain ⟨out, hout⟩ : ∃ out, out = mergeL (d.take k) := ⟨_, rfl⟩
          rw [← hout] at HO hML E
          have HOut : Hid (out = mergeL (d.take k)) := hout
          have HEq : Hid (mergeL (d.take (k + 1)) = mstep out s) := E
          clear hout E
          rcases hlast : out.getLast? with _ | p
          · have hout0 : out = [] := List.getLast?_eq_none_iff.1 hlast
            obtain ⟨p0, c0, hv8⟩ : ∃ p0 c0, u8 = .slice p0 0 c0 := by
              rcases HO.out.2 with ⟨h1, _⟩ | ⟨g2, c2, cur, h1, _⟩
              · exact ⟨_, _, h1⟩
              · rw [hout0] at h1; exact ⟨_, _, h1⟩
            have HM' : Hid (mstep out s = [s]) := mstep_none s hlast
            subst hv8
            have HO0 : Hid (wr.ownsRow w2.heap.size 44 2 (.slice p0 0 c0) 0 []) := by have := HO.out; rw [hout0] at this; exact this
            clear HO hlast hout0 hML
            go_wp2_with fail
            go_region
            go_wp2_with (first
              | (at_builtin; refine wpList_append_own _ rfl _ _ 37 rfl w2.heap.size 44 i0 (.agg #[n64 0, n64 0]) 2 16 Try.underlying37 hi hz0 hz1 hz2 rfl (by decide) _ _ _ rfl (owns_fresh HO0.out (by repeat (first | exact Below.refl _ _ | apply Below.drew | refine Below.alloc ?_ (by simp) _))) ⟨wr.heap.size + 1, 0, none⟩ 1 1 (enS s) rfl rfl ?c1 ?c2 ?c3 ?c4 ?c5 ?_)
              | fail)
            case c1 =>
              have := laid_get (wr.alloc (.cells #[n64 s.lo, n64 s.hi] 44)) (enS s) 44
              rw [show (wr.alloc (.cells #[n64 s.lo, n64 s.hi] 44)).heap.size = wr.heap.size + 1 by simp] at this
              exact this
            case c2 => exact enS_one _
            case c3 => decide
            case c4 => decide
            case c5 => have := HB.out.size; simp; omega
            · intro v' w3 ho hg _
              have HF : Hid (w3.ownsRow w2.heap.size 44 2 v' (mergeL (d.take (k + 1))).length (cellsS (mergeL (d.take (k + 1))))) := by
                have := ho
                rw [HEq.out, HM'.out]; exact this
              have HG : Hid (Below w2.heap.size w2 w3) := below_append (HB.out.trans (by repeat (first | exact Below.refl _ _ | apply Below.drew | refine Below.alloc ?_ (by have := HB.out.size; first | (simp; done) | (simp; omega)) _))) (by have := HB.out.size; simp; omega) (owns_fresh HO0.out (by repeat (first | exact Below.refl _ _ | apply Below.drew | refine Below.alloc ?_ (by simp) _))) hg
              clear ho hg HO0
              go_wp2_with fail
              go_roundw
              case rel => exact ⟨k + 1, by omega, by go_num, HF, HG⟩
              case measure => simp [intOf]; omega
          · obtain ⟨q, hlq⟩ : ∃ q, out.length = q + 1 := ⟨out.length - 1, by
              have : out ≠ [] := fun h => by rw [h] at hlast; simp at hlast
              have := List.length_pos_iff.2 this; omega⟩
            have hoo := snoc_of_getLast? hlast
            have hdl : out.dropLast.length = q := by simp; omega
            have HL : Hid (out.getLast? = some p) := hlast
            have HQ : Hid (out.length = q + 1) := hlq
            obtain ⟨g2, c2, hv8⟩ : ∃ g2 c2, u8 = .slice (some ⟨g2, 0, none⟩) (q + 1) c2 := by
              rcases HO.out.2 with ⟨_, h2⟩ | ⟨g2, c2, cur, h1, _⟩
              · omega
              · exact ⟨g2, c2, by rw [h1, hlq]⟩
            have hpc : wr.cell? ⟨g2, q * 2 + 1, none⟩ = some (n64 p.hi) := by
              have := HO.out
              rw [hv8, hlq] at this
              rw [this.cellAt (q * 2 + 1) (by omega), cellsS_get out q 1 (by omega) (by decide)]
              have e : out[q]! = p := by rw [hoo, List.getElem!_eq_getElem?_getD, List.getElem?_append_right (by omega), hdl]; simp
              rw [e]; rfl
            have hpf : wr.frozen? ⟨g2, q * 2 + 1, none⟩ = false := by
              have := HO.out
              rw [hv8, hlq] at this
              exact this.frozenAt _
            have hgl : g2 < wr.heap.size := (HO.out.lt g2 (by rw [hv8]; rfl)).2
            subst hv8
            rw [hlq] at hML HO
            clear hlast hoo hdl hlq
            go_wp2_with fail
            go_region
            go_wp2_with (first
              | (at_builtin; refine wpList_append_own _ rfl _ _ 37 rfl w2.heap.size 44 i0 (.agg #[n64 0, n64 0]) 2 16 Try.underlying37 hi hz0 hz1 hz2 rfl (by decide) _ _ _ rfl (owns_fresh HO.out (by repeat (first | exact Below.refl _ _ | apply Below.drew | refine Below.alloc ?_ (by simp) _))) ⟨wr.heap.size + 1, 0, none⟩ 1 1 (enS s) rfl rfl ?c1 ?c2 ?c3 ?c4 ?c5 ?_)
              | fail)
            case c1 =>
              have := laid_get (wr.alloc (.cells #[n64 s.lo, n64 s.hi] 44)) (enS s) 44
              rw [show (wr.alloc (.cells #[n64 s.lo, n64 s.hi] 44)).heap.size = wr.heap.size + 1 by simp] at this
              exact this
            case c2 => exact enS_one _
            case c3 => unfold maxLen; omega
            case c4 => omega
            case c5 => have := HB.out.size; simp; omega
            · have hle : s.lo ≤ p.hi := by assumption
              have HF : Hid (((wr.setCell ⟨g2, q * 2 + 1, none⟩ (n64 (max p.hi s.hi))).ownsRow w2.heap.size 44 2 (.slice (some ⟨g2, 0, none⟩) (q + 1) c2) (mergeL (d.take (k + 1))).length (cellsS (mergeL (d.take (k + 1)))))) := by
                have h1 := mstep_put HL.out HQ.out hle
                rw [HEq.out, h1.1, ← h1.2]
                exact (HO.out.stored (q * 2 + 1) _).1
              have HG : Hid (Below w2.heap.size w2 (wr.setCell ⟨g2, q * 2 + 1, none⟩ (n64 (max p.hi s.hi)))) := HB.out.setCell ((HO.out.lt g2 rfl).1) _
              go_region
              go_wp2_with fail
              go_roundw
              case rel => exact ⟨k + 1, by omega, by go_num, owns_fresh HF.out (by repeat (first | exact Below.refl _ _ | apply Below.drew | refine Below.alloc ?_ (by simp) _)), HG.out.trans (by have hsz := HB.out.size; repeat (first | exact Below.refl _ _ | apply Below.drew | refine Below.alloc ?_ (by first | (simp; done) | (simp; omega) | (simp [World.setCell]; omega)) _))⟩
              case measure => simp [intOf]; omega
            · intro v' w3 ho hg _
              have hlt2 : p.hi < s.lo := by assumption
              have HF : Hid (w3.ownsRow w2.heap.size 44 2 v' (mergeL (d.take (k + 1))).length (cellsS (mergeL (d.take (k + 1))))) := by
                rw [HEq.out, mstep_app HL.out hlt2, cellsS_snoc, List.length_append, HQ.out]; exact ho
              have HG : Hid (Below w2.heap.size w2 w3) := below_append (HB.out.trans (by repeat (first | exact Below.refl _ _ | apply Below.drew | refine Below.alloc ?_ (by have := HB.out.size; first | (simp; done) | (simp; omega)) _))) (by have := HB.out.size; simp; omega) (owns_fresh HO.out (by repeat (first | exact Below.refl _ _ | apply Below.drew | refine Below.alloc ?_ (by simp) _))) hg
              clear ho hg
              go_wp2_with fail
              go_roundw
              case rel => exact ⟨k + 1, by omega, by go_num, HF, HG⟩
              case measure => simp [intOf]; omega
        · have e : d.take k = d := List.take_of_length_le (by have := HM.out; omega)
          have hf : mergeL d = spansF rs row := spansF_of_sorted HK.out (by rw [← HL0.out]; exact HP.out) HSo.out
          rw [e, hf] at HO
          go_wp2_with fail
          go_ret
          exact ⟨_, rfl, owns_base HO.out HB2.out.size, HB2.out.trans (HB.out.mono HB2.out.size)⟩
end Go.Proofs.Ytjngjfgbholgpaa

namespace Go.Proofs.Ytjngjfgbholgpaa
open Go Go.RowKit Go.Proofs Go.Reg Go.Lib Go.Shelf

theorem sortF_none (p : Option Addr) (cap : Nat) (fv : Value) (w : World) : Calls Try.prog 26 #[.slice p 0 cap, fv] w fun e w' => e = .returned (.tuple #[]) ∧ w' = w := by
  have h := AnyF.slices_SortFunc_none Try.laysSlF06_f26 p cap fv w
  change Calls Try.prog 26 _ _ _ at h
  exact h

theorem offRow {rs : List Rc} {row : Int} (h : rowL rs row = []) {k : Nat} (hk : k < rs.length) : ¬ (rs[k]!.r0 ≤ row ∧ row < rs[k]!.r1) := fun ⟨h1, h2⟩ => by
  have : (⟨rs[k]!.c0, rs[k]!.c1⟩ : Sp) ∈ rowL rs row := mem_rowL.2 ⟨rs[k]!, by rw [getElem!_pos rs k hk]; exact List.getElem_mem hk, h1, h2, rfl⟩
  rw [h] at this
  cases this

set_option maxRecDepth 100000 in
set_option maxHeartbeats 4000000 in
theorem spans_off (blk off cap : Nat) (rs : List Rc) (row : Int) (w : World) (hR : RowR w blk off rs) (hn : rs.length ≤ 256) (hne : rowL rs row = []) :
    Calls Try.prog 18 #[.slice (some ⟨blk, off, none⟩) rs.length cap, .int .i64 row] w fun e w' => e = .returned (.slice none 0 0) ∧ Below w.heap.size w w' := by
  have HR : Hid (RowR w blk off rs) := hR
  have HNE : Hid (rowL rs row = []) := hne
  obtain ⟨n, hnn⟩ : ∃ n, n = rs.length := ⟨_, rfl⟩
  rw [← hnn] at hn ⊢
  have HN : Hid (n = rs.length) := hnn
  clear hnn hR hne
  go_enter Try.func18, Try.ntmps18
  go_wp2
  go_loopw [5, 14] (fun v vi wr => ∃ (k : Nat), k ≤ n ∧ vi = .int .i64 k ∧ v = .slice none 0 0 ∧ Hid (Below w.heap.size w wr)) (fun _ vi _ => n - (intOf vi).toNat)
  case atStart => exact ⟨0, Nat.zero_le _, rfl, rfl, Below.refl _ _⟩
  case round =>
    obtain ⟨k, hk, rfl, rfl, HB⟩ := hrel
    by_cases hlt : k < n
    · obtain ⟨r, hr⟩ : ∃ r, r = rs[k]! := ⟨_, rfl⟩
      have HE : Hid (r = rs[k]!) := hr
      have hW := HR.out.fresh HB.out HR.out.lt
      have hc0 := hW.c0 k (HN.out ▸ hlt)
      have hc1 := hW.c1 k (HN.out ▸ hlt)
      have hc2 := hW.c2 k (HN.out ▸ hlt)
      have hc3 := hW.c3 k (HN.out ▸ hlt)
      have hoff := offRow HNE.out (HN.out ▸ hlt)
      rw [← hr] at hc0 hc1 hc2 hc3 hoff
      clear hr hW
      by_cases h1 : r.r0 ≤ row
      · have h2 : ¬ row < r.r1 := fun h => hoff ⟨h1, h⟩
        clear hoff
        go_wp2_with fail
        go_roundw
        case rel => exact ⟨k + 1, by omega, by go_num, rfl, HB.out.alloc HB.out.size _⟩
        case measure => simp [intOf]; omega
      · clear hoff
        go_wp2_with fail
        go_roundw
        case rel => exact ⟨k + 1, by omega, by go_num, rfl, HB.out.alloc HB.out.size _⟩
        case measure => simp [intOf]; omega
    · go_wp2_with (first
        | (go_at_call 26; refine (sortF_none _ _ _ _).mono ?_; rintro e w2 ⟨rfl, rfl⟩)
        | fail)
      go_loopw [8, 41] (fun v vi wr2 => v = .slice none 0 0 ∧ vi = .int .i64 0 ∧ wr2 = w2) (fun _ _ _ => 0)
      case atStart => exact ⟨rfl, rfl, rfl⟩
      case round =>
        obtain ⟨rfl, rfl, rfl⟩ := hrel
        go_wp2_with fail
        go_ret
        exact ⟨rfl, HB.out⟩
end Go.Proofs.Ytjngjfgbholgpaa

namespace Go.Proofs.Ytjngjfgbholgpaa
open Go Go.RowKit Go.Proofs Go.Reg Go.Lib

theorem eq_len (p1 p2 : Option Addr) (n c1 m c2 : Nat) (w : World) (hne : n ≠ m) : Calls Try.prog 23 #[.slice p1 n c1, .slice p2 m c2] w fun e w' => e = .returned (.bool false) ∧ w' = w := by
  have h1 : ((n : Int) == (m : Int)) = false := by simp; omega
  have h2 : ¬ (n : Int) = (m : Int) := by omega
  go_enter Try.func23, Try.ntmps23
  go_wp2
  all_goals go_ret
  exact ⟨rfl, rfl⟩

set_option maxRecDepth 100000 in
set_option maxHeartbeats 2000000 in
theorem eq_row (b1 o1 c1 b2 o2 c2 : Nat) (x y : List Sp) (w : World) (hx : RowS w b1 o1 x) (hy : RowS w b2 o2 y) (hl : x.length = y.length) (hn : x.length ≤ 100000) :
    Calls Try.prog 23 #[.slice (some ⟨b1, o1, none⟩) x.length c1, .slice (some ⟨b2, o2, none⟩) y.length c2] w fun e w' => e = .returned (.bool (decide (x = y))) ∧ ∃ q, w' = w.drewN q := by
  obtain ⟨n, hnn⟩ : ∃ n, n = x.length := ⟨_, rfl⟩
  rw [← hl, ← hnn]
  rw [← hnn] at hn
  have HN : Hid (n = x.length) := hnn
  have HL : Hid (n = y.length) := hnn.trans hl
  have HX : Hid (RowS w b1 o1 x) := hx
  have HY : Hid (RowS w b2 o2 y) := hy
  clear hl hnn hx hy
  go_enter Try.func23, Try.ntmps23
  go_wp2
  go_loopw [13] (fun vi wr => ∃ (k : Nat), k ≤ n ∧ vi = .int .i64 k ∧ Hid (∀ i, i < k → x[i]! = y[i]!) ∧ ∃ q, wr = w.drewN q) (fun vi _ => n - (intOf vi).toNat)
  case atStart => exact ⟨0, Nat.zero_le _, rfl, fun i h => absurd h (Nat.not_lt_zero _), 0, rfl⟩
  case round =>
    obtain ⟨k, hk, rfl, HE, q, rfl⟩ := hrel
    by_cases hlt : k < n
    · obtain ⟨a, ha⟩ : ∃ a, a = x[k]! := ⟨_, rfl⟩
      obtain ⟨b, hb⟩ : ∃ b, b = y[k]! := ⟨_, rfl⟩
      have HA : Hid (a = x[k]!) := ha
      have HB : Hid (b = y[k]!) := hb
      have h0 := HX.out.c0 k (HN.out ▸ hlt)
      have h1 := HX.out.c1 k (HN.out ▸ hlt)
      have h2 := HY.out.c0 k (HL.out ▸ hlt)
      have h3 := HY.out.c1 k (HL.out ▸ hlt)
      rw [← ha] at h0 h1
      rw [← hb] at h2 h3
      clear ha hb
      by_cases e0 : a.lo = b.lo
      · by_cases e1 : a.hi = b.hi
        · have hab : Hid (x[k]! = y[k]!) := by
            have e : a = b := by cases a; cases b; simp at e0 e1; simp [e0, e1]
            exact HA.out.symm.trans (e.trans HB.out)
          go_wp2_with fail
          go_region
          go_wp2_with fail
          go_roundw
          case rel => exact ⟨k + 1, by omega, by go_num, fun i hi => by
            rcases Nat.lt_or_ge i k with h | h
            · exact HE.out i h
            · have : i = k := by omega
              subst this; exact hab.out, q + 1, rfl⟩
          case measure => simp [intOf]; omega
        · have hab : Hid (x[k]! ≠ y[k]!) := by
            rw [← HA.out, ← HB.out]; exact fun h => e1 (by rw [h])
          go_wp2_with fail
          go_region
          go_wp2_with fail
          go_ret
          rw [decide_eq_false (fun h : x = y => hab.out (congrArg (fun l : List Sp => l[k]!) h))]
          exact ⟨rfl, q + 1, rfl⟩
      · have hab : Hid (x[k]! ≠ y[k]!) := by
          rw [← HA.out, ← HB.out]; exact fun h => e0 (by rw [h])
        go_wp2_with fail
        go_region
        go_wp2_with fail
        go_ret
        rw [decide_eq_false (fun h : x = y => hab.out (congrArg (fun l : List Sp => l[k]!) h))]
        exact ⟨rfl, q + 1, rfl⟩
    · go_wp2_with fail
      go_ret
      refine ⟨?_, q, rfl⟩
      congr 2
      have e : x = y := by
        apply List.ext_getElem (by rw [← HN.out, ← HL.out])
        intro i h1 h2
        have := HE.out i (by rw [← HN.out] at h1; omega)
        rwa [getElem!_pos x i h1, getElem!_pos y i h2] at this
      simp [e]
end Go.Proofs.Ytjngjfgbholgpaa

namespace Go.Proofs.Ytjngjfgbholgpaa
open Go Go.RowKit Go.Proofs Go.Reg Go.Lib

/-- An append onto a call's own slice, as one step of a region that draws its order. -/
theorem step_append_mine {P : Program} {ops : Array Oper} {o : Oper} {a : Act} {w : World} {K : Act → World → Prop} {Q : Exit → Act → World → Prop} {E : Prop}
    (hg : o.guard = none) (s x : Operand) (t : TypeId) (hop : o.op = Op.call { callee := Callee.builtin Builtin.append, args := #[s, x], argTypes := #[t, t] })
    (base : Nat) (e : TypeId) (i : TypeInfo) (z : Value) (size bytes : Nat) (h1 : P.underlying t = some (.slice e)) (h2 : P.info? e = some i) (h3 : i.zero = some z) (h4 : i.size = size) (h5 : i.bytes = bytes) (h6 : z.cells.size = size) (h7 : 0 < size)
    (v : Value) (n : Nat) (xs : List Value) (hs : a.eval s = v) (hown : w.ownsRow base e size v n xs)
    (ad : Addr) (m c : Nat) (news : List Value) (hx : a.eval x = .slice (some ad) m c) (hn : news.length = m * size) (hc : ∀ j u, news[j]? = some u → w.cell? (ad.add j) = some u) (h1c : ∀ u ∈ news, u.oneCell' = true)
    (b1 : n + m ≤ maxLen) (b2 : (n + m) * bytes ≤ 140737488355328) (hbase : base ≤ w.heap.size)
    (hK : ∀ v' w', w'.ownsRow base e size v' (n + m) (xs ++ news) → w.grownBy w' v.ownBlock → K (a.put o.dst v') w') :
    if Region.wanted o (yielded ops a.tmps) = true then Oper.wp P o a w K Q else E := by
  have hw : Region.wanted o (yielded ops a.tmps) = true := by simp [Region.wanted, hg]
  rw [if_pos hw]
  obtain ⟨v', w', hrun, r1, r2, _⟩ := run_append_own (P := P) w base t o.type e i z size bytes h1 h2 h3 h4 h5 h6 h7 v n xs hown ad m c news hn hc h1c b1 b2 hbase
  unfold Oper.wp
  simp [execOp, hop, resolve, invoke, builtin, hs, hx, hrun, Result.andThen]
  exact hK v' w' r1 r2

theorem cellsR_set : ∀ (rs : List Rc) (i : Nat) (b : Int), i < rs.length → (cellsR rs).set (i * 4 + 2) (n64 b) = cellsR (rs.set i { rs[i]! with r1 := b })
  | [], _, _, h => absurd h (Nat.not_lt_zero _)
  | r :: rs, 0, b, _ => by simp [cellsR, enR]
  | r :: rs, i + 1, b, h => by
    have ih := cellsR_set rs i b (by simpa using h)
    have e : (cellsR (r :: rs)) = enR r ++ cellsR rs := by simp [cellsR]
    rw [e, List.set_append_right _ _ (by simp [enR]; omega), show (i + 1) * 4 + 2 - (enR r).length = i * 4 + 2 by simp [enR]; omega, ih]
    simp [cellsR]

def put1 (out : List Rc) (fr k : Nat) (b : Int) (os : List Rc) : Prop := os.length = out.length ∧ ∀ j, j < out.length → os[j]! = if fr ≤ j ∧ j < k then { out[j]! with r1 := b } else out[j]!
theorem put1_start (out : List Rc) (fr : Nat) (b : Int) : put1 out fr fr b out := ⟨rfl, fun j _ => by rw [if_neg (by omega)]⟩
theorem put1_step {out os : List Rc} {fr k : Nat} {b : Int} (h : put1 out fr k b os) (hk : k < out.length) (hf : fr ≤ k) : put1 out fr (k + 1) b (os.set k { os[k]! with r1 := b }) := by
  refine ⟨by simp [h.1], fun j hj => ?_⟩
  have hkk := h.2 k hk
  rw [if_neg (by omega)] at hkk
  have hj' : j < os.length := by rw [h.1]; exact hj
  by_cases e : j = k
  · subst e
    rw [if_pos (by omega), getElem!_pos _ j (by simpa using hj'), List.getElem_set_self, hkk]
  · have h2 := h.2 j hj
    rw [getElem!_pos _ j (by simpa using hj'), List.getElem_set_ne (fun h => e h.symm), ← getElem!_pos os j hj', h2]
    by_cases c : fr ≤ j ∧ j < k
    · rw [if_pos c, if_pos (by omega)]
    · rw [if_neg c, if_neg (by omega)]
theorem put1_end {out os : List Rc} {fr k : Nat} {b : Int} (h : put1 out fr k b os) (hk : out.length ≤ k) : os = out.take fr ++ (out.drop fr).map (fun r => { r with r1 := b }) := by
  apply List.ext_getElem
  · rw [h.1]; simp; omega
  · intro j h1 h2
    have hj : j < out.length := by rw [← h.1]; exact h1
    have := h.2 j hj
    rw [getElem!_pos os j h1, getElem!_pos out j hj] at this
    rw [this]
    by_cases c : fr ≤ j
    · rw [if_pos ⟨c, by omega⟩, List.getElem_append_right (by simp; omega)]
      simp [show min fr out.length = fr by omega, show fr + (j - fr) = j by omega]
    · rw [if_neg (by omega), List.getElem_append_left (by simp; omega)]
      simp
end Go.Proofs.Ytjngjfgbholgpaa

