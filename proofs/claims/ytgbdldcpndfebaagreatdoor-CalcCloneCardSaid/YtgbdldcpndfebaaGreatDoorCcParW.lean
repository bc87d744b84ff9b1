/- CalcClone, the walks: what stands in memory while ref1.Parse reads. -/
import Derived.Test.YtgbdldcpndfebaaGreatDoorCcTimes
import Derived.Test.YtgbdldcpndfebaaGreatDoorCcPlus
import Derived.Test.YtgbdldcpndfebaaGreatDoorCcFix3
import Derived.Deep.RegionHeld3
import Derived.IntWalk
set_option linter.unusedSimpArgs false
set_option linter.unusedVariables false
namespace Go.Proofs.YtgbdldcpndfebaaGreatDoor
open Go Go.RowKit Go.Proofs Go.Cc

/-- What stands in memory while a text is read. -/
structure PW (w : World) (x : Nat) (W : World) : Prop where
  below : Below w.heap.size w W
  blk : W.heap[w.heap.size]? = some (.cells #[nu x, nu 0, nu 0, nu 0, nu 0, nu 0] 107 (0, 0))
section
variable {w W : World} {x : Nat} (h : PW w x W)
include h
theorem PW.lt : w.heap.size < W.heap.size := (Array.getElem?_eq_some_iff.1 h.blk).1
theorem PW.mv {W' : World} (hb : Below W.heap.size W W') : PW w x W' := ⟨h.below.trans (hb.mono (Nat.le_of_lt h.lt)), (hb.block _ h.lt).trans h.blk⟩
theorem PW.dr (n : Nat) : PW w x (W.drewN n) := ⟨bl_drew _ h.below, h.blk⟩
theorem PW.st (o : Nat) (v : Value) (x' : Nat) (he : (#[nu x, nu 0, nu 0, nu 0, nu 0, nu 0] : Array Value).setIfInBounds o v = #[nu x', nu 0, nu 0, nu 0, nu 0, nu 0]) : PW w x' (W.setCell ⟨w.heap.size, o, none⟩ v) :=
  ⟨bl_set _ _ (Nat.le_refl _) h.below, set_is _ he h.blk⟩
theorem PW.put (x' : Nat) : PW w x' ((((((W.setCell ⟨w.heap.size, 0, none⟩ (nu x')).setCell ⟨w.heap.size, 1, none⟩ (nu 0)).setCell ⟨w.heap.size, 2, none⟩ (nu 0)).setCell ⟨w.heap.size, 3, none⟩ (nu 0)).setCell ⟨w.heap.size, 4, none⟩ (nu 0)).setCell ⟨w.heap.size, 5, none⟩ (nu 0)) :=
  (((((h.st 0 _ x' rfl).st 1 _ x' rfl).st 2 _ x' rfl).st 3 _ x' rfl).st 4 _ x' rfl).st 5 _ x' rfl
theorem PW.c (j : Nat) (v : Value) (hv : (#[nu x, nu 0, nu 0, nu 0, nu 0, nu 0] : Array Value)[j]? = some v) : W.cell? ⟨w.heap.size, j, none⟩ = some v := (Go.Joins.cell_of_block h.blk j).trans hv
theorem PW.f (j : Nat) : W.frozen? ⟨w.heap.size, j, none⟩ = false := Go.Joins.unfrozen_of_block h.blk j
theorem PW.all : W.cell? ⟨w.heap.size, 0, none⟩ = some (nu x) ∧ W.cell? ⟨w.heap.size, 1, none⟩ = some (nu 0) ∧ W.cell? ⟨w.heap.size, 2, none⟩ = some (nu 0) ∧ W.cell? ⟨w.heap.size, 3, none⟩ = some (nu 0) ∧ W.cell? ⟨w.heap.size, 4, none⟩ = some (nu 0) ∧ W.cell? ⟨w.heap.size, 5, none⟩ = some (nu 0) :=
  ⟨h.c 0 _ rfl, h.c 1 _ rfl, h.c 2 _ rfl, h.c 3 _ rfl, h.c 4 _ rfl, h.c 5 _ rfl⟩
end
theorem PW.putI {w W : World} {x : Nat} (h : PW w x W) (x' : Nat) (z : Int) (hz : (x' : Int) = z) : PW w x' ((((((W.setCell ⟨w.heap.size, 0, none⟩ (.int .u64 z)).setCell ⟨w.heap.size, 1, none⟩ (.int .u64 0)).setCell ⟨w.heap.size, 2, none⟩ (.int .u64 0)).setCell ⟨w.heap.size, 3, none⟩ (.int .u64 0)).setCell ⟨w.heap.size, 4, none⟩ (.int .u64 0)).setCell ⟨w.heap.size, 5, none⟩ (.int .u64 0)) := by
  subst hz
  exact h.put x'
theorem PW.start (w : World) : PW w 0 (w.alloc (.cells #[nu 0, nu 0, nu 0, nu 0, nu 0, nu 0] 107)) := ⟨(Below.refl _ _).alloc (Nat.le_refl _) _, heap_alloc_last w _⟩

/-- What is read of a text, byte by byte: where the point is, the number that the digits so far are. -/
structure Scan (n : Nat) (B : Nat → Nat) (P : Nat → Int) (V : Nat → Nat) : Prop where
  p0 : P 0 = -1
  v0 : V 0 = 0
  step : ∀ i, i < n → (B i = 46 ∧ P i < 0 ∧ P (i + 1) = i ∧ V (i + 1) = V i) ∨ ∃ d, d ≤ 9 ∧ B i = d + 48 ∧ P (i + 1) = P i ∧ V (i + 1) = 10 * V i + d ∧ V (i + 1) ≤ 2147483648
  le : n ≤ 100

theorem pow_step {y j m : Nat} (h : y * 10 ^ (4 - j) = m) (hj : j < 4) : 10 * y * 10 ^ (4 - (j + 1)) = m ∧ 10 * y ≤ m := by
  have hj' : j = 0 ∨ j = 1 ∨ j = 2 ∨ j = 3 := by omega
  rcases hj' with rfl | rfl | rfl | rfl <;> simp at h ⊢ <;> omega
theorem toList_ne {T : ByteArray} (h : 0 < T.size) : T.toList.isEmpty = false := by
  rw [ByteArray.toList_eq]
  have h2 : T.size = T.data.toList.length := rfl
  cases e : T.data.toList with
  | nil => have h3 : T.size = 0 := h2.trans (by rw [e]; rfl); omega
  | cons _ _ => rfl
end Go.Proofs.YtgbdldcpndfebaaGreatDoor
