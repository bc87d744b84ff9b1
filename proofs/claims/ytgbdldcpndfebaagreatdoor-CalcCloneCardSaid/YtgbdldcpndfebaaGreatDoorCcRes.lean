/- CalcClone, the walks: a struct handed back through a cell, behind stores into other blocks. -/
import Derived.Test.YtgbdldcpndfebaaGreatDoorCcFix
import Derived.Lib.SmallJoins
import Derived.WalkSmall
import Derived.Handy
set_option linter.unusedSimpArgs false
set_option linter.unusedVariables false
namespace Go.Proofs.YtgbdldcpndfebaaGreatDoor
open Go Go.RowKit Go.Proofs Go.Cc
theorem drewN_at (w : World) (n k : Nat) : (w.drewN n).heap[k]? = w.heap[k]? := rfl
theorem alloc_at (w : World) (o : Obj) (k : Nat) (h : k = w.heap.size) : (w.alloc o).heap[k]? = some o := by subst h; exact heap_alloc_last w o
theorem alloc_old (w : World) (o : Obj) (k : Nat) (h : k < w.heap.size) : (w.alloc o).heap[k]? = w.heap[k]? := Below.heap_alloc _ _ _ h
theorem set_other (w : World) (b o : Nat) (u : Value) (k : Nat) (h : k ≠ b) : (w.setCell ⟨b, o, none⟩ u).heap[k]? = w.heap[k]? := Below.heap_setCell _ _ _ _ h
theorem set_same {w : World} {g i : Nat} {cs : Array Value} {t : TypeId} {fr : Nat × Nat} (v : Value) (h : w.heap[g]? = some (.cells cs t fr)) : (w.setCell ⟨g, i, none⟩ v).heap[g]? = some (.cells (cs.setIfInBounds i v) t fr) := Go.Joins.block_setCell h v
theorem set_is {w : World} {g i : Nat} (cs : Array Value) {cs' : Array Value} {v : Value} {t : TypeId} {fr : Nat × Nat} (he : cs.setIfInBounds i v = cs') (h : w.heap[g]? = some (.cells cs t fr)) : (w.setCell ⟨g, i, none⟩ v).heap[g]? = some (.cells cs' t fr) := by subst he; exact set_same v h
theorem res_cell {fn : Func} {p : Tmp} {tmps : Array Value} {w : World} {g : Nat} {cs : Array Value} {v : Value} (h : fn.results = #[.cell p 107]) (hp : tmps.getD p undef = .pointer (some ⟨g, 0, none⟩)) (hg : w.heap[g]? = some (.cells cs 107 (0, 0)))
    (hv : Value.agg cs = v) (hs : 6 = cs.size) : (results fn tmps).run Tryz.prog w = .ok v w := by
  subst hv
  exact results_cell_row (P := Tryz.prog) h _ _ g 107 _ (0, 0) _ hp hg Tryz.underlying107 rfl (by rw [← hs]; kernel_rfl)
theorem bl_set {B : Nat} {a w : World} {b : Nat} (o : Nat) (u : Value) (h : B ≤ b) (hb : Below B a w) : Below B a (w.setCell ⟨b, o, none⟩ u) := hb.setCell h u
theorem bl_drew {B : Nat} {a w : World} (n : Nat) (hb : Below B a w) : Below B a (w.drewN n) := below_drewN hb n
theorem bl_new {B : Nat} {a w : World} (o : Obj) (h : B ≤ w.heap.size) (hb : Below B a w) : Below B a (w.alloc o) := hb.alloc h o
end Go.Proofs.YtgbdldcpndfebaaGreatDoor
