/- WalFolds: a walk over a map of which the entries are known, whatever its keys are. -/
import Derived.Test.YtgklcjeigoihpaaGreatDoorWfSum
import Derived.Maps.RangeWalk
import Derived.Maps.RangeRun
import Derived.WalkSmall
set_option linter.unusedSimpArgs false
set_option linter.unusedVariables false
namespace Go.Proofs.YtgklcjeigoihpaaGreatDoor
open Go Go.RowKit Go.Proofs Go.ChangeMaps

/-- The iterator r over map bm: what it has handed out. -/
structure It (w : World) (r bm clock : Nat) (L : List MapEntry) (seen : Array Nat) : Prop where
  it : ∃ c0, w.heap[r]? = some (.mapIter (some bm) clock seen c0) ∧ clock ≤ c0
  mp : w.heap[bm]? = some (.map L.toArray clock)
  old : ∀ x ∈ L, x.born < clock
  nd : (L.map (·.born)).Nodup
  ne : r ≠ bm

/-- What is left. -/
def left (L : List MapEntry) (seen : Array Nat) : List MapEntry := L.filter fun e => !seen.contains e.born

theorem left_of (L : List MapEntry) (seen : Array Nat) : (leftOf L.toArray seen).toList = left L seen := by
  unfold leftOf left
  simp
theorem left_start (L : List MapEntry) : left L #[] = L := by unfold left; simp
theorem left_push (L : List MapEntry) (seen : Array Nat) (b : Nat) : left L (seen.push b) = (left L seen).filter fun e => !(e.born == b) := by
  unfold left
  rw [List.filter_filter]
  congr 1
  funext e
  by_cases h : e.born = b <;> by_cases h2 : e.born ∈ seen <;> simp [h, h2] <;> simp_all
theorem left_lt {L : List MapEntry} {seen : Array Nat} {e : MapEntry} (h : e ∈ left L seen) : (left L (seen.push e.born)).length < (left L seen).length := by
  rw [left_push]
  have h1 := List.length_filter_le (fun x : MapEntry => !(x.born == e.born)) (left L seen)
  rcases Nat.lt_or_ge ((left L seen).filter fun x => !(x.born == e.born)).length (left L seen).length with h2 | h2
  · exact h2
  · have h3 : ((left L seen).filter fun x => !(x.born == e.born)) = left L seen := (List.filter_sublist ..).eq_of_length (Nat.le_antisymm h1 h2)
    have h4 := List.filter_eq_self.1 h3 e h
    simp at h4
theorem left_mem {L : List MapEntry} {seen : Array Nat} {e : MapEntry} (h : e ∈ left L seen) : e ∈ L := (List.mem_filter.1 h).1

theorem below_set {w w1 : World} {r : Nat} {o : Obj} {B : Nat} (h1 : w1 = w ∨ w1 = w.drew) (hB : B ≤ r) : Below B w (setBlock w1 r o) := by
  rcases h1 with rfl | rfl
  · exact ⟨rfl, rfl, rfl, by simp [setBlock], fun b hb => by simp [setBlock, Array.getElem?_setIfInBounds]; omega⟩
  · exact ⟨rfl, rfl, rfl, (by show w.heap.size ≤ (w.heap.setIfInBounds r o).size; simp), fun b hb => (by show (w.heap.setIfInBounds r o)[b]? = w.heap[b]?; rw [Array.getElem?_setIfInBounds, if_neg (by omega)])⟩

/-- What an iterator has handed out. -/
def seenOf (w : World) (r : Nat) : Array Nat := match w.heap[r]? with | some (.mapIter _ _ seen _) => seen | _ => #[]
theorem It.seen {w : World} {r bm clock : Nat} {L : List MapEntry} {seen : Array Nat} (h : It w r bm clock L seen) : seenOf w r = seen := by
  obtain ⟨c0, h1, _⟩ := h.it
  unfold seenOf
  rw [h1]
theorem It.mv {w w' : World} {r bm clock : Nat} {L : List MapEntry} {seen : Array Nat} (h : It w r bm clock L seen) (hb : Below w.heap.size w w') : It w' r bm clock L seen := by
  obtain ⟨c0, h1, h2⟩ := h.it
  exact ⟨⟨c0, (hb.block _ (Array.getElem?_eq_some_iff.1 h1).1).trans h1, h2⟩, (hb.block _ (Array.getElem?_eq_some_iff.1 h.mp).1).trans h.mp, h.old, h.nd, h.ne⟩
/-- THE STEP. -/
theorem wpList_next_it {ops : Array Oper} {rest : List Oper} {o : Oper} {a : Act} {w : World} {Q : Exit → Act → World → Prop} (hg : o.guard = none) (it : Operand) (hop : o.op = Op.next it false)
    (r bm clock : Nat) (L : List MapEntry) (seen : Array Nat) (hit : a.eval it = .pointer (some ⟨r, 0, none⟩)) (h : It w r bm clock L seen)
    (hDone : left L seen = [] → wpList Tryz.prog ops Q rest (a.put o.dst (.tuple #[.bool false])) w)
    (hMore : ∀ e ∈ left L seen, ∀ w2, It w2 r bm clock L (seen.push e.born) → Below r w w2 → (∀ k, k ≠ r → w2.heap[k]? = w.heap[k]?) → w2.heap.size = w.heap.size → (Instr.entry (.pointer (some ⟨r, 0, none⟩))).run Tryz.prog w2 = .ok (.tuple #[e.key, e.val]) w2 →
      wpList Tryz.prog ops Q rest (a.put o.dst (.tuple #[.bool true, e.key, e.val])) w2) :
    wpList Tryz.prog ops Q (o :: rest) a w := by
  refine wpList_plain hg fun K' hK' => ?_
  unfold Oper.wp
  obtain ⟨c0, hr, hsc⟩ := h.it
  rcases run_next_at (P := Tryz.prog) w o.type r bm clock c0 seen L.toArray clock hr h.mp (by simpa using h.old) hsc with ⟨h0, hrun⟩ | ⟨e, he, w1, hw1, hrun⟩
  · simp [execOp, hop, hit, hrun, Result.andThen]
    refine hK' _ _ (hDone ?_)
    rw [← left_of]
    exact Array.toList_eq_nil_iff.2 (Array.eq_empty_of_size_eq_zero h0)
  · simp [execOp, hop, hit, hrun, Result.andThen]
    rw [left_of] at he
    have hrl : r < w.heap.size := (Array.getElem?_eq_some_iff.1 hr).1
    have hs1 : w1.heap = w.heap := by rcases hw1 with rfl | rfl <;> rfl
    have hIt : It (setBlock w1 r (.mapIter (some bm) clock (seen.push e.born) clock)) r bm clock L (seen.push e.born) := by
      refine ⟨⟨clock, ?_, Nat.le_refl _⟩, ?_, h.old, h.nd, h.ne⟩
      · simp [setBlock, hs1, Array.getElem?_setIfInBounds, hrl]
      · have := h.ne
        simp [setBlock, hs1, Array.getElem?_setIfInBounds, this]
        exact h.mp
    refine hK' _ _ (hMore e he _ hIt (below_set hw1 (Nat.le_refl _)) (fun k hk => by simp only [setBlock, hs1, Array.getElem?_setIfInBounds]; rw [if_neg (by omega)]) (by simp [setBlock, hs1]) ?_)
    obtain ⟨c1, hr1, _⟩ := hIt.it
    refine run_entry_at _ r bm clock seen L.toArray clock e (by rw [hr1]; simp [setBlock, hs1, Array.getElem?_setIfInBounds, hrl] at hr1; rw [hr1]) hIt.mp (by simpa using left_mem he) (by simpa using h.nd)
end Go.Proofs.YtgklcjeigoihpaaGreatDoor
