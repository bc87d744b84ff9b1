/- WalFolds, the walks: maps.EqualFunc at two maps of cells that are the same. -/
import Derived.Test.YtgklcjeigoihpaaGreatDoorWfMap
import Derived.Maps.OwnSet
import Derived.OwnWalk
import Derived.LoopTactic
set_option linter.unusedSimpArgs false
set_option linter.unusedVariables false
namespace Go.Proofs.YtgklcjeigoihpaaGreatDoor
open Go Go.RowKit Go.Proofs Go.ChangeMaps Go.Maps

theorem run_len_map {t e k : TypeId} (ht : Tryz.prog.underlying t = some (.map k e)) (ty : TypeId) {w : World} {b : Nat} {L : List MapEntry} {clock : Nat} (hb : w.heap[b]? = some (.map L.toArray clock)) :
    (Builtin.len_ #[t] ty #[.map (some b)]).run Tryz.prog w = .ok (.int .i64 (L.length : Int)) w := by
  simp [Builtin.len_, run_underlying ht, MapKept.run_getObj_map hb, goInt]
/-- The cell that the law sets. -/
abbrev cellB : Value := .agg #[.bool false, n64 3, n64 0, .string ⟨#[]⟩, .bool false, n64 0, n64 0, n64 0, .string ⟨#[]⟩, .bool false, n64 0, .slice none 0 0, .slice none 0 0]
abbrev placeV (r c : Int) : Value := .agg #[n64 r, n64 c]

set_option maxRecDepth 100000 in
set_option maxHeartbeats 8000000 in
theorem eqf_w (b1 b2 : Nat) (L L2 : List MapEntry) (clock clock2 : Nat) (w : World) (h1 : w.heap[b1]? = some (.map L.toArray clock)) (h2 : w.heap[b2]? = some (.map L2.toArray clock2)) (hlen : L.length = L2.length)
    (hold : ∀ x ∈ L, x.born < clock) (hnd : (L.map (·.born)).Nodup) (hval : Hid (∀ x ∈ L, x.val = cellB ∧ ∃ r c, x.key = placeV r c))
    (hlook : Hid (∀ x ∈ L, ∀ w', Below w.heap.size w w' → (Instr.lookup 98 (.map (some b2)) x.key true).run Tryz.prog w' = .ok (.tuple #[cellB, .bool true]) w'))
    (hsame : Hid (∀ w', Calls Tryz.prog 46 #[cellB, cellB] w' fun e w2 => e = .returned (.bool true) ∧ Below w'.heap.size w' w2)) :
    Calls Tryz.prog 45 #[.map (some b1), .map (some b2), .func (.func 46) #[] #[]] w fun e w' => e = .returned (.bool true) ∧ Below w.heap.size w w' := by
  have hb1 : b1 < w.heap.size := (Array.getElem?_eq_some_iff.1 h1).1
  have hrg := run_range_map (P := Tryz.prog) w 98 104 37 b1 L.toArray clock Tryz.underlying98 h1
  have hl1 := fun ty => run_len_map (t := 98) Tryz.underlying98 ty h1
  have hl2 := fun ty => run_len_map (t := 98) Tryz.underlying98 ty h2
  rw [← hlen] at hl2
  go_enter Tryz.func45, Tryz.ntmps45
  go_wp2_with (fail)
  go_loopw [18] (fun _ wr => ∃ seen, Hid (It wr w.heap.size b1 clock L seen) ∧ Hid (Below w.heap.size w wr)) (fun _ wr => (left L (seenOf wr w.heap.size)).length)
  case atStart =>
    refine ⟨#[], ⟨⟨clock, Go.heap_alloc_new w _, Nat.le_refl _⟩, (Below.heap_alloc _ _ _ hb1).trans h1, hold, hnd, by omega⟩, (Below.refl _ _).alloc (Nat.le_refl _) _⟩
  case round =>
    obtain ⟨seen, HI, HB⟩ := hrel
    clear hl1 hl2 hrg
    go_wp2_with (first
      | (at_next; refine wpList_next_it rfl _ rfl w.heap.size b1 clock L seen rfl HI.out ?_ ?_)
      | fail)
    · intro h0
      clear h0
      go_wp2
      go_ret
      exact ⟨rfl, HB.out⟩
    · intro e he w2 hI2 hb2 _ hs2 hen
      obtain ⟨hv, rk, ck, hk⟩ := hval.out e (left_mem he)
      have HE : Hid (e ∈ L) := left_mem he
      have HM : Hid ((left L (seen.push e.born)).length < (left L seen).length) := left_lt he
      have HI2 : Hid (It w2 w.heap.size b1 clock L (seen.push e.born)) := hI2
      have HB2 : Hid (Below w.heap.size w w2) := HB.out.trans (hb2.mono (Nat.le_refl _))
      have HK : Hid (e.key = placeV rk ck) := hk
      have HS : Hid (seenOf wr w.heap.size = seen) := HI.out.seen
      rw [hk, hv] at hen ⊢
      have hlk := hlook.out e HE.out ((w2.alloc (.cells #[n64 rk, n64 ck] 104)).alloc (.cells #[Value.bool false, n64 3, n64 0, .string ⟨#[]⟩, .bool false, n64 0, n64 0, n64 0, .string ⟨#[]⟩, .bool false, n64 0, .slice none 0 0, .slice none 0 0] 37)) ((HB2.out.alloc HB2.out.size _).alloc (by have := HB2.out.size; simp; omega) _)
      rw [hk] at hlk
      have hwl : w.heap.size ≤ w2.heap.size := HB2.out.size
      clear he hv hI2 hb2 hs2 hk
      go_wp2_with (first
        | (go_at_call 46; refine (hsame.out _).mono ?_; rintro e w3 ⟨rfl, hb3⟩)
        | fail)
      have hb4 : Hid (Below w2.heap.size w2 w3) := ((((Below.refl _ _).alloc (Nat.le_refl _) _).alloc (by simp) _).alloc (by simp; omega) _).trans (hb3.mono (by simp; omega))
      have HI3 : Hid (It w3 w.heap.size b1 clock L (seen.push e.born)) := HI2.out.mv hb4.out
      refine ⟨⟨_, HI3, HB2.out.trans (hb4.out.mono hwl)⟩, ?_⟩
      rw [HI3.out.seen, HS.out]
      exact HM.out
end Go.Proofs.YtgklcjeigoihpaaGreatDoor
