/- WalFolds, the walks: sheet.places: the places of a map's cells, collected and sorted. -/
import Derived.Test.YtgklcjeigoihpaaGreatDoorWfSort
import Derived.Test.YtgklcjeigoihpaaGreatDoorWfMap
import Derived.Test.YtgklcjeigoihpaaGreatDoorWfEqf
import Derived.Maps.OwnSet
import Derived.Maps.AppendAt
import Derived.OwnWalk
import Derived.LoopTactic
set_option linter.unusedSimpArgs false
set_option linter.unusedVariables false
namespace Go.Proofs.YtgklcjeigoihpaaGreatDoor
open Go Go.RowKit Go.Proofs Go.Sort Go.Maps

theorem info139 : (Tryz.prog.info? 139).map (fun i => (i.zero, i.size, i.bytes)) = some (some (.agg #[.string ⟨#[]⟩, .int .i64 0, .int .i64 0]), 3, 32) := by kernel_rfl
theorem perm_out {e : MapEntry} : ∀ {l : List MapEntry}, (l.map (·.born)).Nodup → e ∈ l → l.Perm (e :: l.filter fun x => !(x.born == e.born))
  | y :: l, hn, he => by
    rw [List.map_cons, List.nodup_cons] at hn
    have hne : ∀ z ∈ l, z.born ≠ y.born := fun z hz h => hn.1 (List.mem_map.2 ⟨z, hz, h⟩)
    rcases List.mem_cons.1 he with rfl | he
    · have : (e :: l).filter (fun x => !(x.born == e.born)) = l := by
        rw [List.filter_cons]
        simp only [beq_self_eq_true, Bool.not_true, Bool.false_eq_true, if_false]
        exact List.filter_eq_self.2 fun z hz => by simp [hne z hz]
      rw [this]
    · have h1 : y.born ≠ e.born := fun h => hne e he h.symm
      have h2 : (y :: l).filter (fun x => !(x.born == e.born)) = y :: l.filter (fun x => !(x.born == e.born)) := by
        rw [List.filter_cons]
        simp [h1]
      rw [h2]
      exact ((perm_out hn.2 he).cons y).trans (List.Perm.swap e y _)
theorem left_perm {L : List MapEntry} {seen : Array Nat} {e : MapEntry} (hn : (L.map (·.born)).Nodup) (he : e ∈ left L seen) : (left L seen).Perm (e :: left L (seen.push e.born)) := by
  rw [left_push]
  exact perm_out (hn.sublist (List.Sublist.map _ List.filter_sublist)) he
theorem alloc_atW (w : World) (o : Obj) (k : Nat) (h : k = w.heap.size) : (w.alloc o).heap[k]? = some o := by subst h; exact Go.heap_alloc_new w o
theorem ownsRow_same {w w' : World} {B : Nat} {e : TypeId} {size : Nat} {v : Value} {n : Nat} {xs : List Value} (h : w.ownsRow B e size v n xs) (hk : ∀ (g : Nat) (cs : Array Value) (t : TypeId) (fr : Nat × Nat), w.heap[g]? = some (Obj.cells cs t fr) → w'.heap[g]? = w.heap[g]?) : w'.ownsRow B e size v n xs := by
  refine ⟨h.1, ?_⟩
  rcases h.2 with h1 | ⟨g, cap, cur, h1, h2, h3, h4⟩
  · exact .inl h1
  · exact .inr ⟨g, cap, cur, h1, h2, (hk g _ _ _ h3).trans h3, h4⟩
theorem own_row {w : World} {B : Nat} {e : TypeId} {size : Nat} {v : Value} {n : Nat} {xs : List Value} (h : w.ownsRow B e size v n xs) {k : Nat} (hk : v.ownBlock = some k) : B ≤ k ∧ ∃ cur, w.heap[k]? = some (Obj.cells cur e (0, 0)) := by
  rcases h.2 with ⟨rfl, _⟩ | ⟨g, cap, cur, rfl, h2, h3, h4⟩
  · simp [Value.ownBlock] at hk
  · simp [Value.ownBlock] at hk
    subst hk
    exact ⟨h2, cur, h3⟩
theorem It.grown {w w' : World} {r bm clock : Nat} {L : List MapEntry} {seen : Array Nat} (h : It w r bm clock L seen) {B : Nat} {e : TypeId} {size : Nat} {v : Value} {n : Nat} {xs : List Value} (hrow : w.ownsRow B e size v n xs) (hbm : bm < B) (hg : w.grownBy w' v.ownBlock) : It w' r bm clock L seen := by
  obtain ⟨c0, h1, h2⟩ := h.it
  refine ⟨⟨c0, (hg.block r (Array.getElem?_eq_some_iff.1 h1).1 (fun e1 => ?_)).trans h1, h2⟩, (hg.block bm (Array.getElem?_eq_some_iff.1 h.mp).1 (fun e1 => ?_)).trans h.mp, h.old, h.nd, h.ne⟩
  · obtain ⟨_, cur, h3⟩ := own_row hrow e1.symm
    rw [h1] at h3
    cases h3
  · have := (own_row hrow e1.symm).1
    omega

set_option maxRecDepth 100000 in
set_option maxHeartbeats 8000000 in
theorem places_w (b : Nat) (L : List MapEntry) (clock : Nat) (S : ByteArray) (kp : MapEntry → Pt) (w : World) (h1 : w.heap[b]? = some (.map L.toArray clock)) (hold : ∀ x ∈ L, x.born < clock) (hnd : (L.map (·.born)).Nodup)
    (hkey : Hid (∀ x ∈ L, x.key = placeV (kp x).1 (kp x).2)) (hlen : L.length ≤ 1000) (hpos : L ≠ []) :
    Calls Tryz.prog 111 #[.string S, .map (some b)] w fun e w' => ∃ (g cap : Nat) (d' : List Pt) (cur : Array Value), e = .returned (.slice (some ⟨g, 0, none⟩) L.length cap) ∧ w.heap.size ≤ g ∧ L.length ≤ cap ∧ d'.Perm (L.map kp) ∧ d'.Pairwise (fun a b => ltP b a = false) ∧
      w'.heap[g]? = some (.cells cur 139 (0, 0)) ∧ cur.size = cap * 3 ∧ (∀ i (h : i < d'.length) (t : Nat), t < 3 → cur[i * 3 + t]? = (encP S d'[i])[t]?) ∧ Below w.heap.size w w' := by
  obtain ⟨i0, hi, hz0, hz1, hz2⟩ := info_parts info139
  have hb1 : b < w.heap.size := (Array.getElem?_eq_some_iff.1 h1).1
  have hrg := run_range_map (P := Tryz.prog) w 98 104 37 b L.toArray clock Tryz.underlying98 h1
  go_enter Tryz.func111, Tryz.ntmps111
  go_wp2_with (fail)
  clear hrg
  go_loopw [5] (fun v wr => ∃ (seen : Array Nat) (ss : List Pt), Hid (It wr w.heap.size b clock L seen) ∧ wr.ownsRow w.heap.size 139 3 v ss.length (cellsP S ss) ∧ Hid ((ss ++ (left L seen).map kp).Perm (L.map kp)) ∧ Hid (Below w.heap.size w wr)) (fun _ wr => (left L (seenOf wr w.heap.size)).length)
  case atStart =>
    refine ⟨#[], [], ⟨⟨clock, Go.heap_alloc_new w _, Nat.le_refl _⟩, (Below.heap_alloc _ _ _ hb1).trans h1, hold, hnd, by omega⟩, ⟨by simp, .inl ⟨rfl, rfl⟩⟩, ?_, (Below.refl _ _).alloc (Nat.le_refl _) _⟩
    show ([] ++ (left L #[]).map kp).Perm (L.map kp)
    rw [left_start]
    exact List.Perm.refl _
  case round =>
    obtain ⟨seen, ss, HI, hrow, HP, HB⟩ := hrel
    go_wp2_with (first
      | (at_next; refine wpList_next_it rfl _ rfl w.heap.size b clock L seen rfl HI.out ?_ ?_)
      | fail)
    · intro h0
      have HSS : Hid (ss.Perm (L.map kp)) := by have := HP.out; rw [h0] at this; show ss.Perm (L.map kp); simpa using this
      have hsl : ss.length = L.length := by have := HSS.out.length_eq; simpa using this
      have hne : ss ≠ [] := fun e => hpos (by rw [e] at hsl; exact List.length_eq_zero_iff.1 hsl.symm)
      have hs := sortP_own hrow hne (by omega) HB.out.size
      rw [hsl] at hs
      clear h0 hne hold hnd
      go_wp2_with (first
        | (go_at_call 133; refine hs.mono ?_; rintro e w2 ⟨rfl, g, cap, d', cur, rfl, k1, k2, k3, k4, k5, k6, k7, k8⟩)
        | fail)
      go_ret
      exact ⟨g, cap, d', cur, rfl, k1, k2, k3.trans HSS.out, k4, k5, k6, k7, HB.out.trans k8⟩
    · intro e he w2 hI2 hb2 hkk hs2 hen
      have hk := hkey.out e (left_mem he)
      obtain ⟨rk, hrk⟩ : ∃ rk, rk = (kp e).1 := ⟨_, rfl⟩
      obtain ⟨ck, hck⟩ : ∃ ck, ck = (kp e).2 := ⟨_, rfl⟩
      have HKP : Hid (kp e = (rk, ck)) := by show kp e = (rk, ck); rw [hrk, hck]
      rw [← hrk, ← hck] at hk
      have HM : Hid ((left L (seen.push e.born)).length < (left L seen).length) := left_lt he
      have HE : Hid (e ∈ left L seen) := he
      have HI2 : Hid (It w2 w.heap.size b clock L (seen.push e.born)) := hI2
      have HB2 : Hid (Below w.heap.size w w2) := HB.out.trans (hb2.mono (Nat.le_refl _))
      have HS : Hid (seenOf wr w.heap.size = seen) := HI.out.seen
      have hrow2 : w2.ownsRow w.heap.size 139 3 u5 ss.length (cellsP S ss) := ownsRow_same hrow fun g cs t fr hg => hkk g (fun e1 => by
        obtain ⟨c0, h2, _⟩ := HI.out.it
        rw [e1, h2] at hg
        cases hg)
      have hssl : ss.length ≤ 1000 := by have := HP.out.length_eq; simp at this; omega
      have hwl : w.heap.size ≤ w2.heap.size := HB2.out.size
      rw [hk] at hen ⊢
      clear he hk hI2 hb2 hkk hs2 hrk hck
      go_wp2_with (first
        | (at_builtin; refine wpList_append_own _ rfl _ _ 136 rfl w.heap.size 139 i0 (.agg #[.string ⟨#[]⟩, .int .i64 0, .int .i64 0]) 3 32 Tryz.underlying136 hi hz0 hz1 hz2 rfl (by decide) _ _ _ rfl ((hrow2.alloc _).alloc _) ⟨w2.heap.size + 1, 0, none⟩ 1 1 [.string S, n64 rk, n64 ck] rfl rfl ?c1 ?c2 ?c3 ?c4 ?c5 ?_)
        | fail)
      case c1 =>
        intro j u hj
        have hblk : ((w2.alloc (.cells #[n64 rk, n64 ck] 104)).alloc (.cells #[.string S, n64 rk, n64 ck] 139)).heap[w2.heap.size + 1]? = some (.cells #[.string S, n64 rk, n64 ck] 139 (0, 0)) := alloc_atW _ _ _ (by simp)
        rw [Addr.add_mid]
        exact (Go.Joins.cell_of_block hblk (0 + j)).trans (by simpa using hj)
      case c2 => intro u hu; simp at hu; rcases hu with rfl | rfl | rfl <;> rfl
      case c3 => unfold maxLen; omega
      case c4 => omega
      case c5 => simp; omega
      · intro v' w3 ho hg _
        have hrow3 := (hrow2.alloc (.cells #[n64 rk, n64 ck] 104)).alloc (.cells #[.string S, n64 rk, n64 ck] 139)
        have hbA : Below w2.heap.size w2 ((w2.alloc (.cells #[n64 rk, n64 ck] 104)).alloc (.cells #[.string S, n64 rk, n64 ck] 139)) := ((Below.refl _ _).alloc (Nat.le_refl _) _).alloc (by simp) _
        have HI3 : Hid (It w3 w.heap.size b clock L (seen.push e.born)) := (HI2.out.mv hbA).grown hrow3 hb1 hg
        have HB3 : Hid (Below w.heap.size w w3) := (HB2.out.trans (hbA.mono hwl)).grown hg (by simp; omega) (fun k hk => (own_row hrow3 hk).1)
        have HO3 : Hid (w3.ownsRow w.heap.size 139 3 v' (ss ++ [(rk, ck)]).length (cellsP S (ss ++ [(rk, ck)]))) := by
          have e1 : cellsP S (ss ++ [(rk, ck)]) = cellsP S ss ++ [.string S, n64 rk, n64 ck] := by unfold cellsP; rw [List.flatMap_append]; rfl
          rw [e1, List.length_append]
          exact ho
        have HP3 : Hid (((ss ++ [(rk, ck)]) ++ (left L (seen.push e.born)).map kp).Perm (L.map kp)) := by
          have h1 := (left_perm hnd HE.out).map kp
          rw [List.map_cons, HKP.out] at h1
          have h2 := (h1.append_left ss).symm.trans HP.out
          show ((ss ++ [(rk, ck)]) ++ (left L (seen.push e.born)).map kp).Perm (L.map kp)
          rw [List.append_assoc]
          exact h2
        clear ho hg hrow3 hbA hrow2 hold hnd
        go_wp2
        refine ⟨⟨_, _, HI3, HO3.out, HP3, HB3⟩, ?_⟩
        rw [HI3.out.seen, HS.out]
        exact HM.out
end Go.Proofs.YtgklcjeigoihpaaGreatDoor
