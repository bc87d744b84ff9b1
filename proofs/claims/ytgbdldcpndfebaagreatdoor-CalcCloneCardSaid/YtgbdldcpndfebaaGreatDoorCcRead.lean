/- CalcClone, the walks: ref1.Parse at a printed number; ref5.Read of it. -/
import Derived.Test.YtgbdldcpndfebaaGreatDoorCcScan
import Derived.Test.YtgbdldcpndfebaaGreatDoorCcParse
import Derived.Test.YtgbdldcpndfebaaGreatDoorCcParseN
set_option linter.unusedSimpArgs false
set_option linter.unusedVariables false
namespace Go.Proofs.YtgbdldcpndfebaaGreatDoor
open Go Go.RowKit Go.Proofs Go.Cc

theorem parse_a (a : Int) (h : -2147483648 ≤ a ∧ a ≤ 2147483647) (w : World) : Calls Tryz.prog 17 #[.string ⟨(printS a).toArray⟩] w fun e w' => e = .returned (.tuple #[n64 a, .bool true]) ∧ Below w.heap.size w w' := by
  obtain ⟨P, V, hn1, hS, h45, hE⟩ := body_scan a.natAbs (by omega)
  by_cases ha : a < 0
  · have e : printS a = 45 :: body a.natAbs := by unfold printS; rw [if_pos ha]
    rw [e]
    have hT : (⟨(45 :: body a.natAbs).toArray⟩ : ByteArray).extract 1 ((body a.natAbs).length + 1) = ⟨(body a.natAbs).toArray⟩ := by
      apply ByteArray.ext
      simp [ByteArray.data_extract]
    have := parse_neg ⟨(body a.natAbs).toArray⟩ (body a.natAbs).length (byteAt (body a.natAbs)) P V a.natAbs rfl hn1 (byteAt_get _) hS ⟨(45 :: body a.natAbs).toArray⟩ (by simp [ByteArray.size]) (fun _ => rfl) hT (by omega) (by omega) hE w
    rwa [show (-(a.natAbs : Int)) = a by omega] at this
  · have e : printS a = body a.natAbs := by unfold printS; rw [if_neg ha]
    rw [e]
    have := parse_pos ⟨(body a.natAbs).toArray⟩ (body a.natAbs).length (byteAt (body a.natAbs)) P V a.natAbs rfl hn1 (byteAt_get _) hS h45 (by omega) hE w
    rwa [show ((a.natAbs : Int)) = a by omega] at this

theorem body_first (m : Nat) : ∃ d l, d < 10 ∧ body m = UInt8.ofNat (48 + d) :: l := by
  cases e : digs (m / 10000) with
  | nil => exact absurd e (digs_ne _)
  | cons d l =>
    refine ⟨d, bs l ++ (if m % 10000 = 0 then [] else 46 :: bs ((t4 (m % 10000)).take (keep (m % 10000)))), digs_small (m / 10000) d (by rw [e]; exact List.mem_cons_self ..), ?_⟩
    unfold body
    rw [e]
    rfl
theorem first_ok (a : Int) : ∃ c l, printS a = c :: l ∧ c.toNat ≠ 61 ∧ c.toNat ≠ 39 := by
  unfold printS
  split
  · exact ⟨45, _, rfl, by decide, by decide⟩
  · obtain ⟨d, l, hd, e⟩ := body_first a.natAbs
    refine ⟨_, l, e, ?_, ?_⟩
    · rw [byte_dig d hd]; omega
    · rw [byte_dig d hd]; omega

abbrev cellV (a : Int) : Value := .agg #[.bool false, n64 1, n64 a, .string ⟨#[]⟩, .bool false, n64 0, n64 0, n64 0, .string ⟨#[]⟩, .bool false, n64 0, .slice none 0 0, .slice none 0 0]

abbrev cellZ : Array Value := #[.bool false, n64 0, n64 0, .string ⟨#[]⟩, .bool false, n64 0, n64 0, n64 0, .string ⟨#[]⟩, .bool false, n64 0, .slice none 0 0, .slice none 0 0]
theorem set_33 {w : World} {g i : Nat} (cs : Array Value) {cs' : Array Value} {v : Value} (he : cs.setIfInBounds i v = cs') (h : w.heap[g]? = some (.cells cs 33 (0, 0))) : (w.setCell ⟨g, i, none⟩ v).heap[g]? = some (.cells cs' 33 (0, 0)) := set_is cs he h
theorem res_two {fn : Func} {p q : Tmp} {tmps : Array Value} {w : World} {g : Nat} {cs : Array Value} {v : Value} (h : fn.results = #[.cell p 33, .tmp q]) (hp : tmps.getD p undef = .pointer (some ⟨g, 0, none⟩)) (hg : w.heap[g]? = some (.cells cs 33 (0, 0))) (hq : tmps.getD q undef = v)
    (hs : 13 = cs.size) : (results fn tmps).run Tryz.prog w = .ok (.tuple #[.agg cs, v]) w := by
  have hp' : tmps[p]?.getD undef = .pointer (some ⟨g, 0, none⟩) := by simpa using hp
  have hq' : tmps[q]?.getD undef = v := by simpa using hq
  have hi : (Tryz.prog.info? 33).map (·.size) = some cs.size := by rw [← hs]; kernel_rfl
  simp [results, h, hp', hq', asAddr, run_loadVar_row w g 33 33 cs (0, 0) _ hg Tryz.underlying33 rfl hi]
set_option maxRecDepth 100000 in
set_option maxHeartbeats 8000000 in
theorem read_s (S : ByteArray) (n : Nat) (a : Int) (hn : S.size = n) (hn1 : 0 < n) (c : Nat) (h0 : ∀ h, (S[0]'h).toNat = c) (h1 : c ≠ 61) (h2 : c ≠ 39)
    (hP : ∀ w, Calls Tryz.prog 17 #[.string S] w fun e w' => e = .returned (.tuple #[n64 a, .bool true]) ∧ Below w.heap.size w w')
    (w : World) : Calls Tryz.prog 7 #[.string S] w fun e w' => e = .returned (.tuple #[cellV a, n64 0]) ∧ Below w.heap.size w w' := by
  have hb0 := h0 (by omega)
  have h1' : ((c : Int) == 61) = false := by rw [beq_eq_false_iff_ne]; omega
  have h2' : ((c : Int) == 39) = false := by rw [beq_eq_false_iff_ne]; omega
  have hn0 : decide (0 < (n : Int)) = true := decide_eq_true (by omega)
  have hne := toList_ne (T := S) (by omega)
  clear h0 h1 h2
  go_enter Tryz.func7, Tryz.ntmps7
  go_wp2_with (first
    | (go_at_call 17; refine (hP _).mono ?_; rintro e w1 ⟨rfl, hb1⟩)
    | (go_at_call 18; refine (num_w a _).mono ?_; rintro e w2 ⟨rfl, hb2⟩
       have HC : Hid (w2.heap[w.heap.size]? = some (.cells cellZ 33 (0, 0))) := ((hb2.block _ (Nat.lt_of_lt_of_le (by simp) hb1.size)).trans (hb1.block _ (by simp))).trans (alloc_at _ _ _ rfl)
       have HB2 : Hid (Below w.heap.size w w2) := (((Below.refl _ _).alloc (Nat.le_refl _) _).trans (hb1.mono (by simp))).trans (hb2.mono (Nat.le_of_lt (Nat.lt_of_lt_of_le (by simp) hb1.size)))
       clear hb1 hb2
       have c0 : w2.cell? ⟨w.heap.size, 0, none⟩ = some (.bool false) := (Go.Joins.cell_of_block HC.out 0).trans rfl
       have f0 := Go.Joins.unfrozen_of_block HC.out 0
       have c1 : w2.cell? ⟨w.heap.size, 1, none⟩ = some (n64 0) := (Go.Joins.cell_of_block HC.out 1).trans rfl
       have f1 := Go.Joins.unfrozen_of_block HC.out 1
       have c2 : w2.cell? ⟨w.heap.size, 2, none⟩ = some (n64 0) := (Go.Joins.cell_of_block HC.out 2).trans rfl
       have f2 := Go.Joins.unfrozen_of_block HC.out 2
       have c3 : w2.cell? ⟨w.heap.size, 3, none⟩ = some (.string ⟨#[]⟩) := (Go.Joins.cell_of_block HC.out 3).trans rfl
       have f3 := Go.Joins.unfrozen_of_block HC.out 3
       have c4 : w2.cell? ⟨w.heap.size, 4, none⟩ = some (.bool false) := (Go.Joins.cell_of_block HC.out 4).trans rfl
       have f4 := Go.Joins.unfrozen_of_block HC.out 4
       have c5 : w2.cell? ⟨w.heap.size, 5, none⟩ = some (n64 0) := (Go.Joins.cell_of_block HC.out 5).trans rfl
       have f5 := Go.Joins.unfrozen_of_block HC.out 5
       have c6 : w2.cell? ⟨w.heap.size, 6, none⟩ = some (n64 0) := (Go.Joins.cell_of_block HC.out 6).trans rfl
       have f6 := Go.Joins.unfrozen_of_block HC.out 6
       have c7 : w2.cell? ⟨w.heap.size, 7, none⟩ = some (n64 0) := (Go.Joins.cell_of_block HC.out 7).trans rfl
       have f7 := Go.Joins.unfrozen_of_block HC.out 7
       have c8 : w2.cell? ⟨w.heap.size, 8, none⟩ = some (.string ⟨#[]⟩) := (Go.Joins.cell_of_block HC.out 8).trans rfl
       have f8 := Go.Joins.unfrozen_of_block HC.out 8
       have c9 : w2.cell? ⟨w.heap.size, 9, none⟩ = some (.bool false) := (Go.Joins.cell_of_block HC.out 9).trans rfl
       have f9 := Go.Joins.unfrozen_of_block HC.out 9
       have c10 : w2.cell? ⟨w.heap.size, 10, none⟩ = some (n64 0) := (Go.Joins.cell_of_block HC.out 10).trans rfl
       have f10 := Go.Joins.unfrozen_of_block HC.out 10
       have c11 : w2.cell? ⟨w.heap.size, 11, none⟩ = some (Value.slice none 0 0) := (Go.Joins.cell_of_block HC.out 11).trans rfl
       have f11 := Go.Joins.unfrozen_of_block HC.out 11
       have c12 : w2.cell? ⟨w.heap.size, 12, none⟩ = some (Value.slice none 0 0) := (Go.Joins.cell_of_block HC.out 12).trans rfl
       have f12 := Go.Joins.unfrozen_of_block HC.out 12)
    | fail)
  refine bodyPost_ret (v := .tuple #[cellV a, n64 0]) ?_ rfl ⟨rfl, ?_⟩
  · refine res_two (cs := #[.bool false, n64 1, n64 a, .string ⟨#[]⟩, .bool false, n64 0, n64 0, n64 0, .string ⟨#[]⟩, .bool false, n64 0, .slice none 0 0, .slice none 0 0]) rfl rfl ?_ rfl rfl
    iterate 10 refine set_33 #[.bool false, n64 1, n64 a, .string ⟨#[]⟩, .bool false, n64 0, n64 0, n64 0, .string ⟨#[]⟩, .bool false, n64 0, .slice none 0 0, .slice none 0 0] rfl ?_
    refine set_33 #[.bool false, n64 1, n64 0, .string ⟨#[]⟩, .bool false, n64 0, n64 0, n64 0, .string ⟨#[]⟩, .bool false, n64 0, .slice none 0 0, .slice none 0 0] rfl ?_
    refine set_33 #[.bool false, n64 0, n64 0, .string ⟨#[]⟩, .bool false, n64 0, n64 0, n64 0, .string ⟨#[]⟩, .bool false, n64 0, .slice none 0 0, .slice none 0 0] rfl ?_
    refine set_33 #[.bool false, n64 0, n64 0, .string ⟨#[]⟩, .bool false, n64 0, n64 0, n64 0, .string ⟨#[]⟩, .bool false, n64 0, .slice none 0 0, .slice none 0 0] rfl ?_
    exact HC.out
  · iterate 13 refine bl_set _ _ (Nat.le_refl _) ?_
    exact HB2.out

/-- What is read of a printed number: a cell that holds it. -/
theorem read_a (a : Int) (h : -2147483648 ≤ a ∧ a ≤ 2147483647) (w : World) : Calls Tryz.prog 7 #[.string ⟨(printS a).toArray⟩] w fun e w' => e = .returned (.tuple #[cellV a, n64 0]) ∧ Below w.heap.size w w' := by
  obtain ⟨c, l, e, h1, h2⟩ := first_ok a
  have hP := parse_a a h
  rw [e] at hP ⊢
  exact read_s ⟨(c :: l).toArray⟩ (l.length + 1) a rfl (by omega) c.toNat (fun _ => rfl) h1 h2 hP w
end Go.Proofs.YtgbdldcpndfebaaGreatDoor
