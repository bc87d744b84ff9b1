/- CalcClone, the walks: ref1.Print. -/
import Derived.Test.YtgbdldcpndfebaaGreatDoorCcDec
set_option linter.unusedSimpArgs false
set_option linter.unusedVariables false
namespace Go.Proofs.YtgbdldcpndfebaaGreatDoor
open Go Go.RowKit Go.Proofs Go.Cc

def body (m : Nat) : List UInt8 := bs (digs (m / 10000)) ++ (if m % 10000 = 0 then [] else 46 :: bs ((t4 (m % 10000)).take (keep (m % 10000))))
def printS (a : Int) : List UInt8 := if a < 0 then 45 :: body a.natAbs else body a.natAbs

theorem keepz4 (r : Nat) (hz : r % 10 = 0) : keep r ≤ 3 := by unfold keep; split <;> (try split) <;> (try split) <;> omega
theorem keepz3 (r : Nat) (h : keep r ≤ 3) (hz : r / 10 % 10 = 0) : keep r ≤ 2 := by revert h; unfold keep; split <;> (try split) <;> (try split) <;> intro h <;> omega
theorem keepz2 (r : Nat) (h : keep r ≤ 2) (hz : r / 100 % 10 = 0) : keep r ≤ 1 := by revert h; unfold keep; split <;> (try split) <;> (try split) <;> intro h <;> omega
theorem keepz1 (r : Nat) (h : keep r ≤ 1) (hz : r / 1000 = 0) (h4 : r < 10000) : r = 0 := by revert h; unfold keep; split <;> (try split) <;> (try split) <;> intro h <;> omega
theorem keepn4 (r : Nat) (hz : r % 10 ≠ 0) : keep r = 4 := by unfold keep; split <;> (try split) <;> (try split) <;> omega
theorem keepn3 (r : Nat) (h : keep r ≤ 3) (hz : r / 10 % 10 ≠ 0) : keep r = 3 := by revert h; unfold keep; split <;> (try split) <;> (try split) <;> intro h <;> omega
theorem keepn2 (r : Nat) (h : keep r ≤ 2) (hz : r / 100 % 10 ≠ 0) : keep r = 2 := by revert h; unfold keep; split <;> (try split) <;> (try split) <;> intro h <;> omega
theorem keepn1 (r : Nat) (h : keep r ≤ 1) : keep r = 1 := by have := (keep_le r).1; omega
theorem dig0 (d : Nat) (h : d < 10) : (((48 + UInt8.ofNat d).toNat : Nat) : Int) = 48 ↔ d = 0 := by
  have hd : d = 0 ∨ d = 1 ∨ d = 2 ∨ d = 3 ∨ d = 4 ∨ d = 5 ∨ d = 6 ∨ d = 7 ∨ d = 8 ∨ d = 9 := by omega
  rcases hd with rfl | rfl | rfl | rfl | rfl | rfl | rfl | rfl | rfl | rfl <;> decide
theorem app_cons (c : UInt8) (l : List UInt8) : (⟨#[c]⟩ : ByteArray) ++ ⟨l.toArray⟩ = ⟨(c :: l).toArray⟩ := by
  apply ByteArray.ext
  simp [ByteArray.data_append]

set_option maxRecDepth 100000 in
set_option maxHeartbeats 4000000 in
theorem print_w (a : Int) (h : -2147483648 ≤ a ∧ a ≤ 2147483647) (w : World) : Calls Tryz.prog 9 #[n64 a] w fun e w' => e = .returned (.string ⟨(printS a).toArray⟩) ∧ Below w.heap.size w w' := by
  obtain ⟨m, hm⟩ : ∃ m, m = a.natAbs := ⟨_, rfl⟩
  have HM : Hid (m = a.natAbs) := hm
  have hm1 : m ≤ 2147483648 := by omega
  have H28 := abs_w a h
  rw [← hm] at H28
  clear hm
  have hl : (digs (m / 10000)).length ≤ 6 := digs_len 5 _ (by omega)
  by_cases h0 : m % 10000 = 0
  · have hb : Hid (body m = bs (digs (m / 10000))) := by show body m = _; unfold body; rw [if_pos h0, List.append_nil]
    go_enter Tryz.func9, Tryz.ntmps9
    go_wp2_with (first
      | (go_at_call 28; refine (H28 _).mono ?_; rintro e w1 ⟨rfl, rfl⟩)
      | (go_at_call 29; refine (dec_w (m / 10000) (by omega) _).mono ?_; rintro e w2 ⟨rfl, hb2⟩; unfold strD)
      | fail)
    all_goals first
      | (exfalso; simp at *; omega)
      | skip
    all_goals go_ret
    all_goals refine ⟨?_, hb2⟩
    · have ha : a < 0 := by assumption
      unfold printS
      rw [if_pos ha, ← HM.out, hb.out, ← app_cons 45 _]
      rfl
    · have ha : ¬ a < 0 := by omega
      unfold printS
      rw [if_neg ha, ← HM.out, hb.out]
      rfl
  · have hr : 0 < m % 10000 := by omega
    obtain ⟨r, hrr⟩ : ∃ r, r = m % 10000 := ⟨_, rfl⟩
    have HRR : Hid (r = m % 10000) := hrr
    have hr4 : r < 10000 := by omega
    have HB : Hid (body m = bs (digs (m / 10000)) ++ 46 :: bs ((t4 r).take (keep r))) := by show body m = _; unfold body; rw [if_neg h0, hrr]
    have HD := fun w => dec_w (10000 + r) (by omega) w
    rw [digs_frac r hr4] at HD
    rw [hrr] at HD
    have e10 : ((10000 + m % 10000 : Nat) : Int) = 10000 + (m : Int) % 10000 := by omega
    simp only [nu, e10] at HD
    have TK : Hid True := trivial
    clear hrr
    go_enter Tryz.func9, Tryz.ntmps9
    go_wp2_with (first
      | (go_at_call 28; refine (H28 _).mono ?_; rintro e w1 ⟨rfl, rfl⟩)
      | (have g := TK; clear g; go_at_call 29; refine (dec_w (m / 10000) (by omega) _).mono ?_; rintro e w2 ⟨rfl, hb2⟩; unfold strD; clear TK)
      | (go_at_call 29; refine (HD _).mono ?_; rintro e w3 ⟨rfl, hb3⟩; unfold strD; have HB3 : Hid (Below w3.heap.size w3 w3) := Below.refl _ _)
      | fail)
    go_loopw [6] (fun v6 wr => ∃ k, keep r ≤ k ∧ k ≤ 4 ∧ v6 = strD ((t4 r).take k) ∧ wr = w3) (fun v6 _ => match v6 with | .string b => b.size | _ => 0)
    case atStart => exact ⟨4, (keep_le r).2, Nat.le_refl _, by rw [HRR.out]; rfl, rfl⟩
    case round =>
      obtain ⟨k, hk1, hk2, rfl, rfl⟩ := hrel
      have hk0 := (keep_le r).1
      have hk : k = 1 ∨ k = 2 ∨ k = 3 ∨ k = 4 := by omega
      rcases hk with rfl | rfl | rfl | rfl
      · simp only [t4, List.take, strD, bs, List.map]
        go_wp2
        · rename_i hz
          have hz' : r / 1000 = 0 := (dig0 (r / 1000) (by omega)).1 (by have h := hz; rw [beq_iff_eq] at h; exact h)
          have := keepz1 r hk1 hz' hr4
          have h2 := HRR.out
          omega
        · rename_i hz _ _ ha
          have hz' : r / 1000 ≠ 0 := fun e => by have h := hz; rw [beq_eq_false_iff_ne] at h; exact h ((dig0 (r / 1000) (by omega)).2 e)
          have hk3 : keep r = 1 := keepn1 r hk1 
          go_ret
          refine ⟨?_, hb2.trans (hb3.mono hb2.size)⟩
          unfold printS
          rw [if_pos ha, ← HM.out, HB.out, hk3]
          exact congrArg (fun b => Ending.returned (Value.string b)) (by apply ByteArray.ext; simp [ByteArray.data_append, bs, t4, UInt8.ofNat_add])
        · rename_i hz ha
          have hz' : r / 1000 ≠ 0 := fun e => by have h := hz; rw [beq_eq_false_iff_ne] at h; exact h ((dig0 (r / 1000) (by omega)).2 e)
          have hk3 : keep r = 1 := keepn1 r hk1 
          go_ret
          refine ⟨?_, hb2.trans (hb3.mono hb2.size)⟩
          unfold printS
          rw [if_neg (by omega), ← HM.out, HB.out, hk3]
          exact congrArg (fun b => Ending.returned (Value.string b)) (by apply ByteArray.ext; simp [ByteArray.data_append, bs, t4, UInt8.ofNat_add])
      · simp only [t4, List.take, strD, bs, List.map]
        go_wp2
        · rename_i hz
          have hz' : r / 100 % 10 = 0 := (dig0 (r / 100 % 10) (by omega)).1 (by have h := hz; rw [beq_iff_eq] at h; exact h)
          refine ⟨⟨1, keepz2 r hk1 hz', by omega, by first | rfl | exact congrArg Value.string (by apply ByteArray.ext; simp [bs, t4]), by first | rfl | trivial⟩, ?_⟩
          first | decide | (simp [ByteArray.size]; done) | (simp; done)
        · rename_i hz _ _ ha
          have hz' : r / 100 % 10 ≠ 0 := fun e => by have h := hz; rw [beq_eq_false_iff_ne] at h; exact h ((dig0 (r / 100 % 10) (by omega)).2 e)
          have hk3 : keep r = 2 := keepn2 r hk1 hz'
          go_ret
          refine ⟨?_, hb2.trans (hb3.mono hb2.size)⟩
          unfold printS
          rw [if_pos ha, ← HM.out, HB.out, hk3]
          exact congrArg (fun b => Ending.returned (Value.string b)) (by apply ByteArray.ext; simp [ByteArray.data_append, bs, t4, UInt8.ofNat_add])
        · rename_i hz ha
          have hz' : r / 100 % 10 ≠ 0 := fun e => by have h := hz; rw [beq_eq_false_iff_ne] at h; exact h ((dig0 (r / 100 % 10) (by omega)).2 e)
          have hk3 : keep r = 2 := keepn2 r hk1 hz'
          go_ret
          refine ⟨?_, hb2.trans (hb3.mono hb2.size)⟩
          unfold printS
          rw [if_neg (by omega), ← HM.out, HB.out, hk3]
          exact congrArg (fun b => Ending.returned (Value.string b)) (by apply ByteArray.ext; simp [ByteArray.data_append, bs, t4, UInt8.ofNat_add])
      · simp only [t4, List.take, strD, bs, List.map]
        go_wp2
        · rename_i hz
          have hz' : r / 10 % 10 = 0 := (dig0 (r / 10 % 10) (by omega)).1 (by have h := hz; rw [beq_iff_eq] at h; exact h)
          refine ⟨⟨2, keepz3 r hk1 hz', by omega, by first | rfl | exact congrArg Value.string (by apply ByteArray.ext; simp [bs, t4]), by first | rfl | trivial⟩, ?_⟩
          first | decide | (simp [ByteArray.size]; done) | (simp; done)
        · rename_i hz _ _ ha
          have hz' : r / 10 % 10 ≠ 0 := fun e => by have h := hz; rw [beq_eq_false_iff_ne] at h; exact h ((dig0 (r / 10 % 10) (by omega)).2 e)
          have hk3 : keep r = 3 := keepn3 r hk1 hz'
          go_ret
          refine ⟨?_, hb2.trans (hb3.mono hb2.size)⟩
          unfold printS
          rw [if_pos ha, ← HM.out, HB.out, hk3]
          exact congrArg (fun b => Ending.returned (Value.string b)) (by apply ByteArray.ext; simp [ByteArray.data_append, bs, t4, UInt8.ofNat_add])
        · rename_i hz ha
          have hz' : r / 10 % 10 ≠ 0 := fun e => by have h := hz; rw [beq_eq_false_iff_ne] at h; exact h ((dig0 (r / 10 % 10) (by omega)).2 e)
          have hk3 : keep r = 3 := keepn3 r hk1 hz'
          go_ret
          refine ⟨?_, hb2.trans (hb3.mono hb2.size)⟩
          unfold printS
          rw [if_neg (by omega), ← HM.out, HB.out, hk3]
          exact congrArg (fun b => Ending.returned (Value.string b)) (by apply ByteArray.ext; simp [ByteArray.data_append, bs, t4, UInt8.ofNat_add])
      · simp only [t4, List.take, strD, bs, List.map]
        go_wp2
        · rename_i hz
          have hz' : r % 10 = 0 := (dig0 (r % 10) (by omega)).1 (by have h := hz; rw [beq_iff_eq] at h; exact h)
          refine ⟨⟨3, keepz4 r hz', by omega, by first | rfl | exact congrArg Value.string (by apply ByteArray.ext; simp [bs, t4]), by first | rfl | trivial⟩, ?_⟩
          first | decide | (simp [ByteArray.size]; done) | (simp; done)
        · rename_i hz _ _ ha
          have hz' : r % 10 ≠ 0 := fun e => by have h := hz; rw [beq_eq_false_iff_ne] at h; exact h ((dig0 (r % 10) (by omega)).2 e)
          have hk3 : keep r = 4 := keepn4 r  hz'
          go_ret
          refine ⟨?_, hb2.trans (hb3.mono hb2.size)⟩
          unfold printS
          rw [if_pos ha, ← HM.out, HB.out, hk3]
          exact congrArg (fun b => Ending.returned (Value.string b)) (by apply ByteArray.ext; simp [ByteArray.data_append, bs, t4, UInt8.ofNat_add])
        · rename_i hz ha
          have hz' : r % 10 ≠ 0 := fun e => by have h := hz; rw [beq_eq_false_iff_ne] at h; exact h ((dig0 (r % 10) (by omega)).2 e)
          have hk3 : keep r = 4 := keepn4 r  hz'
          go_ret
          refine ⟨?_, hb2.trans (hb3.mono hb2.size)⟩
          unfold printS
          rw [if_neg (by omega), ← HM.out, HB.out, hk3]
          exact congrArg (fun b => Ending.returned (Value.string b)) (by apply ByteArray.ext; simp [ByteArray.data_append, bs, t4, UInt8.ofNat_add])
end Go.Proofs.YtgbdldcpndfebaaGreatDoor
