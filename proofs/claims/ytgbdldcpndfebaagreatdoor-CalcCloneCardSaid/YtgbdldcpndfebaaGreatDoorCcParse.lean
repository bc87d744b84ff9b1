/- CalcClone, the walks: ref1.Parse of a number not below 0. -/
import Derived.Test.YtgbdldcpndfebaaGreatDoorCcParW
set_option linter.unusedSimpArgs false
set_option linter.unusedVariables false
namespace Go.Proofs.YtgbdldcpndfebaaGreatDoor
open Go Go.RowKit Go.Proofs Go.Cc

set_option maxRecDepth 100000 in
set_option maxHeartbeats 8000000 in
theorem parse_pos (T : ByteArray) (n : Nat) (B : Nat → Nat) (P : Nat → Int) (V : Nat → Nat) (m : Nat) (hn : T.size = n) (hn1 : 0 < n) (hB : ∀ i (h : i < T.size), (T[i]'h).toNat = B i) (hS : Hid (Scan n B P V)) (h0 : B 0 ≠ 45) (hm : m ≤ 2147483648)
    (hE : Hid ((P n = -1 ∧ (1 < n → B 0 ≠ 48) ∧ V n * 10000 = m) ∨ ∃ q k : Nat, P n = q ∧ 0 < q ∧ q + 1 + k = n ∧ 1 ≤ k ∧ k ≤ 4 ∧ (1 < q → B 0 ≠ 48) ∧ V n * 10 ^ (4 - k) = m))
    (w : World) : Calls Tryz.prog 17 #[.string T] w fun e w' => e = .returned (.tuple #[n64 m, .bool true]) ∧ Below w.heap.size w w' := by
  have hb0 := hB 0 (by omega)
  have h0' : ((B 0 : Int) == 45) = false := by rw [beq_eq_false_iff_ne]; omega
  have hn0 : decide (0 < (n : Int)) = true := decide_eq_true (by omega)
  have HB : Hid (∀ i (h : i < T.size), (T[i]'h).toNat = B i) := hB
  have hle := hS.out.le
  clear hB
  go_enter Tryz.func17, Tryz.ntmps17
  go_wp2
  go_loopw [6, 7] (fun v6 v7 wr => ∃ i : Nat, i ≤ n ∧ v6 = n64 (P i) ∧ v7 = n64 i ∧ Hid (PW w (V i) wr)) (fun _ v7 _ => (n - intOf v7).toNat)
  case atStart => exact ⟨0, by omega, congrArg n64 hS.out.p0.symm, rfl, by show PW w (V 0) _; rw [hS.out.v0]; exact PW.start w⟩
  case round =>
    obtain ⟨i, hi, rfl, rfl, HW⟩ := hrel
    by_cases hin : i < n
    · have hbi := HB.out i (by omega)
      have wi : wrap64 ((i : Int) + 1) = i + 1 := by unfold wrap64; omega
      rcases hS.out.step i hin with ⟨e1, e2, e3, e4⟩ | ⟨d, e1, e2, e3, e4, e5⟩
      · have E3 : Hid (P (i + 1) = i) := e3
        have E4 : Hid (V (i + 1) = V i) := e4
        rw [e1] at hbi
        clear e3 e4 e1
        go_wp2
        refine ⟨⟨i + 1, by omega, congrArg n64 E3.out.symm, rfl, ?_⟩, ?_⟩
        · show PW w (V (i + 1)) _; rw [E4.out]; exact HW
        · simp only [intOf]; omega
      · have E3 : Hid (P (i + 1) = P i) := e3
        have E4 : Hid (V (i + 1) = 10 * V i + d) := e4
        have E5 : 10 * V i + d ≤ 2147483648 := by omega
        rw [e2] at hbi
        obtain ⟨x, hx⟩ : ∃ x, x = V i := ⟨_, rfl⟩
        rw [← hx] at E5
        have HX : Hid (x = V i) := hx
        have q1 : IntKind.u8.wrap ((d : Int) + 48 - 48) = d := by rw [IntKind.wrap_u8]; omega
        have q2 : IntKind.u8.wrap (d : Int) = d := by rw [IntKind.wrap_u8]; omega
        have q3 : IntKind.u64.wrap (d : Int) = d := by rw [IntKind.wrap_u64]; omega
        have h46 : ((d : Int) + 48 == 46) = false := by rw [beq_eq_false_iff_ne]; omega
        have HW1 : Hid (PW w x wr) := by show PW w x wr; rw [hx]; exact HW
        obtain ⟨c0, c1, c2, c3, c4, c5⟩ := HW1.out.all
        clear e3 e4 e2 e5 hx
        go_wp2_with (first
          | (go_at_call 44; refine (times_w x (by omega) _).mono ?_; rintro e w1 ⟨rfl, hb1⟩
             have HW2 : Hid (PW w x w1) := HW1.out.mv hb1
             clear c0 c1 c2 c3 c4 c5
             obtain ⟨c0, c1, c2, c3, c4, c5⟩ := HW2.out.all
             have f0 := HW2.out.f 0
             have f1 := HW2.out.f 1
             have f2 := HW2.out.f 2
             have f3 := HW2.out.f 3
             have f4 := HW2.out.f 4
             have f5 := HW2.out.f 5)
          | fail)
        refine (fun (k : ∀ W3, PW w (10 * x) W3 → Code.wp _ _ _ _ W3) => k _ (HW2.out.putI (10 * x) (10 * (x : Int)) (by simp))) (fun W3 HW3 => ?_)
        clear c0 c1 c2 c3 c4 c5 f0 f1 f2 f3 f4 f5 hb1
        clear HW2 HW1 HW
        have HW3 : Hid (PW w (10 * x) W3) := HW3
        obtain ⟨c0, c1, c2, c3, c4, c5⟩ := HW3.out.all
        go_region_with (first
            | (go_at_call 46; refine (one_w d (by omega) _).mono ?_; rintro e w4 ⟨rfl, hb4⟩
               have HW4 : Hid (PW w (10 * x) w4) := (HW3.out.dr 1).mv hb4
               obtain ⟨k0, k1, k2, k3, k4, k5⟩ := HW4.out.all)
            | (go_at_call 45; refine (plus_w (10 * x) d (by omega) _).mono ?_; rintro e w5 ⟨rfl, hb5⟩
               have HW5 : Hid (PW w (10 * x) w5) := HW4.out.mv hb5
               obtain ⟨m0, m1, m2, m3, m4, m5⟩ := HW5.out.all
               have f0 := HW5.out.f 0
               have f1 := HW5.out.f 1
               have f2 := HW5.out.f 2
               have f3 := HW5.out.f 3
               have f4 := HW5.out.f 4
               have f5 := HW5.out.f 5))
        all_goals
          (have HW6 := HW5.out.putI (10 * x + d) (10 * (x : Int) + d) (by simp)
           revert HW6
           generalize ((((((w5.setCell ⟨w.heap.size, 0, none⟩ (.int .u64 (10 * (x : Int) + d))).setCell ⟨w.heap.size, 1, none⟩ (.int .u64 0)).setCell ⟨w.heap.size, 2, none⟩ (.int .u64 0)).setCell ⟨w.heap.size, 3, none⟩ (.int .u64 0)).setCell ⟨w.heap.size, 4, none⟩ (.int .u64 0)).setCell ⟨w.heap.size, 5, none⟩ (.int .u64 0)) = W6
           intro HW6)
        all_goals (clear HW5 HW4 HW3 k0 k1 k2 k3 k4 k5 m0 m1 m2 m3 m4 m5 f0 f1 f2 f3 f4 f5 c0 c1 c2 c3 c4 c5 hb4 hb5)
        all_goals have HW6 : Hid (PW w (10 * x + d) W6) := HW6
        all_goals have c3 := HW6.out.c 3 _ rfl
        all_goals go_wp2
        all_goals refine ⟨⟨i + 1, by omega, congrArg n64 E3.out.symm, rfl, ?_⟩, ?_⟩
        all_goals first
          | (show PW w (V (i + 1)) _; rw [E4.out, ← HX.out]; exact HW6)
          | (simp only [intOf]; omega)
    · have hiN : i = n := by omega
      subst hiN
      clear hin hi
      rcases hE.out with ⟨e1, e2, e3⟩ | ⟨q, k, e1, e2, e3, e4, e5, e6, e7⟩
      · have EE : Hid (V i * 10 ^ (4 - 0) = m) := e3
        clear e3
        rw [e1]
        clear e1
        have hne := toList_ne (T := T) (by omega)
        have hbi := HB.out 0 (by omega)
        by_cases hi1 : 1 < i
        · have h48 : ((B 0 : Int) == 48) = false := by have := e2 hi1; rw [beq_eq_false_iff_ne]; omega
          have hd1 : decide (1 < (i : Int)) = true := decide_eq_true (by omega)
          clear e2
          go_wp2
          go_loopw [10] (fun v10 wr => ∃ j y : Nat, j ≤ 4 ∧ v10 = n64 j ∧ Hid (y * 10 ^ (4 - j) = m) ∧ Hid (PW w y wr)) (fun v10 _ => (4 - intOf v10).toNat)
          case atStart => exact ⟨0, V i, Nat.zero_le _, rfl, EE, HW⟩
          case round =>
            obtain ⟨j, y, hj, rfl, HY, HP⟩ := hrel
            by_cases hj4 : j < 4
            · obtain ⟨s1, s2⟩ := pow_step HY.out hj4
              have HS1 : Hid (10 * y * 10 ^ (4 - (j + 1)) = m) := s1
              have s3 : 10 * y < 4294967296 := by omega
              have wj : IntKind.i64.wrap ((j : Int) + 1) = j + 1 := by rw [IntKind.wrap_i64]; omega
              have wj2 : wrap64 ((j : Int) + 1) = j + 1 := by unfold wrap64; omega
              clear s1
              obtain ⟨c0, c1, c2, c3, c4, c5⟩ := HP.out.all
              go_wp2_with (first
                | (go_at_call 44; refine (times_w y s3 _).mono ?_; rintro e w1 ⟨rfl, hb1⟩
                   have HP2 : Hid (PW w y w1) := HP.out.mv hb1
                   clear c0 c1 c2 c3 c4 c5
                   obtain ⟨c0, c1, c2, c3, c4, c5⟩ := HP2.out.all
                   have f0 := HP2.out.f 0
                   have f1 := HP2.out.f 1
                   have f2 := HP2.out.f 2
                   have f3 := HP2.out.f 3
                   have f4 := HP2.out.f 4
                   have f5 := HP2.out.f 5)
                | fail)
              refine ⟨⟨j + 1, 10 * y, ?_, ?_, ?_, ?_⟩, ?_⟩
              · omega
              · rfl
              · exact HS1
              · exact HP2.out.putI (10 * y) (10 * (y : Int)) (by simp)
              · simp only [intOf]; omega
            · have hj5 : j = 4 := by omega
              subst hj5
              have hym : y = m := by have := HY.out; simpa using this
              subst hym
              obtain ⟨c0, c1, c2, c3, c4, c5⟩ := HP.out.all
              go_wp2_with (first
                | (go_at_call 47; refine (fix_pos y (by omega) _).mono ?_; rintro e w1 ⟨rfl, hb1⟩)
                | fail)
              go_ret2
              exact ⟨rfl, (HP.out.mv hb1).below⟩
        · have hd1 : decide (1 < (i : Int)) = false := decide_eq_false (by omega)
          clear e2
          go_wp2
          go_loopw [10] (fun v10 wr => ∃ j y : Nat, j ≤ 4 ∧ v10 = n64 j ∧ Hid (y * 10 ^ (4 - j) = m) ∧ Hid (PW w y wr)) (fun v10 _ => (4 - intOf v10).toNat)
          case atStart => exact ⟨0, V i, Nat.zero_le _, rfl, EE, HW⟩
          case round =>
            obtain ⟨j, y, hj, rfl, HY, HP⟩ := hrel
            by_cases hj4 : j < 4
            · obtain ⟨s1, s2⟩ := pow_step HY.out hj4
              have HS1 : Hid (10 * y * 10 ^ (4 - (j + 1)) = m) := s1
              have s3 : 10 * y < 4294967296 := by omega
              have wj : IntKind.i64.wrap ((j : Int) + 1) = j + 1 := by rw [IntKind.wrap_i64]; omega
              have wj2 : wrap64 ((j : Int) + 1) = j + 1 := by unfold wrap64; omega
              clear s1
              obtain ⟨c0, c1, c2, c3, c4, c5⟩ := HP.out.all
              go_wp2_with (first
                | (go_at_call 44; refine (times_w y s3 _).mono ?_; rintro e w1 ⟨rfl, hb1⟩
                   have HP2 : Hid (PW w y w1) := HP.out.mv hb1
                   clear c0 c1 c2 c3 c4 c5
                   obtain ⟨c0, c1, c2, c3, c4, c5⟩ := HP2.out.all
                   have f0 := HP2.out.f 0
                   have f1 := HP2.out.f 1
                   have f2 := HP2.out.f 2
                   have f3 := HP2.out.f 3
                   have f4 := HP2.out.f 4
                   have f5 := HP2.out.f 5)
                | fail)
              refine ⟨⟨j + 1, 10 * y, ?_, ?_, ?_, ?_⟩, ?_⟩
              · omega
              · rfl
              · exact HS1
              · exact HP2.out.putI (10 * y) (10 * (y : Int)) (by simp)
              · simp only [intOf]; omega
            · have hj5 : j = 4 := by omega
              subst hj5
              have hym : y = m := by have := HY.out; simpa using this
              subst hym
              obtain ⟨c0, c1, c2, c3, c4, c5⟩ := HP.out.all
              go_wp2_with (first
                | (go_at_call 47; refine (fix_pos y (by omega) _).mono ?_; rintro e w1 ⟨rfl, hb1⟩)
                | fail)
              go_ret2
              exact ⟨rfl, (HP.out.mv hb1).below⟩
      · have EE : Hid (V i * 10 ^ (4 - k) = m) := e7
        clear e7
        rw [e1]
        clear e1
        obtain ⟨U, hU⟩ : ∃ U, T.extract 0 q = U := ⟨_, rfl⟩
        have hUs : U.size = q := by rw [← hU]; simp; omega
        have hU0 : ∀ h, (U[0]'h).toNat = B 0 := by
          intro h
          rw [← HB.out 0 (by omega)]
          subst hU
          simp [ByteArray.getElem_extract]
        have hbi := hU0 (by omega)
        have hne := toList_ne (T := U) (by omega)
        have hsub : wrap64 (wrap64 ((i : Int) - q) - 1) = k := by unfold wrap64; omega
        have hsub2 : (i : Int) - q - 1 = k := by omega
        have hq0 : decide ((0 : Int) ≤ q) = true := decide_eq_true (by omega)
        have hk1 : decide ((k : Int) < 1) = false := decide_eq_false (by omega)
        have hk4 : decide (4 < (k : Int)) = false := decide_eq_false (by omega)
        by_cases hi1 : 1 < q
        · have h48 : ((B 0 : Int) == 48) = false := by have := e6 hi1; rw [beq_eq_false_iff_ne]; omega
          have hd1 : decide (1 < (q : Int)) = true := decide_eq_true (by omega)
          clear e6
          go_wp2
          have HK4 : Hid (k ≤ 4) := e5
          clear hsub hsub2 hq0 hk1 hk4 hd1 hbi hU0 hU hne e2 e3 e4 e5 hi1 hUs
          go_loopw [10] (fun v10 wr => ∃ j y : Nat, j ≤ 4 ∧ v10 = n64 j ∧ Hid (y * 10 ^ (4 - j) = m) ∧ Hid (PW w y wr)) (fun v10 _ => (4 - intOf v10).toNat)
          case atStart => exact ⟨k, V i, HK4.out, rfl, EE, HW⟩
          case round =>
            obtain ⟨j, y, hj, rfl, HY, HP⟩ := hrel
            by_cases hj4 : j < 4
            · obtain ⟨s1, s2⟩ := pow_step HY.out hj4
              have HS1 : Hid (10 * y * 10 ^ (4 - (j + 1)) = m) := s1
              have s3 : 10 * y < 4294967296 := by omega
              have wj : IntKind.i64.wrap ((j : Int) + 1) = j + 1 := by rw [IntKind.wrap_i64]; omega
              have wj2 : wrap64 ((j : Int) + 1) = j + 1 := by unfold wrap64; omega
              clear s1
              obtain ⟨c0, c1, c2, c3, c4, c5⟩ := HP.out.all
              go_wp2_with (first
                | (go_at_call 44; refine (times_w y s3 _).mono ?_; rintro e w1 ⟨rfl, hb1⟩
                   have HP2 : Hid (PW w y w1) := HP.out.mv hb1
                   clear c0 c1 c2 c3 c4 c5
                   obtain ⟨c0, c1, c2, c3, c4, c5⟩ := HP2.out.all
                   have f0 := HP2.out.f 0
                   have f1 := HP2.out.f 1
                   have f2 := HP2.out.f 2
                   have f3 := HP2.out.f 3
                   have f4 := HP2.out.f 4
                   have f5 := HP2.out.f 5)
                | fail)
              refine ⟨⟨j + 1, 10 * y, ?_, ?_, ?_, ?_⟩, ?_⟩
              · omega
              · rfl
              · exact HS1
              · exact HP2.out.putI (10 * y) (10 * (y : Int)) (by simp)
              · simp only [intOf]; omega
            · have hj5 : j = 4 := by omega
              subst hj5
              have hym : y = m := by have := HY.out; simpa using this
              subst hym
              obtain ⟨c0, c1, c2, c3, c4, c5⟩ := HP.out.all
              go_wp2_with (first
                | (go_at_call 47; refine (fix_pos y (by omega) _).mono ?_; rintro e w1 ⟨rfl, hb1⟩)
                | fail)
              go_ret2
              exact ⟨rfl, (HP.out.mv hb1).below⟩
        · have hd1 : decide (1 < (q : Int)) = false := decide_eq_false (by omega)
          clear e6
          go_wp2
          have HK4 : Hid (k ≤ 4) := e5
          clear hsub hsub2 hq0 hk1 hk4 hd1 hbi hU0 hU hne e2 e3 e4 e5 hi1 hUs
          go_loopw [10] (fun v10 wr => ∃ j y : Nat, j ≤ 4 ∧ v10 = n64 j ∧ Hid (y * 10 ^ (4 - j) = m) ∧ Hid (PW w y wr)) (fun v10 _ => (4 - intOf v10).toNat)
          case atStart => exact ⟨k, V i, HK4.out, rfl, EE, HW⟩
          case round =>
            obtain ⟨j, y, hj, rfl, HY, HP⟩ := hrel
            by_cases hj4 : j < 4
            · obtain ⟨s1, s2⟩ := pow_step HY.out hj4
              have HS1 : Hid (10 * y * 10 ^ (4 - (j + 1)) = m) := s1
              have s3 : 10 * y < 4294967296 := by omega
              have wj : IntKind.i64.wrap ((j : Int) + 1) = j + 1 := by rw [IntKind.wrap_i64]; omega
              have wj2 : wrap64 ((j : Int) + 1) = j + 1 := by unfold wrap64; omega
              clear s1
              obtain ⟨c0, c1, c2, c3, c4, c5⟩ := HP.out.all
              go_wp2_with (first
                | (go_at_call 44; refine (times_w y s3 _).mono ?_; rintro e w1 ⟨rfl, hb1⟩
                   have HP2 : Hid (PW w y w1) := HP.out.mv hb1
                   clear c0 c1 c2 c3 c4 c5
                   obtain ⟨c0, c1, c2, c3, c4, c5⟩ := HP2.out.all
                   have f0 := HP2.out.f 0
                   have f1 := HP2.out.f 1
                   have f2 := HP2.out.f 2
                   have f3 := HP2.out.f 3
                   have f4 := HP2.out.f 4
                   have f5 := HP2.out.f 5)
                | fail)
              refine ⟨⟨j + 1, 10 * y, ?_, ?_, ?_, ?_⟩, ?_⟩
              · omega
              · rfl
              · exact HS1
              · exact HP2.out.putI (10 * y) (10 * (y : Int)) (by simp)
              · simp only [intOf]; omega
            · have hj5 : j = 4 := by omega
              subst hj5
              have hym : y = m := by have := HY.out; simpa using this
              subst hym
              obtain ⟨c0, c1, c2, c3, c4, c5⟩ := HP.out.all
              go_wp2_with (first
                | (go_at_call 47; refine (fix_pos y (by omega) _).mono ?_; rintro e w1 ⟨rfl, hb1⟩)
                | fail)
              go_ret2
              exact ⟨rfl, (HP.out.mv hb1).below⟩
end Go.Proofs.YtgbdldcpndfebaaGreatDoor
