/- CalcClone, in plain Lean: a number's digits, and the number that some digits are. -/
set_option linter.unusedVariables false
namespace Go.Cc

/-- A number's digits. -/
def digs (n : Nat) : List Nat := if h : n < 10 then [n] else digs (n / 10) ++ [n % 10]
termination_by n
decreasing_by omega

/-- The digits ahead of some that stand already. -/
def digsA (n : Nat) (s : List Nat) : List Nat := if h : n = 0 then (if s = [] then [0] else s) else digsA (n / 10) (n % 10 :: s)
termination_by n
decreasing_by omega

theorem digs_lt {n : Nat} (h : n < 10) : digs n = [n] := by rw [digs, dif_pos h]
theorem digs_ge {n : Nat} (h : ¬ n < 10) : digs n = digs (n / 10) ++ [n % 10] := by rw [digs, dif_neg h]

theorem digsA_pos : ∀ (n : Nat) (s : List Nat), 0 < n → digsA n s = digs n ++ s := by
  intro n
  induction n using Nat.strongRecOn with
  | ind n ih =>
    intro s hn
    rw [digsA, dif_neg (by omega)]
    by_cases h : n < 10
    · rw [show n / 10 = 0 by omega, show n % 10 = n by omega, digs_lt h, digsA, dif_pos rfl]
      simp
    · rw [ih (n / 10) (by omega) _ (by omega), digs_ge h]
      simp
theorem digsA_nil (n : Nat) : digsA n [] = digs n := by
  by_cases h : n = 0
  · subst h; rw [digsA, dif_pos rfl, digs_lt (by omega)]; rfl
  · rw [digsA_pos n [] (by omega), List.append_nil]
theorem digsA_step {n : Nat} {s : List Nat} (h : 0 < n ∨ s = []) : digsA n s = digsA (n / 10) (n % 10 :: s) := by
  rcases h with h | h
  · rw [digsA, dif_neg (by omega)]
  · by_cases hn : n = 0
    · subst hn; subst h; rw [digsA, dif_pos rfl, digsA, dif_pos (by omega)]; simp
    · rw [digsA, dif_neg hn]
theorem digsA_end {s : List Nat} (h : s ≠ []) : digsA 0 s = s := by rw [digsA, dif_pos rfl, if_neg h]

def val (l : List Nat) (w : Nat) : Nat := l.foldl (fun w d => 10 * w + d) w
theorem val_append (l k : List Nat) (w : Nat) : val (l ++ k) w = val k (val l w) := List.foldl_append ..
theorem val_digs (n : Nat) : val (digs n) 0 = n := by
  induction n using Nat.strongRecOn with
  | ind n ih =>
    by_cases h : n < 10
    · rw [digs_lt h]; simp [val]
    · rw [digs_ge h, val_append, ih (n / 10) (by omega)]; simp [val]; omega
theorem digs_small (n : Nat) : ∀ d ∈ digs n, d < 10 := by
  induction n using Nat.strongRecOn with
  | ind n ih =>
    intro d hd
    by_cases h : n < 10
    · rw [digs_lt h] at hd; simp at hd; omega
    · rw [digs_ge h] at hd
      rcases List.mem_append.1 hd with hd | hd
      · exact ih _ (by omega) d hd
      · simp at hd; omega
theorem digs_ne (n : Nat) : digs n ≠ [] := by
  by_cases h : n < 10
  · rw [digs_lt h]; simp
  · rw [digs_ge h]; simp
theorem digs_head (n : Nat) (h : 0 < n) : ∃ d l, digs n = d :: l ∧ 0 < d := by
  induction n using Nat.strongRecOn with
  | ind n ih =>
    by_cases h1 : n < 10
    · exact ⟨n, [], digs_lt h1, h⟩
    · obtain ⟨d, l, e, hd⟩ := ih (n / 10) (by omega) (by omega)
      exact ⟨d, l ++ [n % 10], by rw [digs_ge h1, e]; rfl, hd⟩
theorem digs_len : ∀ (k n : Nat), n < 10 ^ (k + 1) → (digs n).length ≤ k + 1
  | 0, n, h => by rw [digs_lt (by simpa using h)]; simp
  | k + 1, n, h => by
    by_cases h1 : n < 10
    · rw [digs_lt h1]; simp
    · rw [digs_ge h1, List.length_append]
      have := digs_len k (n / 10) (by rw [Nat.pow_succ] at h; omega)
      simp; omega

/-- Four digits behind the point. -/
def t4 (r : Nat) : List Nat := [r / 1000, r / 100 % 10, r / 10 % 10, r % 10]
theorem digs_frac (r : Nat) (h : r < 10000) : digs (10000 + r) = 1 :: t4 r := by
  rw [digs_ge (by omega), digs_ge (by omega), digs_ge (by omega), digs_ge (by omega), digs_lt (by omega)]
  simp only [t4, List.cons_append, List.nil_append, List.cons.injEq, and_true]
  refine ⟨?_, ?_, ?_, ?_, ?_⟩ <;> omega
/-- How many of them there are when those that are 0 are taken off at the end. -/
def keep (r : Nat) : Nat := if r % 10 ≠ 0 then 4 else if r / 10 % 10 ≠ 0 then 3 else if r / 100 % 10 ≠ 0 then 2 else 1
theorem keep_le (r : Nat) : 1 ≤ keep r ∧ keep r ≤ 4 := by unfold keep; split <;> (try split) <;> (try split) <;> omega
theorem keep_val (r w : Nat) (h : r < 10000) : val ((t4 r).take (keep r)) w * 10 ^ (4 - keep r) = w * 10000 + r := by
  unfold keep
  split
  · simp [t4, val]; omega
  · split
    · simp [t4, val]; omega
    · split
      · simp [t4, val]; omega
      · simp [t4, val]; omega
theorem t4_small (r : Nat) (h : r < 10000) : ∀ d ∈ t4 r, d < 10 := by
  intro d hd
  simp [t4] at hd
  omega
end Go.Cc
