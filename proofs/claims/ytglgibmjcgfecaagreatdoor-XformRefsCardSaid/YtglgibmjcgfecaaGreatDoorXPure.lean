/- XformFollows, in plain Lean: lines, where a number goes behind one, a place behind some of them. -/
set_option linter.unusedSimpArgs false
set_option linter.unusedVariables false
namespace Go.Xf

structure Ln where
  k : Int
  a : Int
  t : Int
  deriving Inhabited

def top : Int := 2199023255552
def far : Int := 1152921504606846976

def MayL (l : Ln) : Prop := 0 ≤ l.a ∧ l.a < 2199023255552 ∧ 0 ≤ l.t ∧ l.t < 2199023255552 ∧ ((l.k = 1 ∨ l.k = 2) ∧ l.t = 0 ∨ l.k = 3 ∧ l.t ≠ l.a ∧ l.t ≠ l.a + 1)
instance (l : Ln) : Decidable (MayL l) := by unfold MayL; infer_instance
def mayL (l : Ln) : Bool := decide (MayL l)

def less (n a : Int) : Int := if a < n then n - 1 else n
def idx (l : Ln) (i : Int) : Int :=
  if ¬ MayL l ∨ i < 0 ∨ 1152921504606846976 < i then -1
  else if l.k = 1 then (if l.a ≤ i then i + 1 else i)
  else if l.k = 2 then (if i = l.a then -1 else less i l.a)
  else if i = l.a then less l.t l.a
  else if less l.t l.a ≤ less i l.a then less i l.a + 1 else less i l.a

theorem less_lo {n a : Int} (h : 0 ≤ n) (ha : 0 ≤ a) : 0 ≤ less n a := by unfold less; split <;> omega
theorem less_hi {n a : Int} : less n a ≤ n := by unfold less; split <;> omega
theorem less_low {n a : Int} : n - 1 ≤ less n a := by unfold less; split <;> omega
theorem idx_lo (l : Ln) (i : Int) : -1 ≤ idx l i := by
  unfold idx; split
  · omega
  · next h =>
    have hm : MayL l := by by_cases hm : MayL l; exact hm; exact absurd (.inl hm) h
    have hi : 0 ≤ i := by by_cases hi : 0 ≤ i; exact hi; exact absurd (.inr (.inl (by omega))) h
    have := less_lo (n := i) hi hm.1
    have := less_lo (n := l.t) hm.2.2.1 hm.1
    repeat' split
    all_goals omega
theorem idx_hi (l : Ln) (i : Int) (h : i < 2199023255552) : idx l i ≤ 2199023255552 := by
  unfold idx; split
  · omega
  · next h =>
    have hm : MayL l := by by_cases hm : MayL l; exact hm; exact absurd (.inl hm) h
    have := less_hi (n := i) (a := l.a)
    have := less_hi (n := l.t) (a := l.a)
    have := hm.2.2.2.1
    repeat' split
    all_goals omega

/-- Is a place on a sheet? -/
def On (p : Int × Int) : Prop := 0 ≤ p.1 ∧ 0 ≤ p.2 ∧ p.1 < 2199023255552 ∧ p.2 < 2199023255552
instance (p : Int × Int) : Decidable (On p) := by unfold On; infer_instance

/-- A place behind an operation on lines. -/
def step (b : Bool × Ln) (p : Int × Int) : Int × Int :=
  if On p then (if b.1 then (idx b.2 p.1, p.2) else (p.1, idx b.2 p.2)) else p

def steps : List (Bool × Ln) → Int × Int → Int × Int
  | [], p => p
  | b :: l, p => steps l (step b p)

theorem steps_snoc : ∀ (l : List (Bool × Ln)) (b : Bool × Ln) (p : Int × Int), steps (l ++ [b]) p = step b (steps l p)
  | [], _, _ => rfl
  | _ :: l, b, p => by simp only [List.cons_append, steps]; exact steps_snoc l b _

def Wide (p : Int × Int) : Prop := -1 ≤ p.1 ∧ -1 ≤ p.2 ∧ p.1 ≤ 2199023255552 ∧ p.2 ≤ 2199023255552
theorem step_wide {b : Bool × Ln} {p : Int × Int} (h : Wide p) : Wide (step b p) := by
  unfold step; split
  · next ho =>
    obtain ⟨h1, h2, h3, h4⟩ := h
    split
    · exact ⟨idx_lo _ _, h2, idx_hi _ _ ho.2.2.1, h4⟩
    · exact ⟨h1, idx_lo _ _, h3, idx_hi _ _ ho.2.2.2⟩
  · exact h
theorem steps_wide : ∀ (l : List (Bool × Ln)) {p : Int × Int}, Wide p → Wide (steps l p)
  | [], _, h => h
  | _ :: l, _, h => steps_wide l (step_wide h)
theorem step_off {b : Bool × Ln} {p : Int × Int} (h : ¬ On p) : step b p = p := by unfold step; rw [if_neg h]
theorem steps_off : ∀ (l : List (Bool × Ln)) {p : Int × Int}, ¬ On p → steps l p = p
  | [], _, _ => rfl
  | _ :: l, _, h => by rw [steps, step_off h]; exact steps_off l h

/-- The first n of some lines, those that may be, with what they are on. -/
def pick (ls : List Ln) (rows : List Bool) : Nat → List (Bool × Ln)
  | 0 => []
  | n + 1 => pick ls rows n ++ (if MayL ls[n]! then [(if h : n < rows.length then rows[n] else false, ls[n]!)] else [])
theorem pick_may (ls : List Ln) (rows : List Bool) : ∀ n, ∀ b ∈ pick ls rows n, MayL b.2
  | 0, _, h => by cases h
  | n + 1, b, h => by
    rw [pick, List.mem_append] at h
    rcases h with h | h
    · exact pick_may ls rows n b h
    · split at h
      · next hm => simp only [List.mem_singleton] at h; subst h; exact hm
      · cases h
theorem pick_len (ls : List Ln) (rows : List Bool) : ∀ n, (pick ls rows n).length ≤ n
  | 0 => Nat.le_refl _
  | n + 1 => by
    rw [pick, List.length_append]
    have := pick_len ls rows n
    split <;> simp <;> omega
end Go.Xf
namespace Go.Xf
theorem mayL_eq (l : Ln) : mayL l = true ↔ MayL l := by unfold mayL; exact decide_eq_true_iff
end Go.Xf

