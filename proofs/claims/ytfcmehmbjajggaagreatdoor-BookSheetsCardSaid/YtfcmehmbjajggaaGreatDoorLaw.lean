/- Proved: the card of counterpane/counterpanelaw14.BookSheets: for all n and gone the call returns true on every schedule and leaves memory as it was, where the listed package-level variables read as listed (the tie to the program's text is the given one). The runs are evaluated by the kernel, case by case, through a proved evaluator; numbers out of bounds are known by their bounds alone; the sorting of a map's keys and the walk over a map of empty sheets are walked by hand. -/
import Derived.Test.YtfcmehmbjajggaaGreatDoorCodeO
import Derived.Test.YtfcmehmbjajggaaGreatDoorCodeR0
import Derived.Test.YtfcmehmbjajggaaGreatDoorCodeR1
import Derived.Test.YtfcmehmbjajggaaGreatDoorCodeR2
import Derived.Test.YtfcmehmbjajggaaGreatDoorCodeR3
import Derived.Test.YtfcmehmbjajggaaGreatDoorCodeR4
import Derived.Test.YtfcmehmbjajggaaGreatDoorCodeR5
import Derived.Test.YtfcmehmbjajggaaGreatDoorCards
import Derived.Test.YtfcmehmbjajggaaGreatDoorTie
import Derived.WalkKit
import Derived.ProofKit
import Derived.OpenShut
import Derived.ChangeOld
import Derived.SizedLaws
import Derived.Lay
import Derived.LaidMore
import Derived.LaidOnce
import Derived.SevenTiedAt
namespace Go.Proofs.YtfcmehmbjajggaaGreatDoor
open Go Go.ChangeShapes Go.WideShapes Go.ChangeAt Go.RowKit Go.Proofs Go.Eng
set_option maxRecDepth 100000
set_option linter.unusedVariables false
theorem own : ownKnob Go.Proofs.Tryz.prog.godebug = none := by kernel_rfl
/-- Numbers of which the bounds are known. -/
abbrev parEnv (pr : Nat → Int) : Env := ⟨fun _ => none, fun _ _ h => (by cases h), fun _ _ h => (by cases h), pr⟩
theorem par_run (pr : Nat → Int) {args : List V} {xs : List Value} (hrun : Code.run args = true) (hargs : @concs (parEnv pr) (fun _ => none) args = some xs) (w : World) :
    Calls Go.Proofs.Tryz.prog 3 xs.toArray w fun e w' => e = .returned (.bool true) ∧ Below w.heap.size w w' :=
  @calls_gen (parEnv pr) Go.Proofs.Tryz.prog 0 Code.tabO (by kernel_rfl) (@Code.tabO_ok (parEnv pr)) 1000000 Code.q3 args xs (fun _ => none) ⟨.nil, .e⟩ hrun hargs w
    (@HRel.mk (parEnv pr) _ _ _ (fun _ _ h => (by cases h)) (fun _ _ h => (by cases h)) (fun _ h => (by cases h)) (fun _ _ _ _ h => (by cases h)) (fun _ _ h => (by cases h))) (fun _ => rfl) ⟨fun g _ hg => (by simp at hg), show @FactOk (parEnv pr) 0 0 from trivial⟩
theorem par_args {k : Nat} {a lo hi : Int} (h1 : lo ≤ a) (h2 : a ≤ hi) : @concs (parEnv fun _ => a) (fun _ => none) [Code.n6 k, .y 1 0 lo hi] = some [.int .i64 k, .int .i64 a] := by
  have e1 : @conc (parEnv fun _ => a) (fun _ => none) (.y 1 0 lo hi) = some (.int .i64 a) := by
    show yV (a + 0) lo hi = _
    rw [Int.add_zero]
    exact if_pos ⟨h1, h2⟩
  simp only [concs, e1]
  rfl
theorem num_args (k g : Nat) : @concs (parEnv fun _ => 0) (fun _ => none) [Code.n6 k, Code.n6 g] = some [.int .i64 k, .int .i64 g] := rfl
theorem walk0 (a1 : Int) (h : -9223372036854775808 ≤ a1 ∧ a1 ≤ 9223372036854775807) (w : World) : Calls Go.Proofs.Tryz.prog 3 #[.int .i64 0, .int .i64 a1] w fun e w' => e = .returned (.bool true) ∧ Below w.heap.size w w' := by
  have hr := Code.ends0
  simp only [Bool.and_eq_true] at hr
  obtain ⟨r1, r2⟩ := hr
  by_cases h1 : a1 < 0
  · exact par_run (fun _ => a1) r1 (par_args (k := 0) (by omega) (by omega)) w
  by_cases h2 : 0 ≤ a1
  · exact par_run (fun _ => a1) r2 (par_args (k := 0) (by omega) (by omega)) w
  exact absurd h2 (by omega)
theorem walk1 (a1 : Int) (h : -9223372036854775808 ≤ a1 ∧ a1 ≤ 9223372036854775807) (w : World) : Calls Go.Proofs.Tryz.prog 3 #[.int .i64 1, .int .i64 a1] w fun e w' => e = .returned (.bool true) ∧ Below w.heap.size w w' := by
  have hr := Code.ends1
  simp only [Bool.and_eq_true] at hr
  obtain ⟨r1, r2⟩ := hr
  by_cases h1 : a1 < 0
  · exact par_run (fun _ => a1) r1 (par_args (k := 1) (by omega) (by omega)) w
  by_cases h2 : 1 ≤ a1
  · exact par_run (fun _ => a1) r2 (par_args (k := 1) (by omega) (by omega)) w
  obtain ⟨g, rfl⟩ : ∃ g : Nat, a1 = g := ⟨a1.toNat, by omega⟩
  have hg : g ∈ [0] := by simp; omega
  exact par_run (fun _ => 0) (List.all_eq_true.1 Code.gone1 g hg) (num_args 1 g) w
theorem walk2 (a1 : Int) (h : -9223372036854775808 ≤ a1 ∧ a1 ≤ 9223372036854775807) (w : World) : Calls Go.Proofs.Tryz.prog 3 #[.int .i64 2, .int .i64 a1] w fun e w' => e = .returned (.bool true) ∧ Below w.heap.size w w' := by
  have hr := Code.ends2
  simp only [Bool.and_eq_true] at hr
  obtain ⟨r1, r2⟩ := hr
  by_cases h1 : a1 < 0
  · exact par_run (fun _ => a1) r1 (par_args (k := 2) (by omega) (by omega)) w
  by_cases h2 : 2 ≤ a1
  · exact par_run (fun _ => a1) r2 (par_args (k := 2) (by omega) (by omega)) w
  obtain ⟨g, rfl⟩ : ∃ g : Nat, a1 = g := ⟨a1.toNat, by omega⟩
  have hg : g ∈ [0, 1] := by simp; omega
  exact par_run (fun _ => 0) (List.all_eq_true.1 Code.gone2 g hg) (num_args 2 g) w
theorem walk3 (a1 : Int) (h : -9223372036854775808 ≤ a1 ∧ a1 ≤ 9223372036854775807) (w : World) : Calls Go.Proofs.Tryz.prog 3 #[.int .i64 3, .int .i64 a1] w fun e w' => e = .returned (.bool true) ∧ Below w.heap.size w w' := by
  have hr := Code.ends3
  simp only [Bool.and_eq_true] at hr
  obtain ⟨r1, r2⟩ := hr
  by_cases h1 : a1 < 0
  · exact par_run (fun _ => a1) r1 (par_args (k := 3) (by omega) (by omega)) w
  by_cases h2 : 3 ≤ a1
  · exact par_run (fun _ => a1) r2 (par_args (k := 3) (by omega) (by omega)) w
  obtain ⟨g, rfl⟩ : ∃ g : Nat, a1 = g := ⟨a1.toNat, by omega⟩
  have hg : g ∈ [0, 1, 2] := by simp; omega
  exact par_run (fun _ => 0) (List.all_eq_true.1 Code.gone3 g hg) (num_args 3 g) w
theorem walk4 (a1 : Int) (h : -9223372036854775808 ≤ a1 ∧ a1 ≤ 9223372036854775807) (w : World) : Calls Go.Proofs.Tryz.prog 3 #[.int .i64 4, .int .i64 a1] w fun e w' => e = .returned (.bool true) ∧ Below w.heap.size w w' := by
  have hr := Code.ends4
  simp only [Bool.and_eq_true] at hr
  obtain ⟨r1, r2⟩ := hr
  by_cases h1 : a1 < 0
  · exact par_run (fun _ => a1) r1 (par_args (k := 4) (by omega) (by omega)) w
  by_cases h2 : 4 ≤ a1
  · exact par_run (fun _ => a1) r2 (par_args (k := 4) (by omega) (by omega)) w
  obtain ⟨g, rfl⟩ : ∃ g : Nat, a1 = g := ⟨a1.toNat, by omega⟩
  have hg : g ∈ [0, 1, 2, 3] := by simp; omega
  exact par_run (fun _ => 0) (List.all_eq_true.1 Code.gone4 g hg) (num_args 4 g) w
theorem walk5 (a1 : Int) (h : -9223372036854775808 ≤ a1 ∧ a1 ≤ 9223372036854775807) (w : World) : Calls Go.Proofs.Tryz.prog 3 #[.int .i64 5, .int .i64 a1] w fun e w' => e = .returned (.bool true) ∧ Below w.heap.size w w' := by
  have hr := Code.ends5
  simp only [Bool.and_eq_true] at hr
  obtain ⟨r1, r2⟩ := hr
  by_cases h1 : a1 < 0
  · exact par_run (fun _ => a1) r1 (par_args (k := 5) (by omega) (by omega)) w
  by_cases h2 : 5 ≤ a1
  · exact par_run (fun _ => a1) r2 (par_args (k := 5) (by omega) (by omega)) w
  obtain ⟨g, rfl⟩ : ∃ g : Nat, a1 = g := ⟨a1.toNat, by omega⟩
  have hg : g ∈ [0, 1, 2, 3, 4] := by simp; omega
  exact par_run (fun _ => 0) (List.all_eq_true.1 Code.gone5 g hg) (num_args 5 g) w
theorem walk6 (a1 : Int) (h : -9223372036854775808 ≤ a1 ∧ a1 ≤ 9223372036854775807) (w : World) : Calls Go.Proofs.Tryz.prog 3 #[.int .i64 6, .int .i64 a1] w fun e w' => e = .returned (.bool true) ∧ Below w.heap.size w w' := by
  have hr := Code.ends6
  simp only [Bool.and_eq_true] at hr
  obtain ⟨r1, r2⟩ := hr
  by_cases h1 : a1 < 0
  · exact par_run (fun _ => a1) r1 (par_args (k := 6) (by omega) (by omega)) w
  by_cases h2 : 6 ≤ a1
  · exact par_run (fun _ => a1) r2 (par_args (k := 6) (by omega) (by omega)) w
  obtain ⟨g, rfl⟩ : ∃ g : Nat, a1 = g := ⟨a1.toNat, by omega⟩
  have hg : g ∈ [0, 1, 2, 3, 4, 5] := by simp; omega
  exact par_run (fun _ => 0) (List.all_eq_true.1 Code.gone6 g hg) (num_args 6 g) w
theorem walk7 (a1 : Int) (h : -9223372036854775808 ≤ a1 ∧ a1 ≤ 9223372036854775807) (w : World) : Calls Go.Proofs.Tryz.prog 3 #[.int .i64 7, .int .i64 a1] w fun e w' => e = .returned (.bool true) ∧ Below w.heap.size w w' := by
  have hr := Code.ends7
  simp only [Bool.and_eq_true] at hr
  obtain ⟨r1, r2⟩ := hr
  by_cases h1 : a1 < 0
  · exact par_run (fun _ => a1) r1 (par_args (k := 7) (by omega) (by omega)) w
  by_cases h2 : 7 ≤ a1
  · exact par_run (fun _ => a1) r2 (par_args (k := 7) (by omega) (by omega)) w
  obtain ⟨g, rfl⟩ : ∃ g : Nat, a1 = g := ⟨a1.toNat, by omega⟩
  have hg : g ∈ [0, 1, 2, 3, 4, 5, 6] := by simp; omega
  exact par_run (fun _ => 0) (List.all_eq_true.1 Code.gone7 g hg) (num_args 7 g) w
theorem walk8 (a1 : Int) (h : -9223372036854775808 ≤ a1 ∧ a1 ≤ 9223372036854775807) (w : World) : Calls Go.Proofs.Tryz.prog 3 #[.int .i64 8, .int .i64 a1] w fun e w' => e = .returned (.bool true) ∧ Below w.heap.size w w' := by
  have hr := Code.ends8
  simp only [Bool.and_eq_true] at hr
  obtain ⟨r1, r2⟩ := hr
  by_cases h1 : a1 < 0
  · exact par_run (fun _ => a1) r1 (par_args (k := 8) (by omega) (by omega)) w
  by_cases h2 : 8 ≤ a1
  · exact par_run (fun _ => a1) r2 (par_args (k := 8) (by omega) (by omega)) w
  obtain ⟨g, rfl⟩ : ∃ g : Nat, a1 = g := ⟨a1.toNat, by omega⟩
  have hg : g ∈ [0, 1, 2, 3, 4, 5, 6, 7] := by simp; omega
  exact par_run (fun _ => 0) (List.all_eq_true.1 Code.gone8 g hg) (num_args 8 g) w
theorem walk9 (a1 : Int) (h : -9223372036854775808 ≤ a1 ∧ a1 ≤ 9223372036854775807) (w : World) : Calls Go.Proofs.Tryz.prog 3 #[.int .i64 9, .int .i64 a1] w fun e w' => e = .returned (.bool true) ∧ Below w.heap.size w w' := by
  have hr := Code.ends9
  simp only [Bool.and_eq_true] at hr
  obtain ⟨r1, r2⟩ := hr
  by_cases h1 : a1 < 0
  · exact par_run (fun _ => a1) r1 (par_args (k := 9) (by omega) (by omega)) w
  by_cases h2 : 9 ≤ a1
  · exact par_run (fun _ => a1) r2 (par_args (k := 9) (by omega) (by omega)) w
  obtain ⟨g, rfl⟩ : ∃ g : Nat, a1 = g := ⟨a1.toNat, by omega⟩
  have hg : g ∈ [0, 1, 2, 3, 4, 5, 6, 7, 8] := by simp; omega
  exact par_run (fun _ => 0) (List.all_eq_true.1 Code.gone9 g hg) (num_args 9 g) w
theorem walk10 (a1 : Int) (h : -9223372036854775808 ≤ a1 ∧ a1 ≤ 9223372036854775807) (w : World) : Calls Go.Proofs.Tryz.prog 3 #[.int .i64 10, .int .i64 a1] w fun e w' => e = .returned (.bool true) ∧ Below w.heap.size w w' := by
  have hr := Code.ends10
  simp only [Bool.and_eq_true] at hr
  obtain ⟨r1, r2⟩ := hr
  by_cases h1 : a1 < 0
  · exact par_run (fun _ => a1) r1 (par_args (k := 10) (by omega) (by omega)) w
  by_cases h2 : 10 ≤ a1
  · exact par_run (fun _ => a1) r2 (par_args (k := 10) (by omega) (by omega)) w
  obtain ⟨g, rfl⟩ : ∃ g : Nat, a1 = g := ⟨a1.toNat, by omega⟩
  have hg : g ∈ [0, 1, 2, 3, 4, 5, 6, 7, 8, 9] := by simp; omega
  exact par_run (fun _ => 0) (List.all_eq_true.1 Code.gone10 g hg) (num_args 10 g) w
theorem walk11 (a1 : Int) (h : -9223372036854775808 ≤ a1 ∧ a1 ≤ 9223372036854775807) (w : World) : Calls Go.Proofs.Tryz.prog 3 #[.int .i64 11, .int .i64 a1] w fun e w' => e = .returned (.bool true) ∧ Below w.heap.size w w' := by
  have hr := Code.ends11
  simp only [Bool.and_eq_true] at hr
  obtain ⟨r1, r2⟩ := hr
  by_cases h1 : a1 < 0
  · exact par_run (fun _ => a1) r1 (par_args (k := 11) (by omega) (by omega)) w
  by_cases h2 : 11 ≤ a1
  · exact par_run (fun _ => a1) r2 (par_args (k := 11) (by omega) (by omega)) w
  obtain ⟨g, rfl⟩ : ∃ g : Nat, a1 = g := ⟨a1.toNat, by omega⟩
  have hg : g ∈ [0, 1, 2, 3, 4, 5, 6, 7, 8, 9, 10] := by simp; omega
  exact par_run (fun _ => 0) (List.all_eq_true.1 Code.gone11 g hg) (num_args 11 g) w
theorem walk12 (a1 : Int) (h : -9223372036854775808 ≤ a1 ∧ a1 ≤ 9223372036854775807) (w : World) : Calls Go.Proofs.Tryz.prog 3 #[.int .i64 12, .int .i64 a1] w fun e w' => e = .returned (.bool true) ∧ Below w.heap.size w w' := by
  have hr := Code.ends12
  simp only [Bool.and_eq_true] at hr
  obtain ⟨r1, r2⟩ := hr
  by_cases h1 : a1 < 0
  · exact par_run (fun _ => a1) r1 (par_args (k := 12) (by omega) (by omega)) w
  by_cases h2 : 12 ≤ a1
  · exact par_run (fun _ => a1) r2 (par_args (k := 12) (by omega) (by omega)) w
  obtain ⟨g, rfl⟩ : ∃ g : Nat, a1 = g := ⟨a1.toNat, by omega⟩
  have hg : g ∈ [0, 1, 2, 3, 4, 5, 6, 7, 8, 9, 10, 11] := by simp; omega
  exact par_run (fun _ => 0) (List.all_eq_true.1 Code.gone12 g hg) (num_args 12 g) w
theorem walk13 (a1 : Int) (h : -9223372036854775808 ≤ a1 ∧ a1 ≤ 9223372036854775807) (w : World) : Calls Go.Proofs.Tryz.prog 3 #[.int .i64 13, .int .i64 a1] w fun e w' => e = .returned (.bool true) ∧ Below w.heap.size w w' := by
  have hr := Code.ends13
  simp only [Bool.and_eq_true] at hr
  obtain ⟨r1, r2⟩ := hr
  by_cases h1 : a1 < 0
  · exact par_run (fun _ => a1) r1 (par_args (k := 13) (by omega) (by omega)) w
  by_cases h2 : 13 ≤ a1
  · exact par_run (fun _ => a1) r2 (par_args (k := 13) (by omega) (by omega)) w
  obtain ⟨g, rfl⟩ : ∃ g : Nat, a1 = g := ⟨a1.toNat, by omega⟩
  have hg : g ∈ [0, 1, 2, 3, 4, 5, 6, 7, 8, 9, 10, 11, 12] := by simp; omega
  exact par_run (fun _ => 0) (List.all_eq_true.1 Code.gone13 g hg) (num_args 13 g) w
theorem walk14 (a1 : Int) (h : -9223372036854775808 ≤ a1 ∧ a1 ≤ 9223372036854775807) (w : World) : Calls Go.Proofs.Tryz.prog 3 #[.int .i64 14, .int .i64 a1] w fun e w' => e = .returned (.bool true) ∧ Below w.heap.size w w' := by
  have hr := Code.ends14
  simp only [Bool.and_eq_true] at hr
  obtain ⟨r1, r2⟩ := hr
  by_cases h1 : a1 < 0
  · exact par_run (fun _ => a1) r1 (par_args (k := 14) (by omega) (by omega)) w
  by_cases h2 : 14 ≤ a1
  · exact par_run (fun _ => a1) r2 (par_args (k := 14) (by omega) (by omega)) w
  obtain ⟨g, rfl⟩ : ∃ g : Nat, a1 = g := ⟨a1.toNat, by omega⟩
  have hg : g ∈ [0, 1, 2, 3, 4, 5, 6, 7, 8, 9, 10, 11, 12, 13] := by simp; omega
  exact par_run (fun _ => 0) (List.all_eq_true.1 Code.gone14 g hg) (num_args 14 g) w
theorem walk15 (a1 : Int) (h : -9223372036854775808 ≤ a1 ∧ a1 ≤ 9223372036854775807) (w : World) : Calls Go.Proofs.Tryz.prog 3 #[.int .i64 15, .int .i64 a1] w fun e w' => e = .returned (.bool true) ∧ Below w.heap.size w w' := by
  have hr := Code.ends15
  simp only [Bool.and_eq_true] at hr
  obtain ⟨r1, r2⟩ := hr
  by_cases h1 : a1 < 0
  · exact par_run (fun _ => a1) r1 (par_args (k := 15) (by omega) (by omega)) w
  by_cases h2 : 15 ≤ a1
  · exact par_run (fun _ => a1) r2 (par_args (k := 15) (by omega) (by omega)) w
  obtain ⟨g, rfl⟩ : ∃ g : Nat, a1 = g := ⟨a1.toNat, by omega⟩
  have hg : g ∈ [0, 1, 2, 3, 4, 5, 6, 7, 8, 9, 10, 11, 12, 13, 14] := by simp; omega
  exact par_run (fun _ => 0) (List.all_eq_true.1 Code.gone15 g hg) (num_args 15 g) w
theorem walk16 (a1 : Int) (h : -9223372036854775808 ≤ a1 ∧ a1 ≤ 9223372036854775807) (w : World) : Calls Go.Proofs.Tryz.prog 3 #[.int .i64 16, .int .i64 a1] w fun e w' => e = .returned (.bool true) ∧ Below w.heap.size w w' := by
  have hr := Code.ends16
  simp only [Bool.and_eq_true] at hr
  obtain ⟨⟨r1, r2⟩, r3⟩ := hr
  by_cases h1 : a1 < 0
  · exact par_run (fun _ => a1) r1 (par_args (k := 16) (by omega) (by omega)) w
  by_cases h2 : 16 ≤ a1
  · exact par_run (fun _ => a1) r2 (par_args (k := 16) (by omega) (by omega)) w
  by_cases h3 : 15 ≤ a1
  · exact par_run (fun _ => a1) r3 (par_args (k := 16) (by omega) (by omega)) w
  obtain ⟨g, rfl⟩ : ∃ g : Nat, a1 = g := ⟨a1.toNat, by omega⟩
  have hg : g ∈ [0, 1, 2, 3, 4, 5, 6, 7, 8, 9, 10, 11, 12, 13, 14] := by simp; omega
  exact par_run (fun _ => 0) (List.all_eq_true.1 Code.gone16 g hg) (num_args 16 g) w
theorem walk17 (a1 : Int) (h : -9223372036854775808 ≤ a1 ∧ a1 ≤ 9223372036854775807) (w : World) : Calls Go.Proofs.Tryz.prog 3 #[.int .i64 17, .int .i64 a1] w fun e w' => e = .returned (.bool true) ∧ Below w.heap.size w w' := by
  have hr := Code.ends17
  simp only [Bool.and_eq_true] at hr
  obtain ⟨⟨r1, r2⟩, r3⟩ := hr
  by_cases h1 : a1 < 0
  · exact par_run (fun _ => a1) r1 (par_args (k := 17) (by omega) (by omega)) w
  by_cases h2 : 17 ≤ a1
  · exact par_run (fun _ => a1) r2 (par_args (k := 17) (by omega) (by omega)) w
  by_cases h3 : 15 ≤ a1
  · exact par_run (fun _ => a1) r3 (par_args (k := 17) (by omega) (by omega)) w
  obtain ⟨g, rfl⟩ : ∃ g : Nat, a1 = g := ⟨a1.toNat, by omega⟩
  have hg : g ∈ [0, 1, 2, 3, 4, 5, 6, 7, 8, 9, 10, 11, 12, 13, 14] := by simp; omega
  exact par_run (fun _ => 0) (List.all_eq_true.1 Code.gone17 g hg) (num_args 17 g) w
theorem walk18 (a1 : Int) (h : -9223372036854775808 ≤ a1 ∧ a1 ≤ 9223372036854775807) (w : World) : Calls Go.Proofs.Tryz.prog 3 #[.int .i64 18, .int .i64 a1] w fun e w' => e = .returned (.bool true) ∧ Below w.heap.size w w' := by
  have hr := Code.ends18
  simp only [Bool.and_eq_true] at hr
  obtain ⟨⟨r1, r2⟩, r3⟩ := hr
  by_cases h1 : a1 < 0
  · exact par_run (fun _ => a1) r1 (par_args (k := 18) (by omega) (by omega)) w
  by_cases h2 : 18 ≤ a1
  · exact par_run (fun _ => a1) r2 (par_args (k := 18) (by omega) (by omega)) w
  by_cases h3 : 15 ≤ a1
  · exact par_run (fun _ => a1) r3 (par_args (k := 18) (by omega) (by omega)) w
  obtain ⟨g, rfl⟩ : ∃ g : Nat, a1 = g := ⟨a1.toNat, by omega⟩
  have hg : g ∈ [0, 1, 2, 3, 4, 5, 6, 7, 8, 9, 10, 11, 12, 13, 14] := by simp; omega
  exact par_run (fun _ => 0) (List.all_eq_true.1 Code.gone18 g hg) (num_args 18 g) w
theorem walk19 (a1 : Int) (h : -9223372036854775808 ≤ a1 ∧ a1 ≤ 9223372036854775807) (w : World) : Calls Go.Proofs.Tryz.prog 3 #[.int .i64 19, .int .i64 a1] w fun e w' => e = .returned (.bool true) ∧ Below w.heap.size w w' := by
  have hr := Code.ends19
  simp only [Bool.and_eq_true] at hr
  obtain ⟨⟨r1, r2⟩, r3⟩ := hr
  by_cases h1 : a1 < 0
  · exact par_run (fun _ => a1) r1 (par_args (k := 19) (by omega) (by omega)) w
  by_cases h2 : 19 ≤ a1
  · exact par_run (fun _ => a1) r2 (par_args (k := 19) (by omega) (by omega)) w
  by_cases h3 : 15 ≤ a1
  · exact par_run (fun _ => a1) r3 (par_args (k := 19) (by omega) (by omega)) w
  obtain ⟨g, rfl⟩ : ∃ g : Nat, a1 = g := ⟨a1.toNat, by omega⟩
  have hg : g ∈ [0, 1, 2, 3, 4, 5, 6, 7, 8, 9, 10, 11, 12, 13, 14] := by simp; omega
  exact par_run (fun _ => 0) (List.all_eq_true.1 Code.gone19 g hg) (num_args 19 g) w
theorem walk20 (a1 : Int) (h : -9223372036854775808 ≤ a1 ∧ a1 ≤ 9223372036854775807) (w : World) : Calls Go.Proofs.Tryz.prog 3 #[.int .i64 20, .int .i64 a1] w fun e w' => e = .returned (.bool true) ∧ Below w.heap.size w w' := by
  have hr := Code.ends20
  simp only [Bool.and_eq_true] at hr
  obtain ⟨⟨r1, r2⟩, r3⟩ := hr
  by_cases h1 : a1 < 0
  · exact par_run (fun _ => a1) r1 (par_args (k := 20) (by omega) (by omega)) w
  by_cases h2 : 20 ≤ a1
  · exact par_run (fun _ => a1) r2 (par_args (k := 20) (by omega) (by omega)) w
  by_cases h3 : 15 ≤ a1
  · exact par_run (fun _ => a1) r3 (par_args (k := 20) (by omega) (by omega)) w
  obtain ⟨g, rfl⟩ : ∃ g : Nat, a1 = g := ⟨a1.toNat, by omega⟩
  have hg : g ∈ [0, 1, 2, 3, 4, 5, 6, 7, 8, 9, 10, 11, 12, 13, 14] := by simp; omega
  exact par_run (fun _ => 0) (List.all_eq_true.1 Code.gone20 g hg) (num_args 20 g) w

theorem walk (a0 a1 : Int) (h0 : -9223372036854775808 ≤ a0 ∧ a0 ≤ 9223372036854775807) (h1 : -9223372036854775808 ≤ a1 ∧ a1 ≤ 9223372036854775807) (w : World) :
    Calls Go.Proofs.Tryz.prog 3 #[.int .i64 a0, .int .i64 a1] w fun e w' => e = .returned (.bool true) ∧ Below w.heap.size w w' := by
  have hr := Code.outs
  simp only [Bool.and_eq_true] at hr
  have two : ∀ {lo hi : Int}, lo ≤ a0 → a0 ≤ hi → @concs (parEnv fun j => if j = 0 then a0 else a1) (fun _ => none) [.y 0 0 lo hi, .y 1 0 (-9223372036854775808) 9223372036854775807] = some [.int .i64 a0, .int .i64 a1] := by
    intro lo hi g1 g2
    have e0 : @conc (parEnv fun j => if j = 0 then a0 else a1) (fun _ => none) (.y 0 0 lo hi) = some (.int .i64 a0) := by
      show yV (a0 + 0) lo hi = _
      rw [Int.add_zero]
      exact if_pos ⟨g1, g2⟩
    have e1 : @conc (parEnv fun j => if j = 0 then a0 else a1) (fun _ => none) (.y 1 0 (-9223372036854775808) 9223372036854775807) = some (.int .i64 a1) := by
      show yV (a1 + 0) _ _ = _
      rw [Int.add_zero]
      exact if_pos h1
    simp only [concs, e0, e1]
    rfl
  by_cases hn : a0 < 0
  · exact par_run _ hr.1 (two (by omega) (by omega)) w
  by_cases hb : 20 < a0
  · exact par_run _ hr.2 (two (by omega) (by omega)) w
  obtain ⟨k, rfl⟩ : ∃ k : Nat, a0 = k := ⟨a0.toNat, by omega⟩
  have hk : k = 0 ∨ k = 1 ∨ k = 2 ∨ k = 3 ∨ k = 4 ∨ k = 5 ∨ k = 6 ∨ k = 7 ∨ k = 8 ∨ k = 9 ∨ k = 10 ∨ k = 11 ∨ k = 12 ∨ k = 13 ∨ k = 14 ∨ k = 15 ∨ k = 16 ∨ k = 17 ∨ k = 18 ∨ k = 19 ∨ k = 20 := by omega
  rcases hk with rfl | rfl | rfl | rfl | rfl | rfl | rfl | rfl | rfl | rfl | rfl | rfl | rfl | rfl | rfl | rfl | rfl | rfl | rfl | rfl | rfl
  · exact walk0 a1 h1 w
  · exact walk1 a1 h1 w
  · exact walk2 a1 h1 w
  · exact walk3 a1 h1 w
  · exact walk4 a1 h1 w
  · exact walk5 a1 h1 w
  · exact walk6 a1 h1 w
  · exact walk7 a1 h1 w
  · exact walk8 a1 h1 w
  · exact walk9 a1 h1 w
  · exact walk10 a1 h1 w
  · exact walk11 a1 h1 w
  · exact walk12 a1 h1 w
  · exact walk13 a1 h1 w
  · exact walk14 a1 h1 w
  · exact walk15 a1 h1 w
  · exact walk16 a1 h1 w
  · exact walk17 a1 h1 w
  · exact walk18 a1 h1 w
  · exact walk19 a1 h1 w
  · exact walk20 a1 h1 w
def laidL : List (String × DataW Unit) := Rows.bookSheetsRow.laid
theorem fits64 {a : Int} (h : (Lit.int .i64 a).wf = true) : -9223372036854775808 ≤ a ∧ a ≤ 9223372036854775807 := by
  have e1 : IntKind.i64.min = -9223372036854775808 := rfl
  have e2 : IntKind.i64.max = 9223372036854775807 := rfl
  simp [Lit.wf] at h
  omega
theorem lifted (os : Os) (started : os.Started) (H : Type) (enc : TypeId × Value → H) :
    ReturnsInHanded {} Go.Proofs.Tryz.checked os 3 .any (fun w args => (Rows.bookSheetsSpec.pre enc Go.Proofs.Tryz.prog Go.Proofs.Tryz.f3 [] false w args ∧ laidMetH Go.Proofs.Tryz.prog laidL w) ∧ sizedMet enc Go.Proofs.Tryz.prog Go.Proofs.Tryz.f3 (OpenSpec.ofChange Rows.bookSheetsSpec) false w args)
      (Rows.bookSheetsSpec.post enc Go.Proofs.Tryz.prog Go.Proofs.Tryz.f3 false true false false) := by
  refine returnsInHanded_of_change_and (C := Go.Proofs.Tryz.checked) (X := fun w _ => laidMetH Go.Proofs.Tryz.prog laidL w) (fun _ _ _ hh h => h.of_heap hh) own started (by kernel_rfl) Go.Proofs.Tryz.func3
    (ChangeSpec.witness_shaped (enc := enc) (C := Go.Proofs.Tryz.checked) (os := os) (X := fun w _ => laidMetH Go.Proofs.Tryz.prog laidL w) false (World.laidAll Go.Proofs.Tryz.prog os laidL) #[.int .i64 0, .int .i64 0] 8 (World.laidAll_os _ _ _)
      (World.shaped_of_ZipB (by kernel_rfl) (by kernel_rfl)) (by kernel_rfl) (by kernel_rfl) (by kernel_rfl)
      (by rw [MakeChecks.laidMetH_plain _ _ _ (by kernel_rfl)]; exact laidMet_laidAll _ (by kernel_rfl) (by kernel_rfl))) ?_
  intro W base args ds gs before hval0 hW _ _ hL _
  have hval : ∀ (j : Nat) t v, Go.Proofs.Tryz.f3.params[j]? = some t → args[j]? = some v → Value.okWide Go.Proofs.Tryz.prog W .any base t v := hval0
  have hW' := hW
  obtain ⟨p, q, hA0, hV, rfl, _, _⟩ := hW
  have hA : DataW.TrodAll enc Go.Proofs.Tryz.prog W 0 (fun _ => true) true Go.Proofs.Tryz.f3.params.toList args.toList ds p := hA0
  rw [Go.Proofs.Tryz.params3] at hA hval
  obtain ⟨v0, vs0, d0, ds0, p0, q0, hargs, rfl, rfl, h0, r0⟩ := trodAll_cons hA
  obtain ⟨v1, vs1, d1, ds1, p1, q1, rfl, rfl, rfl, h1, r1⟩ := trodAll_cons r0
  obtain ⟨rfl, rfl, rfl⟩ := trodAll_nil r1
  obtain rfl : args = #[v0, v1] := by cases args; simp_all
  obtain ⟨rfl, rfl⟩ := trodVars_none hV
  obtain ⟨a0, rfl, rfl, rfl, w0⟩ := open_int Go.Proofs.Tryz.underlying3 (hval 0 3 v0 rfl rfl) h0
  obtain ⟨a1, rfl, rfl, rfl, w1⟩ := open_int Go.Proofs.Tryz.underlying3 (hval 1 3 v1 rfl rfl) h1
  clear hA0 hval0
  simp only [List.append_nil] at hW'
  refine (walk a0 a1 (fits64 w0) (fits64 w1) W).mono fun e W' ⟨he, hb⟩ => ?_
  subst he
  exact ⟨_, rfl, _, _, _, [], [], [], hW', trodAll_mk1 (shut_bool Go.Proofs.Tryz.underlying4 _), (trodAll_cons_mk (shut_int Go.Proofs.Tryz.underlying3 w0) (trodAll_cons_mk (shut_int Go.Proofs.Tryz.underlying3 w1) trodAll_mk0)), rfl, hb.frame _, fun h => by cases h⟩
theorem over : Rows.BookSheetsSaid :=
  OpenClaim.holds_of_wide 3 Go.Proofs.Tryz.f3 rfl rfl rfl rfl rfl rfl rfl ⟨rfl, rfl, rfl, rfl, rfl⟩ rfl rfl rfl rfl rfl (by kernel_rfl) Go.Proofs.Tryz.func3 (by kernel_rfl)
    (of_decide_eq_true (by kernel_rfl)) (by unfold Func.isWrapper; first | (rw [if_pos (by decide +kernel)]; kernel_rfl) | (rw [if_neg (by decide +kernel)]; exact ⟨rfl, rfl⟩))
    (fun os started H enc _ => lifted os started H enc)
theorem card_holds : Rows.BookSheetsCardSaid :=
  Claim7.holds_tied_plain_at .later [] [.data, .data, .data, .data, .sentinel, .sentinel, .pinned] true (true, "57b3992ff317f9689244ed141f0b4e2b0394dc61a797734203a3e572597fd98d") true over (fun _ h => by cases h) (by kernel_rfl) (fun _ h => by cases h) bookSheets_row_tie rfl ⟨rfl, rfl⟩ (by kernel_rfl) rfl
    (fun f fn hf hfn => by
      obtain rfl : f = 3 := Option.some.inj ((show Go.Proofs.Tryz.prog.funcNamed "counterpane/counterpanelaw14.BookSheets" = some 3 by kernel_rfl).symm.trans hf) |>.symm
      obtain rfl : fn = Go.Proofs.Tryz.f3 := (Option.some.inj (Go.Proofs.Tryz.func3.symm.trans hfn)).symm
      exact ⟨by kernel_rfl, fun j t ht => by
        rw [Go.Proofs.Tryz.params3] at ht
        have h3 : Go.Proofs.Tryz.prog.wantsStandIn 3 = false := by kernel_rfl
        have e3 : t = 3 := by
          match j, ht with
          | 0, ht => exact (Option.some.inj ht).symm
          | 1, ht => exact (Option.some.inj ht).symm
          | j + 2, ht => simp at ht
        rw [e3]
        exact h3⟩)
    (by kernel_rfl)
#print axioms card_holds
end Go.Proofs.YtfcmehmbjajggaaGreatDoor
