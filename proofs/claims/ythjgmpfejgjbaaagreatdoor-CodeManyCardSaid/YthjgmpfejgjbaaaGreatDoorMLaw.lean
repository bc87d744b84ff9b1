/- Proved: the card of counterpane/counterpanelaw11.CodeMany (a law without parameters): the call returns true on every schedule and leaves memory as it was, where the listed package-level variables read as listed (the tie to the program's text is the given one); the run is evaluated by the kernel through a proved evaluator. -/
import Derived.Test.YthjgmpfejgjbaaaGreatDoorMCodeE
import Derived.Test.YthjgmpfejgjbaaaGreatDoorMCodeR
import Derived.Test.YthjgmpfejgjbaaaGreatDoorCards
import Derived.Test.YthjgmpfejgjbaaaGreatDoorTie
import Derived.WalkKit
import Derived.ProofKit
import Derived.ChangeOld
import Derived.SizedLaws
import Derived.Lay
import Derived.LaidMore
import Derived.LaidOnce
import Derived.SevenTiedAt
import Derived.LaidLaws
import Derived.Lib.LaidU8
namespace Go.Proofs.YthjgmpfejgjbaaaGreatDoor
open Go Go.ChangeShapes Go.WideShapes Go.ChangeAt Go.RowKit Go.Proofs
set_option maxRecDepth 100000
set_option linter.unusedVariables false
theorem own : ownKnob Go.Proofs.Tryz.prog.godebug = none := by kernel_rfl
def laidL : List (String × DataW Unit) := Rows.codeManyRow.laid
theorem cell3 {w : World} (h : laidMetH Go.Proofs.Tryz.prog laidL w) : Go.Eng.OneCell w 3 := by
  rw [MakeChecks.laidMetH_plain _ _ _ (by kernel_rfl)] at h
  obtain ⟨g, t, cs, fuel, p, h1, h2, h3, h4⟩ := Lib.laidMet.reads h (n := "strconv.ErrSyntax") (d := Rows.laid_strconv_ErrSyntax) (by unfold laidL Rows.codeManyRow; simp)
  obtain rfl := Option.some.inj ((show Go.Proofs.Tryz.prog.globalNamed "strconv.ErrSyntax" = some 3 by kernel_rfl).symm.trans h1)
  obtain rfl := Option.some.inj ((show (Go.Proofs.Tryz.prog.globals[3]?).map (·.type) = some 215 by kernel_rfl).symm.trans h2)
  obtain ⟨_, u, v, hcs, _, _⟩ := iface_of_trod Go.Proofs.Tryz.underlying215 h4
  simp only [World.var?, h1, Option.bind_some] at h3
  split at h3
  · rename_i c e fz hc
    cases h3
    have : cs = #[.iface u v] := by apply Array.ext'; simpa using hcs
    subst this
    exact ⟨_, e, fz, hc, rfl⟩
  · cases h3
theorem walk (w : World) (h : laidMetH Go.Proofs.Tryz.prog laidL w) : Calls Go.Proofs.Tryz.prog 3 #[] w fun e w' => e = .returned (.bool true) ∧ Below w.heap.size w w' :=
  Go.Eng.calls_env (f := Code.q3) (by kernel_rfl) Code.tab_ok Code.runs w [3] (fun g hg => by simp at hg; subst hg; exact cell3 h)
    (fun g hg => by rw [show (8 : Nat) = 2 ^ 3 from rfl, Nat.testBit_two_pow] at hg; have := of_decide_eq_true hg; simp [← this])
theorem lifted (os : Os) (started : os.Started) (H : Type) (enc : TypeId × Value → H) :
    ReturnsInHanded {} Go.Proofs.Tryz.checked os 3 .any (fun w args => (Rows.codeManySpec.pre enc Go.Proofs.Tryz.prog Go.Proofs.Tryz.f3 [] false w args ∧ laidMetH Go.Proofs.Tryz.prog laidL w) ∧ sizedMet enc Go.Proofs.Tryz.prog Go.Proofs.Tryz.f3 (OpenSpec.ofChange Rows.codeManySpec) false w args)
      (Rows.codeManySpec.post enc Go.Proofs.Tryz.prog Go.Proofs.Tryz.f3 false true false false) := by
  refine returnsInHanded_of_change_and (C := Go.Proofs.Tryz.checked) (X := fun w _ => laidMetH Go.Proofs.Tryz.prog laidL w) (fun _ _ _ hh h => h.of_heap hh) own started (by kernel_rfl) Go.Proofs.Tryz.func3
    (ChangeSpec.witness_shaped (enc := enc) (C := Go.Proofs.Tryz.checked) (os := os) (X := fun w _ => laidMetH Go.Proofs.Tryz.prog laidL w) false (World.laidAll Go.Proofs.Tryz.prog os laidL) #[] 8 (World.laidAll_os _ _ _)
      (World.shaped_of_ZipB (by kernel_rfl) (by kernel_rfl)) (by kernel_rfl) (by kernel_rfl) (by kernel_rfl)
      (by rw [MakeChecks.laidMetH_plain _ _ _ (by kernel_rfl)]; exact laidMet_laidAll _ (by kernel_rfl) (by kernel_rfl))) ?_
  intro W base args ds gs before hval0 hW _ _ hL _
  have hW' := hW
  obtain ⟨p, q, hA0, hV, rfl, _, _⟩ := hW
  have hA : DataW.TrodAll enc Go.Proofs.Tryz.prog W 0 (fun _ => true) true Go.Proofs.Tryz.f3.params.toList args.toList ds p := hA0
  rw [Go.Proofs.Tryz.params3] at hA
  obtain ⟨rfl, rfl, rfl⟩ := trodAll_none hA
  obtain ⟨rfl, rfl⟩ := trodVars_none hV
  refine (walk W hL).mono fun e W' ⟨he, hb⟩ => ?_
  subst he
  exact ⟨_, rfl, _, _, _, [], [], [], hW', trodAll_mk1 (shut_bool Go.Proofs.Tryz.underlying4 _), trodAll_mk0, rfl, hb.frame _, fun h => by cases h⟩
theorem over : Rows.CodeManySaid :=
  OpenClaim.holds_of_wide 3 Go.Proofs.Tryz.f3 rfl rfl rfl rfl rfl rfl rfl ⟨rfl, rfl, rfl, rfl, rfl⟩ rfl rfl rfl rfl rfl (by kernel_rfl) Go.Proofs.Tryz.func3 (by kernel_rfl)
    (of_decide_eq_true (by kernel_rfl)) (by unfold Func.isWrapper; first | (rw [if_pos (by decide +kernel)]; kernel_rfl) | (rw [if_neg (by decide +kernel)]; exact ⟨rfl, rfl⟩))
    (fun os started H enc _ => lifted os started H enc)
theorem card_holds : Rows.CodeManyCardSaid :=
  Claim7.holds_tied_plain_at .later [] [.data, .data, .data, .data, .sentinel, .sentinel, .pinned] true (true, "d4ac7bd8517e499f30e48c140ad545fa3638aa001fa1e2b0e0baffe9e14c5c82") true over (fun _ h => by cases h) (by kernel_rfl) (fun _ h => by cases h) codeMany_row_tie rfl ⟨rfl, rfl⟩ (by kernel_rfl) rfl
    (fun f fn hf hfn => by
      obtain rfl : f = 3 := Option.some.inj ((show Go.Proofs.Tryz.prog.funcNamed "counterpane/counterpanelaw11.CodeMany" = some 3 by kernel_rfl).symm.trans hf) |>.symm
      obtain rfl : fn = Go.Proofs.Tryz.f3 := (Option.some.inj (Go.Proofs.Tryz.func3.symm.trans hfn)).symm
      exact ⟨by kernel_rfl, fun j t ht => by
        rw [Go.Proofs.Tryz.params3] at ht
        simp at ht⟩)
    (by kernel_rfl)
#print axioms card_holds
end Go.Proofs.YthjgmpfejgjbaaaGreatDoor
