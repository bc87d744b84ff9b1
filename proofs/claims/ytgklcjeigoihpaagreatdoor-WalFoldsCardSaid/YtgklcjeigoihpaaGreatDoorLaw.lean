/- Proved: the card of counterpane/counterpanelaw21.WalFolds (for all folds, each and cut): the call returns true on every schedule and leaves memory as it was, where the listed package-level variables read as listed (the tie to the program's text is the given one); the run is evaluated by the kernel through a proved evaluator, with the answers of Sum, places and EqualFunc shown by walks. -/
import Derived.Test.YtgklcjeigoihpaaGreatDoorCodeE
import Derived.Test.YtgklcjeigoihpaaGreatDoorCodeR0
import Derived.Test.YtgklcjeigoihpaaGreatDoorCodeR1
import Derived.Test.YtgklcjeigoihpaaGreatDoorCodeR2
import Derived.Test.YtgklcjeigoihpaaGreatDoorCodeR3
import Derived.Test.YtgklcjeigoihpaaGreatDoorCodeR4
import Derived.Test.YtgklcjeigoihpaaGreatDoorCodeR5
import Derived.Test.YtgklcjeigoihpaaGreatDoorCodeR6
import Derived.Test.YtgklcjeigoihpaaGreatDoorCodeR7
import Derived.Test.YtgklcjeigoihpaaGreatDoorCodeR8
import Derived.Test.YtgklcjeigoihpaaGreatDoorCodeR9
import Derived.Test.YtgklcjeigoihpaaGreatDoorCodeR10
import Derived.Test.YtgklcjeigoihpaaGreatDoorCodeR11
import Derived.Test.YtgklcjeigoihpaaGreatDoorCodeJ0
import Derived.Test.YtgklcjeigoihpaaGreatDoorCodeJ1
import Derived.Test.YtgklcjeigoihpaaGreatDoorCodeJ2
import Derived.Test.YtgklcjeigoihpaaGreatDoorCodeJ3
import Derived.Test.YtgklcjeigoihpaaGreatDoorCodeJ4
import Derived.Test.YtgklcjeigoihpaaGreatDoorCodeJ5
import Derived.Test.YtgklcjeigoihpaaGreatDoorCards
import Derived.Test.YtgklcjeigoihpaaGreatDoorTie
import Derived.WalkKit
import Derived.ProofKit
import Derived.ChangeOld
import Derived.SizedLaws
import Derived.Lay
import Derived.LaidMore
import Derived.LaidOnce
import Derived.SevenTiedAt
import Derived.LaidLaws
import Derived.Lib.LaidU8
import Derived.OpenShut
import Derived.Carry
namespace Go.Proofs.YtgklcjeigoihpaaGreatDoor
open Go Go.ChangeShapes Go.WideShapes Go.ChangeAt Go.RowKit Go.Proofs
set_option maxRecDepth 100000
set_option linter.unusedVariables false
theorem own : ownKnob Go.Proofs.Tryz.prog.godebug = none := by kernel_rfl
def laidL : List (String × DataW Unit) := Rows.walFoldsRow.laid
abbrev envN (a b z : Int) : Go.Eng.Env := ⟨fun _ => none, fun _ _ h => (by cases h), fun _ _ h => (by cases h), fun j => if j = 0 then a else if j = 1 then b else if j = 5000 then z else if 5000 < j then z % ((j - 5000 : Nat) : Int) else 0,
  fun K hK h0 => (by
    rw [if_neg (by omega), if_neg (by omega), if_neg (by omega), if_pos (by omega), Nat.add_sub_cancel_left]
    rfl), fun _ _ _ h => (by cases h)⟩
theorem run_one (a b z : Int) {args : List Go.Eng.V} {xs : List Value} (hrun : Go.Eng.endsJ (Go.Eng.goT Code.tabO 1000000 Code.q3 args ⟨.nil, .e⟩) = true) (hargs : @Go.Eng.concs (envN a b z) (fun _ => none) args = some xs) (w : World) :
    Calls Go.Proofs.Tryz.prog 3 xs.toArray w fun e w' => e = .returned (.bool true) ∧ Below w.heap.size w w' :=
  @Go.Eng.calls_gen (envN a b z) Go.Proofs.Tryz.prog 0 Code.tabO Code.hm (@Code.tabO_ok (envN a b z)) 1000000 Code.q3 args xs (fun _ => none) ⟨.nil, .e⟩ hrun hargs w
    (@Go.Eng.HRel.mk (envN a b z) _ _ _ (fun _ _ h => (by cases h)) (fun _ _ h => (by cases h)) (fun _ h => (by cases h)) (fun _ _ _ _ h => (by cases h)) (fun _ _ h => (by cases h.1))) (fun _ => rfl) ⟨fun g _ hg => (by simp at hg), show @Go.Eng.FactOk (envN a b z) 0 0 from trivial⟩
theorem args3 {E : Go.Eng.Env} {v0 v1 v2 : Go.Eng.V} {x0 x1 x2 : Value} (h0 : @Go.Eng.conc E (fun _ => none) v0 = some x0) (h1 : @Go.Eng.conc E (fun _ => none) v1 = some x1) (h2 : @Go.Eng.conc E (fun _ => none) v2 = some x2) : @Go.Eng.concs E (fun _ => none) [v0, v1, v2] = some [x0, x1, x2] := by
  simp only [Go.Eng.concs, h0, h1, h2]
  rfl
theorem yc (a b z : Int) (j : Nat) (v lo hi : Int) (h : (envN a b z).par j = v) (h1 : lo ≤ v) (h2 : v ≤ hi) : @Go.Eng.conc (envN a b z) (fun _ => none) (.y j 0 lo hi) = some (n64 v) := @Go.Eng.conc_y (envN a b z) j v lo hi _ h h1 h2
theorem walk (a b z : Int) (fa : (-9223372036854775808) ≤ a ∧ a ≤ 9223372036854775807) (fb : (-9223372036854775808) ≤ b ∧ b ≤ 9223372036854775807) (fz : (-9223372036854775808) ≤ z ∧ z ≤ 9223372036854775807) (w : World) : Calls Go.Proofs.Tryz.prog 3 #[n64 a, n64 b, n64 z] w fun e w' => e = .returned (.bool true) ∧ Below w.heap.size w w' := by
  by_cases h1 : a < 0
  · exact run_one a b z Code.gA (args3 (yc a b z 0 a _ _ rfl (by omega) (by omega)) (yc a b z 1 b _ _ rfl (by omega) (by omega)) (yc a b z 5000 z _ _ rfl (by omega) (by omega))) w
  by_cases h2 : 5 < a
  · exact run_one a b z Code.gB (args3 (yc a b z 0 a _ _ rfl (by omega) (by omega)) (yc a b z 1 b _ _ rfl (by omega) (by omega)) (yc a b z 5000 z _ _ rfl (by omega) (by omega))) w
  by_cases h3 : b < 0
  · exact run_one a b z Code.gC (args3 (yc a b z 0 a _ _ rfl (by omega) (by omega)) (yc a b z 1 b _ _ rfl (by omega) (by omega)) (yc a b z 5000 z _ _ rfl (by omega) (by omega))) w
  by_cases h4 : 4 < b
  · exact run_one a b z Code.gD (args3 (yc a b z 0 a _ _ rfl (by omega) (by omega)) (yc a b z 1 b _ _ rfl (by omega) (by omega)) (yc a b z 5000 z _ _ rfl (by omega) (by omega))) w
  by_cases h5 : z < 0
  · exact run_one a b z Code.gE (args3 (yc a b z 0 a _ _ rfl (by omega) (by omega)) (yc a b z 1 b _ _ rfl (by omega) (by omega)) (yc a b z 5000 z _ _ rfl (by omega) (by omega))) w
  by_cases h6 : a = 0
  · subst h6
    exact run_one 0 b z Code.r0 (args3 rfl (yc 0 b z 1 b _ _ rfl (by omega) (by omega)) (yc 0 b z 5000 z _ _ rfl (by omega) (by omega))) w
  have ha : a = 1 ∨ a = 2 ∨ a = 3 ∨ a = 4 ∨ a = 5 := by omega
  have hb : b = 0 ∨ b = 1 ∨ b = 2 ∨ b = 3 ∨ b = 4 := by omega
  rcases ha with rfl | rfl | rfl | rfl | rfl <;> rcases hb with rfl | rfl | rfl | rfl | rfl
  · exact run_one 1 0 z Code.r10 (args3 rfl rfl (yc 1 0 z 5000 z _ _ rfl (by omega) (by omega))) w
  · exact run_one 1 1 z Code.r11 (args3 rfl rfl (yc 1 1 z 5000 z _ _ rfl (by omega) (by omega))) w
  · exact run_one 1 2 z Code.r12 (args3 rfl rfl (yc 1 2 z 5000 z _ _ rfl (by omega) (by omega))) w
  · exact run_one 1 3 z Code.r13 (args3 rfl rfl (yc 1 3 z 5000 z _ _ rfl (by omega) (by omega))) w
  · exact run_one 1 4 z Code.r14 (args3 rfl rfl (yc 1 4 z 5000 z _ _ rfl (by omega) (by omega))) w
  · exact run_one 2 0 z Code.r20 (args3 rfl rfl (yc 2 0 z 5000 z _ _ rfl (by omega) (by omega))) w
  · exact run_one 2 1 z Code.r21 (args3 rfl rfl (yc 2 1 z 5000 z _ _ rfl (by omega) (by omega))) w
  · exact run_one 2 2 z Code.r22 (args3 rfl rfl (yc 2 2 z 5000 z _ _ rfl (by omega) (by omega))) w
  · exact run_one 2 3 z Code.r23 (args3 rfl rfl (yc 2 3 z 5000 z _ _ rfl (by omega) (by omega))) w
  · exact run_one 2 4 z Code.r24 (args3 rfl rfl (yc 2 4 z 5000 z _ _ rfl (by omega) (by omega))) w
  · exact run_one 3 0 z Code.r30 (args3 rfl rfl (yc 3 0 z 5000 z _ _ rfl (by omega) (by omega))) w
  · exact run_one 3 1 z Code.r31 (args3 rfl rfl (yc 3 1 z 5000 z _ _ rfl (by omega) (by omega))) w
  · exact run_one 3 2 z Code.r32 (args3 rfl rfl (yc 3 2 z 5000 z _ _ rfl (by omega) (by omega))) w
  · exact run_one 3 3 z Code.r33 (args3 rfl rfl (yc 3 3 z 5000 z _ _ rfl (by omega) (by omega))) w
  · exact run_one 3 4 z Code.r34 (args3 rfl rfl (yc 3 4 z 5000 z _ _ rfl (by omega) (by omega))) w
  · exact run_one 4 0 z Code.r40 (args3 rfl rfl (yc 4 0 z 5000 z _ _ rfl (by omega) (by omega))) w
  · exact run_one 4 1 z Code.r41 (args3 rfl rfl (yc 4 1 z 5000 z _ _ rfl (by omega) (by omega))) w
  · exact run_one 4 2 z Code.r42 (args3 rfl rfl (yc 4 2 z 5000 z _ _ rfl (by omega) (by omega))) w
  · exact run_one 4 3 z Code.r43 (args3 rfl rfl (yc 4 3 z 5000 z _ _ rfl (by omega) (by omega))) w
  · exact run_one 4 4 z Code.r44 (args3 rfl rfl (yc 4 4 z 5000 z _ _ rfl (by omega) (by omega))) w
  · exact run_one 5 0 z Code.r50 (args3 rfl rfl (yc 5 0 z 5000 z _ _ rfl (by omega) (by omega))) w
  · exact run_one 5 1 z Code.r51 (args3 rfl rfl (yc 5 1 z 5000 z _ _ rfl (by omega) (by omega))) w
  · exact run_one 5 2 z Code.r52 (args3 rfl rfl (yc 5 2 z 5000 z _ _ rfl (by omega) (by omega))) w
  · exact run_one 5 3 z Code.r53 (args3 rfl rfl (yc 5 3 z 5000 z _ _ rfl (by omega) (by omega))) w
  · exact run_one 5 4 z Code.r54 (args3 rfl rfl (yc 5 4 z 5000 z _ _ rfl (by omega) (by omega))) w

theorem fits64 {a : Int} (h : (Lit.int .i64 a).wf = true) : -9223372036854775808 ≤ a ∧ a ≤ 9223372036854775807 := by
  have e1 : IntKind.i64.min = -9223372036854775808 := rfl
  have e2 : IntKind.i64.max = 9223372036854775807 := rfl
  simp [Lit.wf] at h
  omega
theorem lifted (os : Os) (started : os.Started) (H : Type) (enc : TypeId × Value → H) :
    ReturnsInHanded {} Go.Proofs.Tryz.checked os 3 .any (fun w args => (Rows.walFoldsSpec.pre enc Go.Proofs.Tryz.prog Go.Proofs.Tryz.f3 [] false w args ∧ laidMetH Go.Proofs.Tryz.prog laidL w) ∧ sizedMet enc Go.Proofs.Tryz.prog Go.Proofs.Tryz.f3 (OpenSpec.ofChange Rows.walFoldsSpec) false w args)
      (Rows.walFoldsSpec.post enc Go.Proofs.Tryz.prog Go.Proofs.Tryz.f3 false true false false) := by
  refine returnsInHanded_of_change_and (C := Go.Proofs.Tryz.checked) (X := fun w _ => laidMetH Go.Proofs.Tryz.prog laidL w) (fun _ _ _ hh h => h.of_heap hh) own started (by kernel_rfl) Go.Proofs.Tryz.func3
    (ChangeSpec.witness_shaped (enc := enc) (C := Go.Proofs.Tryz.checked) (os := os) (X := fun w _ => laidMetH Go.Proofs.Tryz.prog laidL w) false (World.laidAll Go.Proofs.Tryz.prog os laidL) #[.int .i64 0, .int .i64 0, .int .i64 0] 8 (World.laidAll_os _ _ _)
      (World.shaped_of_ZipB (by kernel_rfl) (by kernel_rfl)) (by kernel_rfl) (by kernel_rfl) (by kernel_rfl)
      (by rw [MakeChecks.laidMetH_plain _ _ _ (by kernel_rfl)]; exact laidMet_laidAll _ (by kernel_rfl) (by kernel_rfl))) ?_
  intro W base args ds gs before hval0 hW _ _ hL _
  have hval : ∀ (j : Nat) t v, Go.Proofs.Tryz.f3.params[j]? = some t → args[j]? = some v → Value.okWide Go.Proofs.Tryz.prog W .any base t v := hval0
  have hW' := hW
  obtain ⟨p, q, hA0, hV, rfl, _, _⟩ := hW
  have hA : DataW.TrodAll enc Go.Proofs.Tryz.prog W 0 (fun _ => true) true Go.Proofs.Tryz.f3.params.toList args.toList ds p := hA0
  rw [Go.Proofs.Tryz.params3] at hA hval
  obtain ⟨v0, vs0, d0, ds0, p0, q0, hargs, rfl, rfl, h0, r0⟩ := trodAll_cons hA
  obtain ⟨v1, vs1, d1, ds1, p1, q1, rfl, rfl, rfl, h1, r1⟩ := trodAll_cons r0
  obtain ⟨v2, vs2, d2, ds2, p2, q2, rfl, rfl, rfl, h2, r2⟩ := trodAll_cons r1
  obtain ⟨rfl, rfl, rfl⟩ := trodAll_nil r2
  obtain rfl : args = #[v0, v1, v2] := by cases args; simp_all
  obtain ⟨rfl, rfl⟩ := trodVars_none hV
  obtain ⟨a0, rfl, rfl, rfl, w0⟩ := open_int Go.Proofs.Tryz.underlying3 (hval 0 3 v0 rfl rfl) h0
  obtain ⟨a1, rfl, rfl, rfl, w1⟩ := open_int Go.Proofs.Tryz.underlying3 (hval 1 3 v1 rfl rfl) h1
  obtain ⟨a2, rfl, rfl, rfl, w2⟩ := open_int Go.Proofs.Tryz.underlying3 (hval 2 3 v2 rfl rfl) h2
  clear hA0 hval0
  simp only [List.append_nil] at hW'
  refine (walk a0 a1 a2 (fits64 w0) (fits64 w1) (fits64 w2) W).mono fun e W' ⟨he, hb⟩ => ?_
  subst he
  exact ⟨_, rfl, _, _, _, [], [], [], hW', trodAll_mk1 (shut_bool Go.Proofs.Tryz.underlying4 _), (trodAll_cons_mk (shut_int Go.Proofs.Tryz.underlying3 w0) (trodAll_cons_mk (shut_int Go.Proofs.Tryz.underlying3 w1) (trodAll_cons_mk (shut_int Go.Proofs.Tryz.underlying3 w2) trodAll_mk0))), rfl, hb.frame _, fun h => by cases h⟩
theorem closed_of (P : Program) (f : FuncId) (fn : Func) (s : ChangeSpec) (c : OpenClaim)
    (h1 : (c.inPlace == P.inPlace f) = true) (h2 : (c.unfollowed == P.unfollowed f) = true) (h3 : (c.recurses == P.recurses f) = true) (h4 : (c.named == P.varsNamed f) = true) (h5 : laidOutB P = true) (h6 : mapsRowed P = true)
    (h7 : P.stopsHeard = true) (h8 : P.mayEnter = true) (h9 : (c.lifted == P.liftsFinal) = true) (h10 : (P.make == some c.make) = true) (h11 : (c.plainKeys == P.plainKeys) = true) (h12 : c.wf (OpenSpec.ofChange s) = true)
    (rest : (fn.params.all (P.readableRec ·) && namedTie P c.named s.vars &&
  (c.stops == []) && (P.stops == []) && (c.knobs == []) && (P.stopKnobs == []) &&
  (c.maps == (fn.params.toList ++ s.plain.varTypes P).any (P.mapsRec ·)) && (c.ifaces == (fn.params.toList ++ s.plain.varTypes P).any (P.ifacesRec ·)) && (c.mapsOut == P.mapsAmong fn.resultTypes.toList) &&
  (c.loops == (fn.params.toList ++ s.plain.varTypes P).any (P.loopsFrom ·)) && (c.wideKeys == (fn.params.toList ++ s.plain.varTypes P ++ fn.resultTypes.toList).any (P.wideKeysFrom ·)) &&
  s.vars.all (P.varReadable ·) && fn.resultTypes.all (fun t => P.readableRec t && decide (t < P.types.size)) && (c.ifacesOut == fn.resultTypes.toList.any (P.ifacesRec ·)) && (c.loopsOut == fn.resultTypes.toList.any (P.loopsFrom ·)) && c.shortTexts.isNone && (c.kinds == (if c.domain.isEmpty then [] else fn.params.toList.map fun t => match P.underlying t with | some (.int k) => some k | _ => none)) && (c.pinned == c.pinnedBy) &&
  (c.veiled == (fn.params.toList ++ s.plain.varTypes P ++ fn.resultTypes.toList).any (P.veiledRec ·)) && c.veiledFits P fn.params.toList (fn.params.toList ++ s.plain.varTypes P ++ fn.resultTypes.toList)) = true) :
    joinedFacts P f fn s c = true := by
  simp only [Bool.and_eq_true] at rest
  obtain ⟨⟨⟨⟨⟨⟨⟨⟨⟨⟨⟨⟨⟨⟨⟨⟨⟨⟨⟨a1, a2⟩, a3⟩, a4⟩, a5⟩, a6⟩, a7⟩, a8⟩, a9⟩, a10⟩, a11⟩, a12⟩, a13⟩, a14⟩, a15⟩, a16⟩, a17⟩, a18⟩, a19⟩, a20⟩ := rest
  unfold joinedFacts
  simp only [Bool.and_eq_true]
  exact ⟨⟨⟨⟨⟨⟨⟨⟨⟨⟨⟨⟨⟨⟨⟨⟨⟨⟨⟨⟨⟨⟨⟨⟨⟨⟨⟨⟨⟨⟨⟨h12, h5⟩, h6⟩, a1⟩, a2⟩, a3⟩, a4⟩, a5⟩, a6⟩, h1⟩, h2⟩, h3⟩, h4⟩, a7⟩, a8⟩, a9⟩, a10⟩, a11⟩, a12⟩, a13⟩, a14⟩, a15⟩, h11⟩, a16⟩, h7⟩, h8⟩, h9⟩, h10⟩, a17⟩, a18⟩, a19⟩, a20⟩
theorem closed : joinedFacts Tryz.pinned.checked.prog 3 Go.Proofs.Tryz.f3 Rows.walFoldsSpec Rows.walFoldsRow = true :=
  closed_of _ _ _ _ _ j1 j2 j3 j4 j5 j6 j7 j8 j9 j10 j11 j12 (by kernel_rfl)
theorem over : Rows.WalFoldsSaid :=
  OpenClaim.holds_of_wide 3 Go.Proofs.Tryz.f3 rfl rfl rfl rfl rfl rfl rfl ⟨rfl, rfl, rfl, rfl, rfl⟩ rfl rfl rfl rfl rfl (by kernel_rfl) Go.Proofs.Tryz.func3 closed
    (of_decide_eq_true (by kernel_rfl)) (by unfold Func.isWrapper; first | (rw [if_pos (by decide +kernel)]; kernel_rfl) | (rw [if_neg (by decide +kernel)]; exact ⟨rfl, rfl⟩))
    (fun os started H enc _ => lifted os started H enc)
theorem card_holds : Rows.WalFoldsCardSaid :=
  Claim7.holds_tied_plain_at .later [] [.data, .data, .data, .data, .sentinel, .sentinel, .pinned] true (true, "ceacb0900ca6e1ee02827e5f4692e93d0b95c885d5d5736c148d81076d3b1a19") true over (fun _ h => by cases h) (by kernel_rfl) (fun _ h => by cases h) walFolds_row_tie rfl ⟨rfl, rfl⟩ (by kernel_rfl) rfl
    (fun f fn hf hfn => by
      obtain rfl : f = 3 := Option.some.inj ((show Go.Proofs.Tryz.prog.funcNamed "counterpane/counterpanelaw21.WalFolds" = some 3 by kernel_rfl).symm.trans hf) |>.symm
      obtain rfl : fn = Go.Proofs.Tryz.f3 := (Option.some.inj (Go.Proofs.Tryz.func3.symm.trans hfn)).symm
      exact ⟨by kernel_rfl, fun j t ht => by
        rw [Go.Proofs.Tryz.params3] at ht
        have h21 : Go.Proofs.Tryz.prog.wantsStandIn 3 = false := by kernel_rfl
        have e3 : t = 3 := by
          match j, ht with
          | 0, ht => exact (Option.some.inj ht).symm
          | 1, ht => exact (Option.some.inj ht).symm
          | 2, ht => exact (Option.some.inj ht).symm
          | j + 3, ht => simp at ht
        rw [e3]
        exact h21⟩)
    jgoes
#print axioms card_holds
end Go.Proofs.YtgklcjeigoihpaaGreatDoor
