/- Proved: the card of counterpane/counterpanelaw18.XformAlone: for all n and row the call returns true on every schedule and leaves memory as it was, where the listed package-level variables read as listed (the tie to the program's text is the given one). The runs are evaluated by the kernel through a proved evaluator, one for each n from 0 to 20, the row known by its bounds alone; what xform.Op answers was told once for all rows. -/
import Derived.Test.YtfnnannkoabobaaGreatDoorCodeO
import Derived.Test.YtfnnannkoabobaaGreatDoorCodeR0
import Derived.Test.YtfnnannkoabobaaGreatDoorCodeR1
import Derived.Test.YtfnnannkoabobaaGreatDoorCodeR2
import Derived.Test.YtfnnannkoabobaaGreatDoorCards
import Derived.Test.YtfnnannkoabobaaGreatDoorTie
import Derived.WalkKit
import Derived.ProofKit
import Derived.OpenShut
import Derived.ChangeOld
import Derived.SizedLaws
import Derived.Lay
import Derived.LaidMore
import Derived.LaidOnce
import Derived.SevenTiedAt
namespace Go.Proofs.YtfnnannkoabobaaGreatDoor
open Go Go.ChangeShapes Go.WideShapes Go.ChangeAt Go.RowKit Go.Proofs Go.Eng
set_option maxRecDepth 100000
set_option linter.unusedVariables false
theorem own : ownKnob Go.Proofs.Tryz.prog.godebug = none := by kernel_rfl
theorem par_args {k : Nat} {a lo hi : Int} (h1 : lo ≤ a) (h2 : a ≤ hi) : @concs (parEnv fun _ => a) (fun _ => none) [Code.n6 k, .y 1 0 lo hi] = some [.int .i64 k, .int .i64 a] := by
  simp only [concs, conc_par (fun _ => a) 1 a lo hi _ rfl h1 h2]
  rfl
theorem two_args {a0 a1 l0 u0 l1 u1 : Int} (h0 : l0 ≤ a0) (k0 : a0 ≤ u0) (h1 : l1 ≤ a1) (k1 : a1 ≤ u1) : @concs (parEnv fun j => if j = 0 then a0 else a1) (fun _ => none) [.y 0 0 l0 u0, .y 1 0 l1 u1] = some [.int .i64 a0, .int .i64 a1] := by
  simp only [concs, conc_par (fun j => if j = 0 then a0 else a1) 0 a0 l0 u0 _ rfl h0 k0, conc_par (fun j => if j = 0 then a0 else a1) 1 a1 l1 u1 _ rfl h1 k1]
  rfl
theorem par_run (pr : Nat → Int) {args : List V} {xs : List Value} (hrun : Code.run args = true) (hargs : @concs (parEnv pr) (fun _ => none) args = some xs) (w : World) :
    Calls Go.Proofs.Tryz.prog 3 xs.toArray w fun e w' => e = .returned (.bool true) ∧ Below w.heap.size w w' :=
  calls_par (tg := Code.tabO) (by kernel_rfl) Code.tabO_ok pr (f := Code.q3) hrun hargs w
theorem walk (a0 a1 : Int) (h0 : -9223372036854775808 ≤ a0 ∧ a0 ≤ 9223372036854775807) (h1 : -9223372036854775808 ≤ a1 ∧ a1 ≤ 9223372036854775807) (w : World) :
    Calls Go.Proofs.Tryz.prog 3 #[.int .i64 a0, .int .i64 a1] w fun e w' => e = .returned (.bool true) ∧ Below w.heap.size w w' := by
  have hr := Code.outs
  simp only [Bool.and_eq_true] at hr
  obtain ⟨r1, r2, r3, r4⟩ := hr
  by_cases hn : a0 < 0
  · exact par_run _ r1 (two_args (by omega) (by omega) (by omega) (by omega)) w
  by_cases hb : 20 < a0
  · exact par_run _ r2 (two_args (by omega) (by omega) (by omega) (by omega)) w
  by_cases hm : a1 < 0
  · exact par_run _ r3 (two_args (by omega) (by omega) (by omega) (by omega)) w
  by_cases hc : 1099511627776 < a1
  · exact par_run _ r4 (two_args (by omega) (by omega) (by omega) (by omega)) w
  obtain ⟨k, rfl⟩ : ∃ k : Nat, a0 = k := ⟨a0.toNat, by omega⟩
  have hk : k = 0 ∨ k = 1 ∨ k = 2 ∨ k = 3 ∨ k = 4 ∨ k = 5 ∨ k = 6 ∨ k = 7 ∨ k = 8 ∨ k = 9 ∨ k = 10 ∨ k = 11 ∨ k = 12 ∨ k = 13 ∨ k = 14 ∨ k = 15 ∨ k = 16 ∨ k = 17 ∨ k = 18 ∨ k = 19 ∨ k = 20 := by omega
  rcases hk with rfl | rfl | rfl | rfl | rfl | rfl | rfl | rfl | rfl | rfl | rfl | rfl | rfl | rfl | rfl | rfl | rfl | rfl | rfl | rfl | rfl
  · exact par_run (fun _ => a1) Code.ends0 (par_args (k := 0) (by omega) (by omega)) w
  · exact par_run (fun _ => a1) Code.ends1 (par_args (k := 1) (by omega) (by omega)) w
  · exact par_run (fun _ => a1) Code.ends2 (par_args (k := 2) (by omega) (by omega)) w
  · exact par_run (fun _ => a1) Code.ends3 (par_args (k := 3) (by omega) (by omega)) w
  · exact par_run (fun _ => a1) Code.ends4 (par_args (k := 4) (by omega) (by omega)) w
  · exact par_run (fun _ => a1) Code.ends5 (par_args (k := 5) (by omega) (by omega)) w
  · exact par_run (fun _ => a1) Code.ends6 (par_args (k := 6) (by omega) (by omega)) w
  · exact par_run (fun _ => a1) Code.ends7 (par_args (k := 7) (by omega) (by omega)) w
  · exact par_run (fun _ => a1) Code.ends8 (par_args (k := 8) (by omega) (by omega)) w
  · exact par_run (fun _ => a1) Code.ends9 (par_args (k := 9) (by omega) (by omega)) w
  · exact par_run (fun _ => a1) Code.ends10 (par_args (k := 10) (by omega) (by omega)) w
  · exact par_run (fun _ => a1) Code.ends11 (par_args (k := 11) (by omega) (by omega)) w
  · exact par_run (fun _ => a1) Code.ends12 (par_args (k := 12) (by omega) (by omega)) w
  · exact par_run (fun _ => a1) Code.ends13 (par_args (k := 13) (by omega) (by omega)) w
  · exact par_run (fun _ => a1) Code.ends14 (par_args (k := 14) (by omega) (by omega)) w
  · exact par_run (fun _ => a1) Code.ends15 (par_args (k := 15) (by omega) (by omega)) w
  · exact par_run (fun _ => a1) Code.ends16 (par_args (k := 16) (by omega) (by omega)) w
  · exact par_run (fun _ => a1) Code.ends17 (par_args (k := 17) (by omega) (by omega)) w
  · exact par_run (fun _ => a1) Code.ends18 (par_args (k := 18) (by omega) (by omega)) w
  · exact par_run (fun _ => a1) Code.ends19 (par_args (k := 19) (by omega) (by omega)) w
  · exact par_run (fun _ => a1) Code.ends20 (par_args (k := 20) (by omega) (by omega)) w
def laidL : List (String × DataW Unit) := Rows.xformAloneRow.laid
theorem fits64 {a : Int} (h : (Lit.int .i64 a).wf = true) : -9223372036854775808 ≤ a ∧ a ≤ 9223372036854775807 := by
  have e1 : IntKind.i64.min = -9223372036854775808 := rfl
  have e2 : IntKind.i64.max = 9223372036854775807 := rfl
  simp [Lit.wf] at h
  omega
theorem lifted (os : Os) (started : os.Started) (H : Type) (enc : TypeId × Value → H) :
    ReturnsInHanded {} Go.Proofs.Tryz.checked os 3 .any (fun w args => (Rows.xformAloneSpec.pre enc Go.Proofs.Tryz.prog Go.Proofs.Tryz.f3 [] false w args ∧ laidMetH Go.Proofs.Tryz.prog laidL w) ∧ sizedMet enc Go.Proofs.Tryz.prog Go.Proofs.Tryz.f3 (OpenSpec.ofChange Rows.xformAloneSpec) false w args)
      (Rows.xformAloneSpec.post enc Go.Proofs.Tryz.prog Go.Proofs.Tryz.f3 false true false false) := by
  refine returnsInHanded_of_change_and (C := Go.Proofs.Tryz.checked) (X := fun w _ => laidMetH Go.Proofs.Tryz.prog laidL w) (fun _ _ _ hh h => h.of_heap hh) own started (by kernel_rfl) Go.Proofs.Tryz.func3
    (ChangeSpec.witness_shaped (enc := enc) (C := Go.Proofs.Tryz.checked) (os := os) (X := fun w _ => laidMetH Go.Proofs.Tryz.prog laidL w) false (World.laidAll Go.Proofs.Tryz.prog os laidL) #[.int .i64 0, .int .i64 0] 8 (World.laidAll_os _ _ _)
      (World.shaped_of_ZipB (by kernel_rfl) (by kernel_rfl)) (by kernel_rfl) (by kernel_rfl) (by kernel_rfl)
      (by rw [MakeChecks.laidMetH_plain _ _ _ (by kernel_rfl)]; exact laidMet_laidAll _ (by kernel_rfl) (by kernel_rfl))) ?_
  intro W base args ds gs before hval0 hW _ _ hL _
  have hval : ∀ (j : Nat) t v, Go.Proofs.Tryz.f3.params[j]? = some t → args[j]? = some v → Value.okWide Go.Proofs.Tryz.prog W .any base t v := hval0
  have hW' := hW
  obtain ⟨p, q, hA0, hV, rfl, _, _⟩ := hW
  have hA : DataW.TrodAll enc Go.Proofs.Tryz.prog W 0 (fun _ => true) true Go.Proofs.Tryz.f3.params.toList args.toList ds p := hA0
  rw [Go.Proofs.Tryz.params3] at hA hval
  obtain ⟨v0, vs0, d0, ds0, p0, q0, hargs, rfl, rfl, h0, r0⟩ := trodAll_cons hA
  obtain ⟨v1, vs1, d1, ds1, p1, q1, rfl, rfl, rfl, h1, r1⟩ := trodAll_cons r0
  obtain ⟨rfl, rfl, rfl⟩ := trodAll_nil r1
  obtain rfl : args = #[v0, v1] := by cases args; simp_all
  obtain ⟨rfl, rfl⟩ := trodVars_none hV
  obtain ⟨a0, rfl, rfl, rfl, w0⟩ := open_int Go.Proofs.Tryz.underlying3 (hval 0 3 v0 rfl rfl) h0
  obtain ⟨a1, rfl, rfl, rfl, w1⟩ := open_int Go.Proofs.Tryz.underlying2 (hval 1 2 v1 rfl rfl) h1
  clear hA0 hval0
  simp only [List.append_nil] at hW'
  refine (walk a0 a1 (fits64 w0) (fits64 w1) W).mono fun e W' ⟨he, hb⟩ => ?_
  subst he
  exact ⟨_, rfl, _, _, _, [], [], [], hW', trodAll_mk1 (shut_bool Go.Proofs.Tryz.underlying4 _), (trodAll_cons_mk (shut_int Go.Proofs.Tryz.underlying3 w0) (trodAll_cons_mk (shut_int Go.Proofs.Tryz.underlying2 w1) trodAll_mk0)), rfl, hb.frame _, fun h => by cases h⟩
theorem over : Rows.XformAloneSaid :=
  OpenClaim.holds_of_wide 3 Go.Proofs.Tryz.f3 rfl rfl rfl rfl rfl rfl rfl ⟨rfl, rfl, rfl, rfl, rfl⟩ rfl rfl rfl rfl rfl (by kernel_rfl) Go.Proofs.Tryz.func3 (by kernel_rfl)
    (of_decide_eq_true (by kernel_rfl)) (by unfold Func.isWrapper; first | (rw [if_pos (by decide +kernel)]; kernel_rfl) | (rw [if_neg (by decide +kernel)]; exact ⟨rfl, rfl⟩))
    (fun os started H enc _ => lifted os started H enc)
theorem card_holds : Rows.XformAloneCardSaid :=
  Claim7.holds_tied_plain_at .later [] [.data, .data, .data, .data, .sentinel, .sentinel, .pinned] true (true, "3951681977f764eaae8cbd365409c31dc16c4e797e3d1f5f18ece243d9f20dbb") true over (fun _ h => by cases h) (by kernel_rfl) (fun _ h => by cases h) xformAlone_row_tie rfl ⟨rfl, rfl⟩ (by kernel_rfl) rfl
    (fun f fn hf hfn => by
      obtain rfl : f = 3 := Option.some.inj ((show Go.Proofs.Tryz.prog.funcNamed "counterpane/counterpanelaw18.XformAlone" = some 3 by kernel_rfl).symm.trans hf) |>.symm
      obtain rfl : fn = Go.Proofs.Tryz.f3 := (Option.some.inj (Go.Proofs.Tryz.func3.symm.trans hfn)).symm
      exact ⟨by kernel_rfl, fun j t ht => by
        rw [Go.Proofs.Tryz.params3] at ht
        have h3 : Go.Proofs.Tryz.prog.wantsStandIn 3 = false := by kernel_rfl
        have h2 : Go.Proofs.Tryz.prog.wantsStandIn 2 = false := by kernel_rfl
        have e3 : t = 3 ∨ t = 2 := by
          match j, ht with
          | 0, ht => exact .inl (Option.some.inj ht).symm
          | 1, ht => exact .inr (Option.some.inj ht).symm
          | j + 2, ht => simp at ht
        rcases e3 with e3 | e3
        · rw [e3]
          exact h3
        · rw [e3]
          exact h2⟩)
    (by kernel_rfl)
#print axioms card_holds
end Go.Proofs.YtfnnannkoabobaaGreatDoor
