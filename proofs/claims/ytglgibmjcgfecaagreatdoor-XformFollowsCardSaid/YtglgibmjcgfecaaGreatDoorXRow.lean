/- Proved: the card of counterpane/counterpanelaw18.XformFollows: for every row, col, slice of lines and slice of bools the call returns true on every schedule and leaves memory as it was, where the listed package-level variables read as listed (the tie to the program's text is the given one). -/
import Derived.Test.YtglgibmjcgfecaaGreatDoorXLaw
import Derived.Test.YtglgibmjcgfecaaGreatDoorXOpen
import Derived.Test.YtglgibmjcgfecaaGreatDoorCards
import Derived.Test.YtglgibmjcgfecaaGreatDoorTie
import Derived.WalkKit
import Derived.ProofKit
import Derived.OpenShut
import Derived.ChangeOld
import Derived.SizedLaws
import Derived.Lay
import Derived.LaidMore
import Derived.LaidOnce
import Derived.SevenTiedAt
import Derived.Carry
set_option linter.unusedSimpArgs false
set_option linter.unusedVariables false
set_option linter.unusedVariables false
namespace Go.Proofs.YtglgibmjcgfecaaGreatDoor
open Go Go.ChangeShapes Go.WideShapes Go.ChangeAt Go.RowKit Go.Proofs Go.Xf
set_option maxRecDepth 100000
theorem own : ownKnob Tryz.prog.godebug = none := by kernel_rfl
theorem laidOut : laidOutB Tryz.prog = true := by kernel_rfl
def laidL : List (String × DataW Unit) := Rows.xformFollowsRow.laid
theorem walk {H : Type} {enc : TypeId × Value → H} {W : World} {held : Bool} {v2 v3 : Value} {d2 d3 : DataW H} {p2 p3 : List MemPlace} (row col : Int) (frow : Fits row) (fcol : Fits col)
    (h2 : DataW.Trod enc Tryz.prog W 0 (fun _ => true) held 22 v2 d2 p2) (h3 : DataW.Trod enc Tryz.prog W 0 (fun _ => true) held 23 v3 d3 p3) (e2 : ∃ a n c, v2 = .slice a n c) (e3 : ∃ a n c, v3 = .slice a n c) :
    Calls Tryz.prog 3 #[n64 row, n64 col, v2, v3] W fun e W' => e = .returned (.bool true) ∧ Below W.heap.size W W' := by
  obtain ⟨f2, h2⟩ := h2
  obtain ⟨f3, h3⟩ := h3
  obtain ⟨a2, n2, c2, rfl⟩ := e2
  obtain ⟨a3, n3, c3, rfl⟩ := e3
  obtain ⟨pl, cl, L, hcs, hF, hL⟩ := open_lines h2
  obtain ⟨pr, cr, R, hcs3, hR⟩ := open_bools h3
  simp [Value.cells] at hcs hcs3
  obtain ⟨rfl, rfl, rfl⟩ := hcs
  obtain ⟨rfl, rfl, rfl⟩ := hcs3
  exact follows_w row col L R _ _ _ _ W frow fcol hF hL hR

theorem lifted (os : Os) (started : os.Started) (H : Type) (enc : TypeId × Value → H) :
    ReturnsInHanded {} Tryz.checked os 3 .any (fun w args => (Rows.xformFollowsSpec.pre enc Tryz.prog Tryz.f3 [] false w args ∧ laidMetH Tryz.prog laidL w) ∧ sizedMet enc Tryz.prog Tryz.f3 (OpenSpec.ofChange Rows.xformFollowsSpec) false w args)
      (Rows.xformFollowsSpec.post enc Tryz.prog Tryz.f3 false true false false) := by
  refine returnsInHanded_of_change_and (C := Tryz.checked) (X := fun w _ => laidMetH Tryz.prog laidL w) (fun _ _ _ hh h => h.of_heap hh) own started (by kernel_rfl) Tryz.func3
    (ChangeSpec.witness_shaped (enc := enc) (C := Tryz.checked) (os := os) (X := fun w _ => laidMetH Tryz.prog laidL w) false (World.laidAll Tryz.prog os laidL) #[.int .i64 0, .int .i64 0, .slice none 0 0, .slice none 0 0] 8 (World.laidAll_os _ _ _)
      (World.shaped_of_ZipB (by kernel_rfl) (by kernel_rfl)) (by kernel_rfl) (by kernel_rfl) (by kernel_rfl)
      (by rw [MakeChecks.laidMetH_plain _ _ _ (by kernel_rfl)]; exact laidMet_laidAll _ (by kernel_rfl) (by kernel_rfl))) ?_
  intro W base args ds gs before hval0 hW _ _ hL _
  have hval : ∀ (j : Nat) t v, Tryz.f3.params[j]? = some t → args[j]? = some v → Value.okWide Tryz.prog W .any base t v := hval0
  have hW' := hW
  obtain ⟨p, q, hA0, hV, rfl, _, _⟩ := hW
  have hA : DataW.TrodAll enc Tryz.prog W 0 (fun _ => true) true Tryz.f3.params.toList args.toList ds p := hA0
  rw [Tryz.params3] at hA hval
  obtain ⟨v0, vs0, d0, ds0, p0, q0, hargs, rfl, rfl, h0, r0⟩ := trodAll_cons hA
  obtain ⟨v1, vs1, d1, ds1, p1, q1, rfl, rfl, rfl, h1, r1⟩ := trodAll_cons r0
  obtain ⟨v2, vs2, d2, ds2, p2, q2, rfl, rfl, rfl, h2, r2⟩ := trodAll_cons r1
  obtain ⟨v3, vs3, d3, ds3, p3, q3, rfl, rfl, rfl, h3, r3⟩ := trodAll_cons r2
  obtain ⟨rfl, rfl, rfl⟩ := trodAll_nil r3
  obtain rfl : args = #[v0, v1, v2, v3] := by cases args; simp_all
  obtain ⟨rfl, rfl⟩ := trodVars_none hV
  obtain ⟨a0, rfl, rfl, rfl, w0⟩ := open_int Tryz.underlying2 (hval 0 2 v0 rfl rfl) h0
  obtain ⟨a1, rfl, rfl, rfl, w1⟩ := open_int Tryz.underlying2 (hval 1 2 v1 rfl rfl) h1
  have e2 : ∃ a n c, v2 = .slice a n c := okWide_slice Tryz.underlying22 (hval 2 22 v2 rfl rfl)
  have e3 : ∃ a n c, v3 = .slice a n c := okWide_slice Tryz.underlying23 (hval 3 23 v3 rfl rfl)
  clear hA0 hval0
  simp only [List.append_nil, List.nil_append] at hW'
  have hlt2 : ∀ x ∈ p2, x.block < W.heap.size := fun x hx => by simpa using hW'.lt x (by simp [hx])
  have hlt3 : ∀ x ∈ p3, x.block < W.heap.size := fun x hx => by simpa using hW'.lt x (by simp [hx])
  refine (walk a0 a1 (fits64 w0) (fits64 w1) h2 h3 e2 e3).mono fun e W' ⟨he, hb⟩ => ?_
  subst he
  have ha2 := Below.trod laidOut (by kernel_rfl) (of_decide_eq_true (by kernel_rfl)) h2 hb hlt2
  have ha3 := Below.trod laidOut (by kernel_rfl) (of_decide_eq_true (by kernel_rfl)) h3 hb hlt3
  refine ⟨_, rfl, _, _, _, [], p2 ++ p3, [], hW', trodAll_mk1 (shut_bool Tryz.underlying4 _), ?_, rfl, hb.frame _, fun h => by cases h⟩
  have := trodAll_cons_mk (shut_int (enc := enc) (w := W') (base := 0) (spare := fun b => decide (b < W.heap.size)) (held := true) Tryz.underlying2 w0) (trodAll_cons_mk (shut_int (enc := enc) (w := W') (base := 0) (spare := fun b => decide (b < W.heap.size)) (held := true) Tryz.underlying2 w1) (trodAll_cons_mk ha2 (trodAll_cons_mk ha3 trodAll_mk0)))
  simp only [List.append_nil, List.nil_append] at this
  exact this
theorem over : Rows.XformFollowsSaid :=
  OpenClaim.holds_of_wide 3 Tryz.f3 rfl rfl rfl rfl rfl rfl rfl ⟨rfl, rfl, rfl, rfl, rfl⟩ rfl rfl rfl rfl rfl (by kernel_rfl) Tryz.func3 (by kernel_rfl)
    (of_decide_eq_true (by kernel_rfl)) (by unfold Func.isWrapper; first | (rw [if_pos (by decide +kernel)]; kernel_rfl) | (rw [if_neg (by decide +kernel)]; exact ⟨rfl, rfl⟩))
    (fun os started H enc _ => lifted os started H enc)
theorem card_holds : Rows.XformFollowsCardSaid :=
  Claim7.holds_tied_plain_at .later [] [.data, .data, .data, .data, .sentinel, .sentinel, .pinned] true (true, "9b923059121a8670892be162b415793884456c9f67960ba0eaf44e052897edad") true over (fun _ h => by cases h) (by kernel_rfl) (fun _ h => by cases h) xformFollows_row_tie rfl ⟨rfl, rfl⟩ (by kernel_rfl) rfl
    (fun f fn hf hfn => by
      obtain rfl : f = 3 := Option.some.inj ((show Tryz.prog.funcNamed "counterpane/counterpanelaw18.XformFollows" = some 3 by kernel_rfl).symm.trans hf) |>.symm
      obtain rfl : fn = Tryz.f3 := (Option.some.inj (Tryz.func3.symm.trans hfn)).symm
      exact ⟨by kernel_rfl, fun j t ht => by
        rw [Tryz.params3] at ht
        have h2 : Tryz.prog.wantsStandIn 2 = false := by kernel_rfl
        have h22 : Tryz.prog.wantsStandIn 22 = false := by kernel_rfl
        have h23 : Tryz.prog.wantsStandIn 23 = false := by kernel_rfl
        have e3 : t = 2 ∨ t = 22 ∨ t = 23 := by
          match j, ht with
          | 0, ht => exact .inl (Option.some.inj ht).symm
          | 1, ht => exact .inl (Option.some.inj ht).symm
          | 2, ht => exact .inr (.inl (Option.some.inj ht).symm)
          | 3, ht => exact .inr (.inr (Option.some.inj ht).symm)
          | j + 4, ht => simp at ht
        rcases e3 with e3 | e3 | e3
        · rw [e3]; exact h2
        · rw [e3]; exact h22
        · rw [e3]; exact h23⟩)
    (by kernel_rfl)
#print axioms card_holds
end Go.Proofs.YtglgibmjcgfecaaGreatDoor

