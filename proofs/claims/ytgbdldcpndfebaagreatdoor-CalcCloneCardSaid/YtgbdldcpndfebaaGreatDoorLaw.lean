/- Proved: the card of counterpane/counterpanelaw17.CalcClone (for all a and b): the call returns true on every schedule and leaves memory as it was, where the listed package-level variables read as listed (the tie to the program's text is the given one); the run is evaluated by the kernel through a proved evaluator, with the answers of Print and Read shown by walks. -/
import Derived.Test.YtgbdldcpndfebaaGreatDoorCodeE1
import Derived.Test.YtgbdldcpndfebaaGreatDoorCodeE2
import Derived.Test.YtgbdldcpndfebaaGreatDoorCodeE3
import Derived.Test.YtgbdldcpndfebaaGreatDoorCodeR1
import Derived.Test.YtgbdldcpndfebaaGreatDoorCodeR2
import Derived.Test.YtgbdldcpndfebaaGreatDoorCodeR3
import Derived.Test.YtgbdldcpndfebaaGreatDoorCodeJ0
import Derived.Test.YtgbdldcpndfebaaGreatDoorCodeJ1
import Derived.Test.YtgbdldcpndfebaaGreatDoorCodeJ2
import Derived.Test.YtgbdldcpndfebaaGreatDoorCodeJ3
import Derived.Test.YtgbdldcpndfebaaGreatDoorCodeJ4
import Derived.Test.YtgbdldcpndfebaaGreatDoorCodeJ5
import Derived.Test.YtgbdldcpndfebaaGreatDoorCcOrc
import Derived.Test.YtgbdldcpndfebaaGreatDoorCards
import Derived.Test.YtgbdldcpndfebaaGreatDoorTie
import Derived.WalkKit
import Derived.ProofKit
import Derived.ChangeOld
import Derived.SizedLaws
import Derived.Lay
import Derived.LaidMore
import Derived.LaidOnce
import Derived.SevenTiedAt
import Derived.LaidLaws
import Derived.Lib.LaidU8
import Derived.OpenShut
import Derived.Carry
namespace Go.Proofs.YtgbdldcpndfebaaGreatDoor
open Go Go.ChangeShapes Go.WideShapes Go.ChangeAt Go.RowKit Go.Proofs Go.Cc
set_option maxRecDepth 100000
set_option linter.unusedVariables false
theorem own : ownKnob Go.Proofs.Tryz.prog.godebug = none := by kernel_rfl
def laidL : List (String × DataW Unit) := Rows.calcCloneRow.laid
theorem cell6 {w : World} (h : laidMetH Go.Proofs.Tryz.prog laidL w) : Go.Eng.OneCell w 6 := by
  rw [MakeChecks.laidMetH_plain _ _ _ (by kernel_rfl)] at h
  obtain ⟨g, t, cs, fuel, p, h1, h2, h3, h4⟩ := Lib.laidMet.reads h (n := "strconv.ErrSyntax") (d := Rows.laid_strconv_ErrSyntax) (by unfold laidL Rows.calcCloneRow; simp)
  obtain rfl := Option.some.inj ((show Go.Proofs.Tryz.prog.globalNamed "strconv.ErrSyntax" = some 6 by kernel_rfl).symm.trans h1)
  obtain rfl := Option.some.inj ((show (Go.Proofs.Tryz.prog.globals[6]?).map (·.type) = some 298 by kernel_rfl).symm.trans h2)
  obtain ⟨_, u, v, hcs, _, _⟩ := iface_of_trod Go.Proofs.Tryz.underlying298 h4
  simp only [World.var?, h1, Option.bind_some] at h3
  split at h3
  · rename_i c e fz hc
    cases h3
    have : cs = #[.iface u v] := by apply Array.ext'; simpa using hcs
    subst this
    exact ⟨_, e, fz, hc, rfl⟩
  · cases h3
theorem maxCell {w : World} (hs : w.ShapedOpen Go.Proofs.Tryz.prog) : ∃ z e fz, w.heap[2]? = some (.cells #[.int .i64 z] e fz) := by
  obtain ⟨cs, hh, hsz, hr⟩ := hs.1 2 #[.int .i64 0] 3 (of_decide_eq_true (by kernel_rfl)) (by kernel_rfl)
  obtain ⟨ts, hts, _, hall⟩ := hr (by kernel_rfl)
  rw [show Go.Proofs.Tryz.prog.cellTypes Go.Proofs.Tryz.prog.depth 3 = some [3] by kernel_rfl] at hts
  cases hts
  have h1 : cs.size = 1 := hsz
  have h0 : cs[0]? = some (cs[0]'(by omega)) := Array.getElem?_eq_getElem (by omega)
  obtain ⟨u, hu', hok⟩ := hall 0 (cs[0]'(by omega)) h0
  have : u = 3 := by simpa using hu'.symm
  subst this
  unfold Cell.ok at hok
  rw [Go.Proofs.Tryz.underlying3] at hok
  have hcs : cs = #[cs[0]'(by omega)] := by
    apply Array.ext
    · simp [h1]
    · intro i h2 h3
      obtain rfl : i = 0 := by omega
      rfl
  generalize hv : (cs[0]'(by omega)) = v at hok hcs
  cases v <;> simp only [] at hok <;> try (cases hok; done)
  obtain ⟨rfl, _⟩ := hok
  exact ⟨_, _, _, by rw [hh, hcs]⟩
theorem cells (w : World) (h : laidMetH Go.Proofs.Tryz.prog laidL w) (hs : w.ShapedOpen Go.Proofs.Tryz.prog) : ∀ g ∈ [6, 2], Go.Eng.OneCell w g := by
  intro g hg
  simp only [List.mem_cons, List.not_mem_nil, or_false] at hg
  rcases hg with rfl | rfl
  · exact cell6 h
  · obtain ⟨z, e, fz, hz⟩ := maxCell hs
    exact ⟨_, e, fz, hz, rfl⟩
theorem tabs1 {a b : Int} (w : World) (gs : List Nat) (hw : ∀ g ∈ gs, Go.Eng.OneCell w g) (ha : -2147483648 ≤ a ∧ a ≤ 2147483647) (hb : -2147483648 ≤ b ∧ b ≤ 2147483647) : Go.Eng.AllT (@Go.Eng.EntG (Go.Eng.envS gs w hw ⟨(printS a).toArray⟩ ⟨(printS b).toArray⟩ a b ha hb) Go.Proofs.Tryz.prog 166020696663385964612 (Go.Eng.planOf Go.Proofs.Tryz.prog 166020696663385964612)) Code.tabO1 := by
  letI : Go.Eng.Env := Go.Eng.envS gs w hw ⟨(printS a).toArray⟩ ⟨(printS b).toArray⟩ a b ha hb
  exact Code.C1.tabO_ok (orcP ha hb) (Go.Eng.fall_ok (by kernel_rfl) Code.C1.tab_ok (memoR_says ha hb))
theorem tabs2 {a b : Int} (w : World) (gs : List Nat) (hw : ∀ g ∈ gs, Go.Eng.OneCell w g) (ha : -2147483648 ≤ a ∧ a ≤ 2147483647) (hb : -2147483648 ≤ b ∧ b ≤ 2147483647) : Go.Eng.AllT (@Go.Eng.EntG (Go.Eng.envS gs w hw ⟨(printS a).toArray⟩ ⟨(printS b).toArray⟩ a b ha hb) Go.Proofs.Tryz.prog 184467440737095516228 (Go.Eng.planOf Go.Proofs.Tryz.prog 184467440737095516228)) Code.tabO2 := by
  letI : Go.Eng.Env := Go.Eng.envS gs w hw ⟨(printS a).toArray⟩ ⟨(printS b).toArray⟩ a b ha hb
  exact Code.C2.tabO_ok (orcP ha hb) (Go.Eng.fall_ok (by kernel_rfl) Code.C2.tab_ok (memoR_says ha hb))
theorem tabs3 {a b : Int} (w : World) (gs : List Nat) (hw : ∀ g ∈ gs, Go.Eng.OneCell w g) (ha : -2147483648 ≤ a ∧ a ≤ 2147483647) (hb : -2147483648 ≤ b ∧ b ≤ 2147483647) : Go.Eng.AllT (@Go.Eng.EntG (Go.Eng.envS gs w hw ⟨(printS a).toArray⟩ ⟨(printS b).toArray⟩ a b ha hb) Go.Proofs.Tryz.prog 202914184810805067844 (Go.Eng.planOf Go.Proofs.Tryz.prog 202914184810805067844)) Code.tabO3 := by
  letI : Go.Eng.Env := Go.Eng.envS gs w hw ⟨(printS a).toArray⟩ ⟨(printS b).toArray⟩ a b ha hb
  exact Code.C3.tabO_ok (orcP ha hb) (Go.Eng.fall_ok (by kernel_rfl) Code.C3.tab_ok (memoR_says ha hb))
theorem walk (a b : Int) (ha : -2147483648 ≤ a ∧ a ≤ 2147483647) (hb : -2147483648 ≤ b ∧ b ≤ 2147483647) (w : World) (h : laidMetH Go.Proofs.Tryz.prog laidL w) (hs : w.ShapedOpen Go.Proofs.Tryz.prog) : Calls Go.Proofs.Tryz.prog 3 #[.int .i32 a, .int .i32 b] w fun e w' => e = .returned (.bool true) ∧ Below w.heap.size w w' := by
  obtain ⟨z, e, fz, hz⟩ := maxCell hs
  have hc := cells w h hs
  rcases (by omega : z ≤ 2 ∨ z = 3 ∨ 4 ≤ z) with hq | hq | hq
  · exact Go.Eng.calls_envS (ng := 166020696663385964612) (f := Code.q3) (by kernel_rfl) w [6, 2] hc _ _ a b ha hb (tabs1 w [6, 2] hc ha hb) Code.runs1 (by decide) (by decide +kernel) (.inr ⟨z, e, fz, hz, by decide +kernel, hq⟩)
  · exact Go.Eng.calls_envS (ng := 184467440737095516228) (f := Code.q3) (by kernel_rfl) w [6, 2] hc _ _ a b ha hb (tabs2 w [6, 2] hc ha hb) Code.runs2 (by decide) (by decide +kernel) (.inr ⟨z, e, fz, hz, by decide +kernel, hq⟩)
  · exact Go.Eng.calls_envS (ng := 202914184810805067844) (f := Code.q3) (by kernel_rfl) w [6, 2] hc _ _ a b ha hb (tabs3 w [6, 2] hc ha hb) Code.runs3 (by decide) (by decide +kernel) (.inr ⟨z, e, fz, hz, by decide +kernel, hq⟩)
/-- The plain wrap with a condition of the row's own, the world's shape kept. -/
theorem and_shaped {H : Type} {enc : TypeId × Value → H} {a : Assume} {C : Checked} {os : Os} {f : FuncId} {fn : Func} {s : ChangeSpec} {conds : List PathCond} {apart fresh handsOn again : Bool} {X : World → Array Value → Prop}
    (hX : ∀ (w w' : World) (args : Array Value), w.heap = w'.heap → X w args → X w' args)
    (own : ownKnob C.prog.godebug = none) (started : os.Started) (noInit : C.prog.inits.idxOf? f = none) (hfn : C.prog.funcs[f]? = some fn)
    (witness : ∃ (w : World) (tape : Tape) (i : Input), w.os = os ∧ (w.forCall tape i).Shaped C.prog ∧ i.vars = [] ∧ Input.okWide C.prog (w.forCall tape i) .any w.heap.size f i ∧
      ((s.pre enc C.prog fn conds apart (w.forCall tape i).memory i.args ∧ X (w.forCall tape i).memory i.args) ∧ sizedMet enc C.prog fn (OpenSpec.ofChange s) apart (w.forCall tape i).memory i.args) ∧ a.holds C.prog (lone (Frame.enter C.prog f i.args .normal) [] (w.forCall tape i)))
    (contract : ∀ (W : World) (base : Nat) (args : Array Value) (ds gs : List (DataW H)) (before : List MemPlace),
      (∀ (j : Nat) t v, fn.params[j]? = some t → args[j]? = some v → Value.okWide C.prog W .any base t v) → DataW.Whole enc C.prog fn.params.toList s.vars apart W args.toList ds gs before → X W args → W.ShapedOpen C.prog →
      Calls C.prog f args W fun e W' => ∃ v, e = .returned v ∧ s.post enc C.prog fn apart fresh handsOn again W args v W') :
    ReturnsInHanded a C os f .any (fun w args => (s.pre enc C.prog fn conds apart w args ∧ X w args) ∧ sizedMet enc C.prog fn (OpenSpec.ofChange s) apart w args) (s.post enc C.prog fn apart fresh handsOn again) := by
  refine returnsInHanded_of_calls own started noInit witness ?_
  intro w tape i _ hsh _ hok hpre hholds
  obtain ⟨_, _, _, fn', hfn', _, _, _, _, hval⟩ := hok
  have e : fn' = fn := Option.some.inj (hfn'.symm.trans hfn)
  subst e
  obtain ⟨⟨⟨ds, gs, before, hw, hc⟩, hx⟩, hz⟩ := hpre
  have hw' := DataW.Whole.of_heap (w' := w.forCall tape i) (by rfl) hw
  refine (contract (w.forCall tape i) w.heap.size i.args ds gs before hval hw' (hX _ _ _ (by rfl) hx) hsh).mono fun e W' ⟨v, he, hp⟩ => ?_
  subst he
  exact ChangeSpec.post_blind hp
theorem fits32 {a : Int} (h : (Lit.int .i32 a).wf = true) : -2147483648 ≤ a ∧ a ≤ 2147483647 := by
  have e1 : IntKind.i32.min = -2147483648 := rfl
  have e2 : IntKind.i32.max = 2147483647 := rfl
  simp [Lit.wf] at h
  omega
theorem lifted (os : Os) (started : os.Started) (H : Type) (enc : TypeId × Value → H) :
    ReturnsInHanded {} Go.Proofs.Tryz.checked os 3 .any (fun w args => (Rows.calcCloneSpec.pre enc Go.Proofs.Tryz.prog Go.Proofs.Tryz.f3 [] false w args ∧ laidMetH Go.Proofs.Tryz.prog laidL w) ∧ sizedMet enc Go.Proofs.Tryz.prog Go.Proofs.Tryz.f3 (OpenSpec.ofChange Rows.calcCloneSpec) false w args)
      (Rows.calcCloneSpec.post enc Go.Proofs.Tryz.prog Go.Proofs.Tryz.f3 false true false false) := by
  refine and_shaped (C := Go.Proofs.Tryz.checked) (X := fun w _ => laidMetH Go.Proofs.Tryz.prog laidL w) (fun _ _ _ hh h => h.of_heap hh) own started (by kernel_rfl) Go.Proofs.Tryz.func3
    (ChangeSpec.witness_shaped (enc := enc) (C := Go.Proofs.Tryz.checked) (os := os) (X := fun w _ => laidMetH Go.Proofs.Tryz.prog laidL w) false (World.laidAll Go.Proofs.Tryz.prog os laidL) #[.int .i32 0, .int .i32 0] 8 (World.laidAll_os _ _ _)
      (World.shaped_of_ZipB (by kernel_rfl) (by kernel_rfl)) (by kernel_rfl) (by kernel_rfl) (by kernel_rfl)
      (by rw [MakeChecks.laidMetH_plain _ _ _ (by kernel_rfl)]; exact laidMet_laidAll _ (by kernel_rfl) (by kernel_rfl))) ?_
  intro W base args ds gs before hval0 hW hL hsh
  have hval : ∀ (j : Nat) t v, Go.Proofs.Tryz.f3.params[j]? = some t → args[j]? = some v → Value.okWide Go.Proofs.Tryz.prog W .any base t v := hval0
  have hW' := hW
  obtain ⟨p, q, hA0, hV, rfl, _, _⟩ := hW
  have hA : DataW.TrodAll enc Go.Proofs.Tryz.prog W 0 (fun _ => true) true Go.Proofs.Tryz.f3.params.toList args.toList ds p := hA0
  rw [Go.Proofs.Tryz.params3] at hA hval
  obtain ⟨v0, vs0, d0, ds0, p0, q0, hargs, rfl, rfl, h0, r0⟩ := trodAll_cons hA
  obtain ⟨v1, vs1, d1, ds1, p1, q1, rfl, rfl, rfl, h1, r1⟩ := trodAll_cons r0
  obtain ⟨rfl, rfl, rfl⟩ := trodAll_nil r1
  obtain rfl : args = #[v0, v1] := by cases args; simp_all
  obtain ⟨rfl, rfl⟩ := trodVars_none hV
  obtain ⟨a0, rfl, rfl, rfl, w0⟩ := open_int Go.Proofs.Tryz.underlying21 (hval 0 21 v0 rfl rfl) h0
  obtain ⟨a1, rfl, rfl, rfl, w1⟩ := open_int Go.Proofs.Tryz.underlying21 (hval 1 21 v1 rfl rfl) h1
  clear hA0 hval0
  simp only [List.append_nil] at hW'
  refine (walk a0 a1 (fits32 w0) (fits32 w1) W hL hsh).mono fun e W' ⟨he, hb⟩ => ?_
  subst he
  exact ⟨_, rfl, _, _, _, [], [], [], hW', trodAll_mk1 (shut_bool Go.Proofs.Tryz.underlying4 _), (trodAll_cons_mk (shut_int Go.Proofs.Tryz.underlying21 w0) (trodAll_cons_mk (shut_int Go.Proofs.Tryz.underlying21 w1) trodAll_mk0)), rfl, hb.frame _, fun h => by cases h⟩
theorem closed_of (P : Program) (f : FuncId) (fn : Func) (s : ChangeSpec) (c : OpenClaim)
    (h1 : (c.inPlace == P.inPlace f) = true) (h2 : (c.unfollowed == P.unfollowed f) = true) (h3 : (c.recurses == P.recurses f) = true) (h4 : (c.named == P.varsNamed f) = true) (h5 : laidOutB P = true) (h6 : mapsRowed P = true)
    (h7 : P.stopsHeard = true) (h8 : P.mayEnter = true) (h9 : (c.lifted == P.liftsFinal) = true) (h10 : (P.make == some c.make) = true) (h11 : (c.plainKeys == P.plainKeys) = true) (h12 : c.wf (OpenSpec.ofChange s) = true)
    (rest : (fn.params.all (P.readableRec ·) && namedTie P c.named s.vars &&
  (c.stops == []) && (P.stops == []) && (c.knobs == []) && (P.stopKnobs == []) &&
  (c.maps == (fn.params.toList ++ s.plain.varTypes P).any (P.mapsRec ·)) && (c.ifaces == (fn.params.toList ++ s.plain.varTypes P).any (P.ifacesRec ·)) && (c.mapsOut == P.mapsAmong fn.resultTypes.toList) &&
  (c.loops == (fn.params.toList ++ s.plain.varTypes P).any (P.loopsFrom ·)) && (c.wideKeys == (fn.params.toList ++ s.plain.varTypes P ++ fn.resultTypes.toList).any (P.wideKeysFrom ·)) &&
  s.vars.all (P.varReadable ·) && fn.resultTypes.all (fun t => P.readableRec t && decide (t < P.types.size)) && (c.ifacesOut == fn.resultTypes.toList.any (P.ifacesRec ·)) && (c.loopsOut == fn.resultTypes.toList.any (P.loopsFrom ·)) && c.shortTexts.isNone && (c.kinds == (if c.domain.isEmpty then [] else fn.params.toList.map fun t => match P.underlying t with | some (.int k) => some k | _ => none)) && (c.pinned == c.pinnedBy) &&
  (c.veiled == (fn.params.toList ++ s.plain.varTypes P ++ fn.resultTypes.toList).any (P.veiledRec ·)) && c.veiledFits P fn.params.toList (fn.params.toList ++ s.plain.varTypes P ++ fn.resultTypes.toList)) = true) :
    joinedFacts P f fn s c = true := by
  simp only [Bool.and_eq_true] at rest
  obtain ⟨⟨⟨⟨⟨⟨⟨⟨⟨⟨⟨⟨⟨⟨⟨⟨⟨⟨⟨a1, a2⟩, a3⟩, a4⟩, a5⟩, a6⟩, a7⟩, a8⟩, a9⟩, a10⟩, a11⟩, a12⟩, a13⟩, a14⟩, a15⟩, a16⟩, a17⟩, a18⟩, a19⟩, a20⟩ := rest
  unfold joinedFacts
  simp only [Bool.and_eq_true]
  exact ⟨⟨⟨⟨⟨⟨⟨⟨⟨⟨⟨⟨⟨⟨⟨⟨⟨⟨⟨⟨⟨⟨⟨⟨⟨⟨⟨⟨⟨⟨⟨h12, h5⟩, h6⟩, a1⟩, a2⟩, a3⟩, a4⟩, a5⟩, a6⟩, h1⟩, h2⟩, h3⟩, h4⟩, a7⟩, a8⟩, a9⟩, a10⟩, a11⟩, a12⟩, a13⟩, a14⟩, a15⟩, h11⟩, a16⟩, h7⟩, h8⟩, h9⟩, h10⟩, a17⟩, a18⟩, a19⟩, a20⟩
theorem closed : joinedFacts Tryz.pinned.checked.prog 3 Go.Proofs.Tryz.f3 Rows.calcCloneSpec Rows.calcCloneRow = true :=
  closed_of _ _ _ _ _ j1 j2 j3 j4 j5 j6 j7 j8 j9 j10 j11 j12 (by kernel_rfl)
theorem over : Rows.CalcCloneSaid :=
  OpenClaim.holds_of_wide 3 Go.Proofs.Tryz.f3 rfl rfl rfl rfl rfl rfl rfl ⟨rfl, rfl, rfl, rfl, rfl⟩ rfl rfl rfl rfl rfl (by kernel_rfl) Go.Proofs.Tryz.func3 closed
    (of_decide_eq_true (by kernel_rfl)) (by unfold Func.isWrapper; first | (rw [if_pos (by decide +kernel)]; kernel_rfl) | (rw [if_neg (by decide +kernel)]; exact ⟨rfl, rfl⟩))
    (fun os started H enc _ => lifted os started H enc)
theorem card_holds : Rows.CalcCloneCardSaid :=
  Claim7.holds_tied_plain_at .later [] [.data, .data, .data, .data, .sentinel, .sentinel, .pinned] true (true, "4cd89fbaed99bbc673366f5fe26827b4b4b57ba97826e5d59c5b5680f26ae541") true over (fun _ h => by cases h) (by kernel_rfl) (fun _ h => by cases h) calcClone_row_tie rfl ⟨rfl, rfl⟩ (by kernel_rfl) rfl
    (fun f fn hf hfn => by
      obtain rfl : f = 3 := Option.some.inj ((show Go.Proofs.Tryz.prog.funcNamed "counterpane/counterpanelaw17.CalcClone" = some 3 by kernel_rfl).symm.trans hf) |>.symm
      obtain rfl : fn = Go.Proofs.Tryz.f3 := (Option.some.inj (Go.Proofs.Tryz.func3.symm.trans hfn)).symm
      exact ⟨by kernel_rfl, fun j t ht => by
        rw [Go.Proofs.Tryz.params3] at ht
        have h21 : Go.Proofs.Tryz.prog.wantsStandIn 21 = false := by kernel_rfl
        have e3 : t = 21 := by
          match j, ht with
          | 0, ht => exact (Option.some.inj ht).symm
          | 1, ht => exact (Option.some.inj ht).symm
          | j + 2, ht => simp at ht
        rw [e3]
        exact h21⟩)
    jgoes
#print axioms card_holds
end Go.Proofs.YtgbdldcpndfebaaGreatDoor
