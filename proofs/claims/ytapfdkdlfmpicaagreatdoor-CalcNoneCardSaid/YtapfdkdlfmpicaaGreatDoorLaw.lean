/- Proved: the card of counterpane/counterpanelaw17.CalcNone (a law without parameters): the call returns true on every schedule and leaves memory as it was, where the listed package-level variables read as listed (the tie to the program's text is the given one); the run is evaluated by the kernel through a proved evaluator. -/
import Derived.Test.YtapfdkdlfmpicaaGreatDoorCodeE1
import Derived.Test.YtapfdkdlfmpicaaGreatDoorCodeE2
import Derived.Test.YtapfdkdlfmpicaaGreatDoorCodeE3
import Derived.Test.YtapfdkdlfmpicaaGreatDoorCodeR1
import Derived.Test.YtapfdkdlfmpicaaGreatDoorCodeR2
import Derived.Test.YtapfdkdlfmpicaaGreatDoorCodeR3
import Derived.Test.YtapfdkdlfmpicaaGreatDoorCodeJ0
import Derived.Test.YtapfdkdlfmpicaaGreatDoorCodeJ1
import Derived.Test.YtapfdkdlfmpicaaGreatDoorCodeJ2
import Derived.Test.YtapfdkdlfmpicaaGreatDoorCodeJ3
import Derived.Test.YtapfdkdlfmpicaaGreatDoorCodeJ4
import Derived.Test.YtapfdkdlfmpicaaGreatDoorCodeJ5
import Derived.Test.YtapfdkdlfmpicaaGreatDoorCards
import Derived.Test.YtapfdkdlfmpicaaGreatDoorTie
import Derived.WalkKit
import Derived.ProofKit
import Derived.ChangeOld
import Derived.SizedLaws
import Derived.Lay
import Derived.LaidMore
import Derived.LaidOnce
import Derived.SevenTiedAt
import Derived.LaidLaws
import Derived.Lib.LaidU8
namespace Go.Proofs.YtapfdkdlfmpicaaGreatDoor
open Go Go.ChangeShapes Go.WideShapes Go.ChangeAt Go.RowKit Go.Proofs
set_option maxRecDepth 100000
set_option linter.unusedVariables false
theorem own : ownKnob Go.Proofs.Tryz.prog.godebug = none := by kernel_rfl
def laidL : List (String × DataW Unit) := Rows.calcNoneRow.laid
theorem cell6 {w : World} (h : laidMetH Go.Proofs.Tryz.prog laidL w) : Go.Eng.OneCell w 6 := by
  rw [MakeChecks.laidMetH_plain _ _ _ (by kernel_rfl)] at h
  obtain ⟨g, t, cs, fuel, p, h1, h2, h3, h4⟩ := Lib.laidMet.reads h (n := "strconv.ErrSyntax") (d := Rows.laid_strconv_ErrSyntax) (by unfold laidL Rows.calcNoneRow; simp)
  obtain rfl := Option.some.inj ((show Go.Proofs.Tryz.prog.globalNamed "strconv.ErrSyntax" = some 6 by kernel_rfl).symm.trans h1)
  obtain rfl := Option.some.inj ((show (Go.Proofs.Tryz.prog.globals[6]?).map (·.type) = some 302 by kernel_rfl).symm.trans h2)
  obtain ⟨_, u, v, hcs, _, _⟩ := iface_of_trod Go.Proofs.Tryz.underlying302 h4
  simp only [World.var?, h1, Option.bind_some] at h3
  split at h3
  · rename_i c e fz hc
    cases h3
    have : cs = #[.iface u v] := by apply Array.ext'; simpa using hcs
    subst this
    exact ⟨_, e, fz, hc, rfl⟩
  · cases h3
theorem maxCell {w : World} (hs : w.ShapedOpen Go.Proofs.Tryz.prog) : ∃ z e fz, w.heap[2]? = some (.cells #[.int .i64 z] e fz) := by
  obtain ⟨cs, hh, hsz, hr⟩ := hs.1 2 #[.int .i64 0] 3 (of_decide_eq_true (by kernel_rfl)) (by kernel_rfl)
  obtain ⟨ts, hts, _, hall⟩ := hr (by kernel_rfl)
  rw [show Go.Proofs.Tryz.prog.cellTypes Go.Proofs.Tryz.prog.depth 3 = some [3] by kernel_rfl] at hts
  cases hts
  have h1 : cs.size = 1 := hsz
  have h0 : cs[0]? = some (cs[0]'(by omega)) := Array.getElem?_eq_getElem (by omega)
  obtain ⟨u, hu', hok⟩ := hall 0 (cs[0]'(by omega)) h0
  have : u = 3 := by simpa using hu'.symm
  subst this
  unfold Cell.ok at hok
  rw [Go.Proofs.Tryz.underlying3] at hok
  have hcs : cs = #[cs[0]'(by omega)] := by
    apply Array.ext
    · simp [h1]
    · intro i h2 h3
      obtain rfl : i = 0 := by omega
      rfl
  generalize hv : (cs[0]'(by omega)) = v at hok hcs
  cases v <;> simp only [] at hok <;> try (cases hok; done)
  obtain ⟨rfl, _⟩ := hok
  exact ⟨_, _, _, by rw [hh, hcs]⟩
theorem cells (w : World) (h : laidMetH Go.Proofs.Tryz.prog laidL w) (hs : w.ShapedOpen Go.Proofs.Tryz.prog) : ∀ g ∈ [6, 2], Go.Eng.OneCell w g := by
  intro g hg
  simp only [List.mem_cons, List.not_mem_nil, or_false] at hg
  rcases hg with rfl | rfl
  · exact cell6 h
  · obtain ⟨z, e, fz, hz⟩ := maxCell hs
    exact ⟨_, e, fz, hz, rfl⟩
theorem walk (w : World) (h : laidMetH Go.Proofs.Tryz.prog laidL w) (hs : w.ShapedOpen Go.Proofs.Tryz.prog) : Calls Go.Proofs.Tryz.prog 3 #[] w fun e w' => e = .returned (.bool true) ∧ Below w.heap.size w w' := by
  obtain ⟨z, e, fz, hz⟩ := maxCell hs
  rcases (by omega : z ≤ 2 ∨ z = 3 ∨ 4 ≤ z) with hc | hc | hc
  · exact Go.Eng.calls_env (ng := 166020696663385964612) (f := Code.q3) (by kernel_rfl) Code.C1.tab_ok Code.runs1 w [6, 2] (cells w h hs) (by decide +kernel) (.inr ⟨z, e, fz, hz, by decide +kernel, hc⟩)
  · exact Go.Eng.calls_env (ng := 184467440737095516228) (f := Code.q3) (by kernel_rfl) Code.C2.tab_ok Code.runs2 w [6, 2] (cells w h hs) (by decide +kernel) (.inr ⟨z, e, fz, hz, by decide +kernel, hc⟩)
  · exact Go.Eng.calls_env (ng := 202914184810805067844) (f := Code.q3) (by kernel_rfl) Code.C3.tab_ok Code.runs3 w [6, 2] (cells w h hs) (by decide +kernel) (.inr ⟨z, e, fz, hz, by decide +kernel, hc⟩)
/-- The plain wrap with a condition of the row's own, the world's shape kept. -/
theorem and_shaped {H : Type} {enc : TypeId × Value → H} {a : Assume} {C : Checked} {os : Os} {f : FuncId} {fn : Func} {s : ChangeSpec} {conds : List PathCond} {apart fresh handsOn again : Bool} {X : World → Array Value → Prop}
    (hX : ∀ (w w' : World) (args : Array Value), w.heap = w'.heap → X w args → X w' args)
    (own : ownKnob C.prog.godebug = none) (started : os.Started) (noInit : C.prog.inits.idxOf? f = none) (hfn : C.prog.funcs[f]? = some fn)
    (witness : ∃ (w : World) (tape : Tape) (i : Input), w.os = os ∧ (w.forCall tape i).Shaped C.prog ∧ i.vars = [] ∧ Input.okWide C.prog (w.forCall tape i) .any w.heap.size f i ∧
      ((s.pre enc C.prog fn conds apart (w.forCall tape i).memory i.args ∧ X (w.forCall tape i).memory i.args) ∧ sizedMet enc C.prog fn (OpenSpec.ofChange s) apart (w.forCall tape i).memory i.args) ∧ a.holds C.prog (lone (Frame.enter C.prog f i.args .normal) [] (w.forCall tape i)))
    (contract : ∀ (W : World) (base : Nat) (args : Array Value) (ds gs : List (DataW H)) (before : List MemPlace),
      DataW.Whole enc C.prog fn.params.toList s.vars apart W args.toList ds gs before → X W args → W.ShapedOpen C.prog →
      Calls C.prog f args W fun e W' => ∃ v, e = .returned v ∧ s.post enc C.prog fn apart fresh handsOn again W args v W') :
    ReturnsInHanded a C os f .any (fun w args => (s.pre enc C.prog fn conds apart w args ∧ X w args) ∧ sizedMet enc C.prog fn (OpenSpec.ofChange s) apart w args) (s.post enc C.prog fn apart fresh handsOn again) := by
  refine returnsInHanded_of_calls own started noInit witness ?_
  intro w tape i _ hsh _ hok hpre hholds
  obtain ⟨_, _, _, fn', hfn', _, _, _, _, hval⟩ := hok
  have e : fn' = fn := Option.some.inj (hfn'.symm.trans hfn)
  subst e
  obtain ⟨⟨⟨ds, gs, before, hw, hc⟩, hx⟩, hz⟩ := hpre
  have hw' := DataW.Whole.of_heap (w' := w.forCall tape i) (by rfl) hw
  refine (contract (w.forCall tape i) w.heap.size i.args ds gs before hw' (hX _ _ _ (by rfl) hx) hsh).mono fun e W' ⟨v, he, hp⟩ => ?_
  subst he
  exact ChangeSpec.post_blind hp
theorem lifted (os : Os) (started : os.Started) (H : Type) (enc : TypeId × Value → H) :
    ReturnsInHanded {} Go.Proofs.Tryz.checked os 3 .any (fun w args => (Rows.calcNoneSpec.pre enc Go.Proofs.Tryz.prog Go.Proofs.Tryz.f3 [] false w args ∧ laidMetH Go.Proofs.Tryz.prog laidL w) ∧ sizedMet enc Go.Proofs.Tryz.prog Go.Proofs.Tryz.f3 (OpenSpec.ofChange Rows.calcNoneSpec) false w args)
      (Rows.calcNoneSpec.post enc Go.Proofs.Tryz.prog Go.Proofs.Tryz.f3 false true false false) := by
  refine and_shaped (C := Go.Proofs.Tryz.checked) (X := fun w _ => laidMetH Go.Proofs.Tryz.prog laidL w) (fun _ _ _ hh h => h.of_heap hh) own started (by kernel_rfl) Go.Proofs.Tryz.func3
    (ChangeSpec.witness_shaped (enc := enc) (C := Go.Proofs.Tryz.checked) (os := os) (X := fun w _ => laidMetH Go.Proofs.Tryz.prog laidL w) false (World.laidAll Go.Proofs.Tryz.prog os laidL) #[] 8 (World.laidAll_os _ _ _)
      (World.shaped_of_ZipB (by kernel_rfl) (by kernel_rfl)) (by kernel_rfl) (by kernel_rfl) (by kernel_rfl)
      (by rw [MakeChecks.laidMetH_plain _ _ _ (by kernel_rfl)]; exact laidMet_laidAll _ (by kernel_rfl) (by kernel_rfl))) ?_
  intro W base args ds gs before hW hL hsh
  have hW' := hW
  obtain ⟨p, q, hA0, hV, rfl, _, _⟩ := hW
  have hA : DataW.TrodAll enc Go.Proofs.Tryz.prog W 0 (fun _ => true) true Go.Proofs.Tryz.f3.params.toList args.toList ds p := hA0
  rw [Go.Proofs.Tryz.params3] at hA
  obtain ⟨rfl, rfl, rfl⟩ := trodAll_none hA
  obtain ⟨rfl, rfl⟩ := trodVars_none hV
  refine (walk W hL hsh).mono fun e W' ⟨he, hb⟩ => ?_
  subst he
  exact ⟨_, rfl, _, _, _, [], [], [], hW', trodAll_mk1 (shut_bool Go.Proofs.Tryz.underlying4 _), trodAll_mk0, rfl, hb.frame _, fun h => by cases h⟩
theorem closed_of (P : Program) (f : FuncId) (fn : Func) (s : ChangeSpec) (c : OpenClaim)
    (h1 : (c.inPlace == P.inPlace f) = true) (h2 : (c.unfollowed == P.unfollowed f) = true) (h3 : (c.recurses == P.recurses f) = true) (h4 : (c.named == P.varsNamed f) = true) (h5 : laidOutB P = true) (h6 : mapsRowed P = true)
    (h7 : P.stopsHeard = true) (h8 : P.mayEnter = true) (h9 : (c.lifted == P.liftsFinal) = true) (h10 : (P.make == some c.make) = true) (h11 : (c.plainKeys == P.plainKeys) = true) (h12 : c.wf (OpenSpec.ofChange s) = true)
    (rest : (fn.params.all (P.readableRec ·) && namedTie P c.named s.vars &&
  (c.stops == []) && (P.stops == []) && (c.knobs == []) && (P.stopKnobs == []) &&
  (c.maps == (fn.params.toList ++ s.plain.varTypes P).any (P.mapsRec ·)) && (c.ifaces == (fn.params.toList ++ s.plain.varTypes P).any (P.ifacesRec ·)) && (c.mapsOut == P.mapsAmong fn.resultTypes.toList) &&
  (c.loops == (fn.params.toList ++ s.plain.varTypes P).any (P.loopsFrom ·)) && (c.wideKeys == (fn.params.toList ++ s.plain.varTypes P ++ fn.resultTypes.toList).any (P.wideKeysFrom ·)) &&
  s.vars.all (P.varReadable ·) && fn.resultTypes.all (fun t => P.readableRec t && decide (t < P.types.size)) && (c.ifacesOut == fn.resultTypes.toList.any (P.ifacesRec ·)) && (c.loopsOut == fn.resultTypes.toList.any (P.loopsFrom ·)) && c.shortTexts.isNone && (c.kinds == (if c.domain.isEmpty then [] else fn.params.toList.map fun t => match P.underlying t with | some (.int k) => some k | _ => none)) && (c.pinned == c.pinnedBy) &&
  (c.veiled == (fn.params.toList ++ s.plain.varTypes P ++ fn.resultTypes.toList).any (P.veiledRec ·)) && c.veiledFits P fn.params.toList (fn.params.toList ++ s.plain.varTypes P ++ fn.resultTypes.toList)) = true) :
    joinedFacts P f fn s c = true := by
  simp only [Bool.and_eq_true] at rest
  obtain ⟨⟨⟨⟨⟨⟨⟨⟨⟨⟨⟨⟨⟨⟨⟨⟨⟨⟨⟨a1, a2⟩, a3⟩, a4⟩, a5⟩, a6⟩, a7⟩, a8⟩, a9⟩, a10⟩, a11⟩, a12⟩, a13⟩, a14⟩, a15⟩, a16⟩, a17⟩, a18⟩, a19⟩, a20⟩ := rest
  unfold joinedFacts
  simp only [Bool.and_eq_true]
  exact ⟨⟨⟨⟨⟨⟨⟨⟨⟨⟨⟨⟨⟨⟨⟨⟨⟨⟨⟨⟨⟨⟨⟨⟨⟨⟨⟨⟨⟨⟨⟨h12, h5⟩, h6⟩, a1⟩, a2⟩, a3⟩, a4⟩, a5⟩, a6⟩, h1⟩, h2⟩, h3⟩, h4⟩, a7⟩, a8⟩, a9⟩, a10⟩, a11⟩, a12⟩, a13⟩, a14⟩, a15⟩, h11⟩, a16⟩, h7⟩, h8⟩, h9⟩, h10⟩, a17⟩, a18⟩, a19⟩, a20⟩
theorem closed : joinedFacts Tryz.pinned.checked.prog 3 Go.Proofs.Tryz.f3 Rows.calcNoneSpec Rows.calcNoneRow = true :=
  closed_of _ _ _ _ _ j1 j2 j3 j4 j5 j6 j7 j8 j9 j10 j11 j12 (by kernel_rfl)
theorem over : Rows.CalcNoneSaid :=
  OpenClaim.holds_of_wide 3 Go.Proofs.Tryz.f3 rfl rfl rfl rfl rfl rfl rfl ⟨rfl, rfl, rfl, rfl, rfl⟩ rfl rfl rfl rfl rfl (by kernel_rfl) Go.Proofs.Tryz.func3 closed
    (of_decide_eq_true (by kernel_rfl)) (by unfold Func.isWrapper; first | (rw [if_pos (by decide +kernel)]; kernel_rfl) | (rw [if_neg (by decide +kernel)]; exact ⟨rfl, rfl⟩))
    (fun os started H enc _ => lifted os started H enc)
theorem card_holds : Rows.CalcNoneCardSaid :=
  Claim7.holds_tied_plain_at .later [] [.data, .data, .data, .data, .sentinel, .sentinel, .pinned] true (true, "320185a4a3d062ef71cd45c31b31357519c16d1745e66078642d4791cff5b36a") true over (fun _ h => by cases h) (by kernel_rfl) (fun _ h => by cases h) calcNone_row_tie rfl ⟨rfl, rfl⟩ (by kernel_rfl) rfl
    (fun f fn hf hfn => by
      obtain rfl : f = 3 := Option.some.inj ((show Go.Proofs.Tryz.prog.funcNamed "counterpane/counterpanelaw17.CalcNone" = some 3 by kernel_rfl).symm.trans hf) |>.symm
      obtain rfl : fn = Go.Proofs.Tryz.f3 := (Option.some.inj (Go.Proofs.Tryz.func3.symm.trans hfn)).symm
      exact ⟨by kernel_rfl, fun j t ht => by
        rw [Go.Proofs.Tryz.params3] at ht
        simp at ht⟩)
    jgoes
#print axioms card_holds
end Go.Proofs.YtapfdkdlfmpicaaGreatDoor
