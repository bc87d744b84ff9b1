/- The engine, part U: regions in their order, code and calls are sound. -/
import Derived.Test.YtjngjfgbholgpaaEngS
set_option linter.unusedSimpArgs false
set_option linter.unusedVariables false
namespace Go.Eng
section
variable {P : Program} {ng : Nat} {tab : Tr (Option F)} {plan : Array Oper → Option (List It)} {n : Nat}

theorem cI_cases {o : Oper} {i : I} (h : cI P ng o = i) (hb : i ≠ .bad) :
    (∃ j, i = .pu j ∧ cP P ng o = some j) ∨ (∃ j, i = .rd j ∧ cR P ng o = some j) ∨ (∃ j, i = .al j ∧ cA P ng o = some j) ∨ (∃ j, i = .hv j ∧ cH P ng o = some j) := by
  unfold cI at h
  split at h
  · rename_i j hj; exact .inl ⟨j, h.symm, hj⟩
  · split at h
    · rename_i j hj; exact .inr (.inl ⟨j, h.symm, hj⟩)
    · split at h
      · rename_i j hj; exact .inr (.inr (.inl ⟨j, h.symm, hj⟩))
      · split at h
        · rename_i j hj; exact .inr (.inr (.inr ⟨j, h.symm, hj⟩))
        · exact absurd h.symm hb

theorem ops_cons [Env] {ops : Array Oper} {i : Nat} {l : List Nat} {o : Oper} (hi : ops[i]? = some o)
    {fr : Tr V} {h : H} {v : V} {h1 : H} {x : X} {fr' : Tr V} {h' : H} (hbad : (cSt P ng ops o).op ≠ .bad) (hw : wantd fr (cSt P ng ops o).gd = true) (hs : StepOk P ng o fr h v h1)
    (hrest : ∀ ρ a w, Glob ng ρ → FrRel ρ (putD fr (o.dst.map Path.of) v) a.tmps → HRel ρ h1 w → wpOps P ops (Post ρ h1 w a x fr' h') l a w) :
    ∀ ρ a w, Glob ng ρ → FrRel ρ fr a.tmps → HRel ρ h w → wpOps P ops (Post ρ h w a x fr' h') (i :: l) a w := by
  intro ρ a w hg hf hr
  obtain ⟨hgd, _⟩ := cSt_guard hbad
  simp only [wpOps, hi]
  rw [wantd_spec hf hgd, hw]
  simp only [if_true]
  left
  refine hs ρ a w hg hf hr _ _ fun ρ' x1 w' hx hr' he => ?_
  refine wpOps_mono (fun e a2 w2 hp => hp.later he put_defers) l _ _ (hrest ρ' _ w' (hg.later he.later) (put_spec (hf.later he.later) hx) hr')

theorem sound_ops [Env] (S : Sound P ng plan tab n) (ops : Array Oper) (l : List Nat) (os : List Oper) (hl : (l.map fun i => ops[i]?) = os.map some) (fr : Tr V) (h : H) (x : X) (fr' : Tr V) (h' : H)
    (hrun : run tab (n + 1) (.ops (os.map (cSt P ng ops))) fr h = .one x fr' h') :
    ∀ ρ a w, Glob ng ρ → FrRel ρ fr a.tmps → HRel ρ h w → wpOps P ops (Post ρ h w a x fr' h') l a w := by
  rw [run_succ] at hrun
  simp only [runT] at hrun
  cases os with
  | nil =>
    cases l with
    | cons _ _ => simp at hl
    | nil =>
      simp only [List.map_nil, runO, Rs.one.injEq] at hrun
      obtain ⟨rfl, rfl, rfl⟩ := hrun
      intro ρ a w hg hf hr
      exact ⟨rfl, rfl, ρ, hf, hr, .refl _ _ _⟩
  | cons o os =>
    cases l with
    | nil => simp at hl
    | cons i l =>
      simp only [List.map_cons, List.cons.injEq] at hl
      obtain ⟨hi, hl⟩ := hl
      simp only [List.map_cons, runO] at hrun
      split at hrun
      · rename_i hw
        have hgd := cSt_unwanted hw
        intro ρ a w hg hf hr
        simp only [wpOps, hi]
        rw [wantd_spec hf hgd, hw]
        simp only [Bool.false_eq_true, if_false]
        have hput : FrRel ρ (putD fr (cSt P ng ops o).dst undefV) (a.put o.dst undef).tmps := by rw [cSt_dst]; exact put_spec hf rfl
        have := S.ops ops l os hl _ _ _ _ _ hrun ρ _ w hg hput hr
        exact wpOps_mono (fun e a2 w2 hp => hp.later (.refl _ _ _) put_defers) l _ _ this
      · rename_i hw
        by_cases hbad : (cSt P ng ops o).op = .bad
        · rw [hbad] at hrun
          simp only [runOp] at hrun
          cases hrun
        · obtain ⟨hgd, hop⟩ := cSt_guard hbad
          rw [cSt_dst] at hrun
          rcases cI_cases hop.symm hbad with ⟨j, hj, hc⟩ | ⟨j, hj, hc⟩ | ⟨j, hj, hc⟩ | ⟨j, hj, hc⟩ <;> rw [hj] at hrun <;> simp only [runOp] at hrun
          · unfold runVal at hrun
            split at hrun
            · rename_i v hv
              exact ops_cons hi hbad hw (step_pu hc hv) (fun ρ a w hg hf hr => S.ops ops l os hl _ _ _ _ _ hrun ρ a w hg hf hr)
            · cases hrun
          · unfold runVal at hrun
            split at hrun
            · rename_i v hv
              exact ops_cons hi hbad hw (step_rd hc hv) (fun ρ a w hg hf hr => S.ops ops l os hl _ _ _ _ _ hrun ρ a w hg hf hr)
            · cases hrun
          · unfold runAl at hrun
            split at hrun
            · rename_i ob k hv
              exact ops_cons hi hbad hw (step_al hc hv) (fun ρ a w hg hf hr => S.ops ops l os hl _ _ _ _ _ hrun ρ a w hg hf hr)
            · cases hrun
          · unfold runHvO at hrun
            split at hrun
            · rename_i v h1 hv
              exact ops_cons hi hbad hw (step_hv hc hv) (fun ρ a w hg hf hr => S.ops ops l os hl _ _ _ _ _ hrun ρ a w hg hf hr)
            · rename_i f args hv
              unfold runCallO at hrun
              split at hrun
              · rename_i y q h1 hq
                exact ops_cons hi hbad hw (step_call hc hv (S.call _ _ _ _ _ _ _ hq)) (fun ρ a w hg hf hr => S.ops ops l os hl _ _ _ _ _ hrun ρ a w hg hf hr)
              · cases hrun
            · cases hrun

theorem range_map {α : Type} (xs : Array α) : ((List.range xs.size).map fun i => xs[i]?) = xs.toList.map some := by
  apply List.ext_getElem?
  intro i
  by_cases hi : i < xs.size
  · simp [hi]
  · simp [hi]

theorem sound_loop [Env] (S : Sound P ng plan tab n) (c : Code) (fr : Tr V) (h : H) (x : X) (fr' : Tr V) (h' : H) (hrun : run tab (n + 1) (.code (.loop (cC P ng plan c))) fr h = .one x fr' h') :
    ∀ ρ a w, Glob ng ρ → FrRel ρ fr a.tmps → HRel ρ h w → Code.rounds P c (Post ρ h w a x fr' h') (n + 1) a w := by
  rw [run_succ] at hrun
  simp only [runT, runC] at hrun
  intro ρ a w hg hf hr
  unfold runSeq at hrun
  split at hrun
  · rename_i y fr1 h1 hq
    rw [rounds_succ]
    refine wp_mono (S.code c _ _ _ _ _ hq ρ a w hg hf hr) fun e a1 w1 hp => ?_
    obtain ⟨rfl, hd, ρ1, hf1, hr1, he1⟩ := hp
    cases y with
    | nx =>
      simp only at hrun
      exact rounds_mono (fun e a2 w2 hp => hp.later he1 hd) n _ _ (S.loop c _ _ _ _ _ hrun ρ1 a1 w1 (hg.later he1.later) hf1 hr1)
    | rt =>
      simp only [Rs.one.injEq] at hrun
      obtain ⟨rfl, rfl, rfl⟩ := hrun
      exact ⟨rfl, hd, ρ1, hf1, hr1, he1⟩
    | ex id =>
      simp only [Rs.one.injEq] at hrun
      obtain ⟨rfl, rfl, rfl⟩ := hrun
      exact ⟨rfl, hd, ρ1, hf1, hr1, he1⟩
  · cases hrun

theorem post_mono [Env] {c : Code} {ρ : Ren} {h : H} {w : World} {a : Act} {x : X} {fr' : Tr V} {h' : H} {Q : Exit → Act → World → Prop}
    (hw : c.wp P (Post ρ h w a x fr' h') a w) (hq : ∀ e a' w', Post ρ h w a x fr' h' e a' w' → Q e a' w') : c.wp P Q a w := wp_mono hw hq

theorem sound_code [Env] (S : Sound P ng plan tab n) (c : Code) (fr : Tr V) (h : H) (x : X) (fr' : Tr V) (h' : H) (hrun : run tab (n + 1) (.code (cC P ng plan c)) fr h = .one x fr' h') :
    ∀ ρ a w, Glob ng ρ → FrRel ρ fr a.tmps → HRel ρ h w → c.wp P (Post ρ h w a x fr' h') a w := by
  -- a scope is passed without fuel
  induction c with
  | scope c ihc =>
    intro ρ a w hg hf hr
    refine wp_scope_straight ?_
    have := ihc (by simpa [cC] using hrun) ρ a w hg hf hr
    refine wp_mono this fun e a' w' hp => ?_
    obtain ⟨rfl, h2⟩ := hp
    cases x <;> exact ⟨rfl, h2⟩
  | skip =>
    rw [run_succ] at hrun
    simp only [cC, runT, runC, Rs.one.injEq] at hrun
    obtain ⟨rfl, rfl, rfl⟩ := hrun
    exact fun ρ a w hg hf hr => wp_skip ⟨rfl, rfl, ρ, hf, hr, .refl _ _ _⟩
  | label l =>
    rw [run_succ] at hrun
    simp only [cC, runT, runC, Rs.one.injEq] at hrun
    obtain ⟨rfl, rfl, rfl⟩ := hrun
    exact fun ρ a w hg hf hr => wp_label ⟨rfl, rfl, ρ, hf, hr, .refl _ _ _⟩
  | region id ops draw =>
    rw [run_succ] at hrun
    cases draw with
    | false =>
      simp only [cC, Bool.false_eq_true, if_false, runT, runC] at hrun
      exact fun ρ a w hg hf hr => wp_region (S.ops ops _ _ (range_map ops) _ _ _ _ _ hrun ρ a w hg hf hr)
    | true =>
      simp only [cC, if_true, runT] at hrun
      cases hp : plan ops with
      | none => simp only [hp, runC] at hrun; cases hrun
      | some l =>
        simp only [hp, runC] at hrun
        exact S.dops id ops l hp _ _ _ _ _ hrun
  | seq c d ihc ihd =>
    rw [run_succ] at hrun
    simp only [cC, runT, runC] at hrun
    intro ρ a w hg hf hr
    unfold runSeq at hrun
    split at hrun
    · rename_i y fr1 h1 hq
      have h1w := S.code c _ _ _ _ _ hq ρ a w hg hf hr
      refine wp_seq (wp_mono h1w fun e a1 w1 hp => ?_)
      obtain ⟨rfl, hd, ρ1, hf1, hr1, he1⟩ := hp
      cases y with
      | nx =>
        simp only at hrun
        exact wp_mono (S.code d _ _ _ _ _ hrun ρ1 a1 w1 (hg.later he1.later) hf1 hr1) fun e a2 w2 hp => hp.later he1 hd
      | rt =>
        simp only [Rs.one.injEq] at hrun
        obtain ⟨rfl, rfl, rfl⟩ := hrun
        exact ⟨rfl, hd, ρ1, hf1, hr1, he1⟩
      | ex id =>
        simp only [Rs.one.injEq] at hrun
        obtain ⟨rfl, rfl, rfl⟩ := hrun
        exact ⟨rfl, hd, ρ1, hf1, hr1, he1⟩
    · cases hrun
  | cond o c d ihc ihd =>
    rw [run_succ] at hrun
    simp only [cC] at hrun
    cases ho : cO ng o with
    | none => simp only [ho, runT, runC] at hrun; cases hrun
    | some o' =>
      simp only [ho, runT, runC] at hrun
      intro ρ a w hg hf hr
      have ex := ev_spec hg hf ho
      unfold runCond at hrun
      split at hrun
      · rename_i b hb
        rw [hb] at ex; simp [conc] at ex
        refine wp_cond (t := b) ex.symm ?_
        cases b
        · exact S.code d _ _ _ _ _ hrun ρ a w hg hf hr
        · exact S.code c _ _ _ _ _ hrun ρ a w hg hf hr
      · cases hrun
  | block id c ihc =>
    rw [run_succ] at hrun
    simp only [cC, runT, runC] at hrun
    intro ρ a w hg hf hr
    unfold runBlock at hrun
    split at hrun
    · rename_i y fr1 h1 hq
      refine wp_block (wp_mono (S.code c _ _ _ _ _ hq ρ a w hg hf hr) fun e a1 w1 hp => ?_)
      obtain ⟨rfl, hrest⟩ := hp
      cases y with
      | nx => simp only [Rs.one.injEq] at hrun; obtain ⟨rfl, rfl, rfl⟩ := hrun; exact ⟨rfl, hrest⟩
      | rt => simp only [Rs.one.injEq] at hrun; obtain ⟨rfl, rfl, rfl⟩ := hrun; exact ⟨rfl, hrest⟩
      | ex j =>
        simp only at hrun
        cases hj : Nat.beq j id with
        | true =>
          simp only [hj, cond_true, Rs.one.injEq] at hrun
          obtain ⟨rfl, rfl, rfl⟩ := hrun
          have := Nat.eq_of_beq_eq_true hj
          simp only [X.exit, Exit.inBlock, this, if_true]
          exact ⟨rfl, hrest⟩
        | false =>
          simp only [hj, cond_false, Rs.one.injEq] at hrun
          obtain ⟨rfl, rfl, rfl⟩ := hrun
          have : j ≠ id := by intro e; subst e; simp at hj
          simp only [X.exit, Exit.inBlock, this, if_false]
          exact ⟨rfl, hrest⟩
    · cases hrun
  | loop c ihc =>
    intro ρ a w hg hf hr
    exact wp_loop_rounds (n + 1) (sound_loop S c _ _ _ _ _ (by simpa [cC] using hrun) ρ a w hg hf hr)
  | rangeFunc f ps b c _ _ => rw [run_succ] at hrun; simp only [cC, runT, runC] at hrun; cases hrun
  | exit id =>
    rw [run_succ] at hrun
    simp only [cC, runT, runC, Rs.one.injEq] at hrun
    obtain ⟨rfl, rfl, rfl⟩ := hrun
    exact fun ρ a w hg hf hr => wp_exit ⟨rfl, rfl, ρ, hf, hr, .refl _ _ _⟩
  | goto l => rw [run_succ] at hrun; simp only [cC, runT, runC] at hrun; cases hrun
  | ret =>
    rw [run_succ] at hrun
    simp only [cC, runT, runC, Rs.one.injEq] at hrun
    obtain ⟨rfl, rfl, rfl⟩ := hrun
    exact fun ρ a w hg hf hr => wp_ret ⟨rfl, rfl, ρ, hf, hr, .refl _ _ _⟩
  | refuse s => rw [run_succ] at hrun; simp only [cC, runT, runC] at hrun; cases hrun

end
end Go.Eng
