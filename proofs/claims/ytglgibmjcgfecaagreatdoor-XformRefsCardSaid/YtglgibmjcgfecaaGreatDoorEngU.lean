/- The evaluator: a machine for the model's code that the kernel can run, proved sound. -/
import Derived.Test.YtglgibmjcgfecaaGreatDoorEngO
set_option linter.unusedSimpArgs false
set_option linter.unusedVariables false
namespace Go.Eng
section
variable {P : Program} {ng : Nat} {tab : Tr (Option F)} {plan : Array Oper → Option (List It)} {n : Nat}

theorem cI_cases {o : Oper} {i : I} (h : cI P ng o = i) (hb : i ≠ .bad) :
    (∃ j, i = .pu j ∧ cP P ng o = some j) ∨ (∃ j, i = .rd j ∧ cR P ng o = some j) ∨ (∃ j, i = .al j ∧ cA P ng o = some j) ∨ (∃ j, i = .hv j ∧ cH P ng o = some j) := by
  unfold cI at h
  split at h
  · rename_i j hj; exact .inl ⟨j, h.symm, hj⟩
  · split at h
    · rename_i j hj; exact .inr (.inl ⟨j, h.symm, hj⟩)
    · split at h
      · rename_i j hj; exact .inr (.inr (.inl ⟨j, h.symm, hj⟩))
      · split at h
        · rename_i j hj; exact .inr (.inr (.inr ⟨j, h.symm, hj⟩))
        · exact absurd h.symm hb

theorem ops_cons [Env] {ops : Array Oper} {i : Nat} {l : List Nat} {o : Oper} (hi : ops[i]? = some o)
    {fr : Tr V} {h : H} {v : V} {h1 : H} {x : X} {fr' : Tr V} {h' : H} (hbad : (cSt P ng ops o).op ≠ .bad) (hw : wantd fr (cSt P ng ops o).gd = true) (hs : StepOk P ng o fr h v h1)
    (hrest : ∀ ρ a w, Glob ng ρ → FrRel ρ (putD fr (o.dst.map Path.of) v) a.tmps → HRel ρ h1 w → wpOps P ops (Post ρ h1 w a x fr' h') l a w) :
    ∀ ρ a w, Glob ng ρ → FrRel ρ fr a.tmps → HRel ρ h w → wpOps P ops (Post ρ h w a x fr' h') (i :: l) a w := by
  intro ρ a w hg hf hr
  obtain ⟨hgd, _⟩ := cSt_guard hbad
  simp only [wpOps, hi]
  rw [wantd_spec hf hgd, hw]
  simp only [if_true]
  left
  refine hs ρ a w hg hf hr _ _ fun ρ' x1 w' hx hr' he => ?_
  refine wpOps_mono (fun e a2 w2 hp => hp.later he put_defers) l _ _ (hrest ρ' _ w' (hg.later he.later) (put_spec (hf.later he.later) hx) hr')

theorem sound_ops [Env] (S : Sound P ng plan tab n) (ops : Array Oper) (l : List Nat) (os : List Oper) (hl : (l.map fun i => ops[i]?) = os.map some) (fr : Tr V) (h : H) (x : X) (fr' : Tr V) (h' : H)
    (hrun : run tab (n + 1) (.ops (os.map (cSt P ng ops))) fr h = .one x fr' h') :
    ∀ ρ a w, Glob ng ρ → FrRel ρ fr a.tmps → HRel ρ h w → wpOps P ops (Post ρ h w a x fr' h') l a w := by
  rw [run_succ] at hrun
  simp only [runT] at hrun
  cases os with
  | nil =>
    cases l with
    | cons _ _ => simp at hl
    | nil =>
      simp only [List.map_nil, runO, Rs.one.injEq] at hrun
      obtain ⟨rfl, rfl, rfl⟩ := hrun
      intro ρ a w hg hf hr
      exact ⟨rfl, rfl, ρ, hf, hr, .refl _ _ _⟩
  | cons o os =>
    cases l with
    | nil => simp at hl
    | cons i l =>
      simp only [List.map_cons, List.cons.injEq] at hl
      obtain ⟨hi, hl⟩ := hl
      simp only [List.map_cons, runO] at hrun
      split at hrun
      · rename_i hw
        have hgd := cSt_unwanted hw
        intro ρ a w hg hf hr
        simp only [wpOps, hi]
        rw [wantd_spec hf hgd, hw]
        simp only [Bool.false_eq_true, if_false]
        have hput : FrRel ρ (putD fr (cSt P ng ops o).dst undefV) (a.put o.dst undef).tmps := by rw [cSt_dst]; exact put_spec hf rfl
        have := S.ops ops l os hl _ _ _ _ _ hrun ρ _ w hg hput hr
        exact wpOps_mono (fun e a2 w2 hp => hp.later (.refl _ _ _) put_defers) l _ _ this
      · rename_i hw
        by_cases hbad : (cSt P ng ops o).op = .bad
        · rw [hbad] at hrun
          simp only [runOp] at hrun
          cases hrun
        · obtain ⟨hgd, hop⟩ := cSt_guard hbad
          rw [cSt_dst] at hrun
          rcases cI_cases hop.symm hbad with ⟨j, hj, hc⟩ | ⟨j, hj, hc⟩ | ⟨j, hj, hc⟩ | ⟨j, hj, hc⟩ <;> rw [hj] at hrun <;> simp only [runOp] at hrun
          · unfold runVal at hrun
            split at hrun
            · rename_i v hv
              exact ops_cons hi hbad hw (step_pu hc hv) (fun ρ a w hg hf hr => S.ops ops l os hl _ _ _ _ _ hrun ρ a w hg hf hr)
            · cases hrun
          · unfold runVal at hrun
            split at hrun
            · rename_i v hv
              exact ops_cons hi hbad hw (step_rd hc hv) (fun ρ a w hg hf hr => S.ops ops l os hl _ _ _ _ _ hrun ρ a w hg hf hr)
            · cases hrun
          · unfold runAl at hrun
            split at hrun
            · rename_i ob k hv
              exact ops_cons hi hbad hw (step_al hc hv) (fun ρ a w hg hf hr => S.ops ops l os hl _ _ _ _ _ hrun ρ a w hg hf hr)
            · cases hrun
          · unfold runHvO at hrun
            split at hrun
            · rename_i v h1 hv
              exact ops_cons hi hbad hw (step_hv hc hv) (fun ρ a w hg hf hr => S.ops ops l os hl _ _ _ _ _ hrun ρ a w hg hf hr)
            · rename_i f args hv
              unfold runCallO at hrun
              split at hrun
              · rename_i y q h1 hq
                exact ops_cons hi hbad hw (step_call hc hv (S.call _ _ _ _ _ _ _ hq)) (fun ρ a w hg hf hr => S.ops ops l os hl _ _ _ _ _ hrun ρ a w hg hf hr)
              · cases hrun
            · cases hrun

theorem range_map {α : Type} (xs : Array α) : ((List.range xs.size).map fun i => xs[i]?) = xs.toList.map some := by
  apply List.ext_getElem?
  intro i
  by_cases hi : i < xs.size
  · simp [hi]
  · simp [hi]

theorem sound_loop [Env] (S : Sound P ng plan tab n) (c : Code) (fr : Tr V) (h : H) (x : X) (fr' : Tr V) (h' : H) (hrun : run tab (n + 1) (.code (.loop (cC P ng plan c))) fr h = .one x fr' h') :
    ∀ ρ a w, Glob ng ρ → FrRel ρ fr a.tmps → HRel ρ h w → Code.rounds P c (Post ρ h w a x fr' h') (n + 1) a w := by
  rw [run_succ] at hrun
  simp only [runT, runC] at hrun
  intro ρ a w hg hf hr
  unfold runSeq at hrun
  split at hrun
  · rename_i y fr1 h1 hq
    rw [rounds_succ]
    refine wp_mono (S.code c _ _ _ _ _ hq ρ a w hg hf hr) fun e a1 w1 hp => ?_
    obtain ⟨rfl, hd, ρ1, hf1, hr1, he1⟩ := hp
    cases y with
    | nx =>
      simp only at hrun
      exact rounds_mono (fun e a2 w2 hp => hp.later he1 hd) n _ _ (S.loop c _ _ _ _ _ hrun ρ1 a1 w1 (hg.later he1.later) hf1 hr1)
    | rt =>
      simp only [Rs.one.injEq] at hrun
      obtain ⟨rfl, rfl, rfl⟩ := hrun
      exact ⟨rfl, hd, ρ1, hf1, hr1, he1⟩
    | ex id =>
      simp only [Rs.one.injEq] at hrun
      obtain ⟨rfl, rfl, rfl⟩ := hrun
      exact ⟨rfl, hd, ρ1, hf1, hr1, he1⟩
  · cases hrun

theorem post_mono [Env] {c : Code} {ρ : Ren} {h : H} {w : World} {a : Act} {x : X} {fr' : Tr V} {h' : H} {Q : Exit → Act → World → Prop}
    (hw : c.wp P (Post ρ h w a x fr' h') a w) (hq : ∀ e a' w', Post ρ h w a x fr' h' e a' w' → Q e a' w') : c.wp P Q a w := wp_mono hw hq

theorem sound_code [Env] (S : Sound P ng plan tab n) (c : Code) (fr : Tr V) (h : H) (x : X) (fr' : Tr V) (h' : H) (hrun : run tab (n + 1) (.code (cC P ng plan c)) fr h = .one x fr' h') :
    ∀ ρ a w, Glob ng ρ → FrRel ρ fr a.tmps → HRel ρ h w → c.wp P (Post ρ h w a x fr' h') a w := by
  -- a scope is passed without fuel
  induction c with
  | scope c ihc =>
    intro ρ a w hg hf hr
    refine wp_scope_straight ?_
    have := ihc (by simpa [cC] using hrun) ρ a w hg hf hr
    refine wp_mono this fun e a' w' hp => ?_
    obtain ⟨rfl, h2⟩ := hp
    cases x <;> exact ⟨rfl, h2⟩
  | skip =>
    rw [run_succ] at hrun
    simp only [cC, runT, runC, Rs.one.injEq] at hrun
    obtain ⟨rfl, rfl, rfl⟩ := hrun
    exact fun ρ a w hg hf hr => wp_skip ⟨rfl, rfl, ρ, hf, hr, .refl _ _ _⟩
  | label l =>
    rw [run_succ] at hrun
    simp only [cC, runT, runC, Rs.one.injEq] at hrun
    obtain ⟨rfl, rfl, rfl⟩ := hrun
    exact fun ρ a w hg hf hr => wp_label ⟨rfl, rfl, ρ, hf, hr, .refl _ _ _⟩
  | region id ops draw =>
    rw [run_succ] at hrun
    cases draw with
    | false =>
      simp only [cC, Bool.false_eq_true, if_false, runT, runC] at hrun
      exact fun ρ a w hg hf hr => wp_region (S.ops ops _ _ (range_map ops) _ _ _ _ _ hrun ρ a w hg hf hr)
    | true =>
      simp only [cC, if_true, runT] at hrun
      cases hp : plan ops with
      | none => simp only [hp, runC] at hrun; cases hrun
      | some l =>
        simp only [hp, runC] at hrun
        exact S.dops id ops l hp _ _ _ _ _ hrun
  | seq c d ihc ihd =>
    rw [run_succ] at hrun
    simp only [cC, runT, runC] at hrun
    intro ρ a w hg hf hr
    unfold runSeq at hrun
    split at hrun
    · rename_i y fr1 h1 hq
      have h1w := S.code c _ _ _ _ _ hq ρ a w hg hf hr
      refine wp_seq (wp_mono h1w fun e a1 w1 hp => ?_)
      obtain ⟨rfl, hd, ρ1, hf1, hr1, he1⟩ := hp
      cases y with
      | nx =>
        simp only at hrun
        exact wp_mono (S.code d _ _ _ _ _ hrun ρ1 a1 w1 (hg.later he1.later) hf1 hr1) fun e a2 w2 hp => hp.later he1 hd
      | rt =>
        simp only [Rs.one.injEq] at hrun
        obtain ⟨rfl, rfl, rfl⟩ := hrun
        exact ⟨rfl, hd, ρ1, hf1, hr1, he1⟩
      | ex id =>
        simp only [Rs.one.injEq] at hrun
        obtain ⟨rfl, rfl, rfl⟩ := hrun
        exact ⟨rfl, hd, ρ1, hf1, hr1, he1⟩
    · cases hrun
  | cond o c d ihc ihd =>
    rw [run_succ] at hrun
    simp only [cC] at hrun
    cases ho : cO ng o with
    | none => simp only [ho, runT, runC] at hrun; cases hrun
    | some o' =>
      simp only [ho, runT, runC] at hrun
      intro ρ a w hg hf hr
      have ex := ev_spec hg hf ho
      unfold runCond at hrun
      split at hrun
      · rename_i b hb
        rw [hb] at ex; simp [conc] at ex
        refine wp_cond (t := b) ex.symm ?_
        cases b
        · exact S.code d _ _ _ _ _ hrun ρ a w hg hf hr
        · exact S.code c _ _ _ _ _ hrun ρ a w hg hf hr
      · cases hrun
  | block id c ihc =>
    rw [run_succ] at hrun
    simp only [cC, runT, runC] at hrun
    intro ρ a w hg hf hr
    unfold runBlock at hrun
    split at hrun
    · rename_i y fr1 h1 hq
      refine wp_block (wp_mono (S.code c _ _ _ _ _ hq ρ a w hg hf hr) fun e a1 w1 hp => ?_)
      obtain ⟨rfl, hrest⟩ := hp
      cases y with
      | nx => simp only [Rs.one.injEq] at hrun; obtain ⟨rfl, rfl, rfl⟩ := hrun; exact ⟨rfl, hrest⟩
      | rt => simp only [Rs.one.injEq] at hrun; obtain ⟨rfl, rfl, rfl⟩ := hrun; exact ⟨rfl, hrest⟩
      | ex j =>
        simp only at hrun
        cases hj : Nat.beq j id with
        | true =>
          simp only [hj, cond_true, Rs.one.injEq] at hrun
          obtain ⟨rfl, rfl, rfl⟩ := hrun
          have := Nat.eq_of_beq_eq_true hj
          simp only [X.exit, Exit.inBlock, this, if_true]
          exact ⟨rfl, hrest⟩
        | false =>
          simp only [hj, cond_false, Rs.one.injEq] at hrun
          obtain ⟨rfl, rfl, rfl⟩ := hrun
          have : j ≠ id := by intro e; subst e; simp at hj
          simp only [X.exit, Exit.inBlock, this, if_false]
          exact ⟨rfl, hrest⟩
    · cases hrun
  | loop c ihc =>
    intro ρ a w hg hf hr
    exact wp_loop_rounds (n + 1) (sound_loop S c _ _ _ _ _ (by simpa [cC] using hrun) ρ a w hg hf hr)
  | rangeFunc f ps b c _ _ => rw [run_succ] at hrun; simp only [cC, runT, runC] at hrun; cases hrun
  | exit id =>
    rw [run_succ] at hrun
    simp only [cC, runT, runC, Rs.one.injEq] at hrun
    obtain ⟨rfl, rfl, rfl⟩ := hrun
    exact fun ρ a w hg hf hr => wp_exit ⟨rfl, rfl, ρ, hf, hr, .refl _ _ _⟩
  | goto l => rw [run_succ] at hrun; simp only [cC, runT, runC] at hrun; cases hrun
  | ret =>
    rw [run_succ] at hrun
    simp only [cC, runT, runC, Rs.one.injEq] at hrun
    obtain ⟨rfl, rfl, rfl⟩ := hrun
    exact fun ρ a w hg hf hr => wp_ret ⟨rfl, rfl, ρ, hf, hr, .refl _ _ _⟩
  | refuse s => rw [run_succ] at hrun; simp only [cC, runT, runC] at hrun; cases hrun

end
end Go.Eng

namespace Go.Eng
section
variable {P : Program} {ng : Nat} {tab : Tr (Option F)} {plan : Array Oper → Option (List It)} {n : Nat}

def PostL [Env] (ρ : Ren) (h : H) (w : World) (a : Act) (outs : List Out) : Exit → Act → World → Prop := fun e a' w' => ∃ o ∈ outs, Post ρ h w a o.1 o.2.1 o.2.2 e a' w'

theorem PostL.later [Env] {ρ ρ1 : Ren} {h h1 : H} {w w1 : World} {a a1 : Act} {l k : List Out} {e : Exit} {a' : Act} {w' : World}
    (hp : PostL ρ1 h1 w1 a1 l e a' w') (hx : Ext ρ h w ρ1 h1 w1) (hd : a1.defers = a.defers) (hs : ∀ o ∈ l, o ∈ k) : PostL ρ h w a k e a' w' := by
  obtain ⟨o, ho, hp⟩ := hp
  exact ⟨o, hs o ho, hp.later hx hd⟩

/-- One operation of a region that may end in several ways. -/
def StepL [Env] (P : Program) (ng : Nat) (o : Oper) (fr : Tr V) (h : H) (l : List (V × H)) : Prop :=
  ∀ ρ a w, Glob ng ρ → FrRel ρ fr a.tmps → HRel ρ h w → ∀ (next : Act → World → Prop) (Q : Exit → Act → World → Prop),
    (∀ p ∈ l, ∀ ρ' x w', conc ρ' p.1 = some x → HRel ρ' p.2 w' → Ext ρ h w ρ' p.2 w' → next (a.put o.dst x) w') → o.wp P a w next Q

theorem StepOk.toL [Env] {o : Oper} {fr : Tr V} {h h' : H} {v : V} (hs : StepOk P ng o fr h v h') : StepL P ng o fr h [(v, h')] :=
  fun ρ a w hg hf hr next Q hn => hs ρ a w hg hf hr next Q fun ρ' x w' => hn (v, h') (List.mem_singleton.2 rfl) ρ' x w'

theorem bindO_spec {α : Type} {f : α → Option (List Out)} : ∀ {l : List α} {outs : List Out}, bindO f l = some outs → ∀ p ∈ l, ∃ r, f p = some r ∧ ∀ o ∈ r, o ∈ outs
  | [], _, _, p, hp => by simp at hp
  | q :: l, outs, h, p, hp => by
    simp only [bindO] at h
    cases hq : f q with
    | none => simp [hq] at h
    | some a =>
      cases hb : bindO f l with
      | none => simp [hq, hb] at h
      | some b =>
        simp only [hq, hb, Option.some.injEq] at h
        subst h
        rcases List.mem_cons.1 hp with rfl | hp
        · exact ⟨a, hq, fun o ho => List.mem_append_left _ ho⟩
        · obtain ⟨r, h1, h2⟩ := bindO_spec hb p hp
          exact ⟨r, h1, fun o ho => List.mem_append_right _ (h2 o ho)⟩

theorem ops_consL [Env] {ops : Array Oper} {i : Nat} {l : List Nat} {o : Oper} (hi : ops[i]? = some o)
    {fr : Tr V} {h : H} {outsV : List (V × H)} {outs : List Out} (hbad : (cSt P ng ops o).op ≠ .bad) (hw : wantd fr (cSt P ng ops o).gd = true) (hs : StepL P ng o fr h outsV)
    (hrest : ∀ p ∈ outsV, ∃ r, (∀ q ∈ r, q ∈ outs) ∧ ∀ ρ a w, Glob ng ρ → FrRel ρ (putD fr (o.dst.map Path.of) p.1) a.tmps → HRel ρ p.2 w → wpOps P ops (PostL ρ p.2 w a r) l a w) :
    ∀ ρ a w, Glob ng ρ → FrRel ρ fr a.tmps → HRel ρ h w → wpOps P ops (PostL ρ h w a outs) (i :: l) a w := by
  intro ρ a w hg hf hr
  obtain ⟨hgd, _⟩ := cSt_guard hbad
  simp only [wpOps, hi]
  rw [wantd_spec hf hgd, hw]
  simp only [if_true]
  left
  refine hs ρ a w hg hf hr _ _ fun p hp ρ' x1 w' hx hr' he => ?_
  obtain ⟨r, hsub, hrun⟩ := hrest p hp
  exact wpOps_mono (fun e a2 w2 hq => hq.later he put_defers hsub) l _ _ (hrun ρ' _ w' (hg.later he.later) (put_spec (hf.later he.later) hx) hr')

theorem cH0_mp {o : Oper} {i : MI} : cH0 P ng o ≠ some (.mp i) := by
  intro h
  unfold cH0 at h
  split at h
  · simp [Option.bind_eq_some_iff] at h
  · split at h
    · simp at h
    · simp [Option.bind_eq_some_iff] at h
    · split at h
      · unfold cApp at h
        split at h
        · simp only [Option.bind_eq_some_iff] at h
          obtain ⟨_, _, _, _, _, _, h⟩ := h
          split at h
          · simp [Option.bind_eq_some_iff] at h
          · cases h
        · cases h
      · cases h
    · split at h
      · unfold cCopy at h
        split at h
        · simp [Option.bind_eq_some_iff] at h
        · cases h
      · cases h
    · split at h
      · unfold cClear at h
        split at h
        · simp [Option.bind_eq_some_iff] at h
        · cases h
      · cases h
    · cases h
  · cases h

theorem cH_mp {o : Oper} {i : MI} (h : cH P ng o = some (.mp i)) : cM P ng o = some i := by
  unfold cH at h
  split at h
  · rename_i j hj; cases h; exact hj
  · split at h
    · rename_i j hj
      cases h
      unfold cInv at hj
      split at hj
      · simp [Option.bind_eq_some_iff] at hj
      · cases hj
    · exact absurd h cH0_mp

theorem cM_nxt {o : Oper} {x : Opd} (h : cM P ng o = some (.nxt x)) : ∃ x', o.op = .next x' false ∧ cO ng x' = some x := by
  unfold cM at h
  split at h
  case h_7 x' hop =>
    simp only [Option.map_eq_some_iff] at h
    obtain ⟨y, hy, e⟩ := h
    cases e
    exact ⟨x', hop, hy⟩
  case h_1 => split at h <;> cases h
  case h_6 => split at h <;> simp at h
  case h_8 => split at h <;> simp [Option.bind_eq_some_iff] at h
  case h_9 =>
    split at h
    · split at h <;> simp at h
    · cases h
  case h_10 => cases h
  all_goals (simp [Option.bind_eq_some_iff] at h; done)

theorem ndOp_sound [Env] (S : Sound P ng plan tab n) {ops : Array Oper} {o : Oper} (hbad : (cSt P ng ops o).op ≠ .bad) {fr : Tr V} {h : H} {l : List (V × H)} (hv : ndOp (run tab n) fr h (cSt P ng ops o).op = some l) : StepL P ng o fr h l := by
  obtain ⟨_, hop⟩ := cSt_guard hbad
  rcases cI_cases hop.symm hbad with ⟨j, hj, hc⟩ | ⟨j, hj, hc⟩ | ⟨j, hj, hc⟩ | ⟨j, hj, hc⟩ <;> rw [hj] at hv <;> simp only [ndOp] at hv
  · simp only [Option.map_eq_some_iff] at hv
    obtain ⟨v, hv, rfl⟩ := hv
    exact (step_pu hc hv).toL
  · simp only [Option.map_eq_some_iff] at hv
    obtain ⟨v, hv, rfl⟩ := hv
    exact (step_rd hc hv).toL
  · simp only [Option.map_eq_some_iff] at hv
    obtain ⟨⟨ob, k⟩, hv, rfl⟩ := hv
    exact (step_al hc hv).toL
  · have gen : ndHR (run tab n) h (hvI fr h j) = some l → StepL P ng o fr h l := by
      intro hv
      cases hq : hvI fr h j with
      | fail => rw [hq] at hv; simp [ndHR] at hv
      | v u k =>
        rw [hq] at hv
        simp only [ndHR, Option.some.injEq] at hv
        subst hv
        exact (step_hv hc hq).toL
      | call f args =>
        rw [hq] at hv
        simp only [ndHR] at hv
        split at hv
        · rename_i x q k hr
          cases hv
          exact (step_call hc hq (S.call _ _ _ _ _ _ _ hr)).toL
        · cases hv
    unfold ndHv at hv
    split at hv
    · rename_i x
      obtain ⟨x', hopn, hx'⟩ := cM_nxt (cH_mp hc)
      intro ρ a w hg hf hr next Q hn
      obtain ⟨p, hp, y, w', hrun, hy, g1, g2⟩ := ndNxt_spec (P := P) (ty := o.type) hr hv (ev_spec hg hf hx')
      have hrun' : (execOp a.eval o).run P w = .ok (.value y) w' := by simp [execOp, hopn, hrun]
      simp only [Oper.wp, hrun', Oper.upon]
      exact hn p hp ρ y w' hy g1 g2
    · exact gen hv

theorem nd_ops [Env] (S : Sound P ng plan tab n) (ops : Array Oper) : ∀ (l : List Nat) (os : List Oper), (l.map fun i => ops[i]?) = os.map some → ∀ (fr : Tr V) (h : H) (outs : List Out), ndOps (run tab n) (os.map (cSt P ng ops)) fr h = some outs →
    ∀ ρ a w, Glob ng ρ → FrRel ρ fr a.tmps → HRel ρ h w → wpOps P ops (PostL ρ h w a outs) l a w
  | [], [], _, fr, h, outs, hrun => by
    simp only [List.map_nil, ndOps, Option.some.injEq] at hrun
    subst hrun
    intro ρ a w hg hf hr
    exact ⟨_, List.mem_singleton.2 rfl, rfl, rfl, ρ, hf, hr, .refl _ _ _⟩
  | [], _ :: _, hl, _, _, _, _ => by simp at hl
  | _ :: _, [], hl, _, _, _, _ => by simp at hl
  | i :: l, o :: os, hl, fr, h, outs, hrun => by
    simp only [List.map_cons, List.cons.injEq] at hl
    obtain ⟨hi, hl⟩ := hl
    simp only [List.map_cons, ndOps] at hrun
    cases hw : wantd fr (cSt P ng ops o).gd with
    | false =>
      simp only [hw] at hrun
      have hgd := cSt_unwanted hw
      intro ρ a w hg hf hr
      simp only [wpOps, hi]
      rw [wantd_spec hf hgd, hw]
      simp only [Bool.false_eq_true, if_false]
      have hput : FrRel ρ (putD fr (cSt P ng ops o).dst undefV) (a.put o.dst undef).tmps := by rw [cSt_dst]; exact put_spec hf rfl
      exact wpOps_mono (fun e a2 w2 hp => hp.later (.refl _ _ _) put_defers (fun _ h => h)) l _ _ (nd_ops S ops l os hl _ _ _ hrun ρ _ w hg hput hr)
    | true =>
      simp only [hw] at hrun
      by_cases hbad : (cSt P ng ops o).op = .bad
      · rw [hbad] at hrun
        simp [ndOp] at hrun
      · cases hv : ndOp (run tab n) fr h (cSt P ng ops o).op with
        | none => simp [hv] at hrun
        | some lv =>
          simp only [hv] at hrun
          refine ops_consL hi hbad hw (ndOp_sound S hbad hv) fun p hp => ?_
          obtain ⟨r, h1, h2⟩ := bindO_spec hrun p hp
          refine ⟨r, h2, ?_⟩
          rw [cSt_dst] at h1
          exact nd_ops S ops l os hl _ _ _ h1

theorem ndSeq_spec {k : Tr V → H → Option (List Out)} {a : Option (List Out)} {outs : List Out} (h : ndSeq k a = some outs) : ∃ l, a = some l ∧ ∀ o ∈ l, ∃ r, ndThen k o = some r ∧ ∀ q ∈ r, q ∈ outs := by
  cases a with
  | none => cases h
  | some l => exact ⟨l, rfl, fun o ho => bindO_spec h o ho⟩

theorem nd_code [Env] (S : Sound P ng plan tab n) (c : Code) : ∀ (fr : Tr V) (h : H) (outs : List Out), ndC (run tab n) (cC P ng plan c) fr h = some outs →
    ∀ ρ a w, Glob ng ρ → FrRel ρ fr a.tmps → HRel ρ h w → c.wp P (PostL ρ h w a outs) a w := by
  induction c with
  | scope c ihc =>
    intro fr h outs hrun ρ a w hg hf hr
    refine wp_scope_straight ?_
    refine wp_mono (ihc fr h outs (by simpa [cC] using hrun) ρ a w hg hf hr) fun e a' w' hp => ?_
    obtain ⟨⟨x, k⟩, ho, he, h2⟩ := hp
    subst he
    cases x <;> exact ⟨_, ho, rfl, h2⟩
  | skip =>
    intro fr h outs hrun ρ a w hg hf hr
    simp only [cC, ndC, Option.some.injEq] at hrun
    subst hrun
    exact wp_skip ⟨_, List.mem_singleton.2 rfl, rfl, rfl, ρ, hf, hr, .refl _ _ _⟩
  | label l =>
    intro fr h outs hrun ρ a w hg hf hr
    simp only [cC, ndC, Option.some.injEq] at hrun
    subst hrun
    exact wp_label ⟨_, List.mem_singleton.2 rfl, rfl, rfl, ρ, hf, hr, .refl _ _ _⟩
  | region id ops draw =>
    intro fr h outs hrun
    cases draw with
    | false =>
      simp only [cC, Bool.false_eq_true, if_false, ndC] at hrun
      exact fun ρ a w hg hf hr => wp_region (nd_ops S ops _ _ (range_map ops) _ _ _ hrun ρ a w hg hf hr)
    | true =>
      simp only [cC, if_true] at hrun
      cases hp : plan ops with
      | none => simp only [hp, ndC] at hrun; cases hrun
      | some l =>
        simp only [hp, ndC] at hrun
        unfold outO at hrun
        split at hrun
        · rename_i x fr1 h1 hq
          cases hrun
          exact fun ρ a w hg hf hr => wp_mono (S.dops id ops l hp _ _ _ _ _ hq ρ a w hg hf hr) fun e a' w' hpp => ⟨_, List.mem_singleton.2 rfl, hpp⟩
        · cases hrun
  | seq c d ihc ihd =>
    intro fr h outs hrun ρ a w hg hf hr
    simp only [cC, ndC] at hrun
    obtain ⟨l, hl, hall⟩ := ndSeq_spec hrun
    refine wp_seq (wp_mono (ihc fr h l hl ρ a w hg hf hr) fun e a1 w1 hp => ?_)
    obtain ⟨⟨x, fr1, h1⟩, ho, rfl, hd, ρ1, hf1, hr1, he1⟩ := hp
    obtain ⟨r, hr', hsub⟩ := hall _ ho
    cases x with
    | nx => exact wp_mono (ihd fr1 h1 r hr' ρ1 a1 w1 (hg.later he1.later) hf1 hr1) fun e a2 w2 hp => hp.later he1 hd hsub
    | rt =>
      simp only [ndThen, Option.some.injEq] at hr'
      subst hr'
      exact ⟨_, hsub _ (List.mem_singleton.2 rfl), rfl, hd, ρ1, hf1, hr1, he1⟩
    | ex id =>
      simp only [ndThen, Option.some.injEq] at hr'
      subst hr'
      exact ⟨_, hsub _ (List.mem_singleton.2 rfl), rfl, hd, ρ1, hf1, hr1, he1⟩
  | cond o c d ihc ihd =>
    intro fr h outs hrun ρ a w hg hf hr
    simp only [cC] at hrun
    cases ho : cO ng o with
    | none => simp only [ho, ndC] at hrun; cases hrun
    | some o' =>
      simp only [ho, ndC] at hrun
      have ex := ev_spec hg hf ho
      split at hrun
      · rename_i hb
        rw [hb] at ex; simp [conc] at ex
        exact wp_cond (t := true) ex.symm (ihc _ _ _ hrun ρ a w hg hf hr)
      · rename_i hb
        rw [hb] at ex; simp [conc] at ex
        exact wp_cond (t := false) ex.symm (ihd _ _ _ hrun ρ a w hg hf hr)
      · cases hrun
  | block id c ihc =>
    intro fr h outs hrun ρ a w hg hf hr
    simp only [cC, ndC, Option.map_eq_some_iff] at hrun
    obtain ⟨l, hl, rfl⟩ := hrun
    refine wp_block (wp_mono (ihc _ _ _ hl ρ a w hg hf hr) fun e a1 w1 hp => ?_)
    obtain ⟨⟨x, fr1, h1⟩, ho, rfl, hrest⟩ := hp
    cases x with
    | nx => exact ⟨_, List.mem_map.2 ⟨_, ho, rfl⟩, rfl, hrest⟩
    | rt => exact ⟨_, List.mem_map.2 ⟨_, ho, rfl⟩, rfl, hrest⟩
    | ex j =>
      cases hj : Nat.beq j id with
      | true =>
        have hj' := Nat.eq_of_beq_eq_true hj
        simp only [X.exit, Exit.inBlock, hj', if_true]
        refine ⟨(.nx, fr1, h1), List.mem_map.2 ⟨_, ho, ?_⟩, rfl, hrest⟩
        simp only [blkO, hj, cond_true]
      | false =>
        have hj' : j ≠ id := by intro e; subst e; simp at hj
        simp only [X.exit, Exit.inBlock, hj', if_false]
        refine ⟨(.ex j, fr1, h1), List.mem_map.2 ⟨_, ho, ?_⟩, rfl, hrest⟩
        simp only [blkO, hj, cond_false]
  | loop c ihc =>
    intro fr h outs hrun ρ a w hg hf hr
    simp only [cC, ndC] at hrun
    have key : ∀ (N : Nat) (fr : Tr V) (h : H) (outs : List Out), ndLoop (ndC (run tab n) (cC P ng plan c)) N fr h = some outs → ∀ ρ a w, Glob ng ρ → FrRel ρ fr a.tmps → HRel ρ h w → Code.rounds P c (PostL ρ h w a outs) N a w := by
      intro N
      induction N with
      | zero => intro fr h outs hrun; cases hrun
      | succ N ihN =>
        intro fr h outs hrun ρ a w hg hf hr
        simp only [ndLoop] at hrun
        obtain ⟨l, hl, hall⟩ := ndSeq_spec hrun
        rw [rounds_succ]
        refine wp_mono (ihc fr h l hl ρ a w hg hf hr) fun e a1 w1 hp => ?_
        obtain ⟨⟨x, fr1, h1⟩, ho, rfl, hd, ρ1, hf1, hr1, he1⟩ := hp
        obtain ⟨r, hr', hsub⟩ := hall _ ho
        cases x with
        | nx => exact rounds_mono (fun e a2 w2 hp => hp.later he1 hd hsub) N _ _ (ihN fr1 h1 r hr' ρ1 a1 w1 (hg.later he1.later) hf1 hr1)
        | rt =>
          simp only [ndThen, Option.some.injEq] at hr'
          subst hr'
          exact ⟨_, hsub _ (List.mem_singleton.2 rfl), rfl, hd, ρ1, hf1, hr1, he1⟩
        | ex id =>
          simp only [ndThen, Option.some.injEq] at hr'
          subst hr'
          exact ⟨_, hsub _ (List.mem_singleton.2 rfl), rfl, hd, ρ1, hf1, hr1, he1⟩
    exact wp_loop_rounds 1000 (key 1000 fr h outs hrun ρ a w hg hf hr)
  | rangeFunc f ps b c _ _ => intro fr h outs hrun; simp only [cC, ndC] at hrun; cases hrun
  | exit id =>
    intro fr h outs hrun ρ a w hg hf hr
    simp only [cC, ndC, Option.some.injEq] at hrun
    subst hrun
    exact wp_exit ⟨_, List.mem_singleton.2 rfl, rfl, rfl, ρ, hf, hr, .refl _ _ _⟩
  | goto l => intro fr h outs hrun; simp only [cC, ndC] at hrun; cases hrun
  | ret =>
    intro fr h outs hrun ρ a w hg hf hr
    simp only [cC, ndC, Option.some.injEq] at hrun
    subst hrun
    exact wp_ret ⟨_, List.mem_singleton.2 rfl, rfl, rfl, ρ, hf, hr, .refl _ _ _⟩
  | refuse s => intro fr h outs hrun; simp only [cC, ndC] at hrun; cases hrun

/-! ### Several ends become one -/

def Less (h h' : H) : Prop := ∀ b, h.get b = .dead ∨ h.get b = h'.get b

theorem HRel.sub [Env] {ρ : Ren} {g g' : H} {w : World} (hr : HRel ρ g w) (hl : Less g' g) (hn : g.n.num ≤ g'.n.num) : HRel ρ g' w := by
  have lv : ∀ b, (g'.get b).live = true → g'.get b = g.get b ∧ (g.get b).live = true := by
    intro b hb
    rcases hl b with e | e
    · rw [e] at hb; cases hb
    · exact ⟨e, by rw [← e]; exact hb⟩
  refine ⟨fun p x hp => Nat.lt_of_lt_of_le (hr.dom p x hp) hn, hr.inside, fun p hp => ?_, fun p q x y hp hq => hr.inj p q x y (lv p hp).2 (lv q hq).2, fun k v hv => ⟨(hr.keep k v hv).1, fun p y hp h1 => (hr.keep k v hv).2 p y (lv p hp).2 h1⟩⟩
  rw [(lv p hp).1]
  exact hr.ob p (lv p hp).2

theorem Ext.sub {ρ ρ' : Ren} {h g g' : H} {w w' : World} (hx : Ext ρ h w ρ' g w') (hl : Less g' g) (hn : g'.n = g.n) : Ext ρ h w ρ' g' w' := by
  obtain ⟨a, b, c, d, f, m, k⟩ := hx
  refine ⟨a, b, c, fun p x hp => d p x ?_, f, by rw [hn]; exact m, k⟩
  rcases hl p with e | e
  · rw [e] at hp; cases hp
  · rw [← e]; exact hp

theorem sameEs_eq : ∀ {l k : List (V × V × Nat)}, sameEs l k = true → l = k
  | [], [], _ => rfl
  | [], _ :: _, h => by simp [sameEs] at h
  | (_, _, _) :: _, [], h => by simp [sameEs] at h
  | (a, b, n) :: l, (c, d, m) :: k, h => by
    simp only [sameEs] at h
    obtain ⟨h1, h⟩ := cond_and h
    obtain ⟨h2, h⟩ := cond_and h
    obtain ⟨h3, h⟩ := cond_and h
    rw [sameV_eq h1, sameV_eq h2, Nat.eq_of_beq_eq_true h3, sameEs_eq h]

theorem sameOb_eq {a b : Ob} (h : sameOb a b = true) : a = b := by
  cases a <;> simp only [sameOb] at h <;> try (cases h; done)
  · cases b <;> simp only [] at h <;> try (cases h; done)
    obtain ⟨h1, h⟩ := cond_and h
    obtain ⟨h2, h⟩ := cond_and h
    rw [beq_iff_eq.1 h1, Nat.eq_of_beq_eq_true h2, sameVs_eq h]
  · cases b <;> simp only [] at h <;> try (cases h; done)
    obtain ⟨h1, h⟩ := cond_and h
    rw [Nat.eq_of_beq_eq_true h1, sameEs_eq h]

theorem mergeT_get : ∀ (a b : Tr Ob) (p : Path), (mergeT a b).get .dead p = .dead ∨ ((mergeT a b).get .dead p = a.get .dead p ∧ (mergeT a b).get .dead p = b.get .dead p)
  | .nil, _, p => .inl rfl
  | .nd _ _ _, .nil, p => .inl rfl
  | .nd l v r, .nd l' v' r', .e => by
    show (cond (sameOb v v') v .dead) = _ ∨ _
    cases hs : sameOb v v' with
    | false => exact .inl rfl
    | true =>
      have := sameOb_eq hs
      subst this
      right
      constructor <;> (show cond (sameOb v v) v Ob.dead = v; rw [hs]; rfl)
  | .nd l v r, .nd l' v' r', .l p => mergeT_get l l' p
  | .nd l v r, .nd l' v' r', .r p => mergeT_get r r' p

theorem joinL_spec {vs : List V} : ∀ {l : List (List V × H)} {h h' : H}, joinL vs h l = some h' → h'.n = h.n ∧ Less h' h ∧ ∀ q ∈ l, q.1 = vs ∧ q.2.n = h'.n ∧ Less h' q.2
  | [], h, h', e => by cases e; exact ⟨rfl, fun _ => .inr rfl, fun _ hq => by simp at hq⟩
  | (us, k) :: l, h, h', e => by
    simp only [joinL] at e
    obtain ⟨h1, e⟩ : sameVs us vs = true ∧ _ := by
      cases hs : sameVs us vs with
      | false => rw [hs] at e; cases e
      | true => rw [hs] at e; exact ⟨rfl, e⟩
    simp only [cond_true] at e
    obtain ⟨h2, e⟩ : k.n.same h.n = true ∧ _ := by
      cases hs : k.n.same h.n with
      | false => rw [hs] at e; cases e
      | true => rw [hs] at e; exact ⟨rfl, e⟩
    simp only [cond_true] at e
    obtain ⟨g1, g2, g3⟩ := joinL_spec e
    have hn := Path.same_iff.1 h2
    refine ⟨g1, fun b => ?_, fun q hq => ?_⟩
    · rcases g2 b with e1 | e1
      · exact .inl e1
      · rcases mergeT_get h.t k.t b with e2 | ⟨e2, _⟩
        · left; rw [e1]; exact e2
        · right; rw [e1]; exact e2
    · rcases List.mem_cons.1 hq with rfl | hq
      · refine ⟨sameVs_eq h1, by rw [g1]; exact hn, fun b => ?_⟩
        rcases g2 b with e1 | e1
        · exact .inl e1
        · rcases mergeT_get h.t k.t b with e2 | ⟨_, e2⟩
          · left; rw [e1]; exact e2
          · right; rw [e1]; exact e2
      · exact g3 q hq

theorem endsL_spec {res : List RV} : ∀ {outs : List Out} {l : List (List V × H)}, endsL res outs = some l → ∀ o ∈ outs, ∃ q ∈ l, endsO res o = some q
  | [], _, _, o, ho => by simp at ho
  | p :: outs, l, h, o, ho => by
    simp only [endsL] at h
    cases hp : endsO res p with
    | none => simp [hp] at h
    | some a =>
      cases hr : endsL res outs with
      | none => simp [hp, hr] at h
      | some r =>
        simp only [hp, hr, Option.some.injEq] at h
        subst h
        rcases List.mem_cons.1 ho with rfl | ho
        · exact ⟨a, List.mem_cons_self, hp⟩
        · obtain ⟨q, hq, e⟩ := endsL_spec hr o ho
          exact ⟨q, List.mem_cons_of_mem _ hq, e⟩

theorem joinO_spec {res : List RV} {outs : Option (List Out)} {x : X} {q : Tr V} {h' : H} (h : joinO res outs = .one x q h') :
    ∃ l vs, outs = some l ∧ q.get undefV .e = oneV vs ∧ ∀ o ∈ l, (∀ id, o.1 ≠ .ex id) ∧ resVs o.2.1 o.2.2 res = some vs ∧ o.2.2.n = h'.n ∧ Less h' o.2.2 := by
  unfold joinO at h
  split at h
  · rename_i outs
    split at h
    · rename_i vs h0 l hl
      split at h
      · rename_i h1 hj
        simp only [Rs.one.injEq] at h
        obtain ⟨_, rfl, rfl⟩ := h
        obtain ⟨g1, g2, g3⟩ := joinL_spec hj
        refine ⟨outs, vs, rfl, rfl, fun o ho => ?_⟩
        obtain ⟨q, hq, e⟩ := endsL_spec hl o ho
        have hq' : q.1 = vs ∧ q.2.n = h1.n ∧ Less h1 q.2 := by
          rcases List.mem_cons.1 hq with rfl | hq
          · exact ⟨rfl, g1.symm, g2⟩
          · exact g3 q hq
        obtain ⟨x, fr, k⟩ := o
        unfold endsO at e
        cases x with
        | ex id => cases e
        | nx =>
          simp only at e
          split at e
          · rename_i us hus
            cases e
            obtain ⟨rfl, e2, e3⟩ := hq'
            exact ⟨fun _ h => (by cases h), hus, e2, e3⟩
          · cases e
        | rt =>
          simp only at e
          split at e
          · rename_i us hus
            cases e
            obtain ⟨rfl, e2, e3⟩ := hq'
            exact ⟨fun _ h => (by cases h), hus, e2, e3⟩
          · cases e
      · cases h
    · cases h
  · cases h

end
end Go.Eng

namespace Go.Eng
section
variable {P : Program} {ng : Nat} {tab : Tr (Option F)} {plan : Array Oper → Option (List It)} {n : Nat} {ρ : Ren}

/-- What is known of a function by other means is right. -/
def OrcOk [Env] (P : Program) (ng : Nat) (f : Path) (o : List V → H → Rs) : Prop :=
  ∀ args h x q h', o args h = .one x q h' → CallOk P ng f args h (q.get undefV .e) h'

def TabOk [Env] (P : Program) (ng : Nat) (plan : Array Oper → Option (List It)) (tab : Tr (Option F)) : Prop :=
  ∀ f F, tab.get none f = some F → (∃ fn, P.funcs[f.num]? = some fn ∧ cF P ng plan fn = some F) ∨ ∃ o, F.orc = some o ∧ OrcOk P ng f o

theorem putArgs_get : ∀ (l : List V) (k : Nat) (fr : Tr V), (∀ t, t < k + l.length → fr.mem (Path.of t) = true) → ∀ t,
    (putArgs (Path.of k) l fr).get undefV (Path.of t) = if k ≤ t ∧ t < k + l.length then l.getD (t - k) undefV else fr.get undefV (Path.of t)
  | [], k, fr, _, t => by simp [putArgs]; omega
  | v :: l, k, fr, hm, t => by
    simp only [putArgs]
    have ih := putArgs_get l (k + 1) (fr.set (Path.of k) v) (fun t ht => by rw [Tr.mem_set]; exact hm t (by simp; omega)) t
    rw [show (Path.of k).succ = Path.of (k + 1) from rfl, ih, Tr.get_set]
    have hk := hm k (by simp)
    by_cases h1 : k + 1 ≤ t ∧ t < k + 1 + l.length
    · rw [if_pos h1, if_pos (by simp; omega), show t - k = (t - (k + 1)) + 1 by omega]
      simp
    · rw [if_neg h1]
      by_cases h2 : t = k
      · subst h2
        rw [if_pos ⟨rfl, hk⟩, if_pos (by simp)]
        simp
      · rw [if_neg (fun c => h2 (Path.of_inj c.1)), if_neg (by simp; omega)]

theorem putArgs_mem : ∀ (l : List V) (k : Path) (fr : Tr V) (p : Path), (putArgs k l fr).mem p = fr.mem p
  | [], _, _, _ => rfl
  | v :: l, k, fr, p => by simp only [putArgs]; rw [putArgs_mem l, Tr.mem_set]

theorem frame_enter [Env] {args : List V} {xs : List Value} {m : Nat} (h : concs ρ args = some xs) (hle : args.length ≤ m) :
    FrRel ρ (putArgs .e args (Tr.fill undefV m m)) (xs.toArray ++ Array.replicate (m - xs.toArray.size) undef) := by
  have hlen := concs_length h
  have hmem : ∀ t, (Tr.fill undefV m m).mem (Path.of t) = decide (t < m) := by
    intro t; rw [Tr.mem_fill undefV m m (Nat.le_refl _), Path.num_of]
  refine ⟨fun t => ?_, fun t => ?_⟩
  · have := putArgs_get args 0 (Tr.fill undefV m m) (fun t ht => by rw [hmem]; simp; omega) t
    rw [show Path.of 0 = Path.e from rfl] at this
    rw [this, Array.getD_eq_getD_getElem?]
    by_cases ht : t < args.length
    · rw [if_pos (by omega)]
      obtain ⟨x, hx, hx2⟩ := concs_get t args[t] h (List.getElem?_eq_getElem ht)
      have e1 : args.getD (t - 0) undefV = args[t] := by simp [List.getD, ht]
      rw [e1, hx, Array.getElem?_append_left (by simp; omega)]
      simp [hx2]
    · rw [if_neg (by omega), Tr.get_fill]
      have : (xs.toArray ++ Array.replicate (m - xs.toArray.size) undef)[t]?.getD undef = undef := by
        rw [Array.getElem?_append_right (by simp; omega)]
        simp only [Array.getElem?_replicate]
        split <;> rfl
      rw [this]; rfl
  · rw [putArgs_mem, hmem]
    congr 1
    rw [eq_iff_iff]; simp; omega

def resM (tmps : Array Value) (r : ResultVar) : Sem Value :=
  match r with
  | .tmp t => pure (tmps.getD t undef)
  | .cell a t => do loadVar t (← asAddr (tmps.getD a undef))

theorem results_eq (fn : Func) (tmps : Array Value) : results fn tmps = (do
    let vs ← fn.results.mapM (resM tmps)
    pure (if h : vs.size = 1 then vs[0] else .tuple vs)) := by
  unfold results
  congr 1

theorem res_spec [Env] {fr : Tr V} {h : H} {w : World} {tmps : Array Value} (hf : FrRel ρ fr tmps) (hr : HRel ρ h w) :
    ∀ (l : List ResultVar) (rs : List RV) (vs : List V), cRes P l = some rs → resVs fr h rs = some vs →
    ∃ xs, concs ρ vs = some xs ∧ (l.mapM (resM tmps)).run P w = .ok xs w
  | [], rs, vs, hc, hv => by
    simp [cRes] at hc; subst hc
    simp [resVs] at hv; subst hv
    exact ⟨[], rfl, rfl⟩
  | .tmp t :: l, rs, vs, hc, hv => by
    simp only [cRes, Option.map_eq_some_iff] at hc
    obtain ⟨r, hr', rfl⟩ := hc
    simp only [resVs, resV] at hv
    split at hv
    · rename_i us hus
      cases hv
      obtain ⟨xs, h1, h2⟩ := res_spec hf hr l r us hr' hus
      refine ⟨tmps.getD t undef :: xs, by simp only [concs, hf.val t, h1, Option.bind_some, Option.map_some], ?_⟩
      rw [List.mapM_cons]
      simp only [resM, Sem.run_bind, Sem.run_pure, Result.andThen_ok, h2]
    · cases hv
  | .cell p t :: l, rs, vs, hc, hv => by
    simp only [cRes, Option.bind_eq_some_iff, Option.map_eq_some_iff] at hc
    obtain ⟨g, hg, m, hm, r, hr', rfl⟩ := hc
    simp only [resVs, resV] at hv
    split at hv
    · rename_i v hv1
      split at hv
      · rename_i us hus
        cases hv
        obtain ⟨xs, h1, h2⟩ := res_spec hf hr l r us hr' hus
        obtain ⟨y, hy, hrun⟩ := load_spec (P := P) hr hv1 (hf.val p) hg hm
        refine ⟨y :: xs, by simp only [concs, hy, h1, Option.bind_some, Option.map_some], ?_⟩
        rw [List.mapM_cons]
        have hload : (do loadVar t (← asAddr (tmps.getD p undef)) : Sem Value).run P w = .ok y w := by
          have hpv := hf.val p
          unfold loadV at hv1
          split at hv1
          · rename_i b o hb
            rw [hb] at hpv
            obtain ⟨q, _, e⟩ := conc_p hpv
            rw [e] at hrun ⊢
            simpa [Instr.loadAt, Instr.sureAddr, asAddr] using hrun
          · cases hv1
        have hload : (resM tmps (.cell p t)).run P w = .ok y w := hload
        simp only [Sem.run_bind, hload, Result.andThen_ok, h2, Sem.run_pure]
      · cases hv
    · cases hv

theorem oneV_spec [Env] {vs : List V} {xs : List Value} (h : concs ρ vs = some xs) : conc ρ (oneV vs) = some (if h : xs.toArray.size = 1 then xs.toArray[0] else .tuple xs.toArray) := by
  have hlen := concs_length h
  unfold oneV
  split
  · rename_i v
    simp only [concs, Option.bind_eq_some_iff, Option.map_eq_some_iff] at h
    obtain ⟨x, hx, ys, hy, rfl⟩ := h
    simp at hy; subst hy
    simp [hx]
  · rename_i hne
    have : xs.toArray.size ≠ 1 := by
      intro e
      cases vs with
      | nil => rw [List.size_toArray] at e; rw [e] at hlen; simp at hlen
      | cons v vs =>
        cases vs with
        | nil => exact hne v rfl
        | cons _ _ => rw [List.size_toArray] at e; rw [e] at hlen; simp at hlen
    rw [dif_neg this]
    simp [conc, h]

theorem sound_call [Env] (S : Sound P ng plan tab n) (hT : TabOk P ng plan tab) (f : Path) (args : List V) (fr : Tr V) (h : H) (x : X) (q : Tr V) (h' : H) (hrun : run tab (n + 1) (.call f args) fr h = .one x q h') :
    CallOk P ng f args h (q.get undefV .e) h' := by
  rw [run_succ] at hrun
  simp only [runT, runF] at hrun
  split at hrun
  · rename_i F hF
    rcases hT f F hF with ⟨fn, hfn, hcF⟩ | ⟨o, ho, hok⟩
    rotate_left
    · rw [ho] at hrun
      exact hok args h x q h' hrun
    unfold cF at hcF
    split at hcF
    · rename_i c hbody
      split at hcF
      · cases hcF
      · rename_i hname
        simp only [Option.map_eq_some_iff] at hcF
        obtain ⟨r, hr, rfl⟩ := hcF
        simp only at hrun
        cases hle : Nat.ble args.length fn.ntmps with
        | false => simp [hle] at hrun
        | true =>
          simp only [hle, cond_true] at hrun
          have hle := Nat.le_of_ble_eq_true hle
          cases hnd : hasNext c with
          | false =>
            simp only [hnd, cond_false] at hrun
            unfold runRet at hrun
            split at hrun
            · rename_i y fr1 h1 hq
              intro ρ w xs hxs hrel hg
              have hlen := concs_length hxs
              refine ⟨?_, ?_⟩
              · have hn : (fn.name == "runtime.NumGoroutine") = false := by simpa using hname
                simp only [callFunc, Sem.run_bind, run_program, Result.andThen_ok, hfn, hn, hbody, Option.isNone_some, Bool.false_eq_true, if_false, Sem.run_pure]
              · refine calls_of_wp hfn hbody ?_
                have hc := S.code c _ _ _ _ _ hq ρ { tmps := xs.toArray ++ Array.replicate (fn.ntmps - xs.toArray.size) undef, defers := [] } w hg (frame_enter hxs hle) hrel
                refine wp_mono hc fun e a1 w1 hp => ?_
                obtain ⟨rfl, hd, ρ1, hf1, hr1, he1⟩ := hp
                have fin : ∀ {q' h''}, retR r fr1 h1 = .one x q' h'' → q' = q → h'' = h' → a1.defers = [] ∧ ∃ v, (results fn a1.tmps).run P w1 = .ok v w1 ∧
                    ∃ u ρ', Ending.returned v = .returned u ∧ conc ρ' (q.get undefV .e) = some u ∧ HRel ρ' h' w1 ∧ Ext ρ h w ρ' h' w1 := by
                  intro q' h'' hret e1 e2
                  subst e1; subst e2
                  unfold retR at hret
                  split at hret
                  · rename_i l hl
                    simp only [Rs.one.injEq] at hret
                    obtain ⟨rfl, rfl, rfl⟩ := hret
                    obtain ⟨zs, h2, h3⟩ := res_spec (P := P) hf1 hr1 _ r l hr hl
                    refine ⟨hd, _, ?_, _, ρ1, rfl, oneV_spec h2, hr1, he1⟩
                    rw [results_eq, Array.mapM_eq_mapM_toList]
                    simp only [Sem.run_bind, Sem.run_map, h3, Result.andThen_ok, Sem.run_pure]
                  · cases hret
                cases y with
                | nx => exact fin hrun rfl rfl
                | rt => exact fin hrun rfl rfl
                | ex id => cases hrun
            · cases hrun
          | true =>
            simp only [hnd, cond_true] at hrun
            obtain ⟨outs, vs, ho, hq, hall⟩ := joinO_spec hrun
            intro ρ w xs hxs hrel hg
            have hlen := concs_length hxs
            refine ⟨?_, ?_⟩
            · have hn : (fn.name == "runtime.NumGoroutine") = false := by simpa using hname
              simp only [callFunc, Sem.run_bind, run_program, Result.andThen_ok, hfn, hn, hbody, Option.isNone_some, Bool.false_eq_true, if_false, Sem.run_pure]
            · refine calls_of_wp hfn hbody ?_
              have hc := nd_code S c _ _ outs ho ρ { tmps := xs.toArray ++ Array.replicate (fn.ntmps - xs.toArray.size) undef, defers := [] } w hg (frame_enter hxs hle) hrel
              refine wp_mono hc fun e a1 w1 hp => ?_
              obtain ⟨⟨y, fr1, h1⟩, hmem, rfl, hd, ρ1, hf1, hr1, he1⟩ := hp
              obtain ⟨hne, hres, hn1, hls⟩ := hall _ hmem
              have fin : a1.defers = [] ∧ ∃ v, (results fn a1.tmps).run P w1 = .ok v w1 ∧
                  ∃ u ρ', Ending.returned v = .returned u ∧ conc ρ' (q.get undefV .e) = some u ∧ HRel ρ' h' w1 ∧ Ext ρ h w ρ' h' w1 := by
                obtain ⟨zs, h2, h3⟩ := res_spec (P := P) hf1 hr1 _ r vs hr hres
                refine ⟨hd, _, ?_, _, ρ1, rfl, by rw [hq]; exact oneV_spec h2, hr1.sub hls (by rw [hn1]; exact Nat.le_refl _), he1.sub hls hn1.symm⟩
                rw [results_eq, Array.mapM_eq_mapM_toList]
                simp only [Sem.run_bind, Sem.run_map, h3, Result.andThen_ok, Sem.run_pure]
              cases y with
              | nx => exact fin
              | rt => exact fin
              | ex id => exact absurd rfl (hne id)
    · cases hcF
  · cases hrun

/-- Soundness, but for regions whose order is open. -/
theorem sound_all [Env] (hT : TabOk P ng plan tab) (hD : ∀ n, (∀ m, m ≤ n → Sound P ng plan tab m) → ∀ (id : Nat) (ops : Array Oper) (l : List It), plan ops = some l → ∀ fr h x fr' h', run tab (n + 1) (.dops l) fr h = .one x fr' h' →
    ∀ ρ a w, Glob ng ρ → FrRel ρ fr a.tmps → HRel ρ h w → (Code.region id ops true).wp P (Post ρ h w a x fr' h') a w) : ∀ n m, m ≤ n → Sound P ng plan tab m
  | 0, m, hm => by
    have : m = 0 := by omega
    subst this
    refine ⟨?_, ?_, ?_, ?_, ?_⟩
    · intro _ _ _ _ _ _ h; rw [run_zero] at h; cases h
    · intro _ _ _ _ _ _ h; rw [run_zero] at h; cases h
    · intro _ _ _ _ _ _ _ _ _ h; rw [run_zero] at h; cases h
    · intro _ _ _ _ _ _ _ _ _ h; rw [run_zero] at h; cases h
    · intro _ _ _ _ _ _ _ h; rw [run_zero] at h; cases h
  | n + 1, m, hm => by
    have S := sound_all hT hD n
    by_cases e : m ≤ n
    · exact S m e
    · have : m = n + 1 := by omega
      subst this
      have Sn := S n (Nat.le_refl n)
      exact ⟨sound_code Sn, sound_loop Sn, sound_ops Sn, hD n S, sound_call Sn hT⟩

end
end Go.Eng

namespace Go.Eng

/-! ### Operands -/

def PI.opds : PI → List Opd
  | .mv x => [x]
  | .pick c a b => [c, a, b]
  | .build _ ps => ps.map (·.2.2)
  | .bin _ _ x y => [x, y]
  | .eqS _ _ x y => [x, y]
  | .convS x => [x]
  | .un _ x => [x]
  | .convI _ x => [x]
  | .mkI _ x => [x]
  | .mkF _ l => l
  | .slStr x lo hi => x :: (lo.toList ++ hi.toList)
  | .slSl _ x lo hi m => x :: (lo.toList ++ (hi.toList ++ m.toList))
  | .fieldA _ x => [x]
  | .field _ _ _ x => [x]
  | .idxAArr _ _ x i => [x, i]
  | .idxASl _ x i => [x, i]
  | .idxArr _ _ _ x i => [x, i]
  | .idxStr x i => [x, i]
  | .extract x _ => [x]
  | .lenS x => [x]
  | .lenSl x => [x]
  | .mx l => l
  | .mn l => l
  | .nilck x => [x]
  | .ixb x c => [x, c]
  | .eqF _ _ x y => [x, y]
  | .tas _ _ _ _ x => [x]

def RI.opds : RI → List Opd
  | .load _ _ x => [x]
  | .slArr _ _ x lo hi m => x :: (lo.toList ++ (hi.toList ++ m.toList))
  | .b2s x => [x]
  | .lenM x => [x]
  | .look _ _ _ _ x k => [x, k]
  | .ent x => [x]
  | .glob _ => []
  | .globI _ _ => []
  | .ixs _ x y => [x, y]

def MI.opds : MI → List Opd
  | .mk => []
  | .up _ _ x k v => [x, k, v]
  | .del _ _ x k => [x, k]
  | .ment _ _ _ x k => [x, k]
  | .est x s v => [x, s, v]
  | .rng x => [x]
  | .nxt x => [x]
  | .cln x => [x]

def AI.opds : AI → List Opd
  | .alloc _ _ => []
  | .box x _ => [x]
  | .buildSl _ _ _ _ ps => ps.map (·.2.2)
  | .mkSl _ _ _ _ l c => [l, c]
  | .s2b _ x => [x]

def HI.opds : HI → List Opd
  | .store _ x y => [x, y]
  | .append _ _ _ x y => [x, y]
  | .copy _ x y => [x, y]
  | .clear _ _ x => [x]
  | .call _ l => l
  | .callv f l => f :: l
  | .mp i => i.opds
  | .inv _ x l => x :: l

/-- Two frames in which operands are worth the same. -/
def SameOn (fr fr' : Tr V) (l : List Opd) : Prop := ∀ o ∈ l, ev fr o = ev fr' o

theorem evs_same {fr fr' : Tr V} : ∀ {l : List Opd}, SameOn fr fr' l → evs fr l = evs fr' l
  | [], _ => rfl
  | o :: l, h => by
    show ev fr o :: evs fr l = ev fr' o :: evs fr' l
    rw [h o (by simp), evs_same (fun o ho => h o (by simp [ho]))]

theorem bnd_same {fr fr' : Tr V} {d : Nat} {o : Option Opd} (h : SameOn fr fr' o.toList) : bnd fr d o = bnd fr' d o := by
  cases o with
  | none => rfl
  | some o => simp only [bnd]; rw [h o (by simp)]

theorem mxO_same {fr fr' : Tr V} {o : Option Opd} (h : SameOn fr fr' o.toList) : mxO fr o = mxO fr' o := by
  funext d
  cases o with
  | none => rfl
  | some o => simp only [mxO]; rw [h o (by simp)]

theorem fillP_same {fr fr' : Tr V} : ∀ {ps : List (Nat × Nat × Opd)} {z : List V}, SameOn fr fr' (ps.map (·.2.2)) → fillP fr ps z = fillP fr' ps z
  | [], _, _ => rfl
  | (off, size, x) :: ps, z, h => by
    simp only [fillP]
    rw [h x (by simp)]
    split
    · rfl
    · congr 1
      split
      · exact fillP_same (fun o ho => h o (by simp only [List.map_cons, List.mem_cons]; exact .inr ho))
      · rfl

theorem SameOn.left {fr fr' : Tr V} {l k : List Opd} (h : SameOn fr fr' (l ++ k)) : SameOn fr fr' l := fun o ho => h o (by simp [ho])
theorem SameOn.right {fr fr' : Tr V} {l k : List Opd} (h : SameOn fr fr' (l ++ k)) : SameOn fr fr' k := fun o ho => h o (by simp [ho])
theorem SameOn.tail {fr fr' : Tr V} {x : Opd} {k : List Opd} (h : SameOn fr fr' (x :: k)) : SameOn fr fr' k := fun o ho => h o (by simp [ho])

theorem puI_same {fr fr' : Tr V} {i : PI} (h : SameOn fr fr' i.opds) : puI fr i = puI fr' i := by
  cases i <;> simp only [PI.opds] at h <;> simp only [puI]
  case build z ps => rw [fillP_same h]
  case mkF f l => rw [evs_same h]
  case slStr x lo hi =>
    have e : (fun d => bnd fr d hi) = (fun d => bnd fr' d hi) := by funext d; exact bnd_same h.tail.right
    rw [h x (by simp), bnd_same h.tail.left, e]
  case slSl es x lo hi mx =>
    have e : (fun d => bnd fr d hi) = (fun d => bnd fr' d hi) := by funext d; exact bnd_same h.tail.right.left
    rw [h x (by simp), bnd_same h.tail.left, e, mxO_same h.tail.right.right]
  case mx l => rw [evs_same h]
  case mn l => rw [evs_same h]
  case pick c a b => rw [h c (by simp), h a (by simp), h b (by simp)]
  case bin op k x y => rw [h x (by simp), h y (by simp)]
  case eqS n t x y => rw [h x (by simp), h y (by simp)]
  case idxAArr _ _ x i => rw [h x (by simp), h i (by simp)]
  case idxASl _ x i => rw [h x (by simp), h i (by simp)]
  case idxArr _ _ _ x i => rw [h x (by simp), h i (by simp)]
  case idxStr x i => rw [h x (by simp), h i (by simp)]
  case ixb x i => rw [h x (by simp), h i (by simp)]
  case eqF _ _ x y => rw [h x (by simp), h y (by simp)]
  case extract x _ => rw [h x (by simp)]
  all_goals (rename_i x; rw [h x (by simp)])

theorem rdI_same {fr fr' : Tr V} {H : H} {i : RI} (h : SameOn fr fr' i.opds) : rdI fr H i = rdI fr' H i := by
  cases i <;> simp only [RI.opds] at h <;> simp only [rdI]
  case slArr n es x lo hi mx => rw [h x (by simp), bnd_same h.tail.left, bnd_same h.tail.right.left, mxO_same h.tail.right.right]
  case look _ _ _ _ x k => rw [h x (by simp), h k (by simp)]
  case ixs _ x y => rw [h x (by simp), h y (by simp)]
  case load _ _ x => rw [h x (by simp)]
  case b2s x => rw [h x (by simp)]
  case lenM x => rw [h x (by simp)]
  case ent x => rw [h x (by simp)]

theorem alI_same {fr fr' : Tr V} {i : AI} (h : SameOn fr fr' i.opds) : alI fr i = alI fr' i := by
  cases i <;> simp only [AI.opds] at h <;> simp only [alI]
  case box x _ => rw [h x (by simp)]
  case buildSl z e es len ps => unfold buildSlO; rw [fillP_same h]
  case mkSl _ _ _ _ l c => rw [h l (by simp), h c (by simp)]
  case s2b _ x => rw [h x (by simp)]

theorem mpI_same {fr fr' : Tr V} {H : H} {i : MI} (h : SameOn fr fr' i.opds) : mpI fr H i = mpI fr' H i := by
  cases i <;> simp only [MI.opds] at h <;> simp only [mpI]
  case up _ _ x k v => rw [h x (by simp), h k (by simp), h v (by simp)]
  case del _ _ x k => rw [h x (by simp), h k (by simp)]
  case ment _ _ _ x k => rw [h x (by simp), h k (by simp)]
  case est x s v => rw [h x (by simp), h s (by simp), h v (by simp)]
  case rng x => rw [h x (by simp)]
  case nxt x => rw [h x (by simp)]
  case cln x => rw [h x (by simp)]

theorem hvI_same {fr fr' : Tr V} {H : H} {i : HI} (h : SameOn fr fr' i.opds) : hvI fr H i = hvI fr' H i := by
  cases i <;> simp only [HI.opds] at h <;> simp only [hvI]
  case store n x y => rw [h x (by simp), h y (by simp)]
  case append _ _ _ x y => rw [h x (by simp), h y (by simp)]
  case copy _ x y => rw [h x (by simp), h y (by simp)]
  case clear _ _ x => rw [h x (by simp)]
  case call f l => rw [evs_same h]
  case callv f l => rw [h f (by simp), evs_same h.tail]
  case mp i => rw [mpI_same h]
  case inv t x l => rw [h x (by simp), evs_same h.tail]

def I.opds : I → List Opd
  | .pu i => i.opds
  | .rd i => i.opds
  | .al i => i.opds
  | .hv i => i.opds
  | .bad => []

/-! ### Heaps of which less is known -/

theorem obCells_less {h h' : H} (hl : Less h h') {b : Path} {l : List V} (hv : obCells (h.get b) = some l) : obCells (h'.get b) = some l := by
  rcases hl b with e | e
  · rw [e] at hv; cases hv
  · rw [← e]; exact hv

theorem loadC_less {h h' : H} (hl : Less h h') {b : Path} {o n : Nat} {l : List V} (hv : loadC h b o n = some l) : loadC h' b o n = some l := by
  unfold loadC at *
  rcases hl b with e | e
  · rw [e] at hv; cases hv
  · rw [← e]; exact hv

theorem rdI_less {fr : Tr V} {h h' : H} (hl : Less h h') {i : RI} {v : V} (hv : rdI fr h i = some v) : rdI fr h' i = some v := by
  cases i <;> simp only [rdI] at hv ⊢
  case load agg n x =>
    unfold loadV at *
    split at hv
    · split at hv
      · rename_i e; rw [loadC_less hl e]; exact hv
      · cases hv
    · cases hv
  case slArr n es x lo hi mx =>
    unfold slArrH at *
    split at hv
    · split at hv
      · rename_i e; rw [obCells_less hl e]; exact hv
      · cases hv
    · cases hv
  case b2s x =>
    unfold b2sV at *
    split at hv
    · exact hv
    · rename_i b o n _ _ es _
      cases hb : Nat.beq es 1 with
      | false => simp [hb] at hv
      | true =>
        simp only [hb, cond_true] at hv ⊢
        split at hv
        · rename_i e; rw [loadC_less hl e]; exact hv
        · cases hv
    · cases hv
  case lenM x =>
    unfold lenMV at *
    split at hv
    · exact hv
    · rename_i b _
      rcases hl b with e | e
      · rw [e] at hv; cases hv
      · rw [← e]; exact hv
    · cases hv
  case glob g => exact hv
  case globI c g => exact hv
  case ixs c x y => exact hv
  case look agg ts z ok x k =>
    unfold lookV at *
    cases hk : keyOk agg ts (ev fr k) with
    | false => rw [hk] at hv; cases hv
    | true =>
      rw [hk] at hv
      simp only [cond_true] at hv ⊢
      split at hv
      · exact hv
      · rename_i b _
        rcases hl b with e | e
        · rw [e] at hv; cases hv
        · rw [← e]; exact hv
      · cases hv
  case ent x =>
    unfold entV at *
    split at hv
    · rename_i b o _
      cases ho : Nat.beq o 0 with
      | false => rw [ho] at hv; cases hv
      | true =>
        rw [ho] at hv
        simp only [cond_true] at hv ⊢
        rcases hl b with e | e
        · rw [e] at hv; cases hv
        · rw [← e]
          unfold entIt at *
          split at hv
          · rename_i mp since seen last _
            cases mp with
            | none => cases hv
            | some m =>
              cases seen with
              | nil => cases hv
              | cons s seen =>
                simp only at hv ⊢
                rcases hl m with e | e
                · rw [e] at hv; cases hv
                · rw [← e]; exact hv
          · cases hv
    · cases hv

end Go.Eng

namespace Go.Eng

/-- An operation of a region: its number, what comes before it (bits), what it is, what it waits for, and whether it is run at once in the model as well (if it changes memory, or writes a place that another reads before). -/
structure Ent where
  k : Nat
  m : Nat
  st : St
  af : List Nat
  hv : Bool

def has (m j : Nat) : Bool := Nat.beq (Nat.land (Nat.shiftRight m j) 1) 1

theorem has_eq (m j : Nat) : has m j = m.testBit j := by
  unfold has Nat.testBit
  show Nat.beq ((m >>> j) &&& 1) 1 = (1 &&& (m >>> j) != 0)
  rw [Nat.and_comm, Nat.one_and_eq_mod_two]
  have := Nat.mod_two_eq_zero_or_one (m >>> j)
  rcases this with h | h <;> rw [h] <;> rfl

theorem has_or (a b j : Nat) : has (Nat.lor a b) j = (has a j || has b j) := by
  simp only [has_eq]; exact Nat.testBit_or a b j

theorem has_pow (k j : Nat) : has (Nat.shiftLeft 1 k) j = decide (k = j) := by
  rw [has_eq]
  show (1 <<< k).testBit j = _
  rw [Nat.one_shiftLeft, Nat.testBit_two_pow]

theorem has_zero (j : Nat) : has 0 j = false := by rw [has_eq]; simp

theorem has_and {a b j : Nat} (h : Nat.land a b = a) (hj : has a j = true) : has b j = true := by
  rw [← h] at hj
  rw [has_eq] at hj ⊢
  have : (a &&& b).testBit j = true := hj
  rw [Nat.testBit_and] at this
  simp at this
  exact this.2

def edges (o : Oper) : List Nat := (o.after.toList.filter (Region.binds .any)).map (·.on)

def Opd.slot : Opd → Option Path
  | .t p => some p
  | .c _ => none

def St.slots (s : St) : List Path := s.op.opds.filterMap Opd.slot ++ (s.gd.map (·.1)).toList

def memP (p : Path) : List Path → Bool
  | [] => false
  | q :: l => cond (p.same q) true (memP p l)

theorem memP_iff {p : Path} : ∀ {l : List Path}, memP p l = true ↔ p ∈ l
  | [] => by simp [memP]
  | q :: l => by
    simp only [memP, List.mem_cons]
    cases h : p.same q with
    | true => simp [Path.same_iff.1 h]
    | false =>
      simp only [cond_false, memP_iff]
      constructor
      · exact .inr
      · rintro (rfl | h')
        · rw [Path.same_iff.2 rfl] at h; cases h
        · exact h'

def I.heavy : I → Bool
  | .hv _ => true
  | .bad => true
  | _ => false

def I.isAl : I → Bool
  | .al _ => true
  | _ => false

def maskIn : List Ent → Nat → Nat
  | [], _ => 0
  | e :: D, a => cond (Nat.beq e.k a) e.m (maskIn D a)

def orAll (D : List Ent) : List Nat → Nat
  | [] => 0
  | a :: l => Nat.lor (Nat.lor (Nat.shiftLeft 1 a) (maskIn D a)) (orAll D l)

theorem maskIn_spec : ∀ {D : List Ent} {a j : Nat}, has (maskIn D a) j = true → ∃ f ∈ D, f.k = a ∧ has f.m j = true
  | [], a, j, h => by simp [maskIn, has_zero] at h
  | e :: D, a, j, h => by
    simp only [maskIn] at h
    cases hb : Nat.beq e.k a with
    | true => rw [hb] at h; exact ⟨e, by simp, Nat.eq_of_beq_eq_true hb, h⟩
    | false =>
      rw [hb] at h
      obtain ⟨f, h1, h2⟩ := maskIn_spec h
      exact ⟨f, by simp [h1], h2⟩

theorem orAll_spec {D : List Ent} {j : Nat} : ∀ {l : List Nat}, has (orAll D l) j = true → ∃ a ∈ l, j = a ∨ ∃ f ∈ D, f.k = a ∧ has f.m j = true
  | [], h => by simp [orAll, has_zero] at h
  | a :: l, h => by
    simp only [orAll, has_or, has_pow, Bool.or_eq_true, decide_eq_true_eq] at h
    rcases h with (h | h) | h
    · exact ⟨a, by simp, .inl h.symm⟩
    · exact ⟨a, by simp, .inr (maskIn_spec h)⟩
    · obtain ⟨b, h1, h2⟩ := orAll_spec h
      exact ⟨b, by simp [h1], h2⟩

def allB {α : Type} (f : α → Bool) : List α → Bool
  | [] => true
  | x :: l => cond (f x) (allB f l) false

theorem allB_iff {α : Type} {f : α → Bool} : ∀ {l : List α}, allB f l = true ↔ ∀ x ∈ l, f x = true
  | [] => by simp [allB]
  | x :: l => by cases h : f x <;> simp [allB, h, allB_iff]

/-- The check of a schedule. -/
def okGo : List Ent → Nat → List Ent → Bool
  | _, _, [] => true
  | D, dm, e :: l => cond (has dm e.k) false (cond (allB (has dm) e.af) (cond (Nat.beq e.m (orAll D e.af)) (cond (Nat.beq (Nat.land e.m dm) e.m)
      (cond (cond (cond e.st.op.heavy e.hv true) (cond e.hv (cond e.st.op.isAl false (allB (fun f => has f.m e.k) l)) true) false) (okGo (e :: D) (Nat.lor dm (Nat.shiftLeft 1 e.k)) l) false) false) false) false)

def Good : List Ent → List Ent → Prop
  | _, [] => True
  | D, e :: l => (∀ f ∈ D, f.k ≠ e.k) ∧ (∀ a ∈ e.af, ∃ f ∈ D, f.k = a) ∧ (∀ j, has e.m j = true → ∃ f ∈ D, f.k = j) ∧
      (∀ j, has e.m j = true → ∃ a ∈ e.af, j = a ∨ ∃ f ∈ D, f.k = a ∧ has f.m j = true) ∧ ((e.st.op.heavy = true → e.hv = true) ∧ (e.hv = true → e.st.op.isAl = false)) ∧ (e.hv = true → ∀ f ∈ l, has f.m e.k = true) ∧ Good (e :: D) l

theorem cond_true_iff {a b : Bool} : cond a b false = true ↔ a = true ∧ b = true := by cases a <;> simp

theorem okGo_spec : ∀ {l D : List Ent} {dm : Nat}, (∀ j, has dm j = true ↔ ∃ f ∈ D, f.k = j) → okGo D dm l = true → Good D l
  | [], _, _, _, _ => trivial
  | e :: l, D, dm, hdm, h => by
    simp only [okGo] at h
    cases h0 : has dm e.k with
    | true => simp [h0] at h
    | false =>
      simp only [h0, cond_false, cond_true_iff] at h
      obtain ⟨h1, h2, h3, h4, h5⟩ := h
      have e2 := Nat.eq_of_beq_eq_true h2
      have e3 := Nat.eq_of_beq_eq_true h3
      refine ⟨fun f hf he => ?_, fun a ha => (hdm a).1 (allB_iff.1 h1 a ha), fun j hj => (hdm j).1 (has_and e3 hj), fun j hj => ?_, ⟨fun hh => ?_, fun hh => ?_⟩, fun hh => ?_, ?_⟩
      · have := (hdm e.k).2 ⟨f, hf, he⟩
        rw [h0] at this; cases this
      · rw [e2] at hj; exact orAll_spec hj
      · have := h4.1; rw [hh] at this; exact this
      · have := h4.2
        rw [hh] at this
        cases ha : e.st.op.isAl with
        | false => rfl
        | true => rw [ha] at this; cases this
      · have := h4.2
        rw [hh] at this
        cases ha : e.st.op.isAl with
        | false => rw [ha] at this; exact allB_iff.1 this
        | true => rw [ha] at this; cases this
      · refine okGo_spec (fun j => ?_) h5
        rw [has_or, has_pow, Bool.or_eq_true, decide_eq_true_eq, hdm]
        constructor
        · rintro (⟨f, h, h'⟩ | h)
          · exact ⟨f, by simp [h], h'⟩
          · exact ⟨e, by simp, h⟩
        · rintro ⟨f, h, h'⟩
          rcases List.mem_cons.1 h with rfl | h
          · exact .inr h'
          · exact .inl ⟨f, h, h'⟩

def pairOk (e f : Ent) : Bool :=
  match f.st.dst with
  | none => true
  | some d => cond (cond (memP d e.st.slots) (cond (has e.m f.k) true (cond f.hv (has f.m e.k) false)) true) (cond (Nat.beq e.k f.k) true (match e.st.dst with | some d' => !(d'.same d) | none => true)) false

def rangeB (f : Nat → Bool) : Nat → Bool
  | 0 => true
  | n + 1 => cond (f n) (rangeB f n) false

theorem rangeB_iff {f : Nat → Bool} : ∀ {n : Nat}, rangeB f n = true ↔ ∀ j, j < n → f j = true
  | 0 => by simp [rangeB]
  | n + 1 => by
    simp only [rangeB, cond_true_iff, rangeB_iff]
    constructor
    · rintro ⟨h1, h2⟩ j hj
      by_cases e : j = n
      · subst e; exact h1
      · exact h2 j (by omega)
    · intro h
      exact ⟨h n (by omega), fun j hj => h j (by omega)⟩

def keyIn (j : Nat) : List Ent → Bool
  | [] => false
  | e :: l => cond (Nat.beq e.k j) true (keyIn j l)

theorem keyIn_iff {j : Nat} : ∀ {l : List Ent}, keyIn j l = true ↔ ∃ e ∈ l, e.k = j
  | [] => by simp [keyIn]
  | e :: l => by
    simp only [keyIn]
    cases h : Nat.beq e.k j with
    | true => simp [Nat.eq_of_beq_eq_true h]
    | false =>
      have : e.k ≠ j := fun c => by subst c; simp at h
      simp [keyIn_iff, this]

def okS (n : Nat) (S : List Ent) : Bool :=
  cond (Nat.beq S.length n) (cond (rangeB (fun j => keyIn j S) n) (cond (allB (fun e => allB (pairOk e) S) S) (okGo [] 0 S) false) false) false

/-- Names of blocks that operations of a list make. -/
def alOf (e : Ent) : Option Path :=
  match e.st.op with
  | .al _ => e.st.dst
  | _ => none

def als (m : Nat) : List Ent → List Path
  | [] => []
  | f :: D => cond (has m f.k) (als m D) (match alOf f with | some d => d :: als m D | none => als m D)

def chks (m : Nat) (D0 : List Ent) : List Ent → List (St × List Path)
  | [] => []
  | f :: D => cond (has m f.k) (chks m D0 D) (match f.st.op with | .rd _ => (f.st, als f.m D0) :: chks m D0 D | _ => chks m D0 D)

def mkIt (D : List Ent) (e : Ent) : It := ⟨e.st, als e.m D, cond e.st.op.heavy (chks e.m D D) []⟩

def its (D : List Ent) : List Ent → List It
  | [] => []
  | e :: l => mkIt D e :: its (e :: D) l

section
variable (P : Program) (ng : Nat) (ops : Array Oper)

def stAt : List St → Nat → List Path
  | [], _ => []
  | s :: l, k => match k with
    | 0 => s.slots
    | k + 1 => stAt l k

def anyB {α : Type} (f : α → Bool) : List α → Bool
  | [] => false
  | x :: l => cond (f x) true (anyB f l)

/-- Does it write a place that another reads before? -/
def war (sl : List St) (d : Option Path) (af : List Nat) : Bool :=
  match d with
  | none => false
  | some d => anyB (fun k => memP d (stAt sl k)) af

def entOf (sl : List St) (p : Nat × Nat) : Option Ent := (ops[p.1]?).map fun o =>
  ⟨p.1, p.2, cSt P ng ops o, edges o, cond (cSt P ng ops o).op.heavy true (war sl (cSt P ng ops o).dst (edges o))⟩

def entsOf (sl : List St) : List (Nat × Nat) → Option (List Ent)
  | [] => some []
  | p :: l => (entOf P ng ops sl p).bind fun e => (entsOf sl l).map fun r => e :: r

/-! The schedule: what is light first. -/

def afm : List Nat → Nat
  | [] => 0
  | a :: l => Nat.lor (Nat.shiftLeft 1 a) (afm l)

/-- Takes the first of those that are ready. -/
def takeReady (hv : Bool) (dm : Nat) : List (Nat × Bool × Nat) → Option (Nat × List (Nat × Bool × Nat))
  | [] => none
  | (k, b, m) :: l => cond (cond (Nat.beq (Nat.land m dm) m) (cond hv true (!b)) false) (some (k, l))
      (match takeReady hv dm l with | some (j, l) => some (j, (k, b, m) :: l) | none => none)

def schedGo : Nat → Nat → List (Nat × Bool × Nat) → List Nat
  | 0, _, _ => []
  | n + 1, dm, l => match takeReady false dm l with
    | some (k, l) => k :: schedGo n (Nat.lor dm (Nat.shiftLeft 1 k)) l
    | none => match takeReady true dm l with
      | some (k, l) => k :: schedGo n (Nat.lor dm (Nat.shiftLeft 1 k)) l
      | none => []

def rowsOf (sl : List St) : Nat → List Oper → List (Nat × Bool × Nat)
  | _, [] => []
  | k, o :: l => (k, cond (cSt P ng ops o).op.heavy true (war sl (cSt P ng ops o).dst (edges o)), afm (edges o)) :: rowsOf sl (k + 1) l

def withM (afs : Nat → List Nat) : List (Nat × Nat) → List Nat → List (Nat × Nat)
  | D, [] => D.reverse
  | D, k :: l => withM afs ((k, (afs k).foldl (fun m a => Nat.lor m (Nat.lor (Nat.shiftLeft 1 a) (((D.find? fun p => Nat.beq p.1 a).map (·.2)).getD 0))) 0) :: D) l

def afAt : List Oper → Nat → List Nat
  | [], _ => []
  | o :: l, k => match k with
    | 0 => edges o
    | k + 1 => afAt l k

def planOf : Option (List It) :=
  match entsOf P ng ops (ops.toList.map (cSt P ng ops)) (withM (afAt ops.toList) [] (schedGo ops.size 0 (rowsOf P ng ops (ops.toList.map (cSt P ng ops)) 0 ops.toList))) with
  | some S => cond (okS ops.size S) (some (its [] S)) none
  | none => none

end

/-- What a checked plan gives. -/
structure Plan (P : Program) (ng : Nat) (ops : Array Oper) (S : List Ent) : Prop where
  ent : ∀ e ∈ S, ∃ o, ops[e.k]? = some o ∧ e.st = cSt P ng ops o ∧ e.af = edges o
  len : S.length = ops.size
  all : ∀ j, j < ops.size → ∃ e ∈ S, e.k = j
  slot : ∀ e ∈ S, ∀ f ∈ S, ∀ d, f.st.dst = some d → d ∈ e.st.slots → has e.m f.k = true ∨ (f.hv = true ∧ has f.m e.k = true)
  dst : ∀ e ∈ S, ∀ f ∈ S, e.k ≠ f.k → ∀ d, e.st.dst = some d → f.st.dst ≠ some d
  good : Good [] S

section
variable {P : Program} {ng : Nat} {ops : Array Oper}

theorem entsOf_spec {sl : List St} : ∀ {l : List (Nat × Nat)} {S : List Ent}, entsOf P ng ops sl l = some S → ∀ e ∈ S, ∃ o, ops[e.k]? = some o ∧ e.st = cSt P ng ops o ∧ e.af = edges o
  | [], S, h, e, he => by simp [entsOf] at h; subst h; cases he
  | p :: l, S, h, e, he => by
    simp only [entsOf, Option.bind_eq_some_iff, Option.map_eq_some_iff, entOf] at h
    obtain ⟨e', ⟨o, ho, rfl⟩, S', hS, rfl⟩ := h
    rcases List.mem_cons.1 he with rfl | he
    · exact ⟨o, ho, rfl, rfl⟩
    · exact entsOf_spec hS e he

theorem planOf_spec {l : List It} (h : planOf P ng ops = some l) : ∃ S, Plan P ng ops S ∧ l = its [] S := by
  unfold planOf at h
  split at h
  · rename_i S hS
    cases hk : okS ops.size S with
    | false => simp [hk] at h
    | true =>
      simp only [hk, cond_true, Option.some.injEq] at h
      unfold okS at hk
      simp only [cond_true_iff] at hk
      obtain ⟨h1, h2, h3, h4⟩ := hk
      have hp : ∀ e ∈ S, ∀ f ∈ S, pairOk e f = true := fun e he f hf => allB_iff.1 (allB_iff.1 h3 e he) f hf
      refine ⟨S, ⟨entsOf_spec hS, Nat.eq_of_beq_eq_true h1, fun j hj => keyIn_iff.1 (rangeB_iff.1 h2 j hj), fun e he f hf d hd hs => ?_, fun e he f hf hne d hd hd' => ?_,
        okGo_spec (fun j => by simp [has_zero]) h4⟩, h.symm⟩
      · have := hp e he f hf
        simp only [pairOk, hd, cond_true_iff] at this
        rw [memP_iff.2 hs] at this
        have := this.1
        cases h5 : has e.m f.k with
        | true => exact .inl rfl
        | false => rw [h5] at this; exact .inr (cond_true_iff.1 this)
      · have := hp e he f hf
        simp only [pairOk, hd', cond_true_iff] at this
        have h0 : Nat.beq e.k f.k = false := by
          cases hb : Nat.beq e.k f.k
          · rfl
          · exact absurd (Nat.eq_of_beq_eq_true hb) hne
        rw [h0, hd] at this
        have h5 : d.same d = true := Path.same_iff.2 rfl
        simp [h5] at this
  · cases h

end
end Go.Eng

