/- The engine, part Ua: walks over maps that may go several ways. -/
import Derived.Test.YtjngjfgbholgpaaEngU
set_option linter.unusedSimpArgs false
set_option linter.unusedVariables false
namespace Go.Eng
section
variable {P : Program} {ng : Nat} {tab : Tr (Option F)} {plan : Array Oper → Option (List It)} {n : Nat}

def PostL [Env] (ρ : Ren) (h : H) (w : World) (a : Act) (outs : List Out) : Exit → Act → World → Prop := fun e a' w' => ∃ o ∈ outs, Post ρ h w a o.1 o.2.1 o.2.2 e a' w'

theorem PostL.later [Env] {ρ ρ1 : Ren} {h h1 : H} {w w1 : World} {a a1 : Act} {l k : List Out} {e : Exit} {a' : Act} {w' : World}
    (hp : PostL ρ1 h1 w1 a1 l e a' w') (hx : Ext ρ h w ρ1 h1 w1) (hd : a1.defers = a.defers) (hs : ∀ o ∈ l, o ∈ k) : PostL ρ h w a k e a' w' := by
  obtain ⟨o, ho, hp⟩ := hp
  exact ⟨o, hs o ho, hp.later hx hd⟩

/-- One operation of a region that may end in several ways. -/
def StepL [Env] (P : Program) (ng : Nat) (o : Oper) (fr : Tr V) (h : H) (l : List (V × H)) : Prop :=
  ∀ ρ a w, Glob ng ρ → FrRel ρ fr a.tmps → HRel ρ h w → ∀ (next : Act → World → Prop) (Q : Exit → Act → World → Prop),
    (∀ p ∈ l, ∀ ρ' x w', conc ρ' p.1 = some x → HRel ρ' p.2 w' → Ext ρ h w ρ' p.2 w' → next (a.put o.dst x) w') → o.wp P a w next Q

theorem StepOk.toL [Env] {o : Oper} {fr : Tr V} {h h' : H} {v : V} (hs : StepOk P ng o fr h v h') : StepL P ng o fr h [(v, h')] :=
  fun ρ a w hg hf hr next Q hn => hs ρ a w hg hf hr next Q fun ρ' x w' => hn (v, h') (List.mem_singleton.2 rfl) ρ' x w'

theorem bindO_spec {α : Type} {f : α → Option (List Out)} : ∀ {l : List α} {outs : List Out}, bindO f l = some outs → ∀ p ∈ l, ∃ r, f p = some r ∧ ∀ o ∈ r, o ∈ outs
  | [], _, _, p, hp => by simp at hp
  | q :: l, outs, h, p, hp => by
    simp only [bindO] at h
    cases hq : f q with
    | none => simp [hq] at h
    | some a =>
      cases hb : bindO f l with
      | none => simp [hq, hb] at h
      | some b =>
        simp only [hq, hb, Option.some.injEq] at h
        subst h
        rcases List.mem_cons.1 hp with rfl | hp
        · exact ⟨a, hq, fun o ho => List.mem_append_left _ ho⟩
        · obtain ⟨r, h1, h2⟩ := bindO_spec hb p hp
          exact ⟨r, h1, fun o ho => List.mem_append_right _ (h2 o ho)⟩

theorem ops_consL [Env] {ops : Array Oper} {i : Nat} {l : List Nat} {o : Oper} (hi : ops[i]? = some o)
    {fr : Tr V} {h : H} {outsV : List (V × H)} {outs : List Out} (hbad : (cSt P ng ops o).op ≠ .bad) (hw : wantd fr (cSt P ng ops o).gd = true) (hs : StepL P ng o fr h outsV)
    (hrest : ∀ p ∈ outsV, ∃ r, (∀ q ∈ r, q ∈ outs) ∧ ∀ ρ a w, Glob ng ρ → FrRel ρ (putD fr (o.dst.map Path.of) p.1) a.tmps → HRel ρ p.2 w → wpOps P ops (PostL ρ p.2 w a r) l a w) :
    ∀ ρ a w, Glob ng ρ → FrRel ρ fr a.tmps → HRel ρ h w → wpOps P ops (PostL ρ h w a outs) (i :: l) a w := by
  intro ρ a w hg hf hr
  obtain ⟨hgd, _⟩ := cSt_guard hbad
  simp only [wpOps, hi]
  rw [wantd_spec hf hgd, hw]
  simp only [if_true]
  left
  refine hs ρ a w hg hf hr _ _ fun p hp ρ' x1 w' hx hr' he => ?_
  obtain ⟨r, hsub, hrun⟩ := hrest p hp
  exact wpOps_mono (fun e a2 w2 hq => hq.later he put_defers hsub) l _ _ (hrun ρ' _ w' (hg.later he.later) (put_spec (hf.later he.later) hx) hr')

theorem cH0_mp {o : Oper} {i : MI} : cH0 P ng o ≠ some (.mp i) := by
  intro h
  unfold cH0 at h
  split at h
  · simp [Option.bind_eq_some_iff] at h
  · split at h
    · simp at h
    · simp [Option.bind_eq_some_iff] at h
    · split at h
      · unfold cApp at h
        split at h
        · simp only [Option.bind_eq_some_iff] at h
          obtain ⟨_, _, _, _, _, _, h⟩ := h
          split at h
          · simp [Option.bind_eq_some_iff] at h
          · cases h
        · cases h
      · cases h
    · split at h
      · unfold cCopy at h
        split at h
        · simp [Option.bind_eq_some_iff] at h
        · cases h
      · cases h
    · split at h
      · unfold cClear at h
        split at h
        · simp [Option.bind_eq_some_iff] at h
        · cases h
      · cases h
    · cases h
  · cases h

theorem cH_mp {o : Oper} {i : MI} (h : cH P ng o = some (.mp i)) : cM P ng o = some i := by
  unfold cH at h
  split at h
  · rename_i j hj; cases h; exact hj
  · split at h
    · rename_i j hj
      cases h
      unfold cInv at hj
      split at hj
      · simp [Option.bind_eq_some_iff] at hj
      · cases hj
    · exact absurd h cH0_mp

theorem cM_nxt {o : Oper} {x : Opd} (h : cM P ng o = some (.nxt x)) : ∃ x', o.op = .next x' false ∧ cO ng x' = some x := by
  unfold cM at h
  split at h
  case h_7 x' hop =>
    simp only [Option.map_eq_some_iff] at h
    obtain ⟨y, hy, e⟩ := h
    cases e
    exact ⟨x', hop, hy⟩
  case h_1 => split at h <;> cases h
  case h_6 => split at h <;> simp at h
  case h_8 => split at h <;> simp [Option.bind_eq_some_iff] at h
  case h_9 =>
    split at h
    · split at h <;> simp at h
    · cases h
  case h_10 => cases h
  all_goals (simp [Option.bind_eq_some_iff] at h; done)

theorem ndOp_sound [Env] (S : Sound P ng plan tab n) {ops : Array Oper} {o : Oper} (hbad : (cSt P ng ops o).op ≠ .bad) {fr : Tr V} {h : H} {l : List (V × H)} (hv : ndOp (run tab n) fr h (cSt P ng ops o).op = some l) : StepL P ng o fr h l := by
  obtain ⟨_, hop⟩ := cSt_guard hbad
  rcases cI_cases hop.symm hbad with ⟨j, hj, hc⟩ | ⟨j, hj, hc⟩ | ⟨j, hj, hc⟩ | ⟨j, hj, hc⟩ <;> rw [hj] at hv <;> simp only [ndOp] at hv
  · simp only [Option.map_eq_some_iff] at hv
    obtain ⟨v, hv, rfl⟩ := hv
    exact (step_pu hc hv).toL
  · simp only [Option.map_eq_some_iff] at hv
    obtain ⟨v, hv, rfl⟩ := hv
    exact (step_rd hc hv).toL
  · simp only [Option.map_eq_some_iff] at hv
    obtain ⟨⟨ob, k⟩, hv, rfl⟩ := hv
    exact (step_al hc hv).toL
  · have gen : ndHR (run tab n) h (hvI fr h j) = some l → StepL P ng o fr h l := by
      intro hv
      cases hq : hvI fr h j with
      | fail => rw [hq] at hv; simp [ndHR] at hv
      | v u k =>
        rw [hq] at hv
        simp only [ndHR, Option.some.injEq] at hv
        subst hv
        exact (step_hv hc hq).toL
      | call f args =>
        rw [hq] at hv
        simp only [ndHR] at hv
        split at hv
        · rename_i x q k hr
          cases hv
          exact (step_call hc hq (S.call _ _ _ _ _ _ _ hr)).toL
        · cases hv
    unfold ndHv at hv
    split at hv
    · rename_i x
      obtain ⟨x', hopn, hx'⟩ := cM_nxt (cH_mp hc)
      intro ρ a w hg hf hr next Q hn
      obtain ⟨p, hp, y, w', hrun, hy, g1, g2⟩ := ndNxt_spec (P := P) (ty := o.type) hr hv (ev_spec hg hf hx')
      have hrun' : (execOp a.eval o).run P w = .ok (.value y) w' := by simp [execOp, hopn, hrun]
      simp only [Oper.wp, hrun', Oper.upon]
      exact hn p hp ρ y w' hy g1 g2
    · exact gen hv

theorem nd_ops [Env] (S : Sound P ng plan tab n) (ops : Array Oper) : ∀ (l : List Nat) (os : List Oper), (l.map fun i => ops[i]?) = os.map some → ∀ (fr : Tr V) (h : H) (outs : List Out), ndOps (run tab n) (os.map (cSt P ng ops)) fr h = some outs →
    ∀ ρ a w, Glob ng ρ → FrRel ρ fr a.tmps → HRel ρ h w → wpOps P ops (PostL ρ h w a outs) l a w
  | [], [], _, fr, h, outs, hrun => by
    simp only [List.map_nil, ndOps, Option.some.injEq] at hrun
    subst hrun
    intro ρ a w hg hf hr
    exact ⟨_, List.mem_singleton.2 rfl, rfl, rfl, ρ, hf, hr, .refl _ _ _⟩
  | [], _ :: _, hl, _, _, _, _ => by simp at hl
  | _ :: _, [], hl, _, _, _, _ => by simp at hl
  | i :: l, o :: os, hl, fr, h, outs, hrun => by
    simp only [List.map_cons, List.cons.injEq] at hl
    obtain ⟨hi, hl⟩ := hl
    simp only [List.map_cons, ndOps] at hrun
    cases hw : wantd fr (cSt P ng ops o).gd with
    | false =>
      simp only [hw] at hrun
      have hgd := cSt_unwanted hw
      intro ρ a w hg hf hr
      simp only [wpOps, hi]
      rw [wantd_spec hf hgd, hw]
      simp only [Bool.false_eq_true, if_false]
      have hput : FrRel ρ (putD fr (cSt P ng ops o).dst undefV) (a.put o.dst undef).tmps := by rw [cSt_dst]; exact put_spec hf rfl
      exact wpOps_mono (fun e a2 w2 hp => hp.later (.refl _ _ _) put_defers (fun _ h => h)) l _ _ (nd_ops S ops l os hl _ _ _ hrun ρ _ w hg hput hr)
    | true =>
      simp only [hw] at hrun
      by_cases hbad : (cSt P ng ops o).op = .bad
      · rw [hbad] at hrun
        simp [ndOp] at hrun
      · cases hv : ndOp (run tab n) fr h (cSt P ng ops o).op with
        | none => simp [hv] at hrun
        | some lv =>
          simp only [hv] at hrun
          refine ops_consL hi hbad hw (ndOp_sound S hbad hv) fun p hp => ?_
          obtain ⟨r, h1, h2⟩ := bindO_spec hrun p hp
          refine ⟨r, h2, ?_⟩
          rw [cSt_dst] at h1
          exact nd_ops S ops l os hl _ _ _ h1

theorem ndSeq_spec {k : Tr V → H → Option (List Out)} {a : Option (List Out)} {outs : List Out} (h : ndSeq k a = some outs) : ∃ l, a = some l ∧ ∀ o ∈ l, ∃ r, ndThen k o = some r ∧ ∀ q ∈ r, q ∈ outs := by
  cases a with
  | none => cases h
  | some l => exact ⟨l, rfl, fun o ho => bindO_spec h o ho⟩

theorem nd_code [Env] (S : Sound P ng plan tab n) (c : Code) : ∀ (fr : Tr V) (h : H) (outs : List Out), ndC (run tab n) (cC P ng plan c) fr h = some outs →
    ∀ ρ a w, Glob ng ρ → FrRel ρ fr a.tmps → HRel ρ h w → c.wp P (PostL ρ h w a outs) a w := by
  induction c with
  | scope c ihc =>
    intro fr h outs hrun ρ a w hg hf hr
    refine wp_scope_straight ?_
    refine wp_mono (ihc fr h outs (by simpa [cC] using hrun) ρ a w hg hf hr) fun e a' w' hp => ?_
    obtain ⟨⟨x, k⟩, ho, he, h2⟩ := hp
    subst he
    cases x <;> exact ⟨_, ho, rfl, h2⟩
  | skip =>
    intro fr h outs hrun ρ a w hg hf hr
    simp only [cC, ndC, Option.some.injEq] at hrun
    subst hrun
    exact wp_skip ⟨_, List.mem_singleton.2 rfl, rfl, rfl, ρ, hf, hr, .refl _ _ _⟩
  | label l =>
    intro fr h outs hrun ρ a w hg hf hr
    simp only [cC, ndC, Option.some.injEq] at hrun
    subst hrun
    exact wp_label ⟨_, List.mem_singleton.2 rfl, rfl, rfl, ρ, hf, hr, .refl _ _ _⟩
  | region id ops draw =>
    intro fr h outs hrun
    cases draw with
    | false =>
      simp only [cC, Bool.false_eq_true, if_false, ndC] at hrun
      exact fun ρ a w hg hf hr => wp_region (nd_ops S ops _ _ (range_map ops) _ _ _ hrun ρ a w hg hf hr)
    | true =>
      simp only [cC, if_true] at hrun
      cases hp : plan ops with
      | none => simp only [hp, ndC] at hrun; cases hrun
      | some l =>
        simp only [hp, ndC] at hrun
        unfold outO at hrun
        split at hrun
        · rename_i x fr1 h1 hq
          cases hrun
          exact fun ρ a w hg hf hr => wp_mono (S.dops id ops l hp _ _ _ _ _ hq ρ a w hg hf hr) fun e a' w' hpp => ⟨_, List.mem_singleton.2 rfl, hpp⟩
        · cases hrun
  | seq c d ihc ihd =>
    intro fr h outs hrun ρ a w hg hf hr
    simp only [cC, ndC] at hrun
    obtain ⟨l, hl, hall⟩ := ndSeq_spec hrun
    refine wp_seq (wp_mono (ihc fr h l hl ρ a w hg hf hr) fun e a1 w1 hp => ?_)
    obtain ⟨⟨x, fr1, h1⟩, ho, rfl, hd, ρ1, hf1, hr1, he1⟩ := hp
    obtain ⟨r, hr', hsub⟩ := hall _ ho
    cases x with
    | nx => exact wp_mono (ihd fr1 h1 r hr' ρ1 a1 w1 (hg.later he1.later) hf1 hr1) fun e a2 w2 hp => hp.later he1 hd hsub
    | rt =>
      simp only [ndThen, Option.some.injEq] at hr'
      subst hr'
      exact ⟨_, hsub _ (List.mem_singleton.2 rfl), rfl, hd, ρ1, hf1, hr1, he1⟩
    | ex id =>
      simp only [ndThen, Option.some.injEq] at hr'
      subst hr'
      exact ⟨_, hsub _ (List.mem_singleton.2 rfl), rfl, hd, ρ1, hf1, hr1, he1⟩
  | cond o c d ihc ihd =>
    intro fr h outs hrun ρ a w hg hf hr
    simp only [cC] at hrun
    cases ho : cO ng o with
    | none => simp only [ho, ndC] at hrun; cases hrun
    | some o' =>
      simp only [ho, ndC] at hrun
      have ex := ev_spec hg hf ho
      split at hrun
      · rename_i hb
        rw [hb] at ex; simp [conc] at ex
        exact wp_cond (t := true) ex.symm (ihc _ _ _ hrun ρ a w hg hf hr)
      · rename_i hb
        rw [hb] at ex; simp [conc] at ex
        exact wp_cond (t := false) ex.symm (ihd _ _ _ hrun ρ a w hg hf hr)
      · cases hrun
  | block id c ihc =>
    intro fr h outs hrun ρ a w hg hf hr
    simp only [cC, ndC, Option.map_eq_some_iff] at hrun
    obtain ⟨l, hl, rfl⟩ := hrun
    refine wp_block (wp_mono (ihc _ _ _ hl ρ a w hg hf hr) fun e a1 w1 hp => ?_)
    obtain ⟨⟨x, fr1, h1⟩, ho, rfl, hrest⟩ := hp
    cases x with
    | nx => exact ⟨_, List.mem_map.2 ⟨_, ho, rfl⟩, rfl, hrest⟩
    | rt => exact ⟨_, List.mem_map.2 ⟨_, ho, rfl⟩, rfl, hrest⟩
    | ex j =>
      cases hj : Nat.beq j id with
      | true =>
        have hj' := Nat.eq_of_beq_eq_true hj
        simp only [X.exit, Exit.inBlock, hj', if_true]
        refine ⟨(.nx, fr1, h1), List.mem_map.2 ⟨_, ho, ?_⟩, rfl, hrest⟩
        simp only [blkO, hj, cond_true]
      | false =>
        have hj' : j ≠ id := by intro e; subst e; simp at hj
        simp only [X.exit, Exit.inBlock, hj', if_false]
        refine ⟨(.ex j, fr1, h1), List.mem_map.2 ⟨_, ho, ?_⟩, rfl, hrest⟩
        simp only [blkO, hj, cond_false]
  | loop c ihc =>
    intro fr h outs hrun ρ a w hg hf hr
    simp only [cC, ndC] at hrun
    have key : ∀ (N : Nat) (fr : Tr V) (h : H) (outs : List Out), ndLoop (ndC (run tab n) (cC P ng plan c)) N fr h = some outs → ∀ ρ a w, Glob ng ρ → FrRel ρ fr a.tmps → HRel ρ h w → Code.rounds P c (PostL ρ h w a outs) N a w := by
      intro N
      induction N with
      | zero => intro fr h outs hrun; cases hrun
      | succ N ihN =>
        intro fr h outs hrun ρ a w hg hf hr
        simp only [ndLoop] at hrun
        obtain ⟨l, hl, hall⟩ := ndSeq_spec hrun
        rw [rounds_succ]
        refine wp_mono (ihc fr h l hl ρ a w hg hf hr) fun e a1 w1 hp => ?_
        obtain ⟨⟨x, fr1, h1⟩, ho, rfl, hd, ρ1, hf1, hr1, he1⟩ := hp
        obtain ⟨r, hr', hsub⟩ := hall _ ho
        cases x with
        | nx => exact rounds_mono (fun e a2 w2 hp => hp.later he1 hd hsub) N _ _ (ihN fr1 h1 r hr' ρ1 a1 w1 (hg.later he1.later) hf1 hr1)
        | rt =>
          simp only [ndThen, Option.some.injEq] at hr'
          subst hr'
          exact ⟨_, hsub _ (List.mem_singleton.2 rfl), rfl, hd, ρ1, hf1, hr1, he1⟩
        | ex id =>
          simp only [ndThen, Option.some.injEq] at hr'
          subst hr'
          exact ⟨_, hsub _ (List.mem_singleton.2 rfl), rfl, hd, ρ1, hf1, hr1, he1⟩
    exact wp_loop_rounds 1000 (key 1000 fr h outs hrun ρ a w hg hf hr)
  | rangeFunc f ps b c _ _ => intro fr h outs hrun; simp only [cC, ndC] at hrun; cases hrun
  | exit id =>
    intro fr h outs hrun ρ a w hg hf hr
    simp only [cC, ndC, Option.some.injEq] at hrun
    subst hrun
    exact wp_exit ⟨_, List.mem_singleton.2 rfl, rfl, rfl, ρ, hf, hr, .refl _ _ _⟩
  | goto l => intro fr h outs hrun; simp only [cC, ndC] at hrun; cases hrun
  | ret =>
    intro fr h outs hrun ρ a w hg hf hr
    simp only [cC, ndC, Option.some.injEq] at hrun
    subst hrun
    exact wp_ret ⟨_, List.mem_singleton.2 rfl, rfl, rfl, ρ, hf, hr, .refl _ _ _⟩
  | refuse s => intro fr h outs hrun; simp only [cC, ndC] at hrun; cases hrun

/-! ### Several ends become one -/

def Less (h h' : H) : Prop := ∀ b, h.get b = .dead ∨ h.get b = h'.get b

theorem HRel.sub [Env] {ρ : Ren} {g g' : H} {w : World} (hr : HRel ρ g w) (hl : Less g' g) (hn : g.n.num ≤ g'.n.num) : HRel ρ g' w := by
  have lv : ∀ b, (g'.get b).live = true → g'.get b = g.get b ∧ (g.get b).live = true := by
    intro b hb
    rcases hl b with e | e
    · rw [e] at hb; cases hb
    · exact ⟨e, by rw [← e]; exact hb⟩
  refine ⟨fun p x hp => Nat.lt_of_lt_of_le (hr.dom p x hp) hn, hr.inside, fun p hp => ?_, fun p q x y hp hq => hr.inj p q x y (lv p hp).2 (lv q hq).2, fun k v hv => ⟨(hr.keep k v hv).1, fun p y hp h1 => (hr.keep k v hv).2 p y (lv p hp).2 h1⟩⟩
  rw [(lv p hp).1]
  exact hr.ob p (lv p hp).2

theorem Ext.sub {ρ ρ' : Ren} {h g g' : H} {w w' : World} (hx : Ext ρ h w ρ' g w') (hl : Less g' g) (hn : g'.n = g.n) : Ext ρ h w ρ' g' w' := by
  obtain ⟨a, b, c, d, f, m, k⟩ := hx
  refine ⟨a, b, c, fun p x hp => d p x ?_, f, by rw [hn]; exact m, k⟩
  rcases hl p with e | e
  · rw [e] at hp; cases hp
  · rw [← e]; exact hp

theorem sameEs_eq : ∀ {l k : List (V × V × Nat)}, sameEs l k = true → l = k
  | [], [], _ => rfl
  | [], _ :: _, h => by simp [sameEs] at h
  | (_, _, _) :: _, [], h => by simp [sameEs] at h
  | (a, b, n) :: l, (c, d, m) :: k, h => by
    simp only [sameEs] at h
    obtain ⟨h1, h⟩ := cond_and h
    obtain ⟨h2, h⟩ := cond_and h
    obtain ⟨h3, h⟩ := cond_and h
    rw [sameV_eq h1, sameV_eq h2, Nat.eq_of_beq_eq_true h3, sameEs_eq h]

theorem sameOb_eq {a b : Ob} (h : sameOb a b = true) : a = b := by
  cases a <;> simp only [sameOb] at h <;> try (cases h; done)
  · cases b <;> simp only [] at h <;> try (cases h; done)
    obtain ⟨h1, h⟩ := cond_and h
    obtain ⟨h2, h⟩ := cond_and h
    rw [beq_iff_eq.1 h1, Nat.eq_of_beq_eq_true h2, sameVs_eq h]
  · cases b <;> simp only [] at h <;> try (cases h; done)
    obtain ⟨h1, h⟩ := cond_and h
    rw [Nat.eq_of_beq_eq_true h1, sameEs_eq h]

theorem mergeT_get : ∀ (a b : Tr Ob) (p : Path), (mergeT a b).get .dead p = .dead ∨ ((mergeT a b).get .dead p = a.get .dead p ∧ (mergeT a b).get .dead p = b.get .dead p)
  | .nil, _, p => .inl rfl
  | .nd _ _ _, .nil, p => .inl rfl
  | .nd l v r, .nd l' v' r', .e => by
    show (cond (sameOb v v') v .dead) = _ ∨ _
    cases hs : sameOb v v' with
    | false => exact .inl rfl
    | true =>
      have := sameOb_eq hs
      subst this
      right
      constructor <;> (show cond (sameOb v v) v Ob.dead = v; rw [hs]; rfl)
  | .nd l v r, .nd l' v' r', .l p => mergeT_get l l' p
  | .nd l v r, .nd l' v' r', .r p => mergeT_get r r' p

theorem joinL_spec {vs : List V} : ∀ {l : List (List V × H)} {h h' : H}, joinL vs h l = some h' → h'.n = h.n ∧ Less h' h ∧ ∀ q ∈ l, q.1 = vs ∧ q.2.n = h'.n ∧ Less h' q.2
  | [], h, h', e => by cases e; exact ⟨rfl, fun _ => .inr rfl, fun _ hq => by simp at hq⟩
  | (us, k) :: l, h, h', e => by
    simp only [joinL] at e
    obtain ⟨h1, e⟩ : sameVs us vs = true ∧ _ := by
      cases hs : sameVs us vs with
      | false => rw [hs] at e; cases e
      | true => rw [hs] at e; exact ⟨rfl, e⟩
    simp only [cond_true] at e
    obtain ⟨h2, e⟩ : k.n.same h.n = true ∧ _ := by
      cases hs : k.n.same h.n with
      | false => rw [hs] at e; cases e
      | true => rw [hs] at e; exact ⟨rfl, e⟩
    simp only [cond_true] at e
    obtain ⟨g1, g2, g3⟩ := joinL_spec e
    have hn := Path.same_iff.1 h2
    refine ⟨g1, fun b => ?_, fun q hq => ?_⟩
    · rcases g2 b with e1 | e1
      · exact .inl e1
      · rcases mergeT_get h.t k.t b with e2 | ⟨e2, _⟩
        · left; rw [e1]; exact e2
        · right; rw [e1]; exact e2
    · rcases List.mem_cons.1 hq with rfl | hq
      · refine ⟨sameVs_eq h1, by rw [g1]; exact hn, fun b => ?_⟩
        rcases g2 b with e1 | e1
        · exact .inl e1
        · rcases mergeT_get h.t k.t b with e2 | ⟨_, e2⟩
          · left; rw [e1]; exact e2
          · right; rw [e1]; exact e2
      · exact g3 q hq

theorem endsL_spec {res : List RV} : ∀ {outs : List Out} {l : List (List V × H)}, endsL res outs = some l → ∀ o ∈ outs, ∃ q ∈ l, endsO res o = some q
  | [], _, _, o, ho => by simp at ho
  | p :: outs, l, h, o, ho => by
    simp only [endsL] at h
    cases hp : endsO res p with
    | none => simp [hp] at h
    | some a =>
      cases hr : endsL res outs with
      | none => simp [hp, hr] at h
      | some r =>
        simp only [hp, hr, Option.some.injEq] at h
        subst h
        rcases List.mem_cons.1 ho with rfl | ho
        · exact ⟨a, List.mem_cons_self, hp⟩
        · obtain ⟨q, hq, e⟩ := endsL_spec hr o ho
          exact ⟨q, List.mem_cons_of_mem _ hq, e⟩

theorem joinO_spec {res : List RV} {outs : Option (List Out)} {x : X} {q : Tr V} {h' : H} (h : joinO res outs = .one x q h') :
    ∃ l vs, outs = some l ∧ q.get undefV .e = oneV vs ∧ ∀ o ∈ l, (∀ id, o.1 ≠ .ex id) ∧ resVs o.2.1 o.2.2 res = some vs ∧ o.2.2.n = h'.n ∧ Less h' o.2.2 := by
  unfold joinO at h
  split at h
  · rename_i outs
    split at h
    · rename_i vs h0 l hl
      split at h
      · rename_i h1 hj
        simp only [Rs.one.injEq] at h
        obtain ⟨_, rfl, rfl⟩ := h
        obtain ⟨g1, g2, g3⟩ := joinL_spec hj
        refine ⟨outs, vs, rfl, rfl, fun o ho => ?_⟩
        obtain ⟨q, hq, e⟩ := endsL_spec hl o ho
        have hq' : q.1 = vs ∧ q.2.n = h1.n ∧ Less h1 q.2 := by
          rcases List.mem_cons.1 hq with rfl | hq
          · exact ⟨rfl, g1.symm, g2⟩
          · exact g3 q hq
        obtain ⟨x, fr, k⟩ := o
        unfold endsO at e
        cases x with
        | ex id => cases e
        | nx =>
          simp only at e
          split at e
          · rename_i us hus
            cases e
            obtain ⟨rfl, e2, e3⟩ := hq'
            exact ⟨fun _ h => (by cases h), hus, e2, e3⟩
          · cases e
        | rt =>
          simp only at e
          split at e
          · rename_i us hus
            cases e
            obtain ⟨rfl, e2, e3⟩ := hq'
            exact ⟨fun _ h => (by cases h), hus, e2, e3⟩
          · cases e
      · cases h
    · cases h
  · cases h

end
end Go.Eng
