/- The engine, part S: compilation of code, soundness of regions in their order, of code, of calls (regions whose order is open: a hypothesis here). -/
import Derived.Test.YtjngjfgbholgpaaEngR
import Derived.LoopN
set_option linter.unusedSimpArgs false
set_option linter.unusedVariables false
namespace Go.Eng

def cI (P : Program) (ng : Nat) (o : Oper) : I :=
  match cP P ng o with
  | some i => .pu i
  | none => match cR P ng o with
    | some i => .rd i
    | none => match cA P ng o with
      | some i => .al i
      | none => match cH P ng o with
        | some i => .hv i
        | none => .bad

def cSt (P : Program) (ng : Nat) (ops : Array Oper) (o : Oper) : St :=
  match o.guard with
  | none => ⟨o.dst.map Path.of, cI P ng o, none⟩
  | some (j, b) => match (ops[j]?).bind (·.dst) with
    | some d => ⟨o.dst.map Path.of, cI P ng o, some (Path.of d, b)⟩
    | none => ⟨o.dst.map Path.of, .bad, none⟩

section
variable (P : Program) (ng : Nat) (plan : Array Oper → Option (List It))

def cC : Code → C
  | .skip => .skip
  | .label _ => .skip
  | .region _ ops draw => if draw then (match plan ops with | some l => .dreg l | none => .bad) else .reg (ops.toList.map (cSt P ng ops))
  | .seq a b => .seq (cC a) (cC b)
  | .cond c a b => match cO ng c with
    | some c => .cond c (cC a) (cC b)
    | none => .bad
  | .block id c => .block id (cC c)
  | .loop c => .loop (cC c)
  | .exit id => .exit id
  | .scope c => cC c
  | .ret => .ret
  | _ => .bad

def cRes : List ResultVar → Option (List RV)
  | [] => some []
  | .tmp t :: l => (cRes l).map fun r => .t (Path.of t) :: r
  | .cell a t :: l => (aggO P t).bind fun g => (szO P t).bind fun n => (cRes l).map fun r => .c (Path.of a) g n :: r

/-- Does a piece of code step over a map? -/
def hasNext : Code → Bool
  | .region _ ops _ => ops.toList.any fun o => match o.op with | .next _ false => true | _ => false
  | .seq a b => hasNext a || hasNext b
  | .cond _ a b => hasNext a || hasNext b
  | .block _ c => hasNext c
  | .loop c => hasNext c
  | .scope c => hasNext c
  | _ => false

def cF (fn : Func) : Option F :=
  match fn.body with
  | some c => if fn.name == "runtime.NumGoroutine" then none else (cRes P fn.results.toList).map fun r => ⟨fn.ntmps, hasNext c, r, cC P ng plan c, none⟩
  | none => none
end

def X.exit : X → Exit
  | .nx => .normal
  | .rt => .ret
  | .ex id => .exit id

/-- What holds behind a piece of code. -/
def Post [Env] (ρ : Ren) (h : H) (w : World) (a : Act) (x : X) (fr' : Tr V) (h' : H) : Exit → Act → World → Prop := fun e a' w' =>
  e = x.exit ∧ a'.defers = a.defers ∧ ∃ ρ', FrRel ρ' fr' a'.tmps ∧ HRel ρ' h' w' ∧ Ext ρ h w ρ' h' w'

theorem Post.later [Env] {ρ ρ1 : Ren} {h h1 : H} {w w1 : World} {a a1 : Act} {x : X} {fr' : Tr V} {h' : H} {e : Exit} {a' : Act} {w' : World}
    (hp : Post ρ1 h1 w1 a1 x fr' h' e a' w') (hx : Ext ρ h w ρ1 h1 w1) (hd : a1.defers = a.defers) : Post ρ h w a x fr' h' e a' w' := by
  obtain ⟨h1, h2, ρ', h3, h4, h5⟩ := hp
  exact ⟨h1, h2.trans hd, ρ', h3, h4, hx.trans h5⟩

section
variable {P : Program} {ng : Nat} {ops : Array Oper} {ρ : Ren} {fr : Tr V} {a : Act} {h : H} {w : World}

theorem put_spec [Env] {o : Oper} {v : V} {x : Value} (hf : FrRel ρ fr a.tmps) (hv : conc ρ v = some x) : FrRel ρ (putD fr (o.dst.map Path.of) v) (a.put o.dst x).tmps := by
  cases hd : o.dst with
  | none => exact hf
  | some d => exact hf.set d v x hv

theorem put_defers {o : Oper} {x : Value} : (a.put o.dst x).defers = a.defers := by cases hd : o.dst <;> rfl

theorem wantd_spec [Env] {o : Oper} {g : Option (Path × Bool)} (hf : FrRel ρ fr a.tmps)
    (hg : (o.guard = none ∧ g = none) ∨ ∃ j b d, o.guard = some (j, b) ∧ (ops[j]?).bind (·.dst) = some d ∧ g = some (Path.of d, b)) :
    Region.wanted o (yielded ops a.tmps) = wantd fr g := by
  rcases hg with ⟨h1, rfl⟩ | ⟨j, b, d, h1, h2, rfl⟩
  · simp [Region.wanted, h1, wantd]
  · simp only [Region.wanted, h1, wantd, yielded, h2, Option.bind_some]
    have hv := hf.val d
    have hb : ∀ c, fr.get undefV (Path.of d) = .b c ↔ a.tmps[d]? = some (.bool c) := by
      intro c
      rw [Array.getD_eq_getD_getElem?] at hv
      constructor
      · intro e
        rw [e] at hv
        simp only [conc, Option.some.injEq] at hv
        cases hq : a.tmps[d]? with
        | none => rw [hq] at hv; simp [undef] at hv
        | some q => rw [hq] at hv; simp at hv; rw [hv]
      · intro e
        rw [e] at hv
        simp only [Option.getD_some] at hv
        generalize fr.get undefV (Path.of d) = u at hv
        cases u <;> simp only [conc, Option.map_eq_some_iff, Option.bind_eq_some_iff] at hv <;> first
          | exact (Env.nob _ _ hv).elim
          | (have h := (yV_spec hv).1; cases h; done)
          | (obtain ⟨_, _, h⟩ := hv; obtain ⟨_, _, h, _⟩ := oiV_spec h; cases h; done)
          | (cases hv; rfl)
          | (cases hv; done)
          | (obtain ⟨_, _, h⟩ := hv; cases h; done)
          | (split at hv <;> first | (cases hv; done) | (simp at hv; done))
          | (obtain ⟨_, _, h⟩ := hv; split at h <;> cases h)
    cases hq : a.tmps[d]? with
    | none =>
      have : ∀ c, fr.get undefV (Path.of d) ≠ .b c := fun c e => by have := (hb c).1 e; rw [hq] at this; cases this
      have hw : (match fr.get undefV (Path.of d) with | .b c => c == b | _ => false) = false := by
        split
        · rename_i c e; exact absurd e (this c)
        · rfl
      refine Eq.trans ?_ hw.symm
      rfl
    | some q =>
      cases q
      case bool c =>
        rw [(hb c).2 hq]
        simp
      all_goals
        have : ∀ c, fr.get undefV (Path.of d) ≠ .b c := fun c e => by have := (hb c).1 e; rw [hq] at this; cases this
        have hw : (match fr.get undefV (Path.of d) with | .b c => c == b | _ => false) = false := by
          split
          · rename_i c e; exact absurd e (this c)
          · rfl
        refine Eq.trans ?_ hw.symm
        rfl

theorem cSt_guard {o : Oper} (hop : (cSt P ng ops o).op ≠ .bad) :
    ((o.guard = none ∧ (cSt P ng ops o).gd = none) ∨ ∃ j b d, o.guard = some (j, b) ∧ (ops[j]?).bind (·.dst) = some d ∧ (cSt P ng ops o).gd = some (Path.of d, b)) ∧
    (cSt P ng ops o).op = cI P ng o := by
  unfold cSt at hop ⊢
  split at hop
  · rename_i hg
    exact ⟨.inl ⟨hg, rfl⟩, rfl⟩
  · rename_i j b hg
    split at hop
    · rename_i d hd
      exact ⟨.inr ⟨j, b, d, hg, hd, rfl⟩, rfl⟩
    · exact absurd rfl hop

theorem cSt_unwanted {o : Oper} {fr : Tr V} (hw : wantd fr (cSt P ng ops o).gd = false) :
    (o.guard = none ∧ (cSt P ng ops o).gd = none) ∨ ∃ j b d, o.guard = some (j, b) ∧ (ops[j]?).bind (·.dst) = some d ∧ (cSt P ng ops o).gd = some (Path.of d, b) := by
  unfold cSt at hw ⊢
  split at hw
  · simp [wantd] at hw
  · rename_i j b hg
    split at hw
    · rename_i d hd
      exact .inr ⟨j, b, d, hg, hd, rfl⟩
    · simp [wantd] at hw

theorem cSt_dst {o : Oper} : (cSt P ng ops o).dst = o.dst.map Path.of := by
  unfold cSt
  split
  · rfl
  · split <;> rfl

/-- What soundness says of a call of the program's own functions. -/
def CallOk [Env] (P : Program) (ng : Nat) (f : Path) (args : List V) (h : H) (v : V) (h' : H) : Prop :=
  ∀ ρ w xs, concs ρ args = some xs → HRel ρ h w → Glob ng ρ →
    (callFunc f.num xs.toArray).run P w = .ok (.enter f.num xs.toArray) w ∧
    Calls P f.num xs.toArray w fun e w' => ∃ u ρ', e = .returned u ∧ conc ρ' v = some u ∧ HRel ρ' h' w' ∧ Ext ρ h w ρ' h' w'

/-- One operation of a region. -/
def StepOk [Env] (P : Program) (ng : Nat) (o : Oper) (fr : Tr V) (h : H) (v : V) (h' : H) : Prop :=
  ∀ ρ a w, Glob ng ρ → FrRel ρ fr a.tmps → HRel ρ h w → ∀ (next : Act → World → Prop) (Q : Exit → Act → World → Prop),
    (∀ ρ' x w', conc ρ' v = some x → HRel ρ' h' w' → Ext ρ h w ρ' h' w' → next (a.put o.dst x) w') → o.wp P a w next Q

theorem step_pu [Env] {o : Oper} {i : PI} {v : V} (hc : cP P ng o = some i) (hv : puI fr i = some v) : StepOk P ng o fr h v h := by
  intro ρ a w hg hf hr next Q hn
  obtain ⟨x, hx, hrun⟩ := pu_sound hg hf hc hv
  simp only [Oper.wp, hrun w, Oper.upon]
  exact hn ρ x w hx hr (.refl _ _ _)

theorem step_rd [Env] {o : Oper} {i : RI} {v : V} (hc : cR P ng o = some i) (hv : rdI fr h i = some v) : StepOk P ng o fr h v h := by
  intro ρ a w hg hf hr next Q hn
  obtain ⟨x, hx, hrun⟩ := rd_sound (P := P) hg hf hr hc hv
  simp only [Oper.wp, hrun, Oper.upon]
  exact hn ρ x w hx hr (.refl _ _ _)

theorem step_al [Env] {o : Oper} {i : AI} {ob : Ob} {k : AK} (hc : cA P ng o = some i) (hv : alI fr i = some (ob, k)) : StepOk P ng o fr h (k.val h.n) (h.new ob) := by
  intro ρ a w hg hf hr next Q hn
  obtain ⟨x, obj, sz, w', hrun, hw, hst, ho, hval⟩ := al_sound hg hf hc hv w
  simp only [Oper.wp, hrun, Oper.upon]
  obtain ⟨g1, g2⟩ := hr.new ob obj sz ho
  exact hn _ x w' (hval _ _ (Ren.add_self ..)) (g1.world hw) (g2.world hw ⟨hst.os, hst.tape, hst.output⟩)

theorem step_hv [Env] {o : Oper} {i : HI} {v : V} {h' : H} (hc : cH P ng o = some i) (hv : hvI fr h i = .v v h') : StepOk P ng o fr h v h' := by
  intro ρ a w hg hf hr next Q hn
  obtain ⟨ρ', n, w', hrun, hcase, g1, g2⟩ := (hv_sound (P := P) hg hf hr hc).1 v h' hv
  simp only [Oper.wp, hrun]
  rcases hcase with ⟨x, rfl, hx⟩ | ⟨rfl, rfl⟩
  · simp only [Oper.upon]
    exact hn ρ' x w' hx g1 g2
  · simp only [Oper.upon]
    exact hn ρ' undef w' rfl g1 g2

theorem step_call [Env] {o : Oper} {i : HI} {f : Path} {args : List V} {v : V} {h' : H} (hc : cH P ng o = some i) (hv : hvI fr h i = .call f args) (hcall : CallOk P ng f args h v h') : StepOk P ng o fr h v h' := by
  intro ρ a w hg hf hr next Q hn
  obtain ⟨xs, hxs, hrun⟩ := (hv_sound (P := P) hg hf hr hc).2 f args hv
  obtain ⟨h1, h2⟩ := hcall ρ w xs hxs hr hg
  simp only [Oper.wp, hrun, h1, Oper.upon]
  refine h2.mono fun e w' he => ?_
  obtain ⟨u, ρ', rfl, hu, g1, g2⟩ := he
  exact hn ρ' u w' hu g1 g2

/-! ### Regions in their order -/

variable {tab : Tr (Option F)} {plan : Array Oper → Option (List It)}

/-- What one round of fuel gives. -/
structure Sound [Env] (P : Program) (ng : Nat) (plan : Array Oper → Option (List It)) (tab : Tr (Option F)) (n : Nat) : Prop where
  code : ∀ c fr h x fr' h', run tab n (.code (cC P ng plan c)) fr h = .one x fr' h' → ∀ ρ a w, Glob ng ρ → FrRel ρ fr a.tmps → HRel ρ h w → c.wp P (Post ρ h w a x fr' h') a w
  loop : ∀ c fr h x fr' h', run tab n (.code (.loop (cC P ng plan c))) fr h = .one x fr' h' → ∀ ρ a w, Glob ng ρ → FrRel ρ fr a.tmps → HRel ρ h w → Code.rounds P c (Post ρ h w a x fr' h') n a w
  ops : ∀ (ops : Array Oper) (l : List Nat) (os : List Oper), (l.map fun i => ops[i]?) = os.map some → ∀ fr h x fr' h', run tab n (.ops (os.map (cSt P ng ops))) fr h = .one x fr' h' →
    ∀ ρ a w, Glob ng ρ → FrRel ρ fr a.tmps → HRel ρ h w → wpOps P ops (Post ρ h w a x fr' h') l a w
  dops : ∀ (id : Nat) (ops : Array Oper) (l : List It), plan ops = some l → ∀ fr h x fr' h', run tab n (.dops l) fr h = .one x fr' h' →
    ∀ ρ a w, Glob ng ρ → FrRel ρ fr a.tmps → HRel ρ h w → (Code.region id ops true).wp P (Post ρ h w a x fr' h') a w
  call : ∀ f args fr h x q h', run tab n (.call f args) fr h = .one x q h' → CallOk P ng f args h (q.get undefV .e) h'

theorem rounds_mono {Q Q' : Exit → Act → World → Prop} {c : Code} (hq : ∀ e a w, Q e a w → Q' e a w) : ∀ (n : Nat) (a : Act) (w : World), Code.rounds P c Q n a w → Code.rounds P c Q' n a w
  | 0, _, _, h => h.elim
  | n + 1, a, w, h => by
    rw [rounds_succ] at h ⊢
    refine wp_mono h fun e a w he => ?_
    cases e <;> first
      | exact rounds_mono hq n a w he
      | exact hq _ _ _ he

theorem wpOps_mono {Q Q' : Exit → Act → World → Prop} (hq : ∀ e a w, Q e a w → Q' e a w) : ∀ (l : List Nat) (a : Act) (w : World), wpOps P ops Q l a w → wpOps P ops Q' l a w
  | [], a, w, h => hq _ _ _ h
  | i :: l, a, w, h => by
    rw [wpOps_cons] at h ⊢
    refine wpOp_mono (fun a w h => wpOps_mono hq l a w h) ?_
    unfold wpOp at h ⊢
    split
    · rename_i e; simp only [e] at h; exact h
    · rename_i o e
      simp only [e] at h
      split
      · rename_i hw
        simp only [hw, if_true] at h
        rcases h with h | ⟨h1, h2⟩
        · left
          unfold Oper.wp at *
          generalize (execOp a.eval o).run P w = r at *
          cases r with
          | ok n w' =>
            cases n <;> simp only [Oper.upon] at h ⊢ <;> try exact h
            · exact h.mono fun e w'' he => by
                cases e with
                | returned u => exact he
                | panicked c => exact hq _ _ _ he
                | outgrown => obtain ⟨a0, w0, h0⟩ := he; exact ⟨a0, w0, hq _ _ _ h0⟩
          | halt x w' =>
            cases x <;> simp only [Oper.upon] at h ⊢ <;> first | exact hq _ _ _ h | exact h
        · right
          obtain ⟨a0, w0, h0⟩ := h2
          exact ⟨h1, a0, w0, hq _ _ _ h0⟩
      · rename_i hw
        simp only [hw] at h
        exact h

end
end Go.Eng
