/- The engine, part Zc: regions whose order is open, and the soundness of the whole. -/
import Derived.Test.YtjngjfgbholgpaaEngZb
set_option linter.unusedSimpArgs false
set_option linter.unusedVariables false
namespace Go.Eng
section
variable {P : Program} {ng : Nat} {ops : Array Oper} {S : List Ent} {as : Act} {ρs : Ren} {hs : H} {ws : World}
variable {tab : Tr (Option F)} {plan : Array Oper → Option (List It)} {N : Nat}

section
variable {D sfx M : List Ent} {fr : Tr V} {h : H} {listed : Array Bool} {a : Act} {w : World}

theorem Pos.clo (ps : Pos S D sfx) {e : Ent} (hk : ∀ f ∈ D, f.k ≠ e.k) : ∀ f ∈ D, has f.m e.k = false := by
  intro f hf
  cases hh : has f.m e.k with
  | false => rfl
  | true =>
    obtain ⟨g, hg, hk'⟩ := ps.bef f hf _ hh
    exact absurd hk' (hk g hg)

/-- The evaluator runs an operation. -/
theorem Cfg.light [Env] (pl : Plan P ng ops S) {e : Ent} (hhv : e.hv = false) (ps : Pos S D (e :: sfx)) (c : Cfg ops S D (e :: sfx) M fr h as ρs hs ws listed a w) (v : V) (h' : H)
    (hh : (h' = h ∧ (alOf e = none ∨ v = undefV)) ∨ ∃ ob d kk, h' = h.new ob ∧ alOf e = some d ∧ fr.mem d = true ∧ v = AK.val kk h.n)
    (hp : Pend (e :: D) e (putD fr e.st.dst v) h') : Cfg ops S (e :: D) sfx (e :: M) (putD fr e.st.dst v) h' as ρs hs ws listed a w := by
  obtain ⟨ρ, fr0, g0, I, hx⟩ := c.inv
  have hk : ∀ f ∈ D, f.k ≠ e.k := fun f hf => ps.good.disj f hf e (by simp)
  obtain ⟨g0', I', hg, hn, hm⟩ := I.light pl hhv ps.DS c.sub (ps.sS e (by simp)) hk (ps.clo hk) v h' (by have := hx.mono; rw [I.gn] at this; exact this) hh hp
  refine ⟨fun f hf => ?_, fun f hf => ?_, ?_, c.size, fun j => ?_, c.closed, c.defers, ρ, fr0, g0', I', ⟨hx.later, hx.size, hx.frame, fun p x hp => ?_, hx.fresh, Nat.le_trans hx.mono hm, hx.str⟩⟩
  · rcases List.mem_cons.1 hf with rfl | hf
    · simp
    · simp [c.sub f hf]
  · rcases List.mem_cons.1 hf with rfl | hf
    · exact hhv
    · exact c.lt f hf
  · rw [List.map_cons, List.nodup_cons]
    refine ⟨fun hmem => ?_, c.nd⟩
    obtain ⟨f, hf, hk'⟩ := List.mem_map.1 hmem
    exact hk f (c.sub f hf) hk'
  · rw [c.un j]
    simp only [List.mem_cons, exists_eq_or_imp]
    constructor
    · rintro (h | h | h) <;> simp [h]
    · rintro ((h | h) | h) <;> simp [h]
  · rw [hg] at hp; exact hx.img p x hp

/-- Those that the evaluator has run, run, in any order. -/
theorem drain [Env] (pl : Plan P ng ops S) (ps : Pos S D sfx) (hgs : Glob ng ρs) {Q : Exit → Act → World → Prop}
    (hnext : ∀ M fuel listed a w, Cfg ops S D sfx M fr h as ρs hs ws listed a w → fuel + 1 = M.length + sfx.length → ∀ i ∈ Region.ready .any ops listed, (∀ f ∈ M, f.k ≠ i) →
      wpOp P ops Q i (wpAny P .any ops Q fuel (listed.setIfInBounds i true)) a w)
    (hfin : sfx = [] → ∀ listed a w, Cfg ops S D sfx [] fr h as ρs hs ws listed a w → Q .normal a w) :
    ∀ fuel M listed a w, fuel = M.length + sfx.length → Cfg ops S D sfx M fr h as ρs hs ws listed a w → wpAny P .any ops Q fuel listed a w
  | 0, M, listed, a, w, hl, c => by
    have e1 : M = [] := List.length_eq_zero_iff.1 (by omega)
    have e2 : sfx = [] := List.length_eq_zero_iff.1 (by omega)
    subst e1
    refine ⟨?_, hfin e2 listed a w c⟩
    rw [List.eq_nil_iff_forall_not_mem]
    intro j hj
    have := (c.un j).1 (mem_ready.1 hj).1
    rcases this with ⟨f, hf, _⟩ | ⟨f, hf, _⟩
    · cases hf
    · rw [e2] at hf; cases hf
  | fuel + 1, M, listed, a, w, hl, c => by
    refine ⟨fun hr => ?_, fun i hi => ?_⟩
    · obtain ⟨e1, e2⟩ := c.left pl ps hr
      subst e1
      exact hfin e2 listed a w c
    · by_cases hM : ∃ f ∈ M, f.k = i
      · obtain ⟨f, hf, rfl⟩ := hM
        obtain ⟨l, r, rfl⟩ := List.append_of_mem hf
        exact c.step pl ps hgs hi fun a' w' c' => drain pl ps hgs hnext hfin fuel (l ++ r) _ a' w' (by simp at hl ⊢; omega) c'
      · exact hnext M fuel listed a w c hl i hi fun f hf hk => hM ⟨f, hf, hk⟩
end

theorem chkL_spec {fr : Tr V} {h : H} : ∀ {l : List (St × List Path)}, chkL fr h l = true → ∀ s hide, (s, hide) ∈ l → wantd fr s.gd = true →
    ∀ i, s.op = .rd i → ∃ d, s.dst = some d ∧ fr.mem d = true ∧ rdI fr (hideL fr hide h) i = some (fr.get undefV d)
  | [], _, _, _, hm, _, _, _ => by cases hm
  | (s', hide') :: l, hc, s, hide, hm, hw, i, hi => by
    simp only [chkL] at hc
    rcases List.mem_cons.1 hm with e | hm
    · cases e
      rw [hw, cond_true] at hc
      rw [hi] at hc
      split at hc
      · rename_i i' d h1 h2
        cases h1
        cases hmem : fr.mem d with
        | false => rw [hmem] at hc; simp at hc
        | true =>
          rw [hmem, cond_true] at hc
          refine ⟨d, by assumption, hmem, ?_⟩
          split at hc
          · rename_i v hv
            cases hs : sameV v (fr.get undefV d) with
            | false => rw [hs] at hc; simp at hc
            | true => rw [hv, sameV_eq hs]
          · cases hc
      · cases hc
    · refine chkL_spec ?_ s hide hm hw i hi
      cases hwd : wantd fr s'.gd with
      | false => rw [hwd] at hc; exact hc
      | true =>
        rw [hwd, cond_true] at hc
        split at hc
        · rename_i i' d h1 h2
          cases hmem : fr.mem d with
          | false => rw [hmem] at hc; simp at hc
          | true =>
            rw [hmem, cond_true] at hc
            split at hc
            · rename_i v hv
              cases hs : sameV v (fr.get undefV d) with
              | false => rw [hs] at hc; simp at hc
              | true => rw [hs] at hc; exact hc
            · cases hc
        · cases hc

theorem heavy_cI {e : Ent} {o : Oper} {i : HI} (hst : e.st = cSt P ng ops o) (hi : e.st.op = .hv i) : cH P ng o = some i := by
  have := (cSt_guard (P := P) (ng := ng) (ops := ops) (o := o) (by rw [← hst, hi]; intro h; cases h)).2
  rw [← hst, hi] at this
  exact cI_inv.2.2.2 i this.symm

theorem dmain [Env] (pl : Plan P ng ops S) (hgs : Glob ng ρs) (hS : ∀ m, m ≤ N → Sound P ng plan tab m) : ∀ (sfx D : List Ent), Pos S D sfx →
    ∀ m, m ≤ N + 1 → ∀ fr h x fr' h', run tab m (.dops (its D sfx)) fr h = .one x fr' h' →
    ∀ fuel M listed a w, fuel = M.length + sfx.length → Cfg ops S D sfx M fr h as ρs hs ws listed a w → wpAny P .any ops (Post ρs hs ws as x fr' h') fuel listed a w
  | [], D, ps, m, hm, fr, h, x, fr', h', hrun => by
    cases m with
    | zero => rw [run_zero] at hrun; cases hrun
    | succ m =>
    rw [run_succ] at hrun
    simp only [runT, its, runD, Rs.one.injEq] at hrun
    obtain ⟨rfl, rfl, rfl⟩ := hrun
    refine drain pl ps hgs (fun M fuel listed a w c hl i hi hne => ?_) (fun _ listed a w c => ?_)
    · rcases (c.un i).1 (mem_ready.1 hi).1 with ⟨f, hf, hk⟩ | ⟨f, hf, _⟩
      · exact absurd hk (hne f hf)
      · cases hf
    · obtain ⟨ρ, fr0, g0, I, hx⟩ := c.inv
      have nb : ∀ b, ¬ BlkL fr (([] : List Ent).filterMap alOf) b := by rintro b ⟨d, hd, _⟩; simp at hd
      have e1 : ∀ p, fr0.get undefV p = fr.get undefV p := fun p => I.same p fun f hf => by cases hf
      have e2 : ∀ b, g0.get b = h.get b := fun b => I.vis b (nb b)
      exact ⟨rfl, c.defers, ρ, ⟨fun t => by rw [← e1]; exact I.rel.val t, fun t => by rw [← I.mem]; exact I.rel.mem t⟩, I.hrel.congr e2 I.gn, hx.congr e2 I.gn⟩
  | e :: sfx, D, ps, m, hm, fr, h, x, fr', h', hrun => by
    cases m with
    | zero => rw [run_zero] at hrun; cases hrun
    | succ m =>
    rw [run_succ] at hrun
    have he : e ∈ S := ps.sS e (by simp)
    obtain ⟨o, ho, hst, haf⟩ := pl.ent e he
    have hdst : e.st.dst = o.dst.map Path.of := by rw [hst]; exact cSt_dst
    have hk : ∀ f ∈ D, f.k ≠ e.k := fun f hf => ps.good.disj f hf e (by simp)
    have hclo := ps.clo hk
    have next := dmain pl hgs hS sfx (e :: D) ps.next m (by omega)
    have off := fun v => Off.put e.st.dst fr v
    -- what e looks at does not change when e has run
    have selfs : e.hv = false → ∀ v, SameOn (putD fr e.st.dst v) fr e.st.op.opds ∧ wantd (putD fr e.st.dst v) e.st.gd = wantd fr e.st.gd := fun hhv v =>
      slots_same fun p hp => (off v).get p fun c => by
        rcases pl.slot e he e he p c hp with this | ⟨h1, _⟩
        · obtain ⟨g, hg, hk'⟩ := ps.good.2.2.1 _ this
          exact hk g hg hk'
        · rw [hhv] at h1; cases h1
    have putg : ∀ v d, e.st.dst = some d → (putD fr e.st.dst v).mem d = true → (putD fr e.st.dst v).get undefV d = v := by
      intro v d hd hm
      rw [(off v).mem] at hm
      rw [hd]; exact putD_get hm
    -- an operation that the model is to run now
    have heavyNext : e.hv = true → ∀ (v : V) (h2 : H), run tab m (.dops (its (e :: D) sfx)) (putD fr e.st.dst v) h2 = .one x fr' h' →
        (∀ M a w ρ fr0 g0, (∀ f ∈ M, f ∈ D) → (∀ f ∈ M, has e.m f.k = false) → Glob ng ρ → SameOn fr0 fr e.st.op.opds → wantd fr0 e.st.gd = wantd fr e.st.gd → Inv hs.n D M fr h ρ fr0 g0 a w →
          ∀ (K : Act → World → Prop), (∀ x' w', (∃ ρ' g0', Inv hs.n (e :: D) M (putD fr e.st.dst v) h2 ρ' (putD fr0 e.st.dst v) g0' (a.put o.dst x') w' ∧ Ext ρ g0 w ρ' g0' w') → K (a.put o.dst x') w') →
          wpOp P ops (Post ρs hs ws as x fr' h') e.k K a w) →
        ∀ fuel M listed a w, fuel = M.length + (e :: sfx).length → Cfg ops S D (e :: sfx) M fr h as ρs hs ws listed a w → wpAny P .any ops (Post ρs hs ws as x fr' h') fuel listed a w := by
      intro hhv v h2 hrun' hstep
      refine drain pl ps hgs (fun M fuel listed a w c hl i hi hne => ?_) (fun h => by cases h)
      have hie : i = e.k := by
        rcases (c.un i).1 (mem_ready.1 hi).1 with ⟨f, hf, hk2⟩ | ⟨f, hf, hk2⟩
        · exact absurd hk2 (hne f hf)
        · rcases List.mem_cons.1 hf with rfl | hf
          · exact hk2.symm
          · exfalso
            subst hk2
            have h3 := ps.good.2.2.2.2.2.1 hhv f hf
            exact getD_both (c.unS (by simp)) (c.bef pl (ps.sS f (by simp [hf])) hi _ h3)
      subst hie
      obtain ⟨ρ, fr0, g0, I, hx⟩ := c.inv
      obtain ⟨s1, s2⟩ := c.slots pl ps he hi I
      have hMe : ∀ f ∈ M, has e.m f.k = false := by
        intro f hf
        cases hh : has e.m f.k with
        | false => rfl
        | true => exact (getD_both (c.unM hf) (c.bef pl he hi _ hh)).elim
      refine hstep M a w ρ fr0 g0 c.sub hMe (hgs.later hx.later) s1 s2 I _ fun x' w' hI' => ?_
      obtain ⟨ρ', g0', I', hx'⟩ := hI'
      refine next _ _ x fr' h' hrun' fuel M _ _ w' (by simp at hl; omega) ?_
      refine ⟨fun f hf => by simp [c.sub f hf], c.lt, c.nd, by rw [Array.size_setIfInBounds]; exact c.size, fun j => ?_, c.closed' pl he hi, by rw [Go.Eng.put_defers]; exact c.defers, ρ', _, g0', I', hx.trans hx'⟩
      have hlt : e.k < listed.size := lt_of_getD (c.unS (by simp))
      by_cases hj : e.k = j
      · subst hj
        rw [set_getD_self hlt]
        simp only [Bool.true_eq_false, false_iff]
        rintro (⟨f, hf, hk'⟩ | ⟨f, hf, hk'⟩)
        · exact hk f (c.sub f hf) hk'
        · have := ps.next.good.disj e (by simp) f hf
          exact this hk'.symm
      · rw [getD_set_ne true hj, c.un j]
        constructor
        · rintro (h | ⟨f, hf, hk'⟩)
          · exact .inl h
          · rcases List.mem_cons.1 hf with rfl | hf
            · exact absurd hk' hj
            · exact .inr ⟨f, hf, hk'⟩
        · rintro (h | ⟨f, hf, hk'⟩)
          · exact .inl h
          · exact .inr ⟨f, by simp [hf], hk'⟩
    -- nothing happens to memory, and the model does it now
    have quietNext : e.hv = true → ∀ (v : V), alOf e = none → run tab m (.dops (its (e :: D) sfx)) (putD fr e.st.dst v) h = .one x fr' h' →
        (∀ M a w ρ fr0 g0, (∀ f ∈ M, f ∈ D) → (∀ f ∈ M, has e.m f.k = false) → Glob ng ρ → SameOn fr0 fr e.st.op.opds → wantd fr0 e.st.gd = wantd fr e.st.gd → Inv hs.n D M fr h ρ fr0 g0 a w →
          ∀ (K : Act → World → Prop), (∀ ρ' x' w', conc ρ' v = some x' → HRel ρ' g0 w' → Ext ρ g0 w ρ' g0 w' → K (a.put o.dst x') w') → wpOp P ops (Post ρs hs ws as x fr' h') e.k K a w) →
        ∀ fuel M listed a w, fuel = M.length + (e :: sfx).length → Cfg ops S D (e :: sfx) M fr h as ρs hs ws listed a w → wpAny P .any ops (Post ρs hs ws as x fr' h') fuel listed a w := by
      intro hhv v hna hrun' hstep
      refine heavyNext hhv v h hrun' fun M a w ρ fr0 g0 hMD hMe hg s1 s2 I K hK => ?_
      refine hstep M a w ρ fr0 g0 hMD hMe hg s1 s2 I K fun ρ' x' w' hv' hr' hx' => hK x' w' ?_
      exact ⟨ρ', g0, I.quiet pl ps.DS hMD he hk hclo hMe hna hdst hr' hx' hv', hx'⟩
    simp only [runT, its, runD, mkIt] at hrun
    obtain ⟨hop1, hop2⟩ := ps.good.2.2.2.2.1
    cases hhv : e.hv with
    | false =>
      have selfs := selfs hhv
      cases hw : wantd fr e.st.gd with
      | false =>
        rw [hw] at hrun
        simp only at hrun
        intro fuel M listed a w hl c
        refine next _ _ x fr' h' hrun fuel (e :: M) listed a w (by simp at hl ⊢; omega) (c.light pl hhv ps undefV h (.inl ⟨rfl, .inr rfl⟩) ?_)
        unfold Pend
        rw [(selfs undefV).2, hw]
        exact fun d hd hm => putg undefV d hd hm
      | true =>
        rw [hw] at hrun
        simp only at hrun
        cases hi : e.st.op with
        | bad => rw [hi] at hrun; simp [runOpD] at hrun
        | hv i =>
          have := hop1 (by rw [hi]; rfl)
          rw [hhv] at this; cases this
        | pu i =>
          rw [hi] at hrun
          simp only [runOpD, runValD] at hrun
          split at hrun
          · rename_i v hv
            intro fuel M listed a w hl c
            refine next _ _ x fr' h' hrun fuel (e :: M) listed a w (by simp at hl ⊢; omega) (c.light pl hhv ps v h (.inl ⟨rfl, .inl (by unfold alOf; rw [hi])⟩) ?_)
            unfold Pend
            have ss := selfs v
            rw [ss.2, hw]
            refine ⟨v, fun d hd hm => putg v d hd hm, ?_⟩
            rw [hi]
            rw [hi] at ss
            simp only
            rw [puI_same ss.1]; exact hv
          · cases hrun
        | rd i =>
          rw [hi] at hrun
          simp only [runOpD, runValD] at hrun
          split at hrun
          · rename_i v hv
            have hna : alOf e = none := by unfold alOf; rw [hi]
            intro fuel M listed a w hl c
            refine next _ _ x fr' h' hrun fuel (e :: M) listed a w (by simp at hl ⊢; omega) (c.light pl hhv ps v h (.inl ⟨rfl, .inl hna⟩) ?_)
            unfold Pend
            have ss := selfs v
            rw [ss.2, hw]
            refine ⟨v, fun d hd hm => putg v d hd hm, ?_⟩
            rw [hi]
            rw [hi] at ss
            simp only
            intro g hg
            rw [rdI_same ss.1]
            refine rdI_less (fun b => ?_) hv
            have fs := hideL_spec (fr := fr) (b := b) (als e.m D) h
            by_cases hb : BlkL fr (als e.m D) b
            · exact .inl (fs.1 hb)
            · rw [fs.2.1 hb]
              by_cases hl : (h.get b).live = true
              · refine .inr (hg b hl ?_).symm
                rintro ⟨d2, hd2, hb2⟩
                obtain ⟨f', hf', h3, h4⟩ := als_mem.1 hd2
                rcases List.mem_cons.1 hf' with rfl | hf'
                · rw [hna] at h4; cases h4
                · refine hb ⟨d2, als_mem.2 ⟨f', hf', h3, h4⟩, ?_⟩
                  rw [← (off v).get d2 fun c => pl.dst f' (ps.DS f' hf') e he (hk f' hf') d2 (alOf_dst h4) c]; exact hb2
              · exact .inl (Ob.dead_of hl)
          · cases hrun
        | al i =>
          rw [hi] at hrun
          simp only [runOpD, runAlD] at hrun
          split at hrun
          · rename_i ob kk hv
            split at hrun
            · rename_i d hd
              cases hm : fr.mem d with
              | false => rw [hm] at hrun; simp at hrun
              | true =>
                rw [hm, cond_true] at hrun
                have hald : alOf e = some d := by unfold alOf; rw [hi]; exact hd
                intro fuel M listed a w hl c
                have hput : putD fr e.st.dst (AK.val kk h.n) = fr.set d (AK.val kk h.n) := by rw [hd]; rfl
                refine next _ _ x fr' h' (by rw [hput]; exact hrun) fuel (e :: M) listed a w (by simp at hl ⊢; omega) (c.light pl hhv ps (AK.val kk h.n) (h.new ob) (.inr ⟨ob, d, kk, rfl, hald, hm, rfl⟩) ?_)
                unfold Pend
                have ss := selfs (AK.val kk h.n)
                rw [ss.2, hw]
                refine ⟨AK.val kk h.n, fun d hd hm => putg _ d hd hm, ?_⟩
                rw [hi]
                rw [hi] at ss
                simp only
                exact ⟨ob, kk, h.n, d, by rw [alI_same ss.1]; exact hv, hd, by rw [(off _).mem]; exact hm, rfl, by rw [H.get_new, if_pos rfl]⟩
            · cases hrun
          · cases hrun
    | true =>
      have hna : alOf e = none := by
        have := hop2 hhv
        unfold alOf
        split
        · rename_i i hi; rw [hi] at this; cases this
        · rfl
      have hless : ∀ {M : List Ent} {ρ : Ren} {fr0 : Tr V} {g0 : H} {a : Act} {w : World}, (∀ f ∈ M, f ∈ D) → (∀ f ∈ M, has e.m f.k = false) → Inv hs.n D M fr h ρ fr0 g0 a w → Less (hideL fr (als e.m D) h) g0 := by
        intro M ρ fr0 g0 a w hMD hMe I b
        have fs := hideL_spec (fr := fr) (b := b) (als e.m D) h
        by_cases hb : BlkL fr (als e.m D) b
        · exact .inl (fs.1 hb)
        · refine .inr ?_
          rw [fs.2.1 hb]
          refine (I.vis b fun c => hb ?_).symm
          obtain ⟨f, hf, d, hd, hbb⟩ := MB_iff.1 c
          exact ⟨d, als_mem.2 ⟨f, hMD f hf, hMe f hf, hd⟩, hbb⟩
      cases hw : wantd fr e.st.gd with
      | false =>
        rw [hw] at hrun
        simp only at hrun
        refine quietNext hhv undefV hna hrun fun M a w ρ fr0 g0 hMD hMe hg s1 s2 I K hK => ?_
        unfold wpOp
        simp only [ho]
        rw [wanted_of hst I.rel (.inr (by rw [s2]; exact hw)), s2, hw]
        exact hK ρ undef w rfl I.hrel (.refl _ _ _)
      | true =>
        rw [hw] at hrun
        simp only at hrun
        -- a step of the model, for an operation that changes nothing of memory
        have quietStep : e.st.op ≠ .bad → ∀ (v : V), run tab m (.dops (its (e :: D) sfx)) (putD fr e.st.dst v) h = .one x fr' h' →
            (∀ (M : List Ent) (ρ : Ren) (fr0 : Tr V) (g0 : H) (a : Act) (w : World), Inv hs.n D M fr h ρ fr0 g0 a w → SameOn fr0 fr e.st.op.opds → Less (hideL fr (als e.m D) h) g0 → StepOk P ng o fr0 g0 v g0) →
            ∀ fuel M listed a w, fuel = M.length + (e :: sfx).length → Cfg ops S D (e :: sfx) M fr h as ρs hs ws listed a w → wpAny P .any ops (Post ρs hs ws as x fr' h') fuel listed a w := by
          intro hbad v hrun' hstep
          refine quietNext hhv v hna hrun' fun M a w ρ fr0 g0 hMD hMe hg s1 s2 I K hK => ?_
          unfold wpOp
          simp only [ho]
          rw [wanted_of hst I.rel (.inl hbad), s2, hw]
          simp only [if_true]
          left
          exact hstep M ρ fr0 g0 a w I s1 (hless hMD hMe I) ρ a w hg I.rel I.hrel K _ fun ρ' x' w' hv' hr' hx' => hK ρ' x' w' hv' hr' hx'
        have cIe : e.st.op ≠ .bad → e.st.op = cI P ng o := by
          intro hbad
          have := (cSt_guard (P := P) (ng := ng) (ops := ops) (o := o) (by rw [← hst]; exact hbad)).2
          rw [hst]; exact this
        cases hi : e.st.op with
        | bad => rw [hi] at hrun; simp [runOpD] at hrun
        | al i => have h5 := hop2 hhv; rw [hi] at h5; cases h5
        | pu i =>
          rw [hi] at hrun
          simp only [runOpD, runValD] at hrun
          split at hrun
          · rename_i v hv
            refine quietStep (by rw [hi]; intro c; cases c) v hrun fun M ρ fr0 g0 a w I s1 hl => ?_
            rw [hi] at s1
            have hcI := cIe (by rw [hi]; intro c; cases c)
            rw [hi] at hcI
            exact step_pu (cI_inv.1 i hcI.symm) (by rw [puI_same s1]; exact hv)
          · cases hrun
        | rd i =>
          rw [hi] at hrun
          simp only [runOpD, runValD] at hrun
          split at hrun
          · rename_i v hv
            refine quietStep (by rw [hi]; intro c; cases c) v hrun fun M ρ fr0 g0 a w I s1 hl => ?_
            rw [hi] at s1
            have hcI := cIe (by rw [hi]; intro c; cases c)
            rw [hi] at hcI
            exact step_rd (cI_inv.2.1 i hcI.symm) (by rw [rdI_same s1]; exact rdI_less hl hv)
          · cases hrun
        | hv i =>
          rw [hi] at hrun
          simp only [runOpD, I.heavy, cond_true] at hrun
          have hcH := heavy_cI hst hi
          -- what follows when the operation has run on the hidden heap
          have go : ∀ (v : V) (h1 : H), finD (run tab m) ⟨e.st, als e.m D, chks e.m D D⟩ (its (e :: D) sfx) fr v (showL fr h (als e.m D) h1) = .one x fr' h' →
              (∀ fr0 : Tr V, SameOn fr0 fr e.st.op.opds → StepOk P ng o fr0 (hideL fr (als e.m D) h) v h1) →
              ∀ fuel M listed a w, fuel = M.length + (e :: sfx).length → Cfg ops S D (e :: sfx) M fr h as ρs hs ws listed a w → wpAny P .any ops (Post ρs hs ws as x fr' h') fuel listed a w := by
            intro v h1 hfin hstep
            unfold finD at hfin
            cases hck : chkL fr (showL fr h (als e.m D) h1) (chks e.m D D) with
            | false => simp only [hck] at hfin; cases hfin
            | true =>
            simp only [hck] at hfin
            refine heavyNext hhv v _ hfin ?_
            intro M a w ρ fr0 g0 hMD hMe hg s1 s2 I K hK
            unfold wpOp
            simp only [ho]
            rw [wanted_of hst I.rel (.inl (by rw [hi]; intro h; cases h)), s2, hw]
            simp only [if_true]
            left
            have hn := (hideL_spec (fr := fr) (b := .e) (als e.m D) h).2.2
            have hrel := I.hrel.sub (hless hMD hMe I) (by rw [hn, I.gn]; exact Nat.le_refl _)
            refine hstep fr0 s1 ρ a w hg I.rel hrel K _ fun ρ' x' w' hv' hr' hx' => hK x' w' ?_
            obtain ⟨g0', I', hx2⟩ := I.heavy pl ps.DS hMD he hk hclo hMe hna hdst hr' hx' hv' (fun f hf i' hop hwf =>
              chkL_spec hck f.st (als f.m D) (chks_mem hop (hMe f hf) (hMD f hf)) hwf i' hop)
            exact ⟨ρ', g0', I', hx2⟩
          unfold runHvD at hrun
          split at hrun
          · rename_i v h1 hv
            refine go v h1 hrun fun fr0 s1 => step_hv hcH ?_
            rw [hi] at s1
            rw [hvI_same s1]; exact hv
          · rename_i f args hv
            unfold runCallD at hrun
            split at hrun
            · rename_i y q h1 hcall
              refine go _ h1 hrun fun fr0 s1 => step_call hcH (f := f) (args := args) ?_ ((hS m (by omega)).call f args .nil _ y q h1 hcall)
              rw [hi] at s1
              rw [hvI_same s1]; exact hv
            · cases hrun
          · cases hrun

/-- SOUNDNESS. -/
theorem sound [Env] (hm : P.follows .mixedOrders = true) (hT : TabOk P ng (planOf P ng) tab) (n : Nat) : Sound P ng (planOf P ng) tab n := by
  refine sound_all hT (fun n hS id ops l hl fr h x fr' h' hrun ρ a w hg hf hr => ?_) n n (Nat.le_refl n)
  obtain ⟨S, pl, rfl⟩ := planOf_spec hl
  refine wp_region_any hm ?_
  have ps : Pos S [] S := ⟨fun _ h => (by cases h), fun _ h => h, pl.good, fun _ h => (by cases h)⟩
  have hr' : HRel ρ h { w with drawn := w.drawn + 1 } := hr.world rfl
  have key : ∀ e' a' w', Post ρ h { w with drawn := w.drawn + 1 } a x fr' h' e' a' w' → Post ρ h w a x fr' h' e' a' w' := by
    rintro e' a' w' ⟨h1, h2, ρ', h3, h4, h5⟩
    exact ⟨h1, h2, ρ', h3, h4, ⟨h5.later, h5.size, h5.frame, h5.img, h5.fresh, h5.mono, ⟨h5.str.os, h5.str.tape, h5.str.output⟩⟩⟩
  have hpe : Post ρ h w a x fr' h' = Post ρ h { w with drawn := w.drawn + 1 } a x fr' h' := by
    funext e' a' w'
    apply propext
    refine ⟨?_, key e' a' w'⟩
    rintro ⟨h1, h2, ρ', h3, h4, h5⟩
    exact ⟨h1, h2, ρ', h3, h4, ⟨h5.later, h5.size, h5.frame, h5.img, h5.fresh, h5.mono, ⟨h5.str.os, h5.str.tape, h5.str.output⟩⟩⟩
  rw [hpe]
  refine dmain pl hg hS S [] ps (n + 1) (Nat.le_refl _) fr h x fr' h' hrun ops.size [] _ a _ (by simp [pl.len]) ?_
  have hun : ∀ j, (Array.replicate ops.size false).getD j true = false ↔ j < ops.size := by
    intro j
    rw [Array.getD_eq_getD_getElem?, Array.getElem?_replicate]
    by_cases h : j < ops.size <;> simp [h]
  refine ⟨fun _ h => (by cases h), fun _ h => (by cases h), by simp, by simp, fun j => ?_, fun f hf h' => ?_, rfl, ρ, fr, h, ⟨hf, fun _ _ => rfl, fun _ => rfl, hr', rfl, ?_, fun _ _ => rfl, ?_, ?_⟩, .refl _ _ _⟩
  · rw [hun]
    constructor
    · intro h; exact .inr (pl.all j h)
    · rintro (⟨f, hf, _⟩ | ⟨f, hf, rfl⟩)
      · cases hf
      · obtain ⟨o, ho, _⟩ := pl.ent f hf
        exact (Array.getElem?_eq_some_iff.1 ho).1
  · exfalso
    rw [Array.getD_eq_getD_getElem?, Array.getElem?_replicate] at h'
    split at h' <;> cases h'
  · rintro b ⟨d, hd, _⟩; simp at hd
  · intro e he; cases he
  · intro e he; cases he

end
end Go.Eng
