/- The engine, part Z: regions whose order is open: one operation more. -/
import Derived.Test.YtjngjfgbholgpaaEngY
set_option linter.unusedSimpArgs false
set_option linter.unusedVariables false
namespace Go.Eng

def MB (M : List Ent) (fr : Tr V) (b : Path) : Prop := ∃ f ∈ M, ∃ d, alOf f = some d ∧ blkOf (fr.get undefV d) = some b

theorem MB_iff {M : List Ent} {fr : Tr V} {b : Path} : BlkL fr (M.filterMap alOf) b ↔ MB M fr b := by
  unfold BlkL MB
  constructor
  · rintro ⟨d, hd, hb⟩
    obtain ⟨f, hf, ha⟩ := List.mem_filterMap.1 hd
    exact ⟨f, hf, d, ha, hb⟩
  · rintro ⟨f, hf, d, ha, hb⟩
    exact ⟨d, List.mem_filterMap.2 ⟨f, hf, ha⟩, hb⟩

section
variable {P : Program} {ng : Nat} {ops : Array Oper} {S : List Ent} {n0 : Path} {D M : List Ent} {fr : Tr V} {h : H} {ρ : Ren} {fr0 : Tr V} {g0 : H} {a : Act} {w : World}

/-- The evaluator runs an operation; the model does not yet. -/
theorem Inv.light [Env] (pl : Plan P ng ops S) {e : Ent} (hhv : e.hv = false) (hDS : ∀ f ∈ D, f ∈ S) (hM : ∀ f ∈ M, f ∈ D) (he : e ∈ S) (hk : ∀ f ∈ D, f.k ≠ e.k) (hclo : ∀ f ∈ D, has f.m e.k = false)
    (I : Inv n0 D M fr h ρ fr0 g0 a w) (v : V) (h' : H) (hn0 : n0.num ≤ h.n.num)
    (hh : (h' = h ∧ (alOf e = none ∨ v = undefV)) ∨ ∃ ob d kk, h' = h.new ob ∧ alOf e = some d ∧ fr.mem d = true ∧ v = AK.val kk h.n)
    (hp : Pend (e :: D) e (putD fr e.st.dst v) h') :
    ∃ g0', Inv n0 (e :: D) (e :: M) (putD fr e.st.dst v) h' ρ fr0 g0' a w ∧ (∀ b, g0'.get b = g0.get b) ∧ g0'.n = h'.n ∧ g0.n.num ≤ g0'.n.num := by
  have off := Off.put e.st.dst fr v
  generalize hfr : putD fr e.st.dst v = fr' at *
  have hmono : h.n.num ≤ h'.n.num := by
    rcases hh with ⟨rfl, _⟩ | ⟨ob, d, kk, rfl, _⟩
    · exact Nat.le_refl _
    · rw [H.n_new, Path.num_succ]; omega
  have dne : ∀ f ∈ D, ∀ d, f.st.dst = some d → fr'.get undefV d = fr.get undefV d := fun f hf d hd =>
    off.get d fun c => pl.dst f (hDS f hf) e he (hk f hf) d hd c
  -- the block that e makes
  have eb : ∀ d b, alOf e = some d → blkOf (fr'.get undefV d) = some b → b = h.n ∧ ∃ ob, h' = h.new ob := by
    intro d b hd hb
    rcases hh with ⟨_, h1 | h1⟩ | ⟨ob, d', kk, h1, h2, h3, h4⟩
    · rw [h1] at hd; cases hd
    · exfalso
      have : fr'.get undefV d = undefV := by
        cases hm : fr.mem d with
        | true => rw [← hfr, alOf_dst hd, putD_get hm, h1]
        | false => exact Tr.get_not_mem (by rw [off.mem]; exact hm)
      rw [this] at hb; cases hb
    · have e1 : d' = d := by rw [h2] at hd; cases hd; rfl
      subst e1
      have : fr'.get undefV d' = v := by rw [← hfr, alOf_dst h2, putD_get h3]
      rw [this, h4, val_blk] at hb
      cases hb
      exact ⟨rfl, ob, h1⟩
  have nb : ∀ ob, h' = h.new ob → ∃ d, alOf e = some d ∧ blkOf (fr'.get undefV d) = some h.n := by
    intro ob ho
    rcases hh with ⟨h1, _⟩ | ⟨ob, d', kk, h1, h2, h3, h4⟩
    · exfalso
      rw [h1] at ho
      have := congrArg (fun x : H => x.n.num) ho
      simp [Path.num_succ] at this
    · exact ⟨d', h2, by rw [← hfr, alOf_dst h2, putD_get h3, h4, val_blk]⟩
  have mbM : ∀ b, MB M fr' b ↔ MB M fr b := by
    intro b
    constructor
    · rintro ⟨f, hf, d, hd, hb⟩; exact ⟨f, hf, d, hd, by rw [← dne f (hM f hf) d (alOf_dst hd)]; exact hb⟩
    · rintro ⟨f, hf, d, hd, hb⟩; exact ⟨f, hf, d, hd, by rw [dne f (hM f hf) d (alOf_dst hd)]; exact hb⟩
  have low := I.low
  have getne : ∀ b, b ≠ h.n → h'.get b = h.get b := by
    intro b hb
    rcases hh with ⟨rfl, _⟩ | ⟨ob, d', kk, rfl, _⟩
    · rfl
    · rw [H.get_new, if_neg hb]
  have hgn := I.gn
  have g0n : g0.get h.n = .dead := by
    apply Ob.dead_of
    intro hl
    obtain ⟨x, hx, _⟩ := I.hrel.ob _ hl
    have := I.hrel.dom _ _ hx
    rw [hgn] at this; omega
  have ρn : ρ h.n = none := by rw [← hgn]; exact I.hrel.free
  have Ihid : ∀ b, MB M fr b → g0.get b = .dead ∧ ρ b = none ∧ n0.num ≤ b.num ∧ b.num < h.n.num := fun b hb => I.hid b (MB_iff.2 hb)
  refine ⟨⟨g0.t, h'.n⟩, ⟨I.rel, ?_, ?_, ?_, rfl, ?_, ?_, ?_, ?_⟩, fun _ => rfl, rfl, by rw [hgn]; exact hmono⟩
  · intro p hp'
    rw [I.same p fun f hf => hp' f (List.mem_cons.2 (.inr hf)), off.get p (hp' e (by simp))]
  · intro p; rw [I.mem, off.mem]
  · exact I.hrel.sub (fun b => .inr rfl) (by rw [hgn]; exact hmono)
  · intro b hb
    obtain ⟨f, hf, d, hd, hbb⟩ := MB_iff.1 hb
    rcases List.mem_cons.1 hf with rfl | hfM
    · obtain ⟨rfl, ob, ho⟩ := eb d b hd hbb
      refine ⟨g0n, ρn, hn0, ?_⟩
      rw [ho, H.n_new, Path.num_succ]; omega
    · obtain ⟨h1, h2, h3, h4⟩ := Ihid b ((mbM b).1 ⟨f, hfM, d, hd, hbb⟩)
      exact ⟨h1, h2, h3, by omega⟩
  · intro b hb
    have h1 : ¬ MB (e :: M) fr' b := fun c => hb (MB_iff.2 c)
    have h2 : ¬ MB M fr b := fun c => by
      obtain ⟨f, hf, d, hd, hb⟩ := (mbM b).2 c
      exact h1 ⟨f, List.mem_cons.2 (.inr hf), d, hd, hb⟩
    have h3 : g0.get b = h.get b := I.vis b fun c => h2 (MB_iff.1 c)
    show g0.get b = h'.get b
    by_cases hbn : b = h.n
    · subst hbn
      rcases hh with ⟨h4, _⟩ | ⟨ob, _, _, h4, _⟩
      · rw [h4]; exact h3
      · obtain ⟨d, h5, h6⟩ := nb ob h4
        exact absurd ⟨e, by simp, d, h5, h6⟩ h1
    · rw [getne b hbn]; exact h3
  · intro f hf f' hf' d d' b hd hd' hb hb'
    rcases List.mem_cons.1 hf with e1 | hf1 <;> rcases List.mem_cons.1 hf' with e2 | hf2
    · rw [e1, e2]
    · rw [e1] at hd
      obtain ⟨rfl, _⟩ := eb d b hd hb
      have := Ihid _ ((mbM _).1 ⟨f', hf2, d', hd', hb'⟩)
      omega
    · rw [e2] at hd'
      obtain ⟨rfl, _⟩ := eb d' b hd' hb'
      have := Ihid _ ((mbM _).1 ⟨f, hf1, d, hd, hb⟩)
      omega
    · rw [dne f (hM f hf1) d (alOf_dst hd)] at hb
      rw [dne f' (hM f' hf2) d' (alOf_dst hd')] at hb'
      exact I.dist f hf1 f' hf2 d d' b hd hd' hb hb'
  · intro f hf
    rcases List.mem_cons.1 hf with rfl | hf
    · exact hp
    · have hfD := hM f hf
      refine Pend.keep pl he (hDS f hfD) (hk f hfD) (hclo f hfD) (.inl hhv) off (I.pend f hf) ?_ ?_
      · intro i hop d hd kk b hb
        have hal : alOf f = some d := by unfold alOf; rw [hop]; exact hd
        have := Ihid b ⟨f, hf, d, hal, by rw [hb, val_blk]⟩
        exact getne b fun c => by subst c; omega
      · intro i v' _ _ horig _ g hg
        refine horig g fun b hl hnb => ?_
        have hbn : b ≠ h.n := fun c => by subst c; rw [low] at hl; cases hl
        rw [← getne b hbn]
        refine hg b (by rw [getne b hbn]; exact hl) ?_
        rintro ⟨d, hd, hb⟩
        obtain ⟨f', hf', h1, h2⟩ := als_mem.1 hd
        rcases List.mem_cons.1 hf' with rfl | hf'
        · exact hbn (eb d b h2 hb).1
        · refine hnb ⟨d, als_mem.2 ⟨f', hf', h1, h2⟩, ?_⟩
          rw [← dne f' hf' d (alOf_dst h2)]; exact hb

/-- The model runs an operation that the evaluator has run. -/
theorem Inv.listed [Env] {e : Ent} {M' : List Ent} (hM : ∀ f, f ∈ M ↔ f = e ∨ f ∈ M') (hne : ∀ f ∈ M', f.k ≠ e.k)
    (I : Inv n0 D M fr h ρ fr0 g0 a w) {o : Oper} (ho : e.st.dst = o.dst.map Path.of) {v : V} {x : Value} {ρ' : Ren} {g0' : H} {w' : World}
    (hval : ∀ d, e.st.dst = some d → fr.mem d = true → fr.get undefV d = v) (hl : Later ρ ρ') (hr : HRel ρ' g0' w') (gn' : g0'.n = h.n) (hv : conc ρ' v = some x)
    (hg1 : ∀ b, (∃ d, alOf e = some d ∧ blkOf (fr.get undefV d) = some b) → g0'.get b = h.get b)
    (hg2 : ∀ b, ¬ (∃ d, alOf e = some d ∧ blkOf (fr.get undefV d) = some b) → g0'.get b = g0.get b)
    (hfree : ∀ b, MB M' fr b → ρ' b = none) : Inv n0 D M' fr h ρ' (putD fr0 e.st.dst v) g0' (a.put o.dst x) w' := by
  have off := Off.put e.st.dst fr0 v
  have sub : ∀ f ∈ M', f ∈ M := fun f hf => (hM f).2 (.inr hf)
  have Ihid : ∀ b, MB M fr b → g0.get b = .dead ∧ ρ b = none ∧ n0.num ≤ b.num ∧ b.num < h.n.num := fun b hb => I.hid b (MB_iff.2 hb)
  refine ⟨?_, ?_, ?_, hr, gn', ?_, ?_, ?_, fun f hf => I.pend f (sub f hf)⟩
  · rw [ho]; exact put_spec (I.rel.later hl) hv
  · intro p hp
    by_cases hd : e.st.dst = some p
    · cases hm : fr.mem p with
      | true => rw [hd, putD_get (by rw [I.mem]; exact hm), hval p hd hm]
      | false => rw [Tr.get_not_mem (by rw [off.mem, I.mem]; exact hm), Tr.get_not_mem hm]
    · rw [off.get p hd]
      refine I.same p fun f hf => ?_
      rcases (hM f).1 hf with rfl | hf
      · exact hd
      · exact hp f hf
  · intro p; rw [off.mem, I.mem]
  · intro b hb
    have hb' := MB_iff.1 hb
    obtain ⟨f, hf, d, hd, hbb⟩ := hb'
    obtain ⟨h1, _, h3, h4⟩ := Ihid b ⟨f, sub f hf, d, hd, hbb⟩
    refine ⟨?_, hfree b (MB_iff.1 hb), h3, h4⟩
    rw [hg2 b ?_, h1]
    rintro ⟨d', hd', hb'⟩
    exact hne f hf (I.dist f (sub f hf) e ((hM e).2 (.inl rfl)) d d' b hd hd' hbb hb')
  · intro b hb
    by_cases he : ∃ d, alOf e = some d ∧ blkOf (fr.get undefV d) = some b
    · exact hg1 b he
    · rw [hg2 b he]
      refine I.vis b fun c => ?_
      obtain ⟨f, hf, d, hd, hbb⟩ := MB_iff.1 c
      rcases (hM f).1 hf with rfl | hf
      · exact he ⟨d, hd, hbb⟩
      · exact hb (MB_iff.2 ⟨f, hf, d, hd, hbb⟩)
  · intro f hf f' hf'
    exact I.dist f (sub f hf) f' (sub f' hf')

/-- The model runs the operation that the evaluator runs now. -/
theorem Inv.heavy [Env] (pl : Plan P ng ops S) {e : Ent} (hDS : ∀ f ∈ D, f ∈ S) (hM : ∀ f ∈ M, f ∈ D) (he : e ∈ S) (hk : ∀ f ∈ D, f.k ≠ e.k) (hclo : ∀ f ∈ D, has f.m e.k = false) (hMe : ∀ f ∈ M, has e.m f.k = false)
    (hal : alOf e = none) (I : Inv n0 D M fr h ρ fr0 g0 a w) {o : Oper} (ho : e.st.dst = o.dst.map Path.of) {v : V} {x : Value} {ρ' : Ren} {h1 : H} {w' : World}
    (hr : HRel ρ' h1 w') (hx : Ext ρ (hideL fr (als e.m D) h) w ρ' h1 w') (hv : conc ρ' v = some x)
    (hchk : ∀ f ∈ M, ∀ i, f.st.op = .rd i → wantd fr f.st.gd = true → ∃ d, f.st.dst = some d ∧ fr.mem d = true ∧ rdI fr (hideL fr (als f.m D) (showL fr h (als e.m D) h1)) i = some (fr.get undefV d)) :
    ∃ g0', Inv n0 (e :: D) M (putD fr e.st.dst v) (showL fr h (als e.m D) h1) ρ' (putD fr0 e.st.dst v) g0' (a.put o.dst x) w' ∧ Ext ρ g0 w ρ' g0' w' := by
  have off := Off.put e.st.dst fr v
  have off0 := Off.put e.st.dst fr0 v
  have hhs := fun b => hideL_spec (fr := fr) (b := b) (als e.m D) h
  have shs := fun b => showL_spec (fr := fr) (h0 := h) (b := b) (als e.m D) h1
  have Ihid : ∀ b, MB M fr b → g0.get b = .dead ∧ ρ b = none ∧ n0.num ≤ b.num ∧ b.num < h.n.num := fun b hb => I.hid b (MB_iff.2 hb)
  have Ivis : ∀ b, ¬ MB M fr b → g0.get b = h.get b := fun b hb => I.vis b fun c => hb (MB_iff.1 c)
  have mbs : ∀ b, MB M fr b → BlkL fr (als e.m D) b := by
    rintro b ⟨f, hf, d, hd, hb⟩
    exact ⟨d, als_mem.2 ⟨f, hM f hf, hMe f hf, hd⟩, hb⟩
  have hless : Less (hideL fr (als e.m D) h) g0 := by
    intro b
    by_cases hb : BlkL fr (als e.m D) b
    · exact .inl ((hhs b).1 hb)
    · exact .inr (by rw [(hhs b).2.1 hb]; exact (Ivis b fun c => hb (mbs b c)).symm)
  have hhn : (hideL fr (als e.m D) h).n = g0.n := by rw [(hhs .e).2.2, I.gn]
  have gs := fun b => hideL_spec (fr := fr) (b := b) (M.filterMap alOf) (showL fr h (als e.m D) h1)
  have key := back (g' := hideL fr (M.filterMap alOf) (showL fr h (als e.m D) h1)) I.hrel hless hhn hr hx (fun b => ?_) (by rw [(gs .e).2.2, (shs .e).2.2])
  · obtain ⟨k1, k2⟩ := key
    have dne : ∀ f ∈ D, ∀ d, f.st.dst = some d → (putD fr e.st.dst v).get undefV d = fr.get undefV d := fun f hf d hd =>
      off.get d fun c => pl.dst f (hDS f hf) e he (hk f hf) d hd c
    have mbM : ∀ b, MB M (putD fr e.st.dst v) b ↔ MB M fr b := by
      intro b
      constructor
      · rintro ⟨f, hf, d, hd, hb⟩; exact ⟨f, hf, d, hd, by rw [← dne f (hM f hf) d (alOf_dst hd)]; exact hb⟩
      · rintro ⟨f, hf, d, hd, hb⟩; exact ⟨f, hf, d, hd, by rw [dne f (hM f hf) d (alOf_dst hd)]; exact hb⟩
    have hmono := k2.mono
    have hnn : (hideL fr (M.filterMap alOf) (showL fr h (als e.m D) h1)).n = (showL fr h (als e.m D) h1).n := (gs .e).2.2
    refine ⟨_, ⟨?_, ?_, ?_, k1, hnn, ?_, ?_, ?_, ?_⟩, k2⟩
    · rw [ho]; exact put_spec (I.rel.later hx.later) hv
    · intro p hp
      by_cases hd : e.st.dst = some p
      · cases hm : fr.mem p with
        | true => rw [hd, putD_get (by rw [I.mem]; exact hm), putD_get hm]
        | false => rw [Tr.get_not_mem (by rw [off0.mem, I.mem]; exact hm), Tr.get_not_mem (by rw [off.mem]; exact hm)]
      · rw [off0.get p hd, off.get p hd]; exact I.same p hp
    · intro p; rw [off0.mem, off.mem, I.mem]
    · intro b hb
      have hb' := (mbM b).1 (MB_iff.1 hb)
      obtain ⟨q1, q2, q3, q4⟩ := Ihid b hb'
      refine ⟨(gs b).1 (MB_iff.2 hb'), ?_, q3, ?_⟩
      · cases e' : ρ' b with
        | none => rfl
        | some y =>
          rcases hx.fresh b y e' with h2 | h2
          · rw [q2] at h2; cases h2
          · rw [hhn, I.gn] at h2; omega
      · rw [hnn, I.gn] at hmono; omega
    · intro b hb
      exact (gs b).2.1 fun c => hb (MB_iff.2 ((mbM b).2 (MB_iff.1 c)))
    · intro f hf f' hf' d d' b hd hd' hb hb'
      rw [dne f (hM f hf) d (alOf_dst hd)] at hb
      rw [dne f' (hM f' hf') d' (alOf_dst hd')] at hb'
      exact I.dist f hf f' hf' d d' b hd hd' hb hb'
    · intro f hf
      have hfD := hM f hf
      refine Pend.keep pl he (hDS f hfD) (hk f hfD) (hclo f hfD) (.inr (hMe f hf)) off (I.pend f hf) ?_ ?_
      · intro i hop d hd kk b hb
        have hal' : alOf f = some d := by unfold alOf; rw [hop]; exact hd
        exact (shs b).1 (mbs b ⟨f, hf, d, hal', by rw [hb, val_blk]⟩)
      · intro i v' hop hw _ hvd g hg
        obtain ⟨d, hd, hm, hrd⟩ := hchk f hf i hop hw
        have hd' : rdI fr (hideL fr (als f.m D) (showL fr h (als e.m D) h1)) i = some v' := by rw [← hvd d hd hm]; exact hrd
        refine rdI_less (fun b => ?_) hd'
        have fs := hideL_spec (fr := fr) (b := b) (als f.m D) (showL fr h (als e.m D) h1)
        by_cases hb : BlkL fr (als f.m D) b
        · exact .inl (fs.1 hb)
        · rw [fs.2.1 hb]
          by_cases hl : ((showL fr h (als e.m D) h1).get b).live = true
          · refine .inr (hg b hl ?_).symm
            rintro ⟨d2, hd2, hb2⟩
            obtain ⟨f', hf', h3, h4⟩ := als_mem.1 hd2
            rcases List.mem_cons.1 hf' with rfl | hf'
            · rw [hal] at h4; cases h4
            · refine hb ⟨d2, als_mem.2 ⟨f', hf', h3, h4⟩, ?_⟩
              rw [← dne f' hf' d2 (alOf_dst h4)]; exact hb2
          · exact .inl (Ob.dead_of hl)
  · by_cases hb : BlkL fr (M.filterMap alOf) b
    · exact .inl ((gs b).1 hb)
    · rw [(gs b).2.1 hb]
      by_cases hb2 : BlkL fr (als e.m D) b
      · refine .inr (.inl ⟨(hhs b).1 hb2, ?_⟩)
        rw [(shs b).1 hb2]
        exact (I.vis b hb).symm
      · exact .inr (.inr ((shs b).2.1 hb2))

/-- The model runs an operation that changes nothing of memory. -/
theorem Inv.quiet [Env] (pl : Plan P ng ops S) {e : Ent} (hDS : ∀ f ∈ D, f ∈ S) (hM : ∀ f ∈ M, f ∈ D) (he : e ∈ S) (hk : ∀ f ∈ D, f.k ≠ e.k) (hclo : ∀ f ∈ D, has f.m e.k = false) (hMe : ∀ f ∈ M, has e.m f.k = false)
    (hna : alOf e = none) (I : Inv n0 D M fr h ρ fr0 g0 a w) {o : Oper} (ho : e.st.dst = o.dst.map Path.of) {v : V} {x : Value} {ρ' : Ren} {w' : World}
    (hr : HRel ρ' g0 w') (hx : Ext ρ g0 w ρ' g0 w') (hv : conc ρ' v = some x) :
    Inv n0 (e :: D) M (putD fr e.st.dst v) h ρ' (putD fr0 e.st.dst v) g0 (a.put o.dst x) w' := by
  have off := Off.put e.st.dst fr v
  have off0 := Off.put e.st.dst fr0 v
  have dne : ∀ f ∈ D, ∀ d, f.st.dst = some d → (putD fr e.st.dst v).get undefV d = fr.get undefV d := fun f hf d hd =>
    off.get d fun c => pl.dst f (hDS f hf) e he (hk f hf) d hd c
  have mbM : ∀ b, MB M (putD fr e.st.dst v) b ↔ MB M fr b := by
    intro b
    constructor
    · rintro ⟨f, hf, d, hd, hb⟩; exact ⟨f, hf, d, hd, by rw [← dne f (hM f hf) d (alOf_dst hd)]; exact hb⟩
    · rintro ⟨f, hf, d, hd, hb⟩; exact ⟨f, hf, d, hd, by rw [dne f (hM f hf) d (alOf_dst hd)]; exact hb⟩
  refine ⟨?_, ?_, ?_, hr, I.gn, ?_, ?_, ?_, ?_⟩
  · rw [ho]; exact put_spec (I.rel.later hx.later) hv
  · intro p hp
    by_cases hd : e.st.dst = some p
    · cases hm : fr.mem p with
      | true => rw [hd, putD_get (by rw [I.mem]; exact hm), putD_get hm]
      | false => rw [Tr.get_not_mem (by rw [off0.mem, I.mem]; exact hm), Tr.get_not_mem (by rw [off.mem]; exact hm)]
    · rw [off0.get p hd, off.get p hd]; exact I.same p hp
  · intro p; rw [off0.mem, off.mem, I.mem]
  · intro b hb
    obtain ⟨q1, q2, q3, q4⟩ := I.hid b (MB_iff.2 ((mbM b).1 (MB_iff.1 hb)))
    refine ⟨q1, ?_, q3, q4⟩
    cases e' : ρ' b with
    | none => rfl
    | some y =>
      rcases hx.fresh b y e' with h2 | h2
      · rw [q2] at h2; cases h2
      · rw [I.gn] at h2; omega
  · intro b hb; exact I.vis b fun c => hb (MB_iff.2 ((mbM b).2 (MB_iff.1 c)))
  · intro f hf f' hf' d d' b hd hd' hb hb'
    rw [dne f (hM f hf) d (alOf_dst hd)] at hb
    rw [dne f' (hM f' hf') d' (alOf_dst hd')] at hb'
    exact I.dist f hf f' hf' d d' b hd hd' hb hb'
  · intro f hf
    have hfD := hM f hf
    refine Pend.keep pl he (hDS f hfD) (hk f hfD) (hclo f hfD) (.inr (hMe f hf)) off (I.pend f hf) (fun _ _ _ _ _ _ _ => rfl) ?_
    intro i v' hop hw' horig _ g hg'
    refine horig g fun b hl hnb => hg' b hl ?_
    rintro ⟨d2, hd2, hb2⟩
    obtain ⟨f', hf', h3, h4⟩ := als_mem.1 hd2
    rcases List.mem_cons.1 hf' with rfl | hf'
    · rw [hna] at h4; cases h4
    · refine hnb ⟨d2, als_mem.2 ⟨f', hf', h3, h4⟩, ?_⟩
      rw [← dne f' hf' d2 (alOf_dst h4)]; exact hb2

end
end Go.Eng
