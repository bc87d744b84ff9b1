/- The engine, part Zb: regions whose order is open: the whole region. -/
import Derived.Test.YtjngjfgbholgpaaEngZ
set_option linter.unusedSimpArgs false
set_option linter.unusedVariables false
namespace Go.Eng

theorem Good.disj : ∀ {l D : List Ent}, Good D l → ∀ f ∈ D, ∀ g ∈ l, f.k ≠ g.k
  | [], _, _, _, _, _, hg => by cases hg
  | e :: l, D, h, f, hf, g, hg => by
    obtain ⟨h1, _, _, _, _, _, h2⟩ := h
    rcases List.mem_cons.1 hg with rfl | hg
    · exact h1 f hf
    · exact h2.disj f (by simp [hf]) g hg

theorem Good.inj : ∀ {l D : List Ent}, Good D l → ∀ e ∈ l, ∀ f ∈ l, e.k = f.k → e = f
  | [], _, _, _, he, _, _, _ => by cases he
  | g :: l, D, h, e, he, f, hf, hk => by
    have h2 : Good (g :: D) l := h.2.2.2.2.2.2
    rcases List.mem_cons.1 he with rfl | he' <;> rcases List.mem_cons.1 hf with rfl | hf'
    · rfl
    · exact absurd hk (h2.disj _ (by simp) f hf')
    · exact absurd hk.symm (h2.disj _ (by simp) e he')
    · exact h2.inj e he' f hf' hk

theorem Good.be : ∀ {l D : List Ent}, Good D l → ∀ e ∈ l, ∀ i, has e.m i = true → ∃ a ∈ e.af, i = a ∨ ∃ f, (f ∈ D ∨ f ∈ l) ∧ f.k = a ∧ has f.m i = true
  | [], _, _, _, he, _, _ => by cases he
  | g :: l, D, h, e, he, i, hi => by
    obtain ⟨_, _, _, h4, _, _, h2⟩ := h
    rcases List.mem_cons.1 he with rfl | he
    · obtain ⟨a, ha, h⟩ := h4 i hi
      refine ⟨a, ha, h.imp id ?_⟩
      rintro ⟨f, hf, h⟩; exact ⟨f, .inl hf, h⟩
    · obtain ⟨a, ha, h⟩ := h2.be e he i hi
      refine ⟨a, ha, h.imp id ?_⟩
      rintro ⟨f, hf, h⟩
      refine ⟨f, ?_, h⟩
      rcases hf with hf | hf
      · rcases List.mem_cons.1 hf with rfl | hf
        · exact .inr (by simp)
        · exact .inl hf
      · exact .inr (by simp [hf])

theorem Good.first {L : Nat → Prop} [DecidablePred L] : ∀ {l D : List Ent}, Good D l → (∀ f ∈ D, L f.k) → (∃ f ∈ l, ¬ L f.k) → ∃ g ∈ l, ¬ L g.k ∧ ∀ a ∈ g.af, L a
  | [], _, _, _, ⟨_, hf, _⟩ => by cases hf
  | g :: l, D, h, hD, ⟨f, hf, hn⟩ => by
    obtain ⟨_, h1, _, _, _, _, h2⟩ := h
    by_cases hg : L g.k
    · rcases List.mem_cons.1 hf with rfl | hf
      · exact absurd hg hn
      · obtain ⟨g', q1, q2⟩ := h2.first (L := L) (fun f' hf' => by
          rcases List.mem_cons.1 hf' with rfl | hf'
          · exact hg
          · exact hD f' hf') ⟨f, hf, hn⟩
        exact ⟨g', by simp [q1], q2⟩
    · refine ⟨g, by simp, hg, fun a ha => ?_⟩
      obtain ⟨f', hf', rfl⟩ := h1 a ha
      exact hD f' hf'

structure Pos (S D sfx : List Ent) : Prop where
  DS : ∀ f ∈ D, f ∈ S
  sS : ∀ f ∈ sfx, f ∈ S
  good : Good D sfx
  bef : ∀ f ∈ D, ∀ i, has f.m i = true → ∃ g ∈ D, g.k = i

theorem Pos.next {S D sfx : List Ent} {e : Ent} (h : Pos S D (e :: sfx)) : Pos S (e :: D) sfx := by
  have hg := h.good
  obtain ⟨g1, g2, g3, g4, g5, g7, g6⟩ := hg
  refine ⟨fun f hf => ?_, fun f hf => h.sS f (by simp [hf]), g6, fun f hf i hi => ?_⟩
  · rcases List.mem_cons.1 hf with rfl | hf
    · exact h.sS _ (by simp)
    · exact h.DS f hf
  · rcases List.mem_cons.1 hf with rfl | hf
    · obtain ⟨g, q1, q2⟩ := g3 i hi; exact ⟨g, by simp [q1], q2⟩
    · obtain ⟨g, q1, q2⟩ := h.bef f hf i hi; exact ⟨g, by simp [q1], q2⟩

section
variable {P : Program} {ng : Nat} {ops : Array Oper} {S : List Ent} {as : Act} {ρs : Ren} {hs : H} {ws : World}

structure Cfg [Env] (ops : Array Oper) (S D sfx M : List Ent) (fr : Tr V) (h : H) (as : Act) (ρs : Ren) (hs : H) (ws : World) (listed : Array Bool) (a : Act) (w : World) : Prop where
  sub : ∀ f ∈ M, f ∈ D
  lt : ∀ f ∈ M, f.hv = false
  nd : (M.map (·.k)).Nodup
  size : listed.size = ops.size
  un : ∀ j, listed.getD j true = false ↔ (∃ f ∈ M, f.k = j) ∨ (∃ f ∈ sfx, f.k = j)
  closed : ∀ f ∈ S, listed.getD f.k false = true → ∀ i, has f.m i = true → listed.getD i false = true
  defers : a.defers = as.defers
  inv : ∃ ρ fr0 g0, Inv hs.n D M fr h ρ fr0 g0 a w ∧ Ext ρs hs ws ρ g0 w

theorem getD_both {listed : Array Bool} {j : Nat} (h1 : listed.getD j true = false) (h2 : listed.getD j false = true) : False := by
  rw [Array.getD_eq_getD_getElem?] at h1 h2
  cases h : listed[j]? with
  | none => rw [h] at h2; cases h2
  | some b => rw [h] at h1 h2; simp at h1 h2; rw [h1] at h2; cases h2

theorem set_getD_self {listed : Array Bool} {k : Nat} (h : k < listed.size) (d : Bool) : (listed.setIfInBounds k true).getD k d = true := by
  simp [h]

theorem lt_of_getD {listed : Array Bool} {k : Nat} (h : listed.getD k true = false) : k < listed.size := by
  rcases Nat.lt_or_ge k listed.size with h' | h'
  · exact h'
  · simp [Array.getElem?_eq_none h'] at h

section
variable {D sfx M : List Ent} {fr : Tr V} {h : H} {listed : Array Bool} {a : Act} {w : World}

theorem edges_mem {o : Oper} {x : Nat} (h : x ∈ edges o) : ∃ e ∈ o.after, Region.binds .any e = true ∧ e.on = x := by
  unfold edges at h
  obtain ⟨e, he, rfl⟩ := List.mem_map.1 h
  obtain ⟨h1, h2⟩ := List.mem_filter.1 he
  exact ⟨e, by simpa using h1, h2, rfl⟩

theorem edges_of {o : Oper} {e : Edge} (h : e ∈ o.after) (hb : Region.binds .any e = true) : e.on ∈ edges o :=
  List.mem_map.2 ⟨e, List.mem_filter.2 ⟨by simpa using h, hb⟩, rfl⟩

/-- What comes before an operation that is ready has run. -/
theorem Cfg.bef [Env] (pl : Plan P ng ops S) (c : Cfg ops S D sfx M fr h as ρs hs ws listed a w) {e : Ent} (he : e ∈ S) (hr : e.k ∈ Region.ready .any ops listed) : ∀ i, has e.m i = true → listed.getD i false = true := by
  intro i hi
  obtain ⟨x, hx, hc⟩ := pl.good.be e he i hi
  obtain ⟨o, ho, _, haf⟩ := pl.ent e he
  obtain ⟨_, o', ho', hall⟩ := mem_ready.1 hr
  rw [ho] at ho'; cases ho'
  rw [haf] at hx
  obtain ⟨ed, h1, h2, rfl⟩ := edges_mem hx
  have := hall ed h1 h2
  rcases hc with rfl | ⟨f, hf, h3, h4⟩
  · exact this
  · rcases hf with hf | hf
    · cases hf
    · exact c.closed f hf (by rw [h3]; exact this) i h4

theorem Cfg.unM [Env] (c : Cfg ops S D sfx M fr h as ρs hs ws listed a w) {f : Ent} (hf : f ∈ M) : listed.getD f.k true = false := (c.un f.k).2 (.inl ⟨f, hf, rfl⟩)
theorem Cfg.unS [Env] (c : Cfg ops S D sfx M fr h as ρs hs ws listed a w) {f : Ent} (hf : f ∈ sfx) : listed.getD f.k true = false := (c.un f.k).2 (.inr ⟨f, hf, rfl⟩)

/-- While something is left, something is ready. -/
theorem Cfg.left [Env] (pl : Plan P ng ops S) (ps : Pos S D sfx) (c : Cfg ops S D sfx M fr h as ρs hs ws listed a w) (hr : Region.ready .any ops listed = []) : M = [] ∧ sfx = [] := by
  have key : ∀ f ∈ S, listed.getD f.k true = false → False := by
    intro f hf hu
    obtain ⟨g, hg, h1, h2⟩ := pl.good.first (L := fun j => listed.getD j false = true) (fun _ h => by cases h) ⟨f, hf, fun h2 => getD_both hu h2⟩
    obtain ⟨o, ho, _, haf⟩ := pl.ent g hg
    have : g.k ∈ Region.ready .any ops listed := by
      refine mem_ready.2 ⟨?_, o, ho, fun ed he hb => h2 _ (by rw [haf]; exact edges_of he hb)⟩
      have hlt : g.k < listed.size := by rw [c.size]; exact (Array.getElem?_eq_some_iff.1 ho).1
      simp [hlt] at h1 ⊢
      exact h1
    rw [hr] at this; cases this
  constructor
  · cases M with
    | nil => rfl
    | cons f M => exact (key f (ps.DS f (c.sub f (by simp))) (c.unM (by simp))).elim
  · cases sfx with
    | nil => rfl
    | cons f M => exact (key f (ps.sS f (by simp)) (c.unS (by simp))).elim

theorem Cfg.slots [Env] (pl : Plan P ng ops S) (ps : Pos S D sfx) (c : Cfg ops S D sfx M fr h as ρs hs ws listed a w) {e : Ent} (he : e ∈ S) (hr : e.k ∈ Region.ready .any ops listed) {ρ : Ren} {fr0 : Tr V} {g0 : H}
    (I : Inv hs.n D M fr h ρ fr0 g0 a w) : SameOn fr0 fr e.st.op.opds ∧ wantd fr0 e.st.gd = wantd fr e.st.gd := by
  refine slots_same fun p hp => I.same p fun f hf hd => ?_
  rcases pl.slot e he f (ps.DS f (c.sub f hf)) p hd hp with this | ⟨h1, _⟩
  · exact getD_both (c.unM hf) (c.bef pl he hr _ this)
  · rw [c.lt f hf] at h1; cases h1

theorem Cfg.closed' [Env] (pl : Plan P ng ops S) (c : Cfg ops S D sfx M fr h as ρs hs ws listed a w) {e : Ent} (he : e ∈ S) (hr : e.k ∈ Region.ready .any ops listed) :
    ∀ f ∈ S, (listed.setIfInBounds e.k true).getD f.k false = true → ∀ i, has f.m i = true → (listed.setIfInBounds e.k true).getD i false = true := by
  intro f hf hl i hi
  by_cases hk : e.k = f.k
  · have : e = f := pl.good.inj e he f hf hk
    subst this
    exact getD_set_true (c.bef pl he hr i hi)
  · rw [getD_set_ne false hk] at hl
    exact getD_set_true (c.closed f hf hl i hi)

theorem wanted_of [Env] {o : Oper} {e : Ent} {ρ : Ren} {fr0 : Tr V} (hst : e.st = cSt P ng ops o) (hf : FrRel ρ fr0 a.tmps) (hh : e.st.op ≠ .bad ∨ wantd fr0 e.st.gd = false) :
    Region.wanted o (yielded ops a.tmps) = wantd fr0 e.st.gd := by
  rw [hst] at hh ⊢
  rcases hh with hh | hh
  · exact wantd_spec hf (cSt_guard hh).1
  · exact wantd_spec hf (cSt_unwanted hh)

theorem cI_inv {o : Oper} : (∀ i, cI P ng o = .pu i → cP P ng o = some i) ∧ (∀ i, cI P ng o = .rd i → cR P ng o = some i) ∧ (∀ i, cI P ng o = .al i → cA P ng o = some i) ∧
    (∀ i, cI P ng o = .hv i → cH P ng o = some i) := by
  unfold cI
  refine ⟨fun i h => ?_, fun i h => ?_, fun i h => ?_, fun i h => ?_⟩
  all_goals
    split at h
    · first
        | (rename_i j e; rw [e]; cases h; rfl)
        | cases h
    · split at h
      · first
          | (rename_i j e; rw [e]; cases h; rfl)
          | cases h
      · split at h
        · first
            | (rename_i j e; rw [e]; cases h; rfl)
            | cases h
        · split at h
          · first
              | (rename_i j e; rw [e]; cases h; rfl)
              | cases h
          · cases h

/-- The model runs an operation that the evaluator has run. -/
theorem Cfg.step [Env] (pl : Plan P ng ops S) (ps : Pos S D sfx) (hgs : Glob ng ρs) {l r : List Ent} {e : Ent} (c : Cfg ops S D sfx (l ++ e :: r) fr h as ρs hs ws listed a w) (hr : e.k ∈ Region.ready .any ops listed)
    {Q : Exit → Act → World → Prop} {K : Act → World → Prop} (hK : ∀ a' w', Cfg ops S D sfx (l ++ r) fr h as ρs hs ws (listed.setIfInBounds e.k true) a' w' → K a' w') : wpOp P ops Q e.k K a w := by
  obtain ⟨ρ, fr0, g0, I, hx⟩ := c.inv
  have heM : e ∈ l ++ e :: r := by simp
  have he : e ∈ S := ps.DS e (c.sub e heM)
  obtain ⟨o, ho, hst, haf⟩ := pl.ent e he
  have hg : Glob ng ρ := hgs.later hx.later
  obtain ⟨s1, s2⟩ := c.slots pl ps he hr I
  have hp := I.pend e heM
  have hM : ∀ f, f ∈ l ++ e :: r ↔ f = e ∨ f ∈ l ++ r := by intro f; simp only [List.mem_append, List.mem_cons]; constructor <;> intro h <;> (rcases h with h | h | h <;> simp [h])
  have hne : ∀ f ∈ l ++ r, f.k ≠ e.k := by
    intro f hf hk
    have hnd := c.nd
    rw [List.map_append, List.map_cons] at hnd
    have h1 := List.perm_middle.nodup_iff.1 hnd
    rw [List.nodup_cons] at h1
    refine h1.1 ?_
    rw [← hk, ← List.map_append]
    exact List.mem_map.2 ⟨f, hf, rfl⟩
  have hlt : e.k < listed.size := lt_of_getD (c.unM heM)
  -- the next state, given what holds in it
  have fin : ∀ (ρ' : Ren) (v : V) (x : Value) (g0' : H) (w' : World), Inv hs.n D (l ++ r) fr h ρ' (putD fr0 e.st.dst v) g0' (a.put o.dst x) w' → Ext ρs hs ws ρ' g0' w' → K (a.put o.dst x) w' := by
    intro ρ' v x g0' w' I' hx'
    refine hK _ _ ⟨fun f hf => c.sub f ((hM f).2 (.inr hf)), fun f hf => c.lt f ((hM f).2 (.inr hf)), ?_, by rw [Array.size_setIfInBounds]; exact c.size, fun j => ?_, c.closed' pl he hr, by rw [Go.Eng.put_defers]; exact c.defers, ρ', _, g0', I', hx'⟩
    · have hnd := c.nd
      rw [List.map_append, List.map_cons] at hnd
      have h1 := List.perm_middle.nodup_iff.1 hnd
      rw [List.nodup_cons, ← List.map_append] at h1
      exact h1.2
    · by_cases hj : e.k = j
      · subst hj
        rw [set_getD_self hlt]
        simp only [Bool.true_eq_false, false_iff]
        rintro (⟨f, hf, hk⟩ | ⟨f, hf, hk⟩)
        · exact hne f hf hk
        · exact ps.good.disj e (c.sub e heM) f hf hk.symm
      · rw [getD_set_ne true hj, c.un j]
        constructor
        · rintro (⟨f, hf, hk⟩ | h)
          · rcases (hM f).1 hf with rfl | hf
            · exact absurd hk hj
            · exact .inl ⟨f, hf, hk⟩
          · exact .inr h
        · rintro (⟨f, hf, hk⟩ | h)
          · exact .inl ⟨f, (hM f).2 (.inr hf), hk⟩
          · exact .inr h
  have hdst : e.st.dst = o.dst.map Path.of := by rw [hst]; exact cSt_dst
  have hfree : ∀ (ρ' : Ren), (∀ p x, ρ' p = some x → ρ p = some x ∨ g0.n.num ≤ p.num) → ∀ b, MB (l ++ r) fr b → ρ' b = none := by
    rintro ρ' hf b ⟨f, hf1, d, hd, hb⟩
    obtain ⟨_, q2, _, q4⟩ := I.hid b (MB_iff.2 ⟨f, (hM f).2 (.inr hf1), d, hd, hb⟩)
    cases e' : ρ' b with
    | none => rfl
    | some y =>
      rcases hf b y e' with h2 | h2
      · rw [q2] at h2; cases h2
      · rw [I.gn] at h2; omega
  unfold wpOp
  simp only [ho]
  unfold Pend at hp
  cases hw : wantd fr e.st.gd with
  | false =>
    rw [hw] at hp
    rw [wanted_of hst I.rel (.inr (by rw [s2]; exact hw)), s2, hw]
    refine fin ρ undefV undef g0 w (I.listed hM hne hdst hp (.refl _) I.hrel I.gn rfl (fun b hb => ?_) (fun b _ => rfl) (hfree ρ fun _ _ h => .inl h)) hx
    obtain ⟨d, hd, hb⟩ := hb
    exfalso
    have hd' := alOf_dst hd
    cases hm : fr.mem d with
    | true => rw [hp d hd' hm] at hb; cases hb
    | false => rw [Tr.get_not_mem hm] at hb; cases hb
  | true =>
    rw [hw] at hp
    obtain ⟨v, hval, hop⟩ := hp
    have hbad : e.st.op ≠ .bad := by intro c; rw [c] at hop; exact hop
    have hcI : e.st.op = cI P ng o := by
      have := (cSt_guard (P := P) (ng := ng) (ops := ops) (o := o) (by rw [← hst]; exact hbad)).2
      rw [hst]; exact this
    rw [wanted_of hst I.rel (.inl hbad), s2, hw]
    simp only [if_true]
    left
    have noal : (∀ i, e.st.op ≠ .al i) → alOf e = none := by
      intro hn
      unfold alOf
      split
      · rename_i i hi; exact absurd hi (hn i)
      · rfl
    -- an operation that makes no block
    have plain : alOf e = none → StepOk P ng o fr0 g0 v g0 → o.wp P a w K Q := by
      intro hna hstep
      refine hstep ρ a w hg I.rel I.hrel K Q fun ρ' x w' hv hr' hx' => ?_
      refine fin ρ' v x g0 w' (I.listed hM hne hdst hval hx'.later hr' I.gn hv (fun b hb => ?_) (fun b _ => rfl) (hfree ρ' hx'.fresh)) (hx.trans hx')
      obtain ⟨d, hd, _⟩ := hb
      rw [hna] at hd; cases hd
    cases hi : e.st.op with
    | pu i =>
      rw [hi] at hop s1
      rw [hi] at hcI
      simp only at hop
      exact plain (noal fun j => by rw [hi]; exact fun h => by cases h) (step_pu (cI_inv.1 i hcI.symm) (by rw [puI_same s1]; exact hop))
    | rd i =>
      rw [hi] at hop s1
      rw [hi] at hcI
      simp only at hop
      refine plain (noal fun j => by rw [hi]; exact fun h => by cases h) (step_rd (cI_inv.2.1 i hcI.symm) ?_)
      rw [rdI_same s1]
      refine hop g0 fun b _ hnb => I.vis b fun hb => hnb ?_
      obtain ⟨f, hf, d, hd, hb⟩ := MB_iff.1 hb
      refine ⟨d, als_mem.2 ⟨f, c.sub f hf, ?_, hd⟩, hb⟩
      cases hh : has e.m f.k with
      | false => rfl
      | true => exact (getD_both (c.unM hf) (c.bef pl he hr _ hh)).elim
    | al i =>
      rw [hi] at hop s1
      rw [hi] at hcI
      simp only at hop
      obtain ⟨ob, kk, b, d, q1, q2, q3, q4, q5⟩ := hop
      have hald : alOf e = some d := by unfold alOf; rw [hi]; exact q2
      have hbd : blkOf (fr.get undefV d) = some b := by rw [hval d q2 q3, q4, val_blk]
      obtain ⟨x, obj, sz, w', hrun, hwh, hst2, hob, hv⟩ := al_sound hg I.rel (cI_inv.2.2.1 i hcI.symm) (by rw [alI_same s1]; exact q1) w
      obtain ⟨i1, i2, i3, i4⟩ := I.hid b (MB_iff.2 ⟨e, heM, d, hald, hbd⟩)
      simp only [Oper.wp, hrun, Oper.upon]
      have gg : ∀ p, (g0.put b ob).get p = if p = b then ob else g0.get p := fun p => H.get_put _ _ _ _
      have r1 := I.hrel.newAt (g' := g0.put b ob) i2 (by rw [I.gn]; exact i4) hob gg rfl hwh
      have r2 := hx.newAt (g' := g0.put b ob) (sz := sz) i2 i3 gg rfl hwh hst2
      have uniq : ∀ b', (∃ d, alOf e = some d ∧ blkOf (fr.get undefV d) = some b') → b' = b := by
        rintro b' ⟨d', h1, h2⟩
        rw [hald] at h1; cases h1
        rw [hbd] at h2; cases h2; rfl
      refine fin _ v x (g0.put b ob) w' (I.listed hM hne hdst hval (Ren.later_add i2) r1 I.gn (by rw [q4]; exact hv _ _ (Ren.add_self ..)) (fun b' hb' => ?_) (fun b' hb' => ?_) fun b' hb' => ?_) r2
      · rw [uniq b' hb', gg, if_pos rfl, q5]
      · rw [gg, if_neg]
        rintro rfl
        exact hb' ⟨d, hald, hbd⟩
      · obtain ⟨f, hf, d', h1, h2⟩ := hb'
        have hbb : b' ≠ b := by
          rintro rfl
          exact hne f hf (I.dist f ((hM f).2 (.inr hf)) e heM d' d b' h1 hald h2 hbd)
        rw [Ren.add_ne hbb]
        exact (I.hid b' (MB_iff.2 ⟨f, (hM f).2 (.inr hf), d', h1, h2⟩)).2.1
    | hv i => rw [hi] at hop; exact hop.elim
    | bad => exact absurd hi hbad

end
end
end Go.Eng
