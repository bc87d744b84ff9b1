/- The engine, part Y: regions whose order is open: what holds between the operations. -/
import Derived.Test.YtjngjfgbholgpaaEngX
set_option linter.unusedSimpArgs false
set_option linter.unusedVariables false
namespace Go.Eng

theorem Tr.get_not_mem {α : Type} {d : α} : ∀ {t : Tr α} {p : Path}, t.mem p = false → t.get d p = d
  | .nil, p, _ => by simp
  | .nd l v r, .e, h => by simp [Tr.mem] at h
  | .nd l v r, .l p, h => by simp [Tr.mem] at h; simpa using Tr.get_not_mem h
  | .nd l v r, .r p, h => by simp [Tr.mem] at h; simpa using Tr.get_not_mem h

theorem Ob.dead_of {o : Ob} (h : ¬ o.live = true) : o = .dead := by cases o <;> simp [Ob.live] at h ⊢

def BlkL (fr : Tr V) (l : List Path) (b : Path) : Prop := ∃ d ∈ l, blkOf (fr.get undefV d) = some b

theorem BlkL_cons {fr : Tr V} {d : Path} {l : List Path} {b : Path} : BlkL fr (d :: l) b ↔ blkOf (fr.get undefV d) = some b ∨ BlkL fr l b := by simp [BlkL]

theorem hideL_spec {fr : Tr V} {b : Path} : ∀ (l : List Path) (h : H), (BlkL fr l b → (hideL fr l h).get b = .dead) ∧ (¬ BlkL fr l b → (hideL fr l h).get b = h.get b) ∧ (hideL fr l h).n = h.n
  | [], h => ⟨fun ⟨_, h, _⟩ => (by cases h), fun _ => rfl, rfl⟩
  | d :: l, h => by
    simp only [hideL]
    cases hb : blkOf (fr.get undefV d) with
    | none =>
      obtain ⟨h1, h2, h3⟩ := hideL_spec (fr := fr) (b := b) l h
      simp only [BlkL_cons, hb, reduceCtorEq, false_or]
      exact ⟨h1, h2, h3⟩
    | some c =>
      obtain ⟨h1, h2, h3⟩ := hideL_spec (fr := fr) (b := b) l (h.put c .dead)
      simp only [BlkL_cons, hb, Option.some.injEq]
      refine ⟨?_, ?_, h3⟩
      · intro hc
        by_cases e : BlkL fr l b
        · exact h1 e
        · rw [h2 e, H.get_put]
          rcases hc with rfl | hc
          · simp
          · exact absurd hc e
      · intro hc
        rw [h2 (fun e => hc (.inr e)), H.get_put, if_neg (fun e => hc (.inl e.symm))]

theorem showL_spec {fr : Tr V} {h0 : H} {b : Path} : ∀ (l : List Path) (h : H), (BlkL fr l b → (showL fr h0 l h).get b = h0.get b) ∧ (¬ BlkL fr l b → (showL fr h0 l h).get b = h.get b) ∧ (showL fr h0 l h).n = h.n
  | [], h => ⟨fun ⟨_, h, _⟩ => (by cases h), fun _ => rfl, rfl⟩
  | d :: l, h => by
    simp only [showL]
    cases hb : blkOf (fr.get undefV d) with
    | none =>
      obtain ⟨h1, h2, h3⟩ := showL_spec (fr := fr) (h0 := h0) (b := b) l h
      simp only [BlkL_cons, hb, reduceCtorEq, false_or]
      exact ⟨h1, h2, h3⟩
    | some c =>
      obtain ⟨h1, h2, h3⟩ := showL_spec (fr := fr) (h0 := h0) (b := b) l (h.put c (h0.get c))
      simp only [BlkL_cons, hb, Option.some.injEq]
      refine ⟨?_, ?_, h3⟩
      · intro hc
        by_cases e : BlkL fr l b
        · exact h1 e
        · rw [h2 e, H.get_put]
          rcases hc with rfl | hc
          · simp
          · exact absurd hc e
      · intro hc
        rw [h2 (fun e => hc (.inr e)), H.get_put, if_neg (fun e => hc (.inl e.symm))]

theorem als_mem {m : Nat} {d : Path} : ∀ {D : List Ent}, d ∈ als m D ↔ ∃ f ∈ D, has m f.k = false ∧ alOf f = some d
  | [] => by simp [als]
  | f :: D => by
    simp only [als]
    cases h : has m f.k with
    | true => simp [als_mem, h]
    | false =>
      simp only [cond_false]
      cases ha : alOf f with
      | none =>
        show d ∈ als m D ↔ _
        rw [als_mem]
        constructor
        · rintro ⟨g, h1, h2⟩; exact ⟨g, List.mem_cons.2 (.inr h1), h2⟩
        · rintro ⟨g, h1, h2, h3⟩
          rcases List.mem_cons.1 h1 with rfl | h1
          · rw [ha] at h3; cases h3
          · exact ⟨g, h1, h2, h3⟩
      | some c =>
        show d ∈ c :: als m D ↔ _
        rw [List.mem_cons, als_mem]
        constructor
        · rintro (rfl | ⟨g, h1, h2⟩)
          · exact ⟨f, List.mem_cons.2 (.inl rfl), h, ha⟩
          · exact ⟨g, List.mem_cons.2 (.inr h1), h2⟩
        · rintro ⟨g, h1, h2, h3⟩
          rcases List.mem_cons.1 h1 with rfl | h1
          · rw [ha] at h3; cases h3; exact .inl rfl
          · exact .inr ⟨g, h1, h2, h3⟩

theorem chks_mem {m : Nat} {D0 : List Ent} {f : Ent} {i : RI} (hop : f.st.op = .rd i) (hm : has m f.k = false) : ∀ {D : List Ent}, f ∈ D → (f.st, als f.m D0) ∈ chks m D0 D
  | [], h => by cases h
  | g :: D, h => by
    simp only [chks]
    rcases List.mem_cons.1 h with rfl | h
    · rw [hm]; simp [hop]
    · have := chks_mem hop hm h (D0 := D0)
      cases has m g.k with
      | true => exact this
      | false =>
        simp only [cond_false]
        split
        · exact List.mem_cons.2 (.inr this)
        · exact this

/-! ### Heaps -/

/-- A new block under a name that is free. -/
theorem HRel.newAt [Env] {ρ : Ren} {g g' : H} {w w' : World} {b : Path} {o : Ob} {x : Obj} {sz : Nat} (hr : HRel ρ g w) (hb : ρ b = none) (hlow : b.num < g.n.num) (ho : ObRel ρ sz o (some x))
    (hg : ∀ p, g'.get p = if p = b then o else g.get p) (hn : g'.n = g.n) (hw : w'.heap = w.heap.push x) : HRel (ρ.add b (w.heap.size, sz)) g' w' := by
  have hl : Later ρ (ρ.add b (w.heap.size, sz)) := Ren.later_add hb
  have key : ∀ p y, (ρ.add b (w.heap.size, sz)) p = some y → (p = b ∧ y = (w.heap.size, sz)) ∨ (p ≠ b ∧ ρ p = some y) := by
    intro p y hp
    by_cases e : p = b
    · subst e; rw [Ren.add_self] at hp; exact .inl ⟨rfl, by cases hp; rfl⟩
    · rw [Ren.add_ne e] at hp; exact .inr ⟨e, hp⟩
  refine ⟨?_, ?_, ?_, ?_, ?_⟩
  · intro p y hp
    rw [hn]
    rcases key p y hp with ⟨rfl, _⟩ | ⟨_, h1⟩
    · exact hlow
    · exact hr.dom _ _ h1
  · intro p y hp
    rw [hw]
    rcases key p y hp with ⟨_, rfl⟩ | ⟨_, h1⟩
    · simp
    · have := hr.inside _ _ h1; simp; omega
  · intro p hp
    rw [hg] at hp ⊢
    by_cases e : p = b
    · subst e
      rw [if_pos rfl] at hp ⊢
      exact ⟨_, Ren.add_self .., by rw [hw]; simpa using ho.later hl⟩
    · rw [if_neg e] at hp ⊢
      obtain ⟨y, h1, h2⟩ := hr.ob p hp
      refine ⟨y, by rw [Ren.add_ne e]; exact h1, ?_⟩
      have := hr.inside _ _ h1
      rw [hw, Array.getElem?_push, if_neg (by omega)]
      exact h2.later hl
  · intro p q y z hp hq h1 h2 h3
    rw [hg] at hp hq
    rcases key p y h1 with ⟨e1, f1⟩ | ⟨e1, f1⟩ <;> rcases key q z h2 with ⟨e2, f2⟩ | ⟨e2, f2⟩
    · rw [e1, e2]
    · have := hr.inside _ _ f2; subst f1; simp at h3; omega
    · have := hr.inside _ _ f1; subst f2; simp at h3; omega
    · rw [if_neg e1] at hp; rw [if_neg e2] at hq
      exact hr.inj p q y z hp hq f1 f2 h3
  · intro k v hv
    obtain ⟨⟨e, fz, hc⟩, hno⟩ := hr.keep k v hv
    have hlt : k < w.heap.size := (Array.getElem?_eq_some_iff.1 hc).1
    refine ⟨⟨e, fz, by rw [hw, Array.getElem?_push, if_neg (by omega)]; exact hc⟩, fun p y hp h1 => ?_⟩
    rw [hg] at hp
    rcases key p y h1 with ⟨rfl, rfl⟩ | ⟨e1, h1⟩
    · simp; omega
    · rw [if_neg e1] at hp; exact hno p y hp h1

theorem Ext.newAt {ρs ρ : Ren} {hs g g' : H} {ws w w' : World} {b : Path} {o : Ob} {x : Obj} {sz : Nat} (hx : Ext ρs hs ws ρ g w) (hb : ρ b = none) (hs0 : hs.n.num ≤ b.num)
    (hg : ∀ p, g'.get p = if p = b then o else g.get p) (hn : g'.n = g.n) (hw : w'.heap = w.heap.push x) (hst : Str w w') : Ext ρs hs ws (ρ.add b (w.heap.size, sz)) g' w' := by
  refine ⟨hx.later.trans (Ren.later_add hb), by rw [hw]; have := hx.size; simp; omega, fun k hk hf => ?_, fun p y hp h1 => ?_, fun p y h1 => ?_, by rw [hn]; exact hx.mono, hx.str.trans hst⟩
  · have := hx.size
    rw [hw, Array.getElem?_push, if_neg (by omega)]
    exact hx.frame k hk hf
  · rw [hg] at hp
    by_cases e : p = b
    · subst e
      rw [Ren.add_self] at h1; cases h1
      exact .inl hx.size
    · rw [if_neg e] at hp; rw [Ren.add_ne e] at h1
      exact hx.img p y hp h1
  · by_cases e : p = b
    · subst e; exact .inr hs0
    · rw [Ren.add_ne e] at h1; exact hx.fresh p y h1

/-- What was hidden while something ran is there again. -/
theorem back [Env] {ρ ρ' : Ren} {g hh h1 g' : H} {w w' : World} (hr : HRel ρ g w) (hl : Less hh g) (hn : hh.n = g.n) (hr1 : HRel ρ' h1 w') (hx : Ext ρ hh w ρ' h1 w')
    (hg : ∀ b, g'.get b = .dead ∨ (hh.get b = .dead ∧ g'.get b = g.get b) ∨ g'.get b = h1.get b) (hgn : g'.n = h1.n) : HRel ρ' g' w' ∧ Ext ρ g w ρ' g' w' := by
  have lv : ∀ b, (hh.get b).live = true → (g.get b).live = true := by
    intro b hb
    rcases hl b with e | e
    · rw [e] at hb; cases hb
    · rw [← e]; exact hb
  have apart : ∀ b x, hh.get b = .dead → (g.get b).live = true → ρ b = some x → ∀ p y, (hh.get p).live = true → ρ p = some y → y.1 ≠ x.1 := by
    intro b x hb hgb hx p y hp hy e
    have := hr.inj p b y x (lv p hp) hgb hy hx e
    subst this
    rw [hb] at hp; cases hp
  have cas : ∀ b, (g'.get b).live = true → (hh.get b = .dead ∧ g'.get b = g.get b ∧ (g.get b).live = true) ∨ (g'.get b = h1.get b ∧ (h1.get b).live = true) := by
    intro b hb
    rcases hg b with e | ⟨e1, e2⟩ | e
    · rw [e] at hb; cases hb
    · exact .inl ⟨e1, e2, by rw [← e2]; exact hb⟩
    · exact .inr ⟨e, by rw [← e]; exact hb⟩
  have mixed : ∀ p q x y, (hh.get p = .dead ∧ g'.get p = g.get p ∧ (g.get p).live = true) → (h1.get q).live = true → ρ' p = some x → ρ' q = some y → x.1 = y.1 → False := by
    intro p q x y ⟨e1, e2, e3⟩ hq hx' hy e
    obtain ⟨x0, h0, _⟩ := hr.ob p e3
    have : x0 = x := by have := hx.later p x0 h0; rw [this] at hx'; cases hx'; rfl
    subst this
    rcases hx.img q y hq hy with h2 | ⟨r, z, hr', hz, h2⟩
    · have := hr.inside p x0 h0; omega
    · exact apart p x0 e1 e3 h0 r z hr' hz (by omega)
  refine ⟨⟨fun p x hp => by rw [hgn]; exact hr1.dom p x hp, hr1.inside, fun p hp => ?_, fun p q x y hp hq hx' hy e => ?_, fun k v hv => ?_⟩,
    ⟨hx.later, hx.size, fun b hb hf => hx.frame b hb fun p x hp => hf p x (lv p hp), fun p x hp hx' => ?_, fun p x hp => by rw [← hn]; exact hx.fresh p x hp, by rw [hgn, ← hn]; exact hx.mono, hx.str⟩⟩
  · rcases cas p hp with ⟨e1, e2, e3⟩ | ⟨e1, e2⟩
    · obtain ⟨x0, h0, h2⟩ := hr.ob p e3
      refine ⟨x0, hx.later p x0 h0, ?_⟩
      rw [e2, hx.frame x0.1 (hr.inside p x0 h0) fun q y hq hy => apart p x0 e1 e3 h0 q y hq hy]
      exact h2.later hx.later
    · rw [e1]; exact hr1.ob p e2
  · rcases cas p hp with c1 | ⟨_, c1⟩ <;> rcases cas q hq with c2 | ⟨_, c2⟩
    · obtain ⟨x0, h0, _⟩ := hr.ob p c1.2.2
      obtain ⟨y0, h0', _⟩ := hr.ob q c2.2.2
      have e1 : x0 = x := by have := hx.later p x0 h0; rw [this] at hx'; cases hx'; rfl
      have e2 : y0 = y := by have := hx.later q y0 h0'; rw [this] at hy; cases hy; rfl
      subst e1; subst e2
      exact hr.inj p q x0 y0 c1.2.2 c2.2.2 h0 h0' e
    · exact (mixed p q x y c1 c2 hx' hy e).elim
    · exact (mixed q p y x c2 c1 hy hx' e.symm).elim
    · exact hr1.inj p q x y c1 c2 hx' hy e
  · refine ⟨(hr1.keep k v hv).1, fun p y hp h1 => ?_⟩
    rcases cas p hp with ⟨_, _, e3⟩ | ⟨_, c1⟩
    · obtain ⟨x0, h0, _⟩ := hr.ob p e3
      have e1 : x0 = y := by have := hx.later p x0 h0; rw [this] at h1; cases h1; rfl
      subst e1
      exact (hr.keep k v hv).2 p x0 e3 h0
    · exact (hr1.keep k v hv).2 p y c1 h1
  · rcases cas p hp with ⟨e1, e2, e3⟩ | ⟨_, c1⟩
    · obtain ⟨x0, h0, _⟩ := hr.ob p e3
      have e1 : x0 = x := by have := hx.later p x0 h0; rw [this] at hx'; cases hx'; rfl
      subst e1
      exact .inr ⟨p, x0, e3, h0, rfl⟩
    · rcases hx.img p x c1 hx' with h2 | ⟨q, y, hq, hy, h2⟩
      · exact .inl h2
      · exact .inr ⟨q, y, lv q hq, hy, h2⟩

/-! ### What holds between the operations -/

/-- What is known of an operation that the evaluator has run, and the model has not. -/
def Pend (D : List Ent) (e : Ent) (fr : Tr V) (h : H) : Prop :=
  match wantd fr e.st.gd with
  | false => ∀ d, e.st.dst = some d → fr.mem d = true → fr.get undefV d = undefV
  | true => ∃ v, (∀ d, e.st.dst = some d → fr.mem d = true → fr.get undefV d = v) ∧
    match e.st.op with
    | .pu i => puI fr i = some v
    | .rd i => ∀ g : H, (∀ b, (h.get b).live = true → ¬ BlkL fr (als e.m D) b → g.get b = h.get b) → rdI fr g i = some v
    | .al i => ∃ ob kk b d, alI fr i = some (ob, kk) ∧ e.st.dst = some d ∧ fr.mem d = true ∧ v = kk.val b ∧ h.get b = ob
    | _ => False

structure Inv [Env] (n0 : Path) (D M : List Ent) (fr : Tr V) (h : H) (ρ : Ren) (fr0 : Tr V) (g0 : H) (a : Act) (w : World) : Prop where
  rel : FrRel ρ fr0 a.tmps
  same : ∀ p, (∀ e ∈ M, e.st.dst ≠ some p) → fr0.get undefV p = fr.get undefV p
  mem : ∀ p, fr0.mem p = fr.mem p
  hrel : HRel ρ g0 w
  gn : g0.n = h.n
  hid : ∀ b, BlkL fr (M.filterMap alOf) b → g0.get b = .dead ∧ ρ b = none ∧ n0.num ≤ b.num ∧ b.num < h.n.num
  vis : ∀ b, ¬ BlkL fr (M.filterMap alOf) b → g0.get b = h.get b
  dist : ∀ e ∈ M, ∀ f ∈ M, ∀ d d' b, alOf e = some d → alOf f = some d' → blkOf (fr.get undefV d) = some b → blkOf (fr.get undefV d') = some b → e.k = f.k
  pend : ∀ e ∈ M, Pend D e fr h

theorem alOf_dst {e : Ent} {d : Path} (h : alOf e = some d) : e.st.dst = some d := by
  unfold alOf at h
  split at h
  · exact h
  · cases h

theorem val_blk (k : AK) (b : Path) : blkOf (k.val b) = some b := by cases k <;> rfl

theorem Inv.low [Env] {n0 : Path} {D M : List Ent} {fr : Tr V} {h : H} {ρ : Ren} {fr0 : Tr V} {g0 : H} {a : Act} {w : World} (I : Inv n0 D M fr h ρ fr0 g0 a w) : h.get h.n = .dead := by
  apply Ob.dead_of
  intro hl
  by_cases hb : BlkL fr (M.filterMap alOf) h.n
  · have := (I.hid _ hb).2.2.2; omega
  · have e := I.vis _ hb
    rw [← e] at hl
    obtain ⟨x, hx, _⟩ := I.hrel.ob _ hl
    have := I.hrel.dom _ _ hx
    rw [I.gn] at this
    omega

/-- A frame that is another at one operation's place. -/
structure Off (d : Option Path) (fr fr' : Tr V) : Prop where
  get : ∀ p, d ≠ some p → fr'.get undefV p = fr.get undefV p
  mem : ∀ p, fr'.mem p = fr.mem p

theorem Off.put (d : Option Path) (fr : Tr V) (v : V) : Off d fr (putD fr d v) := by
  cases d with
  | none => exact ⟨fun _ _ => rfl, fun _ => rfl⟩
  | some d =>
    refine ⟨fun p hp => ?_, fun p => Tr.mem_set _ _ _ _⟩
    show (fr.set d v).get undefV p = _
    rw [Tr.get_set, if_neg (fun c => hp (by rw [c.1]))]

theorem putD_get {d : Path} {fr : Tr V} {v : V} (h : fr.mem d = true) : (putD fr (some d) v).get undefV d = v := by
  show (fr.set d v).get undefV d = _
  rw [Tr.get_set, if_pos ⟨rfl, h⟩]

theorem slots_same {s : St} {fr fr' : Tr V} (h : ∀ p ∈ s.slots, fr.get undefV p = fr'.get undefV p) : SameOn fr fr' s.op.opds ∧ wantd fr s.gd = wantd fr' s.gd := by
  constructor
  · intro o ho
    cases o with
    | t p => exact h p (by unfold St.slots; exact List.mem_append_left _ (List.mem_filterMap.2 ⟨_, ho, rfl⟩))
    | c v => rfl
  · unfold wantd
    cases hg : s.gd with
    | none => rfl
    | some g =>
      obtain ⟨p, b⟩ := g
      simp only
      rw [h p (by unfold St.slots; rw [hg]; simp)]

section
variable {P : Program} {ng : Nat} {ops : Array Oper} {S : List Ent}

/-- An operation that runs changes nothing that another, which has run, looks at. -/
theorem Pend.keep (pl : Plan P ng ops S) {D : List Ent} {e f : Ent} {fr fr' : Tr V} {h h' : H} (he : e ∈ S) (hf : f ∈ S) (hfe : f.k ≠ e.k) (hbef : has f.m e.k = false) (hwar : e.hv = false ∨ has e.m f.k = false)
    (ho : Off e.st.dst fr fr') (hp : Pend D f fr h)
    (hal : ∀ i, f.st.op = .al i → ∀ d, f.st.dst = some d → ∀ kk b, fr.get undefV d = AK.val kk b → h'.get b = h.get b)
    (hrd : ∀ i v, f.st.op = .rd i → wantd fr f.st.gd = true → (∀ g : H, (∀ b, (h.get b).live = true → ¬ BlkL fr (als f.m D) b → g.get b = h.get b) → rdI fr g i = some v) →
      (∀ d, f.st.dst = some d → fr.mem d = true → fr.get undefV d = v) →
      ∀ g : H, (∀ b, (h'.get b).live = true → ¬ BlkL fr' (als f.m (e :: D)) b → g.get b = h'.get b) → rdI fr g i = some v) : Pend (e :: D) f fr' h' := by
  have hs : ∀ p ∈ f.st.slots, fr.get undefV p = fr'.get undefV p := by
    intro p hp
    refine (ho.get p fun c => ?_).symm
    rcases pl.slot f hf e he p c hp with h1 | ⟨h1, h2⟩
    · rw [hbef] at h1; cases h1
    · rcases hwar with h3 | h3
      · rw [h3] at h1; cases h1
      · rw [h3] at h2; cases h2
  obtain ⟨s1, s2⟩ := slots_same hs
  have hd : ∀ d, f.st.dst = some d → fr'.get undefV d = fr.get undefV d := fun d hd => ho.get d fun c => pl.dst f hf e he hfe d hd c
  unfold Pend at hp ⊢
  rw [← s2]
  cases hw : wantd fr f.st.gd with
  | false =>
    rw [hw] at hp
    intro d h1 h2
    rw [hd d h1]
    exact hp d h1 (by rw [← ho.mem]; exact h2)
  | true =>
    rw [hw] at hp
    obtain ⟨v, h1, h2⟩ := hp
    refine ⟨v, fun d h3 h4 => by rw [hd d h3]; exact h1 d h3 (by rw [← ho.mem]; exact h4), ?_⟩
    cases hop : f.st.op with
    | pu i => rw [hop] at h2 s1; simp only at h2 ⊢; rw [← puI_same s1]; exact h2
    | rd i =>
      rw [hop] at h2 s1
      simp only at h2 ⊢
      intro g hg
      rw [← rdI_same s1]
      exact hrd i v hop hw h2 h1 g hg
    | al i =>
      rw [hop] at h2 s1
      simp only at h2 ⊢
      obtain ⟨ob, kk, b, d, q1, q2, q3, q4, q5⟩ := h2
      refine ⟨ob, kk, b, d, by rw [← alI_same s1]; exact q1, q2, by rw [ho.mem]; exact q3, q4, ?_⟩
      rw [hal i hop d q2 kk b (by rw [h1 d q2 q3]; exact q4)]
      exact q5
    | hv i => rw [hop] at h2; exact h2
    | bad => rw [hop] at h2; exact h2

end
end Go.Eng
