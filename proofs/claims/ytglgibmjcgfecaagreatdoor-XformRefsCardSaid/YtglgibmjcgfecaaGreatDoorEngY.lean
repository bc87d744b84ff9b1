/- The evaluator: a machine for the model's code that the kernel can run, proved sound. -/
import Derived.Test.YtglgibmjcgfecaaGreatDoorEngU
import Derived.Below
set_option linter.unusedSimpArgs false
set_option linter.unusedVariables false
namespace Go.Eng

theorem Tr.get_not_mem {α : Type} {d : α} : ∀ {t : Tr α} {p : Path}, t.mem p = false → t.get d p = d
  | .nil, p, _ => by simp
  | .nd l v r, .e, h => by simp [Tr.mem] at h
  | .nd l v r, .l p, h => by simp [Tr.mem] at h; simpa using Tr.get_not_mem h
  | .nd l v r, .r p, h => by simp [Tr.mem] at h; simpa using Tr.get_not_mem h

theorem Ob.dead_of {o : Ob} (h : ¬ o.live = true) : o = .dead := by cases o <;> simp [Ob.live] at h ⊢

def BlkL (fr : Tr V) (l : List Path) (b : Path) : Prop := ∃ d ∈ l, blkOf (fr.get undefV d) = some b

theorem BlkL_cons {fr : Tr V} {d : Path} {l : List Path} {b : Path} : BlkL fr (d :: l) b ↔ blkOf (fr.get undefV d) = some b ∨ BlkL fr l b := by simp [BlkL]

theorem hideL_spec {fr : Tr V} {b : Path} : ∀ (l : List Path) (h : H), (BlkL fr l b → (hideL fr l h).get b = .dead) ∧ (¬ BlkL fr l b → (hideL fr l h).get b = h.get b) ∧ (hideL fr l h).n = h.n
  | [], h => ⟨fun ⟨_, h, _⟩ => (by cases h), fun _ => rfl, rfl⟩
  | d :: l, h => by
    simp only [hideL]
    cases hb : blkOf (fr.get undefV d) with
    | none =>
      obtain ⟨h1, h2, h3⟩ := hideL_spec (fr := fr) (b := b) l h
      simp only [BlkL_cons, hb, reduceCtorEq, false_or]
      exact ⟨h1, h2, h3⟩
    | some c =>
      obtain ⟨h1, h2, h3⟩ := hideL_spec (fr := fr) (b := b) l (h.put c .dead)
      simp only [BlkL_cons, hb, Option.some.injEq]
      refine ⟨?_, ?_, h3⟩
      · intro hc
        by_cases e : BlkL fr l b
        · exact h1 e
        · rw [h2 e, H.get_put]
          rcases hc with rfl | hc
          · simp
          · exact absurd hc e
      · intro hc
        rw [h2 (fun e => hc (.inr e)), H.get_put, if_neg (fun e => hc (.inl e.symm))]

theorem showL_spec {fr : Tr V} {h0 : H} {b : Path} : ∀ (l : List Path) (h : H), (BlkL fr l b → (showL fr h0 l h).get b = h0.get b) ∧ (¬ BlkL fr l b → (showL fr h0 l h).get b = h.get b) ∧ (showL fr h0 l h).n = h.n
  | [], h => ⟨fun ⟨_, h, _⟩ => (by cases h), fun _ => rfl, rfl⟩
  | d :: l, h => by
    simp only [showL]
    cases hb : blkOf (fr.get undefV d) with
    | none =>
      obtain ⟨h1, h2, h3⟩ := showL_spec (fr := fr) (h0 := h0) (b := b) l h
      simp only [BlkL_cons, hb, reduceCtorEq, false_or]
      exact ⟨h1, h2, h3⟩
    | some c =>
      obtain ⟨h1, h2, h3⟩ := showL_spec (fr := fr) (h0 := h0) (b := b) l (h.put c (h0.get c))
      simp only [BlkL_cons, hb, Option.some.injEq]
      refine ⟨?_, ?_, h3⟩
      · intro hc
        by_cases e : BlkL fr l b
        · exact h1 e
        · rw [h2 e, H.get_put]
          rcases hc with rfl | hc
          · simp
          · exact absurd hc e
      · intro hc
        rw [h2 (fun e => hc (.inr e)), H.get_put, if_neg (fun e => hc (.inl e.symm))]

theorem als_mem {m : Nat} {d : Path} : ∀ {D : List Ent}, d ∈ als m D ↔ ∃ f ∈ D, has m f.k = false ∧ alOf f = some d
  | [] => by simp [als]
  | f :: D => by
    simp only [als]
    cases h : has m f.k with
    | true => simp [als_mem, h]
    | false =>
      simp only [cond_false]
      cases ha : alOf f with
      | none =>
        show d ∈ als m D ↔ _
        rw [als_mem]
        constructor
        · rintro ⟨g, h1, h2⟩; exact ⟨g, List.mem_cons.2 (.inr h1), h2⟩
        · rintro ⟨g, h1, h2, h3⟩
          rcases List.mem_cons.1 h1 with rfl | h1
          · rw [ha] at h3; cases h3
          · exact ⟨g, h1, h2, h3⟩
      | some c =>
        show d ∈ c :: als m D ↔ _
        rw [List.mem_cons, als_mem]
        constructor
        · rintro (rfl | ⟨g, h1, h2⟩)
          · exact ⟨f, List.mem_cons.2 (.inl rfl), h, ha⟩
          · exact ⟨g, List.mem_cons.2 (.inr h1), h2⟩
        · rintro ⟨g, h1, h2, h3⟩
          rcases List.mem_cons.1 h1 with rfl | h1
          · rw [ha] at h3; cases h3; exact .inl rfl
          · exact .inr ⟨g, h1, h2, h3⟩

theorem chks_mem {m : Nat} {D0 : List Ent} {f : Ent} {i : RI} (hop : f.st.op = .rd i) (hm : has m f.k = false) : ∀ {D : List Ent}, f ∈ D → (f.st, als f.m D0) ∈ chks m D0 D
  | [], h => by cases h
  | g :: D, h => by
    simp only [chks]
    rcases List.mem_cons.1 h with rfl | h
    · rw [hm]; simp [hop]
    · have := chks_mem hop hm h (D0 := D0)
      cases has m g.k with
      | true => exact this
      | false =>
        simp only [cond_false]
        split
        · exact List.mem_cons.2 (.inr this)
        · exact this

/-! ### Heaps -/

/-- A new block under a name that is free. -/
theorem HRel.newAt [Env] {ρ : Ren} {g g' : H} {w w' : World} {b : Path} {o : Ob} {x : Obj} {sz : Nat} (hr : HRel ρ g w) (hb : ρ b = none) (hlow : b.num < g.n.num) (ho : ObRel ρ sz o (some x))
    (hg : ∀ p, g'.get p = if p = b then o else g.get p) (hn : g'.n = g.n) (hw : w'.heap = w.heap.push x) : HRel (ρ.add b (w.heap.size, sz)) g' w' := by
  have hl : Later ρ (ρ.add b (w.heap.size, sz)) := Ren.later_add hb
  have key : ∀ p y, (ρ.add b (w.heap.size, sz)) p = some y → (p = b ∧ y = (w.heap.size, sz)) ∨ (p ≠ b ∧ ρ p = some y) := by
    intro p y hp
    by_cases e : p = b
    · subst e; rw [Ren.add_self] at hp; exact .inl ⟨rfl, by cases hp; rfl⟩
    · rw [Ren.add_ne e] at hp; exact .inr ⟨e, hp⟩
  refine ⟨?_, ?_, ?_, ?_, ?_⟩
  · intro p y hp
    rw [hn]
    rcases key p y hp with ⟨rfl, _⟩ | ⟨_, h1⟩
    · exact hlow
    · exact hr.dom _ _ h1
  · intro p y hp
    rw [hw]
    rcases key p y hp with ⟨_, rfl⟩ | ⟨_, h1⟩
    · simp
    · have := hr.inside _ _ h1; simp; omega
  · intro p hp
    rw [hg] at hp ⊢
    by_cases e : p = b
    · subst e
      rw [if_pos rfl] at hp ⊢
      exact ⟨_, Ren.add_self .., by rw [hw]; simpa using ho.later hl⟩
    · rw [if_neg e] at hp ⊢
      obtain ⟨y, h1, h2⟩ := hr.ob p hp
      refine ⟨y, by rw [Ren.add_ne e]; exact h1, ?_⟩
      have := hr.inside _ _ h1
      rw [hw, Array.getElem?_push, if_neg (by omega)]
      exact h2.later hl
  · intro p q y z hp hq h1 h2 h3
    rw [hg] at hp hq
    rcases key p y h1 with ⟨e1, f1⟩ | ⟨e1, f1⟩ <;> rcases key q z h2 with ⟨e2, f2⟩ | ⟨e2, f2⟩
    · rw [e1, e2]
    · have := hr.inside _ _ f2; subst f1; simp at h3; omega
    · have := hr.inside _ _ f1; subst f2; simp at h3; omega
    · rw [if_neg e1] at hp; rw [if_neg e2] at hq
      exact hr.inj p q y z hp hq f1 f2 h3
  · intro k v hv
    obtain ⟨⟨e, fz, hc⟩, hno⟩ := hr.keep k v hv
    have hlt : k < w.heap.size := (Array.getElem?_eq_some_iff.1 hc).1
    refine ⟨⟨e, fz, by rw [hw, Array.getElem?_push, if_neg (by omega)]; exact hc⟩, fun p y hp h1 => ?_⟩
    rw [hg] at hp
    rcases key p y h1 with ⟨rfl, rfl⟩ | ⟨e1, h1⟩
    · simp; omega
    · rw [if_neg e1] at hp; exact hno p y hp h1

theorem Ext.newAt {ρs ρ : Ren} {hs g g' : H} {ws w w' : World} {b : Path} {o : Ob} {x : Obj} {sz : Nat} (hx : Ext ρs hs ws ρ g w) (hb : ρ b = none) (hs0 : hs.n.num ≤ b.num)
    (hg : ∀ p, g'.get p = if p = b then o else g.get p) (hn : g'.n = g.n) (hw : w'.heap = w.heap.push x) (hst : Str w w') : Ext ρs hs ws (ρ.add b (w.heap.size, sz)) g' w' := by
  refine ⟨hx.later.trans (Ren.later_add hb), by rw [hw]; have := hx.size; simp; omega, fun k hk hf => ?_, fun p y hp h1 => ?_, fun p y h1 => ?_, by rw [hn]; exact hx.mono, hx.str.trans hst⟩
  · have := hx.size
    rw [hw, Array.getElem?_push, if_neg (by omega)]
    exact hx.frame k hk hf
  · rw [hg] at hp
    by_cases e : p = b
    · subst e
      rw [Ren.add_self] at h1; cases h1
      exact .inl hx.size
    · rw [if_neg e] at hp; rw [Ren.add_ne e] at h1
      exact hx.img p y hp h1
  · by_cases e : p = b
    · subst e; exact .inr hs0
    · rw [Ren.add_ne e] at h1; exact hx.fresh p y h1

/-- What was hidden while something ran is there again. -/
theorem back [Env] {ρ ρ' : Ren} {g hh h1 g' : H} {w w' : World} (hr : HRel ρ g w) (hl : Less hh g) (hn : hh.n = g.n) (hr1 : HRel ρ' h1 w') (hx : Ext ρ hh w ρ' h1 w')
    (hg : ∀ b, g'.get b = .dead ∨ (hh.get b = .dead ∧ g'.get b = g.get b) ∨ g'.get b = h1.get b) (hgn : g'.n = h1.n) : HRel ρ' g' w' ∧ Ext ρ g w ρ' g' w' := by
  have lv : ∀ b, (hh.get b).live = true → (g.get b).live = true := by
    intro b hb
    rcases hl b with e | e
    · rw [e] at hb; cases hb
    · rw [← e]; exact hb
  have apart : ∀ b x, hh.get b = .dead → (g.get b).live = true → ρ b = some x → ∀ p y, (hh.get p).live = true → ρ p = some y → y.1 ≠ x.1 := by
    intro b x hb hgb hx p y hp hy e
    have := hr.inj p b y x (lv p hp) hgb hy hx e
    subst this
    rw [hb] at hp; cases hp
  have cas : ∀ b, (g'.get b).live = true → (hh.get b = .dead ∧ g'.get b = g.get b ∧ (g.get b).live = true) ∨ (g'.get b = h1.get b ∧ (h1.get b).live = true) := by
    intro b hb
    rcases hg b with e | ⟨e1, e2⟩ | e
    · rw [e] at hb; cases hb
    · exact .inl ⟨e1, e2, by rw [← e2]; exact hb⟩
    · exact .inr ⟨e, by rw [← e]; exact hb⟩
  have mixed : ∀ p q x y, (hh.get p = .dead ∧ g'.get p = g.get p ∧ (g.get p).live = true) → (h1.get q).live = true → ρ' p = some x → ρ' q = some y → x.1 = y.1 → False := by
    intro p q x y ⟨e1, e2, e3⟩ hq hx' hy e
    obtain ⟨x0, h0, _⟩ := hr.ob p e3
    have : x0 = x := by have := hx.later p x0 h0; rw [this] at hx'; cases hx'; rfl
    subst this
    rcases hx.img q y hq hy with h2 | ⟨r, z, hr', hz, h2⟩
    · have := hr.inside p x0 h0; omega
    · exact apart p x0 e1 e3 h0 r z hr' hz (by omega)
  refine ⟨⟨fun p x hp => by rw [hgn]; exact hr1.dom p x hp, hr1.inside, fun p hp => ?_, fun p q x y hp hq hx' hy e => ?_, fun k v hv => ?_⟩,
    ⟨hx.later, hx.size, fun b hb hf => hx.frame b hb fun p x hp => hf p x (lv p hp), fun p x hp hx' => ?_, fun p x hp => by rw [← hn]; exact hx.fresh p x hp, by rw [hgn, ← hn]; exact hx.mono, hx.str⟩⟩
  · rcases cas p hp with ⟨e1, e2, e3⟩ | ⟨e1, e2⟩
    · obtain ⟨x0, h0, h2⟩ := hr.ob p e3
      refine ⟨x0, hx.later p x0 h0, ?_⟩
      rw [e2, hx.frame x0.1 (hr.inside p x0 h0) fun q y hq hy => apart p x0 e1 e3 h0 q y hq hy]
      exact h2.later hx.later
    · rw [e1]; exact hr1.ob p e2
  · rcases cas p hp with c1 | ⟨_, c1⟩ <;> rcases cas q hq with c2 | ⟨_, c2⟩
    · obtain ⟨x0, h0, _⟩ := hr.ob p c1.2.2
      obtain ⟨y0, h0', _⟩ := hr.ob q c2.2.2
      have e1 : x0 = x := by have := hx.later p x0 h0; rw [this] at hx'; cases hx'; rfl
      have e2 : y0 = y := by have := hx.later q y0 h0'; rw [this] at hy; cases hy; rfl
      subst e1; subst e2
      exact hr.inj p q x0 y0 c1.2.2 c2.2.2 h0 h0' e
    · exact (mixed p q x y c1 c2 hx' hy e).elim
    · exact (mixed q p y x c2 c1 hy hx' e.symm).elim
    · exact hr1.inj p q x y c1 c2 hx' hy e
  · refine ⟨(hr1.keep k v hv).1, fun p y hp h1 => ?_⟩
    rcases cas p hp with ⟨_, _, e3⟩ | ⟨_, c1⟩
    · obtain ⟨x0, h0, _⟩ := hr.ob p e3
      have e1 : x0 = y := by have := hx.later p x0 h0; rw [this] at h1; cases h1; rfl
      subst e1
      exact (hr.keep k v hv).2 p x0 e3 h0
    · exact (hr1.keep k v hv).2 p y c1 h1
  · rcases cas p hp with ⟨e1, e2, e3⟩ | ⟨_, c1⟩
    · obtain ⟨x0, h0, _⟩ := hr.ob p e3
      have e1 : x0 = x := by have := hx.later p x0 h0; rw [this] at hx'; cases hx'; rfl
      subst e1
      exact .inr ⟨p, x0, e3, h0, rfl⟩
    · rcases hx.img p x c1 hx' with h2 | ⟨q, y, hq, hy, h2⟩
      · exact .inl h2
      · exact .inr ⟨q, y, lv q hq, hy, h2⟩

/-! ### What holds between the operations -/

/-- What is known of an operation that the evaluator has run, and the model has not. -/
def Pend (D : List Ent) (e : Ent) (fr : Tr V) (h : H) : Prop :=
  match wantd fr e.st.gd with
  | false => ∀ d, e.st.dst = some d → fr.mem d = true → fr.get undefV d = undefV
  | true => ∃ v, (∀ d, e.st.dst = some d → fr.mem d = true → fr.get undefV d = v) ∧
    match e.st.op with
    | .pu i => puI fr i = some v
    | .rd i => ∀ g : H, (∀ b, (h.get b).live = true → ¬ BlkL fr (als e.m D) b → g.get b = h.get b) → rdI fr g i = some v
    | .al i => ∃ ob kk b d, alI fr i = some (ob, kk) ∧ e.st.dst = some d ∧ fr.mem d = true ∧ v = kk.val b ∧ h.get b = ob
    | _ => False

structure Inv [Env] (n0 : Path) (D M : List Ent) (fr : Tr V) (h : H) (ρ : Ren) (fr0 : Tr V) (g0 : H) (a : Act) (w : World) : Prop where
  rel : FrRel ρ fr0 a.tmps
  same : ∀ p, (∀ e ∈ M, e.st.dst ≠ some p) → fr0.get undefV p = fr.get undefV p
  mem : ∀ p, fr0.mem p = fr.mem p
  hrel : HRel ρ g0 w
  gn : g0.n = h.n
  hid : ∀ b, BlkL fr (M.filterMap alOf) b → g0.get b = .dead ∧ ρ b = none ∧ n0.num ≤ b.num ∧ b.num < h.n.num
  vis : ∀ b, ¬ BlkL fr (M.filterMap alOf) b → g0.get b = h.get b
  dist : ∀ e ∈ M, ∀ f ∈ M, ∀ d d' b, alOf e = some d → alOf f = some d' → blkOf (fr.get undefV d) = some b → blkOf (fr.get undefV d') = some b → e.k = f.k
  pend : ∀ e ∈ M, Pend D e fr h

theorem alOf_dst {e : Ent} {d : Path} (h : alOf e = some d) : e.st.dst = some d := by
  unfold alOf at h
  split at h
  · exact h
  · cases h

theorem val_blk (k : AK) (b : Path) : blkOf (k.val b) = some b := by cases k <;> rfl

theorem Inv.low [Env] {n0 : Path} {D M : List Ent} {fr : Tr V} {h : H} {ρ : Ren} {fr0 : Tr V} {g0 : H} {a : Act} {w : World} (I : Inv n0 D M fr h ρ fr0 g0 a w) : h.get h.n = .dead := by
  apply Ob.dead_of
  intro hl
  by_cases hb : BlkL fr (M.filterMap alOf) h.n
  · have := (I.hid _ hb).2.2.2; omega
  · have e := I.vis _ hb
    rw [← e] at hl
    obtain ⟨x, hx, _⟩ := I.hrel.ob _ hl
    have := I.hrel.dom _ _ hx
    rw [I.gn] at this
    omega

/-- A frame that is another at one operation's place. -/
structure Off (d : Option Path) (fr fr' : Tr V) : Prop where
  get : ∀ p, d ≠ some p → fr'.get undefV p = fr.get undefV p
  mem : ∀ p, fr'.mem p = fr.mem p

theorem Off.put (d : Option Path) (fr : Tr V) (v : V) : Off d fr (putD fr d v) := by
  cases d with
  | none => exact ⟨fun _ _ => rfl, fun _ => rfl⟩
  | some d =>
    refine ⟨fun p hp => ?_, fun p => Tr.mem_set _ _ _ _⟩
    show (fr.set d v).get undefV p = _
    rw [Tr.get_set, if_neg (fun c => hp (by rw [c.1]))]

theorem putD_get {d : Path} {fr : Tr V} {v : V} (h : fr.mem d = true) : (putD fr (some d) v).get undefV d = v := by
  show (fr.set d v).get undefV d = _
  rw [Tr.get_set, if_pos ⟨rfl, h⟩]

theorem slots_same {s : St} {fr fr' : Tr V} (h : ∀ p ∈ s.slots, fr.get undefV p = fr'.get undefV p) : SameOn fr fr' s.op.opds ∧ wantd fr s.gd = wantd fr' s.gd := by
  constructor
  · intro o ho
    cases o with
    | t p => exact h p (by unfold St.slots; exact List.mem_append_left _ (List.mem_filterMap.2 ⟨_, ho, rfl⟩))
    | c v => rfl
  · unfold wantd
    cases hg : s.gd with
    | none => rfl
    | some g =>
      obtain ⟨p, b⟩ := g
      simp only
      rw [h p (by unfold St.slots; rw [hg]; simp)]

section
variable {P : Program} {ng : Nat} {ops : Array Oper} {S : List Ent}

/-- An operation that runs changes nothing that another, which has run, looks at. -/
theorem Pend.keep (pl : Plan P ng ops S) {D : List Ent} {e f : Ent} {fr fr' : Tr V} {h h' : H} (he : e ∈ S) (hf : f ∈ S) (hfe : f.k ≠ e.k) (hbef : has f.m e.k = false) (hwar : e.hv = false ∨ has e.m f.k = false)
    (ho : Off e.st.dst fr fr') (hp : Pend D f fr h)
    (hal : ∀ i, f.st.op = .al i → ∀ d, f.st.dst = some d → ∀ kk b, fr.get undefV d = AK.val kk b → h'.get b = h.get b)
    (hrd : ∀ i v, f.st.op = .rd i → wantd fr f.st.gd = true → (∀ g : H, (∀ b, (h.get b).live = true → ¬ BlkL fr (als f.m D) b → g.get b = h.get b) → rdI fr g i = some v) →
      (∀ d, f.st.dst = some d → fr.mem d = true → fr.get undefV d = v) →
      ∀ g : H, (∀ b, (h'.get b).live = true → ¬ BlkL fr' (als f.m (e :: D)) b → g.get b = h'.get b) → rdI fr g i = some v) : Pend (e :: D) f fr' h' := by
  have hs : ∀ p ∈ f.st.slots, fr.get undefV p = fr'.get undefV p := by
    intro p hp
    refine (ho.get p fun c => ?_).symm
    rcases pl.slot f hf e he p c hp with h1 | ⟨h1, h2⟩
    · rw [hbef] at h1; cases h1
    · rcases hwar with h3 | h3
      · rw [h3] at h1; cases h1
      · rw [h3] at h2; cases h2
  obtain ⟨s1, s2⟩ := slots_same hs
  have hd : ∀ d, f.st.dst = some d → fr'.get undefV d = fr.get undefV d := fun d hd => ho.get d fun c => pl.dst f hf e he hfe d hd c
  unfold Pend at hp ⊢
  rw [← s2]
  cases hw : wantd fr f.st.gd with
  | false =>
    rw [hw] at hp
    intro d h1 h2
    rw [hd d h1]
    exact hp d h1 (by rw [← ho.mem]; exact h2)
  | true =>
    rw [hw] at hp
    obtain ⟨v, h1, h2⟩ := hp
    refine ⟨v, fun d h3 h4 => by rw [hd d h3]; exact h1 d h3 (by rw [← ho.mem]; exact h4), ?_⟩
    cases hop : f.st.op with
    | pu i => rw [hop] at h2 s1; simp only at h2 ⊢; rw [← puI_same s1]; exact h2
    | rd i =>
      rw [hop] at h2 s1
      simp only at h2 ⊢
      intro g hg
      rw [← rdI_same s1]
      exact hrd i v hop hw h2 h1 g hg
    | al i =>
      rw [hop] at h2 s1
      simp only at h2 ⊢
      obtain ⟨ob, kk, b, d, q1, q2, q3, q4, q5⟩ := h2
      refine ⟨ob, kk, b, d, by rw [← alI_same s1]; exact q1, q2, by rw [ho.mem]; exact q3, q4, ?_⟩
      rw [hal i hop d q2 kk b (by rw [h1 d q2 q3]; exact q4)]
      exact q5
    | hv i => rw [hop] at h2; exact h2
    | bad => rw [hop] at h2; exact h2

end
end Go.Eng

namespace Go.Eng

def MB (M : List Ent) (fr : Tr V) (b : Path) : Prop := ∃ f ∈ M, ∃ d, alOf f = some d ∧ blkOf (fr.get undefV d) = some b

theorem MB_iff {M : List Ent} {fr : Tr V} {b : Path} : BlkL fr (M.filterMap alOf) b ↔ MB M fr b := by
  unfold BlkL MB
  constructor
  · rintro ⟨d, hd, hb⟩
    obtain ⟨f, hf, ha⟩ := List.mem_filterMap.1 hd
    exact ⟨f, hf, d, ha, hb⟩
  · rintro ⟨f, hf, d, ha, hb⟩
    exact ⟨d, List.mem_filterMap.2 ⟨f, hf, ha⟩, hb⟩

section
variable {P : Program} {ng : Nat} {ops : Array Oper} {S : List Ent} {n0 : Path} {D M : List Ent} {fr : Tr V} {h : H} {ρ : Ren} {fr0 : Tr V} {g0 : H} {a : Act} {w : World}

/-- The evaluator runs an operation; the model does not yet. -/
theorem Inv.light [Env] (pl : Plan P ng ops S) {e : Ent} (hhv : e.hv = false) (hDS : ∀ f ∈ D, f ∈ S) (hM : ∀ f ∈ M, f ∈ D) (he : e ∈ S) (hk : ∀ f ∈ D, f.k ≠ e.k) (hclo : ∀ f ∈ D, has f.m e.k = false)
    (I : Inv n0 D M fr h ρ fr0 g0 a w) (v : V) (h' : H) (hn0 : n0.num ≤ h.n.num)
    (hh : (h' = h ∧ (alOf e = none ∨ v = undefV)) ∨ ∃ ob d kk, h' = h.new ob ∧ alOf e = some d ∧ fr.mem d = true ∧ v = AK.val kk h.n)
    (hp : Pend (e :: D) e (putD fr e.st.dst v) h') :
    ∃ g0', Inv n0 (e :: D) (e :: M) (putD fr e.st.dst v) h' ρ fr0 g0' a w ∧ (∀ b, g0'.get b = g0.get b) ∧ g0'.n = h'.n ∧ g0.n.num ≤ g0'.n.num := by
  have off := Off.put e.st.dst fr v
  generalize hfr : putD fr e.st.dst v = fr' at *
  have hmono : h.n.num ≤ h'.n.num := by
    rcases hh with ⟨rfl, _⟩ | ⟨ob, d, kk, rfl, _⟩
    · exact Nat.le_refl _
    · rw [H.n_new, Path.num_succ]; omega
  have dne : ∀ f ∈ D, ∀ d, f.st.dst = some d → fr'.get undefV d = fr.get undefV d := fun f hf d hd =>
    off.get d fun c => pl.dst f (hDS f hf) e he (hk f hf) d hd c
  -- the block that e makes
  have eb : ∀ d b, alOf e = some d → blkOf (fr'.get undefV d) = some b → b = h.n ∧ ∃ ob, h' = h.new ob := by
    intro d b hd hb
    rcases hh with ⟨_, h1 | h1⟩ | ⟨ob, d', kk, h1, h2, h3, h4⟩
    · rw [h1] at hd; cases hd
    · exfalso
      have : fr'.get undefV d = undefV := by
        cases hm : fr.mem d with
        | true => rw [← hfr, alOf_dst hd, putD_get hm, h1]
        | false => exact Tr.get_not_mem (by rw [off.mem]; exact hm)
      rw [this] at hb; cases hb
    · have e1 : d' = d := by rw [h2] at hd; cases hd; rfl
      subst e1
      have : fr'.get undefV d' = v := by rw [← hfr, alOf_dst h2, putD_get h3]
      rw [this, h4, val_blk] at hb
      cases hb
      exact ⟨rfl, ob, h1⟩
  have nb : ∀ ob, h' = h.new ob → ∃ d, alOf e = some d ∧ blkOf (fr'.get undefV d) = some h.n := by
    intro ob ho
    rcases hh with ⟨h1, _⟩ | ⟨ob, d', kk, h1, h2, h3, h4⟩
    · exfalso
      rw [h1] at ho
      have := congrArg (fun x : H => x.n.num) ho
      simp [Path.num_succ] at this
    · exact ⟨d', h2, by rw [← hfr, alOf_dst h2, putD_get h3, h4, val_blk]⟩
  have mbM : ∀ b, MB M fr' b ↔ MB M fr b := by
    intro b
    constructor
    · rintro ⟨f, hf, d, hd, hb⟩; exact ⟨f, hf, d, hd, by rw [← dne f (hM f hf) d (alOf_dst hd)]; exact hb⟩
    · rintro ⟨f, hf, d, hd, hb⟩; exact ⟨f, hf, d, hd, by rw [dne f (hM f hf) d (alOf_dst hd)]; exact hb⟩
  have low := I.low
  have getne : ∀ b, b ≠ h.n → h'.get b = h.get b := by
    intro b hb
    rcases hh with ⟨rfl, _⟩ | ⟨ob, d', kk, rfl, _⟩
    · rfl
    · rw [H.get_new, if_neg hb]
  have hgn := I.gn
  have g0n : g0.get h.n = .dead := by
    apply Ob.dead_of
    intro hl
    obtain ⟨x, hx, _⟩ := I.hrel.ob _ hl
    have := I.hrel.dom _ _ hx
    rw [hgn] at this; omega
  have ρn : ρ h.n = none := by rw [← hgn]; exact I.hrel.free
  have Ihid : ∀ b, MB M fr b → g0.get b = .dead ∧ ρ b = none ∧ n0.num ≤ b.num ∧ b.num < h.n.num := fun b hb => I.hid b (MB_iff.2 hb)
  refine ⟨⟨g0.t, h'.n⟩, ⟨I.rel, ?_, ?_, ?_, rfl, ?_, ?_, ?_, ?_⟩, fun _ => rfl, rfl, by rw [hgn]; exact hmono⟩
  · intro p hp'
    rw [I.same p fun f hf => hp' f (List.mem_cons.2 (.inr hf)), off.get p (hp' e (by simp))]
  · intro p; rw [I.mem, off.mem]
  · exact I.hrel.sub (fun b => .inr rfl) (by rw [hgn]; exact hmono)
  · intro b hb
    obtain ⟨f, hf, d, hd, hbb⟩ := MB_iff.1 hb
    rcases List.mem_cons.1 hf with rfl | hfM
    · obtain ⟨rfl, ob, ho⟩ := eb d b hd hbb
      refine ⟨g0n, ρn, hn0, ?_⟩
      rw [ho, H.n_new, Path.num_succ]; omega
    · obtain ⟨h1, h2, h3, h4⟩ := Ihid b ((mbM b).1 ⟨f, hfM, d, hd, hbb⟩)
      exact ⟨h1, h2, h3, by omega⟩
  · intro b hb
    have h1 : ¬ MB (e :: M) fr' b := fun c => hb (MB_iff.2 c)
    have h2 : ¬ MB M fr b := fun c => by
      obtain ⟨f, hf, d, hd, hb⟩ := (mbM b).2 c
      exact h1 ⟨f, List.mem_cons.2 (.inr hf), d, hd, hb⟩
    have h3 : g0.get b = h.get b := I.vis b fun c => h2 (MB_iff.1 c)
    show g0.get b = h'.get b
    by_cases hbn : b = h.n
    · subst hbn
      rcases hh with ⟨h4, _⟩ | ⟨ob, _, _, h4, _⟩
      · rw [h4]; exact h3
      · obtain ⟨d, h5, h6⟩ := nb ob h4
        exact absurd ⟨e, by simp, d, h5, h6⟩ h1
    · rw [getne b hbn]; exact h3
  · intro f hf f' hf' d d' b hd hd' hb hb'
    rcases List.mem_cons.1 hf with e1 | hf1 <;> rcases List.mem_cons.1 hf' with e2 | hf2
    · rw [e1, e2]
    · rw [e1] at hd
      obtain ⟨rfl, _⟩ := eb d b hd hb
      have := Ihid _ ((mbM _).1 ⟨f', hf2, d', hd', hb'⟩)
      omega
    · rw [e2] at hd'
      obtain ⟨rfl, _⟩ := eb d' b hd' hb'
      have := Ihid _ ((mbM _).1 ⟨f, hf1, d, hd, hb⟩)
      omega
    · rw [dne f (hM f hf1) d (alOf_dst hd)] at hb
      rw [dne f' (hM f' hf2) d' (alOf_dst hd')] at hb'
      exact I.dist f hf1 f' hf2 d d' b hd hd' hb hb'
  · intro f hf
    rcases List.mem_cons.1 hf with rfl | hf
    · exact hp
    · have hfD := hM f hf
      refine Pend.keep pl he (hDS f hfD) (hk f hfD) (hclo f hfD) (.inl hhv) off (I.pend f hf) ?_ ?_
      · intro i hop d hd kk b hb
        have hal : alOf f = some d := by unfold alOf; rw [hop]; exact hd
        have := Ihid b ⟨f, hf, d, hal, by rw [hb, val_blk]⟩
        exact getne b fun c => by subst c; omega
      · intro i v' _ _ horig _ g hg
        refine horig g fun b hl hnb => ?_
        have hbn : b ≠ h.n := fun c => by subst c; rw [low] at hl; cases hl
        rw [← getne b hbn]
        refine hg b (by rw [getne b hbn]; exact hl) ?_
        rintro ⟨d, hd, hb⟩
        obtain ⟨f', hf', h1, h2⟩ := als_mem.1 hd
        rcases List.mem_cons.1 hf' with rfl | hf'
        · exact hbn (eb d b h2 hb).1
        · refine hnb ⟨d, als_mem.2 ⟨f', hf', h1, h2⟩, ?_⟩
          rw [← dne f' hf' d (alOf_dst h2)]; exact hb

/-- The model runs an operation that the evaluator has run. -/
theorem Inv.listed [Env] {e : Ent} {M' : List Ent} (hM : ∀ f, f ∈ M ↔ f = e ∨ f ∈ M') (hne : ∀ f ∈ M', f.k ≠ e.k)
    (I : Inv n0 D M fr h ρ fr0 g0 a w) {o : Oper} (ho : e.st.dst = o.dst.map Path.of) {v : V} {x : Value} {ρ' : Ren} {g0' : H} {w' : World}
    (hval : ∀ d, e.st.dst = some d → fr.mem d = true → fr.get undefV d = v) (hl : Later ρ ρ') (hr : HRel ρ' g0' w') (gn' : g0'.n = h.n) (hv : conc ρ' v = some x)
    (hg1 : ∀ b, (∃ d, alOf e = some d ∧ blkOf (fr.get undefV d) = some b) → g0'.get b = h.get b)
    (hg2 : ∀ b, ¬ (∃ d, alOf e = some d ∧ blkOf (fr.get undefV d) = some b) → g0'.get b = g0.get b)
    (hfree : ∀ b, MB M' fr b → ρ' b = none) : Inv n0 D M' fr h ρ' (putD fr0 e.st.dst v) g0' (a.put o.dst x) w' := by
  have off := Off.put e.st.dst fr0 v
  have sub : ∀ f ∈ M', f ∈ M := fun f hf => (hM f).2 (.inr hf)
  have Ihid : ∀ b, MB M fr b → g0.get b = .dead ∧ ρ b = none ∧ n0.num ≤ b.num ∧ b.num < h.n.num := fun b hb => I.hid b (MB_iff.2 hb)
  refine ⟨?_, ?_, ?_, hr, gn', ?_, ?_, ?_, fun f hf => I.pend f (sub f hf)⟩
  · rw [ho]; exact put_spec (I.rel.later hl) hv
  · intro p hp
    by_cases hd : e.st.dst = some p
    · cases hm : fr.mem p with
      | true => rw [hd, putD_get (by rw [I.mem]; exact hm), hval p hd hm]
      | false => rw [Tr.get_not_mem (by rw [off.mem, I.mem]; exact hm), Tr.get_not_mem hm]
    · rw [off.get p hd]
      refine I.same p fun f hf => ?_
      rcases (hM f).1 hf with rfl | hf
      · exact hd
      · exact hp f hf
  · intro p; rw [off.mem, I.mem]
  · intro b hb
    have hb' := MB_iff.1 hb
    obtain ⟨f, hf, d, hd, hbb⟩ := hb'
    obtain ⟨h1, _, h3, h4⟩ := Ihid b ⟨f, sub f hf, d, hd, hbb⟩
    refine ⟨?_, hfree b (MB_iff.1 hb), h3, h4⟩
    rw [hg2 b ?_, h1]
    rintro ⟨d', hd', hb'⟩
    exact hne f hf (I.dist f (sub f hf) e ((hM e).2 (.inl rfl)) d d' b hd hd' hbb hb')
  · intro b hb
    by_cases he : ∃ d, alOf e = some d ∧ blkOf (fr.get undefV d) = some b
    · exact hg1 b he
    · rw [hg2 b he]
      refine I.vis b fun c => ?_
      obtain ⟨f, hf, d, hd, hbb⟩ := MB_iff.1 c
      rcases (hM f).1 hf with rfl | hf
      · exact he ⟨d, hd, hbb⟩
      · exact hb (MB_iff.2 ⟨f, hf, d, hd, hbb⟩)
  · intro f hf f' hf'
    exact I.dist f (sub f hf) f' (sub f' hf')

/-- The model runs the operation that the evaluator runs now. -/
theorem Inv.heavy [Env] (pl : Plan P ng ops S) {e : Ent} (hDS : ∀ f ∈ D, f ∈ S) (hM : ∀ f ∈ M, f ∈ D) (he : e ∈ S) (hk : ∀ f ∈ D, f.k ≠ e.k) (hclo : ∀ f ∈ D, has f.m e.k = false) (hMe : ∀ f ∈ M, has e.m f.k = false)
    (hal : alOf e = none) (I : Inv n0 D M fr h ρ fr0 g0 a w) {o : Oper} (ho : e.st.dst = o.dst.map Path.of) {v : V} {x : Value} {ρ' : Ren} {h1 : H} {w' : World}
    (hr : HRel ρ' h1 w') (hx : Ext ρ (hideL fr (als e.m D) h) w ρ' h1 w') (hv : conc ρ' v = some x)
    (hchk : ∀ f ∈ M, ∀ i, f.st.op = .rd i → wantd fr f.st.gd = true → ∃ d, f.st.dst = some d ∧ fr.mem d = true ∧ rdI fr (hideL fr (als f.m D) (showL fr h (als e.m D) h1)) i = some (fr.get undefV d)) :
    ∃ g0', Inv n0 (e :: D) M (putD fr e.st.dst v) (showL fr h (als e.m D) h1) ρ' (putD fr0 e.st.dst v) g0' (a.put o.dst x) w' ∧ Ext ρ g0 w ρ' g0' w' := by
  have off := Off.put e.st.dst fr v
  have off0 := Off.put e.st.dst fr0 v
  have hhs := fun b => hideL_spec (fr := fr) (b := b) (als e.m D) h
  have shs := fun b => showL_spec (fr := fr) (h0 := h) (b := b) (als e.m D) h1
  have Ihid : ∀ b, MB M fr b → g0.get b = .dead ∧ ρ b = none ∧ n0.num ≤ b.num ∧ b.num < h.n.num := fun b hb => I.hid b (MB_iff.2 hb)
  have Ivis : ∀ b, ¬ MB M fr b → g0.get b = h.get b := fun b hb => I.vis b fun c => hb (MB_iff.1 c)
  have mbs : ∀ b, MB M fr b → BlkL fr (als e.m D) b := by
    rintro b ⟨f, hf, d, hd, hb⟩
    exact ⟨d, als_mem.2 ⟨f, hM f hf, hMe f hf, hd⟩, hb⟩
  have hless : Less (hideL fr (als e.m D) h) g0 := by
    intro b
    by_cases hb : BlkL fr (als e.m D) b
    · exact .inl ((hhs b).1 hb)
    · exact .inr (by rw [(hhs b).2.1 hb]; exact (Ivis b fun c => hb (mbs b c)).symm)
  have hhn : (hideL fr (als e.m D) h).n = g0.n := by rw [(hhs .e).2.2, I.gn]
  have gs := fun b => hideL_spec (fr := fr) (b := b) (M.filterMap alOf) (showL fr h (als e.m D) h1)
  have key := back (g' := hideL fr (M.filterMap alOf) (showL fr h (als e.m D) h1)) I.hrel hless hhn hr hx (fun b => ?_) (by rw [(gs .e).2.2, (shs .e).2.2])
  · obtain ⟨k1, k2⟩ := key
    have dne : ∀ f ∈ D, ∀ d, f.st.dst = some d → (putD fr e.st.dst v).get undefV d = fr.get undefV d := fun f hf d hd =>
      off.get d fun c => pl.dst f (hDS f hf) e he (hk f hf) d hd c
    have mbM : ∀ b, MB M (putD fr e.st.dst v) b ↔ MB M fr b := by
      intro b
      constructor
      · rintro ⟨f, hf, d, hd, hb⟩; exact ⟨f, hf, d, hd, by rw [← dne f (hM f hf) d (alOf_dst hd)]; exact hb⟩
      · rintro ⟨f, hf, d, hd, hb⟩; exact ⟨f, hf, d, hd, by rw [dne f (hM f hf) d (alOf_dst hd)]; exact hb⟩
    have hmono := k2.mono
    have hnn : (hideL fr (M.filterMap alOf) (showL fr h (als e.m D) h1)).n = (showL fr h (als e.m D) h1).n := (gs .e).2.2
    refine ⟨_, ⟨?_, ?_, ?_, k1, hnn, ?_, ?_, ?_, ?_⟩, k2⟩
    · rw [ho]; exact put_spec (I.rel.later hx.later) hv
    · intro p hp
      by_cases hd : e.st.dst = some p
      · cases hm : fr.mem p with
        | true => rw [hd, putD_get (by rw [I.mem]; exact hm), putD_get hm]
        | false => rw [Tr.get_not_mem (by rw [off0.mem, I.mem]; exact hm), Tr.get_not_mem (by rw [off.mem]; exact hm)]
      · rw [off0.get p hd, off.get p hd]; exact I.same p hp
    · intro p; rw [off0.mem, off.mem, I.mem]
    · intro b hb
      have hb' := (mbM b).1 (MB_iff.1 hb)
      obtain ⟨q1, q2, q3, q4⟩ := Ihid b hb'
      refine ⟨(gs b).1 (MB_iff.2 hb'), ?_, q3, ?_⟩
      · cases e' : ρ' b with
        | none => rfl
        | some y =>
          rcases hx.fresh b y e' with h2 | h2
          · rw [q2] at h2; cases h2
          · rw [hhn, I.gn] at h2; omega
      · rw [hnn, I.gn] at hmono; omega
    · intro b hb
      exact (gs b).2.1 fun c => hb (MB_iff.2 ((mbM b).2 (MB_iff.1 c)))
    · intro f hf f' hf' d d' b hd hd' hb hb'
      rw [dne f (hM f hf) d (alOf_dst hd)] at hb
      rw [dne f' (hM f' hf') d' (alOf_dst hd')] at hb'
      exact I.dist f hf f' hf' d d' b hd hd' hb hb'
    · intro f hf
      have hfD := hM f hf
      refine Pend.keep pl he (hDS f hfD) (hk f hfD) (hclo f hfD) (.inr (hMe f hf)) off (I.pend f hf) ?_ ?_
      · intro i hop d hd kk b hb
        have hal' : alOf f = some d := by unfold alOf; rw [hop]; exact hd
        exact (shs b).1 (mbs b ⟨f, hf, d, hal', by rw [hb, val_blk]⟩)
      · intro i v' hop hw _ hvd g hg
        obtain ⟨d, hd, hm, hrd⟩ := hchk f hf i hop hw
        have hd' : rdI fr (hideL fr (als f.m D) (showL fr h (als e.m D) h1)) i = some v' := by rw [← hvd d hd hm]; exact hrd
        refine rdI_less (fun b => ?_) hd'
        have fs := hideL_spec (fr := fr) (b := b) (als f.m D) (showL fr h (als e.m D) h1)
        by_cases hb : BlkL fr (als f.m D) b
        · exact .inl (fs.1 hb)
        · rw [fs.2.1 hb]
          by_cases hl : ((showL fr h (als e.m D) h1).get b).live = true
          · refine .inr (hg b hl ?_).symm
            rintro ⟨d2, hd2, hb2⟩
            obtain ⟨f', hf', h3, h4⟩ := als_mem.1 hd2
            rcases List.mem_cons.1 hf' with rfl | hf'
            · rw [hal] at h4; cases h4
            · refine hb ⟨d2, als_mem.2 ⟨f', hf', h3, h4⟩, ?_⟩
              rw [← dne f' hf' d2 (alOf_dst h4)]; exact hb2
          · exact .inl (Ob.dead_of hl)
  · by_cases hb : BlkL fr (M.filterMap alOf) b
    · exact .inl ((gs b).1 hb)
    · rw [(gs b).2.1 hb]
      by_cases hb2 : BlkL fr (als e.m D) b
      · refine .inr (.inl ⟨(hhs b).1 hb2, ?_⟩)
        rw [(shs b).1 hb2]
        exact (I.vis b hb).symm
      · exact .inr (.inr ((shs b).2.1 hb2))

/-- The model runs an operation that changes nothing of memory. -/
theorem Inv.quiet [Env] (pl : Plan P ng ops S) {e : Ent} (hDS : ∀ f ∈ D, f ∈ S) (hM : ∀ f ∈ M, f ∈ D) (he : e ∈ S) (hk : ∀ f ∈ D, f.k ≠ e.k) (hclo : ∀ f ∈ D, has f.m e.k = false) (hMe : ∀ f ∈ M, has e.m f.k = false)
    (hna : alOf e = none) (I : Inv n0 D M fr h ρ fr0 g0 a w) {o : Oper} (ho : e.st.dst = o.dst.map Path.of) {v : V} {x : Value} {ρ' : Ren} {w' : World}
    (hr : HRel ρ' g0 w') (hx : Ext ρ g0 w ρ' g0 w') (hv : conc ρ' v = some x) :
    Inv n0 (e :: D) M (putD fr e.st.dst v) h ρ' (putD fr0 e.st.dst v) g0 (a.put o.dst x) w' := by
  have off := Off.put e.st.dst fr v
  have off0 := Off.put e.st.dst fr0 v
  have dne : ∀ f ∈ D, ∀ d, f.st.dst = some d → (putD fr e.st.dst v).get undefV d = fr.get undefV d := fun f hf d hd =>
    off.get d fun c => pl.dst f (hDS f hf) e he (hk f hf) d hd c
  have mbM : ∀ b, MB M (putD fr e.st.dst v) b ↔ MB M fr b := by
    intro b
    constructor
    · rintro ⟨f, hf, d, hd, hb⟩; exact ⟨f, hf, d, hd, by rw [← dne f (hM f hf) d (alOf_dst hd)]; exact hb⟩
    · rintro ⟨f, hf, d, hd, hb⟩; exact ⟨f, hf, d, hd, by rw [dne f (hM f hf) d (alOf_dst hd)]; exact hb⟩
  refine ⟨?_, ?_, ?_, hr, I.gn, ?_, ?_, ?_, ?_⟩
  · rw [ho]; exact put_spec (I.rel.later hx.later) hv
  · intro p hp
    by_cases hd : e.st.dst = some p
    · cases hm : fr.mem p with
      | true => rw [hd, putD_get (by rw [I.mem]; exact hm), putD_get hm]
      | false => rw [Tr.get_not_mem (by rw [off0.mem, I.mem]; exact hm), Tr.get_not_mem (by rw [off.mem]; exact hm)]
    · rw [off0.get p hd, off.get p hd]; exact I.same p hp
  · intro p; rw [off0.mem, off.mem, I.mem]
  · intro b hb
    obtain ⟨q1, q2, q3, q4⟩ := I.hid b (MB_iff.2 ((mbM b).1 (MB_iff.1 hb)))
    refine ⟨q1, ?_, q3, q4⟩
    cases e' : ρ' b with
    | none => rfl
    | some y =>
      rcases hx.fresh b y e' with h2 | h2
      · rw [q2] at h2; cases h2
      · rw [I.gn] at h2; omega
  · intro b hb; exact I.vis b fun c => hb (MB_iff.2 ((mbM b).2 (MB_iff.1 c)))
  · intro f hf f' hf' d d' b hd hd' hb hb'
    rw [dne f (hM f hf) d (alOf_dst hd)] at hb
    rw [dne f' (hM f' hf') d' (alOf_dst hd')] at hb'
    exact I.dist f hf f' hf' d d' b hd hd' hb hb'
  · intro f hf
    have hfD := hM f hf
    refine Pend.keep pl he (hDS f hfD) (hk f hfD) (hclo f hfD) (.inr (hMe f hf)) off (I.pend f hf) (fun _ _ _ _ _ _ _ => rfl) ?_
    intro i v' hop hw' horig _ g hg'
    refine horig g fun b hl hnb => hg' b hl ?_
    rintro ⟨d2, hd2, hb2⟩
    obtain ⟨f', hf', h3, h4⟩ := als_mem.1 hd2
    rcases List.mem_cons.1 hf' with rfl | hf'
    · rw [hna] at h4; cases h4
    · refine hnb ⟨d2, als_mem.2 ⟨f', hf', h3, h4⟩, ?_⟩
      rw [← dne f' hf' d2 (alOf_dst h4)]; exact hb2

end
end Go.Eng

namespace Go.Eng

theorem Good.disj : ∀ {l D : List Ent}, Good D l → ∀ f ∈ D, ∀ g ∈ l, f.k ≠ g.k
  | [], _, _, _, _, _, hg => by cases hg
  | e :: l, D, h, f, hf, g, hg => by
    obtain ⟨h1, _, _, _, _, _, h2⟩ := h
    rcases List.mem_cons.1 hg with rfl | hg
    · exact h1 f hf
    · exact h2.disj f (by simp [hf]) g hg

theorem Good.inj : ∀ {l D : List Ent}, Good D l → ∀ e ∈ l, ∀ f ∈ l, e.k = f.k → e = f
  | [], _, _, _, he, _, _, _ => by cases he
  | g :: l, D, h, e, he, f, hf, hk => by
    have h2 : Good (g :: D) l := h.2.2.2.2.2.2
    rcases List.mem_cons.1 he with rfl | he' <;> rcases List.mem_cons.1 hf with rfl | hf'
    · rfl
    · exact absurd hk (h2.disj _ (by simp) f hf')
    · exact absurd hk.symm (h2.disj _ (by simp) e he')
    · exact h2.inj e he' f hf' hk

theorem Good.be : ∀ {l D : List Ent}, Good D l → ∀ e ∈ l, ∀ i, has e.m i = true → ∃ a ∈ e.af, i = a ∨ ∃ f, (f ∈ D ∨ f ∈ l) ∧ f.k = a ∧ has f.m i = true
  | [], _, _, _, he, _, _ => by cases he
  | g :: l, D, h, e, he, i, hi => by
    obtain ⟨_, _, _, h4, _, _, h2⟩ := h
    rcases List.mem_cons.1 he with rfl | he
    · obtain ⟨a, ha, h⟩ := h4 i hi
      refine ⟨a, ha, h.imp id ?_⟩
      rintro ⟨f, hf, h⟩; exact ⟨f, .inl hf, h⟩
    · obtain ⟨a, ha, h⟩ := h2.be e he i hi
      refine ⟨a, ha, h.imp id ?_⟩
      rintro ⟨f, hf, h⟩
      refine ⟨f, ?_, h⟩
      rcases hf with hf | hf
      · rcases List.mem_cons.1 hf with rfl | hf
        · exact .inr (by simp)
        · exact .inl hf
      · exact .inr (by simp [hf])

theorem Good.first {L : Nat → Prop} [DecidablePred L] : ∀ {l D : List Ent}, Good D l → (∀ f ∈ D, L f.k) → (∃ f ∈ l, ¬ L f.k) → ∃ g ∈ l, ¬ L g.k ∧ ∀ a ∈ g.af, L a
  | [], _, _, _, ⟨_, hf, _⟩ => by cases hf
  | g :: l, D, h, hD, ⟨f, hf, hn⟩ => by
    obtain ⟨_, h1, _, _, _, _, h2⟩ := h
    by_cases hg : L g.k
    · rcases List.mem_cons.1 hf with rfl | hf
      · exact absurd hg hn
      · obtain ⟨g', q1, q2⟩ := h2.first (L := L) (fun f' hf' => by
          rcases List.mem_cons.1 hf' with rfl | hf'
          · exact hg
          · exact hD f' hf') ⟨f, hf, hn⟩
        exact ⟨g', by simp [q1], q2⟩
    · refine ⟨g, by simp, hg, fun a ha => ?_⟩
      obtain ⟨f', hf', rfl⟩ := h1 a ha
      exact hD f' hf'

structure Pos (S D sfx : List Ent) : Prop where
  DS : ∀ f ∈ D, f ∈ S
  sS : ∀ f ∈ sfx, f ∈ S
  good : Good D sfx
  bef : ∀ f ∈ D, ∀ i, has f.m i = true → ∃ g ∈ D, g.k = i

theorem Pos.next {S D sfx : List Ent} {e : Ent} (h : Pos S D (e :: sfx)) : Pos S (e :: D) sfx := by
  have hg := h.good
  obtain ⟨g1, g2, g3, g4, g5, g7, g6⟩ := hg
  refine ⟨fun f hf => ?_, fun f hf => h.sS f (by simp [hf]), g6, fun f hf i hi => ?_⟩
  · rcases List.mem_cons.1 hf with rfl | hf
    · exact h.sS _ (by simp)
    · exact h.DS f hf
  · rcases List.mem_cons.1 hf with rfl | hf
    · obtain ⟨g, q1, q2⟩ := g3 i hi; exact ⟨g, by simp [q1], q2⟩
    · obtain ⟨g, q1, q2⟩ := h.bef f hf i hi; exact ⟨g, by simp [q1], q2⟩

section
variable {P : Program} {ng : Nat} {ops : Array Oper} {S : List Ent} {as : Act} {ρs : Ren} {hs : H} {ws : World}

structure Cfg [Env] (ops : Array Oper) (S D sfx M : List Ent) (fr : Tr V) (h : H) (as : Act) (ρs : Ren) (hs : H) (ws : World) (listed : Array Bool) (a : Act) (w : World) : Prop where
  sub : ∀ f ∈ M, f ∈ D
  lt : ∀ f ∈ M, f.hv = false
  nd : (M.map (·.k)).Nodup
  size : listed.size = ops.size
  un : ∀ j, listed.getD j true = false ↔ (∃ f ∈ M, f.k = j) ∨ (∃ f ∈ sfx, f.k = j)
  closed : ∀ f ∈ S, listed.getD f.k false = true → ∀ i, has f.m i = true → listed.getD i false = true
  defers : a.defers = as.defers
  inv : ∃ ρ fr0 g0, Inv hs.n D M fr h ρ fr0 g0 a w ∧ Ext ρs hs ws ρ g0 w

theorem getD_both {listed : Array Bool} {j : Nat} (h1 : listed.getD j true = false) (h2 : listed.getD j false = true) : False := by
  rw [Array.getD_eq_getD_getElem?] at h1 h2
  cases h : listed[j]? with
  | none => rw [h] at h2; cases h2
  | some b => rw [h] at h1 h2; simp at h1 h2; rw [h1] at h2; cases h2

theorem set_getD_self {listed : Array Bool} {k : Nat} (h : k < listed.size) (d : Bool) : (listed.setIfInBounds k true).getD k d = true := by
  simp [h]

theorem lt_of_getD {listed : Array Bool} {k : Nat} (h : listed.getD k true = false) : k < listed.size := by
  rcases Nat.lt_or_ge k listed.size with h' | h'
  · exact h'
  · simp [Array.getElem?_eq_none h'] at h

section
variable {D sfx M : List Ent} {fr : Tr V} {h : H} {listed : Array Bool} {a : Act} {w : World}

theorem edges_mem {o : Oper} {x : Nat} (h : x ∈ edges o) : ∃ e ∈ o.after, Region.binds .any e = true ∧ e.on = x := by
  unfold edges at h
  obtain ⟨e, he, rfl⟩ := List.mem_map.1 h
  obtain ⟨h1, h2⟩ := List.mem_filter.1 he
  exact ⟨e, by simpa using h1, h2, rfl⟩

theorem edges_of {o : Oper} {e : Edge} (h : e ∈ o.after) (hb : Region.binds .any e = true) : e.on ∈ edges o :=
  List.mem_map.2 ⟨e, List.mem_filter.2 ⟨by simpa using h, hb⟩, rfl⟩

/-- What comes before an operation that is ready has run. -/
theorem Cfg.bef [Env] (pl : Plan P ng ops S) (c : Cfg ops S D sfx M fr h as ρs hs ws listed a w) {e : Ent} (he : e ∈ S) (hr : e.k ∈ Region.ready .any ops listed) : ∀ i, has e.m i = true → listed.getD i false = true := by
  intro i hi
  obtain ⟨x, hx, hc⟩ := pl.good.be e he i hi
  obtain ⟨o, ho, _, haf⟩ := pl.ent e he
  obtain ⟨_, o', ho', hall⟩ := mem_ready.1 hr
  rw [ho] at ho'; cases ho'
  rw [haf] at hx
  obtain ⟨ed, h1, h2, rfl⟩ := edges_mem hx
  have := hall ed h1 h2
  rcases hc with rfl | ⟨f, hf, h3, h4⟩
  · exact this
  · rcases hf with hf | hf
    · cases hf
    · exact c.closed f hf (by rw [h3]; exact this) i h4

theorem Cfg.unM [Env] (c : Cfg ops S D sfx M fr h as ρs hs ws listed a w) {f : Ent} (hf : f ∈ M) : listed.getD f.k true = false := (c.un f.k).2 (.inl ⟨f, hf, rfl⟩)
theorem Cfg.unS [Env] (c : Cfg ops S D sfx M fr h as ρs hs ws listed a w) {f : Ent} (hf : f ∈ sfx) : listed.getD f.k true = false := (c.un f.k).2 (.inr ⟨f, hf, rfl⟩)

/-- While something is left, something is ready. -/
theorem Cfg.left [Env] (pl : Plan P ng ops S) (ps : Pos S D sfx) (c : Cfg ops S D sfx M fr h as ρs hs ws listed a w) (hr : Region.ready .any ops listed = []) : M = [] ∧ sfx = [] := by
  have key : ∀ f ∈ S, listed.getD f.k true = false → False := by
    intro f hf hu
    obtain ⟨g, hg, h1, h2⟩ := pl.good.first (L := fun j => listed.getD j false = true) (fun _ h => by cases h) ⟨f, hf, fun h2 => getD_both hu h2⟩
    obtain ⟨o, ho, _, haf⟩ := pl.ent g hg
    have : g.k ∈ Region.ready .any ops listed := by
      refine mem_ready.2 ⟨?_, o, ho, fun ed he hb => h2 _ (by rw [haf]; exact edges_of he hb)⟩
      have hlt : g.k < listed.size := by rw [c.size]; exact (Array.getElem?_eq_some_iff.1 ho).1
      simp [hlt] at h1 ⊢
      exact h1
    rw [hr] at this; cases this
  constructor
  · cases M with
    | nil => rfl
    | cons f M => exact (key f (ps.DS f (c.sub f (by simp))) (c.unM (by simp))).elim
  · cases sfx with
    | nil => rfl
    | cons f M => exact (key f (ps.sS f (by simp)) (c.unS (by simp))).elim

theorem Cfg.slots [Env] (pl : Plan P ng ops S) (ps : Pos S D sfx) (c : Cfg ops S D sfx M fr h as ρs hs ws listed a w) {e : Ent} (he : e ∈ S) (hr : e.k ∈ Region.ready .any ops listed) {ρ : Ren} {fr0 : Tr V} {g0 : H}
    (I : Inv hs.n D M fr h ρ fr0 g0 a w) : SameOn fr0 fr e.st.op.opds ∧ wantd fr0 e.st.gd = wantd fr e.st.gd := by
  refine slots_same fun p hp => I.same p fun f hf hd => ?_
  rcases pl.slot e he f (ps.DS f (c.sub f hf)) p hd hp with this | ⟨h1, _⟩
  · exact getD_both (c.unM hf) (c.bef pl he hr _ this)
  · rw [c.lt f hf] at h1; cases h1

theorem Cfg.closed' [Env] (pl : Plan P ng ops S) (c : Cfg ops S D sfx M fr h as ρs hs ws listed a w) {e : Ent} (he : e ∈ S) (hr : e.k ∈ Region.ready .any ops listed) :
    ∀ f ∈ S, (listed.setIfInBounds e.k true).getD f.k false = true → ∀ i, has f.m i = true → (listed.setIfInBounds e.k true).getD i false = true := by
  intro f hf hl i hi
  by_cases hk : e.k = f.k
  · have : e = f := pl.good.inj e he f hf hk
    subst this
    exact getD_set_true (c.bef pl he hr i hi)
  · rw [getD_set_ne false hk] at hl
    exact getD_set_true (c.closed f hf hl i hi)

theorem wanted_of [Env] {o : Oper} {e : Ent} {ρ : Ren} {fr0 : Tr V} (hst : e.st = cSt P ng ops o) (hf : FrRel ρ fr0 a.tmps) (hh : e.st.op ≠ .bad ∨ wantd fr0 e.st.gd = false) :
    Region.wanted o (yielded ops a.tmps) = wantd fr0 e.st.gd := by
  rw [hst] at hh ⊢
  rcases hh with hh | hh
  · exact wantd_spec hf (cSt_guard hh).1
  · exact wantd_spec hf (cSt_unwanted hh)

theorem cI_inv {o : Oper} : (∀ i, cI P ng o = .pu i → cP P ng o = some i) ∧ (∀ i, cI P ng o = .rd i → cR P ng o = some i) ∧ (∀ i, cI P ng o = .al i → cA P ng o = some i) ∧
    (∀ i, cI P ng o = .hv i → cH P ng o = some i) := by
  unfold cI
  refine ⟨fun i h => ?_, fun i h => ?_, fun i h => ?_, fun i h => ?_⟩
  all_goals
    split at h
    · first
        | (rename_i j e; rw [e]; cases h; rfl)
        | cases h
    · split at h
      · first
          | (rename_i j e; rw [e]; cases h; rfl)
          | cases h
      · split at h
        · first
            | (rename_i j e; rw [e]; cases h; rfl)
            | cases h
        · split at h
          · first
              | (rename_i j e; rw [e]; cases h; rfl)
              | cases h
          · cases h

/-- The model runs an operation that the evaluator has run. -/
theorem Cfg.step [Env] (pl : Plan P ng ops S) (ps : Pos S D sfx) (hgs : Glob ng ρs) {l r : List Ent} {e : Ent} (c : Cfg ops S D sfx (l ++ e :: r) fr h as ρs hs ws listed a w) (hr : e.k ∈ Region.ready .any ops listed)
    {Q : Exit → Act → World → Prop} {K : Act → World → Prop} (hK : ∀ a' w', Cfg ops S D sfx (l ++ r) fr h as ρs hs ws (listed.setIfInBounds e.k true) a' w' → K a' w') : wpOp P ops Q e.k K a w := by
  obtain ⟨ρ, fr0, g0, I, hx⟩ := c.inv
  have heM : e ∈ l ++ e :: r := by simp
  have he : e ∈ S := ps.DS e (c.sub e heM)
  obtain ⟨o, ho, hst, haf⟩ := pl.ent e he
  have hg : Glob ng ρ := hgs.later hx.later
  obtain ⟨s1, s2⟩ := c.slots pl ps he hr I
  have hp := I.pend e heM
  have hM : ∀ f, f ∈ l ++ e :: r ↔ f = e ∨ f ∈ l ++ r := by intro f; simp only [List.mem_append, List.mem_cons]; constructor <;> intro h <;> (rcases h with h | h | h <;> simp [h])
  have hne : ∀ f ∈ l ++ r, f.k ≠ e.k := by
    intro f hf hk
    have hnd := c.nd
    rw [List.map_append, List.map_cons] at hnd
    have h1 := List.perm_middle.nodup_iff.1 hnd
    rw [List.nodup_cons] at h1
    refine h1.1 ?_
    rw [← hk, ← List.map_append]
    exact List.mem_map.2 ⟨f, hf, rfl⟩
  have hlt : e.k < listed.size := lt_of_getD (c.unM heM)
  -- the next state, given what holds in it
  have fin : ∀ (ρ' : Ren) (v : V) (x : Value) (g0' : H) (w' : World), Inv hs.n D (l ++ r) fr h ρ' (putD fr0 e.st.dst v) g0' (a.put o.dst x) w' → Ext ρs hs ws ρ' g0' w' → K (a.put o.dst x) w' := by
    intro ρ' v x g0' w' I' hx'
    refine hK _ _ ⟨fun f hf => c.sub f ((hM f).2 (.inr hf)), fun f hf => c.lt f ((hM f).2 (.inr hf)), ?_, by rw [Array.size_setIfInBounds]; exact c.size, fun j => ?_, c.closed' pl he hr, by rw [Go.Eng.put_defers]; exact c.defers, ρ', _, g0', I', hx'⟩
    · have hnd := c.nd
      rw [List.map_append, List.map_cons] at hnd
      have h1 := List.perm_middle.nodup_iff.1 hnd
      rw [List.nodup_cons, ← List.map_append] at h1
      exact h1.2
    · by_cases hj : e.k = j
      · subst hj
        rw [set_getD_self hlt]
        simp only [Bool.true_eq_false, false_iff]
        rintro (⟨f, hf, hk⟩ | ⟨f, hf, hk⟩)
        · exact hne f hf hk
        · exact ps.good.disj e (c.sub e heM) f hf hk.symm
      · rw [getD_set_ne true hj, c.un j]
        constructor
        · rintro (⟨f, hf, hk⟩ | h)
          · rcases (hM f).1 hf with rfl | hf
            · exact absurd hk hj
            · exact .inl ⟨f, hf, hk⟩
          · exact .inr h
        · rintro (⟨f, hf, hk⟩ | h)
          · exact .inl ⟨f, (hM f).2 (.inr hf), hk⟩
          · exact .inr h
  have hdst : e.st.dst = o.dst.map Path.of := by rw [hst]; exact cSt_dst
  have hfree : ∀ (ρ' : Ren), (∀ p x, ρ' p = some x → ρ p = some x ∨ g0.n.num ≤ p.num) → ∀ b, MB (l ++ r) fr b → ρ' b = none := by
    rintro ρ' hf b ⟨f, hf1, d, hd, hb⟩
    obtain ⟨_, q2, _, q4⟩ := I.hid b (MB_iff.2 ⟨f, (hM f).2 (.inr hf1), d, hd, hb⟩)
    cases e' : ρ' b with
    | none => rfl
    | some y =>
      rcases hf b y e' with h2 | h2
      · rw [q2] at h2; cases h2
      · rw [I.gn] at h2; omega
  unfold wpOp
  simp only [ho]
  unfold Pend at hp
  cases hw : wantd fr e.st.gd with
  | false =>
    rw [hw] at hp
    rw [wanted_of hst I.rel (.inr (by rw [s2]; exact hw)), s2, hw]
    refine fin ρ undefV undef g0 w (I.listed hM hne hdst hp (.refl _) I.hrel I.gn rfl (fun b hb => ?_) (fun b _ => rfl) (hfree ρ fun _ _ h => .inl h)) hx
    obtain ⟨d, hd, hb⟩ := hb
    exfalso
    have hd' := alOf_dst hd
    cases hm : fr.mem d with
    | true => rw [hp d hd' hm] at hb; cases hb
    | false => rw [Tr.get_not_mem hm] at hb; cases hb
  | true =>
    rw [hw] at hp
    obtain ⟨v, hval, hop⟩ := hp
    have hbad : e.st.op ≠ .bad := by intro c; rw [c] at hop; exact hop
    have hcI : e.st.op = cI P ng o := by
      have := (cSt_guard (P := P) (ng := ng) (ops := ops) (o := o) (by rw [← hst]; exact hbad)).2
      rw [hst]; exact this
    rw [wanted_of hst I.rel (.inl hbad), s2, hw]
    simp only [if_true]
    left
    have noal : (∀ i, e.st.op ≠ .al i) → alOf e = none := by
      intro hn
      unfold alOf
      split
      · rename_i i hi; exact absurd hi (hn i)
      · rfl
    -- an operation that makes no block
    have plain : alOf e = none → StepOk P ng o fr0 g0 v g0 → o.wp P a w K Q := by
      intro hna hstep
      refine hstep ρ a w hg I.rel I.hrel K Q fun ρ' x w' hv hr' hx' => ?_
      refine fin ρ' v x g0 w' (I.listed hM hne hdst hval hx'.later hr' I.gn hv (fun b hb => ?_) (fun b _ => rfl) (hfree ρ' hx'.fresh)) (hx.trans hx')
      obtain ⟨d, hd, _⟩ := hb
      rw [hna] at hd; cases hd
    cases hi : e.st.op with
    | pu i =>
      rw [hi] at hop s1
      rw [hi] at hcI
      simp only at hop
      exact plain (noal fun j => by rw [hi]; exact fun h => by cases h) (step_pu (cI_inv.1 i hcI.symm) (by rw [puI_same s1]; exact hop))
    | rd i =>
      rw [hi] at hop s1
      rw [hi] at hcI
      simp only at hop
      refine plain (noal fun j => by rw [hi]; exact fun h => by cases h) (step_rd (cI_inv.2.1 i hcI.symm) ?_)
      rw [rdI_same s1]
      refine hop g0 fun b _ hnb => I.vis b fun hb => hnb ?_
      obtain ⟨f, hf, d, hd, hb⟩ := MB_iff.1 hb
      refine ⟨d, als_mem.2 ⟨f, c.sub f hf, ?_, hd⟩, hb⟩
      cases hh : has e.m f.k with
      | false => rfl
      | true => exact (getD_both (c.unM hf) (c.bef pl he hr _ hh)).elim
    | al i =>
      rw [hi] at hop s1
      rw [hi] at hcI
      simp only at hop
      obtain ⟨ob, kk, b, d, q1, q2, q3, q4, q5⟩ := hop
      have hald : alOf e = some d := by unfold alOf; rw [hi]; exact q2
      have hbd : blkOf (fr.get undefV d) = some b := by rw [hval d q2 q3, q4, val_blk]
      obtain ⟨x, obj, sz, w', hrun, hwh, hst2, hob, hv⟩ := al_sound hg I.rel (cI_inv.2.2.1 i hcI.symm) (by rw [alI_same s1]; exact q1) w
      obtain ⟨i1, i2, i3, i4⟩ := I.hid b (MB_iff.2 ⟨e, heM, d, hald, hbd⟩)
      simp only [Oper.wp, hrun, Oper.upon]
      have gg : ∀ p, (g0.put b ob).get p = if p = b then ob else g0.get p := fun p => H.get_put _ _ _ _
      have r1 := I.hrel.newAt (g' := g0.put b ob) i2 (by rw [I.gn]; exact i4) hob gg rfl hwh
      have r2 := hx.newAt (g' := g0.put b ob) (sz := sz) i2 i3 gg rfl hwh hst2
      have uniq : ∀ b', (∃ d, alOf e = some d ∧ blkOf (fr.get undefV d) = some b') → b' = b := by
        rintro b' ⟨d', h1, h2⟩
        rw [hald] at h1; cases h1
        rw [hbd] at h2; cases h2; rfl
      refine fin _ v x (g0.put b ob) w' (I.listed hM hne hdst hval (Ren.later_add i2) r1 I.gn (by rw [q4]; exact hv _ _ (Ren.add_self ..)) (fun b' hb' => ?_) (fun b' hb' => ?_) fun b' hb' => ?_) r2
      · rw [uniq b' hb', gg, if_pos rfl, q5]
      · rw [gg, if_neg]
        rintro rfl
        exact hb' ⟨d, hald, hbd⟩
      · obtain ⟨f, hf, d', h1, h2⟩ := hb'
        have hbb : b' ≠ b := by
          rintro rfl
          exact hne f hf (I.dist f ((hM f).2 (.inr hf)) e heM d' d b' h1 hald h2 hbd)
        rw [Ren.add_ne hbb]
        exact (I.hid b' (MB_iff.2 ⟨f, (hM f).2 (.inr hf), d', h1, h2⟩)).2.1
    | hv i => rw [hi] at hop; exact hop.elim
    | bad => exact absurd hi hbad

end
end
end Go.Eng

namespace Go.Eng
section
variable {P : Program} {ng : Nat} {ops : Array Oper} {S : List Ent} {as : Act} {ρs : Ren} {hs : H} {ws : World}
variable {tab : Tr (Option F)} {plan : Array Oper → Option (List It)} {N : Nat}

section
variable {D sfx M : List Ent} {fr : Tr V} {h : H} {listed : Array Bool} {a : Act} {w : World}

theorem Pos.clo (ps : Pos S D sfx) {e : Ent} (hk : ∀ f ∈ D, f.k ≠ e.k) : ∀ f ∈ D, has f.m e.k = false := by
  intro f hf
  cases hh : has f.m e.k with
  | false => rfl
  | true =>
    obtain ⟨g, hg, hk'⟩ := ps.bef f hf _ hh
    exact absurd hk' (hk g hg)

/-- The evaluator runs an operation. -/
theorem Cfg.light [Env] (pl : Plan P ng ops S) {e : Ent} (hhv : e.hv = false) (ps : Pos S D (e :: sfx)) (c : Cfg ops S D (e :: sfx) M fr h as ρs hs ws listed a w) (v : V) (h' : H)
    (hh : (h' = h ∧ (alOf e = none ∨ v = undefV)) ∨ ∃ ob d kk, h' = h.new ob ∧ alOf e = some d ∧ fr.mem d = true ∧ v = AK.val kk h.n)
    (hp : Pend (e :: D) e (putD fr e.st.dst v) h') : Cfg ops S (e :: D) sfx (e :: M) (putD fr e.st.dst v) h' as ρs hs ws listed a w := by
  obtain ⟨ρ, fr0, g0, I, hx⟩ := c.inv
  have hk : ∀ f ∈ D, f.k ≠ e.k := fun f hf => ps.good.disj f hf e (by simp)
  obtain ⟨g0', I', hg, hn, hm⟩ := I.light pl hhv ps.DS c.sub (ps.sS e (by simp)) hk (ps.clo hk) v h' (by have := hx.mono; rw [I.gn] at this; exact this) hh hp
  refine ⟨fun f hf => ?_, fun f hf => ?_, ?_, c.size, fun j => ?_, c.closed, c.defers, ρ, fr0, g0', I', ⟨hx.later, hx.size, hx.frame, fun p x hp => ?_, hx.fresh, Nat.le_trans hx.mono hm, hx.str⟩⟩
  · rcases List.mem_cons.1 hf with rfl | hf
    · simp
    · simp [c.sub f hf]
  · rcases List.mem_cons.1 hf with rfl | hf
    · exact hhv
    · exact c.lt f hf
  · rw [List.map_cons, List.nodup_cons]
    refine ⟨fun hmem => ?_, c.nd⟩
    obtain ⟨f, hf, hk'⟩ := List.mem_map.1 hmem
    exact hk f (c.sub f hf) hk'
  · rw [c.un j]
    simp only [List.mem_cons, exists_eq_or_imp]
    constructor
    · rintro (h | h | h) <;> simp [h]
    · rintro ((h | h) | h) <;> simp [h]
  · rw [hg] at hp; exact hx.img p x hp

/-- Those that the evaluator has run, run, in any order. -/
theorem drain [Env] (pl : Plan P ng ops S) (ps : Pos S D sfx) (hgs : Glob ng ρs) {Q : Exit → Act → World → Prop}
    (hnext : ∀ M fuel listed a w, Cfg ops S D sfx M fr h as ρs hs ws listed a w → fuel + 1 = M.length + sfx.length → ∀ i ∈ Region.ready .any ops listed, (∀ f ∈ M, f.k ≠ i) →
      wpOp P ops Q i (wpAny P .any ops Q fuel (listed.setIfInBounds i true)) a w)
    (hfin : sfx = [] → ∀ listed a w, Cfg ops S D sfx [] fr h as ρs hs ws listed a w → Q .normal a w) :
    ∀ fuel M listed a w, fuel = M.length + sfx.length → Cfg ops S D sfx M fr h as ρs hs ws listed a w → wpAny P .any ops Q fuel listed a w
  | 0, M, listed, a, w, hl, c => by
    have e1 : M = [] := List.length_eq_zero_iff.1 (by omega)
    have e2 : sfx = [] := List.length_eq_zero_iff.1 (by omega)
    subst e1
    refine ⟨?_, hfin e2 listed a w c⟩
    rw [List.eq_nil_iff_forall_not_mem]
    intro j hj
    have := (c.un j).1 (mem_ready.1 hj).1
    rcases this with ⟨f, hf, _⟩ | ⟨f, hf, _⟩
    · cases hf
    · rw [e2] at hf; cases hf
  | fuel + 1, M, listed, a, w, hl, c => by
    refine ⟨fun hr => ?_, fun i hi => ?_⟩
    · obtain ⟨e1, e2⟩ := c.left pl ps hr
      subst e1
      exact hfin e2 listed a w c
    · by_cases hM : ∃ f ∈ M, f.k = i
      · obtain ⟨f, hf, rfl⟩ := hM
        obtain ⟨l, r, rfl⟩ := List.append_of_mem hf
        exact c.step pl ps hgs hi fun a' w' c' => drain pl ps hgs hnext hfin fuel (l ++ r) _ a' w' (by simp at hl ⊢; omega) c'
      · exact hnext M fuel listed a w c hl i hi fun f hf hk => hM ⟨f, hf, hk⟩
end

theorem chkL_spec {fr : Tr V} {h : H} : ∀ {l : List (St × List Path)}, chkL fr h l = true → ∀ s hide, (s, hide) ∈ l → wantd fr s.gd = true →
    ∀ i, s.op = .rd i → ∃ d, s.dst = some d ∧ fr.mem d = true ∧ rdI fr (hideL fr hide h) i = some (fr.get undefV d)
  | [], _, _, _, hm, _, _, _ => by cases hm
  | (s', hide') :: l, hc, s, hide, hm, hw, i, hi => by
    simp only [chkL] at hc
    rcases List.mem_cons.1 hm with e | hm
    · cases e
      rw [hw, cond_true] at hc
      rw [hi] at hc
      split at hc
      · rename_i i' d h1 h2
        cases h1
        cases hmem : fr.mem d with
        | false => rw [hmem] at hc; simp at hc
        | true =>
          rw [hmem, cond_true] at hc
          refine ⟨d, by assumption, hmem, ?_⟩
          split at hc
          · rename_i v hv
            cases hs : sameV v (fr.get undefV d) with
            | false => rw [hs] at hc; simp at hc
            | true => rw [hv, sameV_eq hs]
          · cases hc
      · cases hc
    · refine chkL_spec ?_ s hide hm hw i hi
      cases hwd : wantd fr s'.gd with
      | false => rw [hwd] at hc; exact hc
      | true =>
        rw [hwd, cond_true] at hc
        split at hc
        · rename_i i' d h1 h2
          cases hmem : fr.mem d with
          | false => rw [hmem] at hc; simp at hc
          | true =>
            rw [hmem, cond_true] at hc
            split at hc
            · rename_i v hv
              cases hs : sameV v (fr.get undefV d) with
              | false => rw [hs] at hc; simp at hc
              | true => rw [hs] at hc; exact hc
            · cases hc
        · cases hc

theorem heavy_cI {e : Ent} {o : Oper} {i : HI} (hst : e.st = cSt P ng ops o) (hi : e.st.op = .hv i) : cH P ng o = some i := by
  have := (cSt_guard (P := P) (ng := ng) (ops := ops) (o := o) (by rw [← hst, hi]; intro h; cases h)).2
  rw [← hst, hi] at this
  exact cI_inv.2.2.2 i this.symm

theorem dmain [Env] (pl : Plan P ng ops S) (hgs : Glob ng ρs) (hS : ∀ m, m ≤ N → Sound P ng plan tab m) : ∀ (sfx D : List Ent), Pos S D sfx →
    ∀ m, m ≤ N + 1 → ∀ fr h x fr' h', run tab m (.dops (its D sfx)) fr h = .one x fr' h' →
    ∀ fuel M listed a w, fuel = M.length + sfx.length → Cfg ops S D sfx M fr h as ρs hs ws listed a w → wpAny P .any ops (Post ρs hs ws as x fr' h') fuel listed a w
  | [], D, ps, m, hm, fr, h, x, fr', h', hrun => by
    cases m with
    | zero => rw [run_zero] at hrun; cases hrun
    | succ m =>
    rw [run_succ] at hrun
    simp only [runT, its, runD, Rs.one.injEq] at hrun
    obtain ⟨rfl, rfl, rfl⟩ := hrun
    refine drain pl ps hgs (fun M fuel listed a w c hl i hi hne => ?_) (fun _ listed a w c => ?_)
    · rcases (c.un i).1 (mem_ready.1 hi).1 with ⟨f, hf, hk⟩ | ⟨f, hf, _⟩
      · exact absurd hk (hne f hf)
      · cases hf
    · obtain ⟨ρ, fr0, g0, I, hx⟩ := c.inv
      have nb : ∀ b, ¬ BlkL fr (([] : List Ent).filterMap alOf) b := by rintro b ⟨d, hd, _⟩; simp at hd
      have e1 : ∀ p, fr0.get undefV p = fr.get undefV p := fun p => I.same p fun f hf => by cases hf
      have e2 : ∀ b, g0.get b = h.get b := fun b => I.vis b (nb b)
      exact ⟨rfl, c.defers, ρ, ⟨fun t => by rw [← e1]; exact I.rel.val t, fun t => by rw [← I.mem]; exact I.rel.mem t⟩, I.hrel.congr e2 I.gn, hx.congr e2 I.gn⟩
  | e :: sfx, D, ps, m, hm, fr, h, x, fr', h', hrun => by
    cases m with
    | zero => rw [run_zero] at hrun; cases hrun
    | succ m =>
    rw [run_succ] at hrun
    have he : e ∈ S := ps.sS e (by simp)
    obtain ⟨o, ho, hst, haf⟩ := pl.ent e he
    have hdst : e.st.dst = o.dst.map Path.of := by rw [hst]; exact cSt_dst
    have hk : ∀ f ∈ D, f.k ≠ e.k := fun f hf => ps.good.disj f hf e (by simp)
    have hclo := ps.clo hk
    have next := dmain pl hgs hS sfx (e :: D) ps.next m (by omega)
    have off := fun v => Off.put e.st.dst fr v
    -- what e looks at does not change when e has run
    have selfs : e.hv = false → ∀ v, SameOn (putD fr e.st.dst v) fr e.st.op.opds ∧ wantd (putD fr e.st.dst v) e.st.gd = wantd fr e.st.gd := fun hhv v =>
      slots_same fun p hp => (off v).get p fun c => by
        rcases pl.slot e he e he p c hp with this | ⟨h1, _⟩
        · obtain ⟨g, hg, hk'⟩ := ps.good.2.2.1 _ this
          exact hk g hg hk'
        · rw [hhv] at h1; cases h1
    have putg : ∀ v d, e.st.dst = some d → (putD fr e.st.dst v).mem d = true → (putD fr e.st.dst v).get undefV d = v := by
      intro v d hd hm
      rw [(off v).mem] at hm
      rw [hd]; exact putD_get hm
    -- an operation that the model is to run now
    have heavyNext : e.hv = true → ∀ (v : V) (h2 : H), run tab m (.dops (its (e :: D) sfx)) (putD fr e.st.dst v) h2 = .one x fr' h' →
        (∀ M a w ρ fr0 g0, (∀ f ∈ M, f ∈ D) → (∀ f ∈ M, has e.m f.k = false) → Glob ng ρ → SameOn fr0 fr e.st.op.opds → wantd fr0 e.st.gd = wantd fr e.st.gd → Inv hs.n D M fr h ρ fr0 g0 a w →
          ∀ (K : Act → World → Prop), (∀ x' w', (∃ ρ' g0', Inv hs.n (e :: D) M (putD fr e.st.dst v) h2 ρ' (putD fr0 e.st.dst v) g0' (a.put o.dst x') w' ∧ Ext ρ g0 w ρ' g0' w') → K (a.put o.dst x') w') →
          wpOp P ops (Post ρs hs ws as x fr' h') e.k K a w) →
        ∀ fuel M listed a w, fuel = M.length + (e :: sfx).length → Cfg ops S D (e :: sfx) M fr h as ρs hs ws listed a w → wpAny P .any ops (Post ρs hs ws as x fr' h') fuel listed a w := by
      intro hhv v h2 hrun' hstep
      refine drain pl ps hgs (fun M fuel listed a w c hl i hi hne => ?_) (fun h => by cases h)
      have hie : i = e.k := by
        rcases (c.un i).1 (mem_ready.1 hi).1 with ⟨f, hf, hk2⟩ | ⟨f, hf, hk2⟩
        · exact absurd hk2 (hne f hf)
        · rcases List.mem_cons.1 hf with rfl | hf
          · exact hk2.symm
          · exfalso
            subst hk2
            have h3 := ps.good.2.2.2.2.2.1 hhv f hf
            exact getD_both (c.unS (by simp)) (c.bef pl (ps.sS f (by simp [hf])) hi _ h3)
      subst hie
      obtain ⟨ρ, fr0, g0, I, hx⟩ := c.inv
      obtain ⟨s1, s2⟩ := c.slots pl ps he hi I
      have hMe : ∀ f ∈ M, has e.m f.k = false := by
        intro f hf
        cases hh : has e.m f.k with
        | false => rfl
        | true => exact (getD_both (c.unM hf) (c.bef pl he hi _ hh)).elim
      refine hstep M a w ρ fr0 g0 c.sub hMe (hgs.later hx.later) s1 s2 I _ fun x' w' hI' => ?_
      obtain ⟨ρ', g0', I', hx'⟩ := hI'
      refine next _ _ x fr' h' hrun' fuel M _ _ w' (by simp at hl; omega) ?_
      refine ⟨fun f hf => by simp [c.sub f hf], c.lt, c.nd, by rw [Array.size_setIfInBounds]; exact c.size, fun j => ?_, c.closed' pl he hi, by rw [Go.Eng.put_defers]; exact c.defers, ρ', _, g0', I', hx.trans hx'⟩
      have hlt : e.k < listed.size := lt_of_getD (c.unS (by simp))
      by_cases hj : e.k = j
      · subst hj
        rw [set_getD_self hlt]
        simp only [Bool.true_eq_false, false_iff]
        rintro (⟨f, hf, hk'⟩ | ⟨f, hf, hk'⟩)
        · exact hk f (c.sub f hf) hk'
        · have := ps.next.good.disj e (by simp) f hf
          exact this hk'.symm
      · rw [getD_set_ne true hj, c.un j]
        constructor
        · rintro (h | ⟨f, hf, hk'⟩)
          · exact .inl h
          · rcases List.mem_cons.1 hf with rfl | hf
            · exact absurd hk' hj
            · exact .inr ⟨f, hf, hk'⟩
        · rintro (h | ⟨f, hf, hk'⟩)
          · exact .inl h
          · exact .inr ⟨f, by simp [hf], hk'⟩
    -- nothing happens to memory, and the model does it now
    have quietNext : e.hv = true → ∀ (v : V), alOf e = none → run tab m (.dops (its (e :: D) sfx)) (putD fr e.st.dst v) h = .one x fr' h' →
        (∀ M a w ρ fr0 g0, (∀ f ∈ M, f ∈ D) → (∀ f ∈ M, has e.m f.k = false) → Glob ng ρ → SameOn fr0 fr e.st.op.opds → wantd fr0 e.st.gd = wantd fr e.st.gd → Inv hs.n D M fr h ρ fr0 g0 a w →
          ∀ (K : Act → World → Prop), (∀ ρ' x' w', conc ρ' v = some x' → HRel ρ' g0 w' → Ext ρ g0 w ρ' g0 w' → K (a.put o.dst x') w') → wpOp P ops (Post ρs hs ws as x fr' h') e.k K a w) →
        ∀ fuel M listed a w, fuel = M.length + (e :: sfx).length → Cfg ops S D (e :: sfx) M fr h as ρs hs ws listed a w → wpAny P .any ops (Post ρs hs ws as x fr' h') fuel listed a w := by
      intro hhv v hna hrun' hstep
      refine heavyNext hhv v h hrun' fun M a w ρ fr0 g0 hMD hMe hg s1 s2 I K hK => ?_
      refine hstep M a w ρ fr0 g0 hMD hMe hg s1 s2 I K fun ρ' x' w' hv' hr' hx' => hK x' w' ?_
      exact ⟨ρ', g0, I.quiet pl ps.DS hMD he hk hclo hMe hna hdst hr' hx' hv', hx'⟩
    simp only [runT, its, runD, mkIt] at hrun
    obtain ⟨hop1, hop2⟩ := ps.good.2.2.2.2.1
    cases hhv : e.hv with
    | false =>
      have selfs := selfs hhv
      cases hw : wantd fr e.st.gd with
      | false =>
        rw [hw] at hrun
        simp only at hrun
        intro fuel M listed a w hl c
        refine next _ _ x fr' h' hrun fuel (e :: M) listed a w (by simp at hl ⊢; omega) (c.light pl hhv ps undefV h (.inl ⟨rfl, .inr rfl⟩) ?_)
        unfold Pend
        rw [(selfs undefV).2, hw]
        exact fun d hd hm => putg undefV d hd hm
      | true =>
        rw [hw] at hrun
        simp only at hrun
        cases hi : e.st.op with
        | bad => rw [hi] at hrun; simp [runOpD] at hrun
        | hv i =>
          have := hop1 (by rw [hi]; rfl)
          rw [hhv] at this; cases this
        | pu i =>
          rw [hi] at hrun
          simp only [runOpD, runValD] at hrun
          split at hrun
          · rename_i v hv
            intro fuel M listed a w hl c
            refine next _ _ x fr' h' hrun fuel (e :: M) listed a w (by simp at hl ⊢; omega) (c.light pl hhv ps v h (.inl ⟨rfl, .inl (by unfold alOf; rw [hi])⟩) ?_)
            unfold Pend
            have ss := selfs v
            rw [ss.2, hw]
            refine ⟨v, fun d hd hm => putg v d hd hm, ?_⟩
            rw [hi]
            rw [hi] at ss
            simp only
            rw [puI_same ss.1]; exact hv
          · cases hrun
        | rd i =>
          rw [hi] at hrun
          simp only [runOpD, runValD] at hrun
          split at hrun
          · rename_i v hv
            have hna : alOf e = none := by unfold alOf; rw [hi]
            intro fuel M listed a w hl c
            refine next _ _ x fr' h' hrun fuel (e :: M) listed a w (by simp at hl ⊢; omega) (c.light pl hhv ps v h (.inl ⟨rfl, .inl hna⟩) ?_)
            unfold Pend
            have ss := selfs v
            rw [ss.2, hw]
            refine ⟨v, fun d hd hm => putg v d hd hm, ?_⟩
            rw [hi]
            rw [hi] at ss
            simp only
            intro g hg
            rw [rdI_same ss.1]
            refine rdI_less (fun b => ?_) hv
            have fs := hideL_spec (fr := fr) (b := b) (als e.m D) h
            by_cases hb : BlkL fr (als e.m D) b
            · exact .inl (fs.1 hb)
            · rw [fs.2.1 hb]
              by_cases hl : (h.get b).live = true
              · refine .inr (hg b hl ?_).symm
                rintro ⟨d2, hd2, hb2⟩
                obtain ⟨f', hf', h3, h4⟩ := als_mem.1 hd2
                rcases List.mem_cons.1 hf' with rfl | hf'
                · rw [hna] at h4; cases h4
                · refine hb ⟨d2, als_mem.2 ⟨f', hf', h3, h4⟩, ?_⟩
                  rw [← (off v).get d2 fun c => pl.dst f' (ps.DS f' hf') e he (hk f' hf') d2 (alOf_dst h4) c]; exact hb2
              · exact .inl (Ob.dead_of hl)
          · cases hrun
        | al i =>
          rw [hi] at hrun
          simp only [runOpD, runAlD] at hrun
          split at hrun
          · rename_i ob kk hv
            split at hrun
            · rename_i d hd
              cases hm : fr.mem d with
              | false => rw [hm] at hrun; simp at hrun
              | true =>
                rw [hm, cond_true] at hrun
                have hald : alOf e = some d := by unfold alOf; rw [hi]; exact hd
                intro fuel M listed a w hl c
                have hput : putD fr e.st.dst (AK.val kk h.n) = fr.set d (AK.val kk h.n) := by rw [hd]; rfl
                refine next _ _ x fr' h' (by rw [hput]; exact hrun) fuel (e :: M) listed a w (by simp at hl ⊢; omega) (c.light pl hhv ps (AK.val kk h.n) (h.new ob) (.inr ⟨ob, d, kk, rfl, hald, hm, rfl⟩) ?_)
                unfold Pend
                have ss := selfs (AK.val kk h.n)
                rw [ss.2, hw]
                refine ⟨AK.val kk h.n, fun d hd hm => putg _ d hd hm, ?_⟩
                rw [hi]
                rw [hi] at ss
                simp only
                exact ⟨ob, kk, h.n, d, by rw [alI_same ss.1]; exact hv, hd, by rw [(off _).mem]; exact hm, rfl, by rw [H.get_new, if_pos rfl]⟩
            · cases hrun
          · cases hrun
    | true =>
      have hna : alOf e = none := by
        have := hop2 hhv
        unfold alOf
        split
        · rename_i i hi; rw [hi] at this; cases this
        · rfl
      have hless : ∀ {M : List Ent} {ρ : Ren} {fr0 : Tr V} {g0 : H} {a : Act} {w : World}, (∀ f ∈ M, f ∈ D) → (∀ f ∈ M, has e.m f.k = false) → Inv hs.n D M fr h ρ fr0 g0 a w → Less (hideL fr (als e.m D) h) g0 := by
        intro M ρ fr0 g0 a w hMD hMe I b
        have fs := hideL_spec (fr := fr) (b := b) (als e.m D) h
        by_cases hb : BlkL fr (als e.m D) b
        · exact .inl (fs.1 hb)
        · refine .inr ?_
          rw [fs.2.1 hb]
          refine (I.vis b fun c => hb ?_).symm
          obtain ⟨f, hf, d, hd, hbb⟩ := MB_iff.1 c
          exact ⟨d, als_mem.2 ⟨f, hMD f hf, hMe f hf, hd⟩, hbb⟩
      cases hw : wantd fr e.st.gd with
      | false =>
        rw [hw] at hrun
        simp only at hrun
        refine quietNext hhv undefV hna hrun fun M a w ρ fr0 g0 hMD hMe hg s1 s2 I K hK => ?_
        unfold wpOp
        simp only [ho]
        rw [wanted_of hst I.rel (.inr (by rw [s2]; exact hw)), s2, hw]
        exact hK ρ undef w rfl I.hrel (.refl _ _ _)
      | true =>
        rw [hw] at hrun
        simp only at hrun
        -- a step of the model, for an operation that changes nothing of memory
        have quietStep : e.st.op ≠ .bad → ∀ (v : V), run tab m (.dops (its (e :: D) sfx)) (putD fr e.st.dst v) h = .one x fr' h' →
            (∀ (M : List Ent) (ρ : Ren) (fr0 : Tr V) (g0 : H) (a : Act) (w : World), Inv hs.n D M fr h ρ fr0 g0 a w → SameOn fr0 fr e.st.op.opds → Less (hideL fr (als e.m D) h) g0 → StepOk P ng o fr0 g0 v g0) →
            ∀ fuel M listed a w, fuel = M.length + (e :: sfx).length → Cfg ops S D (e :: sfx) M fr h as ρs hs ws listed a w → wpAny P .any ops (Post ρs hs ws as x fr' h') fuel listed a w := by
          intro hbad v hrun' hstep
          refine quietNext hhv v hna hrun' fun M a w ρ fr0 g0 hMD hMe hg s1 s2 I K hK => ?_
          unfold wpOp
          simp only [ho]
          rw [wanted_of hst I.rel (.inl hbad), s2, hw]
          simp only [if_true]
          left
          exact hstep M ρ fr0 g0 a w I s1 (hless hMD hMe I) ρ a w hg I.rel I.hrel K _ fun ρ' x' w' hv' hr' hx' => hK ρ' x' w' hv' hr' hx'
        have cIe : e.st.op ≠ .bad → e.st.op = cI P ng o := by
          intro hbad
          have := (cSt_guard (P := P) (ng := ng) (ops := ops) (o := o) (by rw [← hst]; exact hbad)).2
          rw [hst]; exact this
        cases hi : e.st.op with
        | bad => rw [hi] at hrun; simp [runOpD] at hrun
        | al i => have h5 := hop2 hhv; rw [hi] at h5; cases h5
        | pu i =>
          rw [hi] at hrun
          simp only [runOpD, runValD] at hrun
          split at hrun
          · rename_i v hv
            refine quietStep (by rw [hi]; intro c; cases c) v hrun fun M ρ fr0 g0 a w I s1 hl => ?_
            rw [hi] at s1
            have hcI := cIe (by rw [hi]; intro c; cases c)
            rw [hi] at hcI
            exact step_pu (cI_inv.1 i hcI.symm) (by rw [puI_same s1]; exact hv)
          · cases hrun
        | rd i =>
          rw [hi] at hrun
          simp only [runOpD, runValD] at hrun
          split at hrun
          · rename_i v hv
            refine quietStep (by rw [hi]; intro c; cases c) v hrun fun M ρ fr0 g0 a w I s1 hl => ?_
            rw [hi] at s1
            have hcI := cIe (by rw [hi]; intro c; cases c)
            rw [hi] at hcI
            exact step_rd (cI_inv.2.1 i hcI.symm) (by rw [rdI_same s1]; exact rdI_less hl hv)
          · cases hrun
        | hv i =>
          rw [hi] at hrun
          simp only [runOpD, I.heavy, cond_true] at hrun
          have hcH := heavy_cI hst hi
          -- what follows when the operation has run on the hidden heap
          have go : ∀ (v : V) (h1 : H), finD (run tab m) ⟨e.st, als e.m D, chks e.m D D⟩ (its (e :: D) sfx) fr v (showL fr h (als e.m D) h1) = .one x fr' h' →
              (∀ fr0 : Tr V, SameOn fr0 fr e.st.op.opds → StepOk P ng o fr0 (hideL fr (als e.m D) h) v h1) →
              ∀ fuel M listed a w, fuel = M.length + (e :: sfx).length → Cfg ops S D (e :: sfx) M fr h as ρs hs ws listed a w → wpAny P .any ops (Post ρs hs ws as x fr' h') fuel listed a w := by
            intro v h1 hfin hstep
            unfold finD at hfin
            cases hck : chkL fr (showL fr h (als e.m D) h1) (chks e.m D D) with
            | false => simp only [hck] at hfin; cases hfin
            | true =>
            simp only [hck] at hfin
            refine heavyNext hhv v _ hfin ?_
            intro M a w ρ fr0 g0 hMD hMe hg s1 s2 I K hK
            unfold wpOp
            simp only [ho]
            rw [wanted_of hst I.rel (.inl (by rw [hi]; intro h; cases h)), s2, hw]
            simp only [if_true]
            left
            have hn := (hideL_spec (fr := fr) (b := .e) (als e.m D) h).2.2
            have hrel := I.hrel.sub (hless hMD hMe I) (by rw [hn, I.gn]; exact Nat.le_refl _)
            refine hstep fr0 s1 ρ a w hg I.rel hrel K _ fun ρ' x' w' hv' hr' hx' => hK x' w' ?_
            obtain ⟨g0', I', hx2⟩ := I.heavy pl ps.DS hMD he hk hclo hMe hna hdst hr' hx' hv' (fun f hf i' hop hwf =>
              chkL_spec hck f.st (als f.m D) (chks_mem hop (hMe f hf) (hMD f hf)) hwf i' hop)
            exact ⟨ρ', g0', I', hx2⟩
          unfold runHvD at hrun
          split at hrun
          · rename_i v h1 hv
            refine go v h1 hrun fun fr0 s1 => step_hv hcH ?_
            rw [hi] at s1
            rw [hvI_same s1]; exact hv
          · rename_i f args hv
            unfold runCallD at hrun
            split at hrun
            · rename_i y q h1 hcall
              refine go _ h1 hrun fun fr0 s1 => step_call hcH (f := f) (args := args) ?_ ((hS m (by omega)).call f args .nil _ y q h1 hcall)
              rw [hi] at s1
              rw [hvI_same s1]; exact hv
            · cases hrun
          · cases hrun

/-- SOUNDNESS. -/
theorem sound [Env] (hm : P.follows .mixedOrders = true) (hT : TabOk P ng (planOf P ng) tab) (n : Nat) : Sound P ng (planOf P ng) tab n := by
  refine sound_all hT (fun n hS id ops l hl fr h x fr' h' hrun ρ a w hg hf hr => ?_) n n (Nat.le_refl n)
  obtain ⟨S, pl, rfl⟩ := planOf_spec hl
  refine wp_region_any hm ?_
  have ps : Pos S [] S := ⟨fun _ h => (by cases h), fun _ h => h, pl.good, fun _ h => (by cases h)⟩
  have hr' : HRel ρ h { w with drawn := w.drawn + 1 } := hr.world rfl
  have key : ∀ e' a' w', Post ρ h { w with drawn := w.drawn + 1 } a x fr' h' e' a' w' → Post ρ h w a x fr' h' e' a' w' := by
    rintro e' a' w' ⟨h1, h2, ρ', h3, h4, h5⟩
    exact ⟨h1, h2, ρ', h3, h4, ⟨h5.later, h5.size, h5.frame, h5.img, h5.fresh, h5.mono, ⟨h5.str.os, h5.str.tape, h5.str.output⟩⟩⟩
  have hpe : Post ρ h w a x fr' h' = Post ρ h { w with drawn := w.drawn + 1 } a x fr' h' := by
    funext e' a' w'
    apply propext
    refine ⟨?_, key e' a' w'⟩
    rintro ⟨h1, h2, ρ', h3, h4, h5⟩
    exact ⟨h1, h2, ρ', h3, h4, ⟨h5.later, h5.size, h5.frame, h5.img, h5.fresh, h5.mono, ⟨h5.str.os, h5.str.tape, h5.str.output⟩⟩⟩
  rw [hpe]
  refine dmain pl hg hS S [] ps (n + 1) (Nat.le_refl _) fr h x fr' h' hrun ops.size [] _ a _ (by simp [pl.len]) ?_
  have hun : ∀ j, (Array.replicate ops.size false).getD j true = false ↔ j < ops.size := by
    intro j
    rw [Array.getD_eq_getD_getElem?, Array.getElem?_replicate]
    by_cases h : j < ops.size <;> simp [h]
  refine ⟨fun _ h => (by cases h), fun _ h => (by cases h), by simp, by simp, fun j => ?_, fun f hf h' => ?_, rfl, ρ, fr, h, ⟨hf, fun _ _ => rfl, fun _ => rfl, hr', rfl, ?_, fun _ _ => rfl, ?_, ?_⟩, .refl _ _ _⟩
  · rw [hun]
    constructor
    · intro h; exact .inr (pl.all j h)
    · rintro (⟨f, hf, _⟩ | ⟨f, hf, rfl⟩)
      · cases hf
      · obtain ⟨o, ho, _⟩ := pl.ent f hf
        exact (Array.getElem?_eq_some_iff.1 ho).1
  · exfalso
    rw [Array.getD_eq_getD_getElem?, Array.getElem?_replicate] at h'
    split at h' <;> cases h'
  · rintro b ⟨d, hd, _⟩; simp at hd
  · intro e he; cases he
  · intro e he; cases he

end
end Go.Eng

namespace Go.Eng
open Go.RowKit

/-! ### Tables -/

def AllT {α : Type} (Q : Path → α → Prop) : Tr α → Prop
  | .nil => True
  | .nd l v r => Q .e v ∧ AllT (fun p => Q (.l p)) l ∧ AllT (fun p => Q (.r p)) r

theorem AllT.get {α : Type} {d : α} : ∀ {t : Tr α} {Q : Path → α → Prop} {p : Path}, AllT Q t → t.get d p ≠ d → Q p (t.get d p)
  | .nil, _, _, _, h => absurd rfl h
  | .nd _ _ _, _, .e, h, _ => h.1
  | .nd l _ _, Q, .l _, h, hn => AllT.get (t := l) (Q := fun p => Q (.l p)) h.2.1 hn
  | .nd _ _ r, Q, .r _, h, hn => AllT.get (t := r) (Q := fun p => Q (.r p)) h.2.2 hn

/-- An entry of a table is right. -/
def EntOk (P : Program) (ng : Nat) (plan : Array Oper → Option (List It)) (p : Path) (x : Option F) : Prop :=
  ∀ F, x = some F → ∃ fn, P.funcs[p.num]? = some fn ∧ cF P ng plan fn = some F

theorem EntOk.none {P : Program} {ng : Nat} {plan : Array Oper → Option (List It)} {p : Path} : EntOk P ng plan p none := fun _ h => by cases h

theorem EntOk.some {P : Program} {ng : Nat} {plan : Array Oper → Option (List It)} {p : Path} {F : F} {k : Nat} {fn : Func} (hf : P.funcs[k]? = some fn) (hc : cF P ng plan fn = some F) (hk : p.num = k) : EntOk P ng plan p (some F) := by
  intro F' h
  cases h
  exact ⟨fn, by rw [hk]; exact hf, hc⟩

theorem TabOk.of [Env] {P : Program} {ng : Nat} {plan : Array Oper → Option (List It)} {tab : Tr (Option F)} (h : AllT (EntOk P ng plan) tab) : TabOk P ng plan tab := by
  intro f F hF
  have := h.get (d := none) (p := f) (by rw [hF]; intro c; cases c)
  exact .inl (this F hF)

/-! ### Calls -/

/-- Did the run end, with 'true'? -/
noncomputable def endsTrue (r : Rs) : Bool :=
  match r with
  | .one _ q _ => (match q.get undefV .e with | .b x => x | _ => false)
  | .fail => false

theorem endsTrue_spec {r : Rs} (h : endsTrue r = true) : ∃ x q h', r = .one x q h' ∧ q.get undefV .e = .b true := by
  unfold endsTrue at h
  split at h
  · rename_i x q h'
    refine ⟨x, q, h', rfl, ?_⟩
    split at h
    · rename_i b hb; rw [hb, h]
    · cases h
  · cases h

end Go.Eng

