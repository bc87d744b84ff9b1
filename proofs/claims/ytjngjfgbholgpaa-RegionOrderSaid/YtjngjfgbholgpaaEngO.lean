/- The engine, part O: operations that write. -/
import Derived.Test.YtjngjfgbholgpaaEngNb
set_option linter.unusedSimpArgs false
set_option linter.unusedVariables false
namespace Go.Eng

inductive HI where
  | store (n : Nat) (x y : Opd)
  | append (es bytes elem : Nat) (x y : Opd)
  | copy (es : Nat) (x y : Opd)
  | clear (es : Nat) (zero : List V) (x : Opd)
  | call (f : Path) (args : List Opd)
  | callv (f : Opd) (args : List Opd)
  | mp (i : MI)
  | inv (tbl : List (Nat × Path × Option (Bool × Nat))) (x : Opd) (args : List Opd)

inductive HR where
  | v (x : V) (h : H)
  | call (f : Path) (args : List V)
  | fail

noncomputable def storeV (h : H) (n : Nat) (x y : V) : HR :=
  match x with
  | .p b o => match cellsOf y with
    | some l => cond (Nat.beq l.length n) (match storeC h b o l with | some h => .v undefV h | none => .fail) .fail
    | none => .fail
  | _ => .fail

/-- The cells that are appended or copied, and how many elements they are. -/
noncomputable def srcOf (h : H) (es : Nat) (y : V) : Option (List V × Nat) :=
  match y with
  | .sl0 => some ([], 0)
  | .sl b off n _ _ _ => match loadC h b off (n * es) with | some l => some (l, n) | none => none
  | .s l => cond (Nat.beq es 1) (some (l.map fun c : Nat => V.i .u8 (.ofNat c), l.length)) none
  | _ => none

/-- A new block for a slice that has grown. -/
noncomputable def growV (h : H) (es bytes elem need : Nat) (l : List V) : HR :=
  cond (Nat.ble ((2 * need + 192) * bytes) 281474976710656) (.v (.sl h.n 0 need need false es) (h.new (.c false l elem))) .fail

noncomputable def appAmb (h : H) (es bytes elem : Nat) (b : Path) (len n : Nat) (new : List V) (ob : Ob) : HR :=
  match ob with
  | .c ro _ e => cond ro .fail (cond (Nat.beq e elem) (match loadC h b 0 (len * es) with
    | some old => growV (h.put b .dead) es bytes elem (len + n) (old ++ new)
    | none => .fail) .fail)
  | _ => .fail

noncomputable def appSl (h : H) (es bytes elem : Nat) (b : Path) (off len cap : Nat) (ex : Bool) (n : Nat) (new : List V) : HR :=
  match Nat.ble (len + n) cap with
  | true => match storeC h b (off + len * es) new with
    | some h => .v (.sl b off (len + n) cap ex es) h
    | none => .fail
  | false => match ex with
    | true => (match loadC h b off (len * es) with
      | some old => growV h es bytes elem (len + n) (old ++ new)
      | none => .fail)
    | false => cond (Nat.beq off 0) (appAmb h es bytes elem b len n new (h.get b)) .fail

noncomputable def appV (h : H) (es bytes elem : Nat) (x : V) (src : Option (List V × Nat)) : HR :=
  match src with
  | none => .fail
  | some (new, n) => match n with
    | 0 => (match x with | .sl0 => .v .sl0 h | .sl b off len cap ex es' => .v (.sl b off len cap ex es') h | _ => .fail)
    | n + 1 => match x with
      | .sl0 => growV h es bytes elem (n + 1) new
      | .sl b off len cap ex es' => cond (Nat.beq es es') (appSl h es bytes elem b off len cap ex (n + 1) new) .fail
      | _ => .fail

noncomputable def copyV (h : H) (es : Nat) (x : V) (src : Option (List V × Nat)) : HR :=
  match src with
  | none => .fail
  | some (l, n) => match x with
    | .sl0 => .v (.i .i64 (.ofNat 0)) h
    | .sl b o m _ _ _ => (match takeE (Nat.min n m * es) l with
      | some l => (match storeC h b o l with | some h => .v (.i .i64 (.ofNat (Nat.min n m))) h | none => .fail)
      | none => .fail)
    | _ => .fail

noncomputable def clearV (h : H) (zero : List V) (x : V) : HR :=
  match x with
  | .sl0 => .v undefV h
  | .sl b o n _ _ _ => match n with
    | 0 => .v undefV h
    | n + 1 => (match storeC h b o (rep (n + 1) zero) with | some h => .v undefV h | none => .fail)
  | _ => .fail

noncomputable def callvV (f : V) (args : List V) : HR :=
  match f with
  | .f fn caps => .call fn (args ++ caps)
  | _ => .fail

noncomputable def mpR (r : Option (V × H)) : HR :=
  match r with
  | some (v, h) => .v v h
  | none => .fail

noncomputable def invH (r : Option (Path × List V)) : HR :=
  match r with
  | some (f, l) => .call f l
  | none => .fail

noncomputable def hvI (fr : Tr V) (h : H) (i : HI) : HR :=
  match i with
  | .store n x y => storeV h n (ev fr x) (ev fr y)
  | .append es bytes elem x y => appV h es bytes elem (ev fr x) (srcOf h es (ev fr y))
  | .copy es x y => copyV h es (ev fr x) (srcOf h es (ev fr y))
  | .clear _ z x => clearV h z (ev fr x)
  | .call f args => .call f (evs fr args)
  | .callv f args => callvV (ev fr f) (evs fr args)
  | .mp i => mpR (mpI fr h i)
  | .inv tbl x args => invH (invV h tbl (ev fr x) (evs fr args))

section
variable {P : Program} {ρ : Ren} {ng : Nat} {fr : Tr V} {a : Act} {h h' : H} {w : World}

/-- A block gets a new name, and the old one is forgotten. -/
theorem HRel.move [Env] {ρ : Ren} {h : H} {w : World} {b : Path} {x : Nat × Nat} (hr : HRel ρ h w) (hb : (h.get b).live = true) (hx : ρ b = some x) (ob : Ob) (ho : ObRel ρ x.2 ob w.heap[x.1]?) :
    HRel (ρ.add h.n x) ((h.put b .dead).new ob) w ∧ Ext ρ h w (ρ.add h.n x) ((h.put b .dead).new ob) w := by
  have hl : Later ρ (ρ.add h.n x) := Ren.later_add hr.free
  have hbn : b ≠ h.n := by rintro rfl; rw [hr.free] at hx; cases hx
  have key : ∀ p y, (ρ.add h.n x) p = some y → (p = h.n ∧ y = x) ∨ (p ≠ h.n ∧ ρ p = some y) := by
    intro p y hp
    by_cases e : p = h.n
    · subst e; rw [Ren.add_self] at hp; exact .inl ⟨rfl, by cases hp; rfl⟩
    · rw [Ren.add_ne e] at hp; exact .inr ⟨e, hp⟩
  have gt : ∀ q, ((h.put b .dead).new ob).get q = if q = h.n then ob else if q = b then .dead else h.get q := by
    intro q; rw [H.get_new, H.get_put]; rfl
  refine ⟨⟨?_, ?_, ?_, ?_, ?_⟩, ⟨hl, Nat.le_refl _, fun _ _ _ => rfl, ?_, ?_, ?_, .refl _⟩⟩
  · intro p y hp
    show p.num < h.n.succ.num
    rw [Path.num_succ]
    rcases key p y hp with ⟨rfl, _⟩ | ⟨_, h1⟩
    · omega
    · have := hr.dom _ _ h1; omega
  · intro p y hp
    rcases key p y hp with ⟨_, rfl⟩ | ⟨_, h1⟩
    · exact hr.inside _ _ hx
    · exact hr.inside _ _ h1
  · intro p hp
    rw [gt] at hp ⊢
    by_cases e : p = h.n
    · subst e
      rw [if_pos rfl] at hp ⊢
      exact ⟨x, Ren.add_self .., ho.later hl⟩
    · rw [if_neg e] at hp ⊢
      by_cases e2 : p = b
      · rw [if_pos e2] at hp; cases hp
      · rw [if_neg e2] at hp ⊢
        obtain ⟨y, h1, h2⟩ := hr.ob p hp
        exact ⟨y, by rw [Ren.add_ne e]; exact h1, h2.later hl⟩
  · intro p q y z hp hq h1 h2 h3
    rw [gt] at hp hq
    have lv : ∀ p, p ≠ h.n → (if p = h.n then ob else if p = b then Ob.dead else h.get p).live = true → p ≠ b ∧ (h.get p).live = true := by
      intro p e hp
      rw [if_neg e] at hp
      by_cases e2 : p = b
      · rw [if_pos e2] at hp; cases hp
      · rw [if_neg e2] at hp; exact ⟨e2, hp⟩
    rcases key p y h1 with ⟨ep, ey⟩ | ⟨e1, k1⟩ <;> rcases key q z h2 with ⟨eq, ez⟩ | ⟨e2, k2⟩
    · rw [ep, eq]
    · obtain ⟨e3, hl2⟩ := lv q e2 hq
      subst ey
      exact absurd (hr.inj q b z y hl2 hb k2 hx h3.symm) e3
    · obtain ⟨e3, hl2⟩ := lv p e1 hp
      subst ez
      exact absurd (hr.inj p b y z hl2 hb k1 hx h3) e3
    · exact hr.inj p q y z (lv p e1 hp).2 (lv q e2 hq).2 k1 k2 h3
  · intro g v hv
    obtain ⟨hc, hn⟩ := hr.keep g v hv
    refine ⟨hc, fun p y hp h1 => ?_⟩
    rw [gt] at hp
    rcases key p y h1 with ⟨_, rfl⟩ | ⟨e1, h1⟩
    · exact hn b y hb hx
    · rw [if_neg e1] at hp
      by_cases e2 : p = b
      · rw [if_pos e2] at hp; cases hp
      · rw [if_neg e2] at hp; exact hn p y hp h1
  · intro p y hp h1
    rw [gt] at hp
    rcases key p y h1 with ⟨rfl, rfl⟩ | ⟨e1, h1⟩
    · exact .inr ⟨b, y, hb, hx, rfl⟩
    · rw [if_neg e1] at hp
      by_cases e2 : p = b
      · rw [if_pos e2] at hp; cases hp
      · rw [if_neg e2] at hp; exact .inr ⟨p, y, hp, h1, rfl⟩
  · intro p y h1
    rcases key p y h1 with ⟨rfl, _⟩ | ⟨_, h1⟩
    · exact .inr (Nat.le_refl _)
    · exact .inl h1
  · rw [H.n_new, Path.num_succ]; exact Nat.le_succ _

/-- What soundness says of an operation that writes. -/
def Heavy1 [Env] (P : Program) (ρ : Ren) (h : H) (w : World) (o : Oper) (a : Act) (v : V) (h' : H) : Prop :=
  ∃ ρ' n w', (execOp a.eval o).run P w = .ok n w' ∧ ((∃ x, n = .value x ∧ conc ρ' v = some x) ∨ (n = .skip ∧ v = undefV)) ∧ HRel ρ' h' w' ∧ Ext ρ h w ρ' h' w'

theorem cap_bound (need s : Nat) (h : s < need) : Builtin.nextslicecap need s ≤ 2 * need + 192 := by
  have gb : ∀ (r c : Nat), c ≤ 2 * need + 192 → Builtin.growBy need r c ≤ 2 * need + 192 := by
    intro r
    induction r with
    | zero => intro c hc; simpa [Builtin.growBy] using hc
    | succ r ih =>
      intro c hc
      simp only [Builtin.growBy]
      split
      · exact hc
      · exact ih _ (by omega)
  unfold Builtin.nextslicecap
  split
  · omega
  · split
    · omega
    · exact gb 4 s (by omega)

theorem store_spec [Env] {t : TypeId} {n : Nat} {x y : V} {u z : Value} {v : V} (hr : HRel ρ h w) (hv : storeV h n x y = .v v h') (hx : conc ρ x = some u) (hy : conc ρ y = some z) (hs : szO P t = some n) :
    v = undefV ∧ ∃ w', (Instr.storeAt t u z).run P w = .ok () w' ∧ HRel ρ h' w' ∧ Ext ρ h w ρ h' w' := by
  unfold storeV at hv
  split at hv
  · rename_i b o
    split at hv
    · rename_i l hl
      cases hb : Nat.beq l.length n with
      | false => simp [hb] at hv
      | true =>
        simp only [hb, cond_true] at hv
        split at hv
        · rename_i h2 hst
          cases hv
          obtain ⟨e1, e2⟩ := cellsOf_spec hl hy
          obtain ⟨q, hq, rfl⟩ := conc_p hx
          obtain ⟨w', r1, r2, r3⟩ := storeC_spec (P := P) hr hst hq e1 e2
          refine ⟨rfl, w', ?_, r2, r3⟩
          have hb := Nat.eq_of_beq_eq_true hb
          have hlen := concs_length e1
          rw [Array.length_toList] at hlen
          simp only [Instr.storeAt, Instr.sureAddr, storeVar, Sem.run_bind, Sem.run_pure, Result.andThen_ok, run_szO hs]
          rw [if_neg (by omega)]
          exact r1
        · cases hv
    · cases hv
  · cases hv

theorem loadCells_of [Env] {b : Path} {off n : Nat} {l : List V} (hr : HRel ρ h w) (hl : loadC h b off n = some l) : ∃ x xs, ρ b = some x ∧ l.length = n ∧ l.all V.one = true ∧ concs ρ l = some xs ∧
    (loadCells ⟨x.1, off, none⟩ n).run P w = .ok xs.toArray w := by
  obtain ⟨x, xs, h0, h1, h2, h3, h4⟩ := loadC_spec hr hl
  refine ⟨x, xs, h0, h1, h2, h3, ?_⟩
  have hlen := concs_length h3
  have := run_loadCells_list (P := P) w ⟨x.1, off, none⟩ xs (fun j v hj => by rw [add_none]; exact h4 j v hj)
  rwa [show xs.length = n by omega] at this

/-- The cells that are appended or copied. -/
theorem src_spec [Env] {es n : Nat} {y : V} {z : Value} {l : List V} (hr : HRel ρ h w) (hs : srcOf h es y = some (l, n)) (hy : conc ρ y = some z) :
    ∃ xs, concs ρ l = some xs ∧ l.all V.one = true ∧ l.length = n * es ∧ (Builtin.lenOf z).run P w = .ok n w ∧ (Builtin.firstCells es n z).run P w = .ok xs.toArray w ∧
      (∀ m, m ≤ n → (Builtin.firstCells es m z).run P w = .ok (xs.take (m * es)).toArray w) := by
  unfold srcOf at hs
  split at hs
  · cases hs
    simp [conc] at hy; subst hy
    refine ⟨[], rfl, rfl, by simp, rfl, rfl, fun m hm => ?_⟩
    simp [Builtin.firstCells]
  · rename_i b off m cap ex es'
    split at hs
    · rename_i l' hl
      cases hs
      obtain ⟨q, hq, _, _, _, rfl⟩ := conc_sl hy
      obtain ⟨x, xs, h0, h1, h2, h3, h4⟩ := loadCells_of (P := P) hr hl
      rw [hq] at h0; cases h0
      refine ⟨xs, h3, h2, h1, rfl, by simpa [Builtin.firstCells] using h4, fun k hk => ?_⟩
      obtain ⟨x2, xs2, g0, g1, g2, g3⟩ := loadC_spec hr hl
      rw [hq] at g0; cases g0
      rw [h3] at g3
      obtain ⟨g3a, g3b⟩ := g3
      cases g3a
      have hlen := concs_length h3
      have hmul : k * es ≤ n * es := Nat.mul_le_mul_right es hk
      have := run_loadCells_list (P := P) w ⟨q.1, off, none⟩ (xs.take (k * es)) (fun j v hj => by
        rw [add_none]
        refine g3b j v ?_
        rw [List.getElem?_take] at hj
        split at hj
        · exact hj
        · cases hj)
      rw [show (xs.take (k * es)).length = k * es by rw [List.length_take]; omega] at this
      simpa [Builtin.firstCells] using this
    · cases hs
  · rename_i l'
    cases he : Nat.beq es 1 with
    | false => simp [he] at hs
    | true =>
      have he := Nat.eq_of_beq_eq_true he
      subst he
      have hb1 : Nat.beq 1 1 = true := rfl
      simp only [hb1, cond_true, Option.some.injEq, Prod.mk.injEq] at hs
      obtain ⟨rfl, rfl⟩ := hs
      obtain ⟨h1, rfl⟩ := conc_s hy
      have hsz : (ByteArray.mk (l'.map UInt8.ofNat).toArray).size = l'.length := by
        show ((l'.map UInt8.ofNat).toArray).size = _
        simp
      have hcs : ∀ (l' : List Nat), l'.all byteOk = true → concs ρ (l'.map fun c : Nat => V.i .u8 (.ofNat c)) = some ((l'.map UInt8.ofNat).map fun b => Value.int .u8 b.toNat) ∧ (l'.map fun c : Nat => V.i .u8 (.ofNat c)).all V.one = true := by
        intro l'
        induction l' with
        | nil => intro _; exact ⟨rfl, rfl⟩
        | cons c l' ih =>
          intro h
          simp only [List.all_cons, Bool.and_eq_true, byteOk, Nat.blt_eq] at h
          obtain ⟨i1, i2⟩ := ih h.2
          refine ⟨?_, by simp only [List.map_cons, List.all_cons, i2]; rfl⟩
          simp only [List.map_cons, concs, conc, i1, Option.bind_some, Option.map_some]
          simp [Nat.mod_eq_of_lt h.1]
      obtain ⟨i1, i2⟩ := hcs l' h1
      have ext : ∀ m, m ≤ l'.length → ((ByteArray.mk (l'.map UInt8.ofNat).toArray).extract 0 m).data.map (fun b => Value.int .u8 b.toNat) = (((l'.map UInt8.ofNat).map fun b => Value.int .u8 b.toNat).take m).toArray := by
        intro m hm
        apply Array.ext'
        simp [ByteArray.data_extract, List.extract_eq_take_drop, List.map_take]
      refine ⟨_, i1, i2, by simp, by simp [Builtin.lenOf, hsz], ?_, fun m hm => ?_⟩
      · have := ext l'.length (Nat.le_refl _)
        simp only [Builtin.firstCells, this, Sem.run_pure]
        congr 2
        rw [List.take_of_length_le (by simp)]
      · have := ext m hm
        simp only [Builtin.firstCells, this, Sem.run_pure, Nat.mul_one]
  · cases hs

def notInt : TypeDesc → Bool
  | .int _ => false
  | _ => true

theorem run_append_fit {T xT e ty : TypeId} {d : TypeDesc} {es n len cap : Nat} {base : Option Addr} {z : Value} {cells : Array Value} (hT : P.underlying T = some (.slice e)) (hX : P.underlying xT = some d) (hd : notInt d = true)
    (hs : szO P e = some es) (hn : (Builtin.lenOf z).run P w = .ok n w) (hc : (Builtin.firstCells es n z).run P w = .ok cells w) (hfit : len + n ≤ cap) :
    (Builtin.append_ #[T, xT] ty #[.slice base len cap, z]).run P w = (match base with
      | some a => ((storeCells (a.add (len * es)) cells.toList).run P w).andThen fun _ w => .ok (.slice base (len + n) cap) w
      | none => .ok (.slice base (len + n) cap) w) := by
  unfold Builtin.append_
  simp only [List.getElem?_toArray, List.getElem?_cons_zero, List.getElem?_cons_succ]
  simp only [Sem.run_bind, run_under hT, Result.andThen_ok, run_szO hs, run_under hX, Sem.run_pure]
  cases d <;> first
    | (simp [notInt] at hd; done)
    | (simp only [Bool.false_eq_true, if_false, Sem.run_bind, hn, Bool.not_false, if_true, Result.andThen_ok]
       rw [if_pos hfit]
       simp only [Sem.run_bind, hc, Result.andThen_ok]
       cases base <;> first | rfl | simp only [Sem.run_bind, Sem.run_pure])

theorem run_append_grow' {T xT e ty : TypeId} {d : TypeDesc} {i : TypeInfo} {zv : Value} {n len cap : Nat} {base : Option Addr} {z : Value} {old cells : Array Value} (hT : P.underlying T = some (.slice e)) (hX : P.underlying xT = some d) (hd : notInt d = true)
    (hi : P.info? e = some i) (hz : i.zero = some zv) (hb0 : i.bytes ≠ 0) (hn : (Builtin.lenOf z).run P w = .ok n w) (hc : ∀ w', w'.heap = w.heap → (Builtin.firstCells i.size n z).run P w' = .ok cells w')
    (ho : ∀ w', w'.heap = w.heap → (Builtin.firstCells i.size len (.slice base len cap)).run P w' = .ok old w') (hfit : ¬ len + n ≤ cap) (hbig : (2 * (len + n) + 192) * i.bytes ≤ 281474976710656) :
    ∃ C w', len + n ≤ C ∧ (Builtin.append_ #[T, xT] ty #[.slice base len cap, z]).run P w = .ok (.slice (some ⟨w.heap.size, 0, none⟩) (len + n) C) w' ∧
      w'.heap = w.heap.push (.cells (old ++ cells ++ Builtin.zeroCells zv.cells (C - (len + n))) e) ∧ Str w w' := by
  have hs : ∀ w, (sizeOf e).run P w = .ok i.size w := run_szO (by simp [szO, hi])
  have hti : ∀ w, (typeInfo e).run P w = .ok i w := by intro w; simp [typeInfo, hi]
  have hzr : ∀ w, (zeroValue e).run P w = .ok zv w := by intro w; simp [zeroValue, typeInfo, hi, hz]
  have hcb := cap_bound (len + n) cap (by omega)
  have hcb2 : ¬ (Builtin.nextslicecap (len + n) cap * i.bytes > 2 ^ 48) := by
    have := Nat.mul_le_mul_right i.bytes hcb
    omega
  refine ⟨(Question.appendCap (len + n) cap e).cut (w.tape w.drawn (.appendCap (len + n) cap e)), { w with heap := w.heap.push (.cells (old ++ cells ++ Builtin.zeroCells zv.cells ((Question.appendCap (len + n) cap e).cut (w.tape w.drawn (.appendCap (len + n) cap e)) - (len + n))) e), drawn := w.drawn + 1 }, ?_, ?_, rfl, ⟨rfl, rfl, rfl⟩⟩
  · simp only [Question.cut]; omega
  unfold Builtin.append_
  simp only [List.getElem?_toArray, List.getElem?_cons_zero, List.getElem?_cons_succ]
  simp only [Sem.run_bind, run_under hT, Result.andThen_ok, hs, run_under hX, Sem.run_pure]
  cases d <;> first
    | (simp [notInt] at hd; done)
    | (simp only [Bool.false_eq_true, if_false, Sem.run_bind, hn, Bool.not_false, if_true, false_or, Result.andThen_ok]
       rw [if_neg hfit]
       simp only [Sem.run_bind, hti, Result.andThen_ok, hb0, and_false, if_false]
       rw [if_neg hcb2]
       simp only [Sem.run_bind, Sem.run_pure, Result.andThen_ok, run_choose, Question.forced, Bool.false_eq_true, if_false, run_askRoom, hti]
       rw [ho { w with drawn := w.drawn + 1 } rfl]
       simp only [Result.andThen_ok]
       rw [hc { w with drawn := w.drawn + 1 } rfl]
       simp only [Result.andThen_ok, hzr, newRow, Sem.run_bind, run_newObj, Sem.run_pure])

end
end Go.Eng
