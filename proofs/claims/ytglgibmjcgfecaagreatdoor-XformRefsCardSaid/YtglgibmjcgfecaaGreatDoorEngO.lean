/- The evaluator: a machine for the model's code that the kernel can run, proved sound. -/
import Derived.Test.YtglgibmjcgfecaaGreatDoorEngM
import Derived.Scope
import Derived.LoopN
set_option linter.unusedSimpArgs false
set_option linter.unusedVariables false
namespace Go.Eng

inductive HI where
  | store (n : Nat) (x y : Opd)
  | append (es bytes elem : Nat) (x y : Opd)
  | copy (es : Nat) (x y : Opd)
  | clear (es : Nat) (zero : List V) (x : Opd)
  | call (f : Path) (args : List Opd)
  | callv (f : Opd) (args : List Opd)
  | mp (i : MI)
  | inv (tbl : List (Nat × Path × Option (Bool × Nat))) (x : Opd) (args : List Opd)

inductive HR where
  | v (x : V) (h : H)
  | call (f : Path) (args : List V)
  | fail

noncomputable def storeV (h : H) (n : Nat) (x y : V) : HR :=
  match x with
  | .p b o => match cellsOf y with
    | some l => cond (Nat.beq l.length n) (match storeC h b o l with | some h => .v undefV h | none => .fail) .fail
    | none => .fail
  | _ => .fail

/-- The cells that are appended or copied, and how many elements they are. -/
noncomputable def srcOf (h : H) (es : Nat) (y : V) : Option (List V × Nat) :=
  match y with
  | .sl0 => some ([], 0)
  | .sl b off n _ _ _ => match loadC h b off (n * es) with | some l => some (l, n) | none => none
  | .s l => cond (Nat.beq es 1) (some (l.map fun c : Nat => V.i .u8 (.ofNat c), l.length)) none
  | _ => none

/-- A new block for a slice that has grown. -/
noncomputable def growV (h : H) (es bytes elem need : Nat) (l : List V) : HR :=
  cond (Nat.ble ((2 * need + 192) * bytes) 281474976710656) (.v (.sl h.n 0 need need false es) (h.new (.c false l elem))) .fail

noncomputable def appAmb (h : H) (es bytes elem : Nat) (b : Path) (len n : Nat) (new : List V) (ob : Ob) : HR :=
  match ob with
  | .c ro _ e => cond ro .fail (cond (Nat.beq e elem) (match loadC h b 0 (len * es) with
    | some old => growV (h.put b .dead) es bytes elem (len + n) (old ++ new)
    | none => .fail) .fail)
  | _ => .fail

noncomputable def appSl (h : H) (es bytes elem : Nat) (b : Path) (off len cap : Nat) (ex : Bool) (n : Nat) (new : List V) : HR :=
  match Nat.ble (len + n) cap with
  | true => match storeC h b (off + len * es) new with
    | some h => .v (.sl b off (len + n) cap ex es) h
    | none => .fail
  | false => match ex with
    | true => (match loadC h b off (len * es) with
      | some old => growV h es bytes elem (len + n) (old ++ new)
      | none => .fail)
    | false => cond (Nat.beq off 0) (appAmb h es bytes elem b len n new (h.get b)) .fail

noncomputable def appV (h : H) (es bytes elem : Nat) (x : V) (src : Option (List V × Nat)) : HR :=
  match src with
  | none => .fail
  | some (new, n) => match n with
    | 0 => (match x with | .sl0 => .v .sl0 h | .sl b off len cap ex es' => .v (.sl b off len cap ex es') h | _ => .fail)
    | n + 1 => match x with
      | .sl0 => growV h es bytes elem (n + 1) new
      | .sl b off len cap ex es' => cond (Nat.beq es es') (appSl h es bytes elem b off len cap ex (n + 1) new) .fail
      | _ => .fail

noncomputable def copyV (h : H) (es : Nat) (x : V) (src : Option (List V × Nat)) : HR :=
  match src with
  | none => .fail
  | some (l, n) => match x with
    | .sl0 => .v (.i .i64 (.ofNat 0)) h
    | .sl b o m _ _ _ => (match takeE (Nat.min n m * es) l with
      | some l => (match storeC h b o l with | some h => .v (.i .i64 (.ofNat (Nat.min n m))) h | none => .fail)
      | none => .fail)
    | _ => .fail

noncomputable def clearV (h : H) (zero : List V) (x : V) : HR :=
  match x with
  | .sl0 => .v undefV h
  | .sl b o n _ _ _ => match n with
    | 0 => .v undefV h
    | n + 1 => (match storeC h b o (rep (n + 1) zero) with | some h => .v undefV h | none => .fail)
  | _ => .fail

noncomputable def callvV (f : V) (args : List V) : HR :=
  match f with
  | .f fn caps => .call fn (args ++ caps)
  | _ => .fail

noncomputable def mpR (r : Option (V × H)) : HR :=
  match r with
  | some (v, h) => .v v h
  | none => .fail

noncomputable def invH (r : Option (Path × List V)) : HR :=
  match r with
  | some (f, l) => .call f l
  | none => .fail

noncomputable def hvI (fr : Tr V) (h : H) (i : HI) : HR :=
  match i with
  | .store n x y => storeV h n (ev fr x) (ev fr y)
  | .append es bytes elem x y => appV h es bytes elem (ev fr x) (srcOf h es (ev fr y))
  | .copy es x y => copyV h es (ev fr x) (srcOf h es (ev fr y))
  | .clear _ z x => clearV h z (ev fr x)
  | .call f args => .call f (evs fr args)
  | .callv f args => callvV (ev fr f) (evs fr args)
  | .mp i => mpR (mpI fr h i)
  | .inv tbl x args => invH (invV h tbl (ev fr x) (evs fr args))

section
variable {P : Program} {ρ : Ren} {ng : Nat} {fr : Tr V} {a : Act} {h h' : H} {w : World}

/-- A block gets a new name, and the old one is forgotten. -/
theorem HRel.move [Env] {ρ : Ren} {h : H} {w : World} {b : Path} {x : Nat × Nat} (hr : HRel ρ h w) (hb : (h.get b).live = true) (hx : ρ b = some x) (ob : Ob) (ho : ObRel ρ x.2 ob w.heap[x.1]?) :
    HRel (ρ.add h.n x) ((h.put b .dead).new ob) w ∧ Ext ρ h w (ρ.add h.n x) ((h.put b .dead).new ob) w := by
  have hl : Later ρ (ρ.add h.n x) := Ren.later_add hr.free
  have hbn : b ≠ h.n := by rintro rfl; rw [hr.free] at hx; cases hx
  have key : ∀ p y, (ρ.add h.n x) p = some y → (p = h.n ∧ y = x) ∨ (p ≠ h.n ∧ ρ p = some y) := by
    intro p y hp
    by_cases e : p = h.n
    · subst e; rw [Ren.add_self] at hp; exact .inl ⟨rfl, by cases hp; rfl⟩
    · rw [Ren.add_ne e] at hp; exact .inr ⟨e, hp⟩
  have gt : ∀ q, ((h.put b .dead).new ob).get q = if q = h.n then ob else if q = b then .dead else h.get q := by
    intro q; rw [H.get_new, H.get_put]; rfl
  refine ⟨⟨?_, ?_, ?_, ?_, ?_⟩, ⟨hl, Nat.le_refl _, fun _ _ _ => rfl, ?_, ?_, ?_, .refl _⟩⟩
  · intro p y hp
    show p.num < h.n.succ.num
    rw [Path.num_succ]
    rcases key p y hp with ⟨rfl, _⟩ | ⟨_, h1⟩
    · omega
    · have := hr.dom _ _ h1; omega
  · intro p y hp
    rcases key p y hp with ⟨_, rfl⟩ | ⟨_, h1⟩
    · exact hr.inside _ _ hx
    · exact hr.inside _ _ h1
  · intro p hp
    rw [gt] at hp ⊢
    by_cases e : p = h.n
    · subst e
      rw [if_pos rfl] at hp ⊢
      exact ⟨x, Ren.add_self .., ho.later hl⟩
    · rw [if_neg e] at hp ⊢
      by_cases e2 : p = b
      · rw [if_pos e2] at hp; cases hp
      · rw [if_neg e2] at hp ⊢
        obtain ⟨y, h1, h2⟩ := hr.ob p hp
        exact ⟨y, by rw [Ren.add_ne e]; exact h1, h2.later hl⟩
  · intro p q y z hp hq h1 h2 h3
    rw [gt] at hp hq
    have lv : ∀ p, p ≠ h.n → (if p = h.n then ob else if p = b then Ob.dead else h.get p).live = true → p ≠ b ∧ (h.get p).live = true := by
      intro p e hp
      rw [if_neg e] at hp
      by_cases e2 : p = b
      · rw [if_pos e2] at hp; cases hp
      · rw [if_neg e2] at hp; exact ⟨e2, hp⟩
    rcases key p y h1 with ⟨ep, ey⟩ | ⟨e1, k1⟩ <;> rcases key q z h2 with ⟨eq, ez⟩ | ⟨e2, k2⟩
    · rw [ep, eq]
    · obtain ⟨e3, hl2⟩ := lv q e2 hq
      subst ey
      exact absurd (hr.inj q b z y hl2 hb k2 hx h3.symm) e3
    · obtain ⟨e3, hl2⟩ := lv p e1 hp
      subst ez
      exact absurd (hr.inj p b y z hl2 hb k1 hx h3) e3
    · exact hr.inj p q y z (lv p e1 hp).2 (lv q e2 hq).2 k1 k2 h3
  · intro g v hv
    obtain ⟨hc, hn⟩ := hr.keep g v hv
    refine ⟨hc, fun p y hp h1 => ?_⟩
    rw [gt] at hp
    rcases key p y h1 with ⟨_, rfl⟩ | ⟨e1, h1⟩
    · exact hn b y hb hx
    · rw [if_neg e1] at hp
      by_cases e2 : p = b
      · rw [if_pos e2] at hp; cases hp
      · rw [if_neg e2] at hp; exact hn p y hp h1
  · intro p y hp h1
    rw [gt] at hp
    rcases key p y h1 with ⟨rfl, rfl⟩ | ⟨e1, h1⟩
    · exact .inr ⟨b, y, hb, hx, rfl⟩
    · rw [if_neg e1] at hp
      by_cases e2 : p = b
      · rw [if_pos e2] at hp; cases hp
      · rw [if_neg e2] at hp; exact .inr ⟨p, y, hp, h1, rfl⟩
  · intro p y h1
    rcases key p y h1 with ⟨rfl, _⟩ | ⟨_, h1⟩
    · exact .inr (Nat.le_refl _)
    · exact .inl h1
  · rw [H.n_new, Path.num_succ]; exact Nat.le_succ _

/-- What soundness says of an operation that writes. -/
def Heavy1 [Env] (P : Program) (ρ : Ren) (h : H) (w : World) (o : Oper) (a : Act) (v : V) (h' : H) : Prop :=
  ∃ ρ' n w', (execOp a.eval o).run P w = .ok n w' ∧ ((∃ x, n = .value x ∧ conc ρ' v = some x) ∨ (n = .skip ∧ v = undefV)) ∧ HRel ρ' h' w' ∧ Ext ρ h w ρ' h' w'

theorem cap_bound (need s : Nat) (h : s < need) : Builtin.nextslicecap need s ≤ 2 * need + 192 := by
  have gb : ∀ (r c : Nat), c ≤ 2 * need + 192 → Builtin.growBy need r c ≤ 2 * need + 192 := by
    intro r
    induction r with
    | zero => intro c hc; simpa [Builtin.growBy] using hc
    | succ r ih =>
      intro c hc
      simp only [Builtin.growBy]
      split
      · exact hc
      · exact ih _ (by omega)
  unfold Builtin.nextslicecap
  split
  · omega
  · split
    · omega
    · exact gb 4 s (by omega)

theorem store_spec [Env] {t : TypeId} {n : Nat} {x y : V} {u z : Value} {v : V} (hr : HRel ρ h w) (hv : storeV h n x y = .v v h') (hx : conc ρ x = some u) (hy : conc ρ y = some z) (hs : szO P t = some n) :
    v = undefV ∧ ∃ w', (Instr.storeAt t u z).run P w = .ok () w' ∧ HRel ρ h' w' ∧ Ext ρ h w ρ h' w' := by
  unfold storeV at hv
  split at hv
  · rename_i b o
    split at hv
    · rename_i l hl
      cases hb : Nat.beq l.length n with
      | false => simp [hb] at hv
      | true =>
        simp only [hb, cond_true] at hv
        split at hv
        · rename_i h2 hst
          cases hv
          obtain ⟨e1, e2⟩ := cellsOf_spec hl hy
          obtain ⟨q, hq, rfl⟩ := conc_p hx
          obtain ⟨w', r1, r2, r3⟩ := storeC_spec (P := P) hr hst hq e1 e2
          refine ⟨rfl, w', ?_, r2, r3⟩
          have hb := Nat.eq_of_beq_eq_true hb
          have hlen := concs_length e1
          rw [Array.length_toList] at hlen
          simp only [Instr.storeAt, Instr.sureAddr, storeVar, Sem.run_bind, Sem.run_pure, Result.andThen_ok, run_szO hs]
          rw [if_neg (by omega)]
          exact r1
        · cases hv
    · cases hv
  · cases hv

theorem loadCells_of [Env] {b : Path} {off n : Nat} {l : List V} (hr : HRel ρ h w) (hl : loadC h b off n = some l) : ∃ x xs, ρ b = some x ∧ l.length = n ∧ l.all V.one = true ∧ concs ρ l = some xs ∧
    (loadCells ⟨x.1, off, none⟩ n).run P w = .ok xs.toArray w := by
  obtain ⟨x, xs, h0, h1, h2, h3, h4⟩ := loadC_spec hr hl
  refine ⟨x, xs, h0, h1, h2, h3, ?_⟩
  have hlen := concs_length h3
  have := run_loadCells_list (P := P) w ⟨x.1, off, none⟩ xs (fun j v hj => by rw [add_none]; exact h4 j v hj)
  rwa [show xs.length = n by omega] at this

/-- The cells that are appended or copied. -/
theorem src_spec [Env] {es n : Nat} {y : V} {z : Value} {l : List V} (hr : HRel ρ h w) (hs : srcOf h es y = some (l, n)) (hy : conc ρ y = some z) :
    ∃ xs, concs ρ l = some xs ∧ l.all V.one = true ∧ l.length = n * es ∧ (Builtin.lenOf z).run P w = .ok n w ∧ (Builtin.firstCells es n z).run P w = .ok xs.toArray w ∧
      (∀ m, m ≤ n → (Builtin.firstCells es m z).run P w = .ok (xs.take (m * es)).toArray w) := by
  unfold srcOf at hs
  split at hs
  · cases hs
    simp [conc] at hy; subst hy
    refine ⟨[], rfl, rfl, by simp, rfl, rfl, fun m hm => ?_⟩
    simp [Builtin.firstCells]
  · rename_i b off m cap ex es'
    split at hs
    · rename_i l' hl
      cases hs
      obtain ⟨q, hq, _, _, _, rfl⟩ := conc_sl hy
      obtain ⟨x, xs, h0, h1, h2, h3, h4⟩ := loadCells_of (P := P) hr hl
      rw [hq] at h0; cases h0
      refine ⟨xs, h3, h2, h1, rfl, by simpa [Builtin.firstCells] using h4, fun k hk => ?_⟩
      obtain ⟨x2, xs2, g0, g1, g2, g3⟩ := loadC_spec hr hl
      rw [hq] at g0; cases g0
      rw [h3] at g3
      obtain ⟨g3a, g3b⟩ := g3
      cases g3a
      have hlen := concs_length h3
      have hmul : k * es ≤ n * es := Nat.mul_le_mul_right es hk
      have := run_loadCells_list (P := P) w ⟨q.1, off, none⟩ (xs.take (k * es)) (fun j v hj => by
        rw [add_none]
        refine g3b j v ?_
        rw [List.getElem?_take] at hj
        split at hj
        · exact hj
        · cases hj)
      rw [show (xs.take (k * es)).length = k * es by rw [List.length_take]; omega] at this
      simpa [Builtin.firstCells] using this
    · cases hs
  · rename_i l'
    cases he : Nat.beq es 1 with
    | false => simp [he] at hs
    | true =>
      have he := Nat.eq_of_beq_eq_true he
      subst he
      have hb1 : Nat.beq 1 1 = true := rfl
      simp only [hb1, cond_true, Option.some.injEq, Prod.mk.injEq] at hs
      obtain ⟨rfl, rfl⟩ := hs
      obtain ⟨h1, rfl⟩ := conc_s hy
      have hsz : (ByteArray.mk (l'.map UInt8.ofNat).toArray).size = l'.length := by
        show ((l'.map UInt8.ofNat).toArray).size = _
        simp
      have hcs : ∀ (l' : List Nat), l'.all byteOk = true → concs ρ (l'.map fun c : Nat => V.i .u8 (.ofNat c)) = some ((l'.map UInt8.ofNat).map fun b => Value.int .u8 b.toNat) ∧ (l'.map fun c : Nat => V.i .u8 (.ofNat c)).all V.one = true := by
        intro l'
        induction l' with
        | nil => intro _; exact ⟨rfl, rfl⟩
        | cons c l' ih =>
          intro h
          simp only [List.all_cons, Bool.and_eq_true, byteOk, Nat.blt_eq] at h
          obtain ⟨i1, i2⟩ := ih h.2
          refine ⟨?_, by simp only [List.map_cons, List.all_cons, i2]; rfl⟩
          simp only [List.map_cons, concs, conc, i1, Option.bind_some, Option.map_some]
          simp [Nat.mod_eq_of_lt h.1]
      obtain ⟨i1, i2⟩ := hcs l' h1
      have ext : ∀ m, m ≤ l'.length → ((ByteArray.mk (l'.map UInt8.ofNat).toArray).extract 0 m).data.map (fun b => Value.int .u8 b.toNat) = (((l'.map UInt8.ofNat).map fun b => Value.int .u8 b.toNat).take m).toArray := by
        intro m hm
        apply Array.ext'
        simp [ByteArray.data_extract, List.extract_eq_take_drop, List.map_take]
      refine ⟨_, i1, i2, by simp, by simp [Builtin.lenOf, hsz], ?_, fun m hm => ?_⟩
      · have := ext l'.length (Nat.le_refl _)
        simp only [Builtin.firstCells, this, Sem.run_pure]
        congr 2
        rw [List.take_of_length_le (by simp)]
      · have := ext m hm
        simp only [Builtin.firstCells, this, Sem.run_pure, Nat.mul_one]
  · cases hs

def notInt : TypeDesc → Bool
  | .int _ => false
  | _ => true

theorem run_append_fit {T xT e ty : TypeId} {d : TypeDesc} {es n len cap : Nat} {base : Option Addr} {z : Value} {cells : Array Value} (hT : P.underlying T = some (.slice e)) (hX : P.underlying xT = some d) (hd : notInt d = true)
    (hs : szO P e = some es) (hn : (Builtin.lenOf z).run P w = .ok n w) (hc : (Builtin.firstCells es n z).run P w = .ok cells w) (hfit : len + n ≤ cap) :
    (Builtin.append_ #[T, xT] ty #[.slice base len cap, z]).run P w = (match base with
      | some a => ((storeCells (a.add (len * es)) cells.toList).run P w).andThen fun _ w => .ok (.slice base (len + n) cap) w
      | none => .ok (.slice base (len + n) cap) w) := by
  unfold Builtin.append_
  simp only [List.getElem?_toArray, List.getElem?_cons_zero, List.getElem?_cons_succ]
  simp only [Sem.run_bind, run_under hT, Result.andThen_ok, run_szO hs, run_under hX, Sem.run_pure]
  cases d <;> first
    | (simp [notInt] at hd; done)
    | (simp only [Bool.false_eq_true, if_false, Sem.run_bind, hn, Bool.not_false, if_true, Result.andThen_ok]
       rw [if_pos hfit]
       simp only [Sem.run_bind, hc, Result.andThen_ok]
       cases base <;> first | rfl | simp only [Sem.run_bind, Sem.run_pure])

theorem run_append_grow' {T xT e ty : TypeId} {d : TypeDesc} {i : TypeInfo} {zv : Value} {n len cap : Nat} {base : Option Addr} {z : Value} {old cells : Array Value} (hT : P.underlying T = some (.slice e)) (hX : P.underlying xT = some d) (hd : notInt d = true)
    (hi : P.info? e = some i) (hz : i.zero = some zv) (hb0 : i.bytes ≠ 0) (hn : (Builtin.lenOf z).run P w = .ok n w) (hc : ∀ w', w'.heap = w.heap → (Builtin.firstCells i.size n z).run P w' = .ok cells w')
    (ho : ∀ w', w'.heap = w.heap → (Builtin.firstCells i.size len (.slice base len cap)).run P w' = .ok old w') (hfit : ¬ len + n ≤ cap) (hbig : (2 * (len + n) + 192) * i.bytes ≤ 281474976710656) :
    ∃ C w', len + n ≤ C ∧ (Builtin.append_ #[T, xT] ty #[.slice base len cap, z]).run P w = .ok (.slice (some ⟨w.heap.size, 0, none⟩) (len + n) C) w' ∧
      w'.heap = w.heap.push (.cells (old ++ cells ++ Builtin.zeroCells zv.cells (C - (len + n))) e) ∧ Str w w' := by
  have hs : ∀ w, (sizeOf e).run P w = .ok i.size w := run_szO (by simp [szO, hi])
  have hti : ∀ w, (typeInfo e).run P w = .ok i w := by intro w; simp [typeInfo, hi]
  have hzr : ∀ w, (zeroValue e).run P w = .ok zv w := by intro w; simp [zeroValue, typeInfo, hi, hz]
  have hcb := cap_bound (len + n) cap (by omega)
  have hcb2 : ¬ (Builtin.nextslicecap (len + n) cap * i.bytes > 2 ^ 48) := by
    have := Nat.mul_le_mul_right i.bytes hcb
    omega
  refine ⟨(Question.appendCap (len + n) cap e).cut (w.tape w.drawn (.appendCap (len + n) cap e)), { w with heap := w.heap.push (.cells (old ++ cells ++ Builtin.zeroCells zv.cells ((Question.appendCap (len + n) cap e).cut (w.tape w.drawn (.appendCap (len + n) cap e)) - (len + n))) e), drawn := w.drawn + 1 }, ?_, ?_, rfl, ⟨rfl, rfl, rfl⟩⟩
  · simp only [Question.cut]; omega
  unfold Builtin.append_
  simp only [List.getElem?_toArray, List.getElem?_cons_zero, List.getElem?_cons_succ]
  simp only [Sem.run_bind, run_under hT, Result.andThen_ok, hs, run_under hX, Sem.run_pure]
  cases d <;> first
    | (simp [notInt] at hd; done)
    | (simp only [Bool.false_eq_true, if_false, Sem.run_bind, hn, Bool.not_false, if_true, false_or, Result.andThen_ok]
       rw [if_neg hfit]
       simp only [Sem.run_bind, hti, Result.andThen_ok, hb0, and_false, if_false]
       rw [if_neg hcb2]
       simp only [Sem.run_bind, Sem.run_pure, Result.andThen_ok, run_choose, Question.forced, Bool.false_eq_true, if_false, run_askRoom, hti]
       rw [ho { w with drawn := w.drawn + 1 } rfl]
       simp only [Result.andThen_ok]
       rw [hc { w with drawn := w.drawn + 1 } rfl]
       simp only [Result.andThen_ok, hzr, newRow, Sem.run_bind, run_newObj, Sem.run_pure])

end
end Go.Eng

namespace Go.Eng
section
variable {P : Program} {ρ : Ren} {ng : Nat} {fr : Tr V} {a : Act} {h h' : H} {w : World}

theorem obRel_prefix [Env] {l : List V} {xs : List Value} {elem : Nat} (h : concs ρ l = some xs) (h1 : l.all V.one = true) (ro : Bool) (c : Array Value) (hc : ∀ i, i < xs.length → c[i]? = xs[i]?) (hs : xs.length ≤ c.size)
    (fz : Nat × Nat) (hf : ∀ i, i < c.size → ¬ (fz.1 ≤ i ∧ i < fz.2)) : ObRel ρ c.size (.c ro l elem) (some (.cells c elem fz)) := by
  have hlen := concs_length h
  refine ⟨c, fz, rfl, rfl, by omega, fun i v hv => ?_, fun _ => hf⟩
  obtain ⟨x, hx, hx2⟩ := concs_get i v h hv
  have hi := (List.getElem?_eq_some_iff.1 hv).1
  exact ⟨List.all_eq_true.1 h1 v (List.mem_of_getElem? hv), x, hx, by rw [hc i (by omega)]; exact hx2⟩

theorem arr_app {α : Type} (xs : List α) (z : Array α) : xs.toArray ++ z = (xs ++ z.toList).toArray := by apply Array.ext'; simp

theorem HRel.congr [Env] {h1 h2 : H} (hr : HRel ρ h1 w) (e : ∀ p, h1.get p = h2.get p) (en : h1.n = h2.n) : HRel ρ h2 w := by
  obtain ⟨a, b, c, d, k⟩ := hr
  refine ⟨by rw [← en]; exact a, b, fun p => ?_, fun p q x y => ?_, fun g v hv => ⟨(k g v hv).1, fun p y => ?_⟩⟩
  · rw [← e p]; exact c p
  · rw [← e p, ← e q]; exact d p q x y
  · rw [← e p]; exact (k g v hv).2 p y

theorem Ext.congr {ρ' : Ren} {h0 h1 h2 : H} {w' : World} (hr : Ext ρ h0 w ρ' h1 w') (e : ∀ p, h1.get p = h2.get p) (en : h1.n = h2.n) : Ext ρ h0 w ρ' h2 w' := by
  obtain ⟨a, b, c, d, f, g, k⟩ := hr
  refine ⟨a, b, c, fun p x => ?_, f, by rw [← en]; exact g, k⟩
  rw [← e p]; exact d p x

/-- A slice that has grown into a new block. -/
theorem grow_spec [Env] {es bytes elem need C : Nat} {l : List V} {v : V} {xs zs : List Value} {w' : World} (hr : HRel ρ h w) (hv : growV h es bytes elem need l = .v v h') (hl : concs ρ l = some xs) (h1 : l.all V.one = true)
    (hlen : xs.length = need * es) (hz : zs.length = (C - need) * es) (hC : need ≤ C) (hes : es ≠ 0) (hw : w'.heap = w.heap.push (.cells (xs ++ zs).toArray elem)) (hst : Str w w') :
    ∃ ρ', conc ρ' v = some (.slice (some ⟨w.heap.size, 0, none⟩) need C) ∧ HRel ρ' h' w' ∧ Ext ρ h w ρ' h' w' := by
  unfold growV at hv
  cases hb : Nat.ble ((2 * need + 192) * bytes) 281474976710656 with
  | false => simp [hb] at hv
  | true =>
    simp only [hb, cond_true, HR.v.injEq] at hv
    obtain ⟨rfl, rfl⟩ := hv
    have hsz : (xs ++ zs).toArray.size = C * es := by
      simp only [List.size_toArray, List.length_append, hlen, hz]
      rw [← Nat.add_mul]; congr 1; omega
    have ho : ObRel ρ (C * es) (.c false l elem) (some (.cells (xs ++ zs).toArray elem)) := by
      rw [← hsz]
      refine obRel_prefix hl h1 false _ (fun i hi => ?_) (by simp) _ (fun i _ => by simp)
      simp [List.getElem?_append_left hi]
    obtain ⟨g1, g2⟩ := hr.new _ _ _ ho
    refine ⟨ρ.add h.n (w.heap.size, C * es), ?_, g1.world hw, g2.world hw ⟨hst.os, hst.tape, hst.output⟩⟩
    simp only [conc, Ren.add_self, Option.bind_some, capOf, Bool.false_eq_true, if_false, Nat.sub_zero, Nat.zero_add]
    rw [Nat.mul_div_cancel _ (by omega), if_pos ⟨Nat.le_refl _, hC, Nat.le_refl _⟩]

/-- What is known of the operands of an append. -/
structure App (P : Program) (T xT e : TypeId) (i : TypeInfo) (zv : Value) (d : TypeDesc) : Prop where
  hT : P.underlying T = some (.slice e)
  hX : P.underlying xT = some d
  hd : notInt d = true
  hi : P.info? e = some i
  hz : i.zero = some zv
  hb0 : i.bytes ≠ 0
  hes : i.size ≠ 0
  hzs : zv.cells.size = i.size

theorem zeroCells_len (z : Array Value) (n : Nat) : (Builtin.zeroCells z n).size = n * z.size := by simp [Builtin.zeroCells]

theorem append_spec [Env] {T xT e ty : TypeId} {i : TypeInfo} {zv : Value} {d : TypeDesc} (A : App P T xT e i zv d) {x y : V} {u z : Value} {v : V} (hr : HRel ρ h w)
    (hv : appV h i.size i.bytes e x (srcOf h i.size y) = .v v h') (hx : conc ρ x = some u) (hy : conc ρ y = some z) :
    ∃ ρ' r w', (Builtin.append_ #[T, xT] ty #[u, z]).run P w = .ok r w' ∧ conc ρ' v = some r ∧ HRel ρ' h' w' ∧ Ext ρ h w ρ' h' w' := by
  have hs : szO P e = some i.size := by simp [szO, A.hi]
  have hes := A.hes
  unfold appV at hv
  split at hv
  · cases hv
  rename_i new n hsrc
  obtain ⟨xs, hxs, ho1, hxl, hlo, hfc, hft⟩ := src_spec (P := P) hr hsrc hy
  have hnl := concs_length hxs
  split at hv
  · -- nothing is appended
    have hnil : xs = [] := by
      have : xs.length = 0 := by rw [hnl, hxl]; simp
      exact List.eq_nil_of_length_eq_zero this
    subst hnil
    split at hv
    · cases hv
      simp [conc] at hx; subst hx
      have := run_append_fit (P := P) (ty := ty) (len := 0) (cap := 0) (base := none) A.hT A.hX A.hd hs hlo hfc (by omega)
      exact ⟨ρ, _, w, this, rfl, hr, .refl _ _ _⟩
    · rename_i b off len cap ex es'
      cases hv
      obtain ⟨q, hq, c1, c2, c3, rfl⟩ := conc_sl hx
      have := run_append_fit (P := P) (ty := ty) (len := len) (cap := capOf ex cap q.2 off es') (base := some ⟨q.1, off, none⟩) A.hT A.hX A.hd hs hlo hfc (by omega)
      refine ⟨ρ, _, w, this, ?_, hr, .refl _ _ _⟩
      exact hx
    · cases hv
  · rename_i n
    simp only [Nat.succ_eq_add_one] at hlo hfc hft hxl hsrc
    split at hv
    · -- onto nil
      simp [conc] at hx; subst hx
      have hbig : (2 * (0 + (n + 1)) + 192) * i.bytes ≤ 281474976710656 := by
        unfold growV at hv
        cases hb : Nat.ble ((2 * (n + 1) + 192) * i.bytes) 281474976710656 with
        | false => simp [hb] at hv
        | true => have := Nat.le_of_ble_eq_true hb; simpa using this
      obtain ⟨C, w', hC, hrun, hw, hst⟩ := run_append_grow' (P := P) (ty := ty) (len := 0) (cap := 0) (base := none) (old := #[]) A.hT A.hX A.hd A.hi A.hz A.hb0 hlo
        (fun w2 e2 => by obtain ⟨ys, h1, _, _, _, h5, _⟩ := src_spec (P := P) (hr.world e2) hsrc hy; rw [hxs] at h1; cases h1; exact h5)
        (fun w2 e2 => by simp [Builtin.firstCells]) (by omega) hbig
      simp only [Nat.zero_add] at hC hrun hw
      have hw2 : w'.heap = w.heap.push (.cells (xs ++ (Builtin.zeroCells zv.cells (C - (n + 1))).toList).toArray e) := by
        rw [hw, Array.empty_append, arr_app]
      obtain ⟨ρ', g1, g2, g3⟩ := grow_spec hr hv hxs ho1 (by omega) (by rw [Array.length_toList, zeroCells_len, A.hzs]) hC hes hw2 hst
      exact ⟨ρ', _, w', hrun, g1, g2, g3⟩
    · rename_i b off len cap ex es'
      cases hbe : Nat.beq i.size es' with
      | false => simp [hbe] at hv
      | true =>
      have hbe' := Nat.eq_of_beq_eq_true hbe
      subst hbe'
      simp only [hbe, cond_true] at hv
      obtain ⟨q, hq, c1, c2, c3, rfl⟩ := conc_sl hx
      unfold appSl at hv
      split at hv
      · -- it fits
        rename_i hfit
        have hfit := Nat.le_of_ble_eq_true hfit
        split at hv
        · rename_i h2 hst
          simp only [HR.v.injEq] at hv
          obtain ⟨rfl, rfl⟩ := hv
          obtain ⟨w', r1, r2, r3⟩ := storeC_spec (P := P) hr hst hq hxs ho1
          have := run_append_fit (P := P) (ty := ty) (len := len) (cap := capOf ex cap q.2 off i.size) (base := some ⟨q.1, off, none⟩) A.hT A.hX A.hd hs hlo hfc (by omega)
          simp only [add_none, r1, Result.andThen_ok] at this
          refine ⟨ρ, _, w', this, ?_, r2, r3⟩
          simp only [conc, hq, Option.bind_some]
          rw [if_pos ⟨hfit, c2, c3⟩]
        · cases hv
      · rename_i hnf
        have hnf : ¬ (len + (n + 1) ≤ cap) := by
          intro h; rw [Nat.ble_eq_true_of_le h] at hnf; cases hnf
        split at hv
        · -- it grows for sure
          split at hv
          · rename_i old hold
            obtain ⟨x2, os, e0, e1, e2, e3, e4⟩ := loadCells_of (P := P) hr hold
            rw [hq] at e0; cases e0
            have hbig : (2 * (len + (n + 1)) + 192) * i.bytes ≤ 281474976710656 := by
              unfold growV at hv
              cases hb : Nat.ble ((2 * (len + (n + 1)) + 192) * i.bytes) 281474976710656 with
              | false => simp [hb] at hv
              | true => exact Nat.le_of_ble_eq_true hb
            have hcap : capOf true cap q.2 off i.size = cap := rfl
            obtain ⟨C, w', hC, hrun, hw, hst⟩ := run_append_grow' (P := P) (ty := ty) (len := len) (cap := capOf true cap q.2 off i.size) (base := some ⟨q.1, off, none⟩) (old := os.toArray) A.hT A.hX A.hd A.hi A.hz A.hb0 hlo
              (fun w2 e2 => by obtain ⟨ys, h1, _, _, _, h5, _⟩ := src_spec (P := P) (hr.world e2) hsrc hy; rw [hxs] at h1; cases h1; exact h5)
              (fun w2 e2 => by
                obtain ⟨x3, os3, f0, f1, f2, f3, f4⟩ := loadCells_of (P := P) (hr.world e2) hold
                rw [hq] at f0; cases f0
                rw [e3] at f3; cases f3
                simpa [Builtin.firstCells] using f4) (by rw [hcap]; omega) hbig
            have hw2 : w'.heap = w.heap.push (.cells ((os ++ xs) ++ (Builtin.zeroCells zv.cells (C - (len + (n + 1)))).toList).toArray e) := by
              rw [hw, List.append_toArray, arr_app]
            have hol := concs_length e3
            obtain ⟨ρ', g1, g2, g3⟩ := grow_spec hr hv (concs_append e3 hxs) (by rw [List.all_append, e2, ho1]; rfl) (by rw [List.length_append, hol, hnl, e1, hxl, ← Nat.add_mul])
              (by rw [Array.length_toList, zeroCells_len, A.hzs]) hC hes hw2 hst
            exact ⟨ρ', _, w', hrun, g1, g2, g3⟩
          · cases hv
        · -- in place or grown: nobody knows
          cases hof : Nat.beq off 0 with
          | false => simp [hof] at hv
          | true =>
          have hof' := Nat.eq_of_beq_eq_true hof
          subst hof'
          simp only [hof, cond_true] at hv
          unfold appAmb at hv
          split at hv
          · rename_i ro cs e' hob
            cases ro with
            | true => simp at hv
            | false =>
            simp only [cond_false] at hv
            cases hee : Nat.beq e' e with
            | false => simp [hee] at hv
            | true =>
            have hee' := Nat.eq_of_beq_eq_true hee
            subst hee'
            simp only [hee, cond_true] at hv
            split at hv
            · rename_i old hold
              have hlive : (h.get b).live = true := by rw [hob]; rfl
              obtain ⟨x2, os, e0, e1, e2, e3, e4⟩ := loadCells_of (P := P) hr hold
              rw [hq] at e0; cases e0
              have hol := concs_length e3
              have hbig : (2 * (len + (n + 1)) + 192) * i.bytes ≤ 281474976710656 := by
                unfold growV at hv
                cases hb : Nat.ble ((2 * (len + (n + 1)) + 192) * i.bytes) 281474976710656 with
                | false => simp [hb] at hv
                | true => exact Nat.le_of_ble_eq_true hb
              obtain ⟨k1, k2⟩ := hr.kill b
              have hcat := concs_append e3 hxs
              have hone : (old ++ new).all V.one = true := by rw [List.all_append, e2, ho1]; rfl
              have hcl : (os ++ xs).length = (len + (n + 1)) * i.size := by rw [List.length_append, hol, hnl, e1, hxl, ← Nat.add_mul]
              by_cases hroom : len + (n + 1) ≤ capOf false cap q.2 0 i.size
              · -- in place
                have hmul := Nat.mul_le_mul_right i.size hroom
                obtain ⟨q', hq', hob2⟩ := hr.ob b hlive
                rw [hq] at hq'; cases hq'
                rw [hob] at hob2
                obtain ⟨c, fz, o1, o2, o3, o4, o5⟩ := hob2
                have hone' : ∀ v ∈ xs, v.oneCell' = true := by
                  intro v hvm
                  obtain ⟨j, hj⟩ := List.getElem?_of_mem hvm
                  have hj' : j < new.length := by rw [← hnl]; exact (List.getElem?_eq_some_iff.1 hj).1
                  obtain ⟨u, hu, hu2⟩ := concs_get j _ hxs (List.getElem?_eq_getElem hj')
                  rw [hj] at hu2; cases hu2
                  exact conc_one hu (List.all_eq_true.1 ho1 _ (List.getElem_mem hj'))
                have hx3 : len * i.size + xs.length = (len + (n + 1)) * i.size := by rw [hnl, hxl, ← Nat.add_mul]
                obtain ⟨c', r1, r2, r3⟩ := run_storeCells_row (P := P) q.1 (len * i.size) e' fz xs 0 c w o1 (by omega) (by rw [o2]; exact o5 rfl) hone'
                have hrun := run_append_fit (P := P) (ty := ty) (len := len) (cap := capOf false cap q.2 0 i.size) (base := some ⟨q.1, 0, none⟩) A.hT A.hX A.hd hs hlo hfc hroom
                simp only [add_none, Nat.zero_add, r1, Result.andThen_ok] at hrun
                have hobn : ObRel ρ q.2 (.c false (old ++ new) e') ((w.setRow q.1 c').heap[q.1]?) := by
                  rw [setRow_heap w q.1 c c' e' fz o1, show q.2 = c'.size by omega]
                  refine obRel_prefix hcat hone false c' (fun j hj => ?_) (by omega) fz (by rw [r2, o2]; exact o5 rfl)
                  rw [r3 j]
                  by_cases hjl : j < len * i.size
                  · rw [if_neg (by omega), List.getElem?_append_left (by omega)]
                    obtain ⟨x2, xs2, f0, f1, f2, f3, f4⟩ := loadC_spec hr hold
                    rw [hq] at f0; cases f0
                    rw [e3] at f3; cases f3
                    have hjo : j < os.length := by omega
                    have := f4 j _ (List.getElem?_eq_getElem hjo)
                    simp only [World.cell?, o1, Nat.zero_add] at this
                    rw [List.getElem?_eq_getElem hjo]; simpa using this
                  · rw [if_pos (by omega), List.getElem?_append_right (by omega)]
                    congr 1; omega
                -- first the block as it is now, then its new name
                obtain ⟨p1, p2⟩ := hr.put (w' := w.setRow q.1 c') hlive hq (.c false (old ++ new) e') (by simp) ⟨rfl, rfl, rfl⟩ (fun k hk => setRow_other w q.1 k c' hk) hobn
                have hl2 : ((h.put b (.c false (old ++ new) e')).get b).live = true := by rw [H.get_put, if_pos rfl]; rfl
                obtain ⟨m1, m2⟩ := p1.move hl2 hq (.c false (old ++ new) e') (by simpa using hobn)
                unfold growV at hv
                rw [Nat.ble_eq_true_of_le hbig] at hv
                simp only [cond_true, HR.v.injEq] at hv
                obtain ⟨rfl, rfl⟩ := hv
                have ge : ∀ p, (((h.put b (.c false (old ++ new) e')).put b .dead).new (.c false (old ++ new) e')).get p = ((h.put b .dead).new (.c false (old ++ new) e')).get p := by
                  intro p
                  simp only [H.get_new, H.get_put, H.n_put]
                  by_cases e1 : p = h.n
                  · simp [e1]
                  · by_cases e2 : p = b <;> simp [e1, e2]
                refine ⟨ρ.add h.n q, _, _, hrun, ?_, m1.congr ge rfl, (p2.trans m2).congr ge rfl⟩
                simp only [conc, H.n_put, Ren.add_self, Option.bind_some, capOf, Bool.false_eq_true, if_false]
                have hro : len + (n + 1) ≤ (q.2 - 0) / i.size := hroom
                have hce : 0 + (q.2 - 0) / i.size * i.size ≤ q.2 := c3
                rw [if_pos ⟨Nat.le_refl _, hro, hce⟩]
              · obtain ⟨C, w', hC, hrun, hw, hst⟩ := run_append_grow' (P := P) (ty := ty) (len := len) (cap := capOf false cap q.2 0 i.size) (base := some ⟨q.1, 0, none⟩) (old := os.toArray) A.hT A.hX A.hd A.hi A.hz A.hb0 hlo
                  (fun w2 e2 => by obtain ⟨ys, h1, _, _, _, h5, _⟩ := src_spec (P := P) (hr.world e2) hsrc hy; rw [hxs] at h1; cases h1; exact h5)
                  (fun w2 e2 => by
                    obtain ⟨x3, os3, f0, f1, f2, f3, f4⟩ := loadCells_of (P := P) (hr.world e2) hold
                    rw [hq] at f0; cases f0
                    rw [e3] at f3; cases f3
                    simpa [Builtin.firstCells] using f4) hroom hbig
                have hw2 : w'.heap = w.heap.push (.cells ((os ++ xs) ++ (Builtin.zeroCells zv.cells (C - (len + (n + 1)))).toList).toArray e') := by
                  rw [hw, List.append_toArray, arr_app]
                obtain ⟨ρ', g1, g2, g3⟩ := grow_spec k1 hv hcat hone hcl (by rw [Array.length_toList, zeroCells_len, A.hzs]) hC hes hw2 hst
                exact ⟨ρ', _, w', hrun, g1, g2, k2.trans g3⟩
            · cases hv
          · cases hv
    · cases hv

end
end Go.Eng

namespace Go.Eng
section
variable {P : Program} {ρ : Ren} {ng : Nat} {fr : Tr V} {a : Act} {h h' : H} {w : World}

/-- OPERATIONS ON MAPS. -/
theorem mp_sound [Env] {o : Oper} {i : MI} {v : V} (hg : Glob ng ρ) (hf : FrRel ρ fr a.tmps) (hr : HRel ρ h w) (hc : cM P ng o = some i) (hv : mpI fr h i = some (v, h')) : Heavy1 P ρ h w o a v h' := by
  unfold cM at hc
  split at hc
  case h_1 t hop =>
    split at hc
    · rename_i hu
      cases hc
      simp only [mpI, Option.some.injEq, Prod.mk.injEq] at hv
      obtain ⟨rfl, rfl⟩ := hv
      obtain ⟨p1, p2⟩ := hr.new (.m [] 0) (.map #[] 0) 0 ⟨[], rfl, trivial⟩
      exact ⟨_, .value (.map (some w.heap.size)), _, by simp [execOp, hop, Instr.makeMap], .inl ⟨_, rfl, by simp [conc, Ren.add_self]⟩, p1, p2⟩
    · cases hc
  case h_2 t m k x hop =>
    simp only [Option.bind_eq_some_iff, Option.map_eq_some_iff] at hc
    obtain ⟨⟨agg, ts⟩, hk, m', hm, k', hk', x', hx, rfl⟩ := hc
    obtain ⟨rfl, w', r1, r2, r3⟩ := up_spec (P := P) hk hr hv (ev_spec hg hf hm) (ev_spec hg hf hk') (ev_spec hg hf hx)
    exact ⟨ρ, .skip, w', by simp [execOp, hop, r1], .inr ⟨rfl, rfl⟩, r2, r3⟩
  case h_3 t m k x hop =>
    simp only [Option.bind_eq_some_iff, Option.map_eq_some_iff] at hc
    obtain ⟨⟨agg, ts⟩, hk, m', hm, k', hk', x', hx, rfl⟩ := hc
    obtain ⟨rfl, w', r1, r2, r3⟩ := up_spec (P := P) hk hr hv (ev_spec hg hf hm) (ev_spec hg hf hk') (ev_spec hg hf hx)
    exact ⟨ρ, .skip, w', by simp [execOp, hop, r1], .inr ⟨rfl, rfl⟩, r2, r3⟩
  case h_4 t m k hop =>
    simp only [Option.bind_eq_some_iff, Option.map_eq_some_iff] at hc
    obtain ⟨⟨agg, ts⟩, hk, z, hz, m', hm, k', hk', rfl⟩ := hc
    obtain ⟨y, w', r1, r2, r3, r4⟩ := mentry_spec (P := P) hk hz hr hv (ev_spec hg hf hm) (ev_spec hg hf hk')
    exact ⟨ρ, .value y, w', by simp [execOp, hop, r1], .inl ⟨y, rfl, r2⟩, r3, r4⟩
  case h_5 t m s x hop =>
    simp only [Option.bind_eq_some_iff, Option.map_eq_some_iff] at hc
    obtain ⟨m', hm, s', hs, x', hx, rfl⟩ := hc
    simp only [mpI] at hv
    cases hn : asN (ev fr s') with
    | none => rw [hn] at hv; simp only [mStV] at hv; split at hv <;> cases hv
    | some n =>
      rw [hn] at hv
      obtain ⟨rfl, w', r1, r2, r3⟩ := est_spec (P := P) (t := t) hr hv (ev_spec hg hf hm) hn (ev_spec hg hf hs) (ev_spec hg hf hx)
      exact ⟨ρ, .skip, w', by simp [execOp, hop, r1], .inr ⟨rfl, rfl⟩, r2, r3⟩
  case h_6 t x hop =>
    split at hc
    · rename_i kt e hu
      simp only [Option.map_eq_some_iff] at hc
      obtain ⟨x', hx, rfl⟩ := hc
      obtain ⟨ρ', y, w', r1, r2, r3, r4⟩ := rng_spec (P := P) hu hr hv (ev_spec hg hf hx)
      exact ⟨ρ', .value y, w', by simp [execOp, hop, r1], .inl ⟨y, rfl, r2⟩, r3, r4⟩
    · cases hc
  case h_7 x hop =>
    simp only [Option.map_eq_some_iff] at hc
    obtain ⟨x', hx, rfl⟩ := hc
    obtain ⟨y, w', r1, r2, r3, r4⟩ := nxt_spec (P := P) (ty := o.type) hr hv (ev_spec hg hf hx)
    exact ⟨ρ, .value y, w', by simp [execOp, hop, r1], .inl ⟨y, rfl, r2⟩, r3, r4⟩
  case h_8 args ats hop =>
    split at hc
    · rename_i t tl m k hts has
      have e2 : args = #[m, k] := by apply Array.ext'; simpa using has
      subst e2
      simp only [Option.bind_eq_some_iff, Option.map_eq_some_iff] at hc
      obtain ⟨⟨agg, ts⟩, hk, m', hm, k', hk', rfl⟩ := hc
      have hat : ats[0]? = some t := by rw [← Array.getElem?_toList, hts]; rfl
      obtain ⟨rfl, w', r1, r2, r3⟩ := del_spec (P := P) (ty := o.type) hat hk hr hv (ev_spec hg hf hm) (ev_spec hg hf hk')
      exact ⟨ρ, .value (.tuple #[]), w', by simp [execOp, hop, resolve, invoke, builtin, r1], .inl ⟨_, rfl, rfl⟩, r2, r3⟩
    · cases hc
  case h_9 f args _ hop =>
    split at hc
    · rename_i fn x hfn hargs
      split at hc
      · rename_i hext
        simp only [Option.map_eq_some_iff] at hc
        obtain ⟨x', hx, rfl⟩ := hc
        simp only [isExt, Bool.and_eq_true, beq_iff_eq] at hext
        obtain ⟨hb, hname, horig⟩ := hext
        obtain ⟨ρ', y, w', r1, r2, r3, r4⟩ := cln_spec (P := P) hr hv (ev_spec hg hf hx)
        have hfind : Extern.find fn = some Extern.MapsClone.clone := by
          unfold Extern.find
          simp only [hname, horig]
          rfl
        have hnext : Extern.findNext fn = none := by
          unfold Extern.findNext
          simp only [hname, horig]
          rfl
        have hca : args = #[x] := by cases args; simp at hargs; rw [hargs]
        have hrun := run_callFunc_extern (P := P) hfn (by rw [hname]; decide) hb hnext hfind #[a.eval x] w
        rw [r1] at hrun
        simp only [Result.andThen_ok] at hrun
        have ef : a.eval (.func f) = .func (.func f) #[] #[] := rfl
        have hmap : args.map a.eval = #[a.eval x] := by rw [hca]; simp
        refine ⟨ρ', .value y, w', ?_, .inl ⟨y, rfl, r2⟩, r3, r4⟩
        simp only [execOp, hop, resolve, ef, Deferred.ofValue, Sem.run_bind, Sem.run_pure, Result.andThen_ok, invoke, hmap]
        simpa using hrun
      · cases hc
    · cases hc
  case h_10 => cases hc


/-! ### Calls of methods -/

/-- What soundness says of a call. -/
def Call1 [Env] (P : Program) (ρ : Ren) (o : Oper) (a : Act) (w : World) (f : Path) (args : List V) : Prop :=
  ∃ xs, concs ρ args = some xs ∧ (execOp a.eval o).run P w = (callFunc f.num xs.toArray).run P w

theorem evs_concs [Env] {l : List Operand} {os : List Opd} (hg : Glob ng ρ) (hf : FrRel ρ fr a.tmps) (hc : cOs ng l = some os) : concs ρ (evs fr os) = some (l.map a.eval) := evs_spec hg hf hc

def cInv (P : Program) (ng : Nat) (o : Oper) : Option HI :=
  match o.op with
  | .call { callee := .invoke recv name, args, argTypes := _ } => (cO ng recv).bind fun x => (cOs ng args.toList).map fun l => .inv (rowsFrom P name P.types.toList 0) x l
  | _ => none

theorem inv_sound [Env] {o : Oper} {name : String} {recv : Operand} {args : Array Operand} {ats : Array TypeId} {x : Opd} {l : List Opd} {f : Path} {as : List V} (hg : Glob ng ρ) (hf : FrRel ρ fr a.tmps) (hr : HRel ρ h w)
    (hop : o.op = .call { callee := .invoke recv name, args, argTypes := ats }) (hx : cO ng recv = some x) (hl : cOs ng args.toList = some l)
    (hv : invV h (rowsFrom P name P.types.toList 0) (ev fr x) (evs fr l) = some (f, as)) : Call1 P ρ o a w f as := by
  have ex := ev_spec hg hf hx
  have el := evs_concs hg hf hl
  unfold invV at hv
  split at hv
  · rename_i t v he
    rw [he] at ex
    obtain ⟨y, hy, ex⟩ := conc_ifc ex
    cases hft : findT t (rowsFrom P name P.types.toList 0) with
    | none => rw [hft] at hv; cases hv
    | some r =>
      rw [hft] at hv
      obtain ⟨i, _, hi, hrow⟩ := findT_spec (P := P) P.types.toList 0 t r hft
      have hi := info_types (P := P) (by simpa using hi)
      simp only [rowOf, Option.bind_eq_some_iff] at hrow
      obtain ⟨m, hm, hrow⟩ := hrow
      split at hrow
      · rename_i f0 pr hpath hfunc
        have hm' : i.methods.find? (·.name == name) = some m := by rw [← Array.find?_toList]; exact hm
        have hargs : (args.map a.eval) = (args.toList.map a.eval).toArray := by apply Array.ext'; simp
        -- the receiver decides
        have fin : ∀ (rv : Value) (u : V), conc ρ u = some rv → (receiverAt t (.val y) pr (if m.path.isEmpty then some ((name.splitOn ".").getLastD name) else none)).run P w = .ok rv w →
            Call1 P ρ o a w (Path.of f0) (u :: evs fr l) := by
          intro rv u hu hrun
          refine ⟨rv :: args.toList.map a.eval, by simp [concs, hu, el], ?_⟩
          have hmeth : (method (P.types.size + Made.depth) t y name).run P w = .ok (f0, rv) w := by
            rw [show P.types.size + Made.depth = (P.types.size + 99) + 1 from rfl, method]
            simp only [typeInfo, Sem.run_bind, run_program, Result.andThen_ok, hi, Sem.run_pure, hm', hpath, follow, hfunc, hrun]
          have ha2 : #[a.eval recv] ++ args.map a.eval = (a.eval recv :: args.toList.map a.eval).toArray := by rw [hargs]; simp
          have e1 : ((a.eval recv :: args.toList.map a.eval).toArray)[0]? = some (.iface t y) := by simp [ex]
          have e2 : ((a.eval recv :: args.toList.map a.eval).toArray).extract 1 ((a.eval recv :: args.toList.map a.eval).toArray).size = (args.toList.map a.eval).toArray := by
            apply Array.ext'
            simp only [List.size_toArray, List.length_cons, List.length_map, Array.toList_extract, List.extract_eq_take_drop, List.drop_succ_cons, List.drop_zero, Nat.add_sub_cancel]
            exact List.take_of_length_le (by simp)
          simp only [execOp, hop, resolve, Sem.run_bind, Sem.run_pure, Result.andThen_ok, invoke, ha2, e1, e2, callMethod, run_program, hmeth, Path.num_of]
          have e3 : #[rv] ++ (args.toList.map a.eval).toArray = (rv :: args.toList.map a.eval).toArray := by simp
          rw [e3]
        cases hu : P.underlying t with
        | none => simp [hu] at hrow
        | some d =>
          have nonptr : (∀ e, d ≠ .pointer e) → pr = false → r = (Path.of f0, none) → Call1 P ρ o a w f as := by
            rintro hd rfl rfl
            simp only [invR, Option.some.injEq, Prod.mk.injEq] at hv
            obtain ⟨rfl, rfl⟩ := hv
            refine fin y v hy ?_
            unfold receiverAt
            simp only [Sem.run_bind, run_under hu, Result.andThen_ok]
            cases d <;> first | exact absurd rfl (hd _) | rfl
          cases d
          case pointer e =>
            simp only [hu] at hrow
            cases pr with
            | true =>
              simp only [if_true, Option.some.injEq] at hrow
              subst hrow
              simp only [invR, Option.some.injEq, Prod.mk.injEq] at hv
              obtain ⟨rfl, rfl⟩ := hv
              refine fin y v hy ?_
              unfold receiverAt
              simp only [Sem.run_bind, run_under hu, Result.andThen_ok]
              rfl
            | false =>
              simp only [Bool.false_eq_true, if_false, Option.bind_eq_some_iff, Option.map_eq_some_iff] at hrow
              obtain ⟨g, hg', n, hn, rfl⟩ := hrow
              simp only [invR] at hv
              split at hv
              · rename_i u hld
                simp only [Option.some.injEq, Prod.mk.injEq] at hv
                obtain ⟨rfl, rfl⟩ := hv
                obtain ⟨z, hz, hrun⟩ := load_spec (P := P) hr hld hy hg' hn
                refine fin z u hz ?_
                have hp : m.path.isEmpty = true := by
                  have : m.path = #[] := by apply Array.ext'; simpa using hpath
                  rw [this]; rfl
                -- the pointer is not nil
                have hptr : ∃ ad, y = .pointer (some ad) := by
                  unfold loadV at hld
                  split at hld
                  · obtain ⟨q, _, rfl⟩ := conc_p hy; exact ⟨_, rfl⟩
                  · cases hld
                obtain ⟨ad, rfl⟩ := hptr
                have hload : (loadVar e ad).run P w = .ok z w := by simpa [Instr.loadAt, Instr.sureAddr] using hrun
                unfold receiverAt
                have hnc : ∀ (s u : String) (ts : Array TypeId) (ty : TypeId), Builtin.ssaWrapNilChk_ ts ty #[.pointer (some ad), strVal s, strVal u] = (pure (.pointer (some ad)) : Sem Value) := fun _ _ _ _ => rfl
                simp only [Sem.run_bind, run_under hu, Result.andThen_ok, hp, if_true, Place.get, Sem.run_pure, hnc, asAddr, hload]
              · cases hv
          all_goals
            simp only [hu] at hrow
            cases pr with
            | true => simp at hrow
            | false =>
              simp only [Bool.false_eq_true, if_false, Option.some.injEq] at hrow
              exact nonptr (by intros; simp) rfl hrow.symm
      · cases hrow
  · cases hv

end
end Go.Eng

namespace Go.Eng

def cApp (P : Program) (ng : Nat) (T xT : TypeId) (x y : Operand) : Option HI :=
  match P.underlying T with
  | some (.slice e) => (P.underlying xT).bind fun d => (P.info? e).bind fun i => (zeroO P e).bind fun z =>
      if notInt d = true ∧ i.bytes ≠ 0 ∧ i.size ≠ 0 ∧ z.length = i.size then (cO ng x).bind fun x => (cO ng y).map fun y => .append i.size i.bytes e x y else none
  | _ => none

def cCopy (P : Program) (ng : Nat) (T : TypeId) (x y : Operand) : Option HI :=
  match P.underlying T with
  | some (.slice e) => (szO P e).bind fun s => (cO ng x).bind fun x => (cO ng y).map fun y => .copy s x y
  | _ => none

def cClear (P : Program) (ng : Nat) (T : TypeId) (x : Operand) : Option HI :=
  match P.underlying T with
  | some (.slice e) => (szO P e).bind fun s => (zeroO P e).bind fun z => (cO ng x).map fun x => .clear s z x
  | _ => none

def cH0 (P : Program) (ng : Nat) (o : Oper) : Option HI :=
  match o.op with
  | .store t x y => (szO P t).bind fun n => (cO ng x).bind fun x => (cO ng y).map fun y => .store n x y
  | .call c => match c.callee with
    | .value (.func f) => (cOs ng c.args.toList).map fun l => .call (Path.of f) l
    | .value f => (cO ng f).bind fun f => (cOs ng c.args.toList).map fun l => .callv f l
    | .builtin .append => match c.argTypes.toList, c.args.toList with
      | [T, xT], [x, y] => cApp P ng T xT x y
      | _, _ => none
    | .builtin .copy => match c.argTypes.toList, c.args.toList with
      | [T, _], [x, y] => cCopy P ng T x y
      | _, _ => none
    | .builtin .clear => match c.argTypes.toList, c.args.toList with
      | [T], [x] => cClear P ng T x
      | _, _ => none
    | _ => none
  | _ => none

def cH (P : Program) (ng : Nat) (o : Oper) : Option HI :=
  match cM P ng o with
  | some i => some (.mp i)
  | none => match cInv P ng o with
    | some i => some i
    | none => cH0 P ng o

section
variable {P : Program} {ρ : Ren} {ng : Nat} {fr : Tr V} {a : Act} {h h' : H} {w : World}

theorem takeE_some {α : Type} {n : Nat} {l r : List α} (h : takeE n l = some r) : n ≤ l.length ∧ r = l.take n := by
  rw [takeE_eq] at h
  split at h
  · rename_i hn; cases h; exact ⟨hn, rfl⟩
  · cases h

theorem copy_spec [Env] {T xT e ty : TypeId} {es : Nat} {x y : V} {u z : Value} {v : V} (hT : P.underlying T = some (.slice e)) (hs : szO P e = some es) (hr : HRel ρ h w)
    (hv : copyV h es x (srcOf h es y) = .v v h') (hx : conc ρ x = some u) (hy : conc ρ y = some z) :
    ∃ r w', (Builtin.copy_ #[T, xT] ty #[u, z]).run P w = .ok r w' ∧ conc ρ v = some r ∧ HRel ρ h' w' ∧ Ext ρ h w ρ h' w' := by
  unfold copyV at hv
  split at hv
  · cases hv
  rename_i l n hsrc
  obtain ⟨xs, hxs, ho1, hxl, hlo, hfc, hft⟩ := src_spec (P := P) hr hsrc hy
  split at hv
  · cases hv
    simp [conc] at hx; subst hx
    refine ⟨goInt 0, w, ?_, rfl, hr, .refl _ _ _⟩
    have := hft 0 (Nat.zero_le _)
    simp only [Nat.zero_mul, List.take_zero] at this
    simp only [Builtin.copy_, List.getElem?_toArray, List.getElem?_cons_zero, List.getElem?_cons_succ, Sem.run_bind, run_under hT, Result.andThen_ok, hlo, run_szO hs]
    rw [show n.min 0 = 0 by simp, this]
    rfl
  · rename_i b o m cap ex es'
    split at hv
    · rename_i l2 hl2
      split at hv
      · rename_i h2 hst
        simp only [HR.v.injEq] at hv
        obtain ⟨rfl, rfl⟩ := hv
        obtain ⟨hle, rfl⟩ := takeE_some hl2
        obtain ⟨q, hq, c1, c2, c3, rfl⟩ := conc_sl hx
        have hone : (l.take (n.min m * es)).all V.one = true := by
          rw [List.all_eq_true] at ho1 ⊢
          exact fun u hu => ho1 u (List.mem_of_mem_take hu)
        obtain ⟨w', r1, r2, r3⟩ := storeC_spec (P := P) hr hst hq (concs_take _ hxs) hone
        refine ⟨goInt (n.min m), w', ?_, rfl, r2, r3⟩
        have := hft (n.min m) (Nat.min_le_left _ _)
        simp only [Builtin.copy_, List.getElem?_toArray, List.getElem?_cons_zero, List.getElem?_cons_succ, Sem.run_bind, run_under hT, Result.andThen_ok, hlo, run_szO hs, this]
        simp [r1]
      · cases hv
    · cases hv
  · cases hv

theorem clear_spec [Env] {T e ty : TypeId} {zl : List V} {x : V} {u : Value} {v : V} (hT : P.underlying T = some (.slice e)) (hz : zeroO P e = some zl) (hr : HRel ρ h w)
    (hv : clearV h zl x = .v v h') (hx : conc ρ x = some u) :
    ∃ w', (Builtin.clear_ #[T] ty #[u]).run P w = .ok (.tuple #[]) w' ∧ v = undefV ∧ HRel ρ h' w' ∧ Ext ρ h w ρ h' w' := by
  obtain ⟨it, zv, hi, hzv, hcz, h1⟩ := zeroO_spec hz
  unfold clearV at hv
  split at hv
  · cases hv
    simp [conc] at hx; subst hx
    exact ⟨w, by simp [Builtin.clear_, run_under hT], rfl, hr, .refl _ _ _⟩
  · rename_i b o m cap ex es'
    obtain ⟨q, hq, c1, c2, c3, rfl⟩ := conc_sl hx
    split at hv
    · cases hv
      exact ⟨w, by simp [Builtin.clear_, run_under hT], rfl, hr, .refl _ _ _⟩
    · rename_i n
      split at hv
      · rename_i h2 hst
        simp only [HR.v.injEq] at hv
        obtain ⟨rfl, rfl⟩ := hv
        obtain ⟨w', r1, r2, r3⟩ := storeC_spec (P := P) hr hst hq (rep_concs (hcz ρ) (n + 1)) (rep_all h1 (n + 1))
        refine ⟨w', ?_, rfl, r2, r3⟩
        have e1 : (Builtin.zeroCells zv.cells (n + 1)).toList = rep (n + 1) zv.cells.toList := by
          have := range_rep zv.cells (n + 1) zv.cells.size rfl
          rw [← this]; rfl
        simp [Builtin.clear_, run_under hT, zeroValue, typeInfo, hi, hzv, e1, r1]
      · cases hv
  · cases hv

/-- OPERATIONS THAT WRITE OR CALL. -/
theorem hv_sound0 [Env] {o : Oper} {i : HI} (hg : Glob ng ρ) (hf : FrRel ρ fr a.tmps) (hr : HRel ρ h w) (hc : cH0 P ng o = some i) :
    (∀ v h', hvI fr h i = .v v h' → Heavy1 P ρ h w o a v h') ∧ (∀ f args, hvI fr h i = .call f args → Call1 P ρ o a w f args) := by
  unfold cH0 at hc
  split at hc
  case h_1 t x y hop =>
    simp only [Option.bind_eq_some_iff, Option.map_eq_some_iff] at hc
    obtain ⟨n, hn, x', hx, y', hy, rfl⟩ := hc
    refine ⟨fun v h' hv => ?_, fun f args hv => ?_⟩
    · obtain ⟨rfl, w', r1, r2, r3⟩ := store_spec (P := P) hr hv (ev_spec hg hf hx) (ev_spec hg hf hy) hn
      exact ⟨ρ, .skip, w', by simp [execOp, hop, r1], .inr ⟨rfl, rfl⟩, r2, r3⟩
    · simp only [hvI, storeV] at hv
      split at hv
      · split at hv
        · rename_i l _
          cases hb : Nat.beq l.length n <;> rw [hb] at hv <;> simp only [cond_true, cond_false] at hv
          · cases hv
          · split at hv <;> cases hv
        · cases hv
      · cases hv
  case h_2 c hop =>
    obtain ⟨callee, args, ats⟩ := c
    simp only at hc
    split at hc
    · rename_i f
      simp only [Option.map_eq_some_iff] at hc
      obtain ⟨l, hl, rfl⟩ := hc
      refine ⟨fun v h' hv => by simp [hvI] at hv, fun g as hv => ?_⟩
      simp only [hvI, HR.call.injEq] at hv
      obtain ⟨rfl, rfl⟩ := hv
      refine ⟨_, evs_concs hg hf hl, ?_⟩
      have : (args.map a.eval) = (args.toList.map a.eval).toArray := by apply Array.ext'; simp
      simp only [execOp, hop, resolve, Deferred.ofValue, Sem.run_bind, Act.eval, Sem.run_pure, Result.andThen_ok, invoke, Path.num_of]
      rw [← this]
      simp
    · rename_i f _
      simp only [Option.bind_eq_some_iff, Option.map_eq_some_iff] at hc
      obtain ⟨f', hf', l, hl, rfl⟩ := hc
      have ef := ev_spec hg hf hf'
      refine ⟨fun v h' hv => ?_, fun g as hv => ?_⟩
      · simp only [hvI, callvV] at hv
        split at hv <;> cases hv
      · simp only [hvI, callvV] at hv
        split at hv
        · rename_i fn caps hfn
          simp only [HR.call.injEq] at hv
          obtain ⟨rfl, rfl⟩ := hv
          rw [hfn] at ef
          obtain ⟨cs, hcs, ef⟩ := conc_f ef
          refine ⟨_, concs_append (evs_concs hg hf hl) hcs, ?_⟩
          have : (args.map a.eval) = (args.toList.map a.eval).toArray := by apply Array.ext'; simp
          simp only [execOp, hop, resolve, ef, Deferred.ofValue, Sem.run_bind, Sem.run_pure, Result.andThen_ok, invoke]
          rw [this]
          simp
        · cases hv
    · split at hc
      · rename_i T xT x y hts has
        have e1 : ats = #[T, xT] := by apply Array.ext'; simpa using hts
        have e2 : args = #[x, y] := by apply Array.ext'; simpa using has
        subst e1; subst e2
        unfold cApp at hc
        split at hc
        · rename_i e hT
          simp only [Option.bind_eq_some_iff] at hc
          obtain ⟨d, hd, inf, hinf, z, hz, hc⟩ := hc
          split at hc
          · rename_i hcond
            simp only [Option.bind_eq_some_iff, Option.map_eq_some_iff] at hc
            obtain ⟨x', hx, y', hy, rfl⟩ := hc
            obtain ⟨it, zv, hi, hzv, hcz, h1⟩ := zeroO_spec hz
            rw [hinf] at hi; cases hi
            have A : App P T xT e inf zv d := ⟨hT, hd, hcond.1, hinf, hzv, hcond.2.1, hcond.2.2.1, by have := concs_length (hcz ρ); simp at this; omega⟩
            have nocall : ∀ f args, appV h inf.size inf.bytes e (ev fr x') (srcOf h inf.size (ev fr y')) ≠ .call f args := by
              intro f as hq
              have ng : ∀ h es bytes elem need l, growV h es bytes elem need l ≠ .call f as := by
                intro h es bytes elem need l hq
                unfold growV at hq
                cases hb : Nat.ble ((2 * need + 192) * bytes) 281474976710656 <;> rw [hb] at hq <;> cases hq
              unfold appV at hq
              split at hq
              · cases hq
              · split at hq
                · split at hq <;> cases hq
                · split at hq
                  · exact ng _ _ _ _ _ _ hq
                  · rename_i b off len cap ex es' _
                    cases hb : Nat.beq inf.size es' <;> rw [hb] at hq <;> simp only [cond_true, cond_false] at hq
                    · cases hq
                    · unfold appSl at hq
                      split at hq
                      · split at hq <;> cases hq
                      · split at hq
                        · split at hq
                          · exact ng _ _ _ _ _ _ hq
                          · cases hq
                        · cases hb : Nat.beq off 0 <;> rw [hb] at hq <;> simp only [cond_true, cond_false] at hq
                          · cases hq
                          · unfold appAmb at hq
                            split at hq
                            · rename_i ro cs e' _
                              cases ro <;> simp only [cond_true, cond_false] at hq
                              · cases hb : Nat.beq e' e <;> rw [hb] at hq <;> simp only [cond_true, cond_false] at hq
                                · cases hq
                                · split at hq
                                  · exact ng _ _ _ _ _ _ hq
                                  · cases hq
                              · cases hq
                            · cases hq
                  · cases hq
            refine ⟨fun v h' hv => ?_, fun f as hv => absurd hv (nocall f as)⟩
            obtain ⟨ρ', r, w', g1, g2, g3, g4⟩ := append_spec (P := P) (ty := o.type) A hr hv (ev_spec hg hf hx) (ev_spec hg hf hy)
            exact ⟨ρ', .value r, w', by simp [execOp, hop, resolve, invoke, builtin, g1], .inl ⟨r, rfl, g2⟩, g3, g4⟩
          · cases hc
        · cases hc
      · cases hc
    · split at hc
      · rename_i T xT x y hts has
        have e1 : ats = #[T, xT] := by apply Array.ext'; simpa using hts
        have e2 : args = #[x, y] := by apply Array.ext'; simpa using has
        subst e1; subst e2
        unfold cCopy at hc
        split at hc
        · rename_i e hT
          simp only [Option.bind_eq_some_iff, Option.map_eq_some_iff] at hc
          obtain ⟨s, hs, x', hx, y', hy, rfl⟩ := hc
          refine ⟨fun v h' hv => ?_, fun f as hv => ?_⟩
          · obtain ⟨r, w', g1, g2, g3, g4⟩ := copy_spec (P := P) (xT := xT) (ty := o.type) hT hs hr hv (ev_spec hg hf hx) (ev_spec hg hf hy)
            exact ⟨ρ, .value r, w', by simp [execOp, hop, resolve, invoke, builtin, g1], .inl ⟨r, rfl, g2⟩, g3, g4⟩
          · simp only [hvI, copyV] at hv
            split at hv
            · cases hv
            · split at hv
              · cases hv
              · split at hv
                · split at hv <;> cases hv
                · cases hv
              · cases hv
        · cases hc
      · cases hc
    · split at hc
      · rename_i T x hts has
        have e1 : ats = #[T] := by apply Array.ext'; simpa using hts
        have e2 : args = #[x] := by apply Array.ext'; simpa using has
        subst e1; subst e2
        unfold cClear at hc
        split at hc
        · rename_i e hT
          simp only [Option.bind_eq_some_iff, Option.map_eq_some_iff] at hc
          obtain ⟨s, hs, z, hz, x', hx, rfl⟩ := hc
          refine ⟨fun v h' hv => ?_, fun f as hv => ?_⟩
          · obtain ⟨w', g1, rfl, g3, g4⟩ := clear_spec (P := P) (ty := o.type) hT hz hr hv (ev_spec hg hf hx)
            exact ⟨ρ, .value (.tuple #[]), w', by simp [execOp, hop, resolve, invoke, builtin, g1], .inl ⟨_, rfl, rfl⟩, g3, g4⟩
          · simp only [hvI, clearV] at hv
            split at hv
            · cases hv
            · split at hv
              · cases hv
              · split at hv <;> cases hv
            · cases hv
        · cases hc
      · cases hc
    · cases hc
  case h_3 => cases hc

/-- OPERATIONS THAT WRITE OR CALL. -/
theorem hv_sound [Env] {o : Oper} {i : HI} (hg : Glob ng ρ) (hf : FrRel ρ fr a.tmps) (hr : HRel ρ h w) (hc : cH P ng o = some i) :
    (∀ v h', hvI fr h i = .v v h' → Heavy1 P ρ h w o a v h') ∧ (∀ f args, hvI fr h i = .call f args → Call1 P ρ o a w f args) := by
  unfold cH at hc
  split at hc
  · rename_i i' hm
    cases hc
    refine ⟨fun v h' hv => ?_, fun f as hv => ?_⟩
    · simp only [hvI, mpR] at hv
      split at hv
      · rename_i u k hi
        simp only [HR.v.injEq] at hv
        obtain ⟨rfl, rfl⟩ := hv
        exact mp_sound hg hf hr hm hi
      · cases hv
    · simp only [hvI, mpR] at hv
      split at hv <;> cases hv
  · split at hc
    · rename_i i' hi
      cases hc
      unfold cInv at hi
      split at hi
      · rename_i recv name args ats hop
        simp only [Option.bind_eq_some_iff, Option.map_eq_some_iff] at hi
        obtain ⟨x, hx, l, hl, rfl⟩ := hi
        refine ⟨fun v h' hv => ?_, fun f as hv => ?_⟩
        · simp only [hvI, invH] at hv
          split at hv <;> cases hv
        · simp only [hvI, invH] at hv
          split at hv
          · rename_i f' as' he
            simp only [HR.call.injEq] at hv
            obtain ⟨rfl, rfl⟩ := hv
            exact inv_sound hg hf hr hop hx hl he
          · cases hv
      · cases hi
    · exact hv_sound0 hg hf hr hc

end
end Go.Eng

namespace Go.Eng

inductive I where
  | pu (i : PI)
  | rd (i : RI)
  | al (i : AI)
  | hv (i : HI)
  | bad

structure St where
  dst : Option Path
  op : I
  gd : Option (Path × Bool)

/-- An operation of a region whose order is open: the blocks that it does not see (those that operations make which need not come before it), and what is to read the same behind it. -/
structure It where
  st : St
  hide : List Path
  chk : List (St × List Path)

inductive C where
  | skip
  | reg (l : List St)
  | dreg (l : List It)
  | seq (a b : C)
  | cond (c : Opd) (a b : C)
  | block (id : Nat) (c : C)
  | loop (c : C)
  | exit (id : Nat)
  | ret
  | bad

inductive RV where
  | t (p : Path)
  | c (p : Path) (agg : Bool) (n : Nat)

inductive X where
  | nx
  | rt
  | ex (id : Nat)

inductive Rs where
  | fail
  | one (x : X) (fr : Tr V) (h : H)

/-- nd: are all ends followed, where a walk over a map may go several ways? orc: what is known of the function by other means. -/
structure F where
  n : Nat
  nd : Bool
  res : List RV
  body : C
  orc : Option (List V → H → Rs)

inductive Task where
  | code (c : C)
  | ops (l : List St)
  | dops (l : List It)
  | call (f : Path) (args : List V)

noncomputable def putD (fr : Tr V) (d : Option Path) (v : V) : Tr V :=
  match d with
  | none => fr
  | some p => fr.set p v

noncomputable def wantd (fr : Tr V) (g : Option (Path × Bool)) : Bool :=
  match g with
  | none => true
  | some (p, b) => match fr.get undefV p with
    | .b c => c == b
    | _ => false

/-- The block that a value names. -/
def blkOf : V → Option Path
  | .p b _ => some b
  | .sl b _ _ _ _ _ => some b
  | .m b => some b
  | _ => none

noncomputable def hideL (fr : Tr V) : List Path → H → H
  | [], h => h
  | d :: l, h => match blkOf (fr.get undefV d) with
    | some b => hideL fr l (h.put b .dead)
    | none => hideL fr l h

noncomputable def showL (fr : Tr V) (h0 : H) : List Path → H → H
  | [], h => h
  | d :: l, h => match blkOf (fr.get undefV d) with
    | some b => showL fr h0 l (h.put b (h0.get b))
    | none => showL fr h0 l h

mutual
def sameV : V → V → Bool
  | .b x, y => match y with | .b y => x == y | _ => false
  | .i j x, y => match y with | .i k y => cond (sameK j k) (eqI x y) false | _ => false
  | .s x, y => match y with | .s y => eqL x y | _ => false
  | .p b o, y => match y with | .p c q => cond (b.same c) (Nat.beq o q) false | _ => false
  | .p0, y => match y with | .p0 => true | _ => false
  | .sl b o n c e s, y => match y with
    | .sl b' o' n' c' e' s' => cond (b.same b') (cond (Nat.beq o o') (cond (Nat.beq n n') (cond (Nat.beq c c') (cond (Nat.beq s s') (e == e') false) false) false) false) false
    | _ => false
  | .sl0, y => match y with | .sl0 => true | _ => false
  | .m b, y => match y with | .m c => b.same c | _ => false
  | .m0, y => match y with | .m0 => true | _ => false
  | .f f l, y => match y with | .f g k => cond (f.same g) (sameVs l k) false | _ => false
  | .f0, y => match y with | .f0 => true | _ => false
  | .ifc t v, y => match y with | .ifc u w => cond (Nat.beq t u) (sameV v w) false | _ => false
  | .i0, y => match y with | .i0 => true | _ => false
  | .a l, y => match y with | .a k => sameVs l k | _ => false
  | .t l, y => match y with | .t k => sameVs l k | _ => false
  | .o g, y => match y with | .o k => Nat.beq g k | _ => false
  | .oi g c, y => match y with | .oi k d => cond (Nat.beq g k) (Nat.beq c d) false | _ => false
  | .y j c lo hi, y => match y with | .y j' c' lo' hi' => cond (Nat.beq j j') (cond (eqI c c') (cond (eqI lo lo') (eqI hi hi') false) false) false | _ => false
def sameVs : List V → List V → Bool
  | [], k => match k with | [] => true | _ => false
  | x :: l, k => match k with | y :: k => cond (sameV x y) (sameVs l k) false | [] => false
end

theorem eqL_eq : ∀ {x y : List Nat}, eqL x y = true → x = y
  | [], [], _ => rfl
  | [], _ :: _, h => by simp [eqL] at h
  | _ :: _, [], h => by simp [eqL] at h
  | a :: x, b :: y, h => by
    simp only [eqL] at h
    cases hb : Nat.beq a b <;> rw [hb] at h <;> simp only [cond_true, cond_false] at h
    · cases h
    · rw [Nat.eq_of_beq_eq_true hb, eqL_eq h]

theorem cond_and {a b : Bool} (h : cond a b false = true) : a = true ∧ b = true := by cases a <;> cases b <;> simp at h ⊢

mutual
theorem sameV_eq : ∀ {x y : V}, sameV x y = true → x = y
  | .b _, y, h => by cases y <;> simp [sameV] at h; rw [h]
  | .i _ _, y, h => by
    cases y <;> simp only [sameV] at h <;> try (cases h; done)
    obtain ⟨h1, h2⟩ := cond_and h
    rw [eqI_eq] at h2; simp at h2
    rw [sameK_eq h1, h2]
  | .s _, y, h => by cases y <;> simp only [sameV] at h <;> first | (cases h; done) | rw [eqL_eq h]
  | .p _ _, y, h => by
    cases y <;> simp only [sameV] at h <;> try (cases h; done)
    obtain ⟨h1, h2⟩ := cond_and h
    rw [Path.same_iff.1 h1, Nat.eq_of_beq_eq_true h2]
  | .p0, y, h => by cases y <;> simp only [sameV] at h <;> first | rfl | cases h
  | .sl _ _ _ _ _ _, y, h => by
    cases y <;> simp only [sameV] at h <;> try (cases h; done)
    obtain ⟨h1, h⟩ := cond_and h
    obtain ⟨h2, h⟩ := cond_and h
    obtain ⟨h3, h⟩ := cond_and h
    obtain ⟨h4, h⟩ := cond_and h
    obtain ⟨h5, h⟩ := cond_and h
    rw [Path.same_iff.1 h1, Nat.eq_of_beq_eq_true h2, Nat.eq_of_beq_eq_true h3, Nat.eq_of_beq_eq_true h4, Nat.eq_of_beq_eq_true h5, beq_iff_eq.1 h]
  | .sl0, y, h => by cases y <;> simp only [sameV] at h <;> first | rfl | cases h
  | .m _, y, h => by cases y <;> simp only [sameV] at h <;> first | (cases h; done) | rw [Path.same_iff.1 h]
  | .m0, y, h => by cases y <;> simp only [sameV] at h <;> first | rfl | cases h
  | .f _ _, y, h => by
    cases y <;> simp only [sameV] at h <;> try (cases h; done)
    obtain ⟨h1, h2⟩ := cond_and h
    rw [Path.same_iff.1 h1, sameVs_eq h2]
  | .f0, y, h => by cases y <;> simp only [sameV] at h <;> first | rfl | cases h
  | .ifc _ _, y, h => by
    cases y <;> simp only [sameV] at h <;> try (cases h; done)
    obtain ⟨h1, h2⟩ := cond_and h
    rw [Nat.eq_of_beq_eq_true h1, sameV_eq h2]
  | .i0, y, h => by cases y <;> simp only [sameV] at h <;> first | rfl | cases h
  | .a _, y, h => by
    cases y <;> simp only [sameV] at h <;> try (cases h; done)
    rw [sameVs_eq h]
  | .t _, y, h => by
    cases y <;> simp only [sameV] at h <;> try (cases h; done)
    rw [sameVs_eq h]
  | .o _, y, h => by
    cases y <;> simp only [sameV] at h <;> try (cases h; done)
    rw [Nat.eq_of_beq_eq_true h]
  | .oi _ _, y, h => by
    cases y <;> simp only [sameV] at h <;> try (cases h; done)
    obtain ⟨h1, h2⟩ := cond_and h
    rw [Nat.eq_of_beq_eq_true h1, Nat.eq_of_beq_eq_true h2]
  | .y _ _ _ _, y, h => by
    cases y <;> simp only [sameV] at h <;> try (cases h; done)
    obtain ⟨h1, h⟩ := cond_and h
    obtain ⟨h2, h⟩ := cond_and h
    obtain ⟨h3, h4⟩ := cond_and h
    rw [eqI_eq] at h2 h3 h4
    rw [Nat.eq_of_beq_eq_true h1, of_decide_eq_true h2, of_decide_eq_true h3, of_decide_eq_true h4]
theorem sameVs_eq : ∀ {x y : List V}, sameVs x y = true → x = y
  | [], [], _ => rfl
  | [], _ :: _, h => by simp [sameVs] at h
  | _ :: _, [], h => by simp [sameVs] at h
  | x :: l, y :: k, h => by
    simp only [sameVs] at h
    obtain ⟨h1, h2⟩ := cond_and h
    rw [sameV_eq h1, sameVs_eq h2]
end

/-- What was read before reads the same. -/
noncomputable def chkL (fr : Tr V) (h : H) : List (St × List Path) → Bool
  | [] => true
  | (s, hide) :: l => cond (wantd fr s.gd) (match s.op, s.dst with
      | .rd i, some d => cond (fr.mem d) (match rdI fr (hideL fr hide h) i with | some v => cond (sameV v (fr.get undefV d)) (chkL fr h l) false | none => false) false
      | _, _ => false) (chkL fr h l)

section
variable (ih : Task → Tr V → H → Rs)

noncomputable def runCallO (dst : Option Path) (l : List St) (fr : Tr V) (r : Rs) : Rs :=
  match r with
  | .one _ q h => ih (.ops l) (putD fr dst (q.get undefV .e)) h
  | .fail => .fail

noncomputable def runHvO (dst : Option Path) (l : List St) (fr : Tr V) (h0 : H) (r : HR) : Rs :=
  match r with
  | .v v h => ih (.ops l) (putD fr dst v) h
  | .call f args => runCallO ih dst l fr (ih (.call f args) .nil h0)
  | .fail => .fail

noncomputable def runVal (dst : Option Path) (l : List St) (fr : Tr V) (h : H) (v : Option V) : Rs :=
  match v with
  | some v => ih (.ops l) (putD fr dst v) h
  | none => .fail

noncomputable def runAl (dst : Option Path) (l : List St) (fr : Tr V) (h : H) (v : Option (Ob × AK)) : Rs :=
  match v with
  | some (ob, k) => ih (.ops l) (putD fr dst (k.val h.n)) (h.new ob)
  | none => .fail

noncomputable def runOp (dst : Option Path) (op : I) (l : List St) (fr : Tr V) (h : H) : Rs :=
  match op with
  | .pu i => runVal ih dst l fr h (puI fr i)
  | .rd i => runVal ih dst l fr h (rdI fr h i)
  | .al i => runAl ih dst l fr h (alI fr i)
  | .hv i => runHvO ih dst l fr h (hvI fr h i)
  | .bad => .fail

noncomputable def runO (l : List St) (fr : Tr V) (h : H) : Rs :=
  match l with
  | [] => .one .nx fr h
  | s :: l => match wantd fr s.gd with
    | false => ih (.ops l) (putD fr s.dst undefV) h
    | true => runOp ih s.dst s.op l fr h

/-! The same where the order is open. -/

noncomputable def runValD (dst : Option Path) (l : List It) (fr : Tr V) (h : H) (v : Option V) : Rs :=
  match v with
  | some v => ih (.dops l) (putD fr dst v) h
  | none => .fail

noncomputable def runAlD (dst : Option Path) (l : List It) (fr : Tr V) (h : H) (v : Option (Ob × AK)) : Rs :=
  match v with
  | some (ob, k) => (match dst with
    | some d => cond (fr.mem d) (ih (.dops l) (fr.set d (k.val h.n)) (h.new ob)) .fail
    | none => .fail)
  | none => .fail

noncomputable def finD (it : It) (l : List It) (fr : Tr V) (v : V) (h : H) : Rs :=
  match chkL fr h it.chk with
  | true => ih (.dops l) (putD fr it.st.dst v) h
  | false => .fail

noncomputable def runCallD (it : It) (l : List It) (fr : Tr V) (h : H) (r : Rs) : Rs :=
  match r with
  | .one _ q h1 => finD ih it l fr (q.get undefV .e) (showL fr h it.hide h1)
  | .fail => .fail

noncomputable def runHvD (it : It) (l : List It) (fr : Tr V) (h : H) (r : HR) : Rs :=
  match r with
  | .v v h1 => finD ih it l fr v (showL fr h it.hide h1)
  | .call f args => runCallD ih it l fr h (ih (.call f args) .nil (hideL fr it.hide h))
  | .fail => .fail

noncomputable def runOpD (it : It) (op : I) (l : List It) (fr : Tr V) (h : H) : Rs :=
  match op with
  | .pu i => runValD ih it.st.dst l fr h (puI fr i)
  | .rd i => runValD ih it.st.dst l fr h (rdI fr (hideL fr it.hide h) i)
  | .al i => runAlD ih it.st.dst l fr h (alI fr i)
  | .hv i => runHvD ih it l fr h (hvI fr (hideL fr it.hide h) i)
  | .bad => .fail

noncomputable def runD (l : List It) (fr : Tr V) (h : H) : Rs :=
  match l with
  | [] => .one .nx fr h
  | it :: l => match wantd fr it.st.gd with
    | false => ih (.dops l) (putD fr it.st.dst undefV) h
    | true => runOpD ih it it.st.op l fr h

/-! Code. -/

noncomputable def runSeq (b : C) (r : Rs) : Rs :=
  match r with
  | .one x fr h => (match x with | .nx => ih (.code b) fr h | x => .one x fr h)
  | .fail => .fail

noncomputable def runCond (a b : C) (fr : Tr V) (h : H) (c : V) : Rs :=
  match c with
  | .b x => cond x (ih (.code a) fr h) (ih (.code b) fr h)
  | _ => .fail

def runBlock (id : Nat) (r : Rs) : Rs :=
  match r with
  | .one x fr h => (match x with | .ex j => cond (Nat.beq j id) (.one .nx fr h) (.one (.ex j) fr h) | x => .one x fr h)
  | .fail => .fail

noncomputable def runC (c : C) (fr : Tr V) (h : H) : Rs :=
  match c with
  | .skip => .one .nx fr h
  | .reg l => ih (.ops l) fr h
  | .dreg l => ih (.dops l) fr h
  | .seq a b => runSeq ih b (ih (.code a) fr h)
  | .cond c a b => runCond ih a b fr h (ev fr c)
  | .block id c => runBlock id (ih (.code c) fr h)
  | .loop c => runSeq ih (.loop c) (ih (.code c) fr h)
  | .exit id => .one (.ex id) fr h
  | .ret => .one .rt fr h
  | .bad => .fail

noncomputable def resV (fr : Tr V) (h : H) (r : RV) : Option V :=
  match r with
  | .t p => some (fr.get undefV p)
  | .c p agg n => loadV h agg n (fr.get undefV p)

noncomputable def resVs (fr : Tr V) (h : H) : List RV → Option (List V)
  | [] => some []
  | r :: l => match resV fr h r with
    | some v => (match resVs fr h l with | some vs => some (v :: vs) | none => none)
    | none => none

def oneV : List V → V
  | [v] => v
  | l => .t l

noncomputable def putArgs (k : Path) (l : List V) (fr : Tr V) : Tr V :=
  match l with
  | [] => fr
  | v :: l => putArgs k.succ l (fr.set k v)

noncomputable def retR (res : List RV) (fr : Tr V) (h : H) : Rs :=
  match resVs fr h res with
  | some l => .one .rt (.nd .nil (oneV l) .nil) h
  | none => .fail

noncomputable def runRet (res : List RV) (r : Rs) : Rs :=
  match r with
  | .one x fr h => (match x with | .ex _ => .fail | _ => retR res fr h)
  | .fail => .fail

/-! Functions whose walks over maps may go several ways. -/

abbrev Out := X × Tr V × H

noncomputable def bindO {α : Type} (f : α → Option (List Out)) (l : List α) : Option (List Out) :=
  match l with
  | [] => some []
  | o :: l => match f o with
    | some a => (match bindO f l with | some b => some (a ++ b) | none => none)
    | none => none

def outO (r : Rs) : Option (List Out) :=
  match r with
  | .one x fr h => some [(x, fr, h)]
  | .fail => none

noncomputable def ndHR (h0 : H) (r : HR) : Option (List (V × H)) :=
  match r with
  | .v v h => some [(v, h)]
  | .call f args => (match ih (.call f args) .nil h0 with | .one _ q h => some [(q.get undefV .e, h)] | .fail => none)
  | .fail => none

noncomputable def ndHv (fr : Tr V) (h : H) (i : HI) : Option (List (V × H)) :=
  match i with
  | .mp (.nxt x) => ndNxt h (ev fr x)
  | i => ndHR ih h (hvI fr h i)

noncomputable def ndOp (fr : Tr V) (h : H) (op : I) : Option (List (V × H)) :=
  match op with
  | .pu i => (puI fr i).map fun v => [(v, h)]
  | .rd i => (rdI fr h i).map fun v => [(v, h)]
  | .al i => (alI fr i).map fun p => [(p.2.val h.n, h.new p.1)]
  | .hv i => ndHv ih fr h i
  | .bad => none

noncomputable def ndOps : List St → Tr V → H → Option (List Out)
  | [], fr, h => some [(.nx, fr, h)]
  | s :: l, fr, h => match wantd fr s.gd with
    | false => ndOps l (putD fr s.dst undefV) h
    | true => (match ndOp ih fr h s.op with
      | some a => bindO (fun p => ndOps l (putD fr s.dst p.1) p.2) a
      | none => none)

noncomputable def ndThen (k : Tr V → H → Option (List Out)) (o : Out) : Option (List Out) :=
  match o.1 with
  | .nx => k o.2.1 o.2.2
  | _ => some [o]

noncomputable def ndSeq (k : Tr V → H → Option (List Out)) (a : Option (List Out)) : Option (List Out) :=
  match a with
  | some a => bindO (ndThen k) a
  | none => none

noncomputable def ndLoop (body : Tr V → H → Option (List Out)) : Nat → Tr V → H → Option (List Out)
  | 0, _, _ => none
  | n + 1, fr, h => ndSeq (ndLoop body n) (body fr h)

def blkO (id : Nat) (o : Out) : Out :=
  match o.1 with
  | .ex j => cond (Nat.beq j id) (.nx, o.2.1, o.2.2) o
  | _ => o

noncomputable def ndC : C → Tr V → H → Option (List Out)
  | .skip, fr, h => some [(.nx, fr, h)]
  | .reg l, fr, h => ndOps ih l fr h
  | .dreg l, fr, h => outO (ih (.dops l) fr h)
  | .seq a b, fr, h => ndSeq (ndC b) (ndC a fr h)
  | .cond c a b, fr, h => (match ev fr c with | .b true => ndC a fr h | .b false => ndC b fr h | _ => none)
  | .block id c, fr, h => (ndC c fr h).map (List.map (blkO id))
  | .loop c, fr, h => ndLoop (ndC c) 1000 fr h
  | .exit id, fr, h => some [(.ex id, fr, h)]
  | .ret, fr, h => some [(.rt, fr, h)]
  | .bad, _, _ => none

noncomputable def endsO (res : List RV) (o : Out) : Option (List V × H) :=
  match o.1 with
  | .ex _ => none
  | _ => (match resVs o.2.1 o.2.2 res with | some l => some (l, o.2.2) | none => none)

noncomputable def endsL (res : List RV) : List Out → Option (List (List V × H))
  | [] => some []
  | o :: l => match endsO res o with
    | some a => (match endsL res l with | some r => some (a :: r) | none => none)
    | none => none

def sameEs : List (V × V × Nat) → List (V × V × Nat) → Bool
  | [], k => (match k with | [] => true | _ => false)
  | (a, b, n) :: l, k => match k with
    | (c, d, m) :: k => cond (sameV a c) (cond (sameV b d) (cond (Nat.beq n m) (sameEs l k) false) false) false
    | [] => false

def sameOb (a b : Ob) : Bool :=
  match a with
  | .c ro l e => (match b with | .c ro' l' e' => cond (ro == ro') (cond (Nat.beq e e') (sameVs l l') false) false | _ => false)
  | .m es c => (match b with | .m es' c' => cond (Nat.beq c c') (sameEs es es') false | _ => false)
  | _ => false

/-- What is the same in two heaps. -/
def mergeT : Tr Ob → Tr Ob → Tr Ob
  | .nil, _ => .nil
  | .nd l v r, k => match k with
    | .nil => .nil
    | .nd l' v' r' => .nd (mergeT l l') (cond (sameOb v v') v .dead) (mergeT r r')

def joinL (vs : List V) (h : H) : List (List V × H) → Option H
  | [] => some h
  | (us, k) :: l => cond (sameVs us vs) (cond (k.n.same h.n) (joinL vs ⟨mergeT h.t k.t, h.n⟩ l) none) none

noncomputable def joinO (res : List RV) (outs : Option (List Out)) : Rs :=
  match outs with
  | some outs => (match endsL res outs with
    | some ((vs, h) :: l) => (match joinL vs h l with | some h => .one .rt (.nd .nil (oneV vs) .nil) h | none => .fail)
    | _ => .fail)
  | none => .fail

noncomputable def runF (args : List V) (h : H) (f : Option F) : Rs :=
  match f with
  | some F => match F.orc with
    | some o => o args h
    | none => cond (Nat.ble args.length F.n) (cond F.nd (joinO F.res (ndC ih F.body (putArgs .e args (Tr.fill undefV F.n F.n)) h)) (runRet F.res (ih (.code F.body) (putArgs .e args (Tr.fill undefV F.n F.n)) h))) .fail
  | none => .fail

end

noncomputable def runT (tab : Tr (Option F)) (ih : Task → Tr V → H → Rs) (t : Task) (fr : Tr V) (h : H) : Rs :=
  match t with
  | .code c => runC ih c fr h
  | .ops l => runO ih l fr h
  | .dops l => runD ih l fr h
  | .call f args => runF ih args h (tab.get none f)

noncomputable def run (tab : Tr (Option F)) (n : Nat) : Task → Tr V → H → Rs :=
  Nat.rec (motive := fun _ => Task → Tr V → H → Rs) (fun _ _ _ => .fail) (fun _ ih => runT tab ih) n

theorem run_zero (tab : Tr (Option F)) (t : Task) (fr : Tr V) (h : H) : run tab 0 t fr h = .fail := rfl
theorem run_succ (tab : Tr (Option F)) (n : Nat) (t : Task) (fr : Tr V) (h : H) : run tab (n + 1) t fr h = runT tab (run tab n) t fr h := rfl

end Go.Eng

namespace Go.Eng

def cI (P : Program) (ng : Nat) (o : Oper) : I :=
  match cP P ng o with
  | some i => .pu i
  | none => match cR P ng o with
    | some i => .rd i
    | none => match cA P ng o with
      | some i => .al i
      | none => match cH P ng o with
        | some i => .hv i
        | none => .bad

def cSt (P : Program) (ng : Nat) (ops : Array Oper) (o : Oper) : St :=
  match o.guard with
  | none => ⟨o.dst.map Path.of, cI P ng o, none⟩
  | some (j, b) => match (ops[j]?).bind (·.dst) with
    | some d => ⟨o.dst.map Path.of, cI P ng o, some (Path.of d, b)⟩
    | none => ⟨o.dst.map Path.of, .bad, none⟩

section
variable (P : Program) (ng : Nat) (plan : Array Oper → Option (List It))

def cC : Code → C
  | .skip => .skip
  | .label _ => .skip
  | .region _ ops draw => if draw then (match plan ops with | some l => .dreg l | none => .bad) else .reg (ops.toList.map (cSt P ng ops))
  | .seq a b => .seq (cC a) (cC b)
  | .cond c a b => match cO ng c with
    | some c => .cond c (cC a) (cC b)
    | none => .bad
  | .block id c => .block id (cC c)
  | .loop c => .loop (cC c)
  | .exit id => .exit id
  | .scope c => cC c
  | .ret => .ret
  | _ => .bad

def cRes : List ResultVar → Option (List RV)
  | [] => some []
  | .tmp t :: l => (cRes l).map fun r => .t (Path.of t) :: r
  | .cell a t :: l => (aggO P t).bind fun g => (szO P t).bind fun n => (cRes l).map fun r => .c (Path.of a) g n :: r

/-- Does a piece of code step over a map? -/
def hasNext : Code → Bool
  | .region _ ops _ => ops.toList.any fun o => match o.op with | .next _ false => true | _ => false
  | .seq a b => hasNext a || hasNext b
  | .cond _ a b => hasNext a || hasNext b
  | .block _ c => hasNext c
  | .loop c => hasNext c
  | .scope c => hasNext c
  | _ => false

def cF (fn : Func) : Option F :=
  match fn.body with
  | some c => if fn.name == "runtime.NumGoroutine" then none else (cRes P fn.results.toList).map fun r => ⟨fn.ntmps, hasNext c, r, cC P ng plan c, none⟩
  | none => none
end

def X.exit : X → Exit
  | .nx => .normal
  | .rt => .ret
  | .ex id => .exit id

/-- What holds behind a piece of code. -/
def Post [Env] (ρ : Ren) (h : H) (w : World) (a : Act) (x : X) (fr' : Tr V) (h' : H) : Exit → Act → World → Prop := fun e a' w' =>
  e = x.exit ∧ a'.defers = a.defers ∧ ∃ ρ', FrRel ρ' fr' a'.tmps ∧ HRel ρ' h' w' ∧ Ext ρ h w ρ' h' w'

theorem Post.later [Env] {ρ ρ1 : Ren} {h h1 : H} {w w1 : World} {a a1 : Act} {x : X} {fr' : Tr V} {h' : H} {e : Exit} {a' : Act} {w' : World}
    (hp : Post ρ1 h1 w1 a1 x fr' h' e a' w') (hx : Ext ρ h w ρ1 h1 w1) (hd : a1.defers = a.defers) : Post ρ h w a x fr' h' e a' w' := by
  obtain ⟨h1, h2, ρ', h3, h4, h5⟩ := hp
  exact ⟨h1, h2.trans hd, ρ', h3, h4, hx.trans h5⟩

section
variable {P : Program} {ng : Nat} {ops : Array Oper} {ρ : Ren} {fr : Tr V} {a : Act} {h : H} {w : World}

theorem put_spec [Env] {o : Oper} {v : V} {x : Value} (hf : FrRel ρ fr a.tmps) (hv : conc ρ v = some x) : FrRel ρ (putD fr (o.dst.map Path.of) v) (a.put o.dst x).tmps := by
  cases hd : o.dst with
  | none => exact hf
  | some d => exact hf.set d v x hv

theorem put_defers {o : Oper} {x : Value} : (a.put o.dst x).defers = a.defers := by cases hd : o.dst <;> rfl

theorem wantd_spec [Env] {o : Oper} {g : Option (Path × Bool)} (hf : FrRel ρ fr a.tmps)
    (hg : (o.guard = none ∧ g = none) ∨ ∃ j b d, o.guard = some (j, b) ∧ (ops[j]?).bind (·.dst) = some d ∧ g = some (Path.of d, b)) :
    Region.wanted o (yielded ops a.tmps) = wantd fr g := by
  rcases hg with ⟨h1, rfl⟩ | ⟨j, b, d, h1, h2, rfl⟩
  · simp [Region.wanted, h1, wantd]
  · simp only [Region.wanted, h1, wantd, yielded, h2, Option.bind_some]
    have hv := hf.val d
    have hb : ∀ c, fr.get undefV (Path.of d) = .b c ↔ a.tmps[d]? = some (.bool c) := by
      intro c
      rw [Array.getD_eq_getD_getElem?] at hv
      constructor
      · intro e
        rw [e] at hv
        simp only [conc, Option.some.injEq] at hv
        cases hq : a.tmps[d]? with
        | none => rw [hq] at hv; simp [undef] at hv
        | some q => rw [hq] at hv; simp at hv; rw [hv]
      · intro e
        rw [e] at hv
        simp only [Option.getD_some] at hv
        generalize fr.get undefV (Path.of d) = u at hv
        cases u <;> simp only [conc, Option.map_eq_some_iff, Option.bind_eq_some_iff] at hv <;> first
          | exact (Env.nob _ _ hv).elim
          | (have h := (yV_spec hv).1; cases h; done)
          | (obtain ⟨_, _, h⟩ := hv; obtain ⟨_, _, h, _⟩ := oiV_spec h; cases h; done)
          | (cases hv; rfl)
          | (cases hv; done)
          | (obtain ⟨_, _, h⟩ := hv; cases h; done)
          | (split at hv <;> first | (cases hv; done) | (simp at hv; done))
          | (obtain ⟨_, _, h⟩ := hv; split at h <;> cases h)
    cases hq : a.tmps[d]? with
    | none =>
      have : ∀ c, fr.get undefV (Path.of d) ≠ .b c := fun c e => by have := (hb c).1 e; rw [hq] at this; cases this
      have hw : (match fr.get undefV (Path.of d) with | .b c => c == b | _ => false) = false := by
        split
        · rename_i c e; exact absurd e (this c)
        · rfl
      refine Eq.trans ?_ hw.symm
      rfl
    | some q =>
      cases q
      case bool c =>
        rw [(hb c).2 hq]
        simp
      all_goals
        have : ∀ c, fr.get undefV (Path.of d) ≠ .b c := fun c e => by have := (hb c).1 e; rw [hq] at this; cases this
        have hw : (match fr.get undefV (Path.of d) with | .b c => c == b | _ => false) = false := by
          split
          · rename_i c e; exact absurd e (this c)
          · rfl
        refine Eq.trans ?_ hw.symm
        rfl

theorem cSt_guard {o : Oper} (hop : (cSt P ng ops o).op ≠ .bad) :
    ((o.guard = none ∧ (cSt P ng ops o).gd = none) ∨ ∃ j b d, o.guard = some (j, b) ∧ (ops[j]?).bind (·.dst) = some d ∧ (cSt P ng ops o).gd = some (Path.of d, b)) ∧
    (cSt P ng ops o).op = cI P ng o := by
  unfold cSt at hop ⊢
  split at hop
  · rename_i hg
    exact ⟨.inl ⟨hg, rfl⟩, rfl⟩
  · rename_i j b hg
    split at hop
    · rename_i d hd
      exact ⟨.inr ⟨j, b, d, hg, hd, rfl⟩, rfl⟩
    · exact absurd rfl hop

theorem cSt_unwanted {o : Oper} {fr : Tr V} (hw : wantd fr (cSt P ng ops o).gd = false) :
    (o.guard = none ∧ (cSt P ng ops o).gd = none) ∨ ∃ j b d, o.guard = some (j, b) ∧ (ops[j]?).bind (·.dst) = some d ∧ (cSt P ng ops o).gd = some (Path.of d, b) := by
  unfold cSt at hw ⊢
  split at hw
  · simp [wantd] at hw
  · rename_i j b hg
    split at hw
    · rename_i d hd
      exact .inr ⟨j, b, d, hg, hd, rfl⟩
    · simp [wantd] at hw

theorem cSt_dst {o : Oper} : (cSt P ng ops o).dst = o.dst.map Path.of := by
  unfold cSt
  split
  · rfl
  · split <;> rfl

/-- What soundness says of a call of the program's own functions. -/
def CallOk [Env] (P : Program) (ng : Nat) (f : Path) (args : List V) (h : H) (v : V) (h' : H) : Prop :=
  ∀ ρ w xs, concs ρ args = some xs → HRel ρ h w → Glob ng ρ →
    (callFunc f.num xs.toArray).run P w = .ok (.enter f.num xs.toArray) w ∧
    Calls P f.num xs.toArray w fun e w' => ∃ u ρ', e = .returned u ∧ conc ρ' v = some u ∧ HRel ρ' h' w' ∧ Ext ρ h w ρ' h' w'

/-- One operation of a region. -/
def StepOk [Env] (P : Program) (ng : Nat) (o : Oper) (fr : Tr V) (h : H) (v : V) (h' : H) : Prop :=
  ∀ ρ a w, Glob ng ρ → FrRel ρ fr a.tmps → HRel ρ h w → ∀ (next : Act → World → Prop) (Q : Exit → Act → World → Prop),
    (∀ ρ' x w', conc ρ' v = some x → HRel ρ' h' w' → Ext ρ h w ρ' h' w' → next (a.put o.dst x) w') → o.wp P a w next Q

theorem step_pu [Env] {o : Oper} {i : PI} {v : V} (hc : cP P ng o = some i) (hv : puI fr i = some v) : StepOk P ng o fr h v h := by
  intro ρ a w hg hf hr next Q hn
  obtain ⟨x, hx, hrun⟩ := pu_sound hg hf hc hv
  simp only [Oper.wp, hrun w, Oper.upon]
  exact hn ρ x w hx hr (.refl _ _ _)

theorem step_rd [Env] {o : Oper} {i : RI} {v : V} (hc : cR P ng o = some i) (hv : rdI fr h i = some v) : StepOk P ng o fr h v h := by
  intro ρ a w hg hf hr next Q hn
  obtain ⟨x, hx, hrun⟩ := rd_sound (P := P) hg hf hr hc hv
  simp only [Oper.wp, hrun, Oper.upon]
  exact hn ρ x w hx hr (.refl _ _ _)

theorem step_al [Env] {o : Oper} {i : AI} {ob : Ob} {k : AK} (hc : cA P ng o = some i) (hv : alI fr i = some (ob, k)) : StepOk P ng o fr h (k.val h.n) (h.new ob) := by
  intro ρ a w hg hf hr next Q hn
  obtain ⟨x, obj, sz, w', hrun, hw, hst, ho, hval⟩ := al_sound hg hf hc hv w
  simp only [Oper.wp, hrun, Oper.upon]
  obtain ⟨g1, g2⟩ := hr.new ob obj sz ho
  exact hn _ x w' (hval _ _ (Ren.add_self ..)) (g1.world hw) (g2.world hw ⟨hst.os, hst.tape, hst.output⟩)

theorem step_hv [Env] {o : Oper} {i : HI} {v : V} {h' : H} (hc : cH P ng o = some i) (hv : hvI fr h i = .v v h') : StepOk P ng o fr h v h' := by
  intro ρ a w hg hf hr next Q hn
  obtain ⟨ρ', n, w', hrun, hcase, g1, g2⟩ := (hv_sound (P := P) hg hf hr hc).1 v h' hv
  simp only [Oper.wp, hrun]
  rcases hcase with ⟨x, rfl, hx⟩ | ⟨rfl, rfl⟩
  · simp only [Oper.upon]
    exact hn ρ' x w' hx g1 g2
  · simp only [Oper.upon]
    exact hn ρ' undef w' rfl g1 g2

theorem step_call [Env] {o : Oper} {i : HI} {f : Path} {args : List V} {v : V} {h' : H} (hc : cH P ng o = some i) (hv : hvI fr h i = .call f args) (hcall : CallOk P ng f args h v h') : StepOk P ng o fr h v h' := by
  intro ρ a w hg hf hr next Q hn
  obtain ⟨xs, hxs, hrun⟩ := (hv_sound (P := P) hg hf hr hc).2 f args hv
  obtain ⟨h1, h2⟩ := hcall ρ w xs hxs hr hg
  simp only [Oper.wp, hrun, h1, Oper.upon]
  refine h2.mono fun e w' he => ?_
  obtain ⟨u, ρ', rfl, hu, g1, g2⟩ := he
  exact hn ρ' u w' hu g1 g2

/-! ### Regions in their order -/

variable {tab : Tr (Option F)} {plan : Array Oper → Option (List It)}

/-- What one round of fuel gives. -/
structure Sound [Env] (P : Program) (ng : Nat) (plan : Array Oper → Option (List It)) (tab : Tr (Option F)) (n : Nat) : Prop where
  code : ∀ c fr h x fr' h', run tab n (.code (cC P ng plan c)) fr h = .one x fr' h' → ∀ ρ a w, Glob ng ρ → FrRel ρ fr a.tmps → HRel ρ h w → c.wp P (Post ρ h w a x fr' h') a w
  loop : ∀ c fr h x fr' h', run tab n (.code (.loop (cC P ng plan c))) fr h = .one x fr' h' → ∀ ρ a w, Glob ng ρ → FrRel ρ fr a.tmps → HRel ρ h w → Code.rounds P c (Post ρ h w a x fr' h') n a w
  ops : ∀ (ops : Array Oper) (l : List Nat) (os : List Oper), (l.map fun i => ops[i]?) = os.map some → ∀ fr h x fr' h', run tab n (.ops (os.map (cSt P ng ops))) fr h = .one x fr' h' →
    ∀ ρ a w, Glob ng ρ → FrRel ρ fr a.tmps → HRel ρ h w → wpOps P ops (Post ρ h w a x fr' h') l a w
  dops : ∀ (id : Nat) (ops : Array Oper) (l : List It), plan ops = some l → ∀ fr h x fr' h', run tab n (.dops l) fr h = .one x fr' h' →
    ∀ ρ a w, Glob ng ρ → FrRel ρ fr a.tmps → HRel ρ h w → (Code.region id ops true).wp P (Post ρ h w a x fr' h') a w
  call : ∀ f args fr h x q h', run tab n (.call f args) fr h = .one x q h' → CallOk P ng f args h (q.get undefV .e) h'

theorem rounds_mono {Q Q' : Exit → Act → World → Prop} {c : Code} (hq : ∀ e a w, Q e a w → Q' e a w) : ∀ (n : Nat) (a : Act) (w : World), Code.rounds P c Q n a w → Code.rounds P c Q' n a w
  | 0, _, _, h => h.elim
  | n + 1, a, w, h => by
    rw [rounds_succ] at h ⊢
    refine wp_mono h fun e a w he => ?_
    cases e <;> first
      | exact rounds_mono hq n a w he
      | exact hq _ _ _ he

theorem wpOps_mono {Q Q' : Exit → Act → World → Prop} (hq : ∀ e a w, Q e a w → Q' e a w) : ∀ (l : List Nat) (a : Act) (w : World), wpOps P ops Q l a w → wpOps P ops Q' l a w
  | [], a, w, h => hq _ _ _ h
  | i :: l, a, w, h => by
    rw [wpOps_cons] at h ⊢
    refine wpOp_mono (fun a w h => wpOps_mono hq l a w h) ?_
    unfold wpOp at h ⊢
    split
    · rename_i e; simp only [e] at h; exact h
    · rename_i o e
      simp only [e] at h
      split
      · rename_i hw
        simp only [hw, if_true] at h
        rcases h with h | ⟨h1, h2⟩
        · left
          unfold Oper.wp at *
          generalize (execOp a.eval o).run P w = r at *
          cases r with
          | ok n w' =>
            cases n <;> simp only [Oper.upon] at h ⊢ <;> try exact h
            · exact h.mono fun e w'' he => by
                cases e with
                | returned u => exact he
                | panicked c => exact hq _ _ _ he
                | outgrown => obtain ⟨a0, w0, h0⟩ := he; exact ⟨a0, w0, hq _ _ _ h0⟩
          | halt x w' =>
            cases x <;> simp only [Oper.upon] at h ⊢ <;> first | exact hq _ _ _ h | exact h
        · right
          obtain ⟨a0, w0, h0⟩ := h2
          exact ⟨h1, a0, w0, hq _ _ _ h0⟩
      · rename_i hw
        simp only [hw] at h
        exact h

end
end Go.Eng

