/- The engine, part K: the compilation of operations that touch no memory, and its soundness. -/
import Derived.Test.YtjngjfgbholgpaaEngJ
import Derived.Laws.Build
set_option linter.unusedSimpArgs false
set_option linter.unusedVariables false
namespace Go.Eng
section
variable {P : Program} {ρ : Ren}

def cOo (ng : Nat) : Option Operand → Option (Option Opd)
  | none => some none
  | some x => (cO ng x).map some

/-- The parts of a literal, compiled. -/
def cParts (ng : Nat) (place : Nat → Option (Nat × Nat)) : List (Nat × Operand) → Option (List (Nat × Nat × Opd))
  | [] => some []
  | (i, x) :: l => (place i).bind fun p => (cO ng x).bind fun o => (cParts ng place l).map fun r => (p.1, p.2, o) :: r

def zeroO (P : Program) (t : TypeId) : Option (List V) :=
  ((P.info? t).bind (·.zero)).bind fun z => (cVs z.cells.toList).bind fun l => if l.all V.one then some l else none

def placesO (P : Program) (fs : List Field) : Option (List (Nat × Nat)) := fs.mapM fun f => (P.info? f.type).map fun i => (f.offset, i.size)

def cBuild (P : Program) (ng : Nat) (t : TypeId) (ps : List (Nat × Operand)) : Option PI :=
  (zeroO P t).bind fun z => match P.underlying t with
    | some (.struct fs) => (placesO P fs.toList).bind fun pl => (cParts ng (pl.toArray[·]?) ps).map fun r => .build z r
    | some (.array _ e) => (szO P e).bind fun s => (cParts ng (fun i => some (i * s, s)) ps).map fun r => .build z r
    | _ => none

def isEq : BinOp → Option Bool
  | .eql => some false
  | .neq => some true
  | _ => none

/-- The types whose values in interfaces are compared by their one plain cell. -/
def cmpRows (P : Program) : List TypeInfo → Nat → List (Nat × Nat)
  | [], _ => []
  | i :: l, t => match i.comparable, plainT P 1 t with
    | true, some [g] => (t, g) :: cmpRows P l (t + 1)
    | _, _ => cmpRows P l (t + 1)

def cTas (P : Program) (ng : Nat) (x : Operand) (asserted : TypeId) (ok : Bool) : Option PI :=
  (((if ok then ((P.info? asserted).bind (·.zero)).bind cV else some .i0) : Option V)).bind fun z => (cO ng x).bind fun x' => match P.underlying asserted with
    | some (.interface want) => some (.tas false ((P.types.toList.zipIdx.filter fun q => (Instr.missingMethod want q.1.methods).isNone).map (·.2)) z ok x')
    | some _ => some (.tas true [asserted] z ok x')
    | none => none

def cBin (P : Program) (ng : Nat) (op : BinOp) (t : TypeId) (x y : Operand) : Option PI :=
  (P.underlying t).bind fun d => (cO ng x).bind fun x' => (cO ng y).bind fun y' =>
    match d with
    | .struct _ => (isEq op).bind fun neg => if P.eqGuardType P.depth t then none else (plainT P 20 t).map fun ts => .eqS neg ts x' y'
    | .interface ms => match isC x || isC y, isEq op with
      | false, some neg => some (.eqF neg (cmpRows P P.types.toList 0) x' y')
      | c, _ => some (.bin op (eqKind c (.interface ms)) x' y')
    | d => some (.bin op (eqKind (isC x || isC y) d) x' y')

def cConv (P : Program) (ng : Nat) (s d : TypeId) (x : Operand) : Option PI :=
  (P.underlying s).bind fun us => (P.underlying d).bind fun ud => (cO ng x).bind fun x' =>
    match ud with
    | .int k => some (.convI k x')
    | .string => match us with | .string => some (.convS x') | _ => none
    | _ => none

def cSlice (P : Program) (ng : Nat) (t : TypeId) (x : Operand) (lo hi mx : Option Operand) : Option PI :=
  (cO ng x).bind fun x' => (cOo ng lo).bind fun lo' => (cOo ng hi).bind fun hi' => (cOo ng mx).bind fun mx' =>
    match P.underlying t with
    | some .string => match mx with | none => some (.slStr x' lo' hi') | some _ => none
    | some (.slice e) => (szO P e).bind fun s => if s = 0 ∨ (mx.isSome = true ∧ hi.isNone = true) then none else some (.slSl s x' lo' hi' mx')
    | _ => none

def cFieldA (P : Program) (ng : Nat) (s : TypeId) (x : Operand) (f : Nat) : Option PI :=
  match P.underlying s with
  | some (.struct fs) => (fs[f]?).bind fun fd => (szO P fd.type).bind fun sz => if sz = 0 then none else (cO ng x).map fun x' => .fieldA fd.offset x'
  | _ => none

def cField (P : Program) (ng : Nat) (s : TypeId) (x : Operand) (f : Nat) : Option PI :=
  match P.underlying s with
  | some (.struct fs) => (fs[f]?).bind fun fd => (szO P fd.type).bind fun sz => (aggO P fd.type).bind fun a => (cO ng x).map fun x' => .field a fd.offset sz x'
  | _ => none

def cIdxA (P : Program) (ng : Nat) (t : TypeId) (x i : Operand) : Option PI :=
  (cO ng x).bind fun x' => (cO ng i).bind fun i' => match P.underlying t with
    | some (.array n e) => (szO P e).map fun s => .idxAArr n s x' i'
    | some (.slice e) => (szO P e).map fun s => .idxASl s x' i'
    | _ => none

def cIdx (P : Program) (ng : Nat) (t : TypeId) (x i : Operand) : Option PI :=
  (cO ng x).bind fun x' => (cO ng i).bind fun i' => match P.underlying t with
    | some (.array n e) => (szO P e).bind fun s => (aggO P e).map fun a => .idxArr a n s x' i'
    | some .string => some (.idxStr x' i')
    | _ => none

def cLen (P : Program) (ng : Nat) (ts : Array TypeId) (args : Array Operand) : Option PI :=
  match ts.toList, args.toList with
  | [t], [x] => match P.underlying t with
    | some .string => (cO ng x).map .lenS
    | some (.slice _) => (cO ng x).map .lenSl
    | _ => none
  | _, _ => none

/-- Is this a function of the library without a body, of that name? -/
def isExt (fn : Func) (n : String) : Bool := fn.body.isNone && (fn.name == n && fn.origin == "")

def cExt (P : Program) (ng : Nat) (f : FuncId) (args : List Operand) : Option PI :=
  match P.funcs[f]?, args with
  | some fn, [x, c] => if isExt fn "internal/bytealg.IndexByteString" then (cO ng x).bind fun x => (cO ng c).map fun c => .ixb x c else none
  | _, _ => none

def cP (P : Program) (ng : Nat) (o : Oper) : Option PI :=
  match o.op with
  | .move x => (cO ng x).map .mv
  | .assign x => (cO ng x).map .mv
  | .pick c a b => (cO ng c).bind fun c => (cO ng a).bind fun a => (cO ng b).map fun b => .pick c a b
  | .build t ps => cBuild P ng t ps.toList
  | .binOp op t x y _ => cBin P ng op t x y
  | .unOp op _ x => (cO ng x).map (.un op)
  | .convert s d x => cConv P ng s d x
  | .makeInterface t x => if P.concrete t then (cO ng x).map (.mkI t) else none
  | .makeFunc (.func f) ⟨[]⟩ ⟨cs⟩ => (cOs ng cs).map (.mkF (Path.of f))
  | .slice t x lo hi mx => cSlice P ng t x lo hi mx
  | .fieldAddr s x f => cFieldA P ng s x f
  | .field s x f => cField P ng s x f
  | .indexAddr t x i => cIdxA P ng t x i
  | .index t x i => cIdx P ng t x i
  | .extract x i => (cO ng x).map fun x => .extract x i
  | .nilCheck x => (cO ng x).map .nilck
  | .typeAssert x _ t ok => cTas P ng x t ok
  | .call { callee := .builtin .len, args, argTypes } => cLen P ng argTypes args
  | .call { callee := .builtin .max, args, argTypes := _ } => (cOs ng args.toList).map .mx
  | .call { callee := .builtin .min, args, argTypes := _ } => (cOs ng args.toList).map .mn
  | .call { callee := .value (.func f), args, argTypes := _ } => cExt P ng f args.toList
  | _ => none

/-- What soundness says of one operation that touches no memory. -/
def Pure1 [Env] (P : Program) (ρ : Ren) (o : Oper) (a : Act) (v : V) : Prop := ∃ x, conc ρ v = some x ∧ ∀ w, (execOp a.eval o).run P w = .ok (.value x) w

theorem zeroO_spec [Env] {t : TypeId} {l : List V} (h : zeroO P t = some l) : ∃ i z, P.info? t = some i ∧ i.zero = some z ∧ (∀ ρ, concs ρ l = some z.cells.toList) ∧ l.all V.one = true := by
  simp only [zeroO, Option.bind_eq_some_iff] at h
  obtain ⟨z, ⟨i, hi, hz⟩, k, hk, h⟩ := h
  split at h
  · rename_i h1
    cases h
    exact ⟨i, z, hi, hz, fun ρ => cVs_spec ρ _ _ hk, h1⟩
  · cases h

theorem cParts_spec [Env] {ng : Nat} {fr : Tr V} {a : Act} {place : Nat → Option (Nat × Nat)} (hg : Glob ng ρ) (hf : FrRel ρ fr a.tmps) :
    ∀ (ps : List (Nat × Operand)) (r : List (Nat × Nat × Opd)), cParts ng place ps = some r → PartRel ρ fr place r (ps.map fun p => (p.1, a.eval p.2))
  | [], r, h => by simp [cParts] at h; subst h; trivial
  | (i, x) :: ps, r, h => by
    simp only [cParts, Option.bind_eq_some_iff, Option.map_eq_some_iff] at h
    obtain ⟨p, hp, o, ho, r', hr, rfl⟩ := h
    exact ⟨hp, ev_spec hg hf ho, cParts_spec hg hf ps r' hr⟩

theorem build_spec [Env] {ng : Nat} {fr : Tr V} {a : Act} {t : TypeId} {ps : Array (Nat × Operand)} {i : PI} {v : V} (hg : Glob ng ρ) (hf : FrRel ρ fr a.tmps)
    (hc : cBuild P ng t ps.toList = some i) (hv : puI fr i = some v) :
    ∃ x, conc ρ v = some x ∧ ∀ w, (Instr.build t (ps.map fun (i, x) => (i, a.eval x))).run P w = .ok x w := by
  simp only [cBuild, Option.bind_eq_some_iff] at hc
  obtain ⟨z, hz, hc⟩ := hc
  obtain ⟨it, zv, hi, hzv, hcz, h1⟩ := zeroO_spec hz
  have hlist : (ps.map fun (i, x) => (i, a.eval x)).toList = ps.toList.map fun p => (p.1, a.eval p.2) := by simp
  split at hc
  · rename_i fs hu
    simp only [Option.bind_eq_some_iff, Option.map_eq_some_iff] at hc
    obtain ⟨pl, hpl, r, hr, rfl⟩ := hc
    simp only [puI, Option.map_eq_some_iff] at hv
    obtain ⟨l, hl, rfl⟩ := hv
    obtain ⟨cs, f1, f2, f3⟩ := fill_spec r _ z l zv.cells (cParts_spec hg hf _ _ hr) hl (hcz ρ) h1
    refine ⟨.agg cs, by simp [conc, f3, f2], fun w => ?_⟩
    refine run_build w t _ cs ?_
    have hpl' : fs.toList.mapM (fun f => (P.info? f.type).map fun i => (f.offset, i.size)) = some pl := hpl
    simp only [Program.built, hi, hu, hzv, hpl', hlist]
    exact f1
  · rename_i n e hu
    simp only [Option.bind_eq_some_iff, Option.map_eq_some_iff] at hc
    obtain ⟨s, hs, r, hr, rfl⟩ := hc
    simp only [puI, Option.map_eq_some_iff] at hv
    obtain ⟨l, hl, rfl⟩ := hv
    obtain ⟨cs, f1, f2, f3⟩ := fill_spec r _ z l zv.cells (cParts_spec hg hf _ _ hr) hl (hcz ρ) h1
    refine ⟨.agg cs, by simp [conc, f3, f2], fun w => ?_⟩
    refine run_build w t _ cs ?_
    simp only [szO, Option.map_eq_some_iff] at hs
    obtain ⟨ie, hie, rfl⟩ := hs
    simp only [Program.built, hi, hu, hzv, hie, hlist]
    exact f1
  · cases hc

theorem info_types {t : TypeId} {i : TypeInfo} (h : P.types.toList[t]? = some i) : P.info? t = some i := by
  have h' : P.types[t]? = some i := by simpa using h
  have hlt : t < P.types.size := (Array.getElem?_eq_some_iff.1 h').1
  show P.toTables.info? t = some i
  unfold Tables.info?
  rw [if_pos hlt]
  exact h'

theorem tagOf_rows : ∀ (l : List TypeInfo) (t0 t g : Nat), tagOf t (cmpRows P l t0) = some g → ∃ i, t0 ≤ t ∧ l[t - t0]? = some i ∧ i.comparable = true ∧ plainT P 1 t = some [g]
  | [], _, _, _, h => by simp [cmpRows, tagOf] at h
  | i :: l, t0, t, g, h => by
    have rest : tagOf t (cmpRows P l (t0 + 1)) = some g → ∃ i', t0 ≤ t ∧ (i :: l)[t - t0]? = some i' ∧ i'.comparable = true ∧ plainT P 1 t = some [g] := by
      intro h
      obtain ⟨i', a, b, c⟩ := tagOf_rows l (t0 + 1) t g h
      refine ⟨i', by omega, ?_, c⟩
      rw [show t - t0 = (t - (t0 + 1)) + 1 by omega]
      simpa using b
    simp only [cmpRows] at h
    split at h
    · rename_i g' hcm hpl
      simp only [tagOf] at h
      cases hb : Nat.beq t0 t with
      | true =>
        have hb := Nat.eq_of_beq_eq_true hb
        subst hb
        simp only [Nat.beq_refl, cond_true, Option.some.injEq] at h
        subst h
        exact ⟨i, Nat.le_refl _, by simp, hcm, hpl⟩
      | false =>
        simp only [hb, cond_false] at h
        exact rest h
    · exact rest h

theorem eqF_spec [Env] {t : TypeId} {ms : Array (String × TypeId)} {op : BinOp} {x y : Operand} {u v : V} {a b : Value} {r : Bool} (hu : P.underlying t = some (.interface ms)) (h : eqF (cmpRows P P.types.toList 0) u v = some r)
    (ha : conc ρ u = some a) (hb : conc ρ v = some b) (w : World) : (Op.equal t a b).run P w = .ok r w ∧ (eqGuard op t x y a b).run P w = .ok () w ∧ plainVal a = true := by
  have nil : eqV 8 u v = some r → (Op.equal t a b).run P w = .ok r w := by
    intro h
    have := eqV_spec (P := P) (c := false) (dd := 9999) (d := .interface ms) hu h ha hb w
    unfold Op.equal Op.maxDepth; exact this
  have g1 : ∀ tt vv q, (eqGuard op t x y (.iface tt vv) q).run P w = .ok () w := by
    intro tt vv q
    unfold eqGuard
    cases op <;> simp
  have g2 : ∀ tt vv, (eqGuard op t x y .nilIface (.iface tt vv)).run P w = .ok () w := by
    intro tt vv
    unfold eqGuard
    cases op <;> simp
  cases u <;> simp only [eqF] at h <;> try (cases h; done)
  case i0 =>
    cases v <;> simp only [] at h <;> try (cases h; done)
    obtain ⟨q, _, rfl⟩ := conc_ifc hb
    simp [conc] at ha; subst ha
    exact ⟨nil (by simpa [eqV] using h), g2 _ _, rfl⟩
  case ifc tx vx =>
    obtain ⟨p, hp, rfl⟩ := conc_ifc ha
    cases v <;> simp only [] at h <;> try (cases h; done)
    case i0 =>
      simp [conc] at hb; subst hb
      exact ⟨nil (by simpa [eqV] using h), g1 _ _ _, rfl⟩
    case ifc ty vy =>
      obtain ⟨q, hq, rfl⟩ := conc_ifc hb
      refine ⟨?_, g1 _ _ _, rfl⟩
      unfold Op.equal Op.maxDepth
      suffices hs : ∀ dd, (Op.equalIn (dd + 2) t (.iface tx p) (.iface ty q)).run P w = .ok r w from hs 9998
      intro dd
      cases hbe : Nat.beq tx ty with
      | false =>
        simp only [hbe, cond_false, Option.some.injEq] at h
        subst h
        have hne : tx ≠ ty := by intro e; subst e; simp at hbe
        simp [Op.equalIn, run_under hu, hne]
      | true =>
        have hbe' := Nat.eq_of_beq_eq_true hbe
        subst hbe'
        simp only [hbe, cond_true] at h
        split at h
        · rename_i g hg
          obtain ⟨i, _, hi, hcm, hpl⟩ := tagOf_rows (P := P) P.types.toList 0 tx g hg
          have hi := info_types (P := P) (by simpa using hi)
          have htag : (g = 0 ∧ P.underlying tx = some .bool) ∨ (g = 1 ∧ ∃ k, P.underlying tx = some (.int k)) ∨ (g = 2 ∧ P.underlying tx = some .string) := by
            simp only [plainT] at hpl
            cases hd : P.underlying tx with
            | none => simp [hd] at hpl
            | some dd =>
              simp only [hd] at hpl
              cases dd <;> simp at hpl
              · exact .inl ⟨hpl.symm, rfl⟩
              · exact .inr (.inl ⟨hpl.symm, _, rfl⟩)
              · exact .inr (.inr ⟨hpl.symm, rfl⟩)
              · rename_i fs
                obtain ⟨_, hpl⟩ := hpl
                exfalso
                cases hf : fs.toList with
                | nil => simp [hf, plainF] at hpl
                | cons f fl =>
                  simp only [hf, plainF] at hpl
                  split at hpl
                  · cases hpl
                  · simp [plainT] at hpl
          have hE := eqC_spec (P := P) (dd := dd) h hp hq htag w
          rw [Op.equalIn]
          simp only [run_under hu, Sem.run_bind, Result.andThen_ok, ne_eq, not_true, if_false, typeInfo, run_program, hi, Sem.run_pure, hcm, Bool.not_true, Bool.false_eq_true]
          exact hE
        · cases h

theorem bin_spec [Env] {ng : Nat} {fr : Tr V} {a : Act} {op : BinOp} {t : TypeId} {x y : Operand} {i : PI} {v : V} (hg : Glob ng ρ) (hf : FrRel ρ fr a.tmps)
    (hc : cBin P ng op t x y = some i) (hv : puI fr i = some v) :
    ∃ u, conc ρ v = some u ∧ ∀ w, (do eqGuard op t x y (a.eval x) (a.eval y); binOp op t (a.eval x) (a.eval y) : Sem Value).run P w = .ok u w := by
  simp only [cBin, Option.bind_eq_some_iff] at hc
  obtain ⟨d, hd, x', hx, y', hy, hc⟩ := hc
  have ex := ev_spec hg hf hx
  have ey := ev_spec hg hf hy
  have plain : i = .bin op (eqKind (isC x || isC y) d) x' y' → ∃ u, conc ρ v = some u ∧ ∀ w, (do eqGuard op t x y (a.eval x) (a.eval y); binOp op t (a.eval x) (a.eval y) : Sem Value).run P w = .ok u w := by
    rintro rfl
    simp only [puI] at hv
    obtain ⟨u, hu, hrun⟩ := binV_spec hd hv ex ey
    refine ⟨u, hu, fun w => ?_⟩
    have hq : (eqGuard op t x y (a.eval x) (a.eval y)).run P w = .ok () w := by
      by_cases hint : (∃ j n, ev fr x' = .i j n) ∨ (∃ l, ev fr x' = .s l) ∨ ∃ j c lo hi, ev fr x' = .y j c lo hi
      · have : (∃ k n, a.eval x = .int k n) ∨ ∃ s, a.eval x = .string s := by
          rcases hint with ⟨j, n, h⟩ | ⟨l, h⟩ | ⟨j, c, lo, hi, h⟩
          · rw [h] at ex; simp [conc] at ex; exact .inl ⟨_, _, ex.symm⟩
          · rw [h] at ex; obtain ⟨_, e⟩ := conc_s ex; exact .inr ⟨_, e⟩
          · rw [h] at ex; exact .inl ⟨_, _, (yV_spec ex).1⟩
        unfold eqGuard
        rcases this with ⟨k, n, h⟩ | ⟨s, h⟩ <;> rw [h] <;> cases op <;> simp
      · have hb : binE op (eqKind (isC x || isC y) d) (ev fr x') (ev fr y') = some v := by
          unfold binV at hv
          split at hv
          · rename_i h; exact absurd (.inl ⟨_, _, h⟩) hint
          · rename_i h; exact absurd (.inr (.inr ⟨_, _, _, _, h⟩)) hint
          · rename_i h; exact absurd (.inr (.inl ⟨_, h⟩)) hint
          · exact hv
        unfold binE at hb
        cases op <;> simp only [Option.map_eq_some_iff] at hb <;> try (cases hb; done)
        · obtain ⟨r, hr, _⟩ := hb
          exact eqGuard_ok rfl hr ex ey w
        · obtain ⟨r, hr, _⟩ := hb
          exact eqGuard_ok rfl hr ex ey w
    simp [hq, hrun w]
  cases d
  case struct fs =>
    simp only [Option.bind_eq_some_iff] at hc
    obtain ⟨neg, hneg, hc⟩ := hc
    split at hc
    · cases hc
    · rename_i hguard
      simp only [Option.map_eq_some_iff] at hc
      obtain ⟨ts, hts, rfl⟩ := hc
      simp only [puI] at hv
      cases he : eqS ts (ev fr x') (ev fr y') with
      | none => simp [he] at hv
      | some r =>
        simp only [he, Option.some.injEq] at hv
        subst hv
        unfold eqS at he
        split at he
        · rename_i l hl
          split at he
          · rename_i k hk
            rw [hl] at ex; rw [hk] at ey
            obtain ⟨xs, _, hxs, e1⟩ := conc_a ex
            obtain ⟨ys, _, hys, e2⟩ := conc_a ey
            cases h3 : len3 ts l k with
            | false => simp [h3] at he
            | true =>
              simp only [h3, cond_true] at he
              obtain ⟨l1, l2⟩ := len3_spec h3
              have hag : aggO P t = some true := by rw [aggO_of hd]; rfl
              have hr := fun w => eq_plain (P := P) 20 t ts hts 10000 (by omega) l k xs ys (.agg xs.toArray) (.agg ys.toArray) r l1 l2 hxs hys
                ⟨fun _ => rfl, fun h => by rw [hag] at h; cases h⟩ ⟨fun _ => rfl, fun h => by rw [hag] at h; cases h⟩ he w
              have hg0 : P.eqGuardType P.depth t = false := by simpa using hguard
              rw [e1, e2]
              cases op <;> simp [isEq] at hneg <;> subst hneg
              · refine ⟨_, rfl, fun w => ?_⟩
                simp only [Sem.run_bind, run_eqGuard_agg (P := P) w .eql t x y _ _ hg0, Result.andThen_ok, run_eql_struct, hr w]
                cases r <;> rfl
              · refine ⟨_, rfl, fun w => ?_⟩
                simp only [Sem.run_bind, run_eqGuard_agg (P := P) w .neq t x y _ _ hg0, Result.andThen_ok, run_neq_struct, hr w]
                cases r <;> rfl
          · cases he
        · cases he
  case interface ms =>
    simp only [] at hc
    split at hc
    · rename_i neg hcc hneg
      cases hc
      simp only [puI] at hv
      split at hv
      · rename_i r he
        cases hv
        refine ⟨_, rfl, fun w => ?_⟩
        obtain ⟨e1, e2, e3⟩ := eqF_spec (P := P) (op := op) (x := x) (y := y) hd he ex ey w
        simp only [Sem.run_bind, e2, Result.andThen_ok]
        cases op <;> simp [isEq] at hneg <;> subst hneg
        · rw [binOp_eql_other e3]; simp [e1]
        · rw [binOp_neq_other e3]; simp [e1]
      · cases hv
    · rename_i c _ hcc
      simp only [Option.some.injEq] at hc
      exact plain (by rw [← hc])
  all_goals
    simp only [Option.some.injEq] at hc
    exact plain hc.symm

end
end Go.Eng
