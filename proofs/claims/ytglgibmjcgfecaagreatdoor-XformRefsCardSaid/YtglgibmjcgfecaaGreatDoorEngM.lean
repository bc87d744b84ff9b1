/- The evaluator: a machine for the model's code that the kernel can run, proved sound. -/
import Derived.Test.YtglgibmjcgfecaaGreatDoorEngL
import Derived.Laws.BytesString
import Derived.Maps.RangeRun
set_option linter.unusedSimpArgs false
set_option linter.unusedVariables false
namespace Go.Eng

/-- Operations that read memory and change nothing. -/
inductive RI where
  | load (agg : Bool) (n : Nat) (x : Opd)
  | slArr (n es : Nat) (x : Opd) (lo hi mx : Option Opd)
  | b2s (x : Opd)
  | lenM (x : Opd)
  | look (agg : Bool) (ts : List Nat) (zero : V) (ok : Bool) (x k : Opd)
  | ent (x : Opd)
  | glob (g : Nat)
  | globI (c g : Nat)
  | ixs (c : Nat) (x y : Opd)

noncomputable def loadV (h : H) (agg : Bool) (n : Nat) (x : V) : Option V :=
  match x with
  | .p b o => match loadC h b o n with
    | some l => pick1 agg l
    | none => none
  | _ => none

noncomputable def slArrH (h : H) (n es : Nat) (x : V) (lo hi : Option Nat) (mx : Option (Option Nat)) : Option V :=
  match x with
  | .p b off => match obCells (h.get b) with
    | some l => cond (Nat.ble (off + n * es) l.length) (slArrV n es (.p b off) lo hi mx) none
    | none => none
  | _ => none

/-- Bytes of cells. -/
def bytesOf : List V → Option (List Nat)
  | [] => some []
  | x :: l => match x with
    | .i .u8 (.ofNat n) => cond (Nat.blt n 256) (match bytesOf l with | some r => some (n :: r) | none => none) none
    | _ => none

noncomputable def b2sV (h : H) (x : V) : Option V :=
  match x with
  | .sl0 => some (.s [])
  | .sl b o n _ _ es => cond (Nat.beq es 1) (match loadC h b o n with
    | some l => (match bytesOf l with | some r => some (.s r) | none => none)
    | none => none) none
  | _ => none

noncomputable def lenMV (h : H) (x : V) : Option V :=
  match x with
  | .m0 => some (.i .i64 (.ofNat 0))
  | .m b => match h.get b with
    | .m es _ => some (.i .i64 (.ofNat es.length))
    | _ => none
  | _ => none

def lookRes (ok : Bool) (zero : V) (r : Option (Option (Nat × V × Nat))) : Option V :=
  match r with
  | none => none
  | some none => some (cond ok (.t [zero, .b false]) zero)
  | some (some (_, v, _)) => some (cond ok (.t [v, .b true]) v)

noncomputable def lookOb (agg : Bool) (ts : List Nat) (zero : V) (ok : Bool) (k : V) (o : Ob) : Option V :=
  match o with
  | .m es _ => lookRes ok zero (findE agg ts k es 0)
  | _ => none

noncomputable def lookV (h : H) (agg : Bool) (ts : List Nat) (zero : V) (ok : Bool) (x k : V) : Option V :=
  cond (keyOk agg ts k) (match x with
    | .m0 => lookRes ok zero (some none)
    | .m b => lookOb agg ts zero ok k (h.get b)
    | _ => none) none

/-- The entry of a stamp. -/
def entE (s : Nat) : List (V × V × Nat) → Option (V × V)
  | [] => none
  | (k, v, b) :: l => cond (Nat.beq b s) (some (k, v)) (entE s l)

noncomputable def entOb (s last : Nat) (o : Ob) : Option V :=
  match o with
  | .m es clock => cond (Nat.beq clock last) (match entE s es with | some (k, v) => some (.t [k, v]) | none => none) none
  | _ => none

noncomputable def entIt (h : H) (o : Ob) : Option V :=
  match o with
  | .it mp _ seen last => (match mp with
    | some m => (match seen with | s :: _ => entOb s last (h.get m) | [] => none)
    | none => none)
  | _ => none

noncomputable def entV (h : H) (x : V) : Option V :=
  match x with
  | .p b o => cond (Nat.beq o 0) (entIt h (h.get b)) none
  | _ => none

def globIV (c g : Nat) : V :=
  match c with
  | 2 => .i .i64 (.ofNat 3)
  | c => .oi g c

/-- Do some bytes begin a list? -/
def begL : List Nat → List Nat → Bool
  | [], _ => true
  | a :: x, l => match l with
    | b :: y => cond (Nat.beq a b) (begL x y) false
    | [] => false

/-- Where bytes stand first. -/
def ixsL (sub : List Nat) : List Nat → Nat → Int
  | [], _ => .negSucc 0
  | b :: l, k => cond (begL sub (b :: l)) (.ofNat k) (ixsL sub l (k + 1))

def ixsV (c : Nat) (x y : V) : Option V :=
  match x with
  | .s a => (match y with
    | .s b => cond (Nat.ble 2 b.length) (cond (Nat.ble b.length (cond (Nat.beq c 2) 3 4)) (cond (Nat.blt a.length 4294967281) (some (.i .i64 (ixsL b a 0))) none) none) none
    | _ => none)
  | _ => none

noncomputable def rdI (fr : Tr V) (h : H) (i : RI) : Option V :=
  match i with
  | .load agg n x => loadV h agg n (ev fr x)
  | .slArr n es x lo hi mx => slArrH h n es (ev fr x) (bnd fr 0 lo) (bnd fr n hi) (mxO fr mx none)
  | .b2s x => b2sV h (ev fr x)
  | .lenM x => lenMV h (ev fr x)
  | .look agg ts z ok x k => lookV h agg ts z ok (ev fr x) (ev fr k)
  | .ent x => entV h (ev fr x)
  | .glob g => some (.o g)
  | .globI c g => some (globIV c g)
  | .ixs c x y => ixsV c (ev fr x) (ev fr y)

def cLook (P : Program) (ng : Nat) (t : TypeId) (x k : Operand) (ok : Bool) : Option RI :=
  match P.underlying t with
  | some (.map kt e) => (keyC P kt).bind fun a => (((P.info? e).bind (·.zero)).bind cV).bind fun z => (cO ng x).bind fun x => (cO ng k).map fun k => .look a.1 a.2 z ok x k
  | _ => none

def cLenM (P : Program) (ng : Nat) (ts : List TypeId) (args : List Operand) : Option RI :=
  match ts, args with
  | [t], [x] => match P.underlying t with
    | some (.map _ _) => (cO ng x).map .lenM
    | _ => none
  | _, _ => none

def isI64 (P : Program) (t : TypeId) : Bool := match P.underlying t with | some (.int .i64) => true | _ => false

def cGlob (P : Program) (ng : Nat) (t : TypeId) (g : Nat) : Option RI :=
  if (mxC ng != 0 && g == mxG ng) && isI64 P t then some (.globI (mxC ng) g) else if Nat.blt g 64 && Nat.testBit ng g then some (.glob g) else none

def cIxs (P : Program) (ng : Nat) (f : FuncId) (args : List Operand) : Option RI :=
  match P.funcs[f]?, args with
  | some fn, [x, y] => if isExt fn "internal/bytealg.IndexString" && (Nat.ble 2 (mxC ng) && (P.globals.findIdx? (·.name == "internal/bytealg.MaxLen") == some (mxG ng))) then (cO ng x).bind fun x => (cO ng y).map fun y => .ixs (mxC ng) x y else none
  | _, _ => none

def cR (P : Program) (ng : Nat) (o : Oper) : Option RI :=
  match o.op with
  | .load t (.global g) => match aggO P t with
    | some false => cGlob P ng t g
    | _ => none
  | .load t x => (aggO P t).bind fun a => (szO P t).bind fun n => (cO ng x).map fun x => .load a n x
  | .slice t x lo hi mx => match P.underlying t with
    | some (.array n e) => (szO P e).bind fun s => if s = 0 ∨ mx.isSome = true then none else
        (cO ng x).bind fun x' => (cOo ng lo).bind fun lo' => (cOo ng hi).bind fun hi' => some (.slArr n s x' lo' hi' none)
    | _ => none
  | .convert s d x => match P.underlying s, P.underlying d with
    | some (.slice e), some .string => (match P.underlying e with | some (.int .u8) => (cO ng x).map .b2s | _ => none)
    | _, _ => none
  | .lookup t x k ok => cLook P ng t x k ok
  | .entry x => (cO ng x).map .ent
  | .call { callee := .builtin .len, args, argTypes } => cLenM P ng argTypes.toList args.toList
  | .call { callee := .value (.func f), args, argTypes := _ } => cIxs P ng f args.toList
  | _ => none

section
variable {P : Program} {ρ : Ren} {ng : Nat} {fr : Tr V} {a : Act} {h : H} {w : World}

def notCells : Obj → Bool
  | .cells _ _ _ => false
  | _ => true

theorem run_getObj_of {P : Program} {w : World} {r : Nat} {o : Obj} (hb : w.heap[r]? = some o) (ho : notCells o = true := by rfl) : (getObj r).run P w = .ok o w := by
  simp only [getObj, Sem.run, hb]
  cases o <;> first | (simp [notCells] at ho; done) | rfl

theorem map_spec [Env] {b : Path} {es : List (V × V × Nat)} {clock : Nat} {u : Value} (hr : HRel ρ h w) (hg : h.get b = .m es clock) (hx : conc ρ (.m b) = some u) :
    ∃ x L, ρ b = some x ∧ u = .map (some x.1) ∧ w.heap[x.1]? = some (.map L.toArray clock) ∧ EntRel ρ es L := by
  obtain ⟨x, hxb, rfl⟩ := conc_m hx
  obtain ⟨y, hy, ho⟩ := hr.ob b (by simp [hg, Ob.live])
  rw [hxb] at hy; cases hy
  rw [hg] at ho
  obtain ⟨L, h1, h2⟩ := ho
  exact ⟨x, L, hxb, rfl, h1, h2⟩

theorem lenM_spec [Env] {t kt e : TypeId} {x v : V} {u : Value} {ty : TypeId} (hu : P.underlying t = some (.map kt e)) (hr : HRel ρ h w) (hv : lenMV h x = some v) (hx : conc ρ x = some u) :
    ∃ y, conc ρ v = some y ∧ (Builtin.len_ #[t] ty #[u]).run P w = .ok y w := by
  unfold lenMV at hv
  split at hv
  · cases hv
    simp [conc] at hx; subst hx
    exact ⟨_, rfl, by simp [Builtin.len_, run_under hu, goInt]⟩
  · rename_i b
    split at hv
    · rename_i es clock hg
      cases hv
      obtain ⟨y, L, _, rfl, h1, h2⟩ := map_spec hr hg hx
      refine ⟨_, rfl, ?_⟩
      have := EntRel.length h2
      simp [Builtin.len_, run_under hu, run_getObj_of h1, goInt, this]
    · cases hv
  · cases hv

theorem look_spec [Env] {t : TypeId} {kt e : TypeId} {inf : TypeInfo} {zv : Value} {agg : Bool} {ts : List Nat} {zero : V} {ok : Bool} {x k v : V} {u kv : Value} (hu : P.underlying t = some (.map kt e)) (hk : keyC P kt = some (agg, ts))
    (hi : P.info? e = some inf) (hz : inf.zero = some zv) (hcz : conc ρ zero = some zv) (hr : HRel ρ h w) (hv : lookV h agg ts zero ok x k = some v) (hx : conc ρ x = some u) (hkv : conc ρ k = some kv) :
    ∃ y, conc ρ v = some y ∧ (Instr.lookup t u kv ok).run P w = .ok y w := by
  unfold lookV at hv
  cases hko : keyOk agg ts k with
  | false => simp [hko] at hv
  | true =>
    simp only [hko, cond_true] at hv
    have hzr : ∀ w, (zeroValue e).run P w = .ok zv w := fun w => by simp [zeroValue, typeInfo, hi, hz]
    have fin : ∀ (es : List (V × V × Nat)) (L : List MapEntry) (r : Option (Option (Nat × V × Nat))), EntRel ρ es L → r = findE agg ts k es 0 → lookRes ok zero r = some v →
        ∃ y, conc ρ v = some y ∧ (do
          Instr.checkKey L.toArray.isEmpty 10000 kt kv
          let (v, ok') ← match ← Instr.findKey kt kv L.toArray.toList with
            | some (_, v) => pure (v, true)
            | none => pure (← zeroValue e, false)
          pure (if ok then .tuple #[v, .bool ok'] else v) : Sem Value).run P w = .ok y w := by
      intro es L r he hr hl
      have hck := fun em => keyOk_check (P := P) hk hko hkv em w
      cases r with
      | none => simp [lookRes] at hl
      | some r =>
        obtain ⟨f1, f2⟩ := findKey_spec (P := P) hk hkv he hr.symm w
        cases r with
        | none =>
          simp only [lookRes, Option.some.injEq] at hl
          subst hl
          cases ok with
          | false => exact ⟨zv, hcz, by simp [hck, f1 rfl, hzr]⟩
          | true => exact ⟨.tuple #[zv, .bool false], by simp [conc, concs, hcz], by simp [hck, f1 rfl, hzr]⟩
        | some q =>
          obtain ⟨j, v', b⟩ := q
          simp only [lookRes, Option.some.injEq] at hl
          subst hl
          obtain ⟨_, y, hy, hrun⟩ := f2 j v' b rfl
          cases ok with
          | false => exact ⟨y, hy, by simp [hck, hrun]⟩
          | true => exact ⟨.tuple #[y, .bool true], by simp [conc, concs, hy], by simp [hck, hrun]⟩
    split at hv
    · simp [conc] at hx; subst hx
      obtain ⟨y, hy, hrun⟩ := fin [] [] (some none) trivial rfl hv
      refine ⟨y, hy, ?_⟩
      simp only [Instr.lookup, Sem.run_bind, run_under hu, Result.andThen_ok, Sem.run_pure] at hrun ⊢
      exact hrun
    · rename_i b
      unfold lookOb at hv
      split at hv
      · rename_i es clock hg
        obtain ⟨y, L, _, rfl, h1, h2⟩ := map_spec hr hg hx
        obtain ⟨y, hy, hrun⟩ := fin es L _ h2 rfl hv
        refine ⟨y, hy, ?_⟩
        simp only [Instr.lookup, Sem.run_bind, run_under hu, Result.andThen_ok, run_getObj_of h1, Sem.run_pure] at hrun ⊢
        exact hrun
      · cases hv
    · cases hv

theorem entE_spec [Env] (s : Nat) : ∀ {es : List (V × V × Nat)} {L : List MapEntry} {k v : V}, EntRel ρ es L → entE s es = some (k, v) → ∃ e, L.find? (·.born == s) = some e ∧ conc ρ k = some e.key ∧ conc ρ v = some e.val
  | [], _, _, _, _, h => by simp [entE] at h
  | _ :: _, [], _, _, e, _ => e.elim
  | (k', v', b) :: es, e :: L, k, v, ⟨h1, h2, h3, h4⟩, h => by
    simp only [entE] at h
    cases hb : Nat.beq b s with
    | true =>
      simp only [hb, cond_true, Option.some.injEq, Prod.mk.injEq] at h
      obtain ⟨rfl, rfl⟩ := h
      refine ⟨e, ?_, h1, h2⟩
      have := Nat.eq_of_beq_eq_true hb
      simp [List.find?, h3, this]
    | false =>
      simp only [hb, cond_false] at h
      obtain ⟨e', g1, g2⟩ := entE_spec s h4 h
      refine ⟨e', ?_, g2⟩
      have : (e.born == s) = false := by
        rw [h3]
        cases hq : (b == s) with
        | false => rfl
        | true => rw [beq_iff_eq] at hq; subst hq; simp at hb
      simp [List.find?, this, g1]

theorem it_spec [Env] {b : Path} {mp : Option Path} {since last : Nat} {seen : List Nat} (hr : HRel ρ h w) (hg : h.get b = .it mp since seen last) :
    ∃ x, ρ b = some x ∧ (mp = none → w.heap[x.1]? = some (.mapIter none since seen.reverse.toArray last)) ∧ ∀ p, mp = some p → ∃ y, ρ p = some y ∧ w.heap[x.1]? = some (.mapIter (some y.1) since seen.reverse.toArray last) := by
  obtain ⟨x, hx, ho⟩ := hr.ob b (by simp [hg, Ob.live])
  rw [hg] at ho
  refine ⟨x, hx, ?_, ?_⟩
  · rintro rfl; exact ho
  · rintro p rfl; exact ho

theorem ent_spec [Env] {x v : V} {u : Value} (hr : HRel ρ h w) (hv : entV h x = some v) (hx : conc ρ x = some u) : ∃ y, conc ρ v = some y ∧ (Instr.entry u).run P w = .ok y w := by
  unfold entV at hv
  split at hv
  · rename_i b o
    cases ho : Nat.beq o 0 with
    | false => simp [ho] at hv
    | true =>
      have := Nat.eq_of_beq_eq_true ho
      subst this
      simp only [ho, cond_true] at hv
      unfold entIt at hv
      split at hv
      · rename_i mp since seen last hg
        split at hv
        · rename_i m
          split at hv
          · rename_i s seen'
            unfold entOb at hv
            split at hv
            · rename_i es clock hgm
              cases hc : Nat.beq clock last with
              | false => simp [hc] at hv
              | true =>
                simp only [hc, cond_true] at hv
                split at hv
                · rename_i k v' he
                  cases hv
                  obtain ⟨q, hq, rfl⟩ := conc_p hx
                  obtain ⟨x2, hx2, _, g2⟩ := it_spec hr hg
                  rw [hq] at hx2; cases hx2
                  obtain ⟨y, hy, h1⟩ := g2 m rfl
                  obtain ⟨y2, L, hy2, _, h2, h3⟩ := map_spec hr hgm (show conc ρ (.m m) = some (.map (some y.1)) by simp [conc, hy])
                  rw [hy] at hy2; cases hy2
                  obtain ⟨e, e1, e2, e3⟩ := entE_spec s h3 he
                  have hcl := Nat.eq_of_beq_eq_true hc
                  subst hcl
                  refine ⟨.tuple #[e.key, e.val], by simp [conc, concs, e2, e3], ?_⟩
                  simp only [Instr.entry, Sem.run_bind, run_getObj_of h1, Result.andThen_ok]
                  have hbk : (s :: seen').reverse.toArray.back? = some s := by simp [Array.back?]
                  simp only [hbk, Sem.run_bind, run_getObj_of h2, Result.andThen_ok, bne_self_eq_false, Bool.false_eq_true, if_false]
                  have hf : L.toArray.find? (·.born == s) = some e := by simpa using e1
                  simp only [hf]
                  rfl
                · cases hv
            · cases hv
          · cases hv
        · cases hv
      · cases hv
  · cases hv

theorem load_spec [Env] {t : TypeId} {agg : Bool} {n : Nat} {x v : V} {u : Value} (hr : HRel ρ h w) (hv : loadV h agg n x = some v) (hx : conc ρ x = some u) (hag : aggO P t = some agg) (hsz : szO P t = some n) :
    ∃ y, conc ρ v = some y ∧ (Instr.loadAt t u).run P w = .ok y w := by
  unfold loadV at hv
  split at hv
  · rename_i b o
    obtain ⟨q, hq, rfl⟩ := conc_p hx
    split at hv
    · rename_i l hl
      obtain ⟨q', xs, hq', h1, h2, h3, h4⟩ := loadC_spec hr hl
      rw [hq] at hq'; cases hq'
      have hlen := concs_length h3
      cases agg with
      | true =>
        simp only [pick1, Option.some.injEq] at hv; subst hv
        refine ⟨.agg xs.toArray, by simp [conc, h2, h3], ?_⟩
        have := run_loadCells_list (P := P) w ⟨q.1, o, none⟩ xs (fun j v hj => by rw [add_none]; exact h4 j v hj)
        rw [show xs.length = n by omega] at this
        simp [Instr.loadAt, Instr.sureAddr, loadVar, run_aggO hag, run_szO hsz, this]
      | false =>
        cases l with
        | nil => simp [pick1] at hv
        | cons u l =>
          cases l with
          | cons _ _ => simp [pick1] at hv
          | nil =>
            simp only [pick1, Option.some.injEq] at hv; subst hv
            simp only [concs, Option.bind_eq_some_iff, Option.map_eq_some_iff] at h3
            obtain ⟨y, hy, ys, hys, rfl⟩ := h3
            have hc := h4 0 y rfl
            refine ⟨y, hy, ?_⟩
            simp only [Nat.add_zero] at hc
            simp [Instr.loadAt, Instr.sureAddr, loadVar, run_aggO hag, hc]
    · cases hv
  · cases hv

theorem bytesOf_spec [Env] : ∀ {l : List V} {r : List Nat} {xs : List Value}, bytesOf l = some r → concs ρ l = some xs → r.all byteOk = true ∧ xs = r.map (fun n : Nat => Value.int .u8 (Int.ofNat n))
  | [], r, xs, h, hx => by simp [bytesOf] at h; subst h; simp [concs] at hx; subst hx; exact ⟨rfl, rfl⟩
  | x :: l, r, xs, h, hx => by
    simp only [bytesOf] at h
    split at h
    · rename_i n
      cases hb : Nat.blt n 256 with
      | false => simp [hb] at h
      | true =>
        simp only [hb, cond_true] at h
        split at h
        · rename_i r' hr'
          cases h
          simp only [concs, Option.bind_eq_some_iff, Option.map_eq_some_iff] at hx
          obtain ⟨y, hy, ys, hys, rfl⟩ := hx
          obtain ⟨h1, h2⟩ := bytesOf_spec hr' hys
          simp [conc] at hy; subst hy
          exact ⟨by rw [List.all_cons, h1]; simp only [byteOk, hb]; rfl, by simp [h2]⟩
        · cases h
    · cases h

theorem foldl_push (ns : List Nat) : ∀ (s : ByteArray), (ns.map Int.ofNat).foldl (fun r n => r.push (UInt8.ofNat n.toNat)) s = ⟨⟨s.data.toList ++ ns.map UInt8.ofNat⟩⟩ := by
  induction ns with
  | nil => intro s; simp
  | cons n ns ih =>
    intro s
    simp only [List.map_cons, List.foldl_cons, ih]
    apply ByteArray.ext
    simp [ByteArray.push]

theorem b2s_spec [Env] {x v : V} {u : Value} (hr : HRel ρ h w) (hv : b2sV h x = some v) (hx : conc ρ x = some u) : ∃ y, conc ρ v = some y ∧ (Conv.bytesToString u).run P w = .ok y w := by
  unfold b2sV at hv
  split at hv
  · cases hv
    simp [conc] at hx; subst hx
    exact ⟨.string .empty, by simp [conc]; rfl, rfl⟩
  · rename_i b o n cap ex es
    obtain ⟨q, hq, _, _, _, rfl⟩ := conc_sl hx
    cases he : Nat.beq es 1 with
    | false => simp [he] at hv
    | true =>
      simp only [he, cond_true] at hv
      split at hv
      · rename_i l hl
        split at hv
        · rename_i r hb
          cases hv
          obtain ⟨q', xs, hq', h1, h2, h3, h4⟩ := loadC_spec hr hl
          rw [hq] at hq'; cases hq'
          obtain ⟨g1, g2⟩ := bytesOf_spec hb h3
          have hlen := concs_length h3
          refine ⟨.string ⟨(r.map UInt8.ofNat).toArray⟩, by simp only [conc, g1, if_true], ?_⟩
          have := run_loadCells_list (P := P) w ⟨q.1, o, none⟩ xs (fun j v hj => by rw [add_none]; exact h4 j v hj)
          rw [show xs.length = n by omega, g2] at this
          have h5 := run_bytesToString (P := P) w ⟨q.1, o, none⟩ n (capOf ex cap q.2 o es) (r.map Int.ofNat) (by rw [this]; simp [Function.comp_def])
          rw [h5, foldl_push]
          rfl
        · cases hv
      · cases hv
  · cases hv

def ClassZ (c : Nat) (z : Int) : Prop :=
  match c with
  | 0 => True
  | 1 => z ≤ 2
  | 2 => z = 3
  | _ => 4 ≤ z

/-- What is known of the one integer variable. -/
theorem fact_spec [Env] {c g : Nat} (h : FactOk c g) (hc : c ≠ 0) : ∃ z, Env.val g = some (.int .i64 z) ∧ ClassZ c z := by
  match c, h, hc with
  | 0, _, hc => exact absurd rfl hc
  | 1, ⟨z, h1, h2⟩, _ => exact ⟨z, h1, h2⟩
  | 2, h, _ => exact ⟨3, h, rfl⟩
  | _ + 3, ⟨z, h1, h2⟩, _ => exact ⟨z, h1, h2⟩

theorem class_low {c : Nat} {m : Int} (h : ClassZ c m) (h2 : 2 ≤ c) : ((cond (Nat.beq c 2) 3 4 : Nat) : Int) ≤ m := by
  match c, h, h2 with
  | 0, _, h2 => omega
  | 1, _, h2 => omega
  | 2, h, _ => have h : m = 3 := h; rw [h]; decide
  | c + 3, h, _ =>
    have h : 4 ≤ m := h
    have e : Nat.beq (c + 3) 2 = false := by cases hq : Nat.beq (c + 3) 2 with | false => rfl | true => (have := Nat.eq_of_beq_eq_true hq; omega)
    rw [e]; exact h

theorem class_conc [Env] {g c : Nat} {z : Int} {ρ : Ren} (hz : Env.val g = some (.int .i64 z)) (hcl : ClassZ c z) (hc0 : c ≠ 0) : conc ρ (globIV c g) = some (.int .i64 z) := by
  match c, hcl, hc0 with
  | 0, _, h0 => exact absurd rfl h0
  | 1, hcl, _ =>
    show (Env.val g).bind (oiV 1) = _
    rw [hz]
    exact oiV_mk (by unfold inC; rw [if_pos rfl]; exact hcl)
  | 2, hcl, _ =>
    have : z = 3 := hcl
    rw [this]; rfl
  | c + 3, hcl, _ =>
    show (Env.val g).bind (oiV (c + 3)) = _
    rw [hz]
    exact oiV_mk (by unfold inC; rw [if_neg (by omega)]; exact hcl)

theorem begL_eq : ∀ (x l : List Nat), begL x l = eqL (l.take x.length) x
  | [], l => by cases l <;> rfl
  | a :: x, [] => rfl
  | a :: x, b :: l => by
    simp only [begL, List.length_cons, List.take_succ_cons, eqL, begL_eq x l]
    have : Nat.beq a b = Nat.beq b a := by rw [Bool.eq_iff_iff]; simp [Nat.beq_eq]; exact eq_comm
    rw [this]

theorem ixsL_spec (x : List Nat) (hx : x ≠ []) : ∀ (l : List Nat) (k : Nat), ixsL x l k = match (List.range (l.length + 1 - x.length)).find? (fun i => begL x (l.drop i)) with | some i => Int.ofNat (i + k) | none => -1
  | [], k => by
    have : 0 + 1 - x.length = 0 := by cases x with | nil => exact absurd rfl hx | cons _ _ => simp
    simp only [List.length_nil, this]
    rfl
  | b :: l, k => by
    simp only [ixsL, List.length_cons]
    by_cases hlen : x.length ≤ l.length + 1
    · have e : l.length + 1 + 1 - x.length = (l.length + 1 - x.length) + 1 := by omega
      rw [e, range_find]
      simp only [List.drop_zero]
      cases hb : begL x (b :: l) with
      | true => simp
      | false =>
        simp only [cond_false, Bool.false_eq_true, if_false, List.drop_succ_cons]
        rw [ixsL_spec x hx l (k + 1)]
        cases (List.range (l.length + 1 - x.length)).find? (fun i => begL x (l.drop i)) with
        | none => rfl
        | some i => show Int.ofNat (i + (k + 1)) = Int.ofNat (i + 1 + k); congr 1; omega
    · have e : l.length + 1 + 1 - x.length = 0 := by omega
      have hb : begL x (b :: l) = false := by
        rw [begL_eq]
        cases he : eqL ((b :: l).take x.length) x with
        | false => rfl
        | true =>
          have key : ∀ {p q : List Nat}, eqL p q = true → p.length = q.length := by
            intro p
            induction p with
            | nil => intro q h; cases q with | nil => rfl | cons _ _ => simp [eqL] at h
            | cons a p ih =>
              intro q h
              cases q with
              | nil => simp [eqL] at h
              | cons c q =>
                simp only [eqL] at h
                cases hh : Nat.beq a c <;> rw [hh] at h <;> simp only [cond_true, cond_false] at h
                · cases h
                · simp [ih h]
          have := key he
          simp at this
          omega
      rw [hb, cond_false, ixsL_spec x hx l (k + 1)]
      have e' : l.length + 1 - x.length = 0 := by omega
      rw [e, e']
      rfl

theorem ixs_spec [Env] {x y v : V} {u z : Value} (hg : Glob ng ρ) (hr : HRel ρ h w) (hc2 : Nat.ble 2 (mxC ng) = true) (hfind : P.globals.findIdx? (·.name == "internal/bytealg.MaxLen") = some (mxG ng))
    (hv : ixsV (mxC ng) x y = some v) (hx : conc ρ x = some u) (hy : conc ρ y = some z) : ∃ r, conc ρ v = some r ∧ (Extern.BytealgIndex.index #[u, z]).run P w = .ok r w := by
  have hc2 := Nat.le_of_ble_eq_true hc2
  obtain ⟨m, hm, hcl⟩ := fact_spec hg.2 (by omega)
  obtain ⟨⟨e, fz, hcell⟩, _⟩ := hr.keep _ _ hm
  have hce : w.cell? ⟨mxG ng, 0, none⟩ = some (.int .i64 m) := by simp [World.cell?, hcell]
  unfold ixsV at hv
  split at hv
  · rename_i a
    split at hv
    · rename_i b
      cases h1 : Nat.ble 2 b.length with
      | false => simp [h1] at hv
      | true =>
      cases h2 : Nat.ble b.length (cond (Nat.beq (mxC ng) 2) 3 4) with
      | false => simp [h1, h2] at hv
      | true =>
      cases h3 : Nat.blt a.length 4294967281 with
      | false => simp [h1, h2, h3] at hv
      | true =>
      simp only [h1, h2, h3, cond_true, Option.some.injEq] at hv
      subst hv
      have h1 := Nat.le_of_ble_eq_true h1
      have h2 := Nat.le_of_ble_eq_true h2
      have h3 : a.length < 4294967281 := by simpa [Nat.blt_eq] using h3
      obtain ⟨oa, rfl⟩ := conc_s hx
      obtain ⟨ob, rfl⟩ := conc_s hy
      have hbm : (b.length : Int) ≤ m := by
        have := class_low hcl hc2
        omega
      have sa : (ByteArray.mk (a.map UInt8.ofNat).toArray).size = a.length := by show ((a.map UInt8.ofNat).toArray).size = _; simp
      have sb : (ByteArray.mk (b.map UInt8.ofNat).toArray).size = b.length := by show ((b.map UInt8.ofNat).toArray).size = _; simp
      refine ⟨.int .i64 (ixsL b a 0), rfl, ?_⟩
      have hml : (Extern.BytealgIndex.maxLen).run P w = .ok m w := by
        unfold Extern.BytealgIndex.maxLen globalAddr
        simp only [Sem.run_bind, run_program, Result.andThen_ok, hfind, Sem.run_pure]
        simp [hce, asInt, asIntOf]
      have hidx : ∀ p q : Value, Extern.BytealgIndex.index #[p, q] = (do
          let a ← Extern.Bytes.bytesOf p
          let b ← Extern.Bytes.bytesOf q
          if b.size < 2 || (b.size : Int) > (← Extern.BytealgIndex.maxLen) then
            unsupported (.noEntry "extern/internal/bytealg.Index.length")
          if a.size ≥ 2 ^ 32 - 15 then
            unsupported (.noEntry "extern/internal/bytealg.Index: a haystack of 2^32 - 15 bytes or more")
          match (List.range (a.size + 1 - b.size)).find? fun i => a.extract i (i + b.size) == b with
          | some i => pure (goInt i)
          | none => pure (goInt (-1))) := fun _ _ => rfl
      rw [hidx]
      simp only [Extern.Bytes.bytesOf, Sem.run_bind, Sem.run_pure, Result.andThen_ok, sa, sb, hml]
      rw [if_neg (by simp; omega)]
      try simp only [Sem.run_pure, Result.andThen_ok]
      rw [if_neg (by omega)]
      try simp only [Sem.run_pure, Result.andThen_ok]
      have hp : ∀ i, ((ByteArray.mk (a.map UInt8.ofNat).toArray).extract i (i + b.length) == ByteArray.mk (b.map UInt8.ofNat).toArray) = begL b (a.drop i) := by
        intro i
        have he : (ByteArray.mk (a.map UInt8.ofNat).toArray).extract i (i + b.length) = ByteArray.mk (((a.drop i).take b.length).map UInt8.ofNat).toArray := by
          apply ByteArray.ext
          simp only [ByteArray.data_extract]
          apply Array.ext'
          simp [Array.toList_extract, List.extract_eq_take_drop, List.map_take, List.map_drop]
        rw [he, bytes_beq, begL_eq, eqL_map _ ob]
        rw [List.all_eq_true] at oa ⊢
        exact fun n hn => oa n (List.mem_of_mem_drop (List.mem_of_mem_take hn))
      have hf : (fun i => (ByteArray.mk (a.map UInt8.ofNat).toArray).extract i (i + b.length) == ByteArray.mk (b.map UInt8.ofNat).toArray) = fun i => begL b (a.drop i) := by funext i; exact hp i
      rw [hf, ixsL_spec b (by intro e; subst e; simp at h1) a 0]
      cases (List.range (a.length + 1 - b.length)).find? (fun i => begL b (a.drop i)) with
      | none => rfl
      | some i => rfl
    · cases hv
  · cases hv

/-- OPERATIONS THAT READ. -/
theorem rd_sound [Env] {o : Oper} {i : RI} {v : V} (hg : Glob ng ρ) (hf : FrRel ρ fr a.tmps) (hr : HRel ρ h w) (hc : cR P ng o = some i) (hv : rdI fr h i = some v) :
    ∃ x, conc ρ v = some x ∧ (execOp a.eval o).run P w = .ok (.value x) w := by
  unfold cR at hc
  split at hc
  case h_1 t g hop =>
    split at hc
    · rename_i hag
      unfold cGlob at hc
      split at hc
      · rename_i hb
        cases hc
        simp only [Bool.and_eq_true, bne_iff_ne, ne_eq, beq_iff_eq] at hb
        obtain ⟨⟨hc0, rfl⟩, _⟩ := hb
        obtain ⟨z, hz, hcl⟩ := fact_spec hg.2 hc0
        obtain ⟨⟨e, fz, hcell⟩, _⟩ := hr.keep _ _ hz
        have hce : w.cell? ⟨mxG ng, 0, none⟩ = some (.int .i64 z) := by simp [World.cell?, hcell]
        refine ⟨.int .i64 z, ?_, by simp [execOp, hop, Act.eval, Instr.loadAt, Instr.sureAddr, loadVar, run_aggO hag, hce]⟩
        simp only [rdI, Option.some.injEq] at hv
        subst hv
        exact class_conc hz hcl hc0
      split at hc
      · rename_i hb
        cases hc
        simp only [Bool.and_eq_true] at hb
        have hlt : g < 64 := by have := hb.1; simpa [Nat.blt_eq] using this
        have hb := hb.2
        simp only [rdI, Option.some.injEq] at hv
        subst hv
        obtain ⟨x, hx⟩ := hg.1 g hlt hb
        obtain ⟨⟨e, fz, hcell⟩, _⟩ := hr.keep g x hx
        refine ⟨x, hx, ?_⟩
        have : w.cell? ⟨g, 0, none⟩ = some x := by simp [World.cell?, hcell]
        simp [execOp, hop, Act.eval, Instr.loadAt, Instr.sureAddr, loadVar, run_aggO hag, this]
      · cases hc
    · cases hc
  case h_2 t x _ hop =>
    simp only [Option.bind_eq_some_iff, Option.map_eq_some_iff] at hc
    obtain ⟨ag, hag, n, hn, x', hx, rfl⟩ := hc
    obtain ⟨y, hy, hrun⟩ := load_spec (P := P) hr hv (ev_spec hg hf hx) hag hn
    exact ⟨y, hy, by simp [execOp, hop, hrun]⟩
  case h_3 t x lo hi mx hop =>
    split at hc
    · rename_i n e hu
      simp only [Option.bind_eq_some_iff] at hc
      obtain ⟨s, hs, hc⟩ := hc
      split at hc
      · cases hc
      rename_i hcond
      simp only [Option.bind_eq_some_iff] at hc
      obtain ⟨x', hx, lo', hlo, hi', hhi, hc⟩ := hc
      cases hc
      have hs0 : s ≠ 0 := fun h => hcond (.inl h)
      have hmx : mx = none := by cases mx with | none => rfl | some _ => exact absurd (.inr rfl) hcond
      subst hmx
      have ex := ev_spec hg hf hx
      simp only [rdI, slArrH] at hv
      split at hv
      · rename_i b off hb
        split at hv
        · rename_i l hl
          cases hfit : Nat.ble (off + n * s) l.length with
          | false => simp [hfit] at hv
          | true =>
            simp only [hfit, cond_true, slArrV, mxO] at hv
            split at hv
            · rename_i p q hp hq _
              rw [hb] at ex
              obtain ⟨y, hy, ex⟩ := conc_p ex
              have hlen : l.length ≤ y.2 := by
                have hlv : (h.get b).live = true := by cases hgb : h.get b <;> rw [hgb] at hl <;> simp [obCells] at hl; rfl
                obtain ⟨y', hy', hob⟩ := hr.ob b hlv
                rw [hy] at hy'; cases hy'
                cases hgb : h.get b <;> rw [hgb] at hl hob <;> simp [obCells] at hl
                subst hl
                obtain ⟨_, _, _, _, h3, _⟩ := hob
                exact h3
              have hfit := Nat.le_of_ble_eq_true hfit
              obtain ⟨g1, g2, g3⟩ := slSl2_spec (cap := n) hv hy hs0 (Nat.le_refl _) (by omega) (by simp)
              have hb := bnd_spec hg hf hlo hp
              have hh := bnd_spec hg hf hhi hq
              refine ⟨_, g3 n (fun _ => rfl) (by simp), ?_⟩
              have := sliceBounds_spec (P := P) (isSl := false) (len := n) (cap := n) (lo := lo.map a.eval) (hi := hi.map a.eval) (mx := none) (a := p) (e := q) (m := n)
                (hb.imp (fun h => ⟨h.1, h.2.2⟩) id) (hh.imp (fun h => ⟨h.1, rfl, h.2.2⟩) id) (.inl ⟨rfl, rfl⟩) g1 g2 (Nat.le_refl _) w
              simp only [execOp, hop, ex, Instr.sliceAt, Sem.run_bind, run_under hu, Result.andThen_ok, Instr.sureAddr, Sem.run_pure, Option.map_none, this, run_szO hs]
              by_cases hca : n = p <;> simp [hca]
            · cases hv
        · cases hv
      · cases hv
    · cases hc
  case h_4 s d x hop =>
    split at hc
    · rename_i e hs hd
      split at hc
      · rename_i he
        simp only [Option.map_eq_some_iff] at hc
        obtain ⟨x', hx, rfl⟩ := hc
        have ex := ev_spec hg hf hx
        obtain ⟨y, hy, hrun⟩ := b2s_spec (P := P) hr hv ex
        refine ⟨y, hy, ?_⟩
        have hconv : (convert s d (a.eval x)).run P w = (Conv.bytesToString (a.eval x)).run P w := by
          unfold convert
          simp only [Sem.run_bind, run_under hs, run_under hd, Result.andThen_ok]
          simp only [rdI, b2sV] at hv
          split at hv
          · rename_i hb
            rw [hb] at ex; simp [conc] at ex
            rw [← ex]
            simp [run_under he]
          · rename_i b o n cap exx es hb
            rw [hb] at ex
            obtain ⟨q, hq, _, _, _, ex⟩ := conc_sl ex
            rw [ex]
            simp [run_under he]
          · cases hv
        simp only [execOp, hop, Sem.run_bind, hconv, hrun, Result.andThen_ok, Sem.run_pure]
      · cases hc
    · cases hc
  case h_5 t x k ok hop =>
    unfold cLook at hc
    split at hc
    · rename_i kt e hu
      simp only [Option.bind_eq_some_iff, Option.map_eq_some_iff] at hc
      obtain ⟨⟨agg, ts⟩, hk, z, ⟨zv, ⟨inf, hi, hz⟩, hcz⟩, x', hx, k', hk', rfl⟩ := hc
      obtain ⟨y, hy, hrun⟩ := look_spec (P := P) hu hk hi hz (cV_spec ρ _ _ hcz) hr hv (ev_spec hg hf hx) (ev_spec hg hf hk')
      exact ⟨y, hy, by simp [execOp, hop, hrun]⟩
    · cases hc
  case h_6 x hop =>
    simp only [Option.map_eq_some_iff] at hc
    obtain ⟨x', hx, rfl⟩ := hc
    obtain ⟨y, hy, hrun⟩ := ent_spec (P := P) hr hv (ev_spec hg hf hx)
    exact ⟨y, hy, by simp [execOp, hop, hrun]⟩
  case h_7 args ats hop =>
    unfold cLenM at hc
    split at hc
    · rename_i t x hts has
      have e1 : ats = #[t] := by apply Array.ext'; simpa using hts
      have e2 : args = #[x] := by apply Array.ext'; simpa using has
      subst e1; subst e2
      split at hc
      · rename_i kt e hu
        simp only [Option.map_eq_some_iff] at hc
        obtain ⟨x', hx, rfl⟩ := hc
        obtain ⟨y, hy, hrun⟩ := lenM_spec (P := P) (ty := o.type) hu hr hv (ev_spec hg hf hx)
        exact ⟨y, hy, by simp [execOp, hop, resolve, invoke, builtin, hrun]⟩
      · cases hc
    · cases hc
  case h_8 f args ats hop =>
    unfold cIxs at hc
    split at hc
    · rename_i fn x y hfn hargs
      split at hc
      · rename_i hcond
        simp only [Option.bind_eq_some_iff, Option.map_eq_some_iff] at hc
        obtain ⟨x', hx, y', hy, rfl⟩ := hc
        simp only [Bool.and_eq_true, beq_iff_eq] at hcond
        obtain ⟨hext, hc2, hfind0⟩ := hcond
        obtain ⟨u, hu, hrun⟩ := ixs_spec (P := P) hg hr hc2 hfind0 hv (ev_spec hg hf hx) (ev_spec hg hf hy)
        simp only [isExt, Bool.and_eq_true, beq_iff_eq] at hext
        obtain ⟨hb, hname, horig⟩ := hext
        have hfind : Extern.find fn = some Extern.BytealgIndex.index := by
          unfold Extern.find
          simp only [hname, horig]
          rfl
        have hnext : Extern.findNext fn = none := by
          unfold Extern.findNext
          simp only [hname, horig]
          rfl
        have hca : args = #[x, y] := by cases args; simp at hargs; rw [hargs]
        have hrun2 := run_callFunc_extern (P := P) hfn (by rw [hname]; decide) hb hnext hfind #[a.eval x, a.eval y] w
        rw [hrun] at hrun2
        simp only [Result.andThen_ok] at hrun2
        have ef : a.eval (.func f) = .func (.func f) #[] #[] := rfl
        have hmap : args.map a.eval = #[a.eval x, a.eval y] := by rw [hca]; simp
        refine ⟨u, hu, ?_⟩
        simp only [execOp, hop, resolve, ef, Deferred.ofValue, Sem.run_bind, Sem.run_pure, Result.andThen_ok, invoke, hmap]
        simpa using hrun2
      · cases hc
    · cases hc
  case h_9 => cases hc

end
end Go.Eng

namespace Go.Eng

/-- How a value is made of a new block. -/
inductive AK where
  | ptr
  | sl (len cap : Nat) (ex : Bool) (es : Nat)
  | mp

def AK.val (k : AK) (p : Path) : V :=
  match k with
  | .ptr => .p p 0
  | .sl len cap ex es => .sl p 0 len cap ex es
  | .mp => .m p

inductive AI where
  | alloc (zero : List V) (elem : Nat)
  | box (x : Opd) (elem : Nat)
  | buildSl (zero : List V) (elem es len : Nat) (parts : List (Nat × Nat × Opd))
  | mkSl (elem es bytes : Nat) (zero : List V) (l c : Opd)
  | s2b (elem : Nat) (x : Opd)

def rep {α : Type} : Nat → List α → List α
  | 0, _ => []
  | n + 1, l => l ++ rep n l

def boxO (elem : Nat) (x : V) : Option (Ob × AK) :=
  match cellsOf x with
  | some l => some (.c false l elem, .ptr)
  | none => none

noncomputable def buildSlO (fr : Tr V) (zero : List V) (elem es len : Nat) (ps : List (Nat × Nat × Opd)) : Option (Ob × AK) :=
  match fillP fr ps zero with
  | some l => some (.c false l elem, .sl len len true es)
  | none => none

def mkSlO (elem es bytes : Nat) (zero : List V) (l c : Option Nat) : Option (Ob × AK) :=
  match l, c with
  | some l, some c => cond (cond (Nat.ble l c) (cond (Nat.blt c 9223372036854775808) (Nat.ble (bytes * c) 281474976710656) false) false)
      (some (.c false (rep c zero) elem, .sl l c true es)) none
  | _, _ => none

def s2bO (elem : Nat) (x : V) : Option (Ob × AK) :=
  match x with
  | .s l => cond (Nat.blt l.length 9223372036854775808) (some (.c false (l.map fun c : Nat => V.i .u8 (.ofNat c)) elem, .sl l.length l.length false 1)) none
  | _ => none

noncomputable def alI (fr : Tr V) (i : AI) : Option (Ob × AK) :=
  match i with
  | .alloc z e => some (.c false z e, .ptr)
  | .box x e => boxO e (ev fr x)
  | .buildSl z e es len ps => buildSlO fr z e es len ps
  | .mkSl e es bytes z l c => mkSlO e es bytes z (asN (ev fr l)) (asN (ev fr c))
  | .s2b e x => s2bO e (ev fr x)

def cA (P : Program) (ng : Nat) (o : Oper) : Option AI :=
  match o.op with
  | .alloc e => (zeroO P e).map fun z => .alloc z e
  | .box e x => (cO ng x).map fun x => .box x e
  | .buildSlice t len ps => match P.underlying t with
    | some (.slice e) => (zeroO P e).bind fun z => (szO P e).bind fun s => if z.length = s ∧ len * s ≤ 16777216 then
        (cParts ng (fun i => some (i * s, s)) ps.toList).map fun r => .buildSl (rep len z) e s len r else none
    | _ => none
  | .makeSlice t l c => match P.underlying t with
    | some (.slice e) => (zeroO P e).bind fun z => (P.info? e).bind fun i => if z.length = i.size then
        (cO ng l).bind fun l => (cO ng c).map fun c => .mkSl e i.size i.bytes z l c else none
    | _ => none
  | .convert s d x => match P.underlying s, P.underlying d with
    | some .string, some (.slice e) => (match P.underlying e with | some (.int .u8) => (cO ng x).map (.s2b e) | _ => none)
    | _, _ => none
  | _ => none

section
variable {P : Program} {ρ : Ren} {ng : Nat} {fr : Tr V} {a : Act}

theorem rep_length {α : Type} (l : List α) : ∀ n, (rep n l).length = n * l.length
  | 0 => by simp [rep]
  | n + 1 => by simp [rep, rep_length l n, Nat.add_one_mul]; omega

theorem rep_get {α : Type} (l : List α) : ∀ (n i : Nat), i < n * l.length → (rep n l)[i]? = l[i % l.length]?
  | 0, i, h => by simp at h
  | n + 1, i, h => by
    simp only [rep, List.getElem?_append]
    by_cases hi : i < l.length
    · rw [if_pos hi, Nat.mod_eq_of_lt hi]
    · rw [if_neg hi, rep_get l n (i - l.length) (by rw [Nat.add_one_mul] at h; omega)]
      rw [← Nat.mod_eq_sub_mod (by omega)]

theorem rep_concs [Env] {l : List V} {xs : List Value} (h : concs ρ l = some xs) : ∀ n, concs ρ (rep n l) = some (rep n xs)
  | 0 => rfl
  | n + 1 => concs_append h (rep_concs h n)

theorem rep_all {l : List V} (h : l.all V.one = true) : ∀ n, (rep n l).all V.one = true
  | 0 => rfl
  | n + 1 => by simp only [rep, List.all_append, h, rep_all h n]; rfl

theorem range_rep (z : Array Value) (n s : Nat) (hs : z.size = s) : ((Array.range (n * s)).map fun i => z[i % z.size]!).toList = rep n z.toList := by
  subst hs
  apply List.ext_getElem?
  intro i
  by_cases hi : i < n * z.size
  · rw [rep_get _ _ _ (by simpa using hi)]
    simp only [Array.toList_map, List.getElem?_map, Array.length_toList]
    have hz : 0 < z.size := by
      rcases Nat.eq_zero_or_pos z.size with h | h
      · rw [h] at hi; simp at hi
      · exact h
    have hm : i % z.size < z.size := Nat.mod_lt _ hz
    have hr : (Array.range (n * z.size)).toList[i]? = some i := by simp [hi]
    rw [hr]
    simp [hm]
  · rw [List.getElem?_eq_none (by simp; omega), List.getElem?_eq_none (by rw [rep_length]; simp; omega)]

/-- A new row of cells, as an object. -/
theorem obRel_new [Env] {l : List V} {xs : List Value} {elem : Nat} (h : concs ρ l = some xs) (h1 : l.all V.one = true) (ro : Bool) : ObRel ρ xs.length (.c ro l elem) (some (.cells xs.toArray elem)) := by
  have hlen := concs_length h
  refine ⟨xs.toArray, (0, 0), rfl, by simp, by omega, fun i v hv => ?_, fun _ i _ => by simp⟩
  obtain ⟨x, hx, hx2⟩ := concs_get i v h hv
  exact ⟨List.all_eq_true.1 h1 v (List.mem_of_getElem? hv), x, hx, by simpa using hx2⟩

/-- What soundness says of an operation that makes a block. -/
def Alloc1 [Env] (P : Program) (ρ : Ren) (o : Oper) (a : Act) (ob : Ob) (k : AK) : Prop :=
  ∀ w, ∃ x obj sz w', (execOp a.eval o).run P w = .ok (.value x) w' ∧ w'.heap = w.heap.push obj ∧ Str w w' ∧ ObRel ρ sz ob (some obj) ∧
    ∀ (ρ' : Ren) (p : Path), ρ' p = some (w.heap.size, sz) → conc ρ' (k.val p) = some x

theorem alloc_row [Env] {o : Oper} {l : List V} {xs : List Value} {elem : Nat} (h : concs ρ l = some xs) (h1 : l.all V.one = true)
    (hr : ∀ w, (execOp a.eval o).run P w = .ok (.value (.pointer (some ⟨w.heap.size, 0, none⟩))) { w with heap := w.heap.push (.cells xs.toArray elem) }) :
    Alloc1 P ρ o a (.c false l elem) .ptr :=
  fun w => ⟨_, _, xs.length, _, hr w, rfl, ⟨rfl, rfl, rfl⟩, obRel_new h h1 false, fun ρ' p hp => by simp [AK.val, conc, hp]⟩

theorem alloc_slice [Env] {o : Oper} {l : List V} {xs : List Value} {elem len cap es : Nat} (h : concs ρ l = some xs) (h1 : l.all V.one = true) (hlc : len ≤ cap) (hx : xs.length = cap * es)
    (hr : ∀ w, (execOp a.eval o).run P w = .ok (.value (.slice (some ⟨w.heap.size, 0, none⟩) len cap)) { w with heap := w.heap.push (.cells xs.toArray elem) }) :
    Alloc1 P ρ o a (.c false l elem) (.sl len cap true es) :=
  fun w => ⟨_, _, xs.length, _, hr w, rfl, ⟨rfl, rfl, rfl⟩, obRel_new h h1 false, fun ρ' p hp => by
    simp only [AK.val, conc, hp, Option.bind_some, capOf, if_true]
    rw [if_pos ⟨hlc, Nat.le_refl _, by omega⟩]⟩

theorem modify_push {α : Type} (xs : Array α) (x : α) (f : α → α) : (xs.push x).modify xs.size f = xs.push (f x) := by
  apply Array.ext
  · simp
  · intro i h1 h2
    rw [Array.getElem_modify]
    by_cases hi : xs.size = i
    · subst hi; simp
    · have : i < xs.size := by simp at h2; omega
      rw [if_neg hi, Array.getElem_push_lt this, Array.getElem_push_lt this]

theorem s2b_run [Env] {o : Oper} {s d e : TypeId} {x : Operand} {l : List Nat} (hop : o.op = .convert s d x) (hs : P.underlying s = some .string) (hd : P.underlying d = some (.slice e))
    (he : P.underlying e = some (.int .u8)) (ex : a.eval x = .string ⟨(l.map UInt8.ofNat).toArray⟩) (h1 : l.all byteOk = true) (_ : l.length < 9223372036854775808) :
    Alloc1 P ρ o a (.c false (l.map fun c : Nat => V.i .u8 (.ofNat c)) e) (.sl l.length l.length false 1) := by
  intro w
  have hsz : (ByteArray.mk (l.map UInt8.ofNat).toArray).size = l.length := by
    show ((l.map UInt8.ofNat).toArray).size = _
    simp
  have hle : ∃ C, l.length ≤ C ∧ (Question.appendCap l.length 0 e).cut (w.tape w.drawn (.appendCap l.length 0 e)) = C := by
    refine ⟨_, ?_, rfl⟩
    simp only [Question.cut]; omega
  obtain ⟨C, hC, hcut⟩ := hle
  have hrun : (execOp a.eval o).run P w = .ok (.value (.slice (some ⟨w.heap.size, 0, none⟩) l.length C))
      { w with heap := w.heap.push (.cells (((ByteArray.mk (l.map UInt8.ofNat).toArray).data.map fun b => Value.int .u8 b.toNat) ++ Array.replicate (C - l.length) (.int .u8 0)) e (C, C + 1)), drawn := w.drawn + 1 } := by
    have hcs : (((ByteArray.mk (l.map UInt8.ofNat).toArray).data.map fun b => Value.int .u8 b.toNat) ++ Array.replicate (C - l.length) (Value.int .u8 0)).size = C := by simp; omega
    simp only [execOp, hop, ex, convert, Sem.run_bind, run_under hs, run_under hd, run_under he, Result.andThen_ok, Conv.stringToBytes, run_choose, Question.forced, Bool.false_eq_true, if_false, hcut, hsz,
      newRow, run_newObj, Sem.run_pure, markStringish, run_shape]
    simp only [World.shape?, Array.getElem?_push_size, hcs]
    simp only [run_freeze, Result.andThen_ok]
    simp only [World.freeze]
    rw [if_neg (by omega), modify_push]
    simp
  refine ⟨_, _, C, _, hrun, rfl, ⟨rfl, rfl, rfl⟩, ?_, fun ρ' p hp => ?_⟩
  · refine ⟨_, _, rfl, by simp; omega, by simp; omega, fun i v hv => ?_, fun _ i hi => by simp; omega⟩
    rw [List.getElem?_map, Option.map_eq_some_iff] at hv
    obtain ⟨c, hc, rfl⟩ := hv
    have hil := (List.getElem?_eq_some_iff.1 hc).1
    have hc256 : c < 256 := by
      have := List.all_eq_true.1 h1 c (List.mem_of_getElem? hc)
      simpa [byteOk, Nat.blt_eq] using this
    refine ⟨rfl, _, rfl, ?_⟩
    rw [Array.getElem?_append_left (by simpa using hil)]
    simp only [Array.getElem?_map, List.getElem?_toArray, List.getElem?_map, hc, Option.map_some]
    simp [Nat.mod_eq_of_lt hc256]
  · simp only [AK.val, conc, hp, Option.bind_some, capOf, Bool.false_eq_true, if_false, Nat.sub_zero, Nat.div_one, Nat.zero_add, Nat.mul_one]
    rw [if_pos ⟨Nat.le_refl _, hC, Nat.le_refl _⟩]

/-- OPERATIONS THAT MAKE MEMORY. -/
theorem al_sound [Env] {o : Oper} {i : AI} {ob : Ob} {k : AK} (hg : Glob ng ρ) (hf : FrRel ρ fr a.tmps) (hc : cA P ng o = some i) (hv : alI fr i = some (ob, k)) : Alloc1 P ρ o a ob k := by
  unfold cA at hc
  split at hc
  case h_1 e hop =>
    simp only [Option.map_eq_some_iff] at hc
    obtain ⟨z, hz, rfl⟩ := hc
    obtain ⟨it, zv, hi, hzv, hcz, h1⟩ := zeroO_spec hz
    simp only [alI, Option.some.injEq, Prod.mk.injEq] at hv
    obtain ⟨rfl, rfl⟩ := hv
    refine alloc_row (hcz ρ) h1 (fun w => ?_)
    simp [execOp, hop, Instr.alloc, zeroValue, typeInfo, hi, hzv, newVar, newRow]
  case h_2 e x hop =>
    simp only [Option.map_eq_some_iff] at hc
    obtain ⟨x', hx, rfl⟩ := hc
    simp only [alI, boxO] at hv
    split at hv
    · rename_i l hl
      simp only [Option.some.injEq, Prod.mk.injEq] at hv
      obtain ⟨rfl, rfl⟩ := hv
      obtain ⟨h1, h2⟩ := cellsOf_spec hl (ev_spec hg hf hx)
      refine alloc_row h1 h2 (fun w => ?_)
      simp [execOp, hop, Instr.box, newVar, newRow]
    · cases hv
  case h_3 t len ps hop =>
    split at hc
    · rename_i e hu
      simp only [Option.bind_eq_some_iff] at hc
      obtain ⟨z, hz, s, hs, hc⟩ := hc
      split at hc
      · rename_i hcond
        simp only [Option.map_eq_some_iff] at hc
        obtain ⟨r, hr, rfl⟩ := hc
        obtain ⟨it, zv, hi, hzv, hcz, h1⟩ := zeroO_spec hz
        simp only [alI, buildSlO] at hv
        split at hv
        · rename_i l hl
          simp only [Option.some.injEq, Prod.mk.injEq] at hv
          obtain ⟨rfl, rfl⟩ := hv
          have hzs : zv.cells.size = s := by have := concs_length (hcz ρ); simp at this; omega
          have hrr := range_rep zv.cells len s hzs
          obtain ⟨cs, f1, f2, f3⟩ := fill_spec r _ (rep len z) l ((Array.range (len * s)).map fun i => zv.cells[i % zv.cells.size]!) (cParts_spec hg hf _ _ hr) hl
            (by rw [hrr]; exact rep_concs (hcz ρ) len) (rep_all h1 len)
          have hlen : cs.toList.length = len * s := by
            have e1 := concs_length f2
            have : l.length = (rep len z).length := by
              have key : ∀ (r : List (Nat × Nat × Opd)) (u l : List V), fillP fr r u = some l → l.length = u.length := by
                intro r
                induction r with
                | nil => intro u l h; simp [fillP] at h; rw [h]
                | cons p r ih =>
                  intro u l h
                  obtain ⟨off, size, x⟩ := p
                  simp only [fillP] at h
                  split at h
                  · cases h
                  · rename_i c _
                    cases hb : Nat.beq c.length size with
                    | false => simp [hb] at h
                    | true =>
                      simp only [hb, cond_true] at h
                      split at h
                      · rename_i u' hu'
                        rw [ih u' l h, (splice_spec hu').1]
                      · cases h
              exact key r _ _ hl
            rw [e1, this, rep_length, hcond.1]
          refine alloc_slice f2 f3 (Nat.le_refl _) (by rw [hlen]) (fun w => ?_)
          have hlist : (ps.map fun (i, x) => (i, a.eval x)).toList = ps.toList.map fun p => (p.1, a.eval p.2) := by simp
          simp only [execOp, hop, Instr.buildSlice, Sem.run_bind, run_under hu, Result.andThen_ok, run_szO hs]
          rw [if_neg (by omega)]
          by_cases h0 : len * s = 0
          · rw [if_pos h0]
            have emp : ∀ f : Nat → Value, (Array.range (len * s)).map f = #[] := by intro f; rw [h0]; simp
            rw [emp] at f1
            simp only [Sem.run_pure, Result.andThen_ok, Sem.run_bind, emp]
            rw [hlist, f1]
            simp [newRow]
          · rw [if_neg h0]
            simp only [zeroValue, typeInfo, Sem.run_bind, run_program, Result.andThen_ok, hi, hzv, Sem.run_pure]
            rw [hlist, f1]
            simp [newRow]
        · cases hv
      · cases hc
    · cases hc
  case h_4 t l c hop =>
    split at hc
    · rename_i e hu
      simp only [Option.bind_eq_some_iff] at hc
      obtain ⟨z, hz, inf, hinf, hc⟩ := hc
      split at hc
      · rename_i hcond
        simp only [Option.bind_eq_some_iff, Option.map_eq_some_iff] at hc
        obtain ⟨l', hl, c', hc', rfl⟩ := hc
        obtain ⟨it, zv, hi, hzv, hcz, h1⟩ := zeroO_spec hz
        rw [hinf] at hi; cases hi
        simp only [alI, mkSlO] at hv
        split at hv
        · rename_i m n hm hn
          cases b1 : Nat.ble m n with
          | false => simp [b1] at hv
          | true =>
          cases b2 : Nat.blt n 9223372036854775808 with
          | false => simp [b1, b2] at hv
          | true =>
          cases b3 : Nat.ble (inf.bytes * n) 281474976710656 with
          | false => simp [b1, b2, b3] at hv
          | true =>
          simp only [b1, b2, b3, cond_true, Option.some.injEq, Prod.mk.injEq] at hv
          obtain ⟨rfl, rfl⟩ := hv
          have b1 := Nat.le_of_ble_eq_true b1
          have b2 : n < 9223372036854775808 := by simpa [Nat.blt_eq] using b2
          have b3 := Nat.le_of_ble_eq_true b3
          obtain ⟨k1, e1⟩ := asN_spec hm (ev_spec hg hf hl)
          obtain ⟨k2, e2⟩ := asN_spec hn (ev_spec hg hf hc')
          have hzs : zv.cells.size = inf.size := by have := concs_length (hcz ρ); simp at this; omega
          have hrr := range_rep zv.cells n inf.size hzs
          refine alloc_slice (rep_concs (hcz ρ) n) (rep_all h1 n) b1 (by rw [rep_length]; simp [hzs]) (fun w => ?_)
          have w1 : IntKind.i64.wrap (m : Int) = m := by simp [IntKind.wrap, IntKind.bits, IntKind.signed]; omega
          have w2 : IntKind.i64.wrap (n : Int) = n := by simp [IntKind.wrap, IntKind.bits, IntKind.signed]; omega
          have t1 : ((n : Int) < 0 || (inf.bytes : Int) * n > 2 ^ 48) = false := by
            have : ((inf.bytes * n : Nat) : Int) ≤ 281474976710656 := by omega
            rw [Int.natCast_mul] at this
            simp; omega
          have t2 : ¬ (((n : Int) < 0 || (inf.bytes : Int) * n > 2 ^ 48) || decide ((m : Int) < 0) || decide ((m : Int) > n)) = true := by
            rw [t1]; simp; omega
          simp only [execOp, hop, Instr.makeSlice, Sem.run_bind, run_under hu, Result.andThen_ok, e1, e2, asInt, asIntOf, Sem.run_pure, typeInfo, run_program, hinf, w1, w2]
          rw [if_neg t2]
          simp only [run_askRoom, Sem.run_pure, Result.andThen_ok, Int.toNat_natCast, sizeOf, typeInfo, Sem.run_bind, run_program, hinf]
          by_cases h0 : n * inf.size = 0
          · rw [if_pos h0]
            have emp : ∀ f : Nat → Value, (Array.range (n * inf.size)).map f = #[] := by intro f; rw [h0]; simp
            have hh : rep n zv.cells.toList = [] := by rw [← hrr, emp]
            simp only [Sem.run_pure, Result.andThen_ok, Sem.run_bind, emp, hh]
            simp [newRow]
          · rw [if_neg h0]
            simp only [zeroValue, typeInfo, Sem.run_bind, run_program, Result.andThen_ok, hinf, hzv, Sem.run_pure]
            have : ((Array.range (n * inf.size)).map fun i => zv.cells[i % zv.cells.size]!) = (rep n zv.cells.toList).toArray := by rw [← hrr]
            rw [this]
            simp [newRow]
        · cases hv
      · cases hc
    · cases hc
  case h_5 s d x hop =>
    split at hc
    · rename_i e hs hd
      split at hc
      · rename_i he
        simp only [Option.map_eq_some_iff] at hc
        obtain ⟨x', hx, rfl⟩ := hc
        have ex := ev_spec hg hf hx
        simp only [alI, s2bO] at hv
        split at hv
        · rename_i l hl
          cases hb : Nat.blt l.length 9223372036854775808 with
          | false => simp [hb] at hv
          | true =>
          simp only [hb, cond_true, Option.some.injEq, Prod.mk.injEq] at hv
          obtain ⟨rfl, rfl⟩ := hv
          rw [hl] at ex
          obtain ⟨h1, ex⟩ := conc_s ex
          have hb : l.length < 9223372036854775808 := by simpa [Nat.blt_eq] using hb
          exact s2b_run hop hs hd he ex h1 hb
        · cases hv
      · cases hc
    · cases hc
  case h_6 => cases hc

end
end Go.Eng

namespace Go.Eng

inductive MI where
  | mk
  | up (agg : Bool) (ts : List Nat) (x k v : Opd)
  | del (agg : Bool) (ts : List Nat) (x k : Opd)
  | ment (agg : Bool) (ts : List Nat) (zero : V) (x k : Opd)
  | est (x s v : Opd)
  | rng (x : Opd)
  | nxt (x : Opd)
  | cln (x : Opd)

def setE (v : V) : Nat → List (V × V × Nat) → List (V × V × Nat)
  | _, [] => []
  | 0, (k, _, b) :: l => (k, v, b) :: l
  | n + 1, e :: l => e :: setE v n l

def delE : Nat → List (V × V × Nat) → List (V × V × Nat)
  | _, [] => []
  | 0, _ :: l => l
  | n + 1, e :: l => e :: delE n l

def endE (x : V × V × Nat) : List (V × V × Nat) → List (V × V × Nat)
  | [] => [x]
  | e :: l => e :: endE x l

def setS (s : Nat) (v : V) : List (V × V × Nat) → Option (List (V × V × Nat))
  | [] => none
  | (k, u, b) :: l => cond (Nat.beq b s) (some ((k, v, b) :: l)) (match setS s v l with | some l => some ((k, u, b) :: l) | none => none)

noncomputable def mUp (h : H) (b : Path) (k v : V) (es : List (V × V × Nat)) (clock : Nat) (r : Option (Option (Nat × V × Nat))) : Option (V × H) :=
  match r with
  | none => none
  | some none => some (undefV, h.put b (.m (endE (k, v, clock) es) (clock + 1)))
  | some (some (i, _, _)) => some (undefV, h.put b (.m (setE v i es) clock))

noncomputable def mUpOb (h : H) (agg : Bool) (ts : List Nat) (b : Path) (k v : V) (o : Ob) : Option (V × H) :=
  match o with
  | .m es clock => mUp h b k v es clock (findE agg ts k es 0)
  | _ => none

noncomputable def mUpV (h : H) (agg : Bool) (ts : List Nat) (x k v : V) : Option (V × H) :=
  cond (keyOk agg ts k) (match x with | .m b => mUpOb h agg ts b k v (h.get b) | _ => none) none

noncomputable def mDel (h : H) (b : Path) (es : List (V × V × Nat)) (clock : Nat) (r : Option (Option (Nat × V × Nat))) : Option (V × H) :=
  match r with
  | none => none
  | some none => some (undefV, h.put b (.m es clock))
  | some (some (i, _, _)) => some (undefV, h.put b (.m (delE i es) clock))

noncomputable def mDelOb (h : H) (agg : Bool) (ts : List Nat) (b : Path) (k : V) (o : Ob) : Option (V × H) :=
  match o with
  | .m es clock => mDel h b es clock (findE agg ts k es 0)
  | _ => none

noncomputable def mDelV (h : H) (agg : Bool) (ts : List Nat) (x k : V) : Option (V × H) :=
  cond (keyOk agg ts k) (match x with | .m b => mDelOb h agg ts b k (h.get b) | .m0 => some (undefV, h) | _ => none) none

noncomputable def mEnt (h : H) (b : Path) (k zero : V) (es : List (V × V × Nat)) (clock : Nat) (r : Option (Option (Nat × V × Nat))) : Option (V × H) :=
  match r with
  | none => none
  | some none => some (.t [zero, .i .i64 (.ofNat clock)], h.put b (.m (endE (k, zero, clock) es) (clock + 1)))
  | some (some (_, v, s)) => some (.t [v, .i .i64 (.ofNat s)], h)

noncomputable def mEntOb (h : H) (agg : Bool) (ts : List Nat) (zero : V) (b : Path) (k : V) (o : Ob) : Option (V × H) :=
  match o with
  | .m es clock => mEnt h b k zero es clock (findE agg ts k es 0)
  | _ => none

noncomputable def mEntV (h : H) (agg : Bool) (ts : List Nat) (zero : V) (x k : V) : Option (V × H) :=
  cond (keyOk agg ts k) (match x with | .m b => mEntOb h agg ts zero b k (h.get b) | _ => none) none

noncomputable def mStOb (h : H) (b : Path) (s : Nat) (v : V) (o : Ob) : Option (V × H) :=
  match o with
  | .m es clock => (match setS s v es with | some es => some (undefV, h.put b (.m es clock)) | none => none)
  | _ => none

noncomputable def mStV (h : H) (x : V) (s : Option Nat) (v : V) : Option (V × H) :=
  match x with
  | .m b => (match s with | some s => mStOb h b s v (h.get b) | none => none)
  | _ => none

noncomputable def mRngOb (h : H) (b : Path) (o : Ob) : Option (V × H) :=
  match o with
  | .m _ clock => some (.p h.n 0, h.new (.it (some b) clock [] clock))
  | _ => none

noncomputable def mRngV (h : H) (x : V) : Option (V × H) :=
  match x with
  | .m0 => some (.p h.n 0, h.new (.it none 0 [] 0))
  | .m b => mRngOb h b (h.get b)
  | _ => none

def memN (n : Nat) : List Nat → Bool
  | [] => false
  | m :: l => cond (Nat.beq m n) true (memN n l)

/-- The entries that are not seen yet. -/
def leftE (seen : List Nat) : List (V × V × Nat) → List (V × V × Nat)
  | [] => []
  | (k, v, b) :: l => cond (memN b seen) (leftE seen l) ((k, v, b) :: leftE seen l)

/-- Are all of them new? -/
def allNew (last : Nat) : List (V × V × Nat) → Bool
  | [] => true
  | (_, _, b) :: l => cond (Nat.ble last b) (allNew last l) false

def goneAll (last : Nat) (seen : List Nat) (es : List (V × V × Nat)) : Bool :=
  match seen with
  | [] => false
  | _ :: _ => match es with
    | [] => false
    | _ :: _ => allNew last es

noncomputable def mNxtL (h : H) (b m : Path) (since : Nat) (seen : List Nat) (clock : Nat) (l : List (V × V × Nat)) : Option (V × H) :=
  match l with
  | [] => some (.t [.b false], h)
  | (k, v, s) :: l => (match l with
    | [] => cond (Nat.blt s since) (some (.t [.b true, k, v], h.put b (.it (some m) since (s :: seen) clock))) none
    | _ => none)

noncomputable def mNxtM (h : H) (b m : Path) (since : Nat) (seen : List Nat) (last : Nat) (o : Ob) : Option (V × H) :=
  match o with
  | .m es clock => cond (goneAll last seen es) none (mNxtL h b m since seen clock (leftE seen es))
  | _ => none

noncomputable def mNxtOb (h : H) (b : Path) (o : Ob) : Option (V × H) :=
  match o with
  | .it mp since seen last => (match mp with
    | none => some (.t [.b false], h)
    | some m => mNxtM h b m since seen last (h.get m))
  | _ => none

noncomputable def mNxtV (h : H) (x : V) : Option (V × H) :=
  match x with
  | .p b o => cond (Nat.beq o 0) (mNxtOb h b (h.get b)) none
  | _ => none

noncomputable def mClnOb (h : H) (t : Nat) (o : Ob) : Option (V × H) :=
  match o with
  | .m es clock => some (.ifc t (.m h.n), h.new (.m es clock))
  | _ => none

noncomputable def mClnV (h : H) (x : V) : Option (V × H) :=
  match x with
  | .ifc t v => (match v with | .m b => mClnOb h t (h.get b) | _ => none)
  | _ => none

noncomputable def mpI (fr : Tr V) (h : H) (i : MI) : Option (V × H) :=
  match i with
  | .mk => some (.m h.n, h.new (.m [] 0))
  | .up agg ts x k v => mUpV h agg ts (ev fr x) (ev fr k) (ev fr v)
  | .del agg ts x k => mDelV h agg ts (ev fr x) (ev fr k)
  | .ment agg ts z x k => mEntV h agg ts z (ev fr x) (ev fr k)
  | .est x s v => mStV h (ev fr x) (asN (ev fr s)) (ev fr v)
  | .rng x => mRngV h (ev fr x)
  | .nxt x => mNxtV h (ev fr x)
  | .cln x => mClnV h (ev fr x)

def cKM (P : Program) (t : TypeId) : Option (Bool × List Nat) :=
  match P.underlying t with
  | some (.map kt _) => keyC P kt
  | _ => none

def cZM (P : Program) (t : TypeId) : Option V :=
  match P.underlying t with
  | some (.map _ e) => ((P.info? e).bind (·.zero)).bind cV
  | _ => none

def cM (P : Program) (ng : Nat) (o : Oper) : Option MI :=
  match o.op with
  | .makeMap t none => match P.underlying t with | some (.map _ _) => some .mk | _ => none
  | .mapUpdate t m k x => (cKM P t).bind fun a => (cO ng m).bind fun m => (cO ng k).bind fun k => (cO ng x).map fun x => .up a.1 a.2 m k x
  | .insert t m k x => (cKM P t).bind fun a => (cO ng m).bind fun m => (cO ng k).bind fun k => (cO ng x).map fun x => .up a.1 a.2 m k x
  | .mapEntry t m k => (cKM P t).bind fun a => (cZM P t).bind fun z => (cO ng m).bind fun m => (cO ng k).map fun k => .ment a.1 a.2 z m k
  | .entryStore _ m s x => (cO ng m).bind fun m => (cO ng s).bind fun s => (cO ng x).map fun x => .est m s x
  | .range t x => match P.underlying t with | some (.map _ _) => (cO ng x).map .rng | _ => none
  | .next x false => (cO ng x).map .nxt
  | .call { callee := .builtin .delete, args, argTypes } => match argTypes.toList, args.toList with
    | t :: _, [m, k] => (cKM P t).bind fun a => (cO ng m).bind fun m => (cO ng k).map fun k => .del a.1 a.2 m k
    | _, _ => none
  | .call { callee := .value (.func f), args, argTypes := _ } => match P.funcs[f]?, args.toList with
    | some fn, [x] => if isExt fn "maps.clone" then (cO ng x).map .cln else none
    | _, _ => none
  | _ => none

section
variable {P : Program} {ρ : Ren} {ng : Nat} {fr : Tr V} {a : Act} {h h' : H} {w : World}

theorem setE_rel [Env] {v : V} {x : Value} (hv : conc ρ v = some x) : ∀ {es : List (V × V × Nat)} {L : List MapEntry} (i : Nat), EntRel ρ es L → EntRel ρ (setE v i es) (L.modify i fun e => { e with val := x })
  | [], [], _, _ => by simp [setE, EntRel]
  | [], _ :: _, _, e => e.elim
  | _ :: _, [], _, e => e.elim
  | (k, u, b) :: es, e :: L, 0, ⟨h1, h2, h3, h4⟩ => ⟨h1, hv, h3, h4⟩
  | (k, u, b) :: es, e :: L, i + 1, ⟨h1, h2, h3, h4⟩ => by
    simp only [setE, List.modify_succ_cons]
    exact ⟨h1, h2, h3, setE_rel hv i h4⟩

theorem delE_rel [Env] : ∀ {es : List (V × V × Nat)} {L : List MapEntry} (i : Nat), EntRel ρ es L → EntRel ρ (delE i es) (L.eraseIdx i)
  | [], [], _, _ => by simp [delE, EntRel]
  | [], _ :: _, _, e => e.elim
  | _ :: _, [], _, e => e.elim
  | (k, u, b) :: es, e :: L, 0, ⟨h1, h2, h3, h4⟩ => h4
  | (k, u, b) :: es, e :: L, i + 1, ⟨h1, h2, h3, h4⟩ => by
    simp only [delE, List.eraseIdx_cons_succ]
    exact ⟨h1, h2, h3, delE_rel i h4⟩

theorem endE_rel [Env] {k v : V} {b : Nat} {e : MapEntry} (hk : conc ρ k = some e.key) (hv : conc ρ v = some e.val) (hb : e.born = b) : ∀ {es : List (V × V × Nat)} {L : List MapEntry}, EntRel ρ es L → EntRel ρ (endE (k, v, b) es) (L ++ [e])
  | [], [], _ => ⟨hk, hv, hb, trivial⟩
  | [], _ :: _, e => e.elim
  | _ :: _, [], e => e.elim
  | (_, _, _) :: es, e' :: L, ⟨h1, h2, h3, h4⟩ => ⟨h1, h2, h3, endE_rel hk hv hb h4⟩

theorem setS_rel [Env] {s : Nat} {v : V} {x : Value} (hv : conc ρ v = some x) : ∀ {es es' : List (V × V × Nat)} {L : List MapEntry}, EntRel ρ es L → setS s v es = some es' →
    ∃ i, L.findIdx? (fun e => (e.born : Int) == (s : Int)) = some i ∧ EntRel ρ es' (L.modify i fun e => { e with val := x })
  | [], _, _, _, h => by simp [setS] at h
  | _ :: _, _, [], e, _ => e.elim
  | (k, u, b) :: es, es', e :: L, ⟨h1, h2, h3, h4⟩, h => by
    simp only [setS] at h
    cases hb : Nat.beq b s with
    | true =>
      simp only [hb, cond_true, Option.some.injEq] at h
      subst h
      have hb := Nat.eq_of_beq_eq_true hb
      refine ⟨0, ?_, h1, hv, h3, h4⟩
      rw [List.findIdx?_cons, if_pos (by rw [h3, hb]; simp)]
    | false =>
      simp only [hb, cond_false] at h
      split at h
      · rename_i l hl
        cases h
        obtain ⟨i, g1, g2⟩ := setS_rel hv h4 hl
        refine ⟨i + 1, ?_, ?_⟩
        · have hne : b ≠ s := by intro e; subst e; simp at hb
          rw [List.findIdx?_cons, if_neg (by rw [h3]; simp only [beq_iff_eq]; omega), g1]; rfl
        · simp only [List.modify_succ_cons]
          exact ⟨h1, h2, h3, g2⟩
      · cases h

theorem run_setObj_of {P : Program} {w : World} {r : Nat} {es : Array MapEntry} {clock : Nat} (o : Obj) (hb : w.heap[r]? = some (.map es clock)) : (setObj r o).run P w = .ok () { w with heap := w.heap.setIfInBounds r o } := by
  simp [setObj, Sem.run, hb]

/-- A map that is changed in place. -/
theorem put_map [Env] {b : Path} {x : Nat × Nat} {es es' : List (V × V × Nat)} {clock clock' : Nat} {L L' : List MapEntry} (hr : HRel ρ h w) (hg : h.get b = .m es clock) (hx : ρ b = some x)
    (hw : w.heap[x.1]? = some (.map L.toArray clock)) (he : EntRel ρ es' L') :
    HRel ρ (h.put b (.m es' clock')) { w with heap := w.heap.setIfInBounds x.1 (.map L'.toArray clock') } ∧ Ext ρ h w ρ (h.put b (.m es' clock')) { w with heap := w.heap.setIfInBounds x.1 (.map L'.toArray clock') } := by
  have hlt : x.1 < w.heap.size := (Array.getElem?_eq_some_iff.1 hw).1
  refine hr.put (by rw [hg]; rfl) hx _ (by simp) ⟨rfl, rfl, rfl⟩ (fun k hk => ?_) ⟨L', ?_, he⟩
  · simp only [Array.getElem?_setIfInBounds_ne (Ne.symm hk)]
  · simp [Array.getElem?_setIfInBounds, hlt]

theorem cKM_spec {t : TypeId} {agg : Bool} {ts : List Nat} (hk : cKM P t = some (agg, ts)) : ∃ kt e, P.underlying t = some (.map kt e) ∧ keyC P kt = some (agg, ts) := by
  unfold cKM at hk
  split at hk
  · rename_i kt e hu; exact ⟨kt, e, hu, hk⟩
  · cases hk

theorem getD_key {L : List MapEntry} {i : Nat} {e : MapEntry} {kv : Value} (h : L[i]? = some e) (hk : e.key = kv) : (((L.toArray)[i]?).map (·.key)).getD kv = kv := by
  simp [h, hk]

theorem findE_same {agg : Bool} {ts : List Nat} {k : V} : ∀ {es : List (V × V × Nat)} {i j : Nat} {v : V} {b : Nat}, findE agg ts k es i = some (some (j, v, b)) → eqKey agg ts k k = some true
  | [], _, _, _, _, h => by simp [findE] at h
  | (k', v', b') :: es, i, j, v, b, h => by
    simp only [findE] at h
    cases hq : eqKey agg ts k k' with
    | none => simp [hq] at h
    | some q => cases q with
      | true => have := eqKey_same hq; rw [← this] at hq; exact hq
      | false => simp only [hq] at h; exact findE_same h

theorem up_spec [Env] {t : TypeId} {agg : Bool} {ts : List Nat} {x k v r : V} {u kv y : Value} (hk : cKM P t = some (agg, ts)) (hr : HRel ρ h w) (hv : mUpV h agg ts x k v = some (r, h')) (hx : conc ρ x = some u) (hkv : conc ρ k = some kv) (hy : conc ρ v = some y) :
    r = undefV ∧ ∃ w', (Instr.mapUpdate t u kv y).run P w = .ok () w' ∧ HRel ρ h' w' ∧ Ext ρ h w ρ h' w' := by
  obtain ⟨kt, e, hu, hkc⟩ := cKM_spec hk
  unfold mUpV at hv
  cases hko : keyOk agg ts k with
  | false => simp [hko] at hv
  | true =>
    simp only [hko, cond_true] at hv
    split at hv
    · rename_i b
      unfold mUpOb at hv
      split at hv
      · rename_i es clock hg
        obtain ⟨x, L, hxb, rfl, h1, h2⟩ := map_spec hr hg hx
        have hck := keyOk_check (P := P) hkc hko hkv false w
        unfold mUp at hv
        split at hv
        · cases hv
        · rename_i hf
          obtain ⟨f1, _⟩ := findKey_spec (P := P) hkc hkv h2 hf w
          simp only [Option.some.injEq, Prod.mk.injEq] at hv
          obtain ⟨rfl, rfl⟩ := hv
          have he := endE_rel (ρ := ρ) (e := { key := kv, val := y, born := clock }) hkv hy rfl h2
          obtain ⟨p1, p2⟩ := put_map (clock' := clock + 1) hr hg hxb h1 he
          refine ⟨rfl, _, ?_, p1, p2⟩
          simp only [Instr.mapUpdate, Sem.run_bind, run_under hu, Result.andThen_ok, run_getObj_of h1, hck, f1 rfl]
          rw [run_setObj_of _ h1]
          simp
        · rename_i i v' b' hf
          obtain ⟨_, f2⟩ := findKey_spec (P := P) hkc hkv h2 hf w
          obtain ⟨g1, y', hy', hrun⟩ := f2 i v' b' rfl
          simp only [Option.some.injEq, Prod.mk.injEq] at hv
          obtain ⟨rfl, rfl⟩ := hv
          obtain ⟨en, e1, e2, e3, e4⟩ := EntRel.get i _ h2 g1
          have hkey : en.key = kv := by simp only at e2; rw [hkv] at e2; exact (Option.some.inj e2).symm
          have he := setE_rel (ρ := ρ) hy i h2
          obtain ⟨p1, p2⟩ := put_map (clock' := clock) hr hg hxb h1 he
          refine ⟨rfl, _, ?_, p1, p2⟩
          simp only [Instr.mapUpdate, Sem.run_bind, run_under hu, Result.andThen_ok, run_getObj_of h1, hck, hrun]
          have hgd : ((L.toArray[i]?).map (·.key)).getD kv = kv := getD_key e1 hkey
          rw [hgd, key_stays (P := P) (findE_same hf) hkv w]
          simp only [Result.andThen_ok]
          rw [run_setObj_of _ h1]
          have hm : (L.toArray.modify i fun e => { e with key := kv, val := y }) = (L.modify i fun e => { e with val := y }).toArray := by
            apply Array.ext'
            rw [Array.toList_modify]
            apply List.ext_getElem?
            intro j
            simp only [List.getElem?_modify]
            by_cases hij : i = j
            · subst hij; simp [e1, hkey]
            · simp [hij]
          rw [hm]
      · cases hv
    · cases hv

theorem del_spec [Env] {t : TypeId} {agg : Bool} {ts : List Nat} {x k r : V} {u kv : Value} {ats : Array TypeId} {ty : TypeId} (hat : ats[0]? = some t) (hk : cKM P t = some (agg, ts)) (hr : HRel ρ h w) (hv : mDelV h agg ts x k = some (r, h')) (hx : conc ρ x = some u) (hkv : conc ρ k = some kv) :
    r = undefV ∧ ∃ w', (Builtin.delete_ ats ty #[u, kv]).run P w = .ok (.tuple #[]) w' ∧ HRel ρ h' w' ∧ Ext ρ h w ρ h' w' := by
  obtain ⟨kt, e, hu, hkc⟩ := cKM_spec hk
  unfold mDelV at hv
  have ha0 : (#[u, kv] : Array Value)[0]? = some u := rfl
  have ha1 : (#[u, kv] : Array Value)[1]? = some kv := rfl
  cases hko : keyOk agg ts k with
  | false => simp [hko] at hv
  | true =>
    simp only [hko, cond_true] at hv
    have hck := fun em => keyOk_check (P := P) hkc hko hkv em w
    split at hv
    · rename_i b
      unfold mDelOb at hv
      split at hv
      · rename_i es clock hg
        obtain ⟨x, L, hxb, rfl, h1, h2⟩ := map_spec hr hg hx
        unfold mDel at hv
        split at hv
        · cases hv
        · rename_i hf
          obtain ⟨f1, _⟩ := findKey_spec (P := P) hkc hkv h2 hf w
          simp only [Option.some.injEq, Prod.mk.injEq] at hv
          obtain ⟨rfl, rfl⟩ := hv
          obtain ⟨p1, p2⟩ := put_map (clock' := clock) hr hg hxb h1 h2
          refine ⟨rfl, _, ?_, p1, p2⟩
          simp only [Builtin.delete_, hat, ha0, ha1, Sem.run_bind, run_under hu, Result.andThen_ok, run_getObj_of h1, hck, f1 rfl]
          rw [run_setObj_of _ h1]
          rfl
        · rename_i i v' b' hf
          obtain ⟨_, f2⟩ := findKey_spec (P := P) hkc hkv h2 hf w
          obtain ⟨g1, y', hy', hrun⟩ := f2 i v' b' rfl
          simp only [Option.some.injEq, Prod.mk.injEq] at hv
          obtain ⟨rfl, rfl⟩ := hv
          have he := delE_rel (ρ := ρ) i h2
          obtain ⟨p1, p2⟩ := put_map (clock' := clock) hr hg hxb h1 he
          refine ⟨rfl, _, ?_, p1, p2⟩
          simp only [Builtin.delete_, hat, ha0, ha1, Sem.run_bind, run_under hu, Result.andThen_ok, run_getObj_of h1, hck, hrun]
          rw [run_setObj_of _ h1]
          have hm : L.toArray.eraseIdxIfInBounds i = (L.eraseIdx i).toArray := by
            apply Array.ext'
            simp [Array.eraseIdxIfInBounds]
            split
            · simp
            · rename_i hi
              rw [List.eraseIdx_of_length_le (by omega)]
          rw [hm]
          rfl
      · cases hv
    · simp only [Option.some.injEq, Prod.mk.injEq] at hv
      obtain ⟨rfl, rfl⟩ := hv
      simp [conc] at hx; subst hx
      refine ⟨rfl, w, ?_, hr, .refl _ _ _⟩
      simp only [Builtin.delete_, hat, ha0, ha1, Sem.run_bind, run_under hu, Result.andThen_ok, hck]
      rfl
    · cases hv

theorem mentry_spec [Env] {t : TypeId} {agg : Bool} {ts : List Nat} {x k r zero : V} {u kv : Value} (hk : cKM P t = some (agg, ts)) (hz : cZM P t = some zero) (hr : HRel ρ h w) (hv : mEntV h agg ts zero x k = some (r, h')) (hx : conc ρ x = some u) (hkv : conc ρ k = some kv) :
    ∃ y w', (Instr.mapEntry t u kv).run P w = .ok y w' ∧ conc ρ r = some y ∧ HRel ρ h' w' ∧ Ext ρ h w ρ h' w' := by
  obtain ⟨kt, e, hu, hkc⟩ := cKM_spec hk
  simp only [cZM, hu, Option.bind_eq_some_iff] at hz
  obtain ⟨zv, ⟨inf, hi, hz⟩, hcz⟩ := hz
  have hzr : ∀ w, (zeroValue e).run P w = .ok zv w := fun w => by simp [zeroValue, typeInfo, hi, hz]
  have hcz := cV_spec ρ _ _ hcz
  unfold mEntV at hv
  cases hko : keyOk agg ts k with
  | false => simp [hko] at hv
  | true =>
    simp only [hko, cond_true] at hv
    split at hv
    · rename_i b
      unfold mEntOb at hv
      split at hv
      · rename_i es clock hg
        obtain ⟨x, L, hxb, rfl, h1, h2⟩ := map_spec hr hg hx
        have hck := keyOk_check (P := P) hkc hko hkv false w
        unfold mEnt at hv
        split at hv
        · cases hv
        · rename_i hf
          obtain ⟨f1, _⟩ := findKey_spec (P := P) hkc hkv h2 hf w
          simp only [Option.some.injEq, Prod.mk.injEq] at hv
          obtain ⟨rfl, rfl⟩ := hv
          have he := endE_rel (ρ := ρ) (e := { key := kv, val := zv, born := clock }) hkv hcz rfl h2
          obtain ⟨p1, p2⟩ := put_map (clock' := clock + 1) hr hg hxb h1 he
          refine ⟨.tuple #[zv, goInt clock], _, ?_, by simp [conc, concs, hcz, goInt], p1, p2⟩
          simp only [Instr.mapEntry, Sem.run_bind, run_under hu, Result.andThen_ok, run_getObj_of h1, hck, f1 rfl, hzr]
          rw [run_setObj_of _ h1]
          simp
        · rename_i i v' b' hf
          obtain ⟨_, f2⟩ := findKey_spec (P := P) hkc hkv h2 hf w
          obtain ⟨g1, y', hy', hrun⟩ := f2 i v' b' rfl
          simp only [Option.some.injEq, Prod.mk.injEq] at hv
          obtain ⟨rfl, rfl⟩ := hv
          obtain ⟨en, e1, e2, e3, e4⟩ := EntRel.get i _ h2 g1
          have hkey : en.key = kv := by simp only at e2; rw [hkv] at e2; exact (Option.some.inj e2).symm
          obtain ⟨p1, p2⟩ := put_map (es' := es) (clock' := clock) hr hg hxb h1 h2
          have hgd : ((L.toArray[i]?).map (·.key)).getD kv = kv := getD_key e1 hkey
          have hm : (L.toArray.modify i fun e => { e with key := kv }) = L.toArray := by
            apply Array.ext'
            rw [Array.toList_modify]
            apply List.ext_getElem?
            intro j
            simp only [List.getElem?_modify]
            by_cases hij : i = j
            · subst hij; simp only [if_true, e1, Option.map_some]; subst hkey; rfl
            · simp [hij]
          have hwe : ({ w with heap := w.heap.setIfInBounds x.1 (.map L.toArray clock) } : World) = w := by
            have : w.heap.setIfInBounds x.1 (.map L.toArray clock) = w.heap := by
              apply Array.ext_getElem?
              intro j
              by_cases hj : x.1 = j
              · subst hj; rw [h1]; simp [Array.getElem?_setIfInBounds, (Array.getElem?_eq_some_iff.1 h1).1]
              · rw [Array.getElem?_setIfInBounds_ne hj]
            rw [this]
          refine ⟨.tuple #[y', goInt b'], w, ?_, by simp [conc, concs, hy', goInt], hr, .refl _ _ _⟩
          simp only [Instr.mapEntry, Sem.run_bind, run_under hu, Result.andThen_ok, run_getObj_of h1, hck, hrun]
          rw [hgd, key_stays (P := P) (findE_same hf) hkv w]
          simp only [Result.andThen_ok]
          rw [run_setObj_of _ h1, hm, hwe]
          simp [e1, e4]
      · cases hv
    · cases hv

theorem est_spec [Env] {t : TypeId} {x v sv r : V} {s : Nat} {u su y : Value} (hr : HRel ρ h w) (hv : mStV h x (some s) v = some (r, h')) (hx : conc ρ x = some u) (hs : asN sv = some s) (hsu : conc ρ sv = some su) (hy : conc ρ v = some y) :
    r = undefV ∧ ∃ w', (Instr.entryStore t u su y).run P w = .ok () w' ∧ HRel ρ h' w' ∧ Ext ρ h w ρ h' w' := by
  obtain ⟨j, rfl⟩ := asN_spec hs hsu
  unfold mStV at hv
  split at hv
  · rename_i b
    simp only at hv
    unfold mStOb at hv
    split at hv
    · rename_i es clock hg
      obtain ⟨x, L, hxb, rfl, h1, h2⟩ := map_spec hr hg hx
      split at hv
      · rename_i es' hse
        simp only [Option.some.injEq, Prod.mk.injEq] at hv
        obtain ⟨rfl, rfl⟩ := hv
        obtain ⟨i, g1, g2⟩ := setS_rel (ρ := ρ) hy h2 hse
        obtain ⟨p1, p2⟩ := put_map (clock' := clock) hr hg hxb h1 g2
        refine ⟨rfl, _, ?_, p1, p2⟩
        have hfi : L.toArray.findIdx? (fun e => (e.born : Int) == (s : Int)) = some i := by simpa using g1
        simp only [Instr.entryStore, Sem.run_bind, run_getObj_of h1, Result.andThen_ok, asInt, asIntOf, Sem.run_pure, hfi]
        rw [run_setObj_of _ h1]
        simp
      · cases hv
    · cases hv
  · cases hv

theorem rng_spec [Env] {t kt e : TypeId} {x r : V} {u : Value} (hu : P.underlying t = some (.map kt e)) (hr : HRel ρ h w) (hv : mRngV h x = some (r, h')) (hx : conc ρ x = some u) :
    ∃ ρ' y w', (Instr.range t u).run P w = .ok y w' ∧ conc ρ' r = some y ∧ HRel ρ' h' w' ∧ Ext ρ h w ρ' h' w' := by
  unfold mRngV at hv
  split at hv
  · simp only [Option.some.injEq, Prod.mk.injEq] at hv
    obtain ⟨rfl, rfl⟩ := hv
    simp [conc] at hx; subst hx
    obtain ⟨p1, p2⟩ := hr.new (.it none 0 [] 0) (.mapIter none 0 #[] 0) 0 rfl
    refine ⟨_, .pointer (some ⟨w.heap.size, 0, none⟩), _, ?_, by simp [conc, Ren.add_self], p1, p2⟩
    simp only [Instr.range, Sem.run_bind, run_under hu, Result.andThen_ok, Sem.run_pure, run_newObj]
  · rename_i b
    unfold mRngOb at hv
    split at hv
    · rename_i es clock hg
      simp only [Option.some.injEq, Prod.mk.injEq] at hv
      obtain ⟨rfl, rfl⟩ := hv
      obtain ⟨x, L, hxb, rfl, h1, h2⟩ := map_spec hr hg hx
      obtain ⟨p1, p2⟩ := hr.new (.it (some b) clock [] clock) (.mapIter (some x.1) clock #[] clock) 0 ⟨x, hxb, rfl⟩
      refine ⟨_, .pointer (some ⟨w.heap.size, 0, none⟩), _, ?_, by simp [conc, Ren.add_self], p1, p2⟩
      simp only [Instr.range, Sem.run_bind, run_under hu, Result.andThen_ok, run_getObj_of h1, Sem.run_pure, run_newObj]
    · cases hv
  · cases hv

theorem memN_contains (n : Nat) : ∀ (l : List Nat), memN n l = l.reverse.toArray.contains n := by
  intro l
  have : ∀ l : List Nat, memN n l = l.contains n := by
    intro l
    induction l with
    | nil => rfl
    | cons m l ih =>
      simp only [memN, List.contains_cons, ih]
      have : Nat.beq m n = (n == m) := by rw [Bool.eq_iff_iff]; simp [Nat.beq_eq]; exact eq_comm
      rw [this]
      cases (n == m) <;> rfl
  rw [this l]
  simp

theorem leftE_rel [Env] {seen : List Nat} : ∀ {es : List (V × V × Nat)} {L : List MapEntry}, EntRel ρ es L → EntRel ρ (leftE seen es) (L.filter fun e => !memN e.born seen)
  | [], [], _ => trivial
  | [], _ :: _, e => e.elim
  | _ :: _, [], e => e.elim
  | (k, v, b) :: es, e :: L, ⟨h1, h2, h3, h4⟩ => by
    simp only [leftE, List.filter_cons, h3]
    cases hm : memN b seen with
    | true => simpa using leftE_rel (seen := seen) h4
    | false => exact ⟨h1, h2, h3, leftE_rel (seen := seen) h4⟩

theorem allNew_rel [Env] {last : Nat} : ∀ {es : List (V × V × Nat)} {L : List MapEntry}, EntRel ρ es L → L.all (fun e => decide (e.born ≥ last)) = allNew last es
  | [], [], _ => rfl
  | [], _ :: _, e => e.elim
  | _ :: _, [], e => e.elim
  | (k, v, b) :: es, e :: L, ⟨h1, h2, h3, h4⟩ => by
    simp only [List.all_cons, allNew, h3, allNew_rel (last := last) h4]
    cases hb : Nat.ble last b with
    | true => have := Nat.le_of_ble_eq_true hb; simp [this]
    | false =>
      have : ¬ last ≤ b := fun hle => by rw [Nat.ble_eq_true_of_le hle] at hb; cases hb
      simp [this]

theorem run_choose_one (w : World) : (choose (Question.mapNext 1)).run P w = .ok 0 w := by simp [choose, Sem.run, Question.forced]

theorem nxt_spec [Env] {x r : V} {u : Value} {ty : TypeId} (hr : HRel ρ h w) (hv : mNxtV h x = some (r, h')) (hx : conc ρ x = some u) :
    ∃ y w', (Instr.next u false ty).run P w = .ok y w' ∧ conc ρ r = some y ∧ HRel ρ h' w' ∧ Ext ρ h w ρ h' w' := by
  unfold mNxtV at hv
  split at hv
  · rename_i b o
    cases ho : Nat.beq o 0 with
    | false => simp [ho] at hv
    | true =>
      have := Nat.eq_of_beq_eq_true ho
      subst this
      simp only [ho, cond_true] at hv
      unfold mNxtOb at hv
      split at hv
      · rename_i mp since seen last hg
        obtain ⟨q, hq, rfl⟩ := conc_p hx
        obtain ⟨x2, hx2, g1, g2⟩ := it_spec hr hg
        rw [hq] at hx2; cases hx2
        split at hv
        · simp only [Option.some.injEq, Prod.mk.injEq] at hv
          obtain ⟨rfl, rfl⟩ := hv
          have h1 := g1 rfl
          refine ⟨.tuple #[.bool false], w, ?_, rfl, hr, .refl _ _ _⟩
          simp only [Instr.next, Sem.run_bind, run_getObj_of h1, Result.andThen_ok, Sem.run_pure]
        · rename_i m
          obtain ⟨y, hy, h1⟩ := g2 m rfl
          unfold mNxtM at hv
          split at hv
          · rename_i es clock hgm
            obtain ⟨y2, L, hy2, _, h2, h3⟩ := map_spec hr hgm (show conc ρ (.m m) = some (.map (some y.1)) by simp [conc, hy])
            rw [hy] at hy2; cases hy2
            cases hga : goneAll last seen es with
            | true => simp [hga] at hv
            | false =>
              simp only [hga, cond_false] at hv
              have ht : (!seen.reverse.toArray.isEmpty && !L.toArray.isEmpty && L.toArray.all (fun e => decide (e.born ≥ last))) = false := by
                have e1 : L.toArray.all (fun e => decide (e.born ≥ last)) = allNew last es := by rw [← allNew_rel h3]; simp
                have e2 : L.toArray.isEmpty = es.isEmpty := by
                  have := EntRel.length h3
                  cases L <;> cases es <;> simp at this ⊢
                rw [e1, e2]
                unfold goneAll at hga
                cases seen with
                | nil => simp
                | cons s seen =>
                  cases es with
                  | nil => simp
                  | cons e es => simp only at hga; simp [hga]
              have hleft : (L.toArray.filter fun e => !seen.reverse.toArray.contains e.born) = (L.filter fun e => !memN e.born seen).toArray := by
                have : (fun e : MapEntry => !seen.reverse.toArray.contains e.born) = fun e => !memN e.born seen := by funext e; rw [memN_contains]
                rw [this]
                apply Array.ext'
                simp
              have hlr := leftE_rel (seen := seen) h3
              generalize (L.filter fun e => !memN e.born seen) = F at hlr hleft
              unfold mNxtL at hv
              split at hv
              · rename_i hle
                rw [hle] at hlr
                have : F = [] := by cases F with | nil => rfl | cons _ _ => exact hlr.elim
                subst this
                simp only [Option.some.injEq, Prod.mk.injEq] at hv
                obtain ⟨rfl, rfl⟩ := hv
                refine ⟨.tuple #[.bool false], w, ?_, rfl, hr, .refl _ _ _⟩
                simp only [Instr.next, Sem.run_bind, run_getObj_of h1, run_getObj_of h2, Result.andThen_ok]
                rw [if_neg (by rw [ht]; simp)]
                rw [hleft]
                simp [Question.forced]
              · rename_i k v s l hle
                rw [hle] at hlr
                split at hv
                · cases hbl : Nat.blt s since with
                  | false => simp [hbl] at hv
                  | true =>
                    simp only [hbl, cond_true, Option.some.injEq, Prod.mk.injEq] at hv
                    obtain ⟨rfl, rfl⟩ := hv
                    have hbl : s < since := by simpa [Nat.blt_eq] using hbl
                    obtain ⟨en, rfl⟩ : ∃ en, F = [en] := by
                      cases F with
                      | nil => exact hlr.elim
                      | cons en F => cases F with
                        | nil => exact ⟨en, rfl⟩
                        | cons _ _ => exact hlr.2.2.2.elim
                    obtain ⟨k1, k2, k3, _⟩ := hlr
                    have hqlt : q.1 < w.heap.size := (Array.getElem?_eq_some_iff.1 h1).1
                    obtain ⟨p1, p2⟩ := hr.put (w' := { w with heap := w.heap.setIfInBounds q.1 (.mapIter (some y.1) since (seen.reverse.toArray.push s) clock) }) (by rw [hg]; rfl) hq (.it (some m) since (s :: seen) clock) (by simp) ⟨rfl, rfl, rfl⟩
                      (fun k hk => by simp only [Array.getElem?_setIfInBounds_ne (Ne.symm hk)]) (show ObRel ρ q.2 (.it (some m) since (s :: seen) clock) _ from ⟨y, hy, by simp [Array.getElem?_setIfInBounds, hqlt]⟩)
                    refine ⟨.tuple #[.bool true, en.key, en.val], _, ?_, by simp [conc, concs, k1, k2], p1, p2⟩
                    simp only [Instr.next, Sem.run_bind, run_getObj_of h1, run_getObj_of h2, Result.andThen_ok]
                    rw [if_neg (by rw [ht]; simp)]
                    rw [hleft]
                    have hso : ∀ o : Obj, (setObj q.1 o).run P w = .ok () { w with heap := w.heap.setIfInBounds q.1 o } := fun o => by simp [setObj, Sem.run, h1]
                    have e1 : ([en].toArray.filter (fun x => decide (x.born < since))) = [en].toArray := by simp [k3, hbl]
                    have e2 : ([en].toArray.filter (fun x => decide (x.born ≥ since))) = #[] := by
                      have : ¬ since ≤ s := by omega
                      simp [k3, this]
                    simp only [e1, e2]
                    simp [Question.forced, hso, k3]
                · cases hv
          · cases hv
      · cases hv
  · cases hv

theorem cln_spec [Env] {x r : V} {u : Value} (hr : HRel ρ h w) (hv : mClnV h x = some (r, h')) (hx : conc ρ x = some u) :
    ∃ ρ' y w', (Extern.MapsClone.clone #[u]).run P w = .ok y w' ∧ conc ρ' r = some y ∧ HRel ρ' h' w' ∧ Ext ρ h w ρ' h' w' := by
  unfold mClnV at hv
  split at hv
  · rename_i t v
    split at hv
    · rename_i b
      unfold mClnOb at hv
      split at hv
      · rename_i es clock hg
        simp only [Option.some.injEq, Prod.mk.injEq] at hv
        obtain ⟨rfl, rfl⟩ := hv
        obtain ⟨u', hu', rfl⟩ := conc_ifc hx
        obtain ⟨x, L, hxb, rfl, h1, h2⟩ := map_spec hr hg hu'
        obtain ⟨p1, p2⟩ := hr.new (.m es clock) (.map L.toArray clock) 0 ⟨L, rfl, h2⟩
        refine ⟨_, .iface t (.map (some w.heap.size)), _, ?_, by simp [conc, Ren.add_self], p1, p2⟩
        have hcl : ∀ (t : TypeId) (r : Nat), Extern.MapsClone.clone #[.iface t (.map (some r))] = (do
          let .map entries clock ← getObj r | stuck "maps.clone: a map expected"
          pure (.iface t (.map (some (← newObj (.map entries clock)))))) := fun _ _ => rfl
        rw [hcl]
        simp only [Sem.run_bind, run_getObj_of h1, Result.andThen_ok, run_newObj, Sem.run_pure]
      · cases hv
    · cases hv
  · cases hv

/-! ### Calls of methods -/

/-- How the method of a name is called on values of a type: the function, and what is to be read of the pointer, if anything. -/
def rowOf (P : Program) (name : String) (i : TypeInfo) (t : TypeId) : Option (Path × Option (Bool × Nat)) :=
  (i.methods.toList.find? (·.name == name)).bind fun m => match m.path.toList, m.func with
    | [], some (f, pr) => (match P.underlying t with
      | some (.pointer e) => if pr then some (Path.of f, none) else (aggO P e).bind fun g => (szO P e).map fun n => (Path.of f, some (g, n))
      | some _ => if pr then none else some (Path.of f, none)
      | none => none)
    | _, _ => none

def rowsFrom (P : Program) (name : String) : List TypeInfo → Nat → List (Nat × Path × Option (Bool × Nat))
  | [], _ => []
  | i :: l, t => match rowOf P name i t with
    | some r => (t, r) :: rowsFrom P name l (t + 1)
    | none => rowsFrom P name l (t + 1)

def findT (t : Nat) : List (Nat × Path × Option (Bool × Nat)) → Option (Path × Option (Bool × Nat))
  | [] => none
  | (u, r) :: l => cond (Nat.beq u t) (some r) (findT t l)

noncomputable def invR (h : H) (v : V) (args : List V) (r : Option (Path × Option (Bool × Nat))) : Option (Path × List V) :=
  match r with
  | none => none
  | some (f, k) => match k with
    | none => some (f, v :: args)
    | some (g, n) => (match loadV h g n v with | some u => some (f, u :: args) | none => none)

noncomputable def invV (h : H) (tbl : List (Nat × Path × Option (Bool × Nat))) (x : V) (args : List V) : Option (Path × List V) :=
  match x with
  | .ifc t v => invR h v args (findT t tbl)
  | _ => none

theorem findT_spec {name : String} : ∀ (l : List TypeInfo) (t0 t : Nat) (r : Path × Option (Bool × Nat)), findT t (rowsFrom P name l t0) = some r → ∃ i, t0 ≤ t ∧ l[t - t0]? = some i ∧ rowOf P name i t = some r
  | [], _, _, _, h => by simp [rowsFrom, findT] at h
  | i :: l, t0, t, r, h => by
    simp only [rowsFrom] at h
    have rest : findT t (rowsFrom P name l (t0 + 1)) = some r → ∃ i', t0 ≤ t ∧ (i :: l)[t - t0]? = some i' ∧ rowOf P name i' t = some r := by
      intro h
      obtain ⟨i', a, b, c⟩ := findT_spec l (t0 + 1) t r h
      refine ⟨i', by omega, ?_, c⟩
      rw [show t - t0 = (t - (t0 + 1)) + 1 by omega]
      simpa using b
    split at h
    · rename_i r' hr'
      simp only [findT] at h
      cases hb : Nat.beq t0 t with
      | true =>
        have hb := Nat.eq_of_beq_eq_true hb
        subst hb
        simp only [Nat.beq_refl, cond_true, Option.some.injEq] at h
        subst h
        exact ⟨i, Nat.le_refl _, by simp, hr'⟩
      | false =>
        simp only [hb, cond_false] at h
        exact rest h
    · exact rest h

end
end Go.Eng

namespace Go.Eng

def allOld (since : Nat) : List (V × V × Nat) → Bool
  | [] => true
  | (_, _, b) :: l => cond (Nat.blt b since) (allOld since l) false

noncomputable def nxtEach (h : H) (b m : Path) (since : Nat) (seen : List Nat) (clock : Nat) : List (V × V × Nat) → List (V × H)
  | [] => []
  | (k, v, s) :: l => (.t [.b true, k, v], h.put b (.it (some m) since (s :: seen) clock)) :: nxtEach h b m since seen clock l

noncomputable def nxtAll (h : H) (b m : Path) (since : Nat) (seen : List Nat) (clock : Nat) (l : List (V × V × Nat)) : List (V × H) :=
  match l with
  | [] => [(.t [.b false], h)]
  | e :: l => nxtEach h b m since seen clock (e :: l)

noncomputable def ndNxtM (h : H) (b m : Path) (since : Nat) (seen : List Nat) (last : Nat) (o : Ob) : Option (List (V × H)) :=
  match o with
  | .m es clock => cond (Nat.ble since last) (cond (allOld since es) (some (nxtAll h b m since seen clock (leftE seen es))) none) none
  | _ => none

noncomputable def ndNxtOb (h : H) (b : Path) (o : Ob) : Option (List (V × H)) :=
  match o with
  | .it mp since seen last => (match mp with
    | none => some [(.t [.b false], h)]
    | some m => ndNxtM h b m since seen last (h.get m))
  | _ => none

noncomputable def ndNxt (h : H) (x : V) : Option (List (V × H)) :=
  match x with
  | .p b o => cond (Nat.beq o 0) (ndNxtOb h b (h.get b)) none
  | _ => none

section
variable {P : Program} {ρ : Ren} {h h' : H} {w : World}

theorem allOld_spec [Env] {since : Nat} : ∀ {es : List (V × V × Nat)} {L : List MapEntry}, EntRel ρ es L → allOld since es = true → ∀ x ∈ L, x.born < since
  | [], [], _, _, _, hx => by simp at hx
  | [], _ :: _, e, _, _, _ => e.elim
  | _ :: _, [], e, _, _, _ => e.elim
  | (k, v, b) :: es, e :: L, ⟨_, _, h3, h4⟩, ha, x, hx => by
    simp only [allOld] at ha
    cases hb : Nat.blt b since with
    | false => rw [hb] at ha; cases ha
    | true =>
      rw [hb, cond_true] at ha
      rcases List.mem_cons.1 hx with rfl | hx
      · rw [h3]; simpa [Nat.blt_eq] using hb
      · exact allOld_spec h4 ha x hx

theorem nxtEach_mem [Env] {h : H} {b m : Path} {since : Nat} {seen : List Nat} {clock : Nat} : ∀ {es : List (V × V × Nat)} {L : List MapEntry}, EntRel ρ es L → ∀ e ∈ L, ∃ k v, conc ρ k = some e.key ∧ conc ρ v = some e.val ∧
    (V.t [.b true, k, v], h.put b (.it (some m) since (e.born :: seen) clock)) ∈ nxtEach h b m since seen clock es
  | [], [], _, _, hx => by simp at hx
  | [], _ :: _, e, _, _ => e.elim
  | _ :: _, [], e, _, _ => e.elim
  | (k, v, s) :: es, e' :: L, ⟨h1, h2, h3, h4⟩, e, he => by
    rcases List.mem_cons.1 he with rfl | he
    · exact ⟨k, v, h1, h2, by rw [h3]; exact List.mem_cons_self⟩
    · obtain ⟨k', v', g1, g2, g3⟩ := nxtEach_mem h4 e he
      exact ⟨k', v', g1, g2, List.mem_cons_of_mem _ g3⟩

theorem ndNxt_spec [Env] {x : V} {u : Value} {ty : TypeId} {l : List (V × H)} (hr : HRel ρ h w) (hv : ndNxt h x = some l) (hx : conc ρ x = some u) :
    ∃ p ∈ l, ∃ y w', (Instr.next u false ty).run P w = .ok y w' ∧ conc ρ p.1 = some y ∧ HRel ρ p.2 w' ∧ Ext ρ h w ρ p.2 w' := by
  unfold ndNxt at hv
  split at hv
  · rename_i b o
    cases ho : Nat.beq o 0 with
    | false => simp [ho] at hv
    | true =>
      have := Nat.eq_of_beq_eq_true ho
      subst this
      simp only [ho, cond_true] at hv
      unfold ndNxtOb at hv
      split at hv
      · rename_i mp since seen last hg
        obtain ⟨q, hq, rfl⟩ := conc_p hx
        obtain ⟨x2, hx2, g1, g2⟩ := it_spec hr hg
        rw [hq] at hx2; cases hx2
        split at hv
        · cases hv
          have h1 := g1 rfl
          refine ⟨_, List.mem_singleton.2 rfl, .tuple #[.bool false], w, ?_, rfl, hr, .refl _ _ _⟩
          simp only [Instr.next, Sem.run_bind, run_getObj_of h1, Result.andThen_ok, Sem.run_pure]
        · rename_i m
          obtain ⟨y, hy, h1⟩ := g2 m rfl
          unfold ndNxtM at hv
          split at hv
          · rename_i es clock hgm
            obtain ⟨y2, L, hy2, _, h2, h3⟩ := map_spec hr hgm (show conc ρ (.m m) = some (.map (some y.1)) by simp [conc, hy])
            rw [hy] at hy2; cases hy2
            cases hsl : Nat.ble since last with
            | false => simp [hsl] at hv
            | true =>
              cases hal : allOld since es with
              | false => simp [hsl, hal] at hv
              | true =>
                simp only [hsl, hal, cond_true, Option.some.injEq] at hv
                subst hv
                have hold : ∀ x ∈ L.toArray.toList, x.born < since := fun x hx => allOld_spec h3 hal x (by simpa using hx)
                have hleft : leftOf L.toArray seen.reverse.toArray = (L.filter fun e => !memN e.born seen).toArray := by
                  unfold leftOf
                  have : (fun e : MapEntry => !seen.reverse.toArray.contains e.born) = fun e => !memN e.born seen := by funext e; rw [memN_contains]
                  rw [this]
                  apply Array.ext'
                  simp
                have hlr := leftE_rel (seen := seen) h3
                rcases run_next_at (P := P) w ty q.1 y.1 since last seen.reverse.toArray L.toArray clock h1 h2 hold (Nat.le_of_ble_eq_true hsl) with ⟨e1, e2⟩ | ⟨e, he, w1, hw1, hrun⟩
                · rw [hleft] at e1
                  have hF : (L.filter fun e => !memN e.born seen) = [] := by simpa using e1
                  rw [hF] at hlr
                  have hE : leftE seen es = [] := by cases hq' : leftE seen es with | nil => rfl | cons _ _ => rw [hq'] at hlr; exact hlr.elim
                  rw [hE]
                  exact ⟨_, List.mem_singleton.2 rfl, _, w, e2, rfl, hr, .refl _ _ _⟩
                · rw [hleft] at he
                  have he : e ∈ (L.filter fun e => !memN e.born seen) := by simpa using he
                  have hne : ∃ a l, leftE seen es = a :: l := by
                    cases hq' : leftE seen es with
                    | nil =>
                      rw [hq'] at hlr
                      cases hF : (L.filter fun e => !memN e.born seen) with
                      | nil => rw [hF] at he; simp at he
                      | cons _ _ => rw [hF] at hlr; exact hlr.elim
                    | cons a l => exact ⟨a, l, rfl⟩
                  obtain ⟨a, l, hal'⟩ := hne
                  obtain ⟨k, v, c1, c2, c3⟩ := nxtEach_mem (h := h) (b := b) (m := m) (since := since) (seen := seen) (clock := clock) hlr e he
                  have hqlt : q.1 < w.heap.size := (Array.getElem?_eq_some_iff.1 h1).1
                  have hheap : w1.heap = w.heap := by rcases hw1 with rfl | rfl <;> rfl
                  have hstr : Str w (ChangeMaps.setBlock w1 q.1 (.mapIter (some y.1) since (seen.reverse.toArray.push e.born) clock)) := by rcases hw1 with rfl | rfl <;> exact ⟨rfl, rfl, rfl⟩
                  obtain ⟨p1, p2⟩ := hr.put (w' := ChangeMaps.setBlock w1 q.1 (.mapIter (some y.1) since (seen.reverse.toArray.push e.born) clock)) (by rw [hg]; rfl) hq (.it (some m) since (e.born :: seen) clock)
                    (by simp [ChangeMaps.setBlock, hheap]) hstr (fun k hk => by simp only [ChangeMaps.setBlock, hheap, Array.getElem?_setIfInBounds_ne (Ne.symm hk)])
                    (show ObRel ρ q.2 (.it (some m) since (e.born :: seen) clock) _ from ⟨y, hy, by simp [ChangeMaps.setBlock, hheap, hqlt]⟩)
                  refine ⟨(V.t [.b true, k, v], h.put b (.it (some m) since (e.born :: seen) clock)), ?_, _, _, hrun, ?_, p1, p2⟩
                  · rw [hal'] at c3 ⊢; exact c3
                  · simp [conc, concs, c1, c2]
          · cases hv
      · cases hv
  · cases hv

end
end Go.Eng

