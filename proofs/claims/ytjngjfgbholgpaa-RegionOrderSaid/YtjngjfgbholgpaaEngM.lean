/- The engine, part M: operations that read memory, operations that make memory. -/
import Derived.Test.YtjngjfgbholgpaaEngLa
import Derived.Laws.BytesString
set_option linter.unusedSimpArgs false
set_option linter.unusedVariables false
namespace Go.Eng

/-- Operations that read memory and change nothing. -/
inductive RI where
  | load (agg : Bool) (n : Nat) (x : Opd)
  | slArr (n es : Nat) (x : Opd) (lo hi mx : Option Opd)
  | b2s (x : Opd)
  | lenM (x : Opd)
  | look (agg : Bool) (ts : List Nat) (zero : V) (ok : Bool) (x k : Opd)
  | ent (x : Opd)
  | glob (g : Nat)
  | globI (c g : Nat)
  | ixs (c : Nat) (x y : Opd)

noncomputable def loadV (h : H) (agg : Bool) (n : Nat) (x : V) : Option V :=
  match x with
  | .p b o => match loadC h b o n with
    | some l => pick1 agg l
    | none => none
  | _ => none

noncomputable def slArrH (h : H) (n es : Nat) (x : V) (lo hi : Option Nat) (mx : Option (Option Nat)) : Option V :=
  match x with
  | .p b off => match obCells (h.get b) with
    | some l => cond (Nat.ble (off + n * es) l.length) (slArrV n es (.p b off) lo hi mx) none
    | none => none
  | _ => none

/-- Bytes of cells. -/
def bytesOf : List V → Option (List Nat)
  | [] => some []
  | x :: l => match x with
    | .i .u8 (.ofNat n) => cond (Nat.blt n 256) (match bytesOf l with | some r => some (n :: r) | none => none) none
    | _ => none

noncomputable def b2sV (h : H) (x : V) : Option V :=
  match x with
  | .sl0 => some (.s [])
  | .sl b o n _ _ es => cond (Nat.beq es 1) (match loadC h b o n with
    | some l => (match bytesOf l with | some r => some (.s r) | none => none)
    | none => none) none
  | _ => none

noncomputable def lenMV (h : H) (x : V) : Option V :=
  match x with
  | .m0 => some (.i .i64 (.ofNat 0))
  | .m b => match h.get b with
    | .m es _ => some (.i .i64 (.ofNat es.length))
    | _ => none
  | _ => none

def lookRes (ok : Bool) (zero : V) (r : Option (Option (Nat × V × Nat))) : Option V :=
  match r with
  | none => none
  | some none => some (cond ok (.t [zero, .b false]) zero)
  | some (some (_, v, _)) => some (cond ok (.t [v, .b true]) v)

noncomputable def lookOb (agg : Bool) (ts : List Nat) (zero : V) (ok : Bool) (k : V) (o : Ob) : Option V :=
  match o with
  | .m es _ => lookRes ok zero (findE agg ts k es 0)
  | _ => none

noncomputable def lookV (h : H) (agg : Bool) (ts : List Nat) (zero : V) (ok : Bool) (x k : V) : Option V :=
  cond (keyOk agg ts k) (match x with
    | .m0 => lookRes ok zero (some none)
    | .m b => lookOb agg ts zero ok k (h.get b)
    | _ => none) none

/-- The entry of a stamp. -/
def entE (s : Nat) : List (V × V × Nat) → Option (V × V)
  | [] => none
  | (k, v, b) :: l => cond (Nat.beq b s) (some (k, v)) (entE s l)

noncomputable def entOb (s last : Nat) (o : Ob) : Option V :=
  match o with
  | .m es clock => cond (Nat.beq clock last) (match entE s es with | some (k, v) => some (.t [k, v]) | none => none) none
  | _ => none

noncomputable def entIt (h : H) (o : Ob) : Option V :=
  match o with
  | .it mp _ seen last => (match mp with
    | some m => (match seen with | s :: _ => entOb s last (h.get m) | [] => none)
    | none => none)
  | _ => none

noncomputable def entV (h : H) (x : V) : Option V :=
  match x with
  | .p b o => cond (Nat.beq o 0) (entIt h (h.get b)) none
  | _ => none

def globIV (c g : Nat) : V :=
  match c with
  | 2 => .i .i64 (.ofNat 3)
  | c => .oi g c

/-- Do some bytes begin a list? -/
def begL : List Nat → List Nat → Bool
  | [], _ => true
  | a :: x, l => match l with
    | b :: y => cond (Nat.beq a b) (begL x y) false
    | [] => false

/-- Where bytes stand first. -/
def ixsL (sub : List Nat) : List Nat → Nat → Int
  | [], _ => .negSucc 0
  | b :: l, k => cond (begL sub (b :: l)) (.ofNat k) (ixsL sub l (k + 1))

def ixsV (c : Nat) (x y : V) : Option V :=
  match x with
  | .s a => (match y with
    | .s b => cond (Nat.ble 2 b.length) (cond (Nat.ble b.length (cond (Nat.beq c 2) 3 4)) (cond (Nat.blt a.length 4294967281) (some (.i .i64 (ixsL b a 0))) none) none) none
    | _ => none)
  | _ => none

noncomputable def rdI (fr : Tr V) (h : H) (i : RI) : Option V :=
  match i with
  | .load agg n x => loadV h agg n (ev fr x)
  | .slArr n es x lo hi mx => slArrH h n es (ev fr x) (bnd fr 0 lo) (bnd fr n hi) (mxO fr mx none)
  | .b2s x => b2sV h (ev fr x)
  | .lenM x => lenMV h (ev fr x)
  | .look agg ts z ok x k => lookV h agg ts z ok (ev fr x) (ev fr k)
  | .ent x => entV h (ev fr x)
  | .glob g => some (.o g)
  | .globI c g => some (globIV c g)
  | .ixs c x y => ixsV c (ev fr x) (ev fr y)

def cLook (P : Program) (ng : Nat) (t : TypeId) (x k : Operand) (ok : Bool) : Option RI :=
  match P.underlying t with
  | some (.map kt e) => (keyC P kt).bind fun a => (((P.info? e).bind (·.zero)).bind cV).bind fun z => (cO ng x).bind fun x => (cO ng k).map fun k => .look a.1 a.2 z ok x k
  | _ => none

def cLenM (P : Program) (ng : Nat) (ts : List TypeId) (args : List Operand) : Option RI :=
  match ts, args with
  | [t], [x] => match P.underlying t with
    | some (.map _ _) => (cO ng x).map .lenM
    | _ => none
  | _, _ => none

def isI64 (P : Program) (t : TypeId) : Bool := match P.underlying t with | some (.int .i64) => true | _ => false

def cGlob (P : Program) (ng : Nat) (t : TypeId) (g : Nat) : Option RI :=
  if (mxC ng != 0 && g == mxG ng) && isI64 P t then some (.globI (mxC ng) g) else if Nat.blt g 64 && Nat.testBit ng g then some (.glob g) else none

def cIxs (P : Program) (ng : Nat) (f : FuncId) (args : List Operand) : Option RI :=
  match P.funcs[f]?, args with
  | some fn, [x, y] => if isExt fn "internal/bytealg.IndexString" && (Nat.ble 2 (mxC ng) && (P.globals.findIdx? (·.name == "internal/bytealg.MaxLen") == some (mxG ng))) then (cO ng x).bind fun x => (cO ng y).map fun y => .ixs (mxC ng) x y else none
  | _, _ => none

def cR (P : Program) (ng : Nat) (o : Oper) : Option RI :=
  match o.op with
  | .load t (.global g) => match aggO P t with
    | some false => cGlob P ng t g
    | _ => none
  | .load t x => (aggO P t).bind fun a => (szO P t).bind fun n => (cO ng x).map fun x => .load a n x
  | .slice t x lo hi mx => match P.underlying t with
    | some (.array n e) => (szO P e).bind fun s => if s = 0 ∨ mx.isSome = true then none else
        (cO ng x).bind fun x' => (cOo ng lo).bind fun lo' => (cOo ng hi).bind fun hi' => some (.slArr n s x' lo' hi' none)
    | _ => none
  | .convert s d x => match P.underlying s, P.underlying d with
    | some (.slice e), some .string => (match P.underlying e with | some (.int .u8) => (cO ng x).map .b2s | _ => none)
    | _, _ => none
  | .lookup t x k ok => cLook P ng t x k ok
  | .entry x => (cO ng x).map .ent
  | .call { callee := .builtin .len, args, argTypes } => cLenM P ng argTypes.toList args.toList
  | .call { callee := .value (.func f), args, argTypes := _ } => cIxs P ng f args.toList
  | _ => none

section
variable {P : Program} {ρ : Ren} {ng : Nat} {fr : Tr V} {a : Act} {h : H} {w : World}

def notCells : Obj → Bool
  | .cells _ _ _ => false
  | _ => true

theorem run_getObj_of {P : Program} {w : World} {r : Nat} {o : Obj} (hb : w.heap[r]? = some o) (ho : notCells o = true := by rfl) : (getObj r).run P w = .ok o w := by
  simp only [getObj, Sem.run, hb]
  cases o <;> first | (simp [notCells] at ho; done) | rfl

theorem map_spec [Env] {b : Path} {es : List (V × V × Nat)} {clock : Nat} {u : Value} (hr : HRel ρ h w) (hg : h.get b = .m es clock) (hx : conc ρ (.m b) = some u) :
    ∃ x L, ρ b = some x ∧ u = .map (some x.1) ∧ w.heap[x.1]? = some (.map L.toArray clock) ∧ EntRel ρ es L := by
  obtain ⟨x, hxb, rfl⟩ := conc_m hx
  obtain ⟨y, hy, ho⟩ := hr.ob b (by simp [hg, Ob.live])
  rw [hxb] at hy; cases hy
  rw [hg] at ho
  obtain ⟨L, h1, h2⟩ := ho
  exact ⟨x, L, hxb, rfl, h1, h2⟩

theorem lenM_spec [Env] {t kt e : TypeId} {x v : V} {u : Value} {ty : TypeId} (hu : P.underlying t = some (.map kt e)) (hr : HRel ρ h w) (hv : lenMV h x = some v) (hx : conc ρ x = some u) :
    ∃ y, conc ρ v = some y ∧ (Builtin.len_ #[t] ty #[u]).run P w = .ok y w := by
  unfold lenMV at hv
  split at hv
  · cases hv
    simp [conc] at hx; subst hx
    exact ⟨_, rfl, by simp [Builtin.len_, run_under hu, goInt]⟩
  · rename_i b
    split at hv
    · rename_i es clock hg
      cases hv
      obtain ⟨y, L, _, rfl, h1, h2⟩ := map_spec hr hg hx
      refine ⟨_, rfl, ?_⟩
      have := EntRel.length h2
      simp [Builtin.len_, run_under hu, run_getObj_of h1, goInt, this]
    · cases hv
  · cases hv

theorem look_spec [Env] {t : TypeId} {kt e : TypeId} {inf : TypeInfo} {zv : Value} {agg : Bool} {ts : List Nat} {zero : V} {ok : Bool} {x k v : V} {u kv : Value} (hu : P.underlying t = some (.map kt e)) (hk : keyC P kt = some (agg, ts))
    (hi : P.info? e = some inf) (hz : inf.zero = some zv) (hcz : conc ρ zero = some zv) (hr : HRel ρ h w) (hv : lookV h agg ts zero ok x k = some v) (hx : conc ρ x = some u) (hkv : conc ρ k = some kv) :
    ∃ y, conc ρ v = some y ∧ (Instr.lookup t u kv ok).run P w = .ok y w := by
  unfold lookV at hv
  cases hko : keyOk agg ts k with
  | false => simp [hko] at hv
  | true =>
    simp only [hko, cond_true] at hv
    have hzr : ∀ w, (zeroValue e).run P w = .ok zv w := fun w => by simp [zeroValue, typeInfo, hi, hz]
    have fin : ∀ (es : List (V × V × Nat)) (L : List MapEntry) (r : Option (Option (Nat × V × Nat))), EntRel ρ es L → r = findE agg ts k es 0 → lookRes ok zero r = some v →
        ∃ y, conc ρ v = some y ∧ (do
          Instr.checkKey L.toArray.isEmpty 10000 kt kv
          let (v, ok') ← match ← Instr.findKey kt kv L.toArray.toList with
            | some (_, v) => pure (v, true)
            | none => pure (← zeroValue e, false)
          pure (if ok then .tuple #[v, .bool ok'] else v) : Sem Value).run P w = .ok y w := by
      intro es L r he hr hl
      have hck := fun em => keyOk_check (P := P) hk hko hkv em w
      cases r with
      | none => simp [lookRes] at hl
      | some r =>
        obtain ⟨f1, f2⟩ := findKey_spec (P := P) hk hkv he hr.symm w
        cases r with
        | none =>
          simp only [lookRes, Option.some.injEq] at hl
          subst hl
          cases ok with
          | false => exact ⟨zv, hcz, by simp [hck, f1 rfl, hzr]⟩
          | true => exact ⟨.tuple #[zv, .bool false], by simp [conc, concs, hcz], by simp [hck, f1 rfl, hzr]⟩
        | some q =>
          obtain ⟨j, v', b⟩ := q
          simp only [lookRes, Option.some.injEq] at hl
          subst hl
          obtain ⟨_, y, hy, hrun⟩ := f2 j v' b rfl
          cases ok with
          | false => exact ⟨y, hy, by simp [hck, hrun]⟩
          | true => exact ⟨.tuple #[y, .bool true], by simp [conc, concs, hy], by simp [hck, hrun]⟩
    split at hv
    · simp [conc] at hx; subst hx
      obtain ⟨y, hy, hrun⟩ := fin [] [] (some none) trivial rfl hv
      refine ⟨y, hy, ?_⟩
      simp only [Instr.lookup, Sem.run_bind, run_under hu, Result.andThen_ok, Sem.run_pure] at hrun ⊢
      exact hrun
    · rename_i b
      unfold lookOb at hv
      split at hv
      · rename_i es clock hg
        obtain ⟨y, L, _, rfl, h1, h2⟩ := map_spec hr hg hx
        obtain ⟨y, hy, hrun⟩ := fin es L _ h2 rfl hv
        refine ⟨y, hy, ?_⟩
        simp only [Instr.lookup, Sem.run_bind, run_under hu, Result.andThen_ok, run_getObj_of h1, Sem.run_pure] at hrun ⊢
        exact hrun
      · cases hv
    · cases hv

theorem entE_spec [Env] (s : Nat) : ∀ {es : List (V × V × Nat)} {L : List MapEntry} {k v : V}, EntRel ρ es L → entE s es = some (k, v) → ∃ e, L.find? (·.born == s) = some e ∧ conc ρ k = some e.key ∧ conc ρ v = some e.val
  | [], _, _, _, _, h => by simp [entE] at h
  | _ :: _, [], _, _, e, _ => e.elim
  | (k', v', b) :: es, e :: L, k, v, ⟨h1, h2, h3, h4⟩, h => by
    simp only [entE] at h
    cases hb : Nat.beq b s with
    | true =>
      simp only [hb, cond_true, Option.some.injEq, Prod.mk.injEq] at h
      obtain ⟨rfl, rfl⟩ := h
      refine ⟨e, ?_, h1, h2⟩
      have := Nat.eq_of_beq_eq_true hb
      simp [List.find?, h3, this]
    | false =>
      simp only [hb, cond_false] at h
      obtain ⟨e', g1, g2⟩ := entE_spec s h4 h
      refine ⟨e', ?_, g2⟩
      have : (e.born == s) = false := by
        rw [h3]
        cases hq : (b == s) with
        | false => rfl
        | true => rw [beq_iff_eq] at hq; subst hq; simp at hb
      simp [List.find?, this, g1]

theorem it_spec [Env] {b : Path} {mp : Option Path} {since last : Nat} {seen : List Nat} (hr : HRel ρ h w) (hg : h.get b = .it mp since seen last) :
    ∃ x, ρ b = some x ∧ (mp = none → w.heap[x.1]? = some (.mapIter none since seen.reverse.toArray last)) ∧ ∀ p, mp = some p → ∃ y, ρ p = some y ∧ w.heap[x.1]? = some (.mapIter (some y.1) since seen.reverse.toArray last) := by
  obtain ⟨x, hx, ho⟩ := hr.ob b (by simp [hg, Ob.live])
  rw [hg] at ho
  refine ⟨x, hx, ?_, ?_⟩
  · rintro rfl; exact ho
  · rintro p rfl; exact ho

theorem ent_spec [Env] {x v : V} {u : Value} (hr : HRel ρ h w) (hv : entV h x = some v) (hx : conc ρ x = some u) : ∃ y, conc ρ v = some y ∧ (Instr.entry u).run P w = .ok y w := by
  unfold entV at hv
  split at hv
  · rename_i b o
    cases ho : Nat.beq o 0 with
    | false => simp [ho] at hv
    | true =>
      have := Nat.eq_of_beq_eq_true ho
      subst this
      simp only [ho, cond_true] at hv
      unfold entIt at hv
      split at hv
      · rename_i mp since seen last hg
        split at hv
        · rename_i m
          split at hv
          · rename_i s seen'
            unfold entOb at hv
            split at hv
            · rename_i es clock hgm
              cases hc : Nat.beq clock last with
              | false => simp [hc] at hv
              | true =>
                simp only [hc, cond_true] at hv
                split at hv
                · rename_i k v' he
                  cases hv
                  obtain ⟨q, hq, rfl⟩ := conc_p hx
                  obtain ⟨x2, hx2, _, g2⟩ := it_spec hr hg
                  rw [hq] at hx2; cases hx2
                  obtain ⟨y, hy, h1⟩ := g2 m rfl
                  obtain ⟨y2, L, hy2, _, h2, h3⟩ := map_spec hr hgm (show conc ρ (.m m) = some (.map (some y.1)) by simp [conc, hy])
                  rw [hy] at hy2; cases hy2
                  obtain ⟨e, e1, e2, e3⟩ := entE_spec s h3 he
                  have hcl := Nat.eq_of_beq_eq_true hc
                  subst hcl
                  refine ⟨.tuple #[e.key, e.val], by simp [conc, concs, e2, e3], ?_⟩
                  simp only [Instr.entry, Sem.run_bind, run_getObj_of h1, Result.andThen_ok]
                  have hbk : (s :: seen').reverse.toArray.back? = some s := by simp [Array.back?]
                  simp only [hbk, Sem.run_bind, run_getObj_of h2, Result.andThen_ok, bne_self_eq_false, Bool.false_eq_true, if_false]
                  have hf : L.toArray.find? (·.born == s) = some e := by simpa using e1
                  simp only [hf]
                  rfl
                · cases hv
            · cases hv
          · cases hv
        · cases hv
      · cases hv
  · cases hv

theorem load_spec [Env] {t : TypeId} {agg : Bool} {n : Nat} {x v : V} {u : Value} (hr : HRel ρ h w) (hv : loadV h agg n x = some v) (hx : conc ρ x = some u) (hag : aggO P t = some agg) (hsz : szO P t = some n) :
    ∃ y, conc ρ v = some y ∧ (Instr.loadAt t u).run P w = .ok y w := by
  unfold loadV at hv
  split at hv
  · rename_i b o
    obtain ⟨q, hq, rfl⟩ := conc_p hx
    split at hv
    · rename_i l hl
      obtain ⟨q', xs, hq', h1, h2, h3, h4⟩ := loadC_spec hr hl
      rw [hq] at hq'; cases hq'
      have hlen := concs_length h3
      cases agg with
      | true =>
        simp only [pick1, Option.some.injEq] at hv; subst hv
        refine ⟨.agg xs.toArray, by simp [conc, h2, h3], ?_⟩
        have := run_loadCells_list (P := P) w ⟨q.1, o, none⟩ xs (fun j v hj => by rw [add_none]; exact h4 j v hj)
        rw [show xs.length = n by omega] at this
        simp [Instr.loadAt, Instr.sureAddr, loadVar, run_aggO hag, run_szO hsz, this]
      | false =>
        cases l with
        | nil => simp [pick1] at hv
        | cons u l =>
          cases l with
          | cons _ _ => simp [pick1] at hv
          | nil =>
            simp only [pick1, Option.some.injEq] at hv; subst hv
            simp only [concs, Option.bind_eq_some_iff, Option.map_eq_some_iff] at h3
            obtain ⟨y, hy, ys, hys, rfl⟩ := h3
            have hc := h4 0 y rfl
            refine ⟨y, hy, ?_⟩
            simp only [Nat.add_zero] at hc
            simp [Instr.loadAt, Instr.sureAddr, loadVar, run_aggO hag, hc]
    · cases hv
  · cases hv

theorem bytesOf_spec [Env] : ∀ {l : List V} {r : List Nat} {xs : List Value}, bytesOf l = some r → concs ρ l = some xs → r.all byteOk = true ∧ xs = r.map (fun n : Nat => Value.int .u8 (Int.ofNat n))
  | [], r, xs, h, hx => by simp [bytesOf] at h; subst h; simp [concs] at hx; subst hx; exact ⟨rfl, rfl⟩
  | x :: l, r, xs, h, hx => by
    simp only [bytesOf] at h
    split at h
    · rename_i n
      cases hb : Nat.blt n 256 with
      | false => simp [hb] at h
      | true =>
        simp only [hb, cond_true] at h
        split at h
        · rename_i r' hr'
          cases h
          simp only [concs, Option.bind_eq_some_iff, Option.map_eq_some_iff] at hx
          obtain ⟨y, hy, ys, hys, rfl⟩ := hx
          obtain ⟨h1, h2⟩ := bytesOf_spec hr' hys
          simp [conc] at hy; subst hy
          exact ⟨by rw [List.all_cons, h1]; simp only [byteOk, hb]; rfl, by simp [h2]⟩
        · cases h
    · cases h

theorem foldl_push (ns : List Nat) : ∀ (s : ByteArray), (ns.map Int.ofNat).foldl (fun r n => r.push (UInt8.ofNat n.toNat)) s = ⟨⟨s.data.toList ++ ns.map UInt8.ofNat⟩⟩ := by
  induction ns with
  | nil => intro s; simp
  | cons n ns ih =>
    intro s
    simp only [List.map_cons, List.foldl_cons, ih]
    apply ByteArray.ext
    simp [ByteArray.push]

theorem b2s_spec [Env] {x v : V} {u : Value} (hr : HRel ρ h w) (hv : b2sV h x = some v) (hx : conc ρ x = some u) : ∃ y, conc ρ v = some y ∧ (Conv.bytesToString u).run P w = .ok y w := by
  unfold b2sV at hv
  split at hv
  · cases hv
    simp [conc] at hx; subst hx
    exact ⟨.string .empty, by simp [conc]; rfl, rfl⟩
  · rename_i b o n cap ex es
    obtain ⟨q, hq, _, _, _, rfl⟩ := conc_sl hx
    cases he : Nat.beq es 1 with
    | false => simp [he] at hv
    | true =>
      simp only [he, cond_true] at hv
      split at hv
      · rename_i l hl
        split at hv
        · rename_i r hb
          cases hv
          obtain ⟨q', xs, hq', h1, h2, h3, h4⟩ := loadC_spec hr hl
          rw [hq] at hq'; cases hq'
          obtain ⟨g1, g2⟩ := bytesOf_spec hb h3
          have hlen := concs_length h3
          refine ⟨.string ⟨(r.map UInt8.ofNat).toArray⟩, by simp only [conc, g1, if_true], ?_⟩
          have := run_loadCells_list (P := P) w ⟨q.1, o, none⟩ xs (fun j v hj => by rw [add_none]; exact h4 j v hj)
          rw [show xs.length = n by omega, g2] at this
          have h5 := run_bytesToString (P := P) w ⟨q.1, o, none⟩ n (capOf ex cap q.2 o es) (r.map Int.ofNat) (by rw [this]; simp [Function.comp_def])
          rw [h5, foldl_push]
          rfl
        · cases hv
      · cases hv
  · cases hv

def ClassZ (c : Nat) (z : Int) : Prop :=
  match c with
  | 0 => True
  | 1 => z ≤ 2
  | 2 => z = 3
  | _ => 4 ≤ z

/-- What is known of the one integer variable. -/
theorem fact_spec [Env] {c g : Nat} (h : FactOk c g) (hc : c ≠ 0) : ∃ z, Env.val g = some (.int .i64 z) ∧ ClassZ c z := by
  match c, h, hc with
  | 0, _, hc => exact absurd rfl hc
  | 1, ⟨z, h1, h2⟩, _ => exact ⟨z, h1, h2⟩
  | 2, h, _ => exact ⟨3, h, rfl⟩
  | _ + 3, ⟨z, h1, h2⟩, _ => exact ⟨z, h1, h2⟩

theorem class_low {c : Nat} {m : Int} (h : ClassZ c m) (h2 : 2 ≤ c) : ((cond (Nat.beq c 2) 3 4 : Nat) : Int) ≤ m := by
  match c, h, h2 with
  | 0, _, h2 => omega
  | 1, _, h2 => omega
  | 2, h, _ => have h : m = 3 := h; rw [h]; decide
  | c + 3, h, _ =>
    have h : 4 ≤ m := h
    have e : Nat.beq (c + 3) 2 = false := by cases hq : Nat.beq (c + 3) 2 with | false => rfl | true => (have := Nat.eq_of_beq_eq_true hq; omega)
    rw [e]; exact h

theorem class_conc [Env] {g c : Nat} {z : Int} {ρ : Ren} (hz : Env.val g = some (.int .i64 z)) (hcl : ClassZ c z) (hc0 : c ≠ 0) : conc ρ (globIV c g) = some (.int .i64 z) := by
  match c, hcl, hc0 with
  | 0, _, h0 => exact absurd rfl h0
  | 1, hcl, _ =>
    show (Env.val g).bind (oiV 1) = _
    rw [hz]
    exact oiV_mk (by unfold inC; rw [if_pos rfl]; exact hcl)
  | 2, hcl, _ =>
    have : z = 3 := hcl
    rw [this]; rfl
  | c + 3, hcl, _ =>
    show (Env.val g).bind (oiV (c + 3)) = _
    rw [hz]
    exact oiV_mk (by unfold inC; rw [if_neg (by omega)]; exact hcl)

theorem begL_eq : ∀ (x l : List Nat), begL x l = eqL (l.take x.length) x
  | [], l => by cases l <;> rfl
  | a :: x, [] => rfl
  | a :: x, b :: l => by
    simp only [begL, List.length_cons, List.take_succ_cons, eqL, begL_eq x l]
    have : Nat.beq a b = Nat.beq b a := by rw [Bool.eq_iff_iff]; simp [Nat.beq_eq]; exact eq_comm
    rw [this]

theorem ixsL_spec (x : List Nat) (hx : x ≠ []) : ∀ (l : List Nat) (k : Nat), ixsL x l k = match (List.range (l.length + 1 - x.length)).find? (fun i => begL x (l.drop i)) with | some i => Int.ofNat (i + k) | none => -1
  | [], k => by
    have : 0 + 1 - x.length = 0 := by cases x with | nil => exact absurd rfl hx | cons _ _ => simp
    simp only [List.length_nil, this]
    rfl
  | b :: l, k => by
    simp only [ixsL, List.length_cons]
    by_cases hlen : x.length ≤ l.length + 1
    · have e : l.length + 1 + 1 - x.length = (l.length + 1 - x.length) + 1 := by omega
      rw [e, range_find]
      simp only [List.drop_zero]
      cases hb : begL x (b :: l) with
      | true => simp
      | false =>
        simp only [cond_false, Bool.false_eq_true, if_false, List.drop_succ_cons]
        rw [ixsL_spec x hx l (k + 1)]
        cases (List.range (l.length + 1 - x.length)).find? (fun i => begL x (l.drop i)) with
        | none => rfl
        | some i => show Int.ofNat (i + (k + 1)) = Int.ofNat (i + 1 + k); congr 1; omega
    · have e : l.length + 1 + 1 - x.length = 0 := by omega
      have hb : begL x (b :: l) = false := by
        rw [begL_eq]
        cases he : eqL ((b :: l).take x.length) x with
        | false => rfl
        | true =>
          have key : ∀ {p q : List Nat}, eqL p q = true → p.length = q.length := by
            intro p
            induction p with
            | nil => intro q h; cases q with | nil => rfl | cons _ _ => simp [eqL] at h
            | cons a p ih =>
              intro q h
              cases q with
              | nil => simp [eqL] at h
              | cons c q =>
                simp only [eqL] at h
                cases hh : Nat.beq a c <;> rw [hh] at h <;> simp only [cond_true, cond_false] at h
                · cases h
                · simp [ih h]
          have := key he
          simp at this
          omega
      rw [hb, cond_false, ixsL_spec x hx l (k + 1)]
      have e' : l.length + 1 - x.length = 0 := by omega
      rw [e, e']
      rfl

theorem ixs_spec [Env] {x y v : V} {u z : Value} (hg : Glob ng ρ) (hr : HRel ρ h w) (hc2 : Nat.ble 2 (mxC ng) = true) (hfind : P.globals.findIdx? (·.name == "internal/bytealg.MaxLen") = some (mxG ng))
    (hv : ixsV (mxC ng) x y = some v) (hx : conc ρ x = some u) (hy : conc ρ y = some z) : ∃ r, conc ρ v = some r ∧ (Extern.BytealgIndex.index #[u, z]).run P w = .ok r w := by
  have hc2 := Nat.le_of_ble_eq_true hc2
  obtain ⟨m, hm, hcl⟩ := fact_spec hg.2 (by omega)
  obtain ⟨⟨e, fz, hcell⟩, _⟩ := hr.keep _ _ hm
  have hce : w.cell? ⟨mxG ng, 0, none⟩ = some (.int .i64 m) := by simp [World.cell?, hcell]
  unfold ixsV at hv
  split at hv
  · rename_i a
    split at hv
    · rename_i b
      cases h1 : Nat.ble 2 b.length with
      | false => simp [h1] at hv
      | true =>
      cases h2 : Nat.ble b.length (cond (Nat.beq (mxC ng) 2) 3 4) with
      | false => simp [h1, h2] at hv
      | true =>
      cases h3 : Nat.blt a.length 4294967281 with
      | false => simp [h1, h2, h3] at hv
      | true =>
      simp only [h1, h2, h3, cond_true, Option.some.injEq] at hv
      subst hv
      have h1 := Nat.le_of_ble_eq_true h1
      have h2 := Nat.le_of_ble_eq_true h2
      have h3 : a.length < 4294967281 := by simpa [Nat.blt_eq] using h3
      obtain ⟨oa, rfl⟩ := conc_s hx
      obtain ⟨ob, rfl⟩ := conc_s hy
      have hbm : (b.length : Int) ≤ m := by
        have := class_low hcl hc2
        omega
      have sa : (ByteArray.mk (a.map UInt8.ofNat).toArray).size = a.length := by show ((a.map UInt8.ofNat).toArray).size = _; simp
      have sb : (ByteArray.mk (b.map UInt8.ofNat).toArray).size = b.length := by show ((b.map UInt8.ofNat).toArray).size = _; simp
      refine ⟨.int .i64 (ixsL b a 0), rfl, ?_⟩
      have hml : (Extern.BytealgIndex.maxLen).run P w = .ok m w := by
        unfold Extern.BytealgIndex.maxLen globalAddr
        simp only [Sem.run_bind, run_program, Result.andThen_ok, hfind, Sem.run_pure]
        simp [hce, asInt, asIntOf]
      have hidx : ∀ p q : Value, Extern.BytealgIndex.index #[p, q] = (do
          let a ← Extern.Bytes.bytesOf p
          let b ← Extern.Bytes.bytesOf q
          if b.size < 2 || (b.size : Int) > (← Extern.BytealgIndex.maxLen) then
            unsupported (.noEntry "extern/internal/bytealg.Index.length")
          if a.size ≥ 2 ^ 32 - 15 then
            unsupported (.noEntry "extern/internal/bytealg.Index: a haystack of 2^32 - 15 bytes or more")
          match (List.range (a.size + 1 - b.size)).find? fun i => a.extract i (i + b.size) == b with
          | some i => pure (goInt i)
          | none => pure (goInt (-1))) := fun _ _ => rfl
      rw [hidx]
      simp only [Extern.Bytes.bytesOf, Sem.run_bind, Sem.run_pure, Result.andThen_ok, sa, sb, hml]
      rw [if_neg (by simp; omega)]
      try simp only [Sem.run_pure, Result.andThen_ok]
      rw [if_neg (by omega)]
      try simp only [Sem.run_pure, Result.andThen_ok]
      have hp : ∀ i, ((ByteArray.mk (a.map UInt8.ofNat).toArray).extract i (i + b.length) == ByteArray.mk (b.map UInt8.ofNat).toArray) = begL b (a.drop i) := by
        intro i
        have he : (ByteArray.mk (a.map UInt8.ofNat).toArray).extract i (i + b.length) = ByteArray.mk (((a.drop i).take b.length).map UInt8.ofNat).toArray := by
          apply ByteArray.ext
          simp only [ByteArray.data_extract]
          apply Array.ext'
          simp [Array.toList_extract, List.extract_eq_take_drop, List.map_take, List.map_drop]
        rw [he, bytes_beq, begL_eq, eqL_map _ ob]
        rw [List.all_eq_true] at oa ⊢
        exact fun n hn => oa n (List.mem_of_mem_drop (List.mem_of_mem_take hn))
      have hf : (fun i => (ByteArray.mk (a.map UInt8.ofNat).toArray).extract i (i + b.length) == ByteArray.mk (b.map UInt8.ofNat).toArray) = fun i => begL b (a.drop i) := by funext i; exact hp i
      rw [hf, ixsL_spec b (by intro e; subst e; simp at h1) a 0]
      cases (List.range (a.length + 1 - b.length)).find? (fun i => begL b (a.drop i)) with
      | none => rfl
      | some i => rfl
    · cases hv
  · cases hv

/-- OPERATIONS THAT READ. -/
theorem rd_sound [Env] {o : Oper} {i : RI} {v : V} (hg : Glob ng ρ) (hf : FrRel ρ fr a.tmps) (hr : HRel ρ h w) (hc : cR P ng o = some i) (hv : rdI fr h i = some v) :
    ∃ x, conc ρ v = some x ∧ (execOp a.eval o).run P w = .ok (.value x) w := by
  unfold cR at hc
  split at hc
  case h_1 t g hop =>
    split at hc
    · rename_i hag
      unfold cGlob at hc
      split at hc
      · rename_i hb
        cases hc
        simp only [Bool.and_eq_true, bne_iff_ne, ne_eq, beq_iff_eq] at hb
        obtain ⟨⟨hc0, rfl⟩, _⟩ := hb
        obtain ⟨z, hz, hcl⟩ := fact_spec hg.2 hc0
        obtain ⟨⟨e, fz, hcell⟩, _⟩ := hr.keep _ _ hz
        have hce : w.cell? ⟨mxG ng, 0, none⟩ = some (.int .i64 z) := by simp [World.cell?, hcell]
        refine ⟨.int .i64 z, ?_, by simp [execOp, hop, Act.eval, Instr.loadAt, Instr.sureAddr, loadVar, run_aggO hag, hce]⟩
        simp only [rdI, Option.some.injEq] at hv
        subst hv
        exact class_conc hz hcl hc0
      split at hc
      · rename_i hb
        cases hc
        simp only [Bool.and_eq_true] at hb
        have hlt : g < 64 := by have := hb.1; simpa [Nat.blt_eq] using this
        have hb := hb.2
        simp only [rdI, Option.some.injEq] at hv
        subst hv
        obtain ⟨x, hx⟩ := hg.1 g hlt hb
        obtain ⟨⟨e, fz, hcell⟩, _⟩ := hr.keep g x hx
        refine ⟨x, hx, ?_⟩
        have : w.cell? ⟨g, 0, none⟩ = some x := by simp [World.cell?, hcell]
        simp [execOp, hop, Act.eval, Instr.loadAt, Instr.sureAddr, loadVar, run_aggO hag, this]
      · cases hc
    · cases hc
  case h_2 t x _ hop =>
    simp only [Option.bind_eq_some_iff, Option.map_eq_some_iff] at hc
    obtain ⟨ag, hag, n, hn, x', hx, rfl⟩ := hc
    obtain ⟨y, hy, hrun⟩ := load_spec (P := P) hr hv (ev_spec hg hf hx) hag hn
    exact ⟨y, hy, by simp [execOp, hop, hrun]⟩
  case h_3 t x lo hi mx hop =>
    split at hc
    · rename_i n e hu
      simp only [Option.bind_eq_some_iff] at hc
      obtain ⟨s, hs, hc⟩ := hc
      split at hc
      · cases hc
      rename_i hcond
      simp only [Option.bind_eq_some_iff] at hc
      obtain ⟨x', hx, lo', hlo, hi', hhi, hc⟩ := hc
      cases hc
      have hs0 : s ≠ 0 := fun h => hcond (.inl h)
      have hmx : mx = none := by cases mx with | none => rfl | some _ => exact absurd (.inr rfl) hcond
      subst hmx
      have ex := ev_spec hg hf hx
      simp only [rdI, slArrH] at hv
      split at hv
      · rename_i b off hb
        split at hv
        · rename_i l hl
          cases hfit : Nat.ble (off + n * s) l.length with
          | false => simp [hfit] at hv
          | true =>
            simp only [hfit, cond_true, slArrV, mxO] at hv
            split at hv
            · rename_i p q hp hq _
              rw [hb] at ex
              obtain ⟨y, hy, ex⟩ := conc_p ex
              have hlen : l.length ≤ y.2 := by
                have hlv : (h.get b).live = true := by cases hgb : h.get b <;> rw [hgb] at hl <;> simp [obCells] at hl; rfl
                obtain ⟨y', hy', hob⟩ := hr.ob b hlv
                rw [hy] at hy'; cases hy'
                cases hgb : h.get b <;> rw [hgb] at hl hob <;> simp [obCells] at hl
                subst hl
                obtain ⟨_, _, _, _, h3, _⟩ := hob
                exact h3
              have hfit := Nat.le_of_ble_eq_true hfit
              obtain ⟨g1, g2, g3⟩ := slSl2_spec (cap := n) hv hy hs0 (Nat.le_refl _) (by omega) (by simp)
              have hb := bnd_spec hg hf hlo hp
              have hh := bnd_spec hg hf hhi hq
              refine ⟨_, g3 n (fun _ => rfl) (by simp), ?_⟩
              have := sliceBounds_spec (P := P) (isSl := false) (len := n) (cap := n) (lo := lo.map a.eval) (hi := hi.map a.eval) (mx := none) (a := p) (e := q) (m := n)
                (hb.imp (fun h => ⟨h.1, h.2.2⟩) id) (hh.imp (fun h => ⟨h.1, rfl, h.2.2⟩) id) (.inl ⟨rfl, rfl⟩) g1 g2 (Nat.le_refl _) w
              simp only [execOp, hop, ex, Instr.sliceAt, Sem.run_bind, run_under hu, Result.andThen_ok, Instr.sureAddr, Sem.run_pure, Option.map_none, this, run_szO hs]
              by_cases hca : n = p <;> simp [hca]
            · cases hv
        · cases hv
      · cases hv
    · cases hc
  case h_4 s d x hop =>
    split at hc
    · rename_i e hs hd
      split at hc
      · rename_i he
        simp only [Option.map_eq_some_iff] at hc
        obtain ⟨x', hx, rfl⟩ := hc
        have ex := ev_spec hg hf hx
        obtain ⟨y, hy, hrun⟩ := b2s_spec (P := P) hr hv ex
        refine ⟨y, hy, ?_⟩
        have hconv : (convert s d (a.eval x)).run P w = (Conv.bytesToString (a.eval x)).run P w := by
          unfold convert
          simp only [Sem.run_bind, run_under hs, run_under hd, Result.andThen_ok]
          simp only [rdI, b2sV] at hv
          split at hv
          · rename_i hb
            rw [hb] at ex; simp [conc] at ex
            rw [← ex]
            simp [run_under he]
          · rename_i b o n cap exx es hb
            rw [hb] at ex
            obtain ⟨q, hq, _, _, _, ex⟩ := conc_sl ex
            rw [ex]
            simp [run_under he]
          · cases hv
        simp only [execOp, hop, Sem.run_bind, hconv, hrun, Result.andThen_ok, Sem.run_pure]
      · cases hc
    · cases hc
  case h_5 t x k ok hop =>
    unfold cLook at hc
    split at hc
    · rename_i kt e hu
      simp only [Option.bind_eq_some_iff, Option.map_eq_some_iff] at hc
      obtain ⟨⟨agg, ts⟩, hk, z, ⟨zv, ⟨inf, hi, hz⟩, hcz⟩, x', hx, k', hk', rfl⟩ := hc
      obtain ⟨y, hy, hrun⟩ := look_spec (P := P) hu hk hi hz (cV_spec ρ _ _ hcz) hr hv (ev_spec hg hf hx) (ev_spec hg hf hk')
      exact ⟨y, hy, by simp [execOp, hop, hrun]⟩
    · cases hc
  case h_6 x hop =>
    simp only [Option.map_eq_some_iff] at hc
    obtain ⟨x', hx, rfl⟩ := hc
    obtain ⟨y, hy, hrun⟩ := ent_spec (P := P) hr hv (ev_spec hg hf hx)
    exact ⟨y, hy, by simp [execOp, hop, hrun]⟩
  case h_7 args ats hop =>
    unfold cLenM at hc
    split at hc
    · rename_i t x hts has
      have e1 : ats = #[t] := by apply Array.ext'; simpa using hts
      have e2 : args = #[x] := by apply Array.ext'; simpa using has
      subst e1; subst e2
      split at hc
      · rename_i kt e hu
        simp only [Option.map_eq_some_iff] at hc
        obtain ⟨x', hx, rfl⟩ := hc
        obtain ⟨y, hy, hrun⟩ := lenM_spec (P := P) (ty := o.type) hu hr hv (ev_spec hg hf hx)
        exact ⟨y, hy, by simp [execOp, hop, resolve, invoke, builtin, hrun]⟩
      · cases hc
    · cases hc
  case h_8 f args ats hop =>
    unfold cIxs at hc
    split at hc
    · rename_i fn x y hfn hargs
      split at hc
      · rename_i hcond
        simp only [Option.bind_eq_some_iff, Option.map_eq_some_iff] at hc
        obtain ⟨x', hx, y', hy, rfl⟩ := hc
        simp only [Bool.and_eq_true, beq_iff_eq] at hcond
        obtain ⟨hext, hc2, hfind0⟩ := hcond
        obtain ⟨u, hu, hrun⟩ := ixs_spec (P := P) hg hr hc2 hfind0 hv (ev_spec hg hf hx) (ev_spec hg hf hy)
        simp only [isExt, Bool.and_eq_true, beq_iff_eq] at hext
        obtain ⟨hb, hname, horig⟩ := hext
        have hfind : Extern.find fn = some Extern.BytealgIndex.index := by
          unfold Extern.find
          simp only [hname, horig]
          rfl
        have hnext : Extern.findNext fn = none := by
          unfold Extern.findNext
          simp only [hname, horig]
          rfl
        have hca : args = #[x, y] := by cases args; simp at hargs; rw [hargs]
        have hrun2 := run_callFunc_extern (P := P) hfn (by rw [hname]; decide) hb hnext hfind #[a.eval x, a.eval y] w
        rw [hrun] at hrun2
        simp only [Result.andThen_ok] at hrun2
        have ef : a.eval (.func f) = .func (.func f) #[] #[] := rfl
        have hmap : args.map a.eval = #[a.eval x, a.eval y] := by rw [hca]; simp
        refine ⟨u, hu, ?_⟩
        simp only [execOp, hop, resolve, ef, Deferred.ofValue, Sem.run_bind, Sem.run_pure, Result.andThen_ok, invoke, hmap]
        simpa using hrun2
      · cases hc
    · cases hc
  case h_9 => cases hc

end
end Go.Eng
