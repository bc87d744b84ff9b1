/- The engine, part Na: writing to maps, walking over them; calls of methods. -/
import Derived.Test.YtjngjfgbholgpaaEngN
set_option linter.unusedSimpArgs false
set_option linter.unusedVariables false
namespace Go.Eng

inductive MI where
  | mk
  | up (agg : Bool) (ts : List Nat) (x k v : Opd)
  | del (agg : Bool) (ts : List Nat) (x k : Opd)
  | ment (agg : Bool) (ts : List Nat) (zero : V) (x k : Opd)
  | est (x s v : Opd)
  | rng (x : Opd)
  | nxt (x : Opd)
  | cln (x : Opd)

def setE (v : V) : Nat → List (V × V × Nat) → List (V × V × Nat)
  | _, [] => []
  | 0, (k, _, b) :: l => (k, v, b) :: l
  | n + 1, e :: l => e :: setE v n l

def delE : Nat → List (V × V × Nat) → List (V × V × Nat)
  | _, [] => []
  | 0, _ :: l => l
  | n + 1, e :: l => e :: delE n l

def endE (x : V × V × Nat) : List (V × V × Nat) → List (V × V × Nat)
  | [] => [x]
  | e :: l => e :: endE x l

def setS (s : Nat) (v : V) : List (V × V × Nat) → Option (List (V × V × Nat))
  | [] => none
  | (k, u, b) :: l => cond (Nat.beq b s) (some ((k, v, b) :: l)) (match setS s v l with | some l => some ((k, u, b) :: l) | none => none)

noncomputable def mUp (h : H) (b : Path) (k v : V) (es : List (V × V × Nat)) (clock : Nat) (r : Option (Option (Nat × V × Nat))) : Option (V × H) :=
  match r with
  | none => none
  | some none => some (undefV, h.put b (.m (endE (k, v, clock) es) (clock + 1)))
  | some (some (i, _, _)) => some (undefV, h.put b (.m (setE v i es) clock))

noncomputable def mUpOb (h : H) (agg : Bool) (ts : List Nat) (b : Path) (k v : V) (o : Ob) : Option (V × H) :=
  match o with
  | .m es clock => mUp h b k v es clock (findE agg ts k es 0)
  | _ => none

noncomputable def mUpV (h : H) (agg : Bool) (ts : List Nat) (x k v : V) : Option (V × H) :=
  cond (keyOk agg ts k) (match x with | .m b => mUpOb h agg ts b k v (h.get b) | _ => none) none

noncomputable def mDel (h : H) (b : Path) (es : List (V × V × Nat)) (clock : Nat) (r : Option (Option (Nat × V × Nat))) : Option (V × H) :=
  match r with
  | none => none
  | some none => some (undefV, h.put b (.m es clock))
  | some (some (i, _, _)) => some (undefV, h.put b (.m (delE i es) clock))

noncomputable def mDelOb (h : H) (agg : Bool) (ts : List Nat) (b : Path) (k : V) (o : Ob) : Option (V × H) :=
  match o with
  | .m es clock => mDel h b es clock (findE agg ts k es 0)
  | _ => none

noncomputable def mDelV (h : H) (agg : Bool) (ts : List Nat) (x k : V) : Option (V × H) :=
  cond (keyOk agg ts k) (match x with | .m b => mDelOb h agg ts b k (h.get b) | .m0 => some (undefV, h) | _ => none) none

noncomputable def mEnt (h : H) (b : Path) (k zero : V) (es : List (V × V × Nat)) (clock : Nat) (r : Option (Option (Nat × V × Nat))) : Option (V × H) :=
  match r with
  | none => none
  | some none => some (.t [zero, .i .i64 (.ofNat clock)], h.put b (.m (endE (k, zero, clock) es) (clock + 1)))
  | some (some (_, v, s)) => some (.t [v, .i .i64 (.ofNat s)], h)

noncomputable def mEntOb (h : H) (agg : Bool) (ts : List Nat) (zero : V) (b : Path) (k : V) (o : Ob) : Option (V × H) :=
  match o with
  | .m es clock => mEnt h b k zero es clock (findE agg ts k es 0)
  | _ => none

noncomputable def mEntV (h : H) (agg : Bool) (ts : List Nat) (zero : V) (x k : V) : Option (V × H) :=
  cond (keyOk agg ts k) (match x with | .m b => mEntOb h agg ts zero b k (h.get b) | _ => none) none

noncomputable def mStOb (h : H) (b : Path) (s : Nat) (v : V) (o : Ob) : Option (V × H) :=
  match o with
  | .m es clock => (match setS s v es with | some es => some (undefV, h.put b (.m es clock)) | none => none)
  | _ => none

noncomputable def mStV (h : H) (x : V) (s : Option Nat) (v : V) : Option (V × H) :=
  match x with
  | .m b => (match s with | some s => mStOb h b s v (h.get b) | none => none)
  | _ => none

noncomputable def mRngOb (h : H) (b : Path) (o : Ob) : Option (V × H) :=
  match o with
  | .m _ clock => some (.p h.n 0, h.new (.it (some b) clock [] clock))
  | _ => none

noncomputable def mRngV (h : H) (x : V) : Option (V × H) :=
  match x with
  | .m0 => some (.p h.n 0, h.new (.it none 0 [] 0))
  | .m b => mRngOb h b (h.get b)
  | _ => none

def memN (n : Nat) : List Nat → Bool
  | [] => false
  | m :: l => cond (Nat.beq m n) true (memN n l)

/-- The entries that are not seen yet. -/
def leftE (seen : List Nat) : List (V × V × Nat) → List (V × V × Nat)
  | [] => []
  | (k, v, b) :: l => cond (memN b seen) (leftE seen l) ((k, v, b) :: leftE seen l)

/-- Are all of them new? -/
def allNew (last : Nat) : List (V × V × Nat) → Bool
  | [] => true
  | (_, _, b) :: l => cond (Nat.ble last b) (allNew last l) false

def goneAll (last : Nat) (seen : List Nat) (es : List (V × V × Nat)) : Bool :=
  match seen with
  | [] => false
  | _ :: _ => match es with
    | [] => false
    | _ :: _ => allNew last es

noncomputable def mNxtL (h : H) (b m : Path) (since : Nat) (seen : List Nat) (clock : Nat) (l : List (V × V × Nat)) : Option (V × H) :=
  match l with
  | [] => some (.t [.b false], h)
  | (k, v, s) :: l => (match l with
    | [] => cond (Nat.blt s since) (some (.t [.b true, k, v], h.put b (.it (some m) since (s :: seen) clock))) none
    | _ => none)

noncomputable def mNxtM (h : H) (b m : Path) (since : Nat) (seen : List Nat) (last : Nat) (o : Ob) : Option (V × H) :=
  match o with
  | .m es clock => cond (goneAll last seen es) none (mNxtL h b m since seen clock (leftE seen es))
  | _ => none

noncomputable def mNxtOb (h : H) (b : Path) (o : Ob) : Option (V × H) :=
  match o with
  | .it mp since seen last => (match mp with
    | none => some (.t [.b false], h)
    | some m => mNxtM h b m since seen last (h.get m))
  | _ => none

noncomputable def mNxtV (h : H) (x : V) : Option (V × H) :=
  match x with
  | .p b o => cond (Nat.beq o 0) (mNxtOb h b (h.get b)) none
  | _ => none

noncomputable def mClnOb (h : H) (t : Nat) (o : Ob) : Option (V × H) :=
  match o with
  | .m es clock => some (.ifc t (.m h.n), h.new (.m es clock))
  | _ => none

noncomputable def mClnV (h : H) (x : V) : Option (V × H) :=
  match x with
  | .ifc t v => (match v with | .m b => mClnOb h t (h.get b) | _ => none)
  | _ => none

noncomputable def mpI (fr : Tr V) (h : H) (i : MI) : Option (V × H) :=
  match i with
  | .mk => some (.m h.n, h.new (.m [] 0))
  | .up agg ts x k v => mUpV h agg ts (ev fr x) (ev fr k) (ev fr v)
  | .del agg ts x k => mDelV h agg ts (ev fr x) (ev fr k)
  | .ment agg ts z x k => mEntV h agg ts z (ev fr x) (ev fr k)
  | .est x s v => mStV h (ev fr x) (asN (ev fr s)) (ev fr v)
  | .rng x => mRngV h (ev fr x)
  | .nxt x => mNxtV h (ev fr x)
  | .cln x => mClnV h (ev fr x)

def cKM (P : Program) (t : TypeId) : Option (Bool × List Nat) :=
  match P.underlying t with
  | some (.map kt _) => keyC P kt
  | _ => none

def cZM (P : Program) (t : TypeId) : Option V :=
  match P.underlying t with
  | some (.map _ e) => ((P.info? e).bind (·.zero)).bind cV
  | _ => none

def cM (P : Program) (ng : Nat) (o : Oper) : Option MI :=
  match o.op with
  | .makeMap t none => match P.underlying t with | some (.map _ _) => some .mk | _ => none
  | .mapUpdate t m k x => (cKM P t).bind fun a => (cO ng m).bind fun m => (cO ng k).bind fun k => (cO ng x).map fun x => .up a.1 a.2 m k x
  | .insert t m k x => (cKM P t).bind fun a => (cO ng m).bind fun m => (cO ng k).bind fun k => (cO ng x).map fun x => .up a.1 a.2 m k x
  | .mapEntry t m k => (cKM P t).bind fun a => (cZM P t).bind fun z => (cO ng m).bind fun m => (cO ng k).map fun k => .ment a.1 a.2 z m k
  | .entryStore _ m s x => (cO ng m).bind fun m => (cO ng s).bind fun s => (cO ng x).map fun x => .est m s x
  | .range t x => match P.underlying t with | some (.map _ _) => (cO ng x).map .rng | _ => none
  | .next x false => (cO ng x).map .nxt
  | .call { callee := .builtin .delete, args, argTypes } => match argTypes.toList, args.toList with
    | t :: _, [m, k] => (cKM P t).bind fun a => (cO ng m).bind fun m => (cO ng k).map fun k => .del a.1 a.2 m k
    | _, _ => none
  | .call { callee := .value (.func f), args, argTypes := _ } => match P.funcs[f]?, args.toList with
    | some fn, [x] => if isExt fn "maps.clone" then (cO ng x).map .cln else none
    | _, _ => none
  | _ => none

section
variable {P : Program} {ρ : Ren} {ng : Nat} {fr : Tr V} {a : Act} {h h' : H} {w : World}

theorem setE_rel [Env] {v : V} {x : Value} (hv : conc ρ v = some x) : ∀ {es : List (V × V × Nat)} {L : List MapEntry} (i : Nat), EntRel ρ es L → EntRel ρ (setE v i es) (L.modify i fun e => { e with val := x })
  | [], [], _, _ => by simp [setE, EntRel]
  | [], _ :: _, _, e => e.elim
  | _ :: _, [], _, e => e.elim
  | (k, u, b) :: es, e :: L, 0, ⟨h1, h2, h3, h4⟩ => ⟨h1, hv, h3, h4⟩
  | (k, u, b) :: es, e :: L, i + 1, ⟨h1, h2, h3, h4⟩ => by
    simp only [setE, List.modify_succ_cons]
    exact ⟨h1, h2, h3, setE_rel hv i h4⟩

theorem delE_rel [Env] : ∀ {es : List (V × V × Nat)} {L : List MapEntry} (i : Nat), EntRel ρ es L → EntRel ρ (delE i es) (L.eraseIdx i)
  | [], [], _, _ => by simp [delE, EntRel]
  | [], _ :: _, _, e => e.elim
  | _ :: _, [], _, e => e.elim
  | (k, u, b) :: es, e :: L, 0, ⟨h1, h2, h3, h4⟩ => h4
  | (k, u, b) :: es, e :: L, i + 1, ⟨h1, h2, h3, h4⟩ => by
    simp only [delE, List.eraseIdx_cons_succ]
    exact ⟨h1, h2, h3, delE_rel i h4⟩

theorem endE_rel [Env] {k v : V} {b : Nat} {e : MapEntry} (hk : conc ρ k = some e.key) (hv : conc ρ v = some e.val) (hb : e.born = b) : ∀ {es : List (V × V × Nat)} {L : List MapEntry}, EntRel ρ es L → EntRel ρ (endE (k, v, b) es) (L ++ [e])
  | [], [], _ => ⟨hk, hv, hb, trivial⟩
  | [], _ :: _, e => e.elim
  | _ :: _, [], e => e.elim
  | (_, _, _) :: es, e' :: L, ⟨h1, h2, h3, h4⟩ => ⟨h1, h2, h3, endE_rel hk hv hb h4⟩

theorem setS_rel [Env] {s : Nat} {v : V} {x : Value} (hv : conc ρ v = some x) : ∀ {es es' : List (V × V × Nat)} {L : List MapEntry}, EntRel ρ es L → setS s v es = some es' →
    ∃ i, L.findIdx? (fun e => (e.born : Int) == (s : Int)) = some i ∧ EntRel ρ es' (L.modify i fun e => { e with val := x })
  | [], _, _, _, h => by simp [setS] at h
  | _ :: _, _, [], e, _ => e.elim
  | (k, u, b) :: es, es', e :: L, ⟨h1, h2, h3, h4⟩, h => by
    simp only [setS] at h
    cases hb : Nat.beq b s with
    | true =>
      simp only [hb, cond_true, Option.some.injEq] at h
      subst h
      have hb := Nat.eq_of_beq_eq_true hb
      refine ⟨0, ?_, h1, hv, h3, h4⟩
      rw [List.findIdx?_cons, if_pos (by rw [h3, hb]; simp)]
    | false =>
      simp only [hb, cond_false] at h
      split at h
      · rename_i l hl
        cases h
        obtain ⟨i, g1, g2⟩ := setS_rel hv h4 hl
        refine ⟨i + 1, ?_, ?_⟩
        · have hne : b ≠ s := by intro e; subst e; simp at hb
          rw [List.findIdx?_cons, if_neg (by rw [h3]; simp only [beq_iff_eq]; omega), g1]; rfl
        · simp only [List.modify_succ_cons]
          exact ⟨h1, h2, h3, g2⟩
      · cases h

theorem run_setObj_of {P : Program} {w : World} {r : Nat} {es : Array MapEntry} {clock : Nat} (o : Obj) (hb : w.heap[r]? = some (.map es clock)) : (setObj r o).run P w = .ok () { w with heap := w.heap.setIfInBounds r o } := by
  simp [setObj, Sem.run, hb]

/-- A map that is changed in place. -/
theorem put_map [Env] {b : Path} {x : Nat × Nat} {es es' : List (V × V × Nat)} {clock clock' : Nat} {L L' : List MapEntry} (hr : HRel ρ h w) (hg : h.get b = .m es clock) (hx : ρ b = some x)
    (hw : w.heap[x.1]? = some (.map L.toArray clock)) (he : EntRel ρ es' L') :
    HRel ρ (h.put b (.m es' clock')) { w with heap := w.heap.setIfInBounds x.1 (.map L'.toArray clock') } ∧ Ext ρ h w ρ (h.put b (.m es' clock')) { w with heap := w.heap.setIfInBounds x.1 (.map L'.toArray clock') } := by
  have hlt : x.1 < w.heap.size := (Array.getElem?_eq_some_iff.1 hw).1
  refine hr.put (by rw [hg]; rfl) hx _ (by simp) ⟨rfl, rfl, rfl⟩ (fun k hk => ?_) ⟨L', ?_, he⟩
  · simp only [Array.getElem?_setIfInBounds_ne (Ne.symm hk)]
  · simp [Array.getElem?_setIfInBounds, hlt]

theorem cKM_spec {t : TypeId} {agg : Bool} {ts : List Nat} (hk : cKM P t = some (agg, ts)) : ∃ kt e, P.underlying t = some (.map kt e) ∧ keyC P kt = some (agg, ts) := by
  unfold cKM at hk
  split at hk
  · rename_i kt e hu; exact ⟨kt, e, hu, hk⟩
  · cases hk

theorem getD_key {L : List MapEntry} {i : Nat} {e : MapEntry} {kv : Value} (h : L[i]? = some e) (hk : e.key = kv) : (((L.toArray)[i]?).map (·.key)).getD kv = kv := by
  simp [h, hk]

theorem findE_same {agg : Bool} {ts : List Nat} {k : V} : ∀ {es : List (V × V × Nat)} {i j : Nat} {v : V} {b : Nat}, findE agg ts k es i = some (some (j, v, b)) → eqKey agg ts k k = some true
  | [], _, _, _, _, h => by simp [findE] at h
  | (k', v', b') :: es, i, j, v, b, h => by
    simp only [findE] at h
    cases hq : eqKey agg ts k k' with
    | none => simp [hq] at h
    | some q => cases q with
      | true => have := eqKey_same hq; rw [← this] at hq; exact hq
      | false => simp only [hq] at h; exact findE_same h

theorem up_spec [Env] {t : TypeId} {agg : Bool} {ts : List Nat} {x k v r : V} {u kv y : Value} (hk : cKM P t = some (agg, ts)) (hr : HRel ρ h w) (hv : mUpV h agg ts x k v = some (r, h')) (hx : conc ρ x = some u) (hkv : conc ρ k = some kv) (hy : conc ρ v = some y) :
    r = undefV ∧ ∃ w', (Instr.mapUpdate t u kv y).run P w = .ok () w' ∧ HRel ρ h' w' ∧ Ext ρ h w ρ h' w' := by
  obtain ⟨kt, e, hu, hkc⟩ := cKM_spec hk
  unfold mUpV at hv
  cases hko : keyOk agg ts k with
  | false => simp [hko] at hv
  | true =>
    simp only [hko, cond_true] at hv
    split at hv
    · rename_i b
      unfold mUpOb at hv
      split at hv
      · rename_i es clock hg
        obtain ⟨x, L, hxb, rfl, h1, h2⟩ := map_spec hr hg hx
        have hck := keyOk_check (P := P) hkc hko hkv false w
        unfold mUp at hv
        split at hv
        · cases hv
        · rename_i hf
          obtain ⟨f1, _⟩ := findKey_spec (P := P) hkc hkv h2 hf w
          simp only [Option.some.injEq, Prod.mk.injEq] at hv
          obtain ⟨rfl, rfl⟩ := hv
          have he := endE_rel (ρ := ρ) (e := { key := kv, val := y, born := clock }) hkv hy rfl h2
          obtain ⟨p1, p2⟩ := put_map (clock' := clock + 1) hr hg hxb h1 he
          refine ⟨rfl, _, ?_, p1, p2⟩
          simp only [Instr.mapUpdate, Sem.run_bind, run_under hu, Result.andThen_ok, run_getObj_of h1, hck, f1 rfl]
          rw [run_setObj_of _ h1]
          simp
        · rename_i i v' b' hf
          obtain ⟨_, f2⟩ := findKey_spec (P := P) hkc hkv h2 hf w
          obtain ⟨g1, y', hy', hrun⟩ := f2 i v' b' rfl
          simp only [Option.some.injEq, Prod.mk.injEq] at hv
          obtain ⟨rfl, rfl⟩ := hv
          obtain ⟨en, e1, e2, e3, e4⟩ := EntRel.get i _ h2 g1
          have hkey : en.key = kv := by simp only at e2; rw [hkv] at e2; exact (Option.some.inj e2).symm
          have he := setE_rel (ρ := ρ) hy i h2
          obtain ⟨p1, p2⟩ := put_map (clock' := clock) hr hg hxb h1 he
          refine ⟨rfl, _, ?_, p1, p2⟩
          simp only [Instr.mapUpdate, Sem.run_bind, run_under hu, Result.andThen_ok, run_getObj_of h1, hck, hrun]
          have hgd : ((L.toArray[i]?).map (·.key)).getD kv = kv := getD_key e1 hkey
          rw [hgd, key_stays (P := P) (findE_same hf) hkv w]
          simp only [Result.andThen_ok]
          rw [run_setObj_of _ h1]
          have hm : (L.toArray.modify i fun e => { e with key := kv, val := y }) = (L.modify i fun e => { e with val := y }).toArray := by
            apply Array.ext'
            rw [Array.toList_modify]
            apply List.ext_getElem?
            intro j
            simp only [List.getElem?_modify]
            by_cases hij : i = j
            · subst hij; simp [e1, hkey]
            · simp [hij]
          rw [hm]
      · cases hv
    · cases hv

theorem del_spec [Env] {t : TypeId} {agg : Bool} {ts : List Nat} {x k r : V} {u kv : Value} {ats : Array TypeId} {ty : TypeId} (hat : ats[0]? = some t) (hk : cKM P t = some (agg, ts)) (hr : HRel ρ h w) (hv : mDelV h agg ts x k = some (r, h')) (hx : conc ρ x = some u) (hkv : conc ρ k = some kv) :
    r = undefV ∧ ∃ w', (Builtin.delete_ ats ty #[u, kv]).run P w = .ok (.tuple #[]) w' ∧ HRel ρ h' w' ∧ Ext ρ h w ρ h' w' := by
  obtain ⟨kt, e, hu, hkc⟩ := cKM_spec hk
  unfold mDelV at hv
  have ha0 : (#[u, kv] : Array Value)[0]? = some u := rfl
  have ha1 : (#[u, kv] : Array Value)[1]? = some kv := rfl
  cases hko : keyOk agg ts k with
  | false => simp [hko] at hv
  | true =>
    simp only [hko, cond_true] at hv
    have hck := fun em => keyOk_check (P := P) hkc hko hkv em w
    split at hv
    · rename_i b
      unfold mDelOb at hv
      split at hv
      · rename_i es clock hg
        obtain ⟨x, L, hxb, rfl, h1, h2⟩ := map_spec hr hg hx
        unfold mDel at hv
        split at hv
        · cases hv
        · rename_i hf
          obtain ⟨f1, _⟩ := findKey_spec (P := P) hkc hkv h2 hf w
          simp only [Option.some.injEq, Prod.mk.injEq] at hv
          obtain ⟨rfl, rfl⟩ := hv
          obtain ⟨p1, p2⟩ := put_map (clock' := clock) hr hg hxb h1 h2
          refine ⟨rfl, _, ?_, p1, p2⟩
          simp only [Builtin.delete_, hat, ha0, ha1, Sem.run_bind, run_under hu, Result.andThen_ok, run_getObj_of h1, hck, f1 rfl]
          rw [run_setObj_of _ h1]
          rfl
        · rename_i i v' b' hf
          obtain ⟨_, f2⟩ := findKey_spec (P := P) hkc hkv h2 hf w
          obtain ⟨g1, y', hy', hrun⟩ := f2 i v' b' rfl
          simp only [Option.some.injEq, Prod.mk.injEq] at hv
          obtain ⟨rfl, rfl⟩ := hv
          have he := delE_rel (ρ := ρ) i h2
          obtain ⟨p1, p2⟩ := put_map (clock' := clock) hr hg hxb h1 he
          refine ⟨rfl, _, ?_, p1, p2⟩
          simp only [Builtin.delete_, hat, ha0, ha1, Sem.run_bind, run_under hu, Result.andThen_ok, run_getObj_of h1, hck, hrun]
          rw [run_setObj_of _ h1]
          have hm : L.toArray.eraseIdxIfInBounds i = (L.eraseIdx i).toArray := by
            apply Array.ext'
            simp [Array.eraseIdxIfInBounds]
            split
            · simp
            · rename_i hi
              rw [List.eraseIdx_of_length_le (by omega)]
          rw [hm]
          rfl
      · cases hv
    · simp only [Option.some.injEq, Prod.mk.injEq] at hv
      obtain ⟨rfl, rfl⟩ := hv
      simp [conc] at hx; subst hx
      refine ⟨rfl, w, ?_, hr, .refl _ _ _⟩
      simp only [Builtin.delete_, hat, ha0, ha1, Sem.run_bind, run_under hu, Result.andThen_ok, hck]
      rfl
    · cases hv

theorem mentry_spec [Env] {t : TypeId} {agg : Bool} {ts : List Nat} {x k r zero : V} {u kv : Value} (hk : cKM P t = some (agg, ts)) (hz : cZM P t = some zero) (hr : HRel ρ h w) (hv : mEntV h agg ts zero x k = some (r, h')) (hx : conc ρ x = some u) (hkv : conc ρ k = some kv) :
    ∃ y w', (Instr.mapEntry t u kv).run P w = .ok y w' ∧ conc ρ r = some y ∧ HRel ρ h' w' ∧ Ext ρ h w ρ h' w' := by
  obtain ⟨kt, e, hu, hkc⟩ := cKM_spec hk
  simp only [cZM, hu, Option.bind_eq_some_iff] at hz
  obtain ⟨zv, ⟨inf, hi, hz⟩, hcz⟩ := hz
  have hzr : ∀ w, (zeroValue e).run P w = .ok zv w := fun w => by simp [zeroValue, typeInfo, hi, hz]
  have hcz := cV_spec ρ _ _ hcz
  unfold mEntV at hv
  cases hko : keyOk agg ts k with
  | false => simp [hko] at hv
  | true =>
    simp only [hko, cond_true] at hv
    split at hv
    · rename_i b
      unfold mEntOb at hv
      split at hv
      · rename_i es clock hg
        obtain ⟨x, L, hxb, rfl, h1, h2⟩ := map_spec hr hg hx
        have hck := keyOk_check (P := P) hkc hko hkv false w
        unfold mEnt at hv
        split at hv
        · cases hv
        · rename_i hf
          obtain ⟨f1, _⟩ := findKey_spec (P := P) hkc hkv h2 hf w
          simp only [Option.some.injEq, Prod.mk.injEq] at hv
          obtain ⟨rfl, rfl⟩ := hv
          have he := endE_rel (ρ := ρ) (e := { key := kv, val := zv, born := clock }) hkv hcz rfl h2
          obtain ⟨p1, p2⟩ := put_map (clock' := clock + 1) hr hg hxb h1 he
          refine ⟨.tuple #[zv, goInt clock], _, ?_, by simp [conc, concs, hcz, goInt], p1, p2⟩
          simp only [Instr.mapEntry, Sem.run_bind, run_under hu, Result.andThen_ok, run_getObj_of h1, hck, f1 rfl, hzr]
          rw [run_setObj_of _ h1]
          simp
        · rename_i i v' b' hf
          obtain ⟨_, f2⟩ := findKey_spec (P := P) hkc hkv h2 hf w
          obtain ⟨g1, y', hy', hrun⟩ := f2 i v' b' rfl
          simp only [Option.some.injEq, Prod.mk.injEq] at hv
          obtain ⟨rfl, rfl⟩ := hv
          obtain ⟨en, e1, e2, e3, e4⟩ := EntRel.get i _ h2 g1
          have hkey : en.key = kv := by simp only at e2; rw [hkv] at e2; exact (Option.some.inj e2).symm
          obtain ⟨p1, p2⟩ := put_map (es' := es) (clock' := clock) hr hg hxb h1 h2
          have hgd : ((L.toArray[i]?).map (·.key)).getD kv = kv := getD_key e1 hkey
          have hm : (L.toArray.modify i fun e => { e with key := kv }) = L.toArray := by
            apply Array.ext'
            rw [Array.toList_modify]
            apply List.ext_getElem?
            intro j
            simp only [List.getElem?_modify]
            by_cases hij : i = j
            · subst hij; simp only [if_true, e1, Option.map_some]; subst hkey; rfl
            · simp [hij]
          have hwe : ({ w with heap := w.heap.setIfInBounds x.1 (.map L.toArray clock) } : World) = w := by
            have : w.heap.setIfInBounds x.1 (.map L.toArray clock) = w.heap := by
              apply Array.ext_getElem?
              intro j
              by_cases hj : x.1 = j
              · subst hj; rw [h1]; simp [Array.getElem?_setIfInBounds, (Array.getElem?_eq_some_iff.1 h1).1]
              · rw [Array.getElem?_setIfInBounds_ne hj]
            rw [this]
          refine ⟨.tuple #[y', goInt b'], w, ?_, by simp [conc, concs, hy', goInt], hr, .refl _ _ _⟩
          simp only [Instr.mapEntry, Sem.run_bind, run_under hu, Result.andThen_ok, run_getObj_of h1, hck, hrun]
          rw [hgd, key_stays (P := P) (findE_same hf) hkv w]
          simp only [Result.andThen_ok]
          rw [run_setObj_of _ h1, hm, hwe]
          simp [e1, e4]
      · cases hv
    · cases hv

theorem est_spec [Env] {t : TypeId} {x v sv r : V} {s : Nat} {u su y : Value} (hr : HRel ρ h w) (hv : mStV h x (some s) v = some (r, h')) (hx : conc ρ x = some u) (hs : asN sv = some s) (hsu : conc ρ sv = some su) (hy : conc ρ v = some y) :
    r = undefV ∧ ∃ w', (Instr.entryStore t u su y).run P w = .ok () w' ∧ HRel ρ h' w' ∧ Ext ρ h w ρ h' w' := by
  obtain ⟨j, rfl⟩ := asN_spec hs hsu
  unfold mStV at hv
  split at hv
  · rename_i b
    simp only at hv
    unfold mStOb at hv
    split at hv
    · rename_i es clock hg
      obtain ⟨x, L, hxb, rfl, h1, h2⟩ := map_spec hr hg hx
      split at hv
      · rename_i es' hse
        simp only [Option.some.injEq, Prod.mk.injEq] at hv
        obtain ⟨rfl, rfl⟩ := hv
        obtain ⟨i, g1, g2⟩ := setS_rel (ρ := ρ) hy h2 hse
        obtain ⟨p1, p2⟩ := put_map (clock' := clock) hr hg hxb h1 g2
        refine ⟨rfl, _, ?_, p1, p2⟩
        have hfi : L.toArray.findIdx? (fun e => (e.born : Int) == (s : Int)) = some i := by simpa using g1
        simp only [Instr.entryStore, Sem.run_bind, run_getObj_of h1, Result.andThen_ok, asInt, asIntOf, Sem.run_pure, hfi]
        rw [run_setObj_of _ h1]
        simp
      · cases hv
    · cases hv
  · cases hv

theorem rng_spec [Env] {t kt e : TypeId} {x r : V} {u : Value} (hu : P.underlying t = some (.map kt e)) (hr : HRel ρ h w) (hv : mRngV h x = some (r, h')) (hx : conc ρ x = some u) :
    ∃ ρ' y w', (Instr.range t u).run P w = .ok y w' ∧ conc ρ' r = some y ∧ HRel ρ' h' w' ∧ Ext ρ h w ρ' h' w' := by
  unfold mRngV at hv
  split at hv
  · simp only [Option.some.injEq, Prod.mk.injEq] at hv
    obtain ⟨rfl, rfl⟩ := hv
    simp [conc] at hx; subst hx
    obtain ⟨p1, p2⟩ := hr.new (.it none 0 [] 0) (.mapIter none 0 #[] 0) 0 rfl
    refine ⟨_, .pointer (some ⟨w.heap.size, 0, none⟩), _, ?_, by simp [conc, Ren.add_self], p1, p2⟩
    simp only [Instr.range, Sem.run_bind, run_under hu, Result.andThen_ok, Sem.run_pure, run_newObj]
  · rename_i b
    unfold mRngOb at hv
    split at hv
    · rename_i es clock hg
      simp only [Option.some.injEq, Prod.mk.injEq] at hv
      obtain ⟨rfl, rfl⟩ := hv
      obtain ⟨x, L, hxb, rfl, h1, h2⟩ := map_spec hr hg hx
      obtain ⟨p1, p2⟩ := hr.new (.it (some b) clock [] clock) (.mapIter (some x.1) clock #[] clock) 0 ⟨x, hxb, rfl⟩
      refine ⟨_, .pointer (some ⟨w.heap.size, 0, none⟩), _, ?_, by simp [conc, Ren.add_self], p1, p2⟩
      simp only [Instr.range, Sem.run_bind, run_under hu, Result.andThen_ok, run_getObj_of h1, Sem.run_pure, run_newObj]
    · cases hv
  · cases hv

theorem memN_contains (n : Nat) : ∀ (l : List Nat), memN n l = l.reverse.toArray.contains n := by
  intro l
  have : ∀ l : List Nat, memN n l = l.contains n := by
    intro l
    induction l with
    | nil => rfl
    | cons m l ih =>
      simp only [memN, List.contains_cons, ih]
      have : Nat.beq m n = (n == m) := by rw [Bool.eq_iff_iff]; simp [Nat.beq_eq]; exact eq_comm
      rw [this]
      cases (n == m) <;> rfl
  rw [this l]
  simp

theorem leftE_rel [Env] {seen : List Nat} : ∀ {es : List (V × V × Nat)} {L : List MapEntry}, EntRel ρ es L → EntRel ρ (leftE seen es) (L.filter fun e => !memN e.born seen)
  | [], [], _ => trivial
  | [], _ :: _, e => e.elim
  | _ :: _, [], e => e.elim
  | (k, v, b) :: es, e :: L, ⟨h1, h2, h3, h4⟩ => by
    simp only [leftE, List.filter_cons, h3]
    cases hm : memN b seen with
    | true => simpa using leftE_rel (seen := seen) h4
    | false => exact ⟨h1, h2, h3, leftE_rel (seen := seen) h4⟩

theorem allNew_rel [Env] {last : Nat} : ∀ {es : List (V × V × Nat)} {L : List MapEntry}, EntRel ρ es L → L.all (fun e => decide (e.born ≥ last)) = allNew last es
  | [], [], _ => rfl
  | [], _ :: _, e => e.elim
  | _ :: _, [], e => e.elim
  | (k, v, b) :: es, e :: L, ⟨h1, h2, h3, h4⟩ => by
    simp only [List.all_cons, allNew, h3, allNew_rel (last := last) h4]
    cases hb : Nat.ble last b with
    | true => have := Nat.le_of_ble_eq_true hb; simp [this]
    | false =>
      have : ¬ last ≤ b := fun hle => by rw [Nat.ble_eq_true_of_le hle] at hb; cases hb
      simp [this]

theorem run_choose_one (w : World) : (choose (Question.mapNext 1)).run P w = .ok 0 w := by simp [choose, Sem.run, Question.forced]

theorem nxt_spec [Env] {x r : V} {u : Value} {ty : TypeId} (hr : HRel ρ h w) (hv : mNxtV h x = some (r, h')) (hx : conc ρ x = some u) :
    ∃ y w', (Instr.next u false ty).run P w = .ok y w' ∧ conc ρ r = some y ∧ HRel ρ h' w' ∧ Ext ρ h w ρ h' w' := by
  unfold mNxtV at hv
  split at hv
  · rename_i b o
    cases ho : Nat.beq o 0 with
    | false => simp [ho] at hv
    | true =>
      have := Nat.eq_of_beq_eq_true ho
      subst this
      simp only [ho, cond_true] at hv
      unfold mNxtOb at hv
      split at hv
      · rename_i mp since seen last hg
        obtain ⟨q, hq, rfl⟩ := conc_p hx
        obtain ⟨x2, hx2, g1, g2⟩ := it_spec hr hg
        rw [hq] at hx2; cases hx2
        split at hv
        · simp only [Option.some.injEq, Prod.mk.injEq] at hv
          obtain ⟨rfl, rfl⟩ := hv
          have h1 := g1 rfl
          refine ⟨.tuple #[.bool false], w, ?_, rfl, hr, .refl _ _ _⟩
          simp only [Instr.next, Sem.run_bind, run_getObj_of h1, Result.andThen_ok, Sem.run_pure]
        · rename_i m
          obtain ⟨y, hy, h1⟩ := g2 m rfl
          unfold mNxtM at hv
          split at hv
          · rename_i es clock hgm
            obtain ⟨y2, L, hy2, _, h2, h3⟩ := map_spec hr hgm (show conc ρ (.m m) = some (.map (some y.1)) by simp [conc, hy])
            rw [hy] at hy2; cases hy2
            cases hga : goneAll last seen es with
            | true => simp [hga] at hv
            | false =>
              simp only [hga, cond_false] at hv
              have ht : (!seen.reverse.toArray.isEmpty && !L.toArray.isEmpty && L.toArray.all (fun e => decide (e.born ≥ last))) = false := by
                have e1 : L.toArray.all (fun e => decide (e.born ≥ last)) = allNew last es := by rw [← allNew_rel h3]; simp
                have e2 : L.toArray.isEmpty = es.isEmpty := by
                  have := EntRel.length h3
                  cases L <;> cases es <;> simp at this ⊢
                rw [e1, e2]
                unfold goneAll at hga
                cases seen with
                | nil => simp
                | cons s seen =>
                  cases es with
                  | nil => simp
                  | cons e es => simp only at hga; simp [hga]
              have hleft : (L.toArray.filter fun e => !seen.reverse.toArray.contains e.born) = (L.filter fun e => !memN e.born seen).toArray := by
                have : (fun e : MapEntry => !seen.reverse.toArray.contains e.born) = fun e => !memN e.born seen := by funext e; rw [memN_contains]
                rw [this]
                apply Array.ext'
                simp
              have hlr := leftE_rel (seen := seen) h3
              generalize (L.filter fun e => !memN e.born seen) = F at hlr hleft
              unfold mNxtL at hv
              split at hv
              · rename_i hle
                rw [hle] at hlr
                have : F = [] := by cases F with | nil => rfl | cons _ _ => exact hlr.elim
                subst this
                simp only [Option.some.injEq, Prod.mk.injEq] at hv
                obtain ⟨rfl, rfl⟩ := hv
                refine ⟨.tuple #[.bool false], w, ?_, rfl, hr, .refl _ _ _⟩
                simp only [Instr.next, Sem.run_bind, run_getObj_of h1, run_getObj_of h2, Result.andThen_ok]
                rw [if_neg (by rw [ht]; simp)]
                rw [hleft]
                simp [Question.forced]
              · rename_i k v s l hle
                rw [hle] at hlr
                split at hv
                · cases hbl : Nat.blt s since with
                  | false => simp [hbl] at hv
                  | true =>
                    simp only [hbl, cond_true, Option.some.injEq, Prod.mk.injEq] at hv
                    obtain ⟨rfl, rfl⟩ := hv
                    have hbl : s < since := by simpa [Nat.blt_eq] using hbl
                    obtain ⟨en, rfl⟩ : ∃ en, F = [en] := by
                      cases F with
                      | nil => exact hlr.elim
                      | cons en F => cases F with
                        | nil => exact ⟨en, rfl⟩
                        | cons _ _ => exact hlr.2.2.2.elim
                    obtain ⟨k1, k2, k3, _⟩ := hlr
                    have hqlt : q.1 < w.heap.size := (Array.getElem?_eq_some_iff.1 h1).1
                    obtain ⟨p1, p2⟩ := hr.put (w' := { w with heap := w.heap.setIfInBounds q.1 (.mapIter (some y.1) since (seen.reverse.toArray.push s) clock) }) (by rw [hg]; rfl) hq (.it (some m) since (s :: seen) clock) (by simp) ⟨rfl, rfl, rfl⟩
                      (fun k hk => by simp only [Array.getElem?_setIfInBounds_ne (Ne.symm hk)]) (show ObRel ρ q.2 (.it (some m) since (s :: seen) clock) _ from ⟨y, hy, by simp [Array.getElem?_setIfInBounds, hqlt]⟩)
                    refine ⟨.tuple #[.bool true, en.key, en.val], _, ?_, by simp [conc, concs, k1, k2], p1, p2⟩
                    simp only [Instr.next, Sem.run_bind, run_getObj_of h1, run_getObj_of h2, Result.andThen_ok]
                    rw [if_neg (by rw [ht]; simp)]
                    rw [hleft]
                    have hso : ∀ o : Obj, (setObj q.1 o).run P w = .ok () { w with heap := w.heap.setIfInBounds q.1 o } := fun o => by simp [setObj, Sem.run, h1]
                    have e1 : ([en].toArray.filter (fun x => decide (x.born < since))) = [en].toArray := by simp [k3, hbl]
                    have e2 : ([en].toArray.filter (fun x => decide (x.born ≥ since))) = #[] := by
                      have : ¬ since ≤ s := by omega
                      simp [k3, this]
                    simp only [e1, e2]
                    simp [Question.forced, hso, k3]
                · cases hv
          · cases hv
      · cases hv
  · cases hv

theorem cln_spec [Env] {x r : V} {u : Value} (hr : HRel ρ h w) (hv : mClnV h x = some (r, h')) (hx : conc ρ x = some u) :
    ∃ ρ' y w', (Extern.MapsClone.clone #[u]).run P w = .ok y w' ∧ conc ρ' r = some y ∧ HRel ρ' h' w' ∧ Ext ρ h w ρ' h' w' := by
  unfold mClnV at hv
  split at hv
  · rename_i t v
    split at hv
    · rename_i b
      unfold mClnOb at hv
      split at hv
      · rename_i es clock hg
        simp only [Option.some.injEq, Prod.mk.injEq] at hv
        obtain ⟨rfl, rfl⟩ := hv
        obtain ⟨u', hu', rfl⟩ := conc_ifc hx
        obtain ⟨x, L, hxb, rfl, h1, h2⟩ := map_spec hr hg hu'
        obtain ⟨p1, p2⟩ := hr.new (.m es clock) (.map L.toArray clock) 0 ⟨L, rfl, h2⟩
        refine ⟨_, .iface t (.map (some w.heap.size)), _, ?_, by simp [conc, Ren.add_self], p1, p2⟩
        have hcl : ∀ (t : TypeId) (r : Nat), Extern.MapsClone.clone #[.iface t (.map (some r))] = (do
          let .map entries clock ← getObj r | stuck "maps.clone: a map expected"
          pure (.iface t (.map (some (← newObj (.map entries clock)))))) := fun _ _ => rfl
        rw [hcl]
        simp only [Sem.run_bind, run_getObj_of h1, Result.andThen_ok, run_newObj, Sem.run_pure]
      · cases hv
    · cases hv
  · cases hv

/-! ### Calls of methods -/

/-- How the method of a name is called on values of a type: the function, and what is to be read of the pointer, if anything. -/
def rowOf (P : Program) (name : String) (i : TypeInfo) (t : TypeId) : Option (Path × Option (Bool × Nat)) :=
  (i.methods.toList.find? (·.name == name)).bind fun m => match m.path.toList, m.func with
    | [], some (f, pr) => (match P.underlying t with
      | some (.pointer e) => if pr then some (Path.of f, none) else (aggO P e).bind fun g => (szO P e).map fun n => (Path.of f, some (g, n))
      | some _ => if pr then none else some (Path.of f, none)
      | none => none)
    | _, _ => none

def rowsFrom (P : Program) (name : String) : List TypeInfo → Nat → List (Nat × Path × Option (Bool × Nat))
  | [], _ => []
  | i :: l, t => match rowOf P name i t with
    | some r => (t, r) :: rowsFrom P name l (t + 1)
    | none => rowsFrom P name l (t + 1)

def findT (t : Nat) : List (Nat × Path × Option (Bool × Nat)) → Option (Path × Option (Bool × Nat))
  | [] => none
  | (u, r) :: l => cond (Nat.beq u t) (some r) (findT t l)

noncomputable def invR (h : H) (v : V) (args : List V) (r : Option (Path × Option (Bool × Nat))) : Option (Path × List V) :=
  match r with
  | none => none
  | some (f, k) => match k with
    | none => some (f, v :: args)
    | some (g, n) => (match loadV h g n v with | some u => some (f, u :: args) | none => none)

noncomputable def invV (h : H) (tbl : List (Nat × Path × Option (Bool × Nat))) (x : V) (args : List V) : Option (Path × List V) :=
  match x with
  | .ifc t v => invR h v args (findT t tbl)
  | _ => none

theorem findT_spec {name : String} : ∀ (l : List TypeInfo) (t0 t : Nat) (r : Path × Option (Bool × Nat)), findT t (rowsFrom P name l t0) = some r → ∃ i, t0 ≤ t ∧ l[t - t0]? = some i ∧ rowOf P name i t = some r
  | [], _, _, _, h => by simp [rowsFrom, findT] at h
  | i :: l, t0, t, r, h => by
    simp only [rowsFrom] at h
    have rest : findT t (rowsFrom P name l (t0 + 1)) = some r → ∃ i', t0 ≤ t ∧ (i :: l)[t - t0]? = some i' ∧ rowOf P name i' t = some r := by
      intro h
      obtain ⟨i', a, b, c⟩ := findT_spec l (t0 + 1) t r h
      refine ⟨i', by omega, ?_, c⟩
      rw [show t - t0 = (t - (t0 + 1)) + 1 by omega]
      simpa using b
    split at h
    · rename_i r' hr'
      simp only [findT] at h
      cases hb : Nat.beq t0 t with
      | true =>
        have hb := Nat.eq_of_beq_eq_true hb
        subst hb
        simp only [Nat.beq_refl, cond_true, Option.some.injEq] at h
        subst h
        exact ⟨i, Nat.le_refl _, by simp, hr'⟩
      | false =>
        simp only [hb, cond_false] at h
        exact rest h
    · exact rest h

end
end Go.Eng
