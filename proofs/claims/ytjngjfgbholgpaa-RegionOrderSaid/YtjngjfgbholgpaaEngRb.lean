/- The engine, part Rb: code in a form that the kernel evaluates fast. -/
import Derived.Test.YtjngjfgbholgpaaEngRa
set_option linter.unusedSimpArgs false
set_option linter.unusedVariables false
namespace Go.Eng

abbrev IH := Path → List V → H → Rs
abbrev K := IH → Tr V → H → Rs
abbrev E := Tr V → Option V
abbrev EH := Tr V → H → Option V
abbrev EW := Tr V → H → HR

/-! ### Operations that touch no memory -/

noncomputable def eMv (g : GV) : E := fun t => some (g t)
noncomputable def eBin (f : FJ) (op : BinOp) (k : Nat) (x y : GV) : E := fun t => intV (x t) (y t) f op k
noncomputable def eGen (i : PI) : E := fun t => puI t i
noncomputable def fieldAJ (x : V) (off : Nat) : Option V :=
  V.rec (motive_1 := fun _ => Nat → Option V) (motive_2 := fun _ => PUnit) (fun zx off => none) (fun zk zn off => none) (fun zl off => none) (fun zq zo off => some (.p zq (Nat.add zo off))) (fun off => none) (fun zq zo zn zc ze zs off => none) (fun off => none) (fun zq off => none) (fun off => none) (fun zq zl _ off => none) (fun off => none) (fun zt zv _ off => none) (fun off => none) (fun zl _ off => none) (fun zl _ off => none) (fun zg off => none) (fun zg zc off => none) (fun zj zc zl zh off => none) PUnit.unit (fun _ _ _ _ => PUnit.unit) x off
noncomputable def eFieldA (off : Nat) (x : GV) : E := fun t => fieldAJ (x t) off
noncomputable def idxA3 (n : Int) (b : Path) (o len es : Nat) : Option V :=
  Int.rec (motive := fun _ => Path → Nat → Nat → Nat → Option V)
    (fun m b o len es => Bool.rec (motive := fun _ => Nat → Path → Nat → Nat → Option V) (fun _ _ _ _ => none) (fun m b o es => some (.p b (Nat.add o (Nat.mul m es)))) (Nat.ble (Nat.succ m) len) m b o es)
    (fun _ _ _ _ _ => none) n b o len es
noncomputable def idxA2 (i : V) (b : Path) (o len es : Nat) : Option V :=
  V.rec (motive_1 := fun _ => Path → Nat → Nat → Nat → Option V) (motive_2 := fun _ => PUnit) (fun zx b o len es => none) (fun zk zn b o len es => idxA3 zn b o len es) (fun zl b o len es => none) (fun zq zo b o len es => none) (fun b o len es => none) (fun zq zo zn zc ze zs b o len es => none) (fun b o len es => none) (fun zq b o len es => none) (fun b o len es => none) (fun zq zl _ b o len es => none) (fun b o len es => none) (fun zt zv _ b o len es => none) (fun b o len es => none) (fun zl _ b o len es => none) (fun zl _ b o len es => none) (fun zg b o len es => none) (fun zg zc b o len es => none) (fun zj zc zl zh b o len es => none) PUnit.unit (fun _ _ _ _ => PUnit.unit) i b o len es
noncomputable def idxA1 (x i : V) (es : Nat) : Option V :=
  V.rec (motive_1 := fun _ => V → Nat → Option V) (motive_2 := fun _ => PUnit) (fun zx i es => none) (fun zk zn i es => none) (fun zl i es => none) (fun zq zo i es => none) (fun i es => none) (fun zq zo zn zc ze zs i es => idxA2 i zq zo zn es) (fun i es => none) (fun zq i es => none) (fun i es => none) (fun zq zl _ i es => none) (fun i es => none) (fun zt zv _ i es => none) (fun i es => none) (fun zl _ i es => none) (fun zl _ i es => none) (fun zg i es => none) (fun zg zc i es => none) (fun zj zc zl zh i es => none) PUnit.unit (fun _ _ _ _ => PUnit.unit) x i es
noncomputable def eIdxA (es : Nat) (x i : GV) : E := fun t => idxA1 (x t) (i t) es
noncomputable def lenSlJ (x : V) : Option V :=
  V.rec (motive_1 := fun _ => Option V) (motive_2 := fun _ => PUnit) (fun zx => none) (fun zk zn => none) (fun zl => none) (fun zq zo => none) (none) (fun zq zo zn zc ze zs => some (.i .i64 (.ofNat zn))) (some (.i .i64 (.ofNat 0))) (fun zq => none) (none) (fun zq zl _ => none) (none) (fun zt zv _ => none) (none) (fun zl _ => none) (fun zl _ => none) (fun zg => none) (fun zg zc => none) (fun zj zc zl zh => none) PUnit.unit (fun _ _ _ _ => PUnit.unit) x
noncomputable def eLenSl (x : GV) : E := fun t => lenSlJ (x t)
noncomputable def convJ (x : V) (k : IntKind) : Option V :=
  V.rec (motive_1 := fun _ => IntKind → Option V) (motive_2 := fun _ => PUnit) (fun zx k => none) (fun zk zn k => iJ k (wrapJ k zn)) (fun zl k => none) (fun zq zo k => none) (fun k => none) (fun zq zo zn zc ze zs k => none) (fun k => none) (fun zq k => none) (fun k => none) (fun zq zl _ k => none) (fun k => none) (fun zt zv _ k => none) (fun k => none) (fun zl _ k => none) (fun zl _ k => none) (fun zg k => none) (fun zg zc k => none) (fun zj zc zl zh k => none) PUnit.unit (fun _ _ _ _ => PUnit.unit) x k
noncomputable def eConv (k : IntKind) (x : GV) : E := fun t => convJ (x t) k
noncomputable def extJ (x : V) (i : Nat) : Option V :=
  V.rec (motive_1 := fun _ => Nat → Option V) (motive_2 := fun _ => PUnit) (fun zx i => none) (fun zk zn i => none) (fun zl i => none) (fun zq zo i => none) (fun i => none) (fun zq zo zn zc ze zs i => none) (fun i => none) (fun zq i => none) (fun i => none) (fun zq zl _ i => none) (fun i => none) (fun zt zv _ i => none) (fun i => none) (fun zl _ i => none) (fun zl _ i => nthV i zl) (fun zg i => none) (fun zg zc i => none) (fun zj zc zl zh i => none) PUnit.unit (fun _ _ _ _ => PUnit.unit) x i
noncomputable def eExt (i : Nat) (x : GV) : E := fun t => extJ (x t) i
noncomputable def fldJ (x : V) (i : Nat) : Option V :=
  V.rec (motive_1 := fun _ => Nat → Option V) (motive_2 := fun _ => PUnit) (fun zx i => none) (fun zk zn i => none) (fun zl i => none) (fun zq zo i => none) (fun i => none) (fun zq zo zn zc ze zs i => none) (fun i => none) (fun zq i => none) (fun i => none) (fun zq zl _ i => none) (fun i => none) (fun zt zv _ i => none) (fun i => none) (fun zl _ i => nthV i zl) (fun zl _ i => none) (fun zg i => none) (fun zg zc i => none) (fun zj zc zl zh i => none) PUnit.unit (fun _ _ _ _ => PUnit.unit) x i
noncomputable def eFld (i : Nat) (x : GV) : E := fun t => fldJ (x t) i
noncomputable def nthN (o : Nat) (l : List Nat) : Option Nat :=
  Nat.rec (motive := fun _ => List Nat → Option Nat) (fun l => List.rec (motive := fun _ => Option Nat) none (fun v _ _ => some v) l)
    (fun _ ih l => List.rec (motive := fun _ => (List Nat → Option Nat) → Option Nat) (fun _ => none) (fun _ t _ ih => ih t) l ih) o l
noncomputable def byteJ (r : Option Nat) : Option V := Option.rec (motive := fun _ => Option V) none (fun c => some (.i .u8 (.ofNat c))) r
noncomputable def idxS3 (n : Int) (l : List Nat) : Option V := Int.rec (motive := fun _ => List Nat → Option V) (fun m l => byteJ (nthN m l)) (fun _ _ => none) n l
noncomputable def idxS2 (i : V) (l : List Nat) : Option V :=
  V.rec (motive_1 := fun _ => List Nat → Option V) (motive_2 := fun _ => PUnit) (fun zx l => none) (fun zk zn l => idxS3 zn l) (fun zl l => none) (fun zq zo l => none) (fun l => none) (fun zq zo zn zc ze zs l => none) (fun l => none) (fun zq l => none) (fun l => none) (fun zq zl _ l => none) (fun l => none) (fun zt zv _ l => none) (fun l => none) (fun zl _ l => none) (fun zl _ l => none) (fun zg l => none) (fun zg zc l => none) (fun zj zc zl zh l => none) PUnit.unit (fun _ _ _ _ => PUnit.unit) i l
noncomputable def idxS1 (x i : V) : Option V :=
  V.rec (motive_1 := fun _ => V → Option V) (motive_2 := fun _ => PUnit) (fun zx i => none) (fun zk zn i => none) (fun zl i => idxS2 i zl) (fun zq zo i => none) (fun i => none) (fun zq zo zn zc ze zs i => none) (fun i => none) (fun zq i => none) (fun i => none) (fun zq zl _ i => none) (fun i => none) (fun zt zv _ i => none) (fun i => none) (fun zl _ i => none) (fun zl _ i => none) (fun zg i => none) (fun zg zc i => none) (fun zj zc zl zh i => none) PUnit.unit (fun _ _ _ _ => PUnit.unit) x i
noncomputable def eIdxS (x i : GV) : E := fun t => idxS1 (x t) (i t)
noncomputable def nilckJ (x : V) : Option V :=
  V.rec (motive_1 := fun _ => Option V) (motive_2 := fun _ => PUnit) (fun zx => none) (fun zk zn => none) (fun zl => none) (fun zq zo => some (.p zq zo)) (none) (fun zq zo zn zc ze zs => none) (none) (fun zq => none) (none) (fun zq zl _ => some (.f zq zl)) (none) (fun zt zv _ => some (.ifc zt zv)) (none) (fun zl _ => none) (fun zl _ => none) (fun zg => none) (fun zg zc => none) (fun zj zc zl zh => none) PUnit.unit (fun _ _ _ _ => PUnit.unit) x
noncomputable def eNil (x : GV) : E := fun t => nilckJ (x t)

noncomputable def dropJ (n : Nat) (l : List V) : List V :=
  Nat.rec (motive := fun _ => List V → List V) (fun l => l) (fun _ ih l => List.rec (motive := fun _ => (List V → List V) → List V) (fun _ => []) (fun _ t _ ih => ih t) l ih) n l
theorem dropJ_eq : ∀ (n : Nat) (l : List V), dropJ n l = ldrop n l
  | 0, _ => rfl
  | _ + 1, [] => rfl
  | n + 1, _ :: l => dropJ_eq n l
noncomputable def takeJ (n : Nat) (l : List V) : Option (List V) :=
  Nat.rec (motive := fun _ => List V → Option (List V)) (fun _ => some [])
    (fun _ ih l => List.rec (motive := fun _ => (List V → Option (List V)) → Option (List V)) (fun _ => none) (fun v t _ ih => consO v (ih t)) l ih) n l
theorem takeJ_eq : ∀ (n : Nat) (l : List V), takeJ n l = takeE n l
  | 0, _ => rfl
  | _ + 1, [] => rfl
  | n + 1, v :: l => by
    show consO v (takeJ n l) = _
    rw [takeJ_eq n l]
    show _ = (Option.casesOn (takeE n l) none (fun r => some (v :: r)) : Option (List V))
    cases takeE n l <;> rfl
noncomputable def aggJ (r : Option (List V)) : Option V := Option.rec (motive := fun _ => Option V) none (fun l => some (.a l)) r
noncomputable def fldAJ (x : V) (off n : Nat) : Option V :=
  V.rec (motive_1 := fun _ => Nat → Nat → Option V) (motive_2 := fun _ => PUnit) (fun zx off n => none) (fun zk zn off n => none) (fun zl off n => none) (fun zq zo off n => none) (fun off n => none) (fun zq zo zn zc ze zs off n => none) (fun off n => none) (fun zq off n => none) (fun off n => none) (fun zq zl _ off n => none) (fun off n => none) (fun zt zv _ off n => none) (fun off n => none) (fun zl _ off n => aggJ (takeJ n (dropJ off zl))) (fun zl _ off n => none) (fun zg off n => none) (fun zg zc off n => none) (fun zj zc zl zh off n => none) PUnit.unit (fun _ _ _ _ => PUnit.unit) x off n
noncomputable def eFldA (off n : Nat) (x : GV) : E := fun t => fldAJ (x t) off n

noncomputable def eP (i : PI) : E :=
  match i with
  | .mv x => eMv (gO x)
  | .bin op k x y => eBin (fOp op) op k (gO x) (gO y)
  | .fieldA off x => eFieldA off (gO x)
  | .idxASl es x i => eIdxA es (gO x) (gO i)
  | .lenSl x => eLenSl (gO x)
  | .convI k x => eConv k (gO x)
  | .extract x i => eExt i (gO x)
  | .idxStr x i => eIdxS (gO x) (gO i)
  | .field false off 1 x => eFld off (gO x)
  | .field true off n x => eFldA off n (gO x)
  | .nilck x => eNil (gO x)
  | i => eGen i

theorem nthN_eq : ∀ (o : Nat) (l : List Nat), nthN o l = l[o]?
  | 0, [] => rfl
  | 0, _ :: _ => rfl
  | _ + 1, [] => rfl
  | o + 1, _ :: l => nthN_eq o l

theorem eP_eq (i : PI) (t : Tr V) : eP i t = puI t i := by
  unfold eP
  split
  · simp only [eMv, gO_eq, puI]
  · simp only [eBin, gO_eq, puI, intV_eq]
  · rename_i off x
    simp only [eFieldA, gO_eq, puI]
    cases ev t x <;> rfl
  · rename_i es x i
    simp only [eIdxA, gO_eq, puI]
    cases ev t x <;> try rfl
    cases ev t i <;> try rfl
    rename_i b o len _ _ _ k n
    cases n with
    | negSucc n => rfl
    | ofNat n =>
      show (Bool.rec (motive := fun _ => Nat → Path → Nat → Nat → Option V) (fun _ _ _ _ => none) (fun m b o es => some (.p b (Nat.add o (Nat.mul m es)))) (Nat.ble (Nat.succ n) len) n b o es) = cond (Nat.ble (n + 1) len) (some (.p b (o + n * es))) none
      cases hb : Nat.ble (n + 1) len <;> simp only [Nat.succ_eq_add_one, hb] <;> rfl
  · rename_i x
    simp only [eLenSl, gO_eq, puI]
    cases ev t x <;> rfl
  · rename_i k x
    simp only [eConv, gO_eq, puI]
    cases ev t x <;> try rfl
    rename_i j n
    show some (V.i k (wrapJ k n)) = some (V.i k (wrapI k n))
    rw [wrapJ_eq, wrapI_eq]
  · rename_i x i
    simp only [eExt, gO_eq, puI]
    cases ev t x <;> try rfl
    rename_i l
    show nthV i l = match ldrop i l with | v :: _ => some v | [] => none
    rw [nthV_eq, ldrop_eq, ← List.head?_drop]
    cases l.drop i <;> rfl
  · rename_i x i
    simp only [eIdxS, gO_eq, puI]
    cases ev t x <;> try rfl
    cases ev t i <;> try rfl
    rename_i l k n
    cases n with
    | negSucc n => rfl
    | ofNat n =>
      show byteJ (nthN n l) = match ldrop n l with | c :: _ => some (.i .u8 (.ofNat c)) | [] => none
      rw [nthN_eq, ldrop_eq, ← List.head?_drop]
      cases l.drop n <;> rfl
  · rename_i off x
    simp only [eFld, gO_eq, puI]
    cases ev t x <;> try rfl
    rename_i l
    show nthV off l = partV false off 1 l
    unfold partV
    rw [nthV_eq]
    simp only [takeE_eq, ldrop_eq, List.length_drop]
    cases hl : l[off]? with
    | none =>
      rw [List.getElem?_eq_none_iff] at hl
      rw [if_neg (by omega)]
    | some v =>
      have hlt := (List.getElem?_eq_some_iff.1 hl).1
      rw [if_pos (by omega), List.drop_eq_getElem_cons hlt]
      simp only [List.take_succ_cons, List.take_zero, pick1]
      rw [List.getElem?_eq_getElem hlt] at hl
      exact hl.symm
  · rename_i off n x
    simp only [eFldA, gO_eq, puI]
    cases ev t x <;> try rfl
    rename_i l
    show aggJ (takeJ n (dropJ off l)) = partV true off n l
    unfold partV
    rw [takeJ_eq, dropJ_eq]
    cases takeE n (ldrop off l) <;> rfl
  · rename_i x
    simp only [eNil, gO_eq, puI]
    cases ev t x <;> rfl
  · rfl

/-! ### Operations that read, and that write -/

noncomputable def eLd1 (x : GV) : EH := fun t h => ld1 (x t) h
noncomputable def ldAO (ob : Ob) (o n : Nat) : Option V := Ob.rec (motive := fun _ => Nat → Nat → Option V) (fun _ _ => none) (fun _ l _ o n => aggJ (takeJ n (dropJ o l))) (fun _ _ _ _ => none) (fun _ _ _ _ _ _ => none) ob o n
noncomputable def ldA (x : V) (n : Nat) (h : H) : Option V :=
  V.rec (motive_1 := fun _ => Nat → H → Option V) (motive_2 := fun _ => PUnit) (fun zx n h => none) (fun zk zn n h => none) (fun zl n h => none) (fun zq zo n h => ldAO (getO zq h.t) zo n) (fun n h => none) (fun zq zo zn zc ze zs n h => none) (fun n h => none) (fun zq n h => none) (fun n h => none) (fun zq zl _ n h => none) (fun n h => none) (fun zt zv _ n h => none) (fun n h => none) (fun zl _ n h => none) (fun zl _ n h => none) (fun zg n h => none) (fun zg zc n h => none) (fun zj zc zl zh n h => none) PUnit.unit (fun _ _ _ _ => PUnit.unit) x n h
theorem ldA_eq (x : V) (n : Nat) (h : H) : ldA x n h = loadV h true n x := by
  cases x <;> try rfl
  rename_i b o
  show ldAO (getO b h.t) o n = _
  rw [getO_eq]
  show ldAO (h.get b) o n = match loadC h b o n with | some l => pick1 true l | none => none
  unfold loadC
  cases h.get b <;> try rfl
  rename_i ro l e
  show aggJ (takeJ n (dropJ o l)) = match takeE n (ldrop o l) with | some l => pick1 true l | none => none
  rw [takeJ_eq, dropJ_eq]
  cases takeE n (ldrop o l) <;> rfl
noncomputable def eLdA (n : Nat) (x : GV) : EH := fun t h => ldA (x t) n h
noncomputable def eRG (i : RI) : EH := fun t h => rdI t h i
noncomputable def eR (i : RI) : EH :=
  match i with
  | .load false 1 x => eLd1 (gO x)
  | .load true n x => eLdA n (gO x)
  | i => eRG i
theorem eR_eq (i : RI) (t : Tr V) (h : H) : eR i t h = rdI t h i := by
  unfold eR
  split
  · simp only [eLd1, gO_eq, ld1_eq, rdI]
  · simp only [eLdA, gO_eq, ldA_eq, rdI]
  · rfl

noncomputable def eSt1 (x y : GV) : EW := fun t h => st1 (x t) (y t) h
/-- So many cells of a list, and others behind them. -/
noncomputable def takeApp (n : Nat) (l new : List V) : Option (List V) :=
  Nat.rec (motive := fun _ => List V → List V → Option (List V)) (fun _ new => some new)
    (fun _ ih l new => List.rec (motive := fun _ => (List V → List V → Option (List V)) → List V → Option (List V)) (fun _ _ => none) (fun v t _ ih new => consO v (ih t new)) l ih new) n l new

theorem takeApp_eq : ∀ (n : Nat) (l new : List V), takeApp n l new = (takeE n l).map (· ++ new)
  | 0, _, _ => rfl
  | n + 1, [], _ => rfl
  | n + 1, v :: l, new => by
    show consO v (takeApp n l new) = _
    rw [takeApp_eq n l new]
    show _ = Option.map (· ++ new) (Option.casesOn (takeE n l) none (fun r => some (v :: r)) : Option (List V))
    cases takeE n l <;> rfl

noncomputable def appAmbJ (h : H) (es bytes elem : Nat) (b : Path) (len n : Nat) (new : List V) (ob : Ob) : HR :=
  match ob with
  | .c ro l e => cond ro .fail (cond (Nat.beq e elem) (match takeApp (len * es) l new with
    | some r => growV (h.put b .dead) es bytes elem (len + n) r
    | none => .fail) .fail)
  | _ => .fail

theorem appAmbJ_eq (h : H) (es bytes elem : Nat) (b : Path) (len n : Nat) (new : List V) : appAmbJ h es bytes elem b len n new (h.get b) = appAmb h es bytes elem b len n new (h.get b) := by
  unfold appAmbJ appAmb loadC
  cases h.get b with
  | c ro l e =>
    simp only []
    rw [takeApp_eq, show ldrop 0 l = l from rfl]
    cases takeE (len * es) l <;> rfl
  | _ => rfl

noncomputable def appSlJ (h : H) (es bytes elem : Nat) (b : Path) (off len cap : Nat) (ex : Bool) (n : Nat) (new : List V) : HR :=
  match Nat.ble (len + n) cap with
  | true => appSl h es bytes elem b off len cap ex n new
  | false => match ex with
    | true => appSl h es bytes elem b off len cap true n new
    | false => cond (Nat.beq off 0) (appAmbJ h es bytes elem b len n new (h.get b)) .fail

theorem appSlJ_eq (h : H) (es bytes elem : Nat) (b : Path) (off len cap : Nat) (ex : Bool) (n : Nat) (new : List V) : appSlJ h es bytes elem b off len cap ex n new = appSl h es bytes elem b off len cap ex n new := by
  unfold appSlJ
  cases hb : Nat.ble (len + n) cap with
  | true => rfl
  | false =>
    cases ex with
    | true => rfl
    | false =>
      simp only [appAmbJ_eq]
      unfold appSl
      rw [hb]

noncomputable def appVJ (h : H) (es bytes elem : Nat) (x : V) (src : Option (List V × Nat)) : HR :=
  match src with
  | none => .fail
  | some (new, n) => match n with
    | 0 => appV h es bytes elem x (some (new, 0))
    | n + 1 => match x with
      | .sl b off len cap ex es' => cond (Nat.beq es es') (appSlJ h es bytes elem b off len cap ex (n + 1) new) .fail
      | x => appV h es bytes elem x (some (new, n + 1))

theorem appVJ_eq (h : H) (es bytes elem : Nat) (x : V) (src : Option (List V × Nat)) : appVJ h es bytes elem x src = appV h es bytes elem x src := by
  cases src with
  | none => rfl
  | some p =>
    obtain ⟨new, n⟩ := p
    cases n with
    | zero => rfl
    | succ n =>
      cases x <;> first
        | rfl
        | (show cond _ (appSlJ h es bytes elem _ _ _ _ _ (n + 1) new) .fail = _; rw [appSlJ_eq]; rfl)

noncomputable def spl0J (vs l : List V) : Option (List V) :=
  List.rec (motive := fun _ => List V → Option (List V)) (fun l => some l)
    (fun v _ ih l => List.rec (motive := fun _ => (List V → Option (List V)) → V → Option (List V)) (fun _ _ => none) (fun _ t _ ih v => consO v (ih t)) l ih v) vs l
theorem spl0J_eq : ∀ (vs l : List V), spl0J vs l = splice0 vs l
  | [], _ => rfl
  | _ :: _, [] => rfl
  | v :: vs, u :: l => by
    show consO v (spl0J vs l) = _
    rw [spl0J_eq vs l]
    show _ = (Option.casesOn (splice0 vs l) none (fun r => some (v :: r)) : Option (List V))
    cases splice0 vs l <;> rfl
noncomputable def splJ (o : Nat) (vs l : List V) : Option (List V) :=
  Nat.rec (motive := fun _ => List V → List V → Option (List V)) spl0J
    (fun _ ih vs l => List.rec (motive := fun _ => (List V → List V → Option (List V)) → List V → Option (List V)) (fun _ _ => none) (fun v t _ ih vs => consO v (ih vs t)) l ih vs) o vs l
theorem splJ_eq : ∀ (o : Nat) (vs l : List V), splJ o vs l = splice o vs l
  | 0, vs, l => spl0J_eq vs l
  | _ + 1, _, [] => rfl
  | o + 1, vs, u :: l => by
    show consO u (splJ o vs l) = _
    rw [splJ_eq o vs l]
    show _ = (Option.casesOn (splice o vs l) none (fun r => some (u :: r)) : Option (List V))
    cases splice o vs l <;> rfl
noncomputable def stNc (ro : Bool) (l : List V) (e : Nat) (o : Nat) (vs : List V) (b : Path) (h : H) : HR :=
  Bool.rec (motive := fun _ => List V → Nat → Nat → List V → Path → H → HR) (fun l e o vs b h => st1r (splJ o vs l) e b h) (fun _ _ _ _ _ _ => .fail) ro l e o vs b h
noncomputable def stNo (ob : Ob) (o : Nat) (vs : List V) (b : Path) (h : H) : HR :=
  Ob.rec (motive := fun _ => Nat → List V → Path → H → HR) (fun _ _ _ _ => .fail) (fun ro l e o vs b h => stNc ro l e o vs b h) (fun _ _ _ _ _ _ => .fail) (fun _ _ _ _ _ _ _ _ => .fail) ob o vs b h
noncomputable def stNb (q : Bool) (vs : List V) (b : Path) (o : Nat) (h : H) : HR :=
  Bool.rec (motive := fun _ => List V → Path → Nat → H → HR) (fun _ _ _ _ => .fail) (fun vs b o h => stNo (getO b h.t) o vs b h) q vs b o h
noncomputable def stNy (r : Option (List V)) (n : Nat) (b : Path) (o : Nat) (h : H) : HR :=
  Option.rec (motive := fun _ => Nat → Path → Nat → H → HR) (fun _ _ _ _ => .fail) (fun l n b o h => stNb (Nat.beq l.length n) l b o h) r n b o h
noncomputable def stN (n : Nat) (x y : V) (h : H) : HR :=
  V.rec (motive_1 := fun _ => Nat → V → H → HR) (motive_2 := fun _ => PUnit) (fun zx n y h => storeV h n (V.b zx) y) (fun zk zn n y h => storeV h n (V.i zk zn) y) (fun zl n y h => storeV h n (V.s zl) y) (fun zq zo n y h => stNy (cellsOf y) n zq zo h) (fun n y h => storeV h n V.p0 y) (fun zq zo zn zc ze zs n y h => storeV h n (V.sl zq zo zn zc ze zs) y) (fun n y h => storeV h n V.sl0 y) (fun zq n y h => storeV h n (V.m zq) y) (fun n y h => storeV h n V.m0 y) (fun zq zl _ n y h => storeV h n (V.f zq zl) y) (fun n y h => storeV h n V.f0 y) (fun zt zv _ n y h => storeV h n (V.ifc zt zv) y) (fun n y h => storeV h n V.i0 y) (fun zl _ n y h => storeV h n (V.a zl) y) (fun zl _ n y h => storeV h n (V.t zl) y) (fun zg n y h => storeV h n (V.o zg) y) (fun zg zc n y h => storeV h n (V.oi zg zc) y) (fun zj zc zl zh n y h => storeV h n (V.y zj zc zl zh) y) PUnit.unit (fun _ _ _ _ => PUnit.unit) x n y h
theorem stN_eq (n : Nat) (x y : V) (h : H) : stN n x y h = storeV h n x y := by
  cases x <;> try rfl
  rename_i b o
  show stNy (cellsOf y) n b o h = match cellsOf y with
    | some l => cond (Nat.beq l.length n) (match storeC h b o l with | some h => .v undefV h | none => .fail) .fail
    | none => .fail
  cases cellsOf y with
  | none => rfl
  | some l =>
    show stNb (Nat.beq l.length n) l b o h = cond (Nat.beq l.length n) (match storeC h b o l with | some h => .v undefV h | none => .fail) .fail
    cases Nat.beq l.length n with
    | false => rfl
    | true =>
      show stNo (getO b h.t) o l b h = match storeC h b o l with | some h => .v undefV h | none => .fail
      rw [getO_eq]
      show stNo (h.get b) o l b h = _
      unfold storeC storeOb
      cases h.get b <;> try rfl
      rename_i ro k e
      cases ro
      · show st1r (splJ o l k) e b h = _
        rw [splJ_eq]
        simp only []
        cases hsp : splice o l k with
        | none => simp only [Option.map_none]; rfl
        | some l' =>
          simp only [Option.map_some]
          show HR.v undefV ⟨insO b h.t (.c false l' e), h.n⟩ = HR.v undefV (h.put b (.c false l' e))
          rw [insO_eq]; rfl
      · rfl
noncomputable def eStN (n : Nat) (x y : GV) : EW := fun t h => stN n (x t) (y t) h
noncomputable def eApp (es bytes elem : Nat) (x y : GV) : EW := fun t h => appVJ h es bytes elem (x t) (srcOf h es (y t))
noncomputable def eHG (i : HI) : EW := fun t h => hvI t h i
noncomputable def eH (i : HI) : EW :=
  match i with
  | .store 1 x y => eSt1 (gO x) (gO y)
  | .store n x y => eStN n (gO x) (gO y)
  | .append es bytes elem x y => eApp es bytes elem (gO x) (gO y)
  | i => eHG i
theorem eH_eq (i : HI) (t : Tr V) (h : H) : eH i t h = hvI t h i := by
  unfold eH
  split
  · simp only [eSt1, gO_eq, st1_eq, hvI]
  · simp only [eStN, gO_eq, stN_eq, hvI]
  · simp only [eApp, gO_eq, appVJ_eq, hvI]
  · rfl

/-! ### Code -/

noncomputable def kEnd : K := fun _ t h => .one .nx t h
noncomputable def kBad : K := fun _ _ _ => .fail
noncomputable def kBad1 (_ : K) : K := kBad
noncomputable def kVal (r : Option V) (d : SV) (rest : K) (ih : IH) (t : Tr V) (h : H) : Rs :=
  Option.rec (motive := fun _ => SV → K → IH → Tr V → H → Rs) (fun _ _ _ _ _ => .fail) (fun v d rest ih t h => rest ih (d t v) h) r d rest ih t h
noncomputable def kPu (e : E) (d : SV) (rest : K) : K := fun ih t h => kVal (e t) d rest ih t h
noncomputable def kRd (e : EH) (d : SV) (rest : K) : K := fun ih t h => kVal (e t h) d rest ih t h
noncomputable def kRet (r : Rs) (d : SV) (rest : K) (ih : IH) (t : Tr V) : Rs :=
  Rs.rec (motive := fun _ => SV → K → IH → Tr V → Rs) (fun _ _ _ _ => .fail) (fun _ q h d rest ih t => rest ih (d t (valT q)) h) r d rest ih t
noncomputable def kHR (r : HR) (d : SV) (rest : K) (ih : IH) (t : Tr V) (h0 : H) : Rs :=
  HR.rec (motive := fun _ => SV → K → IH → Tr V → H → Rs) (fun v h d rest ih t _ => rest ih (d t v) h) (fun f args d rest ih t h0 => kRet (ih f args h0) d rest ih t) (fun _ _ _ _ _ => .fail) r d rest ih t h0
noncomputable def kHv (e : EW) (d : SV) (rest : K) : K := fun ih t h => kHR (e t h) d rest ih t h
noncomputable def kCall (f : Path) (l : List GV) (d : SV) (rest : K) : K := fun ih t h => kRet (ih f (gArgs l t) h) d rest ih t
noncomputable def kAlR (r : Option (Ob × AK)) (d : SV) (rest : K) (ih : IH) (t : Tr V) (h : H) : Rs :=
  Option.rec (motive := fun _ => SV → K → IH → Tr V → H → Rs) (fun _ _ _ _ _ => .fail) (fun p d rest ih t h => rest ih (d t (p.2.val h.n)) ⟨insO h.n h.t p.1, h.n.succ⟩) r d rest ih t h
noncomputable def eA (i : AI) (t : Tr V) : Option (Ob × AK) := alI t i
noncomputable def kAl (e : Tr V → Option (Ob × AK)) (d : SV) (rest : K) : K := fun ih t h => kAlR (e t) d rest ih t h
noncomputable def eqB (a b : Bool) : Bool := Bool.rec (motive := fun _ => Bool → Bool) (fun b => notJ b) (fun b => b) a b
noncomputable def gdB (c : Bool) (op : K → K) (d : SV) (rest : K) (ih : IH) (t : Tr V) (h : H) : Rs :=
  Bool.rec (motive := fun _ => (K → K) → SV → K → IH → Tr V → H → Rs) (fun _ d rest ih t h => rest ih (d t undefV) h) (fun op _ rest ih t h => op rest ih t h) c op d rest ih t h
noncomputable def gdR (v : V) (b : Bool) (op : K → K) (d : SV) (rest : K) (ih : IH) (t : Tr V) (h : H) : Rs :=
  V.rec (motive_1 := fun _ => Bool → (K → K) → SV → K → IH → Tr V → H → Rs) (motive_2 := fun _ => PUnit) (fun zx b op d rest ih t h => gdB (eqB zx b) op d rest ih t h) (fun zk zn b op d rest ih t h => rest ih (d t undefV) h) (fun zl b op d rest ih t h => rest ih (d t undefV) h) (fun zq zo b op d rest ih t h => rest ih (d t undefV) h) (fun b op d rest ih t h => rest ih (d t undefV) h) (fun zq zo zn zc ze zs b op d rest ih t h => rest ih (d t undefV) h) (fun b op d rest ih t h => rest ih (d t undefV) h) (fun zq b op d rest ih t h => rest ih (d t undefV) h) (fun b op d rest ih t h => rest ih (d t undefV) h) (fun zq zl _ b op d rest ih t h => rest ih (d t undefV) h) (fun b op d rest ih t h => rest ih (d t undefV) h) (fun zt zv _ b op d rest ih t h => rest ih (d t undefV) h) (fun b op d rest ih t h => rest ih (d t undefV) h) (fun zl _ b op d rest ih t h => rest ih (d t undefV) h) (fun zl _ b op d rest ih t h => rest ih (d t undefV) h) (fun zg b op d rest ih t h => rest ih (d t undefV) h) (fun zg zc b op d rest ih t h => rest ih (d t undefV) h) (fun zj zc zl zh b op d rest ih t h => rest ih (d t undefV) h) PUnit.unit (fun _ _ _ _ => PUnit.unit) v b op d rest ih t h
noncomputable def kGd (p : GV) (b : Bool) (op : K → K) (d : SV) (rest : K) : K := fun ih t h => gdR (p t) b op d rest ih t h
noncomputable def seqX (x : X) (b : K) (ih : IH) (t : Tr V) (h : H) : Rs :=
  X.rec (motive := fun _ => K → IH → Tr V → H → Rs) (fun b ih t h => b ih t h) (fun _ _ t h => .one .rt t h) (fun id _ _ t h => .one (.ex id) t h) x b ih t h
noncomputable def seqR (r : Rs) (b : K) (ih : IH) : Rs := Rs.rec (motive := fun _ => K → IH → Rs) (fun _ _ => .fail) (fun x t h b ih => seqX x b ih t h) r b ih
noncomputable def kSeq (a b : K) : K := fun ih t h => seqR (a ih t h) b ih
noncomputable def condB (x : Bool) (a b : K) (ih : IH) (t : Tr V) (h : H) : Rs :=
  Bool.rec (motive := fun _ => K → K → IH → Tr V → H → Rs) (fun _ b ih t h => b ih t h) (fun a _ ih t h => a ih t h) x a b ih t h
noncomputable def condR (v : V) (a b : K) (ih : IH) (t : Tr V) (h : H) : Rs :=
  V.rec (motive_1 := fun _ => K → K → IH → Tr V → H → Rs) (motive_2 := fun _ => PUnit) (fun zx a b ih t h => condB zx a b ih t h) (fun zk zn a b ih t h => .fail) (fun zl a b ih t h => .fail) (fun zq zo a b ih t h => .fail) (fun a b ih t h => .fail) (fun zq zo zn zc ze zs a b ih t h => .fail) (fun a b ih t h => .fail) (fun zq a b ih t h => .fail) (fun a b ih t h => .fail) (fun zq zl _ a b ih t h => .fail) (fun a b ih t h => .fail) (fun zt zv _ a b ih t h => .fail) (fun a b ih t h => .fail) (fun zl _ a b ih t h => .fail) (fun zl _ a b ih t h => .fail) (fun zg a b ih t h => .fail) (fun zg zc a b ih t h => .fail) (fun zj zc zl zh a b ih t h => .fail) PUnit.unit (fun _ _ _ _ => PUnit.unit) v a b ih t h
noncomputable def kCond (c : GV) (a b : K) : K := fun ih t h => condR (c t) a b ih t h
noncomputable def blkB (q : Bool) (j : Nat) (t : Tr V) (h : H) : Rs := Bool.rec (motive := fun _ => Nat → Tr V → H → Rs) (fun j t h => .one (.ex j) t h) (fun _ t h => .one .nx t h) q j t h
noncomputable def blkX (x : X) (id : Nat) (t : Tr V) (h : H) : Rs :=
  X.rec (motive := fun _ => Nat → Tr V → H → Rs) (fun _ t h => .one .nx t h) (fun _ t h => .one .rt t h) (fun j id t h => blkB (Nat.beq j id) j t h) x id t h
noncomputable def blkR (r : Rs) (id : Nat) : Rs := Rs.rec (motive := fun _ => Nat → Rs) (fun _ => .fail) (fun x t h id => blkX x id t h) r id
noncomputable def kBlock (id : Nat) (c : K) : K := fun ih t h => blkR (c ih t h) id
noncomputable def loopX (x : X) (again : K → K) (c : K) (ih : IH) (t : Tr V) (h : H) : Rs :=
  X.rec (motive := fun _ => (K → K) → K → IH → Tr V → H → Rs) (fun again c ih t h => again c ih t h) (fun _ _ _ t h => .one .rt t h) (fun id _ _ _ t h => .one (.ex id) t h) x again c ih t h
noncomputable def loopR (r : Rs) (again : K → K) (c : K) (ih : IH) : Rs := Rs.rec (motive := fun _ => (K → K) → K → IH → Rs) (fun _ _ _ => .fail) (fun x t h again c ih => loopX x again c ih t h) r again c ih
noncomputable def loopN (n : Nat) (c : K) : K := Nat.rec (motive := fun _ => K → K) (fun _ _ _ _ => .fail) (fun _ again c ih t h => loopR (c ih t h) again c ih) n c
noncomputable def kLoop (c : K) : K := fun ih t h => loopN 1000000 c ih t h
noncomputable def kExit (id : Nat) : K := fun _ t h => .one (.ex id) t h
noncomputable def kRt : K := fun _ t h => .one .rt t h

/-- Operations that are done the slow way. -/
noncomputable def ihO (ih : IH) (k : Task) (t : Tr V) (h : H) : Rs :=
  match k with
  | .call f args => ih f args h
  | .ops _ => .one .nx t h
  | .dops _ => .one .nx t h
  | .code _ => .fail
noncomputable def nxR (r : Rs) (rest : K) (ih : IH) : Rs := Rs.rec (motive := fun _ => K → IH → Rs) (fun _ _ => .fail) (fun _ t h rest ih => rest ih t h) r rest ih
noncomputable def kItG (it : It) (rest : K) : K := fun ih t h => nxR (runD (ihO ih) [it] t h) rest ih

noncomputable def memJ (p : Path) (t : Tr V) : Bool :=
  Path.rec (motive := fun _ => Tr V → Bool) (fun t => Tr.rec (motive := fun _ => Bool) false (fun _ _ _ _ _ => true) t) (fun _ ih t => ih (lefT t)) (fun _ ih t => ih (rigT t)) p t
theorem memP_eq : ∀ (p : Path) (t : Tr V), memJ p t = t.mem p
  | .e, .nil => rfl
  | .e, .nd _ _ _ => rfl
  | .l p, .nil => by show memJ p .nil = _; rw [memP_eq p]; cases p <;> rfl
  | .l p, .nd l _ _ => memP_eq p l
  | .r p, .nil => by show memJ p .nil = _; rw [memP_eq p]; cases p <;> rfl
  | .r p, .nd _ _ r => memP_eq p r
noncomputable def alDB (q : Bool) (p : Ob × AK) (d : SV) (rest : K) (ih : IH) (t : Tr V) (h : H) : Rs :=
  Bool.rec (motive := fun _ => (Ob × AK) → SV → K → IH → Tr V → H → Rs) (fun _ _ _ _ _ _ => .fail) (fun p d rest ih t h => rest ih (d t (p.2.val h.n)) ⟨insO h.n h.t p.1, h.n.succ⟩) q p d rest ih t h
noncomputable def kAlDR (r : Option (Ob × AK)) (m : Tr V → Bool) (d : SV) (rest : K) (ih : IH) (t : Tr V) (h : H) : Rs :=
  Option.rec (motive := fun _ => (Tr V → Bool) → SV → K → IH → Tr V → H → Rs) (fun _ _ _ _ _ _ => .fail) (fun p m d rest ih t h => alDB (m t) p d rest ih t h) r m d rest ih t h
noncomputable def kAlD (e : Tr V → Option (Ob × AK)) (m : Tr V → Bool) (d : SV) (rest : K) : K := fun ih t h => kAlDR (e t) m d rest ih t h

noncomputable def kOp (d : Option Path) (op : I) : K → K :=
  match op with
  | .pu i => kPu (eP i) (sD d)
  | .rd i => kRd (eR i) (sD d)
  | .al i => kAl (eA i) (sD d)
  | .hv (.call f l) => kCall f (l.map gO) (sD d)
  | .hv i => kHv (eH i) (sD d)
  | .bad => kBad1

noncomputable def kSt (s : St) (rest : K) : K :=
  match s.gd with
  | none => kOp s.dst s.op rest
  | some (p, b) => kGd (gP p) b (kOp s.dst s.op) (sD s.dst) rest

noncomputable def kOps (l : List St) : K := List.rec (motive := fun _ => K) kEnd (fun s _ rest => kSt s rest) l

noncomputable def kOpD (d : Option Path) (op : I) : K → K :=
  match op with
  | .al i => (match d with | some p => kAlD (eA i) (memJ p) (sP p) | none => kBad1)
  | op => kOp d op

noncomputable def kIt (it : It) (rest : K) : K :=
  match it.hide, it.chk with
  | [], [] => (match it.st.gd with
    | none => kOpD it.st.dst it.st.op rest
    | some (p, b) => kGd (gP p) b (kOpD it.st.dst it.st.op) (sD it.st.dst) rest)
  | _, _ => kItG it rest

noncomputable def kDops (l : List It) : K := List.rec (motive := fun _ => K) kEnd (fun s _ rest => kIt s rest) l

noncomputable def kC (c : C) : K :=
  C.rec (motive := fun _ => K) kEnd kOps kDops (fun _ _ a b => kSeq a b) (fun o _ _ a b => kCond (gO o) a b) (fun id _ c => kBlock id c) (fun _ c => kLoop c) kExit kRt kBad c

noncomputable def rOne (g : GV) (t : Tr V) (h : H) : Rs := .one .rt (.nd .nil (g t) .nil) h
noncomputable def rGen (l : List RV) (t : Tr V) (h : H) : Rs := retR l t h
noncomputable def kRes (l : List RV) : Tr V → H → Rs :=
  match l with
  | [.t p] => rOne (gP p)
  | l => rGen l
theorem kRes_eq (l : List RV) (t : Tr V) (h : H) : kRes l t h = retR l t h := by
  unfold kRes
  split
  · unfold rOne; rw [gP_eq]; rfl
  · rfl

structure G where
  n : Nat
  fr : Tr V
  res : Tr V → H → Rs
  body : K
  nd : Option F

noncomputable def toG (F : F) : G := ⟨F.n, Tr.fill undefV F.n F.n, kRes F.res, cond F.nd kBad (kC F.body), cond F.nd (some F) none⟩

/-- The slow way's operations and calls. -/
noncomputable def ihT (ih : IH) (k : Task) (t : Tr V) (h : H) : Rs :=
  match k with
  | .call f args => ih f args h
  | .ops _ => .fail
  | .dops l => kDops l ih t h
  | .code _ => .fail

noncomputable def putA (l : List V) (k : Path) (t : Tr V) : Tr V := List.rec (motive := fun _ => Path → Tr V → Tr V) (fun _ t => t) (fun v _ ih k t => ih k.succ (sP k t v)) l k t
theorem putA_eq : ∀ (l : List V) (k : Path) (t : Tr V), putA l k t = putArgs k l t
  | [], _, _ => rfl
  | v :: l, k, t => by
    show putA l k.succ (sP k t v) = putArgs k.succ l (t.set k v)
    rw [putA_eq l, sP_eq]

noncomputable def retX (x : X) (res : Tr V → H → Rs) (t : Tr V) (h : H) : Rs :=
  X.rec (motive := fun _ => (Tr V → H → Rs) → Tr V → H → Rs) (fun res t h => res t h) (fun res t h => res t h) (fun _ _ _ _ => .fail) x res t h
noncomputable def retG (r : Rs) (res : Tr V → H → Rs) : Rs := Rs.rec (motive := fun _ => (Tr V → H → Rs) → Rs) (fun _ => .fail) (fun x t h res => retX x res t h) r res
noncomputable def orcN (o : Option (List V → H → Rs)) (F : F) (g : G) (ih : IH) (args : List V) (h : H) : Rs :=
  Option.rec (motive := fun _ => Go.Eng.F → G → IH → List V → H → Rs) (fun F g ih args h => joinO F.res (ndC (ihT ih) F.body (putA args .e g.fr) h)) (fun o _ _ _ args h => o args h) o F g ih args h
noncomputable def callN (nd : Option F) (g : G) (ih : IH) (args : List V) (h : H) : Rs :=
  Option.rec (motive := fun _ => G → IH → List V → H → Rs) (fun g ih args h => retG (g.body ih (putA args .e g.fr) h) g.res)
    (fun F g ih args h => orcN F.orc F g ih args h) nd g ih args h
noncomputable def callB (q : Bool) (g : G) (ih : IH) (args : List V) (h : H) : Rs :=
  Bool.rec (motive := fun _ => G → IH → List V → H → Rs) (fun _ _ _ _ => .fail) (fun g ih args h => callN g.nd g ih args h) q g ih args h
noncomputable def callG (g : Option G) (ih : IH) (args : List V) (h : H) : Rs :=
  Option.rec (motive := fun _ => IH → List V → H → Rs) (fun _ _ _ => .fail) (fun g ih args h => callB (Nat.ble args.length g.n) g ih args h) g ih args h
noncomputable def lefG (t : Tr (Option G)) : Tr (Option G) := Tr.rec (motive := fun _ => Tr (Option G)) .nil (fun l _ _ _ _ => l) t
noncomputable def rigG (t : Tr (Option G)) : Tr (Option G) := Tr.rec (motive := fun _ => Tr (Option G)) .nil (fun _ _ r _ _ => r) t
noncomputable def valG (t : Tr (Option G)) : Option G := Tr.rec (motive := fun _ => Option G) none (fun _ v _ _ _ => v) t
noncomputable def getG (p : Path) (t : Tr (Option G)) : Option G := Path.rec (motive := fun _ => Tr (Option G) → Option G) valG (fun _ ih t => ih (lefG t)) (fun _ ih t => ih (rigG t)) p t
theorem getG_eq : ∀ (p : Path) (t : Tr (Option G)), getG p t = t.get none p
  | .e, .nil => rfl
  | .e, .nd _ _ _ => rfl
  | .l p, .nil => by show getG p .nil = _; rw [getG_eq p]; rfl
  | .l p, .nd l _ _ => getG_eq p l
  | .r p, .nil => by show getG p .nil = _; rw [getG_eq p]; rfl
  | .r p, .nd _ _ r => getG_eq p r
noncomputable def goT (tab : Tr (Option G)) (n : Nat) : IH := Nat.rec (motive := fun _ => IH) (fun _ _ _ => .fail) (fun _ ih f args h => callG (getG f tab) ih args h) n

end Go.Eng
