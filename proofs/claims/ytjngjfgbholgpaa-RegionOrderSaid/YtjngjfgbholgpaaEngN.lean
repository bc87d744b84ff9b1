/- The engine, part N: operations that make memory. -/
import Derived.Test.YtjngjfgbholgpaaEngM
set_option linter.unusedSimpArgs false
set_option linter.unusedVariables false
namespace Go.Eng

/-- How a value is made of a new block. -/
inductive AK where
  | ptr
  | sl (len cap : Nat) (ex : Bool) (es : Nat)
  | mp

def AK.val (k : AK) (p : Path) : V :=
  match k with
  | .ptr => .p p 0
  | .sl len cap ex es => .sl p 0 len cap ex es
  | .mp => .m p

inductive AI where
  | alloc (zero : List V) (elem : Nat)
  | box (x : Opd) (elem : Nat)
  | buildSl (zero : List V) (elem es len : Nat) (parts : List (Nat × Nat × Opd))
  | mkSl (elem es bytes : Nat) (zero : List V) (l c : Opd)
  | s2b (elem : Nat) (x : Opd)

def rep {α : Type} : Nat → List α → List α
  | 0, _ => []
  | n + 1, l => l ++ rep n l

def boxO (elem : Nat) (x : V) : Option (Ob × AK) :=
  match cellsOf x with
  | some l => some (.c false l elem, .ptr)
  | none => none

noncomputable def buildSlO (fr : Tr V) (zero : List V) (elem es len : Nat) (ps : List (Nat × Nat × Opd)) : Option (Ob × AK) :=
  match fillP fr ps zero with
  | some l => some (.c false l elem, .sl len len true es)
  | none => none

def mkSlO (elem es bytes : Nat) (zero : List V) (l c : Option Nat) : Option (Ob × AK) :=
  match l, c with
  | some l, some c => cond (cond (Nat.ble l c) (cond (Nat.blt c 9223372036854775808) (Nat.ble (bytes * c) 281474976710656) false) false)
      (some (.c false (rep c zero) elem, .sl l c true es)) none
  | _, _ => none

def s2bO (elem : Nat) (x : V) : Option (Ob × AK) :=
  match x with
  | .s l => cond (Nat.blt l.length 9223372036854775808) (some (.c false (l.map fun c : Nat => V.i .u8 (.ofNat c)) elem, .sl l.length l.length false 1)) none
  | _ => none

noncomputable def alI (fr : Tr V) (i : AI) : Option (Ob × AK) :=
  match i with
  | .alloc z e => some (.c false z e, .ptr)
  | .box x e => boxO e (ev fr x)
  | .buildSl z e es len ps => buildSlO fr z e es len ps
  | .mkSl e es bytes z l c => mkSlO e es bytes z (asN (ev fr l)) (asN (ev fr c))
  | .s2b e x => s2bO e (ev fr x)

def cA (P : Program) (ng : Nat) (o : Oper) : Option AI :=
  match o.op with
  | .alloc e => (zeroO P e).map fun z => .alloc z e
  | .box e x => (cO ng x).map fun x => .box x e
  | .buildSlice t len ps => match P.underlying t with
    | some (.slice e) => (zeroO P e).bind fun z => (szO P e).bind fun s => if z.length = s ∧ len * s ≤ 16777216 then
        (cParts ng (fun i => some (i * s, s)) ps.toList).map fun r => .buildSl (rep len z) e s len r else none
    | _ => none
  | .makeSlice t l c => match P.underlying t with
    | some (.slice e) => (zeroO P e).bind fun z => (P.info? e).bind fun i => if z.length = i.size then
        (cO ng l).bind fun l => (cO ng c).map fun c => .mkSl e i.size i.bytes z l c else none
    | _ => none
  | .convert s d x => match P.underlying s, P.underlying d with
    | some .string, some (.slice e) => (match P.underlying e with | some (.int .u8) => (cO ng x).map (.s2b e) | _ => none)
    | _, _ => none
  | _ => none

section
variable {P : Program} {ρ : Ren} {ng : Nat} {fr : Tr V} {a : Act}

theorem rep_length {α : Type} (l : List α) : ∀ n, (rep n l).length = n * l.length
  | 0 => by simp [rep]
  | n + 1 => by simp [rep, rep_length l n, Nat.add_one_mul]; omega

theorem rep_get {α : Type} (l : List α) : ∀ (n i : Nat), i < n * l.length → (rep n l)[i]? = l[i % l.length]?
  | 0, i, h => by simp at h
  | n + 1, i, h => by
    simp only [rep, List.getElem?_append]
    by_cases hi : i < l.length
    · rw [if_pos hi, Nat.mod_eq_of_lt hi]
    · rw [if_neg hi, rep_get l n (i - l.length) (by rw [Nat.add_one_mul] at h; omega)]
      rw [← Nat.mod_eq_sub_mod (by omega)]

theorem rep_concs [Env] {l : List V} {xs : List Value} (h : concs ρ l = some xs) : ∀ n, concs ρ (rep n l) = some (rep n xs)
  | 0 => rfl
  | n + 1 => concs_append h (rep_concs h n)

theorem rep_all {l : List V} (h : l.all V.one = true) : ∀ n, (rep n l).all V.one = true
  | 0 => rfl
  | n + 1 => by simp only [rep, List.all_append, h, rep_all h n]; rfl

theorem range_rep (z : Array Value) (n s : Nat) (hs : z.size = s) : ((Array.range (n * s)).map fun i => z[i % z.size]!).toList = rep n z.toList := by
  subst hs
  apply List.ext_getElem?
  intro i
  by_cases hi : i < n * z.size
  · rw [rep_get _ _ _ (by simpa using hi)]
    simp only [Array.toList_map, List.getElem?_map, Array.length_toList]
    have hz : 0 < z.size := by
      rcases Nat.eq_zero_or_pos z.size with h | h
      · rw [h] at hi; simp at hi
      · exact h
    have hm : i % z.size < z.size := Nat.mod_lt _ hz
    have hr : (Array.range (n * z.size)).toList[i]? = some i := by simp [hi]
    rw [hr]
    simp [hm]
  · rw [List.getElem?_eq_none (by simp; omega), List.getElem?_eq_none (by rw [rep_length]; simp; omega)]

/-- A new row of cells, as an object. -/
theorem obRel_new [Env] {l : List V} {xs : List Value} {elem : Nat} (h : concs ρ l = some xs) (h1 : l.all V.one = true) (ro : Bool) : ObRel ρ xs.length (.c ro l elem) (some (.cells xs.toArray elem)) := by
  have hlen := concs_length h
  refine ⟨xs.toArray, (0, 0), rfl, by simp, by omega, fun i v hv => ?_, fun _ i _ => by simp⟩
  obtain ⟨x, hx, hx2⟩ := concs_get i v h hv
  exact ⟨List.all_eq_true.1 h1 v (List.mem_of_getElem? hv), x, hx, by simpa using hx2⟩

/-- What soundness says of an operation that makes a block. -/
def Alloc1 [Env] (P : Program) (ρ : Ren) (o : Oper) (a : Act) (ob : Ob) (k : AK) : Prop :=
  ∀ w, ∃ x obj sz w', (execOp a.eval o).run P w = .ok (.value x) w' ∧ w'.heap = w.heap.push obj ∧ Str w w' ∧ ObRel ρ sz ob (some obj) ∧
    ∀ (ρ' : Ren) (p : Path), ρ' p = some (w.heap.size, sz) → conc ρ' (k.val p) = some x

theorem alloc_row [Env] {o : Oper} {l : List V} {xs : List Value} {elem : Nat} (h : concs ρ l = some xs) (h1 : l.all V.one = true)
    (hr : ∀ w, (execOp a.eval o).run P w = .ok (.value (.pointer (some ⟨w.heap.size, 0, none⟩))) { w with heap := w.heap.push (.cells xs.toArray elem) }) :
    Alloc1 P ρ o a (.c false l elem) .ptr :=
  fun w => ⟨_, _, xs.length, _, hr w, rfl, ⟨rfl, rfl, rfl⟩, obRel_new h h1 false, fun ρ' p hp => by simp [AK.val, conc, hp]⟩

theorem alloc_slice [Env] {o : Oper} {l : List V} {xs : List Value} {elem len cap es : Nat} (h : concs ρ l = some xs) (h1 : l.all V.one = true) (hlc : len ≤ cap) (hx : xs.length = cap * es)
    (hr : ∀ w, (execOp a.eval o).run P w = .ok (.value (.slice (some ⟨w.heap.size, 0, none⟩) len cap)) { w with heap := w.heap.push (.cells xs.toArray elem) }) :
    Alloc1 P ρ o a (.c false l elem) (.sl len cap true es) :=
  fun w => ⟨_, _, xs.length, _, hr w, rfl, ⟨rfl, rfl, rfl⟩, obRel_new h h1 false, fun ρ' p hp => by
    simp only [AK.val, conc, hp, Option.bind_some, capOf, if_true]
    rw [if_pos ⟨hlc, Nat.le_refl _, by omega⟩]⟩

theorem modify_push {α : Type} (xs : Array α) (x : α) (f : α → α) : (xs.push x).modify xs.size f = xs.push (f x) := by
  apply Array.ext
  · simp
  · intro i h1 h2
    rw [Array.getElem_modify]
    by_cases hi : xs.size = i
    · subst hi; simp
    · have : i < xs.size := by simp at h2; omega
      rw [if_neg hi, Array.getElem_push_lt this, Array.getElem_push_lt this]

theorem s2b_run [Env] {o : Oper} {s d e : TypeId} {x : Operand} {l : List Nat} (hop : o.op = .convert s d x) (hs : P.underlying s = some .string) (hd : P.underlying d = some (.slice e))
    (he : P.underlying e = some (.int .u8)) (ex : a.eval x = .string ⟨(l.map UInt8.ofNat).toArray⟩) (h1 : l.all byteOk = true) (_ : l.length < 9223372036854775808) :
    Alloc1 P ρ o a (.c false (l.map fun c : Nat => V.i .u8 (.ofNat c)) e) (.sl l.length l.length false 1) := by
  intro w
  have hsz : (ByteArray.mk (l.map UInt8.ofNat).toArray).size = l.length := by
    show ((l.map UInt8.ofNat).toArray).size = _
    simp
  have hle : ∃ C, l.length ≤ C ∧ (Question.appendCap l.length 0 e).cut (w.tape w.drawn (.appendCap l.length 0 e)) = C := by
    refine ⟨_, ?_, rfl⟩
    simp only [Question.cut]; omega
  obtain ⟨C, hC, hcut⟩ := hle
  have hrun : (execOp a.eval o).run P w = .ok (.value (.slice (some ⟨w.heap.size, 0, none⟩) l.length C))
      { w with heap := w.heap.push (.cells (((ByteArray.mk (l.map UInt8.ofNat).toArray).data.map fun b => Value.int .u8 b.toNat) ++ Array.replicate (C - l.length) (.int .u8 0)) e (C, C + 1)), drawn := w.drawn + 1 } := by
    have hcs : (((ByteArray.mk (l.map UInt8.ofNat).toArray).data.map fun b => Value.int .u8 b.toNat) ++ Array.replicate (C - l.length) (Value.int .u8 0)).size = C := by simp; omega
    simp only [execOp, hop, ex, convert, Sem.run_bind, run_under hs, run_under hd, run_under he, Result.andThen_ok, Conv.stringToBytes, run_choose, Question.forced, Bool.false_eq_true, if_false, hcut, hsz,
      newRow, run_newObj, Sem.run_pure, markStringish, run_shape]
    simp only [World.shape?, Array.getElem?_push_size, hcs]
    simp only [run_freeze, Result.andThen_ok]
    simp only [World.freeze]
    rw [if_neg (by omega), modify_push]
    simp
  refine ⟨_, _, C, _, hrun, rfl, ⟨rfl, rfl, rfl⟩, ?_, fun ρ' p hp => ?_⟩
  · refine ⟨_, _, rfl, by simp; omega, by simp; omega, fun i v hv => ?_, fun _ i hi => by simp; omega⟩
    rw [List.getElem?_map, Option.map_eq_some_iff] at hv
    obtain ⟨c, hc, rfl⟩ := hv
    have hil := (List.getElem?_eq_some_iff.1 hc).1
    have hc256 : c < 256 := by
      have := List.all_eq_true.1 h1 c (List.mem_of_getElem? hc)
      simpa [byteOk, Nat.blt_eq] using this
    refine ⟨rfl, _, rfl, ?_⟩
    rw [Array.getElem?_append_left (by simpa using hil)]
    simp only [Array.getElem?_map, List.getElem?_toArray, List.getElem?_map, hc, Option.map_some]
    simp [Nat.mod_eq_of_lt hc256]
  · simp only [AK.val, conc, hp, Option.bind_some, capOf, Bool.false_eq_true, if_false, Nat.sub_zero, Nat.div_one, Nat.zero_add, Nat.mul_one]
    rw [if_pos ⟨Nat.le_refl _, hC, Nat.le_refl _⟩]

/-- OPERATIONS THAT MAKE MEMORY. -/
theorem al_sound [Env] {o : Oper} {i : AI} {ob : Ob} {k : AK} (hg : Glob ng ρ) (hf : FrRel ρ fr a.tmps) (hc : cA P ng o = some i) (hv : alI fr i = some (ob, k)) : Alloc1 P ρ o a ob k := by
  unfold cA at hc
  split at hc
  case h_1 e hop =>
    simp only [Option.map_eq_some_iff] at hc
    obtain ⟨z, hz, rfl⟩ := hc
    obtain ⟨it, zv, hi, hzv, hcz, h1⟩ := zeroO_spec hz
    simp only [alI, Option.some.injEq, Prod.mk.injEq] at hv
    obtain ⟨rfl, rfl⟩ := hv
    refine alloc_row (hcz ρ) h1 (fun w => ?_)
    simp [execOp, hop, Instr.alloc, zeroValue, typeInfo, hi, hzv, newVar, newRow]
  case h_2 e x hop =>
    simp only [Option.map_eq_some_iff] at hc
    obtain ⟨x', hx, rfl⟩ := hc
    simp only [alI, boxO] at hv
    split at hv
    · rename_i l hl
      simp only [Option.some.injEq, Prod.mk.injEq] at hv
      obtain ⟨rfl, rfl⟩ := hv
      obtain ⟨h1, h2⟩ := cellsOf_spec hl (ev_spec hg hf hx)
      refine alloc_row h1 h2 (fun w => ?_)
      simp [execOp, hop, Instr.box, newVar, newRow]
    · cases hv
  case h_3 t len ps hop =>
    split at hc
    · rename_i e hu
      simp only [Option.bind_eq_some_iff] at hc
      obtain ⟨z, hz, s, hs, hc⟩ := hc
      split at hc
      · rename_i hcond
        simp only [Option.map_eq_some_iff] at hc
        obtain ⟨r, hr, rfl⟩ := hc
        obtain ⟨it, zv, hi, hzv, hcz, h1⟩ := zeroO_spec hz
        simp only [alI, buildSlO] at hv
        split at hv
        · rename_i l hl
          simp only [Option.some.injEq, Prod.mk.injEq] at hv
          obtain ⟨rfl, rfl⟩ := hv
          have hzs : zv.cells.size = s := by have := concs_length (hcz ρ); simp at this; omega
          have hrr := range_rep zv.cells len s hzs
          obtain ⟨cs, f1, f2, f3⟩ := fill_spec r _ (rep len z) l ((Array.range (len * s)).map fun i => zv.cells[i % zv.cells.size]!) (cParts_spec hg hf _ _ hr) hl
            (by rw [hrr]; exact rep_concs (hcz ρ) len) (rep_all h1 len)
          have hlen : cs.toList.length = len * s := by
            have e1 := concs_length f2
            have : l.length = (rep len z).length := by
              have key : ∀ (r : List (Nat × Nat × Opd)) (u l : List V), fillP fr r u = some l → l.length = u.length := by
                intro r
                induction r with
                | nil => intro u l h; simp [fillP] at h; rw [h]
                | cons p r ih =>
                  intro u l h
                  obtain ⟨off, size, x⟩ := p
                  simp only [fillP] at h
                  split at h
                  · cases h
                  · rename_i c _
                    cases hb : Nat.beq c.length size with
                    | false => simp [hb] at h
                    | true =>
                      simp only [hb, cond_true] at h
                      split at h
                      · rename_i u' hu'
                        rw [ih u' l h, (splice_spec hu').1]
                      · cases h
              exact key r _ _ hl
            rw [e1, this, rep_length, hcond.1]
          refine alloc_slice f2 f3 (Nat.le_refl _) (by rw [hlen]) (fun w => ?_)
          have hlist : (ps.map fun (i, x) => (i, a.eval x)).toList = ps.toList.map fun p => (p.1, a.eval p.2) := by simp
          simp only [execOp, hop, Instr.buildSlice, Sem.run_bind, run_under hu, Result.andThen_ok, run_szO hs]
          rw [if_neg (by omega)]
          by_cases h0 : len * s = 0
          · rw [if_pos h0]
            have emp : ∀ f : Nat → Value, (Array.range (len * s)).map f = #[] := by intro f; rw [h0]; simp
            rw [emp] at f1
            simp only [Sem.run_pure, Result.andThen_ok, Sem.run_bind, emp]
            rw [hlist, f1]
            simp [newRow]
          · rw [if_neg h0]
            simp only [zeroValue, typeInfo, Sem.run_bind, run_program, Result.andThen_ok, hi, hzv, Sem.run_pure]
            rw [hlist, f1]
            simp [newRow]
        · cases hv
      · cases hc
    · cases hc
  case h_4 t l c hop =>
    split at hc
    · rename_i e hu
      simp only [Option.bind_eq_some_iff] at hc
      obtain ⟨z, hz, inf, hinf, hc⟩ := hc
      split at hc
      · rename_i hcond
        simp only [Option.bind_eq_some_iff, Option.map_eq_some_iff] at hc
        obtain ⟨l', hl, c', hc', rfl⟩ := hc
        obtain ⟨it, zv, hi, hzv, hcz, h1⟩ := zeroO_spec hz
        rw [hinf] at hi; cases hi
        simp only [alI, mkSlO] at hv
        split at hv
        · rename_i m n hm hn
          cases b1 : Nat.ble m n with
          | false => simp [b1] at hv
          | true =>
          cases b2 : Nat.blt n 9223372036854775808 with
          | false => simp [b1, b2] at hv
          | true =>
          cases b3 : Nat.ble (inf.bytes * n) 281474976710656 with
          | false => simp [b1, b2, b3] at hv
          | true =>
          simp only [b1, b2, b3, cond_true, Option.some.injEq, Prod.mk.injEq] at hv
          obtain ⟨rfl, rfl⟩ := hv
          have b1 := Nat.le_of_ble_eq_true b1
          have b2 : n < 9223372036854775808 := by simpa [Nat.blt_eq] using b2
          have b3 := Nat.le_of_ble_eq_true b3
          obtain ⟨k1, e1⟩ := asN_spec hm (ev_spec hg hf hl)
          obtain ⟨k2, e2⟩ := asN_spec hn (ev_spec hg hf hc')
          have hzs : zv.cells.size = inf.size := by have := concs_length (hcz ρ); simp at this; omega
          have hrr := range_rep zv.cells n inf.size hzs
          refine alloc_slice (rep_concs (hcz ρ) n) (rep_all h1 n) b1 (by rw [rep_length]; simp [hzs]) (fun w => ?_)
          have w1 : IntKind.i64.wrap (m : Int) = m := by simp [IntKind.wrap, IntKind.bits, IntKind.signed]; omega
          have w2 : IntKind.i64.wrap (n : Int) = n := by simp [IntKind.wrap, IntKind.bits, IntKind.signed]; omega
          have t1 : ((n : Int) < 0 || (inf.bytes : Int) * n > 2 ^ 48) = false := by
            have : ((inf.bytes * n : Nat) : Int) ≤ 281474976710656 := by omega
            rw [Int.natCast_mul] at this
            simp; omega
          have t2 : ¬ (((n : Int) < 0 || (inf.bytes : Int) * n > 2 ^ 48) || decide ((m : Int) < 0) || decide ((m : Int) > n)) = true := by
            rw [t1]; simp; omega
          simp only [execOp, hop, Instr.makeSlice, Sem.run_bind, run_under hu, Result.andThen_ok, e1, e2, asInt, asIntOf, Sem.run_pure, typeInfo, run_program, hinf, w1, w2]
          rw [if_neg t2]
          simp only [run_askRoom, Sem.run_pure, Result.andThen_ok, Int.toNat_natCast, sizeOf, typeInfo, Sem.run_bind, run_program, hinf]
          by_cases h0 : n * inf.size = 0
          · rw [if_pos h0]
            have emp : ∀ f : Nat → Value, (Array.range (n * inf.size)).map f = #[] := by intro f; rw [h0]; simp
            have hh : rep n zv.cells.toList = [] := by rw [← hrr, emp]
            simp only [Sem.run_pure, Result.andThen_ok, Sem.run_bind, emp, hh]
            simp [newRow]
          · rw [if_neg h0]
            simp only [zeroValue, typeInfo, Sem.run_bind, run_program, Result.andThen_ok, hinf, hzv, Sem.run_pure]
            have : ((Array.range (n * inf.size)).map fun i => zv.cells[i % zv.cells.size]!) = (rep n zv.cells.toList).toArray := by rw [← hrr]
            rw [this]
            simp [newRow]
        · cases hv
      · cases hc
    · cases hc
  case h_5 s d x hop =>
    split at hc
    · rename_i e hs hd
      split at hc
      · rename_i he
        simp only [Option.map_eq_some_iff] at hc
        obtain ⟨x', hx, rfl⟩ := hc
        have ex := ev_spec hg hf hx
        simp only [alI, s2bO] at hv
        split at hv
        · rename_i l hl
          cases hb : Nat.blt l.length 9223372036854775808 with
          | false => simp [hb] at hv
          | true =>
          simp only [hb, cond_true, Option.some.injEq, Prod.mk.injEq] at hv
          obtain ⟨rfl, rfl⟩ := hv
          rw [hl] at ex
          obtain ⟨h1, ex⟩ := conc_s ex
          have hb : l.length < 9223372036854775808 := by simpa [Nat.blt_eq] using hb
          exact s2b_run hop hs hd he ex h1 hb
        · cases hv
      · cases hc
    · cases hc
  case h_6 => cases hc

end
end Go.Eng
