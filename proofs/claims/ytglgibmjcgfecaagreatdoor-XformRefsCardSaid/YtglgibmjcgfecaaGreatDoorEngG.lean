/- The evaluator: a machine for the model's code that the kernel can run, proved sound. -/
import Derived.Test.YtglgibmjcgfecaaGreatDoorEngA
import Derived.Lib.Hide
import Derived.Laws.StructEq
import Derived.Laws.Build
set_option linter.unusedSimpArgs false
set_option linter.unusedVariables false
namespace Go.Eng
section
variable {P : Program} {ρ : Ren}

theorem binI_spec [Env] {op : BinOp} {k j : IntKind} {x y : Int} {v : V} (t : TypeId) (h : binI op k x y = some v) (hk : j = k ∨ op = .shl ∨ op = .shr) :
    ∃ u, conc ρ v = some u ∧ ∀ w, (binOp op t (.int k x) (.int j y)).run P w = .ok u w := by
  cases op
  case shl =>
    simp only [binI] at h
    cases hl : ltI y 0 <;> simp [hl] at h
    rw [ltI_eq] at hl; simp at hl
    subst h
    exact ⟨_, rfl, fun w => by simp [binOp, Op.shift, show ¬ y < 0 by omega]⟩
  case shr =>
    simp only [binI] at h
    cases hl : ltI y 0 <;> simp [hl] at h
    rw [ltI_eq] at hl; simp at hl
    subst h
    exact ⟨_, rfl, fun w => by simp [binOp, Op.shift, show ¬ y < 0 by omega]⟩
  all_goals
    have hk : j = k := by rcases hk with h | h | h <;> first | exact h | cases h
    subst hk
    simp only [binI] at h
  case quo =>
    cases hl : eqI y 0 <;> simp [hl] at h
    rw [eqI_eq] at hl; simp at hl
    subst h
    exact ⟨_, rfl, fun w => by simp [binOp, Op.intDiv, hl, wrapI_eq]⟩
  case rem =>
    cases hl : eqI y 0 <;> simp [hl] at h
    rw [eqI_eq] at hl; simp at hl
    subst h
    exact ⟨_, rfl, fun w => by simp [binOp, Op.intDiv, hl]⟩
  all_goals
    simp only [Option.some.injEq] at h
    subst h
    refine ⟨_, rfl, fun w => ?_⟩
  case add => simp [binOp, Op.intArith, wrapI_eq]
  case sub => simp [binOp, Op.intArith, wrapI_eq]
  case mul => simp [binOp, Op.intArith, wrapI_eq]
  case and => simp [binOp, Op.intBits]
  case or => simp [binOp, Op.intBits]
  case xor => simp [binOp, Op.intBits]
  case andNot => simp [binOp, Op.intBits]
  case eql => simp [binOp, Op.intCmp, eqI_eq]; rw [Bool.eq_iff_iff]; simp
  case neq => simp [binOp, Op.intCmp, eqI_eq, bne]; rw [Bool.eq_iff_iff]; simp
  case lss => simp [binOp, Op.intCmp, ltI_eq]
  case leq => simp [binOp, Op.intCmp, ltI_eq]; rw [Bool.eq_iff_iff]; simp
  case gtr => simp [binOp, Op.intCmp, ltI_eq]
  case geq => simp [binOp, Op.intCmp, ltI_eq]; rw [Bool.eq_iff_iff]; simp

theorem toList_mk (l : List UInt8) : (ByteArray.mk l.toArray).toList = l := by
  have key : ∀ (n i : Nat) (r : List UInt8), l.length - i = n → ByteArray.toList.loop (ByteArray.mk l.toArray) i r = r.reverse ++ l.drop i := by
    intro n
    induction n with
    | zero =>
      intro i r hn
      rw [ByteArray.toList.loop]
      rw [if_neg (by simp [ByteArray.size]; omega)]
      rw [List.drop_of_length_le (by omega)]; simp
    | succ n ih =>
      intro i r hn
      rw [ByteArray.toList.loop]
      have hi : i < l.length := by omega
      rw [if_pos (by simp [ByteArray.size]; omega), ih (i + 1) _ (by omega)]
      rw [List.drop_eq_getElem_cons hi]
      have : (ByteArray.mk l.toArray).get! i = l[i] := by
        show l.toArray[i]! = _
        simp [hi]
      simp [this]
  have := key _ 0 [] rfl
  simpa [ByteArray.toList] using this

theorem eqL_map {x y : List Nat} (hx : x.all byteOk = true) (hy : y.all byteOk = true) : eqL x y = (x.map UInt8.ofNat == y.map UInt8.ofNat) := by
  induction x generalizing y with
  | nil => cases y <;> rfl
  | cons a x ih =>
    cases y with
    | nil => rfl
    | cons b y =>
      simp only [List.all_cons, Bool.and_eq_true, byteOk, Nat.blt_eq] at hx hy
      have ih' := ih (y := y) hx.2 hy.2
      simp only [eqL, List.map_cons, List.cons_beq_cons]
      have e : Nat.beq a b = (UInt8.ofNat a == UInt8.ofNat b) := by
        rw [Bool.eq_iff_iff]; simp only [Nat.beq_eq, beq_iff_eq]
        constructor
        · rintro rfl; rfl
        · intro h
          have := congrArg UInt8.toNat h
          simp [Nat.mod_eq_of_lt hx.1, Nat.mod_eq_of_lt hy.1] at this
          exact this
      rw [e, ih']
      cases (UInt8.ofNat a == UInt8.ofNat b) <;> rfl

theorem ltL_map {x y : List Nat} (hx : x.all byteOk = true) (hy : y.all byteOk = true) : ltL x y = Op.bytesLess (x.map UInt8.ofNat) (y.map UInt8.ofNat) := by
  induction x generalizing y with
  | nil => cases y <;> rfl
  | cons a x ih =>
    cases y with
    | nil => rfl
    | cons b y =>
      simp only [List.all_cons, Bool.and_eq_true, byteOk, Nat.blt_eq] at hx hy
      have ih' := ih (y := y) hx.2 hy.2
      simp only [ltL, List.map_cons, Op.bytesLess]
      have e : Nat.beq a b = (UInt8.ofNat a == UInt8.ofNat b) := by
        rw [Bool.eq_iff_iff]; simp only [Nat.beq_eq, beq_iff_eq]
        constructor
        · rintro rfl; rfl
        · intro h
          have := congrArg UInt8.toNat h
          simp [Nat.mod_eq_of_lt hx.1, Nat.mod_eq_of_lt hy.1] at this
          exact this
      have e2 : Nat.blt a b = decide (UInt8.ofNat a < UInt8.ofNat b) := by
        rw [Bool.eq_iff_iff]; simp only [Nat.blt_eq, decide_eq_true_eq, UInt8.lt_iff_toNat_lt, UInt8.toNat_ofNat']
        rw [Nat.mod_eq_of_lt hx.1, Nat.mod_eq_of_lt hy.1]
      rw [e, e2, ih']
      cases decide (UInt8.ofNat a < UInt8.ofNat b) <;> cases (UInt8.ofNat a == UInt8.ofNat b) <;> rfl

theorem less_total : ∀ (x y : List UInt8), (Op.bytesLess x y || x == y) = !Op.bytesLess y x
  | [], [] => rfl
  | [], _ :: _ => rfl
  | _ :: _, [] => rfl
  | a :: x, b :: y => by
    have ih := less_total x y
    simp only [Op.bytesLess, List.cons_beq_cons]
    by_cases h1 : a = b
    · subst h1
      have : decide (a < a) = false := by simp
      simp only [this, beq_self_eq_true, Bool.false_or, Bool.true_and]; exact ih
    · have e1 : (a == b) = false := by simpa using h1
      have e2 : (b == a) = false := by simpa using fun e => h1 e.symm
      simp only [e1, e2, Bool.false_and, Bool.or_false]
      have : a.toNat ≠ b.toNat := fun e => h1 (UInt8.toNat_inj.1 e)
      rw [Bool.eq_iff_iff]
      simp [UInt8.lt_iff_toNat_lt]
      omega

theorem conc_s [Env] {l : List Nat} {x : Value} (h : conc ρ (.s l) = some x) : l.all byteOk = true ∧ x = .string ⟨(l.map UInt8.ofNat).toArray⟩ := by
  simp only [conc] at h
  split at h
  · rename_i h1; cases h; exact ⟨h1, rfl⟩
  · cases h

theorem binS_spec [Env] {op : BinOp} {x y : List Nat} {v : V} {a b : Value} (t : TypeId) (h : binS op x y = some v) (ha : conc ρ (.s x) = some a) (hb : conc ρ (.s y) = some b) :
    ∃ u, conc ρ v = some u ∧ ∀ w, (binOp op t a b).run P w = .ok u w := by
  obtain ⟨hx, rfl⟩ := conc_s ha
  obtain ⟨hy, rfl⟩ := conc_s hb
  have t1 := less_total (x.map UInt8.ofNat) (y.map UInt8.ofNat)
  cases op <;> simp only [binS] at h <;> try cases h
  case add =>
    cases hl : Nat.blt (x.length + y.length) 9223372036854775808 <;> simp [hl] at h
    subst h
    rw [Nat.blt_eq] at hl
    refine ⟨.string ⟨((x ++ y).map UInt8.ofNat).toArray⟩, ?_, fun w => ?_⟩
    · simp only [conc]
      rw [if_pos (by rw [List.all_append, hx, hy]; rfl)]
    · have hs : ¬ (((ByteArray.mk (x.map UInt8.ofNat).toArray).size + (ByteArray.mk (y.map UInt8.ofNat).toArray).size : Nat) : Int) > IntKind.i64.max := by
        simp [ByteArray.size, IntKind.max, IntKind.signed, IntKind.bits]; omega
      have e : ByteArray.mk (x.map UInt8.ofNat).toArray ++ ByteArray.mk (y.map UInt8.ofNat).toArray = ByteArray.mk ((x ++ y).map UInt8.ofNat).toArray := by
        apply ByteArray.ext
        simp [ByteArray.data_append]
      simp only [binOp, Op.stringOp]
      rw [if_neg hs, e]; rfl
  all_goals
    refine ⟨_, rfl, fun w => ?_⟩
    simp only [binOp, Op.stringOp, toList_mk, Sem.run_pure, eqL_map hx hy, ltL_map hx hy, ltL_map hy hx]
  case leq => rw [t1]
  case gtr => rw [t1, Bool.not_not]

end
end Go.Eng

namespace Go.Eng
section
variable {P : Program} {ρ : Ren}

def plainF (P : Program) (rec : TypeId → Option (List Nat)) : Nat → List Field → Option (List Nat)
  | _, [] => some []
  | off, f :: fs => if (f.name == "_") || (f.offset != off) then none else (rec f.type).bind fun ts =>
      if szO P f.type = some ts.length ∧ ts.length ≠ 0 then (plainF P rec (off + ts.length) fs).map fun us => ts ++ us else none

/-- The tags of a type's cells, if its '==' is that of its cells, one by one. -/
def plainT (P : Program) : Nat → TypeId → Option (List Nat)
  | 0, _ => none
  | d + 1, t => match P.underlying t with
    | some .bool => some [0]
    | some (.int _) => some [1]
    | some .string => some [2]
    | some (.struct fs) => if P.stoodInHeld t then none else plainF P (plainT P d) 0 fs.toList
    | _ => none

theorem eqCs_append : ∀ {ts us : List Nat} {l k : List V} {r : Bool}, eqCs (ts ++ us) l k = some r →
    ∃ r1, eqCs ts (l.take ts.length) (k.take ts.length) = some r1 ∧ (r1 = false → r = false) ∧ (r1 = true → eqCs us (l.drop ts.length) (k.drop ts.length) = some r)
  | [], us, l, k, r, h => ⟨true, by simp [eqCs], by simp, fun _ => by simpa using h⟩
  | t :: ts, us, [], k, r, h => by simp [eqCs] at h
  | t :: ts, us, _ :: _, [], r, h => by simp [eqCs] at h
  | t :: ts, us, a :: l, b :: k, r, h => by
    simp only [List.cons_append, eqCs] at h
    simp only [List.length_cons, List.take_succ_cons, List.drop_succ_cons, eqCs]
    cases hc : eqC t a b with
    | none => simp [hc] at h
    | some q => cases q with
      | true =>
        simp only [hc] at h
        exact eqCs_append h
      | false =>
        simp only [hc, Option.some.injEq] at h
        subst h
        exact ⟨false, rfl, fun _ => rfl, fun h => by cases h⟩

/-- A value as its cells. -/
def AsCells (P : Program) (t : TypeId) (x : Value) (xs : List Value) : Prop :=
  (aggO P t = some true → x = .agg xs.toArray) ∧ (aggO P t = some false → xs = [x])

theorem part_asCells {t : TypeId} {cs : Array Value} {off n : Nat} {b : Bool} (ha : aggO P t = some b) (hs : szO P t = some n) (hn : b = false → n = 1) (hl : off + n ≤ cs.size) (w : World) :
    ∃ x, (part t cs off).run P w = .ok x w ∧ AsCells P t x ((cs.toList.drop off).take n) := by
  cases b with
  | true =>
    refine ⟨.agg (cs.extract off (off + n)), by simp [part, run_aggO ha, run_szO hs], fun _ => ?_, fun h => by rw [ha] at h; cases h⟩
    congr 1
    apply Array.ext'
    simp [Array.toList_extract, List.extract_eq_take_drop]
  | false =>
    have := hn rfl; subst this
    have ho : cs[off]? = some (cs[off]'(by omega)) := Array.getElem?_eq_getElem (by omega)
    refine ⟨cs[off]'(by omega), by simp [part, run_aggO ha, ho], fun h => (by rw [ha] at h; cases h), fun _ => ?_⟩
    rw [List.drop_eq_getElem_cons (by simp; omega)]
    simp

theorem eqC_spec [Env] {u v : V} {x y : Value} {r : Bool} {t : TypeId} {dd tag : Nat} (h : eqC tag u v = some r) (hx : conc ρ u = some x) (hy : conc ρ v = some y)
    (ht : (tag = 0 ∧ P.underlying t = some .bool) ∨ (tag = 1 ∧ ∃ k, P.underlying t = some (.int k)) ∨ (tag = 2 ∧ P.underlying t = some .string)) :
    ∀ w, (Op.equalIn (dd + 1) t x y).run P w = .ok r w := by
  intro w
  rcases ht with ⟨rfl, ht⟩ | ⟨rfl, k', ht⟩ | ⟨rfl, ht⟩ <;> simp only [eqC] at h <;> cases u <;> simp only [] at h <;> (try cases h) <;> cases v <;> simp only [] at h <;> try cases h
  · simp [conc] at hx hy; subst hx; subst hy
    rw [run_equalIn_bool' w dd t _ _ ht]
  · rename_i j a k b
    cases hs : sameK j k with
    | false => simp [hs] at h
    | true =>
      simp only [hs, cond_true, Option.some.injEq] at h
      have := sameK_eq hs
      subst this
      subst h
      simp [conc] at hx hy; subst hx; subst hy
      rw [run_equalIn_int w dd t j k' a b ht, eqI_eq]
      congr 1
  · rename_i a b
    obtain ⟨ha, rfl⟩ := conc_s hx
    obtain ⟨hb, rfl⟩ := conc_s hy
    rw [run_equalIn_string w dd t _ _ ht, toList_mk, toList_mk, eqL_map ha hb]

theorem aggO_of {t : TypeId} {d : TypeDesc} (h : P.underlying t = some d) : aggO P t = some (aggB d) := by simp [aggO, h]

theorem plain_len {d : Nat} {t : TypeId} {ts : List Nat} (h : plainT P d t = some ts) (ha : aggO P t = some false) : ts.length = 1 := by
  cases d with
  | zero => simp [plainT] at h
  | succ d =>
    simp only [plainT] at h
    cases hu : P.underlying t with
    | none => simp [hu] at h
    | some dd =>
      rw [aggO_of hu] at ha
      simp only [hu] at h
      cases dd <;> simp at h <;> first | (subst h; rfl) | (simp [aggB] at ha)

theorem eq_plain [Env] : ∀ (d : Nat) (t : TypeId) (ts : List Nat), plainT P d t = some ts → ∀ (D : Nat), d ≤ D → ∀ (l k : List V) (xs ys : List Value) (x y : Value) (r : Bool), l.length = ts.length → k.length = ts.length →
    concs ρ l = some xs → concs ρ k = some ys → AsCells P t x xs → AsCells P t y ys → eqCs ts l k = some r →
    ∀ w, (Op.equalIn D t x y).run P w = .ok r w := by
  intro d
  induction d with
  | zero => intro t ts h; simp [plainT] at h
  | succ d ih =>
    intro t ts h D hD l k xs ys x y r hll hkl hl hk hx hy he w
    obtain ⟨D, rfl⟩ : ∃ D', D = D' + 1 := ⟨D - 1, by omega⟩
    simp only [plainT] at h
    cases hu : P.underlying t with
    | none => simp [hu] at h
    | some dd =>
      simp only [hu] at h
      have hag := aggO_of hu
      have one : ∀ tag, ts = [tag] → ((tag = 0 ∧ P.underlying t = some .bool) ∨ (tag = 1 ∧ ∃ k, P.underlying t = some (.int k)) ∨ (tag = 2 ∧ P.underlying t = some .string)) → aggB dd = false →
          (Op.equalIn (D + 1) t x y).run P w = .ok r w := by
        intro tag hts htag hb
        subst hts
        have e1 := hx.2 (by rw [hag, hb])
        have e2 := hy.2 (by rw [hag, hb])
        subst e1; subst e2
        cases l with
        | nil => simp [concs] at hl
        | cons u l =>
          cases k with
          | nil => simp [concs] at hk
          | cons v k =>
            simp only [concs, Option.bind_eq_some_iff, Option.map_eq_some_iff] at hl hk
            obtain ⟨x', hx', zs, hz, e3⟩ := hl
            obtain ⟨y', hy', zs', hz', e4⟩ := hk
            simp at e3 e4
            obtain ⟨rfl, rfl⟩ := e3
            obtain ⟨rfl, rfl⟩ := e4
            have el : l = [] := by have := concs_length hz; cases l <;> simp at this ⊢
            have ek : k = [] := by have := concs_length hz'; cases k <;> simp at this ⊢
            subst el; subst ek
            simp only [eqCs] at he
            cases hc : eqC tag u v with
            | none => simp [hc] at he
            | some q =>
              have := eqC_spec (P := P) (dd := D) hc hx' hy' htag w
              cases q <;> simp [hc] at he <;> subst he <;> exact this
      cases dd <;> simp only [] at h <;> try (cases h; done)
      case bool => cases h; exact one 0 rfl (.inl ⟨rfl, hu⟩) rfl
      case int kk => cases h; exact one 1 rfl (.inr (.inl ⟨rfl, kk, hu⟩)) rfl
      case string => cases h; exact one 2 rfl (.inr (.inr ⟨rfl, hu⟩)) rfl
      case struct fs =>
        cases hst : P.stoodInHeld t with
        | true => simp [hst] at h
        | false =>
          simp only [hst, Bool.false_eq_true, if_false] at h
          have e1 := hx.1 (by rw [hag]; rfl)
          have e2 := hy.1 (by rw [hag]; rfl)
          subst e1; subst e2
          have hf : P.fieldsOf t = fs := by simp [Program.fieldsOf, hu]
          rw [run_equalIn_struct (P := P) w D t _ _ (by rw [hf]; exact hu) hst, hf]
          have key : ∀ (fs : List Field) (off : Nat) (us : List Nat), plainF P (plainT P d) off fs = some us → (l.drop off).length = us.length → (k.drop off).length = us.length → eqCs us (l.drop off) (k.drop off) = some r →
              (Op.eqFields D xs.toArray ys.toArray fs).run P w = .ok r w := by
            intro fs
            induction fs with
            | nil =>
              intro off us hus hdl hdk heq
              simp only [plainF, Option.some.injEq] at hus
              subst hus
              have : r = true := by
                simp only [eqCs] at heq
                split at heq
                · cases heq; rfl
                · cases heq
              subst this
              simp [Op.eqFields]
            | cons f fs ihf =>
              intro off us hus hdl hdk heq
              simp only [plainF] at hus
              split at hus
              · cases hus
              · rename_i hcond
                simp only [Bool.or_eq_true, beq_iff_eq, bne_iff_ne, ne_eq, not_or, Decidable.not_not] at hcond
                simp only [Option.bind_eq_some_iff] at hus
                obtain ⟨ts', hts', hus⟩ := hus
                split at hus
                · rename_i hsz
                  obtain ⟨hsz, hnz⟩ := hsz
                  simp only [Option.map_eq_some_iff] at hus
                  obtain ⟨us', hus', rfl⟩ := hus
                  obtain ⟨r1, g1, g2, g3⟩ := eqCs_append heq
                  obtain ⟨hn, ho⟩ := hcond
                  have agf : ∃ b, aggO P f.type = some b := by
                    cases hq : P.underlying f.type with
                    | none => cases d <;> simp [plainT, hq] at hts'
                    | some q => exact ⟨_, aggO_of hq⟩
                  obtain ⟨bf, hbf⟩ := agf
                  have lx := concs_length hl
                  have ly := concs_length hk
                  have hfit : off + ts'.length ≤ xs.length ∧ off + ts'.length ≤ ys.length := by simp at hdl hdk; omega
                  · obtain ⟨xf, p1, p2⟩ := part_asCells (P := P) (cs := xs.toArray) hbf hsz (fun e => plain_len hts' (by rw [hbf, e])) (by simpa using hfit.1) w
                    obtain ⟨yf, q1, q2⟩ := part_asCells (P := P) (cs := ys.toArray) hbf hsz (fun e => plain_len hts' (by rw [hbf, e])) (by simpa using hfit.2) w
                    have hr1 := ih f.type ts' hts' D (by omega) _ _ _ _ xf yf r1 (by simp at hdl ⊢; omega) (by simp at hdk ⊢; omega) (concs_take ts'.length (concs_drop off hl)) (concs_take ts'.length (concs_drop off hk)) (by simpa using p2) (by simpa using q2) g1 w
                    rw [← ho] at p1 q1
                    rw [Op.eqFields, if_pos hn]
                    simp only [Sem.run_bind, p1, q1, hr1, Result.andThen_ok]
                    cases r1 with
                    | false => simp [g2 rfl]
                    | true =>
                      have := ihf (off + ts'.length) us' hus' (by simp at hdl ⊢; omega) (by simp at hdk ⊢; omega) (by have := g3 rfl; rwa [List.drop_drop, List.drop_drop] at this)
                      simpa using this
                · cases hus
          exact key fs.toList 0 ts h (by simpa using hll) (by simpa using hkl) (by simpa using he)

end
end Go.Eng

namespace Go.Eng
section
variable {P : Program} {ρ : Ren}

def eqKind (c : Bool) : TypeDesc → Nat
  | .bool => 3
  | .pointer _ => 4
  | .slice _ => 5
  | .map _ _ => 6
  | .func _ _ _ => 7
  | .interface _ => if c then 9 else 8
  | _ => 0

theorem conc_sl [Env] {b : Path} {off len cap : Nat} {ex : Bool} {es : Nat} {x : Value} (h : conc ρ (.sl b off len cap ex es) = some x) :
    ∃ y, ρ b = some y ∧ len ≤ cap ∧ cap ≤ capOf ex cap y.2 off es ∧ off + capOf ex cap y.2 off es * es ≤ y.2 ∧
      x = .slice (some ⟨y.1, off, none⟩) len (capOf ex cap y.2 off es) := by
  simp only [conc, Option.bind_eq_some_iff] at h
  obtain ⟨y, hy, h⟩ := h
  split at h
  · rename_i hc
    cases h
    exact ⟨y, hy, hc.1, hc.2.1, hc.2.2, rfl⟩
  · cases h

theorem conc_p [Env] {b : Path} {off : Nat} {x : Value} (h : conc ρ (.p b off) = some x) : ∃ y, ρ b = some y ∧ x = .pointer (some ⟨y.1, off, none⟩) := by
  simp only [conc, Option.map_eq_some_iff] at h
  obtain ⟨y, hy, rfl⟩ := h; exact ⟨y, hy, rfl⟩

theorem conc_a [Env] {l : List V} {x : Value} (h : conc ρ (.a l) = some x) : ∃ xs, l.all V.one = true ∧ concs ρ l = some xs ∧ x = .agg xs.toArray := by
  simp only [conc] at h
  split at h
  · rename_i h1
    simp only [Option.map_eq_some_iff] at h
    obtain ⟨xs, hx, rfl⟩ := h; exact ⟨xs, h1, hx, rfl⟩
  · cases h

theorem conc_t [Env] {l : List V} {x : Value} (h : conc ρ (.t l) = some x) : ∃ xs, concs ρ l = some xs ∧ x = .tuple xs.toArray := by
  simp only [conc, Option.map_eq_some_iff] at h
  obtain ⟨xs, hx, rfl⟩ := h; exact ⟨xs, hx, rfl⟩

theorem conc_m [Env] {b : Path} {x : Value} (h : conc ρ (.m b) = some x) : ∃ y, ρ b = some y ∧ x = .map (some y.1) := by
  simp only [conc, Option.map_eq_some_iff] at h
  obtain ⟨y, hy, rfl⟩ := h; exact ⟨y, hy, rfl⟩

theorem conc_f [Env] {fn : Path} {cs : List V} {x : Value} (h : conc ρ (.f fn cs) = some x) : ∃ xs, concs ρ cs = some xs ∧ x = .func (.func fn.num) #[] xs.toArray := by
  simp only [conc, Option.map_eq_some_iff] at h
  obtain ⟨xs, hx, rfl⟩ := h; exact ⟨xs, hx, rfl⟩

theorem conc_ifc [Env] {t : Nat} {v : V} {x : Value} (h : conc ρ (.ifc t v) = some x) : ∃ y, conc ρ v = some y ∧ x = .iface t y := by
  simp only [conc, Option.map_eq_some_iff] at h
  obtain ⟨y, hy, rfl⟩ := h; exact ⟨y, hy, rfl⟩

theorem eqV_spec [Env] {c : Bool} {dd : Nat} {t : TypeId} {d : TypeDesc} {x y : V} {a b : Value} {r : Bool} (hu : P.underlying t = some d) (h : eqV (eqKind c d) x y = some r)
    (ha : conc ρ x = some a) (hb : conc ρ y = some b) (w : World) : (Op.equalIn (dd + 1) t a b).run P w = .ok r w := by
  cases d <;> simp only [eqKind] at h <;> try (simp only [eqV] at h; cases h; done)
  case bool =>
    cases x <;> simp only [eqV] at h <;> try cases h
    cases y <;> simp only [] at h <;> try cases h
    simp [conc] at ha hb; subst ha; subst hb
    exact run_equalIn_bool' w _ t _ _ hu
  case pointer e =>
    cases x <;> simp only [eqV] at h <;> (try cases h) <;> cases y <;> simp only [] at h <;> try cases h
    · obtain ⟨y, _, rfl⟩ := conc_p ha
      simp [conc] at hb; subst hb
      simp [Op.equalIn, run_under hu]
    · obtain ⟨y, _, rfl⟩ := conc_p hb
      simp [conc] at ha; subst ha
      simp [Op.equalIn, run_under hu]
    · simp [conc] at ha hb; subst ha; subst hb
      simp [Op.equalIn, run_under hu]
  case slice e =>
    cases x <;> simp only [eqV] at h <;> (try cases h) <;> cases y <;> simp only [] at h <;> try cases h
    · obtain ⟨y, _, _, _, _, rfl⟩ := conc_sl ha
      simp [conc] at hb; subst hb
      simp [Op.equalIn, run_under hu]
    · obtain ⟨y, _, _, _, _, rfl⟩ := conc_sl hb
      simp [conc] at ha; subst ha
      simp [Op.equalIn, run_under hu]
    · simp [conc] at ha hb; subst ha; subst hb
      simp [Op.equalIn, run_under hu]
  case map k e =>
    cases x <;> simp only [eqV] at h <;> (try cases h) <;> cases y <;> simp only [] at h <;> try cases h
    · obtain ⟨y, _, rfl⟩ := conc_m ha
      simp [conc] at hb; subst hb
      simp [Op.equalIn, run_under hu]
    · obtain ⟨y, _, rfl⟩ := conc_m hb
      simp [conc] at ha; subst ha
      simp [Op.equalIn, run_under hu]
    · simp [conc] at ha hb; subst ha; subst hb
      simp [Op.equalIn, run_under hu]
  case func p q v =>
    cases x <;> simp only [eqV] at h <;> (try cases h) <;> cases y <;> simp only [] at h <;> try cases h
    · obtain ⟨y, _, rfl⟩ := conc_f ha
      simp [conc] at hb; subst hb
      simp [Op.equalIn, run_under hu]
    · obtain ⟨y, _, rfl⟩ := conc_f hb
      simp [conc] at ha; subst ha
      simp [Op.equalIn, run_under hu]
    · simp [conc] at ha hb; subst ha; subst hb
      simp [Op.equalIn, run_under hu]
  case interface ms =>
    cases c <;> simp only [Bool.false_eq_true, if_false, if_true] at h <;>
    cases x <;> simp only [eqV] at h <;> (try cases h) <;> cases y <;> simp only [] at h <;> try cases h
    all_goals
      first
        | (obtain ⟨y, _, rfl⟩ := conc_ifc ha; simp [conc] at hb; subst hb; simp [Op.equalIn, run_under hu]; done)
        | (obtain ⟨y, _, rfl⟩ := conc_ifc hb; simp [conc] at ha; subst ha; simp [Op.equalIn, run_under hu]; done)
        | (simp [conc] at ha hb; subst ha; subst hb; simp [Op.equalIn, run_under hu])

def isC : Operand → Bool
  | .const _ => true
  | _ => false

theorem eqGuard_ok [Env] {c : Bool} {op : BinOp} {t : TypeId} {x y : Operand} {u v : V} {a b : Value} {d : TypeDesc} {r : Bool} (hc : c = (isC x || isC y)) (h : eqV (eqKind c d) u v = some r)
    (ha : conc ρ u = some a) (hb : conc ρ v = some b) (w : World) : (eqGuard op t x y a b).run P w = .ok () w := by
  have gen : (∀ xs ys, ¬ (a = .agg xs ∧ b = .agg ys)) → (¬ (a = .nilIface ∧ b = .nilIface) ∨ c = true) → (eqGuard op t x y a b).run P w = .ok () w := by
    intro h1 h2
    unfold eqGuard
    cases op <;> try (simp; done)
    all_goals
      have hq : ∀ b : Bool, b = true → (!b) = false := by intro b h; simp [h]
      simp only [Bool.not_true, Bool.false_eq_true, if_false]
      split
      · have hc' : (isC x || isC y) = true := by
          rcases h2 with h2 | h2
          · exact absurd ⟨rfl, rfl⟩ h2
          · rw [← hc]; exact h2
        cases x <;> cases y <;> first | (simp [isC] at hc'; done) | simp
      · exact absurd ⟨rfl, rfl⟩ (h1 _ _)
      · simp
  refine gen ?_ ?_
  · intro xs ys ⟨h1, _⟩
    subst h1
    cases u <;> simp only [conc, Option.map_eq_some_iff, Option.bind_eq_some_iff] at ha <;> try (first | (cases ha; done) | (obtain ⟨_, _, h⟩ := ha; cases h; done))
    · split at ha <;> cases ha
    · obtain ⟨_, _, h⟩ := ha; split at h <;> cases h
    · cases d <;> cases c <;> simp [eqKind, eqV] at h
    · cases d <;> cases c <;> simp [eqKind, eqV] at h
    · cases d <;> cases c <;> simp [eqKind, eqV] at h
    · cases d <;> cases c <;> simp [eqKind, eqV] at h
  · by_cases hcc : c = true
    · exact .inr hcc
    · left
      rintro ⟨rfl, rfl⟩
      have e1 : u = .i0 := by
        cases u <;> simp only [conc, Option.map_eq_some_iff, Option.bind_eq_some_iff] at ha <;> first
          | rfl
          | (cases ha; done)
          | (obtain ⟨_, _, h⟩ := ha; cases h; done)
          | (split at ha <;> first | (cases ha; done) | (simp at ha; done))
          | (obtain ⟨_, _, h⟩ := ha; split at h <;> cases h)
          | (exfalso; cases d <;> cases c <;> simp [eqKind, eqV] at h)
      have e2 : v = .i0 := by
        cases v <;> simp only [conc, Option.map_eq_some_iff, Option.bind_eq_some_iff] at hb <;> first
          | rfl
          | (cases hb; done)
          | (obtain ⟨_, _, h⟩ := hb; cases h; done)
          | (split at hb <;> first | (cases hb; done) | (simp at hb; done))
          | (obtain ⟨_, _, h⟩ := hb; split at h <;> cases h)
          | (exfalso; subst e1; cases d <;> cases c <;> simp [eqKind, eqV] at h)
      subst e1; subst e2
      have : c = false := by simpa using hcc
      subst this
      cases d <;> simp [eqKind, eqV] at h

end
end Go.Eng

namespace Go.Eng
section
variable {P : Program} {ρ : Ren}

def plainVal : Value → Bool
  | .int _ _ | .float _ _ | .complex _ _ _ | .string _ => false
  | _ => true

theorem binOp_eql_other {t : TypeId} {a b : Value} (h : plainVal a = true) : binOp .eql t a b = (do pure (.bool (← Op.equal t a b))) := by
  cases a <;> first | (simp [plainVal] at h; done) | (cases b <;> rfl)
theorem binOp_neq_other {t : TypeId} {a b : Value} (h : plainVal a = true) : binOp .neq t a b = (do pure (.bool (!(← Op.equal t a b)))) := by
  cases a <;> first | (simp [plainVal] at h; done) | (cases b <;> rfl)

theorem plainVal_of [Env] {x : V} {a : Value} (ha : conc ρ x = some a) (h1 : ∀ j n, x ≠ .i j n) (h2 : ∀ l, x ≠ .s l) (h3 : ∀ g, x ≠ .o g) (h4 : ∀ g c, x ≠ .oi g c) (h5 : ∀ j c lo hi, x ≠ .y j c lo hi) : plainVal a = true := by
  cases x <;> simp only [conc, Option.map_eq_some_iff, Option.bind_eq_some_iff] at ha <;> first
    | exact absurd rfl (h1 _ _)
    | exact absurd rfl (h2 _)
    | exact absurd rfl (h3 _)
    | exact absurd rfl (h4 _ _)
    | exact absurd rfl (h5 _ _ _ _)
    | (cases ha; rfl)
    | (obtain ⟨_, _, rfl⟩ := ha; rfl)
    | (split at ha <;> first | (cases ha; done) | (obtain ⟨_, _, rfl⟩ := Option.map_eq_some_iff.1 ha; rfl))
    | (obtain ⟨_, _, h⟩ := ha; split at h <;> first | (cases h; rfl) | cases h)

/-- A comparison of numbers of which bounds are known. -/
theorem cmpB_spec {op : BinOp} (t : TypeId) {a b c d x y : Int} {r : Bool} (h : cmpB op a b c d = some r) (h1 : a ≤ x) (h2 : x ≤ b) (h3 : c ≤ y) (h4 : y ≤ d) (w : World) :
    (binOp op t (.int .i64 x) (.int .i64 y)).run P w = .ok (.bool r) w := by
  have e : ∀ {q : Bool} {m n : Int}, ltI m n = q → q = decide (m < n) := fun h => by rw [← h, ltI_eq]
  cases op <;> simp only [cmpB] at h <;> try (cases h; done)
  all_goals
    simp only [ltI_eq, eqI_eq] at h
    have key : ∀ (p : Prop) [Decidable p] (u v : Option Bool), cond (decide p) u v = some r → (p ∧ u = some r) ∨ (¬ p ∧ v = some r) := fun p _ u v hh => by
      by_cases hp : p
      · simp only [decide_eq_true hp, cond_true] at hh; exact .inl ⟨hp, hh⟩
      · simp only [decide_eq_false hp, cond_false] at hh; exact .inr ⟨hp, hh⟩
  · rcases key _ _ _ h with ⟨p1, h⟩ | ⟨p1, h⟩
    · cases h; simp [binOp, Op.intCmp]; omega
    · rcases key _ _ _ h with ⟨p2, h⟩ | ⟨p2, h⟩
      · cases h; simp [binOp, Op.intCmp]; omega
      · rcases key _ _ _ h with ⟨p3, h⟩ | ⟨p3, h⟩
        · rcases key _ _ _ h with ⟨p4, h⟩ | ⟨p4, h⟩
          · rcases key _ _ _ h with ⟨p5, h⟩ | ⟨p5, h⟩
            · cases h; simp [binOp, Op.intCmp]; omega
            · cases h
          · cases h
        · cases h
  · rcases key _ _ _ h with ⟨p1, h⟩ | ⟨p1, h⟩
    · cases h; simp [binOp, Op.intCmp]; omega
    · rcases key _ _ _ h with ⟨p2, h⟩ | ⟨p2, h⟩
      · cases h; simp [binOp, Op.intCmp]; omega
      · rcases key _ _ _ h with ⟨p3, h⟩ | ⟨p3, h⟩
        · rcases key _ _ _ h with ⟨p4, h⟩ | ⟨p4, h⟩
          · rcases key _ _ _ h with ⟨p5, h⟩ | ⟨p5, h⟩
            · cases h; simp [binOp, Op.intCmp]; omega
            · cases h
          · cases h
        · cases h
  all_goals
    rcases key _ _ _ h with ⟨p1, h⟩ | ⟨p1, h⟩
    · cases h; simp [binOp, Op.intCmp]; omega
    · rcases key _ _ _ h with ⟨p2, h⟩ | ⟨p2, h⟩
      · cases h
      · cases h; simp [binOp, Op.intCmp]; omega

theorem addY_spec [Env] {op : BinOp} (t : TypeId) {j : Nat} {c lo hi b : Int} {v : V} {y z : Value} (h : addY j c lo hi b = some v) (h1 : lo ≤ Env.par j + c) (h2 : Env.par j + c ≤ hi)
    (hrun : ∀ w, (binOp op t y z).run P w = .ok (.int .i64 (IntKind.i64.wrap (Env.par j + c + b))) w) : ∃ u, conc ρ v = some u ∧ ∀ w, (binOp op t y z).run P w = .ok u w := by
  unfold addY at h
  rw [ltI_eq, ltI_eq] at h
  by_cases p1 : lo + b < -9223372036854775808
  · simp [p1] at h
  · by_cases p2 : 9223372036854775807 < hi + b
    · simp [p1, p2] at h
    · simp only [decide_eq_false p1, decide_eq_false p2, cond_false, Option.some.injEq] at h
      subst h
      refine ⟨.int .i64 (Env.par j + (c + b)), ?_, fun w => ?_⟩
      · simp only [conc, yV]
        rw [if_pos (by omega)]
      · rw [hrun w]
        have : IntKind.i64.wrap (Env.par j + c + b) = Env.par j + (c + b) := by
          simp [IntKind.wrap, IntKind.bits, IntKind.signed]; omega
        rw [this]

theorem yI_spec [Env] {op : BinOp} (t : TypeId) {j : Nat} {c lo hi b : Int} {v : V} (h : yI op j c lo hi b = some v) (h1 : lo ≤ Env.par j + c) (h2 : Env.par j + c ≤ hi) :
    ∃ u, conc ρ v = some u ∧ ∀ w, (binOp op t (.int .i64 (Env.par j + c)) (.int .i64 b)).run P w = .ok u w := by
  have cmp : ∀ {r : Bool}, cmpB op lo hi b b = some r → v = .b r → ∃ u, conc ρ v = some u ∧ ∀ w, (binOp op t (.int .i64 (Env.par j + c)) (.int .i64 b)).run P w = .ok u w := by
    rintro r hr rfl
    exact ⟨_, rfl, fun w => cmpB_spec t hr h1 h2 (Int.le_refl _) (Int.le_refl _) w⟩
  unfold yI at h
  split at h
  · exact addY_spec t h h1 h2 fun w => by simp [binOp, Op.intArith]
  · exact addY_spec t h h1 h2 fun w => by simp [binOp, Op.intArith, Int.sub_eq_add_neg]
  · obtain ⟨r, hr, rfl⟩ := Option.map_eq_some_iff.1 h
    exact cmp hr rfl

theorem iY_spec [Env] {op : BinOp} (t : TypeId) {j : Nat} {c lo hi b : Int} {v : V} (h : iY op b j c lo hi = some v) (h1 : lo ≤ Env.par j + c) (h2 : Env.par j + c ≤ hi) :
    ∃ u, conc ρ v = some u ∧ ∀ w, (binOp op t (.int .i64 b) (.int .i64 (Env.par j + c))).run P w = .ok u w := by
  unfold iY at h
  split at h
  · exact addY_spec t h h1 h2 fun w => by simp [binOp, Op.intArith, Int.add_comm]
  · obtain ⟨r, hr, rfl⟩ := Option.map_eq_some_iff.1 h
    exact ⟨_, rfl, fun w => cmpB_spec t hr (Int.le_refl _) (Int.le_refl _) h1 h2 w⟩

theorem yY_spec [Env] {op : BinOp} (t : TypeId) {j j' : Nat} {c lo hi c' lo' hi' : Int} {v : V} (h : yY op j c lo hi j' c' lo' hi' = some v) (h1 : lo ≤ Env.par j + c) (h2 : Env.par j + c ≤ hi)
    (h3 : lo' ≤ Env.par j' + c') (h4 : Env.par j' + c' ≤ hi') : ∃ u, conc ρ v = some u ∧ ∀ w, (binOp op t (.int .i64 (Env.par j + c)) (.int .i64 (Env.par j' + c'))).run P w = .ok u w := by
  unfold yY at h
  cases hb : Nat.beq j j' with
  | true =>
    rw [hb] at h
    simp only [cond_true] at h
    have := Nat.eq_of_beq_eq_true hb
    subst this
    obtain ⟨r, hr, rfl⟩ := Option.map_eq_some_iff.1 h
    refine ⟨_, rfl, fun w => ?_⟩
    have h0 := cmpB_spec (P := P) t hr (x := c) (y := c') (Int.le_refl _) (Int.le_refl _) (Int.le_refl _) (Int.le_refl _) w
    have e : (binOp op t (.int .i64 (Env.par j + c)) (.int .i64 (Env.par j + c'))).run P w = (binOp op t (.int .i64 c) (.int .i64 c')).run P w := by
      have e1 : (Env.par j + c == Env.par j + c') = (c == c') := by
        rw [Bool.eq_iff_iff, beq_iff_eq, beq_iff_eq]; omega
      cases op <;> simp only [cmpB] at hr <;> try (cases hr; done)
      all_goals simp [binOp, Op.intCmp, e1, bne]
    rw [e]; exact h0
  | false =>
    rw [hb] at h
    simp only [cond_false] at h
    obtain ⟨r, hr, rfl⟩ := Option.map_eq_some_iff.1 h
    exact ⟨_, rfl, fun w => cmpB_spec t hr h1 h2 h3 h4 w⟩

theorem binV_spec [Env] {c : Bool} {op : BinOp} {t : TypeId} {d : TypeDesc} {x y : V} {a b : Value} {v : V} (hu : P.underlying t = some d)
    (h : binV op (eqKind c d) x y = some v) (ha : conc ρ x = some a) (hb : conc ρ y = some b) :
    ∃ u, conc ρ v = some u ∧ ∀ w, (binOp op t a b).run P w = .ok u w := by
  have other : (∀ j n, x ≠ .i j n) → (∀ l, x ≠ .s l) → (∀ g, x ≠ .o g) → (∀ g c, x ≠ .oi g c) → (∀ j c lo hi, x ≠ .y j c lo hi) → binE op (eqKind c d) x y = some v → ∃ u, conc ρ v = some u ∧ ∀ w, (binOp op t a b).run P w = .ok u w := by
    intro h1 h2 h3 h4 h5 h
    unfold binE at h
    have hp := plainVal_of ha h1 h2 h3 h4 h5
    have hE : ∀ r, eqV (eqKind c d) x y = some r → ∀ w, (Op.equal t a b).run P w = .ok r w := by
      intro r hr w
      have he := eqV_spec (P := P) (dd := 9999) hu hr ha hb w
      unfold Op.equal Op.maxDepth; exact he
    cases op <;> simp only [Option.map_eq_some_iff] at h <;> try cases h
    · rename_i r hr
      obtain ⟨hr, rfl⟩ := hr
      exact ⟨_, rfl, fun w => by rw [binOp_eql_other hp]; simp [hE r hr w]⟩
    · rename_i r hr
      obtain ⟨hr, rfl⟩ := hr
      exact ⟨_, rfl, fun w => by rw [binOp_neq_other hp]; simp [hE r hr w]⟩
  cases x
  case i j n =>
    simp only [binV] at h
    cases y <;> simp only [] at h <;> try (cases h; done)
    case oi g c =>
      simp [conc] at ha; subst ha
      simp only [conc, Option.bind_eq_some_iff] at hb
      obtain ⟨q, _, hb⟩ := hb
      obtain ⟨z, _, rfl, hz⟩ := oiV_spec hb
      cases hs : sameK j .i64 with
      | false => rw [hs] at h; simp at h
      | true =>
        have := sameK_eq hs
        subst this
        rw [hs] at h
        simp only [cond_true] at h
        have key : ∀ (b1 b2 : Bool), (cond (Nat.beq c 1) (cond (ltI 2 n) (some (V.b b1)) none) (cond (ltI 4 n) none (some (V.b b2)))) = some v → (n ≤ z ∧ v = .b b2) ∨ (z < n ∧ v = .b b1) := by
          intro b1 b2 h
          cases hc : Nat.beq c 1 with
          | true =>
            have hc := Nat.eq_of_beq_eq_true hc
            simp only [inC, hc, if_true] at hz
            cases hl : ltI 2 n with
            | false => simp [hl, hc] at h
            | true =>
              rw [ltI_eq] at hl
              have hl := of_decide_eq_true hl
              right
              refine ⟨by omega, ?_⟩
              simp [show Nat.beq c 1 = true by rw [hc]; rfl, show ltI 2 n = true by rw [ltI_eq]; exact decide_eq_true hl] at h
              exact h.symm
          | false =>
            have hc' : c ≠ 1 := by intro e; subst e; simp at hc
            simp only [inC, hc', if_false] at hz
            cases hl : ltI 4 n with
            | true => simp [hc, hl] at h
            | false =>
              simp only [hc, hl, cond_false, Option.some.injEq] at h
              rw [ltI_eq] at hl
              have hl := of_decide_eq_false hl
              left
              exact ⟨by omega, h.symm⟩
        cases op <;> simp only [] at h <;> try (cases h; done)
        · rcases key false true h with ⟨h1, rfl⟩ | ⟨h1, rfl⟩
          · exact ⟨_, rfl, fun w => by simp [binOp, Op.intCmp, h1]⟩
          · exact ⟨_, rfl, fun w => by simp [binOp, Op.intCmp, show ¬ n ≤ z by omega]⟩
        · rcases key true false h with ⟨h1, rfl⟩ | ⟨h1, rfl⟩
          · exact ⟨_, rfl, fun w => by simp [binOp, Op.intCmp, show ¬ z < n by omega]⟩
          · exact ⟨_, rfl, fun w => by simp [binOp, Op.intCmp, h1]⟩
    case y j' c lo hi =>
      simp [conc] at ha; subst ha
      obtain ⟨rfl, hb1, hb2⟩ := yV_spec hb
      cases hs : sameK j .i64 with
      | false => rw [hs] at h; simp at h
      | true =>
        have := sameK_eq hs
        subst this
        rw [hs] at h
        simp only [cond_true] at h
        exact iY_spec t h hb1 hb2
    rename_i j' m
    simp [conc] at ha hb; subst ha; subst hb
    cases hs : sameK j j' with
    | true =>
      simp only [hs, cond_true] at h
      exact binI_spec t h (.inl (sameK_eq hs).symm)
    | false =>
      simp only [hs, cond_false] at h
      cases op <;> simp only [] at h <;> first
        | (cases h; done)
        | exact binI_spec t h (.inr (.inl rfl))
        | exact binI_spec t h (.inr (.inr rfl))
  case s l =>
    simp only [binV] at h
    cases y <;> simp only [] at h <;> try cases h
    exact binS_spec t h ha hb
  case o g =>
    have no : ∀ k, eqV k (.o g) y = none := by
      intro k
      unfold eqV
      split <;> rfl
    simp only [binV, binE] at h
    cases op <;> simp [no] at h
  case oi g c =>
    have no : ∀ k, eqV k (.oi g c) y = none := by
      intro k
      unfold eqV
      split <;> rfl
    simp only [binV, binE] at h
    cases op <;> simp [no] at h
  case y j c lo hi =>
    obtain ⟨rfl, ha1, ha2⟩ := yV_spec ha
    simp only [binV] at h
    cases y <;> simp only [] at h <;> try (cases h; done)
    case i j' m =>
      simp [conc] at hb; subst hb
      cases hs : sameK j' .i64 with
      | false => rw [hs] at h; simp at h
      | true =>
        have := sameK_eq hs
        subst this
        rw [hs] at h
        simp only [cond_true] at h
        exact yI_spec t h ha1 ha2
    case y j' c' lo' hi' =>
      obtain ⟨rfl, hb1, hb2⟩ := yV_spec hb
      exact yY_spec t h ha1 ha2 hb1 hb2
  all_goals exact other (by intros; simp) (by intros; simp) (by intros; simp) (by intros; simp) (by intros; simp) (by simpa [binV] using h)

theorem unV_spec [Env] {op : UnOp} {x v : V} {a : Value} (h : unV op x = some v) (ha : conc ρ x = some a) : ∃ u, conc ρ v = some u ∧ ∀ w, (Op.unary op a).run P w = .ok u w := by
  cases x <;> simp only [unV] at h <;> try cases h
  · cases op <;> simp only [] at h <;> try cases h
    simp [conc] at ha; subst ha
    exact ⟨_, rfl, fun w => by simp [Op.unary]⟩
  · rename_i k n
    simp [conc] at ha; subst ha
    cases op <;> simp only [] at h <;> try cases h
    · exact ⟨_, rfl, fun w => by simp [Op.unary, Op.intArith, wrapI_eq]⟩
    · exact ⟨_, rfl, fun w => by simp [Op.unary, Op.intBits]⟩

theorem bound_spec {x : Value} {n y : Nat} {code : BoundsCode} {k : IntKind} (hx : x = .int k n) (hn : n ≤ y) (w : World) : (Instr.sliceBound x y code).run P w = .ok n w := by
  subst hx
  rw [run_sliceBound w k n y code (by omega) (by omega)]
  simp

/-! ### Slices -/

/-- The bounds of a slice expression, as the model finds them. -/
theorem sliceBounds_spec {isSl : Bool} {len cap : Nat} {lo hi mx : Option Value} {a e m : Nat}
    (hl : (lo = none ∧ a = 0) ∨ ∃ k, lo = some (.int k a)) (hh : (hi = none ∧ mx = none ∧ e = len) ∨ ∃ k, hi = some (.int k e))
    (hm : (mx = none ∧ m = cap) ∨ ∃ k, mx = some (.int k m)) (h1 : a ≤ e) (h2 : e ≤ m) (h3 : m ≤ cap) (w : World) :
    (Instr.sliceBounds isSl len cap lo hi mx).run P w = .ok (a, e, m) w := by
  have i1 : (a : Int) ≤ e := by omega
  have i2 : (e : Int) ≤ m := by omega
  have i3 : (m : Int) ≤ cap := by omega
  have z1 : (0 : Int) ≤ a := by omega
  have z2 : (0 : Int) ≤ e := by omega
  have z3 : (0 : Int) ≤ m := by omega
  rcases hl with ⟨rfl, rfl⟩ | ⟨k, rfl⟩ <;> rcases hm with ⟨rfl, rfl⟩ | ⟨km, rfl⟩ <;> rcases hh with ⟨rfl, h, rfl⟩ | ⟨kh, rfl⟩ <;>
    first
      | (cases h; done)
      | simp [Instr.sliceBounds, run_sliceBound, i1, i2, i3, z1, z2, z3]

theorem slSl2_spec [Env] {es : Nat} {b : Path} {off a e c cap : Nat} {ex : Bool} {v : V} {y : Nat × Nat} (h : slSl2 es b off a e c ex = some v) (hy : ρ b = some y) (_ : es ≠ 0)
    (hc : c ≤ cap) (hfit : off + cap * es ≤ y.2) (hex : ex = false → cap = (y.2 - off) / es) :
    a ≤ e ∧ e ≤ c ∧ ∀ m, (ex = true → m = c) → (ex = false → m = cap) → conc ρ v = some (.slice (if m = a then some ⟨y.1, off, none⟩ else some ((Addr.mk y.1 off none).add (a * es))) (e - a) (m - a)) := by
  unfold slSl2 at h
  cases h1 : Nat.ble a e <;> simp [h1] at h
  cases h2 : Nat.ble e c <;> simp [h2] at h
  have h1 := Nat.le_of_ble_eq_true h1
  have h2 := Nat.le_of_ble_eq_true h2
  refine ⟨h1, h2, fun m hm1 hm2 => ?_⟩
  have hmul : ∀ p q : Nat, p ≤ q → p * es ≤ q * es := fun p q h => Nat.mul_le_mul_right es h
  cases h3 : Nat.beq a c with
  | true =>
    rw [h3, cond_true] at h
    have h3 := Nat.eq_of_beq_eq_true h3
    cases ex with
    | false => cases h
    | true =>
      simp at h
      have := hm1 rfl
      subst this; subst h3
      subst h
      have := hmul a cap (by omega)
      simp only [conc, hy, Option.bind_some, capOf, if_true]
      rw [if_pos (by simp; omega)]
  | false =>
    simp only [h3, cond_false, Option.some.injEq] at h
    subst h
    have h3 : a ≠ c := by intro e; subst e; simp at h3
    cases ex with
    | true =>
      have := hm1 rfl
      subst this
      have q1 := hmul a m (by omega)
      have q2 := hmul m cap hc
      have q3 : (m - a) * es = m * es - a * es := Nat.sub_mul m a es
      simp only [conc, hy, Option.bind_some, capOf, if_true]
      rw [if_pos ⟨by omega, by omega, by omega⟩, if_neg (fun e => h3 e.symm), add_none]
    | false =>
      have := hm2 rfl
      subst this
      have hcap := hex rfl
      have q0 : m * es ≤ y.2 - off := by rw [hcap]; exact Nat.div_mul_le_self _ _
      have q1 := hmul a m (by omega)
      have q3 : (m - a) * es = m * es - a * es := Nat.sub_mul m a es
      have q4 : (y.2 - (off + a * es)) / es = m - a := by
        rw [hcap, ← Nat.sub_sub, Nat.mul_comm a es, Nat.sub_mul_div]
      simp only [conc, hy, Option.bind_some, capOf, Bool.false_eq_true, if_false, q4]
      rw [if_pos ⟨by omega, by omega, by omega⟩, if_neg (by omega), add_none]

end
end Go.Eng

namespace Go.Eng
section
variable {P : Program} {ρ : Ren}

def cOo (ng : Nat) : Option Operand → Option (Option Opd)
  | none => some none
  | some x => (cO ng x).map some

/-- The parts of a literal, compiled. -/
def cParts (ng : Nat) (place : Nat → Option (Nat × Nat)) : List (Nat × Operand) → Option (List (Nat × Nat × Opd))
  | [] => some []
  | (i, x) :: l => (place i).bind fun p => (cO ng x).bind fun o => (cParts ng place l).map fun r => (p.1, p.2, o) :: r

def zeroO (P : Program) (t : TypeId) : Option (List V) :=
  ((P.info? t).bind (·.zero)).bind fun z => (cVs z.cells.toList).bind fun l => if l.all V.one then some l else none

def placesO (P : Program) (fs : List Field) : Option (List (Nat × Nat)) := fs.mapM fun f => (P.info? f.type).map fun i => (f.offset, i.size)

def cBuild (P : Program) (ng : Nat) (t : TypeId) (ps : List (Nat × Operand)) : Option PI :=
  (zeroO P t).bind fun z => match P.underlying t with
    | some (.struct fs) => (placesO P fs.toList).bind fun pl => (cParts ng (pl.toArray[·]?) ps).map fun r => .build z r
    | some (.array _ e) => (szO P e).bind fun s => (cParts ng (fun i => some (i * s, s)) ps).map fun r => .build z r
    | _ => none

def isEq : BinOp → Option Bool
  | .eql => some false
  | .neq => some true
  | _ => none

/-- The types whose values in interfaces are compared by their one plain cell. -/
def cmpRows (P : Program) : List TypeInfo → Nat → List (Nat × Nat)
  | [], _ => []
  | i :: l, t => match i.comparable, plainT P 1 t with
    | true, some [g] => (t, g) :: cmpRows P l (t + 1)
    | _, _ => cmpRows P l (t + 1)

def cTas (P : Program) (ng : Nat) (x : Operand) (asserted : TypeId) (ok : Bool) : Option PI :=
  (((if ok then ((P.info? asserted).bind (·.zero)).bind cV else some .i0) : Option V)).bind fun z => (cO ng x).bind fun x' => match P.underlying asserted with
    | some (.interface want) => some (.tas false ((P.types.toList.zipIdx.filter fun q => (Instr.missingMethod want q.1.methods).isNone).map (·.2)) z ok x')
    | some _ => some (.tas true [asserted] z ok x')
    | none => none

def cBin (P : Program) (ng : Nat) (op : BinOp) (t : TypeId) (x y : Operand) : Option PI :=
  (P.underlying t).bind fun d => (cO ng x).bind fun x' => (cO ng y).bind fun y' =>
    match d with
    | .struct _ => (isEq op).bind fun neg => if P.eqGuardType P.depth t then none else (plainT P 20 t).map fun ts => .eqS neg ts x' y'
    | .interface ms => match isC x || isC y, isEq op with
      | false, some neg => some (.eqF neg (cmpRows P P.types.toList 0) x' y')
      | c, _ => some (.bin op (eqKind c (.interface ms)) x' y')
    | d => some (.bin op (eqKind (isC x || isC y) d) x' y')

def cConv (P : Program) (ng : Nat) (s d : TypeId) (x : Operand) : Option PI :=
  (P.underlying s).bind fun us => (P.underlying d).bind fun ud => (cO ng x).bind fun x' =>
    match ud with
    | .int k => some (.convI k x')
    | .string => match us with | .string => some (.convS x') | _ => none
    | _ => none

def cSlice (P : Program) (ng : Nat) (t : TypeId) (x : Operand) (lo hi mx : Option Operand) : Option PI :=
  (cO ng x).bind fun x' => (cOo ng lo).bind fun lo' => (cOo ng hi).bind fun hi' => (cOo ng mx).bind fun mx' =>
    match P.underlying t with
    | some .string => match mx with | none => some (.slStr x' lo' hi') | some _ => none
    | some (.slice e) => (szO P e).bind fun s => if s = 0 ∨ (mx.isSome = true ∧ hi.isNone = true) then none else some (.slSl s x' lo' hi' mx')
    | _ => none

def cFieldA (P : Program) (ng : Nat) (s : TypeId) (x : Operand) (f : Nat) : Option PI :=
  match P.underlying s with
  | some (.struct fs) => (fs[f]?).bind fun fd => (szO P fd.type).bind fun sz => if sz = 0 then none else (cO ng x).map fun x' => .fieldA fd.offset x'
  | _ => none

def cField (P : Program) (ng : Nat) (s : TypeId) (x : Operand) (f : Nat) : Option PI :=
  match P.underlying s with
  | some (.struct fs) => (fs[f]?).bind fun fd => (szO P fd.type).bind fun sz => (aggO P fd.type).bind fun a => (cO ng x).map fun x' => .field a fd.offset sz x'
  | _ => none

def cIdxA (P : Program) (ng : Nat) (t : TypeId) (x i : Operand) : Option PI :=
  (cO ng x).bind fun x' => (cO ng i).bind fun i' => match P.underlying t with
    | some (.array n e) => (szO P e).map fun s => .idxAArr n s x' i'
    | some (.slice e) => (szO P e).map fun s => .idxASl s x' i'
    | _ => none

def cIdx (P : Program) (ng : Nat) (t : TypeId) (x i : Operand) : Option PI :=
  (cO ng x).bind fun x' => (cO ng i).bind fun i' => match P.underlying t with
    | some (.array n e) => (szO P e).bind fun s => (aggO P e).map fun a => .idxArr a n s x' i'
    | some .string => some (.idxStr x' i')
    | _ => none

def cLen (P : Program) (ng : Nat) (ts : Array TypeId) (args : Array Operand) : Option PI :=
  match ts.toList, args.toList with
  | [t], [x] => match P.underlying t with
    | some .string => (cO ng x).map .lenS
    | some (.slice _) => (cO ng x).map .lenSl
    | _ => none
  | _, _ => none

/-- Is this a function of the library without a body, of that name? -/
def isExt (fn : Func) (n : String) : Bool := fn.body.isNone && (fn.name == n && fn.origin == "")

def cExt (P : Program) (ng : Nat) (f : FuncId) (args : List Operand) : Option PI :=
  match P.funcs[f]?, args with
  | some fn, [x, c] => if isExt fn "internal/bytealg.IndexByteString" then (cO ng x).bind fun x => (cO ng c).map fun c => .ixb x c else none
  | _, _ => none

def cP (P : Program) (ng : Nat) (o : Oper) : Option PI :=
  match o.op with
  | .move x => (cO ng x).map .mv
  | .assign x => (cO ng x).map .mv
  | .pick c a b => (cO ng c).bind fun c => (cO ng a).bind fun a => (cO ng b).map fun b => .pick c a b
  | .build t ps => cBuild P ng t ps.toList
  | .binOp op t x y _ => cBin P ng op t x y
  | .unOp op _ x => (cO ng x).map (.un op)
  | .convert s d x => cConv P ng s d x
  | .makeInterface t x => if P.concrete t then (cO ng x).map (.mkI t) else none
  | .makeFunc (.func f) ⟨[]⟩ ⟨cs⟩ => (cOs ng cs).map (.mkF (Path.of f))
  | .slice t x lo hi mx => cSlice P ng t x lo hi mx
  | .fieldAddr s x f => cFieldA P ng s x f
  | .field s x f => cField P ng s x f
  | .indexAddr t x i => cIdxA P ng t x i
  | .index t x i => cIdx P ng t x i
  | .extract x i => (cO ng x).map fun x => .extract x i
  | .nilCheck x => (cO ng x).map .nilck
  | .typeAssert x _ t ok => cTas P ng x t ok
  | .call { callee := .builtin .len, args, argTypes } => cLen P ng argTypes args
  | .call { callee := .builtin .max, args, argTypes := _ } => (cOs ng args.toList).map .mx
  | .call { callee := .builtin .min, args, argTypes := _ } => (cOs ng args.toList).map .mn
  | .call { callee := .value (.func f), args, argTypes := _ } => cExt P ng f args.toList
  | _ => none

/-- What soundness says of one operation that touches no memory. -/
def Pure1 [Env] (P : Program) (ρ : Ren) (o : Oper) (a : Act) (v : V) : Prop := ∃ x, conc ρ v = some x ∧ ∀ w, (execOp a.eval o).run P w = .ok (.value x) w

theorem zeroO_spec [Env] {t : TypeId} {l : List V} (h : zeroO P t = some l) : ∃ i z, P.info? t = some i ∧ i.zero = some z ∧ (∀ ρ, concs ρ l = some z.cells.toList) ∧ l.all V.one = true := by
  simp only [zeroO, Option.bind_eq_some_iff] at h
  obtain ⟨z, ⟨i, hi, hz⟩, k, hk, h⟩ := h
  split at h
  · rename_i h1
    cases h
    exact ⟨i, z, hi, hz, fun ρ => cVs_spec ρ _ _ hk, h1⟩
  · cases h

theorem cParts_spec [Env] {ng : Nat} {fr : Tr V} {a : Act} {place : Nat → Option (Nat × Nat)} (hg : Glob ng ρ) (hf : FrRel ρ fr a.tmps) :
    ∀ (ps : List (Nat × Operand)) (r : List (Nat × Nat × Opd)), cParts ng place ps = some r → PartRel ρ fr place r (ps.map fun p => (p.1, a.eval p.2))
  | [], r, h => by simp [cParts] at h; subst h; trivial
  | (i, x) :: ps, r, h => by
    simp only [cParts, Option.bind_eq_some_iff, Option.map_eq_some_iff] at h
    obtain ⟨p, hp, o, ho, r', hr, rfl⟩ := h
    exact ⟨hp, ev_spec hg hf ho, cParts_spec hg hf ps r' hr⟩

theorem build_spec [Env] {ng : Nat} {fr : Tr V} {a : Act} {t : TypeId} {ps : Array (Nat × Operand)} {i : PI} {v : V} (hg : Glob ng ρ) (hf : FrRel ρ fr a.tmps)
    (hc : cBuild P ng t ps.toList = some i) (hv : puI fr i = some v) :
    ∃ x, conc ρ v = some x ∧ ∀ w, (Instr.build t (ps.map fun (i, x) => (i, a.eval x))).run P w = .ok x w := by
  simp only [cBuild, Option.bind_eq_some_iff] at hc
  obtain ⟨z, hz, hc⟩ := hc
  obtain ⟨it, zv, hi, hzv, hcz, h1⟩ := zeroO_spec hz
  have hlist : (ps.map fun (i, x) => (i, a.eval x)).toList = ps.toList.map fun p => (p.1, a.eval p.2) := by simp
  split at hc
  · rename_i fs hu
    simp only [Option.bind_eq_some_iff, Option.map_eq_some_iff] at hc
    obtain ⟨pl, hpl, r, hr, rfl⟩ := hc
    simp only [puI, Option.map_eq_some_iff] at hv
    obtain ⟨l, hl, rfl⟩ := hv
    obtain ⟨cs, f1, f2, f3⟩ := fill_spec r _ z l zv.cells (cParts_spec hg hf _ _ hr) hl (hcz ρ) h1
    refine ⟨.agg cs, by simp [conc, f3, f2], fun w => ?_⟩
    refine run_build w t _ cs ?_
    have hpl' : fs.toList.mapM (fun f => (P.info? f.type).map fun i => (f.offset, i.size)) = some pl := hpl
    simp only [Program.built, hi, hu, hzv, hpl', hlist]
    exact f1
  · rename_i n e hu
    simp only [Option.bind_eq_some_iff, Option.map_eq_some_iff] at hc
    obtain ⟨s, hs, r, hr, rfl⟩ := hc
    simp only [puI, Option.map_eq_some_iff] at hv
    obtain ⟨l, hl, rfl⟩ := hv
    obtain ⟨cs, f1, f2, f3⟩ := fill_spec r _ z l zv.cells (cParts_spec hg hf _ _ hr) hl (hcz ρ) h1
    refine ⟨.agg cs, by simp [conc, f3, f2], fun w => ?_⟩
    refine run_build w t _ cs ?_
    simp only [szO, Option.map_eq_some_iff] at hs
    obtain ⟨ie, hie, rfl⟩ := hs
    simp only [Program.built, hi, hu, hzv, hie, hlist]
    exact f1
  · cases hc

theorem info_types {t : TypeId} {i : TypeInfo} (h : P.types.toList[t]? = some i) : P.info? t = some i := by
  have h' : P.types[t]? = some i := by simpa using h
  have hlt : t < P.types.size := (Array.getElem?_eq_some_iff.1 h').1
  show P.toTables.info? t = some i
  unfold Tables.info?
  rw [if_pos hlt]
  exact h'

theorem tagOf_rows : ∀ (l : List TypeInfo) (t0 t g : Nat), tagOf t (cmpRows P l t0) = some g → ∃ i, t0 ≤ t ∧ l[t - t0]? = some i ∧ i.comparable = true ∧ plainT P 1 t = some [g]
  | [], _, _, _, h => by simp [cmpRows, tagOf] at h
  | i :: l, t0, t, g, h => by
    have rest : tagOf t (cmpRows P l (t0 + 1)) = some g → ∃ i', t0 ≤ t ∧ (i :: l)[t - t0]? = some i' ∧ i'.comparable = true ∧ plainT P 1 t = some [g] := by
      intro h
      obtain ⟨i', a, b, c⟩ := tagOf_rows l (t0 + 1) t g h
      refine ⟨i', by omega, ?_, c⟩
      rw [show t - t0 = (t - (t0 + 1)) + 1 by omega]
      simpa using b
    simp only [cmpRows] at h
    split at h
    · rename_i g' hcm hpl
      simp only [tagOf] at h
      cases hb : Nat.beq t0 t with
      | true =>
        have hb := Nat.eq_of_beq_eq_true hb
        subst hb
        simp only [Nat.beq_refl, cond_true, Option.some.injEq] at h
        subst h
        exact ⟨i, Nat.le_refl _, by simp, hcm, hpl⟩
      | false =>
        simp only [hb, cond_false] at h
        exact rest h
    · exact rest h

theorem eqF_spec [Env] {t : TypeId} {ms : Array (String × TypeId)} {op : BinOp} {x y : Operand} {u v : V} {a b : Value} {r : Bool} (hu : P.underlying t = some (.interface ms)) (h : eqF (cmpRows P P.types.toList 0) u v = some r)
    (ha : conc ρ u = some a) (hb : conc ρ v = some b) (w : World) : (Op.equal t a b).run P w = .ok r w ∧ (eqGuard op t x y a b).run P w = .ok () w ∧ plainVal a = true := by
  have nil : eqV 8 u v = some r → (Op.equal t a b).run P w = .ok r w := by
    intro h
    have := eqV_spec (P := P) (c := false) (dd := 9999) (d := .interface ms) hu h ha hb w
    unfold Op.equal Op.maxDepth; exact this
  have g1 : ∀ tt vv q, (eqGuard op t x y (.iface tt vv) q).run P w = .ok () w := by
    intro tt vv q
    unfold eqGuard
    cases op <;> simp
  have g2 : ∀ tt vv, (eqGuard op t x y .nilIface (.iface tt vv)).run P w = .ok () w := by
    intro tt vv
    unfold eqGuard
    cases op <;> simp
  cases u <;> simp only [eqF] at h <;> try (cases h; done)
  case i0 =>
    cases v <;> simp only [] at h <;> try (cases h; done)
    obtain ⟨q, _, rfl⟩ := conc_ifc hb
    simp [conc] at ha; subst ha
    exact ⟨nil (by simpa [eqV] using h), g2 _ _, rfl⟩
  case ifc tx vx =>
    obtain ⟨p, hp, rfl⟩ := conc_ifc ha
    cases v <;> simp only [] at h <;> try (cases h; done)
    case i0 =>
      simp [conc] at hb; subst hb
      exact ⟨nil (by simpa [eqV] using h), g1 _ _ _, rfl⟩
    case ifc ty vy =>
      obtain ⟨q, hq, rfl⟩ := conc_ifc hb
      refine ⟨?_, g1 _ _ _, rfl⟩
      unfold Op.equal Op.maxDepth
      suffices hs : ∀ dd, (Op.equalIn (dd + 2) t (.iface tx p) (.iface ty q)).run P w = .ok r w from hs 9998
      intro dd
      cases hbe : Nat.beq tx ty with
      | false =>
        simp only [hbe, cond_false, Option.some.injEq] at h
        subst h
        have hne : tx ≠ ty := by intro e; subst e; simp at hbe
        simp [Op.equalIn, run_under hu, hne]
      | true =>
        have hbe' := Nat.eq_of_beq_eq_true hbe
        subst hbe'
        simp only [hbe, cond_true] at h
        split at h
        · rename_i g hg
          obtain ⟨i, _, hi, hcm, hpl⟩ := tagOf_rows (P := P) P.types.toList 0 tx g hg
          have hi := info_types (P := P) (by simpa using hi)
          have htag : (g = 0 ∧ P.underlying tx = some .bool) ∨ (g = 1 ∧ ∃ k, P.underlying tx = some (.int k)) ∨ (g = 2 ∧ P.underlying tx = some .string) := by
            simp only [plainT] at hpl
            cases hd : P.underlying tx with
            | none => simp [hd] at hpl
            | some dd =>
              simp only [hd] at hpl
              cases dd <;> simp at hpl
              · exact .inl ⟨hpl.symm, rfl⟩
              · exact .inr (.inl ⟨hpl.symm, _, rfl⟩)
              · exact .inr (.inr ⟨hpl.symm, rfl⟩)
              · rename_i fs
                obtain ⟨_, hpl⟩ := hpl
                exfalso
                cases hf : fs.toList with
                | nil => simp [hf, plainF] at hpl
                | cons f fl =>
                  simp only [hf, plainF] at hpl
                  split at hpl
                  · cases hpl
                  · simp [plainT] at hpl
          have hE := eqC_spec (P := P) (dd := dd) h hp hq htag w
          rw [Op.equalIn]
          simp only [run_under hu, Sem.run_bind, Result.andThen_ok, ne_eq, not_true, if_false, typeInfo, run_program, hi, Sem.run_pure, hcm, Bool.not_true, Bool.false_eq_true]
          exact hE
        · cases h

theorem bin_spec [Env] {ng : Nat} {fr : Tr V} {a : Act} {op : BinOp} {t : TypeId} {x y : Operand} {i : PI} {v : V} (hg : Glob ng ρ) (hf : FrRel ρ fr a.tmps)
    (hc : cBin P ng op t x y = some i) (hv : puI fr i = some v) :
    ∃ u, conc ρ v = some u ∧ ∀ w, (do eqGuard op t x y (a.eval x) (a.eval y); binOp op t (a.eval x) (a.eval y) : Sem Value).run P w = .ok u w := by
  simp only [cBin, Option.bind_eq_some_iff] at hc
  obtain ⟨d, hd, x', hx, y', hy, hc⟩ := hc
  have ex := ev_spec hg hf hx
  have ey := ev_spec hg hf hy
  have plain : i = .bin op (eqKind (isC x || isC y) d) x' y' → ∃ u, conc ρ v = some u ∧ ∀ w, (do eqGuard op t x y (a.eval x) (a.eval y); binOp op t (a.eval x) (a.eval y) : Sem Value).run P w = .ok u w := by
    rintro rfl
    simp only [puI] at hv
    obtain ⟨u, hu, hrun⟩ := binV_spec hd hv ex ey
    refine ⟨u, hu, fun w => ?_⟩
    have hq : (eqGuard op t x y (a.eval x) (a.eval y)).run P w = .ok () w := by
      by_cases hint : (∃ j n, ev fr x' = .i j n) ∨ (∃ l, ev fr x' = .s l) ∨ ∃ j c lo hi, ev fr x' = .y j c lo hi
      · have : (∃ k n, a.eval x = .int k n) ∨ ∃ s, a.eval x = .string s := by
          rcases hint with ⟨j, n, h⟩ | ⟨l, h⟩ | ⟨j, c, lo, hi, h⟩
          · rw [h] at ex; simp [conc] at ex; exact .inl ⟨_, _, ex.symm⟩
          · rw [h] at ex; obtain ⟨_, e⟩ := conc_s ex; exact .inr ⟨_, e⟩
          · rw [h] at ex; exact .inl ⟨_, _, (yV_spec ex).1⟩
        unfold eqGuard
        rcases this with ⟨k, n, h⟩ | ⟨s, h⟩ <;> rw [h] <;> cases op <;> simp
      · have hb : binE op (eqKind (isC x || isC y) d) (ev fr x') (ev fr y') = some v := by
          unfold binV at hv
          split at hv
          · rename_i h; exact absurd (.inl ⟨_, _, h⟩) hint
          · rename_i h; exact absurd (.inr (.inr ⟨_, _, _, _, h⟩)) hint
          · rename_i h; exact absurd (.inr (.inl ⟨_, h⟩)) hint
          · exact hv
        unfold binE at hb
        cases op <;> simp only [Option.map_eq_some_iff] at hb <;> try (cases hb; done)
        · obtain ⟨r, hr, _⟩ := hb
          exact eqGuard_ok rfl hr ex ey w
        · obtain ⟨r, hr, _⟩ := hb
          exact eqGuard_ok rfl hr ex ey w
    simp [hq, hrun w]
  cases d
  case struct fs =>
    simp only [Option.bind_eq_some_iff] at hc
    obtain ⟨neg, hneg, hc⟩ := hc
    split at hc
    · cases hc
    · rename_i hguard
      simp only [Option.map_eq_some_iff] at hc
      obtain ⟨ts, hts, rfl⟩ := hc
      simp only [puI] at hv
      cases he : eqS ts (ev fr x') (ev fr y') with
      | none => simp [he] at hv
      | some r =>
        simp only [he, Option.some.injEq] at hv
        subst hv
        unfold eqS at he
        split at he
        · rename_i l hl
          split at he
          · rename_i k hk
            rw [hl] at ex; rw [hk] at ey
            obtain ⟨xs, _, hxs, e1⟩ := conc_a ex
            obtain ⟨ys, _, hys, e2⟩ := conc_a ey
            cases h3 : len3 ts l k with
            | false => simp [h3] at he
            | true =>
              simp only [h3, cond_true] at he
              obtain ⟨l1, l2⟩ := len3_spec h3
              have hag : aggO P t = some true := by rw [aggO_of hd]; rfl
              have hr := fun w => eq_plain (P := P) 20 t ts hts 10000 (by omega) l k xs ys (.agg xs.toArray) (.agg ys.toArray) r l1 l2 hxs hys
                ⟨fun _ => rfl, fun h => by rw [hag] at h; cases h⟩ ⟨fun _ => rfl, fun h => by rw [hag] at h; cases h⟩ he w
              have hg0 : P.eqGuardType P.depth t = false := by simpa using hguard
              rw [e1, e2]
              cases op <;> simp [isEq] at hneg <;> subst hneg
              · refine ⟨_, rfl, fun w => ?_⟩
                simp only [Sem.run_bind, run_eqGuard_agg (P := P) w .eql t x y _ _ hg0, Result.andThen_ok, run_eql_struct, hr w]
                cases r <;> rfl
              · refine ⟨_, rfl, fun w => ?_⟩
                simp only [Sem.run_bind, run_eqGuard_agg (P := P) w .neq t x y _ _ hg0, Result.andThen_ok, run_neq_struct, hr w]
                cases r <;> rfl
          · cases he
        · cases he
  case interface ms =>
    simp only [] at hc
    split at hc
    · rename_i neg hcc hneg
      cases hc
      simp only [puI] at hv
      split at hv
      · rename_i r he
        cases hv
        refine ⟨_, rfl, fun w => ?_⟩
        obtain ⟨e1, e2, e3⟩ := eqF_spec (P := P) (op := op) (x := x) (y := y) hd he ex ey w
        simp only [Sem.run_bind, e2, Result.andThen_ok]
        cases op <;> simp [isEq] at hneg <;> subst hneg
        · rw [binOp_eql_other e3]; simp [e1]
        · rw [binOp_neq_other e3]; simp [e1]
      · cases hv
    · rename_i c _ hcc
      simp only [Option.some.injEq] at hc
      exact plain (by rw [← hc])
  all_goals
    simp only [Option.some.injEq] at hc
    exact plain hc.symm

end
end Go.Eng

