/- The engine, part G: arithmetic, strings, comparisons. -/
import Derived.Test.YtjngjfgbholgpaaEngF
import Derived.Lib.Hide
set_option linter.unusedSimpArgs false
set_option linter.unusedVariables false
namespace Go.Eng
section
variable {P : Program} {ρ : Ren}

theorem binI_spec [Env] {op : BinOp} {k j : IntKind} {x y : Int} {v : V} (t : TypeId) (h : binI op k x y = some v) (hk : j = k ∨ op = .shl ∨ op = .shr) :
    ∃ u, conc ρ v = some u ∧ ∀ w, (binOp op t (.int k x) (.int j y)).run P w = .ok u w := by
  cases op
  case shl =>
    simp only [binI] at h
    cases hl : ltI y 0 <;> simp [hl] at h
    rw [ltI_eq] at hl; simp at hl
    subst h
    exact ⟨_, rfl, fun w => by simp [binOp, Op.shift, show ¬ y < 0 by omega]⟩
  case shr =>
    simp only [binI] at h
    cases hl : ltI y 0 <;> simp [hl] at h
    rw [ltI_eq] at hl; simp at hl
    subst h
    exact ⟨_, rfl, fun w => by simp [binOp, Op.shift, show ¬ y < 0 by omega]⟩
  all_goals
    have hk : j = k := by rcases hk with h | h | h <;> first | exact h | cases h
    subst hk
    simp only [binI] at h
  case quo =>
    cases hl : eqI y 0 <;> simp [hl] at h
    rw [eqI_eq] at hl; simp at hl
    subst h
    exact ⟨_, rfl, fun w => by simp [binOp, Op.intDiv, hl, wrapI_eq]⟩
  case rem =>
    cases hl : eqI y 0 <;> simp [hl] at h
    rw [eqI_eq] at hl; simp at hl
    subst h
    exact ⟨_, rfl, fun w => by simp [binOp, Op.intDiv, hl]⟩
  all_goals
    simp only [Option.some.injEq] at h
    subst h
    refine ⟨_, rfl, fun w => ?_⟩
  case add => simp [binOp, Op.intArith, wrapI_eq]
  case sub => simp [binOp, Op.intArith, wrapI_eq]
  case mul => simp [binOp, Op.intArith, wrapI_eq]
  case and => simp [binOp, Op.intBits]
  case or => simp [binOp, Op.intBits]
  case xor => simp [binOp, Op.intBits]
  case andNot => simp [binOp, Op.intBits]
  case eql => simp [binOp, Op.intCmp, eqI_eq]; rw [Bool.eq_iff_iff]; simp
  case neq => simp [binOp, Op.intCmp, eqI_eq, bne]; rw [Bool.eq_iff_iff]; simp
  case lss => simp [binOp, Op.intCmp, ltI_eq]
  case leq => simp [binOp, Op.intCmp, ltI_eq]; rw [Bool.eq_iff_iff]; simp
  case gtr => simp [binOp, Op.intCmp, ltI_eq]
  case geq => simp [binOp, Op.intCmp, ltI_eq]; rw [Bool.eq_iff_iff]; simp

theorem toList_mk (l : List UInt8) : (ByteArray.mk l.toArray).toList = l := by
  have key : ∀ (n i : Nat) (r : List UInt8), l.length - i = n → ByteArray.toList.loop (ByteArray.mk l.toArray) i r = r.reverse ++ l.drop i := by
    intro n
    induction n with
    | zero =>
      intro i r hn
      rw [ByteArray.toList.loop]
      rw [if_neg (by simp [ByteArray.size]; omega)]
      rw [List.drop_of_length_le (by omega)]; simp
    | succ n ih =>
      intro i r hn
      rw [ByteArray.toList.loop]
      have hi : i < l.length := by omega
      rw [if_pos (by simp [ByteArray.size]; omega), ih (i + 1) _ (by omega)]
      rw [List.drop_eq_getElem_cons hi]
      have : (ByteArray.mk l.toArray).get! i = l[i] := by
        show l.toArray[i]! = _
        simp [hi]
      simp [this]
  have := key _ 0 [] rfl
  simpa [ByteArray.toList] using this

theorem eqL_map {x y : List Nat} (hx : x.all byteOk = true) (hy : y.all byteOk = true) : eqL x y = (x.map UInt8.ofNat == y.map UInt8.ofNat) := by
  induction x generalizing y with
  | nil => cases y <;> rfl
  | cons a x ih =>
    cases y with
    | nil => rfl
    | cons b y =>
      simp only [List.all_cons, Bool.and_eq_true, byteOk, Nat.blt_eq] at hx hy
      have ih' := ih (y := y) hx.2 hy.2
      simp only [eqL, List.map_cons, List.cons_beq_cons]
      have e : Nat.beq a b = (UInt8.ofNat a == UInt8.ofNat b) := by
        rw [Bool.eq_iff_iff]; simp only [Nat.beq_eq, beq_iff_eq]
        constructor
        · rintro rfl; rfl
        · intro h
          have := congrArg UInt8.toNat h
          simp [Nat.mod_eq_of_lt hx.1, Nat.mod_eq_of_lt hy.1] at this
          exact this
      rw [e, ih']
      cases (UInt8.ofNat a == UInt8.ofNat b) <;> rfl

theorem ltL_map {x y : List Nat} (hx : x.all byteOk = true) (hy : y.all byteOk = true) : ltL x y = Op.bytesLess (x.map UInt8.ofNat) (y.map UInt8.ofNat) := by
  induction x generalizing y with
  | nil => cases y <;> rfl
  | cons a x ih =>
    cases y with
    | nil => rfl
    | cons b y =>
      simp only [List.all_cons, Bool.and_eq_true, byteOk, Nat.blt_eq] at hx hy
      have ih' := ih (y := y) hx.2 hy.2
      simp only [ltL, List.map_cons, Op.bytesLess]
      have e : Nat.beq a b = (UInt8.ofNat a == UInt8.ofNat b) := by
        rw [Bool.eq_iff_iff]; simp only [Nat.beq_eq, beq_iff_eq]
        constructor
        · rintro rfl; rfl
        · intro h
          have := congrArg UInt8.toNat h
          simp [Nat.mod_eq_of_lt hx.1, Nat.mod_eq_of_lt hy.1] at this
          exact this
      have e2 : Nat.blt a b = decide (UInt8.ofNat a < UInt8.ofNat b) := by
        rw [Bool.eq_iff_iff]; simp only [Nat.blt_eq, decide_eq_true_eq, UInt8.lt_iff_toNat_lt, UInt8.toNat_ofNat']
        rw [Nat.mod_eq_of_lt hx.1, Nat.mod_eq_of_lt hy.1]
      rw [e, e2, ih']
      cases decide (UInt8.ofNat a < UInt8.ofNat b) <;> cases (UInt8.ofNat a == UInt8.ofNat b) <;> rfl

theorem less_total : ∀ (x y : List UInt8), (Op.bytesLess x y || x == y) = !Op.bytesLess y x
  | [], [] => rfl
  | [], _ :: _ => rfl
  | _ :: _, [] => rfl
  | a :: x, b :: y => by
    have ih := less_total x y
    simp only [Op.bytesLess, List.cons_beq_cons]
    by_cases h1 : a = b
    · subst h1
      have : decide (a < a) = false := by simp
      simp only [this, beq_self_eq_true, Bool.false_or, Bool.true_and]; exact ih
    · have e1 : (a == b) = false := by simpa using h1
      have e2 : (b == a) = false := by simpa using fun e => h1 e.symm
      simp only [e1, e2, Bool.false_and, Bool.or_false]
      have : a.toNat ≠ b.toNat := fun e => h1 (UInt8.toNat_inj.1 e)
      rw [Bool.eq_iff_iff]
      simp [UInt8.lt_iff_toNat_lt]
      omega

theorem conc_s [Env] {l : List Nat} {x : Value} (h : conc ρ (.s l) = some x) : l.all byteOk = true ∧ x = .string ⟨(l.map UInt8.ofNat).toArray⟩ := by
  simp only [conc] at h
  split at h
  · rename_i h1; cases h; exact ⟨h1, rfl⟩
  · cases h

theorem binS_spec [Env] {op : BinOp} {x y : List Nat} {v : V} {a b : Value} (t : TypeId) (h : binS op x y = some v) (ha : conc ρ (.s x) = some a) (hb : conc ρ (.s y) = some b) :
    ∃ u, conc ρ v = some u ∧ ∀ w, (binOp op t a b).run P w = .ok u w := by
  obtain ⟨hx, rfl⟩ := conc_s ha
  obtain ⟨hy, rfl⟩ := conc_s hb
  have t1 := less_total (x.map UInt8.ofNat) (y.map UInt8.ofNat)
  cases op <;> simp only [binS] at h <;> try cases h
  case add =>
    cases hl : Nat.blt (x.length + y.length) 9223372036854775808 <;> simp [hl] at h
    subst h
    rw [Nat.blt_eq] at hl
    refine ⟨.string ⟨((x ++ y).map UInt8.ofNat).toArray⟩, ?_, fun w => ?_⟩
    · simp only [conc]
      rw [if_pos (by rw [List.all_append, hx, hy]; rfl)]
    · have hs : ¬ (((ByteArray.mk (x.map UInt8.ofNat).toArray).size + (ByteArray.mk (y.map UInt8.ofNat).toArray).size : Nat) : Int) > IntKind.i64.max := by
        simp [ByteArray.size, IntKind.max, IntKind.signed, IntKind.bits]; omega
      have e : ByteArray.mk (x.map UInt8.ofNat).toArray ++ ByteArray.mk (y.map UInt8.ofNat).toArray = ByteArray.mk ((x ++ y).map UInt8.ofNat).toArray := by
        apply ByteArray.ext
        simp [ByteArray.data_append]
      simp only [binOp, Op.stringOp]
      rw [if_neg hs, e]; rfl
  all_goals
    refine ⟨_, rfl, fun w => ?_⟩
    simp only [binOp, Op.stringOp, toList_mk, Sem.run_pure, eqL_map hx hy, ltL_map hx hy, ltL_map hy hx]
  case leq => rw [t1]
  case gtr => rw [t1, Bool.not_not]

end
end Go.Eng
