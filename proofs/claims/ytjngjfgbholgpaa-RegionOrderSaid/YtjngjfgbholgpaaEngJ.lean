/- The engine, part J: slices, and the rest of the operations that touch no memory. -/
import Derived.Test.YtjngjfgbholgpaaEngI
set_option linter.unusedSimpArgs false
set_option linter.unusedVariables false
namespace Go.Eng
section
variable {P : Program} {ρ : Ren}

def plainVal : Value → Bool
  | .int _ _ | .float _ _ | .complex _ _ _ | .string _ => false
  | _ => true

theorem binOp_eql_other {t : TypeId} {a b : Value} (h : plainVal a = true) : binOp .eql t a b = (do pure (.bool (← Op.equal t a b))) := by
  cases a <;> first | (simp [plainVal] at h; done) | (cases b <;> rfl)
theorem binOp_neq_other {t : TypeId} {a b : Value} (h : plainVal a = true) : binOp .neq t a b = (do pure (.bool (!(← Op.equal t a b)))) := by
  cases a <;> first | (simp [plainVal] at h; done) | (cases b <;> rfl)

theorem plainVal_of [Env] {x : V} {a : Value} (ha : conc ρ x = some a) (h1 : ∀ j n, x ≠ .i j n) (h2 : ∀ l, x ≠ .s l) (h3 : ∀ g, x ≠ .o g) (h4 : ∀ g c, x ≠ .oi g c) (h5 : ∀ j c lo hi, x ≠ .y j c lo hi) : plainVal a = true := by
  cases x <;> simp only [conc, Option.map_eq_some_iff, Option.bind_eq_some_iff] at ha <;> first
    | exact absurd rfl (h1 _ _)
    | exact absurd rfl (h2 _)
    | exact absurd rfl (h3 _)
    | exact absurd rfl (h4 _ _)
    | exact absurd rfl (h5 _ _ _ _)
    | (cases ha; rfl)
    | (obtain ⟨_, _, rfl⟩ := ha; rfl)
    | (split at ha <;> first | (cases ha; done) | (obtain ⟨_, _, rfl⟩ := Option.map_eq_some_iff.1 ha; rfl))
    | (obtain ⟨_, _, h⟩ := ha; split at h <;> first | (cases h; rfl) | cases h)

/-- A comparison of numbers of which bounds are known. -/
theorem cmpB_spec {op : BinOp} (t : TypeId) {a b c d x y : Int} {r : Bool} (h : cmpB op a b c d = some r) (h1 : a ≤ x) (h2 : x ≤ b) (h3 : c ≤ y) (h4 : y ≤ d) (w : World) :
    (binOp op t (.int .i64 x) (.int .i64 y)).run P w = .ok (.bool r) w := by
  have e : ∀ {q : Bool} {m n : Int}, ltI m n = q → q = decide (m < n) := fun h => by rw [← h, ltI_eq]
  cases op <;> simp only [cmpB] at h <;> try (cases h; done)
  all_goals
    simp only [ltI_eq, eqI_eq] at h
    have key : ∀ (p : Prop) [Decidable p] (u v : Option Bool), cond (decide p) u v = some r → (p ∧ u = some r) ∨ (¬ p ∧ v = some r) := fun p _ u v hh => by
      by_cases hp : p
      · simp only [decide_eq_true hp, cond_true] at hh; exact .inl ⟨hp, hh⟩
      · simp only [decide_eq_false hp, cond_false] at hh; exact .inr ⟨hp, hh⟩
  · rcases key _ _ _ h with ⟨p1, h⟩ | ⟨p1, h⟩
    · cases h; simp [binOp, Op.intCmp]; omega
    · rcases key _ _ _ h with ⟨p2, h⟩ | ⟨p2, h⟩
      · cases h; simp [binOp, Op.intCmp]; omega
      · rcases key _ _ _ h with ⟨p3, h⟩ | ⟨p3, h⟩
        · rcases key _ _ _ h with ⟨p4, h⟩ | ⟨p4, h⟩
          · rcases key _ _ _ h with ⟨p5, h⟩ | ⟨p5, h⟩
            · cases h; simp [binOp, Op.intCmp]; omega
            · cases h
          · cases h
        · cases h
  · rcases key _ _ _ h with ⟨p1, h⟩ | ⟨p1, h⟩
    · cases h; simp [binOp, Op.intCmp]; omega
    · rcases key _ _ _ h with ⟨p2, h⟩ | ⟨p2, h⟩
      · cases h; simp [binOp, Op.intCmp]; omega
      · rcases key _ _ _ h with ⟨p3, h⟩ | ⟨p3, h⟩
        · rcases key _ _ _ h with ⟨p4, h⟩ | ⟨p4, h⟩
          · rcases key _ _ _ h with ⟨p5, h⟩ | ⟨p5, h⟩
            · cases h; simp [binOp, Op.intCmp]; omega
            · cases h
          · cases h
        · cases h
  all_goals
    rcases key _ _ _ h with ⟨p1, h⟩ | ⟨p1, h⟩
    · cases h; simp [binOp, Op.intCmp]; omega
    · rcases key _ _ _ h with ⟨p2, h⟩ | ⟨p2, h⟩
      · cases h
      · cases h; simp [binOp, Op.intCmp]; omega

theorem addY_spec [Env] {op : BinOp} (t : TypeId) {j : Nat} {c lo hi b : Int} {v : V} {y z : Value} (h : addY j c lo hi b = some v) (h1 : lo ≤ Env.par j + c) (h2 : Env.par j + c ≤ hi)
    (hrun : ∀ w, (binOp op t y z).run P w = .ok (.int .i64 (IntKind.i64.wrap (Env.par j + c + b))) w) : ∃ u, conc ρ v = some u ∧ ∀ w, (binOp op t y z).run P w = .ok u w := by
  unfold addY at h
  rw [ltI_eq, ltI_eq] at h
  by_cases p1 : lo + b < -9223372036854775808
  · simp [p1] at h
  · by_cases p2 : 9223372036854775807 < hi + b
    · simp [p1, p2] at h
    · simp only [decide_eq_false p1, decide_eq_false p2, cond_false, Option.some.injEq] at h
      subst h
      refine ⟨.int .i64 (Env.par j + (c + b)), ?_, fun w => ?_⟩
      · simp only [conc, yV]
        rw [if_pos (by omega)]
      · rw [hrun w]
        have : IntKind.i64.wrap (Env.par j + c + b) = Env.par j + (c + b) := by
          simp [IntKind.wrap, IntKind.bits, IntKind.signed]; omega
        rw [this]

theorem yI_spec [Env] {op : BinOp} (t : TypeId) {j : Nat} {c lo hi b : Int} {v : V} (h : yI op j c lo hi b = some v) (h1 : lo ≤ Env.par j + c) (h2 : Env.par j + c ≤ hi) :
    ∃ u, conc ρ v = some u ∧ ∀ w, (binOp op t (.int .i64 (Env.par j + c)) (.int .i64 b)).run P w = .ok u w := by
  have cmp : ∀ {r : Bool}, cmpB op lo hi b b = some r → v = .b r → ∃ u, conc ρ v = some u ∧ ∀ w, (binOp op t (.int .i64 (Env.par j + c)) (.int .i64 b)).run P w = .ok u w := by
    rintro r hr rfl
    exact ⟨_, rfl, fun w => cmpB_spec t hr h1 h2 (Int.le_refl _) (Int.le_refl _) w⟩
  unfold yI at h
  split at h
  · exact addY_spec t h h1 h2 fun w => by simp [binOp, Op.intArith]
  · exact addY_spec t h h1 h2 fun w => by simp [binOp, Op.intArith, Int.sub_eq_add_neg]
  · obtain ⟨r, hr, rfl⟩ := Option.map_eq_some_iff.1 h
    exact cmp hr rfl

theorem iY_spec [Env] {op : BinOp} (t : TypeId) {j : Nat} {c lo hi b : Int} {v : V} (h : iY op b j c lo hi = some v) (h1 : lo ≤ Env.par j + c) (h2 : Env.par j + c ≤ hi) :
    ∃ u, conc ρ v = some u ∧ ∀ w, (binOp op t (.int .i64 b) (.int .i64 (Env.par j + c))).run P w = .ok u w := by
  unfold iY at h
  split at h
  · exact addY_spec t h h1 h2 fun w => by simp [binOp, Op.intArith, Int.add_comm]
  · obtain ⟨r, hr, rfl⟩ := Option.map_eq_some_iff.1 h
    exact ⟨_, rfl, fun w => cmpB_spec t hr (Int.le_refl _) (Int.le_refl _) h1 h2 w⟩

theorem yY_spec [Env] {op : BinOp} (t : TypeId) {j j' : Nat} {c lo hi c' lo' hi' : Int} {v : V} (h : yY op j c lo hi j' c' lo' hi' = some v) (h1 : lo ≤ Env.par j + c) (h2 : Env.par j + c ≤ hi)
    (h3 : lo' ≤ Env.par j' + c') (h4 : Env.par j' + c' ≤ hi') : ∃ u, conc ρ v = some u ∧ ∀ w, (binOp op t (.int .i64 (Env.par j + c)) (.int .i64 (Env.par j' + c'))).run P w = .ok u w := by
  unfold yY at h
  cases hb : Nat.beq j j' with
  | true =>
    rw [hb] at h
    simp only [cond_true] at h
    have := Nat.eq_of_beq_eq_true hb
    subst this
    obtain ⟨r, hr, rfl⟩ := Option.map_eq_some_iff.1 h
    refine ⟨_, rfl, fun w => ?_⟩
    have h0 := cmpB_spec (P := P) t hr (x := c) (y := c') (Int.le_refl _) (Int.le_refl _) (Int.le_refl _) (Int.le_refl _) w
    have e : (binOp op t (.int .i64 (Env.par j + c)) (.int .i64 (Env.par j + c'))).run P w = (binOp op t (.int .i64 c) (.int .i64 c')).run P w := by
      have e1 : (Env.par j + c == Env.par j + c') = (c == c') := by
        rw [Bool.eq_iff_iff, beq_iff_eq, beq_iff_eq]; omega
      cases op <;> simp only [cmpB] at hr <;> try (cases hr; done)
      all_goals simp [binOp, Op.intCmp, e1, bne]
    rw [e]; exact h0
  | false =>
    rw [hb] at h
    simp only [cond_false] at h
    obtain ⟨r, hr, rfl⟩ := Option.map_eq_some_iff.1 h
    exact ⟨_, rfl, fun w => cmpB_spec t hr h1 h2 h3 h4 w⟩

theorem binV_spec [Env] {c : Bool} {op : BinOp} {t : TypeId} {d : TypeDesc} {x y : V} {a b : Value} {v : V} (hu : P.underlying t = some d)
    (h : binV op (eqKind c d) x y = some v) (ha : conc ρ x = some a) (hb : conc ρ y = some b) :
    ∃ u, conc ρ v = some u ∧ ∀ w, (binOp op t a b).run P w = .ok u w := by
  have other : (∀ j n, x ≠ .i j n) → (∀ l, x ≠ .s l) → (∀ g, x ≠ .o g) → (∀ g c, x ≠ .oi g c) → (∀ j c lo hi, x ≠ .y j c lo hi) → binE op (eqKind c d) x y = some v → ∃ u, conc ρ v = some u ∧ ∀ w, (binOp op t a b).run P w = .ok u w := by
    intro h1 h2 h3 h4 h5 h
    unfold binE at h
    have hp := plainVal_of ha h1 h2 h3 h4 h5
    have hE : ∀ r, eqV (eqKind c d) x y = some r → ∀ w, (Op.equal t a b).run P w = .ok r w := by
      intro r hr w
      have he := eqV_spec (P := P) (dd := 9999) hu hr ha hb w
      unfold Op.equal Op.maxDepth; exact he
    cases op <;> simp only [Option.map_eq_some_iff] at h <;> try cases h
    · rename_i r hr
      obtain ⟨hr, rfl⟩ := hr
      exact ⟨_, rfl, fun w => by rw [binOp_eql_other hp]; simp [hE r hr w]⟩
    · rename_i r hr
      obtain ⟨hr, rfl⟩ := hr
      exact ⟨_, rfl, fun w => by rw [binOp_neq_other hp]; simp [hE r hr w]⟩
  cases x
  case i j n =>
    simp only [binV] at h
    cases y <;> simp only [] at h <;> try (cases h; done)
    case oi g c =>
      simp [conc] at ha; subst ha
      simp only [conc, Option.bind_eq_some_iff] at hb
      obtain ⟨q, _, hb⟩ := hb
      obtain ⟨z, _, rfl, hz⟩ := oiV_spec hb
      cases hs : sameK j .i64 with
      | false => rw [hs] at h; simp at h
      | true =>
        have := sameK_eq hs
        subst this
        rw [hs] at h
        simp only [cond_true] at h
        have key : ∀ (b1 b2 : Bool), (cond (Nat.beq c 1) (cond (ltI 2 n) (some (V.b b1)) none) (cond (ltI 4 n) none (some (V.b b2)))) = some v → (n ≤ z ∧ v = .b b2) ∨ (z < n ∧ v = .b b1) := by
          intro b1 b2 h
          cases hc : Nat.beq c 1 with
          | true =>
            have hc := Nat.eq_of_beq_eq_true hc
            simp only [inC, hc, if_true] at hz
            cases hl : ltI 2 n with
            | false => simp [hl, hc] at h
            | true =>
              rw [ltI_eq] at hl
              have hl := of_decide_eq_true hl
              right
              refine ⟨by omega, ?_⟩
              simp [show Nat.beq c 1 = true by rw [hc]; rfl, show ltI 2 n = true by rw [ltI_eq]; exact decide_eq_true hl] at h
              exact h.symm
          | false =>
            have hc' : c ≠ 1 := by intro e; subst e; simp at hc
            simp only [inC, hc', if_false] at hz
            cases hl : ltI 4 n with
            | true => simp [hc, hl] at h
            | false =>
              simp only [hc, hl, cond_false, Option.some.injEq] at h
              rw [ltI_eq] at hl
              have hl := of_decide_eq_false hl
              left
              exact ⟨by omega, h.symm⟩
        cases op <;> simp only [] at h <;> try (cases h; done)
        · rcases key false true h with ⟨h1, rfl⟩ | ⟨h1, rfl⟩
          · exact ⟨_, rfl, fun w => by simp [binOp, Op.intCmp, h1]⟩
          · exact ⟨_, rfl, fun w => by simp [binOp, Op.intCmp, show ¬ n ≤ z by omega]⟩
        · rcases key true false h with ⟨h1, rfl⟩ | ⟨h1, rfl⟩
          · exact ⟨_, rfl, fun w => by simp [binOp, Op.intCmp, show ¬ z < n by omega]⟩
          · exact ⟨_, rfl, fun w => by simp [binOp, Op.intCmp, h1]⟩
    case y j' c lo hi =>
      simp [conc] at ha; subst ha
      obtain ⟨rfl, hb1, hb2⟩ := yV_spec hb
      cases hs : sameK j .i64 with
      | false => rw [hs] at h; simp at h
      | true =>
        have := sameK_eq hs
        subst this
        rw [hs] at h
        simp only [cond_true] at h
        exact iY_spec t h hb1 hb2
    rename_i j' m
    simp [conc] at ha hb; subst ha; subst hb
    cases hs : sameK j j' with
    | true =>
      simp only [hs, cond_true] at h
      exact binI_spec t h (.inl (sameK_eq hs).symm)
    | false =>
      simp only [hs, cond_false] at h
      cases op <;> simp only [] at h <;> first
        | (cases h; done)
        | exact binI_spec t h (.inr (.inl rfl))
        | exact binI_spec t h (.inr (.inr rfl))
  case s l =>
    simp only [binV] at h
    cases y <;> simp only [] at h <;> try cases h
    exact binS_spec t h ha hb
  case o g =>
    have no : ∀ k, eqV k (.o g) y = none := by
      intro k
      unfold eqV
      split <;> rfl
    simp only [binV, binE] at h
    cases op <;> simp [no] at h
  case oi g c =>
    have no : ∀ k, eqV k (.oi g c) y = none := by
      intro k
      unfold eqV
      split <;> rfl
    simp only [binV, binE] at h
    cases op <;> simp [no] at h
  case y j c lo hi =>
    obtain ⟨rfl, ha1, ha2⟩ := yV_spec ha
    simp only [binV] at h
    cases y <;> simp only [] at h <;> try (cases h; done)
    case i j' m =>
      simp [conc] at hb; subst hb
      cases hs : sameK j' .i64 with
      | false => rw [hs] at h; simp at h
      | true =>
        have := sameK_eq hs
        subst this
        rw [hs] at h
        simp only [cond_true] at h
        exact yI_spec t h ha1 ha2
    case y j' c' lo' hi' =>
      obtain ⟨rfl, hb1, hb2⟩ := yV_spec hb
      exact yY_spec t h ha1 ha2 hb1 hb2
  all_goals exact other (by intros; simp) (by intros; simp) (by intros; simp) (by intros; simp) (by intros; simp) (by simpa [binV] using h)

theorem unV_spec [Env] {op : UnOp} {x v : V} {a : Value} (h : unV op x = some v) (ha : conc ρ x = some a) : ∃ u, conc ρ v = some u ∧ ∀ w, (Op.unary op a).run P w = .ok u w := by
  cases x <;> simp only [unV] at h <;> try cases h
  · cases op <;> simp only [] at h <;> try cases h
    simp [conc] at ha; subst ha
    exact ⟨_, rfl, fun w => by simp [Op.unary]⟩
  · rename_i k n
    simp [conc] at ha; subst ha
    cases op <;> simp only [] at h <;> try cases h
    · exact ⟨_, rfl, fun w => by simp [Op.unary, Op.intArith, wrapI_eq]⟩
    · exact ⟨_, rfl, fun w => by simp [Op.unary, Op.intBits]⟩

theorem bound_spec {x : Value} {n y : Nat} {code : BoundsCode} {k : IntKind} (hx : x = .int k n) (hn : n ≤ y) (w : World) : (Instr.sliceBound x y code).run P w = .ok n w := by
  subst hx
  rw [run_sliceBound w k n y code (by omega) (by omega)]
  simp

/-! ### Slices -/

/-- The bounds of a slice expression, as the model finds them. -/
theorem sliceBounds_spec {isSl : Bool} {len cap : Nat} {lo hi mx : Option Value} {a e m : Nat}
    (hl : (lo = none ∧ a = 0) ∨ ∃ k, lo = some (.int k a)) (hh : (hi = none ∧ mx = none ∧ e = len) ∨ ∃ k, hi = some (.int k e))
    (hm : (mx = none ∧ m = cap) ∨ ∃ k, mx = some (.int k m)) (h1 : a ≤ e) (h2 : e ≤ m) (h3 : m ≤ cap) (w : World) :
    (Instr.sliceBounds isSl len cap lo hi mx).run P w = .ok (a, e, m) w := by
  have i1 : (a : Int) ≤ e := by omega
  have i2 : (e : Int) ≤ m := by omega
  have i3 : (m : Int) ≤ cap := by omega
  have z1 : (0 : Int) ≤ a := by omega
  have z2 : (0 : Int) ≤ e := by omega
  have z3 : (0 : Int) ≤ m := by omega
  rcases hl with ⟨rfl, rfl⟩ | ⟨k, rfl⟩ <;> rcases hm with ⟨rfl, rfl⟩ | ⟨km, rfl⟩ <;> rcases hh with ⟨rfl, h, rfl⟩ | ⟨kh, rfl⟩ <;>
    first
      | (cases h; done)
      | simp [Instr.sliceBounds, run_sliceBound, i1, i2, i3, z1, z2, z3]

theorem slSl2_spec [Env] {es : Nat} {b : Path} {off a e c cap : Nat} {ex : Bool} {v : V} {y : Nat × Nat} (h : slSl2 es b off a e c ex = some v) (hy : ρ b = some y) (_ : es ≠ 0)
    (hc : c ≤ cap) (hfit : off + cap * es ≤ y.2) (hex : ex = false → cap = (y.2 - off) / es) :
    a ≤ e ∧ e ≤ c ∧ ∀ m, (ex = true → m = c) → (ex = false → m = cap) → conc ρ v = some (.slice (if m = a then some ⟨y.1, off, none⟩ else some ((Addr.mk y.1 off none).add (a * es))) (e - a) (m - a)) := by
  unfold slSl2 at h
  cases h1 : Nat.ble a e <;> simp [h1] at h
  cases h2 : Nat.ble e c <;> simp [h2] at h
  have h1 := Nat.le_of_ble_eq_true h1
  have h2 := Nat.le_of_ble_eq_true h2
  refine ⟨h1, h2, fun m hm1 hm2 => ?_⟩
  have hmul : ∀ p q : Nat, p ≤ q → p * es ≤ q * es := fun p q h => Nat.mul_le_mul_right es h
  cases h3 : Nat.beq a c with
  | true =>
    rw [h3, cond_true] at h
    have h3 := Nat.eq_of_beq_eq_true h3
    cases ex with
    | false => cases h
    | true =>
      simp at h
      have := hm1 rfl
      subst this; subst h3
      subst h
      have := hmul a cap (by omega)
      simp only [conc, hy, Option.bind_some, capOf, if_true]
      rw [if_pos (by simp; omega)]
  | false =>
    simp only [h3, cond_false, Option.some.injEq] at h
    subst h
    have h3 : a ≠ c := by intro e; subst e; simp at h3
    cases ex with
    | true =>
      have := hm1 rfl
      subst this
      have q1 := hmul a m (by omega)
      have q2 := hmul m cap hc
      have q3 : (m - a) * es = m * es - a * es := Nat.sub_mul m a es
      simp only [conc, hy, Option.bind_some, capOf, if_true]
      rw [if_pos ⟨by omega, by omega, by omega⟩, if_neg (fun e => h3 e.symm), add_none]
    | false =>
      have := hm2 rfl
      subst this
      have hcap := hex rfl
      have q0 : m * es ≤ y.2 - off := by rw [hcap]; exact Nat.div_mul_le_self _ _
      have q1 := hmul a m (by omega)
      have q3 : (m - a) * es = m * es - a * es := Nat.sub_mul m a es
      have q4 : (y.2 - (off + a * es)) / es = m - a := by
        rw [hcap, ← Nat.sub_sub, Nat.mul_comm a es, Nat.sub_mul_div]
      simp only [conc, hy, Option.bind_some, capOf, Bool.false_eq_true, if_false, q4]
      rw [if_pos ⟨by omega, by omega, by omega⟩, if_neg (by omega), add_none]

end
end Go.Eng
