/- The engine, part La: keys of maps: their equality, finding them. -/
import Derived.Test.YtjngjfgbholgpaaEngL
import Derived.DeepKeys3
set_option linter.unusedSimpArgs false
set_option linter.unusedVariables false
namespace Go.Eng

/-- Are two keys the same? agg: the key's type is a struct. -/
def eqKey (agg : Bool) (ts : List Nat) (x y : V) : Option Bool :=
  match agg with
  | true => eqS ts x y
  | false => match ts with
    | t :: us => (match us with | [] => eqC t x y | _ => none)
    | [] => none

/-- Where a key stands: its index, the value, the stamp. -/
def findE (agg : Bool) (ts : List Nat) (k : V) : List (V × V × Nat) → Nat → Option (Option (Nat × V × Nat))
  | [], _ => some none
  | (k', v, b) :: l, i => match eqKey agg ts k k' with
    | some true => some (some (i, v, b))
    | some false => findE agg ts k l (i + 1)
    | none => none

/-- The type of keys, compiled. -/
def keyC (P : Program) (t : TypeId) : Option (Bool × List Nat) := (aggO P t).bind fun a => (plainT P 20 t).map fun ts => (a, ts)

section
variable {P : Program} {ρ : Ren}

theorem EntRel.length [Env] : ∀ {l : List (V × V × Nat)} {es : List MapEntry}, EntRel ρ l es → es.length = l.length
  | [], [], _ => rfl
  | [], _ :: _, e => e.elim
  | _ :: _, [], e => e.elim
  | (_, _, _) :: _, _ :: _, ⟨_, _, _, d⟩ => by simp [EntRel.length d]

theorem EntRel.append [Env] : ∀ {l k : List (V × V × Nat)} {es fs : List MapEntry}, EntRel ρ l es → EntRel ρ k fs → EntRel ρ (l ++ k) (es ++ fs)
  | [], _, [], _, _, h => h
  | [], _, _ :: _, _, e, _ => e.elim
  | _ :: _, _, [], _, e, _ => e.elim
  | (_, _, _) :: _, _, _ :: _, _, ⟨a, b, c, d⟩, h => ⟨a, b, c, EntRel.append d h⟩

theorem EntRel.get [Env] : ∀ {l : List (V × V × Nat)} {es : List MapEntry} (i : Nat) (x : V × V × Nat), EntRel ρ l es → l[i]? = some x →
    ∃ e, es[i]? = some e ∧ conc ρ x.1 = some e.key ∧ conc ρ x.2.1 = some e.val ∧ e.born = x.2.2
  | [], [], i, x, _, h => by simp at h
  | [], _ :: _, _, _, e, _ => e.elim
  | _ :: _, [], _, _, e, _ => e.elim
  | (k, v, b) :: l, e :: es, 0, x, ⟨h1, h2, h3, h4⟩, h => by simp at h; subst h; exact ⟨e, rfl, h1, h2, h3⟩
  | (k, v, b) :: l, e :: es, i + 1, x, ⟨h1, h2, h3, h4⟩, h => by
    simp at h
    obtain ⟨e', a, b⟩ := EntRel.get i x h4 h
    exact ⟨e', by simpa using a, b⟩

theorem keyC_spec {t : TypeId} {agg : Bool} {ts : List Nat} (h : keyC P t = some (agg, ts)) : aggO P t = some agg ∧ plainT P 20 t = some ts := by
  simp only [keyC, Option.bind_eq_some_iff, Option.map_eq_some_iff, Prod.mk.injEq] at h
  obtain ⟨a, ha, ts', hts, rfl, rfl⟩ := h
  exact ⟨ha, hts⟩

/-- A plain type that is no struct. -/
theorem plain_one {t : TypeId} {d : Nat} {ts : List Nat} (h : plainT P d t = some ts) (ha : aggO P t = some false) :
    ∃ tag, ts = [tag] ∧ ((tag = 0 ∧ P.underlying t = some .bool) ∨ (tag = 1 ∧ ∃ k, P.underlying t = some (.int k)) ∨ (tag = 2 ∧ P.underlying t = some .string)) := by
  cases d with
  | zero => simp [plainT] at h
  | succ d =>
    simp only [plainT] at h
    cases hu : P.underlying t with
    | none => simp [hu] at h
    | some dd =>
      rw [aggO_of hu] at ha
      simp only [hu] at h
      cases dd <;> simp at h <;> first | (simp [aggB] at ha; done) | skip
      · subst h; exact ⟨0, rfl, .inl ⟨rfl, rfl⟩⟩
      · subst h; exact ⟨1, rfl, .inr (.inl ⟨rfl, _, rfl⟩)⟩
      · subst h; exact ⟨2, rfl, .inr (.inr ⟨rfl, rfl⟩)⟩

theorem eqS_cases {ts : List Nat} {x y : V} {r : Bool} (h : eqS ts x y = some r) : ∃ l k, x = .a l ∧ y = .a k ∧ len3 ts l k = true ∧ eqCs ts l k = some r := by
  cases x <;> simp only [eqS] at h <;> try (cases h; done)
  cases y <;> simp only [] at h <;> try (cases h; done)
  rename_i l k
  cases h3 : len3 ts l k with
  | false => simp [h3] at h
  | true => rw [h3, cond_true] at h; exact ⟨l, k, rfl, rfl, h3, h⟩

theorem eqKey_equal [Env] {t : TypeId} {agg : Bool} {ts : List Nat} {x y : V} {a b : Value} {r : Bool} (hk : keyC P t = some (agg, ts)) (h : eqKey agg ts x y = some r)
    (ha : conc ρ x = some a) (hb : conc ρ y = some b) (w : World) : (Op.equal t a b).run P w = .ok r w := by
  obtain ⟨hag, hpl⟩ := keyC_spec hk
  unfold Op.equal Op.maxDepth
  cases agg with
  | false =>
    obtain ⟨tag, rfl, htag⟩ := plain_one hpl hag
    exact eqC_spec (P := P) (dd := 9999) h ha hb htag w
  | true =>
    obtain ⟨l, k, rfl, rfl, h3, h⟩ := eqS_cases (show eqS ts _ _ = some _ from h)
    obtain ⟨xs, _, hxs, rfl⟩ := conc_a ha
    obtain ⟨ys, _, hys, rfl⟩ := conc_a hb
    obtain ⟨l1, l2⟩ := len3_spec h3
    exact eq_plain (P := P) 20 t ts hpl 10000 (by omega) l k xs ys (.agg xs.toArray) (.agg ys.toArray) r l1 l2 hxs hys
      ⟨fun _ => rfl, fun h => by rw [hag] at h; cases h⟩ ⟨fun _ => rfl, fun h => by rw [hag] at h; cases h⟩ h w

theorem bytes_beq (l k : List UInt8) : (ByteArray.mk l.toArray == ByteArray.mk k.toArray) = (l == k) := by
  show (l.toArray == k.toArray) = (l == k)
  simp

theorem eqKey_now [Env] {t : TypeId} {agg : Bool} {ts : List Nat} {x y : V} {a b : Value} {d : TypeDesc} {r r' : Bool} (hk : keyC P t = some (agg, ts)) (hu : P.underlying t = some d) (h : eqKey agg ts x y = some r)
    (ha : conc ρ x = some a) (hb : conc ρ y = some b) (hs : Instr.sameNow d a b = some r') : r' = r := by
  obtain ⟨hag, hpl⟩ := keyC_spec hk
  cases agg with
  | false =>
    obtain ⟨tag, rfl, htag⟩ := plain_one hpl hag
    simp only [eqKey] at h
    rcases htag with ⟨rfl, ht⟩ | ⟨rfl, k', ht⟩ | ⟨rfl, ht⟩ <;> rw [hu] at ht <;> cases ht <;> simp only [eqC] at h <;> cases x <;> simp only [] at h <;> (try cases h) <;> cases y <;> simp only [] at h <;> try cases h
    · simp [conc] at ha hb; subst ha; subst hb
      simp only [Instr.sameNow, Option.some.injEq] at hs
      exact hs.symm
    · rename_i j m k n
      cases hsk : sameK j k with
      | false => simp [hsk] at h
      | true =>
        simp only [hsk, cond_true, Option.some.injEq] at h
        have := sameK_eq hsk
        subst this
        simp [conc] at ha hb; subst ha; subst hb
        simp only [Instr.sameNow, if_true, Option.some.injEq] at hs
        rw [← hs, ← h, eqI_eq, Bool.eq_iff_iff]; simp
    · obtain ⟨h1, rfl⟩ := conc_s ha
      obtain ⟨h2, rfl⟩ := conc_s hb
      simp only [Instr.sameNow, Option.some.injEq] at hs
      rw [← hs, eqL_map h1 h2]
      exact bytes_beq _ _
  | true =>
    obtain ⟨l, k, rfl, rfl, h3, h⟩ := eqS_cases (show eqS ts _ _ = some _ from h)
    obtain ⟨xs, _, hxs, rfl⟩ := conc_a ha
    cases d <;> simp [Instr.sameNow] at hs

/-- Keys that are the same are the same value. -/
theorem eqC_same {tag : Nat} {x y : V} (h : eqC tag x y = some true) : x = y := by
  match tag, h with
  | 0, h => cases x <;> simp only [eqC] at h <;> (try cases h) <;> cases y <;> simp at h; rw [h]
  | 1, h =>
    obtain ⟨j, m, k, n, rfl, rfl⟩ : ∃ j m k n, x = V.i j m ∧ y = V.i k n := by
      cases x <;> simp [eqC] at h
      cases y <;> simp at h
      exact ⟨_, _, _, _, rfl, rfl⟩
    simp only [eqC] at h
    revert h
    cases hsk : sameK j k with
    | false => intro h; simp at h
    | true =>
      intro h
      simp only [cond_true, Option.some.injEq] at h
      rw [eqI_eq] at h
      rw [sameK_eq hsk, of_decide_eq_true h]
  | 2, h =>
    cases x <;> simp only [eqC] at h <;> (try cases h) <;> cases y <;> simp only [] at h <;> try cases h
    rename_i l k
    simp only [Option.some.injEq] at h
    have key : ∀ {x y : List Nat}, eqL x y = true → x = y := by
      intro x
      induction x with
      | nil => intro y h; cases y with | nil => rfl | cons _ _ => simp [eqL] at h
      | cons a x ih =>
        intro y h
        cases y with
        | nil => simp [eqL] at h
        | cons b y =>
          simp only [eqL] at h
          cases hb : Nat.beq a b <;> rw [hb] at h <;> simp only [cond_true, cond_false] at h
          · cases h
          · rw [Nat.eq_of_beq_eq_true hb, ih h]
    rw [key h]
  | _ + 3, h => simp [eqC] at h

theorem eqCs_same : ∀ {ts : List Nat} {l k : List V}, eqCs ts l k = some true → l = k
  | [], [], [], _ => rfl
  | [], [], _ :: _, h => by simp [eqCs] at h
  | [], _ :: _, _, h => by simp [eqCs] at h
  | _ :: _, [], _, h => by simp [eqCs] at h
  | _ :: _, _ :: _, [], h => by simp [eqCs] at h
  | t :: ts, x :: l, y :: k, h => by
    simp only [eqCs] at h
    cases hc : eqC t x y with
    | none => simp [hc] at h
    | some q => cases q with
      | false => simp [hc] at h
      | true =>
        simp only [hc] at h
        rw [eqC_same hc, eqCs_same h]

theorem eqKey_same {agg : Bool} {ts : List Nat} {x y : V} (h : eqKey agg ts x y = some true) : x = y := by
  cases agg with
  | false =>
    simp only [eqKey] at h
    split at h
    · split at h
      · exact eqC_same h
      · cases h
    · cases h
  | true =>
    obtain ⟨l, k, rfl, rfl, h3, h⟩ := eqS_cases (show eqS ts _ _ = some _ from h)
    rw [eqCs_same h]

/-- What finding a key says. -/
theorem findE_spec [Env] {t : TypeId} {agg : Bool} {ts : List Nat} {k : V} {kv : Value} (hk : keyC P t = some (agg, ts)) (hkv : conc ρ k = some kv) (w : World) :
    ∀ (es : List (V × V × Nat)) (L : List MapEntry) (i : Nat) (r : Option (Nat × V × Nat)), EntRel ρ es L → findE agg ts k es i = some r →
      (∀ d, P.underlying t = some d → ∀ r', Instr.findNow d kv L i = some r' → (r = none → r' = none) ∧ ∀ j v b, r = some (j, v, b) → ∃ x, conc ρ v = some x ∧ r' = some (j, x)) ∧
      ((r = none → (Instr.findAsking t kv L i).run P w = .ok none w) ∧ ∀ j v b, r = some (j, v, b) → ∃ x, conc ρ v = some x ∧ (Instr.findAsking t kv L i).run P w = .ok (some (j, x)) w) ∧
      (∀ j v b, r = some (j, v, b) → i ≤ j ∧ es[j - i]? = some (k, v, b))
  | [], [], i, r, _, h => by
    simp only [findE, Option.some.injEq] at h
    subst h
    refine ⟨fun d _ r' hr' => ?_, ⟨fun _ => rfl, fun _ _ _ h => (by cases h)⟩, fun _ _ _ h => (by cases h)⟩
    simp only [Instr.findNow, Option.some.injEq] at hr'
    subst hr'
    exact ⟨fun _ => rfl, fun _ _ _ h => (by cases h)⟩
  | [], _ :: _, _, _, e, _ => e.elim
  | _ :: _, [], _, _, e, _ => e.elim
  | (k', v, b) :: es, e :: L, i, r, ⟨h1, h2, h3, h4⟩, h => by
    simp only [findE] at h
    cases hq : eqKey agg ts k k' with
    | none => simp [hq] at h
    | some q =>
      have heq := eqKey_equal (P := P) hk hq hkv h1 w
      cases q with
      | true =>
        simp only [hq, Option.some.injEq] at h
        subst h
        refine ⟨fun d hd r' hr' => ?_, ⟨fun h => (by cases h), fun j u c h => ?_⟩, fun j u c h => ?_⟩
        · simp only [Instr.findNow] at hr'
          cases hs : Instr.sameNow d kv e.key with
          | none => simp [hs] at hr'
          | some s =>
            have := eqKey_now hk hd hq hkv h1 hs
            subst this
            simp only [hs, Option.some.injEq] at hr'
            subst hr'
            refine ⟨fun h => (by cases h), fun j u c h => ?_⟩
            simp only [Option.some.injEq, Prod.mk.injEq] at h
            obtain ⟨rfl, rfl, rfl⟩ := h
            exact ⟨e.val, h2, rfl⟩
        · simp only [Option.some.injEq, Prod.mk.injEq] at h
          obtain ⟨rfl, rfl, rfl⟩ := h
          exact ⟨e.val, h2, by simp [Instr.findAsking, heq]⟩
        · simp only [Option.some.injEq, Prod.mk.injEq] at h
          obtain ⟨rfl, rfl, rfl⟩ := h
          refine ⟨Nat.le_refl _, ?_⟩
          rw [Nat.sub_self, eqKey_same hq]; rfl
      | false =>
        simp only [hq] at h
        obtain ⟨g1, g2, g3⟩ := findE_spec hk hkv w es L (i + 1) r h4 h
        refine ⟨fun d hd r' hr' => ?_, ⟨fun hn => ?_, fun j u c hj => ?_⟩, fun j u c hj => ?_⟩
        · simp only [Instr.findNow] at hr'
          cases hs : Instr.sameNow d kv e.key with
          | none => simp [hs] at hr'
          | some s =>
            have := eqKey_now hk hd hq hkv h1 hs
            subst this
            simp only [hs] at hr'
            exact g1 d hd r' hr'
        · simp [Instr.findAsking, heq, g2.1 hn]
        · obtain ⟨x, hx, hrun⟩ := g2.2 j u c hj
          exact ⟨x, hx, by simp [Instr.findAsking, heq, hrun]⟩
        · obtain ⟨a1, a2⟩ := g3 j u c hj
          refine ⟨by omega, ?_⟩
          rw [show j - i = (j - (i + 1)) + 1 by omega]
          simpa using a2

theorem findKey_spec [Env] {t : TypeId} {agg : Bool} {ts : List Nat} {k : V} {kv : Value} {es : List (V × V × Nat)} {L : List MapEntry} {r : Option (Nat × V × Nat)} (hk : keyC P t = some (agg, ts)) (hkv : conc ρ k = some kv)
    (he : EntRel ρ es L) (h : findE agg ts k es 0 = some r) (w : World) :
    (r = none → (Instr.findKey t kv L).run P w = .ok none w) ∧ ∀ j v b, r = some (j, v, b) → es[j]? = some (k, v, b) ∧ ∃ x, conc ρ v = some x ∧ (Instr.findKey t kv L).run P w = .ok (some (j, x)) w := by
  obtain ⟨g1, g2, g3⟩ := findE_spec (P := P) hk hkv w es L 0 r he h
  obtain ⟨hag, _⟩ := keyC_spec hk
  simp only [aggO, Option.map_eq_some_iff] at hag
  obtain ⟨d, hd, _⟩ := hag
  unfold Instr.findKey
  simp only [Sem.run_bind, run_under hd, Result.andThen_ok]
  cases hn : Instr.findNow d kv L 0 with
  | some r' =>
    obtain ⟨a1, a2⟩ := g1 d hd r' hn
    refine ⟨fun hr => by rw [a1 hr]; rfl, fun j v b hr => ⟨by simpa using (g3 j v b hr).2, ?_⟩⟩
    obtain ⟨x, hx, e⟩ := a2 j v b hr
    exact ⟨x, hx, by rw [e]; rfl⟩
  | none =>
    refine ⟨fun hr => g2.1 hr, fun j v b hr => ⟨by simpa using (g3 j v b hr).2, ?_⟩⟩
    exact g2.2 j v b hr

/-- A key of a plain type can be a key. -/
theorem checkKey_plain (em : Bool) (w : World) : ∀ (d : Nat) (t : TypeId) (ts : List Nat), plainT P d t = some ts → ∀ (D : Nat), d ≤ D → ∀ (xs : List Value) (x : Value), xs.length = ts.length → AsCells P t x xs →
    (Instr.checkKey em D t x).run P w = .ok () w := by
  intro d
  induction d with
  | zero => intro t ts h; simp [plainT] at h
  | succ d ih =>
    intro t ts h D hD xs x hl hx
    obtain ⟨D, rfl⟩ : ∃ D', D = D' + 1 := ⟨D - 1, by omega⟩
    simp only [plainT] at h
    cases hu : P.underlying t with
    | none => simp [hu] at h
    | some dd =>
      simp only [hu] at h
      have hag := aggO_of hu
      cases dd <;> simp only [] at h <;> try (cases h; done)
      case bool => unfold Instr.checkKey; simp [run_under hu]
      case int kk => unfold Instr.checkKey; simp [run_under hu]
      case string => unfold Instr.checkKey; simp [run_under hu]
      case struct fs =>
        cases hst : P.stoodInHeld t with
        | true => simp [hst] at h
        | false =>
          simp only [hst, Bool.false_eq_true, if_false] at h
          have e1 := hx.1 (by rw [hag]; rfl)
          subst e1
          unfold Instr.checkKey
          simp only [Sem.run_bind, run_under hu, Result.andThen_ok]
          rw [← Array.forIn_toList]
          have hoff : 0 + ts.length = xs.length := by omega
          generalize fs.toList = L at h
          generalize 0 = off at h hoff
          clear hl
          induction L generalizing off ts with
          | nil => simp
          | cons f L ihf =>
            simp only [plainF] at h
            split at h
            · cases h
            · rename_i hcond
              simp only [Bool.or_eq_true, beq_iff_eq, bne_iff_ne, ne_eq, not_or, Decidable.not_not] at hcond
              simp only [Option.bind_eq_some_iff] at h
              obtain ⟨ts', hts', h⟩ := h
              split at h
              · rename_i hsz
                obtain ⟨hsz, hnz⟩ := hsz
                simp only [Option.map_eq_some_iff] at h
                obtain ⟨us', hus', rfl⟩ := h
                obtain ⟨hn, ho⟩ := hcond
                have agf : ∃ b, aggO P f.type = some b := by
                  cases hq : P.underlying f.type with
                  | none => cases d <;> simp [plainT, hq] at hts'
                  | some q => exact ⟨_, aggO_of hq⟩
                obtain ⟨bf, hbf⟩ := agf
                rw [List.length_append] at hoff
                obtain ⟨xf, p1, p2⟩ := part_asCells (P := P) (cs := xs.toArray) (off := off) hbf hsz (fun e => plain_len hts' (by rw [hbf, e])) (by simp; omega) w
                rw [← ho] at p1
                have hc := ih f.type ts' hts' D (by omega) _ xf (by simp; omega) p2
                simp only [List.forIn_cons, Sem.run_bind, hn, ne_eq, not_false_eq_true, if_true, Result.andThen_ok, p1, hc, Sem.run_pure]
                exact ihf us' (off + ts'.length) hus' (by omega)
              · cases h

/-- The shape of a key. -/
def keyOk (agg : Bool) (ts : List Nat) (x : V) : Bool :=
  match agg with
  | true => (match x with | .a l => len3 ts l l | _ => false)
  | false => match ts with
    | [] => false
    | t :: us => (match us with
      | [] => (match t with
        | 0 => (match x with | .b _ => true | _ => false)
        | 1 => (match x with | .i _ _ => true | _ => false)
        | 2 => (match x with | .s _ => true | _ => false)
        | _ => false)
      | _ => false)

theorem keyOk_check [Env] {t : TypeId} {agg : Bool} {ts : List Nat} {x : V} {a : Value} (hk : keyC P t = some (agg, ts)) (h : keyOk agg ts x = true) (ha : conc ρ x = some a) (em : Bool) (w : World) :
    (Instr.checkKey em 10000 t a).run P w = .ok () w := by
  obtain ⟨hag, hpl⟩ := keyC_spec hk
  cases agg with
  | true =>
    simp only [keyOk] at h
    split at h
    · rename_i l
      obtain ⟨xs, _, hxs, rfl⟩ := conc_a ha
      have := (len3_spec h).1
      refine checkKey_plain em w 20 t ts hpl 10000 (by omega) xs _ (by rw [concs_length hxs, this]) ⟨fun _ => rfl, fun h => by rw [hag] at h; cases h⟩
    · cases h
  | false =>
    obtain ⟨tag, rfl, _⟩ := plain_one hpl hag
    exact checkKey_plain em w 20 t [tag] hpl 10000 (by omega) [a] _ rfl ⟨fun h => (by rw [hag] at h; cases h), fun _ => rfl⟩

/-- A key that was there stays. -/
theorem sameBits_self [Env] : ∀ (n : Nat) (x : V) (a : Value), conc ρ x = some a → (∀ l, x = .a l → ∀ u ∈ l, (∃ b, u = .b b) ∨ (∃ k m, u = .i k m) ∨ ∃ s, u = .s s) → ((∃ b, x = .b b) ∨ (∃ k m, x = .i k m) ∨ (∃ s, x = .s s) ∨ ∃ l, x = .a l) → Instr.sameBits (n + 1) a a = true := by
  intro n x a ha hl hx
  have one : ∀ (m : Nat) (u : V) (b : Value), conc ρ u = some b → ((∃ b, u = .b b) ∨ (∃ k m, u = .i k m) ∨ ∃ s, u = .s s) → Instr.sameBits m b b = true := by
    intro m u b hb hu
    rcases hu with ⟨c, rfl⟩ | ⟨k, c, rfl⟩ | ⟨s, rfl⟩
    · simp [conc] at hb; subst hb; simp [Instr.sameBits]
    · simp [conc] at hb; subst hb; simp [Instr.sameBits]
    · obtain ⟨_, rfl⟩ := conc_s hb; simp only [Instr.sameBits, bytes_beq]; simp
  rcases hx with h | h | h | ⟨l, rfl⟩
  · exact one _ _ _ ha (.inl h)
  · exact one _ _ _ ha (.inr (.inl h))
  · exact one _ _ _ ha (.inr (.inr h))
  · obtain ⟨xs, _, hxs, rfl⟩ := conc_a ha
    simp only [Instr.sameBits, beq_self_eq_true, Bool.true_and]
    rw [List.all_eq_true]
    rintro ⟨p, q⟩ hpq
    obtain ⟨i, hi⟩ := List.getElem?_of_mem hpq
    simp only [List.getElem?_zip_eq_some] at hi
    obtain ⟨h1, h2⟩ := hi
    rw [h1] at h2; cases h2
    simp only
    have hi' : i < l.length := by
      rw [← concs_length hxs]
      exact (List.getElem?_eq_some_iff.1 h1).1
    obtain ⟨y, hy, hy2⟩ := concs_get i _ hxs (List.getElem?_eq_getElem hi')
    rw [show xs[i]? = some p from h1] at hy2; cases hy2
    exact one _ _ _ hy (hl l rfl _ (List.getElem_mem hi'))

/-- Cells of keys. -/
theorem eqCs_cells : ∀ {ts : List Nat} {l k : List V}, eqCs ts l k = some true → ∀ u ∈ l, (∃ b, u = .b b) ∨ (∃ k m, u = .i k m) ∨ ∃ s, u = .s s
  | [], [], _, _ => by simp
  | [], _ :: _, k, h => by cases k <;> simp [eqCs] at h
  | _ :: _, [], _, h => by simp [eqCs] at h
  | _ :: _, _ :: _, [], h => by simp [eqCs] at h
  | t :: ts, x :: l, y :: k, h => by
    simp only [eqCs] at h
    cases hc : eqC t x y with
    | none => simp [hc] at h
    | some q => cases q with
      | false => simp [hc] at h
      | true =>
        simp only [hc] at h
        intro u hu
        rcases List.mem_cons.1 hu with rfl | hu
        · match t, hc with
          | 0, hc => cases u <;> simp [eqC] at hc; exact .inl ⟨_, rfl⟩
          | 1, hc => cases u <;> simp [eqC] at hc; exact .inr (.inl ⟨_, _, rfl⟩)
          | 2, hc => cases u <;> simp [eqC] at hc; exact .inr (.inr ⟨_, rfl⟩)
          | _ + 3, hc => simp [eqC] at hc
        · exact eqCs_cells h u hu

theorem key_stays [Env] {agg : Bool} {ts : List Nat} {x y : V} {a : Value} (h : eqKey agg ts x y = some true) (ha : conc ρ x = some a) (w : World) : (Instr.keyThatStays a a).run P w = .ok a w := by
  have hs : Instr.sameBits 10000 a a = true := by
    refine sameBits_self (ρ := ρ) 9999 x a ha ?_ ?_
    · rintro l rfl
      cases agg with
      | true =>
        obtain ⟨l', k, hl, rfl, h3, h⟩ := eqS_cases (show eqS ts (V.a l) y = some true from h)
        cases hl
        exact eqCs_cells h
      | false =>
        simp only [eqKey] at h
        split at h
        · split at h
          · rename_i t _
            match t, h with
            | 0, h => simp [eqC] at h
            | 1, h => simp [eqC] at h
            | 2, h => simp [eqC] at h
            | _ + 3, h => simp [eqC] at h
          · cases h
        · cases h
    · cases agg with
      | true =>
        obtain ⟨l', k, rfl, rfl, h3, h⟩ := eqS_cases (show eqS ts _ _ = some _ from h)
        exact .inr (.inr (.inr ⟨_, rfl⟩))
      | false =>
        simp only [eqKey] at h
        split at h
        · split at h
          · rename_i t _
            match t, h with
            | 0, h => cases x <;> simp [eqC] at h; exact .inl ⟨_, rfl⟩
            | 1, h => cases x <;> simp [eqC] at h; exact .inr (.inl ⟨_, _, rfl⟩)
            | 2, h => cases x <;> simp [eqC] at h; exact .inr (.inr (.inl ⟨_, rfl⟩))
            | _ + 3, h => simp [eqC] at h
          · cases h
        · cases h
  unfold Instr.keyThatStays
  rw [if_pos hs]
  rfl

end
end Go.Eng
