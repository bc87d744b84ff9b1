/- The engine, part H: '==' of structs of plain cells; the compilation of operations that touch no memory. -/
import Derived.Test.YtjngjfgbholgpaaEngG
import Derived.Laws.StructEq
set_option linter.unusedSimpArgs false
set_option linter.unusedVariables false
namespace Go.Eng
section
variable {P : Program} {ρ : Ren}

def plainF (P : Program) (rec : TypeId → Option (List Nat)) : Nat → List Field → Option (List Nat)
  | _, [] => some []
  | off, f :: fs => if (f.name == "_") || (f.offset != off) then none else (rec f.type).bind fun ts =>
      if szO P f.type = some ts.length ∧ ts.length ≠ 0 then (plainF P rec (off + ts.length) fs).map fun us => ts ++ us else none

/-- The tags of a type's cells, if its '==' is that of its cells, one by one. -/
def plainT (P : Program) : Nat → TypeId → Option (List Nat)
  | 0, _ => none
  | d + 1, t => match P.underlying t with
    | some .bool => some [0]
    | some (.int _) => some [1]
    | some .string => some [2]
    | some (.struct fs) => if P.stoodInHeld t then none else plainF P (plainT P d) 0 fs.toList
    | _ => none

theorem eqCs_append : ∀ {ts us : List Nat} {l k : List V} {r : Bool}, eqCs (ts ++ us) l k = some r →
    ∃ r1, eqCs ts (l.take ts.length) (k.take ts.length) = some r1 ∧ (r1 = false → r = false) ∧ (r1 = true → eqCs us (l.drop ts.length) (k.drop ts.length) = some r)
  | [], us, l, k, r, h => ⟨true, by simp [eqCs], by simp, fun _ => by simpa using h⟩
  | t :: ts, us, [], k, r, h => by simp [eqCs] at h
  | t :: ts, us, _ :: _, [], r, h => by simp [eqCs] at h
  | t :: ts, us, a :: l, b :: k, r, h => by
    simp only [List.cons_append, eqCs] at h
    simp only [List.length_cons, List.take_succ_cons, List.drop_succ_cons, eqCs]
    cases hc : eqC t a b with
    | none => simp [hc] at h
    | some q => cases q with
      | true =>
        simp only [hc] at h
        exact eqCs_append h
      | false =>
        simp only [hc, Option.some.injEq] at h
        subst h
        exact ⟨false, rfl, fun _ => rfl, fun h => by cases h⟩

/-- A value as its cells. -/
def AsCells (P : Program) (t : TypeId) (x : Value) (xs : List Value) : Prop :=
  (aggO P t = some true → x = .agg xs.toArray) ∧ (aggO P t = some false → xs = [x])

theorem part_asCells {t : TypeId} {cs : Array Value} {off n : Nat} {b : Bool} (ha : aggO P t = some b) (hs : szO P t = some n) (hn : b = false → n = 1) (hl : off + n ≤ cs.size) (w : World) :
    ∃ x, (part t cs off).run P w = .ok x w ∧ AsCells P t x ((cs.toList.drop off).take n) := by
  cases b with
  | true =>
    refine ⟨.agg (cs.extract off (off + n)), by simp [part, run_aggO ha, run_szO hs], fun _ => ?_, fun h => by rw [ha] at h; cases h⟩
    congr 1
    apply Array.ext'
    simp [Array.toList_extract, List.extract_eq_take_drop]
  | false =>
    have := hn rfl; subst this
    have ho : cs[off]? = some (cs[off]'(by omega)) := Array.getElem?_eq_getElem (by omega)
    refine ⟨cs[off]'(by omega), by simp [part, run_aggO ha, ho], fun h => (by rw [ha] at h; cases h), fun _ => ?_⟩
    rw [List.drop_eq_getElem_cons (by simp; omega)]
    simp

theorem eqC_spec [Env] {u v : V} {x y : Value} {r : Bool} {t : TypeId} {dd tag : Nat} (h : eqC tag u v = some r) (hx : conc ρ u = some x) (hy : conc ρ v = some y)
    (ht : (tag = 0 ∧ P.underlying t = some .bool) ∨ (tag = 1 ∧ ∃ k, P.underlying t = some (.int k)) ∨ (tag = 2 ∧ P.underlying t = some .string)) :
    ∀ w, (Op.equalIn (dd + 1) t x y).run P w = .ok r w := by
  intro w
  rcases ht with ⟨rfl, ht⟩ | ⟨rfl, k', ht⟩ | ⟨rfl, ht⟩ <;> simp only [eqC] at h <;> cases u <;> simp only [] at h <;> (try cases h) <;> cases v <;> simp only [] at h <;> try cases h
  · simp [conc] at hx hy; subst hx; subst hy
    rw [run_equalIn_bool' w dd t _ _ ht]
  · rename_i j a k b
    cases hs : sameK j k with
    | false => simp [hs] at h
    | true =>
      simp only [hs, cond_true, Option.some.injEq] at h
      have := sameK_eq hs
      subst this
      subst h
      simp [conc] at hx hy; subst hx; subst hy
      rw [run_equalIn_int w dd t j k' a b ht, eqI_eq]
      congr 1
  · rename_i a b
    obtain ⟨ha, rfl⟩ := conc_s hx
    obtain ⟨hb, rfl⟩ := conc_s hy
    rw [run_equalIn_string w dd t _ _ ht, toList_mk, toList_mk, eqL_map ha hb]

theorem aggO_of {t : TypeId} {d : TypeDesc} (h : P.underlying t = some d) : aggO P t = some (aggB d) := by simp [aggO, h]

theorem plain_len {d : Nat} {t : TypeId} {ts : List Nat} (h : plainT P d t = some ts) (ha : aggO P t = some false) : ts.length = 1 := by
  cases d with
  | zero => simp [plainT] at h
  | succ d =>
    simp only [plainT] at h
    cases hu : P.underlying t with
    | none => simp [hu] at h
    | some dd =>
      rw [aggO_of hu] at ha
      simp only [hu] at h
      cases dd <;> simp at h <;> first | (subst h; rfl) | (simp [aggB] at ha)

theorem eq_plain [Env] : ∀ (d : Nat) (t : TypeId) (ts : List Nat), plainT P d t = some ts → ∀ (D : Nat), d ≤ D → ∀ (l k : List V) (xs ys : List Value) (x y : Value) (r : Bool), l.length = ts.length → k.length = ts.length →
    concs ρ l = some xs → concs ρ k = some ys → AsCells P t x xs → AsCells P t y ys → eqCs ts l k = some r →
    ∀ w, (Op.equalIn D t x y).run P w = .ok r w := by
  intro d
  induction d with
  | zero => intro t ts h; simp [plainT] at h
  | succ d ih =>
    intro t ts h D hD l k xs ys x y r hll hkl hl hk hx hy he w
    obtain ⟨D, rfl⟩ : ∃ D', D = D' + 1 := ⟨D - 1, by omega⟩
    simp only [plainT] at h
    cases hu : P.underlying t with
    | none => simp [hu] at h
    | some dd =>
      simp only [hu] at h
      have hag := aggO_of hu
      have one : ∀ tag, ts = [tag] → ((tag = 0 ∧ P.underlying t = some .bool) ∨ (tag = 1 ∧ ∃ k, P.underlying t = some (.int k)) ∨ (tag = 2 ∧ P.underlying t = some .string)) → aggB dd = false →
          (Op.equalIn (D + 1) t x y).run P w = .ok r w := by
        intro tag hts htag hb
        subst hts
        have e1 := hx.2 (by rw [hag, hb])
        have e2 := hy.2 (by rw [hag, hb])
        subst e1; subst e2
        cases l with
        | nil => simp [concs] at hl
        | cons u l =>
          cases k with
          | nil => simp [concs] at hk
          | cons v k =>
            simp only [concs, Option.bind_eq_some_iff, Option.map_eq_some_iff] at hl hk
            obtain ⟨x', hx', zs, hz, e3⟩ := hl
            obtain ⟨y', hy', zs', hz', e4⟩ := hk
            simp at e3 e4
            obtain ⟨rfl, rfl⟩ := e3
            obtain ⟨rfl, rfl⟩ := e4
            have el : l = [] := by have := concs_length hz; cases l <;> simp at this ⊢
            have ek : k = [] := by have := concs_length hz'; cases k <;> simp at this ⊢
            subst el; subst ek
            simp only [eqCs] at he
            cases hc : eqC tag u v with
            | none => simp [hc] at he
            | some q =>
              have := eqC_spec (P := P) (dd := D) hc hx' hy' htag w
              cases q <;> simp [hc] at he <;> subst he <;> exact this
      cases dd <;> simp only [] at h <;> try (cases h; done)
      case bool => cases h; exact one 0 rfl (.inl ⟨rfl, hu⟩) rfl
      case int kk => cases h; exact one 1 rfl (.inr (.inl ⟨rfl, kk, hu⟩)) rfl
      case string => cases h; exact one 2 rfl (.inr (.inr ⟨rfl, hu⟩)) rfl
      case struct fs =>
        cases hst : P.stoodInHeld t with
        | true => simp [hst] at h
        | false =>
          simp only [hst, Bool.false_eq_true, if_false] at h
          have e1 := hx.1 (by rw [hag]; rfl)
          have e2 := hy.1 (by rw [hag]; rfl)
          subst e1; subst e2
          have hf : P.fieldsOf t = fs := by simp [Program.fieldsOf, hu]
          rw [run_equalIn_struct (P := P) w D t _ _ (by rw [hf]; exact hu) hst, hf]
          have key : ∀ (fs : List Field) (off : Nat) (us : List Nat), plainF P (plainT P d) off fs = some us → (l.drop off).length = us.length → (k.drop off).length = us.length → eqCs us (l.drop off) (k.drop off) = some r →
              (Op.eqFields D xs.toArray ys.toArray fs).run P w = .ok r w := by
            intro fs
            induction fs with
            | nil =>
              intro off us hus hdl hdk heq
              simp only [plainF, Option.some.injEq] at hus
              subst hus
              have : r = true := by
                simp only [eqCs] at heq
                split at heq
                · cases heq; rfl
                · cases heq
              subst this
              simp [Op.eqFields]
            | cons f fs ihf =>
              intro off us hus hdl hdk heq
              simp only [plainF] at hus
              split at hus
              · cases hus
              · rename_i hcond
                simp only [Bool.or_eq_true, beq_iff_eq, bne_iff_ne, ne_eq, not_or, Decidable.not_not] at hcond
                simp only [Option.bind_eq_some_iff] at hus
                obtain ⟨ts', hts', hus⟩ := hus
                split at hus
                · rename_i hsz
                  obtain ⟨hsz, hnz⟩ := hsz
                  simp only [Option.map_eq_some_iff] at hus
                  obtain ⟨us', hus', rfl⟩ := hus
                  obtain ⟨r1, g1, g2, g3⟩ := eqCs_append heq
                  obtain ⟨hn, ho⟩ := hcond
                  have agf : ∃ b, aggO P f.type = some b := by
                    cases hq : P.underlying f.type with
                    | none => cases d <;> simp [plainT, hq] at hts'
                    | some q => exact ⟨_, aggO_of hq⟩
                  obtain ⟨bf, hbf⟩ := agf
                  have lx := concs_length hl
                  have ly := concs_length hk
                  have hfit : off + ts'.length ≤ xs.length ∧ off + ts'.length ≤ ys.length := by simp at hdl hdk; omega
                  · obtain ⟨xf, p1, p2⟩ := part_asCells (P := P) (cs := xs.toArray) hbf hsz (fun e => plain_len hts' (by rw [hbf, e])) (by simpa using hfit.1) w
                    obtain ⟨yf, q1, q2⟩ := part_asCells (P := P) (cs := ys.toArray) hbf hsz (fun e => plain_len hts' (by rw [hbf, e])) (by simpa using hfit.2) w
                    have hr1 := ih f.type ts' hts' D (by omega) _ _ _ _ xf yf r1 (by simp at hdl ⊢; omega) (by simp at hdk ⊢; omega) (concs_take ts'.length (concs_drop off hl)) (concs_take ts'.length (concs_drop off hk)) (by simpa using p2) (by simpa using q2) g1 w
                    rw [← ho] at p1 q1
                    rw [Op.eqFields, if_pos hn]
                    simp only [Sem.run_bind, p1, q1, hr1, Result.andThen_ok]
                    cases r1 with
                    | false => simp [g2 rfl]
                    | true =>
                      have := ihf (off + ts'.length) us' hus' (by simp at hdl ⊢; omega) (by simp at hdk ⊢; omega) (by have := g3 rfl; rwa [List.drop_drop, List.drop_drop] at this)
                      simpa using this
                · cases hus
          exact key fs.toList 0 ts h (by simpa using hll) (by simpa using hkl) (by simpa using he)

end
end Go.Eng
