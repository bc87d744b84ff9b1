/- The evaluator: a machine for the model's code that the kernel can run, proved sound. -/
import Derived.Test.YtglgibmjcgfecaaGreatDoorEngG
import Derived.Laws.Externs
import Derived.DeepKeys3
set_option linter.unusedSimpArgs false
set_option linter.unusedVariables false
namespace Go.Eng
section
variable {P : Program} {ρ : Ren} {ng : Nat} {fr : Tr V} {a : Act}

theorem conv_spec [Env] {s d : TypeId} {x : Operand} {i : PI} {v : V} (hg : Glob ng ρ) (hf : FrRel ρ fr a.tmps) (hc : cConv P ng s d x = some i) (hv : puI fr i = some v) :
    ∃ u, conc ρ v = some u ∧ ∀ w, (convert s d (a.eval x)).run P w = .ok u w := by
  simp only [cConv, Option.bind_eq_some_iff] at hc
  obtain ⟨us, hus, ud, hud, x', hx, hc⟩ := hc
  have ex := ev_spec hg hf hx
  split at hc
  · rename_i k
    cases hc
    simp only [puI] at hv
    split at hv
    · rename_i j n hj
      cases hv
      rw [hj] at ex; simp [conc] at ex
      refine ⟨_, rfl, fun w => ?_⟩
      rw [← ex]
      simp [convert, run_under hus, run_under hud, Conv.intToInt, wrapI_eq]
    · cases hv
  · split at hc
    · cases hc
      simp only [puI] at hv
      split at hv
      · rename_i l hl
        cases hv
        rw [hl] at ex
        obtain ⟨h1, e⟩ := conc_s ex
        refine ⟨_, by rw [← hl]; rw [hl]; exact ex, fun w => ?_⟩
        rw [e]
        simp [convert, run_under hus, run_under hud]
      · cases hv
    · cases hc
  · cases hc

theorem bnd_spec [Env] {d : Nat} {x : Option Operand} {x' : Option Opd} {n : Nat} (hg : Glob ng ρ) (hf : FrRel ρ fr a.tmps) (hc : cOo ng x = some x') (h : bnd fr d x' = some n) :
    (x.map a.eval = none ∧ x = none ∧ n = d) ∨ ∃ k, x.map a.eval = some (.int k n) := by
  cases x with
  | none => simp [cOo] at hc; subst hc; simp [bnd] at h; exact .inl ⟨rfl, rfl, h.symm⟩
  | some o =>
    simp only [cOo, Option.map_eq_some_iff] at hc
    obtain ⟨o', ho, rfl⟩ := hc
    simp only [bnd] at h
    obtain ⟨k, hk⟩ := asN_spec h (ev_spec hg hf ho)
    exact .inr ⟨k, by simp [hk]⟩

theorem slice_spec [Env] {t : TypeId} {x : Operand} {lo hi mx : Option Operand} {i : PI} {v : V} (hg : Glob ng ρ) (hf : FrRel ρ fr a.tmps) (hc : cSlice P ng t x lo hi mx = some i) (hv : puI fr i = some v) :
    ∃ u, conc ρ v = some u ∧ ∀ w, (Instr.sliceAt t (a.eval x) (lo.map a.eval) (hi.map a.eval) (mx.map a.eval)).run P w = .ok u w := by
  simp only [cSlice, Option.bind_eq_some_iff] at hc
  obtain ⟨x', hx, lo', hlo, hi', hhi, mx', hmx, hc⟩ := hc
  have ex := ev_spec hg hf hx
  split at hc
  · rename_i hu
    cases mx with
    | some _ => simp at hc
    | none =>
      simp only [Option.some.injEq] at hc
      subst hc
      simp only [puI, slStrV] at hv
      split at hv
      · rename_i l hl
        split at hv
        · rename_i p q hp hq
          cases hle : Nat.ble p q with
          | false => simp [hle] at hv
          | true =>
            simp only [hle, cond_true, takeE_eq] at hv
            by_cases hql : q ≤ l.length
            · rw [if_pos hql] at hv
              simp only [ldrop_eq, Option.some.injEq] at hv
              subst hv
              rw [hl] at ex
              obtain ⟨h1, e⟩ := conc_s ex
              have hpq := Nat.le_of_ble_eq_true hle
              refine ⟨.string ⟨(((l.take q).drop p).map UInt8.ofNat).toArray⟩, ?_, fun w => ?_⟩
              · simp only [conc]
                rw [if_pos]
                rw [List.all_eq_true] at h1 ⊢
                exact fun n hn => h1 n (List.mem_of_mem_take (List.mem_of_mem_drop hn))
              · rw [e]
                have hb := bnd_spec hg hf hlo hp
                have hh := bnd_spec hg hf hhi hq
                have := sliceBounds_spec (P := P) (isSl := false) (len := (ByteArray.mk (l.map UInt8.ofNat).toArray).size) (cap := (ByteArray.mk (l.map UInt8.ofNat).toArray).size)
                  (lo := lo.map a.eval) (hi := hi.map a.eval) (mx := none) (a := p) (e := q) (m := l.length)
                  (hb.imp (fun h => ⟨h.1, h.2.2⟩) id) (hh.imp (fun h => ⟨h.1, rfl, by simp [ByteArray.size]; exact h.2.2⟩) id) (.inl ⟨rfl, by simp [ByteArray.size]⟩) hpq hql (by simp [ByteArray.size]) w
                simp only [Instr.sliceAt, Instr.slice, Sem.run_bind, run_under hu, Result.andThen_ok, Option.map_none, Option.isSome_none, Bool.false_eq_true, if_false, this, Sem.run_pure]
                congr 2
                apply ByteArray.ext
                simp only [ByteArray.data_extract]
                apply Array.ext'
                simp [List.map_drop, List.map_take, List.take_drop, show p + (q - p) = q by omega]
            · rw [if_neg hql] at hv; cases hv
        · cases hv
      · cases hv
  · rename_i e hu
    simp only [Option.bind_eq_some_iff] at hc
    obtain ⟨s, hs, hc⟩ := hc
    split at hc
    · cases hc
    rename_i hs0
    cases hc
    obtain ⟨hs0, hmh⟩ : s ≠ 0 ∧ ¬ (mx.isSome = true ∧ hi.isNone = true) := ⟨fun h => hs0 (.inl h), fun h => hs0 (.inr h)⟩
    simp only [puI, slSlV] at hv
    have mxs : ∀ {cap : Option Nat} {r : Option Nat}, mxO fr mx' cap = some r → (r = none ∧ mx.map a.eval = none) ∨ ∃ m k, r = some m ∧ mx.map a.eval = some (.int k m) := by
      intro cap r h
      cases mx with
      | none => simp [cOo] at hmx; subst hmx; simp [mxO] at h; exact .inl ⟨h.symm, rfl⟩
      | some o =>
        simp only [cOo, Option.map_eq_some_iff] at hmx
        obtain ⟨o', ho, rfl⟩ := hmx
        simp only [mxO] at h
        split at h
        · rename_i m hm
          cases h
          obtain ⟨k, hk⟩ := asN_spec hm (ev_spec hg hf ho)
          exact .inr ⟨m, k, rfl, by simp [hk]⟩
        · cases h
    split at hv
    · rename_i b off len cap ex' es' hsl
      cases hbe : Nat.beq s es' with
      | false => simp [hbe] at hv
      | true =>
        have := Nat.eq_of_beq_eq_true hbe
        subst this
        simp only [hbe, cond_true] at hv
        rw [hsl] at ex
        obtain ⟨y, hy, c1, c2, c3, ex⟩ := conc_sl ex
        rw [ex]
        have hexx : ex' = false → capOf ex' cap y.2 off s = (y.2 - off) / s := by intro h; simp [capOf, h]
        split at hv
        · rename_i p q hp hq hm
          obtain ⟨g1, g2, g3⟩ := slSl2_spec (cap := capOf ex' cap y.2 off s) hv hy hs0 c2 c3 hexx
          have hb := bnd_spec hg hf hlo hp
          have hh := bnd_spec hg hf hhi hq
          have hm' : mx.map a.eval = none := by
            rcases mxs hm with ⟨_, h⟩ | ⟨_, _, h, _⟩
            · exact h
            · cases h
          refine ⟨_, g3 (capOf ex' cap y.2 off s) (fun h => by simp [capOf, h]) (fun _ => rfl), fun w => ?_⟩
          have := sliceBounds_spec (P := P) (isSl := true) (len := len) (cap := capOf ex' cap y.2 off s) (lo := lo.map a.eval) (hi := hi.map a.eval) (mx := mx.map a.eval) (a := p) (e := q) (m := capOf ex' cap y.2 off s)
            (hb.imp (fun h => ⟨h.1, h.2.2⟩) id) (hh.imp (fun h => ⟨h.1, hm', h.2.2⟩) id) (.inl ⟨hm', rfl⟩) g1 (by omega) (Nat.le_refl _) w
          simp only [Instr.sliceAt, Instr.slice, Sem.run_bind, run_under hu, Result.andThen_ok, this, run_szO hs, Sem.run_pure]
          by_cases hca : capOf ex' cap y.2 off s = p <;> simp [hca]
        · rename_i p q m hp hq hm
          cases hmc : Nat.ble m cap with
          | false => simp [hmc] at hv
          | true =>
            simp only [hmc, cond_true] at hv
            have hmc := Nat.le_of_ble_eq_true hmc
            obtain ⟨g1, g2, g3⟩ := slSl2_spec (cap := capOf ex' cap y.2 off s) hv hy hs0 (by omega) c3 (by simp)
            have hb := bnd_spec hg hf hlo hp
            have hh := bnd_spec hg hf hhi hq
            obtain ⟨k, hm'⟩ : ∃ k, mx.map a.eval = some (.int k m) := by
              rcases mxs hm with ⟨h, _⟩ | ⟨m', k, h, h2⟩
              · cases h
              · cases h; exact ⟨k, h2⟩
            cases hi with
            | none =>
              cases mx with
              | none => simp at hm'
              | some _ => simp at hmh
            | some hiv =>
              have hh : ∃ k, (some hiv : Option Operand).map a.eval = some (.int k q) := by
                rcases hh with ⟨h, _⟩ | h
                · cases h
                · exact h
              refine ⟨_, g3 m (fun _ => rfl) (by simp), fun w => ?_⟩
              have := sliceBounds_spec (P := P) (isSl := true) (len := len) (cap := capOf ex' cap y.2 off s) (lo := lo.map a.eval) (hi := (some hiv).map a.eval) (mx := mx.map a.eval) (a := p) (e := q) (m := m)
                (hb.imp (fun h => ⟨h.1, h.2.2⟩) id) (.inr hh) (.inr ⟨k, hm'⟩) g1 g2 (by omega) w
              simp only [Instr.sliceAt, Instr.slice, Sem.run_bind, run_under hu, Result.andThen_ok, this, run_szO hs, Sem.run_pure]
              by_cases hca : m = p <;> simp [hca]
        · cases hv
    · rename_i hsl
      split at hv
      · rename_i hp hq hm
        cases hv
        rw [hsl] at ex; simp [conc] at ex
        have hb := bnd_spec hg hf hlo hp
        have hh := bnd_spec hg hf hhi hq
        have hm' : mx.map a.eval = none := by
          rcases mxs hm with ⟨_, h⟩ | ⟨_, _, h, _⟩
          · exact h
          · cases h
        refine ⟨_, rfl, fun w => ?_⟩
        have := sliceBounds_spec (P := P) (isSl := true) (len := 0) (cap := 0) (lo := lo.map a.eval) (hi := hi.map a.eval) (mx := mx.map a.eval) (a := 0) (e := 0) (m := 0)
          (hb.imp (fun h => ⟨h.1, rfl⟩) id) (hh.imp (fun h => ⟨h.1, hm', rfl⟩) id) (.inl ⟨hm', rfl⟩) (Nat.le_refl _) (Nat.le_refl _) (Nat.le_refl _) w
        rw [← ex]
        simp only [Instr.sliceAt, Instr.slice, Sem.run_bind, run_under hu, Result.andThen_ok, this, run_szO hs, Sem.run_pure]
        rfl
      · rename_i hp hq hm
        cases hv
        rw [hsl] at ex; simp [conc] at ex
        have hb := bnd_spec hg hf hlo hp
        have hh := bnd_spec hg hf hhi hq
        obtain ⟨k, hm'⟩ : ∃ k, mx.map a.eval = some (.int k (0 : Nat)) := by
          rcases mxs hm with ⟨h, _⟩ | ⟨m', k, h, h2⟩
          · cases h
          · cases h; exact ⟨k, h2⟩
        cases hi with
        | none =>
          cases mx with
          | none => simp at hm'
          | some _ => simp at hmh
        | some hiv =>
          have hh : ∃ k, (some hiv : Option Operand).map a.eval = some (.int k (0 : Nat)) := by
            rcases hh with ⟨h, _⟩ | h
            · cases h
            · exact h
          refine ⟨_, rfl, fun w => ?_⟩
          have := sliceBounds_spec (P := P) (isSl := true) (len := 0) (cap := 0) (lo := lo.map a.eval) (hi := (some hiv).map a.eval) (mx := mx.map a.eval) (a := 0) (e := 0) (m := 0)
            (hb.imp (fun h => ⟨h.1, rfl⟩) id) (.inr hh) (.inr ⟨k, hm'⟩) (Nat.le_refl _) (Nat.le_refl _) (Nat.le_refl _) w
          rw [← ex]
          simp only [Instr.sliceAt, Instr.slice, Sem.run_bind, run_under hu, Result.andThen_ok, this, run_szO hs, Sem.run_pure]
          rfl
      · cases hv
    · cases hv
  · cases hc

theorem fold_spec [Env] {f : V → V → Option V} {g : Value → Value → Sem Value} (hfg : ∀ u v r a b, f u v = some r → conc ρ u = some a → conc ρ v = some b → ∃ x, conc ρ r = some x ∧ ∀ w, (g a b).run P w = .ok x w) :
    ∀ (l : List V) (v r : V) (xs : List Value) (x : Value), foldV f l v = some r → concs ρ l = some xs → conc ρ v = some x → ∃ y, conc ρ r = some y ∧ ∀ w, (xs.foldlM g x).run P w = .ok y w
  | [], v, r, xs, x, h, hl, hv => by
    simp [concs] at hl; subst hl
    simp [foldV] at h; subst h
    exact ⟨x, hv, fun w => rfl⟩
  | u :: l, v, r, xs, x, h, hl, hv => by
    simp only [concs, Option.bind_eq_some_iff, Option.map_eq_some_iff] at hl
    obtain ⟨a, ha, zs, hz, rfl⟩ := hl
    simp only [foldV] at h
    cases hq : f v u with
    | none => simp [hq] at h
    | some q =>
      simp only [hq] at h
      obtain ⟨y, hy, hrun⟩ := hfg v u q x a hq hv ha
      obtain ⟨z, hz1, hz2⟩ := fold_spec hfg l q r zs y h hz hy
      exact ⟨z, hz1, fun w => by rw [List.foldlM_cons]; simp [hrun w, hz2 w]⟩

theorem mx2_spec [Env] (u v r : V) (a b : Value) (h : mx2 u v = some r) (ha : conc ρ u = some a) (hb : conc ρ v = some b) : ∃ x, conc ρ r = some x ∧ ∀ w, (Builtin.max2 a b).run P w = .ok x w := by
  cases u <;> simp only [mx2] at h <;> try cases h
  cases v <;> simp only [] at h <;> try cases h
  simp [conc] at ha hb; subst ha; subst hb
  refine ⟨_, rfl, fun w => ?_⟩
  simp only [Builtin.max2, ltI_eq, Sem.run_pure]
  congr 2
  rename_i k x k' y
  by_cases hxy : x < y <;> simp [hxy]

theorem mn2_spec [Env] (u v r : V) (a b : Value) (h : mn2 u v = some r) (ha : conc ρ u = some a) (hb : conc ρ v = some b) : ∃ x, conc ρ r = some x ∧ ∀ w, (Builtin.min2 a b).run P w = .ok x w := by
  cases u <;> simp only [mn2] at h <;> try cases h
  cases v <;> simp only [] at h <;> try cases h
  simp [conc] at ha hb; subst ha; subst hb
  refine ⟨_, rfl, fun w => ?_⟩
  simp only [Builtin.min2, ltI_eq, Sem.run_pure]
  congr 2
  rename_i k x k' y
  by_cases hxy : y < x <;> simp [hxy]

theorem memT_mem (n : Nat) : ∀ (l : List Nat), memT n l = true → n ∈ l
  | [], h => by simp [memT] at h
  | m :: l, h => by
    simp only [memT] at h
    cases hb : Nat.beq m n with
    | true => rw [Nat.eq_of_beq_eq_true hb]; simp
    | false => rw [hb, cond_false] at h; exact List.mem_cons_of_mem _ (memT_mem n l h)

theorem memT_self (n : Nat) : ∀ (l : List Nat), n ∈ l → memT n l = true
  | [], h => by simp at h
  | m :: l, h => by
    simp only [memT]
    rcases List.mem_cons.1 h with rfl | h
    · simp
    · rw [memT_self n l h]; cases Nat.beq m n <;> rfl

theorem tas_spec [Env] {x : Operand} {xt asserted : TypeId} {ok : Bool} {i : PI} {v : V} (hg : Glob ng ρ) (hf : FrRel ρ fr a.tmps) (hc : cTas P ng x asserted ok = some i) (hv : puI fr i = some v) :
    ∃ u, conc ρ v = some u ∧ ∀ w, (Instr.typeAssert (a.eval x) xt asserted ok).run P w = .ok u w := by
  simp only [cTas, Option.bind_eq_some_iff] at hc
  obtain ⟨z, hz, x', hx, hc⟩ := hc
  have ex := ev_spec hg hf hx
  have hzv : ok = true → ∃ zv, conc ρ z = some zv ∧ ∀ w, (zeroValue asserted).run P w = .ok zv w := by
    rintro rfl
    simp only [if_true, Option.bind_eq_some_iff] at hz
    obtain ⟨zv, ⟨inf, hi, hz⟩, hcz⟩ := hz
    exact ⟨zv, cV_spec ρ _ _ hcz, fun w => by simp [zeroValue, typeInfo, hi, hz]⟩
  split at hc
  · rename_i want hu
    cases hc
    simp only [puI] at hv
    unfold tasV at hv
    split at hv
    · rename_i t u he
      rw [he] at ex
      obtain ⟨y, hy, ex⟩ := conc_ifc ex
      cases hm : memT t ((P.types.toList.zipIdx.filter fun q => (Instr.missingMethod want q.1.methods).isNone).map (·.2)) with
      | false => rw [hm] at hv; simp at hv
      | true =>
        rw [hm] at hv
        simp only [cond_true, cond_false, Option.some.injEq] at hv
        have hmem := memT_mem _ _ hm
        simp only [List.mem_map, List.mem_filter, Prod.exists] at hmem
        obtain ⟨inf, t', ⟨hin, hmiss⟩, rfl⟩ := hmem
        have hget : P.types.toList[t']? = some inf := by
          have := List.mem_zipIdx hin
          simp only [Nat.zero_add, Nat.sub_zero] at this
          obtain ⟨_, h2, h3⟩ := this
          rw [List.getElem?_eq_getElem h2, ← h3]
        have hi := info_types (P := P) hget
        have hmn : Instr.missingMethod want inf.methods = none := by simpa using hmiss
        rw [ex]
        have hrun : ∀ w, (Instr.typeAssert (.iface t' y) xt asserted ok).run P w = .ok (if ok then .tuple #[.iface t' y, .bool true] else .iface t' y) w := by
          intro w
          simp only [Instr.typeAssert, Sem.run_bind, run_under hu, Result.andThen_ok, typeInfo, run_program, hi, Sem.run_pure, hmn]
        refine ⟨_, ?_, hrun⟩
        subst hv
        cases ok <;> simp [conc, concs, hy]
    · rename_i he
      rw [he] at ex
      simp [conc] at ex
      cases ok with
      | false => simp at hv
      | true =>
        simp only [cond_true, Option.some.injEq] at hv
        subst hv
        obtain ⟨zv, hz1, hz2⟩ := hzv rfl
        refine ⟨.tuple #[zv, .bool false], by simp [conc, concs, hz1], fun w => ?_⟩
        rw [← ex]
        simp [Instr.typeAssert, run_under hu, hz2 w]
    · cases hv
  · rename_i d hnd hu
    cases hc
    simp only [puI] at hv
    unfold tasV at hv
    have notI : ∀ ms, d ≠ .interface ms := fun ms h => hnd ms h
    split at hv
    · rename_i t u he
      rw [he] at ex
      obtain ⟨y, hy, ex⟩ := conc_ifc ex
      rw [ex]
      cases hm : memT t [asserted] with
      | false =>
        rw [hm] at hv
        have hne : t ≠ asserted := by
          intro e; subst e
          rw [memT_self t [t] (by simp)] at hm; cases hm
        cases ok with
        | false => simp at hv
        | true =>
          simp only [cond_true, cond_false, Option.some.injEq] at hv
          subst hv
          obtain ⟨zv, hz1, hz2⟩ := hzv rfl
          refine ⟨.tuple #[zv, .bool false], by simp [conc, concs, hz1], fun w => ?_⟩
          cases d <;> first | exact absurd rfl (notI _) | simp [Instr.typeAssert, run_under hu, hne, hz2 w]
      | true =>
        rw [hm] at hv
        have := memT_mem _ _ hm
        simp at this
        subst this
        simp only [cond_true, Option.some.injEq] at hv
        subst hv
        refine ⟨if ok then .tuple #[y, .bool true] else y, by cases ok <;> simp [conc, concs, hy], fun w => ?_⟩
        cases d <;> first | exact absurd rfl (notI _) | simp [Instr.typeAssert, run_under hu]
    · rename_i he
      rw [he] at ex
      simp [conc] at ex
      cases ok with
      | false => simp at hv
      | true =>
        simp only [cond_true, Option.some.injEq] at hv
        subst hv
        obtain ⟨zv, hz1, hz2⟩ := hzv rfl
        refine ⟨.tuple #[zv, .bool false], by simp [conc, concs, hz1], fun w => ?_⟩
        rw [← ex]
        cases d <;> first | exact absurd rfl (notI _) | simp [Instr.typeAssert, run_under hu, hz2 w]
    · cases hv
  · cases hc

/-- OPERATIONS THAT TOUCH NO MEMORY. -/
theorem range_find (p : Nat → Bool) (n : Nat) : (List.range (n + 1)).find? p = if p 0 then some 0 else ((List.range n).find? fun i => p (i + 1)).map (· + 1) := by
  rw [List.range_succ_eq_map, List.find?_cons]
  cases p 0 with
  | true => rfl
  | false =>
    simp only [Bool.false_eq_true, if_false]
    rw [List.find?_map]
    rfl

theorem ixbL_spec (c : Nat) (hc : c < 256) : ∀ (l : List Nat) (k : Nat), l.all byteOk = true →
    ixbL l c k = match (List.range l.length).find? (fun i => (l.map UInt8.ofNat).toArray[i]! == UInt8.ofNat c) with | some i => Int.ofNat (i + k) | none => -1
  | [], k, _ => rfl
  | b :: l, k, h => by
    simp only [List.all_cons, Bool.and_eq_true] at h
    have hb : b < 256 := by simpa [byteOk, Nat.blt_eq] using h.1
    rw [List.length_cons, range_find]
    have e0 : ((b :: l).map UInt8.ofNat).toArray[0]! = UInt8.ofNat b := by simp
    have e1 : ∀ i, ((b :: l).map UInt8.ofNat).toArray[i + 1]! = (l.map UInt8.ofNat).toArray[i]! := by intro i; simp [getElem!_def]
    rw [e0]
    simp only [e1, ixbL]
    have hbc : (UInt8.ofNat b == UInt8.ofNat c) = Nat.beq b c := by
      rw [Bool.eq_iff_iff, beq_iff_eq, Nat.beq_eq]
      constructor
      · intro h
        have := congrArg UInt8.toNat h
        simpa [Nat.mod_eq_of_lt hb, Nat.mod_eq_of_lt hc] using this
      · intro h; rw [h]
    rw [hbc]
    cases hq : Nat.beq b c with
    | true => simp
    | false =>
      simp only [cond_false, Bool.false_eq_true, if_false]
      rw [ixbL_spec c hc l (k + 1) h.2]
      cases (List.range l.length).find? (fun i : Nat => (l.map UInt8.ofNat).toArray[i]! == UInt8.ofNat c) with
      | none => rfl
      | some i =>
        show Int.ofNat (i + (k + 1)) = Int.ofNat (i + 1 + k)
        congr 1; omega

theorem ext_sound [Env] {o : Oper} {i : PI} {v : V} {f : FuncId} {args : Array Operand} {ts : Array TypeId} (hg : Glob ng ρ) (hf : FrRel ρ fr a.tmps) (hop : o.op = .call { callee := .value (.func f), args, argTypes := ts })
    (hc : cExt P ng f args.toList = some i) (hv : puI fr i = some v) : Pure1 P ρ o a v := by
  unfold cExt at hc
  split at hc
  · rename_i fn x c hfn hargs
    split at hc
    · rename_i hext
      simp only [Option.bind_eq_some_iff, Option.map_eq_some_iff] at hc
      obtain ⟨x', hx, c', hc', rfl⟩ := hc
      simp only [isExt, Bool.and_eq_true, beq_iff_eq] at hext
      obtain ⟨hb, hname, horig⟩ := hext
      simp only [puI, ixbV] at hv
      split at hv
      · rename_i n hn
        cases hlt : Nat.blt n 256 with
        | false => simp [hlt] at hv
        | true =>
          simp only [hlt, cond_true] at hv
          split at hv
          · rename_i l hl
            cases hv
            have ex := ev_spec hg hf hx
            have ec := ev_spec hg hf hc'
            rw [hl] at ex; rw [hn] at ec
            obtain ⟨h1, ex⟩ := conc_s ex
            simp only [conc, Option.some.injEq] at ec
            have hlt : n < 256 := by simpa [Nat.blt_eq] using hlt
            refine ⟨_, rfl, fun w => ?_⟩
            have hfind : Extern.find fn = some Extern.BytealgIndexByte.indexByte := by
              unfold Extern.find
              simp only [hname, horig]
              rfl
            have hnext : Extern.findNext fn = none := by
              unfold Extern.findNext
              simp only [hname, horig]
              rfl
            have hca : args = #[x, c] := by cases args; simp at hargs; rw [hargs]
            have hrun := run_callFunc_extern (P := P) hfn (by rw [hname]; decide) hb hnext hfind #[a.eval x, a.eval c] w
            rw [ex, ← ec, run_indexByte_string] at hrun
            simp only [Result.andThen_ok] at hrun
            have hix : firstIdx ⟨(l.map UInt8.ofNat).toArray⟩ (Int.toNat (Int.ofNat n)).toUInt8 = ixbL l n 0 := by
              rw [ixbL_spec n hlt l 0 h1]
              unfold firstIdx
              have hs : (ByteArray.mk (l.map UInt8.ofNat).toArray).size = l.length := by
                show ((l.map UInt8.ofNat).toArray).size = _
                simp
              rw [hs]
              have hp : (fun i : Nat => (ByteArray.mk (l.map UInt8.ofNat).toArray)[i]! == (Int.toNat (Int.ofNat n)).toUInt8) = (fun i : Nat => (l.map UInt8.ofNat).toArray[i]! == UInt8.ofNat n) := by
                funext i
                have e : (ByteArray.mk (l.map UInt8.ofNat).toArray)[i]! = (l.map UInt8.ofNat).toArray[i]! := by
                  by_cases hi : i < (l.map UInt8.ofNat).toArray.size
                  · rw [getElem!_pos (ByteArray.mk (l.map UInt8.ofNat).toArray) i hi, getElem!_pos (l.map UInt8.ofNat).toArray i hi]; rfl
                  · rw [getElem!_neg (ByteArray.mk (l.map UInt8.ofNat).toArray) i hi, getElem!_neg (l.map UInt8.ofNat).toArray i hi]
                rw [e]; rfl
              rw [hp]
              cases (List.range l.length).find? (fun i : Nat => (l.map UInt8.ofNat).toArray[i]! == UInt8.ofNat n) <;> rfl
            rw [hix] at hrun
            rw [← ex, ec] at hrun
            have ef : a.eval (.func f) = .func (.func f) #[] #[] := rfl
            have hmap : args.map a.eval = #[a.eval x, a.eval c] := by rw [hca]; simp
            simp only [execOp, hop, resolve, ef, Deferred.ofValue, Sem.run_bind, Sem.run_pure, Result.andThen_ok, invoke, hmap]
            simpa using hrun
          · cases hv
      · cases hv
    · cases hc
  · cases hc

/-- OPERATIONS THAT TOUCH NO MEMORY. -/
theorem pu_sound [Env] {o : Oper} {i : PI} {v : V} (hg : Glob ng ρ) (hf : FrRel ρ fr a.tmps) (hc : cP P ng o = some i) (hv : puI fr i = some v) : Pure1 P ρ o a v := by
  unfold Pure1
  unfold cP at hc
  split at hc
  case h_1 x hop =>
    simp only [Option.map_eq_some_iff] at hc
    obtain ⟨x', hx, rfl⟩ := hc
    simp only [puI, Option.some.injEq] at hv; subst hv
    exact ⟨_, ev_spec hg hf hx, fun w => by simp [execOp, hop]⟩
  case h_2 x hop =>
    simp only [Option.map_eq_some_iff] at hc
    obtain ⟨x', hx, rfl⟩ := hc
    simp only [puI, Option.some.injEq] at hv; subst hv
    exact ⟨_, ev_spec hg hf hx, fun w => by simp [execOp, hop]⟩
  case h_3 c p q hop =>
    simp only [Option.bind_eq_some_iff, Option.map_eq_some_iff] at hc
    obtain ⟨c', hc', p', hp, q', hq, rfl⟩ := hc
    simp only [puI] at hv
    have ec := ev_spec hg hf hc'
    split at hv
    · rename_i hb; cases hv
      rw [hb] at ec; simp [conc] at ec
      exact ⟨_, ev_spec hg hf hp, fun w => by simp [execOp, hop, ← ec, asBool]⟩
    · rename_i hb; cases hv
      rw [hb] at ec; simp [conc] at ec
      exact ⟨_, ev_spec hg hf hq, fun w => by simp [execOp, hop, ← ec, asBool]⟩
    · cases hv
  case h_4 t ps hop =>
    obtain ⟨x, hx, hr⟩ := build_spec hg hf hc hv
    exact ⟨x, hx, fun w => by simp only [execOp, hop]; simp [hr w]⟩
  case h_5 op t x y _ hop =>
    obtain ⟨u, hu, hr⟩ := bin_spec hg hf hc hv
    exact ⟨u, hu, fun w => by simp only [execOp, hop]; rw [Sem.run_bind, hr w]; rfl⟩
  case h_6 op _ x hop =>
    simp only [Option.map_eq_some_iff] at hc
    obtain ⟨x', hx, rfl⟩ := hc
    obtain ⟨u, hu, hr⟩ := unV_spec (P := P) hv (ev_spec hg hf hx)
    exact ⟨u, hu, fun w => by simp [execOp, hop, hr w]⟩
  case h_7 s d x hop =>
    obtain ⟨u, hu, hr⟩ := conv_spec hg hf hc hv
    exact ⟨u, hu, fun w => by simp [execOp, hop, hr w]⟩
  case h_8 t x hop =>
    split at hc
    · rename_i hcon
      simp only [Option.map_eq_some_iff] at hc
      obtain ⟨x', hx, rfl⟩ := hc
      simp only [puI, Option.some.injEq] at hv; subst hv
      exact ⟨.iface t (a.eval x), by simp [conc, ev_spec hg hf hx], fun w => by simp [execOp, hop, run_makeInterface w t _ hcon]⟩
    · cases hc
  case h_9 f cs hop =>
    simp only [Option.map_eq_some_iff] at hc
    obtain ⟨cs', hcs, rfl⟩ := hc
    simp only [puI, Option.some.injEq] at hv; subst hv
    refine ⟨.func (.func f) #[] (cs.map a.eval).toArray, by simp [conc, evs_spec hg hf hcs, Path.num_of], fun w => ?_⟩
    simp [execOp, hop, Instr.makeFunc]
  case h_10 t x lo hi mx hop =>
    obtain ⟨u, hu, hr⟩ := slice_spec hg hf hc hv
    exact ⟨u, hu, fun w => by simp [execOp, hop, hr w]⟩
  case h_11 s x f hop =>
    unfold cFieldA at hc
    split at hc
    · rename_i fs hu
      simp only [Option.bind_eq_some_iff] at hc
      obtain ⟨fd, hfd, sz, hsz, hc⟩ := hc
      split at hc
      · cases hc
      rename_i hnz
      simp only [Option.map_eq_some_iff] at hc
      obtain ⟨x', hx, rfl⟩ := hc
      simp only [puI] at hv
      have ex := ev_spec hg hf hx
      cases he : ev fr x' <;> rw [he] at hv ex <;> simp only [fieldAV] at hv <;> try cases hv
      rename_i bb off
      obtain ⟨y, hy, ex⟩ := conc_p ex
      refine ⟨.pointer (some ⟨y.1, off + fd.offset, none⟩), by simp only [conc, hy, Option.map_some], fun w => ?_⟩
      simp [execOp, hop, ex, Instr.fieldAt, run_under hu, hfd, Instr.sureAddr, fieldPlace, run_szO hsz, hnz, add_none]
    · cases hc
  case h_12 s x f hop =>
    unfold cField at hc
    split at hc
    · rename_i fs hu
      simp only [Option.bind_eq_some_iff, Option.map_eq_some_iff] at hc
      obtain ⟨fd, hfd, sz, hsz, ag, hag, x', hx, rfl⟩ := hc
      simp only [puI] at hv
      have ex := ev_spec hg hf hx
      cases he : ev fr x' <;> rw [he] at hv ex <;> simp only [fieldV] at hv <;> try cases hv
      obtain ⟨xs, h1, hxs, ex⟩ := conc_a ex
      obtain ⟨u, hu1, hu2⟩ := part_spec (P := P) (cs := xs.toArray) hv (by simpa using hxs) h1 hag hsz
      exact ⟨u, hu1, fun w => by simp [execOp, hop, ex, Instr.field, run_under hu, hfd, asAgg, hu2 w]⟩
    · cases hc
  case h_13 t x i hop =>
    unfold cIdxA at hc
    simp only [Option.bind_eq_some_iff] at hc
    obtain ⟨x', hx, i', hi, hc⟩ := hc
    have ex := ev_spec hg hf hx
    have ei := ev_spec hg hf hi
    split at hc
    · rename_i n e hu
      simp only [Option.map_eq_some_iff] at hc
      obtain ⟨s, hs, rfl⟩ := hc
      simp only [puI, idxAArrV] at hv
      split at hv
      · rename_i b off k hb hk
        cases hl : Nat.blt k n with
        | false => simp [hl] at hv
        | true =>
          simp only [hl, cond_true, Option.some.injEq] at hv
          subst hv
          rw [Nat.blt_eq] at hl
          obtain ⟨kk, hkk⟩ := asN_spec hk ei
          rw [hb] at ex
          obtain ⟨y, hy, ex⟩ := conc_p ex
          refine ⟨.pointer (some ⟨y.1, off + k * s, none⟩), by simp only [conc, hy, Option.map_some], fun w => ?_⟩
          simp [execOp, hop, ex, hkk, Instr.indexAt, asIntOf, run_under hu, Instr.sureAddr, hl, run_szO hs, add_none]
      · cases hv
    · rename_i e hu
      simp only [Option.map_eq_some_iff] at hc
      obtain ⟨s, hs, rfl⟩ := hc
      simp only [puI, idxASlV] at hv
      split at hv
      · rename_i b off len cap ex' es' k hb hk
        cases hl : Nat.blt k len with
        | false => simp [hl] at hv
        | true =>
          simp only [hl, cond_true, Option.some.injEq] at hv
          subst hv
          rw [Nat.blt_eq] at hl
          obtain ⟨kk, hkk⟩ := asN_spec hk ei
          rw [hb] at ex
          obtain ⟨y, hy, c1, c2, c3, ex⟩ := conc_sl ex
          refine ⟨.pointer (some ⟨y.1, off + k * s, none⟩), by simp only [conc, hy, Option.map_some], fun w => ?_⟩
          simp [execOp, hop, ex, hkk, Instr.indexAt, asIntOf, run_under hu, hl, run_szO hs, add_none]
      · cases hv
    · cases hc
  case h_14 t x i hop =>
    unfold cIdx at hc
    simp only [Option.bind_eq_some_iff] at hc
    obtain ⟨x', hx, i', hi, hc⟩ := hc
    have ex := ev_spec hg hf hx
    have ei := ev_spec hg hf hi
    split at hc
    · rename_i n e hu
      simp only [Option.bind_eq_some_iff, Option.map_eq_some_iff] at hc
      obtain ⟨s, hs, ag, hag, rfl⟩ := hc
      simp only [puI, idxArrV] at hv
      split at hv
      · rename_i l k hb hk
        cases hl : Nat.blt k n with
        | false => simp [hl] at hv
        | true =>
          simp only [hl, cond_true] at hv
          rw [Nat.blt_eq] at hl
          obtain ⟨kk, hkk⟩ := asN_spec hk ei
          rw [hb] at ex
          obtain ⟨xs, h1, hxs, ex⟩ := conc_a ex
          obtain ⟨u, hu1, hu2⟩ := part_spec (P := P) (cs := xs.toArray) hv (by simpa using hxs) h1 hag hs
          refine ⟨u, hu1, fun w => ?_⟩
          simp [execOp, hop, ex, hkk, Instr.index, asIntOf, run_under hu, hl, run_szO hs, hu2 w]
      · cases hv
    · rename_i hu
      simp only [Option.some.injEq] at hc; subst hc
      simp only [puI, idxStrV] at hv
      split at hv
      · rename_i l k hb hk
        rw [ldrop_eq] at hv
        split at hv
        · rename_i c r hd
          simp only [Option.some.injEq] at hv; subst hv
          obtain ⟨kk, hkk⟩ := asN_spec hk ei
          rw [hb] at ex
          obtain ⟨h1, ex⟩ := conc_s ex
          have hget : l[k]? = some c := by
            have : (List.drop k l)[0]? = some c := by rw [hd]; rfl
            rw [List.getElem?_drop] at this; simpa using this
          have hkl : k < l.length := (List.getElem?_eq_some_iff.1 hget).1
          have hc256 : c < 256 := by
            have := List.all_eq_true.1 h1 c (List.mem_of_getElem? hget)
            simpa [byteOk, Nat.blt_eq] using this
          refine ⟨_, rfl, fun w => ?_⟩
          have hs : (ByteArray.mk (l.map UInt8.ofNat).toArray)[k]? = some (UInt8.ofNat c) := by
            have hk' : k < (ByteArray.mk (l.map UInt8.ofNat).toArray).size := by simp [ByteArray.size]; exact hkl
            rw [getElem?_pos (ByteArray.mk (l.map UInt8.ofNat).toArray) k hk']
            congr 1
            show (l.map UInt8.ofNat).toArray[k]'_ = _
            have := (List.getElem?_eq_some_iff.1 hget).2
            simp [this]
          simp [execOp, hop, ex, hkk, Instr.index, asIntOf, run_under hu, hs, Nat.mod_eq_of_lt hc256]
        · cases hv
      · cases hv
    · cases hc
  case h_15 x i hop =>
    simp only [Option.map_eq_some_iff] at hc
    obtain ⟨x', hx, rfl⟩ := hc
    simp only [puI] at hv
    have ex := ev_spec hg hf hx
    cases he : ev fr x' <;> rw [he] at hv ex <;> simp only [extractV] at hv <;> try cases hv
    rw [ldrop_eq] at hv
    rename_i l
    split at hv
    · rename_i u r hd
      simp only [Option.some.injEq] at hv; subst hv
      obtain ⟨xs, hxs, ex⟩ := conc_t ex
      have hget : l[i]? = some u := by
        have : (l.drop i)[0]? = some u := by rw [hd]; rfl
        rw [List.getElem?_drop] at this; simpa using this
      obtain ⟨y, hy, hy2⟩ := concs_get i u hxs hget
      exact ⟨y, hy, fun w => by simp [execOp, hop, ex, Instr.extract, hy2]⟩
    · cases hv
  case h_16 x hop =>
    simp only [Option.map_eq_some_iff] at hc
    obtain ⟨x', hx, rfl⟩ := hc
    simp only [puI] at hv
    have ex := ev_spec hg hf hx
    cases he : ev fr x' <;> rw [he] at hv ex <;> simp only [nilckV] at hv <;> try (cases hv; done)
    · cases hv
      obtain ⟨y, hy, e⟩ := conc_p ex
      exact ⟨_, ex, fun w => by rw [e]; simp [execOp, hop, e]⟩
    · cases hv
      obtain ⟨y, hy, e⟩ := conc_f ex
      exact ⟨_, ex, fun w => by rw [e]; simp [execOp, hop, e]⟩
    · cases hv
      obtain ⟨y, hy, e⟩ := conc_ifc ex
      exact ⟨_, ex, fun w => by rw [e]; simp [execOp, hop, e]⟩
  case h_17 x xt asserted ok hop =>
    obtain ⟨u, hu, hr⟩ := tas_spec (xt := xt) hg hf hc hv
    exact ⟨u, hu, fun w => by simp [execOp, hop, hr w]⟩
  case h_18 args ts hop =>
    unfold cLen at hc
    split at hc
    · rename_i t x ht hxx
      have eargs : args = #[x] := by apply Array.ext'; simpa using hxx
      have ets : ts = #[t] := by apply Array.ext'; simpa using ht
      subst eargs; subst ets
      have fin : ∀ n : Nat, (∀ w, (Builtin.len_ #[t] o.type #[a.eval x]).run P w = .ok (goInt n) w) → ∀ w, (execOp a.eval o).run P w = .ok (.value (.int .i64 n)) w := by
        intro n hb w
        simp [execOp, hop, resolve, invoke, builtin, hb w, goInt]
      split at hc
      · rename_i hu
        simp only [Option.map_eq_some_iff] at hc
        obtain ⟨x', hx, rfl⟩ := hc
        simp only [puI] at hv
        have ex := ev_spec hg hf hx
        cases he : ev fr x' <;> rw [he] at hv ex <;> simp only [lenSV] at hv <;> try (cases hv; done)
        cases hv
        obtain ⟨h1, ex⟩ := conc_s ex
        refine ⟨_, rfl, fin _ (fun w => ?_)⟩
        rw [ex]
        simp only [Builtin.len_]
        simp [run_under hu, goInt]
        show (((List.map UInt8.ofNat _).toArray.size : Nat) : Int) = _
        rw [List.size_toArray, List.length_map]
      · rename_i e hu
        simp only [Option.map_eq_some_iff] at hc
        obtain ⟨x', hx, rfl⟩ := hc
        simp only [puI] at hv
        have ex := ev_spec hg hf hx
        cases he : ev fr x' <;> rw [he] at hv ex <;> simp only [lenSlV] at hv <;> try (cases hv; done)
        · cases hv
          obtain ⟨y, hy, _, _, _, ex⟩ := conc_sl ex
          exact ⟨_, rfl, fin _ (fun w => by simp [ex, Builtin.len_, run_under hu])⟩
        · cases hv
          simp [conc] at ex
          exact ⟨_, rfl, fin 0 (fun w => by simp [← ex, Builtin.len_, run_under hu])⟩
      · cases hc
    · cases hc
  case h_19 args ts hop =>
    simp only [Option.map_eq_some_iff] at hc
    obtain ⟨l, hl, rfl⟩ := hc
    simp only [puI] at hv
    have el := evs_spec hg hf hl
    cases hq : evs fr l with
    | nil => rw [hq] at hv; simp [foldVs] at hv
    | cons u us =>
      rw [hq] at hv el
      simp only [foldVs] at hv
      simp only [concs, Option.bind_eq_some_iff, Option.map_eq_some_iff] at el
      obtain ⟨x, hx, xs, hxs, e⟩ := el
      obtain ⟨y, hy, hr⟩ := fold_spec (P := P) (g := Builtin.max2) mx2_spec us u v xs x hv hxs hx
      refine ⟨y, hy, fun w => ?_⟩
      have ee : (args.map a.eval).toList = x :: xs := by rw [Array.toList_map]; exact e.symm
      have hm : (Builtin.max_ ts o.type (args.map a.eval)).run P w = .ok y w := by unfold Builtin.max_; rw [ee]; exact hr w
      simp [execOp, hop, resolve, invoke, builtin, hm]
  case h_20 args ts hop =>
    simp only [Option.map_eq_some_iff] at hc
    obtain ⟨l, hl, rfl⟩ := hc
    simp only [puI] at hv
    have el := evs_spec hg hf hl
    cases hq : evs fr l with
    | nil => rw [hq] at hv; simp [foldVs] at hv
    | cons u us =>
      rw [hq] at hv el
      simp only [foldVs] at hv
      simp only [concs, Option.bind_eq_some_iff, Option.map_eq_some_iff] at el
      obtain ⟨x, hx, xs, hxs, e⟩ := el
      obtain ⟨y, hy, hr⟩ := fold_spec (P := P) (g := Builtin.min2) mn2_spec us u v xs x hv hxs hx
      refine ⟨y, hy, fun w => ?_⟩
      have ee : (args.map a.eval).toList = x :: xs := by rw [Array.toList_map]; exact e.symm
      have hm : (Builtin.min_ ts o.type (args.map a.eval)).run P w = .ok y w := by unfold Builtin.min_; rw [ee]; exact hr w
      simp [execOp, hop, resolve, invoke, builtin, hm]
  case h_21 f args ts hop => exact ext_sound hg hf hop hc hv
  case h_22 => cases hc

end
end Go.Eng

namespace Go.Eng

/-- Are two keys the same? agg: the key's type is a struct. -/
def eqKey (agg : Bool) (ts : List Nat) (x y : V) : Option Bool :=
  match agg with
  | true => eqS ts x y
  | false => match ts with
    | t :: us => (match us with | [] => eqC t x y | _ => none)
    | [] => none

/-- Where a key stands: its index, the value, the stamp. -/
def findE (agg : Bool) (ts : List Nat) (k : V) : List (V × V × Nat) → Nat → Option (Option (Nat × V × Nat))
  | [], _ => some none
  | (k', v, b) :: l, i => match eqKey agg ts k k' with
    | some true => some (some (i, v, b))
    | some false => findE agg ts k l (i + 1)
    | none => none

/-- The type of keys, compiled. -/
def keyC (P : Program) (t : TypeId) : Option (Bool × List Nat) := (aggO P t).bind fun a => (plainT P 20 t).map fun ts => (a, ts)

section
variable {P : Program} {ρ : Ren}

theorem EntRel.length [Env] : ∀ {l : List (V × V × Nat)} {es : List MapEntry}, EntRel ρ l es → es.length = l.length
  | [], [], _ => rfl
  | [], _ :: _, e => e.elim
  | _ :: _, [], e => e.elim
  | (_, _, _) :: _, _ :: _, ⟨_, _, _, d⟩ => by simp [EntRel.length d]

theorem EntRel.append [Env] : ∀ {l k : List (V × V × Nat)} {es fs : List MapEntry}, EntRel ρ l es → EntRel ρ k fs → EntRel ρ (l ++ k) (es ++ fs)
  | [], _, [], _, _, h => h
  | [], _, _ :: _, _, e, _ => e.elim
  | _ :: _, _, [], _, e, _ => e.elim
  | (_, _, _) :: _, _, _ :: _, _, ⟨a, b, c, d⟩, h => ⟨a, b, c, EntRel.append d h⟩

theorem EntRel.get [Env] : ∀ {l : List (V × V × Nat)} {es : List MapEntry} (i : Nat) (x : V × V × Nat), EntRel ρ l es → l[i]? = some x →
    ∃ e, es[i]? = some e ∧ conc ρ x.1 = some e.key ∧ conc ρ x.2.1 = some e.val ∧ e.born = x.2.2
  | [], [], i, x, _, h => by simp at h
  | [], _ :: _, _, _, e, _ => e.elim
  | _ :: _, [], _, _, e, _ => e.elim
  | (k, v, b) :: l, e :: es, 0, x, ⟨h1, h2, h3, h4⟩, h => by simp at h; subst h; exact ⟨e, rfl, h1, h2, h3⟩
  | (k, v, b) :: l, e :: es, i + 1, x, ⟨h1, h2, h3, h4⟩, h => by
    simp at h
    obtain ⟨e', a, b⟩ := EntRel.get i x h4 h
    exact ⟨e', by simpa using a, b⟩

theorem keyC_spec {t : TypeId} {agg : Bool} {ts : List Nat} (h : keyC P t = some (agg, ts)) : aggO P t = some agg ∧ plainT P 20 t = some ts := by
  simp only [keyC, Option.bind_eq_some_iff, Option.map_eq_some_iff, Prod.mk.injEq] at h
  obtain ⟨a, ha, ts', hts, rfl, rfl⟩ := h
  exact ⟨ha, hts⟩

/-- A plain type that is no struct. -/
theorem plain_one {t : TypeId} {d : Nat} {ts : List Nat} (h : plainT P d t = some ts) (ha : aggO P t = some false) :
    ∃ tag, ts = [tag] ∧ ((tag = 0 ∧ P.underlying t = some .bool) ∨ (tag = 1 ∧ ∃ k, P.underlying t = some (.int k)) ∨ (tag = 2 ∧ P.underlying t = some .string)) := by
  cases d with
  | zero => simp [plainT] at h
  | succ d =>
    simp only [plainT] at h
    cases hu : P.underlying t with
    | none => simp [hu] at h
    | some dd =>
      rw [aggO_of hu] at ha
      simp only [hu] at h
      cases dd <;> simp at h <;> first | (simp [aggB] at ha; done) | skip
      · subst h; exact ⟨0, rfl, .inl ⟨rfl, rfl⟩⟩
      · subst h; exact ⟨1, rfl, .inr (.inl ⟨rfl, _, rfl⟩)⟩
      · subst h; exact ⟨2, rfl, .inr (.inr ⟨rfl, rfl⟩)⟩

theorem eqS_cases {ts : List Nat} {x y : V} {r : Bool} (h : eqS ts x y = some r) : ∃ l k, x = .a l ∧ y = .a k ∧ len3 ts l k = true ∧ eqCs ts l k = some r := by
  cases x <;> simp only [eqS] at h <;> try (cases h; done)
  cases y <;> simp only [] at h <;> try (cases h; done)
  rename_i l k
  cases h3 : len3 ts l k with
  | false => simp [h3] at h
  | true => rw [h3, cond_true] at h; exact ⟨l, k, rfl, rfl, h3, h⟩

theorem eqKey_equal [Env] {t : TypeId} {agg : Bool} {ts : List Nat} {x y : V} {a b : Value} {r : Bool} (hk : keyC P t = some (agg, ts)) (h : eqKey agg ts x y = some r)
    (ha : conc ρ x = some a) (hb : conc ρ y = some b) (w : World) : (Op.equal t a b).run P w = .ok r w := by
  obtain ⟨hag, hpl⟩ := keyC_spec hk
  unfold Op.equal Op.maxDepth
  cases agg with
  | false =>
    obtain ⟨tag, rfl, htag⟩ := plain_one hpl hag
    exact eqC_spec (P := P) (dd := 9999) h ha hb htag w
  | true =>
    obtain ⟨l, k, rfl, rfl, h3, h⟩ := eqS_cases (show eqS ts _ _ = some _ from h)
    obtain ⟨xs, _, hxs, rfl⟩ := conc_a ha
    obtain ⟨ys, _, hys, rfl⟩ := conc_a hb
    obtain ⟨l1, l2⟩ := len3_spec h3
    exact eq_plain (P := P) 20 t ts hpl 10000 (by omega) l k xs ys (.agg xs.toArray) (.agg ys.toArray) r l1 l2 hxs hys
      ⟨fun _ => rfl, fun h => by rw [hag] at h; cases h⟩ ⟨fun _ => rfl, fun h => by rw [hag] at h; cases h⟩ h w

theorem bytes_beq (l k : List UInt8) : (ByteArray.mk l.toArray == ByteArray.mk k.toArray) = (l == k) := by
  show (l.toArray == k.toArray) = (l == k)
  simp

theorem eqKey_now [Env] {t : TypeId} {agg : Bool} {ts : List Nat} {x y : V} {a b : Value} {d : TypeDesc} {r r' : Bool} (hk : keyC P t = some (agg, ts)) (hu : P.underlying t = some d) (h : eqKey agg ts x y = some r)
    (ha : conc ρ x = some a) (hb : conc ρ y = some b) (hs : Instr.sameNow d a b = some r') : r' = r := by
  obtain ⟨hag, hpl⟩ := keyC_spec hk
  cases agg with
  | false =>
    obtain ⟨tag, rfl, htag⟩ := plain_one hpl hag
    simp only [eqKey] at h
    rcases htag with ⟨rfl, ht⟩ | ⟨rfl, k', ht⟩ | ⟨rfl, ht⟩ <;> rw [hu] at ht <;> cases ht <;> simp only [eqC] at h <;> cases x <;> simp only [] at h <;> (try cases h) <;> cases y <;> simp only [] at h <;> try cases h
    · simp [conc] at ha hb; subst ha; subst hb
      simp only [Instr.sameNow, Option.some.injEq] at hs
      exact hs.symm
    · rename_i j m k n
      cases hsk : sameK j k with
      | false => simp [hsk] at h
      | true =>
        simp only [hsk, cond_true, Option.some.injEq] at h
        have := sameK_eq hsk
        subst this
        simp [conc] at ha hb; subst ha; subst hb
        simp only [Instr.sameNow, if_true, Option.some.injEq] at hs
        rw [← hs, ← h, eqI_eq, Bool.eq_iff_iff]; simp
    · obtain ⟨h1, rfl⟩ := conc_s ha
      obtain ⟨h2, rfl⟩ := conc_s hb
      simp only [Instr.sameNow, Option.some.injEq] at hs
      rw [← hs, eqL_map h1 h2]
      exact bytes_beq _ _
  | true =>
    obtain ⟨l, k, rfl, rfl, h3, h⟩ := eqS_cases (show eqS ts _ _ = some _ from h)
    obtain ⟨xs, _, hxs, rfl⟩ := conc_a ha
    cases d <;> simp [Instr.sameNow] at hs

/-- Keys that are the same are the same value. -/
theorem eqC_same {tag : Nat} {x y : V} (h : eqC tag x y = some true) : x = y := by
  match tag, h with
  | 0, h => cases x <;> simp only [eqC] at h <;> (try cases h) <;> cases y <;> simp at h; rw [h]
  | 1, h =>
    obtain ⟨j, m, k, n, rfl, rfl⟩ : ∃ j m k n, x = V.i j m ∧ y = V.i k n := by
      cases x <;> simp [eqC] at h
      cases y <;> simp at h
      exact ⟨_, _, _, _, rfl, rfl⟩
    simp only [eqC] at h
    revert h
    cases hsk : sameK j k with
    | false => intro h; simp at h
    | true =>
      intro h
      simp only [cond_true, Option.some.injEq] at h
      rw [eqI_eq] at h
      rw [sameK_eq hsk, of_decide_eq_true h]
  | 2, h =>
    cases x <;> simp only [eqC] at h <;> (try cases h) <;> cases y <;> simp only [] at h <;> try cases h
    rename_i l k
    simp only [Option.some.injEq] at h
    have key : ∀ {x y : List Nat}, eqL x y = true → x = y := by
      intro x
      induction x with
      | nil => intro y h; cases y with | nil => rfl | cons _ _ => simp [eqL] at h
      | cons a x ih =>
        intro y h
        cases y with
        | nil => simp [eqL] at h
        | cons b y =>
          simp only [eqL] at h
          cases hb : Nat.beq a b <;> rw [hb] at h <;> simp only [cond_true, cond_false] at h
          · cases h
          · rw [Nat.eq_of_beq_eq_true hb, ih h]
    rw [key h]
  | _ + 3, h => simp [eqC] at h

theorem eqCs_same : ∀ {ts : List Nat} {l k : List V}, eqCs ts l k = some true → l = k
  | [], [], [], _ => rfl
  | [], [], _ :: _, h => by simp [eqCs] at h
  | [], _ :: _, _, h => by simp [eqCs] at h
  | _ :: _, [], _, h => by simp [eqCs] at h
  | _ :: _, _ :: _, [], h => by simp [eqCs] at h
  | t :: ts, x :: l, y :: k, h => by
    simp only [eqCs] at h
    cases hc : eqC t x y with
    | none => simp [hc] at h
    | some q => cases q with
      | false => simp [hc] at h
      | true =>
        simp only [hc] at h
        rw [eqC_same hc, eqCs_same h]

theorem eqKey_same {agg : Bool} {ts : List Nat} {x y : V} (h : eqKey agg ts x y = some true) : x = y := by
  cases agg with
  | false =>
    simp only [eqKey] at h
    split at h
    · split at h
      · exact eqC_same h
      · cases h
    · cases h
  | true =>
    obtain ⟨l, k, rfl, rfl, h3, h⟩ := eqS_cases (show eqS ts _ _ = some _ from h)
    rw [eqCs_same h]

/-- What finding a key says. -/
theorem findE_spec [Env] {t : TypeId} {agg : Bool} {ts : List Nat} {k : V} {kv : Value} (hk : keyC P t = some (agg, ts)) (hkv : conc ρ k = some kv) (w : World) :
    ∀ (es : List (V × V × Nat)) (L : List MapEntry) (i : Nat) (r : Option (Nat × V × Nat)), EntRel ρ es L → findE agg ts k es i = some r →
      (∀ d, P.underlying t = some d → ∀ r', Instr.findNow d kv L i = some r' → (r = none → r' = none) ∧ ∀ j v b, r = some (j, v, b) → ∃ x, conc ρ v = some x ∧ r' = some (j, x)) ∧
      ((r = none → (Instr.findAsking t kv L i).run P w = .ok none w) ∧ ∀ j v b, r = some (j, v, b) → ∃ x, conc ρ v = some x ∧ (Instr.findAsking t kv L i).run P w = .ok (some (j, x)) w) ∧
      (∀ j v b, r = some (j, v, b) → i ≤ j ∧ es[j - i]? = some (k, v, b))
  | [], [], i, r, _, h => by
    simp only [findE, Option.some.injEq] at h
    subst h
    refine ⟨fun d _ r' hr' => ?_, ⟨fun _ => rfl, fun _ _ _ h => (by cases h)⟩, fun _ _ _ h => (by cases h)⟩
    simp only [Instr.findNow, Option.some.injEq] at hr'
    subst hr'
    exact ⟨fun _ => rfl, fun _ _ _ h => (by cases h)⟩
  | [], _ :: _, _, _, e, _ => e.elim
  | _ :: _, [], _, _, e, _ => e.elim
  | (k', v, b) :: es, e :: L, i, r, ⟨h1, h2, h3, h4⟩, h => by
    simp only [findE] at h
    cases hq : eqKey agg ts k k' with
    | none => simp [hq] at h
    | some q =>
      have heq := eqKey_equal (P := P) hk hq hkv h1 w
      cases q with
      | true =>
        simp only [hq, Option.some.injEq] at h
        subst h
        refine ⟨fun d hd r' hr' => ?_, ⟨fun h => (by cases h), fun j u c h => ?_⟩, fun j u c h => ?_⟩
        · simp only [Instr.findNow] at hr'
          cases hs : Instr.sameNow d kv e.key with
          | none => simp [hs] at hr'
          | some s =>
            have := eqKey_now hk hd hq hkv h1 hs
            subst this
            simp only [hs, Option.some.injEq] at hr'
            subst hr'
            refine ⟨fun h => (by cases h), fun j u c h => ?_⟩
            simp only [Option.some.injEq, Prod.mk.injEq] at h
            obtain ⟨rfl, rfl, rfl⟩ := h
            exact ⟨e.val, h2, rfl⟩
        · simp only [Option.some.injEq, Prod.mk.injEq] at h
          obtain ⟨rfl, rfl, rfl⟩ := h
          exact ⟨e.val, h2, by simp [Instr.findAsking, heq]⟩
        · simp only [Option.some.injEq, Prod.mk.injEq] at h
          obtain ⟨rfl, rfl, rfl⟩ := h
          refine ⟨Nat.le_refl _, ?_⟩
          rw [Nat.sub_self, eqKey_same hq]; rfl
      | false =>
        simp only [hq] at h
        obtain ⟨g1, g2, g3⟩ := findE_spec hk hkv w es L (i + 1) r h4 h
        refine ⟨fun d hd r' hr' => ?_, ⟨fun hn => ?_, fun j u c hj => ?_⟩, fun j u c hj => ?_⟩
        · simp only [Instr.findNow] at hr'
          cases hs : Instr.sameNow d kv e.key with
          | none => simp [hs] at hr'
          | some s =>
            have := eqKey_now hk hd hq hkv h1 hs
            subst this
            simp only [hs] at hr'
            exact g1 d hd r' hr'
        · simp [Instr.findAsking, heq, g2.1 hn]
        · obtain ⟨x, hx, hrun⟩ := g2.2 j u c hj
          exact ⟨x, hx, by simp [Instr.findAsking, heq, hrun]⟩
        · obtain ⟨a1, a2⟩ := g3 j u c hj
          refine ⟨by omega, ?_⟩
          rw [show j - i = (j - (i + 1)) + 1 by omega]
          simpa using a2

theorem findKey_spec [Env] {t : TypeId} {agg : Bool} {ts : List Nat} {k : V} {kv : Value} {es : List (V × V × Nat)} {L : List MapEntry} {r : Option (Nat × V × Nat)} (hk : keyC P t = some (agg, ts)) (hkv : conc ρ k = some kv)
    (he : EntRel ρ es L) (h : findE agg ts k es 0 = some r) (w : World) :
    (r = none → (Instr.findKey t kv L).run P w = .ok none w) ∧ ∀ j v b, r = some (j, v, b) → es[j]? = some (k, v, b) ∧ ∃ x, conc ρ v = some x ∧ (Instr.findKey t kv L).run P w = .ok (some (j, x)) w := by
  obtain ⟨g1, g2, g3⟩ := findE_spec (P := P) hk hkv w es L 0 r he h
  obtain ⟨hag, _⟩ := keyC_spec hk
  simp only [aggO, Option.map_eq_some_iff] at hag
  obtain ⟨d, hd, _⟩ := hag
  unfold Instr.findKey
  simp only [Sem.run_bind, run_under hd, Result.andThen_ok]
  cases hn : Instr.findNow d kv L 0 with
  | some r' =>
    obtain ⟨a1, a2⟩ := g1 d hd r' hn
    refine ⟨fun hr => by rw [a1 hr]; rfl, fun j v b hr => ⟨by simpa using (g3 j v b hr).2, ?_⟩⟩
    obtain ⟨x, hx, e⟩ := a2 j v b hr
    exact ⟨x, hx, by rw [e]; rfl⟩
  | none =>
    refine ⟨fun hr => g2.1 hr, fun j v b hr => ⟨by simpa using (g3 j v b hr).2, ?_⟩⟩
    exact g2.2 j v b hr

/-- A key of a plain type can be a key. -/
theorem checkKey_plain (em : Bool) (w : World) : ∀ (d : Nat) (t : TypeId) (ts : List Nat), plainT P d t = some ts → ∀ (D : Nat), d ≤ D → ∀ (xs : List Value) (x : Value), xs.length = ts.length → AsCells P t x xs →
    (Instr.checkKey em D t x).run P w = .ok () w := by
  intro d
  induction d with
  | zero => intro t ts h; simp [plainT] at h
  | succ d ih =>
    intro t ts h D hD xs x hl hx
    obtain ⟨D, rfl⟩ : ∃ D', D = D' + 1 := ⟨D - 1, by omega⟩
    simp only [plainT] at h
    cases hu : P.underlying t with
    | none => simp [hu] at h
    | some dd =>
      simp only [hu] at h
      have hag := aggO_of hu
      cases dd <;> simp only [] at h <;> try (cases h; done)
      case bool => unfold Instr.checkKey; simp [run_under hu]
      case int kk => unfold Instr.checkKey; simp [run_under hu]
      case string => unfold Instr.checkKey; simp [run_under hu]
      case struct fs =>
        cases hst : P.stoodInHeld t with
        | true => simp [hst] at h
        | false =>
          simp only [hst, Bool.false_eq_true, if_false] at h
          have e1 := hx.1 (by rw [hag]; rfl)
          subst e1
          unfold Instr.checkKey
          simp only [Sem.run_bind, run_under hu, Result.andThen_ok]
          rw [← Array.forIn_toList]
          have hoff : 0 + ts.length = xs.length := by omega
          generalize fs.toList = L at h
          generalize 0 = off at h hoff
          clear hl
          induction L generalizing off ts with
          | nil => simp
          | cons f L ihf =>
            simp only [plainF] at h
            split at h
            · cases h
            · rename_i hcond
              simp only [Bool.or_eq_true, beq_iff_eq, bne_iff_ne, ne_eq, not_or, Decidable.not_not] at hcond
              simp only [Option.bind_eq_some_iff] at h
              obtain ⟨ts', hts', h⟩ := h
              split at h
              · rename_i hsz
                obtain ⟨hsz, hnz⟩ := hsz
                simp only [Option.map_eq_some_iff] at h
                obtain ⟨us', hus', rfl⟩ := h
                obtain ⟨hn, ho⟩ := hcond
                have agf : ∃ b, aggO P f.type = some b := by
                  cases hq : P.underlying f.type with
                  | none => cases d <;> simp [plainT, hq] at hts'
                  | some q => exact ⟨_, aggO_of hq⟩
                obtain ⟨bf, hbf⟩ := agf
                rw [List.length_append] at hoff
                obtain ⟨xf, p1, p2⟩ := part_asCells (P := P) (cs := xs.toArray) (off := off) hbf hsz (fun e => plain_len hts' (by rw [hbf, e])) (by simp; omega) w
                rw [← ho] at p1
                have hc := ih f.type ts' hts' D (by omega) _ xf (by simp; omega) p2
                simp only [List.forIn_cons, Sem.run_bind, hn, ne_eq, not_false_eq_true, if_true, Result.andThen_ok, p1, hc, Sem.run_pure]
                exact ihf us' (off + ts'.length) hus' (by omega)
              · cases h

/-- The shape of a key. -/
def keyOk (agg : Bool) (ts : List Nat) (x : V) : Bool :=
  match agg with
  | true => (match x with | .a l => len3 ts l l | _ => false)
  | false => match ts with
    | [] => false
    | t :: us => (match us with
      | [] => (match t with
        | 0 => (match x with | .b _ => true | _ => false)
        | 1 => (match x with | .i _ _ => true | _ => false)
        | 2 => (match x with | .s _ => true | _ => false)
        | _ => false)
      | _ => false)

theorem keyOk_check [Env] {t : TypeId} {agg : Bool} {ts : List Nat} {x : V} {a : Value} (hk : keyC P t = some (agg, ts)) (h : keyOk agg ts x = true) (ha : conc ρ x = some a) (em : Bool) (w : World) :
    (Instr.checkKey em 10000 t a).run P w = .ok () w := by
  obtain ⟨hag, hpl⟩ := keyC_spec hk
  cases agg with
  | true =>
    simp only [keyOk] at h
    split at h
    · rename_i l
      obtain ⟨xs, _, hxs, rfl⟩ := conc_a ha
      have := (len3_spec h).1
      refine checkKey_plain em w 20 t ts hpl 10000 (by omega) xs _ (by rw [concs_length hxs, this]) ⟨fun _ => rfl, fun h => by rw [hag] at h; cases h⟩
    · cases h
  | false =>
    obtain ⟨tag, rfl, _⟩ := plain_one hpl hag
    exact checkKey_plain em w 20 t [tag] hpl 10000 (by omega) [a] _ rfl ⟨fun h => (by rw [hag] at h; cases h), fun _ => rfl⟩

/-- A key that was there stays. -/
theorem sameBits_self [Env] : ∀ (n : Nat) (x : V) (a : Value), conc ρ x = some a → (∀ l, x = .a l → ∀ u ∈ l, (∃ b, u = .b b) ∨ (∃ k m, u = .i k m) ∨ ∃ s, u = .s s) → ((∃ b, x = .b b) ∨ (∃ k m, x = .i k m) ∨ (∃ s, x = .s s) ∨ ∃ l, x = .a l) → Instr.sameBits (n + 1) a a = true := by
  intro n x a ha hl hx
  have one : ∀ (m : Nat) (u : V) (b : Value), conc ρ u = some b → ((∃ b, u = .b b) ∨ (∃ k m, u = .i k m) ∨ ∃ s, u = .s s) → Instr.sameBits m b b = true := by
    intro m u b hb hu
    rcases hu with ⟨c, rfl⟩ | ⟨k, c, rfl⟩ | ⟨s, rfl⟩
    · simp [conc] at hb; subst hb; simp [Instr.sameBits]
    · simp [conc] at hb; subst hb; simp [Instr.sameBits]
    · obtain ⟨_, rfl⟩ := conc_s hb; simp only [Instr.sameBits, bytes_beq]; simp
  rcases hx with h | h | h | ⟨l, rfl⟩
  · exact one _ _ _ ha (.inl h)
  · exact one _ _ _ ha (.inr (.inl h))
  · exact one _ _ _ ha (.inr (.inr h))
  · obtain ⟨xs, _, hxs, rfl⟩ := conc_a ha
    simp only [Instr.sameBits, beq_self_eq_true, Bool.true_and]
    rw [List.all_eq_true]
    rintro ⟨p, q⟩ hpq
    obtain ⟨i, hi⟩ := List.getElem?_of_mem hpq
    simp only [List.getElem?_zip_eq_some] at hi
    obtain ⟨h1, h2⟩ := hi
    rw [h1] at h2; cases h2
    simp only
    have hi' : i < l.length := by
      rw [← concs_length hxs]
      exact (List.getElem?_eq_some_iff.1 h1).1
    obtain ⟨y, hy, hy2⟩ := concs_get i _ hxs (List.getElem?_eq_getElem hi')
    rw [show xs[i]? = some p from h1] at hy2; cases hy2
    exact one _ _ _ hy (hl l rfl _ (List.getElem_mem hi'))

/-- Cells of keys. -/
theorem eqCs_cells : ∀ {ts : List Nat} {l k : List V}, eqCs ts l k = some true → ∀ u ∈ l, (∃ b, u = .b b) ∨ (∃ k m, u = .i k m) ∨ ∃ s, u = .s s
  | [], [], _, _ => by simp
  | [], _ :: _, k, h => by cases k <;> simp [eqCs] at h
  | _ :: _, [], _, h => by simp [eqCs] at h
  | _ :: _, _ :: _, [], h => by simp [eqCs] at h
  | t :: ts, x :: l, y :: k, h => by
    simp only [eqCs] at h
    cases hc : eqC t x y with
    | none => simp [hc] at h
    | some q => cases q with
      | false => simp [hc] at h
      | true =>
        simp only [hc] at h
        intro u hu
        rcases List.mem_cons.1 hu with rfl | hu
        · match t, hc with
          | 0, hc => cases u <;> simp [eqC] at hc; exact .inl ⟨_, rfl⟩
          | 1, hc => cases u <;> simp [eqC] at hc; exact .inr (.inl ⟨_, _, rfl⟩)
          | 2, hc => cases u <;> simp [eqC] at hc; exact .inr (.inr ⟨_, rfl⟩)
          | _ + 3, hc => simp [eqC] at hc
        · exact eqCs_cells h u hu

theorem key_stays [Env] {agg : Bool} {ts : List Nat} {x y : V} {a : Value} (h : eqKey agg ts x y = some true) (ha : conc ρ x = some a) (w : World) : (Instr.keyThatStays a a).run P w = .ok a w := by
  have hs : Instr.sameBits 10000 a a = true := by
    refine sameBits_self (ρ := ρ) 9999 x a ha ?_ ?_
    · rintro l rfl
      cases agg with
      | true =>
        obtain ⟨l', k, hl, rfl, h3, h⟩ := eqS_cases (show eqS ts (V.a l) y = some true from h)
        cases hl
        exact eqCs_cells h
      | false =>
        simp only [eqKey] at h
        split at h
        · split at h
          · rename_i t _
            match t, h with
            | 0, h => simp [eqC] at h
            | 1, h => simp [eqC] at h
            | 2, h => simp [eqC] at h
            | _ + 3, h => simp [eqC] at h
          · cases h
        · cases h
    · cases agg with
      | true =>
        obtain ⟨l', k, rfl, rfl, h3, h⟩ := eqS_cases (show eqS ts _ _ = some _ from h)
        exact .inr (.inr (.inr ⟨_, rfl⟩))
      | false =>
        simp only [eqKey] at h
        split at h
        · split at h
          · rename_i t _
            match t, h with
            | 0, h => cases x <;> simp [eqC] at h; exact .inl ⟨_, rfl⟩
            | 1, h => cases x <;> simp [eqC] at h; exact .inr (.inl ⟨_, _, rfl⟩)
            | 2, h => cases x <;> simp [eqC] at h; exact .inr (.inr (.inl ⟨_, rfl⟩))
            | _ + 3, h => simp [eqC] at h
          · cases h
        · cases h
  unfold Instr.keyThatStays
  rw [if_pos hs]
  rfl

end
end Go.Eng

