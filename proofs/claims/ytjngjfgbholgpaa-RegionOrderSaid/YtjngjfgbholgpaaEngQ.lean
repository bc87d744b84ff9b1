/- The engine, part Q: the compilation of operations that write or call, and their soundness. -/
import Derived.Test.YtjngjfgbholgpaaEngPb
set_option linter.unusedSimpArgs false
set_option linter.unusedVariables false
namespace Go.Eng

def cApp (P : Program) (ng : Nat) (T xT : TypeId) (x y : Operand) : Option HI :=
  match P.underlying T with
  | some (.slice e) => (P.underlying xT).bind fun d => (P.info? e).bind fun i => (zeroO P e).bind fun z =>
      if notInt d = true ∧ i.bytes ≠ 0 ∧ i.size ≠ 0 ∧ z.length = i.size then (cO ng x).bind fun x => (cO ng y).map fun y => .append i.size i.bytes e x y else none
  | _ => none

def cCopy (P : Program) (ng : Nat) (T : TypeId) (x y : Operand) : Option HI :=
  match P.underlying T with
  | some (.slice e) => (szO P e).bind fun s => (cO ng x).bind fun x => (cO ng y).map fun y => .copy s x y
  | _ => none

def cClear (P : Program) (ng : Nat) (T : TypeId) (x : Operand) : Option HI :=
  match P.underlying T with
  | some (.slice e) => (szO P e).bind fun s => (zeroO P e).bind fun z => (cO ng x).map fun x => .clear s z x
  | _ => none

def cH0 (P : Program) (ng : Nat) (o : Oper) : Option HI :=
  match o.op with
  | .store t x y => (szO P t).bind fun n => (cO ng x).bind fun x => (cO ng y).map fun y => .store n x y
  | .call c => match c.callee with
    | .value (.func f) => (cOs ng c.args.toList).map fun l => .call (Path.of f) l
    | .value f => (cO ng f).bind fun f => (cOs ng c.args.toList).map fun l => .callv f l
    | .builtin .append => match c.argTypes.toList, c.args.toList with
      | [T, xT], [x, y] => cApp P ng T xT x y
      | _, _ => none
    | .builtin .copy => match c.argTypes.toList, c.args.toList with
      | [T, _], [x, y] => cCopy P ng T x y
      | _, _ => none
    | .builtin .clear => match c.argTypes.toList, c.args.toList with
      | [T], [x] => cClear P ng T x
      | _, _ => none
    | _ => none
  | _ => none

def cH (P : Program) (ng : Nat) (o : Oper) : Option HI :=
  match cM P ng o with
  | some i => some (.mp i)
  | none => match cInv P ng o with
    | some i => some i
    | none => cH0 P ng o

section
variable {P : Program} {ρ : Ren} {ng : Nat} {fr : Tr V} {a : Act} {h h' : H} {w : World}

theorem takeE_some {α : Type} {n : Nat} {l r : List α} (h : takeE n l = some r) : n ≤ l.length ∧ r = l.take n := by
  rw [takeE_eq] at h
  split at h
  · rename_i hn; cases h; exact ⟨hn, rfl⟩
  · cases h

theorem copy_spec [Env] {T xT e ty : TypeId} {es : Nat} {x y : V} {u z : Value} {v : V} (hT : P.underlying T = some (.slice e)) (hs : szO P e = some es) (hr : HRel ρ h w)
    (hv : copyV h es x (srcOf h es y) = .v v h') (hx : conc ρ x = some u) (hy : conc ρ y = some z) :
    ∃ r w', (Builtin.copy_ #[T, xT] ty #[u, z]).run P w = .ok r w' ∧ conc ρ v = some r ∧ HRel ρ h' w' ∧ Ext ρ h w ρ h' w' := by
  unfold copyV at hv
  split at hv
  · cases hv
  rename_i l n hsrc
  obtain ⟨xs, hxs, ho1, hxl, hlo, hfc, hft⟩ := src_spec (P := P) hr hsrc hy
  split at hv
  · cases hv
    simp [conc] at hx; subst hx
    refine ⟨goInt 0, w, ?_, rfl, hr, .refl _ _ _⟩
    have := hft 0 (Nat.zero_le _)
    simp only [Nat.zero_mul, List.take_zero] at this
    simp only [Builtin.copy_, List.getElem?_toArray, List.getElem?_cons_zero, List.getElem?_cons_succ, Sem.run_bind, run_under hT, Result.andThen_ok, hlo, run_szO hs]
    rw [show n.min 0 = 0 by simp, this]
    rfl
  · rename_i b o m cap ex es'
    split at hv
    · rename_i l2 hl2
      split at hv
      · rename_i h2 hst
        simp only [HR.v.injEq] at hv
        obtain ⟨rfl, rfl⟩ := hv
        obtain ⟨hle, rfl⟩ := takeE_some hl2
        obtain ⟨q, hq, c1, c2, c3, rfl⟩ := conc_sl hx
        have hone : (l.take (n.min m * es)).all V.one = true := by
          rw [List.all_eq_true] at ho1 ⊢
          exact fun u hu => ho1 u (List.mem_of_mem_take hu)
        obtain ⟨w', r1, r2, r3⟩ := storeC_spec (P := P) hr hst hq (concs_take _ hxs) hone
        refine ⟨goInt (n.min m), w', ?_, rfl, r2, r3⟩
        have := hft (n.min m) (Nat.min_le_left _ _)
        simp only [Builtin.copy_, List.getElem?_toArray, List.getElem?_cons_zero, List.getElem?_cons_succ, Sem.run_bind, run_under hT, Result.andThen_ok, hlo, run_szO hs, this]
        simp [r1]
      · cases hv
    · cases hv
  · cases hv

theorem clear_spec [Env] {T e ty : TypeId} {zl : List V} {x : V} {u : Value} {v : V} (hT : P.underlying T = some (.slice e)) (hz : zeroO P e = some zl) (hr : HRel ρ h w)
    (hv : clearV h zl x = .v v h') (hx : conc ρ x = some u) :
    ∃ w', (Builtin.clear_ #[T] ty #[u]).run P w = .ok (.tuple #[]) w' ∧ v = undefV ∧ HRel ρ h' w' ∧ Ext ρ h w ρ h' w' := by
  obtain ⟨it, zv, hi, hzv, hcz, h1⟩ := zeroO_spec hz
  unfold clearV at hv
  split at hv
  · cases hv
    simp [conc] at hx; subst hx
    exact ⟨w, by simp [Builtin.clear_, run_under hT], rfl, hr, .refl _ _ _⟩
  · rename_i b o m cap ex es'
    obtain ⟨q, hq, c1, c2, c3, rfl⟩ := conc_sl hx
    split at hv
    · cases hv
      exact ⟨w, by simp [Builtin.clear_, run_under hT], rfl, hr, .refl _ _ _⟩
    · rename_i n
      split at hv
      · rename_i h2 hst
        simp only [HR.v.injEq] at hv
        obtain ⟨rfl, rfl⟩ := hv
        obtain ⟨w', r1, r2, r3⟩ := storeC_spec (P := P) hr hst hq (rep_concs (hcz ρ) (n + 1)) (rep_all h1 (n + 1))
        refine ⟨w', ?_, rfl, r2, r3⟩
        have e1 : (Builtin.zeroCells zv.cells (n + 1)).toList = rep (n + 1) zv.cells.toList := by
          have := range_rep zv.cells (n + 1) zv.cells.size rfl
          rw [← this]; rfl
        simp [Builtin.clear_, run_under hT, zeroValue, typeInfo, hi, hzv, e1, r1]
      · cases hv
  · cases hv

/-- OPERATIONS THAT WRITE OR CALL. -/
theorem hv_sound0 [Env] {o : Oper} {i : HI} (hg : Glob ng ρ) (hf : FrRel ρ fr a.tmps) (hr : HRel ρ h w) (hc : cH0 P ng o = some i) :
    (∀ v h', hvI fr h i = .v v h' → Heavy1 P ρ h w o a v h') ∧ (∀ f args, hvI fr h i = .call f args → Call1 P ρ o a w f args) := by
  unfold cH0 at hc
  split at hc
  case h_1 t x y hop =>
    simp only [Option.bind_eq_some_iff, Option.map_eq_some_iff] at hc
    obtain ⟨n, hn, x', hx, y', hy, rfl⟩ := hc
    refine ⟨fun v h' hv => ?_, fun f args hv => ?_⟩
    · obtain ⟨rfl, w', r1, r2, r3⟩ := store_spec (P := P) hr hv (ev_spec hg hf hx) (ev_spec hg hf hy) hn
      exact ⟨ρ, .skip, w', by simp [execOp, hop, r1], .inr ⟨rfl, rfl⟩, r2, r3⟩
    · simp only [hvI, storeV] at hv
      split at hv
      · split at hv
        · rename_i l _
          cases hb : Nat.beq l.length n <;> rw [hb] at hv <;> simp only [cond_true, cond_false] at hv
          · cases hv
          · split at hv <;> cases hv
        · cases hv
      · cases hv
  case h_2 c hop =>
    obtain ⟨callee, args, ats⟩ := c
    simp only at hc
    split at hc
    · rename_i f
      simp only [Option.map_eq_some_iff] at hc
      obtain ⟨l, hl, rfl⟩ := hc
      refine ⟨fun v h' hv => by simp [hvI] at hv, fun g as hv => ?_⟩
      simp only [hvI, HR.call.injEq] at hv
      obtain ⟨rfl, rfl⟩ := hv
      refine ⟨_, evs_concs hg hf hl, ?_⟩
      have : (args.map a.eval) = (args.toList.map a.eval).toArray := by apply Array.ext'; simp
      simp only [execOp, hop, resolve, Deferred.ofValue, Sem.run_bind, Act.eval, Sem.run_pure, Result.andThen_ok, invoke, Path.num_of]
      rw [← this]
      simp
    · rename_i f _
      simp only [Option.bind_eq_some_iff, Option.map_eq_some_iff] at hc
      obtain ⟨f', hf', l, hl, rfl⟩ := hc
      have ef := ev_spec hg hf hf'
      refine ⟨fun v h' hv => ?_, fun g as hv => ?_⟩
      · simp only [hvI, callvV] at hv
        split at hv <;> cases hv
      · simp only [hvI, callvV] at hv
        split at hv
        · rename_i fn caps hfn
          simp only [HR.call.injEq] at hv
          obtain ⟨rfl, rfl⟩ := hv
          rw [hfn] at ef
          obtain ⟨cs, hcs, ef⟩ := conc_f ef
          refine ⟨_, concs_append (evs_concs hg hf hl) hcs, ?_⟩
          have : (args.map a.eval) = (args.toList.map a.eval).toArray := by apply Array.ext'; simp
          simp only [execOp, hop, resolve, ef, Deferred.ofValue, Sem.run_bind, Sem.run_pure, Result.andThen_ok, invoke]
          rw [this]
          simp
        · cases hv
    · split at hc
      · rename_i T xT x y hts has
        have e1 : ats = #[T, xT] := by apply Array.ext'; simpa using hts
        have e2 : args = #[x, y] := by apply Array.ext'; simpa using has
        subst e1; subst e2
        unfold cApp at hc
        split at hc
        · rename_i e hT
          simp only [Option.bind_eq_some_iff] at hc
          obtain ⟨d, hd, inf, hinf, z, hz, hc⟩ := hc
          split at hc
          · rename_i hcond
            simp only [Option.bind_eq_some_iff, Option.map_eq_some_iff] at hc
            obtain ⟨x', hx, y', hy, rfl⟩ := hc
            obtain ⟨it, zv, hi, hzv, hcz, h1⟩ := zeroO_spec hz
            rw [hinf] at hi; cases hi
            have A : App P T xT e inf zv d := ⟨hT, hd, hcond.1, hinf, hzv, hcond.2.1, hcond.2.2.1, by have := concs_length (hcz ρ); simp at this; omega⟩
            have nocall : ∀ f args, appV h inf.size inf.bytes e (ev fr x') (srcOf h inf.size (ev fr y')) ≠ .call f args := by
              intro f as hq
              have ng : ∀ h es bytes elem need l, growV h es bytes elem need l ≠ .call f as := by
                intro h es bytes elem need l hq
                unfold growV at hq
                cases hb : Nat.ble ((2 * need + 192) * bytes) 281474976710656 <;> rw [hb] at hq <;> cases hq
              unfold appV at hq
              split at hq
              · cases hq
              · split at hq
                · split at hq <;> cases hq
                · split at hq
                  · exact ng _ _ _ _ _ _ hq
                  · rename_i b off len cap ex es' _
                    cases hb : Nat.beq inf.size es' <;> rw [hb] at hq <;> simp only [cond_true, cond_false] at hq
                    · cases hq
                    · unfold appSl at hq
                      split at hq
                      · split at hq <;> cases hq
                      · split at hq
                        · split at hq
                          · exact ng _ _ _ _ _ _ hq
                          · cases hq
                        · cases hb : Nat.beq off 0 <;> rw [hb] at hq <;> simp only [cond_true, cond_false] at hq
                          · cases hq
                          · unfold appAmb at hq
                            split at hq
                            · rename_i ro cs e' _
                              cases ro <;> simp only [cond_true, cond_false] at hq
                              · cases hb : Nat.beq e' e <;> rw [hb] at hq <;> simp only [cond_true, cond_false] at hq
                                · cases hq
                                · split at hq
                                  · exact ng _ _ _ _ _ _ hq
                                  · cases hq
                              · cases hq
                            · cases hq
                  · cases hq
            refine ⟨fun v h' hv => ?_, fun f as hv => absurd hv (nocall f as)⟩
            obtain ⟨ρ', r, w', g1, g2, g3, g4⟩ := append_spec (P := P) (ty := o.type) A hr hv (ev_spec hg hf hx) (ev_spec hg hf hy)
            exact ⟨ρ', .value r, w', by simp [execOp, hop, resolve, invoke, builtin, g1], .inl ⟨r, rfl, g2⟩, g3, g4⟩
          · cases hc
        · cases hc
      · cases hc
    · split at hc
      · rename_i T xT x y hts has
        have e1 : ats = #[T, xT] := by apply Array.ext'; simpa using hts
        have e2 : args = #[x, y] := by apply Array.ext'; simpa using has
        subst e1; subst e2
        unfold cCopy at hc
        split at hc
        · rename_i e hT
          simp only [Option.bind_eq_some_iff, Option.map_eq_some_iff] at hc
          obtain ⟨s, hs, x', hx, y', hy, rfl⟩ := hc
          refine ⟨fun v h' hv => ?_, fun f as hv => ?_⟩
          · obtain ⟨r, w', g1, g2, g3, g4⟩ := copy_spec (P := P) (xT := xT) (ty := o.type) hT hs hr hv (ev_spec hg hf hx) (ev_spec hg hf hy)
            exact ⟨ρ, .value r, w', by simp [execOp, hop, resolve, invoke, builtin, g1], .inl ⟨r, rfl, g2⟩, g3, g4⟩
          · simp only [hvI, copyV] at hv
            split at hv
            · cases hv
            · split at hv
              · cases hv
              · split at hv
                · split at hv <;> cases hv
                · cases hv
              · cases hv
        · cases hc
      · cases hc
    · split at hc
      · rename_i T x hts has
        have e1 : ats = #[T] := by apply Array.ext'; simpa using hts
        have e2 : args = #[x] := by apply Array.ext'; simpa using has
        subst e1; subst e2
        unfold cClear at hc
        split at hc
        · rename_i e hT
          simp only [Option.bind_eq_some_iff, Option.map_eq_some_iff] at hc
          obtain ⟨s, hs, z, hz, x', hx, rfl⟩ := hc
          refine ⟨fun v h' hv => ?_, fun f as hv => ?_⟩
          · obtain ⟨w', g1, rfl, g3, g4⟩ := clear_spec (P := P) (ty := o.type) hT hz hr hv (ev_spec hg hf hx)
            exact ⟨ρ, .value (.tuple #[]), w', by simp [execOp, hop, resolve, invoke, builtin, g1], .inl ⟨_, rfl, rfl⟩, g3, g4⟩
          · simp only [hvI, clearV] at hv
            split at hv
            · cases hv
            · split at hv
              · cases hv
              · split at hv <;> cases hv
            · cases hv
        · cases hc
      · cases hc
    · cases hc
  case h_3 => cases hc

/-- OPERATIONS THAT WRITE OR CALL. -/
theorem hv_sound [Env] {o : Oper} {i : HI} (hg : Glob ng ρ) (hf : FrRel ρ fr a.tmps) (hr : HRel ρ h w) (hc : cH P ng o = some i) :
    (∀ v h', hvI fr h i = .v v h' → Heavy1 P ρ h w o a v h') ∧ (∀ f args, hvI fr h i = .call f args → Call1 P ρ o a w f args) := by
  unfold cH at hc
  split at hc
  · rename_i i' hm
    cases hc
    refine ⟨fun v h' hv => ?_, fun f as hv => ?_⟩
    · simp only [hvI, mpR] at hv
      split at hv
      · rename_i u k hi
        simp only [HR.v.injEq] at hv
        obtain ⟨rfl, rfl⟩ := hv
        exact mp_sound hg hf hr hm hi
      · cases hv
    · simp only [hvI, mpR] at hv
      split at hv <;> cases hv
  · split at hc
    · rename_i i' hi
      cases hc
      unfold cInv at hi
      split at hi
      · rename_i recv name args ats hop
        simp only [Option.bind_eq_some_iff, Option.map_eq_some_iff] at hi
        obtain ⟨x, hx, l, hl, rfl⟩ := hi
        refine ⟨fun v h' hv => ?_, fun f as hv => ?_⟩
        · simp only [hvI, invH] at hv
          split at hv <;> cases hv
        · simp only [hvI, invH] at hv
          split at hv
          · rename_i f' as' he
            simp only [HR.call.injEq] at hv
            obtain ⟨rfl, rfl⟩ := hv
            exact inv_sound hg hf hr hop hx hl he
          · cases hv
      · cases hi
    · exact hv_sound0 hg hf hr hc

end
end Go.Eng
