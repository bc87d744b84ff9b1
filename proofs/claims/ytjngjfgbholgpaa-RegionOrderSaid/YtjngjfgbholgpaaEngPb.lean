/- The engine, part Pb: operations on maps and calls of methods do what the model says. -/
import Derived.Test.YtjngjfgbholgpaaEngP
set_option linter.unusedSimpArgs false
set_option linter.unusedVariables false
namespace Go.Eng
section
variable {P : Program} {ρ : Ren} {ng : Nat} {fr : Tr V} {a : Act} {h h' : H} {w : World}

/-- OPERATIONS ON MAPS. -/
theorem mp_sound [Env] {o : Oper} {i : MI} {v : V} (hg : Glob ng ρ) (hf : FrRel ρ fr a.tmps) (hr : HRel ρ h w) (hc : cM P ng o = some i) (hv : mpI fr h i = some (v, h')) : Heavy1 P ρ h w o a v h' := by
  unfold cM at hc
  split at hc
  case h_1 t hop =>
    split at hc
    · rename_i hu
      cases hc
      simp only [mpI, Option.some.injEq, Prod.mk.injEq] at hv
      obtain ⟨rfl, rfl⟩ := hv
      obtain ⟨p1, p2⟩ := hr.new (.m [] 0) (.map #[] 0) 0 ⟨[], rfl, trivial⟩
      exact ⟨_, .value (.map (some w.heap.size)), _, by simp [execOp, hop, Instr.makeMap], .inl ⟨_, rfl, by simp [conc, Ren.add_self]⟩, p1, p2⟩
    · cases hc
  case h_2 t m k x hop =>
    simp only [Option.bind_eq_some_iff, Option.map_eq_some_iff] at hc
    obtain ⟨⟨agg, ts⟩, hk, m', hm, k', hk', x', hx, rfl⟩ := hc
    obtain ⟨rfl, w', r1, r2, r3⟩ := up_spec (P := P) hk hr hv (ev_spec hg hf hm) (ev_spec hg hf hk') (ev_spec hg hf hx)
    exact ⟨ρ, .skip, w', by simp [execOp, hop, r1], .inr ⟨rfl, rfl⟩, r2, r3⟩
  case h_3 t m k x hop =>
    simp only [Option.bind_eq_some_iff, Option.map_eq_some_iff] at hc
    obtain ⟨⟨agg, ts⟩, hk, m', hm, k', hk', x', hx, rfl⟩ := hc
    obtain ⟨rfl, w', r1, r2, r3⟩ := up_spec (P := P) hk hr hv (ev_spec hg hf hm) (ev_spec hg hf hk') (ev_spec hg hf hx)
    exact ⟨ρ, .skip, w', by simp [execOp, hop, r1], .inr ⟨rfl, rfl⟩, r2, r3⟩
  case h_4 t m k hop =>
    simp only [Option.bind_eq_some_iff, Option.map_eq_some_iff] at hc
    obtain ⟨⟨agg, ts⟩, hk, z, hz, m', hm, k', hk', rfl⟩ := hc
    obtain ⟨y, w', r1, r2, r3, r4⟩ := mentry_spec (P := P) hk hz hr hv (ev_spec hg hf hm) (ev_spec hg hf hk')
    exact ⟨ρ, .value y, w', by simp [execOp, hop, r1], .inl ⟨y, rfl, r2⟩, r3, r4⟩
  case h_5 t m s x hop =>
    simp only [Option.bind_eq_some_iff, Option.map_eq_some_iff] at hc
    obtain ⟨m', hm, s', hs, x', hx, rfl⟩ := hc
    simp only [mpI] at hv
    cases hn : asN (ev fr s') with
    | none => rw [hn] at hv; simp only [mStV] at hv; split at hv <;> cases hv
    | some n =>
      rw [hn] at hv
      obtain ⟨rfl, w', r1, r2, r3⟩ := est_spec (P := P) (t := t) hr hv (ev_spec hg hf hm) hn (ev_spec hg hf hs) (ev_spec hg hf hx)
      exact ⟨ρ, .skip, w', by simp [execOp, hop, r1], .inr ⟨rfl, rfl⟩, r2, r3⟩
  case h_6 t x hop =>
    split at hc
    · rename_i kt e hu
      simp only [Option.map_eq_some_iff] at hc
      obtain ⟨x', hx, rfl⟩ := hc
      obtain ⟨ρ', y, w', r1, r2, r3, r4⟩ := rng_spec (P := P) hu hr hv (ev_spec hg hf hx)
      exact ⟨ρ', .value y, w', by simp [execOp, hop, r1], .inl ⟨y, rfl, r2⟩, r3, r4⟩
    · cases hc
  case h_7 x hop =>
    simp only [Option.map_eq_some_iff] at hc
    obtain ⟨x', hx, rfl⟩ := hc
    obtain ⟨y, w', r1, r2, r3, r4⟩ := nxt_spec (P := P) (ty := o.type) hr hv (ev_spec hg hf hx)
    exact ⟨ρ, .value y, w', by simp [execOp, hop, r1], .inl ⟨y, rfl, r2⟩, r3, r4⟩
  case h_8 args ats hop =>
    split at hc
    · rename_i t tl m k hts has
      have e2 : args = #[m, k] := by apply Array.ext'; simpa using has
      subst e2
      simp only [Option.bind_eq_some_iff, Option.map_eq_some_iff] at hc
      obtain ⟨⟨agg, ts⟩, hk, m', hm, k', hk', rfl⟩ := hc
      have hat : ats[0]? = some t := by rw [← Array.getElem?_toList, hts]; rfl
      obtain ⟨rfl, w', r1, r2, r3⟩ := del_spec (P := P) (ty := o.type) hat hk hr hv (ev_spec hg hf hm) (ev_spec hg hf hk')
      exact ⟨ρ, .value (.tuple #[]), w', by simp [execOp, hop, resolve, invoke, builtin, r1], .inl ⟨_, rfl, rfl⟩, r2, r3⟩
    · cases hc
  case h_9 f args _ hop =>
    split at hc
    · rename_i fn x hfn hargs
      split at hc
      · rename_i hext
        simp only [Option.map_eq_some_iff] at hc
        obtain ⟨x', hx, rfl⟩ := hc
        simp only [isExt, Bool.and_eq_true, beq_iff_eq] at hext
        obtain ⟨hb, hname, horig⟩ := hext
        obtain ⟨ρ', y, w', r1, r2, r3, r4⟩ := cln_spec (P := P) hr hv (ev_spec hg hf hx)
        have hfind : Extern.find fn = some Extern.MapsClone.clone := by
          unfold Extern.find
          simp only [hname, horig]
          rfl
        have hnext : Extern.findNext fn = none := by
          unfold Extern.findNext
          simp only [hname, horig]
          rfl
        have hca : args = #[x] := by cases args; simp at hargs; rw [hargs]
        have hrun := run_callFunc_extern (P := P) hfn (by rw [hname]; decide) hb hnext hfind #[a.eval x] w
        rw [r1] at hrun
        simp only [Result.andThen_ok] at hrun
        have ef : a.eval (.func f) = .func (.func f) #[] #[] := rfl
        have hmap : args.map a.eval = #[a.eval x] := by rw [hca]; simp
        refine ⟨ρ', .value y, w', ?_, .inl ⟨y, rfl, r2⟩, r3, r4⟩
        simp only [execOp, hop, resolve, ef, Deferred.ofValue, Sem.run_bind, Sem.run_pure, Result.andThen_ok, invoke, hmap]
        simpa using hrun
      · cases hc
    · cases hc
  case h_10 => cases hc


/-! ### Calls of methods -/

/-- What soundness says of a call. -/
def Call1 [Env] (P : Program) (ρ : Ren) (o : Oper) (a : Act) (w : World) (f : Path) (args : List V) : Prop :=
  ∃ xs, concs ρ args = some xs ∧ (execOp a.eval o).run P w = (callFunc f.num xs.toArray).run P w

theorem evs_concs [Env] {l : List Operand} {os : List Opd} (hg : Glob ng ρ) (hf : FrRel ρ fr a.tmps) (hc : cOs ng l = some os) : concs ρ (evs fr os) = some (l.map a.eval) := evs_spec hg hf hc

def cInv (P : Program) (ng : Nat) (o : Oper) : Option HI :=
  match o.op with
  | .call { callee := .invoke recv name, args, argTypes := _ } => (cO ng recv).bind fun x => (cOs ng args.toList).map fun l => .inv (rowsFrom P name P.types.toList 0) x l
  | _ => none

theorem inv_sound [Env] {o : Oper} {name : String} {recv : Operand} {args : Array Operand} {ats : Array TypeId} {x : Opd} {l : List Opd} {f : Path} {as : List V} (hg : Glob ng ρ) (hf : FrRel ρ fr a.tmps) (hr : HRel ρ h w)
    (hop : o.op = .call { callee := .invoke recv name, args, argTypes := ats }) (hx : cO ng recv = some x) (hl : cOs ng args.toList = some l)
    (hv : invV h (rowsFrom P name P.types.toList 0) (ev fr x) (evs fr l) = some (f, as)) : Call1 P ρ o a w f as := by
  have ex := ev_spec hg hf hx
  have el := evs_concs hg hf hl
  unfold invV at hv
  split at hv
  · rename_i t v he
    rw [he] at ex
    obtain ⟨y, hy, ex⟩ := conc_ifc ex
    cases hft : findT t (rowsFrom P name P.types.toList 0) with
    | none => rw [hft] at hv; cases hv
    | some r =>
      rw [hft] at hv
      obtain ⟨i, _, hi, hrow⟩ := findT_spec (P := P) P.types.toList 0 t r hft
      have hi := info_types (P := P) (by simpa using hi)
      simp only [rowOf, Option.bind_eq_some_iff] at hrow
      obtain ⟨m, hm, hrow⟩ := hrow
      split at hrow
      · rename_i f0 pr hpath hfunc
        have hm' : i.methods.find? (·.name == name) = some m := by rw [← Array.find?_toList]; exact hm
        have hargs : (args.map a.eval) = (args.toList.map a.eval).toArray := by apply Array.ext'; simp
        -- the receiver decides
        have fin : ∀ (rv : Value) (u : V), conc ρ u = some rv → (receiverAt t (.val y) pr (if m.path.isEmpty then some ((name.splitOn ".").getLastD name) else none)).run P w = .ok rv w →
            Call1 P ρ o a w (Path.of f0) (u :: evs fr l) := by
          intro rv u hu hrun
          refine ⟨rv :: args.toList.map a.eval, by simp [concs, hu, el], ?_⟩
          have hmeth : (method (P.types.size + Made.depth) t y name).run P w = .ok (f0, rv) w := by
            rw [show P.types.size + Made.depth = (P.types.size + 99) + 1 from rfl, method]
            simp only [typeInfo, Sem.run_bind, run_program, Result.andThen_ok, hi, Sem.run_pure, hm', hpath, follow, hfunc, hrun]
          have ha2 : #[a.eval recv] ++ args.map a.eval = (a.eval recv :: args.toList.map a.eval).toArray := by rw [hargs]; simp
          have e1 : ((a.eval recv :: args.toList.map a.eval).toArray)[0]? = some (.iface t y) := by simp [ex]
          have e2 : ((a.eval recv :: args.toList.map a.eval).toArray).extract 1 ((a.eval recv :: args.toList.map a.eval).toArray).size = (args.toList.map a.eval).toArray := by
            apply Array.ext'
            simp only [List.size_toArray, List.length_cons, List.length_map, Array.toList_extract, List.extract_eq_take_drop, List.drop_succ_cons, List.drop_zero, Nat.add_sub_cancel]
            exact List.take_of_length_le (by simp)
          simp only [execOp, hop, resolve, Sem.run_bind, Sem.run_pure, Result.andThen_ok, invoke, ha2, e1, e2, callMethod, run_program, hmeth, Path.num_of]
          have e3 : #[rv] ++ (args.toList.map a.eval).toArray = (rv :: args.toList.map a.eval).toArray := by simp
          rw [e3]
        cases hu : P.underlying t with
        | none => simp [hu] at hrow
        | some d =>
          have nonptr : (∀ e, d ≠ .pointer e) → pr = false → r = (Path.of f0, none) → Call1 P ρ o a w f as := by
            rintro hd rfl rfl
            simp only [invR, Option.some.injEq, Prod.mk.injEq] at hv
            obtain ⟨rfl, rfl⟩ := hv
            refine fin y v hy ?_
            unfold receiverAt
            simp only [Sem.run_bind, run_under hu, Result.andThen_ok]
            cases d <;> first | exact absurd rfl (hd _) | rfl
          cases d
          case pointer e =>
            simp only [hu] at hrow
            cases pr with
            | true =>
              simp only [if_true, Option.some.injEq] at hrow
              subst hrow
              simp only [invR, Option.some.injEq, Prod.mk.injEq] at hv
              obtain ⟨rfl, rfl⟩ := hv
              refine fin y v hy ?_
              unfold receiverAt
              simp only [Sem.run_bind, run_under hu, Result.andThen_ok]
              rfl
            | false =>
              simp only [Bool.false_eq_true, if_false, Option.bind_eq_some_iff, Option.map_eq_some_iff] at hrow
              obtain ⟨g, hg', n, hn, rfl⟩ := hrow
              simp only [invR] at hv
              split at hv
              · rename_i u hld
                simp only [Option.some.injEq, Prod.mk.injEq] at hv
                obtain ⟨rfl, rfl⟩ := hv
                obtain ⟨z, hz, hrun⟩ := load_spec (P := P) hr hld hy hg' hn
                refine fin z u hz ?_
                have hp : m.path.isEmpty = true := by
                  have : m.path = #[] := by apply Array.ext'; simpa using hpath
                  rw [this]; rfl
                -- the pointer is not nil
                have hptr : ∃ ad, y = .pointer (some ad) := by
                  unfold loadV at hld
                  split at hld
                  · obtain ⟨q, _, rfl⟩ := conc_p hy; exact ⟨_, rfl⟩
                  · cases hld
                obtain ⟨ad, rfl⟩ := hptr
                have hload : (loadVar e ad).run P w = .ok z w := by simpa [Instr.loadAt, Instr.sureAddr] using hrun
                unfold receiverAt
                have hnc : ∀ (s u : String) (ts : Array TypeId) (ty : TypeId), Builtin.ssaWrapNilChk_ ts ty #[.pointer (some ad), strVal s, strVal u] = (pure (.pointer (some ad)) : Sem Value) := fun _ _ _ _ => rfl
                simp only [Sem.run_bind, run_under hu, Result.andThen_ok, hp, if_true, Place.get, Sem.run_pure, hnc, asAddr, hload]
              · cases hv
          all_goals
            simp only [hu] at hrow
            cases pr with
            | true => simp at hrow
            | false =>
              simp only [Bool.false_eq_true, if_false, Option.some.injEq] at hrow
              exact nonptr (by intros; simp) rfl hrow.symm
      · cases hrow
  · cases hv

end
end Go.Eng
