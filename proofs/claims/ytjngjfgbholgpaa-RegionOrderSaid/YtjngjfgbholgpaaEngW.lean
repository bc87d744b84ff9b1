/- The engine, part W: calls are sound. -/
import Derived.Test.YtjngjfgbholgpaaEngUa
set_option linter.unusedSimpArgs false
set_option linter.unusedVariables false
namespace Go.Eng
section
variable {P : Program} {ng : Nat} {tab : Tr (Option F)} {plan : Array Oper → Option (List It)} {n : Nat} {ρ : Ren}

/-- What is known of a function by other means is right. -/
def OrcOk [Env] (P : Program) (ng : Nat) (f : Path) (o : List V → H → Rs) : Prop :=
  ∀ args h x q h', o args h = .one x q h' → CallOk P ng f args h (q.get undefV .e) h'

def TabOk [Env] (P : Program) (ng : Nat) (plan : Array Oper → Option (List It)) (tab : Tr (Option F)) : Prop :=
  ∀ f F, tab.get none f = some F → (∃ fn, P.funcs[f.num]? = some fn ∧ cF P ng plan fn = some F) ∨ ∃ o, F.orc = some o ∧ OrcOk P ng f o

theorem putArgs_get : ∀ (l : List V) (k : Nat) (fr : Tr V), (∀ t, t < k + l.length → fr.mem (Path.of t) = true) → ∀ t,
    (putArgs (Path.of k) l fr).get undefV (Path.of t) = if k ≤ t ∧ t < k + l.length then l.getD (t - k) undefV else fr.get undefV (Path.of t)
  | [], k, fr, _, t => by simp [putArgs]; omega
  | v :: l, k, fr, hm, t => by
    simp only [putArgs]
    have ih := putArgs_get l (k + 1) (fr.set (Path.of k) v) (fun t ht => by rw [Tr.mem_set]; exact hm t (by simp; omega)) t
    rw [show (Path.of k).succ = Path.of (k + 1) from rfl, ih, Tr.get_set]
    have hk := hm k (by simp)
    by_cases h1 : k + 1 ≤ t ∧ t < k + 1 + l.length
    · rw [if_pos h1, if_pos (by simp; omega), show t - k = (t - (k + 1)) + 1 by omega]
      simp
    · rw [if_neg h1]
      by_cases h2 : t = k
      · subst h2
        rw [if_pos ⟨rfl, hk⟩, if_pos (by simp)]
        simp
      · rw [if_neg (fun c => h2 (Path.of_inj c.1)), if_neg (by simp; omega)]

theorem putArgs_mem : ∀ (l : List V) (k : Path) (fr : Tr V) (p : Path), (putArgs k l fr).mem p = fr.mem p
  | [], _, _, _ => rfl
  | v :: l, k, fr, p => by simp only [putArgs]; rw [putArgs_mem l, Tr.mem_set]

theorem frame_enter [Env] {args : List V} {xs : List Value} {m : Nat} (h : concs ρ args = some xs) (hle : args.length ≤ m) :
    FrRel ρ (putArgs .e args (Tr.fill undefV m m)) (xs.toArray ++ Array.replicate (m - xs.toArray.size) undef) := by
  have hlen := concs_length h
  have hmem : ∀ t, (Tr.fill undefV m m).mem (Path.of t) = decide (t < m) := by
    intro t; rw [Tr.mem_fill undefV m m (Nat.le_refl _), Path.num_of]
  refine ⟨fun t => ?_, fun t => ?_⟩
  · have := putArgs_get args 0 (Tr.fill undefV m m) (fun t ht => by rw [hmem]; simp; omega) t
    rw [show Path.of 0 = Path.e from rfl] at this
    rw [this, Array.getD_eq_getD_getElem?]
    by_cases ht : t < args.length
    · rw [if_pos (by omega)]
      obtain ⟨x, hx, hx2⟩ := concs_get t args[t] h (List.getElem?_eq_getElem ht)
      have e1 : args.getD (t - 0) undefV = args[t] := by simp [List.getD, ht]
      rw [e1, hx, Array.getElem?_append_left (by simp; omega)]
      simp [hx2]
    · rw [if_neg (by omega), Tr.get_fill]
      have : (xs.toArray ++ Array.replicate (m - xs.toArray.size) undef)[t]?.getD undef = undef := by
        rw [Array.getElem?_append_right (by simp; omega)]
        simp only [Array.getElem?_replicate]
        split <;> rfl
      rw [this]; rfl
  · rw [putArgs_mem, hmem]
    congr 1
    rw [eq_iff_iff]; simp; omega

def resM (tmps : Array Value) (r : ResultVar) : Sem Value :=
  match r with
  | .tmp t => pure (tmps.getD t undef)
  | .cell a t => do loadVar t (← asAddr (tmps.getD a undef))

theorem results_eq (fn : Func) (tmps : Array Value) : results fn tmps = (do
    let vs ← fn.results.mapM (resM tmps)
    pure (if h : vs.size = 1 then vs[0] else .tuple vs)) := by
  unfold results
  congr 1

theorem res_spec [Env] {fr : Tr V} {h : H} {w : World} {tmps : Array Value} (hf : FrRel ρ fr tmps) (hr : HRel ρ h w) :
    ∀ (l : List ResultVar) (rs : List RV) (vs : List V), cRes P l = some rs → resVs fr h rs = some vs →
    ∃ xs, concs ρ vs = some xs ∧ (l.mapM (resM tmps)).run P w = .ok xs w
  | [], rs, vs, hc, hv => by
    simp [cRes] at hc; subst hc
    simp [resVs] at hv; subst hv
    exact ⟨[], rfl, rfl⟩
  | .tmp t :: l, rs, vs, hc, hv => by
    simp only [cRes, Option.map_eq_some_iff] at hc
    obtain ⟨r, hr', rfl⟩ := hc
    simp only [resVs, resV] at hv
    split at hv
    · rename_i us hus
      cases hv
      obtain ⟨xs, h1, h2⟩ := res_spec hf hr l r us hr' hus
      refine ⟨tmps.getD t undef :: xs, by simp only [concs, hf.val t, h1, Option.bind_some, Option.map_some], ?_⟩
      rw [List.mapM_cons]
      simp only [resM, Sem.run_bind, Sem.run_pure, Result.andThen_ok, h2]
    · cases hv
  | .cell p t :: l, rs, vs, hc, hv => by
    simp only [cRes, Option.bind_eq_some_iff, Option.map_eq_some_iff] at hc
    obtain ⟨g, hg, m, hm, r, hr', rfl⟩ := hc
    simp only [resVs, resV] at hv
    split at hv
    · rename_i v hv1
      split at hv
      · rename_i us hus
        cases hv
        obtain ⟨xs, h1, h2⟩ := res_spec hf hr l r us hr' hus
        obtain ⟨y, hy, hrun⟩ := load_spec (P := P) hr hv1 (hf.val p) hg hm
        refine ⟨y :: xs, by simp only [concs, hy, h1, Option.bind_some, Option.map_some], ?_⟩
        rw [List.mapM_cons]
        have hload : (do loadVar t (← asAddr (tmps.getD p undef)) : Sem Value).run P w = .ok y w := by
          have hpv := hf.val p
          unfold loadV at hv1
          split at hv1
          · rename_i b o hb
            rw [hb] at hpv
            obtain ⟨q, _, e⟩ := conc_p hpv
            rw [e] at hrun ⊢
            simpa [Instr.loadAt, Instr.sureAddr, asAddr] using hrun
          · cases hv1
        have hload : (resM tmps (.cell p t)).run P w = .ok y w := hload
        simp only [Sem.run_bind, hload, Result.andThen_ok, h2, Sem.run_pure]
      · cases hv
    · cases hv

theorem oneV_spec [Env] {vs : List V} {xs : List Value} (h : concs ρ vs = some xs) : conc ρ (oneV vs) = some (if h : xs.toArray.size = 1 then xs.toArray[0] else .tuple xs.toArray) := by
  have hlen := concs_length h
  unfold oneV
  split
  · rename_i v
    simp only [concs, Option.bind_eq_some_iff, Option.map_eq_some_iff] at h
    obtain ⟨x, hx, ys, hy, rfl⟩ := h
    simp at hy; subst hy
    simp [hx]
  · rename_i hne
    have : xs.toArray.size ≠ 1 := by
      intro e
      cases vs with
      | nil => rw [List.size_toArray] at e; rw [e] at hlen; simp at hlen
      | cons v vs =>
        cases vs with
        | nil => exact hne v rfl
        | cons _ _ => rw [List.size_toArray] at e; rw [e] at hlen; simp at hlen
    rw [dif_neg this]
    simp [conc, h]

theorem sound_call [Env] (S : Sound P ng plan tab n) (hT : TabOk P ng plan tab) (f : Path) (args : List V) (fr : Tr V) (h : H) (x : X) (q : Tr V) (h' : H) (hrun : run tab (n + 1) (.call f args) fr h = .one x q h') :
    CallOk P ng f args h (q.get undefV .e) h' := by
  rw [run_succ] at hrun
  simp only [runT, runF] at hrun
  split at hrun
  · rename_i F hF
    rcases hT f F hF with ⟨fn, hfn, hcF⟩ | ⟨o, ho, hok⟩
    rotate_left
    · rw [ho] at hrun
      exact hok args h x q h' hrun
    unfold cF at hcF
    split at hcF
    · rename_i c hbody
      split at hcF
      · cases hcF
      · rename_i hname
        simp only [Option.map_eq_some_iff] at hcF
        obtain ⟨r, hr, rfl⟩ := hcF
        simp only at hrun
        cases hle : Nat.ble args.length fn.ntmps with
        | false => simp [hle] at hrun
        | true =>
          simp only [hle, cond_true] at hrun
          have hle := Nat.le_of_ble_eq_true hle
          cases hnd : hasNext c with
          | false =>
            simp only [hnd, cond_false] at hrun
            unfold runRet at hrun
            split at hrun
            · rename_i y fr1 h1 hq
              intro ρ w xs hxs hrel hg
              have hlen := concs_length hxs
              refine ⟨?_, ?_⟩
              · have hn : (fn.name == "runtime.NumGoroutine") = false := by simpa using hname
                simp only [callFunc, Sem.run_bind, run_program, Result.andThen_ok, hfn, hn, hbody, Option.isNone_some, Bool.false_eq_true, if_false, Sem.run_pure]
              · refine calls_of_wp hfn hbody ?_
                have hc := S.code c _ _ _ _ _ hq ρ { tmps := xs.toArray ++ Array.replicate (fn.ntmps - xs.toArray.size) undef, defers := [] } w hg (frame_enter hxs hle) hrel
                refine wp_mono hc fun e a1 w1 hp => ?_
                obtain ⟨rfl, hd, ρ1, hf1, hr1, he1⟩ := hp
                have fin : ∀ {q' h''}, retR r fr1 h1 = .one x q' h'' → q' = q → h'' = h' → a1.defers = [] ∧ ∃ v, (results fn a1.tmps).run P w1 = .ok v w1 ∧
                    ∃ u ρ', Ending.returned v = .returned u ∧ conc ρ' (q.get undefV .e) = some u ∧ HRel ρ' h' w1 ∧ Ext ρ h w ρ' h' w1 := by
                  intro q' h'' hret e1 e2
                  subst e1; subst e2
                  unfold retR at hret
                  split at hret
                  · rename_i l hl
                    simp only [Rs.one.injEq] at hret
                    obtain ⟨rfl, rfl, rfl⟩ := hret
                    obtain ⟨zs, h2, h3⟩ := res_spec (P := P) hf1 hr1 _ r l hr hl
                    refine ⟨hd, _, ?_, _, ρ1, rfl, oneV_spec h2, hr1, he1⟩
                    rw [results_eq, Array.mapM_eq_mapM_toList]
                    simp only [Sem.run_bind, Sem.run_map, h3, Result.andThen_ok, Sem.run_pure]
                  · cases hret
                cases y with
                | nx => exact fin hrun rfl rfl
                | rt => exact fin hrun rfl rfl
                | ex id => cases hrun
            · cases hrun
          | true =>
            simp only [hnd, cond_true] at hrun
            obtain ⟨outs, vs, ho, hq, hall⟩ := joinO_spec hrun
            intro ρ w xs hxs hrel hg
            have hlen := concs_length hxs
            refine ⟨?_, ?_⟩
            · have hn : (fn.name == "runtime.NumGoroutine") = false := by simpa using hname
              simp only [callFunc, Sem.run_bind, run_program, Result.andThen_ok, hfn, hn, hbody, Option.isNone_some, Bool.false_eq_true, if_false, Sem.run_pure]
            · refine calls_of_wp hfn hbody ?_
              have hc := nd_code S c _ _ outs ho ρ { tmps := xs.toArray ++ Array.replicate (fn.ntmps - xs.toArray.size) undef, defers := [] } w hg (frame_enter hxs hle) hrel
              refine wp_mono hc fun e a1 w1 hp => ?_
              obtain ⟨⟨y, fr1, h1⟩, hmem, rfl, hd, ρ1, hf1, hr1, he1⟩ := hp
              obtain ⟨hne, hres, hn1, hls⟩ := hall _ hmem
              have fin : a1.defers = [] ∧ ∃ v, (results fn a1.tmps).run P w1 = .ok v w1 ∧
                  ∃ u ρ', Ending.returned v = .returned u ∧ conc ρ' (q.get undefV .e) = some u ∧ HRel ρ' h' w1 ∧ Ext ρ h w ρ' h' w1 := by
                obtain ⟨zs, h2, h3⟩ := res_spec (P := P) hf1 hr1 _ r vs hr hres
                refine ⟨hd, _, ?_, _, ρ1, rfl, by rw [hq]; exact oneV_spec h2, hr1.sub hls (by rw [hn1]; exact Nat.le_refl _), he1.sub hls hn1.symm⟩
                rw [results_eq, Array.mapM_eq_mapM_toList]
                simp only [Sem.run_bind, Sem.run_map, h3, Result.andThen_ok, Sem.run_pure]
              cases y with
              | nx => exact fin
              | rt => exact fin
              | ex id => exact absurd rfl (hne id)
    · cases hcF
  · cases hrun

/-- Soundness, but for regions whose order is open. -/
theorem sound_all [Env] (hT : TabOk P ng plan tab) (hD : ∀ n, (∀ m, m ≤ n → Sound P ng plan tab m) → ∀ (id : Nat) (ops : Array Oper) (l : List It), plan ops = some l → ∀ fr h x fr' h', run tab (n + 1) (.dops l) fr h = .one x fr' h' →
    ∀ ρ a w, Glob ng ρ → FrRel ρ fr a.tmps → HRel ρ h w → (Code.region id ops true).wp P (Post ρ h w a x fr' h') a w) : ∀ n m, m ≤ n → Sound P ng plan tab m
  | 0, m, hm => by
    have : m = 0 := by omega
    subst this
    refine ⟨?_, ?_, ?_, ?_, ?_⟩
    · intro _ _ _ _ _ _ h; rw [run_zero] at h; cases h
    · intro _ _ _ _ _ _ h; rw [run_zero] at h; cases h
    · intro _ _ _ _ _ _ _ _ _ h; rw [run_zero] at h; cases h
    · intro _ _ _ _ _ _ _ _ _ h; rw [run_zero] at h; cases h
    · intro _ _ _ _ _ _ _ h; rw [run_zero] at h; cases h
  | n + 1, m, hm => by
    have S := sound_all hT hD n
    by_cases e : m ≤ n
    · exact S m e
    · have : m = n + 1 := by omega
      subst this
      have Sn := S n (Nat.le_refl n)
      exact ⟨sound_code Sn, sound_loop Sn, sound_ops Sn, hD n S, sound_call Sn hT⟩

end
end Go.Eng
