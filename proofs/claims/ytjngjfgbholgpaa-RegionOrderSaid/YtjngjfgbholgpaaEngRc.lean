/- The engine, part Rc: what the fast form computes, the evaluator computes. -/
import Derived.Test.YtjngjfgbholgpaaEngRb
set_option linter.unusedSimpArgs false
set_option linter.unusedVariables false
namespace Go.Eng

/-! ### More fuel, the same result -/

def LE (a b : Rs) : Prop := ∀ x t h, a = .one x t h → b = .one x t h
theorem LE.refl (a : Rs) : LE a a := fun _ _ _ h => h
theorem LE.fail (a : Rs) : LE .fail a := fun _ _ _ h => by cases h
theorem LE.of {a b : Rs} (h : ∀ x t k, a = .one x t k → b = .one x t k) : LE a b := h

section
variable {i j : Task → Tr V → H → Rs}

theorem runSeq_le (hi : ∀ k t h, LE (i k t h) (j k t h)) {b : C} {r s : Rs} (hr : LE r s) : LE (runSeq i b r) (runSeq j b s) := by
  cases r with
  | fail => exact LE.fail _
  | one x t h =>
    rw [hr x t h rfl]
    cases x <;> first | exact hi _ _ _ | exact LE.refl _

theorem runBlock_le {id : Nat} {r s : Rs} (hr : LE r s) : LE (runBlock id r) (runBlock id s) := by
  cases r with
  | fail => exact LE.fail _
  | one x t h => rw [hr x t h rfl]; exact LE.refl _

theorem runRet_le {l : List RV} {r s : Rs} (hr : LE r s) : LE (runRet l r) (runRet l s) := by
  cases r with
  | fail => exact LE.fail _
  | one x t h => rw [hr x t h rfl]; exact LE.refl _

theorem runCallO_le (hi : ∀ k t h, LE (i k t h) (j k t h)) {d : Option Path} {l : List St} {t : Tr V} {r s : Rs} (hr : LE r s) : LE (runCallO i d l t r) (runCallO j d l t s) := by
  cases r with
  | fail => exact LE.fail _
  | one x t h => rw [hr x t h rfl]; exact hi _ _ _

theorem runOp_le (hi : ∀ k t h, LE (i k t h) (j k t h)) (d : Option Path) (op : I) (l : List St) (t : Tr V) (h : H) : LE (runOp i d op l t h) (runOp j d op l t h) := by
  cases op with
  | pu e => unfold runOp runVal; simp only; cases puI t e <;> first | exact LE.fail _ | exact hi _ _ _
  | rd e => unfold runOp runVal; simp only; cases rdI t h e <;> first | exact LE.fail _ | exact hi _ _ _
  | al e =>
    unfold runOp runAl; simp only
    cases alI t e with
    | none => exact LE.fail _
    | some p => exact hi _ _ _
  | hv e =>
    unfold runOp runHvO; simp only
    cases hvI t h e with
    | v u k => exact hi _ _ _
    | call f as => exact runCallO_le hi (hi _ _ _)
    | fail => exact LE.fail _
  | bad => exact LE.fail _

theorem runO_le (hi : ∀ k t h, LE (i k t h) (j k t h)) (l : List St) (t : Tr V) (h : H) : LE (runO i l t h) (runO j l t h) := by
  cases l with
  | nil => exact LE.refl _
  | cons s l =>
    unfold runO; simp only
    cases wantd t s.gd with
    | false => exact hi _ _ _
    | true => exact runOp_le hi _ _ _ _ _

theorem finD_le (hi : ∀ k t h, LE (i k t h) (j k t h)) (it : It) (l : List It) (t : Tr V) (v : V) (h : H) : LE (finD i it l t v h) (finD j it l t v h) := by
  unfold finD
  cases chkL t h it.chk with
  | true => exact hi _ _ _
  | false => exact LE.fail _

theorem runCallD_le (hi : ∀ k t h, LE (i k t h) (j k t h)) {it : It} {l : List It} {t : Tr V} {h : H} {r s : Rs} (hr : LE r s) : LE (runCallD i it l t h r) (runCallD j it l t h s) := by
  cases r with
  | fail => exact LE.fail _
  | one x t h => rw [hr x t h rfl]; exact finD_le hi _ _ _ _ _

theorem runD_le (hi : ∀ k t h, LE (i k t h) (j k t h)) (l : List It) (t : Tr V) (h : H) : LE (runD i l t h) (runD j l t h) := by
  cases l with
  | nil => exact LE.refl _
  | cons it l =>
    unfold runD; simp only
    cases wantd t it.st.gd with
    | false => exact hi _ _ _
    | true =>
      simp only
      unfold runOpD
      cases it.st.op with
      | pu e => unfold runValD; simp only; cases puI t e <;> first | exact LE.fail _ | exact hi _ _ _
      | rd e => unfold runValD; simp only; cases rdI t (hideL t it.hide h) e <;> first | exact LE.fail _ | exact hi _ _ _
      | al e =>
        unfold runAlD; simp only
        cases alI t e with
        | none => exact LE.fail _
        | some p =>
          obtain ⟨ob, k⟩ := p
          simp only
          cases it.st.dst with
          | none => exact LE.fail _
          | some d =>
            simp only
            cases t.mem d with
            | false => exact LE.fail _
            | true => exact hi _ _ _
      | hv e =>
        unfold runHvD; simp only
        cases hvI t (hideL t it.hide h) e with
        | v u k => exact finD_le hi _ _ _ _ _
        | call f as => exact runCallD_le hi (hi _ _ _)
        | fail => exact LE.fail _
      | bad => exact LE.fail _

theorem bindO_le {α : Type} {f g : α → Option (List Out)} (hf : ∀ p r, f p = some r → g p = some r) : ∀ {l : List α} {r : List Out}, bindO f l = some r → bindO g l = some r
  | [], _, h => h
  | p :: l, r, h => by
    simp only [bindO] at h ⊢
    cases hp : f p with
    | none => simp [hp] at h
    | some a =>
      cases hb : bindO f l with
      | none => simp [hp, hb] at h
      | some b =>
        simp only [hp, hb] at h
        simp only [hf p a hp, bindO_le hf hb]
        exact h

theorem ndHR_le (hi : ∀ k t h, LE (i k t h) (j k t h)) {h : H} {r : HR} {l : List (V × H)} (hr : ndHR i h r = some l) : ndHR j h r = some l := by
  unfold ndHR at hr ⊢
  split at hr
  · exact hr
  · split at hr
    · rename_i x q k e
      simp only [hi _ _ _ _ _ _ e]
      exact hr
    · cases hr
  · cases hr

theorem ndOp_le (hi : ∀ k t h, LE (i k t h) (j k t h)) {t : Tr V} {h : H} {op : I} {l : List (V × H)} (hr : ndOp i t h op = some l) : ndOp j t h op = some l := by
  cases op with
  | hv e =>
    simp only [ndOp] at hr ⊢
    unfold ndHv at hr ⊢
    split at hr
    · exact hr
    · exact ndHR_le hi hr
  | _ => exact hr

theorem ndOps_le (hi : ∀ k t h, LE (i k t h) (j k t h)) : ∀ {l : List St} {t : Tr V} {h : H} {r : List Out}, ndOps i l t h = some r → ndOps j l t h = some r
  | [], _, _, _, hr => hr
  | s :: l, t, h, r, hr => by
    simp only [ndOps] at hr ⊢
    cases hw : wantd t s.gd with
    | false => simp only [hw] at hr ⊢; exact ndOps_le hi hr
    | true =>
      simp only [hw] at hr ⊢
      cases ho : ndOp i t h s.op with
      | none => simp [ho] at hr
      | some a =>
        simp only [ho] at hr
        simp only [ndOp_le hi ho]
        exact bindO_le (fun p r hp => ndOps_le hi hp) hr

theorem ndThen_le {f g : Tr V → H → Option (List Out)} (hf : ∀ t h r, f t h = some r → g t h = some r) (o : Out) (r : List Out) (hr : ndThen f o = some r) : ndThen g o = some r := by
  obtain ⟨x, t, h⟩ := o
  cases x <;> first | exact hf _ _ _ hr | exact hr

theorem ndSeq_le {f g : Tr V → H → Option (List Out)} (hf : ∀ t h r, f t h = some r → g t h = some r) {a b : Option (List Out)} (hab : ∀ r, a = some r → b = some r) {r : List Out} (hr : ndSeq f a = some r) : ndSeq g b = some r := by
  cases a with
  | none => cases hr
  | some l => rw [hab l rfl]; exact bindO_le (ndThen_le hf) hr

theorem ndLoop_le {f g : Tr V → H → Option (List Out)} (hf : ∀ t h r, f t h = some r → g t h = some r) : ∀ (n : Nat) (t : Tr V) (h : H) (r : List Out), ndLoop f n t h = some r → ndLoop g n t h = some r
  | 0, _, _, _, hr => hr
  | n + 1, t, h, r, hr => ndSeq_le (ndLoop_le hf n) (hf t h) hr

theorem ndC_le (hi : ∀ k t h, LE (i k t h) (j k t h)) : ∀ (c : C) (t : Tr V) (h : H) (r : List Out), ndC i c t h = some r → ndC j c t h = some r
  | .skip, _, _, _, hr => hr
  | .reg l, _, _, _, hr => ndOps_le hi hr
  | .dreg l, t, h, r, hr => by
    simp only [ndC] at hr ⊢
    cases hq : i (.dops l) t h with
    | fail => rw [hq] at hr; cases hr
    | one x t1 h1 => rw [hi _ _ _ _ _ _ hq]; rw [hq] at hr; exact hr
  | .seq a b, t, h, r, hr => ndSeq_le (ndC_le hi b) (ndC_le hi a t h) hr
  | .cond o a b, t, h, r, hr => by
    simp only [ndC] at hr ⊢
    split at hr
    · exact ndC_le hi a t h r hr
    · exact ndC_le hi b t h r hr
    · cases hr
  | .block id c, t, h, r, hr => by
    simp only [ndC, Option.map_eq_some_iff] at hr ⊢
    obtain ⟨l, hl, rfl⟩ := hr
    exact ⟨l, ndC_le hi c t h l hl, rfl⟩
  | .loop c, t, h, r, hr => ndLoop_le (ndC_le hi c) 1000 t h r hr
  | .exit _, _, _, _, hr => hr
  | .ret, _, _, _, hr => hr
  | .bad, _, _, _, hr => hr

theorem joinO_le {res : List RV} {a b : Option (List Out)} (hab : ∀ r, a = some r → b = some r) : LE (joinO res a) (joinO res b) := by
  cases a with
  | none => exact LE.fail _
  | some l => rw [hab l rfl]; exact LE.refl _

theorem runT_le (tab : Tr (Option F)) (hi : ∀ k t h, LE (i k t h) (j k t h)) (k : Task) (t : Tr V) (h : H) : LE (runT tab i k t h) (runT tab j k t h) := by
  cases k with
  | code c =>
    show LE (runC i c t h) (runC j c t h)
    cases c with
    | skip => exact LE.refl _
    | reg l => exact hi _ _ _
    | dreg l => exact hi _ _ _
    | seq a b => exact runSeq_le hi (hi _ _ _)
    | cond o a b =>
      show LE (runCond i a b t h (ev t o)) (runCond j a b t h (ev t o))
      cases ev t o <;> first
        | exact LE.fail _
        | (rename_i x; cases x <;> exact hi _ _ _)
    | block id c => exact runBlock_le (hi _ _ _)
    | loop c => exact runSeq_le hi (hi _ _ _)
    | exit id => exact LE.refl _
    | ret => exact LE.refl _
    | bad => exact LE.fail _
  | ops l => exact runO_le hi l t h
  | dops l => exact runD_le hi l t h
  | call f args =>
    show LE (runF i args h (tab.get none f)) (runF j args h (tab.get none f))
    cases tab.get none f with
    | none => exact LE.fail _
    | some F =>
      cases horc : F.orc with
      | some o => simp only [runF, horc]; exact LE.refl _
      | none =>
      simp only [runF, horc]
      show LE (cond (Nat.ble args.length F.n) _ .fail) (cond (Nat.ble args.length F.n) _ .fail)
      cases Nat.ble args.length F.n with
      | false => exact LE.fail _
      | true =>
        show LE (cond F.nd _ _) (cond F.nd _ _)
        cases F.nd with
        | true => exact joinO_le (ndC_le hi _ _ _)
        | false => exact runRet_le (hi _ _ _)
end

section
variable {tab : Tr (Option F)}

theorem run_le1 : ∀ (n : Nat) (k : Task) (t : Tr V) (h : H), LE (run tab n k t h) (run tab (n + 1) k t h)
  | 0, _, _, _ => LE.fail _
  | n + 1, k, t, h => runT_le tab (run_le1 n) k t h

theorem run_le {n m : Nat} (hnm : n ≤ m) (k : Task) (t : Tr V) (h : H) : LE (run tab n k t h) (run tab m k t h) := by
  induction m with
  | zero => obtain rfl : n = 0 := by omega
            exact LE.refl _
  | succ m ih =>
    by_cases e : n = m + 1
    · subst e; exact LE.refl _
    · exact fun x u v hx => run_le1 m k t h x u v (ih (by omega) x u v hx)

/-- The calls that the fast form makes are calls of the evaluator. -/
def SndIH (tab : Tr (Option F)) (ih : IH) : Prop := ∀ f args h x q h', ih f args h = .one x q h' → ∃ n, run tab n (.call f args) .nil h = .one x q h'

variable {ih : IH}

theorem step_ops (hS : SndIH tab ih) {s : St} {t t1 : Tr V} {h h1 : H} {x : X} (hr : runO (ihO ih) [s] t h = .one x t1 h1) {l : List St} {m : Nat} {y : X} {t2 : Tr V} {h2 : H} (hm : run tab m (.ops l) t1 h1 = .one y t2 h2) :
    ∃ k, run tab k (.ops (s :: l)) t h = .one y t2 h2 := by
  have fin : ∀ n, run tab (n + 1) (.ops (s :: l)) t h = runO (run tab n) (s :: l) t h := fun _ => rfl
  unfold runO at hr
  cases hw : wantd t s.gd with
  | false =>
    simp only [hw, ihO, Rs.one.injEq] at hr
    obtain ⟨rfl, rfl, rfl⟩ := hr
    exact ⟨m + 1, by rw [fin]; unfold runO; simp only [hw]; exact hm⟩
  | true =>
    simp only [hw] at hr
    unfold runOp at hr
    cases hop : s.op with
    | pu e =>
      simp only [hop, runVal] at hr
      cases hv : puI t e with
      | none => simp [hv] at hr
      | some v =>
        simp only [hv, ihO, Rs.one.injEq] at hr
        obtain ⟨rfl, rfl, rfl⟩ := hr
        exact ⟨m + 1, by rw [fin]; unfold runO runOp runVal; simp only [hw, hop, hv]; exact hm⟩
    | rd e =>
      simp only [hop, runVal] at hr
      cases hv : rdI t h e with
      | none => simp [hv] at hr
      | some v =>
        simp only [hv, ihO, Rs.one.injEq] at hr
        obtain ⟨rfl, rfl, rfl⟩ := hr
        exact ⟨m + 1, by rw [fin]; unfold runO runOp runVal; simp only [hw, hop, hv]; exact hm⟩
    | al e =>
      simp only [hop, runAl] at hr
      cases hv : alI t e with
      | none => simp [hv] at hr
      | some p =>
        obtain ⟨ob, k⟩ := p
        simp only [hv, ihO, Rs.one.injEq] at hr
        obtain ⟨rfl, rfl, rfl⟩ := hr
        exact ⟨m + 1, by rw [fin]; unfold runO runOp runAl; simp only [hw, hop, hv]; exact hm⟩
    | hv e =>
      simp only [hop, runHvO] at hr
      cases hv : hvI t h e with
      | fail => simp [hv] at hr
      | v u k =>
        simp only [hv, ihO, Rs.one.injEq] at hr
        obtain ⟨rfl, rfl, rfl⟩ := hr
        exact ⟨m + 1, by rw [fin]; unfold runO runOp runHvO; simp only [hw, hop, hv]; exact hm⟩
      | call f as =>
        simp only [hv, ihO] at hr
        cases hc : ih f as h with
        | fail => simp [hc, runCallO] at hr
        | one z q h3 =>
          simp only [hc, runCallO, ihO, Rs.one.injEq] at hr
          obtain ⟨rfl, rfl, rfl⟩ := hr
          obtain ⟨n, hn⟩ := hS f as h z q h3 hc
          refine ⟨max n m + 1, ?_⟩
          rw [fin]
          unfold runO runOp runHvO
          simp only [hw, hop, hv]
          rw [run_le (Nat.le_max_left n m) _ _ _ _ _ _ hn]
          exact run_le (Nat.le_max_right n m) _ _ _ _ _ _ hm
    | bad => simp [hop] at hr

theorem step_dops (hS : SndIH tab ih) {s : It} {t t1 : Tr V} {h h1 : H} {x : X} (hr : runD (ihO ih) [s] t h = .one x t1 h1) {l : List It} {m : Nat} {y : X} {t2 : Tr V} {h2 : H} (hm : run tab m (.dops l) t1 h1 = .one y t2 h2) :
    ∃ k, run tab k (.dops (s :: l)) t h = .one y t2 h2 := by
  have fin : ∀ n, run tab (n + 1) (.dops (s :: l)) t h = runD (run tab n) (s :: l) t h := fun _ => rfl
  unfold runD at hr
  cases hw : wantd t s.st.gd with
  | false =>
    simp only [hw, ihO, Rs.one.injEq] at hr
    obtain ⟨rfl, rfl, rfl⟩ := hr
    exact ⟨m + 1, by rw [fin]; unfold runD; simp only [hw]; exact hm⟩
  | true =>
    simp only [hw] at hr
    unfold runOpD at hr
    have fd : ∀ {v : V} {k : H} {j : Task → Tr V → H → Rs}, finD (ihO ih) s [] t v k = .one x t1 h1 → j (.dops l) t1 h1 = .one y t2 h2 → finD j s l t v k = .one y t2 h2 := by
      intro v k j h4 h5
      unfold finD at h4 ⊢
      cases hc : chkL t k s.chk with
      | false => simp [hc] at h4
      | true =>
        simp only [hc, ihO, Rs.one.injEq] at h4
        obtain ⟨rfl, rfl, rfl⟩ := h4
        simp only
        exact h5
    cases hop : s.st.op with
    | pu e =>
      simp only [hop, runValD] at hr
      cases hv : puI t e with
      | none => simp [hv] at hr
      | some v =>
        simp only [hv, ihO, Rs.one.injEq] at hr
        obtain ⟨rfl, rfl, rfl⟩ := hr
        exact ⟨m + 1, by rw [fin]; unfold runD runOpD runValD; simp only [hw, hop, hv]; exact hm⟩
    | rd e =>
      simp only [hop, runValD] at hr
      cases hv : rdI t (hideL t s.hide h) e with
      | none => simp [hv] at hr
      | some v =>
        simp only [hv, ihO, Rs.one.injEq] at hr
        obtain ⟨rfl, rfl, rfl⟩ := hr
        exact ⟨m + 1, by rw [fin]; unfold runD runOpD runValD; simp only [hw, hop, hv]; exact hm⟩
    | al e =>
      simp only [hop, runAlD] at hr
      cases hv : alI t e with
      | none => simp [hv] at hr
      | some p =>
        obtain ⟨ob, k⟩ := p
        cases hd : s.st.dst with
        | none => simp [hv, hd] at hr
        | some d =>
          cases hmm : t.mem d with
          | false => simp [hv, hd, hmm] at hr
          | true =>
            simp only [hv, hd, hmm, cond_true, ihO, Rs.one.injEq] at hr
            obtain ⟨rfl, rfl, rfl⟩ := hr
            exact ⟨m + 1, by rw [fin]; unfold runD runOpD runAlD; simp only [hw, hop, hv, hd, hmm, cond_true]; exact hm⟩
    | hv e =>
      simp only [hop, runHvD] at hr
      cases hv : hvI t (hideL t s.hide h) e with
      | fail => simp [hv] at hr
      | v u k =>
        simp only [hv] at hr
        exact ⟨m + 1, by rw [fin]; unfold runD runOpD runHvD; simp only [hw, hop, hv]; exact fd hr hm⟩
      | call f as =>
        simp only [hv, ihO] at hr
        cases hc : ih f as (hideL t s.hide h) with
        | fail => simp [hc, runCallD] at hr
        | one z q h3 =>
          simp only [hc, runCallD] at hr
          obtain ⟨n, hn⟩ := hS f as _ z q h3 hc
          refine ⟨max n m + 1, ?_⟩
          rw [fin]
          unfold runD runOpD runHvD
          simp only [hw, hop, hv]
          rw [run_le (Nat.le_max_left n m) _ _ _ _ _ _ hn]
          exact fd hr (run_le (Nat.le_max_right n m) _ _ _ _ _ _ hm)
    | bad => simp [hop] at hr

/-! ### The fast form of one operation -/

theorem eqB_eq (a b : Bool) : eqB a b = (a == b) := by cases a <;> cases b <;> rfl

theorem kOp_eq (d : Option Path) (op : I) (rest : K) (ih : IH) (t : Tr V) (h : H) : kOp d op rest ih t h = nxR (runOp (ihO ih) d op [] t h) rest ih := by
  unfold kOp
  split
  · rename_i i
    show kVal (eP i t) (sD d) rest ih t h = nxR (runVal (ihO ih) d [] t h (puI t i)) rest ih
    rw [eP_eq]
    cases puI t i with
    | none => rfl
    | some v => show rest ih (sD d t v) h = rest ih (putD t d v) h; rw [sD_eq]
  · rename_i i
    show kVal (eR i t h) (sD d) rest ih t h = nxR (runVal (ihO ih) d [] t h (rdI t h i)) rest ih
    rw [eR_eq]
    cases rdI t h i with
    | none => rfl
    | some v => show rest ih (sD d t v) h = rest ih (putD t d v) h; rw [sD_eq]
  · rename_i i
    show kAlR (alI t i) (sD d) rest ih t h = nxR (runAl (ihO ih) d [] t h (alI t i)) rest ih
    cases alI t i with
    | none => rfl
    | some p =>
      show rest ih (sD d t (p.2.val h.n)) ⟨insO h.n h.t p.1, h.n.succ⟩ = rest ih (putD t d (p.2.val h.n)) (h.new p.1)
      rw [sD_eq, insO_eq]; rfl
  · rename_i f l
    show kRet (ih f (gArgs (l.map gO) t) h) (sD d) rest ih t = nxR (runHvO (ihO ih) d [] t h (hvI t h (.call f l))) rest ih
    rw [gArgs_eq]
    show kRet (ih f (evs t l) h) (sD d) rest ih t = nxR (runCallO (ihO ih) d [] t (ih f (evs t l) h)) rest ih
    cases ih f (evs t l) h with
    | fail => rfl
    | one x q h1 =>
      show rest ih (sD d t (valT q)) h1 = rest ih (putD t d (q.get undefV .e)) h1
      rw [sD_eq, ← gP_eq]; rfl
  · rename_i i _
    show kHR (eH i t h) (sD d) rest ih t h = nxR (runHvO (ihO ih) d [] t h (hvI t h i)) rest ih
    rw [eH_eq]
    cases hvI t h i with
    | fail => rfl
    | v v h1 => show rest ih (sD d t v) h1 = rest ih (putD t d v) h1; rw [sD_eq]
    | call f args =>
      show kRet (ih f args h) (sD d) rest ih t = nxR (runCallO (ihO ih) d [] t (ih f args h)) rest ih
      cases ih f args h with
      | fail => rfl
      | one x q h1 =>
        show rest ih (sD d t (valT q)) h1 = rest ih (putD t d (q.get undefV .e)) h1
        rw [sD_eq, ← gP_eq]; rfl
  · rfl

theorem gd_eq (p : Path) (b : Bool) (op : K → K) (d : Option Path) (rest : K) (ih : IH) (t : Tr V) (h : H) :
    kGd (gP p) b op (sD d) rest ih t h = match wantd t (some (p, b)) with | true => op rest ih t h | false => rest ih (putD t d undefV) h := by
  show gdR (gP p t) b op (sD d) rest ih t h = _
  simp only [wantd, gP_eq]
  cases t.get undefV p <;> try (show rest ih (sD d t undefV) h = _; rw [sD_eq])
  rename_i c
  show gdB (eqB c b) op (sD d) rest ih t h = match c == b with | true => op rest ih t h | false => rest ih (putD t d undefV) h
  rw [eqB_eq]
  cases c == b with
  | true => rfl
  | false => show rest ih (sD d t undefV) h = _; rw [sD_eq]

theorem kSt_eq (s : St) (rest : K) (ih : IH) (t : Tr V) (h : H) : kSt s rest ih t h = nxR (runO (ihO ih) [s] t h) rest ih := by
  obtain ⟨d, op, gd⟩ := s
  cases gd with
  | none =>
    show kOp d op rest ih t h = nxR (runOp (ihO ih) d op [] t h) rest ih
    exact kOp_eq _ _ _ _ _ _
  | some g =>
    obtain ⟨p, b⟩ := g
    show kGd (gP p) b (kOp d op) (sD d) rest ih t h = nxR (match wantd t (some (p, b)) with
      | false => ihO ih (.ops []) (putD t d undefV) h
      | true => runOp (ihO ih) d op [] t h) rest ih
    rw [gd_eq]
    cases wantd t (some (p, b)) with
    | true => exact kOp_eq _ _ _ _ _ _
    | false => rfl

theorem kOpD_eq (d : Option Path) (op : I) (gd : Option (Path × Bool)) (rest : K) (ih : IH) (t : Tr V) (h : H) :
    kOpD d op rest ih t h = nxR (runOpD (ihO ih) ⟨⟨d, op, gd⟩, [], []⟩ op [] t h) rest ih := by
  have gen : kOp d op rest ih t h = nxR (runOp (ihO ih) d op [] t h) rest ih := kOp_eq _ _ _ _ _ _
  cases op with
  | pu i => exact gen
  | rd i => exact gen
  | bad => exact gen
  | al i =>
    cases d with
    | none =>
      show Rs.fail = nxR (match alI t i with | some (_, _) => .fail | none => .fail) rest ih
      cases alI t i <;> rfl
    | some p =>
      show kAlDR (alI t i) (memJ p) (sP p) rest ih t h = nxR (match alI t i with
        | some (ob, k) => cond (t.mem p) (.one .nx (t.set p (k.val h.n)) (h.new ob)) .fail
        | none => .fail) rest ih
      cases alI t i with
      | none => rfl
      | some q =>
        show alDB (memJ p t) q (sP p) rest ih t h = nxR (cond (t.mem p) (.one .nx (t.set p (q.2.val h.n)) (h.new q.1)) .fail) rest ih
        rw [memP_eq]
        cases t.mem p with
        | false => rfl
        | true =>
          show rest ih (sP p t (q.2.val h.n)) ⟨insO h.n h.t q.1, h.n.succ⟩ = rest ih (t.set p (q.2.val h.n)) (h.new q.1)
          rw [sP_eq, insO_eq]; rfl
  | hv i =>
    refine gen.trans ?_
    show nxR (runHvO (ihO ih) d [] t h (hvI t h i)) rest ih = nxR (runHvD (ihO ih) ⟨⟨d, .hv i, gd⟩, [], []⟩ [] t h (hvI t h i)) rest ih
    cases hvI t h i with
    | fail => rfl
    | v v k => rfl
    | call f args =>
      show nxR (runCallO (ihO ih) d [] t (ih f args h)) rest ih = nxR (runCallD (ihO ih) ⟨⟨d, .hv i, gd⟩, [], []⟩ [] t h (ih f args h)) rest ih
      cases ih f args h with
      | fail => rfl
      | one x q k => rfl

theorem kIt_eq (it : It) (rest : K) (ih : IH) (t : Tr V) (h : H) : kIt it rest ih t h = nxR (runD (ihO ih) [it] t h) rest ih := by
  obtain ⟨⟨d, op, gd⟩, hide, chk⟩ := it
  cases hide with
  | cons _ _ => rfl
  | nil =>
    cases chk with
    | cons _ _ => rfl
    | nil =>
      cases gd with
      | none =>
        show kOpD d op rest ih t h = nxR (runOpD (ihO ih) ⟨⟨d, op, none⟩, [], []⟩ op [] t h) rest ih
        exact kOpD_eq _ _ _ _ _ _ _
      | some g =>
        obtain ⟨p, b⟩ := g
        show kGd (gP p) b (kOpD d op) (sD d) rest ih t h = nxR (match wantd t (some (p, b)) with
          | false => ihO ih (.dops []) (putD t d undefV) h
          | true => runOpD (ihO ih) ⟨⟨d, op, some (p, b)⟩, [], []⟩ op [] t h) rest ih
        rw [gd_eq]
        cases wantd t (some (p, b)) with
        | true => exact kOpD_eq _ _ _ _ _ _ _
        | false => rfl

theorem nxR_one {r : Rs} {rest : K} {ih : IH} {x : X} {t1 : Tr V} {h1 : H} (h : nxR r rest ih = .one x t1 h1) : ∃ y t h0, r = .one y t h0 ∧ rest ih t h0 = .one x t1 h1 := by
  cases r with
  | fail => cases h
  | one y t h0 => exact ⟨y, t, h0, rfl, h⟩

theorem kOps_sound (hS : SndIH tab ih) : ∀ (l : List St) (t : Tr V) (h : H) (x : X) (t1 : Tr V) (h1 : H), kOps l ih t h = .one x t1 h1 → ∃ n, run tab n (.ops l) t h = .one x t1 h1
  | [], t, h, x, t1, h1, hr => ⟨1, hr⟩
  | s :: l, t, h, x, t1, h1, hr => by
    have hr : kSt s (kOps l) ih t h = .one x t1 h1 := hr
    rw [kSt_eq] at hr
    obtain ⟨y, t0, h0, e1, e2⟩ := nxR_one hr
    obtain ⟨m, hm⟩ := kOps_sound hS l t0 h0 x t1 h1 e2
    exact step_ops hS e1 hm

theorem kDops_sound (hS : SndIH tab ih) : ∀ (l : List It) (t : Tr V) (h : H) (x : X) (t1 : Tr V) (h1 : H), kDops l ih t h = .one x t1 h1 → ∃ n, run tab n (.dops l) t h = .one x t1 h1
  | [], t, h, x, t1, h1, hr => ⟨1, hr⟩
  | s :: l, t, h, x, t1, h1, hr => by
    have hr : kIt s (kDops l) ih t h = .one x t1 h1 := hr
    rw [kIt_eq] at hr
    obtain ⟨y, t0, h0, e1, e2⟩ := nxR_one hr
    obtain ⟨m, hm⟩ := kDops_sound hS l t0 h0 x t1 h1 e2
    exact step_dops hS e1 hm

theorem seqR_one {r : Rs} {b : K} {x : X} {t1 : Tr V} {h1 : H} (h : seqR r b ih = .one x t1 h1) :
    (∃ t h0, r = .one .nx t h0 ∧ b ih t h0 = .one x t1 h1) ∨ (r = .one x t1 h1 ∧ x ≠ .nx) := by
  cases r with
  | fail => cases h
  | one y t h0 => cases y with
    | nx => exact .inl ⟨t, h0, rfl, h⟩
    | rt => have h : Rs.one .rt t h0 = .one x t1 h1 := h; cases h; exact .inr ⟨rfl, by simp⟩
    | ex id => have h : Rs.one (.ex id) t h0 = .one x t1 h1 := h; cases h; exact .inr ⟨rfl, by simp⟩

theorem runSeq_of {n m : Nat} {b : C} {r : Rs} {t : Tr V} {h : H} {x : X} {t1 : Tr V} {h1 : H} {task : Task} (hr : run tab n task t h = r) :
    ((∃ t0 h0, r = .one .nx t0 h0 ∧ run tab m (.code b) t0 h0 = .one x t1 h1) ∨ (r = .one x t1 h1 ∧ x ≠ .nx)) → runSeq (run tab (max n m)) b (run tab (max n m) task t h) = .one x t1 h1 := by
  rintro (⟨t0, h0, rfl, hb⟩ | ⟨rfl, hx⟩)
  · rw [run_le (Nat.le_max_left n m) _ _ _ _ _ _ hr]
    exact run_le (Nat.le_max_right n m) _ _ _ _ _ _ hb
  · rw [run_le (Nat.le_max_left n m) _ _ _ _ _ _ hr]
    cases x with
    | nx => exact absurd rfl hx
    | rt => rfl
    | ex id => rfl

theorem kC_sound (hS : SndIH tab ih) : ∀ (c : C) (t : Tr V) (h : H) (x : X) (t1 : Tr V) (h1 : H), kC c ih t h = .one x t1 h1 → ∃ n, run tab n (.code c) t h = .one x t1 h1
  | .skip, t, h, x, t1, h1, hr => ⟨1, hr⟩
  | .reg l, t, h, x, t1, h1, hr => let ⟨n, hn⟩ := kOps_sound hS l t h x t1 h1 hr; ⟨n + 1, hn⟩
  | .dreg l, t, h, x, t1, h1, hr => let ⟨n, hn⟩ := kDops_sound hS l t h x t1 h1 hr; ⟨n + 1, hn⟩
  | .seq a b, t, h, x, t1, h1, hr => by
    have hr : seqR (kC a ih t h) (kC b) ih = .one x t1 h1 := hr
    rcases seqR_one hr with ⟨t0, h0, e1, e2⟩ | ⟨e1, e2⟩
    · obtain ⟨n, hn⟩ := kC_sound hS a t h .nx t0 h0 e1
      obtain ⟨m, hm⟩ := kC_sound hS b t0 h0 x t1 h1 e2
      exact ⟨max n m + 1, runSeq_of (m := m) hn (.inl ⟨t0, h0, rfl, hm⟩)⟩
    · obtain ⟨n, hn⟩ := kC_sound hS a t h x t1 h1 e1
      exact ⟨max n 0 + 1, runSeq_of (m := 0) hn (.inr ⟨rfl, e2⟩)⟩
  | .cond o a b, t, h, x, t1, h1, hr => by
    have hr : condR (gO o t) (kC a) (kC b) ih t h = .one x t1 h1 := hr
    rw [gO_eq] at hr
    cases hv : ev t o <;> rw [hv] at hr <;> try (cases hr; done)
    rename_i q
    cases q with
    | true =>
      obtain ⟨n, hn⟩ := kC_sound hS a t h x t1 h1 hr
      refine ⟨n + 1, ?_⟩
      show runCond (run tab n) a b t h (ev t o) = _
      rw [hv]; exact hn
    | false =>
      obtain ⟨n, hn⟩ := kC_sound hS b t h x t1 h1 hr
      refine ⟨n + 1, ?_⟩
      show runCond (run tab n) a b t h (ev t o) = _
      rw [hv]; exact hn
  | .block id c, t, h, x, t1, h1, hr => by
    have hr : blkR (kC c ih t h) id = .one x t1 h1 := hr
    cases hk : kC c ih t h with
    | fail => rw [hk] at hr; cases hr
    | one y t0 h0 =>
      obtain ⟨n, hn⟩ := kC_sound hS c t h y t0 h0 hk
      refine ⟨n + 1, ?_⟩
      show runBlock id (run tab n (.code c) t h) = _
      rw [hn]
      rw [hk] at hr
      cases y with
      | nx => exact hr
      | rt => exact hr
      | ex j =>
        have hr : blkB (Nat.beq j id) j t0 h0 = .one x t1 h1 := hr
        show cond (Nat.beq j id) (Rs.one .nx t0 h0) (.one (.ex j) t0 h0) = _
        cases hb : Nat.beq j id <;> rw [hb] at hr <;> exact hr
  | .loop c, t, h, x, t1, h1, hr => by
    have key : ∀ (N : Nat) (t : Tr V) (h : H), loopN N (kC c) ih t h = .one x t1 h1 → ∃ n, run tab n (.code (.loop c)) t h = .one x t1 h1 := by
      intro N
      induction N with
      | zero => intro t h hr; cases hr
      | succ N ihN =>
        intro t h hr
        have hr : loopR (kC c ih t h) (loopN N) (kC c) ih = .one x t1 h1 := hr
        cases hk : kC c ih t h with
        | fail => rw [hk] at hr; cases hr
        | one y t0 h0 =>
          rw [hk] at hr
          obtain ⟨n, hn⟩ := kC_sound hS c t h y t0 h0 hk
          cases y with
          | nx =>
            obtain ⟨m, hm⟩ := ihN t0 h0 hr
            exact ⟨max n m + 1, runSeq_of (m := m) hn (.inl ⟨t0, h0, rfl, hm⟩)⟩
          | rt =>
            have hr : Rs.one .rt t0 h0 = .one x t1 h1 := hr
            cases hr
            exact ⟨max n 0 + 1, runSeq_of (m := 0) hn (.inr ⟨rfl, by simp⟩)⟩
          | ex id =>
            have hr : Rs.one (.ex id) t0 h0 = .one x t1 h1 := hr
            cases hr
            exact ⟨max n 0 + 1, runSeq_of (m := 0) hn (.inr ⟨rfl, by simp⟩)⟩
    exact key 1000000 t h hr
  | .exit id, t, h, x, t1, h1, hr => ⟨1, hr⟩
  | .ret, t, h, x, t1, h1, hr => ⟨1, hr⟩
  | .bad, t, h, x, t1, h1, hr => by cases hr

/-! ### Several ends -/

theorem runs_le {n m : Nat} (h : n ≤ m) : ∀ k t h, LE (run tab n k t h) (run tab m k t h) := fun k t hh => run_le h k t hh

theorem bindO_snd {α : Type} {f : α → Option (List Out)} {g : Nat → α → Option (List Out)} (hg : ∀ n m, n ≤ m → ∀ p r, g n p = some r → g m p = some r) : ∀ {l : List α} {r : List Out}, (∀ p ∈ l, ∀ r, f p = some r → ∃ n, g n p = some r) → bindO f l = some r → ∃ n, bindO (g n) l = some r
  | [], r, _, h => ⟨0, h⟩
  | p :: l, r, hf, h => by
    simp only [bindO] at h
    cases hp : f p with
    | none => simp [hp] at h
    | some a =>
      cases hb : bindO f l with
      | none => simp [hp, hb] at h
      | some b =>
        simp only [hp, hb] at h
        obtain ⟨n, hn⟩ := hf p List.mem_cons_self a hp
        obtain ⟨m, hm⟩ := bindO_snd hg (fun q hq => hf q (List.mem_cons_of_mem _ hq)) hb
        refine ⟨max n m, ?_⟩
        simp only [bindO, hg n _ (Nat.le_max_left n m) p a hn, bindO_le (hg m _ (Nat.le_max_right n m)) hm]
        exact h

theorem ndOp_snd (hS : SndIH tab ih) {t : Tr V} {h : H} {op : I} {l : List (V × H)} (hr : ndOp (ihT ih) t h op = some l) : ∃ n, ndOp (run tab n) t h op = some l := by
  cases op with
  | hv e =>
    have gen : ndHR (ihT ih) h (hvI t h e) = some l → ∃ n, ndHR (run tab n) h (hvI t h e) = some l := by
      intro hr
      unfold ndHR at hr
      cases hq : hvI t h e with
      | fail => simp [hq] at hr
      | v u k => simp only [hq] at hr; exact ⟨0, hr⟩
      | call f args =>
        simp only [hq, ihT] at hr
        cases hc : ih f args h with
        | fail => simp [hc] at hr
        | one x q k =>
          simp only [hc] at hr
          obtain ⟨n, hn⟩ := hS f args h x q k hc
          exact ⟨n, by simp only [ndHR, hn]; exact hr⟩
    simp only [ndOp] at hr ⊢
    unfold ndHv at hr ⊢
    split at hr
    · exact ⟨0, hr⟩
    · exact gen hr
  | pu _ => exact ⟨0, hr⟩
  | rd _ => exact ⟨0, hr⟩
  | al _ => exact ⟨0, hr⟩
  | bad => exact ⟨0, hr⟩

theorem ndOps_snd (hS : SndIH tab ih) : ∀ {l : List St} {t : Tr V} {h : H} {r : List Out}, ndOps (ihT ih) l t h = some r → ∃ n, ndOps (run tab n) l t h = some r
  | [], _, _, _, hr => ⟨0, hr⟩
  | s :: l, t, h, r, hr => by
    simp only [ndOps] at hr ⊢
    cases hw : wantd t s.gd with
    | false => simp only [hw] at hr ⊢; exact ndOps_snd hS hr
    | true =>
      simp only [hw] at hr ⊢
      cases ho : ndOp (ihT ih) t h s.op with
      | none => simp [ho] at hr
      | some a =>
        simp only [ho] at hr
        obtain ⟨n, hn⟩ := ndOp_snd hS ho
        obtain ⟨m, hm⟩ := bindO_snd (α := V × H) (f := fun p => ndOps (ihT ih) l (putD t s.dst p.1) p.2) (g := fun m p => ndOps (run tab m) l (putD t s.dst p.1) p.2) (fun n m hnm p r hp => ndOps_le (runs_le hnm) hp) (fun p _ r hp => ndOps_snd hS hp) hr
        refine ⟨max n m, ?_⟩
        simp only [ndOp_le (runs_le (Nat.le_max_left n m)) hn]
        exact bindO_le (fun p r hp => ndOps_le (runs_le (Nat.le_max_right n m)) hp) hm

theorem ndSeq_snd {f : Tr V → H → Option (List Out)} {g : Nat → Tr V → H → Option (List Out)} (hg : ∀ n m, n ≤ m → ∀ t h r, g n t h = some r → g m t h = some r) (hf : ∀ t h r, f t h = some r → ∃ n, g n t h = some r)
    {a : Option (List Out)} {b : Nat → Option (List Out)} (hb : ∀ n m, n ≤ m → ∀ r, b n = some r → b m = some r) (hab : ∀ r, a = some r → ∃ n, b n = some r) {r : List Out} (hr : ndSeq f a = some r) : ∃ n, ndSeq (g n) (b n) = some r := by
  cases a with
  | none => cases hr
  | some l =>
    obtain ⟨n, hn⟩ := hab l rfl
    obtain ⟨m, hm⟩ := bindO_snd (f := ndThen f) (g := fun m => ndThen (g m)) (fun n m hnm => ndThen_le (hg n m hnm)) (fun o _ r ho => by
      obtain ⟨x, t, h⟩ := o
      cases x with
      | nx => exact hf t h r ho
      | rt => exact ⟨0, ho⟩
      | ex id => exact ⟨0, ho⟩) hr
    refine ⟨max n m, ?_⟩
    rw [hb n _ (Nat.le_max_left n m) l hn]
    exact bindO_le (ndThen_le (hg m _ (Nat.le_max_right n m))) hm

theorem ndC_snd (hS : SndIH tab ih) : ∀ (c : C) (t : Tr V) (h : H) (r : List Out), ndC (ihT ih) c t h = some r → ∃ n, ndC (run tab n) c t h = some r
  | .skip, _, _, _, hr => ⟨0, hr⟩
  | .reg l, _, _, _, hr => ndOps_snd hS hr
  | .dreg l, t, h, r, hr => by
    have hr : outO (kDops l ih t h) = some r := hr
    cases hq : kDops l ih t h with
    | fail => rw [hq] at hr; cases hr
    | one x t1 h1 =>
      rw [hq] at hr
      obtain ⟨n, hn⟩ := kDops_sound hS l t h x t1 h1 hq
      exact ⟨n, by show outO (run tab n (.dops l) t h) = some r; rw [hn]; exact hr⟩
  | .seq a b, t, h, r, hr => ndSeq_snd (g := fun n => ndC (run tab n) b) (b := fun n => ndC (run tab n) a t h) (fun n m hnm => ndC_le (runs_le hnm) b) (ndC_snd hS b) (fun n m hnm => ndC_le (runs_le hnm) a t h) (ndC_snd hS a t h) hr
  | .cond o a b, t, h, r, hr => by
    simp only [ndC] at hr ⊢
    split at hr
    · exact ndC_snd hS a t h r hr
    · exact ndC_snd hS b t h r hr
    · cases hr
  | .block id c, t, h, r, hr => by
    simp only [ndC, Option.map_eq_some_iff] at hr ⊢
    obtain ⟨l, hl, rfl⟩ := hr
    obtain ⟨n, hn⟩ := ndC_snd hS c t h l hl
    exact ⟨n, l, hn, rfl⟩
  | .loop c, t, h, r, hr => by
    have key : ∀ (N : Nat) (t : Tr V) (h : H) (r : List Out), ndLoop (ndC (ihT ih) c) N t h = some r → ∃ n, ndLoop (ndC (run tab n) c) N t h = some r := by
      intro N
      induction N with
      | zero => intro t h r hr; cases hr
      | succ N ihN =>
        intro t h r hr
        exact ndSeq_snd (g := fun n => ndLoop (ndC (run tab n) c) N) (b := fun n => ndC (run tab n) c t h) (fun n m hnm => ndLoop_le (ndC_le (runs_le hnm) c) N) (ihN) (fun n m hnm => ndC_le (runs_le hnm) c t h) (ndC_snd hS c t h) hr
    exact key 1000 t h r hr
  | .exit _, _, _, _, hr => ⟨0, hr⟩
  | .ret, _, _, _, hr => ⟨0, hr⟩
  | .bad, _, _, _, hr => ⟨0, hr⟩

/-- The table of the fast form is that of a table. -/
def TabG (tab : Tr (Option F)) (tg : Tr (Option G)) : Prop := ∀ f g, tg.get none f = some g → ∃ F, tab.get none f = some F ∧ g = toG F

/-- What is known by other means is marked. -/
def TabM (tab : Tr (Option F)) : Prop := ∀ f F, tab.get none f = some F → ∀ o, F.orc = some o → F.nd = true

theorem goT_sound {tg : Tr (Option G)} (hG : TabG tab tg) (hO : TabM tab) : ∀ n, SndIH tab (goT tg n)
  | 0, _, _, _, _, _, _, hr => by cases hr
  | n + 1, f, args, h, x, q, h', hr => by
    have hr : callG (getG f tg) (goT tg n) args h = .one x q h' := hr
    rw [getG_eq] at hr
    cases hg : tg.get none f with
    | none => rw [hg] at hr; cases hr
    | some g =>
      rw [hg] at hr
      obtain ⟨F, hF, rfl⟩ := hG f g hg
      have hr : callB (Nat.ble args.length F.n) (toG F) (goT tg n) args h = .one x q h' := hr
      cases hb : Nat.ble args.length F.n with
      | false => rw [hb] at hr; cases hr
      | true =>
        rw [hb] at hr
        have hr : callN (cond F.nd (some F) none) (toG F) (goT tg n) args h = .one x q h' := hr
        cases hnd : F.nd with
        | true =>
          rw [hnd] at hr
          have hr : orcN F.orc F (toG F) (goT tg n) args h = .one x q h' := hr
          cases horc : F.orc with
          | some o =>
            rw [horc] at hr
            have hr : o args h = .one x q h' := hr
            refine ⟨1, ?_⟩
            show runF (run tab 0) args h (tab.get none f) = _
            rw [hF]
            simp only [runF, horc]
            exact hr
          | none =>
          rw [horc] at hr
          have hr : joinO F.res (ndC (ihT (goT tg n)) F.body (putA args .e (Tr.fill undefV F.n F.n)) h) = .one x q h' := hr
          rw [putA_eq] at hr
          cases ho : ndC (ihT (goT tg n)) F.body (putArgs .e args (Tr.fill undefV F.n F.n)) h with
          | none => rw [ho] at hr; cases hr
          | some outs =>
            obtain ⟨m, hm⟩ := ndC_snd (goT_sound hG hO n) F.body _ h outs ho
            refine ⟨m + 1, ?_⟩
            show runF (run tab m) args h (tab.get none f) = _
            rw [hF]
            simp only [runF, horc]
            show cond (Nat.ble args.length F.n) (cond F.nd (joinO F.res (ndC (run tab m) F.body (putArgs .e args (Tr.fill undefV F.n F.n)) h)) _) .fail = _
            rw [hb, hnd, hm]
            rw [ho] at hr
            exact hr
        | false =>
        rw [hnd] at hr
        have hr : retG ((cond F.nd kBad (kC F.body)) (goT tg n) (putA args .e (Tr.fill undefV F.n F.n)) h) (kRes F.res) = .one x q h' := hr
        rw [putA_eq, hnd] at hr
        simp only [cond_false] at hr
        cases hk : kC F.body (goT tg n) (putArgs .e args (Tr.fill undefV F.n F.n)) h with
        | fail => rw [hk] at hr; cases hr
        | one y t0 h0 =>
          rw [hk] at hr
          obtain ⟨m, hm⟩ := kC_sound (goT_sound hG hO n) F.body _ h y t0 h0 hk
          refine ⟨m + 1, ?_⟩
          cases horc : F.orc with
          | some o => exact absurd hnd (by rw [hO f F hF o horc]; simp)
          | none =>
          show runF (run tab m) args h (tab.get none f) = _
          rw [hF]
          simp only [runF, horc]
          show cond (Nat.ble args.length F.n) (cond F.nd _ (runRet F.res (run tab m (.code F.body) (putArgs .e args (Tr.fill undefV F.n F.n)) h))) .fail = _
          rw [hb, hnd, hm]
          cases y with
          | nx => have hr : kRes F.res t0 h0 = .one x q h' := hr; rw [kRes_eq] at hr; exact hr
          | rt => have hr : kRes F.res t0 h0 = .one x q h' := hr; rw [kRes_eq] at hr; exact hr
          | ex id => cases hr

end
end Go.Eng
