/- The engine, part D: frames, operands, constants; operations that touch no memory. -/
import Derived.Test.YtjngjfgbholgpaaEngC
import Derived.Laws.Slices
set_option linter.unusedSimpArgs false
set_option linter.unusedVariables false
namespace Go.Eng

/-! ### Constants -/
mutual
def cV : Value → Option V
  | .bool b => some (.b b)
  | .int k n => some (.i k n)
  | .string ⟨⟨l⟩⟩ => some (.s (l.map (·.toNat)))
  | .pointer none => some .p0
  | .slice none 0 0 => some .sl0
  | .map none => some .m0
  | .nilFunc => some .f0
  | .nilIface => some .i0
  | .agg ⟨l⟩ => (cVs l).bind fun l => if l.all V.one then some (.a l) else none
  | .tuple ⟨l⟩ => (cVs l).map .t
  | .func (.func f) ⟨[]⟩ ⟨[]⟩ => some (.f (Path.of f) [])
  | _ => none
def cVs : List Value → Option (List V)
  | [] => some []
  | v :: l => (cV v).bind fun x => (cVs l).map fun xs => x :: xs
end

theorem map_ofNat_toNat (l : List UInt8) : (l.map (·.toNat)).map UInt8.ofNat = l := by
  rw [List.map_map]
  conv => rhs; rw [← List.map_id l]
  apply List.map_congr_left
  intro x _
  simp

theorem all_byteOk (l : List UInt8) : (l.map (·.toNat)).all byteOk = true := by
  rw [List.all_eq_true]
  intro n hn
  obtain ⟨x, _, rfl⟩ := List.mem_map.1 hn
  simp only [byteOk, Nat.blt_eq]
  exact UInt8.toNat_lt x

mutual
theorem cV_spec [Env] (ρ : Ren) : ∀ (x : Value) (v : V), cV x = some v → conc ρ v = some x
  | .bool b, v, h => by simp [cV] at h; subst h; rfl
  | .int k n, v, h => by simp [cV] at h; subst h; rfl
  | .string ⟨⟨l⟩⟩, v, h => by
    simp [cV] at h; subst h
    simp only [conc, all_byteOk, if_true, map_ofNat_toNat]
  | .pointer none, v, h => by simp [cV] at h; subst h; rfl
  | .pointer (some _), v, h => by simp [cV] at h
  | .slice none 0 0, v, h => by simp [cV] at h; subst h; rfl
  | .slice none (_ + 1) _, v, h => by simp [cV] at h
  | .slice none 0 (_ + 1), v, h => by simp [cV] at h
  | .slice (some _) _ _, v, h => by simp [cV] at h
  | .map none, v, h => by simp [cV] at h; subst h; rfl
  | .map (some _), v, h => by simp [cV] at h
  | .nilFunc, v, h => by simp [cV] at h; subst h; rfl
  | .nilIface, v, h => by simp [cV] at h; subst h; rfl
  | .agg ⟨l⟩, v, h => by
    simp only [cV, Option.bind_eq_some_iff] at h
    obtain ⟨k, hk, h⟩ := h
    split at h
    · rename_i h1
      cases h
      simp only [conc, h1, if_true, cVs_spec ρ l k hk, Option.map_some]
    · cases h
  | .tuple ⟨l⟩, v, h => by
    simp only [cV, Option.map_eq_some_iff] at h
    obtain ⟨k, hk, rfl⟩ := h
    simp only [conc, cVs_spec ρ l k hk, Option.map_some]
  | .func (.func f) ⟨[]⟩ ⟨[]⟩, v, h => by
    simp [cV] at h; subst h
    simp [conc, concs, Path.num_of]
  | .func (.func f) ⟨_ :: _⟩ _, v, h => by simp [cV] at h
  | .func (.func f) ⟨[]⟩ ⟨_ :: _⟩, v, h => by simp [cV] at h
  | .func (.method _) _ _, v, h => by simp [cV] at h
  | .func (.methodOf _ _) _ _, v, h => by simp [cV] at h
  | .func (.via _ _ _ _) _ _, v, h => by simp [cV] at h
  | .func (.yield _) _ _, v, h => by simp [cV] at h
  | .float _ _, v, h => by simp [cV] at h
  | .complex _ _ _, v, h => by simp [cV] at h
  | .chan _, v, h => by simp [cV] at h
  | .iface _ _, v, h => by simp [cV] at h
theorem cVs_spec [Env] (ρ : Ren) : ∀ (l : List Value) (k : List V), cVs l = some k → concs ρ k = some l
  | [], k, h => by simp [cVs] at h; subst h; rfl
  | x :: l, k, h => by
    simp only [cVs, Option.bind_eq_some_iff, Option.map_eq_some_iff] at h
    obtain ⟨v, hv, k', hk, rfl⟩ := h
    simp only [concs, cV_spec ρ x v hv, cVs_spec ρ l k' hk, Option.bind_some, Option.map_some]
end

/-! ### Frames and operands -/

def undefV : V := .t []

structure FrRel [Env] (ρ : Ren) (fr : Tr V) (tmps : Array Value) : Prop where
  val : ∀ t, conc ρ (fr.get undefV (Path.of t)) = some (tmps.getD t undef)
  mem : ∀ t, fr.mem (Path.of t) = decide (t < tmps.size)

theorem FrRel.later [Env] {ρ ρ' : Ren} {fr : Tr V} {tmps : Array Value} (hl : Later ρ ρ') (h : FrRel ρ fr tmps) : FrRel ρ' fr tmps :=
  ⟨fun t => conc_later hl _ _ (h.val t), h.mem⟩

theorem FrRel.set [Env] {ρ : Ren} {fr : Tr V} {tmps : Array Value} (h : FrRel ρ fr tmps) (d : Nat) (v : V) (x : Value) (hv : conc ρ v = some x) :
    FrRel ρ (fr.set (Path.of d) v) (tmps.setIfInBounds d x) := by
  refine ⟨fun t => ?_, fun t => ?_⟩
  · rw [Tr.get_set]
    have hm := h.mem d
    by_cases e : t = d
    · subst e
      by_cases hs : t < tmps.size
      · rw [if_pos ⟨rfl, by rw [hm]; simpa using hs⟩, hv]
        simp [Array.getD_eq_getD_getElem?, hs]
      · rw [if_neg (by rw [hm]; simp [hs]), h.val]
        simp [Array.getD_eq_getD_getElem?, hs]
    · rw [if_neg (fun c => e (Path.of_inj c.1)), h.val]
      simp only [Array.getD_eq_getD_getElem?]
      rw [Array.getElem?_setIfInBounds_ne (fun c => e c.symm)]
  · rw [Tr.mem_set, h.mem]; simp

inductive Opd where
  | t (p : Path)
  | c (v : V)

noncomputable def ev (fr : Tr V) (o : Opd) : V := Opd.casesOn o (fun p => fr.get undefV p) (fun v => v)

/-- An operand. -/
def cO (_ng : Nat) : Operand → Option Opd
  | .tmp t => some (.t (Path.of t))
  | .const v => (cV v).map .c
  | .global _ => none
  | .func f => some (.c (.f (Path.of f) []))

/-- What the package-level variables of a set hold is known (ng: the set, as bits). -/
def FactOk [Env] (c g : Nat) : Prop :=
  match c with
  | 0 => True
  | 1 => ∃ z, Env.val g = some (.int .i64 z) ∧ z ≤ 2
  | 2 => Env.val g = some (.int .i64 3)
  | _ => ∃ z, Env.val g = some (.int .i64 z) ∧ 4 ≤ z

/-- The class of one integer variable, and that variable. -/
def mxC (ng : Nat) : Nat := Nat.land (Nat.shiftRight ng 64) 3
def mxG (ng : Nat) : Nat := Nat.shiftRight ng 66

def Glob [Env] (ng : Nat) (_ρ : Ren) : Prop := (∀ g, g < 64 → Nat.testBit ng g = true → ∃ x, Env.val g = some x) ∧ FactOk (mxC ng) (mxG ng)

theorem Glob.later [Env] {ng : Nat} {ρ ρ' : Ren} (_ : Later ρ ρ') (h : Glob ng ρ) : Glob ng ρ' := h

theorem ev_spec [Env] {ng : Nat} {ρ : Ren} {fr : Tr V} {a : Act} (hg : Glob ng ρ) (h : FrRel ρ fr a.tmps) {x : Operand} {o : Opd} (hc : cO ng x = some o) :
    conc ρ (ev fr o) = some (a.eval x) := by
  cases x with
  | tmp t => simp [cO] at hc; subst hc; exact h.val t
  | const v =>
    simp only [cO, Option.map_eq_some_iff] at hc
    obtain ⟨u, hu, rfl⟩ := hc
    exact cV_spec ρ v u hu
  | global g => simp [cO] at hc
  | func f =>
    simp [cO] at hc; subst hc
    simp [ev, conc, concs, Path.num_of, Act.eval]

/-- Several operands. -/
def cOs (ng : Nat) : List Operand → Option (List Opd)
  | [] => some []
  | x :: l => (cO ng x).bind fun o => (cOs ng l).map fun os => o :: os

noncomputable def evs (fr : Tr V) (l : List Opd) : List V :=
  List.rec (motive := fun _ => List V) [] (fun o _ ih => ev fr o :: ih) l

theorem evs_spec [Env] {ng : Nat} {ρ : Ren} {fr : Tr V} {a : Act} (hg : Glob ng ρ) (h : FrRel ρ fr a.tmps) :
    ∀ {l : List Operand} {os : List Opd}, cOs ng l = some os → concs ρ (evs fr os) = some (l.map a.eval)
  | [], os, hc => by simp [cOs] at hc; subst hc; rfl
  | x :: l, os, hc => by
    simp only [cOs, Option.bind_eq_some_iff, Option.map_eq_some_iff] at hc
    obtain ⟨o, ho, os', hos, rfl⟩ := hc
    show concs ρ (ev fr o :: evs fr os') = _
    simp only [concs, ev_spec hg h ho, evs_spec hg h hos, Option.bind_some, Option.map_some, List.map_cons]

end Go.Eng
