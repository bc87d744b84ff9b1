/- The engine, part Ze: tables of the fast form; what a finished fast run says of a call. -/
import Derived.Test.YtjngjfgbholgpaaEngZd
import Derived.Test.YtjngjfgbholgpaaEngRc
set_option linter.unusedSimpArgs false
set_option linter.unusedVariables false
namespace Go.Eng
open Go.RowKit

/-- A function of which all is known by other means. -/
def orcF (n : Nat) (o : List V → H → Rs) : F := ⟨n, true, [], .bad, some o⟩

def isOrc : Option F → Option F
  | some F => (match F.orc with | some _ => some F | none => none)
  | none => none

theorem cF_orc {P : Program} {ng : Nat} {plan : Array Oper → Option (List It)} {fn : Func} {F : F} (h : cF P ng plan fn = some F) : F.orc = none := by
  unfold cF at h
  split at h
  · split at h
    · cases h
    · obtain ⟨r, _, rfl⟩ := Option.map_eq_some_iff.1 h; rfl
  · cases h

theorem isOrc_toG {P : Program} {ng : Nat} {plan : Array Oper → Option (List It)} {fn : Func} {F : F} (h : cF P ng plan fn = some F) : isOrc (toG F).nd = none := by
  have := cF_orc h
  unfold toG
  cases hn : F.nd <;> simp [isOrc, this]

/-- The entry that an entry of the fast form stands for. -/
def entF (P : Program) (ng : Nat) (plan : Array Oper → Option (List It)) (k : Nat) (g : G) : Option F :=
  match isOrc g.nd with
  | some F => some F
  | none => (P.funcs[k]?).bind (cF P ng plan)

/-- The table that a table of the fast form stands for. -/
def tabOf (P : Program) (ng : Nat) (plan : Array Oper → Option (List It)) : Tr (Option G) → (Path → Path) → Tr (Option F)
  | .nil, _ => .nil
  | .nd l g r, c => .nd (tabOf P ng plan l (fun p => c (.l p))) (match g with | none => none | some g => entF P ng plan (c .e).num g) (tabOf P ng plan r (fun p => c (.r p)))

theorem tabOf_get {P : Program} {ng : Nat} {plan : Array Oper → Option (List It)} : ∀ (t : Tr (Option G)) (c : Path → Path) (p : Path),
    (tabOf P ng plan t c).get none p = match t.get none p with | none => none | some g => entF P ng plan (c p).num g
  | .nil, _, _ => rfl
  | .nd _ _ _, _, .e => rfl
  | .nd l _ _, c, .l p => tabOf_get l (fun p => c (.l p)) p
  | .nd _ _ r, c, .r p => tabOf_get r (fun p => c (.r p)) p

/-- An entry of a table of the fast form is right. -/
def EntG [Env] (P : Program) (ng : Nat) (plan : Array Oper → Option (List It)) (p : Path) (x : Option G) : Prop :=
  ∀ g, x = some g → (∃ fn F, P.funcs[p.num]? = some fn ∧ cF P ng plan fn = some F ∧ g = toG F) ∨ ∃ n o, g = toG (orcF n o) ∧ OrcOk P ng p o

theorem EntG.none [Env] {P : Program} {ng : Nat} {plan : Array Oper → Option (List It)} {p : Path} : EntG P ng plan p none := fun _ h => by cases h

theorem EntG.some [Env] {P : Program} {ng : Nat} {plan : Array Oper → Option (List It)} {p : Path} {g : G} {k : Nat} {fn : Func} (hf : P.funcs[k]? = some fn) (hc : (cF P ng plan fn).map toG = some g) (hk : p.num = k) : EntG P ng plan p (some g) := by
  intro g' h
  cases h
  simp only [Option.map_eq_some_iff] at hc
  obtain ⟨F, hF, rfl⟩ := hc
  exact .inl ⟨fn, F, by rw [hk, hf], hF, rfl⟩

theorem EntG.orc [Env] {P : Program} {ng : Nat} {plan : Array Oper → Option (List It)} {p : Path} {n : Nat} {o : List V → H → Rs} (h : OrcOk P ng p o) : EntG P ng plan p (Option.some (toG (orcF n o))) := by
  intro g' h'
  cases h'
  exact .inr ⟨n, o, rfl, h⟩

theorem tabOf_ent [Env] {P : Program} {ng : Nat} {plan : Array Oper → Option (List It)} {t : Tr (Option G)} (h : AllT (EntG P ng plan) t) {f : Path} {F : F} (hF : (tabOf P ng plan t id).get none f = some F) :
    ∃ g, t.get none f = some g ∧ g = toG F ∧ ((∃ fn, P.funcs[f.num]? = some fn ∧ cF P ng plan fn = some F) ∨ ∃ n o, F = orcF n o ∧ OrcOk P ng f o) := by
  rw [tabOf_get] at hF
  cases hg : t.get none f with
  | none => rw [hg] at hF; cases hF
  | some g =>
    rw [hg] at hF
    have hF : entF P ng plan f.num g = some F := hF
    have := h.get (d := none) (p := f) (by rw [hg]; intro c; cases c)
    rcases this g hg with ⟨fn, F', hfn, hc, rfl⟩ | ⟨n, o, rfl, ho⟩
    · unfold entF at hF
      rw [isOrc_toG hc, hfn] at hF
      have hF : cF P ng plan fn = some F := hF
      rw [hc] at hF
      cases hF
      exact ⟨_, rfl, rfl, .inl ⟨fn, hfn, hc⟩⟩
    · have hF : some (orcF n o) = some F := hF
      cases hF
      exact ⟨_, rfl, rfl, .inr ⟨n, o, rfl, ho⟩⟩

theorem tabOf_ok [Env] {P : Program} {ng : Nat} {plan : Array Oper → Option (List It)} {t : Tr (Option G)} (h : AllT (EntG P ng plan) t) : TabOk P ng plan (tabOf P ng plan t id) := by
  intro f F hF
  obtain ⟨_, _, _, h | ⟨n, o, rfl, ho⟩⟩ := tabOf_ent h hF
  · exact .inl h
  · exact .inr ⟨o, rfl, ho⟩

theorem TabM.of [Env] {P : Program} {ng : Nat} {plan : Array Oper → Option (List It)} {t : Tr (Option G)} (h : AllT (EntG P ng plan) t) : TabM (tabOf P ng plan t id) := by
  intro f F hF o ho
  obtain ⟨_, _, _, ⟨fn, _, hc⟩ | ⟨n, o', rfl, _⟩⟩ := tabOf_ent h hF
  · rw [cF_orc hc] at ho; cases ho
  · rfl

theorem TabG.of [Env] {P : Program} {ng : Nat} {plan : Array Oper → Option (List It)} {t : Tr (Option G)} (h : AllT (EntG P ng plan) t) : TabG (tabOf P ng plan t id) t := by
  intro f g hg
  have := h.get (d := none) (p := f) (by rw [hg]; intro c; cases c)
  rcases this g hg with ⟨fn, F, hfn, hc, rfl⟩ | ⟨n, o, rfl, ho⟩
  · refine ⟨F, ?_, rfl⟩
    rw [tabOf_get, hg]
    show entF P ng plan f.num (toG F) = _
    unfold entF
    rw [isOrc_toG hc, hfn]
    exact hc
  · exact ⟨orcF n o, by rw [tabOf_get, hg]; rfl, rfl⟩

noncomputable def trueJ (v : V) : Bool := V.rec (motive_1 := fun _ => Bool) (motive_2 := fun _ => PUnit) (fun x => x) (fun _ _ => false) (fun _ => false) (fun _ _ => false) false (fun _ _ _ _ _ _ => false) false (fun _ => false) false (fun _ _ _ => false) false (fun _ _ _ => false) false (fun _ _ => false) (fun _ _ => false) (fun _ => false) (fun _ _ => false) (fun _ _ _ _ => false) PUnit.unit (fun _ _ _ _ => PUnit.unit) v
noncomputable def endsJ (r : Rs) : Bool := Rs.rec (motive := fun _ => Bool) false (fun _ q _ => trueJ (valT q)) r

theorem endsJ_spec {r : Rs} (h : endsJ r = true) : ∃ x q h', r = .one x q h' ∧ q.get undefV .e = .b true := by
  cases r with
  | fail => cases h
  | one x q h' =>
    refine ⟨x, q, h', rfl, ?_⟩
    have h : trueJ (valT q) = true := h
    have e : valT q = q.get undefV .e := gP_eq .e q
    rw [e] at h
    cases hv : q.get undefV .e <;> rw [hv] at h <;> first
      | (cases h; done)
      | (have h : _ = true := h; rename_i b; exact congrArg V.b h)

/-- A CALL THAT ENDS WITH 'true', by the fast form; some package-level variables are known. -/
theorem calls_gen [Env] {P : Program} {ng : Nat} {tg : Tr (Option G)} (hm : P.follows .mixedOrders = true) (hG : AllT (EntG P ng (planOf P ng)) tg) {n : Nat} {f : Path} {args : List V} {xs : List Value} {ρ0 : Ren} {h0 : H}
    (hrun : endsJ (goT tg n f args h0) = true) (hargs : concs ρ0 args = some xs) (w : World) (hrel : HRel ρ0 h0 w) (hdead : ∀ p, (h0.get p).live = false) (hE : Glob ng ρ0) :
    Calls P f.num xs.toArray w fun e w' => e = .returned (.bool true) ∧ Below w.heap.size w w' := by
  obtain ⟨x, q, h', hr, hq⟩ := endsJ_spec hrun
  obtain ⟨N, hN⟩ := goT_sound (TabG.of hG) (TabM.of hG) n f args _ x q h' hr
  refine ((sound hm (tabOf_ok hG) N).call f args .nil h0 x q h' hN ρ0 w xs hargs hrel hE).2.mono ?_
  rintro e w' ⟨u, ρ', rfl, hu, _, hx⟩
  rw [hq] at hu
  simp only [conc, Option.some.injEq] at hu
  subst hu
  exact ⟨rfl, hx.str.os, hx.str.tape, hx.str.output, hx.size, fun b hb => hx.frame b hb fun p y hp _ => by rw [hdead p] at hp; cases hp⟩

/-- No package-level variable is known. -/
abbrev noEnv : Env := ⟨fun _ => none, fun _ _ h => (by cases h), fun _ _ h => (by cases h), fun _ => 0⟩

theorem calls_trueJ {P : Program} {tg : Tr (Option G)} (hm : P.follows .mixedOrders = true) (hG : AllT (@EntG noEnv P 0 (planOf P 0)) tg) {n : Nat} {f : Path} (hrun : endsJ (goT tg n f [] ⟨.nil, .e⟩) = true) (w : World) :
    Calls P f.num #[] w fun e w' => e = .returned (.bool true) ∧ Below w.heap.size w w' :=
  @calls_gen noEnv P 0 tg hm hG n f [] [] (fun _ => none) ⟨.nil, .e⟩ hrun rfl w
    (@HRel.mk noEnv _ _ _ (fun _ _ h => (by cases h)) (fun _ _ h => (by cases h)) (fun _ h => (by cases h)) (fun _ _ _ _ h => (by cases h)) (fun _ _ h => (by cases h))) (fun _ => rfl) ⟨fun g _ hg => (by simp at hg), show @FactOk noEnv 0 0 from trivial⟩

def isBool : Value → Bool
  | .bool _ => true
  | _ => false

/-- A package-level variable of one cell, that is no bool. -/
def OneCell (w : World) (g : Nat) : Prop := ∃ x e fz, w.heap[g]? = some (.cells #[x] e fz) ∧ (x.oneCell' && !isBool x) = true

/-- What lies in some package-level variables. -/
noncomputable abbrev envOf (gs : List Nat) (w : World) (_ : ∀ g ∈ gs, OneCell w g) : Env where
  val g := if g ∈ gs then (match w.heap[g]? with | some (.cells c _ _) => (match c.toList with | [x] => if x.oneCell' && !isBool x then some x else none | _ => none) | _ => none) else none
  one g x h := by
    split at h
    · split at h
      · split at h
        · split at h
          · rename_i h1; cases h; simp only [Bool.and_eq_true] at h1; exact h1.1
          · cases h
        · cases h
      · cases h
    · cases h
  par := fun _ => 0
  nob g b h := by
    split at h
    · split at h
      · split at h
        · split at h
          · rename_i h1; cases h; simp [isBool] at h1
          · cases h
        · cases h
      · cases h
    · cases h

theorem envOf_val (gs : List Nat) (w : World) (hw : ∀ g ∈ gs, OneCell w g) (g : Nat) : (envOf gs w hw).val g = if g ∈ gs then (match w.heap[g]? with | some (.cells c _ _) => (match c.toList with | [x] => if x.oneCell' && !isBool x then some x else none | _ => none) | _ => none) else none := rfl

theorem calls_env {P : Program} {ng : Nat} {tg : Tr (Option G)} (hm : P.follows .mixedOrders = true) (hG : ∀ [Env], AllT (EntG P ng (planOf P ng)) tg) {n : Nat} {f : Path} (hrun : endsJ (goT tg n f [] ⟨.nil, .e⟩) = true) (w : World)
    (gs : List Nat) (hw : ∀ g ∈ gs, OneCell w g) (hgs : ∀ g, g < 64 → Nat.testBit ng g = true → g ∈ gs)
    (hmx : mxC ng = 0 ∨ ∃ z e fz, w.heap[mxG ng]? = some (.cells #[.int .i64 z] e fz) ∧ mxG ng ∈ gs ∧ ClassZ (mxC ng) z) :
    Calls P f.num #[] w fun e w' => e = .returned (.bool true) ∧ Below w.heap.size w w' := by
  letI : Env := envOf gs w hw
  have hval : ∀ g x, Env.val g = some x → ∃ e fz, w.heap[g]? = some (.cells #[x] e fz) := by
    intro g x h
    have h : (envOf gs w hw).val g = some x := h
    rw [envOf_val] at h
    split at h
    · split at h
      · rename_i c e fz hc
        split at h
        · rename_i y hy
          split at h
          · cases h
            have : c = #[x] := by apply Array.ext'; simpa using hy
            subst this
            exact ⟨e, fz, hc⟩
          · cases h
        · cases h
      · cases h
    · cases h
  refine calls_gen (xs := []) (ρ0 := fun _ => none) hm hG hrun rfl w ⟨fun _ _ h => (by cases h), fun _ _ h => (by cases h), fun _ h => (by cases h), fun _ _ _ _ h => (by cases h), fun g x h => ⟨hval g x h, fun _ _ h => (by cases h)⟩⟩ (fun _ => rfl) ⟨fun g hlt hg => ?_, ?_⟩
  · obtain ⟨x, e, fz, hc, h1⟩ := hw g (hgs g hlt hg)
    refine ⟨x, ?_⟩
    show (envOf gs w hw).val g = some x
    rw [envOf_val, if_pos (hgs g hlt hg)]
    simp only [hc]
    rw [if_pos h1]
  · rcases hmx with h0 | ⟨z, e, fz, hc, hmem, hcl⟩
    · rw [h0]; trivial
    · have hv : Env.val (mxG ng) = some (.int .i64 z) := by
        show (envOf gs w hw).val (mxG ng) = _
        rw [envOf_val, if_pos hmem]
        simp only [hc]
        rfl
      match hq : mxC ng, hcl with
      | 0, _ => trivial
      | 1, hcl => exact ⟨z, hv, hcl⟩
      | 2, hcl => have hcl : z = 3 := hcl; subst hcl; exact hv
      | _ + 3, hcl => exact ⟨z, hv, hcl⟩

end Go.Eng
