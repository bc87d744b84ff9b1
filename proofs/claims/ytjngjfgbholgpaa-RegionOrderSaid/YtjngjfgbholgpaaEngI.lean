/- The engine, part I: the compilation of operations that touch no memory, and their soundness. -/
import Derived.Test.YtjngjfgbholgpaaEngH
set_option linter.unusedSimpArgs false
set_option linter.unusedVariables false
namespace Go.Eng
section
variable {P : Program} {ρ : Ren}

def eqKind (c : Bool) : TypeDesc → Nat
  | .bool => 3
  | .pointer _ => 4
  | .slice _ => 5
  | .map _ _ => 6
  | .func _ _ _ => 7
  | .interface _ => if c then 9 else 8
  | _ => 0

theorem conc_sl [Env] {b : Path} {off len cap : Nat} {ex : Bool} {es : Nat} {x : Value} (h : conc ρ (.sl b off len cap ex es) = some x) :
    ∃ y, ρ b = some y ∧ len ≤ cap ∧ cap ≤ capOf ex cap y.2 off es ∧ off + capOf ex cap y.2 off es * es ≤ y.2 ∧
      x = .slice (some ⟨y.1, off, none⟩) len (capOf ex cap y.2 off es) := by
  simp only [conc, Option.bind_eq_some_iff] at h
  obtain ⟨y, hy, h⟩ := h
  split at h
  · rename_i hc
    cases h
    exact ⟨y, hy, hc.1, hc.2.1, hc.2.2, rfl⟩
  · cases h

theorem conc_p [Env] {b : Path} {off : Nat} {x : Value} (h : conc ρ (.p b off) = some x) : ∃ y, ρ b = some y ∧ x = .pointer (some ⟨y.1, off, none⟩) := by
  simp only [conc, Option.map_eq_some_iff] at h
  obtain ⟨y, hy, rfl⟩ := h; exact ⟨y, hy, rfl⟩

theorem conc_a [Env] {l : List V} {x : Value} (h : conc ρ (.a l) = some x) : ∃ xs, l.all V.one = true ∧ concs ρ l = some xs ∧ x = .agg xs.toArray := by
  simp only [conc] at h
  split at h
  · rename_i h1
    simp only [Option.map_eq_some_iff] at h
    obtain ⟨xs, hx, rfl⟩ := h; exact ⟨xs, h1, hx, rfl⟩
  · cases h

theorem conc_t [Env] {l : List V} {x : Value} (h : conc ρ (.t l) = some x) : ∃ xs, concs ρ l = some xs ∧ x = .tuple xs.toArray := by
  simp only [conc, Option.map_eq_some_iff] at h
  obtain ⟨xs, hx, rfl⟩ := h; exact ⟨xs, hx, rfl⟩

theorem conc_m [Env] {b : Path} {x : Value} (h : conc ρ (.m b) = some x) : ∃ y, ρ b = some y ∧ x = .map (some y.1) := by
  simp only [conc, Option.map_eq_some_iff] at h
  obtain ⟨y, hy, rfl⟩ := h; exact ⟨y, hy, rfl⟩

theorem conc_f [Env] {fn : Path} {cs : List V} {x : Value} (h : conc ρ (.f fn cs) = some x) : ∃ xs, concs ρ cs = some xs ∧ x = .func (.func fn.num) #[] xs.toArray := by
  simp only [conc, Option.map_eq_some_iff] at h
  obtain ⟨xs, hx, rfl⟩ := h; exact ⟨xs, hx, rfl⟩

theorem conc_ifc [Env] {t : Nat} {v : V} {x : Value} (h : conc ρ (.ifc t v) = some x) : ∃ y, conc ρ v = some y ∧ x = .iface t y := by
  simp only [conc, Option.map_eq_some_iff] at h
  obtain ⟨y, hy, rfl⟩ := h; exact ⟨y, hy, rfl⟩

theorem eqV_spec [Env] {c : Bool} {dd : Nat} {t : TypeId} {d : TypeDesc} {x y : V} {a b : Value} {r : Bool} (hu : P.underlying t = some d) (h : eqV (eqKind c d) x y = some r)
    (ha : conc ρ x = some a) (hb : conc ρ y = some b) (w : World) : (Op.equalIn (dd + 1) t a b).run P w = .ok r w := by
  cases d <;> simp only [eqKind] at h <;> try (simp only [eqV] at h; cases h; done)
  case bool =>
    cases x <;> simp only [eqV] at h <;> try cases h
    cases y <;> simp only [] at h <;> try cases h
    simp [conc] at ha hb; subst ha; subst hb
    exact run_equalIn_bool' w _ t _ _ hu
  case pointer e =>
    cases x <;> simp only [eqV] at h <;> (try cases h) <;> cases y <;> simp only [] at h <;> try cases h
    · obtain ⟨y, _, rfl⟩ := conc_p ha
      simp [conc] at hb; subst hb
      simp [Op.equalIn, run_under hu]
    · obtain ⟨y, _, rfl⟩ := conc_p hb
      simp [conc] at ha; subst ha
      simp [Op.equalIn, run_under hu]
    · simp [conc] at ha hb; subst ha; subst hb
      simp [Op.equalIn, run_under hu]
  case slice e =>
    cases x <;> simp only [eqV] at h <;> (try cases h) <;> cases y <;> simp only [] at h <;> try cases h
    · obtain ⟨y, _, _, _, _, rfl⟩ := conc_sl ha
      simp [conc] at hb; subst hb
      simp [Op.equalIn, run_under hu]
    · obtain ⟨y, _, _, _, _, rfl⟩ := conc_sl hb
      simp [conc] at ha; subst ha
      simp [Op.equalIn, run_under hu]
    · simp [conc] at ha hb; subst ha; subst hb
      simp [Op.equalIn, run_under hu]
  case map k e =>
    cases x <;> simp only [eqV] at h <;> (try cases h) <;> cases y <;> simp only [] at h <;> try cases h
    · obtain ⟨y, _, rfl⟩ := conc_m ha
      simp [conc] at hb; subst hb
      simp [Op.equalIn, run_under hu]
    · obtain ⟨y, _, rfl⟩ := conc_m hb
      simp [conc] at ha; subst ha
      simp [Op.equalIn, run_under hu]
    · simp [conc] at ha hb; subst ha; subst hb
      simp [Op.equalIn, run_under hu]
  case func p q v =>
    cases x <;> simp only [eqV] at h <;> (try cases h) <;> cases y <;> simp only [] at h <;> try cases h
    · obtain ⟨y, _, rfl⟩ := conc_f ha
      simp [conc] at hb; subst hb
      simp [Op.equalIn, run_under hu]
    · obtain ⟨y, _, rfl⟩ := conc_f hb
      simp [conc] at ha; subst ha
      simp [Op.equalIn, run_under hu]
    · simp [conc] at ha hb; subst ha; subst hb
      simp [Op.equalIn, run_under hu]
  case interface ms =>
    cases c <;> simp only [Bool.false_eq_true, if_false, if_true] at h <;>
    cases x <;> simp only [eqV] at h <;> (try cases h) <;> cases y <;> simp only [] at h <;> try cases h
    all_goals
      first
        | (obtain ⟨y, _, rfl⟩ := conc_ifc ha; simp [conc] at hb; subst hb; simp [Op.equalIn, run_under hu]; done)
        | (obtain ⟨y, _, rfl⟩ := conc_ifc hb; simp [conc] at ha; subst ha; simp [Op.equalIn, run_under hu]; done)
        | (simp [conc] at ha hb; subst ha; subst hb; simp [Op.equalIn, run_under hu])

def isC : Operand → Bool
  | .const _ => true
  | _ => false

theorem eqGuard_ok [Env] {c : Bool} {op : BinOp} {t : TypeId} {x y : Operand} {u v : V} {a b : Value} {d : TypeDesc} {r : Bool} (hc : c = (isC x || isC y)) (h : eqV (eqKind c d) u v = some r)
    (ha : conc ρ u = some a) (hb : conc ρ v = some b) (w : World) : (eqGuard op t x y a b).run P w = .ok () w := by
  have gen : (∀ xs ys, ¬ (a = .agg xs ∧ b = .agg ys)) → (¬ (a = .nilIface ∧ b = .nilIface) ∨ c = true) → (eqGuard op t x y a b).run P w = .ok () w := by
    intro h1 h2
    unfold eqGuard
    cases op <;> try (simp; done)
    all_goals
      have hq : ∀ b : Bool, b = true → (!b) = false := by intro b h; simp [h]
      simp only [Bool.not_true, Bool.false_eq_true, if_false]
      split
      · have hc' : (isC x || isC y) = true := by
          rcases h2 with h2 | h2
          · exact absurd ⟨rfl, rfl⟩ h2
          · rw [← hc]; exact h2
        cases x <;> cases y <;> first | (simp [isC] at hc'; done) | simp
      · exact absurd ⟨rfl, rfl⟩ (h1 _ _)
      · simp
  refine gen ?_ ?_
  · intro xs ys ⟨h1, _⟩
    subst h1
    cases u <;> simp only [conc, Option.map_eq_some_iff, Option.bind_eq_some_iff] at ha <;> try (first | (cases ha; done) | (obtain ⟨_, _, h⟩ := ha; cases h; done))
    · split at ha <;> cases ha
    · obtain ⟨_, _, h⟩ := ha; split at h <;> cases h
    · cases d <;> cases c <;> simp [eqKind, eqV] at h
    · cases d <;> cases c <;> simp [eqKind, eqV] at h
    · cases d <;> cases c <;> simp [eqKind, eqV] at h
    · cases d <;> cases c <;> simp [eqKind, eqV] at h
  · by_cases hcc : c = true
    · exact .inr hcc
    · left
      rintro ⟨rfl, rfl⟩
      have e1 : u = .i0 := by
        cases u <;> simp only [conc, Option.map_eq_some_iff, Option.bind_eq_some_iff] at ha <;> first
          | rfl
          | (cases ha; done)
          | (obtain ⟨_, _, h⟩ := ha; cases h; done)
          | (split at ha <;> first | (cases ha; done) | (simp at ha; done))
          | (obtain ⟨_, _, h⟩ := ha; split at h <;> cases h)
          | (exfalso; cases d <;> cases c <;> simp [eqKind, eqV] at h)
      have e2 : v = .i0 := by
        cases v <;> simp only [conc, Option.map_eq_some_iff, Option.bind_eq_some_iff] at hb <;> first
          | rfl
          | (cases hb; done)
          | (obtain ⟨_, _, h⟩ := hb; cases h; done)
          | (split at hb <;> first | (cases hb; done) | (simp at hb; done))
          | (obtain ⟨_, _, h⟩ := hb; split at h <;> cases h)
          | (exfalso; subst e1; cases d <;> cases c <;> simp [eqKind, eqV] at h)
      subst e1; subst e2
      have : c = false := by simpa using hcc
      subst this
      cases d <;> simp [eqKind, eqV] at h

end
end Go.Eng
