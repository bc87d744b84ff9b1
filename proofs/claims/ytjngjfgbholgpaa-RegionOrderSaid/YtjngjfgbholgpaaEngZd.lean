/- The engine, part Zd: tables; what a finished run says of a call. -/
import Derived.Test.YtjngjfgbholgpaaEngZc
import Derived.Below
set_option linter.unusedSimpArgs false
set_option linter.unusedVariables false
namespace Go.Eng
open Go.RowKit

/-! ### Tables -/

def AllT {α : Type} (Q : Path → α → Prop) : Tr α → Prop
  | .nil => True
  | .nd l v r => Q .e v ∧ AllT (fun p => Q (.l p)) l ∧ AllT (fun p => Q (.r p)) r

theorem AllT.get {α : Type} {d : α} : ∀ {t : Tr α} {Q : Path → α → Prop} {p : Path}, AllT Q t → t.get d p ≠ d → Q p (t.get d p)
  | .nil, _, _, _, h => absurd rfl h
  | .nd _ _ _, _, .e, h, _ => h.1
  | .nd l _ _, Q, .l _, h, hn => AllT.get (t := l) (Q := fun p => Q (.l p)) h.2.1 hn
  | .nd _ _ r, Q, .r _, h, hn => AllT.get (t := r) (Q := fun p => Q (.r p)) h.2.2 hn

/-- An entry of a table is right. -/
def EntOk (P : Program) (ng : Nat) (plan : Array Oper → Option (List It)) (p : Path) (x : Option F) : Prop :=
  ∀ F, x = some F → ∃ fn, P.funcs[p.num]? = some fn ∧ cF P ng plan fn = some F

theorem EntOk.none {P : Program} {ng : Nat} {plan : Array Oper → Option (List It)} {p : Path} : EntOk P ng plan p none := fun _ h => by cases h

theorem EntOk.some {P : Program} {ng : Nat} {plan : Array Oper → Option (List It)} {p : Path} {F : F} {k : Nat} {fn : Func} (hf : P.funcs[k]? = some fn) (hc : cF P ng plan fn = some F) (hk : p.num = k) : EntOk P ng plan p (some F) := by
  intro F' h
  cases h
  exact ⟨fn, by rw [hk]; exact hf, hc⟩

theorem TabOk.of [Env] {P : Program} {ng : Nat} {plan : Array Oper → Option (List It)} {tab : Tr (Option F)} (h : AllT (EntOk P ng plan) tab) : TabOk P ng plan tab := by
  intro f F hF
  have := h.get (d := none) (p := f) (by rw [hF]; intro c; cases c)
  exact .inl (this F hF)

/-! ### Calls -/

/-- Did the run end, with 'true'? -/
noncomputable def endsTrue (r : Rs) : Bool :=
  match r with
  | .one _ q _ => (match q.get undefV .e with | .b x => x | _ => false)
  | .fail => false

theorem endsTrue_spec {r : Rs} (h : endsTrue r = true) : ∃ x q h', r = .one x q h' ∧ q.get undefV .e = .b true := by
  unfold endsTrue at h
  split at h
  · rename_i x q h'
    refine ⟨x, q, h', rfl, ?_⟩
    split at h
    · rename_i b hb; rw [hb, h]
    · cases h
  · cases h

end Go.Eng
