/- CalcClone: what Print and Read answer, as told answers of the evaluator. -/
import Derived.Test.YtgbdldcpndfebaaGreatDoorCcRead
import Derived.Test.YtgbdldcpndfebaaGreatDoorCodeT
import Derived.Test.YtgbdldcpndfebaaGreatDoorEngRa
import Derived.Shelf.Abstract
set_option linter.unusedSimpArgs false
set_option linter.unusedVariables false
set_option maxRecDepth 100000
namespace Go.Proofs.YtgbdldcpndfebaaGreatDoor
open Go Go.RowKit Go.Proofs Go.Cc Go.Eng
theorem ent9 : ∀ xs w, (callFunc 9 xs).run Tryz.prog w = .ok (.enter 9 xs) w := enters_of Tryz.func9 (by kernel_rfl) rfl
theorem ent7 : ∀ xs w, (callFunc 7 xs).run Tryz.prog w = .ok (.enter 7 xs) w := enters_of Tryz.func7 (by kernel_rfl) rfl
theorem conc_y [E : Env] (j : Nat) (a lo hi : Int) (ρ : Ren) (h : Env.par j = a) (h1 : lo ≤ a) (h2 : a ≤ hi) : conc ρ (.y j 0 lo hi) = some (.int .i64 a) := by
  show yV (Env.par j + 0) lo hi = _
  rw [Int.add_zero, h]
  exact if_pos ⟨h1, h2⟩
theorem conc_cellO [E : Env] (j : Nat) (a : Int) (ρ : Ren) (h : conc ρ (Code.yP j) = some (n64 a)) : conc ρ (.t [Code.cellO j, Code.n6 0]) = some (.tuple #[cellV a, n64 0]) := by
  have e : conc ρ (Code.cellO j) = some (cellV a) := by
    unfold Code.cellO
    simp only [conc, concs, h]
    rfl
  simp only [conc, concs, e]
  rfl
section
variable {gs : List Nat} {w : World} {hw : ∀ g ∈ gs, OneCell w g} {a b : Int} {ng : Nat} (ha : -2147483648 ≤ a ∧ a ≤ 2147483647) (hb : -2147483648 ≤ b ∧ b ≤ 2147483647)
theorem orcP : @OrcOk (envS gs w hw ⟨(printS a).toArray⟩ ⟨(printS b).toArray⟩ a b ha hb) Tryz.prog ng Code.q9 (memoO Code.memoP) := by
  letI : Env := envS gs w hw ⟨(printS a).toArray⟩ ⟨(printS b).toArray⟩ a b ha hb
  refine memo_ok fun x v hxv h => ?_
  simp only [Code.memoP, List.mem_cons, List.not_mem_nil, or_false, Prod.mk.injEq] at hxv
  have k0 := fun ρ => conc_y 0 a (-2147483648) 2147483647 ρ rfl ha.1 ha.2
  have k1 := fun ρ => conc_y 1 b (-2147483648) 2147483647 ρ rfl hb.1 hb.2
  rcases hxv with ⟨rfl, rfl⟩ | ⟨rfl, rfl⟩
  · exact callOk_says (f := Code.q9) (xs0 := [n64 a]) (u0 := .string ⟨(printS a).toArray⟩) ent9 (fun ρ => by simp only [concs, Code.yP, k0 ρ]; rfl) (fun ρ => rfl) (fun w => print_w a ha w) h
  · exact callOk_says (f := Code.q9) (xs0 := [n64 b]) (u0 := .string ⟨(printS b).toArray⟩) ent9 (fun ρ => by simp only [concs, Code.yP, k1 ρ]; rfl) (fun ρ => rfl) (fun w => print_w b hb w) h
theorem memoR_says : ∀ x v, (x, v) ∈ Code.memoR → ∀ h, @CallOk (envS gs w hw ⟨(printS a).toArray⟩ ⟨(printS b).toArray⟩ a b ha hb) Tryz.prog ng Code.q7 x h v h := by
  letI : Env := envS gs w hw ⟨(printS a).toArray⟩ ⟨(printS b).toArray⟩ a b ha hb
  intro x v hxv h
  simp only [Code.memoR, List.mem_cons, List.not_mem_nil, or_false, Prod.mk.injEq] at hxv
  have k0 := fun ρ => conc_y 0 a (-2147483648) 2147483647 ρ rfl ha.1 ha.2
  have k1 := fun ρ => conc_y 1 b (-2147483648) 2147483647 ρ rfl hb.1 hb.2
  rcases hxv with ⟨rfl, rfl⟩ | ⟨rfl, rfl⟩
  · exact callOk_says (f := Code.q7) (xs0 := [.string ⟨(printS a).toArray⟩]) (u0 := .tuple #[cellV a, n64 0]) ent7 (fun ρ => rfl) (fun ρ => conc_cellO 0 a ρ (k0 ρ)) (fun w => read_a a ha w) h
  · exact callOk_says (f := Code.q7) (xs0 := [.string ⟨(printS b).toArray⟩]) (u0 := .tuple #[cellV b, n64 0]) ent7 (fun ρ => rfl) (fun ρ => conc_cellO 1 b ρ (k1 ρ)) (fun w => read_a b hb w) h
end
end Go.Proofs.YtgbdldcpndfebaaGreatDoor
