/- CalcClone, the walks: numbers as texts. -/
import Derived.Test.YtgbdldcpndfebaaGreatDoorProg
import Derived.WalkKit
import Derived.BigGuard
import Derived.BigCall
import Derived.CellFam
import Derived.Deep.Draws
import Derived.Deep.QuietTactic
import Derived.BigQuiet
import Derived.BigRegion
import Derived.Deep.LoopGhost
import Derived.Lib.Hide
import Derived.Laws.IdiomStrings
import Derived.Deep.MidRow
import Derived.Deep.WholeRow
import Derived.Test.YtgbdldcpndfebaaGreatDoorCcPure
set_option linter.unusedSimpArgs false
set_option linter.unusedVariables false
namespace Go.Proofs.YtgbdldcpndfebaaGreatDoor
open Go Go.RowKit Go.Proofs Go.Cc

abbrev n64 (x : Int) : Value := .int .i64 x
abbrev nu (x : Nat) : Value := .int .u64 x
def bs (l : List Nat) : List UInt8 := l.map fun d => UInt8.ofNat (48 + d)
def strD (l : List Nat) : Value := .string ⟨(bs l).toArray⟩

set_option maxRecDepth 100000 in
set_option maxHeartbeats 1000000 in
theorem abs_w (a : Int) (h : -2147483648 ≤ a ∧ a ≤ 2147483647) (w : World) : Calls Tryz.prog 28 #[n64 a] w fun e w' => e = .returned (nu a.natAbs) ∧ w' = w := by
  go_enter Tryz.func28, Tryz.ntmps28
  go_wp2
  all_goals go_ret
  all_goals refine ⟨?_, rfl⟩
  all_goals (show Ending.returned (.int .u64 _) = Ending.returned (.int .u64 _); refine congrArg (fun z => Ending.returned (.int .u64 z)) ?_)
  all_goals omega

theorem conv1 (u : World) (x : Int) : (convert 123 9 (.slice (some ⟨u.heap.size, 0, none⟩) 1 1)).run Tryz.prog (u.alloc (.cells #[.int .u8 x] 5)) = .ok (.string ⟨#[UInt8.ofNat x.toNat]⟩) (u.alloc (.cells #[.int .u8 x] 5)) := by
  rw [run_convert_bytes_string _ 123 9 5 _ _ _ Tryz.underlying123 Tryz.underlying5 Tryz.underlying9]
  have hl := run_loadCells_list (P := Tryz.prog) (u.alloc (.cells #[.int .u8 x] 5)) ⟨u.heap.size, 0, none⟩ [.int .u8 x] (fun j v hj => by
    have h0 : j = 0 := by
      have := (List.getElem?_eq_some_iff.1 hj).1
      simpa using this
    subst h0
    simp at hj
    subst hj
    simp [Addr.add])
  rw [run_bytesToString _ _ 1 1 [x] hl]
  rfl
theorem digsA_len : ∀ (m : Nat) (s : List Nat), s.length ≤ (digsA m s).length := by
  intro m
  induction m using Nat.strongRecOn with
  | ind m ih =>
    intro s
    by_cases h : m = 0
    · subst h
      by_cases hs : s = []
      · subst hs; simp
      · rw [digsA_end hs]; exact Nat.le_refl _
    · rw [digsA_step (.inl (by omega))]
      exact Nat.le_trans (by simp) (ih (m / 10) (by omega) (m % 10 :: s))
@[simp] theorem bs_len (s : List Nat) : (bs s).length = s.length := by simp [bs]
@[simp] theorem bs_empty (s : List Nat) : (bs s).isEmpty = s.isEmpty := by cases s <;> rfl
theorem bs_cons (d : Nat) (s : List Nat) : (⟨#[48 + UInt8.ofNat d]⟩ : ByteArray) ++ ⟨(bs s).toArray⟩ = ⟨(bs (d :: s)).toArray⟩ := by
  apply ByteArray.ext
  simp [bs, ByteArray.data_append, UInt8.ofNat_add]
def lenS : Value → Nat
  | .string b => if b.size = 0 then 1 else 0
  | _ => 0
theorem lenS_cons (d : Nat) (s : List Nat) : lenS (.string ⟨(bs (d :: s)).toArray⟩) = 0 := by
  have : (⟨(bs (d :: s)).toArray⟩ : ByteArray).size ≠ 0 := by simp [ByteArray.size, bs]
  simp only [lenS, if_neg this]
set_option maxRecDepth 100000 in
set_option maxHeartbeats 2000000 in
theorem dec_w (n : Nat) (h : n < 10000000000) (w : World) : Calls Tryz.prog 29 #[nu n] w fun e w' => e = .returned (strD (digs n)) ∧ Below w.heap.size w w' := by
  have HL : Hid ((digs n).length ≤ 10) := digs_len 9 n (by simpa using h)
  go_enter Tryz.func29, Tryz.ntmps29
  go_wp2
  go_loopw [0, 3] (fun v0 v3 wr => ∃ (m : Nat) (s : List Nat), v0 = nu m ∧ v3 = strD s ∧ Hid (digsA m s = digs n) ∧ m < 10000000000 ∧ Hid (Below w.heap.size w wr)) (fun v0 v3 _ => 2 * (intOf v0).toNat + lenS v3)
  case atStart => exact ⟨n, [], rfl, rfl, digsA_nil n, h, Below.refl _ _⟩
  case round =>
    obtain ⟨m, s, rfl, rfl, HD, hm, HB⟩ := hrel
    have hs : s.length ≤ 10 := by
      have := digsA_len m s
      rw [HD.out] at this
      exact Nat.le_trans this HL.out
    by_cases hgo : 0 < m ∨ s = []
    · have HS : Hid (digsA (m / 10) (m % 10 :: s) = digs n) := (digsA_step hgo).symm.trans HD.out
      have hcv := conv1
      by_cases hm0 : m = 0
      · have hs0 : s = [] := by rcases hgo with h | h; omega; exact h
        subst hm0; subst hs0
        unfold strD
        clear hgo
        go_wp2
        all_goals first
          | (exfalso; simp at *; done)
          | skip
        all_goals refine ⟨⟨0, [0], rfl, ?_, HS, by omega, HB.out.alloc HB.out.size _⟩, ?_⟩
        · exact congrArg Value.string (bs_cons 0 [])
        · rw [show lenS (.string ({ data := #[48] } ++ { data := (bs []).toArray })) = 0 from (congrArg (fun b => lenS (.string b)) (bs_cons 0 [])).trans (lenS_cons 0 [])]
          simp [intOf, lenS, bs]; decide
      · have hmp : 0 < m := by omega
        clear hgo
        unfold strD
        go_wp2
        all_goals first
          | (exfalso; simp at *; omega)
          | skip
        all_goals refine ⟨⟨m / 10, m % 10 :: s, congrArg (Value.int .u64) (by omega), ?_, HS, by omega, HB.out.alloc HB.out.size _⟩, ?_⟩
        · exact congrArg Value.string (bs_cons (m % 10) s)
        · rw [show lenS (.string ({ data := #[48 + UInt8.ofNat (m % 10)] } ++ { data := (bs s).toArray })) = 0 from (congrArg (fun b => lenS (.string b)) (bs_cons (m % 10) s)).trans (lenS_cons (m % 10) s)]
          simp [intOf]; omega
    · have hm0 : m = 0 := by omega
      have hs0 : s ≠ [] := fun e => hgo (.inr e)
      subst hm0
      have HE : Hid (s = digs n) := by show s = digs n; rw [← HD.out, digsA_end hs0]
      cases s with
      | nil => exact absurd rfl hs0
      | cons d l =>
        unfold strD
        clear hgo hs0
        go_wp2
        all_goals first
          | (exfalso; simp at *; done)
          | skip
        all_goals go_ret
        all_goals exact ⟨by rw [← HE.out]; rfl, HB.out⟩
end Go.Proofs.YtgbdldcpndfebaaGreatDoor
