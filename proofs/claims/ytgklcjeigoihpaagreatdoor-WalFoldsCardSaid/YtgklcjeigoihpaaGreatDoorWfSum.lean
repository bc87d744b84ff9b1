/- WalFolds, the walks: zbyte.Sum, the sum of some bytes. -/
import Derived.Test.YtgklcjeigoihpaaGreatDoorProg
import Derived.WalkKit
import Derived.BigGuard
import Derived.BigCall
import Derived.CellFam
import Derived.Deep.Draws
import Derived.Deep.QuietTactic
import Derived.BigQuiet
import Derived.BigRegion
import Derived.Deep.LoopGhost
import Derived.Lib.Hide
import Derived.Laws.BitsAllLaws
import Derived.Deep.MidRow
import Derived.KernelRfl
import Derived.Handy
set_option linter.unusedSimpArgs false
set_option linter.unusedVariables false
namespace Go.Proofs.YtgklcjeigoihpaaGreatDoor
open Go Go.RowKit Go.Proofs

abbrev n64 (x : Int) : Value := .int .i64 x
/-- One bit's step; one byte's; the sum of a row. -/
def bitS (x : Nat) : Nat := cond (Nat.beq (Nat.mod x 2) 0) (Nat.div x 2) (Nat.xor (Nat.div x 2) 3988292384)
def byteS (x c : Nat) : Nat := bitS (bitS (bitS (bitS (bitS (bitS (bitS (bitS (Nat.xor x c))))))))
def sumL (l : List Nat) : Nat := l.foldl byteS 4294967295

theorem xor_lt32 {a b : Nat} (ha : a < 4294967296) (hb : b < 4294967296) : Nat.xor a b < 4294967296 := Nat.xor_lt_two_pow (n := 32) ha hb
theorem bitS_lt {x : Nat} (h : x < 4294967296) : bitS x < 4294967296 := by
  unfold bitS
  cases Nat.beq (Nat.mod x 2) 0
  · exact xor_lt32 (show x / 2 < _ by omega) (by decide)
  · show x / 2 < _; omega
theorem byteS_lt {x c : Nat} (h : x < 4294967296) (hc : c < 256) : byteS x c < 4294967296 := by
  unfold byteS
  iterate 8 refine bitS_lt ?_
  exact xor_lt32 h (by omega)
theorem bitS_even {x : Nat} (h : x % 2 = 0) : bitS x = x / 2 := by
  have h' : Nat.mod x 2 = 0 := h
  unfold bitS; rw [h']; rfl
theorem bitS_odd {x : Nat} (h : x % 2 = 1) : bitS x = Nat.xor (x / 2) 3988292384 := by
  have h' : Nat.mod x 2 = 1 := h
  unfold bitS; rw [h']; rfl

def itS : Nat → Nat → Nat
  | 0, y => y
  | k + 1, y => bitS (itS k y)
theorem and_u32_1 (y : Nat) (h : y < 4294967296) : bits .and .u32 (y : Int) 1 = ((y % 2 : Nat) : Int) := by
  have := u32_and_nat y 1 h (by decide)
  rw [show ((1 : Nat) : Int) = 1 from rfl] at this
  rw [this, Nat.and_one_is_mod]
theorem step_eqs (y : Nat) (h : y < 4294967296) : ∃ a g p : Int, bits .and .u32 (y : Int) 1 = a ∧ IntKind.u32.wrap (-a) = g ∧ bits .and .u32 3988292384 g = p ∧ bits .xor .u32 ((y : Int) / 2) p = ((bitS y : Nat) : Int) := by
  have hsh : (y : Int) / 2 = ((y / 2 : Nat) : Int) := by omega
  rcases (by omega : y % 2 = 0 ∨ y % 2 = 1) with h2 | h2
  · refine ⟨0, 0, 0, ?_, ?_, by kernel_rfl, ?_⟩
    · rw [and_u32_1 y h, h2]; rfl
    · rw [IntKind.wrap_u32]; rfl
    · have := u32_xor_nat (y / 2) 0 (by omega) (by decide)
      rw [show ((0 : Nat) : Int) = 0 from rfl] at this
      rw [hsh, this, bitS_even h2]
      simp
  · refine ⟨1, 4294967295, 3988292384, ?_, ?_, by kernel_rfl, ?_⟩
    · rw [and_u32_1 y h, h2]; rfl
    · rw [IntKind.wrap_u32]; rfl
    · have := u32_xor_nat (y / 2) 3988292384 (by omega) (by decide)
      rw [show ((3988292384 : Nat) : Int) = 3988292384 from rfl] at this
      rw [hsh, this, bitS_odd h2]
      rfl
set_option maxRecDepth 100000 in
set_option maxHeartbeats 8000000 in
theorem sum_w (l : List Nat) (hl : ∀ c ∈ l, c < 256) (hlen : l.length < 4611686018427387904) (b o cap : Nat) (w : World) (hc : Hid (∀ i (h : i < l.length), w.cell? ⟨b, o + i, none⟩ = some (.int .u8 (l[i] : Nat)))) (hb : b < w.heap.size) :
    Calls Tryz.prog 89 #[.slice (some ⟨b, o, none⟩) l.length cap] w fun e w' => e = .returned (.int .u32 ((Nat.xor (sumL l) 4294967295 : Nat) : Int)) ∧ w' = w := by
  have HL : Hid (∀ c ∈ l, c < 256) := hl
  clear hl
  go_enter Tryz.func89, Tryz.ntmps89
  go_wp2
  go_loopw [3, 8] (fun v3 v8 wr => ∃ (i x : Nat), i ≤ l.length ∧ v8 = n64 i ∧ v3 = .int .u32 (x : Int) ∧ x < 4294967296 ∧ Hid (x = (l.take i).foldl byteS 4294967295) ∧ wr = w) (fun _ v8 _ => (l.length - intOf v8).toNat)
  case atStart => exact ⟨0, 4294967295, by omega, rfl, rfl, by decide, rfl, rfl⟩
  case round =>
    obtain ⟨i, x, hi, rfl, rfl, hx, HX, rfl⟩ := hrel
    by_cases hin : i < l.length
    · obtain ⟨c, hcc⟩ : ∃ c, c = l[i] := ⟨_, rfl⟩
      have HC : Hid (c = l[i]) := hcc
      have hc256 : c < 256 := by rw [hcc]; exact HL.out _ (List.getElem_mem hin)
      have hcell := hc.out i hin
      rw [← hcc] at hcell
      have hxor : bits .xor .u32 (x : Int) (c : Int) = ((Nat.xor x c : Nat) : Int) := u32_xor_nat x c hx (by omega)
      have hwc : IntKind.u32.wrap (c : Int) = c := by rw [IntKind.wrap_u32]; omega
      clear hcc
      go_wp2
      go_loopw [3, 16] (fun v3 v16 wq => ∃ (k y : Nat), k ≤ 8 ∧ v16 = n64 k ∧ v3 = .int .u32 (y : Int) ∧ y < 4294967296 ∧ Hid (y = itS k (Nat.xor x c)) ∧ wq = wr) (fun _ v16 _ => (8 - intOf v16).toNat)
      case atStart => exact ⟨0, Nat.xor x c, by omega, rfl, rfl, xor_lt32 hx (by omega), rfl, rfl⟩
      case round =>
        obtain ⟨k, y, hk, rfl, rfl, hy, HY, rfl⟩ := hrel
        by_cases hk8 : k < 8
        · have hwk : wrap64 ((k : Int) + 1) = k + 1 := by unfold wrap64; omega
          obtain ⟨a, g, p, q1, q2, q3, q4⟩ := step_eqs y hy
          obtain ⟨z, hz⟩ : ∃ z, z = bitS y := ⟨_, rfl⟩
          rw [← hz] at q4
          have HZ : Hid (z = bitS y) := hz
          clear hx hz hxor hwc hcell
          go_wp2
          refine ⟨⟨k + 1, z, ?_, ?_, ?_, ?_, ?_, ?_⟩, ?_⟩
          · omega
          · rfl
          · rfl
          · rw [HZ.out]; exact bitS_lt hy
          · show z = bitS (itS k (Nat.xor x c)); rw [HZ.out, HY.out]
          · trivial
          · simp only [intOf]; omega
        · have hk9 : k = 8 := by omega
          subst hk9
          have wi : wrap64 ((i : Int) + 1) = i + 1 := by unfold wrap64; omega
          clear hxor hwc hcell hc256
          go_wp2
          refine ⟨⟨i + 1, y, ?_, ?_, ?_, ?_, ?_, ?_⟩, ?_⟩
          · omega
          · rfl
          · rfl
          · exact hy
          · show y = (l.take (i + 1)).foldl byteS 4294967295
            rw [List.take_succ_eq_append_getElem hin, List.foldl_append, ← HX.out, ← HC.out, HY.out]
            rfl
          · trivial
          · simp only [intOf]; omega
    · have hin' : i = l.length := by omega
      subst hin'
      have HS : Hid (x = sumL l) := by show x = sumL l; rw [HX.out, List.take_length]; rfl
      have HR : Hid (bits .xor .u32 IntKind.u32.max (x : Int) = ((Nat.xor (sumL l) 4294967295 : Nat) : Int)) := by
        show bits .xor .u32 IntKind.u32.max (x : Int) = _
        rw [← HS.out]
        have := u32_xor_nat 4294967295 x (by decide) hx
        rw [show ((4294967295 : Nat) : Int) = IntKind.u32.max from rfl] at this
        rw [this, Nat.xor_comm]
        rfl
      clear hin hi
      go_wp2
      go_ret
      exact ⟨congrArg (fun z => Ending.returned (.int .u32 z)) HR.out, rfl⟩
end Go.Proofs.YtgklcjeigoihpaaGreatDoor
