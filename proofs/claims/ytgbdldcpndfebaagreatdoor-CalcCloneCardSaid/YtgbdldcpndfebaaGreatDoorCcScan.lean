/- CalcClone: what is read of a printed number, byte by byte (no program in sight but the walks' own words). -/
import Derived.Test.YtgbdldcpndfebaaGreatDoorCcParW
set_option linter.unusedSimpArgs false
set_option linter.unusedVariables false
namespace Go.Proofs.YtgbdldcpndfebaaGreatDoor
open Go Go.RowKit Go.Proofs Go.Cc

theorem val_ge : ∀ (l : List Nat) (w : Nat), w ≤ val l w
  | [], w => Nat.le_refl _
  | d :: l, w => by
    have := val_ge l (10 * w + d)
    show w ≤ val l (10 * w + d)
    omega
theorem val_pre (l k : List Nat) (w : Nat) : val l w ≤ val (l ++ k) w := by rw [val_append]; exact val_ge _ _
theorem val_take (l : List Nat) (i w : Nat) : val (l.take i) w ≤ val l w := by
  have := val_pre (l.take i) (l.drop i) w
  rwa [List.take_append_drop] at this
theorem val_next (l : List Nat) (i : Nat) (h : i < l.length) (w : Nat) : val (l.take (i + 1)) w = 10 * val (l.take i) w + l[i] := by
  rw [List.take_succ_eq_append_getElem h, val_append]
  rfl

theorem scan_whole (ds : List Nat) (B : Nat → Nat) (hd : ∀ d ∈ ds, d < 10) (hl : ds.length ≤ 100) (hv : val ds 0 ≤ 2147483648) (hB : ∀ i (h : i < ds.length), B i = ds[i] + 48) :
    Scan ds.length B (fun _ => -1) (fun i => val (ds.take i) 0) where
  p0 := rfl
  v0 := rfl
  le := hl
  step i hi := .inr ⟨ds[i], by have := hd _ (List.getElem_mem hi); omega, hB i hi, rfl, val_next ds i hi 0, Nat.le_trans (val_take ds (i + 1) 0) hv⟩

theorem scan_frac (ds fs : List Nat) (B : Nat → Nat) (hd : ∀ d ∈ ds, d < 10) (hf : ∀ d ∈ fs, d < 10) (hl : ds.length + 1 + fs.length ≤ 100) (hv : val (ds ++ fs) 0 ≤ 2147483648)
    (hB : ∀ i (h : i < ds.length), B i = ds[i] + 48) (hp : B ds.length = 46) (hF : ∀ i (h : i < fs.length), B (ds.length + 1 + i) = fs[i] + 48) :
    Scan (ds.length + 1 + fs.length) B (fun i => if i ≤ ds.length then -1 else ds.length) (fun i => if i ≤ ds.length then val (ds.take i) 0 else val (fs.take (i - ds.length - 1)) (val ds 0)) where
  p0 := by simp
  v0 := by simp [val]
  le := hl
  step i hi := by
    rcases Nat.lt_trichotomy i ds.length with h | h | h
    · refine .inr ⟨ds[i], by have := hd _ (List.getElem_mem h); omega, hB i h, ?_, ?_, ?_⟩
      · simp only [if_pos (Nat.le_of_lt h), if_pos (Nat.succ_le_of_lt h)]
      · simp only [if_pos (Nat.le_of_lt h), if_pos (Nat.succ_le_of_lt h)]; exact val_next ds i h 0
      · simp only [if_pos (Nat.succ_le_of_lt h)]
        exact Nat.le_trans (Nat.le_trans (val_take ds (i + 1) 0) (val_pre ds fs 0)) hv
    · subst h
      refine .inl ⟨hp, ?_, ?_, ?_⟩
      · simp
      · simp
      · simp only [if_pos (Nat.le_refl _), if_neg (show ¬ ds.length + 1 ≤ ds.length by omega)]
        rw [show ds.length + 1 - ds.length - 1 = 0 by omega, List.take_length]
        rfl
    · have hk : i - ds.length - 1 < fs.length := by omega
      have e1 : i + 1 - ds.length - 1 = (i - ds.length - 1) + 1 := by omega
      refine .inr ⟨fs[i - ds.length - 1], by have := hf _ (List.getElem_mem hk); omega, ?_, ?_, ?_, ?_⟩
      · have := hF (i - ds.length - 1) hk
        rw [← this]
        exact congrArg B (by omega)
      · simp only [if_neg (show ¬ i ≤ ds.length by omega), if_neg (show ¬ i + 1 ≤ ds.length by omega)]
      · simp only [if_neg (show ¬ i ≤ ds.length by omega), if_neg (show ¬ i + 1 ≤ ds.length by omega), e1]
        exact val_next fs _ hk _
      · simp only [if_neg (show ¬ i + 1 ≤ ds.length by omega)]
        exact Nat.le_trans (val_take fs _ _) (by rw [← val_append]; exact hv)

/-- A text's bytes. -/
def byteAt (L : List UInt8) (i : Nat) : Nat := (L[i]?.getD 0).toNat
theorem byteAt_get (L : List UInt8) (i : Nat) (h : i < (⟨L.toArray⟩ : ByteArray).size) : ((⟨L.toArray⟩ : ByteArray)[i]'h).toNat = byteAt L i := by
  have h' : i < L.length := h
  unfold byteAt
  rw [List.getElem?_eq_getElem h']
  rfl
theorem byte_dig (d : Nat) (h : d < 10) : (UInt8.ofNat (48 + d)).toNat = d + 48 := by
  simp only [UInt8.toNat_ofNat']
  omega
theorem bs_at (ds : List Nat) (hd : ∀ d ∈ ds, d < 10) (R : List UInt8) (i : Nat) (h : i < ds.length) : byteAt (bs ds ++ R) i = ds[i] + 48 := by
  unfold byteAt bs
  rw [List.getElem?_append_left (by simpa using h), List.getElem?_map, List.getElem?_eq_getElem h]
  exact byte_dig _ (hd _ (List.getElem_mem h))

/-- All that the walk of Parse asks for, of a number's text. -/
theorem body_scan (m : Nat) (hm : m ≤ 2147483648) : ∃ (P : Nat → Int) (V : Nat → Nat), 0 < (body m).length ∧ Scan (body m).length (byteAt (body m)) P V ∧ byteAt (body m) 0 ≠ 45 ∧
    ((P (body m).length = -1 ∧ (1 < (body m).length → byteAt (body m) 0 ≠ 48) ∧ V (body m).length * 10000 = m) ∨ ∃ q k : Nat, P (body m).length = q ∧ 0 < q ∧ q + 1 + k = (body m).length ∧ 1 ≤ k ∧ k ≤ 4 ∧ (1 < q → byteAt (body m) 0 ≠ 48) ∧ V (body m).length * 10 ^ (4 - k) = m) := by
  have hd := digs_small (m / 10000)
  have hne := digs_ne (m / 10000)
  have hln : (digs (m / 10000)).length ≤ 6 := digs_len 5 _ (by omega)
  have hpos : 0 < (digs (m / 10000)).length := List.length_pos_iff.2 hne
  have hval := val_digs (m / 10000)
  have hhead : 1 < (digs (m / 10000)).length → ∀ h, 0 < (digs (m / 10000))[0]'h := by
    intro h1 h
    by_cases hz : m / 10000 < 10
    · rw [digs_lt hz] at h1; simp at h1
    · obtain ⟨d, l, e, hdp⟩ := digs_head (m / 10000) (by omega)
      simp only [e]
      exact hdp
  have h0d := hd _ (List.getElem_mem hpos)
  by_cases hr : m % 10000 = 0
  · have hb : body m = bs (digs (m / 10000)) ++ [] := by unfold body; rw [if_pos hr]
    rw [hb]
    have hlen : (bs (digs (m / 10000)) ++ []).length = (digs (m / 10000)).length := by simp
    rw [hlen]
    have hb0 := bs_at _ hd [] 0 hpos
    refine ⟨_, _, hpos, scan_whole _ _ hd (by omega) (by rw [hval]; omega) (fun i h => bs_at _ hd [] i h), by omega, .inl ⟨rfl, fun h1 => ?_, ?_⟩⟩
    · have := hhead h1 hpos; omega
    · show val ((digs (m / 10000)).take _) 0 * 10000 = m
      rw [List.take_length, hval]; omega
  · have hb : body m = bs (digs (m / 10000)) ++ 46 :: bs ((t4 (m % 10000)).take (keep (m % 10000))) := by unfold body; rw [if_neg hr]
    have hk := keep_le (m % 10000)
    have hfl : ((t4 (m % 10000)).take (keep (m % 10000))).length = keep (m % 10000) := by rw [List.length_take]; simp [t4]; omega
    have hf : ∀ d ∈ (t4 (m % 10000)).take (keep (m % 10000)), d < 10 := fun d h => t4_small _ (by omega) d (List.mem_of_mem_take h)
    have hkv := keep_val (m % 10000) (m / 10000) (by omega)
    generalize (t4 (m % 10000)).take (keep (m % 10000)) = fs at hb hfl hf hkv
    rw [hb]
    have hlen : (bs (digs (m / 10000)) ++ 46 :: bs fs).length = (digs (m / 10000)).length + 1 + fs.length := by simp; omega
    rw [hlen]
    have hb0 := bs_at _ hd (46 :: bs fs) 0 hpos
    have hle : val fs (m / 10000) ≤ m := by
      have h1 : 1 ≤ 10 ^ (4 - keep (m % 10000)) := Nat.pos_of_ne_zero (by simp)
      have h2 := Nat.mul_le_mul_left (val fs (m / 10000)) h1
      omega
    have hsum : val fs (m / 10000) * 10 ^ (4 - keep (m % 10000)) = m := by rw [hkv]; omega
    refine ⟨_, _, by omega, scan_frac (digs (m / 10000)) fs _ hd hf (by omega) (by rw [val_append, hval]; omega) (fun i h => bs_at _ hd _ i h) ?_ ?_, by omega, .inr ⟨(digs (m / 10000)).length, keep (m % 10000), ?_, hpos, by omega, hk.1, hk.2, fun h1 => ?_, ?_⟩⟩
    · unfold byteAt
      rw [List.getElem?_append_right (by simp)]
      simp
    · intro i h
      unfold byteAt
      rw [List.getElem?_append_right (by simp; omega)]
      simp only [bs_len]
      rw [show (digs (m / 10000)).length + 1 + i - (digs (m / 10000)).length = i + 1 by omega, List.getElem?_cons_succ]
      unfold bs
      rw [List.getElem?_map, List.getElem?_eq_getElem h]
      exact byte_dig _ (hf _ (List.getElem_mem h))
    · rw [if_neg (by omega)]
    · have := hhead h1 hpos; omega
    · simp only [if_neg (show ¬ (digs (m / 10000)).length + 1 + fs.length ≤ (digs (m / 10000)).length by omega)]
      rw [show (digs (m / 10000)).length + 1 + fs.length - (digs (m / 10000)).length - 1 = fs.length by omega, List.take_length, hval]
      exact hsum
end Go.Proofs.YtgbdldcpndfebaaGreatDoor
