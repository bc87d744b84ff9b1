/- XformFollows, the row: what comes in as a slice of lines, of bools. -/
import Derived.Test.YtglgibmjcgfecaaGreatDoorXBatch
import Derived.Deep.Slices
import Derived.ChangeArms
import Derived.Test.YtglgibmjcgfecaaGreatDoorRBat
set_option linter.unusedSimpArgs false
set_option linter.unusedVariables false
set_option linter.unusedSimpArgs false
set_option linter.unusedVariables false
namespace Go.Proofs.YtglgibmjcgfecaaGreatDoor
open Go Go.RowKit Go.Proofs Go.Xf Go.ChangeShapes Go.WideShapes Go.Deep

theorem fits64 {a : Int} (h : (Lit.int .i64 a).wf = true) : -9223372036854775808 ≤ a ∧ a ≤ 9223372036854775807 := by
  have e1 : IntKind.i64.min = -9223372036854775808 := rfl
  have e2 : IntKind.i64.max = 9223372036854775807 := rfl
  simp [Lit.wf] at h
  omega
set_option maxRecDepth 100000 in
theorem open_line {H : Type} {enc : TypeId × Value → H} {w : World} {base : Nat} {spare : Nat → Bool} {held : Bool} {fuel : Nat} {cs : List Value} {x : DataW H × List MemPlace} (h : DataW.trod enc Tryz.prog w base spare held fuel 28 cs = some x) :
    ∃ l : Ln, cs = [n64 l.k, n64 l.a, n64 l.t] ∧ Fits l.k ∧ Fits l.a ∧ Fits l.t := by
  obtain ⟨xs, n, _, rfl, hl, hlen, hf⟩ := DataW.trod_struct Tryz.underlying28 h
  have h3 : cs.length = 3 := hl
  match cs, h3 with
  | [c0, c1, c2], _ =>
    have e2 : Tryz.prog.cellsOf 2 = 1 := by kernel_rfl
    have e3 : Tryz.prog.cellsOf 3 = 1 := by kernel_rfl
    have one : ∀ (y : DataW H × List MemPlace) (c : Value), DataW.trod enc Tryz.prog w base spare held n 2 [c] = some y → ∃ z, c = n64 z ∧ Fits z := fun y c hy => by
      obtain ⟨z, hz, _, hw⟩ := DataW.trod_int Tryz.underlying2 hy
      exact ⟨z, by simpa using hz, fits64 hw⟩
    have one3 : ∀ (y : DataW H × List MemPlace) (c : Value), DataW.trod enc Tryz.prog w base spare held n 3 [c] = some y → ∃ z, c = n64 z ∧ Fits z := fun y c hy => by
      obtain ⟨z, hz, _, hw⟩ := DataW.trod_int Tryz.underlying3 hy
      exact ⟨z, by simpa using hz, fits64 hw⟩
    match xs, hlen with
    | [y0, y1, y2], _ =>
      have g0 := hf 0 _ rfl
      have g1 := hf 1 _ rfl
      have g2 := hf 2 _ rfl
      simp [e2, e3] at g0 g1 g2
      obtain ⟨z0, rfl, f0⟩ := one3 _ _ g0
      obtain ⟨z1, rfl, f1⟩ := one _ _ g1
      obtain ⟨z2, rfl, f2⟩ := one _ _ g2
      exact ⟨⟨z0, z1, z2⟩, rfl, f0, f1, f2⟩

theorem spot_none {w : World} {a : Addr} {v : Value} (h : w.cell? a = some v) : a.spot = none := by
  unfold World.cell? at h
  split at h
  · split at h
    · cases h
    · next hs => cases e : a.spot with
      | none => rfl
      | some s => rw [e] at hs; exact absurd rfl hs
  · cases h
theorem add_flat (blk o j : Nat) : ((⟨blk, o, none⟩ : Addr).add j) = ⟨blk, o + j, none⟩ := Addr.add_mid blk o j

theorem open_lines {H : Type} {enc : TypeId × Value → H} {w : World} {held : Bool} {fuel : Nat} {cs : List Value} {x : DataW H × List MemPlace} (h : DataW.trod enc Tryz.prog w 0 (fun _ => true) held fuel 22 cs = some x) :
    ∃ p cap, ∃ L : List Ln, cs = [.slice p L.length cap] ∧ (∀ i, i < L.length → Fits L[i]!.k ∧ Fits L[i]!.a ∧ Fits L[i]!.t) ∧
      (0 < L.length → ∃ bl ol, p = some ⟨bl, ol, none⟩ ∧ bl < w.heap.size ∧ ∀ i, i < L.length → w.cell? ⟨bl, ol + i * 3, none⟩ = some (n64 L[i]!.k) ∧ w.cell? ⟨bl, ol + i * 3 + 1, none⟩ = some (n64 L[i]!.a) ∧ w.cell? ⟨bl, ol + i * 3 + 2, none⟩ = some (n64 L[i]!.t)) := by
  rcases open_slice Tryz.underlying22 h with ⟨h0, _⟩ | ⟨a, len, cap, m, n, D, Pl, rfl, _, hlc, hcm, hm, _, hx⟩
  · exact ⟨_, _, [], h0, fun i hi => absurd hi (Nat.not_lt_zero _), fun hi => absurd hi (Nat.not_lt_zero _)⟩
  · have hm' : m = cap := by simpa using hm
    subst hm'
    have e3 : Tryz.prog.cellsOf 28 = 3 := by kernel_rfl
    rw [e3] at hx
    have each : ∀ i, i < len → ∃ l : Ln, (Fits l.k ∧ Fits l.a ∧ Fits l.t) ∧ ∀ t, t < 3 → w.cell? (a.add (i * 3) |>.add t) = ([n64 l.k, n64 l.a, n64 l.t] : List Value)[t]? := fun i hi => by
      obtain ⟨cs', h1, h2⟩ := hx i (by omega)
      obtain ⟨l, rfl, hf⟩ := open_line h2
      exact ⟨l, hf, (World.cells?_some h1).2.2⟩
    obtain ⟨F, hF⟩ : ∃ F : Nat → Ln, ∀ i, i < len → (Fits (F i).k ∧ Fits (F i).a ∧ Fits (F i).t) ∧ ∀ t, t < 3 → w.cell? (a.add (i * 3) |>.add t) = ([n64 (F i).k, n64 (F i).a, n64 (F i).t] : List Value)[t]? :=
      ⟨fun i => if hi : i < len then Classical.choose (each i hi) else default, fun i hi => by
        simp only [dif_pos hi]; exact Classical.choose_spec (each i hi)⟩
    have len' : ((List.range len).map F).length = len := by simp
    have get : ∀ i, i < len → ((List.range len).map F)[i]! = F i := fun i hi => by
      rw [getElem!_pos _ i (by rw [len']; exact hi)]; simp
    refine ⟨some a, m, (List.range len).map F, by rw [len'], fun i hi => ?_, fun h0 => ?_⟩
    · rw [len'] at hi; rw [get i hi]; exact (hF i hi).1
    · rw [len'] at h0 ⊢
      have hc0 := (hF 0 h0).2 0 (by decide)
      simp [Addr.add] at hc0
      have hs := spot_none hc0
      obtain ⟨blk, off, spot⟩ := a
      simp only at hs
      subst hs
      refine ⟨blk, off, rfl, World.block_lt_of_cell? _ _ hc0, fun i hi => ?_⟩
      rw [get i hi]
      have k0 := (hF i hi).2 0 (by decide)
      have k1 := (hF i hi).2 1 (by decide)
      have k2 := (hF i hi).2 2 (by decide)
      rw [add_flat, add_flat] at k0 k1 k2
      exact ⟨by simpa using k0, by simpa using k1, by simpa using k2⟩

theorem open_bools {H : Type} {enc : TypeId × Value → H} {w : World} {held : Bool} {fuel : Nat} {cs : List Value} {x : DataW H × List MemPlace} (h : DataW.trod enc Tryz.prog w 0 (fun _ => true) held fuel 23 cs = some x) :
    ∃ p cap, ∃ R : List Bool, cs = [.slice p R.length cap] ∧ (0 < R.length → ∃ br or', p = some ⟨br, or', none⟩ ∧ br < w.heap.size ∧ ∀ i, i < R.length → w.cell? ⟨br, or' + i, none⟩ = some (.bool R[i]!)) := by
  rcases open_slice1 Tryz.underlying23 (by kernel_rfl) h with ⟨h0, _⟩ | ⟨a, len, cap, m, n, V, D, Pl, rfl, _, hlc, hcm, hm, _, hx⟩
  · exact ⟨_, _, [], h0, fun hi => absurd hi (Nat.not_lt_zero _)⟩
  · have hm' : m = cap := by simpa using hm
    subst hm'
    have each : ∀ i, i < len → ∃ b : Bool, w.cell? (a.add i) = some (.bool b) := fun i hi => by
      obtain ⟨h1, h2⟩ := hx i (by omega)
      obtain ⟨b, hb, _⟩ := DataW.trod_bool Tryz.underlying4 h2
      exact ⟨b, by rw [h1]; simpa using hb⟩
    obtain ⟨F, hF⟩ : ∃ F : Nat → Bool, ∀ i, i < len → w.cell? (a.add i) = some (.bool (F i)) :=
      ⟨fun i => if hi : i < len then Classical.choose (each i hi) else default, fun i hi => by
        simp only [dif_pos hi]; exact Classical.choose_spec (each i hi)⟩
    have len' : ((List.range len).map F).length = len := by simp
    have get : ∀ i, i < len → ((List.range len).map F)[i]! = F i := fun i hi => by
      rw [getElem!_pos _ i (by rw [len']; exact hi)]; simp
    refine ⟨some a, m, (List.range len).map F, by rw [len'], fun h0 => ?_⟩
    rw [len'] at h0 ⊢
    have hc0 := hF 0 h0
    simp [Addr.add] at hc0
    have hs := spot_none hc0
    obtain ⟨blk, off, spot⟩ := a
    simp only at hs
    subst hs
    refine ⟨blk, off, rfl, World.block_lt_of_cell? _ _ hc0, fun i hi => ?_⟩
    rw [get i hi]
    have k0 := hF i hi
    rw [add_flat] at k0
    exact k0
end Go.Proofs.YtglgibmjcgfecaaGreatDoor

set_option linter.unusedSimpArgs false
set_option linter.unusedVariables false
namespace Go.Proofs.YtglgibmjcgfecaaGreatDoor
open Go Go.RowKit Go.Proofs Go.Xf Go.ChangeShapes Go.WideShapes Go.Deep

set_option maxRecDepth 100000 in
theorem open_ref {H : Type} {enc : TypeId × Value → H} {w : World} {base : Nat} {spare : Nat → Bool} {held : Bool} {fuel : Nat} {cs : List Value} {x : DataW H × List MemPlace} (h : DataW.trod enc Tryz.prog w base spare held fuel 46 cs = some x) :
    ∃ l : Rf, cs = [.string l.s, n64 l.r, n64 l.c, .bool l.ra, .bool l.ca] := by
  obtain ⟨xs, n, _, rfl, hl, hlen, hf⟩ := DataW.trod_struct Tryz.underlying46 h
  have h3 : cs.length = 5 := hl
  match cs, h3 with
  | [c0, c1, c2, c3, c4], _ =>
    have e2 : Tryz.prog.cellsOf 2 = 1 := by kernel_rfl
    have e4 : Tryz.prog.cellsOf 4 = 1 := by kernel_rfl
    have e9 : Tryz.prog.cellsOf 9 = 1 := by kernel_rfl
    have one : ∀ (y : DataW H × List MemPlace) (c : Value), DataW.trod enc Tryz.prog w base spare held n 2 [c] = some y → ∃ z, c = n64 z := fun y c hy => by
      obtain ⟨z, hz, _, hw⟩ := DataW.trod_int Tryz.underlying2 hy
      exact ⟨z, by simpa using hz⟩
    have oneb : ∀ (y : DataW H × List MemPlace) (c : Value), DataW.trod enc Tryz.prog w base spare held n 4 [c] = some y → ∃ z, c = .bool z := fun y c hy => by
      obtain ⟨z, hz, _⟩ := DataW.trod_bool Tryz.underlying4 hy
      exact ⟨z, by simpa using hz⟩
    have ones : ∀ (y : DataW H × List MemPlace) (c : Value), DataW.trod enc Tryz.prog w base spare held n 9 [c] = some y → ∃ z, c = .string z := fun y c hy => by
      obtain ⟨z, hz, _⟩ := DataW.trod_string Tryz.underlying9 hy
      exact ⟨z, by simpa using hz⟩
    match xs, hlen with
    | [y0, y1, y2, y3, y4], _ =>
      have g0 := hf 0 _ rfl
      have g1 := hf 1 _ rfl
      have g2 := hf 2 _ rfl
      have g3 := hf 3 _ rfl
      have g4 := hf 4 _ rfl
      simp [e2, e4, e9] at g0 g1 g2 g3 g4
      obtain ⟨z0, rfl⟩ := ones _ _ g0
      obtain ⟨z1, rfl⟩ := one _ _ g1
      obtain ⟨z2, rfl⟩ := one _ _ g2
      obtain ⟨z3, rfl⟩ := oneb _ _ g3
      obtain ⟨z4, rfl⟩ := oneb _ _ g4
      exact ⟨⟨z0, z1, z2, z3, z4⟩, rfl⟩

theorem open_refs {H : Type} {enc : TypeId × Value → H} {w : World} {held : Bool} {fuel : Nat} {cs : List Value} {x : DataW H × List MemPlace} (h : DataW.trod enc Tryz.prog w 0 (fun _ => true) held fuel 32 cs = some x) :
    ∃ p cap, ∃ R : List Rf, cs = [.slice p R.length cap] ∧
      (0 < R.length → ∃ br or', p = some ⟨br, or', none⟩ ∧ br < w.heap.size ∧ ∀ i, i < R.length → w.cell? ⟨br, or' + i * 5, none⟩ = some (.string R[i]!.s) ∧ w.cell? ⟨br, or' + i * 5 + 1, none⟩ = some (n64 R[i]!.r) ∧ w.cell? ⟨br, or' + i * 5 + 2, none⟩ = some (n64 R[i]!.c) ∧ w.cell? ⟨br, or' + i * 5 + 3, none⟩ = some (.bool R[i]!.ra) ∧ w.cell? ⟨br, or' + i * 5 + 4, none⟩ = some (.bool R[i]!.ca)) := by
  rcases open_slice Tryz.underlying32 h with ⟨h0, _⟩ | ⟨a, len, cap, m, n, D, Pl, rfl, _, hlc, hcm, hm, _, hx⟩
  · exact ⟨_, _, [], h0, fun hi => absurd hi (Nat.not_lt_zero _)⟩
  · have hm' : m = cap := by simpa using hm
    subst hm'
    have e3 : Tryz.prog.cellsOf 46 = 5 := by kernel_rfl
    rw [e3] at hx
    have each : ∀ i, i < len → ∃ l : Rf, ∀ t, t < 5 → w.cell? (a.add (i * 5) |>.add t) = ([.string l.s, n64 l.r, n64 l.c, .bool l.ra, .bool l.ca] : List Value)[t]? := fun i hi => by
      obtain ⟨cs', h1, h2⟩ := hx i (by omega)
      obtain ⟨l, rfl⟩ := open_ref h2
      exact ⟨l, (World.cells?_some h1).2.2⟩
    obtain ⟨F, hF⟩ : ∃ F : Nat → Rf, ∀ i, i < len → ∀ t, t < 5 → w.cell? (a.add (i * 5) |>.add t) = ([.string (F i).s, n64 (F i).r, n64 (F i).c, .bool (F i).ra, .bool (F i).ca] : List Value)[t]? :=
      ⟨fun i => if hi : i < len then Classical.choose (each i hi) else default, fun i hi => by
        simp only [dif_pos hi]; exact Classical.choose_spec (each i hi)⟩
    have len' : ((List.range len).map F).length = len := by simp
    have get : ∀ i, i < len → ((List.range len).map F)[i]! = F i := fun i hi => by
      rw [getElem!_pos _ i (by rw [len']; exact hi)]; simp
    refine ⟨some a, m, (List.range len).map F, by rw [len'], fun h0 => ?_⟩
    rw [len'] at h0 ⊢
    have hc0 := hF 0 h0 0 (by decide)
    simp [Addr.add] at hc0
    have hs := spot_none hc0
    obtain ⟨blk, off, spot⟩ := a
    simp only at hs
    subst hs
    refine ⟨blk, off, rfl, World.block_lt_of_cell? _ _ hc0, fun i hi => ?_⟩
    rw [get i hi]
    have k0 := hF i hi 0 (by decide)
    have k1 := hF i hi 1 (by decide)
    have k2 := hF i hi 2 (by decide)
    have k3 := hF i hi 3 (by decide)
    have k4 := hF i hi 4 (by decide)
    rw [add_flat, add_flat] at k0 k1 k2 k3 k4
    exact ⟨by simpa using k0, by simpa using k1, by simpa using k2, by simpa using k3, by simpa using k4⟩
end Go.Proofs.YtglgibmjcgfecaaGreatDoor

