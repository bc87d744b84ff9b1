/- The engine, part C: lists for the kernel; memory: loads and stores. -/
import Derived.Test.YtjngjfgbholgpaaEngB
import Derived.Laws.Cells
import Derived.Laws.Rows
import Derived.Laws.Tables
set_option linter.unusedSimpArgs false
set_option linter.unusedVariables false
namespace Go.Eng

/-! ### Lists, by direct recursors -/

noncomputable def takeE {α : Type} (n : Nat) : List α → Option (List α) :=
  Nat.rec (motive := fun _ => List α → Option (List α)) (fun _ => some [])
    (fun _ ih l => List.casesOn l none (fun x l => Option.casesOn (ih l) none (fun r => some (x :: r)))) n
noncomputable def ldrop {α : Type} (n : Nat) : List α → List α :=
  Nat.rec (motive := fun _ => List α → List α) (fun l => l) (fun _ ih l => List.casesOn l [] (fun _ l => ih l)) n
noncomputable def splice0 {α : Type} (vs : List α) : List α → Option (List α) :=
  List.rec (motive := fun _ => List α → Option (List α)) (fun l => some l)
    (fun v _ ih l => List.casesOn l none (fun _ l => Option.casesOn (ih l) none (fun r => some (v :: r)))) vs
noncomputable def splice {α : Type} (n : Nat) (vs : List α) : List α → Option (List α) :=
  Nat.rec (motive := fun _ => List α → Option (List α)) (splice0 vs)
    (fun _ ih l => List.casesOn l none (fun x l => Option.casesOn (ih l) none (fun r => some (x :: r)))) n

section
variable {α : Type}
theorem takeE_eq : ∀ (n : Nat) (l : List α), takeE n l = if n ≤ l.length then some (l.take n) else none
  | 0, l => by show some [] = _; simp
  | n + 1, [] => by simp [takeE]
  | n + 1, x :: l => by
    have ih := takeE_eq n l
    change (Option.casesOn (takeE n l) none (fun r => some (x :: r)) : Option (List α)) = _
    rw [ih]
    by_cases h : n ≤ l.length <;> simp [h]

theorem ldrop_eq : ∀ (n : Nat) (l : List α), ldrop n l = l.drop n
  | 0, l => by show l = _; simp
  | n + 1, [] => by simp [ldrop]
  | n + 1, x :: l => by
    change ldrop n l = _
    rw [ldrop_eq n l]; simp

theorem splice0_eq : ∀ (vs l : List α), splice0 vs l = if vs.length ≤ l.length then some (vs ++ l.drop vs.length) else none
  | [], l => by simp [splice0]
  | v :: vs, [] => by simp [splice0]
  | v :: vs, x :: l => by
    change (Option.casesOn (splice0 vs l) none (fun r => some (v :: r)) : Option (List α)) = _
    rw [splice0_eq vs l]
    by_cases h : vs.length ≤ l.length <;> simp [h]

theorem splice_eq : ∀ (n : Nat) (vs l : List α), splice n vs l = if n + vs.length ≤ l.length then some (l.take n ++ vs ++ l.drop (n + vs.length)) else none
  | 0, vs, l => by
    change splice0 vs l = _
    rw [splice0_eq]; simp
  | n + 1, vs, [] => by simp [splice]
  | n + 1, vs, x :: l => by
    change (Option.casesOn (splice n vs l) none (fun r => some (x :: r)) : Option (List α)) = _
    rw [splice_eq n vs l]
    by_cases h : n + vs.length ≤ l.length
    · have h' : n + 1 + vs.length ≤ (x :: l).length := by simp; omega
      rw [if_pos h, if_pos h']
      simp [show n + 1 + vs.length = (n + vs.length) + 1 by omega]
    · have h' : ¬ n + 1 + vs.length ≤ (x :: l).length := by simp; omega
      rw [if_neg h, if_neg h']

theorem splice_spec {n : Nat} {vs l l' : List α} (h : splice n vs l = some l') :
    l'.length = l.length ∧ n + vs.length ≤ l.length ∧ ∀ j, l'[j]? = if n ≤ j ∧ j < n + vs.length then vs[j - n]? else l[j]? := by
  rw [splice_eq] at h
  split at h
  · rename_i hl
    cases h
    refine ⟨by simp; omega, hl, fun j => ?_⟩
    simp only [List.append_assoc, List.getElem?_append, List.length_take, List.getElem?_take, List.getElem?_drop]
    by_cases h1 : j < n
    · rw [if_pos (by omega), if_pos h1, if_neg (by omega)]
    · rw [if_neg (by omega)]
      by_cases h2 : j < n + vs.length
      · rw [if_pos (by omega), if_pos (by omega)]; congr 1; omega
      · rw [if_neg (by omega), if_neg (by omega)]; congr 1; omega
  · cases h
end

/-! ### Loads and stores -/

noncomputable def obCells : Ob → Option (List V)
  | .c _ l _ => some l
  | _ => none

noncomputable def loadC (h : H) (b : Path) (off n : Nat) : Option (List V) :=
  match h.get b with
  | .c _ l _ => takeE n (ldrop off l)
  | _ => none

noncomputable def storeOb (off : Nat) (vs : List V) : Ob → Option Ob
  | .c false l e => (splice off vs l).map fun l => .c false l e
  | _ => none

noncomputable def storeC (h : H) (b : Path) (off : Nat) (vs : List V) : Option H :=
  (storeOb off vs (h.get b)).map (h.put b)

theorem loadC_spec [Env] {ρ : Ren} {h : H} {w : World} {b : Path} {off n : Nat} {vs : List V} (hr : HRel ρ h w) (hl : loadC h b off n = some vs) :
    ∃ x xs, ρ b = some x ∧ vs.length = n ∧ vs.all V.one = true ∧ concs ρ vs = some xs ∧ (∀ j v, xs[j]? = some v → w.cell? ⟨x.1, off + j, none⟩ = some v) := by
  unfold loadC at hl
  cases hg : h.get b with
  | dead => simp [hg] at hl
  | m _ _ => simp [hg] at hl
  | it _ _ _ _ => simp [hg] at hl
  | c ro l e =>
    simp only [hg, takeE_eq, ldrop_eq] at hl
    split at hl
    · rename_i hn
      cases hl
      obtain ⟨x, h1, h2⟩ := hr.ob b (by simp [hg, Ob.live])
      rw [hg] at h2
      obtain ⟨c, fz, h3, h4, h5, h6, _⟩ := h2
      rw [List.length_drop] at hn
      have key : ∀ k (m : Nat), (k = 0 ∨ off + m + k ≤ l.length) → ∃ xs, concs ρ ((l.drop (off + m)).take k) = some xs ∧ ∀ j v, xs[j]? = some v → w.cell? ⟨x.1, off + m + j, none⟩ = some v := by
        intro k
        induction k with
        | zero => intro m _; exact ⟨[], by simp [concs], by simp⟩
        | succ k ih =>
          intro m hm
          obtain ⟨ys, e1, e2⟩ := ih (m + 1) (by omega)
          obtain ⟨_, y, e3, e4⟩ := h6 (off + m) (l[off + m]'(by omega)) (List.getElem?_eq_getElem (by omega))
          refine ⟨y :: ys, ?_, ?_⟩
          · rw [List.drop_eq_getElem_cons (by omega), List.take_succ_cons]
            simp only [concs, e3, Option.bind_some]
            rw [show off + m + 1 = off + (m + 1) by omega, e1]; rfl
          · intro j v hv
            cases j with
            | zero => simp at hv; subst hv; simp [World.cell?, h3, e4]
            | succ j => simp at hv; have := e2 j v hv; rwa [show off + m + (j + 1) = off + (m + 1) + j by omega]
      obtain ⟨xs, e1, e2⟩ := key n 0 (by omega)
      refine ⟨x, xs, h1, by simp; omega, ?_, by simpa using e1, by simpa using e2⟩
      rw [List.all_eq_true]
      intro v hv
      obtain ⟨i, hi⟩ := List.getElem?_of_mem hv
      rw [List.getElem?_take] at hi
      split at hi
      · rw [List.getElem?_drop] at hi
        exact (h6 _ _ hi).1
      · cases hi
    · cases hl

theorem run_storeCells_row {P : Program} (b off : Nat) (t : TypeId) (fz : Nat × Nat) : ∀ (vs : List Value) (i : Nat) (c : Array Value) (w : World),
    w.heap[b]? = some (.cells c t fz) → off + i + vs.length ≤ c.size → (∀ j, j < c.size → ¬ (fz.1 ≤ j ∧ j < fz.2)) → (∀ v ∈ vs, v.oneCell' = true) →
    ∃ c' : Array Value, (storeCells ⟨b, off, none⟩ vs i).run P w = .ok () (w.setRow b c') ∧ c'.size = c.size ∧
      ∀ j, c'[j]? = if off + i ≤ j ∧ j < off + i + vs.length then vs[j - (off + i)]? else c[j]?
  | [], i, c, w, hg, _, _, _ => by
    refine ⟨c, ?_, rfl, fun j => by simp; omega⟩
    have : w.setRow b c = w := by
      have hb : b < w.heap.size := (Array.getElem?_eq_some_iff.1 hg).1
      have hv : w.heap[b] = .cells c t fz := (Array.getElem?_eq_some_iff.1 hg).2
      unfold World.setRow
      congr 1
      apply Array.ext
      · simp
      · intro k h1 h2
        rw [Array.getElem_modify]
        split
        · rename_i e; subst e; rw [hv]
        · rfl
    rw [this]; rfl
  | v :: vs, i, c, w, hg, hl, hf, h1 => by
    simp only [List.length_cons] at hl
    have hcell : w.cell? ⟨b, off + i, none⟩ = some (c[off + i]'(by omega)) := by simp [World.cell?, hg, Array.getElem?_eq_getElem (show off + i < c.size by omega)]
    have hfr : w.frozen? ⟨b, off + i, none⟩ = false := by
      simp only [World.frozen?, hg]
      have := hf (off + i) (by omega)
      simpa using this
    have ha : (Addr.mk b off none).add i = ⟨b, off + i, none⟩ := by
      unfold Addr.add
      by_cases e : i = 0
      · subst e; simp
      · simp [e]
    have hg' := setRow_heap w b c (c.setIfInBounds (off + i) v) t fz hg
    obtain ⟨c', r1, r2, r3⟩ := run_storeCells_row (P := P) b off t fz vs (i + 1) (c.setIfInBounds (off + i) v) _ hg' (by simp; omega) (by simpa using hf) (fun u hu => h1 u (by simp [hu]))
    refine ⟨c', ?_, by simpa using r2, fun j => ?_⟩
    · unfold storeCells
      rw [Sem.run_bind, run_store _ _ _ _ _ (h1 v (by simp)), ha, hcell]
      simp only [hfr]
      rw [setCell_eq_setRow w b (off + i) c t fz v hg]
      simp only [Bool.false_eq_true, if_false, Result.andThen_ok]
      rw [r1, setRow_setRow]
    · rw [r3 j]
      by_cases e : off + (i + 1) ≤ j ∧ j < off + (i + 1) + vs.length
      · rw [if_pos e, if_pos (by simp; omega)]
        rw [show j - (off + i) = (j - (off + (i + 1))) + 1 by omega]
        simp
      · rw [if_neg e]
        by_cases e2 : j = off + i
        · subst e2
          rw [if_pos (by simp), Nat.sub_self]
          simp [Array.getElem?_setIfInBounds, show off + i < c.size by omega]
        · rw [if_neg (by simp; omega), Array.getElem?_setIfInBounds_ne (by omega)]

theorem storeC_spec [Env] {P : Program} {ρ : Ren} {h h' : H} {w : World} {b : Path} {off : Nat} {vs : List V} {x : Nat × Nat} {xs : List Value}
    (hr : HRel ρ h w) (hs : storeC h b off vs = some h') (hx : ρ b = some x) (hv : concs ρ vs = some xs) (h1 : vs.all V.one = true) :
    ∃ w', (storeCells ⟨x.1, off, none⟩ xs).run P w = .ok () w' ∧ HRel ρ h' w' ∧ Ext ρ h w ρ h' w' := by
  unfold storeC at hs
  simp only [Option.map_eq_some_iff] at hs
  obtain ⟨ob, hs, rfl⟩ := hs
  unfold storeOb at hs
  split at hs
  · rename_i l e hg
    simp only [Option.map_eq_some_iff] at hs
    obtain ⟨l', hl, rfl⟩ := hs
    obtain ⟨s1, s2, s3⟩ := splice_spec hl
    have hlive : (h.get b).live = true := by simp [hg, Ob.live]
    obtain ⟨x', hx', h2⟩ := hr.ob b hlive
    rw [hx] at hx'; cases hx'
    rw [hg] at h2
    obtain ⟨c, fz, h3, h4, h5, h6, h7⟩ := h2
    have hlen := concs_length hv
    have hone : ∀ v ∈ xs, v.oneCell' = true := by
      intro v hvm
      obtain ⟨i, hi⟩ := List.getElem?_of_mem hvm
      have hi' : i < vs.length := by rw [← hlen]; exact (List.getElem?_eq_some_iff.1 hi).1
      obtain ⟨u, hu, hu2⟩ := concs_get i _ hv (List.getElem?_eq_getElem hi')
      rw [hi] at hu2; cases hu2
      exact conc_one hu (List.all_eq_true.1 h1 _ (List.getElem_mem hi'))
    obtain ⟨c', r1, r2, r3⟩ := run_storeCells_row (P := P) x.1 off e fz xs 0 c w h3 (by omega) (by rw [h4]; exact h7 rfl) hone
    refine ⟨_, r1, ?_⟩
    refine hr.put hlive hx _ (by simp) ⟨rfl, rfl, rfl⟩ (fun k hk => setRow_other w x.1 k c' hk) ?_
    refine ⟨c', fz, setRow_heap w x.1 c c' e fz h3, by omega, by omega, fun i v hi => ?_, h7⟩
    rw [s3 i] at hi
    rw [r3 i]
    simp only [Nat.add_zero]
    rw [hlen]
    split at hi
    · rename_i hc
      rw [if_pos hc]
      obtain ⟨u, hu, hu2⟩ := concs_get (i - off) v hv hi
      exact ⟨List.all_eq_true.1 h1 _ (List.mem_of_getElem? hi), u, hu, hu2⟩
    · rename_i hc
      rw [if_neg hc]
      exact h6 i v hi
  · cases hs

end Go.Eng
