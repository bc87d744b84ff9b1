/- The engine, part Nb: a step over a map of several entries: any of them may come. -/
import Derived.Test.YtjngjfgbholgpaaEngNa
import Derived.Maps.RangeRun
set_option linter.unusedSimpArgs false
set_option linter.unusedVariables false
namespace Go.Eng

def allOld (since : Nat) : List (V × V × Nat) → Bool
  | [] => true
  | (_, _, b) :: l => cond (Nat.blt b since) (allOld since l) false

noncomputable def nxtEach (h : H) (b m : Path) (since : Nat) (seen : List Nat) (clock : Nat) : List (V × V × Nat) → List (V × H)
  | [] => []
  | (k, v, s) :: l => (.t [.b true, k, v], h.put b (.it (some m) since (s :: seen) clock)) :: nxtEach h b m since seen clock l

noncomputable def nxtAll (h : H) (b m : Path) (since : Nat) (seen : List Nat) (clock : Nat) (l : List (V × V × Nat)) : List (V × H) :=
  match l with
  | [] => [(.t [.b false], h)]
  | e :: l => nxtEach h b m since seen clock (e :: l)

noncomputable def ndNxtM (h : H) (b m : Path) (since : Nat) (seen : List Nat) (last : Nat) (o : Ob) : Option (List (V × H)) :=
  match o with
  | .m es clock => cond (Nat.ble since last) (cond (allOld since es) (some (nxtAll h b m since seen clock (leftE seen es))) none) none
  | _ => none

noncomputable def ndNxtOb (h : H) (b : Path) (o : Ob) : Option (List (V × H)) :=
  match o with
  | .it mp since seen last => (match mp with
    | none => some [(.t [.b false], h)]
    | some m => ndNxtM h b m since seen last (h.get m))
  | _ => none

noncomputable def ndNxt (h : H) (x : V) : Option (List (V × H)) :=
  match x with
  | .p b o => cond (Nat.beq o 0) (ndNxtOb h b (h.get b)) none
  | _ => none

section
variable {P : Program} {ρ : Ren} {h h' : H} {w : World}

theorem allOld_spec [Env] {since : Nat} : ∀ {es : List (V × V × Nat)} {L : List MapEntry}, EntRel ρ es L → allOld since es = true → ∀ x ∈ L, x.born < since
  | [], [], _, _, _, hx => by simp at hx
  | [], _ :: _, e, _, _, _ => e.elim
  | _ :: _, [], e, _, _, _ => e.elim
  | (k, v, b) :: es, e :: L, ⟨_, _, h3, h4⟩, ha, x, hx => by
    simp only [allOld] at ha
    cases hb : Nat.blt b since with
    | false => rw [hb] at ha; cases ha
    | true =>
      rw [hb, cond_true] at ha
      rcases List.mem_cons.1 hx with rfl | hx
      · rw [h3]; simpa [Nat.blt_eq] using hb
      · exact allOld_spec h4 ha x hx

theorem nxtEach_mem [Env] {h : H} {b m : Path} {since : Nat} {seen : List Nat} {clock : Nat} : ∀ {es : List (V × V × Nat)} {L : List MapEntry}, EntRel ρ es L → ∀ e ∈ L, ∃ k v, conc ρ k = some e.key ∧ conc ρ v = some e.val ∧
    (V.t [.b true, k, v], h.put b (.it (some m) since (e.born :: seen) clock)) ∈ nxtEach h b m since seen clock es
  | [], [], _, _, hx => by simp at hx
  | [], _ :: _, e, _, _ => e.elim
  | _ :: _, [], e, _, _ => e.elim
  | (k, v, s) :: es, e' :: L, ⟨h1, h2, h3, h4⟩, e, he => by
    rcases List.mem_cons.1 he with rfl | he
    · exact ⟨k, v, h1, h2, by rw [h3]; exact List.mem_cons_self⟩
    · obtain ⟨k', v', g1, g2, g3⟩ := nxtEach_mem h4 e he
      exact ⟨k', v', g1, g2, List.mem_cons_of_mem _ g3⟩

theorem ndNxt_spec [Env] {x : V} {u : Value} {ty : TypeId} {l : List (V × H)} (hr : HRel ρ h w) (hv : ndNxt h x = some l) (hx : conc ρ x = some u) :
    ∃ p ∈ l, ∃ y w', (Instr.next u false ty).run P w = .ok y w' ∧ conc ρ p.1 = some y ∧ HRel ρ p.2 w' ∧ Ext ρ h w ρ p.2 w' := by
  unfold ndNxt at hv
  split at hv
  · rename_i b o
    cases ho : Nat.beq o 0 with
    | false => simp [ho] at hv
    | true =>
      have := Nat.eq_of_beq_eq_true ho
      subst this
      simp only [ho, cond_true] at hv
      unfold ndNxtOb at hv
      split at hv
      · rename_i mp since seen last hg
        obtain ⟨q, hq, rfl⟩ := conc_p hx
        obtain ⟨x2, hx2, g1, g2⟩ := it_spec hr hg
        rw [hq] at hx2; cases hx2
        split at hv
        · cases hv
          have h1 := g1 rfl
          refine ⟨_, List.mem_singleton.2 rfl, .tuple #[.bool false], w, ?_, rfl, hr, .refl _ _ _⟩
          simp only [Instr.next, Sem.run_bind, run_getObj_of h1, Result.andThen_ok, Sem.run_pure]
        · rename_i m
          obtain ⟨y, hy, h1⟩ := g2 m rfl
          unfold ndNxtM at hv
          split at hv
          · rename_i es clock hgm
            obtain ⟨y2, L, hy2, _, h2, h3⟩ := map_spec hr hgm (show conc ρ (.m m) = some (.map (some y.1)) by simp [conc, hy])
            rw [hy] at hy2; cases hy2
            cases hsl : Nat.ble since last with
            | false => simp [hsl] at hv
            | true =>
              cases hal : allOld since es with
              | false => simp [hsl, hal] at hv
              | true =>
                simp only [hsl, hal, cond_true, Option.some.injEq] at hv
                subst hv
                have hold : ∀ x ∈ L.toArray.toList, x.born < since := fun x hx => allOld_spec h3 hal x (by simpa using hx)
                have hleft : leftOf L.toArray seen.reverse.toArray = (L.filter fun e => !memN e.born seen).toArray := by
                  unfold leftOf
                  have : (fun e : MapEntry => !seen.reverse.toArray.contains e.born) = fun e => !memN e.born seen := by funext e; rw [memN_contains]
                  rw [this]
                  apply Array.ext'
                  simp
                have hlr := leftE_rel (seen := seen) h3
                rcases run_next_at (P := P) w ty q.1 y.1 since last seen.reverse.toArray L.toArray clock h1 h2 hold (Nat.le_of_ble_eq_true hsl) with ⟨e1, e2⟩ | ⟨e, he, w1, hw1, hrun⟩
                · rw [hleft] at e1
                  have hF : (L.filter fun e => !memN e.born seen) = [] := by simpa using e1
                  rw [hF] at hlr
                  have hE : leftE seen es = [] := by cases hq' : leftE seen es with | nil => rfl | cons _ _ => rw [hq'] at hlr; exact hlr.elim
                  rw [hE]
                  exact ⟨_, List.mem_singleton.2 rfl, _, w, e2, rfl, hr, .refl _ _ _⟩
                · rw [hleft] at he
                  have he : e ∈ (L.filter fun e => !memN e.born seen) := by simpa using he
                  have hne : ∃ a l, leftE seen es = a :: l := by
                    cases hq' : leftE seen es with
                    | nil =>
                      rw [hq'] at hlr
                      cases hF : (L.filter fun e => !memN e.born seen) with
                      | nil => rw [hF] at he; simp at he
                      | cons _ _ => rw [hF] at hlr; exact hlr.elim
                    | cons a l => exact ⟨a, l, rfl⟩
                  obtain ⟨a, l, hal'⟩ := hne
                  obtain ⟨k, v, c1, c2, c3⟩ := nxtEach_mem (h := h) (b := b) (m := m) (since := since) (seen := seen) (clock := clock) hlr e he
                  have hqlt : q.1 < w.heap.size := (Array.getElem?_eq_some_iff.1 h1).1
                  have hheap : w1.heap = w.heap := by rcases hw1 with rfl | rfl <;> rfl
                  have hstr : Str w (ChangeMaps.setBlock w1 q.1 (.mapIter (some y.1) since (seen.reverse.toArray.push e.born) clock)) := by rcases hw1 with rfl | rfl <;> exact ⟨rfl, rfl, rfl⟩
                  obtain ⟨p1, p2⟩ := hr.put (w' := ChangeMaps.setBlock w1 q.1 (.mapIter (some y.1) since (seen.reverse.toArray.push e.born) clock)) (by rw [hg]; rfl) hq (.it (some m) since (e.born :: seen) clock)
                    (by simp [ChangeMaps.setBlock, hheap]) hstr (fun k hk => by simp only [ChangeMaps.setBlock, hheap, Array.getElem?_setIfInBounds_ne (Ne.symm hk)])
                    (show ObRel ρ q.2 (.it (some m) since (e.born :: seen) clock) _ from ⟨y, hy, by simp [ChangeMaps.setBlock, hheap, hqlt]⟩)
                  refine ⟨(V.t [.b true, k, v], h.put b (.it (some m) since (e.born :: seen) clock)), ?_, _, _, hrun, ?_, p1, p2⟩
                  · rw [hal'] at c3 ⊢; exact c3
                  · simp [conc, concs, c1, c2]
          · cases hv
      · cases hv
  · cases hv

end
end Go.Eng
