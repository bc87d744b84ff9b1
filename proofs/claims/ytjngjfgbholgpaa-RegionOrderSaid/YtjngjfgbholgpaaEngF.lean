/- The engine, part F: the compilation of operations that touch no memory, and that they do what the model says. -/
import Derived.Test.YtjngjfgbholgpaaEngE
set_option linter.unusedSimpArgs false
set_option linter.unusedVariables false
namespace Go.Eng

section
variable {P : Program}

def szO (P : Program) (t : TypeId) : Option Nat := (P.info? t).map (·.size)
def aggB : TypeDesc → Bool
  | .struct _ | .array _ _ => true
  | _ => false
def aggO (P : Program) (t : TypeId) : Option Bool := (P.underlying t).map aggB

theorem run_szO {t : TypeId} {n : Nat} (h : szO P t = some n) (w : World) : (sizeOf t).run P w = .ok n w := by
  simp only [szO, Option.map_eq_some_iff] at h
  obtain ⟨i, hi, rfl⟩ := h
  simp [sizeOf, typeInfo, hi]

theorem run_under {t : TypeId} {d : TypeDesc} (h : P.underlying t = some d) (w : World) : (underlying t).run P w = .ok d w := by
  simp [underlying, h]

theorem run_aggO {t : TypeId} {b : Bool} (h : aggO P t = some b) (w : World) : (isAgg t).run P w = .ok b w := by
  simp only [aggO, Option.map_eq_some_iff] at h
  obtain ⟨d, hd, rfl⟩ := h
  simp only [isAgg, Sem.run_bind, run_under hd, Result.andThen_ok]
  cases d <;> rfl

theorem part_spec [Env] {ρ : Ren} {t : TypeId} {agg : Bool} {off n : Nat} {l : List V} {v : V} {cs : Array Value} (hv : partV agg off n l = some v)
    (hl : concs ρ l = some cs.toList) (h1 : l.all V.one = true) (ha : aggO P t = some agg) (hs : szO P t = some n) :
    ∃ x, conc ρ v = some x ∧ ∀ w, (part t cs off).run P w = .ok x w := by
  unfold partV at hv
  rw [takeE_eq, ldrop_eq] at hv
  by_cases hn : n ≤ (l.drop off).length
  · rw [if_pos hn] at hv
    simp only [] at hv
    have hlen := concs_length hl
    rw [Array.length_toList] at hlen
    rw [List.length_drop] at hn
    cases agg with
    | true =>
      simp only [pick1, Option.some.injEq] at hv
      subst hv
      have h2 : ((l.drop off).take n).all V.one = true := by
        rw [List.all_eq_true] at h1 ⊢
        intro u hu
        exact h1 u (List.mem_of_mem_drop (List.mem_of_mem_take hu))
      refine ⟨.agg (cs.extract off (off + n)), ?_, fun w => ?_⟩
      · simp only [conc, h2, if_true]
        rw [concs_take n (concs_drop off hl)]
        simp only [Option.map_some, Option.some.injEq, Value.agg.injEq]
        apply Array.ext'
        simp [Array.toList_extract, List.extract_eq_take_drop]
      · simp [part, run_aggO ha, run_szO hs]
    | false =>
      have : ∃ u, (l.drop off).take n = [u] ∧ u = v := by
        cases hq : (l.drop off).take n with
        | nil => rw [hq] at hv; simp [pick1] at hv
        | cons u r =>
          rw [hq] at hv
          cases r with
          | nil => simp [pick1] at hv; exact ⟨u, rfl, hv⟩
          | cons _ _ => simp [pick1] at hv
      obtain ⟨u, hu, rfl⟩ := this
      have hg : l[off]? = some u := by
        have : ((l.drop off).take n)[0]? = some u := by rw [hu]; rfl
        rw [List.getElem?_take] at this
        split at this
        · rw [List.getElem?_drop] at this; simpa using this
        · cases this
      obtain ⟨x, hx, hx2⟩ := concs_get off u hl hg
      refine ⟨x, hx, fun w => ?_⟩
      have hx3 : cs[off]? = some x := by simpa using hx2
      simp [part, run_aggO ha, hx3]
  · rw [if_neg hn] at hv; cases hv

theorem asN_spec [Env] {ρ : Ren} {v : V} {n : Nat} {x : Value} (h : asN v = some n) (hc : conc ρ v = some x) : ∃ k, x = .int k n := by
  cases v <;> simp only [asN] at h <;> try cases h
  rename_i k m
  cases m <;> simp at h
  subst h
  simp [conc] at hc
  exact ⟨k, hc.symm⟩

theorem add_none (b off n : Nat) : (Addr.mk b off none).add n = ⟨b, off + n, none⟩ := by
  unfold Addr.add
  by_cases h : n = 0
  · subst h; simp
  · simp [h]

theorem cellsOf_spec [Env] {ρ : Ren} {v : V} {l : List V} {x : Value} (h : cellsOf v = some l) (hc : conc ρ v = some x) :
    concs ρ l = some x.cells.toList ∧ l.all V.one = true := by
  cases v
  case a k =>
    simp [cellsOf] at h; subst h
    simp only [conc] at hc
    split at hc
    · rename_i h1
      simp only [Option.map_eq_some_iff] at hc
      obtain ⟨xs, hx, rfl⟩ := hc
      exact ⟨by simpa [Value.cells] using hx, h1⟩
    · cases hc
  case t k => simp [cellsOf] at h
  all_goals
    simp [cellsOf] at h; subst h
    have h1 := conc_one hc rfl
    have : x.cells = #[x] := by cases x <;> first | rfl | simp [Value.oneCell'] at h1
    rw [this]
    exact ⟨by simp [concs, hc], rfl⟩

/-! ### Struct and array literals -/

theorem pieces {α : Type} (A C vs : List α) (b v : α) :
    ((A ++ b :: C).set A.length v).take (A.length + 1) ++ vs ++ ((A ++ b :: C).set A.length v).drop (A.length + 1 + vs.length) =
      (A ++ b :: C).take A.length ++ v :: vs ++ (A ++ b :: C).drop (A.length + (vs.length + 1)) := by
  have e1 : (A ++ b :: C).set A.length v = A ++ v :: C := by simp
  have e2 : (A ++ v :: C).take (A.length + 1) = A ++ [v] := by rw [List.take_append, List.take_of_length_le (by omega)]; simp
  have e3 : ∀ (u : α), (A ++ u :: C).drop (A.length + 1 + vs.length) = C.drop vs.length := by
    intro u
    rw [show A.length + 1 + vs.length = A.length + (vs.length + 1) by omega, List.drop_append]
    simp
  have e4 : (A ++ b :: C).take A.length = A := by simp
  rw [e1, e2, e3, e4, show A.length + (vs.length + 1) = A.length + 1 + vs.length by omega, e3]
  simp

theorem set_pieces {α : Type} (n : Nat) (v : α) (vs l : List α) (h : n < l.length) :
    (l.set n v).take (n + 1) ++ vs ++ (l.set n v).drop (n + 1 + vs.length) = l.take n ++ v :: vs ++ l.drop (n + (vs.length + 1)) := by
  have e : l.take n ++ l[n] :: l.drop (n + 1) = l := by simp
  have hn : (l.take n).length = n := by simp; omega
  have := pieces (l.take n) (l.drop (n + 1)) vs l[n] v
  rw [e, hn] at this
  exact this

theorem foldl_zip (off : Nat) : ∀ (vs : List Value) (k : Nat) (cs : Array Value), off + k + vs.length ≤ cs.size →
    ((vs.zipIdx k).foldl (fun cs (c, j) => cs.setIfInBounds (off + j) c) cs).toList = cs.toList.take (off + k) ++ vs ++ cs.toList.drop (off + k + vs.length)
  | [], k, cs, h => by simp
  | v :: vs, k, cs, h => by
    simp only [List.length_cons] at h
    simp only [List.zipIdx_cons, List.foldl_cons]
    rw [foldl_zip off vs (k + 1) _ (by simp; omega)]
    simp only [Array.toList_setIfInBounds, List.length_cons]
    exact set_pieces (off + k) v vs cs.toList (by simp; omega)

/-- A part of a literal, compiled. -/
def PartRel [Env] (ρ : Ren) (fr : Tr V) (place : Nat → Option (Nat × Nat)) : List (Nat × Nat × Opd) → List (Nat × Value) → Prop
  | [], [] => True
  | (off, size, o) :: ps, (i, x) :: qs => place i = some (off, size) ∧ conc ρ (ev fr o) = some x ∧ PartRel ρ fr place ps qs
  | _, _ => False

theorem fill_spec [Env] {ρ : Ren} {fr : Tr V} {place : Nat → Option (Nat × Nat)} : ∀ (ps : List (Nat × Nat × Opd)) (qs : List (Nat × Value)) (l l' : List V) (cs : Array Value),
    PartRel ρ fr place ps qs → fillP fr ps l = some l' → concs ρ l = some cs.toList → l.all V.one = true →
    ∃ cs', Instr.fill place cs qs = some cs' ∧ concs ρ l' = some cs'.toList ∧ l'.all V.one = true
  | [], [], l, l', cs, _, h, hl, h1 => by simp [fillP] at h; subst h; exact ⟨cs, rfl, hl, h1⟩
  | [], _ :: _, l, l', cs, hr, _, _, _ => hr.elim
  | (_, _, _) :: _, [], l, l', cs, hr, _, _, _ => hr.elim
  | (off, size, o) :: ps, (i, x) :: qs, l, l', cs, ⟨hp, ho, hr⟩, h, hl, h1 => by
    simp only [fillP] at h
    cases hc : cellsOf (ev fr o) with
    | none => simp [hc] at h
    | some c =>
      simp only [hc] at h
      obtain ⟨e1, e2⟩ := cellsOf_spec hc ho
      cases hb : Nat.beq c.length size with
      | false => simp [hb] at h
      | true =>
        simp only [hb, cond_true] at h
        have hsz : c.length = size := Nat.eq_of_beq_eq_true hb
        cases hs : splice off c l with
        | none => simp [hs] at h
        | some m =>
          simp only [hs] at h
          rw [splice_eq] at hs
          split at hs
          · rename_i hle
            cases hs
            have hclen := concs_length e1
            have hllen := concs_length hl
            rw [Array.length_toList] at hclen hllen
            have hA : concs ρ (l.take off ++ c ++ l.drop (off + c.length)) = some (x.cells.zipIdx.foldl (fun cs (c, j) => cs.setIfInBounds (off + j) c) cs).toList := by
              have hf := foldl_zip off x.cells.toList 0 cs (by simp; omega)
              rw [← Array.foldl_toList, Array.toList_zipIdx, hf]
              simp only [Nat.add_zero, Array.length_toList]
              have := concs_append (concs_append (concs_take off hl) e1) (concs_drop (off + c.length) hl)
              rw [hclen]
              exact this
            have hB : (l.take off ++ c ++ l.drop (off + c.length)).all V.one = true := by
              rw [List.all_eq_true] at h1 e2 ⊢
              intro u hu
              rcases List.mem_append.1 hu with hu | hu
              · rcases List.mem_append.1 hu with hu | hu
                · exact h1 u (List.mem_of_mem_take hu)
                · exact e2 u hu
              · exact h1 u (List.mem_of_mem_drop hu)
            obtain ⟨cs2, f1, f2, f3⟩ := fill_spec ps qs _ l' _ hr h hA hB
            refine ⟨cs2, ?_, f2, f3⟩
            simp only [Instr.fill, hp]
            rw [if_neg (by simp; omega), f1]
          · cases hs

end
end Go.Eng
