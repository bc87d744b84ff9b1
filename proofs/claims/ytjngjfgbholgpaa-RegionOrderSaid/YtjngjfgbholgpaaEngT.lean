/- The engine, part T: which operands an operation looks at; reads of heaps of which less is known. -/
import Derived.Test.YtjngjfgbholgpaaEngW
set_option linter.unusedSimpArgs false
set_option linter.unusedVariables false
namespace Go.Eng

/-! ### Operands -/

def PI.opds : PI → List Opd
  | .mv x => [x]
  | .pick c a b => [c, a, b]
  | .build _ ps => ps.map (·.2.2)
  | .bin _ _ x y => [x, y]
  | .eqS _ _ x y => [x, y]
  | .convS x => [x]
  | .un _ x => [x]
  | .convI _ x => [x]
  | .mkI _ x => [x]
  | .mkF _ l => l
  | .slStr x lo hi => x :: (lo.toList ++ hi.toList)
  | .slSl _ x lo hi m => x :: (lo.toList ++ (hi.toList ++ m.toList))
  | .fieldA _ x => [x]
  | .field _ _ _ x => [x]
  | .idxAArr _ _ x i => [x, i]
  | .idxASl _ x i => [x, i]
  | .idxArr _ _ _ x i => [x, i]
  | .idxStr x i => [x, i]
  | .extract x _ => [x]
  | .lenS x => [x]
  | .lenSl x => [x]
  | .mx l => l
  | .mn l => l
  | .nilck x => [x]
  | .ixb x c => [x, c]
  | .eqF _ _ x y => [x, y]
  | .tas _ _ _ _ x => [x]

def RI.opds : RI → List Opd
  | .load _ _ x => [x]
  | .slArr _ _ x lo hi m => x :: (lo.toList ++ (hi.toList ++ m.toList))
  | .b2s x => [x]
  | .lenM x => [x]
  | .look _ _ _ _ x k => [x, k]
  | .ent x => [x]
  | .glob _ => []
  | .globI _ _ => []
  | .ixs _ x y => [x, y]

def MI.opds : MI → List Opd
  | .mk => []
  | .up _ _ x k v => [x, k, v]
  | .del _ _ x k => [x, k]
  | .ment _ _ _ x k => [x, k]
  | .est x s v => [x, s, v]
  | .rng x => [x]
  | .nxt x => [x]
  | .cln x => [x]

def AI.opds : AI → List Opd
  | .alloc _ _ => []
  | .box x _ => [x]
  | .buildSl _ _ _ _ ps => ps.map (·.2.2)
  | .mkSl _ _ _ _ l c => [l, c]
  | .s2b _ x => [x]

def HI.opds : HI → List Opd
  | .store _ x y => [x, y]
  | .append _ _ _ x y => [x, y]
  | .copy _ x y => [x, y]
  | .clear _ _ x => [x]
  | .call _ l => l
  | .callv f l => f :: l
  | .mp i => i.opds
  | .inv _ x l => x :: l

/-- Two frames in which operands are worth the same. -/
def SameOn (fr fr' : Tr V) (l : List Opd) : Prop := ∀ o ∈ l, ev fr o = ev fr' o

theorem evs_same {fr fr' : Tr V} : ∀ {l : List Opd}, SameOn fr fr' l → evs fr l = evs fr' l
  | [], _ => rfl
  | o :: l, h => by
    show ev fr o :: evs fr l = ev fr' o :: evs fr' l
    rw [h o (by simp), evs_same (fun o ho => h o (by simp [ho]))]

theorem bnd_same {fr fr' : Tr V} {d : Nat} {o : Option Opd} (h : SameOn fr fr' o.toList) : bnd fr d o = bnd fr' d o := by
  cases o with
  | none => rfl
  | some o => simp only [bnd]; rw [h o (by simp)]

theorem mxO_same {fr fr' : Tr V} {o : Option Opd} (h : SameOn fr fr' o.toList) : mxO fr o = mxO fr' o := by
  funext d
  cases o with
  | none => rfl
  | some o => simp only [mxO]; rw [h o (by simp)]

theorem fillP_same {fr fr' : Tr V} : ∀ {ps : List (Nat × Nat × Opd)} {z : List V}, SameOn fr fr' (ps.map (·.2.2)) → fillP fr ps z = fillP fr' ps z
  | [], _, _ => rfl
  | (off, size, x) :: ps, z, h => by
    simp only [fillP]
    rw [h x (by simp)]
    split
    · rfl
    · congr 1
      split
      · exact fillP_same (fun o ho => h o (by simp only [List.map_cons, List.mem_cons]; exact .inr ho))
      · rfl

theorem SameOn.left {fr fr' : Tr V} {l k : List Opd} (h : SameOn fr fr' (l ++ k)) : SameOn fr fr' l := fun o ho => h o (by simp [ho])
theorem SameOn.right {fr fr' : Tr V} {l k : List Opd} (h : SameOn fr fr' (l ++ k)) : SameOn fr fr' k := fun o ho => h o (by simp [ho])
theorem SameOn.tail {fr fr' : Tr V} {x : Opd} {k : List Opd} (h : SameOn fr fr' (x :: k)) : SameOn fr fr' k := fun o ho => h o (by simp [ho])

theorem puI_same {fr fr' : Tr V} {i : PI} (h : SameOn fr fr' i.opds) : puI fr i = puI fr' i := by
  cases i <;> simp only [PI.opds] at h <;> simp only [puI]
  case build z ps => rw [fillP_same h]
  case mkF f l => rw [evs_same h]
  case slStr x lo hi =>
    have e : (fun d => bnd fr d hi) = (fun d => bnd fr' d hi) := by funext d; exact bnd_same h.tail.right
    rw [h x (by simp), bnd_same h.tail.left, e]
  case slSl es x lo hi mx =>
    have e : (fun d => bnd fr d hi) = (fun d => bnd fr' d hi) := by funext d; exact bnd_same h.tail.right.left
    rw [h x (by simp), bnd_same h.tail.left, e, mxO_same h.tail.right.right]
  case mx l => rw [evs_same h]
  case mn l => rw [evs_same h]
  case pick c a b => rw [h c (by simp), h a (by simp), h b (by simp)]
  case bin op k x y => rw [h x (by simp), h y (by simp)]
  case eqS n t x y => rw [h x (by simp), h y (by simp)]
  case idxAArr _ _ x i => rw [h x (by simp), h i (by simp)]
  case idxASl _ x i => rw [h x (by simp), h i (by simp)]
  case idxArr _ _ _ x i => rw [h x (by simp), h i (by simp)]
  case idxStr x i => rw [h x (by simp), h i (by simp)]
  case ixb x i => rw [h x (by simp), h i (by simp)]
  case eqF _ _ x y => rw [h x (by simp), h y (by simp)]
  case extract x _ => rw [h x (by simp)]
  all_goals (rename_i x; rw [h x (by simp)])

theorem rdI_same {fr fr' : Tr V} {H : H} {i : RI} (h : SameOn fr fr' i.opds) : rdI fr H i = rdI fr' H i := by
  cases i <;> simp only [RI.opds] at h <;> simp only [rdI]
  case slArr n es x lo hi mx => rw [h x (by simp), bnd_same h.tail.left, bnd_same h.tail.right.left, mxO_same h.tail.right.right]
  case look _ _ _ _ x k => rw [h x (by simp), h k (by simp)]
  case ixs _ x y => rw [h x (by simp), h y (by simp)]
  case load _ _ x => rw [h x (by simp)]
  case b2s x => rw [h x (by simp)]
  case lenM x => rw [h x (by simp)]
  case ent x => rw [h x (by simp)]

theorem alI_same {fr fr' : Tr V} {i : AI} (h : SameOn fr fr' i.opds) : alI fr i = alI fr' i := by
  cases i <;> simp only [AI.opds] at h <;> simp only [alI]
  case box x _ => rw [h x (by simp)]
  case buildSl z e es len ps => unfold buildSlO; rw [fillP_same h]
  case mkSl _ _ _ _ l c => rw [h l (by simp), h c (by simp)]
  case s2b _ x => rw [h x (by simp)]

theorem mpI_same {fr fr' : Tr V} {H : H} {i : MI} (h : SameOn fr fr' i.opds) : mpI fr H i = mpI fr' H i := by
  cases i <;> simp only [MI.opds] at h <;> simp only [mpI]
  case up _ _ x k v => rw [h x (by simp), h k (by simp), h v (by simp)]
  case del _ _ x k => rw [h x (by simp), h k (by simp)]
  case ment _ _ _ x k => rw [h x (by simp), h k (by simp)]
  case est x s v => rw [h x (by simp), h s (by simp), h v (by simp)]
  case rng x => rw [h x (by simp)]
  case nxt x => rw [h x (by simp)]
  case cln x => rw [h x (by simp)]

theorem hvI_same {fr fr' : Tr V} {H : H} {i : HI} (h : SameOn fr fr' i.opds) : hvI fr H i = hvI fr' H i := by
  cases i <;> simp only [HI.opds] at h <;> simp only [hvI]
  case store n x y => rw [h x (by simp), h y (by simp)]
  case append _ _ _ x y => rw [h x (by simp), h y (by simp)]
  case copy _ x y => rw [h x (by simp), h y (by simp)]
  case clear _ _ x => rw [h x (by simp)]
  case call f l => rw [evs_same h]
  case callv f l => rw [h f (by simp), evs_same h.tail]
  case mp i => rw [mpI_same h]
  case inv t x l => rw [h x (by simp), evs_same h.tail]

def I.opds : I → List Opd
  | .pu i => i.opds
  | .rd i => i.opds
  | .al i => i.opds
  | .hv i => i.opds
  | .bad => []

/-! ### Heaps of which less is known -/

theorem obCells_less {h h' : H} (hl : Less h h') {b : Path} {l : List V} (hv : obCells (h.get b) = some l) : obCells (h'.get b) = some l := by
  rcases hl b with e | e
  · rw [e] at hv; cases hv
  · rw [← e]; exact hv

theorem loadC_less {h h' : H} (hl : Less h h') {b : Path} {o n : Nat} {l : List V} (hv : loadC h b o n = some l) : loadC h' b o n = some l := by
  unfold loadC at *
  rcases hl b with e | e
  · rw [e] at hv; cases hv
  · rw [← e]; exact hv

theorem rdI_less {fr : Tr V} {h h' : H} (hl : Less h h') {i : RI} {v : V} (hv : rdI fr h i = some v) : rdI fr h' i = some v := by
  cases i <;> simp only [rdI] at hv ⊢
  case load agg n x =>
    unfold loadV at *
    split at hv
    · split at hv
      · rename_i e; rw [loadC_less hl e]; exact hv
      · cases hv
    · cases hv
  case slArr n es x lo hi mx =>
    unfold slArrH at *
    split at hv
    · split at hv
      · rename_i e; rw [obCells_less hl e]; exact hv
      · cases hv
    · cases hv
  case b2s x =>
    unfold b2sV at *
    split at hv
    · exact hv
    · rename_i b o n _ _ es _
      cases hb : Nat.beq es 1 with
      | false => simp [hb] at hv
      | true =>
        simp only [hb, cond_true] at hv ⊢
        split at hv
        · rename_i e; rw [loadC_less hl e]; exact hv
        · cases hv
    · cases hv
  case lenM x =>
    unfold lenMV at *
    split at hv
    · exact hv
    · rename_i b _
      rcases hl b with e | e
      · rw [e] at hv; cases hv
      · rw [← e]; exact hv
    · cases hv
  case glob g => exact hv
  case globI c g => exact hv
  case ixs c x y => exact hv
  case look agg ts z ok x k =>
    unfold lookV at *
    cases hk : keyOk agg ts (ev fr k) with
    | false => rw [hk] at hv; cases hv
    | true =>
      rw [hk] at hv
      simp only [cond_true] at hv ⊢
      split at hv
      · exact hv
      · rename_i b _
        rcases hl b with e | e
        · rw [e] at hv; cases hv
        · rw [← e]; exact hv
      · cases hv
  case ent x =>
    unfold entV at *
    split at hv
    · rename_i b o _
      cases ho : Nat.beq o 0 with
      | false => rw [ho] at hv; cases hv
      | true =>
        rw [ho] at hv
        simp only [cond_true] at hv ⊢
        rcases hl b with e | e
        · rw [e] at hv; cases hv
        · rw [← e]
          unfold entIt at *
          split at hv
          · rename_i mp since seen last _
            cases mp with
            | none => cases hv
            | some m =>
              cases seen with
              | nil => cases hv
              | cons s seen =>
                simp only at hv ⊢
                rcases hl m with e | e
                · rw [e] at hv; cases hv
                · rw [← e]; exact hv
          · cases hv
    · cases hv

end Go.Eng
