/- The engine, part X: regions whose order is open: the plan and its check. -/
import Derived.Test.YtjngjfgbholgpaaEngT
set_option linter.unusedSimpArgs false
set_option linter.unusedVariables false
namespace Go.Eng

/-- An operation of a region: its number, what comes before it (bits), what it is, what it waits for, and whether it is run at once in the model as well (if it changes memory, or writes a place that another reads before). -/
structure Ent where
  k : Nat
  m : Nat
  st : St
  af : List Nat
  hv : Bool

def has (m j : Nat) : Bool := Nat.beq (Nat.land (Nat.shiftRight m j) 1) 1

theorem has_eq (m j : Nat) : has m j = m.testBit j := by
  unfold has Nat.testBit
  show Nat.beq ((m >>> j) &&& 1) 1 = (1 &&& (m >>> j) != 0)
  rw [Nat.and_comm, Nat.one_and_eq_mod_two]
  have := Nat.mod_two_eq_zero_or_one (m >>> j)
  rcases this with h | h <;> rw [h] <;> rfl

theorem has_or (a b j : Nat) : has (Nat.lor a b) j = (has a j || has b j) := by
  simp only [has_eq]; exact Nat.testBit_or a b j

theorem has_pow (k j : Nat) : has (Nat.shiftLeft 1 k) j = decide (k = j) := by
  rw [has_eq]
  show (1 <<< k).testBit j = _
  rw [Nat.one_shiftLeft, Nat.testBit_two_pow]

theorem has_zero (j : Nat) : has 0 j = false := by rw [has_eq]; simp

theorem has_and {a b j : Nat} (h : Nat.land a b = a) (hj : has a j = true) : has b j = true := by
  rw [← h] at hj
  rw [has_eq] at hj ⊢
  have : (a &&& b).testBit j = true := hj
  rw [Nat.testBit_and] at this
  simp at this
  exact this.2

def edges (o : Oper) : List Nat := (o.after.toList.filter (Region.binds .any)).map (·.on)

def Opd.slot : Opd → Option Path
  | .t p => some p
  | .c _ => none

def St.slots (s : St) : List Path := s.op.opds.filterMap Opd.slot ++ (s.gd.map (·.1)).toList

def memP (p : Path) : List Path → Bool
  | [] => false
  | q :: l => cond (p.same q) true (memP p l)

theorem memP_iff {p : Path} : ∀ {l : List Path}, memP p l = true ↔ p ∈ l
  | [] => by simp [memP]
  | q :: l => by
    simp only [memP, List.mem_cons]
    cases h : p.same q with
    | true => simp [Path.same_iff.1 h]
    | false =>
      simp only [cond_false, memP_iff]
      constructor
      · exact .inr
      · rintro (rfl | h')
        · rw [Path.same_iff.2 rfl] at h; cases h
        · exact h'

def I.heavy : I → Bool
  | .hv _ => true
  | .bad => true
  | _ => false

def I.isAl : I → Bool
  | .al _ => true
  | _ => false

def maskIn : List Ent → Nat → Nat
  | [], _ => 0
  | e :: D, a => cond (Nat.beq e.k a) e.m (maskIn D a)

def orAll (D : List Ent) : List Nat → Nat
  | [] => 0
  | a :: l => Nat.lor (Nat.lor (Nat.shiftLeft 1 a) (maskIn D a)) (orAll D l)

theorem maskIn_spec : ∀ {D : List Ent} {a j : Nat}, has (maskIn D a) j = true → ∃ f ∈ D, f.k = a ∧ has f.m j = true
  | [], a, j, h => by simp [maskIn, has_zero] at h
  | e :: D, a, j, h => by
    simp only [maskIn] at h
    cases hb : Nat.beq e.k a with
    | true => rw [hb] at h; exact ⟨e, by simp, Nat.eq_of_beq_eq_true hb, h⟩
    | false =>
      rw [hb] at h
      obtain ⟨f, h1, h2⟩ := maskIn_spec h
      exact ⟨f, by simp [h1], h2⟩

theorem orAll_spec {D : List Ent} {j : Nat} : ∀ {l : List Nat}, has (orAll D l) j = true → ∃ a ∈ l, j = a ∨ ∃ f ∈ D, f.k = a ∧ has f.m j = true
  | [], h => by simp [orAll, has_zero] at h
  | a :: l, h => by
    simp only [orAll, has_or, has_pow, Bool.or_eq_true, decide_eq_true_eq] at h
    rcases h with (h | h) | h
    · exact ⟨a, by simp, .inl h.symm⟩
    · exact ⟨a, by simp, .inr (maskIn_spec h)⟩
    · obtain ⟨b, h1, h2⟩ := orAll_spec h
      exact ⟨b, by simp [h1], h2⟩

def allB {α : Type} (f : α → Bool) : List α → Bool
  | [] => true
  | x :: l => cond (f x) (allB f l) false

theorem allB_iff {α : Type} {f : α → Bool} : ∀ {l : List α}, allB f l = true ↔ ∀ x ∈ l, f x = true
  | [] => by simp [allB]
  | x :: l => by cases h : f x <;> simp [allB, h, allB_iff]

/-- The check of a schedule. -/
def okGo : List Ent → Nat → List Ent → Bool
  | _, _, [] => true
  | D, dm, e :: l => cond (has dm e.k) false (cond (allB (has dm) e.af) (cond (Nat.beq e.m (orAll D e.af)) (cond (Nat.beq (Nat.land e.m dm) e.m)
      (cond (cond (cond e.st.op.heavy e.hv true) (cond e.hv (cond e.st.op.isAl false (allB (fun f => has f.m e.k) l)) true) false) (okGo (e :: D) (Nat.lor dm (Nat.shiftLeft 1 e.k)) l) false) false) false) false)

def Good : List Ent → List Ent → Prop
  | _, [] => True
  | D, e :: l => (∀ f ∈ D, f.k ≠ e.k) ∧ (∀ a ∈ e.af, ∃ f ∈ D, f.k = a) ∧ (∀ j, has e.m j = true → ∃ f ∈ D, f.k = j) ∧
      (∀ j, has e.m j = true → ∃ a ∈ e.af, j = a ∨ ∃ f ∈ D, f.k = a ∧ has f.m j = true) ∧ ((e.st.op.heavy = true → e.hv = true) ∧ (e.hv = true → e.st.op.isAl = false)) ∧ (e.hv = true → ∀ f ∈ l, has f.m e.k = true) ∧ Good (e :: D) l

theorem cond_true_iff {a b : Bool} : cond a b false = true ↔ a = true ∧ b = true := by cases a <;> simp

theorem okGo_spec : ∀ {l D : List Ent} {dm : Nat}, (∀ j, has dm j = true ↔ ∃ f ∈ D, f.k = j) → okGo D dm l = true → Good D l
  | [], _, _, _, _ => trivial
  | e :: l, D, dm, hdm, h => by
    simp only [okGo] at h
    cases h0 : has dm e.k with
    | true => simp [h0] at h
    | false =>
      simp only [h0, cond_false, cond_true_iff] at h
      obtain ⟨h1, h2, h3, h4, h5⟩ := h
      have e2 := Nat.eq_of_beq_eq_true h2
      have e3 := Nat.eq_of_beq_eq_true h3
      refine ⟨fun f hf he => ?_, fun a ha => (hdm a).1 (allB_iff.1 h1 a ha), fun j hj => (hdm j).1 (has_and e3 hj), fun j hj => ?_, ⟨fun hh => ?_, fun hh => ?_⟩, fun hh => ?_, ?_⟩
      · have := (hdm e.k).2 ⟨f, hf, he⟩
        rw [h0] at this; cases this
      · rw [e2] at hj; exact orAll_spec hj
      · have := h4.1; rw [hh] at this; exact this
      · have := h4.2
        rw [hh] at this
        cases ha : e.st.op.isAl with
        | false => rfl
        | true => rw [ha] at this; cases this
      · have := h4.2
        rw [hh] at this
        cases ha : e.st.op.isAl with
        | false => rw [ha] at this; exact allB_iff.1 this
        | true => rw [ha] at this; cases this
      · refine okGo_spec (fun j => ?_) h5
        rw [has_or, has_pow, Bool.or_eq_true, decide_eq_true_eq, hdm]
        constructor
        · rintro (⟨f, h, h'⟩ | h)
          · exact ⟨f, by simp [h], h'⟩
          · exact ⟨e, by simp, h⟩
        · rintro ⟨f, h, h'⟩
          rcases List.mem_cons.1 h with rfl | h
          · exact .inr h'
          · exact .inl ⟨f, h, h'⟩

def pairOk (e f : Ent) : Bool :=
  match f.st.dst with
  | none => true
  | some d => cond (cond (memP d e.st.slots) (cond (has e.m f.k) true (cond f.hv (has f.m e.k) false)) true) (cond (Nat.beq e.k f.k) true (match e.st.dst with | some d' => !(d'.same d) | none => true)) false

def rangeB (f : Nat → Bool) : Nat → Bool
  | 0 => true
  | n + 1 => cond (f n) (rangeB f n) false

theorem rangeB_iff {f : Nat → Bool} : ∀ {n : Nat}, rangeB f n = true ↔ ∀ j, j < n → f j = true
  | 0 => by simp [rangeB]
  | n + 1 => by
    simp only [rangeB, cond_true_iff, rangeB_iff]
    constructor
    · rintro ⟨h1, h2⟩ j hj
      by_cases e : j = n
      · subst e; exact h1
      · exact h2 j (by omega)
    · intro h
      exact ⟨h n (by omega), fun j hj => h j (by omega)⟩

def keyIn (j : Nat) : List Ent → Bool
  | [] => false
  | e :: l => cond (Nat.beq e.k j) true (keyIn j l)

theorem keyIn_iff {j : Nat} : ∀ {l : List Ent}, keyIn j l = true ↔ ∃ e ∈ l, e.k = j
  | [] => by simp [keyIn]
  | e :: l => by
    simp only [keyIn]
    cases h : Nat.beq e.k j with
    | true => simp [Nat.eq_of_beq_eq_true h]
    | false =>
      have : e.k ≠ j := fun c => by subst c; simp at h
      simp [keyIn_iff, this]

def okS (n : Nat) (S : List Ent) : Bool :=
  cond (Nat.beq S.length n) (cond (rangeB (fun j => keyIn j S) n) (cond (allB (fun e => allB (pairOk e) S) S) (okGo [] 0 S) false) false) false

/-- Names of blocks that operations of a list make. -/
def alOf (e : Ent) : Option Path :=
  match e.st.op with
  | .al _ => e.st.dst
  | _ => none

def als (m : Nat) : List Ent → List Path
  | [] => []
  | f :: D => cond (has m f.k) (als m D) (match alOf f with | some d => d :: als m D | none => als m D)

def chks (m : Nat) (D0 : List Ent) : List Ent → List (St × List Path)
  | [] => []
  | f :: D => cond (has m f.k) (chks m D0 D) (match f.st.op with | .rd _ => (f.st, als f.m D0) :: chks m D0 D | _ => chks m D0 D)

def mkIt (D : List Ent) (e : Ent) : It := ⟨e.st, als e.m D, cond e.st.op.heavy (chks e.m D D) []⟩

def its (D : List Ent) : List Ent → List It
  | [] => []
  | e :: l => mkIt D e :: its (e :: D) l

section
variable (P : Program) (ng : Nat) (ops : Array Oper)

def stAt : List St → Nat → List Path
  | [], _ => []
  | s :: l, k => match k with
    | 0 => s.slots
    | k + 1 => stAt l k

def anyB {α : Type} (f : α → Bool) : List α → Bool
  | [] => false
  | x :: l => cond (f x) true (anyB f l)

/-- Does it write a place that another reads before? -/
def war (sl : List St) (d : Option Path) (af : List Nat) : Bool :=
  match d with
  | none => false
  | some d => anyB (fun k => memP d (stAt sl k)) af

def entOf (sl : List St) (p : Nat × Nat) : Option Ent := (ops[p.1]?).map fun o =>
  ⟨p.1, p.2, cSt P ng ops o, edges o, cond (cSt P ng ops o).op.heavy true (war sl (cSt P ng ops o).dst (edges o))⟩

def entsOf (sl : List St) : List (Nat × Nat) → Option (List Ent)
  | [] => some []
  | p :: l => (entOf P ng ops sl p).bind fun e => (entsOf sl l).map fun r => e :: r

/-! The schedule: what is light first. -/

def afm : List Nat → Nat
  | [] => 0
  | a :: l => Nat.lor (Nat.shiftLeft 1 a) (afm l)

/-- Takes the first of those that are ready. -/
def takeReady (hv : Bool) (dm : Nat) : List (Nat × Bool × Nat) → Option (Nat × List (Nat × Bool × Nat))
  | [] => none
  | (k, b, m) :: l => cond (cond (Nat.beq (Nat.land m dm) m) (cond hv true (!b)) false) (some (k, l))
      (match takeReady hv dm l with | some (j, l) => some (j, (k, b, m) :: l) | none => none)

def schedGo : Nat → Nat → List (Nat × Bool × Nat) → List Nat
  | 0, _, _ => []
  | n + 1, dm, l => match takeReady false dm l with
    | some (k, l) => k :: schedGo n (Nat.lor dm (Nat.shiftLeft 1 k)) l
    | none => match takeReady true dm l with
      | some (k, l) => k :: schedGo n (Nat.lor dm (Nat.shiftLeft 1 k)) l
      | none => []

def rowsOf (sl : List St) : Nat → List Oper → List (Nat × Bool × Nat)
  | _, [] => []
  | k, o :: l => (k, cond (cSt P ng ops o).op.heavy true (war sl (cSt P ng ops o).dst (edges o)), afm (edges o)) :: rowsOf sl (k + 1) l

def withM (afs : Nat → List Nat) : List (Nat × Nat) → List Nat → List (Nat × Nat)
  | D, [] => D.reverse
  | D, k :: l => withM afs ((k, (afs k).foldl (fun m a => Nat.lor m (Nat.lor (Nat.shiftLeft 1 a) (((D.find? fun p => Nat.beq p.1 a).map (·.2)).getD 0))) 0) :: D) l

def afAt : List Oper → Nat → List Nat
  | [], _ => []
  | o :: l, k => match k with
    | 0 => edges o
    | k + 1 => afAt l k

def planOf : Option (List It) :=
  match entsOf P ng ops (ops.toList.map (cSt P ng ops)) (withM (afAt ops.toList) [] (schedGo ops.size 0 (rowsOf P ng ops (ops.toList.map (cSt P ng ops)) 0 ops.toList))) with
  | some S => cond (okS ops.size S) (some (its [] S)) none
  | none => none

end

/-- What a checked plan gives. -/
structure Plan (P : Program) (ng : Nat) (ops : Array Oper) (S : List Ent) : Prop where
  ent : ∀ e ∈ S, ∃ o, ops[e.k]? = some o ∧ e.st = cSt P ng ops o ∧ e.af = edges o
  len : S.length = ops.size
  all : ∀ j, j < ops.size → ∃ e ∈ S, e.k = j
  slot : ∀ e ∈ S, ∀ f ∈ S, ∀ d, f.st.dst = some d → d ∈ e.st.slots → has e.m f.k = true ∨ (f.hv = true ∧ has f.m e.k = true)
  dst : ∀ e ∈ S, ∀ f ∈ S, e.k ≠ f.k → ∀ d, e.st.dst = some d → f.st.dst ≠ some d
  good : Good [] S

section
variable {P : Program} {ng : Nat} {ops : Array Oper}

theorem entsOf_spec {sl : List St} : ∀ {l : List (Nat × Nat)} {S : List Ent}, entsOf P ng ops sl l = some S → ∀ e ∈ S, ∃ o, ops[e.k]? = some o ∧ e.st = cSt P ng ops o ∧ e.af = edges o
  | [], S, h, e, he => by simp [entsOf] at h; subst h; cases he
  | p :: l, S, h, e, he => by
    simp only [entsOf, Option.bind_eq_some_iff, Option.map_eq_some_iff, entOf] at h
    obtain ⟨e', ⟨o, ho, rfl⟩, S', hS, rfl⟩ := h
    rcases List.mem_cons.1 he with rfl | he
    · exact ⟨o, ho, rfl, rfl⟩
    · exact entsOf_spec hS e he

theorem planOf_spec {l : List It} (h : planOf P ng ops = some l) : ∃ S, Plan P ng ops S ∧ l = its [] S := by
  unfold planOf at h
  split at h
  · rename_i S hS
    cases hk : okS ops.size S with
    | false => simp [hk] at h
    | true =>
      simp only [hk, cond_true, Option.some.injEq] at h
      unfold okS at hk
      simp only [cond_true_iff] at hk
      obtain ⟨h1, h2, h3, h4⟩ := hk
      have hp : ∀ e ∈ S, ∀ f ∈ S, pairOk e f = true := fun e he f hf => allB_iff.1 (allB_iff.1 h3 e he) f hf
      refine ⟨S, ⟨entsOf_spec hS, Nat.eq_of_beq_eq_true h1, fun j hj => keyIn_iff.1 (rangeB_iff.1 h2 j hj), fun e he f hf d hd hs => ?_, fun e he f hf hne d hd hd' => ?_,
        okGo_spec (fun j => by simp [has_zero]) h4⟩, h.symm⟩
      · have := hp e he f hf
        simp only [pairOk, hd, cond_true_iff] at this
        rw [memP_iff.2 hs] at this
        have := this.1
        cases h5 : has e.m f.k with
        | true => exact .inl rfl
        | false => rw [h5] at this; exact .inr (cond_true_iff.1 this)
      · have := hp e he f hf
        simp only [pairOk, hd', cond_true_iff] at this
        have h0 : Nat.beq e.k f.k = false := by
          cases hb : Nat.beq e.k f.k
          · rfl
          · exact absurd (Nat.eq_of_beq_eq_true hb) hne
        rw [h0, hd] at this
        have h5 : d.same d = true := Path.same_iff.2 rfl
        simp [h5] at this
  · cases h

end
end Go.Eng
