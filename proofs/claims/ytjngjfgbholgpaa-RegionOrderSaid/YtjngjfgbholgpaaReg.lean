/- The plain law of lists of rectangles in normal form: what the normal form is, that it hangs on the set of rectangles alone, that it is its own normal form, and how long it is. -/
set_option linter.unusedSimpArgs false
set_option linter.unusedVariables false
namespace Go.Reg

structure Rc where
  r0 : Int
  c0 : Int
  r1 : Int
  c1 : Int
  deriving DecidableEq, Inhabited

structure Sp where
  lo : Int
  hi : Int
  deriving DecidableEq, Inhabited

/-- What may be. -/
structure Rc.Ok (r : Rc) : Prop where
  a : 0 ≤ r.r0
  b : 0 ≤ r.c0
  c : r.r0 < r.r1
  d : r.c0 < r.c1
  e : r.r1 ≤ 4398046511104
  f : r.c1 ≤ 4398046511104

/-! ### Spans -/

/-- Put apart, rising. -/
def Canon (l : List Sp) : Prop := (∀ s ∈ l, s.lo < s.hi) ∧ l.Pairwise fun a b => a.hi < b.lo

def pts (l : List Sp) (c : Int) : Prop := ∃ s ∈ l, s.lo ≤ c ∧ c < s.hi

theorem Canon.tail {s : Sp} {l : List Sp} (h : Canon (s :: l)) : Canon l :=
  ⟨fun x hx => h.1 x (List.mem_cons_of_mem _ hx), (List.pairwise_cons.1 h.2).2⟩

theorem Canon.far {s : Sp} {l : List Sp} (h : Canon (s :: l)) {c : Int} (hc : pts l c) : s.hi < c := by
  obtain ⟨x, hx, h1, _⟩ := hc
  have := (List.pairwise_cons.1 h.2).1 x hx
  omega

theorem Canon.unique : ∀ {l k : List Sp}, Canon l → Canon k → (∀ c, pts l c ↔ pts k c) → l = k
  | [], [], _, _, _ => rfl
  | [], s :: k, _, hk, h => by
    have h1 := hk.1 s (List.mem_cons_self ..)
    obtain ⟨x, hx, _⟩ := (h s.lo).2 ⟨s, List.mem_cons_self .., by omega, h1⟩
    cases hx
  | s :: l, [], hl, _, h => by
    have h1 := hl.1 s (List.mem_cons_self ..)
    obtain ⟨x, hx, _⟩ := (h s.lo).1 ⟨s, List.mem_cons_self .., by omega, h1⟩
    cases hx
  | s :: l, t :: k, hl, hk, h => by
    have s1 := hl.1 s (List.mem_cons_self ..)
    have t1 := hk.1 t (List.mem_cons_self ..)
    have cons : ∀ (u : Sp) (m : List Sp) (c : Int), pts (u :: m) c ↔ (u.lo ≤ c ∧ c < u.hi) ∨ pts m c := by
      intro u m c
      constructor
      · rintro ⟨x, hx, h1⟩
        rcases List.mem_cons.1 hx with rfl | hx
        · exact .inl h1
        · exact .inr ⟨x, hx, h1⟩
      · rintro (h1 | ⟨x, hx, h1⟩)
        · exact ⟨u, List.mem_cons_self .., h1⟩
        · exact ⟨x, List.mem_cons_of_mem _ hx, h1⟩
    have elo : s.lo = t.lo := by
      rcases Int.lt_trichotomy s.lo t.lo with hlt | e | hlt
      · rcases (cons t k s.lo).1 ((h s.lo).1 ((cons s l s.lo).2 (.inl ⟨by omega, s1⟩))) with h2 | h2
        · omega
        · have := hk.far h2; omega
      · exact e
      · rcases (cons s l t.lo).1 ((h t.lo).2 ((cons t k t.lo).2 (.inl ⟨by omega, t1⟩))) with h2 | h2
        · omega
        · have := hl.far h2; omega
    have ehi : s.hi = t.hi := by
      rcases Int.lt_trichotomy s.hi t.hi with hlt | e | hlt
      · rcases (cons s l s.hi).1 ((h s.hi).2 ((cons t k s.hi).2 (.inl ⟨by omega, hlt⟩))) with h2 | h2
        · omega
        · have := hl.far h2; omega
      · exact e
      · rcases (cons t k t.hi).1 ((h t.hi).1 ((cons s l t.hi).2 (.inl ⟨by omega, hlt⟩))) with h2 | h2
        · omega
        · have := hk.far h2; omega
    have est : s = t := by cases s; cases t; simp only at elo ehi; rw [elo, ehi]
    subst est
    congr 1
    refine Canon.unique hl.tail hk.tail fun c => ?_
    have hc := h c
    rw [cons, cons] at hc
    constructor
    · intro h1
      have := hl.far h1
      rcases hc.1 (.inr h1) with h2 | h2
      · omega
      · exact h2
    · intro h1
      have := hk.far h1
      rcases hc.2 (.inr h1) with h2 | h2
      · omega
      · exact h2

/-- One more span behind those that are put together. -/
def mstep (out : List Sp) (s : Sp) : List Sp :=
  match out.getLast? with
  | none => [s]
  | some p => if s.lo ≤ p.hi then out.dropLast ++ [⟨p.lo, if p.hi < s.hi then s.hi else p.hi⟩] else out ++ [s]

def mergeL (d : List Sp) : List Sp := d.foldl mstep []

theorem snoc_of_getLast? {α : Type} {l : List α} {p : α} (h : l.getLast? = some p) : l = l.dropLast ++ [p] := by
  have hne : l ≠ [] := by intro e; subst e; simp at h
  rw [List.getLast?_eq_some_getLast hne] at h
  have := List.dropLast_concat_getLast hne
  simp only [Option.some.injEq] at h
  rw [h] at this
  exact this.symm

theorem canon_snoc {l : List Sp} {s : Sp} : Canon (l ++ [s]) ↔ Canon l ∧ s.lo < s.hi ∧ ∀ x ∈ l, x.hi < s.lo := by
  unfold Canon
  rw [List.pairwise_append]
  constructor
  · rintro ⟨h1, h2, _, h3⟩
    exact ⟨⟨fun x hx => h1 x (List.mem_append_left _ hx), h2⟩, h1 s (by simp), fun x hx => h3 x hx s (by simp)⟩
  · rintro ⟨⟨h1, h2⟩, h3, h4⟩
    refine ⟨fun x hx => ?_, h2, List.pairwise_singleton .., fun x hx y hy => ?_⟩
    · rcases List.mem_append.1 hx with hx | hx
      · exact h1 x hx
      · rw [List.mem_singleton.1 hx]; exact h3
    · rw [List.mem_singleton.1 hy]; exact h4 x hx

theorem pts_append {l k : List Sp} {c : Int} : pts (l ++ k) c ↔ pts l c ∨ pts k c := by
  constructor
  · rintro ⟨x, hx, h⟩
    rcases List.mem_append.1 hx with hx | hx
    · exact .inl ⟨x, hx, h⟩
    · exact .inr ⟨x, hx, h⟩
  · rintro (⟨x, hx, h⟩ | ⟨x, hx, h⟩)
    · exact ⟨x, List.mem_append_left _ hx, h⟩
    · exact ⟨x, List.mem_append_right _ hx, h⟩

theorem pts_single {s : Sp} {c : Int} : pts [s] c ↔ s.lo ≤ c ∧ c < s.hi := by
  constructor
  · rintro ⟨x, hx, h⟩; rw [List.mem_singleton.1 hx] at h; exact h
  · intro h; exact ⟨s, by simp, h⟩

/-- What holds of what was put together of d. -/
structure Mer (d out : List Sp) : Prop where
  canon : Canon out
  pts : ∀ c, pts out c ↔ Reg.pts d c
  len : out.length ≤ d.length
  last : ∀ p, out.getLast? = some p → ∀ b : Int, (∀ s ∈ d, s.lo ≤ b) → p.lo ≤ b
  nil : out = [] → d = []

theorem mer_step {d out : List Sp} {s : Sp} (h : Mer d out) (hs : s.lo < s.hi) (hd : ∀ x ∈ d, x.lo ≤ s.lo) : Mer (d ++ [s]) (mstep out s) := by
  unfold mstep
  cases hl : out.getLast? with
  | none =>
    have e : out = [] := by simpa using hl
    have e' := h.nil e
    subst e e'
    exact ⟨⟨fun x hx => by rw [List.mem_singleton.1 hx]; exact hs, List.pairwise_singleton ..⟩, fun c => by simp, by simp, fun p hp b hb => by simp at hp; subst hp; exact hb _ (by simp), fun e => by simp at e⟩
  | some p =>
    have e := snoc_of_getLast? hl
    have hlo := h.last p hl s.lo hd
    have hc := h.canon
    have hp := h.pts
    have hn := h.len
    rw [e] at hc hp
    obtain ⟨c1, c2, c3⟩ := canon_snoc.1 hc
    dsimp only
    split
    · rename_i hle
      refine ⟨canon_snoc.2 ⟨c1, ?_, fun x hx => ?_⟩, fun c => ?_, ?_, fun q hq b hb => ?_, fun e' => by simp at e'⟩
      · dsimp only; split <;> omega
      · exact c3 x hx
      · rw [pts_append, pts_append, ← hp, pts_append, pts_single, pts_single, pts_single, or_assoc]
        refine or_congr Iff.rfl ?_
        dsimp only
        constructor
        · intro hh; split at hh <;> omega
        · intro hh; split <;> omega
      · have : out.length ≠ 0 := by intro e0; rw [List.length_eq_zero_iff.1 e0] at hl; simp at hl
        simp only [List.length_append, List.length_dropLast, List.length_singleton]; omega
      · simp at hq; subst hq
        have := hb s (by simp)
        dsimp only; omega
    · rename_i hgt
      refine ⟨canon_snoc.2 ⟨h.canon, hs, fun x hx => ?_⟩, fun c => ?_, by simp only [List.length_append, List.length_singleton]; omega, fun q hq b hb => ?_, fun e' => by simp at e'⟩
      · rw [e] at hx
        rcases List.mem_append.1 hx with hx | hx
        · have := c3 x hx; omega
        · rw [List.mem_singleton.1 hx]; omega
      · rw [pts_append, pts_append, h.pts]
      · simp at hq; subst hq; exact hb _ (by simp)

theorem mergeL_snoc (d : List Sp) (s : Sp) : mergeL (d ++ [s]) = mstep (mergeL d) s := by
  unfold mergeL; rw [List.foldl_append]; rfl

theorem mer_all : ∀ (d : List Sp), (∀ s ∈ d, s.lo < s.hi) → d.Pairwise (fun a b => a.lo ≤ b.lo) → Mer d (mergeL d) := by
  intro d
  induction h : d.length generalizing d with
  | zero =>
    intro _ _
    rw [List.length_eq_zero_iff.1 h]
    exact ⟨⟨by simp [mergeL], by simp [mergeL]⟩, fun c => by simp [mergeL], by simp [mergeL], fun p hp => by simp [mergeL] at hp, fun _ => rfl⟩
  | succ n ih =>
    intro h1 h2
    have hne : d ≠ [] := by intro e; subst e; simp at h
    have e := List.dropLast_concat_getLast hne
    generalize d.dropLast = d' at e
    generalize d.getLast hne = s at e
    subst e
    rw [mergeL_snoc]
    obtain ⟨h3, _, h4⟩ := List.pairwise_append.1 h2
    exact mer_step (ih d' (by simpa using h) (fun x hx => h1 x (List.mem_append_left _ hx)) h3) (h1 s (by simp)) (fun x hx => h4 x hx s (by simp))

/-- The spans of a row, in the order of the list. -/
def rowL (rs : List Rc) (row : Int) : List Sp := (rs.filter fun r => decide (r.r0 ≤ row) && decide (row < r.r1)).map fun r => ⟨r.c0, r.c1⟩

def leLo (a b : Sp) : Bool := decide (a.lo ≤ b.lo)

/-- The fewest spans of a row. -/
def spansF (rs : List Rc) (row : Int) : List Sp := mergeL ((rowL rs row).mergeSort leLo)

theorem mem_rowL {rs : List Rc} {row : Int} {s : Sp} : s ∈ rowL rs row ↔ ∃ r ∈ rs, r.r0 ≤ row ∧ row < r.r1 ∧ s = ⟨r.c0, r.c1⟩ := by
  unfold rowL
  simp only [List.mem_map, List.mem_filter, Bool.and_eq_true, decide_eq_true_eq]
  constructor
  · rintro ⟨r, ⟨h1, h2, h3⟩, rfl⟩; exact ⟨r, h1, h2, h3, rfl⟩
  · rintro ⟨r, h1, h2, h3, rfl⟩; exact ⟨r, ⟨h1, h2, h3⟩, rfl⟩

theorem pts_rowL {rs : List Rc} {row c : Int} : pts (rowL rs row) c ↔ ∃ r ∈ rs, r.r0 ≤ row ∧ row < r.r1 ∧ r.c0 ≤ c ∧ c < r.c1 := by
  constructor
  · rintro ⟨s, hs, h1, h2⟩
    obtain ⟨r, a, b, d, rfl⟩ := mem_rowL.1 hs
    exact ⟨r, a, b, d, h1, h2⟩
  · rintro ⟨r, a, b, d, h1, h2⟩
    exact ⟨⟨r.c0, r.c1⟩, mem_rowL.2 ⟨r, a, b, d, rfl⟩, h1, h2⟩

theorem pts_perm {d d' : List Sp} (h : d.Perm d') (c : Int) : pts d c ↔ pts d' c := by
  constructor
  · rintro ⟨s, hs, hh⟩; exact ⟨s, h.mem_iff.1 hs, hh⟩
  · rintro ⟨s, hs, hh⟩; exact ⟨s, h.mem_iff.2 hs, hh⟩

theorem sorted_leLo (d : List Sp) : (d.mergeSort leLo).Pairwise (fun a b => a.lo ≤ b.lo) := by
  have := List.pairwise_mergeSort (le := leLo) (fun a b c h1 h2 => by simp only [leLo, decide_eq_true_eq] at *; omega) (fun a b => by simp only [leLo, Bool.or_eq_true, decide_eq_true_eq]; omega) d
  exact this.imp fun h => by simpa [leLo] using h

theorem rowL_lt {rs : List Rc} (hok : ∀ r ∈ rs, r.Ok) {row : Int} : ∀ s ∈ rowL rs row, s.lo < s.hi := by
  intro s hs
  obtain ⟨r, a, _, _, rfl⟩ := mem_rowL.1 hs
  exact (hok r a).d

theorem spansF_mer {rs : List Rc} (hok : ∀ r ∈ rs, r.Ok) (row : Int) : Mer ((rowL rs row).mergeSort leLo) (spansF rs row) :=
  mer_all _ (fun s hs => rowL_lt hok s (List.mem_mergeSort.1 hs)) (sorted_leLo _)

theorem spansF_pts {rs : List Rc} (hok : ∀ r ∈ rs, r.Ok) (row c : Int) : pts (spansF rs row) c ↔ ∃ r ∈ rs, r.r0 ≤ row ∧ row < r.r1 ∧ r.c0 ≤ c ∧ c < r.c1 := by
  rw [(spansF_mer hok row).pts, pts_perm (List.mergeSort_perm ..), pts_rowL]

theorem spansF_len {rs : List Rc} (hok : ∀ r ∈ rs, r.Ok) (row : Int) : (spansF rs row).length ≤ (rs.filter fun r => decide (r.r0 ≤ row) && decide (row < r.r1)).length := by
  have := (spansF_mer hok row).len
  rw [List.length_mergeSort] at this
  simpa [rowL] using this

/-- Whatever order the sort left. -/
theorem spansF_of_sorted {rs : List Rc} (hok : ∀ r ∈ rs, r.Ok) {row : Int} {d : List Sp} (hp : d.Perm (rowL rs row)) (hs : d.Pairwise fun a b => a.lo ≤ b.lo) : mergeL d = spansF rs row := by
  have h := mer_all d (fun s h => rowL_lt hok s (hp.mem_iff.1 h)) hs
  refine Canon.unique h.canon (spansF_mer hok row).canon fun c => ?_
  rw [h.pts, (spansF_mer hok row).pts, pts_perm hp, pts_perm (List.mergeSort_perm ..)]

/-- The spans hang on the set alone. -/
theorem spansF_congr {rs ks : List Rc} (hok : ∀ r ∈ rs, r.Ok) (hok' : ∀ r ∈ ks, r.Ok) {row row' : Int}
    (h : ∀ c, (∃ r ∈ rs, r.r0 ≤ row ∧ row < r.r1 ∧ r.c0 ≤ c ∧ c < r.c1) ↔ ∃ r ∈ ks, r.r0 ≤ row' ∧ row' < r.r1 ∧ r.c0 ≤ c ∧ c < r.c1) : spansF rs row = spansF ks row' :=
  Canon.unique (spansF_mer hok row).canon (spansF_mer hok' row').canon fun c => by rw [spansF_pts hok, spansF_pts hok', h]

/-! ### Cuts -/

def ends (rs : List Rc) : List Int := rs.flatMap fun r => [r.r0, r.r1]

theorem mem_ends {rs : List Rc} {x : Int} : x ∈ ends rs ↔ ∃ r ∈ rs, x = r.r0 ∨ x = r.r1 := by
  unfold ends; simp [List.mem_flatMap]

/-- Rising, and just these. -/
structure IsCuts (rs : List Rc) (l : List Int) : Prop where
  up : l.Pairwise (· < ·)
  mem : ∀ x, x ∈ l ↔ x ∈ ends rs

theorem up_unique : ∀ {l k : List Int}, l.Pairwise (· < ·) → k.Pairwise (· < ·) → (∀ x, x ∈ l ↔ x ∈ k) → l = k
  | [], [], _, _, _ => rfl
  | [], a :: k, _, _, h => by have := (h a).2 (by simp); cases this
  | a :: l, [], _, _, h => by have := (h a).1 (by simp); cases this
  | a :: l, b :: k, hl, hk, h => by
    obtain ⟨l1, l2⟩ := List.pairwise_cons.1 hl
    obtain ⟨k1, k2⟩ := List.pairwise_cons.1 hk
    have e : a = b := by
      rcases List.mem_cons.1 ((h a).1 (by simp)) with e | e
      · exact e
      · rcases List.mem_cons.1 ((h b).2 (by simp)) with e' | e'
        · exact e'.symm
        · have := k1 _ e; have := l1 _ e'; omega
    subst e
    congr 1
    refine up_unique l2 k2 fun x => ?_
    have hx := h x
    simp only [List.mem_cons] at hx
    constructor
    · intro h1
      have := l1 _ h1
      rcases hx.1 (.inr h1) with e | e
      · omega
      · exact e
    · intro h1
      have := k1 _ h1
      rcases hx.2 (.inr h1) with e | e
      · omega
      · exact e

/-! ### Bands -/

/-- Some rows with the same spans. -/
structure Seg where
  r0 : Int
  r1 : Int
  l : List Sp
  deriving DecidableEq

def Seg.rects (s : Seg) : List Rc := s.l.map fun x => ⟨s.r0, x.lo, s.r1, x.hi⟩

/-- One step of the making of bands: what there is, where the last band begins in it, its spans. -/
def bstep (f : Int → List Sp) (st : List Rc × Nat × List Sp) (p : Int × Int) : List Rc × Nat × List Sp :=
  if f p.1 ≠ [] ∧ f p.1 = st.2.2 then (st.1.take st.2.1 ++ (st.1.drop st.2.1).map (fun r => { r with r1 := p.2 }), st.2.1, st.2.2)
  else (st.1 ++ (f p.1).map (fun s => ⟨p.1, s.lo, p.2, s.hi⟩), st.1.length, f p.1)

def bandsF (f : Int → List Sp) (l : List Int) : List Rc := ((l.zip l.tail).foldl (bstep f) ([], 0, [])).1

/-- The bands behind one that is open: it began at r0, has the spans l, and comes to e. -/
def go (f : Int → List Sp) (r0 : Int) (l : List Sp) : Int → List Int → List Seg
  | e, [] => [⟨r0, e, l⟩]
  | e, t :: rest => if f e ≠ [] ∧ f e = l then go f r0 l t rest else ⟨r0, e, l⟩ :: go f e (f e) t rest

def segs (f : Int → List Sp) : List Int → List Seg
  | [] => []
  | [_] => []
  | a :: b :: rest => go f a (f a) b rest

theorem fold_go (f : Int → List Sp) : ∀ (rest : List Int) (pre : List Rc) (r0 e : Int) (l : List Sp),
    (((e :: rest).zip rest).foldl (bstep f) (pre ++ (Seg.mk r0 e l).rects, pre.length, l)).1 = pre ++ (go f r0 l e rest).flatMap Seg.rects
  | [], pre, r0, e, l => by simp [go]
  | t :: rest, pre, r0, e, l => by
    simp only [List.zip_cons_cons, List.foldl_cons]
    rw [go]
    by_cases hc : f e ≠ [] ∧ f e = l
    · rw [if_pos hc]
      have e1 : bstep f (pre ++ (Seg.mk r0 e l).rects, pre.length, l) (e, t) = (pre ++ (Seg.mk r0 t l).rects, pre.length, l) := by
        unfold bstep
        rw [if_pos hc]
        simp [Seg.rects]
      rw [e1]
      exact fold_go f rest pre r0 t l
    · rw [if_neg hc]
      have e1 : bstep f (pre ++ (Seg.mk r0 e l).rects, pre.length, l) (e, t) = ((pre ++ (Seg.mk r0 e l).rects) ++ (Seg.mk e t (f e)).rects, (pre ++ (Seg.mk r0 e l).rects).length, f e) := by
        unfold bstep
        rw [if_neg hc]
        simp [Seg.rects]
      rw [e1, fold_go f rest _ e t (f e)]
      simp

theorem bandsF_segs (f : Int → List Sp) : ∀ l : List Int, bandsF f l = (segs f l).flatMap Seg.rects
  | [] => rfl
  | [_] => rfl
  | a :: b :: rest => by
    unfold bandsF segs
    simp only [List.tail_cons, List.zip_cons_cons, List.foldl_cons]
    have e1 : bstep f ([], 0, []) (a, b) = (([] : List Rc) ++ (Seg.mk a b (f a)).rects, ([] : List Rc).length, f a) := by
      unfold bstep
      rw [if_neg (by rintro ⟨h1, h2⟩; exact h1 h2)]
      simp [Seg.rects]
    rw [e1, fold_go f rest [] a b (f a)]
    rfl

/-- Greatest bands of rows with the same spans, from a row on. -/
def Sg (f : Int → List Sp) : Int → List Seg → Prop
  | lo, [] => ∀ r, lo ≤ r → f r = []
  | lo, s :: L => lo ≤ s.r0 ∧ s.r0 < s.r1 ∧ s.l ≠ [] ∧ (∀ r, lo ≤ r → r < s.r0 → f r = []) ∧ (∀ r, s.r0 ≤ r → r < s.r1 → f r = s.l) ∧ f s.r1 ≠ s.l ∧ Sg f s.r1 L

theorem Sg.unique {f : Int → List Sp} : ∀ {L K : List Seg} {lo : Int}, Sg f lo L → Sg f lo K → L = K
  | [], [], _, _, _ => rfl
  | [], s :: K, lo, h, ⟨a, b, c, d, e, _, _⟩ => by
    have h1 := h s.r0 a
    have h2 := e s.r0 (by omega) b
    exact absurd (h2.symm.trans h1) c
  | s :: L, [], lo, ⟨a, b, c, d, e, _, _⟩, h => by
    have h1 := h s.r0 a
    have h2 := e s.r0 (by omega) b
    exact absurd (h2.symm.trans h1) c
  | s :: L, t :: K, lo, ⟨a, b, c, d, e, g, hL⟩, ⟨a', b', c', d', e', g', hK⟩ => by
    have h0 : s.r0 = t.r0 := by
      rcases Int.lt_trichotomy s.r0 t.r0 with hlt | h | hlt
      · exact absurd ((e s.r0 (by omega) b).symm.trans (d' _ a hlt)) c
      · exact h
      · exact absurd ((e' t.r0 (by omega) b').symm.trans (d _ a' hlt)) c'
    have hl : s.l = t.l := (e s.r0 (by omega) b).symm.trans (e' s.r0 (by omega) (by omega))
    have h1 : s.r1 = t.r1 := by
      rcases Int.lt_trichotomy s.r1 t.r1 with hlt | h | hlt
      · exact absurd ((e' s.r1 (by omega) hlt).trans hl.symm) g
      · exact h
      · exact absurd ((e t.r1 (by omega) hlt).trans hl) g'
    have est : s = t := by cases s; cases t; simp only at h0 hl h1; rw [h0, hl, h1]
    subst est
    rw [Sg.unique hL hK]

theorem Sg.from_ {f : Int → List Sp} {lo lo' : Int} {L : List Seg} (hle : lo ≤ lo') (h0 : ∀ r, lo ≤ r → r < lo' → f r = []) (h : Sg f lo' L) : Sg f lo L := by
  cases L with
  | nil =>
    intro r hr
    by_cases h1 : r < lo'
    · exact h0 r hr h1
    · exact h r (by omega)
  | cons s L =>
    obtain ⟨a, b, c, d, e, g, hL⟩ := h
    refine ⟨by omega, b, c, fun r hr h1 => ?_, e, g, hL⟩
    by_cases h2 : r < lo'
    · exact h0 r hr h2
    · exact d r (by omega) h1

/-- f does not turn between cuts, and is nothing behind the last one. -/
def Steps (f : Int → List Sp) : Int → List Int → Prop
  | e, [] => ∀ r, e ≤ r → f r = []
  | e, t :: rest => e < t ∧ (∀ r, e ≤ r → r < t → f r = f e) ∧ Steps f t rest

theorem go_sg (f : Int → List Sp) : ∀ (rest : List Int) (r0 e : Int) (l : List Sp), r0 < e → (∀ r, r0 ≤ r → r < e → f r = l) → Steps f e rest →
    Sg f r0 ((go f r0 l e rest).filter fun s => decide (s.l ≠ []))
  | [], r0, e, l, h0, h1, h2 => by
    simp only [go]
    by_cases hl : l = []
    · subst hl
      simp only [ne_eq, not_true_eq_false, decide_false, Bool.false_eq_true, not_false_eq_true, List.filter_cons_of_neg, List.filter_nil]
      intro r hr
      by_cases h : r < e
      · exact h1 r hr h
      · exact h2 r (by omega)
    · rw [List.filter_cons_of_pos (by simpa using hl)]
      refine ⟨by simp, h0, hl, fun r a b => ?_, h1, ?_, ?_⟩
      · dsimp only at b; omega
      · rw [h2 e (by omega)]; exact fun h => hl h.symm
      · exact h2
  | t :: rest, r0, e, l, h0, h1, ⟨h2, h3, h4⟩ => by
    rw [go]
    by_cases hc : f e ≠ [] ∧ f e = l
    · rw [if_pos hc]
      refine go_sg f rest r0 t l (by omega) (fun r a b => ?_) h4
      by_cases h : r < e
      · exact h1 r a h
      · rw [h3 r (by omega) b]; exact hc.2
    · rw [if_neg hc]
      have ih := go_sg f rest e t (f e) h2 (fun r a b => h3 r a b) h4
      by_cases hl : l = []
      · subst hl
        rw [List.filter_cons_of_neg (by simp)]
        exact ih.from_ (by omega) h1
      · rw [List.filter_cons_of_pos (by simpa using hl)]
        refine ⟨by simp, h0, hl, fun r a b => ?_, h1, ?_, ih⟩
        · dsimp only at b; omega
        · intro h
          exact hc ⟨fun h' => hl (h.symm.trans h'), h⟩

theorem flat_filter : ∀ L : List Seg, (L.filter fun s => decide (s.l ≠ [])).flatMap Seg.rects = L.flatMap Seg.rects
  | [] => rfl
  | s :: L => by
    by_cases h : s.l = []
    · rw [List.filter_cons_of_neg (by simp [h]), flat_filter L, List.flatMap_cons]
      simp [Seg.rects, h]
    · rw [List.filter_cons_of_pos (by simpa using h), List.flatMap_cons, List.flatMap_cons, flat_filter L]

/-- The spans of a list of rectangles do not turn between its cuts. -/
theorem steps_of {rs : List Rc} (hok : ∀ r ∈ rs, r.Ok) : ∀ (rest : List Int) (e : Int), (e :: rest).Pairwise (· < ·) → (∀ x ∈ ends rs, e ≤ x → x ∈ e :: rest) → Steps (spansF rs) e rest
  | [], e, _, h => by
    intro r hr
    refine Canon.unique (spansF_mer hok r).canon ⟨by simp, by simp⟩ fun c => ?_
    rw [spansF_pts hok]
    constructor
    · rintro ⟨x, hx, h1, h2, _⟩
      have := h x.r1 (mem_ends.2 ⟨x, hx, .inr rfl⟩) (by omega)
      have := List.mem_singleton.1 this
      omega
    · rintro ⟨x, hx, _⟩; cases hx
  | t :: rest, e, hp, h => by
    obtain ⟨p1, p2⟩ := List.pairwise_cons.1 hp
    obtain ⟨p3, _⟩ := List.pairwise_cons.1 p2
    have het := p1 t (by simp)
    have no : ∀ x ∈ ends rs, e < x → t ≤ x := by
      intro x hx hlt
      rcases List.mem_cons.1 (h x hx (by omega)) with e1 | e1
      · omega
      · rcases List.mem_cons.1 e1 with e2 | e2
        · omega
        · have := p3 x e2; omega
    refine ⟨het, fun r a b => spansF_congr hok hok fun c => ?_, steps_of hok rest t p2 fun x hx hle => ?_⟩
    · constructor
      · rintro ⟨x, hx, h1, h2, h3⟩
        refine ⟨x, hx, ?_, by omega, h3⟩
        have := no x.r0 (mem_ends.2 ⟨x, hx, .inl rfl⟩)
        omega
      · rintro ⟨x, hx, h1, h2, h3⟩
        refine ⟨x, hx, by omega, ?_, h3⟩
        have := no x.r1 (mem_ends.2 ⟨x, hx, .inr rfl⟩)
        omega
    · rcases List.mem_cons.1 (h x hx (by omega)) with e1 | e1
      · omega
      · exact e1

def bandsOf (rs : List Rc) (l : List Int) : List Seg := (segs (spansF rs) l).filter fun s => decide (s.l ≠ [])

theorem bandsOf_sg {rs : List Rc} (hok : ∀ r ∈ rs, r.Ok) {l : List Int} (hl : IsCuts rs l) : Sg (spansF rs) 0 (bandsOf rs l) := by
  unfold bandsOf
  match l, hl with
  | [], hl =>
    intro r _
    refine Canon.unique (spansF_mer hok r).canon ⟨by simp, by simp⟩ fun c => ?_
    rw [spansF_pts hok]
    constructor
    · rintro ⟨x, hx, _⟩
      have := (hl.mem x.r0).2 (mem_ends.2 ⟨x, hx, .inl rfl⟩)
      cases this
    · rintro ⟨x, hx, _⟩; cases hx
  | [a], hl =>
    intro r _
    refine Canon.unique (spansF_mer hok r).canon ⟨by simp, by simp⟩ fun c => ?_
    rw [spansF_pts hok]
    constructor
    · rintro ⟨x, hx, _⟩
      have h1 := List.mem_singleton.1 ((hl.mem x.r0).2 (mem_ends.2 ⟨x, hx, .inl rfl⟩))
      have h2 := List.mem_singleton.1 ((hl.mem x.r1).2 (mem_ends.2 ⟨x, hx, .inr rfl⟩))
      have := (hok x hx).c
      omega
    · rintro ⟨x, hx, _⟩; cases hx
  | a :: b :: rest, hl =>
    have st := steps_of hok (b :: rest) a hl.up fun x hx _ => (hl.mem x).2 hx
    obtain ⟨st1, st2, st3⟩ := st
    have h := go_sg (spansF rs) rest a b (spansF rs a) st1 st2 st3
    obtain ⟨p1, _⟩ := List.pairwise_cons.1 hl.up
    have least : ∀ x ∈ ends rs, a ≤ x := by
      intro x hx
      rcases List.mem_cons.1 ((hl.mem x).2 hx) with e | e
      · omega
      · have := p1 x e; omega
    have ha : 0 ≤ a := by
      obtain ⟨x, hx, e | e⟩ := mem_ends.1 ((hl.mem a).1 (by simp))
      · have := (hok x hx).a; omega
      · have := (hok x hx).a; have := (hok x hx).c; omega
    refine Sg.from_ ha (fun r _ hr => ?_) h
    refine Canon.unique (spansF_mer hok r).canon ⟨by simp, by simp⟩ fun c => ?_
    rw [spansF_pts hok]
    constructor
    · rintro ⟨x, hx, h1, _⟩
      have := least x.r0 (mem_ends.2 ⟨x, hx, .inl rfl⟩)
      omega
    · rintro ⟨x, hx, _⟩; cases hx

/-- x is the normal form of rs. -/
def IsNorm (rs x : List Rc) : Prop := ∃ L, Sg (spansF rs) 0 L ∧ x = L.flatMap Seg.rects

theorem isNorm_bands {rs : List Rc} (hok : ∀ r ∈ rs, r.Ok) {l : List Int} (hl : IsCuts rs l) : IsNorm rs (bandsF (spansF rs) l) :=
  ⟨bandsOf rs l, bandsOf_sg hok hl, by rw [bandsF_segs, bandsOf, flat_filter]⟩

theorem IsNorm.unique {rs ks x y : List Rc} (hx : IsNorm rs x) (hy : IsNorm ks y) (hf : spansF rs = spansF ks) : x = y := by
  obtain ⟨L, hL, rfl⟩ := hx
  obtain ⟨K, hK, rfl⟩ := hy
  rw [hf] at hL
  rw [hL.unique hK]

theorem spansF_set {rs ks : List Rc} (hok : ∀ r ∈ rs, r.Ok) (h : ∀ r, r ∈ rs ↔ r ∈ ks) : spansF rs = spansF ks :=
  funext fun row => spansF_congr hok (fun r hr => hok r ((h r).2 hr)) fun c => by simp only [h]

theorem Sg.ge {f : Int → List Sp} : ∀ {L : List Seg} {lo : Int}, Sg f lo L → ∀ s ∈ L, lo ≤ s.r0 ∧ s.r0 < s.r1 ∧ s.l ≠ [] ∧ ∀ r, s.r0 ≤ r → r < s.r1 → f r = s.l
  | [], _, _, _, hs => by cases hs
  | t :: L, lo, ⟨a, b, c, d, e, g, hL⟩, s, hs => by
    rcases List.mem_cons.1 hs with rfl | hs
    · exact ⟨a, b, c, e⟩
    · obtain ⟨h1, h2, h3, h4⟩ := Sg.ge hL s hs
      exact ⟨by omega, h2, h3, h4⟩

theorem Sg.cover {f : Int → List Sp} : ∀ {L : List Seg} {lo : Int}, Sg f lo L → ∀ r, lo ≤ r → f r ≠ [] → ∃ s ∈ L, s.r0 ≤ r ∧ r < s.r1 ∧ f r = s.l
  | [], _, h, r, hr, hne => absurd (h r hr) hne
  | t :: L, lo, ⟨a, b, c, d, e, g, hL⟩, r, hr, hne => by
    by_cases h1 : r < t.r0
    · exact absurd (d r hr h1) hne
    · by_cases h2 : r < t.r1
      · exact ⟨t, by simp, by omega, h2, e r (by omega) h2⟩
      · obtain ⟨s, hs, h3⟩ := Sg.cover hL r (by omega) hne
        exact ⟨s, List.mem_cons_of_mem _ hs, h3⟩

theorem mem_flat {L : List Seg} {x : Rc} : x ∈ L.flatMap Seg.rects ↔ ∃ s ∈ L, ∃ y ∈ s.l, x = ⟨s.r0, y.lo, s.r1, y.hi⟩ := by
  simp only [List.mem_flatMap, Seg.rects, List.mem_map]
  constructor
  · rintro ⟨s, h1, y, h2, rfl⟩; exact ⟨s, h1, y, h2, rfl⟩
  · rintro ⟨s, h1, y, h2, rfl⟩; exact ⟨s, h1, y, h2, rfl⟩

theorem spansF_row {rs : List Rc} (hok : ∀ r ∈ rs, r.Ok) {row : Int} {s : Sp} (hs : s ∈ spansF rs row) : s.lo < s.hi ∧ 0 ≤ s.lo ∧ s.hi ≤ 4398046511104 ∧ 0 ≤ row ∧ row < 4398046511104 := by
  have h0 := (spansF_mer hok row).canon.1 s hs
  obtain ⟨r, a, b, c, d, e⟩ := (spansF_pts hok row s.lo).1 ⟨s, hs, by omega, h0⟩
  obtain ⟨q, a', b', c', d', e'⟩ := (spansF_pts hok row (s.hi - 1)).1 ⟨s, hs, by omega, by omega⟩
  obtain ⟨k1, k2, k3, k4, k5, k6⟩ := hok r a
  obtain ⟨j1, j2, j3, j4, j5, j6⟩ := hok q a'
  exact ⟨h0, by omega, by omega, by omega, by omega⟩

theorem IsNorm.ok {rs x : List Rc} (hok : ∀ r ∈ rs, r.Ok) (h : IsNorm rs x) : ∀ r ∈ x, r.Ok := by
  obtain ⟨L, hL, rfl⟩ := h
  intro r hr
  obtain ⟨s, hs, y, hy, rfl⟩ := mem_flat.1 hr
  obtain ⟨h1, h2, h3, h4⟩ := hL.ge s hs
  have a := spansF_row hok (s := y) (row := s.r0) (by rw [h4 _ (by omega) h2]; exact hy)
  have b := spansF_row hok (s := y) (row := s.r1 - 1) (by rw [h4 _ (by omega) (by omega)]; exact hy)
  exact ⟨h1, a.2.1, h2, a.1, by have := b.2.2.2.2; dsimp only; omega, a.2.2.1⟩

theorem IsNorm.spans {rs x : List Rc} (hok : ∀ r ∈ rs, r.Ok) (h : IsNorm rs x) : spansF x = spansF rs := by
  have hx := h.ok hok
  obtain ⟨L, hL, rfl⟩ := h
  funext row
  refine spansF_congr hx hok fun c => ?_
  rw [← spansF_pts hok]
  constructor
  · rintro ⟨r, hr, h1, h2, h3⟩
    obtain ⟨s, hs, y, hy, rfl⟩ := mem_flat.1 hr
    obtain ⟨_, _, _, h4⟩ := hL.ge s hs
    dsimp only at h1 h2 h3
    exact ⟨y, by rw [h4 _ h1 h2]; exact hy, h3⟩
  · rintro ⟨y, hy, h3⟩
    have hr := spansF_row hok hy
    obtain ⟨s, hs, h1, h2, h4⟩ := hL.cover row hr.2.2.2.1 (fun e => by rw [e] at hy; cases hy)
    exact ⟨_, mem_flat.2 ⟨s, hs, y, by rw [← h4]; exact hy, rfl⟩, h1, h2, h3⟩

/-- The normal form is its own. -/
theorem IsNorm.again {rs x y : List Rc} (hok : ∀ r ∈ rs, r.Ok) (h : IsNorm rs x) (h' : IsNorm x y) : y = x :=
  h'.unique h (h.spans hok)

end Go.Reg

/- How long a normal form is: of n rectangles at most n * n. -/
namespace Go.Reg

def inR (r : Rc) (c : Int) : Bool := decide (r.r0 ≤ c) && decide (c < r.r1)

def cnt (r : Rc) (l : List Int) : Nat := (l.filter (inR r)).length

/-- The distinct ends of rectangles. -/
def own : List Rc → List Int
  | [] => []
  | q :: rs => (if q.r0 ∈ own rs then [] else [q.r0]) ++ ((if q.r1 ∈ own rs then [] else [q.r1]) ++ own rs)

theorem mem_own : ∀ {rs : List Rc} {x : Int}, x ∈ ends rs → x ∈ own rs
  | q :: rs, x, h => by
    obtain ⟨r, hr, e⟩ := mem_ends.1 h
    rw [own, List.mem_append, List.mem_append]
    rcases List.mem_cons.1 hr with rfl | hr
    · rcases e with rfl | rfl
      · by_cases h1 : r.r0 ∈ own rs
        · exact .inr (.inr h1)
        · left; rw [if_neg h1]; simp
      · by_cases h1 : r.r1 ∈ own rs
        · exact .inr (.inr h1)
        · right; left; rw [if_neg h1]; simp
    · exact .inr (.inr (mem_own (mem_ends.2 ⟨r, hr, e⟩)))

theorem own_mem : ∀ {rs : List Rc} {x : Int}, x ∈ own rs → x ∈ ends rs
  | q :: rs, x, h => by
    rw [own, List.mem_append, List.mem_append] at h
    rcases h with h | h | h
    · split at h
      · cases h
      · rw [List.mem_singleton.1 h]; exact mem_ends.2 ⟨q, by simp, .inl rfl⟩
    · split at h
      · cases h
      · rw [List.mem_singleton.1 h]; exact mem_ends.2 ⟨q, by simp, .inr rfl⟩
    · obtain ⟨r, hr, e⟩ := mem_ends.1 (own_mem h)
      exact mem_ends.2 ⟨r, List.mem_cons_of_mem _ hr, e⟩

theorem cnt_append (r : Rc) (l k : List Int) : cnt r (l ++ k) = cnt r l + cnt r k := by
  unfold cnt; rw [List.filter_append, List.length_append]

theorem cnt_one (r : Rc) (x : Int) : cnt r [x] = if inR r x = true then 1 else 0 := by
  unfold cnt; by_cases h : inR r x = true <;> simp [h]

/-- All places where rectangles and distinct ends meet. -/
def tot (rs : List Rc) (l : List Int) : Nat := (rs.map fun r => cnt r l).sum

theorem tot_append (rs : List Rc) (l k : List Int) : tot rs (l ++ k) = tot rs l + tot rs k := by
  induction rs with
  | nil => rfl
  | cons r rs ih =>
    show cnt r (l ++ k) + tot rs (l ++ k) = (cnt r l + tot rs l) + (cnt r k + tot rs k)
    rw [ih, cnt_append]; omega

/-- The new ends of q in the others, and the others' ends in q. -/
theorem new_ends (q : Rc) (hq : q.r0 < q.r1) : ∀ (rs : List Rc), (∀ r ∈ rs, r.r0 < r.r1) →
    ∀ (N0 N1 : List Int), (N0 = [] ∨ (N0 = [q.r0] ∧ ∀ r ∈ rs, r.r0 ≠ q.r0 ∧ r.r1 ≠ q.r0)) → (N1 = [] ∨ N1 = [q.r1]) →
    tot rs N0 + tot rs N1 + cnt q (own rs) ≤ 2 * rs.length
  | [], _, N0, N1, _, _ => by simp [tot, own, cnt]
  | r :: rs, h, N0, N1, h0, h1 => by
    have ih := new_ends q hq rs (fun x hx => h x (List.mem_cons_of_mem _ hx)) N0 N1
      (h0.imp id fun ⟨a, b⟩ => ⟨a, fun x hx => b x (List.mem_cons_of_mem _ hx)⟩) h1
    have hr := h r (by simp)
    have e0 : tot (r :: rs) N0 = cnt r N0 + tot rs N0 := rfl
    have e1 : tot (r :: rs) N1 = cnt r N1 + tot rs N1 := rfl
    have e2 : cnt q (own (r :: rs)) ≤ (if inR q r.r0 = true then 1 else 0) + (if inR q r.r1 = true then 1 else 0) + cnt q (own rs) := by
      rw [own, cnt_append, cnt_append]
      have a : ∀ (p : Prop) [Decidable p] (x : Int), cnt q (if p then [] else [x]) ≤ if inR q x = true then 1 else 0 := by
        intro p _ x
        by_cases hp : p
        · rw [if_pos hp]; exact Nat.zero_le _
        · rw [if_neg hp, cnt_one]; exact Nat.le_refl _
      have a1 := a (r.r0 ∈ own rs) r.r0
      have a2 := a (r.r1 ∈ own rs) r.r1
      omega
    have e3 : cnt r N0 + (if inR q r.r0 = true then 1 else 0) ≤ 1 := by
      rcases h0 with rfl | ⟨rfl, hn⟩
      · have : cnt r [] = 0 := rfl
        rw [this]; split <;> omega
      · rw [cnt_one]
        have := (hn r (by simp)).1
        simp only [inR, Bool.and_eq_true, decide_eq_true_eq]
        split <;> split <;> omega
    have e4 : cnt r N1 + (if inR q r.r1 = true then 1 else 0) ≤ 1 := by
      rcases h1 with rfl | rfl
      · have : cnt r [] = 0 := rfl
        rw [this]; split <;> omega
      · rw [cnt_one]
        simp only [inR, Bool.and_eq_true, decide_eq_true_eq]
        split <;> split <;> omega
    simp only [List.length_cons]
    omega

theorem tot_own : ∀ (rs : List Rc), (∀ r ∈ rs, r.r0 < r.r1) → tot rs (own rs) ≤ rs.length * rs.length
  | [], _ => by simp [tot]
  | q :: rs, h => by
    have hq := h q (by simp)
    have ih := tot_own rs fun x hx => h x (List.mem_cons_of_mem _ hx)
    have hN := new_ends q hq rs (fun x hx => h x (List.mem_cons_of_mem _ hx)) (if q.r0 ∈ own rs then [] else [q.r0]) (if q.r1 ∈ own rs then [] else [q.r1])
      (by
        by_cases h0 : q.r0 ∈ own rs
        · rw [if_pos h0]; exact .inl rfl
        · rw [if_neg h0]
          refine .inr ⟨rfl, fun r hr => ⟨fun e => h0 (mem_own (mem_ends.2 ⟨r, hr, .inl e.symm⟩)), fun e => h0 (mem_own (mem_ends.2 ⟨r, hr, .inr e.symm⟩))⟩⟩)
      (by split <;> simp)
    have e : tot (q :: rs) (own (q :: rs)) = cnt q (own (q :: rs)) + tot rs (own (q :: rs)) := rfl
    have e2 : tot rs (own (q :: rs)) = tot rs (if q.r0 ∈ own rs then [] else [q.r0]) + (tot rs (if q.r1 ∈ own rs then [] else [q.r1]) + tot rs (own rs)) := by
      rw [own, tot_append, tot_append]
    have e3 : cnt q (own (q :: rs)) ≤ 1 + cnt q (own rs) := by
      rw [own, cnt_append, cnt_append]
      have a1 : cnt q (if q.r0 ∈ own rs then [] else [q.r0]) ≤ 1 := by
        split
        · exact Nat.zero_le _
        · rw [cnt_one]; split <;> omega
      have a2 : cnt q (if q.r1 ∈ own rs then [] else [q.r1]) = 0 := by
        split
        · rfl
        · rw [cnt_one, if_neg]
          simp [inR]
      omega
    have e4 : (q :: rs).length * (q :: rs).length = rs.length * rs.length + 2 * rs.length + 1 := by
      simp only [List.length_cons, Nat.add_mul, Nat.mul_add]; omega
    omega

theorem nodup_le {α : Type} [DecidableEq α] : ∀ {l k : List α}, l.Nodup → (∀ x ∈ l, x ∈ k) → l.length ≤ k.length
  | [], _, _, _ => Nat.zero_le _
  | a :: l, k, hn, h => by
    obtain ⟨h1, h2⟩ := List.nodup_cons.1 hn
    have ha := h a (by simp)
    have ih := nodup_le (l := l) (k := k.erase a) h2 fun x hx => (List.mem_erase_of_ne (by rintro rfl; exact h1 hx)).2 (h x (List.mem_cons_of_mem _ hx))
    rw [List.length_erase_of_mem ha] at ih
    have := List.length_pos_of_mem ha
    simp only [List.length_cons]; omega

theorem cnt_le {r : Rc} {l k : List Int} (hn : l.Nodup) (h : ∀ x ∈ l, inR r x = true → x ∈ k) : cnt r l ≤ cnt r k := by
  unfold cnt
  refine nodup_le (hn.filter _) fun x hx => ?_
  obtain ⟨h1, h2⟩ := List.mem_filter.1 hx
  exact List.mem_filter.2 ⟨h x h1 h2, h2⟩

theorem tot_le {l k : List Int} (hn : l.Nodup) : ∀ (rs : List Rc), (∀ r ∈ rs, ∀ x ∈ l, inR r x = true → x ∈ k) → tot rs l ≤ tot rs k
  | [], _ => Nat.le_refl _
  | r :: rs, h => by
    have h1 := cnt_le (r := r) hn (h r (by simp))
    have h2 := tot_le hn rs fun x hx => h x (List.mem_cons_of_mem _ hx)
    show cnt r l + tot rs l ≤ cnt r k + tot rs k
    omega

/-- The rectangles that meet a row. -/
def act (rs : List Rc) (c : Int) : Nat := (rs.filter fun r => inR r c).length

theorem tot_act (l : List Int) : ∀ (rs : List Rc), (l.map fun c => act rs c).sum = tot rs l
  | [] => by
    induction l with
    | nil => rfl
    | cons c l ih => simp only [List.map_cons, List.sum_cons, ih]; rfl
  | r :: rs => by
    have ih := tot_act l rs
    have e : tot (r :: rs) l = cnt r l + tot rs l := rfl
    rw [e, ← ih]
    clear ih e
    induction l with
    | nil => rfl
    | cons c l ih =>
      simp only [List.map_cons, List.sum_cons, ih]
      have e1 : act (r :: rs) c = (if inR r c = true then 1 else 0) + act rs c := by
        unfold act
        by_cases h : inR r c = true
        · rw [List.filter_cons_of_pos (by simpa using h), if_pos h, List.length_cons]; omega
        · rw [List.filter_cons_of_neg (by simpa using h), if_neg h]; omega
      have e2 : cnt r (c :: l) = (if inR r c = true then 1 else 0) + cnt r l := by
        unfold cnt
        by_cases h : inR r c = true
        · rw [List.filter_cons_of_pos h, if_pos h, List.length_cons]; omega
        · rw [List.filter_cons_of_neg h, if_neg h]; omega
      omega

theorem segs_mem (f : Int → List Sp) : ∀ (rest : List Int) (r0 e : Int) (l : List Sp), ∀ s ∈ go f r0 l e rest, s.r0 = r0 ∨ s.r0 ∈ e :: rest
  | [], r0, e, l, s, hs => by
    simp only [go, List.mem_singleton] at hs
    subst hs; exact .inl rfl
  | t :: rest, r0, e, l, s, hs => by
    rw [go] at hs
    split at hs
    · rcases segs_mem f rest r0 t l s hs with h | h
      · exact .inl h
      · exact .inr (List.mem_cons_of_mem _ h)
    · rcases List.mem_cons.1 hs with rfl | hs
      · exact .inl rfl
      · rcases segs_mem f rest e t (f e) s hs with h | h
        · right; rw [h]; simp
        · exact .inr (List.mem_cons_of_mem _ h)

theorem bandsOf_mem {rs : List Rc} {l : List Int} : ∀ s ∈ bandsOf rs l, s.r0 ∈ l := by
  intro s hs
  unfold bandsOf at hs
  have hs := (List.mem_filter.1 hs).1
  match l with
  | [] => cases hs
  | [a] => cases hs
  | a :: b :: rest =>
    rcases segs_mem _ rest a b _ s hs with h | h
    · rw [h]; simp
    · exact List.mem_cons_of_mem _ h

theorem Sg.nodup {f : Int → List Sp} : ∀ {L : List Seg} {lo : Int}, Sg f lo L → (L.map Seg.r0).Nodup
  | [], _, _ => List.nodup_nil
  | s :: L, lo, ⟨a, b, c, d, e, g, hL⟩ => by
    rw [List.map_cons, List.nodup_cons]
    refine ⟨fun h => ?_, hL.nodup⟩
    obtain ⟨t, ht, e'⟩ := List.mem_map.1 h
    have := (hL.ge t ht).1
    omega

theorem flat_len (L : List Seg) : (L.flatMap Seg.rects).length = (L.map fun s => s.l.length).sum := by
  induction L with
  | nil => rfl
  | cons s L ih => simp [Seg.rects, ih]

theorem norm_len {rs : List Rc} (hok : ∀ r ∈ rs, r.Ok) {l : List Int} (hl : IsCuts rs l) : (bandsF (spansF rs) l).length ≤ rs.length * rs.length := by
  have hs := bandsOf_sg hok hl
  rw [bandsF_segs, ← flat_filter, flat_len]
  show ((bandsOf rs l).map fun s => s.l.length).sum ≤ _
  have h1 : ((bandsOf rs l).map fun s => s.l.length).sum ≤ (((bandsOf rs l).map Seg.r0).map fun c => act rs c).sum := by
    have hg := hs.ge
    generalize bandsOf rs l = L at hg
    clear hs
    induction L with
    | nil => exact Nat.le_refl _
    | cons s L ih =>
      have ih := ih fun t ht => hg t (List.mem_cons_of_mem _ ht)
      obtain ⟨_, a, _, b⟩ := hg s (by simp)
      have h := spansF_len hok s.r0
      rw [b _ (by omega) a] at h
      simp only [List.map_cons, List.sum_cons]
      have : act rs s.r0 = (rs.filter fun r => decide (r.r0 ≤ s.r0) && decide (s.r0 < r.r1)).length := rfl
      omega
  rw [tot_act] at h1
  have h2 : tot rs ((bandsOf rs l).map Seg.r0) ≤ tot rs (own rs) := by
    refine tot_le hs.nodup rs fun r hr x hx _ => ?_
    obtain ⟨s, hs', rfl⟩ := List.mem_map.1 hx
    exact mem_own ((hl.mem _).1 (bandsOf_mem s hs'))
  have h3 := tot_own rs fun r hr => (hok r hr).c
  omega

end Go.Reg

