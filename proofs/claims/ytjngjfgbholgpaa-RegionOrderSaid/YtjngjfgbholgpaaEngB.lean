/- The engine, part B: what abstract values and heaps say of the model's values and worlds. -/
import Derived.Test.YtjngjfgbholgpaaEngA
import Derived.Laws.Sem
set_option linter.unusedSimpArgs false
set_option linter.unusedVariables false
namespace Go.Eng

/-- What lies in package-level variables of one cell that nobody writes. -/
class Env where
  val : Nat → Option Value
  one : ∀ g x, val g = some x → x.oneCell' = true
  nob : ∀ g b, val g = some (.bool b) → False
  par : Nat → Int


/-- Where an abstract block lies: the block's number and how many cells it has. -/
abbrev Ren := Path → Option (Nat × Nat)

/-- A value of one cell. -/
def V.one : V → Bool
  | .a _ | .t _ => false
  | _ => true

def byteOk (n : Nat) : Bool := Nat.blt n 256

/-- The capacity that a slice has in the model. -/
def capOf (ex : Bool) (cap sz off es : Nat) : Nat := if ex then cap else (sz - off) / es

/-- Classes of integers: 1: at most 2; others: at least 4. -/
def inC (c : Nat) (z : Int) : Prop := if c = 1 then z ≤ 2 else 4 ≤ z

noncomputable def oiV (c : Nat) (x : Value) : Option Value :=
  match x with
  | .int .i64 z => open Classical in if inC c z then some (.int .i64 z) else none
  | _ => none

theorem oiV_spec {c : Nat} {x y : Value} (h : oiV c x = some y) : ∃ z, x = .int .i64 z ∧ y = .int .i64 z ∧ inC c z := by
  unfold oiV at h
  split at h
  · split at h
    · rename_i z hz; cases h; exact ⟨z, rfl, rfl, hz⟩
    · cases h
  · cases h

theorem oiV_mk {c : Nat} {z : Int} (h : inC c z) : oiV c (.int .i64 z) = some (.int .i64 z) := by
  unfold oiV
  exact if_pos h

/-- A number that is known but for its bounds. -/
def yV (z lo hi : Int) : Option Value := if lo ≤ z ∧ z ≤ hi then some (.int .i64 z) else none

theorem yV_spec {z lo hi : Int} {x : Value} (h : yV z lo hi = some x) : x = .int .i64 z ∧ lo ≤ z ∧ z ≤ hi := by
  unfold yV at h
  split at h
  · rename_i h1; cases h; exact ⟨rfl, h1⟩
  · cases h

mutual
noncomputable def conc [Env] (ρ : Ren) : V → Option Value
  | .b x => some (.bool x)
  | .i k n => some (.int k n)
  | .s l => if l.all byteOk then some (.string ⟨(l.map UInt8.ofNat).toArray⟩) else none
  | .p b o => (ρ b).map fun x => .pointer (some ⟨x.1, o, none⟩)
  | .p0 => some (.pointer none)
  | .sl b off len cap ex es => (ρ b).bind fun x =>
      if len ≤ cap ∧ cap ≤ capOf ex cap x.2 off es ∧ off + capOf ex cap x.2 off es * es ≤ x.2 then some (.slice (some ⟨x.1, off, none⟩) len (capOf ex cap x.2 off es)) else none
  | .sl0 => some (.slice none 0 0)
  | .m b => (ρ b).map fun x => .map (some x.1)
  | .m0 => some (.map none)
  | .f fn caps => (concs ρ caps).map fun l => .func (.func fn.num) #[] l.toArray
  | .f0 => some .nilFunc
  | .ifc t v => (conc ρ v).map fun x => .iface t x
  | .i0 => some .nilIface
  | .a l => if l.all V.one then (concs ρ l).map fun l => .agg l.toArray else none
  | .t l => (concs ρ l).map fun l => .tuple l.toArray
  | .o g => Env.val g
  | .oi g c => (Env.val g).bind (oiV c)
  | .y j c lo hi => yV (Env.par j + c) lo hi
noncomputable def concs [Env] (ρ : Ren) : List V → Option (List Value)
  | [] => some []
  | v :: l => (conc ρ v).bind fun x => (concs ρ l).map fun xs => x :: xs
end

/-- A later place map. -/
def Later (ρ ρ' : Ren) : Prop := ∀ p x, ρ p = some x → ρ' p = some x

theorem Later.refl (ρ : Ren) : Later ρ ρ := fun _ _ h => h
theorem Later.trans {a b c : Ren} (h : Later a b) (h' : Later b c) : Later a c := fun _ _ x => h' _ _ (h _ _ x)

mutual
theorem conc_later [Env] {ρ ρ' : Ren} (h : Later ρ ρ') : ∀ (v : V) (x : Value), conc ρ v = some x → conc ρ' v = some x
  | .b _, _, e | .i _ _, _, e | .s _, _, e | .p0, _, e | .sl0, _, e | .m0, _, e | .f0, _, e | .i0, _, e | .o _, _, e | .oi _ _, _, e | .y _ _ _ _, _, e => e
  | .p b o, x, e => by
    simp only [conc, Option.map_eq_some_iff] at e ⊢
    obtain ⟨y, hy, rfl⟩ := e; exact ⟨y, h _ _ hy, rfl⟩
  | .sl b off len cap ex es, x, e => by
    simp only [conc, Option.bind_eq_some_iff] at e ⊢
    obtain ⟨y, hy, e⟩ := e; exact ⟨y, h _ _ hy, e⟩
  | .m b, x, e => by
    simp only [conc, Option.map_eq_some_iff] at e ⊢
    obtain ⟨y, hy, rfl⟩ := e; exact ⟨y, h _ _ hy, rfl⟩
  | .f fn caps, x, e => by
    simp only [conc, Option.map_eq_some_iff] at e ⊢
    obtain ⟨y, hy, rfl⟩ := e; exact ⟨y, concs_later h _ _ hy, rfl⟩
  | .ifc t v, x, e => by
    simp only [conc, Option.map_eq_some_iff] at e ⊢
    obtain ⟨y, hy, rfl⟩ := e; exact ⟨y, conc_later h _ _ hy, rfl⟩
  | .a l, x, e => by
    simp only [conc] at e ⊢
    split at e
    · rename_i h1
      rw [if_pos h1]
      simp only [Option.map_eq_some_iff] at e ⊢
      obtain ⟨y, hy, rfl⟩ := e; exact ⟨y, concs_later h _ _ hy, rfl⟩
    · cases e
  | .t l, x, e => by
    simp only [conc, Option.map_eq_some_iff] at e ⊢
    obtain ⟨y, hy, rfl⟩ := e; exact ⟨y, concs_later h _ _ hy, rfl⟩
theorem concs_later [Env] {ρ ρ' : Ren} (h : Later ρ ρ') : ∀ (l : List V) (xs : List Value), concs ρ l = some xs → concs ρ' l = some xs
  | [], _, e => e
  | v :: l, xs, e => by
    simp only [concs, Option.bind_eq_some_iff, Option.map_eq_some_iff] at e ⊢
    obtain ⟨x, hx, ys, hy, rfl⟩ := e
    exact ⟨x, conc_later h _ _ hx, ys, concs_later h _ _ hy, rfl⟩
end

theorem concs_length [Env] {ρ : Ren} : ∀ {l : List V} {xs : List Value}, concs ρ l = some xs → xs.length = l.length
  | [], _, e => by cases e; rfl
  | v :: l, xs, e => by
    simp only [concs, Option.bind_eq_some_iff, Option.map_eq_some_iff] at e
    obtain ⟨x, hx, ys, hy, rfl⟩ := e
    simp [concs_length hy]

theorem concs_append [Env] {ρ : Ren} : ∀ {l k : List V} {xs ys : List Value}, concs ρ l = some xs → concs ρ k = some ys → concs ρ (l ++ k) = some (xs ++ ys)
  | [], k, xs, ys, e, e' => by cases e; simpa using e'
  | v :: l, k, xs, ys, e, e' => by
    simp only [concs, Option.bind_eq_some_iff, Option.map_eq_some_iff] at e
    obtain ⟨x, hx, zs, hy, rfl⟩ := e
    simp [concs, hx, concs_append hy e']

theorem concs_get [Env] {ρ : Ren} : ∀ {l : List V} {xs : List Value} (i : Nat) (v : V), concs ρ l = some xs → l[i]? = some v → ∃ x, conc ρ v = some x ∧ xs[i]? = some x
  | [], _, i, v, e, h => by simp at h
  | u :: l, xs, i, v, e, h => by
    simp only [concs, Option.bind_eq_some_iff, Option.map_eq_some_iff] at e
    obtain ⟨x, hx, zs, hy, rfl⟩ := e
    cases i with
    | zero => simp at h; subst h; exact ⟨x, hx, rfl⟩
    | succ i => simp at h; obtain ⟨x', h1, h2⟩ := concs_get i v hy h; exact ⟨x', h1, by simpa using h2⟩

theorem concs_take [Env] {ρ : Ren} : ∀ {l : List V} {xs : List Value} (n : Nat), concs ρ l = some xs → concs ρ (l.take n) = some (xs.take n)
  | [], _, n, e => by cases e; simp [concs]
  | v :: l, xs, n, e => by
    simp only [concs, Option.bind_eq_some_iff, Option.map_eq_some_iff] at e
    obtain ⟨x, hx, zs, hy, rfl⟩ := e
    cases n with
    | zero => simp [concs]
    | succ n => simp [concs, hx, concs_take n hy]

theorem concs_drop [Env] {ρ : Ren} : ∀ {l : List V} {xs : List Value} (n : Nat), concs ρ l = some xs → concs ρ (l.drop n) = some (xs.drop n)
  | [], _, n, e => by cases e; simp [concs]
  | v :: l, xs, n, e => by
    cases n with
    | zero => simpa using e
    | succ n =>
      simp only [concs, Option.bind_eq_some_iff, Option.map_eq_some_iff] at e
      obtain ⟨x, hx, zs, hy, rfl⟩ := e
      simpa using concs_drop n hy

/-- One cell stays one cell. -/
theorem conc_one [Env] {ρ : Ren} {v : V} {x : Value} (h : conc ρ v = some x) (h1 : v.one = true) : x.oneCell' = true := by
  cases v
  case o g => exact Env.one _ _ h
  case oi g c =>
    simp only [conc, Option.bind_eq_some_iff] at h
    obtain ⟨y, _, h⟩ := h
    obtain ⟨z, _, rfl, _⟩ := oiV_spec h
    rfl
  case y j c lo hi =>
    obtain ⟨rfl, _⟩ := yV_spec h
    rfl
  all_goals (simp only [conc, V.one, Option.map_eq_some_iff, Option.bind_eq_some_iff] at h h1 <;>
    first
      | (cases h; rfl)
      | (obtain ⟨y, _, rfl⟩ := h; rfl)
      | (split at h <;> first | (cases h; rfl) | cases h)
      | (obtain ⟨y, _, h⟩ := h; split at h <;> first | (cases h; rfl) | cases h)
      | cases h1)

/-- The entries of a map: key, value, stamp. -/
def EntRel [Env] (ρ : Ren) : List (V × V × Nat) → List MapEntry → Prop
  | [], [] => True
  | (k, v, b) :: l, e :: es => conc ρ k = some e.key ∧ conc ρ v = some e.val ∧ e.born = b ∧ EntRel ρ l es
  | _, _ => False

theorem EntRel.later [Env] {ρ ρ' : Ren} (h : Later ρ ρ') : ∀ {l : List (V × V × Nat)} {es : List MapEntry}, EntRel ρ l es → EntRel ρ' l es
  | [], [], _ => trivial
  | [], _ :: _, e => e.elim
  | _ :: _, [], e => e.elim
  | (_, _, _) :: _, _ :: _, ⟨a, b, c, d⟩ => ⟨conc_later h _ _ a, conc_later h _ _ b, c, EntRel.later h d⟩

/-- What an object says of a block. -/
def ObRel [Env] (ρ : Ren) (sz : Nat) : Ob → Option Obj → Prop
  | .dead, _ => True
  | .c ro cells elem, o => ∃ (c : Array Value) (fz : Nat × Nat), o = some (.cells c elem fz) ∧ c.size = sz ∧ cells.length ≤ sz ∧
      (∀ (i : Nat) (v : V), cells[i]? = some v → v.one = true ∧ ∃ x, conc ρ v = some x ∧ c[i]? = some x) ∧
      (ro = false → ∀ i : Nat, i < sz → ¬ (fz.1 ≤ i ∧ i < fz.2))
  | .m es clock, o => ∃ L : List MapEntry, o = some (.map L.toArray clock) ∧ EntRel ρ es L
  | .it mp since seen last, o => match mp with
    | none => o = some (.mapIter none since seen.reverse.toArray last)
    | some p => ∃ x, ρ p = some x ∧ o = some (.mapIter (some x.1) since seen.reverse.toArray last)

theorem ObRel.later [Env] {ρ ρ' : Ren} (h : Later ρ ρ') {sz : Nat} {o : Ob} {x : Option Obj} (hr : ObRel ρ sz o x) : ObRel ρ' sz o x := by
  cases o with
  | dead => trivial
  | c ro cells elem =>
    obtain ⟨c, fz, h1, h2, h3, h4, h5⟩ := hr
    refine ⟨c, fz, h1, h2, h3, fun i v hv => ?_, h5⟩
    obtain ⟨h6, x, h7, h8⟩ := h4 i v hv
    exact ⟨h6, x, conc_later h _ _ h7, h8⟩
  | m es clock =>
    obtain ⟨L, h1, h2⟩ := hr
    exact ⟨L, h1, h2.later h⟩
  | it mp since seen last =>
    cases mp with
    | none => exact hr
    | some p =>
      obtain ⟨x, h1, h2⟩ := hr
      exact ⟨x, h _ _ h1, h2⟩

def Ob.live : Ob → Bool
  | .dead => false
  | _ => true

structure HRel [Env] (ρ : Ren) (h : H) (w : World) : Prop where
  dom : ∀ p x, ρ p = some x → p.num < h.n.num
  inside : ∀ p x, ρ p = some x → x.1 < w.heap.size
  ob : ∀ p, (h.get p).live = true → ∃ x, ρ p = some x ∧ ObRel ρ x.2 (h.get p) w.heap[x.1]?
  inj : ∀ p q x y, (h.get p).live = true → (h.get q).live = true → ρ p = some x → ρ q = some y → x.1 = y.1 → p = q
  keep : ∀ g x, Env.val g = some x → (∃ e fz, w.heap[g]? = some (.cells #[x] e fz)) ∧ ∀ p y, (h.get p).live = true → ρ p = some y → y.1 ≠ g

/-- The streams are as they were. -/
structure Str (w w' : World) : Prop where
  os : w'.os = w.os
  tape : w'.tape = w.tape
  output : w'.output = w.output

theorem Str.refl (w : World) : Str w w := ⟨rfl, rfl, rfl⟩
theorem Str.trans {a b c : World} (h : Str a b) (k : Str b c) : Str a c := ⟨k.os.trans h.os, k.tape.trans h.tape, k.output.trans h.output⟩

/-- From one state to a later one: what stays. -/
structure Ext (ρ : Ren) (h : H) (w : World) (ρ' : Ren) (h' : H) (w' : World) : Prop where
  later : Later ρ ρ'
  size : w.heap.size ≤ w'.heap.size
  frame : ∀ b, b < w.heap.size → (∀ p x, (h.get p).live = true → ρ p = some x → x.1 ≠ b) → w'.heap[b]? = w.heap[b]?
  img : ∀ p x, (h'.get p).live = true → ρ' p = some x → w.heap.size ≤ x.1 ∨ ∃ q y, (h.get q).live = true ∧ ρ q = some y ∧ y.1 = x.1
  fresh : ∀ p x, ρ' p = some x → ρ p = some x ∨ h.n.num ≤ p.num
  mono : h.n.num ≤ h'.n.num
  str : Str w w'

theorem Ext.refl (ρ : Ren) (h : H) (w : World) : Ext ρ h w ρ h w :=
  ⟨.refl ρ, Nat.le_refl _, fun _ _ _ => rfl, fun p x h1 h2 => .inr ⟨p, x, h1, h2, rfl⟩, fun _ _ h => .inl h, Nat.le_refl _, .refl _⟩

theorem Ext.trans {ρ ρ' ρ'' : Ren} {h h' h'' : H} {w w' w'' : World} (a : Ext ρ h w ρ' h' w') (b : Ext ρ' h' w' ρ'' h'' w'') : Ext ρ h w ρ'' h'' w'' where
  later := a.later.trans b.later
  size := Nat.le_trans a.size b.size
  frame := fun k hk hn => by
    rw [b.frame k (Nat.lt_of_lt_of_le hk a.size) ?_, a.frame k hk hn]
    intro p x hp hx he
    rcases a.img p x hp hx with h1 | ⟨q, y, hq, hy, h1⟩
    · omega
    · exact hn q y hq hy (h1.trans he)
  img := fun p x hp hx => by
    rcases b.img p x hp hx with h1 | ⟨q, y, hq, hy, h1⟩
    · exact .inl (Nat.le_trans a.size h1)
    · rcases a.img q y hq hy with h2 | ⟨r, z, hr, hz, h2⟩
      · exact .inl (by omega)
      · exact .inr ⟨r, z, hr, hz, h2.trans h1⟩
  fresh := fun p x hp => by
    rcases b.fresh p x hp with h1 | h1
    · exact a.fresh p x h1
    · exact .inr (Nat.le_trans a.mono h1)
  mono := Nat.le_trans a.mono b.mono
  str := a.str.trans b.str

/-! ### A world whose tape has moved is the same world here -/

theorem HRel.world [Env] {ρ : Ren} {h : H} {w w' : World} (hr : HRel ρ h w) (e : w'.heap = w.heap) : HRel ρ h w' := by
  obtain ⟨a, b, c, d, k⟩ := hr
  exact ⟨a, by rw [e]; exact b, by rw [e]; exact c, d, by rw [e]; exact k⟩

theorem Ext.world {ρ ρ' : Ren} {h h' : H} {w w' w'' : World} (hr : Ext ρ h w ρ' h' w') (e : w''.heap = w'.heap) (s : Str w' w'') : Ext ρ h w ρ' h' w'' := by
  obtain ⟨a, b, c, d, f, g, k⟩ := hr
  exact ⟨a, by rw [e]; exact b, by rw [e]; exact c, d, f, g, k.trans s⟩

/-! ### A new block -/

def Ren.add (ρ : Ren) (p : Path) (x : Nat × Nat) : Ren := fun q => if q = p then some x else ρ q

theorem Ren.add_self (ρ : Ren) (p : Path) (x : Nat × Nat) : ρ.add p x p = some x := by simp [Ren.add]
theorem Ren.add_ne {ρ : Ren} {p q : Path} {x : Nat × Nat} (h : q ≠ p) : ρ.add p x q = ρ q := by simp [Ren.add, h]

theorem Ren.later_add {ρ : Ren} {p : Path} {x : Nat × Nat} (h : ρ p = none) : Later ρ (ρ.add p x) := by
  intro q y hq
  by_cases e : q = p
  · subst e; rw [h] at hq; cases hq
  · rw [Ren.add_ne e]; exact hq

theorem HRel.free [Env] {ρ : Ren} {h : H} {w : World} (hr : HRel ρ h w) : ρ h.n = none := by
  cases e : ρ h.n with
  | none => rfl
  | some x => exact absurd (hr.dom _ _ e) (by omega)

theorem HRel.new [Env] {ρ : Ren} {h : H} {w : World} (hr : HRel ρ h w) (o : Ob) (x : Obj) (sz : Nat) (ho : ObRel ρ sz o (some x)) :
    HRel (ρ.add h.n (w.heap.size, sz)) (h.new o) { w with heap := w.heap.push x } ∧
    Ext ρ h w (ρ.add h.n (w.heap.size, sz)) (h.new o) { w with heap := w.heap.push x } := by
  have hl : Later ρ (ρ.add h.n (w.heap.size, sz)) := Ren.later_add hr.free
  have key : ∀ p y, (ρ.add h.n (w.heap.size, sz)) p = some y → (p = h.n ∧ y = (w.heap.size, sz)) ∨ (p ≠ h.n ∧ ρ p = some y) := by
    intro p y hp
    by_cases e : p = h.n
    · subst e; rw [Ren.add_self] at hp; exact .inl ⟨rfl, by cases hp; rfl⟩
    · rw [Ren.add_ne e] at hp; exact .inr ⟨e, hp⟩
  refine ⟨⟨?_, ?_, ?_, ?_, ?_⟩, ⟨hl, ?_, ?_, ?_, ?_, ?_, ⟨rfl, rfl, rfl⟩⟩⟩
  · intro p y hp
    rw [H.n_new, Path.num_succ]
    rcases key p y hp with ⟨rfl, _⟩ | ⟨_, h1⟩
    · omega
    · have := hr.dom _ _ h1; omega
  · intro p y hp
    rcases key p y hp with ⟨_, rfl⟩ | ⟨_, h1⟩
    · simp
    · have := hr.inside _ _ h1; simp; omega
  · intro p hp
    rw [H.get_new] at hp ⊢
    by_cases e : p = h.n
    · subst e
      rw [if_pos rfl] at hp ⊢
      exact ⟨_, Ren.add_self .., by simpa using ho.later hl⟩
    · rw [if_neg e] at hp ⊢
      obtain ⟨y, h1, h2⟩ := hr.ob p hp
      refine ⟨y, by rw [Ren.add_ne e]; exact h1, ?_⟩
      have := hr.inside _ _ h1
      rw [Array.getElem?_push, if_neg (by omega)]
      exact h2.later hl
  · intro p q y z hp hq h1 h2 h3
    rw [H.get_new] at hp hq
    rcases key p y h1 with ⟨rfl, rfl⟩ | ⟨e1, h1⟩ <;> rcases key q z h2 with ⟨rfl, rfl⟩ | ⟨e2, h2⟩
    · rfl
    · have := hr.inside _ _ h2; simp at h3; omega
    · have := hr.inside _ _ h1; simp at h3; omega
    · rw [if_neg e1] at hp; rw [if_neg e2] at hq
      exact hr.inj p q y z hp hq h1 h2 h3
  · intro g v hv
    obtain ⟨⟨e, fz, hc⟩, hn⟩ := hr.keep g v hv
    have hlt : g < w.heap.size := (Array.getElem?_eq_some_iff.1 hc).1
    refine ⟨⟨e, fz, by rw [Array.getElem?_push, if_neg (by omega)]; exact hc⟩, fun p y hp h1 => ?_⟩
    rw [H.get_new] at hp
    rcases key p y h1 with ⟨rfl, rfl⟩ | ⟨e1, h1⟩
    · simp; omega
    · rw [if_neg e1] at hp; exact hn p y hp h1
  · simp
  · intro b hb _
    rw [Array.getElem?_push, if_neg (by omega)]
  · intro p y hp h1
    rw [H.get_new] at hp
    rcases key p y h1 with ⟨rfl, rfl⟩ | ⟨e1, h1⟩
    · exact .inl (Nat.le_refl _)
    · rw [if_neg e1] at hp; exact .inr ⟨p, y, hp, h1, rfl⟩
  · intro p y h1
    rcases key p y h1 with ⟨rfl, _⟩ | ⟨_, h1⟩
    · exact .inr (Nat.le_refl _)
    · exact .inl h1
  · rw [H.n_new, Path.num_succ]; omega

/-! ### A block that is changed in place -/

theorem HRel.put [Env] {ρ : Ren} {h : H} {w w' : World} {p : Path} {x : Nat × Nat} (hr : HRel ρ h w) (hp : (h.get p).live = true) (hx : ρ p = some x) (o : Ob)
    (hs : w'.heap.size = w.heap.size) (hst : Str w w') (hn : ∀ b, b ≠ x.1 → w'.heap[b]? = w.heap[b]?) (ho : ObRel ρ x.2 o w'.heap[x.1]?) :
    HRel ρ (h.put p o) w' ∧ Ext ρ h w ρ (h.put p o) w' := by
  have lv : ∀ q, ((h.put p o).get q).live = true → (h.get q).live = true := by
    intro q hq
    rw [H.get_put] at hq
    by_cases e : q = p
    · subst e; exact hp
    · rw [if_neg e] at hq; exact hq
  refine ⟨⟨hr.dom, ?_, ?_, ?_, fun g v hv => ?_⟩, ⟨.refl ρ, by omega, ?_, ?_, fun _ _ h => .inl h, Nat.le_refl _, hst⟩⟩
  · intro q y hq; have := hr.inside q y hq; omega
  · intro q hq
    rw [H.get_put] at hq ⊢
    by_cases e : q = p
    · subst e; rw [if_pos rfl] at hq ⊢; exact ⟨x, hx, ho⟩
    · rw [if_neg e] at hq ⊢
      obtain ⟨y, h1, h2⟩ := hr.ob q hq
      refine ⟨y, h1, ?_⟩
      rw [hn]
      · exact h2
      · intro e'; exact e (hr.inj q p y x hq hp h1 hx e')
  · intro q r y z hq hr' h1 h2 h3
    have lv : ∀ q, ((h.put p o).get q).live = true → (h.get q).live = true := by
      intro q hq
      rw [H.get_put] at hq
      by_cases e : q = p
      · subst e; exact hp
      · rw [if_neg e] at hq; exact hq
    exact hr.inj q r y z (lv q hq) (lv r hr') h1 h2 h3
  · obtain ⟨⟨e, fz, hc⟩, hn'⟩ := hr.keep g v hv
    exact ⟨⟨e, fz, by rw [hn g (hn' p x hp hx).symm]; exact hc⟩, fun q y hq h1 => hn' q y (lv q hq) h1⟩
  · intro b _ hb
    exact hn b (fun e => hb p x hp hx e.symm)
  · intro q y hq h1
    rw [H.get_put] at hq
    by_cases e : q = p
    · subst e; exact .inr ⟨q, y, hp, h1, rfl⟩
    · rw [if_neg e] at hq; exact .inr ⟨q, y, hq, h1, rfl⟩

/-- Forgetting a block. -/
theorem HRel.kill [Env] {ρ : Ren} {h : H} {w : World} (hr : HRel ρ h w) (p : Path) : HRel ρ (h.put p .dead) w ∧ Ext ρ h w ρ (h.put p .dead) w := by
  have lv : ∀ q, ((h.put p .dead).get q).live = true → q ≠ p ∧ (h.get q).live = true := by
    intro q hq
    rw [H.get_put] at hq
    by_cases e : q = p
    · rw [if_pos e] at hq; cases hq
    · rw [if_neg e] at hq; exact ⟨e, hq⟩
  refine ⟨⟨hr.dom, hr.inside, ?_, ?_, fun g v hv => ⟨(hr.keep g v hv).1, fun q y hq h1 => (hr.keep g v hv).2 q y (lv q hq).2 h1⟩⟩, ⟨.refl ρ, Nat.le_refl _, fun _ _ _ => rfl, ?_, fun _ _ h => .inl h, Nat.le_refl _, .refl _⟩⟩
  · intro q hq
    obtain ⟨e, hq⟩ := lv q hq
    rw [H.get_put, if_neg e]
    exact hr.ob q hq
  · intro q r y z hq hr' h1 h2 h3
    exact hr.inj q r y z (lv q hq).2 (lv r hr').2 h1 h2 h3
  · intro q y hq h1
    exact .inr ⟨q, y, (lv q hq).2, h1, rfl⟩

end Go.Eng
