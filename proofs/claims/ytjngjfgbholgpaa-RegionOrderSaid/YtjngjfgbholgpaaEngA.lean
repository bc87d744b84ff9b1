/- The engine, part A: paths, trees, abstract values, objects and heaps. -/
import Derived.Calls
import Derived.Orders
set_option linter.unusedSimpArgs false
set_option linter.unusedVariables false
namespace Go.Eng

/-- Positions in a tree; also the names of abstract blocks. -/
inductive Path where
  | e
  | l (p : Path)
  | r (p : Path)
  deriving DecidableEq

def Path.num : Path → Nat
  | .e => 0
  | .l p => 2 * p.num + 1
  | .r p => 2 * p.num + 2

def Path.succ : Path → Path
  | .e => .l .e
  | .l p => .r p
  | .r p => .l p.succ

def Path.of : Nat → Path
  | 0 => .e
  | n + 1 => (Path.of n).succ

theorem Path.num_succ : ∀ p : Path, p.succ.num = p.num + 1
  | .e => rfl
  | .l p => by simp [succ, num]
  | .r p => by simp [succ, num, num_succ p]; omega

theorem Path.num_of : ∀ n, (Path.of n).num = n
  | 0 => rfl
  | n + 1 => by simp [of, num_succ, num_of n]

theorem Path.num_inj : ∀ {p q : Path}, p.num = q.num → p = q
  | .e, .e, _ => rfl
  | .e, .l q, h => by simp [num] at h
  | .e, .r q, h => by simp [num] at h
  | .l p, .e, h => by simp [num] at h
  | .r p, .e, h => by simp [num] at h
  | .l p, .l q, h => by simp only [num] at h; rw [num_inj (p := p) (q := q) (by omega)]
  | .r p, .r q, h => by simp only [num] at h; rw [num_inj (p := p) (q := q) (by omega)]
  | .l p, .r q, h => by simp only [num] at h; omega
  | .r p, .l q, h => by simp only [num] at h; omega

theorem Path.of_inj {m n : Nat} (h : Path.of m = Path.of n) : m = n := by
  have := congrArg Path.num h
  simpa [num_of] using this

theorem Path.of_num (p : Path) : Path.of p.num = p := Path.num_inj (num_of _)

/-- Are two paths the same? (for the kernel) -/
def Path.same : Path → Path → Bool
  | .e, .e => true
  | .l p, .l q => p.same q
  | .r p, .r q => p.same q
  | _, _ => false

theorem Path.same_iff : ∀ {p q : Path}, p.same q = true ↔ p = q
  | .e, .e => by simp [same]
  | .e, .l q => by simp [same]
  | .e, .r q => by simp [same]
  | .l p, .e => by simp [same]
  | .r p, .e => by simp [same]
  | .l p, .l q => by simp [same, same_iff (p := p) (q := q)]
  | .r p, .r q => by simp [same, same_iff (p := p) (q := q)]
  | .l p, .r q => by simp [same]
  | .r p, .l q => by simp [same]

inductive Tr (α : Type) where
  | nil
  | nd (l : Tr α) (v : α) (r : Tr α)

namespace Tr
variable {α : Type}

noncomputable def get (d : α) (t : Tr α) : Path → α :=
  Tr.rec (motive := fun _ => Path → α) (fun _ => d) (fun _ v _ ihl ihr p => Path.casesOn p v ihl ihr) t

noncomputable def set (t : Tr α) : Path → α → Tr α :=
  Tr.rec (motive := fun _ => Path → α → Tr α) (fun _ _ => .nil)
    (fun l v r ihl ihr p x => Path.casesOn p (.nd l x r) (fun p => .nd (ihl p x) v r) (fun p => .nd l v (ihr p x))) t

/-- Puts a value in, and makes the nodes on the way. -/
noncomputable def ins (d : α) (p : Path) : Tr α → α → Tr α :=
  Path.rec (motive := fun _ => Tr α → α → Tr α) (fun t x => Tr.casesOn t (.nd .nil x .nil) (fun l _ r => .nd l x r))
    (fun _ ih t x => Tr.casesOn t (.nd (ih .nil x) d .nil) (fun l v r => .nd (ih l x) v r))
    (fun _ ih t x => Tr.casesOn t (.nd .nil d (ih .nil x)) (fun l v r => .nd l v (ih r x))) p

def mem : Tr α → Path → Bool
  | .nil, _ => false
  | .nd _ _ _, .e => true
  | .nd l _ _, .l p => l.mem p
  | .nd _ _ r, .r p => r.mem p

variable (d : α)
@[simp] theorem get_nil (p : Path) : get d .nil p = d := rfl
@[simp] theorem get_e (l r : Tr α) (v : α) : get d (.nd l v r) .e = v := rfl
@[simp] theorem get_l (l r : Tr α) (v : α) (p : Path) : get d (.nd l v r) (.l p) = get d l p := rfl
@[simp] theorem get_r (l r : Tr α) (v : α) (p : Path) : get d (.nd l v r) (.r p) = get d r p := rfl
@[simp] theorem set_nil (p : Path) (x : α) : set .nil p x = .nil := rfl
@[simp] theorem set_e (l r : Tr α) (v x : α) : set (.nd l v r) .e x = .nd l x r := rfl
@[simp] theorem set_l (l r : Tr α) (v x : α) (p : Path) : set (.nd l v r) (.l p) x = .nd (set l p x) v r := rfl
@[simp] theorem set_r (l r : Tr α) (v x : α) (p : Path) : set (.nd l v r) (.r p) x = .nd l v (set r p x) := rfl
@[simp] theorem ins_e_nil (x : α) : ins d .e .nil x = .nd .nil x .nil := rfl
@[simp] theorem ins_e (l r : Tr α) (v x : α) : ins d .e (.nd l v r) x = .nd l x r := rfl
@[simp] theorem ins_l_nil (p : Path) (x : α) : ins d (.l p) .nil x = .nd (ins d p .nil x) d .nil := rfl
@[simp] theorem ins_l (p : Path) (l r : Tr α) (v x : α) : ins d (.l p) (.nd l v r) x = .nd (ins d p l x) v r := rfl
@[simp] theorem ins_r_nil (p : Path) (x : α) : ins d (.r p) .nil x = .nd .nil d (ins d p .nil x) := rfl
@[simp] theorem ins_r (p : Path) (l r : Tr α) (v x : α) : ins d (.r p) (.nd l v r) x = .nd l v (ins d p r x) := rfl

theorem get_ins : ∀ (p q : Path) (t : Tr α) (x : α), get d (ins d p t x) q = if q = p then x else get d t q
  | .e, q, .nil, x => by cases q <;> simp
  | .e, q, .nd l v r, x => by cases q <;> simp
  | .l p, q, .nil, x => by cases q <;> simp [get_ins p]
  | .l p, q, .nd l v r, x => by cases q <;> simp [get_ins p]
  | .r p, q, .nil, x => by cases q <;> simp [get_ins p]
  | .r p, q, .nd l v r, x => by cases q <;> simp [get_ins p]

theorem get_set : ∀ (t : Tr α) (p q : Path) (x : α), get d (set t p x) q = if q = p ∧ t.mem p then x else get d t q
  | .nil, p, q, x => by simp [mem]
  | .nd l v r, .e, q, x => by cases q <;> simp [mem]
  | .nd l v r, .l p, q, x => by cases q <;> simp [mem, get_set l p]
  | .nd l v r, .r p, q, x => by cases q <;> simp [mem, get_set r p]

theorem mem_set : ∀ (t : Tr α) (p q : Path) (x : α), (set t p x).mem q = t.mem q
  | .nil, p, q, x => by simp
  | .nd l v r, .e, q, x => by cases q <;> simp [mem]
  | .nd l v r, .l p, q, x => by cases q <;> simp [mem, mem_set l p]
  | .nd l v r, .r p, q, x => by cases q <;> simp [mem, mem_set r p]

/-- A tree of n nodes (fuel first). -/
def fill (x : α) : Nat → Nat → Tr α
  | 0, _ => .nil
  | _ + 1, 0 => .nil
  | f + 1, n + 1 => .nd (fill x f ((n + 1) / 2)) x (fill x f (n / 2))

theorem mem_fill (x : α) : ∀ (f n : Nat), n ≤ f → ∀ p : Path, (fill x f n).mem p = decide (p.num < n)
  | 0, n, h, p => by simp [fill, mem]; omega
  | f + 1, 0, h, p => by simp [fill, mem]
  | f + 1, n + 1, h, p => by
    cases p with
    | e => simp [fill, mem, Path.num]
    | l p => simp only [fill, mem, Path.num]; rw [mem_fill x f _ (by omega)]; congr 1; rw [eq_iff_iff]; omega
    | r p => simp only [fill, mem, Path.num]; rw [mem_fill x f _ (by omega)]; congr 1; rw [eq_iff_iff]; omega

theorem get_fill (x : α) : ∀ (f n : Nat) (p : Path), get x (fill x f n) p = x
  | 0, n, p => by simp [fill]
  | f + 1, 0, p => by simp [fill]
  | f + 1, n + 1, p => by cases p <;> simp [fill, get_fill x f]

end Tr

/-- Abstract values. -/
inductive V where
  | b (x : Bool)
  | i (k : IntKind) (n : Int)
  | s (l : List Nat)
  | p (blk : Path) (off : Nat)
  | p0
  | sl (blk : Path) (off len cap : Nat) (ex : Bool) (es : Nat)
  | sl0
  | m (blk : Path)
  | m0
  | f (fn : Path) (caps : List V)
  | f0
  | ifc (t : Nat) (v : V)
  | i0
  | a (cells : List V)
  | t (vs : List V)
  | o (g : Nat)
  | oi (g c : Nat)
  | y (j : Nat) (c lo hi : Int)
  deriving Inhabited

/-- Abstract objects: what is known of a block. -/
inductive Ob where
  | dead
  | c (ro : Bool) (cells : List V) (elem : Nat)
  | m (es : List (V × V × Nat)) (clock : Nat)
  | it (mp : Option Path) (since : Nat) (seen : List Nat) (last : Nat)

structure H where
  t : Tr Ob
  n : Path

noncomputable def H.get (h : H) (p : Path) : Ob := h.t.get .dead p
noncomputable def H.put (h : H) (p : Path) (o : Ob) : H := ⟨Tr.ins .dead p h.t o, h.n⟩
noncomputable def H.new (h : H) (o : Ob) : H := ⟨Tr.ins .dead h.n h.t o, h.n.succ⟩

theorem H.get_put (h : H) (p q : Path) (o : Ob) : (h.put p o).get q = if q = p then o else h.get q := Tr.get_ins _ _ _ _ _
theorem H.get_new (h : H) (q : Path) (o : Ob) : (h.new o).get q = if q = h.n then o else h.get q := Tr.get_ins _ _ _ _ _
@[simp] theorem H.n_put (h : H) (p : Path) (o : Ob) : (h.put p o).n = h.n := rfl
@[simp] theorem H.n_new (h : H) (o : Ob) : (h.new o).n = h.n.succ := rfl

end Go.Eng
