/- The engine, part R: code, regions, calls: the evaluator. -/
import Derived.Test.YtjngjfgbholgpaaEngQ
import Derived.Scope
set_option linter.unusedSimpArgs false
set_option linter.unusedVariables false
namespace Go.Eng

inductive I where
  | pu (i : PI)
  | rd (i : RI)
  | al (i : AI)
  | hv (i : HI)
  | bad

structure St where
  dst : Option Path
  op : I
  gd : Option (Path × Bool)

/-- An operation of a region whose order is open: the blocks that it does not see (those that operations make which need not come before it), and what is to read the same behind it. -/
structure It where
  st : St
  hide : List Path
  chk : List (St × List Path)

inductive C where
  | skip
  | reg (l : List St)
  | dreg (l : List It)
  | seq (a b : C)
  | cond (c : Opd) (a b : C)
  | block (id : Nat) (c : C)
  | loop (c : C)
  | exit (id : Nat)
  | ret
  | bad

inductive RV where
  | t (p : Path)
  | c (p : Path) (agg : Bool) (n : Nat)

inductive X where
  | nx
  | rt
  | ex (id : Nat)

inductive Rs where
  | fail
  | one (x : X) (fr : Tr V) (h : H)

/-- nd: are all ends followed, where a walk over a map may go several ways? orc: what is known of the function by other means. -/
structure F where
  n : Nat
  nd : Bool
  res : List RV
  body : C
  orc : Option (List V → H → Rs)

inductive Task where
  | code (c : C)
  | ops (l : List St)
  | dops (l : List It)
  | call (f : Path) (args : List V)

noncomputable def putD (fr : Tr V) (d : Option Path) (v : V) : Tr V :=
  match d with
  | none => fr
  | some p => fr.set p v

noncomputable def wantd (fr : Tr V) (g : Option (Path × Bool)) : Bool :=
  match g with
  | none => true
  | some (p, b) => match fr.get undefV p with
    | .b c => c == b
    | _ => false

/-- The block that a value names. -/
def blkOf : V → Option Path
  | .p b _ => some b
  | .sl b _ _ _ _ _ => some b
  | .m b => some b
  | _ => none

noncomputable def hideL (fr : Tr V) : List Path → H → H
  | [], h => h
  | d :: l, h => match blkOf (fr.get undefV d) with
    | some b => hideL fr l (h.put b .dead)
    | none => hideL fr l h

noncomputable def showL (fr : Tr V) (h0 : H) : List Path → H → H
  | [], h => h
  | d :: l, h => match blkOf (fr.get undefV d) with
    | some b => showL fr h0 l (h.put b (h0.get b))
    | none => showL fr h0 l h

mutual
def sameV : V → V → Bool
  | .b x, y => match y with | .b y => x == y | _ => false
  | .i j x, y => match y with | .i k y => cond (sameK j k) (eqI x y) false | _ => false
  | .s x, y => match y with | .s y => eqL x y | _ => false
  | .p b o, y => match y with | .p c q => cond (b.same c) (Nat.beq o q) false | _ => false
  | .p0, y => match y with | .p0 => true | _ => false
  | .sl b o n c e s, y => match y with
    | .sl b' o' n' c' e' s' => cond (b.same b') (cond (Nat.beq o o') (cond (Nat.beq n n') (cond (Nat.beq c c') (cond (Nat.beq s s') (e == e') false) false) false) false) false
    | _ => false
  | .sl0, y => match y with | .sl0 => true | _ => false
  | .m b, y => match y with | .m c => b.same c | _ => false
  | .m0, y => match y with | .m0 => true | _ => false
  | .f f l, y => match y with | .f g k => cond (f.same g) (sameVs l k) false | _ => false
  | .f0, y => match y with | .f0 => true | _ => false
  | .ifc t v, y => match y with | .ifc u w => cond (Nat.beq t u) (sameV v w) false | _ => false
  | .i0, y => match y with | .i0 => true | _ => false
  | .a l, y => match y with | .a k => sameVs l k | _ => false
  | .t l, y => match y with | .t k => sameVs l k | _ => false
  | .o g, y => match y with | .o k => Nat.beq g k | _ => false
  | .oi g c, y => match y with | .oi k d => cond (Nat.beq g k) (Nat.beq c d) false | _ => false
  | .y j c lo hi, y => match y with | .y j' c' lo' hi' => cond (Nat.beq j j') (cond (eqI c c') (cond (eqI lo lo') (eqI hi hi') false) false) false | _ => false
def sameVs : List V → List V → Bool
  | [], k => match k with | [] => true | _ => false
  | x :: l, k => match k with | y :: k => cond (sameV x y) (sameVs l k) false | [] => false
end

theorem eqL_eq : ∀ {x y : List Nat}, eqL x y = true → x = y
  | [], [], _ => rfl
  | [], _ :: _, h => by simp [eqL] at h
  | _ :: _, [], h => by simp [eqL] at h
  | a :: x, b :: y, h => by
    simp only [eqL] at h
    cases hb : Nat.beq a b <;> rw [hb] at h <;> simp only [cond_true, cond_false] at h
    · cases h
    · rw [Nat.eq_of_beq_eq_true hb, eqL_eq h]

theorem cond_and {a b : Bool} (h : cond a b false = true) : a = true ∧ b = true := by cases a <;> cases b <;> simp at h ⊢

mutual
theorem sameV_eq : ∀ {x y : V}, sameV x y = true → x = y
  | .b _, y, h => by cases y <;> simp [sameV] at h; rw [h]
  | .i _ _, y, h => by
    cases y <;> simp only [sameV] at h <;> try (cases h; done)
    obtain ⟨h1, h2⟩ := cond_and h
    rw [eqI_eq] at h2; simp at h2
    rw [sameK_eq h1, h2]
  | .s _, y, h => by cases y <;> simp only [sameV] at h <;> first | (cases h; done) | rw [eqL_eq h]
  | .p _ _, y, h => by
    cases y <;> simp only [sameV] at h <;> try (cases h; done)
    obtain ⟨h1, h2⟩ := cond_and h
    rw [Path.same_iff.1 h1, Nat.eq_of_beq_eq_true h2]
  | .p0, y, h => by cases y <;> simp only [sameV] at h <;> first | rfl | cases h
  | .sl _ _ _ _ _ _, y, h => by
    cases y <;> simp only [sameV] at h <;> try (cases h; done)
    obtain ⟨h1, h⟩ := cond_and h
    obtain ⟨h2, h⟩ := cond_and h
    obtain ⟨h3, h⟩ := cond_and h
    obtain ⟨h4, h⟩ := cond_and h
    obtain ⟨h5, h⟩ := cond_and h
    rw [Path.same_iff.1 h1, Nat.eq_of_beq_eq_true h2, Nat.eq_of_beq_eq_true h3, Nat.eq_of_beq_eq_true h4, Nat.eq_of_beq_eq_true h5, beq_iff_eq.1 h]
  | .sl0, y, h => by cases y <;> simp only [sameV] at h <;> first | rfl | cases h
  | .m _, y, h => by cases y <;> simp only [sameV] at h <;> first | (cases h; done) | rw [Path.same_iff.1 h]
  | .m0, y, h => by cases y <;> simp only [sameV] at h <;> first | rfl | cases h
  | .f _ _, y, h => by
    cases y <;> simp only [sameV] at h <;> try (cases h; done)
    obtain ⟨h1, h2⟩ := cond_and h
    rw [Path.same_iff.1 h1, sameVs_eq h2]
  | .f0, y, h => by cases y <;> simp only [sameV] at h <;> first | rfl | cases h
  | .ifc _ _, y, h => by
    cases y <;> simp only [sameV] at h <;> try (cases h; done)
    obtain ⟨h1, h2⟩ := cond_and h
    rw [Nat.eq_of_beq_eq_true h1, sameV_eq h2]
  | .i0, y, h => by cases y <;> simp only [sameV] at h <;> first | rfl | cases h
  | .a _, y, h => by
    cases y <;> simp only [sameV] at h <;> try (cases h; done)
    rw [sameVs_eq h]
  | .t _, y, h => by
    cases y <;> simp only [sameV] at h <;> try (cases h; done)
    rw [sameVs_eq h]
  | .o _, y, h => by
    cases y <;> simp only [sameV] at h <;> try (cases h; done)
    rw [Nat.eq_of_beq_eq_true h]
  | .oi _ _, y, h => by
    cases y <;> simp only [sameV] at h <;> try (cases h; done)
    obtain ⟨h1, h2⟩ := cond_and h
    rw [Nat.eq_of_beq_eq_true h1, Nat.eq_of_beq_eq_true h2]
  | .y _ _ _ _, y, h => by
    cases y <;> simp only [sameV] at h <;> try (cases h; done)
    obtain ⟨h1, h⟩ := cond_and h
    obtain ⟨h2, h⟩ := cond_and h
    obtain ⟨h3, h4⟩ := cond_and h
    rw [eqI_eq] at h2 h3 h4
    rw [Nat.eq_of_beq_eq_true h1, of_decide_eq_true h2, of_decide_eq_true h3, of_decide_eq_true h4]
theorem sameVs_eq : ∀ {x y : List V}, sameVs x y = true → x = y
  | [], [], _ => rfl
  | [], _ :: _, h => by simp [sameVs] at h
  | _ :: _, [], h => by simp [sameVs] at h
  | x :: l, y :: k, h => by
    simp only [sameVs] at h
    obtain ⟨h1, h2⟩ := cond_and h
    rw [sameV_eq h1, sameVs_eq h2]
end

/-- What was read before reads the same. -/
noncomputable def chkL (fr : Tr V) (h : H) : List (St × List Path) → Bool
  | [] => true
  | (s, hide) :: l => cond (wantd fr s.gd) (match s.op, s.dst with
      | .rd i, some d => cond (fr.mem d) (match rdI fr (hideL fr hide h) i with | some v => cond (sameV v (fr.get undefV d)) (chkL fr h l) false | none => false) false
      | _, _ => false) (chkL fr h l)

section
variable (ih : Task → Tr V → H → Rs)

noncomputable def runCallO (dst : Option Path) (l : List St) (fr : Tr V) (r : Rs) : Rs :=
  match r with
  | .one _ q h => ih (.ops l) (putD fr dst (q.get undefV .e)) h
  | .fail => .fail

noncomputable def runHvO (dst : Option Path) (l : List St) (fr : Tr V) (h0 : H) (r : HR) : Rs :=
  match r with
  | .v v h => ih (.ops l) (putD fr dst v) h
  | .call f args => runCallO ih dst l fr (ih (.call f args) .nil h0)
  | .fail => .fail

noncomputable def runVal (dst : Option Path) (l : List St) (fr : Tr V) (h : H) (v : Option V) : Rs :=
  match v with
  | some v => ih (.ops l) (putD fr dst v) h
  | none => .fail

noncomputable def runAl (dst : Option Path) (l : List St) (fr : Tr V) (h : H) (v : Option (Ob × AK)) : Rs :=
  match v with
  | some (ob, k) => ih (.ops l) (putD fr dst (k.val h.n)) (h.new ob)
  | none => .fail

noncomputable def runOp (dst : Option Path) (op : I) (l : List St) (fr : Tr V) (h : H) : Rs :=
  match op with
  | .pu i => runVal ih dst l fr h (puI fr i)
  | .rd i => runVal ih dst l fr h (rdI fr h i)
  | .al i => runAl ih dst l fr h (alI fr i)
  | .hv i => runHvO ih dst l fr h (hvI fr h i)
  | .bad => .fail

noncomputable def runO (l : List St) (fr : Tr V) (h : H) : Rs :=
  match l with
  | [] => .one .nx fr h
  | s :: l => match wantd fr s.gd with
    | false => ih (.ops l) (putD fr s.dst undefV) h
    | true => runOp ih s.dst s.op l fr h

/-! The same where the order is open. -/

noncomputable def runValD (dst : Option Path) (l : List It) (fr : Tr V) (h : H) (v : Option V) : Rs :=
  match v with
  | some v => ih (.dops l) (putD fr dst v) h
  | none => .fail

noncomputable def runAlD (dst : Option Path) (l : List It) (fr : Tr V) (h : H) (v : Option (Ob × AK)) : Rs :=
  match v with
  | some (ob, k) => (match dst with
    | some d => cond (fr.mem d) (ih (.dops l) (fr.set d (k.val h.n)) (h.new ob)) .fail
    | none => .fail)
  | none => .fail

noncomputable def finD (it : It) (l : List It) (fr : Tr V) (v : V) (h : H) : Rs :=
  match chkL fr h it.chk with
  | true => ih (.dops l) (putD fr it.st.dst v) h
  | false => .fail

noncomputable def runCallD (it : It) (l : List It) (fr : Tr V) (h : H) (r : Rs) : Rs :=
  match r with
  | .one _ q h1 => finD ih it l fr (q.get undefV .e) (showL fr h it.hide h1)
  | .fail => .fail

noncomputable def runHvD (it : It) (l : List It) (fr : Tr V) (h : H) (r : HR) : Rs :=
  match r with
  | .v v h1 => finD ih it l fr v (showL fr h it.hide h1)
  | .call f args => runCallD ih it l fr h (ih (.call f args) .nil (hideL fr it.hide h))
  | .fail => .fail

noncomputable def runOpD (it : It) (op : I) (l : List It) (fr : Tr V) (h : H) : Rs :=
  match op with
  | .pu i => runValD ih it.st.dst l fr h (puI fr i)
  | .rd i => runValD ih it.st.dst l fr h (rdI fr (hideL fr it.hide h) i)
  | .al i => runAlD ih it.st.dst l fr h (alI fr i)
  | .hv i => runHvD ih it l fr h (hvI fr (hideL fr it.hide h) i)
  | .bad => .fail

noncomputable def runD (l : List It) (fr : Tr V) (h : H) : Rs :=
  match l with
  | [] => .one .nx fr h
  | it :: l => match wantd fr it.st.gd with
    | false => ih (.dops l) (putD fr it.st.dst undefV) h
    | true => runOpD ih it it.st.op l fr h

/-! Code. -/

noncomputable def runSeq (b : C) (r : Rs) : Rs :=
  match r with
  | .one x fr h => (match x with | .nx => ih (.code b) fr h | x => .one x fr h)
  | .fail => .fail

noncomputable def runCond (a b : C) (fr : Tr V) (h : H) (c : V) : Rs :=
  match c with
  | .b x => cond x (ih (.code a) fr h) (ih (.code b) fr h)
  | _ => .fail

def runBlock (id : Nat) (r : Rs) : Rs :=
  match r with
  | .one x fr h => (match x with | .ex j => cond (Nat.beq j id) (.one .nx fr h) (.one (.ex j) fr h) | x => .one x fr h)
  | .fail => .fail

noncomputable def runC (c : C) (fr : Tr V) (h : H) : Rs :=
  match c with
  | .skip => .one .nx fr h
  | .reg l => ih (.ops l) fr h
  | .dreg l => ih (.dops l) fr h
  | .seq a b => runSeq ih b (ih (.code a) fr h)
  | .cond c a b => runCond ih a b fr h (ev fr c)
  | .block id c => runBlock id (ih (.code c) fr h)
  | .loop c => runSeq ih (.loop c) (ih (.code c) fr h)
  | .exit id => .one (.ex id) fr h
  | .ret => .one .rt fr h
  | .bad => .fail

noncomputable def resV (fr : Tr V) (h : H) (r : RV) : Option V :=
  match r with
  | .t p => some (fr.get undefV p)
  | .c p agg n => loadV h agg n (fr.get undefV p)

noncomputable def resVs (fr : Tr V) (h : H) : List RV → Option (List V)
  | [] => some []
  | r :: l => match resV fr h r with
    | some v => (match resVs fr h l with | some vs => some (v :: vs) | none => none)
    | none => none

def oneV : List V → V
  | [v] => v
  | l => .t l

noncomputable def putArgs (k : Path) (l : List V) (fr : Tr V) : Tr V :=
  match l with
  | [] => fr
  | v :: l => putArgs k.succ l (fr.set k v)

noncomputable def retR (res : List RV) (fr : Tr V) (h : H) : Rs :=
  match resVs fr h res with
  | some l => .one .rt (.nd .nil (oneV l) .nil) h
  | none => .fail

noncomputable def runRet (res : List RV) (r : Rs) : Rs :=
  match r with
  | .one x fr h => (match x with | .ex _ => .fail | _ => retR res fr h)
  | .fail => .fail

/-! Functions whose walks over maps may go several ways. -/

abbrev Out := X × Tr V × H

noncomputable def bindO {α : Type} (f : α → Option (List Out)) (l : List α) : Option (List Out) :=
  match l with
  | [] => some []
  | o :: l => match f o with
    | some a => (match bindO f l with | some b => some (a ++ b) | none => none)
    | none => none

def outO (r : Rs) : Option (List Out) :=
  match r with
  | .one x fr h => some [(x, fr, h)]
  | .fail => none

noncomputable def ndHR (h0 : H) (r : HR) : Option (List (V × H)) :=
  match r with
  | .v v h => some [(v, h)]
  | .call f args => (match ih (.call f args) .nil h0 with | .one _ q h => some [(q.get undefV .e, h)] | .fail => none)
  | .fail => none

noncomputable def ndHv (fr : Tr V) (h : H) (i : HI) : Option (List (V × H)) :=
  match i with
  | .mp (.nxt x) => ndNxt h (ev fr x)
  | i => ndHR ih h (hvI fr h i)

noncomputable def ndOp (fr : Tr V) (h : H) (op : I) : Option (List (V × H)) :=
  match op with
  | .pu i => (puI fr i).map fun v => [(v, h)]
  | .rd i => (rdI fr h i).map fun v => [(v, h)]
  | .al i => (alI fr i).map fun p => [(p.2.val h.n, h.new p.1)]
  | .hv i => ndHv ih fr h i
  | .bad => none

noncomputable def ndOps : List St → Tr V → H → Option (List Out)
  | [], fr, h => some [(.nx, fr, h)]
  | s :: l, fr, h => match wantd fr s.gd with
    | false => ndOps l (putD fr s.dst undefV) h
    | true => (match ndOp ih fr h s.op with
      | some a => bindO (fun p => ndOps l (putD fr s.dst p.1) p.2) a
      | none => none)

noncomputable def ndThen (k : Tr V → H → Option (List Out)) (o : Out) : Option (List Out) :=
  match o.1 with
  | .nx => k o.2.1 o.2.2
  | _ => some [o]

noncomputable def ndSeq (k : Tr V → H → Option (List Out)) (a : Option (List Out)) : Option (List Out) :=
  match a with
  | some a => bindO (ndThen k) a
  | none => none

noncomputable def ndLoop (body : Tr V → H → Option (List Out)) : Nat → Tr V → H → Option (List Out)
  | 0, _, _ => none
  | n + 1, fr, h => ndSeq (ndLoop body n) (body fr h)

def blkO (id : Nat) (o : Out) : Out :=
  match o.1 with
  | .ex j => cond (Nat.beq j id) (.nx, o.2.1, o.2.2) o
  | _ => o

noncomputable def ndC : C → Tr V → H → Option (List Out)
  | .skip, fr, h => some [(.nx, fr, h)]
  | .reg l, fr, h => ndOps ih l fr h
  | .dreg l, fr, h => outO (ih (.dops l) fr h)
  | .seq a b, fr, h => ndSeq (ndC b) (ndC a fr h)
  | .cond c a b, fr, h => (match ev fr c with | .b true => ndC a fr h | .b false => ndC b fr h | _ => none)
  | .block id c, fr, h => (ndC c fr h).map (List.map (blkO id))
  | .loop c, fr, h => ndLoop (ndC c) 1000 fr h
  | .exit id, fr, h => some [(.ex id, fr, h)]
  | .ret, fr, h => some [(.rt, fr, h)]
  | .bad, _, _ => none

noncomputable def endsO (res : List RV) (o : Out) : Option (List V × H) :=
  match o.1 with
  | .ex _ => none
  | _ => (match resVs o.2.1 o.2.2 res with | some l => some (l, o.2.2) | none => none)

noncomputable def endsL (res : List RV) : List Out → Option (List (List V × H))
  | [] => some []
  | o :: l => match endsO res o with
    | some a => (match endsL res l with | some r => some (a :: r) | none => none)
    | none => none

def sameEs : List (V × V × Nat) → List (V × V × Nat) → Bool
  | [], k => (match k with | [] => true | _ => false)
  | (a, b, n) :: l, k => match k with
    | (c, d, m) :: k => cond (sameV a c) (cond (sameV b d) (cond (Nat.beq n m) (sameEs l k) false) false) false
    | [] => false

def sameOb (a b : Ob) : Bool :=
  match a with
  | .c ro l e => (match b with | .c ro' l' e' => cond (ro == ro') (cond (Nat.beq e e') (sameVs l l') false) false | _ => false)
  | .m es c => (match b with | .m es' c' => cond (Nat.beq c c') (sameEs es es') false | _ => false)
  | _ => false

/-- What is the same in two heaps. -/
def mergeT : Tr Ob → Tr Ob → Tr Ob
  | .nil, _ => .nil
  | .nd l v r, k => match k with
    | .nil => .nil
    | .nd l' v' r' => .nd (mergeT l l') (cond (sameOb v v') v .dead) (mergeT r r')

def joinL (vs : List V) (h : H) : List (List V × H) → Option H
  | [] => some h
  | (us, k) :: l => cond (sameVs us vs) (cond (k.n.same h.n) (joinL vs ⟨mergeT h.t k.t, h.n⟩ l) none) none

noncomputable def joinO (res : List RV) (outs : Option (List Out)) : Rs :=
  match outs with
  | some outs => (match endsL res outs with
    | some ((vs, h) :: l) => (match joinL vs h l with | some h => .one .rt (.nd .nil (oneV vs) .nil) h | none => .fail)
    | _ => .fail)
  | none => .fail

noncomputable def runF (args : List V) (h : H) (f : Option F) : Rs :=
  match f with
  | some F => match F.orc with
    | some o => o args h
    | none => cond (Nat.ble args.length F.n) (cond F.nd (joinO F.res (ndC ih F.body (putArgs .e args (Tr.fill undefV F.n F.n)) h)) (runRet F.res (ih (.code F.body) (putArgs .e args (Tr.fill undefV F.n F.n)) h))) .fail
  | none => .fail

end

noncomputable def runT (tab : Tr (Option F)) (ih : Task → Tr V → H → Rs) (t : Task) (fr : Tr V) (h : H) : Rs :=
  match t with
  | .code c => runC ih c fr h
  | .ops l => runO ih l fr h
  | .dops l => runD ih l fr h
  | .call f args => runF ih args h (tab.get none f)

noncomputable def run (tab : Tr (Option F)) (n : Nat) : Task → Tr V → H → Rs :=
  Nat.rec (motive := fun _ => Task → Tr V → H → Rs) (fun _ _ _ => .fail) (fun _ ih => runT tab ih) n

theorem run_zero (tab : Tr (Option F)) (t : Task) (fr : Tr V) (h : H) : run tab 0 t fr h = .fail := rfl
theorem run_succ (tab : Tr (Option F)) (n : Nat) (t : Task) (fr : Tr V) (h : H) : run tab (n + 1) t fr h = runT tab (run tab n) t fr h := rfl

end Go.Eng
