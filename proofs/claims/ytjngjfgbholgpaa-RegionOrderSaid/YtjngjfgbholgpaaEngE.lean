/- The engine, part E: operations that touch no memory, and their compilation. -/
import Derived.Test.YtjngjfgbholgpaaEngD
set_option linter.unusedSimpArgs false
set_option linter.unusedVariables false
namespace Go.Eng

/-- Operations that touch no memory. -/
inductive PI where
  | mv (x : Opd)
  | pick (c a b : Opd)
  | build (zero : List V) (parts : List (Nat × Nat × Opd))
  | bin (op : BinOp) (k : Nat) (x y : Opd)
  | eqS (neg : Bool) (tags : List Nat) (x y : Opd)
  | convS (x : Opd)
  | un (op : UnOp) (x : Opd)
  | convI (k : IntKind) (x : Opd)
  | mkI (t : Nat) (x : Opd)
  | mkF (fn : Path) (caps : List Opd)
  | slStr (x : Opd) (lo hi : Option Opd)
  | slSl (es : Nat) (x : Opd) (lo hi mx : Option Opd)
  | fieldA (off : Nat) (x : Opd)
  | field (agg : Bool) (off size : Nat) (x : Opd)
  | idxAArr (len es : Nat) (x i : Opd)
  | idxASl (es : Nat) (x i : Opd)
  | idxArr (agg : Bool) (len es : Nat) (x i : Opd)
  | idxStr (x i : Opd)
  | extract (x : Opd) (i : Nat)
  | lenS (x : Opd)
  | lenSl (x : Opd)
  | mx (l : List Opd)
  | mn (l : List Opd)
  | nilck (x : Opd)
  | ixb (x c : Opd)
  | eqF (neg : Bool) (tbl : List (Nat × Nat)) (x y : Opd)
  | tas (c : Bool) (oks : List Nat) (zero : V) (ok : Bool) (x : Opd)

/-! Small helpers, each for one arm. -/

def wrapI (k : IntKind) (n : Int) : Int :=
  match k, n with
  | .i64, .ofNat m => cond (Nat.blt m 9223372036854775808) (.ofNat m) (IntKind.i64.wrap (.ofNat m))
  | k, n => k.wrap n

theorem wrapI_eq (k : IntKind) (n : Int) : wrapI k n = k.wrap n := by
  unfold wrapI
  split
  · rename_i m
    cases h : Nat.blt m 9223372036854775808
    · rfl
    · simp only [cond_true]
      have h' : m < 9223372036854775808 := by simpa [Nat.blt_eq] using h
      simp [IntKind.wrap, IntKind.bits, IntKind.signed]
      omega
  · rfl

def eqL : List Nat → List Nat → Bool
  | [], [] => true
  | a :: x, b :: y => cond (Nat.beq a b) (eqL x y) false
  | _, _ => false
def ltL : List Nat → List Nat → Bool
  | _, [] => false
  | [], _ :: _ => true
  | a :: x, b :: y => cond (Nat.blt a b) true (cond (Nat.beq a b) (ltL x y) false)

def eqI : Int → Int → Bool
  | .ofNat a, .ofNat b => Nat.beq a b
  | .negSucc a, .negSucc b => Nat.beq a b
  | _, _ => false
def ltI : Int → Int → Bool
  | .ofNat a, .ofNat b => Nat.blt a b
  | .negSucc a, .negSucc b => Nat.blt b a
  | .negSucc _, .ofNat _ => true
  | .ofNat _, .negSucc _ => false

theorem eqI_eq (a b : Int) : eqI a b = decide (a = b) := by
  cases a <;> cases b <;> simp only [eqI] <;> rw [Bool.eq_iff_iff] <;> simp only [Nat.beq_eq, decide_eq_true_eq] <;> first
    | (constructor <;> intro h <;> first | (subst h; rfl) | (cases h; rfl))
    | simp
theorem ltI_eq (a b : Int) : ltI a b = decide (a < b) := by
  cases a <;> cases b <;> simp only [ltI] <;> rw [Bool.eq_iff_iff] <;> simp [Nat.blt_eq] <;> omega

def binI (op : BinOp) (k : IntKind) (x y : Int) : Option V :=
  match op with
  | .add => some (.i k (wrapI k (x + y)))
  | .sub => some (.i k (wrapI k (x - y)))
  | .mul => some (.i k (wrapI k (x * y)))
  | .quo => cond (eqI y 0) none (some (.i k (wrapI k (x.tdiv y))))
  | .rem => cond (eqI y 0) none (some (.i k (x.tmod y)))
  | .and => some (.i k (k.wrap (BitVec.ofInt k.bits x &&& BitVec.ofInt k.bits y).toNat))
  | .or => some (.i k (k.wrap (BitVec.ofInt k.bits x ||| BitVec.ofInt k.bits y).toNat))
  | .xor => some (.i k (k.wrap (BitVec.ofInt k.bits x ^^^ BitVec.ofInt k.bits y).toNat))
  | .andNot => some (.i k (k.wrap (BitVec.ofInt k.bits x &&& ~~~ BitVec.ofInt k.bits y).toNat))
  | .shl => cond (ltI y 0) none (some (.i k (k.wrap (x * 2 ^ (min y.toNat k.bits)))))
  | .shr => cond (ltI y 0) none (some (.i k (x.fdiv (2 ^ (min y.toNat k.bits)))))
  | .eql => some (.b (eqI x y))
  | .neq => some (.b (!eqI x y))
  | .lss => some (.b (ltI x y))
  | .leq => some (.b (!ltI y x))
  | .gtr => some (.b (ltI y x))
  | .geq => some (.b (!ltI x y))

def binS (op : BinOp) (x y : List Nat) : Option V :=
  match op with
  | .add => cond (Nat.blt (x.length + y.length) 9223372036854775808) (some (.s (x ++ y))) none
  | .eql => some (.b (eqL x y))
  | .neq => some (.b (!eqL x y))
  | .lss => some (.b (ltL x y))
  | .leq => some (.b (!ltL y x))
  | .gtr => some (.b (ltL y x))
  | .geq => some (.b (!ltL x y))
  | _ => none

/-- Same kind of integers? -/
def sameK : IntKind → IntKind → Bool
  | .i64, .i64 | .i8, .i8 | .i16, .i16 | .i32, .i32 | .u8, .u8 | .u16, .u16 | .u32, .u32 | .u64, .u64 => true
  | _, _ => false

theorem sameK_eq {a b : IntKind} (h : sameK a b = true) : a = b := by cases a <;> cases b <;> first | rfl | cases h

/-- Are two cells of plain data the same? The tag tells their type: 0 bool, 1 integer, 2 string. -/
def eqC (tag : Nat) (x y : V) : Option Bool :=
  match tag with
  | 0 => (match x with | .b x => (match y with | .b y => some (x == y) | _ => none) | _ => none)
  | 1 => (match x with | .i j x => (match y with | .i k y => cond (sameK j k) (some (eqI x y)) none | _ => none) | _ => none)
  | 2 => (match x with | .s x => (match y with | .s y => some (eqL x y) | _ => none) | _ => none)
  | _ => none

def eqCs : List Nat → List V → List V → Option Bool
  | [], l, k => match l, k with | [], [] => some true | _, _ => none
  | t :: ts, l, k => match l, k with
    | x :: l, y :: k => match eqC t x y with
      | some true => eqCs ts l k
      | r => r
    | _, _ => none

def len3 : List Nat → List V → List V → Bool
  | [], l, k => (match l with | [] => (match k with | [] => true | _ => false) | _ => false)
  | _ :: ts, l, k => match l with
    | _ :: l => (match k with | _ :: k => len3 ts l k | _ => false)
    | _ => false

def eqS (tags : List Nat) (x y : V) : Option Bool :=
  match x with
  | .a l => (match y with | .a k => cond (len3 tags l k) (eqCs tags l k) none | _ => none)
  | _ => none

theorem len3_spec : ∀ {ts : List Nat} {l k : List V}, len3 ts l k = true → l.length = ts.length ∧ k.length = ts.length
  | [], l, k, h => by cases l <;> cases k <;> simp [len3] at h ⊢
  | _ :: ts, l, k, h => by
    cases l <;> cases k <;> simp [len3] at h ⊢
    exact len3_spec h

/-- '==' at what is neither two integers nor two strings. k tells the type: 1 a struct of plain cells, 3 bool, 4 pointer, 5 slice, 6 map, 7 func, 8 interface, 9 interface beside a constant. -/
def eqV (k : Nat) (x y : V) : Option Bool :=
  match k with
  | 3 => (match x with | .b x => (match y with | .b y => some (x == y) | _ => none) | _ => none)
  | 4 => (match x with
    | .p0 => (match y with | .p0 => some true | .p _ _ => some false | _ => none)
    | .p _ _ => (match y with | .p0 => some false | _ => none)
    | _ => none)
  | 5 => (match x with
    | .sl0 => (match y with | .sl0 => some true | .sl .. => some false | _ => none)
    | .sl .. => (match y with | .sl0 => some false | _ => none)
    | _ => none)
  | 6 => (match x with
    | .m0 => (match y with | .m0 => some true | .m _ => some false | _ => none)
    | .m _ => (match y with | .m0 => some false | _ => none)
    | _ => none)
  | 7 => (match x with
    | .f0 => (match y with | .f0 => some true | .f _ _ => some false | _ => none)
    | .f _ _ => (match y with | .f0 => some false | _ => none)
    | _ => none)
  | 8 => (match x with
    | .i0 => (match y with | .ifc _ _ => some false | _ => none)
    | .ifc _ _ => (match y with | .i0 => some false | _ => none)
    | _ => none)
  | 9 => (match x with
    | .i0 => (match y with | .i0 => some true | .ifc _ _ => some false | _ => none)
    | .ifc _ _ => (match y with | .i0 => some false | _ => none)
    | _ => none)
  | _ => none

def binE (op : BinOp) (k : Nat) (x y : V) : Option V :=
  match op with
  | .eql => (eqV k x y).map .b
  | .neq => (eqV k x y).map fun r => .b (!r)
  | _ => none

/-- What a comparison says of two numbers of which bounds are known. -/
def cmpB (op : BinOp) (a b c d : Int) : Option Bool :=
  match op with
  | .lss => cond (ltI b c) (some true) (cond (ltI a d) none (some false))
  | .geq => cond (ltI b c) (some false) (cond (ltI a d) none (some true))
  | .gtr => cond (ltI d a) (some true) (cond (ltI c b) none (some false))
  | .leq => cond (ltI d a) (some false) (cond (ltI c b) none (some true))
  | .eql => cond (ltI b c) (some false) (cond (ltI d a) (some false) (cond (eqI a b) (cond (eqI c d) (cond (eqI a c) (some true) none) none) none))
  | .neq => cond (ltI b c) (some true) (cond (ltI d a) (some true) (cond (eqI a b) (cond (eqI c d) (cond (eqI a c) (some false) none) none) none))
  | _ => none

/-- A number that is known but for its bounds, and so much. -/
def addY (j : Nat) (c lo hi b : Int) : Option V :=
  cond (ltI (lo + b) (-9223372036854775808)) none (cond (ltI 9223372036854775807 (hi + b)) none (some (.y j (c + b) (lo + b) (hi + b))))

/-- An operation on such a number and a known one. -/
def yI (op : BinOp) (j : Nat) (c lo hi b : Int) : Option V :=
  match op with
  | .add => addY j c lo hi b
  | .sub => addY j c lo hi (-b)
  | op => (cmpB op lo hi b b).map .b

/-- The other way round. -/
def iY (op : BinOp) (b : Int) (j : Nat) (c lo hi : Int) : Option V :=
  match op with
  | .add => addY j c lo hi b
  | op => (cmpB op b b lo hi).map .b

def yY (op : BinOp) (j : Nat) (c lo hi : Int) (j' : Nat) (c' lo' hi' : Int) : Option V :=
  cond (Nat.beq j j') ((cmpB op c c c' c').map .b) ((cmpB op lo hi lo' hi').map .b)

def binV (op : BinOp) (k : Nat) (x y : V) : Option V :=
  match x with
  | .i j a => match y with
    | .i j' b => cond (sameK j j') (binI op j a b) (match op with | .shl => binI .shl j a b | .shr => binI .shr j a b | _ => none)
    | .oi _ c => cond (sameK j .i64) (match op with
      | .leq => cond (Nat.beq c 1) (cond (ltI 2 a) (some (.b false)) none) (cond (ltI 4 a) none (some (.b true)))
      | .gtr => cond (Nat.beq c 1) (cond (ltI 2 a) (some (.b true)) none) (cond (ltI 4 a) none (some (.b false)))
      | _ => none) none
    | .y j' c lo hi => cond (sameK j .i64) (iY op a j' c lo hi) none
    | _ => none
  | .y j c lo hi => (match y with
    | .i j' b => cond (sameK j' .i64) (yI op j c lo hi b) none
    | .y j' c' lo' hi' => yY op j c lo hi j' c' lo' hi'
    | _ => none)
  | .s a => match y with | .s b => binS op a b | _ => none
  | x => binE op k x y

def unV (op : UnOp) (x : V) : Option V :=
  match x with
  | .i k n => match op with
    | .neg => some (.i k (wrapI k (0 - n)))
    | .xor => binI .xor k (if k.signed then -1 else k.max) n
    | _ => none
  | .b b => match op with | .not => some (.b (!b)) | _ => none
  | _ => none

def cellsOf : V → Option (List V)
  | .a l => some l
  | .t _ => none
  | v => some [v]

def pick1 (agg : Bool) (l : List V) : Option V :=
  match agg with
  | true => some (.a l)
  | false => match l with | [v] => some v | _ => none

def asN : V → Option Nat
  | .i _ (.ofNat n) => some n
  | _ => none

noncomputable def bnd (fr : Tr V) (d : Nat) : Option Opd → Option Nat
  | none => some d
  | some o => asN (ev fr o)

noncomputable def fillP (fr : Tr V) : List (Nat × Nat × Opd) → List V → Option (List V)
  | [], l => some l
  | (off, size, x) :: ps, l => match cellsOf (ev fr x) with
    | none => none
    | some c => cond (Nat.beq c.length size) (match splice off c l with | some l' => fillP fr ps l' | none => none) none

noncomputable def partV (agg : Bool) (off n : Nat) (l : List V) : Option V :=
  match takeE n (ldrop off l) with
  | some k => pick1 agg k
  | none => none

noncomputable def fieldV (agg : Bool) (off n : Nat) : V → Option V
  | .a l => partV agg off n l
  | _ => none

def fieldAV (off : Nat) : V → Option V
  | .p b o => some (.p b (o + off))
  | _ => none

def idxAArrV (len es : Nat) (x : V) (i : Option Nat) : Option V :=
  match x, i with
  | .p b o, some i => cond (Nat.blt i len) (some (.p b (o + i * es))) none
  | _, _ => none
def idxASlV (es : Nat) (x : V) (i : Option Nat) : Option V :=
  match x, i with
  | .sl b o len _ _ _, some i => cond (Nat.blt i len) (some (.p b (o + i * es))) none
  | _, _ => none
noncomputable def idxArrV (agg : Bool) (len es : Nat) (x : V) (i : Option Nat) : Option V :=
  match x, i with
  | .a l, some i => cond (Nat.blt i len) (partV agg (i * es) es l) none
  | _, _ => none
noncomputable def idxStrV (x : V) (i : Option Nat) : Option V :=
  match x, i with
  | .s l, some i => match ldrop i l with | c :: _ => some (.i .u8 (.ofNat c)) | [] => none
  | _, _ => none
noncomputable def extractV (i : Nat) : V → Option V
  | .t l => match ldrop i l with | v :: _ => some v | [] => none
  | _ => none
def lenSV : V → Option V
  | .s l => some (.i .i64 (.ofNat l.length))
  | _ => none
def lenSlV : V → Option V
  | .sl _ _ n _ _ _ => some (.i .i64 (.ofNat n))
  | .sl0 => some (.i .i64 (.ofNat 0))
  | _ => none
def nilckV : V → Option V
  | .p b o => some (.p b o)
  | .ifc t v => some (.ifc t v)
  | .f fn cs => some (.f fn cs)
  | _ => none
noncomputable def slStrV (x : V) (lo : Option Nat) (hi : Nat → Option Nat) : Option V :=
  match x with
  | .s l => match lo, hi l.length with
    | some a, some b => cond (Nat.ble a b) (match takeE b l with | some l => some (.s (ldrop a l)) | none => none) none
    | _, _ => none
  | _ => none
def slSl2 (es : Nat) (b : Path) (off a e cap : Nat) (ex : Bool) : Option V :=
  cond (cond (Nat.ble a e) (Nat.ble e cap) false)
    (cond (Nat.beq a cap) (cond ex (some (.sl b off (e - a) (cap - a) true es)) none) (some (.sl b (off + a * es) (e - a) (cap - a) ex es))) none
def slSlV (es : Nat) (x : V) (lo : Option Nat) (hi : Nat → Option Nat) (mx : Option Nat → Option (Option Nat)) : Option V :=
  match x with
  | .sl b off len cap ex es' => cond (Nat.beq es es') (match lo, hi len, mx (some cap) with
    | some a, some e, some none => slSl2 es b off a e cap ex
    | some a, some e, some (some m) => cond (Nat.ble m cap) (slSl2 es b off a e m true) none
    | _, _, _ => none) none
  | .sl0 => match lo, hi 0, mx none with
    | some 0, some 0, some none => some .sl0
    | some 0, some 0, some (some 0) => some .sl0
    | _, _, _ => none
  | _ => none

def slArrV (n es : Nat) (x : V) (lo hi : Option Nat) (mx : Option (Option Nat)) : Option V :=
  match x with
  | .p b off => match lo, hi, mx with
    | some a, some e, some none => slSl2 es b off a e n true
    | _, _, _ => none
  | _ => none

def mx2 : V → V → Option V
  | .i k a, .i _ b => some (.i k (cond (ltI a b) b a))
  | _, _ => none
def mn2 : V → V → Option V
  | .i k a, .i _ b => some (.i k (cond (ltI b a) b a))
  | _, _ => none
def foldV (f : V → V → Option V) : List V → V → Option V
  | [], v => some v
  | y :: l, v => match f v y with | some v => foldV f l v | none => none
def foldVs (f : V → V → Option V) : List V → Option V
  | [] => none
  | v :: l => foldV f l v

noncomputable def mxO (fr : Tr V) (o : Option Opd) (_ : Option Nat) : Option (Option Nat) :=
  match o with
  | none => some none
  | some o => match asN (ev fr o) with | some m => some (some m) | none => none

/-- Where a byte stands first. -/
def ixbL : List Nat → Nat → Nat → Int
  | [], _, _ => .negSucc 0
  | b :: l, c, k => cond (Nat.beq b c) (.ofNat k) (ixbL l c (k + 1))

def ixbV (x : V) (c : V) : Option V :=
  match c with
  | .i .u8 (.ofNat n) => cond (Nat.blt n 256) (match x with | .s l => some (.i .i64 (ixbL l n 0)) | _ => none) none
  | _ => none

def tagOf (t : Nat) : List (Nat × Nat) → Option Nat
  | [] => none
  | (u, g) :: l => cond (Nat.beq u t) (some g) (tagOf t l)

/-- '==' of two values of an interface type. -/
def eqF (tbl : List (Nat × Nat)) (x y : V) : Option Bool :=
  match x with
  | .ifc t v => (match y with
    | .ifc u w => cond (Nat.beq t u) (match tagOf t tbl with | some g => eqC g v w | none => none) (some false)
    | .i0 => some false
    | _ => none)
  | .i0 => (match y with
    | .ifc _ _ => some false
    | _ => none)
  | _ => none

def memT (n : Nat) : List Nat → Bool
  | [] => false
  | m :: l => cond (Nat.beq m n) true (memT n l)

def tasV (c : Bool) (oks : List Nat) (zero : V) (ok : Bool) (x : V) : Option V :=
  match x with
  | .ifc t v => cond (memT t oks) (some (cond ok (.t [cond c v (.ifc t v), .b true]) (cond c v (.ifc t v)))) (cond c (cond ok (some (.t [zero, .b false])) none) none)
  | .i0 => cond ok (some (.t [zero, .b false])) none
  | _ => none

noncomputable def puI (fr : Tr V) (i : PI) : Option V :=
  match i with
  | .mv x => some (ev fr x)
  | .pick c a b => (match ev fr c with | .b true => some (ev fr a) | .b false => some (ev fr b) | _ => none)
  | .build z ps => (fillP fr ps z).map .a
  | .bin op k x y => binV op k (ev fr x) (ev fr y)
  | .eqS neg tags x y => (match Go.Eng.eqS tags (ev fr x) (ev fr y) with | some r => some (.b (xor neg r)) | none => none)
  | .convS x => (match ev fr x with | .s l => some (.s l) | _ => none)
  | .un op x => unV op (ev fr x)
  | .convI k x => (match ev fr x with | .i _ n => some (.i k (wrapI k n)) | _ => none)
  | .mkI t x => some (.ifc t (ev fr x))
  | .mkF f cs => some (.f f (evs fr cs))
  | .slStr x lo hi => slStrV (ev fr x) (bnd fr 0 lo) (fun d => bnd fr d hi)
  | .slSl es x lo hi mx => slSlV es (ev fr x) (bnd fr 0 lo) (fun d => bnd fr d hi) (mxO fr mx)
  | .fieldA off x => fieldAV off (ev fr x)
  | .field agg off n x => fieldV agg off n (ev fr x)
  | .idxAArr len es x i => idxAArrV len es (ev fr x) (asN (ev fr i))
  | .idxASl es x i => idxASlV es (ev fr x) (asN (ev fr i))
  | .idxArr agg len es x i => idxArrV agg len es (ev fr x) (asN (ev fr i))
  | .idxStr x i => idxStrV (ev fr x) (asN (ev fr i))
  | .extract x i => extractV i (ev fr x)
  | .lenS x => lenSV (ev fr x)
  | .lenSl x => lenSlV (ev fr x)
  | .mx l => foldVs mx2 (evs fr l)
  | .mn l => foldVs mn2 (evs fr l)
  | .nilck x => nilckV (ev fr x)
  | .ixb x c => ixbV (ev fr x) (ev fr c)
  | .eqF neg tbl x y => (match Go.Eng.eqF tbl (ev fr x) (ev fr y) with | some r => some (.b (xor neg r)) | none => none)
  | .tas c oks z ok x => tasV c oks z ok (ev fr x)

end Go.Eng
