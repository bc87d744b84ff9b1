/- The engine, part Ra: integers, places and values in forms that the kernel evaluates fast. -/
import Derived.Test.YtjngjfgbholgpaaEngR
set_option linter.unusedSimpArgs false
set_option linter.unusedVariables false
namespace Go.Eng

/-! ### Integers -/

noncomputable def nat2 (g : Nat → Nat → Int) (slow : Int → Int → Int) (a b : Int) : Int :=
  Int.rec (motive := fun _ => (Nat → Nat → Int) → (Int → Int → Int) → Int → Int)
    (fun m g slow b => Int.rec (motive := fun _ => (Nat → Nat → Int) → (Int → Int → Int) → Nat → Int) (fun n g _ m => g m n) (fun n _ slow m => slow (.ofNat m) (.negSucc n)) b g slow m)
    (fun m _ slow b => slow (.negSucc m) b) a g slow b

theorem nat2_eq {g : Nat → Nat → Int} {slow : Int → Int → Int} (h : ∀ m n, g m n = slow (.ofNat m) (.ofNat n)) (a b : Int) : nat2 g slow a b = slow a b := by
  cases a <;> cases b <;> first | exact h _ _ | rfl

noncomputable def addJ (a b : Int) : Int := nat2 (fun m n => .ofNat (Nat.add m n)) Int.add a b
noncomputable def subN (m n : Nat) : Int := Bool.rec (motive := fun _ => Nat → Nat → Int) (fun m n => Int.sub (.ofNat m) (.ofNat n)) (fun m n => .ofNat (Nat.sub m n)) (Nat.ble n m) m n
noncomputable def subJ (a b : Int) : Int := nat2 subN Int.sub a b
noncomputable def mulJ (a b : Int) : Int := nat2 (fun m n => .ofNat (Nat.mul m n)) Int.mul a b
noncomputable def tdivJ (a b : Int) : Int := nat2 (fun m n => .ofNat (Nat.div m n)) Int.tdiv a b
noncomputable def tmodJ (a b : Int) : Int := nat2 (fun m n => .ofNat (Nat.mod m n)) Int.tmod a b

theorem addJ_eq (a b : Int) : addJ a b = a + b := nat2_eq (g := fun m n => .ofNat (Nat.add m n)) (slow := Int.add) (fun _ _ => rfl) a b
theorem subJ_eq (a b : Int) : subJ a b = a - b := nat2_eq (fun m n => by
  unfold subN
  cases hb : Nat.ble n m with
  | false => rfl
  | true =>
    have := Nat.le_of_ble_eq_true hb
    exact Int.ofNat_sub this) a b
theorem mulJ_eq (a b : Int) : mulJ a b = a * b := nat2_eq (g := fun m n => .ofNat (Nat.mul m n)) (slow := Int.mul) (fun _ _ => rfl) a b
theorem tdivJ_eq (a b : Int) : tdivJ a b = a.tdiv b := nat2_eq (g := fun m n => .ofNat (Nat.div m n)) (slow := Int.tdiv) (fun _ _ => rfl) a b
theorem tmodJ_eq (a b : Int) : tmodJ a b = a.tmod b := nat2_eq (g := fun m n => .ofNat (Nat.mod m n)) (slow := Int.tmod) (fun _ _ => rfl) a b

noncomputable def eqJ (a b : Int) : Bool :=
  Int.rec (motive := fun _ => Int → Bool) (fun m b => Int.rec (motive := fun _ => Nat → Bool) (fun n m => Nat.beq m n) (fun _ _ => false) b m)
    (fun m b => Int.rec (motive := fun _ => Nat → Bool) (fun _ _ => false) (fun n m => Nat.beq m n) b m) a b
noncomputable def ltJ (a b : Int) : Bool :=
  Int.rec (motive := fun _ => Int → Bool) (fun m b => Int.rec (motive := fun _ => Nat → Bool) (fun n m => Nat.ble (Nat.succ m) n) (fun _ _ => false) b m)
    (fun m b => Int.rec (motive := fun _ => Nat → Bool) (fun _ _ => true) (fun n m => Nat.ble (Nat.succ n) m) b m) a b
theorem eqJ_eq (a b : Int) : eqJ a b = eqI a b := by cases a <;> cases b <;> rfl
theorem ltJ_eq (a b : Int) : ltJ a b = ltI a b := by cases a <;> cases b <;> rfl
noncomputable def notJ (b : Bool) : Bool := Bool.rec true false b
theorem notJ_eq (b : Bool) : notJ b = !b := by cases b <;> rfl

/-- Below which numbers lie that an integer of a kind can be, from 0 on. -/
noncomputable def limJ (k : IntKind) : Nat := IntKind.rec 128 32768 2147483648 9223372036854775808 256 65536 4294967296 18446744073709551616 k
noncomputable def limE (k : IntKind) : Nat := IntKind.rec 7 15 31 63 8 16 32 64 k
noncomputable def bitsJ (k : IntKind) : Nat := IntKind.rec 8 16 32 64 8 16 32 64 k
theorem bitsJ_eq (k : IntKind) : bitsJ k = k.bits := by cases k <;> rfl
theorem limJ_pow (k : IntKind) : limJ k = 2 ^ limE k ∧ limE k ≤ k.bits := by cases k <;> exact ⟨by decide, by decide⟩

theorem wrap_small (k : IntKind) (m : Nat) (h : m < limJ k) : k.wrap (.ofNat m) = .ofNat m := by
  cases k <;> simp [limJ] at h <;> simp [IntKind.wrap, IntKind.bits, IntKind.signed] <;> omega

noncomputable def wrapJ (k : IntKind) (n : Int) : Int :=
  Int.rec (motive := fun _ => IntKind → Int) (fun m k => Bool.rec (motive := fun _ => Nat → IntKind → Int) (fun m k => k.wrap (.ofNat m)) (fun m _ => .ofNat m) (Nat.ble (Nat.succ m) (limJ k)) m k)
    (fun m k => k.wrap (.negSucc m)) n k

theorem wrapJ_eq (k : IntKind) (n : Int) : wrapJ k n = k.wrap n := by
  cases n with
  | negSucc m => rfl
  | ofNat m =>
    show (Bool.rec (motive := fun _ => Nat → IntKind → Int) (fun m k => k.wrap (.ofNat m)) (fun m _ => .ofNat m) (Nat.ble (Nat.succ m) (limJ k)) m k) = _
    cases hb : Nat.ble (Nat.succ m) (limJ k) with
    | false => rfl
    | true => exact (wrap_small k m (Nat.le_of_ble_eq_true hb)).symm

abbrev FJ := IntKind → Int → Int → Option V

noncomputable def iJ (k : IntKind) (n : Int) : Option V := some (.i k n)
noncomputable def bJ (b : Bool) : Option V := some (.b b)
noncomputable def fAdd : FJ := fun k a b => iJ k (wrapJ k (addJ a b))
noncomputable def fSub : FJ := fun k a b => iJ k (wrapJ k (subJ a b))
noncomputable def fMul : FJ := fun k a b => iJ k (wrapJ k (mulJ a b))
noncomputable def fQuo : FJ := fun k a b => Bool.rec (motive := fun _ => IntKind → Int → Int → Option V) (fun k a b => iJ k (wrapJ k (tdivJ a b))) (fun _ _ _ => none) (eqJ b (.ofNat 0)) k a b
noncomputable def fRem : FJ := fun k a b => Bool.rec (motive := fun _ => IntKind → Int → Int → Option V) (fun k a b => iJ k (tmodJ a b)) (fun _ _ _ => none) (eqJ b (.ofNat 0)) k a b
noncomputable def fEql : FJ := fun _ a b => bJ (eqJ a b)
noncomputable def fNeq : FJ := fun _ a b => bJ (notJ (eqJ a b))
noncomputable def fLss : FJ := fun _ a b => bJ (ltJ a b)
noncomputable def fLeq : FJ := fun _ a b => bJ (notJ (ltJ b a))
noncomputable def fGtr : FJ := fun _ a b => bJ (ltJ b a)
noncomputable def fGeq : FJ := fun _ a b => bJ (notJ (ltJ a b))

noncomputable def small2 (k : IntKind) (m n : Nat) : Bool := Bool.rec (motive := fun _ => Nat → Nat → Bool) (fun _ _ => false) (fun n l => Nat.ble (Nat.succ n) l) (Nat.ble (Nat.succ m) (limJ k)) n (limJ k)
noncomputable def bitN (g : Nat → Nat → Nat) (slow : Int → Int → Int) (k : IntKind) (m n : Nat) : Int :=
  Bool.rec (motive := fun _ => (Nat → Nat → Nat) → (Int → Int → Int) → Nat → Nat → Int) (fun _ slow m n => slow (.ofNat m) (.ofNat n)) (fun g _ m n => .ofNat (g m n)) (small2 k m n) g slow m n
noncomputable def bitJ (g : Nat → Nat → Nat) (slow : Int → Int → Int) (k : IntKind) (a b : Int) : Int := nat2 (bitN g slow k) slow a b

theorem small2_spec {k : IntKind} {m n : Nat} (h : small2 k m n = true) : m < limJ k ∧ n < limJ k := by
  unfold small2 at h
  cases hb : Nat.ble (Nat.succ m) (limJ k) with
  | false => rw [hb] at h; cases h
  | true =>
    rw [hb] at h
    exact ⟨Nat.le_of_ble_eq_true hb, Nat.le_of_ble_eq_true h⟩

theorem bitJ_eq {g : Nat → Nat → Nat} {slow : Int → Int → Int} {k : IntKind} (h : ∀ m n, m < limJ k → n < limJ k → Int.ofNat (g m n) = slow (.ofNat m) (.ofNat n)) (a b : Int) : bitJ g slow k a b = slow a b := by
  refine nat2_eq (fun m n => ?_) a b
  unfold bitN
  cases hb : small2 k m n with
  | false => rfl
  | true => obtain ⟨h1, h2⟩ := small2_spec hb; exact h m n h1 h2

theorem ofInt_small {k : IntKind} {m : Nat} (h : m < limJ k) : (BitVec.ofInt k.bits (.ofNat m)).toNat = m := by
  obtain ⟨h1, h2⟩ := limJ_pow k
  have : m < 2 ^ k.bits := Nat.lt_of_lt_of_le (by rw [← h1]; exact h) (Nat.pow_le_pow_right (by decide) h2)
  rw [show (Int.ofNat m) = ((m : Nat) : Int) from rfl, BitVec.ofInt_natCast, BitVec.toNat_ofNat, Nat.mod_eq_of_lt this]

noncomputable def andS (k : IntKind) (x y : Int) : Int := k.wrap (BitVec.ofInt k.bits x &&& BitVec.ofInt k.bits y).toNat
noncomputable def orS (k : IntKind) (x y : Int) : Int := k.wrap (BitVec.ofInt k.bits x ||| BitVec.ofInt k.bits y).toNat
noncomputable def xorS (k : IntKind) (x y : Int) : Int := k.wrap (BitVec.ofInt k.bits x ^^^ BitVec.ofInt k.bits y).toNat

theorem and_fast {k : IntKind} (m n : Nat) (hm : m < limJ k) (hn : n < limJ k) : Int.ofNat (Nat.land m n) = andS k (.ofNat m) (.ofNat n) := by
  unfold andS
  rw [BitVec.toNat_and, ofInt_small hm, ofInt_small hn]
  refine (wrap_small k (m &&& n) ?_).symm
  rw [(limJ_pow k).1] at hn ⊢
  exact Nat.and_lt_two_pow m hn
theorem or_fast {k : IntKind} (m n : Nat) (hm : m < limJ k) (hn : n < limJ k) : Int.ofNat (Nat.lor m n) = orS k (.ofNat m) (.ofNat n) := by
  unfold orS
  rw [BitVec.toNat_or, ofInt_small hm, ofInt_small hn]
  refine (wrap_small k (m ||| n) ?_).symm
  rw [(limJ_pow k).1] at hm hn ⊢
  exact Nat.or_lt_two_pow hm hn
theorem xor_fast {k : IntKind} (m n : Nat) (hm : m < limJ k) (hn : n < limJ k) : Int.ofNat (Nat.xor m n) = xorS k (.ofNat m) (.ofNat n) := by
  unfold xorS
  rw [BitVec.toNat_xor, ofInt_small hm, ofInt_small hn]
  refine (wrap_small k (m ^^^ n) ?_).symm
  rw [(limJ_pow k).1] at hm hn ⊢
  exact Nat.xor_lt_two_pow hm hn

noncomputable def fAnd : FJ := fun k a b => iJ k (bitJ Nat.land (andS k) k a b)
noncomputable def fOr : FJ := fun k a b => iJ k (bitJ Nat.lor (orS k) k a b)
noncomputable def fXor : FJ := fun k a b => iJ k (bitJ Nat.xor (xorS k) k a b)

noncomputable def minJ (a b : Nat) : Nat := Bool.rec (motive := fun _ => Nat → Nat → Nat) (fun _ b => b) (fun a _ => a) (Nat.ble a b) a b
theorem minJ_eq (a b : Nat) : minJ a b = min a b := by
  unfold minJ
  cases hb : Nat.ble a b with
  | true => have := Nat.le_of_ble_eq_true hb; show a = _; omega
  | false =>
    have : ¬ a ≤ b := fun hle => by rw [Nat.ble_eq_true_of_le hle] at hb; cases hb
    show b = _; omega

noncomputable def shlS (k : IntKind) (x y : Int) : Int := k.wrap (x * 2 ^ (min y.toNat k.bits))
noncomputable def shrS (k : IntKind) (x y : Int) : Int := x.fdiv (2 ^ (min y.toNat k.bits))
noncomputable def shlJ (k : IntKind) (a b : Int) : Int := nat2 (fun m n => wrapJ k (.ofNat (Nat.mul m (Nat.pow 2 (minJ n (bitsJ k)))))) (shlS k) a b
noncomputable def shrJ (k : IntKind) (a b : Int) : Int := nat2 (fun m n => .ofNat (Nat.div m (Nat.pow 2 (minJ n (bitsJ k))))) (shrS k) a b
theorem pow_cast (n : Nat) : (2 : Int) ^ n = Int.ofNat (2 ^ n) := by
  show (2 : Int) ^ n = ((2 ^ n : Nat) : Int)
  simp
theorem shlJ_eq (k : IntKind) (a b : Int) : shlJ k a b = shlS k a b := by
  refine nat2_eq (fun m n => ?_) a b
  simp only [wrapJ_eq, minJ_eq, bitsJ_eq, shlS]
  rw [pow_cast]; rfl
theorem shrJ_eq (k : IntKind) (a b : Int) : shrJ k a b = shrS k a b := by
  refine nat2_eq (fun m n => ?_) a b
  simp only [minJ_eq, bitsJ_eq, shrS]
  rw [pow_cast]
  exact Int.ofNat_fdiv m _

noncomputable def fShl : FJ := fun k a b => Bool.rec (motive := fun _ => IntKind → Int → Int → Option V) (fun k a b => iJ k (shlJ k a b)) (fun _ _ _ => none) (ltJ b (.ofNat 0)) k a b
noncomputable def fShr : FJ := fun k a b => Bool.rec (motive := fun _ => IntKind → Int → Int → Option V) (fun k a b => iJ k (shrJ k a b)) (fun _ _ _ => none) (ltJ b (.ofNat 0)) k a b

noncomputable def fSlow (op : BinOp) : FJ := fun k a b => binI op k a b

noncomputable def fOp (op : BinOp) : FJ :=
  match op with
  | .add => fAdd | .sub => fSub | .mul => fMul | .quo => fQuo | .rem => fRem | .and => fAnd | .or => fOr | .xor => fXor | .shl => fShl | .shr => fShr
  | .eql => fEql | .neq => fNeq | .lss => fLss | .leq => fLeq | .gtr => fGtr | .geq => fGeq
  | op => fSlow op

theorem fOp_eq (op : BinOp) (k : IntKind) (a b : Int) : fOp op k a b = binI op k a b := by
  cases op <;> simp only [fOp, fSlow, fAdd, fSub, fMul, fEql, fNeq, fLss, fLeq, fGtr, fGeq, fAnd, fOr, fXor, iJ, bJ, binI, addJ_eq, subJ_eq, mulJ_eq, eqJ_eq, ltJ_eq, notJ_eq, wrapJ_eq, wrapI_eq]
  case quo =>
    unfold fQuo
    rw [eqJ_eq]
    show _ = cond (eqI b (.ofNat 0)) _ _
    cases eqI b (.ofNat 0) with
    | true => rfl
    | false => simp only [iJ, wrapJ_eq, tdivJ_eq, cond_false]
  case rem =>
    unfold fRem
    rw [eqJ_eq]
    show _ = cond (eqI b (.ofNat 0)) _ _
    cases eqI b (.ofNat 0) with
    | true => rfl
    | false => simp only [iJ, tmodJ_eq, cond_false]
  case and => rw [bitJ_eq and_fast]; rfl
  case or => rw [bitJ_eq or_fast]; rfl
  case xor => rw [bitJ_eq xor_fast]; rfl
  case shl =>
    unfold fShl
    rw [ltJ_eq]
    show _ = cond (ltI b (.ofNat 0)) _ _
    cases ltI b (.ofNat 0) with
    | true => rfl
    | false => simp only [iJ, shlJ_eq, cond_false]; rfl
  case shr =>
    unfold fShr
    rw [ltJ_eq]
    show _ = cond (ltI b (.ofNat 0)) _ _
    cases ltI b (.ofNat 0) with
    | true => rfl
    | false => simp only [iJ, shrJ_eq, cond_false]; rfl

noncomputable def sameJ (a b : IntKind) : Bool := IntKind.rec (motive := fun _ => IntKind → Bool) (fun b => IntKind.rec true false false false false false false false b) (fun b => IntKind.rec false true false false false false false false b) (fun b => IntKind.rec false false true false false false false false b) (fun b => IntKind.rec false false false true false false false false b) (fun b => IntKind.rec false false false false true false false false b) (fun b => IntKind.rec false false false false false true false false b) (fun b => IntKind.rec false false false false false false true false b) (fun b => IntKind.rec false false false false false false false true b) a b
theorem sameJ_eq (a b : IntKind) : sameJ a b = sameK a b := by cases a <;> cases b <;> rfl

noncomputable def intV3 (s : Bool) (k1 : IntKind) (n : Int) (k2 : IntKind) (m : Int) (f : FJ) (op : BinOp) (k : Nat) : Option V :=
  Bool.rec (motive := fun _ => IntKind → Int → IntKind → Int → FJ → BinOp → Nat → Option V) (fun k1 n k2 m _ op k => binV op k (.i k1 n) (.i k2 m)) (fun k1 n _ m f _ _ => f k1 n m) s k1 n k2 m f op k
noncomputable def intV2 (k1 : IntKind) (n : Int) (b : V) (f : FJ) (op : BinOp) (k : Nat) : Option V :=
  V.rec (motive_1 := fun _ => IntKind → Int → FJ → BinOp → Nat → Option V) (motive_2 := fun _ => PUnit) (fun zx k1 n f op k => binV op k (.i k1 n) (V.b zx)) (fun zk zn k1 n f op k => intV3 (sameJ k1 zk) k1 n zk zn f op k) (fun zl k1 n f op k => binV op k (.i k1 n) (V.s zl)) (fun zq zo k1 n f op k => binV op k (.i k1 n) (V.p zq zo)) (fun k1 n f op k => binV op k (.i k1 n) V.p0) (fun zq zo zn zc ze zs k1 n f op k => binV op k (.i k1 n) (V.sl zq zo zn zc ze zs)) (fun k1 n f op k => binV op k (.i k1 n) V.sl0) (fun zq k1 n f op k => binV op k (.i k1 n) (V.m zq)) (fun k1 n f op k => binV op k (.i k1 n) V.m0) (fun zq zl _ k1 n f op k => binV op k (.i k1 n) (V.f zq zl)) (fun k1 n f op k => binV op k (.i k1 n) V.f0) (fun zt zv _ k1 n f op k => binV op k (.i k1 n) (V.ifc zt zv)) (fun k1 n f op k => binV op k (.i k1 n) V.i0) (fun zl _ k1 n f op k => binV op k (.i k1 n) (V.a zl)) (fun zl _ k1 n f op k => binV op k (.i k1 n) (V.t zl)) (fun zg k1 n f op k => binV op k (.i k1 n) (V.o zg)) (fun zg zc k1 n f op k => binV op k (.i k1 n) (V.oi zg zc)) (fun zj zc zl zh k1 n f op k => binV op k (.i k1 n) (V.y zj zc zl zh)) PUnit.unit (fun _ _ _ _ => PUnit.unit) b k1 n f op k
noncomputable def intV (a b : V) (f : FJ) (op : BinOp) (k : Nat) : Option V :=
  V.rec (motive_1 := fun _ => V → FJ → BinOp → Nat → Option V) (motive_2 := fun _ => PUnit) (fun zx b f op k => binV op k (V.b zx) b) (fun zk zn b f op k => intV2 zk zn b f op k) (fun zl b f op k => binV op k (V.s zl) b) (fun zq zo b f op k => binV op k (V.p zq zo) b) (fun b f op k => binV op k V.p0 b) (fun zq zo zn zc ze zs b f op k => binV op k (V.sl zq zo zn zc ze zs) b) (fun b f op k => binV op k V.sl0 b) (fun zq b f op k => binV op k (V.m zq) b) (fun b f op k => binV op k V.m0 b) (fun zq zl _ b f op k => binV op k (V.f zq zl) b) (fun b f op k => binV op k V.f0 b) (fun zt zv _ b f op k => binV op k (V.ifc zt zv) b) (fun b f op k => binV op k V.i0 b) (fun zl _ b f op k => binV op k (V.a zl) b) (fun zl _ b f op k => binV op k (V.t zl) b) (fun zg b f op k => binV op k (V.o zg) b) (fun zg zc b f op k => binV op k (V.oi zg zc) b) (fun zj zc zl zh b f op k => binV op k (V.y zj zc zl zh) b) PUnit.unit (fun _ _ _ _ => PUnit.unit) a b f op k

theorem intV_eq (a b : V) (op : BinOp) (k : Nat) : intV a b (fOp op) op k = binV op k a b := by
  cases a <;> try rfl
  rename_i k1 n
  cases b <;> try rfl
  rename_i k2 m
  show intV3 (sameJ k1 k2) k1 n k2 m (fOp op) op k = _
  unfold intV3
  rw [sameJ_eq]
  cases hs : sameK k1 k2 with
  | false => rfl
  | true => simp only [fOp_eq, binV, hs, cond_true]

/-! ### Places of frames -/

noncomputable def valT (t : Tr V) : V := Tr.rec (motive := fun _ => V) undefV (fun _ v _ _ _ => v) t
noncomputable def lefT (t : Tr V) : Tr V := Tr.rec (motive := fun _ => Tr V) .nil (fun l _ _ _ _ => l) t
noncomputable def rigT (t : Tr V) : Tr V := Tr.rec (motive := fun _ => Tr V) .nil (fun _ _ r _ _ => r) t
abbrev GV := Tr V → V
noncomputable def gL (k : GV) : GV := fun t => k (lefT t)
noncomputable def gR (k : GV) : GV := fun t => k (rigT t)
noncomputable def gP (p : Path) : GV := Path.rec (motive := fun _ => GV) valT (fun _ ih => gL ih) (fun _ ih => gR ih) p
noncomputable def gC (v : V) : GV := fun _ => v
noncomputable def gO (o : Opd) : GV := Opd.rec (motive := fun _ => GV) gP gC o

theorem gP_eq : ∀ (p : Path) (t : Tr V), gP p t = t.get undefV p
  | .e, .nil => rfl
  | .e, .nd _ _ _ => rfl
  | .l p, .nil => by show gP p .nil = _; rw [gP_eq p]; rfl
  | .l p, .nd l _ _ => gP_eq p l
  | .r p, .nil => by show gP p .nil = _; rw [gP_eq p]; rfl
  | .r p, .nd _ _ r => gP_eq p r

theorem gO_eq (o : Opd) (t : Tr V) : gO o t = ev t o := by
  cases o with
  | t p => exact gP_eq p t
  | c v => rfl

noncomputable def gArgs (l : List GV) (t : Tr V) : List V := List.rec (motive := fun _ => Tr V → List V) (fun _ => []) (fun g _ ih t => g t :: ih t) l t
theorem gArgs_eq (t : Tr V) : ∀ l : List Opd, gArgs (l.map gO) t = evs t l
  | [] => rfl
  | o :: l => by
    show gO o t :: gArgs (l.map gO) t = ev t o :: evs t l
    rw [gO_eq, gArgs_eq t l]

abbrev SV := Tr V → V → Tr V
noncomputable def sE : SV := fun t x => Tr.rec (motive := fun _ => V → Tr V) (fun _ => .nil) (fun l _ r _ _ x => .nd l x r) t x
noncomputable def sL (k : SV) : SV := fun t x => Tr.rec (motive := fun _ => SV → V → Tr V) (fun _ _ => .nil) (fun l v r _ _ k x => .nd (k l x) v r) t k x
noncomputable def sR (k : SV) : SV := fun t x => Tr.rec (motive := fun _ => SV → V → Tr V) (fun _ _ => .nil) (fun l v r _ _ k x => .nd l v (k r x)) t k x
noncomputable def s0 : SV := fun t _ => t
noncomputable def sP (p : Path) : SV := Path.rec (motive := fun _ => SV) sE (fun _ ih => sL ih) (fun _ ih => sR ih) p
noncomputable def sD (d : Option Path) : SV := Option.rec (motive := fun _ => SV) s0 sP d

theorem sP_eq : ∀ (p : Path) (t : Tr V) (x : V), sP p t x = t.set p x
  | .e, .nil, _ => rfl
  | .e, .nd _ _ _, _ => rfl
  | .l _, .nil, _ => rfl
  | .l p, .nd l v r, x => by show Tr.nd (sP p l x) v r = _; rw [sP_eq p]; rfl
  | .r _, .nil, _ => rfl
  | .r p, .nd l v r, x => by show Tr.nd l v (sP p r x) = _; rw [sP_eq p]; rfl

theorem sD_eq (d : Option Path) (t : Tr V) (x : V) : sD d t x = putD t d x := by
  cases d with
  | none => rfl
  | some p => exact sP_eq p t x

/-! ### Blocks of heaps -/

noncomputable def valO (t : Tr Ob) : Ob := Tr.rec (motive := fun _ => Ob) .dead (fun _ v _ _ _ => v) t
noncomputable def lefO (t : Tr Ob) : Tr Ob := Tr.rec (motive := fun _ => Tr Ob) .nil (fun l _ _ _ _ => l) t
noncomputable def rigO (t : Tr Ob) : Tr Ob := Tr.rec (motive := fun _ => Tr Ob) .nil (fun _ _ r _ _ => r) t
noncomputable def getO (p : Path) (t : Tr Ob) : Ob := Path.rec (motive := fun _ => Tr Ob → Ob) valO (fun _ ih t => ih (lefO t)) (fun _ ih t => ih (rigO t)) p t
theorem getO_eq : ∀ (p : Path) (t : Tr Ob), getO p t = t.get .dead p
  | .e, .nil => rfl
  | .e, .nd _ _ _ => rfl
  | .l p, .nil => by show getO p .nil = _; rw [getO_eq p]; rfl
  | .l p, .nd l _ _ => getO_eq p l
  | .r p, .nil => by show getO p .nil = _; rw [getO_eq p]; rfl
  | .r p, .nd _ _ r => getO_eq p r

noncomputable def iE (t : Tr Ob) (x : Ob) : Tr Ob := Tr.rec (motive := fun _ => Ob → Tr Ob) (fun x => .nd .nil x .nil) (fun l _ r _ _ x => .nd l x r) t x
noncomputable def iL (k : Tr Ob → Ob → Tr Ob) (t : Tr Ob) (x : Ob) : Tr Ob :=
  Tr.rec (motive := fun _ => (Tr Ob → Ob → Tr Ob) → Ob → Tr Ob) (fun k x => .nd (k .nil x) .dead .nil) (fun l v r _ _ k x => .nd (k l x) v r) t k x
noncomputable def iR (k : Tr Ob → Ob → Tr Ob) (t : Tr Ob) (x : Ob) : Tr Ob :=
  Tr.rec (motive := fun _ => (Tr Ob → Ob → Tr Ob) → Ob → Tr Ob) (fun k x => .nd .nil .dead (k .nil x)) (fun l v r _ _ k x => .nd l v (k r x)) t k x
noncomputable def insO (p : Path) (t : Tr Ob) (x : Ob) : Tr Ob := Path.rec (motive := fun _ => Tr Ob → Ob → Tr Ob) iE (fun _ ih => iL ih) (fun _ ih => iR ih) p t x
theorem insO_eq : ∀ (p : Path) (t : Tr Ob) (x : Ob), insO p t x = Tr.ins .dead p t x
  | .e, .nil, _ => rfl
  | .e, .nd _ _ _, _ => rfl
  | .l p, .nil, x => by show Tr.nd (insO p .nil x) .dead .nil = _; rw [insO_eq p]; rfl
  | .l p, .nd l v r, x => by show Tr.nd (insO p l x) v r = _; rw [insO_eq p]; rfl
  | .r p, .nil, x => by show Tr.nd .nil .dead (insO p .nil x) = _; rw [insO_eq p]; rfl
  | .r p, .nd l v r, x => by show Tr.nd l v (insO p r x) = _; rw [insO_eq p]; rfl

noncomputable def nthV (o : Nat) (l : List V) : Option V :=
  Nat.rec (motive := fun _ => List V → Option V) (fun l => List.rec (motive := fun _ => Option V) none (fun v _ _ => some v) l)
    (fun _ ih l => List.rec (motive := fun _ => (List V → Option V) → Option V) (fun _ => none) (fun _ t _ ih => ih t) l ih) o l
theorem nthV_eq : ∀ (o : Nat) (l : List V), nthV o l = l[o]?
  | 0, [] => rfl
  | 0, _ :: _ => rfl
  | _ + 1, [] => rfl
  | o + 1, _ :: l => nthV_eq o l

noncomputable def consO (v : V) (r : Option (List V)) : Option (List V) := Option.rec (motive := fun _ => V → Option (List V)) (fun _ => none) (fun l v => some (v :: l)) r v
noncomputable def setV (o : Nat) (y : V) (l : List V) : Option (List V) :=
  Nat.rec (motive := fun _ => V → List V → Option (List V)) (fun y l => List.rec (motive := fun _ => V → Option (List V)) (fun _ => none) (fun _ t _ y => some (y :: t)) l y)
    (fun _ ih y l => List.rec (motive := fun _ => (V → List V → Option (List V)) → V → Option (List V)) (fun _ _ => none) (fun v t _ ih y => consO v (ih y t)) l ih y) o y l
theorem setV_eq : ∀ (o : Nat) (y : V) (l : List V), setV o y l = splice o [y] l
  | 0, _, [] => rfl
  | 0, _, _ :: _ => rfl
  | _ + 1, _, [] => rfl
  | o + 1, y, v :: l => by
    show consO v (setV o y l) = _
    rw [setV_eq o y l]
    show _ = (Option.casesOn (splice o [y] l) none (fun r => some (v :: r)) : Option (List V))
    cases splice o [y] l <;> rfl

noncomputable def ldOb (ob : Ob) (o : Nat) : Option V := Ob.rec (motive := fun _ => Nat → Option V) (fun _ => none) (fun _ l _ o => nthV o l) (fun _ _ _ => none) (fun _ _ _ _ _ => none) ob o
noncomputable def ld1 (x : V) (h : H) : Option V :=
  V.rec (motive_1 := fun _ => H → Option V) (motive_2 := fun _ => PUnit) (fun zx h => none) (fun zk zn h => none) (fun zl h => none) (fun zq zo h => ldOb (getO zq h.t) zo) (fun h => none) (fun zq zo zn zc ze zs h => none) (fun h => none) (fun zq h => none) (fun h => none) (fun zq zl _ h => none) (fun h => none) (fun zt zv _ h => none) (fun h => none) (fun zl _ h => none) (fun zl _ h => none) (fun zg h => none) (fun zg zc h => none) (fun zj zc zl zh h => none) PUnit.unit (fun _ _ _ _ => PUnit.unit) x h
theorem ld1_eq (x : V) (h : H) : ld1 x h = loadV h false 1 x := by
  cases x <;> try rfl
  rename_i b o
  show ldOb (getO b h.t) o = _
  rw [getO_eq]
  show ldOb (h.get b) o = match loadC h b o 1 with | some l => pick1 false l | none => none
  unfold loadC
  cases h.get b <;> try rfl
  rename_i ro l e
  show nthV o l = _
  rw [nthV_eq]
  simp only [takeE_eq, ldrop_eq, List.length_drop]
  cases hl : l[o]? with
  | none =>
    rw [List.getElem?_eq_none_iff] at hl
    rw [if_neg (by omega)]
  | some v =>
    have hlt := (List.getElem?_eq_some_iff.1 hl).1
    rw [if_pos (by omega), List.drop_eq_getElem_cons hlt]
    simp only [List.take_succ_cons, List.take_zero, pick1]
    rw [List.getElem?_eq_getElem hlt] at hl
    exact hl.symm

/-- Is it a value of one cell? -/
noncomputable def oneJ (v : V) : Bool := V.rec (motive_1 := fun _ => Bool) (motive_2 := fun _ => PUnit) (fun zx => true) (fun zk zn => true) (fun zl => true) (fun zq zo => true) (true) (fun zq zo zn zc ze zs => true) (true) (fun zq => true) (true) (fun zq zl _ => true) (true) (fun zt zv _ => true) (true) (fun zl _ => false) (fun zl _ => false) (fun zg => true) (fun zg zc => true) (fun zj zc zl zh => true) PUnit.unit (fun _ _ _ _ => PUnit.unit) v

noncomputable def st1r (r : Option (List V)) (e : Nat) (b : Path) (h : H) : HR :=
  Option.rec (motive := fun _ => Nat → Path → H → HR) (fun _ _ _ => .fail) (fun l e b h => .v undefV ⟨insO b h.t (.c false l e), h.n⟩) r e b h
noncomputable def st1c (ro : Bool) (l : List V) (e : Nat) (o : Nat) (y : V) (b : Path) (h : H) : HR :=
  Bool.rec (motive := fun _ => List V → Nat → Nat → V → Path → H → HR) (fun l e o y b h => st1r (setV o y l) e b h) (fun _ _ _ _ _ _ => .fail) ro l e o y b h
noncomputable def st1o (ob : Ob) (o : Nat) (y : V) (b : Path) (h : H) : HR :=
  Ob.rec (motive := fun _ => Nat → V → Path → H → HR) (fun _ _ _ _ => .fail) (fun ro l e o y b h => st1c ro l e o y b h) (fun _ _ _ _ _ _ => .fail) (fun _ _ _ _ _ _ _ _ => .fail) ob o y b h
noncomputable def st1p (one : Bool) (b : Path) (o : Nat) (y : V) (h : H) : HR :=
  Bool.rec (motive := fun _ => Path → Nat → V → H → HR) (fun b o y h => storeV h 1 (.p b o) y) (fun b o y h => st1o (getO b h.t) o y b h) one b o y h
noncomputable def st1 (x y : V) (h : H) : HR :=
  V.rec (motive_1 := fun _ => V → H → HR) (motive_2 := fun _ => PUnit) (fun zx y h => storeV h 1 (V.b zx) y) (fun zk zn y h => storeV h 1 (V.i zk zn) y) (fun zl y h => storeV h 1 (V.s zl) y) (fun zq zo y h => st1p (oneJ y) zq zo y h) (fun y h => storeV h 1 V.p0 y) (fun zq zo zn zc ze zs y h => storeV h 1 (V.sl zq zo zn zc ze zs) y) (fun y h => storeV h 1 V.sl0 y) (fun zq y h => storeV h 1 (V.m zq) y) (fun y h => storeV h 1 V.m0 y) (fun zq zl _ y h => storeV h 1 (V.f zq zl) y) (fun y h => storeV h 1 V.f0 y) (fun zt zv _ y h => storeV h 1 (V.ifc zt zv) y) (fun y h => storeV h 1 V.i0 y) (fun zl _ y h => storeV h 1 (V.a zl) y) (fun zl _ y h => storeV h 1 (V.t zl) y) (fun zg y h => storeV h 1 (V.o zg) y) (fun zg zc y h => storeV h 1 (V.oi zg zc) y) (fun zj zc zl zh y h => storeV h 1 (V.y zj zc zl zh) y) PUnit.unit (fun _ _ _ _ => PUnit.unit) x y h
theorem st1_eq (x y : V) (h : H) : st1 x y h = storeV h 1 x y := by
  cases x <;> try rfl
  rename_i b o
  show st1p (oneJ y) b o y h = _
  have key : cellsOf y = some [y] → st1o (getO b h.t) o y b h = storeV h 1 (.p b o) y := by
    intro hc
    rw [getO_eq]
    show st1o (h.get b) o y b h = match cellsOf y with
      | some l => cond (Nat.beq l.length 1) (match storeC h b o l with | some h => .v undefV h | none => .fail) .fail
      | none => .fail
    rw [hc]
    show _ = match storeC h b o [y] with | some h => HR.v undefV h | none => .fail
    unfold storeC storeOb
    cases h.get b <;> try rfl
    rename_i ro l e
    cases ro
    · show st1r (setV o y l) e b h = _
      rw [setV_eq]
      simp only []
      cases hsp : splice o [y] l with
      | none => simp only [Option.map_none]; rfl
      | some l' =>
        simp only [Option.map_some]
        show HR.v undefV ⟨insO b h.t (.c false l' e), h.n⟩ = HR.v undefV (h.put b (.c false l' e))
        rw [insO_eq]; rfl
    · rfl
  cases y <;> first | rfl | exact key rfl

end Go.Eng
