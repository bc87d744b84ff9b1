/- The evaluator: a machine for the model's code that the kernel can run, proved sound. -/
import Derived.Test.YtglgibmjcgfecaaGreatDoorEngO
import Derived.Test.YtglgibmjcgfecaaGreatDoorEngY
set_option linter.unusedSimpArgs false
set_option linter.unusedVariables false
namespace Go.Eng

/-! ### Integers -/

noncomputable def nat2 (g : Nat → Nat → Int) (slow : Int → Int → Int) (a b : Int) : Int :=
  Int.rec (motive := fun _ => (Nat → Nat → Int) → (Int → Int → Int) → Int → Int)
    (fun m g slow b => Int.rec (motive := fun _ => (Nat → Nat → Int) → (Int → Int → Int) → Nat → Int) (fun n g _ m => g m n) (fun n _ slow m => slow (.ofNat m) (.negSucc n)) b g slow m)
    (fun m _ slow b => slow (.negSucc m) b) a g slow b

theorem nat2_eq {g : Nat → Nat → Int} {slow : Int → Int → Int} (h : ∀ m n, g m n = slow (.ofNat m) (.ofNat n)) (a b : Int) : nat2 g slow a b = slow a b := by
  cases a <;> cases b <;> first | exact h _ _ | rfl

noncomputable def addJ (a b : Int) : Int := nat2 (fun m n => .ofNat (Nat.add m n)) Int.add a b
noncomputable def subN (m n : Nat) : Int := Bool.rec (motive := fun _ => Nat → Nat → Int) (fun m n => Int.sub (.ofNat m) (.ofNat n)) (fun m n => .ofNat (Nat.sub m n)) (Nat.ble n m) m n
noncomputable def subJ (a b : Int) : Int := nat2 subN Int.sub a b
noncomputable def mulJ (a b : Int) : Int := nat2 (fun m n => .ofNat (Nat.mul m n)) Int.mul a b
noncomputable def tdivJ (a b : Int) : Int := nat2 (fun m n => .ofNat (Nat.div m n)) Int.tdiv a b
noncomputable def tmodJ (a b : Int) : Int := nat2 (fun m n => .ofNat (Nat.mod m n)) Int.tmod a b

theorem addJ_eq (a b : Int) : addJ a b = a + b := nat2_eq (g := fun m n => .ofNat (Nat.add m n)) (slow := Int.add) (fun _ _ => rfl) a b
theorem subJ_eq (a b : Int) : subJ a b = a - b := nat2_eq (fun m n => by
  unfold subN
  cases hb : Nat.ble n m with
  | false => rfl
  | true =>
    have := Nat.le_of_ble_eq_true hb
    exact Int.ofNat_sub this) a b
theorem mulJ_eq (a b : Int) : mulJ a b = a * b := nat2_eq (g := fun m n => .ofNat (Nat.mul m n)) (slow := Int.mul) (fun _ _ => rfl) a b
theorem tdivJ_eq (a b : Int) : tdivJ a b = a.tdiv b := nat2_eq (g := fun m n => .ofNat (Nat.div m n)) (slow := Int.tdiv) (fun _ _ => rfl) a b
theorem tmodJ_eq (a b : Int) : tmodJ a b = a.tmod b := nat2_eq (g := fun m n => .ofNat (Nat.mod m n)) (slow := Int.tmod) (fun _ _ => rfl) a b

noncomputable def eqJ (a b : Int) : Bool :=
  Int.rec (motive := fun _ => Int → Bool) (fun m b => Int.rec (motive := fun _ => Nat → Bool) (fun n m => Nat.beq m n) (fun _ _ => false) b m)
    (fun m b => Int.rec (motive := fun _ => Nat → Bool) (fun _ _ => false) (fun n m => Nat.beq m n) b m) a b
noncomputable def ltJ (a b : Int) : Bool :=
  Int.rec (motive := fun _ => Int → Bool) (fun m b => Int.rec (motive := fun _ => Nat → Bool) (fun n m => Nat.ble (Nat.succ m) n) (fun _ _ => false) b m)
    (fun m b => Int.rec (motive := fun _ => Nat → Bool) (fun _ _ => true) (fun n m => Nat.ble (Nat.succ n) m) b m) a b
theorem eqJ_eq (a b : Int) : eqJ a b = eqI a b := by cases a <;> cases b <;> rfl
theorem ltJ_eq (a b : Int) : ltJ a b = ltI a b := by cases a <;> cases b <;> rfl
noncomputable def notJ (b : Bool) : Bool := Bool.rec true false b
theorem notJ_eq (b : Bool) : notJ b = !b := by cases b <;> rfl

/-- Below which numbers lie that an integer of a kind can be, from 0 on. -/
noncomputable def limJ (k : IntKind) : Nat := IntKind.rec 128 32768 2147483648 9223372036854775808 256 65536 4294967296 18446744073709551616 k
noncomputable def limE (k : IntKind) : Nat := IntKind.rec 7 15 31 63 8 16 32 64 k
noncomputable def bitsJ (k : IntKind) : Nat := IntKind.rec 8 16 32 64 8 16 32 64 k
theorem bitsJ_eq (k : IntKind) : bitsJ k = k.bits := by cases k <;> rfl
theorem limJ_pow (k : IntKind) : limJ k = 2 ^ limE k ∧ limE k ≤ k.bits := by cases k <;> exact ⟨by decide, by decide⟩

theorem wrap_small (k : IntKind) (m : Nat) (h : m < limJ k) : k.wrap (.ofNat m) = .ofNat m := by
  cases k <;> simp [limJ] at h <;> simp [IntKind.wrap, IntKind.bits, IntKind.signed] <;> omega

noncomputable def wrapJ (k : IntKind) (n : Int) : Int :=
  Int.rec (motive := fun _ => IntKind → Int) (fun m k => Bool.rec (motive := fun _ => Nat → IntKind → Int) (fun m k => k.wrap (.ofNat m)) (fun m _ => .ofNat m) (Nat.ble (Nat.succ m) (limJ k)) m k)
    (fun m k => k.wrap (.negSucc m)) n k

theorem wrapJ_eq (k : IntKind) (n : Int) : wrapJ k n = k.wrap n := by
  cases n with
  | negSucc m => rfl
  | ofNat m =>
    show (Bool.rec (motive := fun _ => Nat → IntKind → Int) (fun m k => k.wrap (.ofNat m)) (fun m _ => .ofNat m) (Nat.ble (Nat.succ m) (limJ k)) m k) = _
    cases hb : Nat.ble (Nat.succ m) (limJ k) with
    | false => rfl
    | true => exact (wrap_small k m (Nat.le_of_ble_eq_true hb)).symm

abbrev FJ := IntKind → Int → Int → Option V

noncomputable def iJ (k : IntKind) (n : Int) : Option V := some (.i k n)
noncomputable def bJ (b : Bool) : Option V := some (.b b)
noncomputable def fAdd : FJ := fun k a b => iJ k (wrapJ k (addJ a b))
noncomputable def fSub : FJ := fun k a b => iJ k (wrapJ k (subJ a b))
noncomputable def fMul : FJ := fun k a b => iJ k (wrapJ k (mulJ a b))
noncomputable def fQuo : FJ := fun k a b => Bool.rec (motive := fun _ => IntKind → Int → Int → Option V) (fun k a b => iJ k (wrapJ k (tdivJ a b))) (fun _ _ _ => none) (eqJ b (.ofNat 0)) k a b
noncomputable def fRem : FJ := fun k a b => Bool.rec (motive := fun _ => IntKind → Int → Int → Option V) (fun k a b => iJ k (tmodJ a b)) (fun _ _ _ => none) (eqJ b (.ofNat 0)) k a b
noncomputable def fEql : FJ := fun _ a b => bJ (eqJ a b)
noncomputable def fNeq : FJ := fun _ a b => bJ (notJ (eqJ a b))
noncomputable def fLss : FJ := fun _ a b => bJ (ltJ a b)
noncomputable def fLeq : FJ := fun _ a b => bJ (notJ (ltJ b a))
noncomputable def fGtr : FJ := fun _ a b => bJ (ltJ b a)
noncomputable def fGeq : FJ := fun _ a b => bJ (notJ (ltJ a b))

noncomputable def small2 (k : IntKind) (m n : Nat) : Bool := Bool.rec (motive := fun _ => Nat → Nat → Bool) (fun _ _ => false) (fun n l => Nat.ble (Nat.succ n) l) (Nat.ble (Nat.succ m) (limJ k)) n (limJ k)
noncomputable def bitN (g : Nat → Nat → Nat) (slow : Int → Int → Int) (k : IntKind) (m n : Nat) : Int :=
  Bool.rec (motive := fun _ => (Nat → Nat → Nat) → (Int → Int → Int) → Nat → Nat → Int) (fun _ slow m n => slow (.ofNat m) (.ofNat n)) (fun g _ m n => .ofNat (g m n)) (small2 k m n) g slow m n
noncomputable def bitJ (g : Nat → Nat → Nat) (slow : Int → Int → Int) (k : IntKind) (a b : Int) : Int := nat2 (bitN g slow k) slow a b

theorem small2_spec {k : IntKind} {m n : Nat} (h : small2 k m n = true) : m < limJ k ∧ n < limJ k := by
  unfold small2 at h
  cases hb : Nat.ble (Nat.succ m) (limJ k) with
  | false => rw [hb] at h; cases h
  | true =>
    rw [hb] at h
    exact ⟨Nat.le_of_ble_eq_true hb, Nat.le_of_ble_eq_true h⟩

theorem bitJ_eq {g : Nat → Nat → Nat} {slow : Int → Int → Int} {k : IntKind} (h : ∀ m n, m < limJ k → n < limJ k → Int.ofNat (g m n) = slow (.ofNat m) (.ofNat n)) (a b : Int) : bitJ g slow k a b = slow a b := by
  refine nat2_eq (fun m n => ?_) a b
  unfold bitN
  cases hb : small2 k m n with
  | false => rfl
  | true => obtain ⟨h1, h2⟩ := small2_spec hb; exact h m n h1 h2

theorem ofInt_small {k : IntKind} {m : Nat} (h : m < limJ k) : (BitVec.ofInt k.bits (.ofNat m)).toNat = m := by
  obtain ⟨h1, h2⟩ := limJ_pow k
  have : m < 2 ^ k.bits := Nat.lt_of_lt_of_le (by rw [← h1]; exact h) (Nat.pow_le_pow_right (by decide) h2)
  rw [show (Int.ofNat m) = ((m : Nat) : Int) from rfl, BitVec.ofInt_natCast, BitVec.toNat_ofNat, Nat.mod_eq_of_lt this]

noncomputable def andS (k : IntKind) (x y : Int) : Int := k.wrap (BitVec.ofInt k.bits x &&& BitVec.ofInt k.bits y).toNat
noncomputable def orS (k : IntKind) (x y : Int) : Int := k.wrap (BitVec.ofInt k.bits x ||| BitVec.ofInt k.bits y).toNat
noncomputable def xorS (k : IntKind) (x y : Int) : Int := k.wrap (BitVec.ofInt k.bits x ^^^ BitVec.ofInt k.bits y).toNat

theorem and_fast {k : IntKind} (m n : Nat) (hm : m < limJ k) (hn : n < limJ k) : Int.ofNat (Nat.land m n) = andS k (.ofNat m) (.ofNat n) := by
  unfold andS
  rw [BitVec.toNat_and, ofInt_small hm, ofInt_small hn]
  refine (wrap_small k (m &&& n) ?_).symm
  rw [(limJ_pow k).1] at hn ⊢
  exact Nat.and_lt_two_pow m hn
theorem or_fast {k : IntKind} (m n : Nat) (hm : m < limJ k) (hn : n < limJ k) : Int.ofNat (Nat.lor m n) = orS k (.ofNat m) (.ofNat n) := by
  unfold orS
  rw [BitVec.toNat_or, ofInt_small hm, ofInt_small hn]
  refine (wrap_small k (m ||| n) ?_).symm
  rw [(limJ_pow k).1] at hm hn ⊢
  exact Nat.or_lt_two_pow hm hn
theorem xor_fast {k : IntKind} (m n : Nat) (hm : m < limJ k) (hn : n < limJ k) : Int.ofNat (Nat.xor m n) = xorS k (.ofNat m) (.ofNat n) := by
  unfold xorS
  rw [BitVec.toNat_xor, ofInt_small hm, ofInt_small hn]
  refine (wrap_small k (m ^^^ n) ?_).symm
  rw [(limJ_pow k).1] at hm hn ⊢
  exact Nat.xor_lt_two_pow hm hn

noncomputable def fAnd : FJ := fun k a b => iJ k (bitJ Nat.land (andS k) k a b)
noncomputable def fOr : FJ := fun k a b => iJ k (bitJ Nat.lor (orS k) k a b)
noncomputable def fXor : FJ := fun k a b => iJ k (bitJ Nat.xor (xorS k) k a b)

noncomputable def minJ (a b : Nat) : Nat := Bool.rec (motive := fun _ => Nat → Nat → Nat) (fun _ b => b) (fun a _ => a) (Nat.ble a b) a b
theorem minJ_eq (a b : Nat) : minJ a b = min a b := by
  unfold minJ
  cases hb : Nat.ble a b with
  | true => have := Nat.le_of_ble_eq_true hb; show a = _; omega
  | false =>
    have : ¬ a ≤ b := fun hle => by rw [Nat.ble_eq_true_of_le hle] at hb; cases hb
    show b = _; omega

noncomputable def shlS (k : IntKind) (x y : Int) : Int := k.wrap (x * 2 ^ (min y.toNat k.bits))
noncomputable def shrS (k : IntKind) (x y : Int) : Int := x.fdiv (2 ^ (min y.toNat k.bits))
noncomputable def shlJ (k : IntKind) (a b : Int) : Int := nat2 (fun m n => wrapJ k (.ofNat (Nat.mul m (Nat.pow 2 (minJ n (bitsJ k)))))) (shlS k) a b
noncomputable def shrJ (k : IntKind) (a b : Int) : Int := nat2 (fun m n => .ofNat (Nat.div m (Nat.pow 2 (minJ n (bitsJ k))))) (shrS k) a b
theorem pow_cast (n : Nat) : (2 : Int) ^ n = Int.ofNat (2 ^ n) := by
  show (2 : Int) ^ n = ((2 ^ n : Nat) : Int)
  simp
theorem shlJ_eq (k : IntKind) (a b : Int) : shlJ k a b = shlS k a b := by
  refine nat2_eq (fun m n => ?_) a b
  simp only [wrapJ_eq, minJ_eq, bitsJ_eq, shlS]
  rw [pow_cast]; rfl
theorem shrJ_eq (k : IntKind) (a b : Int) : shrJ k a b = shrS k a b := by
  refine nat2_eq (fun m n => ?_) a b
  simp only [minJ_eq, bitsJ_eq, shrS]
  rw [pow_cast]
  exact Int.ofNat_fdiv m _

noncomputable def fShl : FJ := fun k a b => Bool.rec (motive := fun _ => IntKind → Int → Int → Option V) (fun k a b => iJ k (shlJ k a b)) (fun _ _ _ => none) (ltJ b (.ofNat 0)) k a b
noncomputable def fShr : FJ := fun k a b => Bool.rec (motive := fun _ => IntKind → Int → Int → Option V) (fun k a b => iJ k (shrJ k a b)) (fun _ _ _ => none) (ltJ b (.ofNat 0)) k a b

noncomputable def fSlow (op : BinOp) : FJ := fun k a b => binI op k a b

noncomputable def fOp (op : BinOp) : FJ :=
  match op with
  | .add => fAdd | .sub => fSub | .mul => fMul | .quo => fQuo | .rem => fRem | .and => fAnd | .or => fOr | .xor => fXor | .shl => fShl | .shr => fShr
  | .eql => fEql | .neq => fNeq | .lss => fLss | .leq => fLeq | .gtr => fGtr | .geq => fGeq
  | op => fSlow op

theorem fOp_eq (op : BinOp) (k : IntKind) (a b : Int) : fOp op k a b = binI op k a b := by
  cases op <;> simp only [fOp, fSlow, fAdd, fSub, fMul, fEql, fNeq, fLss, fLeq, fGtr, fGeq, fAnd, fOr, fXor, iJ, bJ, binI, addJ_eq, subJ_eq, mulJ_eq, eqJ_eq, ltJ_eq, notJ_eq, wrapJ_eq, wrapI_eq]
  case quo =>
    unfold fQuo
    rw [eqJ_eq]
    show _ = cond (eqI b (.ofNat 0)) _ _
    cases eqI b (.ofNat 0) with
    | true => rfl
    | false => simp only [iJ, wrapJ_eq, tdivJ_eq, cond_false]
  case rem =>
    unfold fRem
    rw [eqJ_eq]
    show _ = cond (eqI b (.ofNat 0)) _ _
    cases eqI b (.ofNat 0) with
    | true => rfl
    | false => simp only [iJ, tmodJ_eq, cond_false]
  case and => rw [bitJ_eq and_fast]; rfl
  case or => rw [bitJ_eq or_fast]; rfl
  case xor => rw [bitJ_eq xor_fast]; rfl
  case shl =>
    unfold fShl
    rw [ltJ_eq]
    show _ = cond (ltI b (.ofNat 0)) _ _
    cases ltI b (.ofNat 0) with
    | true => rfl
    | false => simp only [iJ, shlJ_eq, cond_false]; rfl
  case shr =>
    unfold fShr
    rw [ltJ_eq]
    show _ = cond (ltI b (.ofNat 0)) _ _
    cases ltI b (.ofNat 0) with
    | true => rfl
    | false => simp only [iJ, shrJ_eq, cond_false]; rfl

noncomputable def sameJ (a b : IntKind) : Bool := IntKind.rec (motive := fun _ => IntKind → Bool) (fun b => IntKind.rec true false false false false false false false b) (fun b => IntKind.rec false true false false false false false false b) (fun b => IntKind.rec false false true false false false false false b) (fun b => IntKind.rec false false false true false false false false b) (fun b => IntKind.rec false false false false true false false false b) (fun b => IntKind.rec false false false false false true false false b) (fun b => IntKind.rec false false false false false false true false b) (fun b => IntKind.rec false false false false false false false true b) a b
theorem sameJ_eq (a b : IntKind) : sameJ a b = sameK a b := by cases a <;> cases b <;> rfl

noncomputable def intV3 (s : Bool) (k1 : IntKind) (n : Int) (k2 : IntKind) (m : Int) (f : FJ) (op : BinOp) (k : Nat) : Option V :=
  Bool.rec (motive := fun _ => IntKind → Int → IntKind → Int → FJ → BinOp → Nat → Option V) (fun k1 n k2 m _ op k => binV op k (.i k1 n) (.i k2 m)) (fun k1 n _ m f _ _ => f k1 n m) s k1 n k2 m f op k
noncomputable def intV2 (k1 : IntKind) (n : Int) (b : V) (f : FJ) (op : BinOp) (k : Nat) : Option V :=
  V.rec (motive_1 := fun _ => IntKind → Int → FJ → BinOp → Nat → Option V) (motive_2 := fun _ => PUnit) (fun zx k1 n f op k => binV op k (.i k1 n) (V.b zx)) (fun zk zn k1 n f op k => intV3 (sameJ k1 zk) k1 n zk zn f op k) (fun zl k1 n f op k => binV op k (.i k1 n) (V.s zl)) (fun zq zo k1 n f op k => binV op k (.i k1 n) (V.p zq zo)) (fun k1 n f op k => binV op k (.i k1 n) V.p0) (fun zq zo zn zc ze zs k1 n f op k => binV op k (.i k1 n) (V.sl zq zo zn zc ze zs)) (fun k1 n f op k => binV op k (.i k1 n) V.sl0) (fun zq k1 n f op k => binV op k (.i k1 n) (V.m zq)) (fun k1 n f op k => binV op k (.i k1 n) V.m0) (fun zq zl _ k1 n f op k => binV op k (.i k1 n) (V.f zq zl)) (fun k1 n f op k => binV op k (.i k1 n) V.f0) (fun zt zv _ k1 n f op k => binV op k (.i k1 n) (V.ifc zt zv)) (fun k1 n f op k => binV op k (.i k1 n) V.i0) (fun zl _ k1 n f op k => binV op k (.i k1 n) (V.a zl)) (fun zl _ k1 n f op k => binV op k (.i k1 n) (V.t zl)) (fun zg k1 n f op k => binV op k (.i k1 n) (V.o zg)) (fun zg zc k1 n f op k => binV op k (.i k1 n) (V.oi zg zc)) (fun zj zc zl zh k1 n f op k => binV op k (.i k1 n) (V.y zj zc zl zh)) PUnit.unit (fun _ _ _ _ => PUnit.unit) b k1 n f op k
noncomputable def intV (a b : V) (f : FJ) (op : BinOp) (k : Nat) : Option V :=
  V.rec (motive_1 := fun _ => V → FJ → BinOp → Nat → Option V) (motive_2 := fun _ => PUnit) (fun zx b f op k => binV op k (V.b zx) b) (fun zk zn b f op k => intV2 zk zn b f op k) (fun zl b f op k => binV op k (V.s zl) b) (fun zq zo b f op k => binV op k (V.p zq zo) b) (fun b f op k => binV op k V.p0 b) (fun zq zo zn zc ze zs b f op k => binV op k (V.sl zq zo zn zc ze zs) b) (fun b f op k => binV op k V.sl0 b) (fun zq b f op k => binV op k (V.m zq) b) (fun b f op k => binV op k V.m0 b) (fun zq zl _ b f op k => binV op k (V.f zq zl) b) (fun b f op k => binV op k V.f0 b) (fun zt zv _ b f op k => binV op k (V.ifc zt zv) b) (fun b f op k => binV op k V.i0 b) (fun zl _ b f op k => binV op k (V.a zl) b) (fun zl _ b f op k => binV op k (V.t zl) b) (fun zg b f op k => binV op k (V.o zg) b) (fun zg zc b f op k => binV op k (V.oi zg zc) b) (fun zj zc zl zh b f op k => binV op k (V.y zj zc zl zh) b) PUnit.unit (fun _ _ _ _ => PUnit.unit) a b f op k

theorem intV_eq (a b : V) (op : BinOp) (k : Nat) : intV a b (fOp op) op k = binV op k a b := by
  cases a <;> try rfl
  rename_i k1 n
  cases b <;> try rfl
  rename_i k2 m
  show intV3 (sameJ k1 k2) k1 n k2 m (fOp op) op k = _
  unfold intV3
  rw [sameJ_eq]
  cases hs : sameK k1 k2 with
  | false => rfl
  | true => simp only [fOp_eq, binV, hs, cond_true]

/-! ### Places of frames -/

noncomputable def valT (t : Tr V) : V := Tr.rec (motive := fun _ => V) undefV (fun _ v _ _ _ => v) t
noncomputable def lefT (t : Tr V) : Tr V := Tr.rec (motive := fun _ => Tr V) .nil (fun l _ _ _ _ => l) t
noncomputable def rigT (t : Tr V) : Tr V := Tr.rec (motive := fun _ => Tr V) .nil (fun _ _ r _ _ => r) t
abbrev GV := Tr V → V
noncomputable def gL (k : GV) : GV := fun t => k (lefT t)
noncomputable def gR (k : GV) : GV := fun t => k (rigT t)
noncomputable def gP (p : Path) : GV := Path.rec (motive := fun _ => GV) valT (fun _ ih => gL ih) (fun _ ih => gR ih) p
noncomputable def gC (v : V) : GV := fun _ => v
noncomputable def gO (o : Opd) : GV := Opd.rec (motive := fun _ => GV) gP gC o

theorem gP_eq : ∀ (p : Path) (t : Tr V), gP p t = t.get undefV p
  | .e, .nil => rfl
  | .e, .nd _ _ _ => rfl
  | .l p, .nil => by show gP p .nil = _; rw [gP_eq p]; rfl
  | .l p, .nd l _ _ => gP_eq p l
  | .r p, .nil => by show gP p .nil = _; rw [gP_eq p]; rfl
  | .r p, .nd _ _ r => gP_eq p r

theorem gO_eq (o : Opd) (t : Tr V) : gO o t = ev t o := by
  cases o with
  | t p => exact gP_eq p t
  | c v => rfl

noncomputable def gArgs (l : List GV) (t : Tr V) : List V := List.rec (motive := fun _ => Tr V → List V) (fun _ => []) (fun g _ ih t => g t :: ih t) l t
theorem gArgs_eq (t : Tr V) : ∀ l : List Opd, gArgs (l.map gO) t = evs t l
  | [] => rfl
  | o :: l => by
    show gO o t :: gArgs (l.map gO) t = ev t o :: evs t l
    rw [gO_eq, gArgs_eq t l]

abbrev SV := Tr V → V → Tr V
noncomputable def sE : SV := fun t x => Tr.rec (motive := fun _ => V → Tr V) (fun _ => .nil) (fun l _ r _ _ x => .nd l x r) t x
noncomputable def sL (k : SV) : SV := fun t x => Tr.rec (motive := fun _ => SV → V → Tr V) (fun _ _ => .nil) (fun l v r _ _ k x => .nd (k l x) v r) t k x
noncomputable def sR (k : SV) : SV := fun t x => Tr.rec (motive := fun _ => SV → V → Tr V) (fun _ _ => .nil) (fun l v r _ _ k x => .nd l v (k r x)) t k x
noncomputable def s0 : SV := fun t _ => t
noncomputable def sP (p : Path) : SV := Path.rec (motive := fun _ => SV) sE (fun _ ih => sL ih) (fun _ ih => sR ih) p
noncomputable def sD (d : Option Path) : SV := Option.rec (motive := fun _ => SV) s0 sP d

theorem sP_eq : ∀ (p : Path) (t : Tr V) (x : V), sP p t x = t.set p x
  | .e, .nil, _ => rfl
  | .e, .nd _ _ _, _ => rfl
  | .l _, .nil, _ => rfl
  | .l p, .nd l v r, x => by show Tr.nd (sP p l x) v r = _; rw [sP_eq p]; rfl
  | .r _, .nil, _ => rfl
  | .r p, .nd l v r, x => by show Tr.nd l v (sP p r x) = _; rw [sP_eq p]; rfl

theorem sD_eq (d : Option Path) (t : Tr V) (x : V) : sD d t x = putD t d x := by
  cases d with
  | none => rfl
  | some p => exact sP_eq p t x

/-! ### Blocks of heaps -/

noncomputable def valO (t : Tr Ob) : Ob := Tr.rec (motive := fun _ => Ob) .dead (fun _ v _ _ _ => v) t
noncomputable def lefO (t : Tr Ob) : Tr Ob := Tr.rec (motive := fun _ => Tr Ob) .nil (fun l _ _ _ _ => l) t
noncomputable def rigO (t : Tr Ob) : Tr Ob := Tr.rec (motive := fun _ => Tr Ob) .nil (fun _ _ r _ _ => r) t
noncomputable def getO (p : Path) (t : Tr Ob) : Ob := Path.rec (motive := fun _ => Tr Ob → Ob) valO (fun _ ih t => ih (lefO t)) (fun _ ih t => ih (rigO t)) p t
theorem getO_eq : ∀ (p : Path) (t : Tr Ob), getO p t = t.get .dead p
  | .e, .nil => rfl
  | .e, .nd _ _ _ => rfl
  | .l p, .nil => by show getO p .nil = _; rw [getO_eq p]; rfl
  | .l p, .nd l _ _ => getO_eq p l
  | .r p, .nil => by show getO p .nil = _; rw [getO_eq p]; rfl
  | .r p, .nd _ _ r => getO_eq p r

noncomputable def iE (t : Tr Ob) (x : Ob) : Tr Ob := Tr.rec (motive := fun _ => Ob → Tr Ob) (fun x => .nd .nil x .nil) (fun l _ r _ _ x => .nd l x r) t x
noncomputable def iL (k : Tr Ob → Ob → Tr Ob) (t : Tr Ob) (x : Ob) : Tr Ob :=
  Tr.rec (motive := fun _ => (Tr Ob → Ob → Tr Ob) → Ob → Tr Ob) (fun k x => .nd (k .nil x) .dead .nil) (fun l v r _ _ k x => .nd (k l x) v r) t k x
noncomputable def iR (k : Tr Ob → Ob → Tr Ob) (t : Tr Ob) (x : Ob) : Tr Ob :=
  Tr.rec (motive := fun _ => (Tr Ob → Ob → Tr Ob) → Ob → Tr Ob) (fun k x => .nd .nil .dead (k .nil x)) (fun l v r _ _ k x => .nd l v (k r x)) t k x
noncomputable def insO (p : Path) (t : Tr Ob) (x : Ob) : Tr Ob := Path.rec (motive := fun _ => Tr Ob → Ob → Tr Ob) iE (fun _ ih => iL ih) (fun _ ih => iR ih) p t x
theorem insO_eq : ∀ (p : Path) (t : Tr Ob) (x : Ob), insO p t x = Tr.ins .dead p t x
  | .e, .nil, _ => rfl
  | .e, .nd _ _ _, _ => rfl
  | .l p, .nil, x => by show Tr.nd (insO p .nil x) .dead .nil = _; rw [insO_eq p]; rfl
  | .l p, .nd l v r, x => by show Tr.nd (insO p l x) v r = _; rw [insO_eq p]; rfl
  | .r p, .nil, x => by show Tr.nd .nil .dead (insO p .nil x) = _; rw [insO_eq p]; rfl
  | .r p, .nd l v r, x => by show Tr.nd l v (insO p r x) = _; rw [insO_eq p]; rfl

noncomputable def nthV (o : Nat) (l : List V) : Option V :=
  Nat.rec (motive := fun _ => List V → Option V) (fun l => List.rec (motive := fun _ => Option V) none (fun v _ _ => some v) l)
    (fun _ ih l => List.rec (motive := fun _ => (List V → Option V) → Option V) (fun _ => none) (fun _ t _ ih => ih t) l ih) o l
theorem nthV_eq : ∀ (o : Nat) (l : List V), nthV o l = l[o]?
  | 0, [] => rfl
  | 0, _ :: _ => rfl
  | _ + 1, [] => rfl
  | o + 1, _ :: l => nthV_eq o l

noncomputable def consO (v : V) (r : Option (List V)) : Option (List V) := Option.rec (motive := fun _ => V → Option (List V)) (fun _ => none) (fun l v => some (v :: l)) r v
noncomputable def setV (o : Nat) (y : V) (l : List V) : Option (List V) :=
  Nat.rec (motive := fun _ => V → List V → Option (List V)) (fun y l => List.rec (motive := fun _ => V → Option (List V)) (fun _ => none) (fun _ t _ y => some (y :: t)) l y)
    (fun _ ih y l => List.rec (motive := fun _ => (V → List V → Option (List V)) → V → Option (List V)) (fun _ _ => none) (fun v t _ ih y => consO v (ih y t)) l ih y) o y l
theorem setV_eq : ∀ (o : Nat) (y : V) (l : List V), setV o y l = splice o [y] l
  | 0, _, [] => rfl
  | 0, _, _ :: _ => rfl
  | _ + 1, _, [] => rfl
  | o + 1, y, v :: l => by
    show consO v (setV o y l) = _
    rw [setV_eq o y l]
    show _ = (Option.casesOn (splice o [y] l) none (fun r => some (v :: r)) : Option (List V))
    cases splice o [y] l <;> rfl

noncomputable def ldOb (ob : Ob) (o : Nat) : Option V := Ob.rec (motive := fun _ => Nat → Option V) (fun _ => none) (fun _ l _ o => nthV o l) (fun _ _ _ => none) (fun _ _ _ _ _ => none) ob o
noncomputable def ld1 (x : V) (h : H) : Option V :=
  V.rec (motive_1 := fun _ => H → Option V) (motive_2 := fun _ => PUnit) (fun zx h => none) (fun zk zn h => none) (fun zl h => none) (fun zq zo h => ldOb (getO zq h.t) zo) (fun h => none) (fun zq zo zn zc ze zs h => none) (fun h => none) (fun zq h => none) (fun h => none) (fun zq zl _ h => none) (fun h => none) (fun zt zv _ h => none) (fun h => none) (fun zl _ h => none) (fun zl _ h => none) (fun zg h => none) (fun zg zc h => none) (fun zj zc zl zh h => none) PUnit.unit (fun _ _ _ _ => PUnit.unit) x h
theorem ld1_eq (x : V) (h : H) : ld1 x h = loadV h false 1 x := by
  cases x <;> try rfl
  rename_i b o
  show ldOb (getO b h.t) o = _
  rw [getO_eq]
  show ldOb (h.get b) o = match loadC h b o 1 with | some l => pick1 false l | none => none
  unfold loadC
  cases h.get b <;> try rfl
  rename_i ro l e
  show nthV o l = _
  rw [nthV_eq]
  simp only [takeE_eq, ldrop_eq, List.length_drop]
  cases hl : l[o]? with
  | none =>
    rw [List.getElem?_eq_none_iff] at hl
    rw [if_neg (by omega)]
  | some v =>
    have hlt := (List.getElem?_eq_some_iff.1 hl).1
    rw [if_pos (by omega), List.drop_eq_getElem_cons hlt]
    simp only [List.take_succ_cons, List.take_zero, pick1]
    rw [List.getElem?_eq_getElem hlt] at hl
    exact hl.symm

/-- Is it a value of one cell? -/
noncomputable def oneJ (v : V) : Bool := V.rec (motive_1 := fun _ => Bool) (motive_2 := fun _ => PUnit) (fun zx => true) (fun zk zn => true) (fun zl => true) (fun zq zo => true) (true) (fun zq zo zn zc ze zs => true) (true) (fun zq => true) (true) (fun zq zl _ => true) (true) (fun zt zv _ => true) (true) (fun zl _ => false) (fun zl _ => false) (fun zg => true) (fun zg zc => true) (fun zj zc zl zh => true) PUnit.unit (fun _ _ _ _ => PUnit.unit) v

noncomputable def st1r (r : Option (List V)) (e : Nat) (b : Path) (h : H) : HR :=
  Option.rec (motive := fun _ => Nat → Path → H → HR) (fun _ _ _ => .fail) (fun l e b h => .v undefV ⟨insO b h.t (.c false l e), h.n⟩) r e b h
noncomputable def st1c (ro : Bool) (l : List V) (e : Nat) (o : Nat) (y : V) (b : Path) (h : H) : HR :=
  Bool.rec (motive := fun _ => List V → Nat → Nat → V → Path → H → HR) (fun l e o y b h => st1r (setV o y l) e b h) (fun _ _ _ _ _ _ => .fail) ro l e o y b h
noncomputable def st1o (ob : Ob) (o : Nat) (y : V) (b : Path) (h : H) : HR :=
  Ob.rec (motive := fun _ => Nat → V → Path → H → HR) (fun _ _ _ _ => .fail) (fun ro l e o y b h => st1c ro l e o y b h) (fun _ _ _ _ _ _ => .fail) (fun _ _ _ _ _ _ _ _ => .fail) ob o y b h
noncomputable def st1p (one : Bool) (b : Path) (o : Nat) (y : V) (h : H) : HR :=
  Bool.rec (motive := fun _ => Path → Nat → V → H → HR) (fun b o y h => storeV h 1 (.p b o) y) (fun b o y h => st1o (getO b h.t) o y b h) one b o y h
noncomputable def st1 (x y : V) (h : H) : HR :=
  V.rec (motive_1 := fun _ => V → H → HR) (motive_2 := fun _ => PUnit) (fun zx y h => storeV h 1 (V.b zx) y) (fun zk zn y h => storeV h 1 (V.i zk zn) y) (fun zl y h => storeV h 1 (V.s zl) y) (fun zq zo y h => st1p (oneJ y) zq zo y h) (fun y h => storeV h 1 V.p0 y) (fun zq zo zn zc ze zs y h => storeV h 1 (V.sl zq zo zn zc ze zs) y) (fun y h => storeV h 1 V.sl0 y) (fun zq y h => storeV h 1 (V.m zq) y) (fun y h => storeV h 1 V.m0 y) (fun zq zl _ y h => storeV h 1 (V.f zq zl) y) (fun y h => storeV h 1 V.f0 y) (fun zt zv _ y h => storeV h 1 (V.ifc zt zv) y) (fun y h => storeV h 1 V.i0 y) (fun zl _ y h => storeV h 1 (V.a zl) y) (fun zl _ y h => storeV h 1 (V.t zl) y) (fun zg y h => storeV h 1 (V.o zg) y) (fun zg zc y h => storeV h 1 (V.oi zg zc) y) (fun zj zc zl zh y h => storeV h 1 (V.y zj zc zl zh) y) PUnit.unit (fun _ _ _ _ => PUnit.unit) x y h
theorem st1_eq (x y : V) (h : H) : st1 x y h = storeV h 1 x y := by
  cases x <;> try rfl
  rename_i b o
  show st1p (oneJ y) b o y h = _
  have key : cellsOf y = some [y] → st1o (getO b h.t) o y b h = storeV h 1 (.p b o) y := by
    intro hc
    rw [getO_eq]
    show st1o (h.get b) o y b h = match cellsOf y with
      | some l => cond (Nat.beq l.length 1) (match storeC h b o l with | some h => .v undefV h | none => .fail) .fail
      | none => .fail
    rw [hc]
    show _ = match storeC h b o [y] with | some h => HR.v undefV h | none => .fail
    unfold storeC storeOb
    cases h.get b <;> try rfl
    rename_i ro l e
    cases ro
    · show st1r (setV o y l) e b h = _
      rw [setV_eq]
      simp only []
      cases hsp : splice o [y] l with
      | none => simp only [Option.map_none]; rfl
      | some l' =>
        simp only [Option.map_some]
        show HR.v undefV ⟨insO b h.t (.c false l' e), h.n⟩ = HR.v undefV (h.put b (.c false l' e))
        rw [insO_eq]; rfl
    · rfl
  cases y <;> first | rfl | exact key rfl

end Go.Eng

namespace Go.Eng

abbrev IH := Path → List V → H → Rs
abbrev K := IH → Tr V → H → Rs
abbrev E := Tr V → Option V
abbrev EH := Tr V → H → Option V
abbrev EW := Tr V → H → HR

/-! ### Operations that touch no memory -/

noncomputable def eMv (g : GV) : E := fun t => some (g t)
noncomputable def eBin (f : FJ) (op : BinOp) (k : Nat) (x y : GV) : E := fun t => intV (x t) (y t) f op k
noncomputable def eGen (i : PI) : E := fun t => puI t i
noncomputable def fieldAJ (x : V) (off : Nat) : Option V :=
  V.rec (motive_1 := fun _ => Nat → Option V) (motive_2 := fun _ => PUnit) (fun zx off => none) (fun zk zn off => none) (fun zl off => none) (fun zq zo off => some (.p zq (Nat.add zo off))) (fun off => none) (fun zq zo zn zc ze zs off => none) (fun off => none) (fun zq off => none) (fun off => none) (fun zq zl _ off => none) (fun off => none) (fun zt zv _ off => none) (fun off => none) (fun zl _ off => none) (fun zl _ off => none) (fun zg off => none) (fun zg zc off => none) (fun zj zc zl zh off => none) PUnit.unit (fun _ _ _ _ => PUnit.unit) x off
noncomputable def eFieldA (off : Nat) (x : GV) : E := fun t => fieldAJ (x t) off
noncomputable def idxA3 (n : Int) (b : Path) (o len es : Nat) : Option V :=
  Int.rec (motive := fun _ => Path → Nat → Nat → Nat → Option V)
    (fun m b o len es => Bool.rec (motive := fun _ => Nat → Path → Nat → Nat → Option V) (fun _ _ _ _ => none) (fun m b o es => some (.p b (Nat.add o (Nat.mul m es)))) (Nat.ble (Nat.succ m) len) m b o es)
    (fun _ _ _ _ _ => none) n b o len es
noncomputable def idxA2 (i : V) (b : Path) (o len es : Nat) : Option V :=
  V.rec (motive_1 := fun _ => Path → Nat → Nat → Nat → Option V) (motive_2 := fun _ => PUnit) (fun zx b o len es => none) (fun zk zn b o len es => idxA3 zn b o len es) (fun zl b o len es => none) (fun zq zo b o len es => none) (fun b o len es => none) (fun zq zo zn zc ze zs b o len es => none) (fun b o len es => none) (fun zq b o len es => none) (fun b o len es => none) (fun zq zl _ b o len es => none) (fun b o len es => none) (fun zt zv _ b o len es => none) (fun b o len es => none) (fun zl _ b o len es => none) (fun zl _ b o len es => none) (fun zg b o len es => none) (fun zg zc b o len es => none) (fun zj zc zl zh b o len es => none) PUnit.unit (fun _ _ _ _ => PUnit.unit) i b o len es
noncomputable def idxA1 (x i : V) (es : Nat) : Option V :=
  V.rec (motive_1 := fun _ => V → Nat → Option V) (motive_2 := fun _ => PUnit) (fun zx i es => none) (fun zk zn i es => none) (fun zl i es => none) (fun zq zo i es => none) (fun i es => none) (fun zq zo zn zc ze zs i es => idxA2 i zq zo zn es) (fun i es => none) (fun zq i es => none) (fun i es => none) (fun zq zl _ i es => none) (fun i es => none) (fun zt zv _ i es => none) (fun i es => none) (fun zl _ i es => none) (fun zl _ i es => none) (fun zg i es => none) (fun zg zc i es => none) (fun zj zc zl zh i es => none) PUnit.unit (fun _ _ _ _ => PUnit.unit) x i es
noncomputable def eIdxA (es : Nat) (x i : GV) : E := fun t => idxA1 (x t) (i t) es
noncomputable def lenSlJ (x : V) : Option V :=
  V.rec (motive_1 := fun _ => Option V) (motive_2 := fun _ => PUnit) (fun zx => none) (fun zk zn => none) (fun zl => none) (fun zq zo => none) (none) (fun zq zo zn zc ze zs => some (.i .i64 (.ofNat zn))) (some (.i .i64 (.ofNat 0))) (fun zq => none) (none) (fun zq zl _ => none) (none) (fun zt zv _ => none) (none) (fun zl _ => none) (fun zl _ => none) (fun zg => none) (fun zg zc => none) (fun zj zc zl zh => none) PUnit.unit (fun _ _ _ _ => PUnit.unit) x
noncomputable def eLenSl (x : GV) : E := fun t => lenSlJ (x t)
noncomputable def convJ (x : V) (k : IntKind) : Option V :=
  V.rec (motive_1 := fun _ => IntKind → Option V) (motive_2 := fun _ => PUnit) (fun zx k => none) (fun zk zn k => iJ k (wrapJ k zn)) (fun zl k => none) (fun zq zo k => none) (fun k => none) (fun zq zo zn zc ze zs k => none) (fun k => none) (fun zq k => none) (fun k => none) (fun zq zl _ k => none) (fun k => none) (fun zt zv _ k => none) (fun k => none) (fun zl _ k => none) (fun zl _ k => none) (fun zg k => none) (fun zg zc k => none) (fun zj zc zl zh k => none) PUnit.unit (fun _ _ _ _ => PUnit.unit) x k
noncomputable def eConv (k : IntKind) (x : GV) : E := fun t => convJ (x t) k
noncomputable def extJ (x : V) (i : Nat) : Option V :=
  V.rec (motive_1 := fun _ => Nat → Option V) (motive_2 := fun _ => PUnit) (fun zx i => none) (fun zk zn i => none) (fun zl i => none) (fun zq zo i => none) (fun i => none) (fun zq zo zn zc ze zs i => none) (fun i => none) (fun zq i => none) (fun i => none) (fun zq zl _ i => none) (fun i => none) (fun zt zv _ i => none) (fun i => none) (fun zl _ i => none) (fun zl _ i => nthV i zl) (fun zg i => none) (fun zg zc i => none) (fun zj zc zl zh i => none) PUnit.unit (fun _ _ _ _ => PUnit.unit) x i
noncomputable def eExt (i : Nat) (x : GV) : E := fun t => extJ (x t) i
noncomputable def fldJ (x : V) (i : Nat) : Option V :=
  V.rec (motive_1 := fun _ => Nat → Option V) (motive_2 := fun _ => PUnit) (fun zx i => none) (fun zk zn i => none) (fun zl i => none) (fun zq zo i => none) (fun i => none) (fun zq zo zn zc ze zs i => none) (fun i => none) (fun zq i => none) (fun i => none) (fun zq zl _ i => none) (fun i => none) (fun zt zv _ i => none) (fun i => none) (fun zl _ i => nthV i zl) (fun zl _ i => none) (fun zg i => none) (fun zg zc i => none) (fun zj zc zl zh i => none) PUnit.unit (fun _ _ _ _ => PUnit.unit) x i
noncomputable def eFld (i : Nat) (x : GV) : E := fun t => fldJ (x t) i
noncomputable def nthN (o : Nat) (l : List Nat) : Option Nat :=
  Nat.rec (motive := fun _ => List Nat → Option Nat) (fun l => List.rec (motive := fun _ => Option Nat) none (fun v _ _ => some v) l)
    (fun _ ih l => List.rec (motive := fun _ => (List Nat → Option Nat) → Option Nat) (fun _ => none) (fun _ t _ ih => ih t) l ih) o l
noncomputable def byteJ (r : Option Nat) : Option V := Option.rec (motive := fun _ => Option V) none (fun c => some (.i .u8 (.ofNat c))) r
noncomputable def idxS3 (n : Int) (l : List Nat) : Option V := Int.rec (motive := fun _ => List Nat → Option V) (fun m l => byteJ (nthN m l)) (fun _ _ => none) n l
noncomputable def idxS2 (i : V) (l : List Nat) : Option V :=
  V.rec (motive_1 := fun _ => List Nat → Option V) (motive_2 := fun _ => PUnit) (fun zx l => none) (fun zk zn l => idxS3 zn l) (fun zl l => none) (fun zq zo l => none) (fun l => none) (fun zq zo zn zc ze zs l => none) (fun l => none) (fun zq l => none) (fun l => none) (fun zq zl _ l => none) (fun l => none) (fun zt zv _ l => none) (fun l => none) (fun zl _ l => none) (fun zl _ l => none) (fun zg l => none) (fun zg zc l => none) (fun zj zc zl zh l => none) PUnit.unit (fun _ _ _ _ => PUnit.unit) i l
noncomputable def idxS1 (x i : V) : Option V :=
  V.rec (motive_1 := fun _ => V → Option V) (motive_2 := fun _ => PUnit) (fun zx i => none) (fun zk zn i => none) (fun zl i => idxS2 i zl) (fun zq zo i => none) (fun i => none) (fun zq zo zn zc ze zs i => none) (fun i => none) (fun zq i => none) (fun i => none) (fun zq zl _ i => none) (fun i => none) (fun zt zv _ i => none) (fun i => none) (fun zl _ i => none) (fun zl _ i => none) (fun zg i => none) (fun zg zc i => none) (fun zj zc zl zh i => none) PUnit.unit (fun _ _ _ _ => PUnit.unit) x i
noncomputable def eIdxS (x i : GV) : E := fun t => idxS1 (x t) (i t)
noncomputable def nilckJ (x : V) : Option V :=
  V.rec (motive_1 := fun _ => Option V) (motive_2 := fun _ => PUnit) (fun zx => none) (fun zk zn => none) (fun zl => none) (fun zq zo => some (.p zq zo)) (none) (fun zq zo zn zc ze zs => none) (none) (fun zq => none) (none) (fun zq zl _ => some (.f zq zl)) (none) (fun zt zv _ => some (.ifc zt zv)) (none) (fun zl _ => none) (fun zl _ => none) (fun zg => none) (fun zg zc => none) (fun zj zc zl zh => none) PUnit.unit (fun _ _ _ _ => PUnit.unit) x
noncomputable def eNil (x : GV) : E := fun t => nilckJ (x t)

noncomputable def dropJ (n : Nat) (l : List V) : List V :=
  Nat.rec (motive := fun _ => List V → List V) (fun l => l) (fun _ ih l => List.rec (motive := fun _ => (List V → List V) → List V) (fun _ => []) (fun _ t _ ih => ih t) l ih) n l
theorem dropJ_eq : ∀ (n : Nat) (l : List V), dropJ n l = ldrop n l
  | 0, _ => rfl
  | _ + 1, [] => rfl
  | n + 1, _ :: l => dropJ_eq n l
noncomputable def takeJ (n : Nat) (l : List V) : Option (List V) :=
  Nat.rec (motive := fun _ => List V → Option (List V)) (fun _ => some [])
    (fun _ ih l => List.rec (motive := fun _ => (List V → Option (List V)) → Option (List V)) (fun _ => none) (fun v t _ ih => consO v (ih t)) l ih) n l
theorem takeJ_eq : ∀ (n : Nat) (l : List V), takeJ n l = takeE n l
  | 0, _ => rfl
  | _ + 1, [] => rfl
  | n + 1, v :: l => by
    show consO v (takeJ n l) = _
    rw [takeJ_eq n l]
    show _ = (Option.casesOn (takeE n l) none (fun r => some (v :: r)) : Option (List V))
    cases takeE n l <;> rfl
noncomputable def aggJ (r : Option (List V)) : Option V := Option.rec (motive := fun _ => Option V) none (fun l => some (.a l)) r
noncomputable def fldAJ (x : V) (off n : Nat) : Option V :=
  V.rec (motive_1 := fun _ => Nat → Nat → Option V) (motive_2 := fun _ => PUnit) (fun zx off n => none) (fun zk zn off n => none) (fun zl off n => none) (fun zq zo off n => none) (fun off n => none) (fun zq zo zn zc ze zs off n => none) (fun off n => none) (fun zq off n => none) (fun off n => none) (fun zq zl _ off n => none) (fun off n => none) (fun zt zv _ off n => none) (fun off n => none) (fun zl _ off n => aggJ (takeJ n (dropJ off zl))) (fun zl _ off n => none) (fun zg off n => none) (fun zg zc off n => none) (fun zj zc zl zh off n => none) PUnit.unit (fun _ _ _ _ => PUnit.unit) x off n
noncomputable def eFldA (off n : Nat) (x : GV) : E := fun t => fldAJ (x t) off n

noncomputable def eP (i : PI) : E :=
  match i with
  | .mv x => eMv (gO x)
  | .bin op k x y => eBin (fOp op) op k (gO x) (gO y)
  | .fieldA off x => eFieldA off (gO x)
  | .idxASl es x i => eIdxA es (gO x) (gO i)
  | .lenSl x => eLenSl (gO x)
  | .convI k x => eConv k (gO x)
  | .extract x i => eExt i (gO x)
  | .idxStr x i => eIdxS (gO x) (gO i)
  | .field false off 1 x => eFld off (gO x)
  | .field true off n x => eFldA off n (gO x)
  | .nilck x => eNil (gO x)
  | i => eGen i

theorem nthN_eq : ∀ (o : Nat) (l : List Nat), nthN o l = l[o]?
  | 0, [] => rfl
  | 0, _ :: _ => rfl
  | _ + 1, [] => rfl
  | o + 1, _ :: l => nthN_eq o l

theorem eP_eq (i : PI) (t : Tr V) : eP i t = puI t i := by
  unfold eP
  split
  · simp only [eMv, gO_eq, puI]
  · simp only [eBin, gO_eq, puI, intV_eq]
  · rename_i off x
    simp only [eFieldA, gO_eq, puI]
    cases ev t x <;> rfl
  · rename_i es x i
    simp only [eIdxA, gO_eq, puI]
    cases ev t x <;> try rfl
    cases ev t i <;> try rfl
    rename_i b o len _ _ _ k n
    cases n with
    | negSucc n => rfl
    | ofNat n =>
      show (Bool.rec (motive := fun _ => Nat → Path → Nat → Nat → Option V) (fun _ _ _ _ => none) (fun m b o es => some (.p b (Nat.add o (Nat.mul m es)))) (Nat.ble (Nat.succ n) len) n b o es) = cond (Nat.ble (n + 1) len) (some (.p b (o + n * es))) none
      cases hb : Nat.ble (n + 1) len <;> simp only [Nat.succ_eq_add_one, hb] <;> rfl
  · rename_i x
    simp only [eLenSl, gO_eq, puI]
    cases ev t x <;> rfl
  · rename_i k x
    simp only [eConv, gO_eq, puI]
    cases ev t x <;> try rfl
    rename_i j n
    show some (V.i k (wrapJ k n)) = some (V.i k (wrapI k n))
    rw [wrapJ_eq, wrapI_eq]
  · rename_i x i
    simp only [eExt, gO_eq, puI]
    cases ev t x <;> try rfl
    rename_i l
    show nthV i l = match ldrop i l with | v :: _ => some v | [] => none
    rw [nthV_eq, ldrop_eq, ← List.head?_drop]
    cases l.drop i <;> rfl
  · rename_i x i
    simp only [eIdxS, gO_eq, puI]
    cases ev t x <;> try rfl
    cases ev t i <;> try rfl
    rename_i l k n
    cases n with
    | negSucc n => rfl
    | ofNat n =>
      show byteJ (nthN n l) = match ldrop n l with | c :: _ => some (.i .u8 (.ofNat c)) | [] => none
      rw [nthN_eq, ldrop_eq, ← List.head?_drop]
      cases l.drop n <;> rfl
  · rename_i off x
    simp only [eFld, gO_eq, puI]
    cases ev t x <;> try rfl
    rename_i l
    show nthV off l = partV false off 1 l
    unfold partV
    rw [nthV_eq]
    simp only [takeE_eq, ldrop_eq, List.length_drop]
    cases hl : l[off]? with
    | none =>
      rw [List.getElem?_eq_none_iff] at hl
      rw [if_neg (by omega)]
    | some v =>
      have hlt := (List.getElem?_eq_some_iff.1 hl).1
      rw [if_pos (by omega), List.drop_eq_getElem_cons hlt]
      simp only [List.take_succ_cons, List.take_zero, pick1]
      rw [List.getElem?_eq_getElem hlt] at hl
      exact hl.symm
  · rename_i off n x
    simp only [eFldA, gO_eq, puI]
    cases ev t x <;> try rfl
    rename_i l
    show aggJ (takeJ n (dropJ off l)) = partV true off n l
    unfold partV
    rw [takeJ_eq, dropJ_eq]
    cases takeE n (ldrop off l) <;> rfl
  · rename_i x
    simp only [eNil, gO_eq, puI]
    cases ev t x <;> rfl
  · rfl

/-! ### Operations that read, and that write -/

noncomputable def eLd1 (x : GV) : EH := fun t h => ld1 (x t) h
noncomputable def ldAO (ob : Ob) (o n : Nat) : Option V := Ob.rec (motive := fun _ => Nat → Nat → Option V) (fun _ _ => none) (fun _ l _ o n => aggJ (takeJ n (dropJ o l))) (fun _ _ _ _ => none) (fun _ _ _ _ _ _ => none) ob o n
noncomputable def ldA (x : V) (n : Nat) (h : H) : Option V :=
  V.rec (motive_1 := fun _ => Nat → H → Option V) (motive_2 := fun _ => PUnit) (fun zx n h => none) (fun zk zn n h => none) (fun zl n h => none) (fun zq zo n h => ldAO (getO zq h.t) zo n) (fun n h => none) (fun zq zo zn zc ze zs n h => none) (fun n h => none) (fun zq n h => none) (fun n h => none) (fun zq zl _ n h => none) (fun n h => none) (fun zt zv _ n h => none) (fun n h => none) (fun zl _ n h => none) (fun zl _ n h => none) (fun zg n h => none) (fun zg zc n h => none) (fun zj zc zl zh n h => none) PUnit.unit (fun _ _ _ _ => PUnit.unit) x n h
theorem ldA_eq (x : V) (n : Nat) (h : H) : ldA x n h = loadV h true n x := by
  cases x <;> try rfl
  rename_i b o
  show ldAO (getO b h.t) o n = _
  rw [getO_eq]
  show ldAO (h.get b) o n = match loadC h b o n with | some l => pick1 true l | none => none
  unfold loadC
  cases h.get b <;> try rfl
  rename_i ro l e
  show aggJ (takeJ n (dropJ o l)) = match takeE n (ldrop o l) with | some l => pick1 true l | none => none
  rw [takeJ_eq, dropJ_eq]
  cases takeE n (ldrop o l) <;> rfl
noncomputable def eLdA (n : Nat) (x : GV) : EH := fun t h => ldA (x t) n h
noncomputable def eRG (i : RI) : EH := fun t h => rdI t h i
noncomputable def eR (i : RI) : EH :=
  match i with
  | .load false 1 x => eLd1 (gO x)
  | .load true n x => eLdA n (gO x)
  | i => eRG i
theorem eR_eq (i : RI) (t : Tr V) (h : H) : eR i t h = rdI t h i := by
  unfold eR
  split
  · simp only [eLd1, gO_eq, ld1_eq, rdI]
  · simp only [eLdA, gO_eq, ldA_eq, rdI]
  · rfl

noncomputable def eSt1 (x y : GV) : EW := fun t h => st1 (x t) (y t) h
/-- So many cells of a list, and others behind them. -/
noncomputable def takeApp (n : Nat) (l new : List V) : Option (List V) :=
  Nat.rec (motive := fun _ => List V → List V → Option (List V)) (fun _ new => some new)
    (fun _ ih l new => List.rec (motive := fun _ => (List V → List V → Option (List V)) → List V → Option (List V)) (fun _ _ => none) (fun v t _ ih new => consO v (ih t new)) l ih new) n l new

theorem takeApp_eq : ∀ (n : Nat) (l new : List V), takeApp n l new = (takeE n l).map (· ++ new)
  | 0, _, _ => rfl
  | n + 1, [], _ => rfl
  | n + 1, v :: l, new => by
    show consO v (takeApp n l new) = _
    rw [takeApp_eq n l new]
    show _ = Option.map (· ++ new) (Option.casesOn (takeE n l) none (fun r => some (v :: r)) : Option (List V))
    cases takeE n l <;> rfl

noncomputable def appAmbJ (h : H) (es bytes elem : Nat) (b : Path) (len n : Nat) (new : List V) (ob : Ob) : HR :=
  match ob with
  | .c ro l e => cond ro .fail (cond (Nat.beq e elem) (match takeApp (len * es) l new with
    | some r => growV (h.put b .dead) es bytes elem (len + n) r
    | none => .fail) .fail)
  | _ => .fail

theorem appAmbJ_eq (h : H) (es bytes elem : Nat) (b : Path) (len n : Nat) (new : List V) : appAmbJ h es bytes elem b len n new (h.get b) = appAmb h es bytes elem b len n new (h.get b) := by
  unfold appAmbJ appAmb loadC
  cases h.get b with
  | c ro l e =>
    simp only []
    rw [takeApp_eq, show ldrop 0 l = l from rfl]
    cases takeE (len * es) l <;> rfl
  | _ => rfl

noncomputable def appSlJ (h : H) (es bytes elem : Nat) (b : Path) (off len cap : Nat) (ex : Bool) (n : Nat) (new : List V) : HR :=
  match Nat.ble (len + n) cap with
  | true => appSl h es bytes elem b off len cap ex n new
  | false => match ex with
    | true => appSl h es bytes elem b off len cap true n new
    | false => cond (Nat.beq off 0) (appAmbJ h es bytes elem b len n new (h.get b)) .fail

theorem appSlJ_eq (h : H) (es bytes elem : Nat) (b : Path) (off len cap : Nat) (ex : Bool) (n : Nat) (new : List V) : appSlJ h es bytes elem b off len cap ex n new = appSl h es bytes elem b off len cap ex n new := by
  unfold appSlJ
  cases hb : Nat.ble (len + n) cap with
  | true => rfl
  | false =>
    cases ex with
    | true => rfl
    | false =>
      simp only [appAmbJ_eq]
      unfold appSl
      rw [hb]

noncomputable def appVJ (h : H) (es bytes elem : Nat) (x : V) (src : Option (List V × Nat)) : HR :=
  match src with
  | none => .fail
  | some (new, n) => match n with
    | 0 => appV h es bytes elem x (some (new, 0))
    | n + 1 => match x with
      | .sl b off len cap ex es' => cond (Nat.beq es es') (appSlJ h es bytes elem b off len cap ex (n + 1) new) .fail
      | x => appV h es bytes elem x (some (new, n + 1))

theorem appVJ_eq (h : H) (es bytes elem : Nat) (x : V) (src : Option (List V × Nat)) : appVJ h es bytes elem x src = appV h es bytes elem x src := by
  cases src with
  | none => rfl
  | some p =>
    obtain ⟨new, n⟩ := p
    cases n with
    | zero => rfl
    | succ n =>
      cases x <;> first
        | rfl
        | (show cond _ (appSlJ h es bytes elem _ _ _ _ _ (n + 1) new) .fail = _; rw [appSlJ_eq]; rfl)

noncomputable def spl0J (vs l : List V) : Option (List V) :=
  List.rec (motive := fun _ => List V → Option (List V)) (fun l => some l)
    (fun v _ ih l => List.rec (motive := fun _ => (List V → Option (List V)) → V → Option (List V)) (fun _ _ => none) (fun _ t _ ih v => consO v (ih t)) l ih v) vs l
theorem spl0J_eq : ∀ (vs l : List V), spl0J vs l = splice0 vs l
  | [], _ => rfl
  | _ :: _, [] => rfl
  | v :: vs, u :: l => by
    show consO v (spl0J vs l) = _
    rw [spl0J_eq vs l]
    show _ = (Option.casesOn (splice0 vs l) none (fun r => some (v :: r)) : Option (List V))
    cases splice0 vs l <;> rfl
noncomputable def splJ (o : Nat) (vs l : List V) : Option (List V) :=
  Nat.rec (motive := fun _ => List V → List V → Option (List V)) spl0J
    (fun _ ih vs l => List.rec (motive := fun _ => (List V → List V → Option (List V)) → List V → Option (List V)) (fun _ _ => none) (fun v t _ ih vs => consO v (ih vs t)) l ih vs) o vs l
theorem splJ_eq : ∀ (o : Nat) (vs l : List V), splJ o vs l = splice o vs l
  | 0, vs, l => spl0J_eq vs l
  | _ + 1, _, [] => rfl
  | o + 1, vs, u :: l => by
    show consO u (splJ o vs l) = _
    rw [splJ_eq o vs l]
    show _ = (Option.casesOn (splice o vs l) none (fun r => some (u :: r)) : Option (List V))
    cases splice o vs l <;> rfl
noncomputable def stNc (ro : Bool) (l : List V) (e : Nat) (o : Nat) (vs : List V) (b : Path) (h : H) : HR :=
  Bool.rec (motive := fun _ => List V → Nat → Nat → List V → Path → H → HR) (fun l e o vs b h => st1r (splJ o vs l) e b h) (fun _ _ _ _ _ _ => .fail) ro l e o vs b h
noncomputable def stNo (ob : Ob) (o : Nat) (vs : List V) (b : Path) (h : H) : HR :=
  Ob.rec (motive := fun _ => Nat → List V → Path → H → HR) (fun _ _ _ _ => .fail) (fun ro l e o vs b h => stNc ro l e o vs b h) (fun _ _ _ _ _ _ => .fail) (fun _ _ _ _ _ _ _ _ => .fail) ob o vs b h
noncomputable def stNb (q : Bool) (vs : List V) (b : Path) (o : Nat) (h : H) : HR :=
  Bool.rec (motive := fun _ => List V → Path → Nat → H → HR) (fun _ _ _ _ => .fail) (fun vs b o h => stNo (getO b h.t) o vs b h) q vs b o h
noncomputable def stNy (r : Option (List V)) (n : Nat) (b : Path) (o : Nat) (h : H) : HR :=
  Option.rec (motive := fun _ => Nat → Path → Nat → H → HR) (fun _ _ _ _ => .fail) (fun l n b o h => stNb (Nat.beq l.length n) l b o h) r n b o h
noncomputable def stN (n : Nat) (x y : V) (h : H) : HR :=
  V.rec (motive_1 := fun _ => Nat → V → H → HR) (motive_2 := fun _ => PUnit) (fun zx n y h => storeV h n (V.b zx) y) (fun zk zn n y h => storeV h n (V.i zk zn) y) (fun zl n y h => storeV h n (V.s zl) y) (fun zq zo n y h => stNy (cellsOf y) n zq zo h) (fun n y h => storeV h n V.p0 y) (fun zq zo zn zc ze zs n y h => storeV h n (V.sl zq zo zn zc ze zs) y) (fun n y h => storeV h n V.sl0 y) (fun zq n y h => storeV h n (V.m zq) y) (fun n y h => storeV h n V.m0 y) (fun zq zl _ n y h => storeV h n (V.f zq zl) y) (fun n y h => storeV h n V.f0 y) (fun zt zv _ n y h => storeV h n (V.ifc zt zv) y) (fun n y h => storeV h n V.i0 y) (fun zl _ n y h => storeV h n (V.a zl) y) (fun zl _ n y h => storeV h n (V.t zl) y) (fun zg n y h => storeV h n (V.o zg) y) (fun zg zc n y h => storeV h n (V.oi zg zc) y) (fun zj zc zl zh n y h => storeV h n (V.y zj zc zl zh) y) PUnit.unit (fun _ _ _ _ => PUnit.unit) x n y h
theorem stN_eq (n : Nat) (x y : V) (h : H) : stN n x y h = storeV h n x y := by
  cases x <;> try rfl
  rename_i b o
  show stNy (cellsOf y) n b o h = match cellsOf y with
    | some l => cond (Nat.beq l.length n) (match storeC h b o l with | some h => .v undefV h | none => .fail) .fail
    | none => .fail
  cases cellsOf y with
  | none => rfl
  | some l =>
    show stNb (Nat.beq l.length n) l b o h = cond (Nat.beq l.length n) (match storeC h b o l with | some h => .v undefV h | none => .fail) .fail
    cases Nat.beq l.length n with
    | false => rfl
    | true =>
      show stNo (getO b h.t) o l b h = match storeC h b o l with | some h => .v undefV h | none => .fail
      rw [getO_eq]
      show stNo (h.get b) o l b h = _
      unfold storeC storeOb
      cases h.get b <;> try rfl
      rename_i ro k e
      cases ro
      · show st1r (splJ o l k) e b h = _
        rw [splJ_eq]
        simp only []
        cases hsp : splice o l k with
        | none => simp only [Option.map_none]; rfl
        | some l' =>
          simp only [Option.map_some]
          show HR.v undefV ⟨insO b h.t (.c false l' e), h.n⟩ = HR.v undefV (h.put b (.c false l' e))
          rw [insO_eq]; rfl
      · rfl
noncomputable def eStN (n : Nat) (x y : GV) : EW := fun t h => stN n (x t) (y t) h
noncomputable def eApp (es bytes elem : Nat) (x y : GV) : EW := fun t h => appVJ h es bytes elem (x t) (srcOf h es (y t))
noncomputable def eHG (i : HI) : EW := fun t h => hvI t h i
noncomputable def eH (i : HI) : EW :=
  match i with
  | .store 1 x y => eSt1 (gO x) (gO y)
  | .store n x y => eStN n (gO x) (gO y)
  | .append es bytes elem x y => eApp es bytes elem (gO x) (gO y)
  | i => eHG i
theorem eH_eq (i : HI) (t : Tr V) (h : H) : eH i t h = hvI t h i := by
  unfold eH
  split
  · simp only [eSt1, gO_eq, st1_eq, hvI]
  · simp only [eStN, gO_eq, stN_eq, hvI]
  · simp only [eApp, gO_eq, appVJ_eq, hvI]
  · rfl

/-! ### Code -/

noncomputable def kEnd : K := fun _ t h => .one .nx t h
noncomputable def kBad : K := fun _ _ _ => .fail
noncomputable def kBad1 (_ : K) : K := kBad
noncomputable def kVal (r : Option V) (d : SV) (rest : K) (ih : IH) (t : Tr V) (h : H) : Rs :=
  Option.rec (motive := fun _ => SV → K → IH → Tr V → H → Rs) (fun _ _ _ _ _ => .fail) (fun v d rest ih t h => rest ih (d t v) h) r d rest ih t h
noncomputable def kPu (e : E) (d : SV) (rest : K) : K := fun ih t h => kVal (e t) d rest ih t h
noncomputable def kRd (e : EH) (d : SV) (rest : K) : K := fun ih t h => kVal (e t h) d rest ih t h
noncomputable def kRet (r : Rs) (d : SV) (rest : K) (ih : IH) (t : Tr V) : Rs :=
  Rs.rec (motive := fun _ => SV → K → IH → Tr V → Rs) (fun _ _ _ _ => .fail) (fun _ q h d rest ih t => rest ih (d t (valT q)) h) r d rest ih t
noncomputable def kHR (r : HR) (d : SV) (rest : K) (ih : IH) (t : Tr V) (h0 : H) : Rs :=
  HR.rec (motive := fun _ => SV → K → IH → Tr V → H → Rs) (fun v h d rest ih t _ => rest ih (d t v) h) (fun f args d rest ih t h0 => kRet (ih f args h0) d rest ih t) (fun _ _ _ _ _ => .fail) r d rest ih t h0
noncomputable def kHv (e : EW) (d : SV) (rest : K) : K := fun ih t h => kHR (e t h) d rest ih t h
noncomputable def kCall (f : Path) (l : List GV) (d : SV) (rest : K) : K := fun ih t h => kRet (ih f (gArgs l t) h) d rest ih t
noncomputable def kAlR (r : Option (Ob × AK)) (d : SV) (rest : K) (ih : IH) (t : Tr V) (h : H) : Rs :=
  Option.rec (motive := fun _ => SV → K → IH → Tr V → H → Rs) (fun _ _ _ _ _ => .fail) (fun p d rest ih t h => rest ih (d t (p.2.val h.n)) ⟨insO h.n h.t p.1, h.n.succ⟩) r d rest ih t h
noncomputable def eA (i : AI) (t : Tr V) : Option (Ob × AK) := alI t i
noncomputable def kAl (e : Tr V → Option (Ob × AK)) (d : SV) (rest : K) : K := fun ih t h => kAlR (e t) d rest ih t h
noncomputable def eqB (a b : Bool) : Bool := Bool.rec (motive := fun _ => Bool → Bool) (fun b => notJ b) (fun b => b) a b
noncomputable def gdB (c : Bool) (op : K → K) (d : SV) (rest : K) (ih : IH) (t : Tr V) (h : H) : Rs :=
  Bool.rec (motive := fun _ => (K → K) → SV → K → IH → Tr V → H → Rs) (fun _ d rest ih t h => rest ih (d t undefV) h) (fun op _ rest ih t h => op rest ih t h) c op d rest ih t h
noncomputable def gdR (v : V) (b : Bool) (op : K → K) (d : SV) (rest : K) (ih : IH) (t : Tr V) (h : H) : Rs :=
  V.rec (motive_1 := fun _ => Bool → (K → K) → SV → K → IH → Tr V → H → Rs) (motive_2 := fun _ => PUnit) (fun zx b op d rest ih t h => gdB (eqB zx b) op d rest ih t h) (fun zk zn b op d rest ih t h => rest ih (d t undefV) h) (fun zl b op d rest ih t h => rest ih (d t undefV) h) (fun zq zo b op d rest ih t h => rest ih (d t undefV) h) (fun b op d rest ih t h => rest ih (d t undefV) h) (fun zq zo zn zc ze zs b op d rest ih t h => rest ih (d t undefV) h) (fun b op d rest ih t h => rest ih (d t undefV) h) (fun zq b op d rest ih t h => rest ih (d t undefV) h) (fun b op d rest ih t h => rest ih (d t undefV) h) (fun zq zl _ b op d rest ih t h => rest ih (d t undefV) h) (fun b op d rest ih t h => rest ih (d t undefV) h) (fun zt zv _ b op d rest ih t h => rest ih (d t undefV) h) (fun b op d rest ih t h => rest ih (d t undefV) h) (fun zl _ b op d rest ih t h => rest ih (d t undefV) h) (fun zl _ b op d rest ih t h => rest ih (d t undefV) h) (fun zg b op d rest ih t h => rest ih (d t undefV) h) (fun zg zc b op d rest ih t h => rest ih (d t undefV) h) (fun zj zc zl zh b op d rest ih t h => rest ih (d t undefV) h) PUnit.unit (fun _ _ _ _ => PUnit.unit) v b op d rest ih t h
noncomputable def kGd (p : GV) (b : Bool) (op : K → K) (d : SV) (rest : K) : K := fun ih t h => gdR (p t) b op d rest ih t h
noncomputable def seqX (x : X) (b : K) (ih : IH) (t : Tr V) (h : H) : Rs :=
  X.rec (motive := fun _ => K → IH → Tr V → H → Rs) (fun b ih t h => b ih t h) (fun _ _ t h => .one .rt t h) (fun id _ _ t h => .one (.ex id) t h) x b ih t h
noncomputable def seqR (r : Rs) (b : K) (ih : IH) : Rs := Rs.rec (motive := fun _ => K → IH → Rs) (fun _ _ => .fail) (fun x t h b ih => seqX x b ih t h) r b ih
noncomputable def kSeq (a b : K) : K := fun ih t h => seqR (a ih t h) b ih
noncomputable def condB (x : Bool) (a b : K) (ih : IH) (t : Tr V) (h : H) : Rs :=
  Bool.rec (motive := fun _ => K → K → IH → Tr V → H → Rs) (fun _ b ih t h => b ih t h) (fun a _ ih t h => a ih t h) x a b ih t h
noncomputable def condR (v : V) (a b : K) (ih : IH) (t : Tr V) (h : H) : Rs :=
  V.rec (motive_1 := fun _ => K → K → IH → Tr V → H → Rs) (motive_2 := fun _ => PUnit) (fun zx a b ih t h => condB zx a b ih t h) (fun zk zn a b ih t h => .fail) (fun zl a b ih t h => .fail) (fun zq zo a b ih t h => .fail) (fun a b ih t h => .fail) (fun zq zo zn zc ze zs a b ih t h => .fail) (fun a b ih t h => .fail) (fun zq a b ih t h => .fail) (fun a b ih t h => .fail) (fun zq zl _ a b ih t h => .fail) (fun a b ih t h => .fail) (fun zt zv _ a b ih t h => .fail) (fun a b ih t h => .fail) (fun zl _ a b ih t h => .fail) (fun zl _ a b ih t h => .fail) (fun zg a b ih t h => .fail) (fun zg zc a b ih t h => .fail) (fun zj zc zl zh a b ih t h => .fail) PUnit.unit (fun _ _ _ _ => PUnit.unit) v a b ih t h
noncomputable def kCond (c : GV) (a b : K) : K := fun ih t h => condR (c t) a b ih t h
noncomputable def blkB (q : Bool) (j : Nat) (t : Tr V) (h : H) : Rs := Bool.rec (motive := fun _ => Nat → Tr V → H → Rs) (fun j t h => .one (.ex j) t h) (fun _ t h => .one .nx t h) q j t h
noncomputable def blkX (x : X) (id : Nat) (t : Tr V) (h : H) : Rs :=
  X.rec (motive := fun _ => Nat → Tr V → H → Rs) (fun _ t h => .one .nx t h) (fun _ t h => .one .rt t h) (fun j id t h => blkB (Nat.beq j id) j t h) x id t h
noncomputable def blkR (r : Rs) (id : Nat) : Rs := Rs.rec (motive := fun _ => Nat → Rs) (fun _ => .fail) (fun x t h id => blkX x id t h) r id
noncomputable def kBlock (id : Nat) (c : K) : K := fun ih t h => blkR (c ih t h) id
noncomputable def loopX (x : X) (again : K → K) (c : K) (ih : IH) (t : Tr V) (h : H) : Rs :=
  X.rec (motive := fun _ => (K → K) → K → IH → Tr V → H → Rs) (fun again c ih t h => again c ih t h) (fun _ _ _ t h => .one .rt t h) (fun id _ _ _ t h => .one (.ex id) t h) x again c ih t h
noncomputable def loopR (r : Rs) (again : K → K) (c : K) (ih : IH) : Rs := Rs.rec (motive := fun _ => (K → K) → K → IH → Rs) (fun _ _ _ => .fail) (fun x t h again c ih => loopX x again c ih t h) r again c ih
noncomputable def loopN (n : Nat) (c : K) : K := Nat.rec (motive := fun _ => K → K) (fun _ _ _ _ => .fail) (fun _ again c ih t h => loopR (c ih t h) again c ih) n c
noncomputable def kLoop (c : K) : K := fun ih t h => loopN 1000000 c ih t h
noncomputable def kExit (id : Nat) : K := fun _ t h => .one (.ex id) t h
noncomputable def kRt : K := fun _ t h => .one .rt t h

/-- Operations that are done the slow way. -/
noncomputable def ihO (ih : IH) (k : Task) (t : Tr V) (h : H) : Rs :=
  match k with
  | .call f args => ih f args h
  | .ops _ => .one .nx t h
  | .dops _ => .one .nx t h
  | .code _ => .fail
noncomputable def nxR (r : Rs) (rest : K) (ih : IH) : Rs := Rs.rec (motive := fun _ => K → IH → Rs) (fun _ _ => .fail) (fun _ t h rest ih => rest ih t h) r rest ih
noncomputable def kItG (it : It) (rest : K) : K := fun ih t h => nxR (runD (ihO ih) [it] t h) rest ih

noncomputable def memJ (p : Path) (t : Tr V) : Bool :=
  Path.rec (motive := fun _ => Tr V → Bool) (fun t => Tr.rec (motive := fun _ => Bool) false (fun _ _ _ _ _ => true) t) (fun _ ih t => ih (lefT t)) (fun _ ih t => ih (rigT t)) p t
theorem memP_eq : ∀ (p : Path) (t : Tr V), memJ p t = t.mem p
  | .e, .nil => rfl
  | .e, .nd _ _ _ => rfl
  | .l p, .nil => by show memJ p .nil = _; rw [memP_eq p]; cases p <;> rfl
  | .l p, .nd l _ _ => memP_eq p l
  | .r p, .nil => by show memJ p .nil = _; rw [memP_eq p]; cases p <;> rfl
  | .r p, .nd _ _ r => memP_eq p r
noncomputable def alDB (q : Bool) (p : Ob × AK) (d : SV) (rest : K) (ih : IH) (t : Tr V) (h : H) : Rs :=
  Bool.rec (motive := fun _ => (Ob × AK) → SV → K → IH → Tr V → H → Rs) (fun _ _ _ _ _ _ => .fail) (fun p d rest ih t h => rest ih (d t (p.2.val h.n)) ⟨insO h.n h.t p.1, h.n.succ⟩) q p d rest ih t h
noncomputable def kAlDR (r : Option (Ob × AK)) (m : Tr V → Bool) (d : SV) (rest : K) (ih : IH) (t : Tr V) (h : H) : Rs :=
  Option.rec (motive := fun _ => (Tr V → Bool) → SV → K → IH → Tr V → H → Rs) (fun _ _ _ _ _ _ => .fail) (fun p m d rest ih t h => alDB (m t) p d rest ih t h) r m d rest ih t h
noncomputable def kAlD (e : Tr V → Option (Ob × AK)) (m : Tr V → Bool) (d : SV) (rest : K) : K := fun ih t h => kAlDR (e t) m d rest ih t h

noncomputable def kOp (d : Option Path) (op : I) : K → K :=
  match op with
  | .pu i => kPu (eP i) (sD d)
  | .rd i => kRd (eR i) (sD d)
  | .al i => kAl (eA i) (sD d)
  | .hv (.call f l) => kCall f (l.map gO) (sD d)
  | .hv i => kHv (eH i) (sD d)
  | .bad => kBad1

noncomputable def kSt (s : St) (rest : K) : K :=
  match s.gd with
  | none => kOp s.dst s.op rest
  | some (p, b) => kGd (gP p) b (kOp s.dst s.op) (sD s.dst) rest

noncomputable def kOps (l : List St) : K := List.rec (motive := fun _ => K) kEnd (fun s _ rest => kSt s rest) l

noncomputable def kOpD (d : Option Path) (op : I) : K → K :=
  match op with
  | .al i => (match d with | some p => kAlD (eA i) (memJ p) (sP p) | none => kBad1)
  | op => kOp d op

noncomputable def kIt (it : It) (rest : K) : K :=
  match it.hide, it.chk with
  | [], [] => (match it.st.gd with
    | none => kOpD it.st.dst it.st.op rest
    | some (p, b) => kGd (gP p) b (kOpD it.st.dst it.st.op) (sD it.st.dst) rest)
  | _, _ => kItG it rest

noncomputable def kDops (l : List It) : K := List.rec (motive := fun _ => K) kEnd (fun s _ rest => kIt s rest) l

noncomputable def kC (c : C) : K :=
  C.rec (motive := fun _ => K) kEnd kOps kDops (fun _ _ a b => kSeq a b) (fun o _ _ a b => kCond (gO o) a b) (fun id _ c => kBlock id c) (fun _ c => kLoop c) kExit kRt kBad c

noncomputable def rOne (g : GV) (t : Tr V) (h : H) : Rs := .one .rt (.nd .nil (g t) .nil) h
noncomputable def rGen (l : List RV) (t : Tr V) (h : H) : Rs := retR l t h
noncomputable def kRes (l : List RV) : Tr V → H → Rs :=
  match l with
  | [.t p] => rOne (gP p)
  | l => rGen l
theorem kRes_eq (l : List RV) (t : Tr V) (h : H) : kRes l t h = retR l t h := by
  unfold kRes
  split
  · unfold rOne; rw [gP_eq]; rfl
  · rfl

structure G where
  n : Nat
  fr : Tr V
  res : Tr V → H → Rs
  body : K
  nd : Option F

noncomputable def toG (F : F) : G := ⟨F.n, Tr.fill undefV F.n F.n, kRes F.res, cond F.nd kBad (kC F.body), cond F.nd (some F) none⟩

/-- The slow way's operations and calls. -/
noncomputable def ihT (ih : IH) (k : Task) (t : Tr V) (h : H) : Rs :=
  match k with
  | .call f args => ih f args h
  | .ops _ => .fail
  | .dops l => kDops l ih t h
  | .code _ => .fail

noncomputable def putA (l : List V) (k : Path) (t : Tr V) : Tr V := List.rec (motive := fun _ => Path → Tr V → Tr V) (fun _ t => t) (fun v _ ih k t => ih k.succ (sP k t v)) l k t
theorem putA_eq : ∀ (l : List V) (k : Path) (t : Tr V), putA l k t = putArgs k l t
  | [], _, _ => rfl
  | v :: l, k, t => by
    show putA l k.succ (sP k t v) = putArgs k.succ l (t.set k v)
    rw [putA_eq l, sP_eq]

noncomputable def retX (x : X) (res : Tr V → H → Rs) (t : Tr V) (h : H) : Rs :=
  X.rec (motive := fun _ => (Tr V → H → Rs) → Tr V → H → Rs) (fun res t h => res t h) (fun res t h => res t h) (fun _ _ _ _ => .fail) x res t h
noncomputable def retG (r : Rs) (res : Tr V → H → Rs) : Rs := Rs.rec (motive := fun _ => (Tr V → H → Rs) → Rs) (fun _ => .fail) (fun x t h res => retX x res t h) r res
noncomputable def orcN (o : Option (List V → H → Rs)) (F : F) (g : G) (ih : IH) (args : List V) (h : H) : Rs :=
  Option.rec (motive := fun _ => Go.Eng.F → G → IH → List V → H → Rs) (fun F g ih args h => joinO F.res (ndC (ihT ih) F.body (putA args .e g.fr) h)) (fun o _ _ _ args h => o args h) o F g ih args h
noncomputable def callN (nd : Option F) (g : G) (ih : IH) (args : List V) (h : H) : Rs :=
  Option.rec (motive := fun _ => G → IH → List V → H → Rs) (fun g ih args h => retG (g.body ih (putA args .e g.fr) h) g.res)
    (fun F g ih args h => orcN F.orc F g ih args h) nd g ih args h
noncomputable def callB (q : Bool) (g : G) (ih : IH) (args : List V) (h : H) : Rs :=
  Bool.rec (motive := fun _ => G → IH → List V → H → Rs) (fun _ _ _ _ => .fail) (fun g ih args h => callN g.nd g ih args h) q g ih args h
noncomputable def callG (g : Option G) (ih : IH) (args : List V) (h : H) : Rs :=
  Option.rec (motive := fun _ => IH → List V → H → Rs) (fun _ _ _ => .fail) (fun g ih args h => callB (Nat.ble args.length g.n) g ih args h) g ih args h
noncomputable def lefG (t : Tr (Option G)) : Tr (Option G) := Tr.rec (motive := fun _ => Tr (Option G)) .nil (fun l _ _ _ _ => l) t
noncomputable def rigG (t : Tr (Option G)) : Tr (Option G) := Tr.rec (motive := fun _ => Tr (Option G)) .nil (fun _ _ r _ _ => r) t
noncomputable def valG (t : Tr (Option G)) : Option G := Tr.rec (motive := fun _ => Option G) none (fun _ v _ _ _ => v) t
noncomputable def getG (p : Path) (t : Tr (Option G)) : Option G := Path.rec (motive := fun _ => Tr (Option G) → Option G) valG (fun _ ih t => ih (lefG t)) (fun _ ih t => ih (rigG t)) p t
theorem getG_eq : ∀ (p : Path) (t : Tr (Option G)), getG p t = t.get none p
  | .e, .nil => rfl
  | .e, .nd _ _ _ => rfl
  | .l p, .nil => by show getG p .nil = _; rw [getG_eq p]; rfl
  | .l p, .nd l _ _ => getG_eq p l
  | .r p, .nil => by show getG p .nil = _; rw [getG_eq p]; rfl
  | .r p, .nd _ _ r => getG_eq p r
noncomputable def goT (tab : Tr (Option G)) (n : Nat) : IH := Nat.rec (motive := fun _ => IH) (fun _ _ _ => .fail) (fun _ ih f args h => callG (getG f tab) ih args h) n

end Go.Eng

namespace Go.Eng

/-! ### More fuel, the same result -/

def LE (a b : Rs) : Prop := ∀ x t h, a = .one x t h → b = .one x t h
theorem LE.refl (a : Rs) : LE a a := fun _ _ _ h => h
theorem LE.fail (a : Rs) : LE .fail a := fun _ _ _ h => by cases h
theorem LE.of {a b : Rs} (h : ∀ x t k, a = .one x t k → b = .one x t k) : LE a b := h

section
variable {i j : Task → Tr V → H → Rs}

theorem runSeq_le (hi : ∀ k t h, LE (i k t h) (j k t h)) {b : C} {r s : Rs} (hr : LE r s) : LE (runSeq i b r) (runSeq j b s) := by
  cases r with
  | fail => exact LE.fail _
  | one x t h =>
    rw [hr x t h rfl]
    cases x <;> first | exact hi _ _ _ | exact LE.refl _

theorem runBlock_le {id : Nat} {r s : Rs} (hr : LE r s) : LE (runBlock id r) (runBlock id s) := by
  cases r with
  | fail => exact LE.fail _
  | one x t h => rw [hr x t h rfl]; exact LE.refl _

theorem runRet_le {l : List RV} {r s : Rs} (hr : LE r s) : LE (runRet l r) (runRet l s) := by
  cases r with
  | fail => exact LE.fail _
  | one x t h => rw [hr x t h rfl]; exact LE.refl _

theorem runCallO_le (hi : ∀ k t h, LE (i k t h) (j k t h)) {d : Option Path} {l : List St} {t : Tr V} {r s : Rs} (hr : LE r s) : LE (runCallO i d l t r) (runCallO j d l t s) := by
  cases r with
  | fail => exact LE.fail _
  | one x t h => rw [hr x t h rfl]; exact hi _ _ _

theorem runOp_le (hi : ∀ k t h, LE (i k t h) (j k t h)) (d : Option Path) (op : I) (l : List St) (t : Tr V) (h : H) : LE (runOp i d op l t h) (runOp j d op l t h) := by
  cases op with
  | pu e => unfold runOp runVal; simp only; cases puI t e <;> first | exact LE.fail _ | exact hi _ _ _
  | rd e => unfold runOp runVal; simp only; cases rdI t h e <;> first | exact LE.fail _ | exact hi _ _ _
  | al e =>
    unfold runOp runAl; simp only
    cases alI t e with
    | none => exact LE.fail _
    | some p => exact hi _ _ _
  | hv e =>
    unfold runOp runHvO; simp only
    cases hvI t h e with
    | v u k => exact hi _ _ _
    | call f as => exact runCallO_le hi (hi _ _ _)
    | fail => exact LE.fail _
  | bad => exact LE.fail _

theorem runO_le (hi : ∀ k t h, LE (i k t h) (j k t h)) (l : List St) (t : Tr V) (h : H) : LE (runO i l t h) (runO j l t h) := by
  cases l with
  | nil => exact LE.refl _
  | cons s l =>
    unfold runO; simp only
    cases wantd t s.gd with
    | false => exact hi _ _ _
    | true => exact runOp_le hi _ _ _ _ _

theorem finD_le (hi : ∀ k t h, LE (i k t h) (j k t h)) (it : It) (l : List It) (t : Tr V) (v : V) (h : H) : LE (finD i it l t v h) (finD j it l t v h) := by
  unfold finD
  cases chkL t h it.chk with
  | true => exact hi _ _ _
  | false => exact LE.fail _

theorem runCallD_le (hi : ∀ k t h, LE (i k t h) (j k t h)) {it : It} {l : List It} {t : Tr V} {h : H} {r s : Rs} (hr : LE r s) : LE (runCallD i it l t h r) (runCallD j it l t h s) := by
  cases r with
  | fail => exact LE.fail _
  | one x t h => rw [hr x t h rfl]; exact finD_le hi _ _ _ _ _

theorem runD_le (hi : ∀ k t h, LE (i k t h) (j k t h)) (l : List It) (t : Tr V) (h : H) : LE (runD i l t h) (runD j l t h) := by
  cases l with
  | nil => exact LE.refl _
  | cons it l =>
    unfold runD; simp only
    cases wantd t it.st.gd with
    | false => exact hi _ _ _
    | true =>
      simp only
      unfold runOpD
      cases it.st.op with
      | pu e => unfold runValD; simp only; cases puI t e <;> first | exact LE.fail _ | exact hi _ _ _
      | rd e => unfold runValD; simp only; cases rdI t (hideL t it.hide h) e <;> first | exact LE.fail _ | exact hi _ _ _
      | al e =>
        unfold runAlD; simp only
        cases alI t e with
        | none => exact LE.fail _
        | some p =>
          obtain ⟨ob, k⟩ := p
          simp only
          cases it.st.dst with
          | none => exact LE.fail _
          | some d =>
            simp only
            cases t.mem d with
            | false => exact LE.fail _
            | true => exact hi _ _ _
      | hv e =>
        unfold runHvD; simp only
        cases hvI t (hideL t it.hide h) e with
        | v u k => exact finD_le hi _ _ _ _ _
        | call f as => exact runCallD_le hi (hi _ _ _)
        | fail => exact LE.fail _
      | bad => exact LE.fail _

theorem bindO_le {α : Type} {f g : α → Option (List Out)} (hf : ∀ p r, f p = some r → g p = some r) : ∀ {l : List α} {r : List Out}, bindO f l = some r → bindO g l = some r
  | [], _, h => h
  | p :: l, r, h => by
    simp only [bindO] at h ⊢
    cases hp : f p with
    | none => simp [hp] at h
    | some a =>
      cases hb : bindO f l with
      | none => simp [hp, hb] at h
      | some b =>
        simp only [hp, hb] at h
        simp only [hf p a hp, bindO_le hf hb]
        exact h

theorem ndHR_le (hi : ∀ k t h, LE (i k t h) (j k t h)) {h : H} {r : HR} {l : List (V × H)} (hr : ndHR i h r = some l) : ndHR j h r = some l := by
  unfold ndHR at hr ⊢
  split at hr
  · exact hr
  · split at hr
    · rename_i x q k e
      simp only [hi _ _ _ _ _ _ e]
      exact hr
    · cases hr
  · cases hr

theorem ndOp_le (hi : ∀ k t h, LE (i k t h) (j k t h)) {t : Tr V} {h : H} {op : I} {l : List (V × H)} (hr : ndOp i t h op = some l) : ndOp j t h op = some l := by
  cases op with
  | hv e =>
    simp only [ndOp] at hr ⊢
    unfold ndHv at hr ⊢
    split at hr
    · exact hr
    · exact ndHR_le hi hr
  | _ => exact hr

theorem ndOps_le (hi : ∀ k t h, LE (i k t h) (j k t h)) : ∀ {l : List St} {t : Tr V} {h : H} {r : List Out}, ndOps i l t h = some r → ndOps j l t h = some r
  | [], _, _, _, hr => hr
  | s :: l, t, h, r, hr => by
    simp only [ndOps] at hr ⊢
    cases hw : wantd t s.gd with
    | false => simp only [hw] at hr ⊢; exact ndOps_le hi hr
    | true =>
      simp only [hw] at hr ⊢
      cases ho : ndOp i t h s.op with
      | none => simp [ho] at hr
      | some a =>
        simp only [ho] at hr
        simp only [ndOp_le hi ho]
        exact bindO_le (fun p r hp => ndOps_le hi hp) hr

theorem ndThen_le {f g : Tr V → H → Option (List Out)} (hf : ∀ t h r, f t h = some r → g t h = some r) (o : Out) (r : List Out) (hr : ndThen f o = some r) : ndThen g o = some r := by
  obtain ⟨x, t, h⟩ := o
  cases x <;> first | exact hf _ _ _ hr | exact hr

theorem ndSeq_le {f g : Tr V → H → Option (List Out)} (hf : ∀ t h r, f t h = some r → g t h = some r) {a b : Option (List Out)} (hab : ∀ r, a = some r → b = some r) {r : List Out} (hr : ndSeq f a = some r) : ndSeq g b = some r := by
  cases a with
  | none => cases hr
  | some l => rw [hab l rfl]; exact bindO_le (ndThen_le hf) hr

theorem ndLoop_le {f g : Tr V → H → Option (List Out)} (hf : ∀ t h r, f t h = some r → g t h = some r) : ∀ (n : Nat) (t : Tr V) (h : H) (r : List Out), ndLoop f n t h = some r → ndLoop g n t h = some r
  | 0, _, _, _, hr => hr
  | n + 1, t, h, r, hr => ndSeq_le (ndLoop_le hf n) (hf t h) hr

theorem ndC_le (hi : ∀ k t h, LE (i k t h) (j k t h)) : ∀ (c : C) (t : Tr V) (h : H) (r : List Out), ndC i c t h = some r → ndC j c t h = some r
  | .skip, _, _, _, hr => hr
  | .reg l, _, _, _, hr => ndOps_le hi hr
  | .dreg l, t, h, r, hr => by
    simp only [ndC] at hr ⊢
    cases hq : i (.dops l) t h with
    | fail => rw [hq] at hr; cases hr
    | one x t1 h1 => rw [hi _ _ _ _ _ _ hq]; rw [hq] at hr; exact hr
  | .seq a b, t, h, r, hr => ndSeq_le (ndC_le hi b) (ndC_le hi a t h) hr
  | .cond o a b, t, h, r, hr => by
    simp only [ndC] at hr ⊢
    split at hr
    · exact ndC_le hi a t h r hr
    · exact ndC_le hi b t h r hr
    · cases hr
  | .block id c, t, h, r, hr => by
    simp only [ndC, Option.map_eq_some_iff] at hr ⊢
    obtain ⟨l, hl, rfl⟩ := hr
    exact ⟨l, ndC_le hi c t h l hl, rfl⟩
  | .loop c, t, h, r, hr => ndLoop_le (ndC_le hi c) 1000 t h r hr
  | .exit _, _, _, _, hr => hr
  | .ret, _, _, _, hr => hr
  | .bad, _, _, _, hr => hr

theorem joinO_le {res : List RV} {a b : Option (List Out)} (hab : ∀ r, a = some r → b = some r) : LE (joinO res a) (joinO res b) := by
  cases a with
  | none => exact LE.fail _
  | some l => rw [hab l rfl]; exact LE.refl _

theorem runT_le (tab : Tr (Option F)) (hi : ∀ k t h, LE (i k t h) (j k t h)) (k : Task) (t : Tr V) (h : H) : LE (runT tab i k t h) (runT tab j k t h) := by
  cases k with
  | code c =>
    show LE (runC i c t h) (runC j c t h)
    cases c with
    | skip => exact LE.refl _
    | reg l => exact hi _ _ _
    | dreg l => exact hi _ _ _
    | seq a b => exact runSeq_le hi (hi _ _ _)
    | cond o a b =>
      show LE (runCond i a b t h (ev t o)) (runCond j a b t h (ev t o))
      cases ev t o <;> first
        | exact LE.fail _
        | (rename_i x; cases x <;> exact hi _ _ _)
    | block id c => exact runBlock_le (hi _ _ _)
    | loop c => exact runSeq_le hi (hi _ _ _)
    | exit id => exact LE.refl _
    | ret => exact LE.refl _
    | bad => exact LE.fail _
  | ops l => exact runO_le hi l t h
  | dops l => exact runD_le hi l t h
  | call f args =>
    show LE (runF i args h (tab.get none f)) (runF j args h (tab.get none f))
    cases tab.get none f with
    | none => exact LE.fail _
    | some F =>
      cases horc : F.orc with
      | some o => simp only [runF, horc]; exact LE.refl _
      | none =>
      simp only [runF, horc]
      show LE (cond (Nat.ble args.length F.n) _ .fail) (cond (Nat.ble args.length F.n) _ .fail)
      cases Nat.ble args.length F.n with
      | false => exact LE.fail _
      | true =>
        show LE (cond F.nd _ _) (cond F.nd _ _)
        cases F.nd with
        | true => exact joinO_le (ndC_le hi _ _ _)
        | false => exact runRet_le (hi _ _ _)
end

section
variable {tab : Tr (Option F)}

theorem run_le1 : ∀ (n : Nat) (k : Task) (t : Tr V) (h : H), LE (run tab n k t h) (run tab (n + 1) k t h)
  | 0, _, _, _ => LE.fail _
  | n + 1, k, t, h => runT_le tab (run_le1 n) k t h

theorem run_le {n m : Nat} (hnm : n ≤ m) (k : Task) (t : Tr V) (h : H) : LE (run tab n k t h) (run tab m k t h) := by
  induction m with
  | zero => obtain rfl : n = 0 := by omega
            exact LE.refl _
  | succ m ih =>
    by_cases e : n = m + 1
    · subst e; exact LE.refl _
    · exact fun x u v hx => run_le1 m k t h x u v (ih (by omega) x u v hx)

/-- The calls that the fast form makes are calls of the evaluator. -/
def SndIH (tab : Tr (Option F)) (ih : IH) : Prop := ∀ f args h x q h', ih f args h = .one x q h' → ∃ n, run tab n (.call f args) .nil h = .one x q h'

variable {ih : IH}

theorem step_ops (hS : SndIH tab ih) {s : St} {t t1 : Tr V} {h h1 : H} {x : X} (hr : runO (ihO ih) [s] t h = .one x t1 h1) {l : List St} {m : Nat} {y : X} {t2 : Tr V} {h2 : H} (hm : run tab m (.ops l) t1 h1 = .one y t2 h2) :
    ∃ k, run tab k (.ops (s :: l)) t h = .one y t2 h2 := by
  have fin : ∀ n, run tab (n + 1) (.ops (s :: l)) t h = runO (run tab n) (s :: l) t h := fun _ => rfl
  unfold runO at hr
  cases hw : wantd t s.gd with
  | false =>
    simp only [hw, ihO, Rs.one.injEq] at hr
    obtain ⟨rfl, rfl, rfl⟩ := hr
    exact ⟨m + 1, by rw [fin]; unfold runO; simp only [hw]; exact hm⟩
  | true =>
    simp only [hw] at hr
    unfold runOp at hr
    cases hop : s.op with
    | pu e =>
      simp only [hop, runVal] at hr
      cases hv : puI t e with
      | none => simp [hv] at hr
      | some v =>
        simp only [hv, ihO, Rs.one.injEq] at hr
        obtain ⟨rfl, rfl, rfl⟩ := hr
        exact ⟨m + 1, by rw [fin]; unfold runO runOp runVal; simp only [hw, hop, hv]; exact hm⟩
    | rd e =>
      simp only [hop, runVal] at hr
      cases hv : rdI t h e with
      | none => simp [hv] at hr
      | some v =>
        simp only [hv, ihO, Rs.one.injEq] at hr
        obtain ⟨rfl, rfl, rfl⟩ := hr
        exact ⟨m + 1, by rw [fin]; unfold runO runOp runVal; simp only [hw, hop, hv]; exact hm⟩
    | al e =>
      simp only [hop, runAl] at hr
      cases hv : alI t e with
      | none => simp [hv] at hr
      | some p =>
        obtain ⟨ob, k⟩ := p
        simp only [hv, ihO, Rs.one.injEq] at hr
        obtain ⟨rfl, rfl, rfl⟩ := hr
        exact ⟨m + 1, by rw [fin]; unfold runO runOp runAl; simp only [hw, hop, hv]; exact hm⟩
    | hv e =>
      simp only [hop, runHvO] at hr
      cases hv : hvI t h e with
      | fail => simp [hv] at hr
      | v u k =>
        simp only [hv, ihO, Rs.one.injEq] at hr
        obtain ⟨rfl, rfl, rfl⟩ := hr
        exact ⟨m + 1, by rw [fin]; unfold runO runOp runHvO; simp only [hw, hop, hv]; exact hm⟩
      | call f as =>
        simp only [hv, ihO] at hr
        cases hc : ih f as h with
        | fail => simp [hc, runCallO] at hr
        | one z q h3 =>
          simp only [hc, runCallO, ihO, Rs.one.injEq] at hr
          obtain ⟨rfl, rfl, rfl⟩ := hr
          obtain ⟨n, hn⟩ := hS f as h z q h3 hc
          refine ⟨max n m + 1, ?_⟩
          rw [fin]
          unfold runO runOp runHvO
          simp only [hw, hop, hv]
          rw [run_le (Nat.le_max_left n m) _ _ _ _ _ _ hn]
          exact run_le (Nat.le_max_right n m) _ _ _ _ _ _ hm
    | bad => simp [hop] at hr

theorem step_dops (hS : SndIH tab ih) {s : It} {t t1 : Tr V} {h h1 : H} {x : X} (hr : runD (ihO ih) [s] t h = .one x t1 h1) {l : List It} {m : Nat} {y : X} {t2 : Tr V} {h2 : H} (hm : run tab m (.dops l) t1 h1 = .one y t2 h2) :
    ∃ k, run tab k (.dops (s :: l)) t h = .one y t2 h2 := by
  have fin : ∀ n, run tab (n + 1) (.dops (s :: l)) t h = runD (run tab n) (s :: l) t h := fun _ => rfl
  unfold runD at hr
  cases hw : wantd t s.st.gd with
  | false =>
    simp only [hw, ihO, Rs.one.injEq] at hr
    obtain ⟨rfl, rfl, rfl⟩ := hr
    exact ⟨m + 1, by rw [fin]; unfold runD; simp only [hw]; exact hm⟩
  | true =>
    simp only [hw] at hr
    unfold runOpD at hr
    have fd : ∀ {v : V} {k : H} {j : Task → Tr V → H → Rs}, finD (ihO ih) s [] t v k = .one x t1 h1 → j (.dops l) t1 h1 = .one y t2 h2 → finD j s l t v k = .one y t2 h2 := by
      intro v k j h4 h5
      unfold finD at h4 ⊢
      cases hc : chkL t k s.chk with
      | false => simp [hc] at h4
      | true =>
        simp only [hc, ihO, Rs.one.injEq] at h4
        obtain ⟨rfl, rfl, rfl⟩ := h4
        simp only
        exact h5
    cases hop : s.st.op with
    | pu e =>
      simp only [hop, runValD] at hr
      cases hv : puI t e with
      | none => simp [hv] at hr
      | some v =>
        simp only [hv, ihO, Rs.one.injEq] at hr
        obtain ⟨rfl, rfl, rfl⟩ := hr
        exact ⟨m + 1, by rw [fin]; unfold runD runOpD runValD; simp only [hw, hop, hv]; exact hm⟩
    | rd e =>
      simp only [hop, runValD] at hr
      cases hv : rdI t (hideL t s.hide h) e with
      | none => simp [hv] at hr
      | some v =>
        simp only [hv, ihO, Rs.one.injEq] at hr
        obtain ⟨rfl, rfl, rfl⟩ := hr
        exact ⟨m + 1, by rw [fin]; unfold runD runOpD runValD; simp only [hw, hop, hv]; exact hm⟩
    | al e =>
      simp only [hop, runAlD] at hr
      cases hv : alI t e with
      | none => simp [hv] at hr
      | some p =>
        obtain ⟨ob, k⟩ := p
        cases hd : s.st.dst with
        | none => simp [hv, hd] at hr
        | some d =>
          cases hmm : t.mem d with
          | false => simp [hv, hd, hmm] at hr
          | true =>
            simp only [hv, hd, hmm, cond_true, ihO, Rs.one.injEq] at hr
            obtain ⟨rfl, rfl, rfl⟩ := hr
            exact ⟨m + 1, by rw [fin]; unfold runD runOpD runAlD; simp only [hw, hop, hv, hd, hmm, cond_true]; exact hm⟩
    | hv e =>
      simp only [hop, runHvD] at hr
      cases hv : hvI t (hideL t s.hide h) e with
      | fail => simp [hv] at hr
      | v u k =>
        simp only [hv] at hr
        exact ⟨m + 1, by rw [fin]; unfold runD runOpD runHvD; simp only [hw, hop, hv]; exact fd hr hm⟩
      | call f as =>
        simp only [hv, ihO] at hr
        cases hc : ih f as (hideL t s.hide h) with
        | fail => simp [hc, runCallD] at hr
        | one z q h3 =>
          simp only [hc, runCallD] at hr
          obtain ⟨n, hn⟩ := hS f as _ z q h3 hc
          refine ⟨max n m + 1, ?_⟩
          rw [fin]
          unfold runD runOpD runHvD
          simp only [hw, hop, hv]
          rw [run_le (Nat.le_max_left n m) _ _ _ _ _ _ hn]
          exact fd hr (run_le (Nat.le_max_right n m) _ _ _ _ _ _ hm)
    | bad => simp [hop] at hr

/-! ### The fast form of one operation -/

theorem eqB_eq (a b : Bool) : eqB a b = (a == b) := by cases a <;> cases b <;> rfl

theorem kOp_eq (d : Option Path) (op : I) (rest : K) (ih : IH) (t : Tr V) (h : H) : kOp d op rest ih t h = nxR (runOp (ihO ih) d op [] t h) rest ih := by
  unfold kOp
  split
  · rename_i i
    show kVal (eP i t) (sD d) rest ih t h = nxR (runVal (ihO ih) d [] t h (puI t i)) rest ih
    rw [eP_eq]
    cases puI t i with
    | none => rfl
    | some v => show rest ih (sD d t v) h = rest ih (putD t d v) h; rw [sD_eq]
  · rename_i i
    show kVal (eR i t h) (sD d) rest ih t h = nxR (runVal (ihO ih) d [] t h (rdI t h i)) rest ih
    rw [eR_eq]
    cases rdI t h i with
    | none => rfl
    | some v => show rest ih (sD d t v) h = rest ih (putD t d v) h; rw [sD_eq]
  · rename_i i
    show kAlR (alI t i) (sD d) rest ih t h = nxR (runAl (ihO ih) d [] t h (alI t i)) rest ih
    cases alI t i with
    | none => rfl
    | some p =>
      show rest ih (sD d t (p.2.val h.n)) ⟨insO h.n h.t p.1, h.n.succ⟩ = rest ih (putD t d (p.2.val h.n)) (h.new p.1)
      rw [sD_eq, insO_eq]; rfl
  · rename_i f l
    show kRet (ih f (gArgs (l.map gO) t) h) (sD d) rest ih t = nxR (runHvO (ihO ih) d [] t h (hvI t h (.call f l))) rest ih
    rw [gArgs_eq]
    show kRet (ih f (evs t l) h) (sD d) rest ih t = nxR (runCallO (ihO ih) d [] t (ih f (evs t l) h)) rest ih
    cases ih f (evs t l) h with
    | fail => rfl
    | one x q h1 =>
      show rest ih (sD d t (valT q)) h1 = rest ih (putD t d (q.get undefV .e)) h1
      rw [sD_eq, ← gP_eq]; rfl
  · rename_i i _
    show kHR (eH i t h) (sD d) rest ih t h = nxR (runHvO (ihO ih) d [] t h (hvI t h i)) rest ih
    rw [eH_eq]
    cases hvI t h i with
    | fail => rfl
    | v v h1 => show rest ih (sD d t v) h1 = rest ih (putD t d v) h1; rw [sD_eq]
    | call f args =>
      show kRet (ih f args h) (sD d) rest ih t = nxR (runCallO (ihO ih) d [] t (ih f args h)) rest ih
      cases ih f args h with
      | fail => rfl
      | one x q h1 =>
        show rest ih (sD d t (valT q)) h1 = rest ih (putD t d (q.get undefV .e)) h1
        rw [sD_eq, ← gP_eq]; rfl
  · rfl

theorem gd_eq (p : Path) (b : Bool) (op : K → K) (d : Option Path) (rest : K) (ih : IH) (t : Tr V) (h : H) :
    kGd (gP p) b op (sD d) rest ih t h = match wantd t (some (p, b)) with | true => op rest ih t h | false => rest ih (putD t d undefV) h := by
  show gdR (gP p t) b op (sD d) rest ih t h = _
  simp only [wantd, gP_eq]
  cases t.get undefV p <;> try (show rest ih (sD d t undefV) h = _; rw [sD_eq])
  rename_i c
  show gdB (eqB c b) op (sD d) rest ih t h = match c == b with | true => op rest ih t h | false => rest ih (putD t d undefV) h
  rw [eqB_eq]
  cases c == b with
  | true => rfl
  | false => show rest ih (sD d t undefV) h = _; rw [sD_eq]

theorem kSt_eq (s : St) (rest : K) (ih : IH) (t : Tr V) (h : H) : kSt s rest ih t h = nxR (runO (ihO ih) [s] t h) rest ih := by
  obtain ⟨d, op, gd⟩ := s
  cases gd with
  | none =>
    show kOp d op rest ih t h = nxR (runOp (ihO ih) d op [] t h) rest ih
    exact kOp_eq _ _ _ _ _ _
  | some g =>
    obtain ⟨p, b⟩ := g
    show kGd (gP p) b (kOp d op) (sD d) rest ih t h = nxR (match wantd t (some (p, b)) with
      | false => ihO ih (.ops []) (putD t d undefV) h
      | true => runOp (ihO ih) d op [] t h) rest ih
    rw [gd_eq]
    cases wantd t (some (p, b)) with
    | true => exact kOp_eq _ _ _ _ _ _
    | false => rfl

theorem kOpD_eq (d : Option Path) (op : I) (gd : Option (Path × Bool)) (rest : K) (ih : IH) (t : Tr V) (h : H) :
    kOpD d op rest ih t h = nxR (runOpD (ihO ih) ⟨⟨d, op, gd⟩, [], []⟩ op [] t h) rest ih := by
  have gen : kOp d op rest ih t h = nxR (runOp (ihO ih) d op [] t h) rest ih := kOp_eq _ _ _ _ _ _
  cases op with
  | pu i => exact gen
  | rd i => exact gen
  | bad => exact gen
  | al i =>
    cases d with
    | none =>
      show Rs.fail = nxR (match alI t i with | some (_, _) => .fail | none => .fail) rest ih
      cases alI t i <;> rfl
    | some p =>
      show kAlDR (alI t i) (memJ p) (sP p) rest ih t h = nxR (match alI t i with
        | some (ob, k) => cond (t.mem p) (.one .nx (t.set p (k.val h.n)) (h.new ob)) .fail
        | none => .fail) rest ih
      cases alI t i with
      | none => rfl
      | some q =>
        show alDB (memJ p t) q (sP p) rest ih t h = nxR (cond (t.mem p) (.one .nx (t.set p (q.2.val h.n)) (h.new q.1)) .fail) rest ih
        rw [memP_eq]
        cases t.mem p with
        | false => rfl
        | true =>
          show rest ih (sP p t (q.2.val h.n)) ⟨insO h.n h.t q.1, h.n.succ⟩ = rest ih (t.set p (q.2.val h.n)) (h.new q.1)
          rw [sP_eq, insO_eq]; rfl
  | hv i =>
    refine gen.trans ?_
    show nxR (runHvO (ihO ih) d [] t h (hvI t h i)) rest ih = nxR (runHvD (ihO ih) ⟨⟨d, .hv i, gd⟩, [], []⟩ [] t h (hvI t h i)) rest ih
    cases hvI t h i with
    | fail => rfl
    | v v k => rfl
    | call f args =>
      show nxR (runCallO (ihO ih) d [] t (ih f args h)) rest ih = nxR (runCallD (ihO ih) ⟨⟨d, .hv i, gd⟩, [], []⟩ [] t h (ih f args h)) rest ih
      cases ih f args h with
      | fail => rfl
      | one x q k => rfl

theorem kIt_eq (it : It) (rest : K) (ih : IH) (t : Tr V) (h : H) : kIt it rest ih t h = nxR (runD (ihO ih) [it] t h) rest ih := by
  obtain ⟨⟨d, op, gd⟩, hide, chk⟩ := it
  cases hide with
  | cons _ _ => rfl
  | nil =>
    cases chk with
    | cons _ _ => rfl
    | nil =>
      cases gd with
      | none =>
        show kOpD d op rest ih t h = nxR (runOpD (ihO ih) ⟨⟨d, op, none⟩, [], []⟩ op [] t h) rest ih
        exact kOpD_eq _ _ _ _ _ _ _
      | some g =>
        obtain ⟨p, b⟩ := g
        show kGd (gP p) b (kOpD d op) (sD d) rest ih t h = nxR (match wantd t (some (p, b)) with
          | false => ihO ih (.dops []) (putD t d undefV) h
          | true => runOpD (ihO ih) ⟨⟨d, op, some (p, b)⟩, [], []⟩ op [] t h) rest ih
        rw [gd_eq]
        cases wantd t (some (p, b)) with
        | true => exact kOpD_eq _ _ _ _ _ _ _
        | false => rfl

theorem nxR_one {r : Rs} {rest : K} {ih : IH} {x : X} {t1 : Tr V} {h1 : H} (h : nxR r rest ih = .one x t1 h1) : ∃ y t h0, r = .one y t h0 ∧ rest ih t h0 = .one x t1 h1 := by
  cases r with
  | fail => cases h
  | one y t h0 => exact ⟨y, t, h0, rfl, h⟩

theorem kOps_sound (hS : SndIH tab ih) : ∀ (l : List St) (t : Tr V) (h : H) (x : X) (t1 : Tr V) (h1 : H), kOps l ih t h = .one x t1 h1 → ∃ n, run tab n (.ops l) t h = .one x t1 h1
  | [], t, h, x, t1, h1, hr => ⟨1, hr⟩
  | s :: l, t, h, x, t1, h1, hr => by
    have hr : kSt s (kOps l) ih t h = .one x t1 h1 := hr
    rw [kSt_eq] at hr
    obtain ⟨y, t0, h0, e1, e2⟩ := nxR_one hr
    obtain ⟨m, hm⟩ := kOps_sound hS l t0 h0 x t1 h1 e2
    exact step_ops hS e1 hm

theorem kDops_sound (hS : SndIH tab ih) : ∀ (l : List It) (t : Tr V) (h : H) (x : X) (t1 : Tr V) (h1 : H), kDops l ih t h = .one x t1 h1 → ∃ n, run tab n (.dops l) t h = .one x t1 h1
  | [], t, h, x, t1, h1, hr => ⟨1, hr⟩
  | s :: l, t, h, x, t1, h1, hr => by
    have hr : kIt s (kDops l) ih t h = .one x t1 h1 := hr
    rw [kIt_eq] at hr
    obtain ⟨y, t0, h0, e1, e2⟩ := nxR_one hr
    obtain ⟨m, hm⟩ := kDops_sound hS l t0 h0 x t1 h1 e2
    exact step_dops hS e1 hm

theorem seqR_one {r : Rs} {b : K} {x : X} {t1 : Tr V} {h1 : H} (h : seqR r b ih = .one x t1 h1) :
    (∃ t h0, r = .one .nx t h0 ∧ b ih t h0 = .one x t1 h1) ∨ (r = .one x t1 h1 ∧ x ≠ .nx) := by
  cases r with
  | fail => cases h
  | one y t h0 => cases y with
    | nx => exact .inl ⟨t, h0, rfl, h⟩
    | rt => have h : Rs.one .rt t h0 = .one x t1 h1 := h; cases h; exact .inr ⟨rfl, by simp⟩
    | ex id => have h : Rs.one (.ex id) t h0 = .one x t1 h1 := h; cases h; exact .inr ⟨rfl, by simp⟩

theorem runSeq_of {n m : Nat} {b : C} {r : Rs} {t : Tr V} {h : H} {x : X} {t1 : Tr V} {h1 : H} {task : Task} (hr : run tab n task t h = r) :
    ((∃ t0 h0, r = .one .nx t0 h0 ∧ run tab m (.code b) t0 h0 = .one x t1 h1) ∨ (r = .one x t1 h1 ∧ x ≠ .nx)) → runSeq (run tab (max n m)) b (run tab (max n m) task t h) = .one x t1 h1 := by
  rintro (⟨t0, h0, rfl, hb⟩ | ⟨rfl, hx⟩)
  · rw [run_le (Nat.le_max_left n m) _ _ _ _ _ _ hr]
    exact run_le (Nat.le_max_right n m) _ _ _ _ _ _ hb
  · rw [run_le (Nat.le_max_left n m) _ _ _ _ _ _ hr]
    cases x with
    | nx => exact absurd rfl hx
    | rt => rfl
    | ex id => rfl

theorem kC_sound (hS : SndIH tab ih) : ∀ (c : C) (t : Tr V) (h : H) (x : X) (t1 : Tr V) (h1 : H), kC c ih t h = .one x t1 h1 → ∃ n, run tab n (.code c) t h = .one x t1 h1
  | .skip, t, h, x, t1, h1, hr => ⟨1, hr⟩
  | .reg l, t, h, x, t1, h1, hr => let ⟨n, hn⟩ := kOps_sound hS l t h x t1 h1 hr; ⟨n + 1, hn⟩
  | .dreg l, t, h, x, t1, h1, hr => let ⟨n, hn⟩ := kDops_sound hS l t h x t1 h1 hr; ⟨n + 1, hn⟩
  | .seq a b, t, h, x, t1, h1, hr => by
    have hr : seqR (kC a ih t h) (kC b) ih = .one x t1 h1 := hr
    rcases seqR_one hr with ⟨t0, h0, e1, e2⟩ | ⟨e1, e2⟩
    · obtain ⟨n, hn⟩ := kC_sound hS a t h .nx t0 h0 e1
      obtain ⟨m, hm⟩ := kC_sound hS b t0 h0 x t1 h1 e2
      exact ⟨max n m + 1, runSeq_of (m := m) hn (.inl ⟨t0, h0, rfl, hm⟩)⟩
    · obtain ⟨n, hn⟩ := kC_sound hS a t h x t1 h1 e1
      exact ⟨max n 0 + 1, runSeq_of (m := 0) hn (.inr ⟨rfl, e2⟩)⟩
  | .cond o a b, t, h, x, t1, h1, hr => by
    have hr : condR (gO o t) (kC a) (kC b) ih t h = .one x t1 h1 := hr
    rw [gO_eq] at hr
    cases hv : ev t o <;> rw [hv] at hr <;> try (cases hr; done)
    rename_i q
    cases q with
    | true =>
      obtain ⟨n, hn⟩ := kC_sound hS a t h x t1 h1 hr
      refine ⟨n + 1, ?_⟩
      show runCond (run tab n) a b t h (ev t o) = _
      rw [hv]; exact hn
    | false =>
      obtain ⟨n, hn⟩ := kC_sound hS b t h x t1 h1 hr
      refine ⟨n + 1, ?_⟩
      show runCond (run tab n) a b t h (ev t o) = _
      rw [hv]; exact hn
  | .block id c, t, h, x, t1, h1, hr => by
    have hr : blkR (kC c ih t h) id = .one x t1 h1 := hr
    cases hk : kC c ih t h with
    | fail => rw [hk] at hr; cases hr
    | one y t0 h0 =>
      obtain ⟨n, hn⟩ := kC_sound hS c t h y t0 h0 hk
      refine ⟨n + 1, ?_⟩
      show runBlock id (run tab n (.code c) t h) = _
      rw [hn]
      rw [hk] at hr
      cases y with
      | nx => exact hr
      | rt => exact hr
      | ex j =>
        have hr : blkB (Nat.beq j id) j t0 h0 = .one x t1 h1 := hr
        show cond (Nat.beq j id) (Rs.one .nx t0 h0) (.one (.ex j) t0 h0) = _
        cases hb : Nat.beq j id <;> rw [hb] at hr <;> exact hr
  | .loop c, t, h, x, t1, h1, hr => by
    have key : ∀ (N : Nat) (t : Tr V) (h : H), loopN N (kC c) ih t h = .one x t1 h1 → ∃ n, run tab n (.code (.loop c)) t h = .one x t1 h1 := by
      intro N
      induction N with
      | zero => intro t h hr; cases hr
      | succ N ihN =>
        intro t h hr
        have hr : loopR (kC c ih t h) (loopN N) (kC c) ih = .one x t1 h1 := hr
        cases hk : kC c ih t h with
        | fail => rw [hk] at hr; cases hr
        | one y t0 h0 =>
          rw [hk] at hr
          obtain ⟨n, hn⟩ := kC_sound hS c t h y t0 h0 hk
          cases y with
          | nx =>
            obtain ⟨m, hm⟩ := ihN t0 h0 hr
            exact ⟨max n m + 1, runSeq_of (m := m) hn (.inl ⟨t0, h0, rfl, hm⟩)⟩
          | rt =>
            have hr : Rs.one .rt t0 h0 = .one x t1 h1 := hr
            cases hr
            exact ⟨max n 0 + 1, runSeq_of (m := 0) hn (.inr ⟨rfl, by simp⟩)⟩
          | ex id =>
            have hr : Rs.one (.ex id) t0 h0 = .one x t1 h1 := hr
            cases hr
            exact ⟨max n 0 + 1, runSeq_of (m := 0) hn (.inr ⟨rfl, by simp⟩)⟩
    exact key 1000000 t h hr
  | .exit id, t, h, x, t1, h1, hr => ⟨1, hr⟩
  | .ret, t, h, x, t1, h1, hr => ⟨1, hr⟩
  | .bad, t, h, x, t1, h1, hr => by cases hr

/-! ### Several ends -/

theorem runs_le {n m : Nat} (h : n ≤ m) : ∀ k t h, LE (run tab n k t h) (run tab m k t h) := fun k t hh => run_le h k t hh

theorem bindO_snd {α : Type} {f : α → Option (List Out)} {g : Nat → α → Option (List Out)} (hg : ∀ n m, n ≤ m → ∀ p r, g n p = some r → g m p = some r) : ∀ {l : List α} {r : List Out}, (∀ p ∈ l, ∀ r, f p = some r → ∃ n, g n p = some r) → bindO f l = some r → ∃ n, bindO (g n) l = some r
  | [], r, _, h => ⟨0, h⟩
  | p :: l, r, hf, h => by
    simp only [bindO] at h
    cases hp : f p with
    | none => simp [hp] at h
    | some a =>
      cases hb : bindO f l with
      | none => simp [hp, hb] at h
      | some b =>
        simp only [hp, hb] at h
        obtain ⟨n, hn⟩ := hf p List.mem_cons_self a hp
        obtain ⟨m, hm⟩ := bindO_snd hg (fun q hq => hf q (List.mem_cons_of_mem _ hq)) hb
        refine ⟨max n m, ?_⟩
        simp only [bindO, hg n _ (Nat.le_max_left n m) p a hn, bindO_le (hg m _ (Nat.le_max_right n m)) hm]
        exact h

theorem ndOp_snd (hS : SndIH tab ih) {t : Tr V} {h : H} {op : I} {l : List (V × H)} (hr : ndOp (ihT ih) t h op = some l) : ∃ n, ndOp (run tab n) t h op = some l := by
  cases op with
  | hv e =>
    have gen : ndHR (ihT ih) h (hvI t h e) = some l → ∃ n, ndHR (run tab n) h (hvI t h e) = some l := by
      intro hr
      unfold ndHR at hr
      cases hq : hvI t h e with
      | fail => simp [hq] at hr
      | v u k => simp only [hq] at hr; exact ⟨0, hr⟩
      | call f args =>
        simp only [hq, ihT] at hr
        cases hc : ih f args h with
        | fail => simp [hc] at hr
        | one x q k =>
          simp only [hc] at hr
          obtain ⟨n, hn⟩ := hS f args h x q k hc
          exact ⟨n, by simp only [ndHR, hn]; exact hr⟩
    simp only [ndOp] at hr ⊢
    unfold ndHv at hr ⊢
    split at hr
    · exact ⟨0, hr⟩
    · exact gen hr
  | pu _ => exact ⟨0, hr⟩
  | rd _ => exact ⟨0, hr⟩
  | al _ => exact ⟨0, hr⟩
  | bad => exact ⟨0, hr⟩

theorem ndOps_snd (hS : SndIH tab ih) : ∀ {l : List St} {t : Tr V} {h : H} {r : List Out}, ndOps (ihT ih) l t h = some r → ∃ n, ndOps (run tab n) l t h = some r
  | [], _, _, _, hr => ⟨0, hr⟩
  | s :: l, t, h, r, hr => by
    simp only [ndOps] at hr ⊢
    cases hw : wantd t s.gd with
    | false => simp only [hw] at hr ⊢; exact ndOps_snd hS hr
    | true =>
      simp only [hw] at hr ⊢
      cases ho : ndOp (ihT ih) t h s.op with
      | none => simp [ho] at hr
      | some a =>
        simp only [ho] at hr
        obtain ⟨n, hn⟩ := ndOp_snd hS ho
        obtain ⟨m, hm⟩ := bindO_snd (α := V × H) (f := fun p => ndOps (ihT ih) l (putD t s.dst p.1) p.2) (g := fun m p => ndOps (run tab m) l (putD t s.dst p.1) p.2) (fun n m hnm p r hp => ndOps_le (runs_le hnm) hp) (fun p _ r hp => ndOps_snd hS hp) hr
        refine ⟨max n m, ?_⟩
        simp only [ndOp_le (runs_le (Nat.le_max_left n m)) hn]
        exact bindO_le (fun p r hp => ndOps_le (runs_le (Nat.le_max_right n m)) hp) hm

theorem ndSeq_snd {f : Tr V → H → Option (List Out)} {g : Nat → Tr V → H → Option (List Out)} (hg : ∀ n m, n ≤ m → ∀ t h r, g n t h = some r → g m t h = some r) (hf : ∀ t h r, f t h = some r → ∃ n, g n t h = some r)
    {a : Option (List Out)} {b : Nat → Option (List Out)} (hb : ∀ n m, n ≤ m → ∀ r, b n = some r → b m = some r) (hab : ∀ r, a = some r → ∃ n, b n = some r) {r : List Out} (hr : ndSeq f a = some r) : ∃ n, ndSeq (g n) (b n) = some r := by
  cases a with
  | none => cases hr
  | some l =>
    obtain ⟨n, hn⟩ := hab l rfl
    obtain ⟨m, hm⟩ := bindO_snd (f := ndThen f) (g := fun m => ndThen (g m)) (fun n m hnm => ndThen_le (hg n m hnm)) (fun o _ r ho => by
      obtain ⟨x, t, h⟩ := o
      cases x with
      | nx => exact hf t h r ho
      | rt => exact ⟨0, ho⟩
      | ex id => exact ⟨0, ho⟩) hr
    refine ⟨max n m, ?_⟩
    rw [hb n _ (Nat.le_max_left n m) l hn]
    exact bindO_le (ndThen_le (hg m _ (Nat.le_max_right n m))) hm

theorem ndC_snd (hS : SndIH tab ih) : ∀ (c : C) (t : Tr V) (h : H) (r : List Out), ndC (ihT ih) c t h = some r → ∃ n, ndC (run tab n) c t h = some r
  | .skip, _, _, _, hr => ⟨0, hr⟩
  | .reg l, _, _, _, hr => ndOps_snd hS hr
  | .dreg l, t, h, r, hr => by
    have hr : outO (kDops l ih t h) = some r := hr
    cases hq : kDops l ih t h with
    | fail => rw [hq] at hr; cases hr
    | one x t1 h1 =>
      rw [hq] at hr
      obtain ⟨n, hn⟩ := kDops_sound hS l t h x t1 h1 hq
      exact ⟨n, by show outO (run tab n (.dops l) t h) = some r; rw [hn]; exact hr⟩
  | .seq a b, t, h, r, hr => ndSeq_snd (g := fun n => ndC (run tab n) b) (b := fun n => ndC (run tab n) a t h) (fun n m hnm => ndC_le (runs_le hnm) b) (ndC_snd hS b) (fun n m hnm => ndC_le (runs_le hnm) a t h) (ndC_snd hS a t h) hr
  | .cond o a b, t, h, r, hr => by
    simp only [ndC] at hr ⊢
    split at hr
    · exact ndC_snd hS a t h r hr
    · exact ndC_snd hS b t h r hr
    · cases hr
  | .block id c, t, h, r, hr => by
    simp only [ndC, Option.map_eq_some_iff] at hr ⊢
    obtain ⟨l, hl, rfl⟩ := hr
    obtain ⟨n, hn⟩ := ndC_snd hS c t h l hl
    exact ⟨n, l, hn, rfl⟩
  | .loop c, t, h, r, hr => by
    have key : ∀ (N : Nat) (t : Tr V) (h : H) (r : List Out), ndLoop (ndC (ihT ih) c) N t h = some r → ∃ n, ndLoop (ndC (run tab n) c) N t h = some r := by
      intro N
      induction N with
      | zero => intro t h r hr; cases hr
      | succ N ihN =>
        intro t h r hr
        exact ndSeq_snd (g := fun n => ndLoop (ndC (run tab n) c) N) (b := fun n => ndC (run tab n) c t h) (fun n m hnm => ndLoop_le (ndC_le (runs_le hnm) c) N) (ihN) (fun n m hnm => ndC_le (runs_le hnm) c t h) (ndC_snd hS c t h) hr
    exact key 1000 t h r hr
  | .exit _, _, _, _, hr => ⟨0, hr⟩
  | .ret, _, _, _, hr => ⟨0, hr⟩
  | .bad, _, _, _, hr => ⟨0, hr⟩

/-- The table of the fast form is that of a table. -/
def TabG (tab : Tr (Option F)) (tg : Tr (Option G)) : Prop := ∀ f g, tg.get none f = some g → ∃ F, tab.get none f = some F ∧ g = toG F

/-- What is known by other means is marked. -/
def TabM (tab : Tr (Option F)) : Prop := ∀ f F, tab.get none f = some F → ∀ o, F.orc = some o → F.nd = true

theorem goT_sound {tg : Tr (Option G)} (hG : TabG tab tg) (hO : TabM tab) : ∀ n, SndIH tab (goT tg n)
  | 0, _, _, _, _, _, _, hr => by cases hr
  | n + 1, f, args, h, x, q, h', hr => by
    have hr : callG (getG f tg) (goT tg n) args h = .one x q h' := hr
    rw [getG_eq] at hr
    cases hg : tg.get none f with
    | none => rw [hg] at hr; cases hr
    | some g =>
      rw [hg] at hr
      obtain ⟨F, hF, rfl⟩ := hG f g hg
      have hr : callB (Nat.ble args.length F.n) (toG F) (goT tg n) args h = .one x q h' := hr
      cases hb : Nat.ble args.length F.n with
      | false => rw [hb] at hr; cases hr
      | true =>
        rw [hb] at hr
        have hr : callN (cond F.nd (some F) none) (toG F) (goT tg n) args h = .one x q h' := hr
        cases hnd : F.nd with
        | true =>
          rw [hnd] at hr
          have hr : orcN F.orc F (toG F) (goT tg n) args h = .one x q h' := hr
          cases horc : F.orc with
          | some o =>
            rw [horc] at hr
            have hr : o args h = .one x q h' := hr
            refine ⟨1, ?_⟩
            show runF (run tab 0) args h (tab.get none f) = _
            rw [hF]
            simp only [runF, horc]
            exact hr
          | none =>
          rw [horc] at hr
          have hr : joinO F.res (ndC (ihT (goT tg n)) F.body (putA args .e (Tr.fill undefV F.n F.n)) h) = .one x q h' := hr
          rw [putA_eq] at hr
          cases ho : ndC (ihT (goT tg n)) F.body (putArgs .e args (Tr.fill undefV F.n F.n)) h with
          | none => rw [ho] at hr; cases hr
          | some outs =>
            obtain ⟨m, hm⟩ := ndC_snd (goT_sound hG hO n) F.body _ h outs ho
            refine ⟨m + 1, ?_⟩
            show runF (run tab m) args h (tab.get none f) = _
            rw [hF]
            simp only [runF, horc]
            show cond (Nat.ble args.length F.n) (cond F.nd (joinO F.res (ndC (run tab m) F.body (putArgs .e args (Tr.fill undefV F.n F.n)) h)) _) .fail = _
            rw [hb, hnd, hm]
            rw [ho] at hr
            exact hr
        | false =>
        rw [hnd] at hr
        have hr : retG ((cond F.nd kBad (kC F.body)) (goT tg n) (putA args .e (Tr.fill undefV F.n F.n)) h) (kRes F.res) = .one x q h' := hr
        rw [putA_eq, hnd] at hr
        simp only [cond_false] at hr
        cases hk : kC F.body (goT tg n) (putArgs .e args (Tr.fill undefV F.n F.n)) h with
        | fail => rw [hk] at hr; cases hr
        | one y t0 h0 =>
          rw [hk] at hr
          obtain ⟨m, hm⟩ := kC_sound (goT_sound hG hO n) F.body _ h y t0 h0 hk
          refine ⟨m + 1, ?_⟩
          cases horc : F.orc with
          | some o => exact absurd hnd (by rw [hO f F hF o horc]; simp)
          | none =>
          show runF (run tab m) args h (tab.get none f) = _
          rw [hF]
          simp only [runF, horc]
          show cond (Nat.ble args.length F.n) (cond F.nd _ (runRet F.res (run tab m (.code F.body) (putArgs .e args (Tr.fill undefV F.n F.n)) h))) .fail = _
          rw [hb, hnd, hm]
          cases y with
          | nx => have hr : kRes F.res t0 h0 = .one x q h' := hr; rw [kRes_eq] at hr; exact hr
          | rt => have hr : kRes F.res t0 h0 = .one x q h' := hr; rw [kRes_eq] at hr; exact hr
          | ex id => cases hr

end
end Go.Eng

namespace Go.Eng
open Go.RowKit

/-- A function of which all is known by other means. -/
def orcF (n : Nat) (o : List V → H → Rs) : F := ⟨n, true, [], .bad, some o⟩

def isOrc : Option F → Option F
  | some F => (match F.orc with | some _ => some F | none => none)
  | none => none

theorem cF_orc {P : Program} {ng : Nat} {plan : Array Oper → Option (List It)} {fn : Func} {F : F} (h : cF P ng plan fn = some F) : F.orc = none := by
  unfold cF at h
  split at h
  · split at h
    · cases h
    · obtain ⟨r, _, rfl⟩ := Option.map_eq_some_iff.1 h; rfl
  · cases h

theorem isOrc_toG {P : Program} {ng : Nat} {plan : Array Oper → Option (List It)} {fn : Func} {F : F} (h : cF P ng plan fn = some F) : isOrc (toG F).nd = none := by
  have := cF_orc h
  unfold toG
  cases hn : F.nd <;> simp [isOrc, this]

/-- The entry that an entry of the fast form stands for. -/
def entF (P : Program) (ng : Nat) (plan : Array Oper → Option (List It)) (k : Nat) (g : G) : Option F :=
  match isOrc g.nd with
  | some F => some F
  | none => (P.funcs[k]?).bind (cF P ng plan)

/-- The table that a table of the fast form stands for. -/
def tabOf (P : Program) (ng : Nat) (plan : Array Oper → Option (List It)) : Tr (Option G) → (Path → Path) → Tr (Option F)
  | .nil, _ => .nil
  | .nd l g r, c => .nd (tabOf P ng plan l (fun p => c (.l p))) (match g with | none => none | some g => entF P ng plan (c .e).num g) (tabOf P ng plan r (fun p => c (.r p)))

theorem tabOf_get {P : Program} {ng : Nat} {plan : Array Oper → Option (List It)} : ∀ (t : Tr (Option G)) (c : Path → Path) (p : Path),
    (tabOf P ng plan t c).get none p = match t.get none p with | none => none | some g => entF P ng plan (c p).num g
  | .nil, _, _ => rfl
  | .nd _ _ _, _, .e => rfl
  | .nd l _ _, c, .l p => tabOf_get l (fun p => c (.l p)) p
  | .nd _ _ r, c, .r p => tabOf_get r (fun p => c (.r p)) p

/-- An entry of a table of the fast form is right. -/
def EntG [Env] (P : Program) (ng : Nat) (plan : Array Oper → Option (List It)) (p : Path) (x : Option G) : Prop :=
  ∀ g, x = some g → (∃ fn F, P.funcs[p.num]? = some fn ∧ cF P ng plan fn = some F ∧ g = toG F) ∨ ∃ n o, g = toG (orcF n o) ∧ OrcOk P ng p o

theorem EntG.none [Env] {P : Program} {ng : Nat} {plan : Array Oper → Option (List It)} {p : Path} : EntG P ng plan p none := fun _ h => by cases h

theorem EntG.some [Env] {P : Program} {ng : Nat} {plan : Array Oper → Option (List It)} {p : Path} {g : G} {k : Nat} {fn : Func} (hf : P.funcs[k]? = some fn) (hc : (cF P ng plan fn).map toG = some g) (hk : p.num = k) : EntG P ng plan p (some g) := by
  intro g' h
  cases h
  simp only [Option.map_eq_some_iff] at hc
  obtain ⟨F, hF, rfl⟩ := hc
  exact .inl ⟨fn, F, by rw [hk, hf], hF, rfl⟩

theorem EntG.orc [Env] {P : Program} {ng : Nat} {plan : Array Oper → Option (List It)} {p : Path} {n : Nat} {o : List V → H → Rs} (h : OrcOk P ng p o) : EntG P ng plan p (Option.some (toG (orcF n o))) := by
  intro g' h'
  cases h'
  exact .inr ⟨n, o, rfl, h⟩

theorem tabOf_ent [Env] {P : Program} {ng : Nat} {plan : Array Oper → Option (List It)} {t : Tr (Option G)} (h : AllT (EntG P ng plan) t) {f : Path} {F : F} (hF : (tabOf P ng plan t id).get none f = some F) :
    ∃ g, t.get none f = some g ∧ g = toG F ∧ ((∃ fn, P.funcs[f.num]? = some fn ∧ cF P ng plan fn = some F) ∨ ∃ n o, F = orcF n o ∧ OrcOk P ng f o) := by
  rw [tabOf_get] at hF
  cases hg : t.get none f with
  | none => rw [hg] at hF; cases hF
  | some g =>
    rw [hg] at hF
    have hF : entF P ng plan f.num g = some F := hF
    have := h.get (d := none) (p := f) (by rw [hg]; intro c; cases c)
    rcases this g hg with ⟨fn, F', hfn, hc, rfl⟩ | ⟨n, o, rfl, ho⟩
    · unfold entF at hF
      rw [isOrc_toG hc, hfn] at hF
      have hF : cF P ng plan fn = some F := hF
      rw [hc] at hF
      cases hF
      exact ⟨_, rfl, rfl, .inl ⟨fn, hfn, hc⟩⟩
    · have hF : some (orcF n o) = some F := hF
      cases hF
      exact ⟨_, rfl, rfl, .inr ⟨n, o, rfl, ho⟩⟩

theorem tabOf_ok [Env] {P : Program} {ng : Nat} {plan : Array Oper → Option (List It)} {t : Tr (Option G)} (h : AllT (EntG P ng plan) t) : TabOk P ng plan (tabOf P ng plan t id) := by
  intro f F hF
  obtain ⟨_, _, _, h | ⟨n, o, rfl, ho⟩⟩ := tabOf_ent h hF
  · exact .inl h
  · exact .inr ⟨o, rfl, ho⟩

theorem TabM.of [Env] {P : Program} {ng : Nat} {plan : Array Oper → Option (List It)} {t : Tr (Option G)} (h : AllT (EntG P ng plan) t) : TabM (tabOf P ng plan t id) := by
  intro f F hF o ho
  obtain ⟨_, _, _, ⟨fn, _, hc⟩ | ⟨n, o', rfl, _⟩⟩ := tabOf_ent h hF
  · rw [cF_orc hc] at ho; cases ho
  · rfl

theorem TabG.of [Env] {P : Program} {ng : Nat} {plan : Array Oper → Option (List It)} {t : Tr (Option G)} (h : AllT (EntG P ng plan) t) : TabG (tabOf P ng plan t id) t := by
  intro f g hg
  have := h.get (d := none) (p := f) (by rw [hg]; intro c; cases c)
  rcases this g hg with ⟨fn, F, hfn, hc, rfl⟩ | ⟨n, o, rfl, ho⟩
  · refine ⟨F, ?_, rfl⟩
    rw [tabOf_get, hg]
    show entF P ng plan f.num (toG F) = _
    unfold entF
    rw [isOrc_toG hc, hfn]
    exact hc
  · exact ⟨orcF n o, by rw [tabOf_get, hg]; rfl, rfl⟩

noncomputable def trueJ (v : V) : Bool := V.rec (motive_1 := fun _ => Bool) (motive_2 := fun _ => PUnit) (fun x => x) (fun _ _ => false) (fun _ => false) (fun _ _ => false) false (fun _ _ _ _ _ _ => false) false (fun _ => false) false (fun _ _ _ => false) false (fun _ _ _ => false) false (fun _ _ => false) (fun _ _ => false) (fun _ => false) (fun _ _ => false) (fun _ _ _ _ => false) PUnit.unit (fun _ _ _ _ => PUnit.unit) v
noncomputable def endsJ (r : Rs) : Bool := Rs.rec (motive := fun _ => Bool) false (fun _ q _ => trueJ (valT q)) r

theorem endsJ_spec {r : Rs} (h : endsJ r = true) : ∃ x q h', r = .one x q h' ∧ q.get undefV .e = .b true := by
  cases r with
  | fail => cases h
  | one x q h' =>
    refine ⟨x, q, h', rfl, ?_⟩
    have h : trueJ (valT q) = true := h
    have e : valT q = q.get undefV .e := gP_eq .e q
    rw [e] at h
    cases hv : q.get undefV .e <;> rw [hv] at h <;> first
      | (cases h; done)
      | (have h : _ = true := h; rename_i b; exact congrArg V.b h)

/-- A CALL THAT ENDS WITH 'true', by the fast form; some package-level variables are known. -/
theorem calls_gen [Env] {P : Program} {ng : Nat} {tg : Tr (Option G)} (hm : P.follows .mixedOrders = true) (hG : AllT (EntG P ng (planOf P ng)) tg) {n : Nat} {f : Path} {args : List V} {xs : List Value} {ρ0 : Ren} {h0 : H}
    (hrun : endsJ (goT tg n f args h0) = true) (hargs : concs ρ0 args = some xs) (w : World) (hrel : HRel ρ0 h0 w) (hdead : ∀ p, (h0.get p).live = false) (hE : Glob ng ρ0) :
    Calls P f.num xs.toArray w fun e w' => e = .returned (.bool true) ∧ Below w.heap.size w w' := by
  obtain ⟨x, q, h', hr, hq⟩ := endsJ_spec hrun
  obtain ⟨N, hN⟩ := goT_sound (TabG.of hG) (TabM.of hG) n f args _ x q h' hr
  refine ((sound hm (tabOf_ok hG) N).call f args .nil h0 x q h' hN ρ0 w xs hargs hrel hE).2.mono ?_
  rintro e w' ⟨u, ρ', rfl, hu, _, hx⟩
  rw [hq] at hu
  simp only [conc, Option.some.injEq] at hu
  subst hu
  exact ⟨rfl, hx.str.os, hx.str.tape, hx.str.output, hx.size, fun b hb => hx.frame b hb fun p y hp _ => by rw [hdead p] at hp; cases hp⟩

/-- No package-level variable is known. -/
abbrev noEnv : Env := ⟨fun _ => none, fun _ _ h => (by cases h), fun _ _ h => (by cases h), fun _ => 0⟩

theorem calls_trueJ {P : Program} {tg : Tr (Option G)} (hm : P.follows .mixedOrders = true) (hG : AllT (@EntG noEnv P 0 (planOf P 0)) tg) {n : Nat} {f : Path} (hrun : endsJ (goT tg n f [] ⟨.nil, .e⟩) = true) (w : World) :
    Calls P f.num #[] w fun e w' => e = .returned (.bool true) ∧ Below w.heap.size w w' :=
  @calls_gen noEnv P 0 tg hm hG n f [] [] (fun _ => none) ⟨.nil, .e⟩ hrun rfl w
    (@HRel.mk noEnv _ _ _ (fun _ _ h => (by cases h)) (fun _ _ h => (by cases h)) (fun _ h => (by cases h)) (fun _ _ _ _ h => (by cases h)) (fun _ _ h => (by cases h))) (fun _ => rfl) ⟨fun g _ hg => (by simp at hg), show @FactOk noEnv 0 0 from trivial⟩

def isBool : Value → Bool
  | .bool _ => true
  | _ => false

/-- A package-level variable of one cell, that is no bool. -/
def OneCell (w : World) (g : Nat) : Prop := ∃ x e fz, w.heap[g]? = some (.cells #[x] e fz) ∧ (x.oneCell' && !isBool x) = true

/-- What lies in some package-level variables. -/
noncomputable abbrev envOf (gs : List Nat) (w : World) (_ : ∀ g ∈ gs, OneCell w g) : Env where
  val g := if g ∈ gs then (match w.heap[g]? with | some (.cells c _ _) => (match c.toList with | [x] => if x.oneCell' && !isBool x then some x else none | _ => none) | _ => none) else none
  one g x h := by
    split at h
    · split at h
      · split at h
        · split at h
          · rename_i h1; cases h; simp only [Bool.and_eq_true] at h1; exact h1.1
          · cases h
        · cases h
      · cases h
    · cases h
  par := fun _ => 0
  nob g b h := by
    split at h
    · split at h
      · split at h
        · split at h
          · rename_i h1; cases h; simp [isBool] at h1
          · cases h
        · cases h
      · cases h
    · cases h

theorem envOf_val (gs : List Nat) (w : World) (hw : ∀ g ∈ gs, OneCell w g) (g : Nat) : (envOf gs w hw).val g = if g ∈ gs then (match w.heap[g]? with | some (.cells c _ _) => (match c.toList with | [x] => if x.oneCell' && !isBool x then some x else none | _ => none) | _ => none) else none := rfl

theorem calls_env {P : Program} {ng : Nat} {tg : Tr (Option G)} (hm : P.follows .mixedOrders = true) (hG : ∀ [Env], AllT (EntG P ng (planOf P ng)) tg) {n : Nat} {f : Path} (hrun : endsJ (goT tg n f [] ⟨.nil, .e⟩) = true) (w : World)
    (gs : List Nat) (hw : ∀ g ∈ gs, OneCell w g) (hgs : ∀ g, g < 64 → Nat.testBit ng g = true → g ∈ gs)
    (hmx : mxC ng = 0 ∨ ∃ z e fz, w.heap[mxG ng]? = some (.cells #[.int .i64 z] e fz) ∧ mxG ng ∈ gs ∧ ClassZ (mxC ng) z) :
    Calls P f.num #[] w fun e w' => e = .returned (.bool true) ∧ Below w.heap.size w w' := by
  letI : Env := envOf gs w hw
  have hval : ∀ g x, Env.val g = some x → ∃ e fz, w.heap[g]? = some (.cells #[x] e fz) := by
    intro g x h
    have h : (envOf gs w hw).val g = some x := h
    rw [envOf_val] at h
    split at h
    · split at h
      · rename_i c e fz hc
        split at h
        · rename_i y hy
          split at h
          · cases h
            have : c = #[x] := by apply Array.ext'; simpa using hy
            subst this
            exact ⟨e, fz, hc⟩
          · cases h
        · cases h
      · cases h
    · cases h
  refine calls_gen (xs := []) (ρ0 := fun _ => none) hm hG hrun rfl w ⟨fun _ _ h => (by cases h), fun _ _ h => (by cases h), fun _ h => (by cases h), fun _ _ _ _ h => (by cases h), fun g x h => ⟨hval g x h, fun _ _ h => (by cases h)⟩⟩ (fun _ => rfl) ⟨fun g hlt hg => ?_, ?_⟩
  · obtain ⟨x, e, fz, hc, h1⟩ := hw g (hgs g hlt hg)
    refine ⟨x, ?_⟩
    show (envOf gs w hw).val g = some x
    rw [envOf_val, if_pos (hgs g hlt hg)]
    simp only [hc]
    rw [if_pos h1]
  · rcases hmx with h0 | ⟨z, e, fz, hc, hmem, hcl⟩
    · rw [h0]; trivial
    · have hv : Env.val (mxG ng) = some (.int .i64 z) := by
        show (envOf gs w hw).val (mxG ng) = _
        rw [envOf_val, if_pos hmem]
        simp only [hc]
        rfl
      match hq : mxC ng, hcl with
      | 0, _ => trivial
      | 1, hcl => exact ⟨z, hv, hcl⟩
      | 2, hcl => have hcl : z = 3 := hcl; subst hcl; exact hv
      | _ + 3, hcl => exact ⟨z, hv, hcl⟩

end Go.Eng

namespace Go.Eng
open Go.RowKit

/-! ### Values that name no block -/

mutual
def flat : V → Bool
  | .b _ => true
  | .i _ _ => true
  | .s _ => true
  | .p _ _ => false
  | .p0 => true
  | .sl _ _ _ _ _ _ => false
  | .sl0 => true
  | .m _ => false
  | .m0 => true
  | .f _ caps => flats caps
  | .f0 => true
  | .ifc _ v => flat v
  | .i0 => true
  | .a l => flats l
  | .t l => flats l
  | .o _ => true
  | .oi _ _ => true
  | .y _ _ _ _ => true
def flats : List V → Bool
  | [] => true
  | v :: l => flat v && flats l
end

mutual
theorem conc_flat [Env] {ρ ρ' : Ren} : ∀ (v : V), flat v = true → conc ρ v = conc ρ' v
  | .b _, _ | .i _ _, _ | .s _, _ | .p0, _ | .sl0, _ | .m0, _ | .f0, _ | .i0, _ | .o _, _ | .oi _ _, _ | .y _ _ _ _, _ => rfl
  | .f fn caps, h => by simp only [conc]; rw [concs_flat (ρ := ρ) (ρ' := ρ') caps h]
  | .ifc t v, h => by simp only [conc]; rw [conc_flat (ρ := ρ) (ρ' := ρ') v h]
  | .a l, h => by simp only [conc]; rw [concs_flat (ρ := ρ) (ρ' := ρ') l h]
  | .t l, h => by simp only [conc]; rw [concs_flat (ρ := ρ) (ρ' := ρ') l h]
theorem concs_flat [Env] {ρ ρ' : Ren} : ∀ (l : List V), flats l = true → concs ρ l = concs ρ' l
  | [], _ => rfl
  | v :: l, h => by
    simp only [flats, Bool.and_eq_true] at h
    simp only [concs]
    rw [conc_flat (ρ := ρ) (ρ' := ρ') v h.1, concs_flat (ρ := ρ) (ρ' := ρ') l h.2]
end

/-! ### A world in which nothing old has turned -/

theorem HRel.below [Env] {ρ : Ren} {h : H} {w w' : World} (hr : HRel ρ h w) (hb : Below w.heap.size w w') : HRel ρ h w' := by
  have old : ∀ {b : Nat} {x : Obj}, w.heap[b]? = some x → w'.heap[b]? = some x := fun {b x} hx => by
    rw [hb.block b (Array.getElem?_eq_some_iff.1 hx).1]; exact hx
  refine ⟨hr.dom, fun p x hx => Nat.lt_of_lt_of_le (hr.inside p x hx) hb.size, fun p hp => ?_, hr.inj, fun g x hx => ?_⟩
  · obtain ⟨x, hx, ho⟩ := hr.ob p hp
    refine ⟨x, hx, ?_⟩
    rw [hb.block _ (hr.inside p x hx)]
    exact ho
  · obtain ⟨⟨e, fz, h1⟩, h2⟩ := hr.keep g x hx
    exact ⟨⟨e, fz, old h1⟩, h2⟩

theorem Ext.below {ρ : Ren} {h : H} {w w' : World} (hb : Below w.heap.size w w') : Ext ρ h w ρ h w' :=
  ⟨.refl ρ, hb.size, fun b hlt _ => hb.block b hlt, fun p x h1 h2 => .inr ⟨p, x, h1, h2, rfl⟩, fun _ _ h => .inl h, Nat.le_refl _, ⟨hb.os, hb.tape, hb.output⟩⟩

/-- A new block that came to be on the way. -/
theorem HRel.newFar [Env] {ρ : Ren} {h : H} {w w' : World} (hr : HRel ρ h w) (hb : Below w.heap.size w w') (o : Ob) (b sz : Nat) (h1 : w.heap.size ≤ b) (h2 : b < w'.heap.size) (ho : ObRel (ρ.add h.n (b, sz)) sz o w'.heap[b]?) :
    HRel (ρ.add h.n (b, sz)) (h.new o) w' ∧ Ext ρ h w (ρ.add h.n (b, sz)) (h.new o) w' := by
  have hr' := hr.below hb
  have hfree := hr.free
  have hlat : Later ρ (ρ.add h.n (b, sz)) := Ren.later_add hfree
  have hget : ∀ p, (h.new o).get p = if p = h.n then o else h.get p := fun p => by
    unfold H.new H.get
    simp only
    rw [Tr.get_ins]
  have hnum : (h.new o).n.num = h.n.num + 1 := by simp [H.new, Path.num_succ]
  have hcase : ∀ p x, ρ.add h.n (b, sz) p = some x → (p = h.n ∧ x = (b, sz)) ∨ ρ p = some x := fun p x hp => by
    by_cases e : p = h.n
    · subst e; rw [Ren.add_self] at hp; cases hp; exact .inl ⟨rfl, rfl⟩
    · rw [Ren.add_ne e] at hp; exact .inr hp
  refine ⟨⟨fun p x hp => ?_, fun p x hp => ?_, fun p hp => ?_, fun p q x y hp hq hx hy e => ?_, fun g x hx => ?_⟩, ?_⟩
  · rcases hcase p x hp with ⟨rfl, rfl⟩ | hp
    · omega
    · have := hr.dom p x hp; omega
  · rcases hcase p x hp with ⟨rfl, rfl⟩ | hp
    · exact h2
    · exact hr'.inside p x hp
  · rw [hget] at hp ⊢
    by_cases e : p = h.n
    · rw [if_pos e]
      exact ⟨(b, sz), by rw [e, Ren.add_self], ho⟩
    · rw [if_neg e] at hp ⊢
      obtain ⟨x, hx, hox⟩ := hr'.ob p hp
      exact ⟨x, hlat _ _ hx, hox.later hlat⟩
  · rcases hcase p x hx with ⟨rfl, rfl⟩ | hx <;> rcases hcase q y hy with ⟨rfl, rfl⟩ | hy
    · rfl
    · have := hr.inside q y hy
      simp only at e
      omega
    · have := hr.inside p x hx
      simp only at e
      omega
    · have ep : p ≠ h.n := by rintro rfl; rw [hfree] at hx; cases hx
      have eq : q ≠ h.n := by rintro rfl; rw [hfree] at hy; cases hy
      rw [hget, if_neg ep] at hp
      rw [hget, if_neg eq] at hq
      exact hr.inj p q x y hp hq hx hy e
  · obtain ⟨⟨e, fz, hg⟩, hk⟩ := hr.keep g x hx
    obtain ⟨⟨e', fz', hg'⟩, _⟩ := hr'.keep g x hx
    refine ⟨⟨e', fz', hg'⟩, fun p y hp hy => ?_⟩
    rcases hcase p y hy with ⟨rfl, rfl⟩ | hy
    · have := (Array.getElem?_eq_some_iff.1 hg).1
      simp only
      omega
    · have ep : p ≠ h.n := by rintro rfl; rw [hfree] at hy; cases hy
      rw [hget, if_neg ep] at hp
      exact hk p y hp hy
  · refine ⟨hlat, hb.size, fun k hk _ => hb.block k hk, fun p x hp hx => ?_, fun p x hp => ?_, by omega, ⟨hb.os, hb.tape, hb.output⟩⟩
    · rcases hcase p x hx with ⟨rfl, rfl⟩ | hx
      · exact .inl h1
      · have ep : p ≠ h.n := by rintro rfl; rw [hfree] at hx; cases hx
        rw [hget, if_neg ep] at hp
        exact .inr ⟨p, x, hp, hx, rfl⟩
    · rcases hcase p x hp with ⟨rfl, rfl⟩ | hp
      · exact .inr (Nat.le_refl _)
      · exact .inl hp

/-! ### Answers told once -/

/-- Did the run end, with this value, which names no block? -/
noncomputable def endsV (r : Rs) (v : V) : Bool :=
  match r with
  | .one _ q _ => sameV (q.get undefV .e) v && flat v
  | .fail => false

theorem endsV_spec {r : Rs} {v : V} (h : endsV r v = true) : ∃ x q h', r = .one x q h' ∧ q.get undefV .e = v ∧ flat v = true := by
  unfold endsV at h
  split at h
  · rename_i x q h'
    simp only [Bool.and_eq_true] at h
    exact ⟨x, q, h', rfl, sameV_eq h.1, h.2⟩
  · cases h

/-- A call on values that name no block, told in an empty heap, in whatever world. -/
theorem calls_flat [Env] {P : Program} {ng : Nat} {tg : Tr (Option G)} (hm : P.follows .mixedOrders = true) (hG : AllT (EntG P ng (planOf P ng)) tg) {n : Nat} {f : Path} {args : List V} {v : V}
    (hrun : endsV (goT tg n f args ⟨.nil, .e⟩) v = true) (hfa : flats args = true) {ρ : Ren} {h : H} {w : World} {xs : List Value} (hxs : concs ρ args = some xs) (hrel : HRel ρ h w) (hE : Glob ng ρ) :
    (callFunc f.num xs.toArray).run P w = .ok (.enter f.num xs.toArray) w ∧ Calls P f.num xs.toArray w fun e w' => ∃ u, e = .returned u ∧ conc ρ v = some u ∧ Below w.heap.size w w' := by
  obtain ⟨x, q, h', hr, hq, hv⟩ := endsV_spec hrun
  obtain ⟨N, hN⟩ := goT_sound (TabG.of hG) (TabM.of hG) n f args _ x q h' hr
  have hrel0 : HRel (fun _ => none) ⟨.nil, .e⟩ w := ⟨fun _ _ h => (by cases h), fun _ _ h => (by cases h), fun _ h => (by cases h), fun _ _ _ _ h => (by cases h), fun g x hx => ⟨(hrel.keep g x hx).1, fun _ _ h => (by cases h)⟩⟩
  have hxs0 : concs (fun _ => none) args = some xs := by rw [concs_flat (ρ' := ρ) args hfa]; exact hxs
  obtain ⟨h1, h2⟩ := (sound hm (tabOf_ok hG) N).call f args .nil _ x q h' hN (fun _ => none) w xs hxs0 hrel0 hE
  refine ⟨h1, h2.mono ?_⟩
  rintro e w' ⟨u, ρ', rfl, hu, _, hx⟩
  rw [hq] at hu
  exact ⟨u, rfl, by rw [conc_flat (ρ' := ρ') v hv]; exact hu, hx.str.os, hx.str.tape, hx.str.output, hx.size, fun b hb => hx.frame b hb fun p y hp _ => by cases hp⟩

theorem callOk_flat [Env] {P : Program} {ng : Nat} {tg : Tr (Option G)} (hm : P.follows .mixedOrders = true) (hG : AllT (EntG P ng (planOf P ng)) tg) {n : Nat} {f : Path} {args : List V} {v : V}
    (hrun : endsV (goT tg n f args ⟨.nil, .e⟩) v = true) (hfa : flats args = true) (h : H) : CallOk P ng f args h v h := by
  intro ρ w xs hxs hrel hE
  obtain ⟨h1, h2⟩ := calls_flat hm hG hrun hfa hxs hrel hE
  exact ⟨h1, h2.mono fun e w' ⟨u, he, hu, hb⟩ => ⟨u, ρ, he, hu, hrel.below hb, Ext.below hb⟩⟩

/-- What a table of answers says. -/
def findM : List (List V × V) → List V → Option V
  | [], _ => none
  | (a, v) :: l, args => cond (sameVs a args) (some v) (findM l args)

noncomputable def memoO (tbl : List (List V × V)) (args : List V) (h : H) : Rs :=
  match findM tbl args with
  | some v => .one .rt (.nd .nil v .nil) h
  | none => .fail

theorem findM_mem : ∀ {tbl : List (List V × V)} {args : List V} {v : V}, findM tbl args = some v → (args, v) ∈ tbl
  | (a, u) :: l, args, v, h => by
    simp only [findM] at h
    cases hs : sameVs a args with
    | true =>
      rw [hs] at h
      simp only [cond_true, Option.some.injEq] at h
      subst h
      rw [sameVs_eq hs]
      exact List.mem_cons_self ..
    | false =>
      rw [hs] at h
      exact List.mem_cons_of_mem _ (findM_mem h)

theorem memo_ok [Env] {P : Program} {ng : Nat} {f : Path} {tbl : List (List V × V)} (h : ∀ a v, (a, v) ∈ tbl → ∀ h, CallOk P ng f a h v h) : OrcOk P ng f (memoO tbl) := by
  intro args h0 x q h' hr
  unfold memoO at hr
  split at hr
  · rename_i v hv
    cases hr
    exact h _ _ (findM_mem hv) h0
  · cases hr

/-! ### Maps that are known, with strings for keys -/

/-- No key twice, no stamp twice, all stamps ahead of the clock; the keys are strings that are not too long. -/
def goodE (clock : Nat) : List (V × V × Nat) → Bool
  | [] => true
  | (k, _, b) :: l => (match k with
    | .s x => Nat.ble x.length 1000 && Nat.blt b clock && l.all (fun e => (match e.1 with | .s y => !eqL x y | _ => false) && !Nat.beq b e.2.2)
    | _ => false) && goodE clock l

theorem eqL_refl : ∀ x : List Nat, eqL x x = true
  | [] => rfl
  | a :: x => by simp [eqL, eqL_refl x]

theorem ofNat_inj : ∀ {x y : List Nat}, x.all byteOk = true → y.all byteOk = true → x.map UInt8.ofNat = y.map UInt8.ofNat → x = y
  | [], [], _, _, _ => rfl
  | [], _ :: _, _, _, h => by simp at h
  | _ :: _, [], _, _, h => by simp at h
  | a :: x, b :: y, hx, hy, h => by
    simp only [List.all_cons, Bool.and_eq_true, byteOk, Nat.blt_eq] at hx hy
    simp only [List.map_cons, List.cons.injEq] at h
    have e : a = b := by
      have := congrArg UInt8.toNat h.1
      simp only [UInt8.toNat_ofNat'] at this
      omega
    rw [e, ofNat_inj (by simpa [byteOk] using hx.2) (by simpa [byteOk] using hy.2) h.2]

theorem EntRel.mem [Env] {ρ : Ren} : ∀ {es : List (V × V × Nat)} {L : List MapEntry}, EntRel ρ es L → ∀ x ∈ L, ∃ e ∈ es, conc ρ e.1 = some x.key ∧ conc ρ e.2.1 = some x.val ∧ x.born = e.2.2
  | [], [], _, x, hx => by cases hx
  | [], _ :: _, h, _, _ => h.elim
  | _ :: _, [], h, _, _ => h.elim
  | (k, v, b) :: es, y :: L, ⟨h1, h2, h3, h4⟩, x, hx => by
    rcases List.mem_cons.1 hx with rfl | hx
    · exact ⟨_, List.mem_cons_self .., h1, h2, h3⟩
    · obtain ⟨e, he, h⟩ := EntRel.mem h4 x hx
      exact ⟨e, List.mem_cons_of_mem _ he, h⟩

/-- What a good map's entries are. -/
theorem goodE_spec [Env] {ρ : Ren} {clock : Nat} : ∀ {es : List (V × V × Nat)} {L : List MapEntry}, goodE clock es = true → EntRel ρ es L →
    (∀ x ∈ L, x.born < clock) ∧ (L.map (·.born)).Nodup ∧ (L.map (·.key)).Nodup ∧ ∀ x ∈ L, ∃ s : List UInt8, x.key = .string ⟨s.toArray⟩ ∧ s.length ≤ 1000
  | [], [], _, _ => ⟨by simp, by simp, by simp, by simp⟩
  | [], _ :: _, _, h => h.elim
  | _ :: _, [], _, h => h.elim
  | (k, v, b) :: es, y :: L, hg, ⟨h1, h2, h3, h4⟩ => by
    simp only [goodE] at hg
    cases k <;> simp only [Bool.false_and] at hg <;> try (cases hg; done)
    rename_i x
    simp only [Bool.and_eq_true, List.all_eq_true, Nat.blt_eq] at hg
    obtain ⟨⟨⟨hx, hb⟩, hall⟩, hg⟩ := hg
    obtain ⟨a1, a2, a3, a4⟩ := goodE_spec hg h4
    have hx := Nat.le_of_ble_eq_true hx
    simp only [conc] at h1
    split at h1
    · rename_i hok
      simp only [Option.some.injEq] at h1
      refine ⟨fun z hz => ?_, ?_, ?_, fun z hz => ?_⟩
      · rcases List.mem_cons.1 hz with rfl | hz
        · omega
        · exact a1 z hz
      · rw [List.map_cons, List.nodup_cons]
        refine ⟨fun hm => ?_, a2⟩
        obtain ⟨z, hz, e⟩ := List.mem_map.1 hm
        obtain ⟨e', he', _, _, q3⟩ := h4.mem z hz
        have := (hall e' he').2
        have e : z.born = y.born := e
        rw [h3, q3] at e
        rw [e] at this
        simp at this
      · rw [List.map_cons, List.nodup_cons]
        refine ⟨fun hm => ?_, a3⟩
        obtain ⟨z, hz, e⟩ := List.mem_map.1 hm
        obtain ⟨e', he', q1, _, _⟩ := h4.mem z hz
        have := (hall e' he').1
        have e : z.key = y.key := e
        split at this
        · rename_i u hu
          rw [hu] at q1
          simp only [conc] at q1
          split at q1
          · rename_i hok'
            simp only [Option.some.injEq] at q1
            rw [← q1, ← h1] at e
            simp only [Value.string.injEq, ByteArray.mk.injEq] at e
            have e := List.toArray_inj e
            rw [ofNat_inj hok' hok e, eqL_refl] at this
            cases this
          · cases q1
        · cases this
      · rcases List.mem_cons.1 hz with rfl | hz
        · exact ⟨_, h1.symm, by simpa using hx⟩
        · exact a4 z hz
    · cases h1

/-- 'for k := range m { l = append(l, k) }; slices.Sort(l); return l' at a map that is known: a row of the call's own, of which the length is told. elem: the keys' type. -/
noncomputable def sortO (elem : Nat) (args : List V) (h : H) : Rs :=
  match args with
  | [.m b] => (match h.get b with
    | .m (e :: es) clock => cond (goodE clock (e :: es)) (cond (Nat.ble (es.length + 1) 1000) (.one .rt (.nd .nil (.sl h.n 0 (es.length + 1) (es.length + 1) false 1) .nil) (h.new (.c false [] elem))) .fail) .fail
    | _ => .fail)
  | _ => .fail

theorem sortO_ok [Env] {P : Program} {ng : Nat} {f : Path} {elem : Nat} (hent : ∀ xs w, (callFunc f.num xs).run P w = .ok (.enter f.num xs) w)
    (hcon : ∀ (w : World) (b : Nat) (L : List MapEntry) (clock : Nat), w.heap[b]? = some (.map L.toArray clock) → (∀ x ∈ L, x.born < clock) → (L.map (·.born)).Nodup → (L.map (·.key)).Nodup → (∀ x ∈ L, ∃ s : List UInt8, x.key = .string ⟨s.toArray⟩ ∧ s.length ≤ 1000) → L ≠ [] → L.length ≤ 1000 →
      Calls P f.num #[.map (some b)] w fun e w' => ∃ g cap cur, e = .returned (.slice (some ⟨g, 0, none⟩) L.length cap) ∧ w.heap.size ≤ g ∧ w'.heap[g]? = some (.cells cur elem (0, 0)) ∧ L.length ≤ cap ∧ cur.size = cap ∧ Below w.heap.size w w') :
    OrcOk P ng f (sortO elem) := by
  intro args h x q h' hr
  unfold sortO at hr
  split at hr
  · rename_i b
    split at hr
    · rename_i e es clock hob
      cases hg : goodE clock (e :: es) with
      | false => rw [hg] at hr; cases hr
      | true =>
        rw [hg] at hr
        simp only [cond_true] at hr
        cases hl : Nat.ble (es.length + 1) 1000 with
        | false => rw [hl] at hr; cases hr
        | true =>
          rw [hl] at hr
          simp only [cond_true, Rs.one.injEq] at hr
          obtain ⟨rfl, rfl, rfl⟩ := hr
          have hl := Nat.le_of_ble_eq_true hl
          intro ρ w xs hxs hrel hE
          simp only [concs, conc, Option.bind_eq_some_iff, Option.map_eq_some_iff] at hxs
          obtain ⟨u, ⟨y, hy, rfl⟩, zs, hz, rfl⟩ := hxs
          cases hz
          obtain ⟨y', hy', ho⟩ := hrel.ob b (by rw [hob]; rfl)
          rw [hy] at hy'
          cases hy'
          rw [hob] at ho
          obtain ⟨L, hL, hR⟩ := ho
          obtain ⟨a1, a2, a3, a4⟩ := goodE_spec hg hR
          have hlen := hR.length
          simp only [List.length_cons] at hlen
          refine ⟨hent _ _, (hcon w y.1 L clock hL a1 a2 a3 a4 (by intro e; rw [e] at hlen; simp at hlen) (by omega)).mono ?_⟩
          rintro e' w' ⟨g, cap, cur, rfl, hg1, hg2, hc1, hc2, hb⟩
          have hgl : g < w'.heap.size := (Array.getElem?_eq_some_iff.1 hg2).1
          obtain ⟨r1, r2⟩ := hrel.newFar hb (.c false [] elem) g cap hg1 hgl ⟨cur, (0, 0), hg2, hc2, Nat.zero_le _, fun i v hv => by simp at hv, fun _ i _ hi => by omega⟩
          refine ⟨_, _, rfl, ?_, r1, r2⟩
          show conc _ (.sl h.n 0 (es.length + 1) (es.length + 1) false 1) = _
          simp only [conc, Ren.add_self, Option.bind_some, capOf]
          rw [if_pos (by simp; omega), hlen]
          simp
    · cases hr
  · cases hr

/-- Each value points at a struct whose cell 1 is an empty map. -/
noncomputable def bareE (h : H) : List (V × V × Nat) → Bool
  | [] => true
  | (_, v, _) :: l => (match v with
    | .p g 0 => (match h.get g with
      | .c _ (_ :: .m mc :: _) _ => (match h.get mc with | .m [] _ => true | _ => false)
      | _ => false)
    | _ => false) && bareE h l

/-- The walk over all formulas, where no cell is set. -/
noncomputable def formO (args : List V) (h : H) : Rs :=
  match args with
  | [.p B 0, _] => (match h.get B with
    | .c _ (.m b :: _) _ => (match h.get b with
      | .m es clock => cond (goodE clock es) (cond (bareE h es) (cond (Nat.ble es.length 1000) (.one .rt (.nd .nil (.t []) .nil) h) .fail) .fail) .fail
      | _ => .fail)
    | _ => .fail)
  | _ => .fail

theorem bareE_spec [Env] {ρ : Ren} {h : H} {w : World} (hrel : HRel ρ h w) : ∀ {es : List (V × V × Nat)} {L : List MapEntry}, bareE h es = true → EntRel ρ es L →
    ∀ x ∈ L, ∃ g mc clock, x.val = .pointer (some ⟨g, 0, none⟩) ∧ g < w.heap.size ∧ mc < w.heap.size ∧ w.cell? ⟨g, 1, none⟩ = some (.map (some mc)) ∧ w.heap[mc]? = some (.map #[] clock)
  | [], [], _, _, x, hx => by cases hx
  | [], _ :: _, _, h, _, _ => h.elim
  | _ :: _, [], _, h, _, _ => h.elim
  | (k, v, b) :: es, y :: L, hb, ⟨h1, h2, h3, h4⟩, x, hx => by
    simp only [bareE, Bool.and_eq_true] at hb
    obtain ⟨hb1, hb2⟩ := hb
    rcases List.mem_cons.1 hx with rfl | hx
    · split at hb1
      · rename_i g
        split at hb1
        · rename_i ro c0 mc cs el hob
          split at hb1
          · rename_i ck hom
            obtain ⟨q, hq, e⟩ := conc_p h2
            obtain ⟨q', hq', ho⟩ := hrel.ob g (by rw [hob]; rfl)
            rw [hq] at hq'; cases hq'
            rw [hob] at ho
            obtain ⟨c, fz, o1, o2, o3, o4, _⟩ := ho
            obtain ⟨_, u, hu, hc⟩ := o4 1 (.m mc) rfl
            simp only [conc, Option.map_eq_some_iff] at hu
            obtain ⟨m, hm, rfl⟩ := hu
            obtain ⟨m', hm', hom'⟩ := hrel.ob mc (by rw [hom]; rfl)
            rw [hm] at hm'; cases hm'
            rw [hom] at hom'
            obtain ⟨L', hL', hR'⟩ := hom'
            have : L' = [] := List.eq_nil_of_length_eq_zero hR'.length
            subst this
            refine ⟨q.1, m.1, ck, e, hrel.inside _ _ hq, hrel.inside _ _ hm, ?_, hL'⟩
            simp only [World.cell?, o1]
            simpa using hc
          · cases hb1
        · cases hb1
      · cases hb1
    · exact bareE_spec hrel hb2 h4 x hx

theorem formO_ok [Env] {P : Program} {ng : Nat} {f : Path} (hent : ∀ xs w, (callFunc f.num xs).run P w = .ok (.enter f.num xs) w)
    (hcon : ∀ (w : World) (B b : Nat) (fv : Value) (L : List MapEntry) (clock : Nat), w.cell? ⟨B, 0, none⟩ = some (.map (some b)) → w.heap[b]? = some (.map L.toArray clock) → (∀ x ∈ L, x.born < clock) → (L.map (·.born)).Nodup → (L.map (·.key)).Nodup → (∀ x ∈ L, ∃ s : List UInt8, x.key = .string ⟨s.toArray⟩ ∧ s.length ≤ 1000) → L.length ≤ 1000 →
      (∀ x ∈ L, ∃ g mc ck, x.val = .pointer (some ⟨g, 0, none⟩) ∧ g < w.heap.size ∧ mc < w.heap.size ∧ w.cell? ⟨g, 1, none⟩ = some (.map (some mc)) ∧ w.heap[mc]? = some (.map #[] ck)) →
      Calls P f.num #[.pointer (some ⟨B, 0, none⟩), fv] w fun e w' => e = .returned (.tuple #[]) ∧ Below w.heap.size w w') :
    OrcOk P ng f formO := by
  intro args h x q h' hr
  unfold formO at hr
  split at hr
  · rename_i B fv
    split at hr
    · rename_i ro b cs el hob
      split at hr
      · rename_i es clock hom
        cases hg : goodE clock es with
        | false => rw [hg] at hr; cases hr
        | true =>
          rw [hg] at hr
          simp only [cond_true] at hr
          cases hb : bareE h es with
          | false => rw [hb] at hr; cases hr
          | true =>
            rw [hb] at hr
            simp only [cond_true] at hr
            cases hl : Nat.ble es.length 1000 with
            | false => rw [hl] at hr; cases hr
            | true =>
              rw [hl] at hr
              simp only [cond_true, Rs.one.injEq] at hr
              obtain ⟨rfl, rfl, rfl⟩ := hr
              have hl := Nat.le_of_ble_eq_true hl
              intro ρ w xs hxs hrel hE
              simp only [concs, Option.bind_eq_some_iff, Option.map_eq_some_iff] at hxs
              obtain ⟨u, hu, zs, ⟨fv', hfv, ts, hz, rfl⟩, rfl⟩ := hxs
              cases hz
              obtain ⟨y, hy, e⟩ := conc_p hu
              subst e
              obtain ⟨y', hy', ho⟩ := hrel.ob B (by rw [hob]; rfl)
              rw [hy] at hy'; cases hy'
              rw [hob] at ho
              obtain ⟨c, fz, o1, o2, o3, o4, _⟩ := ho
              obtain ⟨_, v, hv, hc⟩ := o4 0 (.m b) rfl
              simp only [conc, Option.map_eq_some_iff] at hv
              obtain ⟨m, hm, rfl⟩ := hv
              obtain ⟨m', hm', hom'⟩ := hrel.ob b (by rw [hom]; rfl)
              rw [hm] at hm'; cases hm'
              rw [hom] at hom'
              obtain ⟨L, hL, hR⟩ := hom'
              obtain ⟨a1, a2, a3, a4⟩ := goodE_spec hg hR
              refine ⟨hent _ _, (hcon w y.1 m.1 fv' L clock ?_ hL a1 a2 a3 a4 (by rw [hR.length]; omega) (bareE_spec hrel hb hR)).mono ?_⟩
              · simp only [World.cell?, o1]
                simpa using hc
              · rintro e' w' ⟨rfl, hbl⟩
                exact ⟨_, ρ, rfl, by simp [Tr.get, conc, concs], hrel.below hbl, Ext.below hbl⟩
      · cases hr
    · cases hr
  · cases hr

end Go.Eng

namespace Go.Eng
open Go.RowKit

/-- Numbers of which the bounds are known. -/
abbrev parEnv (pr : Nat → Int) : Env := ⟨fun _ => none, fun _ _ h => (by cases h), fun _ _ h => (by cases h), pr⟩

theorem parRel (pr : Nat → Int) (w : World) : @HRel (parEnv pr) (fun _ => none) ⟨.nil, .e⟩ w :=
  @HRel.mk (parEnv pr) _ _ _ (fun _ _ h => (by cases h)) (fun _ _ h => (by cases h)) (fun _ h => (by cases h)) (fun _ _ _ _ h => (by cases h)) (fun _ _ h => (by cases h))

theorem parGlob (pr : Nat → Int) (ρ : Ren) : @Glob (parEnv pr) 0 ρ := ⟨fun g _ hg => (by simp at hg), show @FactOk (parEnv pr) 0 0 from trivial⟩

/-- A call that was told once, for all numbers within bounds, in whatever world. -/
theorem calls_told {P : Program} {tg : Tr (Option G)} (hm : P.follows .mixedOrders = true) (hG : ∀ [Env], AllT (EntG P 0 (planOf P 0)) tg) {n : Nat} {f : Path} {args : List V} {v : V}
    (hrun : endsV (goT tg n f args ⟨.nil, .e⟩) v = true) (hfa : flats args = true) (pr : Nat → Int) {xs : List Value} (hxs : @concs (parEnv pr) (fun _ => none) args = some xs) (w : World) :
    (callFunc f.num xs.toArray).run P w = .ok (.enter f.num xs.toArray) w ∧ Calls P f.num xs.toArray w fun e w' => ∃ u, e = .returned u ∧ @conc (parEnv pr) (fun _ => none) v = some u ∧ Below w.heap.size w w' :=
  @calls_flat (parEnv pr) P 0 tg hm (@hG (parEnv pr)) n f args v hrun hfa (fun _ => none) ⟨.nil, .e⟩ w xs hxs (parRel pr w) (parGlob pr _)

/-- A call that ends with 'true', for all numbers within bounds. -/
theorem calls_par {P : Program} {tg : Tr (Option G)} (hm : P.follows .mixedOrders = true) (hG : ∀ [Env], AllT (EntG P 0 (planOf P 0)) tg) (pr : Nat → Int) {n : Nat} {f : Path} {args : List V} {xs : List Value}
    (hrun : endsJ (goT tg n f args ⟨.nil, .e⟩) = true) (hargs : @concs (parEnv pr) (fun _ => none) args = some xs) (w : World) : Calls P f.num xs.toArray w fun e w' => e = .returned (.bool true) ∧ Below w.heap.size w w' :=
  @calls_gen (parEnv pr) P 0 tg hm (@hG (parEnv pr)) n f args xs (fun _ => none) ⟨.nil, .e⟩ hrun hargs w (parRel pr w) (fun _ => rfl) (parGlob pr _)

theorem conc_par (pr : Nat → Int) (j : Nat) (a lo hi : Int) (ρ : Ren) (h : pr j = a) (h1 : lo ≤ a) (h2 : a ≤ hi) : @conc (parEnv pr) ρ (.y j 0 lo hi) = some (.int .i64 a) := by
  show yV (pr j + 0) lo hi = _
  rw [Int.add_zero, h]
  exact if_pos ⟨h1, h2⟩

/-! ### Values that stand for themselves -/

mutual
def pureV : V → Bool
  | .b _ => true
  | .i _ _ => true
  | .s _ => true
  | .p _ _ => false
  | .p0 => true
  | .sl _ _ _ _ _ _ => false
  | .sl0 => true
  | .m _ => false
  | .m0 => true
  | .f _ caps => pureVs caps
  | .f0 => true
  | .ifc _ v => pureV v
  | .i0 => true
  | .a l => pureVs l
  | .t l => pureVs l
  | .o _ => false
  | .oi _ _ => false
  | .y _ _ _ _ => false
def pureVs : List V → Bool
  | [] => true
  | v :: l => pureV v && pureVs l
end

mutual
theorem conc_pure {E E' : Env} {ρ ρ' : Ren} : ∀ (v : V), pureV v = true → @conc E ρ v = @conc E' ρ' v
  | .b _, _ | .i _ _, _ | .s _, _ | .p0, _ | .sl0, _ | .m0, _ | .f0, _ | .i0, _ => rfl
  | .f fn caps, h => by simp only [conc]; rw [concs_pure (E := E) (E' := E') (ρ := ρ) (ρ' := ρ') caps h]
  | .ifc t v, h => by simp only [conc]; rw [conc_pure (E := E) (E' := E') (ρ := ρ) (ρ' := ρ') v h]
  | .a l, h => by simp only [conc]; rw [concs_pure (E := E) (E' := E') (ρ := ρ) (ρ' := ρ') l h]
  | .t l, h => by simp only [conc]; rw [concs_pure (E := E) (E' := E') (ρ := ρ) (ρ' := ρ') l h]
  | .p _ _, h | .sl _ _ _ _ _ _, h | .m _, h | .o _, h | .oi _ _, h | .y _ _ _ _, h => by cases h
theorem concs_pure {E E' : Env} {ρ ρ' : Ren} : ∀ (l : List V), pureVs l = true → @concs E ρ l = @concs E' ρ' l
  | [], _ => rfl
  | v :: l, h => by
    simp only [pureVs, Bool.and_eq_true] at h
    simp only [concs]
    rw [conc_pure (E := E) (E' := E') (ρ := ρ) (ρ' := ρ') v h.1, concs_pure (E := E) (E' := E') (ρ := ρ) (ρ' := ρ') l h.2]
end

/-- Values with a place in which something else stands. -/
theorem concs_hole {E E' : Env} {ρ ρ' : Ren} {v v' : V} (hv : @conc E ρ v = @conc E' ρ' v') {post : List V} (hpost : pureVs post = true) : ∀ {pre : List V}, pureVs pre = true → @concs E ρ (pre ++ v :: post) = @concs E' ρ' (pre ++ v' :: post)
  | [], _ => by
    simp only [List.nil_append, concs]
    rw [hv, concs_pure (E := E) (E' := E') (ρ := ρ) (ρ' := ρ') post hpost]
  | u :: pre, h => by
    simp only [pureVs, Bool.and_eq_true] at h
    simp only [List.cons_append, concs]
    rw [conc_pure (E := E) (E' := E') (ρ := ρ) (ρ' := ρ') u h.1, concs_hole hv hpost h.2]

theorem conc_hole {E E' : Env} {ρ ρ' : Ren} {v v' : V} (hv : @conc E ρ v = @conc E' ρ' v') (h1 : v.one = v'.one) {pre post : List V} (hpre : pureVs pre = true) (hpost : pureVs post = true) : @conc E ρ (.a (pre ++ v :: post)) = @conc E' ρ' (.a (pre ++ v' :: post)) := by
  simp only [conc, List.all_append, List.all_cons, h1]
  rw [concs_hole hv hpost hpre]

/-! ### Two structs, of which one bears a number that is known by its bounds -/

/-- Is this the struct 'pre, v, post', with v a number from 0 to m? -/
def isHole (pre post : List V) (m : Int) (l : List V) : Bool :=
  match l.drop pre.length with
  | .y j c lo hi :: _ => sameVs (pre ++ .y j c lo hi :: post) l && (!ltI lo 0 && !ltI m hi)
  | _ => false

theorem isHole_spec {pre post l : List V} {m : Int} (h : isHole pre post m l = true) : ∃ j c lo hi, l = pre ++ .y j c lo hi :: post ∧ 0 ≤ lo ∧ hi ≤ m := by
  unfold isHole at h
  split at h
  · rename_i j c lo hi _ _
    simp only [Bool.and_eq_true, Bool.not_eq_true', ltI_eq, decide_eq_false_iff_not, Int.not_lt] at h
    exact ⟨j, c, lo, hi, (sameVs_eq h.1).symm, h.2.1, h.2.2⟩
  · cases h

/-- Is this one of some structs? -/
def isOne (ls : List (List V)) (l : List V) : Bool := ls.any fun k => sameVs k l

theorem isOne_spec {ls : List (List V)} {l : List V} (h : isOne ls l = true) : l ∈ ls := by
  obtain ⟨k, hk, hs⟩ := List.any_eq_true.1 h
  rw [← sameVs_eq hs]; exact hk

/-- A function of two structs and a bool that hands back the first one, and true: where one is of the one sort and the other of the other sort. -/
noncomputable def pairO (pre post : List V) (m : Int) (ls : List (List V)) (args : List V) (h : H) : Rs :=
  match args with
  | [.a xs, .a ys, .b _] => cond (cond (isHole pre post m xs) (isOne ls ys) (cond (isHole pre post m ys) (isOne ls xs) false)) (.one .rt (.nd .nil (.t [.a xs, .b true]) .nil) h) .fail
  | _ => .fail

theorem pairO_ok [E : Env] {P : Program} {tg : Tr (Option G)} (hm : P.follows .mixedOrders = true) (hG : ∀ [Env], AllT (EntG P 0 (planOf P 0)) tg) {N : Nat} {f : Path} {pre post : List V} {m : Int} {ls : List (List V)}
    (hpre : pureVs pre = true) (hpost : pureVs post = true) (hls : ls.all pureVs = true)
    (h1 : ∀ l ∈ ls, ∀ p ∈ [true, false], endsV (goT tg N f [.a (pre ++ .y 1 0 0 m :: post), .a l, .b p] ⟨.nil, .e⟩) (.t [.a (pre ++ .y 1 0 0 m :: post), .b true]) = true)
    (h2 : ∀ l ∈ ls, ∀ p ∈ [true, false], endsV (goT tg N f [.a l, .a (pre ++ .y 1 0 0 m :: post), .b p] ⟨.nil, .e⟩) (.t [.a l, .b true]) = true) : OrcOk P 0 f (pairO pre post m ls) := by
  have hp : ∀ p : Bool, p ∈ [true, false] := by decide
  have hfl : ∀ l : List V, pureVs l = true → flats l = true := by
    have key : (∀ v : V, pureV v = true → flat v = true) ∧ (∀ l : List V, pureVs l = true → flats l = true) := by
      constructor
      · intro v
        induction v using V.rec (motive_2 := fun l => pureVs l = true → flats l = true) <;> simp_all [pureV, flat, pureVs, flats]
      · intro l
        induction l using V.rec_1 (motive_1 := fun v => pureV v = true → flat v = true) <;> simp_all [pureV, flat, pureVs, flats]
    exact key.2
  have hfh : flats (pre ++ .y 1 0 0 m :: post) = true := by
    have app : ∀ a b : List V, flats a = true → flats b = true → flats (a ++ b) = true := by
      intro a
      induction a with
      | nil => intro b _ h; exact h
      | cons v a ih => intro b h1 h2; simp only [flats, Bool.and_eq_true, List.cons_append] at h1 ⊢; exact ⟨h1.1, ih b h1.2 h2⟩
    exact app _ _ (hfl _ hpre) (by simp only [flats, flat, Bool.true_and]; exact hfl _ hpost)
  intro args h x q h' hr
  unfold pairO at hr
  split at hr
  · rename_i xs ys p
    have fin : ∀ {c : Bool}, cond c (Rs.one .rt (.nd .nil (.t [.a xs, .b true]) .nil) h) .fail = .one x q h' → c = true ∧ q.get undefV .e = .t [.a xs, .b true] ∧ h' = h := by
      intro c hc
      cases c with
      | false => cases hc
      | true => simp only [cond_true, Rs.one.injEq] at hc; obtain ⟨_, rfl, rfl⟩ := hc; exact ⟨rfl, rfl, rfl⟩
    obtain ⟨hc, hq, rfl⟩ := fin hr
    rw [hq]
    intro ρ w zs hzs hrel hE
    cases hx : isHole pre post m xs with
    | true =>
      rw [hx] at hc
      simp only [cond_true] at hc
      obtain ⟨j, c, lo, hi, rfl, hlo, hhi⟩ := isHole_spec hx
      have hl := isOne_spec hc
      have hpl := List.all_eq_true.1 hls _ hl
      simp only [concs, Option.bind_eq_some_iff, Option.map_eq_some_iff] at hzs
      obtain ⟨u1, hu1, r1, ⟨u2, hu2, r2, ⟨u3, hu3, r3, hr3, rfl⟩, rfl⟩, rfl⟩ := hzs
      cases hr3
      have hb : ∃ z, conc ρ (.y j c lo hi) = some (.int .i64 z) ∧ 0 ≤ z ∧ z ≤ m := by
        simp only [conc, List.all_append, List.all_cons] at hu1
        split at hu1
        · obtain ⟨l', hl', _⟩ := Option.map_eq_some_iff.1 hu1
          obtain ⟨v, hv, _⟩ := concs_get pre.length (.y j c lo hi) hl' (by simp)
          obtain ⟨rfl, k1, k2⟩ := yV_spec hv
          exact ⟨_, hv, by omega, by omega⟩
        · cases hu1
      obtain ⟨z, hz, z1, z2⟩ := hb
      have hh : @conc (parEnv fun _ => z) (fun _ => none) (.y 1 0 0 m) = @conc E ρ (.y j c lo hi) := by rw [hz]; exact conc_par _ _ _ _ _ _ rfl z1 z2
      have he : @concs (parEnv fun _ => z) (fun _ => none) [.a (pre ++ .y 1 0 0 m :: post), .a ys, .b p] = some [u1, u2, u3] := by
        simp only [concs]
        rw [conc_hole (E' := E) (ρ' := ρ) hh rfl hpre hpost, hu1, conc_pure (E' := E) (ρ' := ρ) (.a ys) hpl, hu2]
        simp only [conc] at hu3
        cases hu3
        rfl
      obtain ⟨k1, k2⟩ := calls_told hm hG (h1 _ hl p (hp p)) (by simp only [flats, flat, hfh, hfl _ hpl, Bool.and_self]) (fun _ => z) he w
      refine ⟨k1, k2.mono ?_⟩
      rintro e w' ⟨u, rfl, hu, hbl⟩
      refine ⟨u, ρ, rfl, ?_, hrel.below hbl, Ext.below hbl⟩
      rw [← hu]
      have e0 : ∀ (E : Env) (ρ : Ren) (l : List V), @conc E ρ (.t l) = (@concs E ρ l).map fun l => .tuple l.toArray := fun _ _ _ => by simp only [conc]
      have e1 : ∀ (E : Env) (ρ : Ren) (v : V), @concs E ρ [v, .b true] = (@conc E ρ v).bind fun x => some [x, .bool true] := fun _ _ _ => by simp only [concs, conc]; rfl
      rw [e0, e0, e1, e1, conc_hole (E' := E) (ρ' := ρ) hh rfl hpre hpost]
    | false =>
      rw [hx] at hc
      simp only [cond_false] at hc
      cases hy : isHole pre post m ys with
      | false => rw [hy] at hc; cases hc
      | true =>
        rw [hy] at hc
        simp only [cond_true] at hc
        obtain ⟨j, c, lo, hi, rfl, hlo, hhi⟩ := isHole_spec hy
        have hl := isOne_spec hc
        have hpl := List.all_eq_true.1 hls _ hl
        simp only [concs, Option.bind_eq_some_iff, Option.map_eq_some_iff] at hzs
        obtain ⟨u1, hu1, r1, ⟨u2, hu2, r2, ⟨u3, hu3, r3, hr3, rfl⟩, rfl⟩, rfl⟩ := hzs
        cases hr3
        have hb : ∃ z, conc ρ (.y j c lo hi) = some (.int .i64 z) ∧ 0 ≤ z ∧ z ≤ m := by
          simp only [conc, List.all_append, List.all_cons] at hu2
          split at hu2
          · obtain ⟨l', hl', _⟩ := Option.map_eq_some_iff.1 hu2
            obtain ⟨v, hv, _⟩ := concs_get pre.length (.y j c lo hi) hl' (by simp)
            obtain ⟨rfl, k1, k2⟩ := yV_spec hv
            exact ⟨_, hv, by omega, by omega⟩
          · cases hu2
        obtain ⟨z, hz, z1, z2⟩ := hb
        have hh : @conc (parEnv fun _ => z) (fun _ => none) (.y 1 0 0 m) = @conc E ρ (.y j c lo hi) := by rw [hz]; exact conc_par _ _ _ _ _ _ rfl z1 z2
        have he : @concs (parEnv fun _ => z) (fun _ => none) [.a xs, .a (pre ++ .y 1 0 0 m :: post), .b p] = some [u1, u2, u3] := by
          simp only [concs]
          rw [conc_hole (E' := E) (ρ' := ρ) hh rfl hpre hpost, hu2, conc_pure (E' := E) (ρ' := ρ) (.a xs) hpl, hu1]
          simp only [conc] at hu3
          cases hu3
          rfl
        obtain ⟨k1, k2⟩ := calls_told hm hG (h2 _ hl p (hp p)) (by simp only [flats, flat, hfh, hfl _ hpl, Bool.and_self]) (fun _ => z) he w
        refine ⟨k1, k2.mono ?_⟩
        rintro e w' ⟨u, rfl, hu, hbl⟩
        refine ⟨u, ρ, rfl, ?_, hrel.below hbl, Ext.below hbl⟩
        rw [← hu]
        exact conc_pure (.t [.a xs, .b true]) (by simp only [pureV, pureVs, hpl, Bool.and_self])
  · cases hr

end Go.Eng

