/- The engine, part M: operations that read memory, operations that make memory. -/
import Derived.Test.YtdblgbakljpacaaGreatDoorEngL
import Derived.Laws.BytesString
set_option linter.unusedSimpArgs false
set_option linter.unusedVariables false
namespace Go.Eng

/-- Operations that read memory and change nothing. -/
inductive RI where
  | load (agg : Bool) (n : Nat) (x : Opd)
  | slArr (n es : Nat) (x : Opd) (lo hi mx : Option Opd)
  | b2s (x : Opd)
  | lenM (x : Opd)

noncomputable def loadV (h : H) (agg : Bool) (n : Nat) (x : V) : Option V :=
  match x with
  | .p b o => match loadC h b o n with
    | some l => pick1 agg l
    | none => none
  | _ => none

noncomputable def slArrH (h : H) (n es : Nat) (x : V) (lo hi : Option Nat) (mx : Option (Option Nat)) : Option V :=
  match x with
  | .p b off => match obCells (h.get b) with
    | some l => cond (Nat.ble (off + n * es) l.length) (slArrV n es (.p b off) lo hi mx) none
    | none => none
  | _ => none

/-- Bytes of cells. -/
def bytesOf : List V → Option (List Nat)
  | [] => some []
  | x :: l => match x with
    | .i .u8 (.ofNat n) => cond (Nat.blt n 256) (match bytesOf l with | some r => some (n :: r) | none => none) none
    | _ => none

noncomputable def b2sV (h : H) (x : V) : Option V :=
  match x with
  | .sl0 => some (.s [])
  | .sl b o n _ _ es => cond (Nat.beq es 1) (match loadC h b o n with
    | some l => (match bytesOf l with | some r => some (.s r) | none => none)
    | none => none) none
  | _ => none

noncomputable def lenMV (h : H) (x : V) : Option V :=
  match x with
  | .m0 => some (.i .i64 (.ofNat 0))
  | .m b => match h.get b with
    | .m es _ => some (.i .i64 (.ofNat es.length))
    | _ => none
  | _ => none

noncomputable def rdI (fr : Tr V) (h : H) (i : RI) : Option V :=
  match i with
  | .load agg n x => loadV h agg n (ev fr x)
  | .slArr n es x lo hi mx => slArrH h n es (ev fr x) (bnd fr 0 lo) (bnd fr n hi) (mxO fr mx none)
  | .b2s x => b2sV h (ev fr x)
  | .lenM x => lenMV h (ev fr x)

def cR (P : Program) (ng : Nat) (o : Oper) : Option RI :=
  match o.op with
  | .load t x => (aggO P t).bind fun a => (szO P t).bind fun n => (cO ng x).map fun x => .load a n x
  | .slice t x lo hi mx => match P.underlying t with
    | some (.array n e) => (szO P e).bind fun s => if s = 0 ∨ mx.isSome = true then none else
        (cO ng x).bind fun x' => (cOo ng lo).bind fun lo' => (cOo ng hi).bind fun hi' => some (.slArr n s x' lo' hi' none)
    | _ => none
  | .convert s d x => match P.underlying s, P.underlying d with
    | some (.slice e), some .string => (match P.underlying e with | some (.int .u8) => (cO ng x).map .b2s | _ => none)
    | _, _ => none
  | _ => none

section
variable {P : Program} {ρ : Ren} {ng : Nat} {fr : Tr V} {a : Act} {h : H} {w : World}

theorem load_spec {t : TypeId} {agg : Bool} {n : Nat} {x v : V} {u : Value} (hr : HRel ρ h w) (hv : loadV h agg n x = some v) (hx : conc ρ x = some u) (hag : aggO P t = some agg) (hsz : szO P t = some n) :
    ∃ y, conc ρ v = some y ∧ (Instr.loadAt t u).run P w = .ok y w := by
  unfold loadV at hv
  split at hv
  · rename_i b o
    obtain ⟨q, hq, rfl⟩ := conc_p hx
    split at hv
    · rename_i l hl
      obtain ⟨q', xs, hq', h1, h2, h3, h4⟩ := loadC_spec hr hl
      rw [hq] at hq'; cases hq'
      have hlen := concs_length h3
      cases agg with
      | true =>
        simp only [pick1, Option.some.injEq] at hv; subst hv
        refine ⟨.agg xs.toArray, by simp [conc, h2, h3], ?_⟩
        have := run_loadCells_list (P := P) w ⟨q.1, o, none⟩ xs (fun j v hj => by rw [add_none]; exact h4 j v hj)
        rw [show xs.length = n by omega] at this
        simp [Instr.loadAt, Instr.sureAddr, loadVar, run_aggO hag, run_szO hsz, this]
      | false =>
        cases l with
        | nil => simp [pick1] at hv
        | cons u l =>
          cases l with
          | cons _ _ => simp [pick1] at hv
          | nil =>
            simp only [pick1, Option.some.injEq] at hv; subst hv
            simp only [concs, Option.bind_eq_some_iff, Option.map_eq_some_iff] at h3
            obtain ⟨y, hy, ys, hys, rfl⟩ := h3
            have hc := h4 0 y rfl
            refine ⟨y, hy, ?_⟩
            simp only [Nat.add_zero] at hc
            simp [Instr.loadAt, Instr.sureAddr, loadVar, run_aggO hag, hc]
    · cases hv
  · cases hv

theorem bytesOf_spec : ∀ {l : List V} {r : List Nat} {xs : List Value}, bytesOf l = some r → concs ρ l = some xs → r.all byteOk = true ∧ xs = r.map (fun n : Nat => Value.int .u8 (Int.ofNat n))
  | [], r, xs, h, hx => by simp [bytesOf] at h; subst h; simp [concs] at hx; subst hx; exact ⟨rfl, rfl⟩
  | x :: l, r, xs, h, hx => by
    simp only [bytesOf] at h
    split at h
    · rename_i n
      cases hb : Nat.blt n 256 with
      | false => simp [hb] at h
      | true =>
        simp only [hb, cond_true] at h
        split at h
        · rename_i r' hr'
          cases h
          simp only [concs, Option.bind_eq_some_iff, Option.map_eq_some_iff] at hx
          obtain ⟨y, hy, ys, hys, rfl⟩ := hx
          obtain ⟨h1, h2⟩ := bytesOf_spec hr' hys
          simp [conc] at hy; subst hy
          exact ⟨by rw [List.all_cons, h1]; simp only [byteOk, hb]; rfl, by simp [h2]⟩
        · cases h
    · cases h

theorem foldl_push (ns : List Nat) : ∀ (s : ByteArray), (ns.map Int.ofNat).foldl (fun r n => r.push (UInt8.ofNat n.toNat)) s = ⟨⟨s.data.toList ++ ns.map UInt8.ofNat⟩⟩ := by
  induction ns with
  | nil => intro s; simp
  | cons n ns ih =>
    intro s
    simp only [List.map_cons, List.foldl_cons, ih]
    apply ByteArray.ext
    simp [ByteArray.push]

theorem b2s_spec {x v : V} {u : Value} (hr : HRel ρ h w) (hv : b2sV h x = some v) (hx : conc ρ x = some u) : ∃ y, conc ρ v = some y ∧ (Conv.bytesToString u).run P w = .ok y w := by
  unfold b2sV at hv
  split at hv
  · cases hv
    simp [conc] at hx; subst hx
    exact ⟨.string .empty, by simp [conc]; rfl, rfl⟩
  · rename_i b o n cap ex es
    obtain ⟨q, hq, _, _, _, rfl⟩ := conc_sl hx
    cases he : Nat.beq es 1 with
    | false => simp [he] at hv
    | true =>
      simp only [he, cond_true] at hv
      split at hv
      · rename_i l hl
        split at hv
        · rename_i r hb
          cases hv
          obtain ⟨q', xs, hq', h1, h2, h3, h4⟩ := loadC_spec hr hl
          rw [hq] at hq'; cases hq'
          obtain ⟨g1, g2⟩ := bytesOf_spec hb h3
          have hlen := concs_length h3
          refine ⟨.string ⟨(r.map UInt8.ofNat).toArray⟩, by simp only [conc, g1, if_true], ?_⟩
          have := run_loadCells_list (P := P) w ⟨q.1, o, none⟩ xs (fun j v hj => by rw [add_none]; exact h4 j v hj)
          rw [show xs.length = n by omega, g2] at this
          have h5 := run_bytesToString (P := P) w ⟨q.1, o, none⟩ n (capOf ex cap q.2 o es) (r.map Int.ofNat) (by rw [this]; simp [Function.comp_def])
          rw [h5, foldl_push]
          rfl
        · cases hv
      · cases hv
  · cases hv

/-- OPERATIONS THAT READ. -/
theorem rd_sound {o : Oper} {i : RI} {v : V} (hg : Glob ng ρ) (hf : FrRel ρ fr a.tmps) (hr : HRel ρ h w) (hc : cR P ng o = some i) (hv : rdI fr h i = some v) :
    ∃ x, conc ρ v = some x ∧ (execOp a.eval o).run P w = .ok (.value x) w := by
  unfold cR at hc
  split at hc
  case h_1 t x hop =>
    simp only [Option.bind_eq_some_iff, Option.map_eq_some_iff] at hc
    obtain ⟨ag, hag, n, hn, x', hx, rfl⟩ := hc
    obtain ⟨y, hy, hrun⟩ := load_spec (P := P) hr hv (ev_spec hg hf hx) hag hn
    exact ⟨y, hy, by simp [execOp, hop, hrun]⟩
  case h_2 t x lo hi mx hop =>
    split at hc
    · rename_i n e hu
      simp only [Option.bind_eq_some_iff] at hc
      obtain ⟨s, hs, hc⟩ := hc
      split at hc
      · cases hc
      rename_i hcond
      simp only [Option.bind_eq_some_iff] at hc
      obtain ⟨x', hx, lo', hlo, hi', hhi, hc⟩ := hc
      cases hc
      have hs0 : s ≠ 0 := fun h => hcond (.inl h)
      have hmx : mx = none := by cases mx with | none => rfl | some _ => exact absurd (.inr rfl) hcond
      subst hmx
      have ex := ev_spec hg hf hx
      simp only [rdI, slArrH] at hv
      split at hv
      · rename_i b off hb
        split at hv
        · rename_i l hl
          cases hfit : Nat.ble (off + n * s) l.length with
          | false => simp [hfit] at hv
          | true =>
            simp only [hfit, cond_true, slArrV, mxO] at hv
            split at hv
            · rename_i p q hp hq _
              rw [hb] at ex
              obtain ⟨y, hy, ex⟩ := conc_p ex
              have hlen : l.length ≤ y.2 := by
                have hlv : (h.get b).live = true := by cases hgb : h.get b <;> rw [hgb] at hl <;> simp [obCells] at hl; rfl
                obtain ⟨y', hy', hob⟩ := hr.ob b hlv
                rw [hy] at hy'; cases hy'
                cases hgb : h.get b <;> rw [hgb] at hl hob <;> simp [obCells] at hl
                subst hl
                obtain ⟨_, _, _, _, h3, _⟩ := hob
                exact h3
              have hfit := Nat.le_of_ble_eq_true hfit
              obtain ⟨g1, g2, g3⟩ := slSl2_spec (cap := n) hv hy hs0 (Nat.le_refl _) (by omega) (by simp)
              have hb := bnd_spec hg hf hlo hp
              have hh := bnd_spec hg hf hhi hq
              refine ⟨_, g3 n (fun _ => rfl) (by simp), ?_⟩
              have := sliceBounds_spec (P := P) (isSl := false) (len := n) (cap := n) (lo := lo.map a.eval) (hi := hi.map a.eval) (mx := none) (a := p) (e := q) (m := n)
                (hb.imp (fun h => ⟨h.1, h.2.2⟩) id) (hh.imp (fun h => ⟨h.1, rfl, h.2.2⟩) id) (.inl ⟨rfl, rfl⟩) g1 g2 (Nat.le_refl _) w
              simp only [execOp, hop, ex, Instr.sliceAt, Sem.run_bind, run_under hu, Result.andThen_ok, Instr.sureAddr, Sem.run_pure, Option.map_none, this, run_szO hs]
              by_cases hca : n = p <;> simp [hca]
            · cases hv
        · cases hv
      · cases hv
    · cases hc
  case h_3 s d x hop =>
    split at hc
    · rename_i e hs hd
      split at hc
      · rename_i he
        simp only [Option.map_eq_some_iff] at hc
        obtain ⟨x', hx, rfl⟩ := hc
        have ex := ev_spec hg hf hx
        obtain ⟨y, hy, hrun⟩ := b2s_spec (P := P) hr hv ex
        refine ⟨y, hy, ?_⟩
        have hconv : (convert s d (a.eval x)).run P w = (Conv.bytesToString (a.eval x)).run P w := by
          unfold convert
          simp only [Sem.run_bind, run_under hs, run_under hd, Result.andThen_ok]
          simp only [rdI, b2sV] at hv
          split at hv
          · rename_i hb
            rw [hb] at ex; simp [conc] at ex
            rw [← ex]
            simp [run_under he]
          · rename_i b o n cap exx es hb
            rw [hb] at ex
            obtain ⟨q, hq, _, _, _, ex⟩ := conc_sl ex
            rw [ex]
            simp [run_under he]
          · cases hv
        simp only [execOp, hop, Sem.run_bind, hconv, hrun, Result.andThen_ok, Sem.run_pure]
      · cases hc
    · cases hc
  case h_4 => cases hc

end
end Go.Eng
