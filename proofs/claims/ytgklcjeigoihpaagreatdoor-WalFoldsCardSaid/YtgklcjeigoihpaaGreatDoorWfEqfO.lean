/- WalFolds: maps.EqualFunc at maps of cells as a told answer of the evaluator. -/
import Derived.Test.YtgklcjeigoihpaaGreatDoorWfEqf
import Derived.Test.YtgklcjeigoihpaaGreatDoorWfSumO
set_option linter.unusedSimpArgs false
set_option linter.unusedVariables false
namespace Go.Proofs.YtgklcjeigoihpaaGreatDoor
open Go Go.RowKit Go.Proofs Go.Eng

noncomputable def z6 : V := .i .i64 (.ofNat 0)
noncomputable def cellBV : V := .a [.b false, .i .i64 (.ofNat 3), z6, .s [], .b false, z6, z6, z6, .s [], .b false, z6, .sl0, .sl0]
noncomputable def cellZV : V := .a [.b false, z6, z6, .s [], .b false, z6, z6, z6, .s [], .b false, z6, .sl0, .sl0]
abbrev cellZ : Value := .agg #[.bool false, n64 0, n64 0, .string ⟨#[]⟩, .bool false, n64 0, n64 0, n64 0, .string ⟨#[]⟩, .bool false, n64 0, .slice none 0 0, .slice none 0 0]
theorem conc_B [Env] (ρ : Ren) : conc ρ cellBV = some cellB := rfl
theorem conc_Z [Env] (ρ : Ren) : conc ρ cellZV = some cellZ := rfl

/-- Is this a place? -/
def isPlace : V → Bool
  | .a [.i .i64 _, .i .i64 _] => true
  | _ => false
theorem isPlace_spec {v : V} (h : isPlace v = true) : ∃ r c, v = .a [.i .i64 r, .i .i64 c] := by
  unfold isPlace at h
  split at h
  · exact ⟨_, _, rfl⟩
  · cases h

/-- No stamp twice, all of them ahead of the clock. -/
def bornOk (clock : Nat) : List (V × V × Nat) → Bool
  | [] => true
  | (_, _, b) :: l => (Nat.blt b clock && l.all fun e => !Nat.beq b e.2.2) && bornOk clock l
theorem bornOk_spec [Env] {ρ : Ren} {clock : Nat} : ∀ {es : List (V × V × Nat)} {L : List MapEntry}, bornOk clock es = true → EntRel ρ es L → (∀ x ∈ L, x.born < clock) ∧ (L.map (·.born)).Nodup
  | [], [], _, _ => ⟨by simp, by simp⟩
  | [], _ :: _, _, h => h.elim
  | _ :: _, [], _, h => h.elim
  | (k, v, b) :: es, y :: L, hg, ⟨h1, h2, h3, h4⟩ => by
    simp only [bornOk, Bool.and_eq_true, List.all_eq_true, Nat.blt_eq] at hg
    obtain ⟨⟨hb, hall⟩, hg⟩ := hg
    obtain ⟨a1, a2⟩ := bornOk_spec hg h4
    refine ⟨fun z hz => ?_, ?_⟩
    · rcases List.mem_cons.1 hz with rfl | hz
      · omega
      · exact a1 z hz
    · rw [List.map_cons, List.nodup_cons]
      refine ⟨fun hm => ?_, a2⟩
      obtain ⟨z, hz, e⟩ := List.mem_map.1 hm
      obtain ⟨e', he', _, _, q3⟩ := h4.mem z hz
      have := hall e' he'
      have e : z.born = y.born := e
      rw [h3, q3] at e
      rw [e] at this
      simp at this

/-- Each entry is the law's cell at a place, and stands in the other map too. -/
noncomputable def cellsIn (h : H) (c : Path) (es : List (V × V × Nat)) : Bool :=
  es.all fun e => isPlace e.1 && (sameVs [e.2.1] [cellBV] && (match lookV h true [1, 1] cellZV true (.m c) e.1 with
    | some v => sameVs [v] [.t [cellBV, .b true]]
    | none => false))

noncomputable def eqfO (args : List V) (h : H) : Rs :=
  match args with
  | [.m b, .m c, .f fn []] => (match h.get b, h.get c with
    | .m es clock, .m fs _ => cond (Nat.beq fn.num 46 && (Nat.beq es.length fs.length && (bornOk clock es && cellsIn h c es))) (.one .rt (.nd .nil (.b true) .nil) h) .fail
    | _, _ => .fail)
  | _ => .fail

theorem ent45 : ∀ xs w, (callFunc 45 xs).run Tryz.prog w = .ok (.enter 45 xs) w := enters_of Tryz.func45 (by kernel_rfl) rfl
theorem key104 : keyC Tryz.prog 104 = some (true, [1, 1]) := by kernel_rfl
theorem zero37 : ∃ inf, Tryz.prog.info? 37 = some inf ∧ inf.zero = some cellZ := by
  have h : (Tryz.prog.info? 37).bind (·.zero) = some cellZ := by kernel_rfl
  obtain ⟨inf, h1, h2⟩ := Option.bind_eq_some_iff.1 h
  exact ⟨inf, h1, h2⟩

theorem eqfO_ok [E : Env] {ng : Nat} {f : Path} (hf : f.num = 45) (hsame : ∀ w', Calls Tryz.prog 46 #[cellB, cellB] w' fun e w2 => e = .returned (.bool true) ∧ Below w'.heap.size w' w2) : OrcOk Tryz.prog ng f eqfO := by
  intro args h x q h' hr
  unfold eqfO at hr
  split at hr
  · rename_i b c fn
    split at hr
    · rename_i es clock fs clock2 hob hoc
      cases hn : (Nat.beq fn.num 46 && (Nat.beq es.length fs.length && (bornOk clock es && cellsIn h c es))) with
      | false => rw [hn] at hr; cases hr
      | true =>
        rw [hn] at hr
        simp only [cond_true, Rs.one.injEq] at hr
        obtain ⟨rfl, rfl, rfl⟩ := hr
        simp only [Bool.and_eq_true] at hn
        obtain ⟨n1, n2, n3, n4⟩ := hn
        have n1 := Nat.eq_of_beq_eq_true n1
        have n2 := Nat.eq_of_beq_eq_true n2
        intro ρ w xs hxs hrel hE
        simp only [concs, conc, Option.bind_eq_some_iff, Option.map_eq_some_iff] at hxs
        obtain ⟨u, ⟨y, hy, rfl⟩, zs, ⟨u2, ⟨y2, hy2, rfl⟩, zs2, ⟨u3, ⟨l3, hl3, rfl⟩, zs3, hz3, rfl⟩, rfl⟩, rfl⟩ := hxs
        cases hz3
        cases hl3
        obtain ⟨y', hy', ho⟩ := hrel.ob b (by rw [hob]; rfl)
        rw [hy] at hy'; cases hy'
        rw [hob] at ho
        obtain ⟨L, hL, hR⟩ := ho
        obtain ⟨y2', hy2', ho2⟩ := hrel.ob c (by rw [hoc]; rfl)
        rw [hy2] at hy2'; cases hy2'
        rw [hoc] at ho2
        obtain ⟨L2, hL2, hR2⟩ := ho2
        obtain ⟨a1, a2⟩ := bornOk_spec n3 hR
        unfold cellsIn at n4
        rw [List.all_eq_true] at n4
        rw [hf, n1]
        refine ⟨ent45 _ _, (eqf_w y.1 y2.1 L L2 clock clock2 w hL hL2 (by rw [hR.length, hR2.length, n2]) a1 a2 (fun z hz => ?_) (fun z hz w' hb => ?_) hsame).mono ?_⟩
        · obtain ⟨e, he, k1, k2, _⟩ := hR.mem z hz
          have h4 := n4 e he
          simp only [Bool.and_eq_true] at h4
          obtain ⟨r, cc, er⟩ := isPlace_spec h4.1
          have ev := sameVs_eq h4.2.1
          simp only [List.cons.injEq, and_true] at ev
          rw [ev, conc_B] at k2
          rw [er] at k1
          simp only [Option.some.injEq] at k2
          exact ⟨k2.symm, r, cc, by have k1 : some (placeV r cc) = some z.key := k1; exact (Option.some.inj k1).symm⟩
        · obtain ⟨e, he, k1, k2, _⟩ := hR.mem z hz
          have h4 := n4 e he
          simp only [Bool.and_eq_true] at h4
          have h5 := h4.2.2
          split at h5
          · rename_i v hv
            have ev := sameVs_eq h5
            simp only [List.cons.injEq, and_true] at ev
            subst ev
            obtain ⟨inf, i1, i2⟩ := zero37
            obtain ⟨yy, hyy, hrun⟩ := look_spec (P := Tryz.prog) (u := .map (some y2.1)) (kv := z.key) Tryz.underlying98 key104 i1 i2 (conc_Z ρ) (hrel.below hb) hv (by simp only [conc, hy2]; rfl) k1
            have : yy = .tuple #[cellB, .bool true] := by
              have hyy : some (Value.tuple #[cellB, .bool true]) = some yy := hyy
              exact (Option.some.inj hyy).symm
            rw [this] at hrun
            exact hrun
          · cases h5
        · rintro e w' ⟨rfl, hb⟩
          exact ⟨_, ρ, rfl, by simp [Tr.get, conc], hrel.below hb, Ext.below hb⟩
    · cases hr
  · cases hr
end Go.Proofs.YtgklcjeigoihpaaGreatDoor
