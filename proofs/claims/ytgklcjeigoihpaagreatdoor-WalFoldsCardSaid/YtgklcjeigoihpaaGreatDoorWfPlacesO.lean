/- WalFolds: sheet.places as a told answer of the evaluator. -/
import Derived.Test.YtgklcjeigoihpaaGreatDoorWfPlaces
import Derived.Test.YtgklcjeigoihpaaGreatDoorWfEqfO
set_option linter.unusedSimpArgs false
set_option linter.unusedVariables false
namespace Go.Proofs.YtgklcjeigoihpaaGreatDoor
open Go Go.RowKit Go.Proofs Go.Eng

def ltQ (x y : Pt) : Bool := ltI x.1 y.1 || (eqI x.1 y.1 && ltI x.2 y.2)
theorem ltQ_eq (x y : Pt) : ltQ x y = ltP x y := by
  unfold ltQ ltP
  rw [ltI_eq, ltI_eq, eqI_eq]
  simp
def insP (x : Pt) : List Pt → List Pt
  | [] => [x]
  | y :: l => cond (ltQ x y) (x :: y :: l) (y :: insP x l)
def isortP : List Pt → List Pt
  | [] => []
  | x :: l => insP x (isortP l)
theorem insP_perm (x : Pt) : ∀ l, (insP x l).Perm (x :: l)
  | [] => List.Perm.refl _
  | y :: l => by
    unfold insP
    cases ltQ x y with
    | true => exact List.Perm.refl _
    | false => exact ((insP_perm x l).cons y).trans (List.Perm.swap x y l)
theorem isortP_perm : ∀ l, (isortP l).Perm l
  | [] => List.Perm.refl _
  | x :: l => (insP_perm x _).trans ((isortP_perm l).cons x)
abbrev leP (a b : Pt) : Prop := ltP b a = false
theorem leP_trans {a b c : Pt} (h1 : leP a b) (h2 : leP b c) : leP a c := by
  unfold leP ltP at *
  simp only [decide_eq_false_iff_not] at *
  omega
theorem leP_anti {a b : Pt} (h1 : leP a b) (h2 : leP b a) : a = b := by
  unfold leP ltP at *
  simp only [decide_eq_false_iff_not] at *
  exact Prod.ext (by omega) (by omega)
theorem insP_sorted (x : Pt) : ∀ {l : List Pt}, l.Pairwise leP → (insP x l).Pairwise leP
  | [], _ => by simp [insP]
  | y :: l, h => by
    have h' := List.pairwise_cons.1 h
    unfold insP
    cases hq : ltQ x y with
    | true =>
      rw [ltQ_eq] at hq
      have hxy : leP x y := by unfold leP; unfold ltP at *; simp only [decide_eq_true_eq, decide_eq_false_iff_not] at *; omega
      refine List.pairwise_cons.2 ⟨fun z hz => ?_, h⟩
      rcases List.mem_cons.1 hz with rfl | hz
      · exact hxy
      · exact leP_trans hxy (h'.1 z hz)
    | false =>
      rw [ltQ_eq] at hq
      refine List.pairwise_cons.2 ⟨fun z hz => ?_, insP_sorted x h'.2⟩
      rcases List.mem_cons.1 ((insP_perm x l).mem_iff.1 hz) with rfl | hz
      · exact hq
      · exact h'.1 z hz
theorem isortP_sorted : ∀ l, (isortP l).Pairwise leP
  | [] => List.Pairwise.nil
  | x :: l => insP_sorted x (isortP_sorted l)
theorem sorted_eq : ∀ {l k : List Pt}, l.Pairwise leP → k.Pairwise leP → l.Perm k → l = k
  | [], k, _, _, h => (List.Perm.nil_eq h)
  | x :: l, [], _, _, h => by have := h.length_eq; simp at this
  | x :: l, y :: k, h1, h2, h => by
    have a1 := List.pairwise_cons.1 h1
    have a2 := List.pairwise_cons.1 h2
    have hx : x = y := by
      have m1 : x ∈ y :: k := h.mem_iff.1 (List.mem_cons_self ..)
      have m2 : y ∈ x :: l := h.mem_iff.2 (List.mem_cons_self ..)
      rcases List.mem_cons.1 m1 with e | m1
      · exact e
      · rcases List.mem_cons.1 m2 with e | m2
        · exact e.symm
        · exact leP_anti (a1.1 y m2) (a2.1 x m1)
    subst hx
    rw [sorted_eq a1.2 a2.2 (List.Perm.cons_inv h)]

/-- A key's place. -/
def ptV : V → Pt
  | .a [.i .i64 r, .i .i64 c] => (r, c)
  | _ => (0, 0)
def ptVal : Value → Pt
  | .agg #[.int .i64 r, .int .i64 c] => (r, c)
  | _ => (0, 0)
noncomputable def rowV (id : List Nat) (d : List Pt) : List V := d.flatMap fun p => [.s id, .i .i64 p.1, .i .i64 p.2]
theorem rowV_get (id : List Nat) : ∀ (d : List Pt) (j : Nat) (v : V), (rowV id d)[j]? = some v → ∃ h : j / 3 < d.length, ([.s id, .i .i64 d[j / 3].1, .i .i64 d[j / 3].2] : List V)[j % 3]? = some v
  | [], j, v, h => by simp [rowV] at h
  | p :: d, j, v, h => by
    have e : rowV id (p :: d) = [.s id, .i .i64 p.1, .i .i64 p.2] ++ rowV id d := rfl
    rw [e] at h
    by_cases hj : j < 3
    · rw [List.getElem?_append_left (by simpa using hj)] at h
      have h0 : j / 3 = 0 := by omega
      have h1 : j % 3 = j := by omega
      refine ⟨by rw [h0]; simp, ?_⟩
      simp only [h0, h1, List.getElem_cons_zero]
      exact h
    · rw [List.getElem?_append_right (by simpa using hj)] at h
      obtain ⟨h2, h3⟩ := rowV_get id d (j - 3) v h
      have e1 : j / 3 = (j - 3) / 3 + 1 := by omega
      have e2 : j % 3 = (j - 3) % 3 := by omega
      refine ⟨by rw [e1]; simp; omega, ?_⟩
      simp only [e1, e2, List.getElem_cons_succ]
      exact h3
theorem rowV_len (id : List Nat) (d : List Pt) : (rowV id d).length = d.length * 3 := by
  induction d with
  | nil => rfl
  | cons p d ih => show ([.s id, .i .i64 p.1, .i .i64 p.2] ++ rowV id d : List V).length = _; rw [List.length_append, ih]; simp; omega

theorem map_pt [Env] {ρ : Ren} : ∀ {es : List (V × V × Nat)} {L : List MapEntry}, (∀ e ∈ es, isPlace e.1 = true) → EntRel ρ es L → L.map (fun z => ptVal z.key) = es.map fun e => ptV e.1
  | [], [], _, _ => rfl
  | [], _ :: _, _, h => h.elim
  | _ :: _, [], _, h => h.elim
  | (k, v, b) :: es, y :: L, hp, ⟨h1, _, _, h4⟩ => by
    rw [List.map_cons, List.map_cons, map_pt (fun e he => hp e (List.mem_cons_of_mem _ he)) h4]
    obtain ⟨r, c, er⟩ := isPlace_spec (hp _ (List.mem_cons_self ..))
    have er : k = _ := er
    rw [er] at h1
    have h1 : some (placeV r c) = some y.key := h1
    rw [← Option.some.inj h1]
    show (r, c) :: _ = ptV k :: _
    rw [er]
    rfl
/-- The places, sorted; where there are none: the run by a table. -/
noncomputable def placesO (tg : Tr (Option G)) (n : Nat) (f : Path) (args : List V) (h : H) : Rs :=
  match args with
  | [.s id, .m b] => (match h.get b with
    | .m (e :: es) clock => cond (bornOk clock (e :: es) && ((e :: es).all (fun e => isPlace e.1) && Nat.ble (es.length + 1) 1000))
        (.one .rt (.nd .nil (.sl h.n 0 (es.length + 1) (es.length + 1) false 3) .nil) (h.new (.c false (rowV id (isortP ((e :: es).map fun e => ptV e.1))) 139))) .fail
    | _ => goT tg n f args h)
  | _ => goT tg n f args h

theorem ent111 : ∀ xs w, (callFunc 111 xs).run Tryz.prog w = .ok (.enter 111 xs) w := enters_of Tryz.func111 (by kernel_rfl) rfl

theorem placesO_ok [E : Env] {ng : Nat} {f : Path} {tg : Tr (Option G)} {n : Nat} (hf : f.num = 111) (hm : Tryz.prog.follows .mixedOrders = true) (hG : AllT (EntG Tryz.prog ng (planOf Tryz.prog ng)) tg) : OrcOk Tryz.prog ng f (placesO tg n f) := by
  intro args h x q h' hr
  have plain : goT tg n f args h = .one x q h' → CallOk Tryz.prog ng f args h (q.get undefV .e) h' := fun hr => by
    obtain ⟨N, hN⟩ := goT_sound (TabG.of hG) (TabM.of hG) n f args _ x q h' hr
    exact (sound hm (tabOf_ok hG) N).call f args .nil h x q h' hN
  unfold placesO at hr
  split at hr
  · rename_i id b
    split at hr
    · rename_i e es clock hob
      cases hn : (bornOk clock (e :: es) && ((e :: es).all (fun e => isPlace e.1) && Nat.ble (es.length + 1) 1000)) with
      | false => rw [hn] at hr; cases hr
      | true =>
        rw [hn] at hr
        simp only [cond_true, Rs.one.injEq] at hr
        obtain ⟨rfl, rfl, rfl⟩ := hr
        simp only [Bool.and_eq_true] at hn
        obtain ⟨n1, n2, n3⟩ := hn
        have n3 := Nat.le_of_ble_eq_true n3
        rw [List.all_eq_true] at n2
        intro ρ w xs hxs hrel hE
        simp only [concs, Option.bind_eq_some_iff, Option.map_eq_some_iff] at hxs
        obtain ⟨u, hu, zs, ⟨u2, hu2, zs2, hz2, rfl⟩, rfl⟩ := hxs
        cases hz2
        simp only [conc, Option.map_eq_some_iff] at hu2
        obtain ⟨y, hy, rfl⟩ := hu2
        have hid := hu
        simp only [conc] at hu
        split at hu
        · rename_i hok
          simp only [Option.some.injEq] at hu
          subst hu
          obtain ⟨y', hy', ho⟩ := hrel.ob b (by rw [hob]; rfl)
          rw [hy] at hy'; cases hy'
          rw [hob] at ho
          obtain ⟨L, hL, hR⟩ := ho
          obtain ⟨a1, a2⟩ := bornOk_spec n1 hR
          have hlen := hR.length
          simp only [List.length_cons] at hlen
          have hmap : L.map (fun z => ptVal z.key) = (e :: es).map fun e => ptV e.1 := map_pt n2 hR
          rw [hf]
          refine ⟨ent111 _ _, (places_w y.1 L clock _ (fun z => ptVal z.key) w hL a1 a2 (fun z hz => ?_) (by omega) (by intro e0; rw [e0] at hlen; simp at hlen)).mono ?_⟩
          · obtain ⟨e', he', k1, _, _⟩ := hR.mem z hz
            obtain ⟨r, c, er⟩ := isPlace_spec (n2 e' he')
            rw [er] at k1
            have k1 : some (placeV r c) = some z.key := k1
            rw [← Option.some.inj k1]
            rfl
          · rintro e0 w' ⟨g, cap, d', cur, rfl, hg1, hc1, hpm, hst, hg2, hcs, hcell, hb⟩
            have hd : d' = isortP ((e :: es).map fun e => ptV e.1) := sorted_eq hst (isortP_sorted _) (hpm.trans (by rw [hmap]; exact (isortP_perm _).symm))
            have hdl : d'.length = es.length + 1 := by rw [hd, (isortP_perm _).length_eq]; simp
            have hgl : g < w'.heap.size := (Array.getElem?_eq_some_iff.1 hg2).1
            rw [← hd]
            obtain ⟨r1, r2⟩ := hrel.newFar hb (.c false (rowV id d') 139) g (cap * 3) hg1 hgl ⟨cur, (0, 0), hg2, hcs, by rw [rowV_len, hdl]; omega, fun j v hv => by
              obtain ⟨hj, hv⟩ := rowV_get id d' j v hv
              have hc := hcell (j / 3) hj (j % 3) (by omega)
              rw [show j / 3 * 3 + j % 3 = j by omega] at hc
              have h3 : j % 3 = 0 ∨ j % 3 = 1 ∨ j % 3 = 2 := by omega
              rcases h3 with h3 | h3 | h3
              · rw [h3] at hv hc; simp at hv; subst hv
                exact ⟨rfl, _, hid, hc⟩
              · rw [h3] at hv hc; simp at hv; subst hv
                exact ⟨rfl, _, rfl, hc⟩
              · rw [h3] at hv hc; simp at hv; subst hv
                exact ⟨rfl, _, rfl, hc⟩, fun _ i _ hi => by omega⟩
            refine ⟨_, _, rfl, ?_, r1, r2⟩
            show conc _ (.sl h.n 0 (es.length + 1) (es.length + 1) false 3) = _
            simp only [conc, Ren.add_self, Option.bind_some, capOf]
            rw [if_pos (by simp; omega), hlen]
            simp
        · cases hu
    · exact plain hr
  · exact plain hr
end Go.Proofs.YtgklcjeigoihpaaGreatDoor
