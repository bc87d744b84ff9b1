/- The engine, part P: append, copy, clear. -/
import Derived.Test.YtjngjfgbholgpaaEngO
set_option linter.unusedSimpArgs false
set_option linter.unusedVariables false
namespace Go.Eng
section
variable {P : Program} {ρ : Ren} {ng : Nat} {fr : Tr V} {a : Act} {h h' : H} {w : World}

theorem obRel_prefix [Env] {l : List V} {xs : List Value} {elem : Nat} (h : concs ρ l = some xs) (h1 : l.all V.one = true) (ro : Bool) (c : Array Value) (hc : ∀ i, i < xs.length → c[i]? = xs[i]?) (hs : xs.length ≤ c.size)
    (fz : Nat × Nat) (hf : ∀ i, i < c.size → ¬ (fz.1 ≤ i ∧ i < fz.2)) : ObRel ρ c.size (.c ro l elem) (some (.cells c elem fz)) := by
  have hlen := concs_length h
  refine ⟨c, fz, rfl, rfl, by omega, fun i v hv => ?_, fun _ => hf⟩
  obtain ⟨x, hx, hx2⟩ := concs_get i v h hv
  have hi := (List.getElem?_eq_some_iff.1 hv).1
  exact ⟨List.all_eq_true.1 h1 v (List.mem_of_getElem? hv), x, hx, by rw [hc i (by omega)]; exact hx2⟩

theorem arr_app {α : Type} (xs : List α) (z : Array α) : xs.toArray ++ z = (xs ++ z.toList).toArray := by apply Array.ext'; simp

theorem HRel.congr [Env] {h1 h2 : H} (hr : HRel ρ h1 w) (e : ∀ p, h1.get p = h2.get p) (en : h1.n = h2.n) : HRel ρ h2 w := by
  obtain ⟨a, b, c, d, k⟩ := hr
  refine ⟨by rw [← en]; exact a, b, fun p => ?_, fun p q x y => ?_, fun g v hv => ⟨(k g v hv).1, fun p y => ?_⟩⟩
  · rw [← e p]; exact c p
  · rw [← e p, ← e q]; exact d p q x y
  · rw [← e p]; exact (k g v hv).2 p y

theorem Ext.congr {ρ' : Ren} {h0 h1 h2 : H} {w' : World} (hr : Ext ρ h0 w ρ' h1 w') (e : ∀ p, h1.get p = h2.get p) (en : h1.n = h2.n) : Ext ρ h0 w ρ' h2 w' := by
  obtain ⟨a, b, c, d, f, g, k⟩ := hr
  refine ⟨a, b, c, fun p x => ?_, f, by rw [← en]; exact g, k⟩
  rw [← e p]; exact d p x

/-- A slice that has grown into a new block. -/
theorem grow_spec [Env] {es bytes elem need C : Nat} {l : List V} {v : V} {xs zs : List Value} {w' : World} (hr : HRel ρ h w) (hv : growV h es bytes elem need l = .v v h') (hl : concs ρ l = some xs) (h1 : l.all V.one = true)
    (hlen : xs.length = need * es) (hz : zs.length = (C - need) * es) (hC : need ≤ C) (hes : es ≠ 0) (hw : w'.heap = w.heap.push (.cells (xs ++ zs).toArray elem)) (hst : Str w w') :
    ∃ ρ', conc ρ' v = some (.slice (some ⟨w.heap.size, 0, none⟩) need C) ∧ HRel ρ' h' w' ∧ Ext ρ h w ρ' h' w' := by
  unfold growV at hv
  cases hb : Nat.ble ((2 * need + 192) * bytes) 281474976710656 with
  | false => simp [hb] at hv
  | true =>
    simp only [hb, cond_true, HR.v.injEq] at hv
    obtain ⟨rfl, rfl⟩ := hv
    have hsz : (xs ++ zs).toArray.size = C * es := by
      simp only [List.size_toArray, List.length_append, hlen, hz]
      rw [← Nat.add_mul]; congr 1; omega
    have ho : ObRel ρ (C * es) (.c false l elem) (some (.cells (xs ++ zs).toArray elem)) := by
      rw [← hsz]
      refine obRel_prefix hl h1 false _ (fun i hi => ?_) (by simp) _ (fun i _ => by simp)
      simp [List.getElem?_append_left hi]
    obtain ⟨g1, g2⟩ := hr.new _ _ _ ho
    refine ⟨ρ.add h.n (w.heap.size, C * es), ?_, g1.world hw, g2.world hw ⟨hst.os, hst.tape, hst.output⟩⟩
    simp only [conc, Ren.add_self, Option.bind_some, capOf, Bool.false_eq_true, if_false, Nat.sub_zero, Nat.zero_add]
    rw [Nat.mul_div_cancel _ (by omega), if_pos ⟨Nat.le_refl _, hC, Nat.le_refl _⟩]

/-- What is known of the operands of an append. -/
structure App (P : Program) (T xT e : TypeId) (i : TypeInfo) (zv : Value) (d : TypeDesc) : Prop where
  hT : P.underlying T = some (.slice e)
  hX : P.underlying xT = some d
  hd : notInt d = true
  hi : P.info? e = some i
  hz : i.zero = some zv
  hb0 : i.bytes ≠ 0
  hes : i.size ≠ 0
  hzs : zv.cells.size = i.size

theorem zeroCells_len (z : Array Value) (n : Nat) : (Builtin.zeroCells z n).size = n * z.size := by simp [Builtin.zeroCells]

theorem append_spec [Env] {T xT e ty : TypeId} {i : TypeInfo} {zv : Value} {d : TypeDesc} (A : App P T xT e i zv d) {x y : V} {u z : Value} {v : V} (hr : HRel ρ h w)
    (hv : appV h i.size i.bytes e x (srcOf h i.size y) = .v v h') (hx : conc ρ x = some u) (hy : conc ρ y = some z) :
    ∃ ρ' r w', (Builtin.append_ #[T, xT] ty #[u, z]).run P w = .ok r w' ∧ conc ρ' v = some r ∧ HRel ρ' h' w' ∧ Ext ρ h w ρ' h' w' := by
  have hs : szO P e = some i.size := by simp [szO, A.hi]
  have hes := A.hes
  unfold appV at hv
  split at hv
  · cases hv
  rename_i new n hsrc
  obtain ⟨xs, hxs, ho1, hxl, hlo, hfc, hft⟩ := src_spec (P := P) hr hsrc hy
  have hnl := concs_length hxs
  split at hv
  · -- nothing is appended
    have hnil : xs = [] := by
      have : xs.length = 0 := by rw [hnl, hxl]; simp
      exact List.eq_nil_of_length_eq_zero this
    subst hnil
    split at hv
    · cases hv
      simp [conc] at hx; subst hx
      have := run_append_fit (P := P) (ty := ty) (len := 0) (cap := 0) (base := none) A.hT A.hX A.hd hs hlo hfc (by omega)
      exact ⟨ρ, _, w, this, rfl, hr, .refl _ _ _⟩
    · rename_i b off len cap ex es'
      cases hv
      obtain ⟨q, hq, c1, c2, c3, rfl⟩ := conc_sl hx
      have := run_append_fit (P := P) (ty := ty) (len := len) (cap := capOf ex cap q.2 off es') (base := some ⟨q.1, off, none⟩) A.hT A.hX A.hd hs hlo hfc (by omega)
      refine ⟨ρ, _, w, this, ?_, hr, .refl _ _ _⟩
      exact hx
    · cases hv
  · rename_i n
    simp only [Nat.succ_eq_add_one] at hlo hfc hft hxl hsrc
    split at hv
    · -- onto nil
      simp [conc] at hx; subst hx
      have hbig : (2 * (0 + (n + 1)) + 192) * i.bytes ≤ 281474976710656 := by
        unfold growV at hv
        cases hb : Nat.ble ((2 * (n + 1) + 192) * i.bytes) 281474976710656 with
        | false => simp [hb] at hv
        | true => have := Nat.le_of_ble_eq_true hb; simpa using this
      obtain ⟨C, w', hC, hrun, hw, hst⟩ := run_append_grow' (P := P) (ty := ty) (len := 0) (cap := 0) (base := none) (old := #[]) A.hT A.hX A.hd A.hi A.hz A.hb0 hlo
        (fun w2 e2 => by obtain ⟨ys, h1, _, _, _, h5, _⟩ := src_spec (P := P) (hr.world e2) hsrc hy; rw [hxs] at h1; cases h1; exact h5)
        (fun w2 e2 => by simp [Builtin.firstCells]) (by omega) hbig
      simp only [Nat.zero_add] at hC hrun hw
      have hw2 : w'.heap = w.heap.push (.cells (xs ++ (Builtin.zeroCells zv.cells (C - (n + 1))).toList).toArray e) := by
        rw [hw, Array.empty_append, arr_app]
      obtain ⟨ρ', g1, g2, g3⟩ := grow_spec hr hv hxs ho1 (by omega) (by rw [Array.length_toList, zeroCells_len, A.hzs]) hC hes hw2 hst
      exact ⟨ρ', _, w', hrun, g1, g2, g3⟩
    · rename_i b off len cap ex es'
      cases hbe : Nat.beq i.size es' with
      | false => simp [hbe] at hv
      | true =>
      have hbe' := Nat.eq_of_beq_eq_true hbe
      subst hbe'
      simp only [hbe, cond_true] at hv
      obtain ⟨q, hq, c1, c2, c3, rfl⟩ := conc_sl hx
      unfold appSl at hv
      split at hv
      · -- it fits
        rename_i hfit
        have hfit := Nat.le_of_ble_eq_true hfit
        split at hv
        · rename_i h2 hst
          simp only [HR.v.injEq] at hv
          obtain ⟨rfl, rfl⟩ := hv
          obtain ⟨w', r1, r2, r3⟩ := storeC_spec (P := P) hr hst hq hxs ho1
          have := run_append_fit (P := P) (ty := ty) (len := len) (cap := capOf ex cap q.2 off i.size) (base := some ⟨q.1, off, none⟩) A.hT A.hX A.hd hs hlo hfc (by omega)
          simp only [add_none, r1, Result.andThen_ok] at this
          refine ⟨ρ, _, w', this, ?_, r2, r3⟩
          simp only [conc, hq, Option.bind_some]
          rw [if_pos ⟨hfit, c2, c3⟩]
        · cases hv
      · rename_i hnf
        have hnf : ¬ (len + (n + 1) ≤ cap) := by
          intro h; rw [Nat.ble_eq_true_of_le h] at hnf; cases hnf
        split at hv
        · -- it grows for sure
          split at hv
          · rename_i old hold
            obtain ⟨x2, os, e0, e1, e2, e3, e4⟩ := loadCells_of (P := P) hr hold
            rw [hq] at e0; cases e0
            have hbig : (2 * (len + (n + 1)) + 192) * i.bytes ≤ 281474976710656 := by
              unfold growV at hv
              cases hb : Nat.ble ((2 * (len + (n + 1)) + 192) * i.bytes) 281474976710656 with
              | false => simp [hb] at hv
              | true => exact Nat.le_of_ble_eq_true hb
            have hcap : capOf true cap q.2 off i.size = cap := rfl
            obtain ⟨C, w', hC, hrun, hw, hst⟩ := run_append_grow' (P := P) (ty := ty) (len := len) (cap := capOf true cap q.2 off i.size) (base := some ⟨q.1, off, none⟩) (old := os.toArray) A.hT A.hX A.hd A.hi A.hz A.hb0 hlo
              (fun w2 e2 => by obtain ⟨ys, h1, _, _, _, h5, _⟩ := src_spec (P := P) (hr.world e2) hsrc hy; rw [hxs] at h1; cases h1; exact h5)
              (fun w2 e2 => by
                obtain ⟨x3, os3, f0, f1, f2, f3, f4⟩ := loadCells_of (P := P) (hr.world e2) hold
                rw [hq] at f0; cases f0
                rw [e3] at f3; cases f3
                simpa [Builtin.firstCells] using f4) (by rw [hcap]; omega) hbig
            have hw2 : w'.heap = w.heap.push (.cells ((os ++ xs) ++ (Builtin.zeroCells zv.cells (C - (len + (n + 1)))).toList).toArray e) := by
              rw [hw, List.append_toArray, arr_app]
            have hol := concs_length e3
            obtain ⟨ρ', g1, g2, g3⟩ := grow_spec hr hv (concs_append e3 hxs) (by rw [List.all_append, e2, ho1]; rfl) (by rw [List.length_append, hol, hnl, e1, hxl, ← Nat.add_mul])
              (by rw [Array.length_toList, zeroCells_len, A.hzs]) hC hes hw2 hst
            exact ⟨ρ', _, w', hrun, g1, g2, g3⟩
          · cases hv
        · -- in place or grown: nobody knows
          cases hof : Nat.beq off 0 with
          | false => simp [hof] at hv
          | true =>
          have hof' := Nat.eq_of_beq_eq_true hof
          subst hof'
          simp only [hof, cond_true] at hv
          unfold appAmb at hv
          split at hv
          · rename_i ro cs e' hob
            cases ro with
            | true => simp at hv
            | false =>
            simp only [cond_false] at hv
            cases hee : Nat.beq e' e with
            | false => simp [hee] at hv
            | true =>
            have hee' := Nat.eq_of_beq_eq_true hee
            subst hee'
            simp only [hee, cond_true] at hv
            split at hv
            · rename_i old hold
              have hlive : (h.get b).live = true := by rw [hob]; rfl
              obtain ⟨x2, os, e0, e1, e2, e3, e4⟩ := loadCells_of (P := P) hr hold
              rw [hq] at e0; cases e0
              have hol := concs_length e3
              have hbig : (2 * (len + (n + 1)) + 192) * i.bytes ≤ 281474976710656 := by
                unfold growV at hv
                cases hb : Nat.ble ((2 * (len + (n + 1)) + 192) * i.bytes) 281474976710656 with
                | false => simp [hb] at hv
                | true => exact Nat.le_of_ble_eq_true hb
              obtain ⟨k1, k2⟩ := hr.kill b
              have hcat := concs_append e3 hxs
              have hone : (old ++ new).all V.one = true := by rw [List.all_append, e2, ho1]; rfl
              have hcl : (os ++ xs).length = (len + (n + 1)) * i.size := by rw [List.length_append, hol, hnl, e1, hxl, ← Nat.add_mul]
              by_cases hroom : len + (n + 1) ≤ capOf false cap q.2 0 i.size
              · -- in place
                have hmul := Nat.mul_le_mul_right i.size hroom
                obtain ⟨q', hq', hob2⟩ := hr.ob b hlive
                rw [hq] at hq'; cases hq'
                rw [hob] at hob2
                obtain ⟨c, fz, o1, o2, o3, o4, o5⟩ := hob2
                have hone' : ∀ v ∈ xs, v.oneCell' = true := by
                  intro v hvm
                  obtain ⟨j, hj⟩ := List.getElem?_of_mem hvm
                  have hj' : j < new.length := by rw [← hnl]; exact (List.getElem?_eq_some_iff.1 hj).1
                  obtain ⟨u, hu, hu2⟩ := concs_get j _ hxs (List.getElem?_eq_getElem hj')
                  rw [hj] at hu2; cases hu2
                  exact conc_one hu (List.all_eq_true.1 ho1 _ (List.getElem_mem hj'))
                have hx3 : len * i.size + xs.length = (len + (n + 1)) * i.size := by rw [hnl, hxl, ← Nat.add_mul]
                obtain ⟨c', r1, r2, r3⟩ := run_storeCells_row (P := P) q.1 (len * i.size) e' fz xs 0 c w o1 (by omega) (by rw [o2]; exact o5 rfl) hone'
                have hrun := run_append_fit (P := P) (ty := ty) (len := len) (cap := capOf false cap q.2 0 i.size) (base := some ⟨q.1, 0, none⟩) A.hT A.hX A.hd hs hlo hfc hroom
                simp only [add_none, Nat.zero_add, r1, Result.andThen_ok] at hrun
                have hobn : ObRel ρ q.2 (.c false (old ++ new) e') ((w.setRow q.1 c').heap[q.1]?) := by
                  rw [setRow_heap w q.1 c c' e' fz o1, show q.2 = c'.size by omega]
                  refine obRel_prefix hcat hone false c' (fun j hj => ?_) (by omega) fz (by rw [r2, o2]; exact o5 rfl)
                  rw [r3 j]
                  by_cases hjl : j < len * i.size
                  · rw [if_neg (by omega), List.getElem?_append_left (by omega)]
                    obtain ⟨x2, xs2, f0, f1, f2, f3, f4⟩ := loadC_spec hr hold
                    rw [hq] at f0; cases f0
                    rw [e3] at f3; cases f3
                    have hjo : j < os.length := by omega
                    have := f4 j _ (List.getElem?_eq_getElem hjo)
                    simp only [World.cell?, o1, Nat.zero_add] at this
                    rw [List.getElem?_eq_getElem hjo]; simpa using this
                  · rw [if_pos (by omega), List.getElem?_append_right (by omega)]
                    congr 1; omega
                -- first the block as it is now, then its new name
                obtain ⟨p1, p2⟩ := hr.put (w' := w.setRow q.1 c') hlive hq (.c false (old ++ new) e') (by simp) ⟨rfl, rfl, rfl⟩ (fun k hk => setRow_other w q.1 k c' hk) hobn
                have hl2 : ((h.put b (.c false (old ++ new) e')).get b).live = true := by rw [H.get_put, if_pos rfl]; rfl
                obtain ⟨m1, m2⟩ := p1.move hl2 hq (.c false (old ++ new) e') (by simpa using hobn)
                unfold growV at hv
                rw [Nat.ble_eq_true_of_le hbig] at hv
                simp only [cond_true, HR.v.injEq] at hv
                obtain ⟨rfl, rfl⟩ := hv
                have ge : ∀ p, (((h.put b (.c false (old ++ new) e')).put b .dead).new (.c false (old ++ new) e')).get p = ((h.put b .dead).new (.c false (old ++ new) e')).get p := by
                  intro p
                  simp only [H.get_new, H.get_put, H.n_put]
                  by_cases e1 : p = h.n
                  · simp [e1]
                  · by_cases e2 : p = b <;> simp [e1, e2]
                refine ⟨ρ.add h.n q, _, _, hrun, ?_, m1.congr ge rfl, (p2.trans m2).congr ge rfl⟩
                simp only [conc, H.n_put, Ren.add_self, Option.bind_some, capOf, Bool.false_eq_true, if_false]
                have hro : len + (n + 1) ≤ (q.2 - 0) / i.size := hroom
                have hce : 0 + (q.2 - 0) / i.size * i.size ≤ q.2 := c3
                rw [if_pos ⟨Nat.le_refl _, hro, hce⟩]
              · obtain ⟨C, w', hC, hrun, hw, hst⟩ := run_append_grow' (P := P) (ty := ty) (len := len) (cap := capOf false cap q.2 0 i.size) (base := some ⟨q.1, 0, none⟩) (old := os.toArray) A.hT A.hX A.hd A.hi A.hz A.hb0 hlo
                  (fun w2 e2 => by obtain ⟨ys, h1, _, _, _, h5, _⟩ := src_spec (P := P) (hr.world e2) hsrc hy; rw [hxs] at h1; cases h1; exact h5)
                  (fun w2 e2 => by
                    obtain ⟨x3, os3, f0, f1, f2, f3, f4⟩ := loadCells_of (P := P) (hr.world e2) hold
                    rw [hq] at f0; cases f0
                    rw [e3] at f3; cases f3
                    simpa [Builtin.firstCells] using f4) hroom hbig
                have hw2 : w'.heap = w.heap.push (.cells ((os ++ xs) ++ (Builtin.zeroCells zv.cells (C - (len + (n + 1)))).toList).toArray e') := by
                  rw [hw, List.append_toArray, arr_app]
                obtain ⟨ρ', g1, g2, g3⟩ := grow_spec k1 hv hcat hone hcl (by rw [Array.length_toList, zeroCells_len, A.hzs]) hC hes hw2 hst
                exact ⟨ρ', _, w', hrun, g1, g2, k2.trans g3⟩
            · cases hv
          · cases hv
    · cases hv

end
end Go.Eng
