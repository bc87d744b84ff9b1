/- WalFolds: zbyte.Sum as a told answer of the evaluator. -/
import Derived.Test.YtgklcjeigoihpaaGreatDoorWfSum
import Derived.Test.YtgklcjeigoihpaaGreatDoorEngRa
import Derived.Shelf.Abstract
set_option linter.unusedSimpArgs false
set_option linter.unusedVariables false
namespace Go.Proofs.YtgklcjeigoihpaaGreatDoor
open Go Go.RowKit Go.Proofs Go.Eng

def byteV : V → Option Nat
  | .i .u8 (.ofNat k) => cond (Nat.blt k 256) (some k) none
  | _ => none
def bytesV : List V → Option (List Nat)
  | [] => some []
  | v :: l => match byteV v, bytesV l with
    | some k, some ks => some (k :: ks)
    | _, _ => none

theorem byteV_spec {v : V} {k : Nat} (h : byteV v = some k) : v = .i .u8 (.ofNat k) ∧ k < 256 := by
  unfold byteV at h
  split at h
  · rename_i j
    cases hj : Nat.blt j 256 with
    | false => rw [hj] at h; cases h
    | true => rw [hj] at h; cases h; exact ⟨rfl, by simpa [Nat.blt_eq] using hj⟩
  · cases h
theorem bytesV_spec : ∀ {vs : List V} {l : List Nat}, bytesV vs = some l → vs = l.map (fun k => V.i .u8 (.ofNat k)) ∧ ∀ k ∈ l, k < 256
  | [], l, h => by cases h; exact ⟨rfl, by simp⟩
  | v :: vs, l, h => by
    simp only [bytesV] at h
    split at h
    · rename_i k ks h1 h2
      cases h
      obtain ⟨rfl, hk⟩ := byteV_spec h1
      obtain ⟨e, ha⟩ := bytesV_spec h2
      exact ⟨by rw [e]; rfl, by intro c hc; rcases List.mem_cons.1 hc with rfl | hc; exact hk; exact ha c hc⟩
    · cases h

/-- The sum of bytes that are known. -/
noncomputable def sumO (args : List V) (h : H) : Rs :=
  match args with
  | [.sl b o n _ _ _] => (match h.get b with
    | .c _ cs _ => (match bytesV ((cs.drop o).take n) with
      | some l => cond (Nat.beq l.length n && Nat.ble n 1000000) (.one .rt (.nd .nil (.i .u32 (.ofNat (Nat.xor (sumL l) 4294967295))) .nil) h) .fail
      | none => .fail)
    | _ => .fail)
  | _ => .fail

theorem ent89 : ∀ xs w, (callFunc 89 xs).run Tryz.prog w = .ok (.enter 89 xs) w := enters_of Tryz.func89 (by kernel_rfl) rfl

theorem sumO_ok [E : Env] {ng : Nat} {f : Path} (hf : f.num = 89) : OrcOk Tryz.prog ng f sumO := by
  intro args h x q h' hr
  unfold sumO at hr
  split at hr
  · rename_i b o n c e s
    split at hr
    · rename_i ro cs el hob
      split at hr
      · rename_i l hl
        cases hn : (Nat.beq l.length n && Nat.ble n 1000000) with
        | false => rw [hn] at hr; cases hr
        | true =>
          rw [hn] at hr
          simp only [cond_true, Rs.one.injEq] at hr
          obtain ⟨rfl, rfl, rfl⟩ := hr
          rw [Bool.and_eq_true] at hn
          have hbig := Nat.le_of_ble_eq_true hn.2
          have hn : l.length = n := Nat.eq_of_beq_eq_true hn.1
          subst hn
          obtain ⟨hvs, hlt⟩ := bytesV_spec hl
          intro ρ w xs hxs hrel hE
          simp only [concs, Option.bind_eq_some_iff, Option.map_eq_some_iff] at hxs
          obtain ⟨u, hu, zs, hz, rfl⟩ := hxs
          cases hz
          simp only [conc, Option.bind_eq_some_iff] at hu
          obtain ⟨y, hy, hu⟩ := hu
          split at hu
          · rename_i hcap
            simp only [Option.some.injEq] at hu
            subst hu
            obtain ⟨y', hy', ho⟩ := hrel.ob b (by rw [hob]; rfl)
            rw [hy] at hy'; cases hy'
            rw [hob] at ho
            obtain ⟨ca, fz, o1, o2, o3, o4, _⟩ := ho
            have hin := hrel.inside _ _ hy
            rw [hf]
            refine ⟨ent89 _ _, (sum_w l hlt ?_ y.1 o _ w ?_ hin).mono ?_⟩
            · omega
            · intro i hi
              have hcs : cs[o + i]? = some (.i .u8 (.ofNat l[i])) := by
                have h1 : ((cs.drop o).take l.length)[i]? = some (.i .u8 (.ofNat l[i])) := by rw [hvs]; simp [List.getElem?_eq_getElem hi]
                rw [List.getElem?_take, if_pos hi, List.getElem?_drop] at h1
                exact h1
              obtain ⟨_, v, hv, hc⟩ := o4 (o + i) _ hcs
              simp only [conc, Option.some.injEq] at hv
              subst hv
              simp only [World.cell?, o1]
              simpa using hc
            · rintro e w' ⟨rfl, rfl⟩
              exact ⟨_, ρ, rfl, by simp [Tr.get, conc], hrel, Ext.below (Below.refl _ _)⟩
          · cases hu
      · cases hr
    · cases hr
  · cases hr
end Go.Proofs.YtgklcjeigoihpaaGreatDoor
