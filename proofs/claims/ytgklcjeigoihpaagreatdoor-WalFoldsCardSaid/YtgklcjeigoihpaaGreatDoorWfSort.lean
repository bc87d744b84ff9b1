/- WalFolds: slices.SortFunc over places that the call itself has collected. -/
import Derived.Test.YtgklcjeigoihpaaGreatDoorWfCmp
import Derived.Test.YtgklcjeigoihpaaGreatDoorWfShelf
import Derived.Lib.OwnBridge
import Derived.Lib.SmallJoins
set_option linter.unusedSimpArgs false
set_option linter.unusedVariables false
namespace Go.Proofs.YtgklcjeigoihpaaGreatDoor
open Go Go.RowKit Go.Proofs Go.Sort Go.Lib Go.Shelf

abbrev Pt := Int × Int
def encP (S : ByteArray) (x : Pt) : List Value := [.string S, n64 x.1, n64 x.2]
def cellsP (S : ByteArray) (l : List Pt) : List Value := l.flatMap (encP S)
def cfP (x y : Pt) : Int := cf2 x.1 x.2 y.1 y.2
def ltP (x y : Pt) : Bool := decide (x.1 < y.1 ∨ x.1 = y.1 ∧ x.2 < y.2)
theorem lt_cf (x y : Pt) : ltOf cfP x y = ltP x y := by
  unfold ltOf cfP cf2 cf1 ltP
  congr 1
  apply propext
  repeat' split
  all_goals omega
theorem swoP : SWO (ltOf cfP) where
  irrefl x := by rw [lt_cf]; unfold ltP; simp
  trans x y z h1 h2 := by rw [lt_cf] at *; unfold ltP at *; simp at *; omega
  ntrans x y z h1 h2 := by rw [lt_cf] at *; unfold ltP at *; simp only [decide_eq_false_iff_not] at *; omega
theorem encP_one (S : ByteArray) (x : Pt) : ∀ v ∈ encP S x, v.oneCell' = true := by
  intro v hv
  simp [encP] at hv
  rcases hv with rfl | rfl | rfl <;> rfl
@[simp] theorem cellsP_len (S : ByteArray) (l : List Pt) : (cellsP S l).length = l.length * 3 := by
  induction l with
  | nil => rfl
  | cons x l ih =>
    show (encP S x ++ cellsP S l).length = _
    rw [List.length_append, ih]
    simp [encP]; omega
theorem cellsP_get (S : ByteArray) : ∀ (l : List Pt) (i t : Nat) (h : i < l.length), t < 3 → (cellsP S l)[i * 3 + t]? = (encP S l[i])[t]?
  | x :: l, 0, t, h, ht => by
    show (encP S x ++ cellsP S l)[0 * 3 + t]? = _
    rw [List.getElem?_append_left (by simp [encP]; omega)]
    simp
  | x :: l, i + 1, t, h, ht => by
    show (encP S x ++ cellsP S l)[(i + 1) * 3 + t]? = _
    rw [List.getElem?_append_right (by simp [encP]; omega), show (i + 1) * 3 + t - (encP S x).length = i * 3 + t by simp [encP]; omega]
    exact cellsP_get S l i t (by simpa using h) ht

theorem below_growP {B : Nat} {a w : World} (os : Array Obj) (h : Below B a w) (hB : B ≤ w.heap.size) : Below B a (grow w os) :=
  h.trans ⟨rfl, rfl, rfl, (by show w.heap.size ≤ (w.heap ++ os).size; simp), fun b hb => (by show (w.heap ++ os)[b]? = w.heap[b]?; rw [Array.getElem?_append_left (by omega)])⟩
theorem below_mapB {B g : Nat} {w : World} (f : Array Value → Array Value) (hB : B ≤ g) : Below B w (mapBlock w g f) :=
  ⟨rfl, rfl, rfl, (by show w.heap.size ≤ (w.heap.modify g (onCells f)).size; simp), fun b hb => (by show (w.heap.modify g (onCells f))[b]? = w.heap[b]?; rw [Array.getElem?_modify, if_neg (by omega)])⟩
set_option maxRecDepth 100000 in
theorem sortP_own {B : Nat} {v : Value} {S : ByteArray} {l : List Pt} {w : World} (h : w.ownsRow B 139 3 v l.length (cellsP S l)) (hl : l ≠ []) (hn : l.length < 4611686018427387904) (hB : B ≤ w.heap.size) :
    Calls Tryz.prog 133 #[v, .func (.func 134) #[] #[]] w fun e w' => e = .returned (.tuple #[]) ∧ ∃ (g cap : Nat) (d' : List Pt) (cur : Array Value), v = .slice (some ⟨g, 0, none⟩) l.length cap ∧ B ≤ g ∧ l.length ≤ cap ∧ d'.Perm l ∧ d'.Pairwise (fun a b => ltP b a = false) ∧
      w'.heap[g]? = some (.cells cur 139 (0, 0)) ∧ cur.size = cap * 3 ∧ (∀ i (h : i < d'.length) (t : Nat), t < 3 → cur[i * 3 + t]? = (encP S d'[i])[t]?) ∧ Below B w w' := by
  have hp : 0 < l.length := List.length_pos_iff.2 hl
  rcases h.2 with ⟨_, h0⟩ | ⟨g, cap, cur, rfl, hBg, hg, hnc, hmx, hcs, htk⟩
  · omega
  have hgl : g < w.heap.size := (Array.getElem?_eq_some_iff.1 hg).1
  have hsz : l.toArray.size = l.length := by simp
  have cell : ∀ j u, (cellsP S l)[j]? = some u → cur[j]? = some u := fun j u hj => by
    have hj2 : j < l.length * 3 := by have := (List.getElem?_eq_some_iff.1 hj).1; simpa using this
    rw [← htk, List.getElem?_take, if_pos hj2] at hj
    simpa using hj
  have hH : HoldsK (encP S) 3 w g 0 l.toArray := by
    intro j hj
    have hj' : j < l.toArray.size * 3 := by simpa using hj
    have hq : j / 3 < l.length := by simp at hj'; omega
    refine ⟨?_, by simp [World.frozen?, hg]⟩
    rw [get_flatK (encP S) 3 l.toArray j hj']
    have hc := cellsP_get S l (j / 3) (j % 3) hq (by omega)
    rw [show j / 3 * 3 + j % 3 = j by omega] at hc
    have hlt : j % 3 < (encP S l[j / 3]).length := by simp [encP]; omega
    have hget : (encP S l[j / 3])[j % 3]? = some ((encP S l[j / 3])[j % 3]'hlt) := List.getElem?_eq_getElem hlt
    have := cell j _ (hc.trans hget)
    simp only [World.cell?, hg]
    rw [getElem!_pos l.toArray (j / 3) (by simpa using hq), getElem!_pos _ (j % 3) (by simpa using hlt)]
    simpa using this
  have eg : ∀ args w, (callFunc 134 args).run Tryz.prog w = .ok (.enter 134 args) w := enters_of Tryz.func134 (by kernel_rfl) rfl
  have hcon := AnyQ.slices_SortFunc Tryz.laysSlF06_f133 3 Tryz.isAgg139 Tryz.sizeOf139 (encP S) (fun _ => rfl) (encP_one S) cfP swoP 134 #[] g 0 cap l.toArray w eg (fun _ _ _ _ x y => clo_w S S x.1 x.2 y.1 y.2 _) hH hgl (by simpa using hn)
  change Calls Tryz.prog 133 _ _ _ at hcon
  rw [hsz] at hcon
  refine hcon.mono ?_
  rintro e w' ⟨rfl, d', q, os, hpm, hs, rfl⟩
  have hs' : d'.size = l.length := by rw [hpm.1, hsz]
  have hH' := holdsK_sortWorldK (encP S) 3 w g 0 q l.toArray d' os hgl hH hpm.1
  obtain ⟨cur', hcur, hcz⟩ : ∃ cur' : Array Value, (sortWorldK (encP S) 3 w g 0 q d' os).heap[g]? = some (.cells cur' 139 (0, 0)) ∧ cur'.size = cur.size := by
    refine ⟨putCells id 0 (flatK (encP S) 3 d') cur, ?_, by simp [putCells]⟩
    show ((w.heap.modify g (onCells (putCells id 0 (flatK (encP S) 3 d')))) ++ os)[g]? = _
    rw [Array.getElem?_append_left (by simpa using hgl), Array.getElem?_modify, if_pos rfl, hg]
    rfl
  refine ⟨rfl, g, cap, d'.toList, cur', rfl, hBg, hnc, ?_, ?_, hcur, by rw [hcz, hcs], ?_, ?_⟩
  · have := hpm.2.2
    have e1 : d'.extract 0 l.length = d' := by rw [← hs', Array.extract_size]
    have e2 : l.toArray.extract 0 l.length = l.toArray := by rw [← hsz, Array.extract_size]
    rw [e1, e2] at this
    simpa using this
  · rw [List.pairwise_iff_getElem]
    intro i j hi hj hij
    simp at hi hj
    have := hs i j (Nat.zero_le _) hij (by first | omega | (simp; omega))
    rw [lt_cf, getElem!_pos d' i (by omega), getElem!_pos d' j (by omega)] at this
    simpa using this
  · intro i hi t ht
    simp at hi
    have := (hH'.cell (i := i) (c := t) hi ht).1
    have h2 := (Go.Joins.cell_of_block hcur (0 + i * 3 + t)).symm.trans this
    rw [Nat.zero_add] at h2
    rw [h2, getElem!_pos d' i hi]
    have hlt : t < (encP S d'[i]).length := by simp [encP]; omega
    rw [getElem!_pos _ t hlt]
    simp [List.getElem?_eq_getElem hlt]
  · have h0 : Below B w (Sort.ahead w q) := ⟨rfl, rfl, rfl, Nat.le_refl _, fun _ _ => rfl⟩
    exact below_growP os (h0.trans (below_mapB _ hBg)) (by show B ≤ (w.heap.modify g _).size; simpa using hB)
end Go.Proofs.YtgklcjeigoihpaaGreatDoor
