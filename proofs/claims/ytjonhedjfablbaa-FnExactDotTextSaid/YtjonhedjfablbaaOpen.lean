/- What a law's row needs of its arguments: a row of whole numbers, and a struct of two whole numbers and such a row, opened from the reading of the heap: the numbers in range, the row's elements, its length within the weight that an argument may have. -/
import Derived.Test.YtjonhedjfablbaaProg
import Derived.WalkKit
import Derived.ProofKit
import Derived.OpenShut
import Derived.ChangeOld
import Derived.Below
import Derived.SizedLaws
import Derived.Lib.SmallJoins
import Derived.Test.YtjonhedjfablbaaWWords
import Derived.Test.YtjonhedjfablbaaWSized
namespace Go.Proofs.Ytjonhedjfablbaa.Open
open Go.ChangeShapes Go.WideShapes Go.ChangeAt Go.Deep Go.RowKit Go.Joins Go.Proofs.YtjonhedjfablbaaW.PrintWords
variable {H : Type} {enc : TypeId × Value → H} {P : Program} {W : World} {base : Nat} {spare : Nat → Bool} {held : Bool}

/-- a row of whole numbers, opened -/
theorem trod_ints {t e : TypeId} {k : IntKind} {B n : Nat} {v : Value} {y : DataW H × List MemPlace} (hu : P.underlying t = some (.slice e)) (he : P.underlying e = some (.int k)) (hc : P.cellsOf e = 1) (hB : P.bytesOf e = B) (hB0 : 0 < B)
    (h : DataW.trod enc P W base spare held n t [v] = some y) (hs : ∀ m ∈ y.1.weights P t, m ≤ reachBytes) :
    ∃ (A : Option Addr) (c : Nat) (l : List Int), v = .slice A l.length c ∧ Kd.C (Kd.int k) W A l.length l ∧ l.length ≤ c ∧ l.length ≤ 140737488351232 ∧ (∀ x ∈ l, (Lit.int k x).wf = true) ∧ l.length * B ≤ 140737488351232 := by
  rcases open_ints hu he hc h with ⟨hcs, rfl⟩ | ⟨x, l, c, zs, hcs, _, hl, hm, hz, rfl, hcell, hwz⟩
  · simp only [List.cons.injEq, and_true] at hcs
    subst hcs
    exact ⟨none, 0, [], rfl, Kd.C_nil _ _, Nat.le_refl _, by simp, by simp, by simp⟩
  · simp only [List.cons.injEq, and_true] at hcs
    subst hcs
    have hl2 : l ≤ zs.length := by
      rw [hz]; split
      · exact hl
      · exact Nat.le_refl _
    have z := hs ((zs.take l).length * B + (zs.drop l).length * B) (by
      have e1 : (zs.take l).length * B + (zs.drop l).length * B = ((lits (H := H) k (zs.take l)).length + (lits (H := H) k (zs.drop l)).length) * P.bytesOf e := by
        rw [hB, ← Nat.add_mul]; simp [lits]
      rw [e1]; simp [DataW.weights, hu])
    have e2 : (zs.take l).length = l := by rw [List.length_take]; omega
    rw [e2] at z
    have z2 : l * B ≤ 140737488351232 := Nat.le_trans (Nat.le_add_right _ _) z
    have z3 : l ≤ 140737488351232 := Nat.le_trans (Nat.le_mul_of_pos_right l hB0) z2
    have hrd : ReadsInt W k (some x) (zs.take l).length (zs.take l) := by
      rw [e2]
      refine ⟨by rw [e2], by omega, fun _ => ⟨x, rfl, fun j hj => ?_⟩⟩
      rw [hcell j (by omega), List.getD_eq_getElem?_getD, List.getD_eq_getElem?_getD, List.getElem?_take_of_lt hj]
    refine ⟨some x, c, zs.take l, by rw [e2], Kd.C_of_reads (d := (0 : Int)) (h1 := fun _ => rfl) hrd, by rw [e2]; exact hl, by rw [e2]; exact z3, fun y hy => hwz y (List.mem_of_mem_take hy), by rw [e2]; exact z2⟩

/-- what an argument may weigh -/
theorem each {ts : List TypeId} {ds : List (DataW H)} {j : Nat} {t : TypeId} {d : DataW H} (h : (DataW.weightsEach P ts ds).all (· ≤ reachBytes) = true) (ht : ts[j]? = some t) (hd : ds[j]? = some d) : ∀ m ∈ d.weights P t, m ≤ reachBytes := by
  intro m hm
  have := List.all_eq_true.1 h _ (DataW.weights_mem_each ht hd m hm)
  simpa using this

/-- a struct of two whole numbers and a row of whole numbers, opened -/
theorem open_pic {r : Reach} {b0 : Nat} {t e : TypeId} {f0 f1 f2 : Field} {k k0 k1 : IntKind} {B : Nat} {v : Value} {d : DataW H} {p : List MemPlace} (hs : P.underlying t = some (.struct #[f0, f1, f2])) (hone : oneCellFields P #[f0, f1, f2] = true) (hC : P.cellsOf t = 3)
    (u0 : P.underlying f0.type = some (.int k0)) (u1 : P.underlying f1.type = some (.int k1)) (hu : P.underlying f2.type = some (.slice e)) (he : P.underlying e = some (.int k)) (hc : P.cellsOf e = 1) (hB : P.bytesOf e = B) (hB0 : 0 < B)
    (hv : Value.okWide P W r b0 t v) (h : DataW.Trod enc P W base spare held t v d p) (hw : ∀ m ∈ d.weights P t, m ≤ reachBytes) :
    ∃ (a b : Int) (A : Option Addr) (c : Nat) (l : List Int), v = .agg #[.int k0 a, .int k1 b, .slice A l.length c] ∧ (Lit.int k0 a).wf = true ∧ (Lit.int k1 b).wf = true ∧ Kd.C (Kd.int k) W A l.length l ∧ l.length ≤ c ∧ l.length ≤ 140737488351232 ∧ (∀ x ∈ l, (Lit.int k x).wf = true) ∧ l.length * B ≤ 140737488351232 := by
  obtain ⟨v0, v1, v2, y0, y1, y2, n, rfl, rfl, rfl, h0, h1, h2⟩ := open_agg3 hs hone hC hv h
  obtain ⟨a, ha, _, wa⟩ := DataW.trod_int u0 h0
  obtain ⟨b, hb, _, wb⟩ := DataW.trod_int u1 h1
  obtain ⟨A, c, l, rfl, hr, hl, hl2, hwf, hB'⟩ := trod_ints hu he hc hB hB0 h2 (fun m hm => hw m (by
    simp only [DataW.weights, hs, List.map_cons, List.map_nil, DataW.weightsEach, List.mem_append]
    exact .inr (.inr (.inl hm))))
  simp only [List.cons.injEq, and_true] at ha hb
  subst ha hb
  exact ⟨a, b, A, c, l, rfl, wa, wb, hr, hl, hl2, hwf, hB'⟩

/-- a row of whole numbers for an argument, opened -/
theorem open_row {t e : TypeId} {k : IntKind} {r : Reach} {b0 : Nat} {B : Nat} {v : Value} {d : DataW H} {p : List MemPlace} (hu : P.underlying t = some (.slice e)) (he : P.underlying e = some (.int k)) (hc : P.cellsOf e = 1) (hB : P.bytesOf e = B) (hB0 : 0 < B)
    (hv : Value.okWide P W r b0 t v) (h : DataW.Trod enc P W base spare held t v d p) (hw : ∀ m ∈ d.weights P t, m ≤ reachBytes) :
    ∃ (A : Option Addr) (c : Nat) (l : List Int), v = .slice A l.length c ∧ Kd.C (Kd.int k) W A l.length l ∧ l.length ≤ c ∧ l.length ≤ 140737488351232 ∧ (∀ x ∈ l, (Lit.int k x).wf = true) ∧ l.length * B ≤ 140737488351232 := by
  obtain ⟨a, n, c, rfl⟩ := okWide_slice hu hv
  obtain ⟨fuel, hf⟩ := h
  exact trod_ints hu he hc hB hB0 (by simpa [Value.cells] using hf) hw
end Go.Proofs.Ytjonhedjfablbaa.Open
