/- What a law's row needs of its arguments: a row of whole numbers, and a struct of two whole numbers and such a row, opened from the reading of the heap: the numbers in range, the row's elements, its length within the weight that an argument may have. -/
import Derived.Test.YtmahpennnnajcaaProg
import Derived.WalkKit
import Derived.ProofKit
import Derived.OpenShut
import Derived.ChangeOld
import Derived.Below
import Derived.SizedLaws
import Derived.Lib.SmallJoins
import Derived.Deep.Slices
import Derived.Deep.Strs
import Derived.Test.YtmahpennnnajcaaWWords
import Derived.Test.YtmahpennnnajcaaWSized
namespace Go.Proofs.Ytmahpennnnajcaa.Open
open Go.ChangeShapes Go.WideShapes Go.ChangeAt Go.Deep Go.RowKit Go.Joins Go.Proofs.YtmahpennnnajcaaW.PrintWords
variable {H : Type} {enc : TypeId × Value → H} {P : Program} {W : World} {base : Nat} {spare : Nat → Bool} {held : Bool}

/-- a row of whole numbers, opened -/
theorem trod_ints {t e : TypeId} {k : IntKind} {B n : Nat} {v : Value} {y : DataW H × List MemPlace} (hu : P.underlying t = some (.slice e)) (he : P.underlying e = some (.int k)) (hc : P.cellsOf e = 1) (hB : P.bytesOf e = B) (hB0 : 0 < B)
    (h : DataW.trod enc P W base spare held n t [v] = some y) (hs : ∀ m ∈ y.1.weights P t, m ≤ reachBytes) :
    ∃ (A : Option Addr) (c : Nat) (l : List Int), v = .slice A l.length c ∧ Kd.C (Kd.int k) W A l.length l ∧ l.length ≤ c ∧ l.length ≤ 140737488351232 ∧ (∀ x ∈ l, (Lit.int k x).wf = true) ∧ l.length * B ≤ 140737488351232 := by
  rcases open_ints hu he hc h with ⟨hcs, rfl⟩ | ⟨x, l, c, zs, hcs, _, hl, hm, hz, rfl, hcell, hwz⟩
  · simp only [List.cons.injEq, and_true] at hcs
    subst hcs
    exact ⟨none, 0, [], rfl, Kd.C_nil _ _, Nat.le_refl _, by simp, by simp, by simp⟩
  · simp only [List.cons.injEq, and_true] at hcs
    subst hcs
    have hl2 : l ≤ zs.length := by
      rw [hz]; split
      · exact hl
      · exact Nat.le_refl _
    have z := hs ((zs.take l).length * B + (zs.drop l).length * B) (by
      have e1 : (zs.take l).length * B + (zs.drop l).length * B = ((lits (H := H) k (zs.take l)).length + (lits (H := H) k (zs.drop l)).length) * P.bytesOf e := by
        rw [hB, ← Nat.add_mul]; simp [lits]
      rw [e1]; simp [DataW.weights, hu])
    have e2 : (zs.take l).length = l := by rw [List.length_take]; omega
    rw [e2] at z
    have z2 : l * B ≤ 140737488351232 := Nat.le_trans (Nat.le_add_right _ _) z
    have z3 : l ≤ 140737488351232 := Nat.le_trans (Nat.le_mul_of_pos_right l hB0) z2
    have hrd : ReadsInt W k (some x) (zs.take l).length (zs.take l) := by
      rw [e2]
      refine ⟨by rw [e2], by omega, fun _ => ⟨x, rfl, fun j hj => ?_⟩⟩
      rw [hcell j (by omega), List.getD_eq_getElem?_getD, List.getD_eq_getElem?_getD, List.getElem?_take_of_lt hj]
    refine ⟨some x, c, zs.take l, by rw [e2], Kd.C_of_reads (d := (0 : Int)) (h1 := fun _ => rfl) hrd, by rw [e2]; exact hl, by rw [e2]; exact z3, fun y hy => hwz y (List.mem_of_mem_take hy), by rw [e2]; exact z2⟩

/-- what an argument may weigh -/
theorem each {ts : List TypeId} {ds : List (DataW H)} {j : Nat} {t : TypeId} {d : DataW H} (h : (DataW.weightsEach P ts ds).all (· ≤ reachBytes) = true) (ht : ts[j]? = some t) (hd : ds[j]? = some d) : ∀ m ∈ d.weights P t, m ≤ reachBytes := by
  intro m hm
  have := List.all_eq_true.1 h _ (DataW.weights_mem_each ht hd m hm)
  simpa using this

/-- a struct of two whole numbers and a row of whole numbers, opened -/
theorem open_pic {r : Reach} {b0 : Nat} {t e : TypeId} {f0 f1 f2 : Field} {k k0 k1 : IntKind} {B : Nat} {v : Value} {d : DataW H} {p : List MemPlace} (hs : P.underlying t = some (.struct #[f0, f1, f2])) (hone : oneCellFields P #[f0, f1, f2] = true) (hC : P.cellsOf t = 3)
    (u0 : P.underlying f0.type = some (.int k0)) (u1 : P.underlying f1.type = some (.int k1)) (hu : P.underlying f2.type = some (.slice e)) (he : P.underlying e = some (.int k)) (hc : P.cellsOf e = 1) (hB : P.bytesOf e = B) (hB0 : 0 < B)
    (hv : Value.okWide P W r b0 t v) (h : DataW.Trod enc P W base spare held t v d p) (hw : ∀ m ∈ d.weights P t, m ≤ reachBytes) :
    ∃ (a b : Int) (A : Option Addr) (c : Nat) (l : List Int), v = .agg #[.int k0 a, .int k1 b, .slice A l.length c] ∧ (Lit.int k0 a).wf = true ∧ (Lit.int k1 b).wf = true ∧ Kd.C (Kd.int k) W A l.length l ∧ l.length ≤ c ∧ l.length ≤ 140737488351232 ∧ (∀ x ∈ l, (Lit.int k x).wf = true) ∧ l.length * B ≤ 140737488351232 := by
  obtain ⟨v0, v1, v2, y0, y1, y2, n, rfl, rfl, rfl, h0, h1, h2⟩ := open_agg3 hs hone hC hv h
  obtain ⟨a, ha, _, wa⟩ := DataW.trod_int u0 h0
  obtain ⟨b, hb, _, wb⟩ := DataW.trod_int u1 h1
  obtain ⟨A, c, l, rfl, hr, hl, hl2, hwf, hB'⟩ := trod_ints hu he hc hB hB0 h2 (fun m hm => hw m (by
    simp only [DataW.weights, hs, List.map_cons, List.map_nil, DataW.weightsEach, List.mem_append]
    exact .inr (.inr (.inl hm))))
  simp only [List.cons.injEq, and_true] at ha hb
  subst ha hb
  exact ⟨a, b, A, c, l, rfl, wa, wb, hr, hl, hl2, hwf, hB'⟩

/-- a row of whole numbers for an argument, opened -/
theorem open_row {t e : TypeId} {k : IntKind} {r : Reach} {b0 : Nat} {B : Nat} {v : Value} {d : DataW H} {p : List MemPlace} (hu : P.underlying t = some (.slice e)) (he : P.underlying e = some (.int k)) (hc : P.cellsOf e = 1) (hB : P.bytesOf e = B) (hB0 : 0 < B)
    (hv : Value.okWide P W r b0 t v) (h : DataW.Trod enc P W base spare held t v d p) (hw : ∀ m ∈ d.weights P t, m ≤ reachBytes) :
    ∃ (A : Option Addr) (c : Nat) (l : List Int), v = .slice A l.length c ∧ Kd.C (Kd.int k) W A l.length l ∧ l.length ≤ c ∧ l.length ≤ 140737488351232 ∧ (∀ x ∈ l, (Lit.int k x).wf = true) ∧ l.length * B ≤ 140737488351232 := by
  obtain ⟨a, n, c, rfl⟩ := okWide_slice hu hv
  obtain ⟨fuel, hf⟩ := h
  exact trod_ints hu he hc hB hB0 (by simpa [Value.cells] using hf) hw

theorem weights_all {e : TypeId} : ∀ {ds : List (DataW H)} {d : DataW H}, d ∈ ds → ∀ m ∈ d.weights P e, m ∈ DataW.weightsAll P e ds
  | [], _, h => by simp at h
  | d0 :: ds, d, h => by
    intro m hm
    simp only [DataW.weightsAll, List.mem_append]
    rcases List.mem_cons.mp h with e1 | e1
    · subst e1; exact .inl hm
    · exact .inr (weights_all e1 m hm)

theorem add_two (a : Addr) (i j : Nat) : a.add (i + j) = (a.add i).add j := by
  unfold Addr.add
  by_cases h1 : i = 0 <;> by_cases h2 : j = 0 <;> simp [h1, h2, Nat.add_assoc]
theorem choose_list {α : Type} {n : Nat} {p : Nat → α → Prop} (h : ∀ i, i < n → ∃ x, p i x) : n = 0 ∨ ∃ X : Nat → α, ∀ i, i < n → p i (X i) := by
  by_cases hn : n = 0
  · exact .inl hn
  · obtain ⟨x0, _⟩ := h 0 (by omega)
    have h' : ∀ i, ∃ x, i < n → p i x := by
      intro i
      by_cases hi : i < n
      · obtain ⟨x, hx⟩ := h i hi; exact ⟨x, fun _ => hx⟩
      · exact ⟨x0, fun h => absurd h hi⟩
    exact .inr ⟨fun i => Classical.choose (h' i), fun i hi => Classical.choose_spec (h' i) hi⟩

/-- a row of records, opened: each element by 'hel' -/
theorem trod_rows {α : Type} (d : Kd α) {t e : TypeId} {B n : Nat} {v : Value} {y : DataW H × List MemPlace} (Q : α → Prop) (hu : P.underlying t = some (.slice e)) (hc : P.cellsOf e = d.sz) (hB : P.bytesOf e = B) (hB0 : 0 < B)
    (hel : ∀ (n : Nat) (cs : List Value) (y : DataW H × List MemPlace), DataW.trod enc P W base spare held n e cs = some y → (∀ m ∈ y.1.weights P e, m ≤ reachBytes) → ∃ x : α, Q x ∧ d.K W x cs)
    (h : DataW.trod enc P W base spare held n t [v] = some y) (hs : ∀ m ∈ y.1.weights P t, m ≤ reachBytes) :
    ∃ (A : Option Addr) (c : Nat) (l : List α), v = .slice A l.length c ∧ Kd.C d W A l.length l ∧ l.length ≤ c ∧ l.length ≤ 140737488351232 ∧ (∀ x ∈ l, Q x) ∧ l.length * B ≤ 140737488351232 := by
  rcases open_slice hu h with ⟨hcs, rfl⟩ | ⟨a, len, cap, m, k, D, Pl, hcs, _, hl, _, hmm, rfl, hx⟩
  · simp only [List.cons.injEq, and_true] at hcs
    subst hcs
    exact ⟨none, 0, [], rfl, ⟨rfl, by simp, fun h => absurd h (by simp)⟩, Nat.le_refl _, by simp, by simp, by simp⟩
  · simp only [List.cons.injEq, and_true] at hcs
    subst hcs
    have hlm : len ≤ m := by rw [hmm]; split <;> omega
    have z := hs ((len + (m - len)) * B) (by simp [DataW.weights, hu, hB])
    have z2 : len * B ≤ 140737488351232 := Nat.le_trans (Nat.mul_le_mul_right _ (Nat.le_add_right _ _)) z
    have z3 : len ≤ 140737488351232 := Nat.le_trans (Nat.le_mul_of_pos_right len hB0) z2
    have each : ∀ i, i < len → ∃ x : α, Q x ∧ ∃ cs : List Value, cs.length = d.sz ∧ d.K W x cs ∧ ∀ j u, cs[j]? = some u → W.cell? (a.add (i * d.sz + j)) = some u := by
      intro i hi
      obtain ⟨cs, h1, h2⟩ := hx i (by omega)
      obtain ⟨x, hQ, hK⟩ := hel k cs _ h2 (fun q hq => hs q (by
        simp only [DataW.weights, hu, List.mem_cons, List.mem_append]
        exact .inr (.inl (weights_all (List.mem_map.mpr ⟨i, List.mem_range.mpr hi, rfl⟩) q hq))))
      rw [hc] at h1
      obtain ⟨_, hlen, hcell⟩ := World.cells?_some h1
      refine ⟨x, hQ, cs, hlen, hK, fun j u hj => ?_⟩
      have hj2 : j < d.sz := by rw [← hlen]; exact (List.getElem?_eq_some_iff.mp hj).1
      have := hcell j hj2
      rw [hj] at this
      rw [add_two]; exact this
    rcases choose_list each with h0 | ⟨X, hX⟩
    · subst h0
      exact ⟨some a, cap, [], rfl, ⟨rfl, by simp, fun h => absurd h (by simp)⟩, hl, by simp, by simp, by simp⟩
    have hlen : ((List.range len).map X).length = len := by simp
    refine ⟨some a, cap, (List.range len).map X, by rw [hlen], ⟨rfl, by rw [hlen]; omega, fun _ => ⟨a, rfl, fun j p hp => ?_⟩⟩, by rw [hlen]; exact hl, by rw [hlen]; exact z3, ?_, by rw [hlen]; exact z2⟩
    · have hj : j < len := by have := (List.getElem?_eq_some_iff.mp hp).1; rwa [hlen] at this
      rw [List.getElem?_map, List.getElem?_range hj] at hp
      injection hp with hp; subst hp
      exact (hX j hj).2
    · intro x hx'
      obtain ⟨i, hi, rfl⟩ := List.mem_map.mp hx'
      exact (hX i (List.mem_range.mp hi)).1

/-- an element that is a struct of two whole numbers and a row of whole numbers -/
theorem pic_el {t e : TypeId} {f0 f1 f2 : Field} {k k0 k1 : IntKind} {B n : Nat} {cs : List Value} {y : DataW H × List MemPlace} (hs : P.underlying t = some (.struct #[f0, f1, f2])) (hone : oneCellFields P #[f0, f1, f2] = true) (hC : P.cellsOf t = 3)
    (u0 : P.underlying f0.type = some (.int k0)) (u1 : P.underlying f1.type = some (.int k1)) (hu : P.underlying f2.type = some (.slice e)) (he : P.underlying e = some (.int k)) (hc : P.cellsOf e = 1) (hB : P.bytesOf e = B) (hB0 : 0 < B)
    (h : DataW.trod enc P W base spare held n t cs = some y) (hw : ∀ m ∈ y.1.weights P t, m ≤ reachBytes) :
    ∃ (a b : Int) (A : Option Addr) (c : Nat) (l : List Int), cs = [.int k0 a, .int k1 b, .slice A l.length c] ∧ (Lit.int k0 a).wf = true ∧ (Lit.int k1 b).wf = true ∧ Kd.C (Kd.int k) W A l.length l ∧ l.length ≤ c ∧ l.length ≤ 140737488351232 ∧ (∀ x ∈ l, (Lit.int k x).wf = true) ∧ l.length * B ≤ 140737488351232 := by
  obtain ⟨y0, y1, y2, q, rfl, hlen, h0, h1, h2⟩ := trod_struct3 hs h
  rw [hC] at hlen
  obtain ⟨v0, v1, v2, rfl⟩ : ∃ v0 v1 v2, cs = [v0, v1, v2] := by
    match cs, hlen with
    | [v0, v1, v2], _ => exact ⟨v0, v1, v2, rfl⟩
  obtain ⟨o0, k0'⟩ := hone_of hone 0 f0 rfl
  obtain ⟨o1, k1'⟩ := hone_of hone 1 f1 rfl
  obtain ⟨o2, k2'⟩ := hone_of hone 2 f2 rfl
  rw [o0, k0'] at h0; rw [o1, k1'] at h1; rw [o2, k2'] at h2
  obtain ⟨a, ha, _, wa⟩ := DataW.trod_int u0 h0
  obtain ⟨b, hb, _, wb⟩ := DataW.trod_int u1 h1
  obtain ⟨A, c, l, e2, hr, hl, hl2, hwf, hB'⟩ := trod_ints hu he hc hB hB0 (v := v2) (by simpa using h2) (fun m hm => hw m (by
    simp only [DataW.weights, hs, List.map_cons, List.map_nil, DataW.weightsEach, List.mem_append]
    exact .inr (.inr (.inl hm))))
  simp at ha hb
  subst ha hb e2
  exact ⟨a, b, A, c, l, rfl, wa, wb, hr, hl, hl2, hwf, hB'⟩

/-- a row of records for an argument, opened -/
theorem open_rows {α : Type} (d : Kd α) {t e : TypeId} {r : Reach} {b0 : Nat} {B : Nat} {v : Value} {x : DataW H} {p : List MemPlace} (Q : α → Prop) (hu : P.underlying t = some (.slice e)) (hc : P.cellsOf e = d.sz) (hB : P.bytesOf e = B) (hB0 : 0 < B)
    (hv : Value.okWide P W r b0 t v) (h : DataW.Trod enc P W base spare held t v x p) (hw : ∀ m ∈ x.weights P t, m ≤ reachBytes)
    (hel : ∀ (n : Nat) (cs : List Value) (y : DataW H × List MemPlace), DataW.trod enc P W base spare held n e cs = some y → (∀ m ∈ y.1.weights P e, m ≤ reachBytes) → ∃ x : α, Q x ∧ d.K W x cs) :
    ∃ (A : Option Addr) (c : Nat) (l : List α), v = .slice A l.length c ∧ Kd.C d W A l.length l ∧ l.length ≤ c ∧ l.length ≤ 140737488351232 ∧ (∀ x ∈ l, Q x) ∧ l.length * B ≤ 140737488351232 := by
  obtain ⟨a, n, c, rfl⟩ := okWide_slice hu hv
  obtain ⟨fuel, hf⟩ := h
  exact trod_rows d Q hu hc hB hB0 hel (by simpa [Value.cells] using hf) hw
end Go.Proofs.Ytmahpennnnajcaa.Open
