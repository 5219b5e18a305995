/- A law's argument that is a desk (a picture, a matrix and a row of pictures, one struct within another): opened into its seven cells. -/
import Derived.Test.YtheihidfbalioaaOpen
namespace Go.Proofs.Ytheihidfbalioaa.Open
open Go.ChangeShapes Go.WideShapes Go.ChangeAt Go.Deep Go.RowKit Go.Joins Go.Proofs.YtheihidfbalioaaW.PrintWords
variable {H : Type} {enc : TypeId × Value → H} {P : Program} {W : World} {base : Nat} {spare : Nat → Bool} {held : Bool}
theorem open_desk {r : Reach} {b0 : Nat} {t : TypeId} {f0 f1 f2 : Field} {v : Value} {d : DataW H} {p : List MemPlace} (hs : P.underlying t = some (.struct #[f0, f1, f2])) (hC : P.cellsOf t = 7)
    (o0 : f0.offset = 0) (c0 : P.cellsOf f0.type = 3) (o1 : f1.offset = 3) (c1 : P.cellsOf f1.type = 3) (o2 : f2.offset = 6) (c2 : P.cellsOf f2.type = 1)
    (hv : Value.okWide P W r b0 t v) (h : DataW.Trod enc P W base spare held t v d p) (hw : ∀ m ∈ d.weights P t, m ≤ reachBytes) :
    ∃ (v0 v1 v2 v3 v4 v5 v6 : Value) (y0 y1 y2 : DataW H × List MemPlace) (n : Nat), v = .agg #[v0, v1, v2, v3, v4, v5, v6] ∧
      DataW.trod enc P W base spare held n f0.type [v0, v1, v2] = some y0 ∧ (∀ m ∈ y0.1.weights P f0.type, m ≤ reachBytes) ∧
      DataW.trod enc P W base spare held n f1.type [v3, v4, v5] = some y1 ∧ (∀ m ∈ y1.1.weights P f1.type, m ≤ reachBytes) ∧
      DataW.trod enc P W base spare held n f2.type [v6] = some y2 ∧ (∀ m ∈ y2.1.weights P f2.type, m ≤ reachBytes) := by
  obtain ⟨cs, rfl, hsz⟩ := okWide_struct hs hv
  obtain ⟨fuel, hf⟩ := h
  obtain ⟨y0, y1, y2, n, hx, _, h0, h1, h2⟩ := trod_struct3 hs hf
  rw [hC] at hsz
  obtain ⟨l⟩ := cs
  obtain ⟨v0, v1, v2, v3, v4, v5, v6, rfl⟩ : ∃ v0 v1 v2 v3 v4 v5 v6, l = [v0, v1, v2, v3, v4, v5, v6] := by
    match l, hsz with
    | [v0, v1, v2, v3, v4, v5, v6], _ => exact ⟨v0, v1, v2, v3, v4, v5, v6, rfl⟩
  simp only [Prod.mk.injEq] at hx
  obtain ⟨rfl, rfl⟩ := hx
  rw [o0, c0] at h0; rw [o1, c1] at h1; rw [o2, c2] at h2
  refine ⟨v0, v1, v2, v3, v4, v5, v6, y0, y1, y2, n, rfl, by simpa [Value.cells] using h0, fun m hm => hw m ?_, by simpa [Value.cells] using h1, fun m hm => hw m ?_, by simpa [Value.cells] using h2, fun m hm => hw m ?_⟩ <;>
    simp only [DataW.weights, hs, List.map_cons, List.map_nil, DataW.weightsEach, List.mem_append]
  · exact .inl hm
  · exact .inr (.inl hm)
  · exact .inr (.inr (.inl hm))
end Go.Proofs.Ytheihidfbalioaa.Open
