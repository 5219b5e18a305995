/- An element that is a struct of three whole numbers, opened. -/
import Derived.Test.YtnohdgbfgdnpfaaOpen
namespace Go.Proofs.Ytnohdgbfgdnpfaa.Open
open Go.ChangeShapes Go.WideShapes Go.ChangeAt Go.Deep Go.RowKit Go.Joins Go.Proofs.YtnohdgbfgdnpfaaW.PrintWords
variable {H : Type} {enc : TypeId × Value → H} {P : Program} {W : World} {base : Nat} {spare : Nat → Bool} {held : Bool}
theorem ints_el {t : TypeId} {f0 f1 f2 : Field} {k0 k1 k2 : IntKind} {n : Nat} {cs : List Value} {y : DataW H × List MemPlace} (hs : P.underlying t = some (.struct #[f0, f1, f2])) (hone : oneCellFields P #[f0, f1, f2] = true) (hC : P.cellsOf t = 3)
    (u0 : P.underlying f0.type = some (.int k0)) (u1 : P.underlying f1.type = some (.int k1)) (u2 : P.underlying f2.type = some (.int k2))
    (h : DataW.trod enc P W base spare held n t cs = some y) : ∃ (a b c : Int), cs = [.int k0 a, .int k1 b, .int k2 c] := by
  obtain ⟨y0, y1, y2, q, rfl, hlen, h0, h1, h2⟩ := trod_struct3 hs h
  rw [hC] at hlen
  obtain ⟨v0, v1, v2, rfl⟩ : ∃ v0 v1 v2, cs = [v0, v1, v2] := by
    match cs, hlen with
    | [v0, v1, v2], _ => exact ⟨v0, v1, v2, rfl⟩
  obtain ⟨o0, k0'⟩ := hone_of hone 0 f0 rfl
  obtain ⟨o1, k1'⟩ := hone_of hone 1 f1 rfl
  obtain ⟨o2, k2'⟩ := hone_of hone 2 f2 rfl
  rw [o0, k0'] at h0; rw [o1, k1'] at h1; rw [o2, k2'] at h2
  obtain ⟨a, ha, _, wa⟩ := DataW.trod_int u0 h0
  obtain ⟨b, hb, _, wb⟩ := DataW.trod_int u1 h1
  obtain ⟨c, hc, _, wc⟩ := DataW.trod_int u2 h2
  simp at ha hb hc
  subst ha hb hc
  exact ⟨a, b, c, rfl⟩
end Go.Proofs.Ytnohdgbfgdnpfaa.Open
