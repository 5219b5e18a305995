/-
  No cell of these rows narrows 'for every input' (looked for: loops, veiled, ifaces, maps, wideKeys, modest, calm, conditions, laid).
  DERIVED. THE GIVEN ROWS OF THIS SEAT. 13 by the template 'for every input the law returns true; each argument reads behind the call as it read before'; 0 by the template 'total and deterministic' (their statements: YtabciloabpmklaaTotals.lean).
  GIVEN WITH THE SEED: the statements are not yours to turn. If you find one false, say at which input.
  Laid BY PROGRAM, IN A SANDBOX (cutbox-rows.mjs): the forced cells as the released guide's own fill.sh prints them over the translation 4bc1d0a7eb580276… (all of the seat's roots in one cut). By AI agents, Wed Nov 11 2026. No macro, syntax, notation, axiom, sorry.
-/
import Derived.Test.YtabciloabpmklaaChecked
import GoSem.Claim
import GoSem.ClaimJoined
import GoSem.ClaimMapViews
import Derived.JoinedTies
import Derived.KernelRfl
namespace Go.Proofs.Ytabciloabpmklaa
/- THE CELL 'sum', in the pinned program and in every row, IS THE sha256 OF THE DUMP (.gsa) THAT YtabciloabpmklaaProg.lean LOADS. Nothing in Lean hashes anything: it is a label: what it is worth is what the hold of that sum in a sandbox is worth. -/
noncomputable def Try.pinned : Pinned := { name := "ytabciloabpmklaa", sum := "4bc1d0a7eb580276e37927687a986e12a60d6a7ebd4586966b5605dc003a994c", checked := Try.checked }
namespace Rows
def none {H : Type} : Left H := { results := [], args := [] }

/-- 'laws.FnExactIsLattice': WHATEVER THE INPUT: true; the input reads as it did. -/
def fnExactIsLatticeSpec : ChangeSpec := { name := "fnExactIsLattice", fn := fun _ => fun
  | [d] => { results := [.lit (.bool true)], args := [d] }
  | _ => none }
def fnExactIsLatticeRow : OpenClaim := { program := "ytabciloabpmklaa", sum := "4bc1d0a7eb580276e37927687a986e12a60d6a7ebd4586966b5605dc003a994c", func := "loop.example/g03229/laws.FnExactIsLattice", spec := "fnExactIsLattice", apart := false }
def FnExactIsLatticeSaid : Prop := fnExactIsLatticeRow.holds Try.pinned (OpenSpec.ofChange fnExactIsLatticeSpec)

/-- ITS FALSE NEIGHBOUR: 'it returns false'. Refute it at one input. -/
def fnExactIsLatticeWrong : ChangeSpec := { name := "fnExactIsLattice", fn := fun _ => fun
  | [d] => { results := [.lit (.bool false)], args := [d] }
  | _ => none }
def FnExactIsLatticeWrongFalsely : Prop := fnExactIsLatticeRow.holds Try.pinned (OpenSpec.ofChange fnExactIsLatticeWrong)

/-- 'laws.FnExactAreaOf': WHATEVER THE INPUT: true; the input reads as it did. -/
def fnExactAreaOfSpec : ChangeSpec := { name := "fnExactAreaOf", fn := fun _ => fun
  | [d] => { results := [.lit (.bool true)], args := [d] }
  | _ => none }
def fnExactAreaOfRow : OpenClaim := { program := "ytabciloabpmklaa", sum := "4bc1d0a7eb580276e37927687a986e12a60d6a7ebd4586966b5605dc003a994c", func := "loop.example/g03229/laws.FnExactAreaOf", spec := "fnExactAreaOf", apart := false }
def FnExactAreaOfSaid : Prop := fnExactAreaOfRow.holds Try.pinned (OpenSpec.ofChange fnExactAreaOfSpec)

/-- ITS FALSE NEIGHBOUR: 'it returns false'. Refute it at one input. -/
def fnExactAreaOfWrong : ChangeSpec := { name := "fnExactAreaOf", fn := fun _ => fun
  | [d] => { results := [.lit (.bool false)], args := [d] }
  | _ => none }
def FnExactAreaOfWrongFalsely : Prop := fnExactAreaOfRow.holds Try.pinned (OpenSpec.ofChange fnExactAreaOfWrong)

/-- 'laws.FnExactTurnedLattice': WHATEVER THE INPUT: true; the input reads as it did. -/
def fnExactTurnedLatticeSpec : ChangeSpec := { name := "fnExactTurnedLattice", fn := fun _ => fun
  | [d] => { results := [.lit (.bool true)], args := [d] }
  | _ => none }
def fnExactTurnedLatticeRow : OpenClaim := { program := "ytabciloabpmklaa", sum := "4bc1d0a7eb580276e37927687a986e12a60d6a7ebd4586966b5605dc003a994c", func := "loop.example/g03229/laws.FnExactTurnedLattice", spec := "fnExactTurnedLattice", apart := false }
def FnExactTurnedLatticeSaid : Prop := fnExactTurnedLatticeRow.holds Try.pinned (OpenSpec.ofChange fnExactTurnedLatticeSpec)

/-- ITS FALSE NEIGHBOUR: 'it returns false'. Refute it at one input. -/
def fnExactTurnedLatticeWrong : ChangeSpec := { name := "fnExactTurnedLattice", fn := fun _ => fun
  | [d] => { results := [.lit (.bool false)], args := [d] }
  | _ => none }
def FnExactTurnedLatticeWrongFalsely : Prop := fnExactTurnedLatticeRow.holds Try.pinned (OpenSpec.ofChange fnExactTurnedLatticeWrong)

/-- 'laws.FnExactHasPoint': WHATEVER THE INPUT: true; the input reads as it did. -/
def fnExactHasPointSpec : ChangeSpec := { name := "fnExactHasPoint", fn := fun _ => fun
  | [d1, d2, d3] => { results := [.lit (.bool true)], args := [d1, d2, d3] }
  | _ => none }
def fnExactHasPointRow : OpenClaim := { program := "ytabciloabpmklaa", sum := "4bc1d0a7eb580276e37927687a986e12a60d6a7ebd4586966b5605dc003a994c", func := "loop.example/g03229/laws.FnExactHasPoint", spec := "fnExactHasPoint", apart := false }
def FnExactHasPointSaid : Prop := fnExactHasPointRow.holds Try.pinned (OpenSpec.ofChange fnExactHasPointSpec)

/-- ITS FALSE NEIGHBOUR: 'it returns false'. Refute it at one input. -/
def fnExactHasPointWrong : ChangeSpec := { name := "fnExactHasPoint", fn := fun _ => fun
  | [d1, d2, d3] => { results := [.lit (.bool false)], args := [d1, d2, d3] }
  | _ => none }
def FnExactHasPointWrongFalsely : Prop := fnExactHasPointRow.holds Try.pinned (OpenSpec.ofChange fnExactHasPointWrong)

/-- 'laws.FnExactPointOf': WHATEVER THE INPUT: true; the input reads as it did. -/
def fnExactPointOfSpec : ChangeSpec := { name := "fnExactPointOf", fn := fun _ => fun
  | [d1, d2] => { results := [.lit (.bool true)], args := [d1, d2] }
  | _ => none }
def fnExactPointOfRow : OpenClaim := { program := "ytabciloabpmklaa", sum := "4bc1d0a7eb580276e37927687a986e12a60d6a7ebd4586966b5605dc003a994c", func := "loop.example/g03229/laws.FnExactPointOf", spec := "fnExactPointOf", apart := false }
def FnExactPointOfSaid : Prop := fnExactPointOfRow.holds Try.pinned (OpenSpec.ofChange fnExactPointOfSpec)

/-- ITS FALSE NEIGHBOUR: 'it returns false'. Refute it at one input. -/
def fnExactPointOfWrong : ChangeSpec := { name := "fnExactPointOf", fn := fun _ => fun
  | [d1, d2] => { results := [.lit (.bool false)], args := [d1, d2] }
  | _ => none }
def FnExactPointOfWrongFalsely : Prop := fnExactPointOfRow.holds Try.pinned (OpenSpec.ofChange fnExactPointOfWrong)

/-- 'laws.FnExactPeriodOf': WHATEVER THE INPUT: true; the input reads as it did. -/
def fnExactPeriodOfSpec : ChangeSpec := { name := "fnExactPeriodOf", fn := fun _ => fun
  | [d] => { results := [.lit (.bool true)], args := [d] }
  | _ => none }
def fnExactPeriodOfRow : OpenClaim := { program := "ytabciloabpmklaa", sum := "4bc1d0a7eb580276e37927687a986e12a60d6a7ebd4586966b5605dc003a994c", func := "loop.example/g03229/laws.FnExactPeriodOf", spec := "fnExactPeriodOf", apart := false }
def FnExactPeriodOfSaid : Prop := fnExactPeriodOfRow.holds Try.pinned (OpenSpec.ofChange fnExactPeriodOfSpec)

/-- ITS FALSE NEIGHBOUR: 'it returns false'. Refute it at one input. -/
def fnExactPeriodOfWrong : ChangeSpec := { name := "fnExactPeriodOf", fn := fun _ => fun
  | [d] => { results := [.lit (.bool false)], args := [d] }
  | _ => none }
def FnExactPeriodOfWrongFalsely : Prop := fnExactPeriodOfRow.holds Try.pinned (OpenSpec.ofChange fnExactPeriodOfWrong)

/-- 'laws.FnExactNameOf': WHATEVER THE INPUT: true; the input reads as it did. -/
def fnExactNameOfSpec : ChangeSpec := { name := "fnExactNameOf", fn := fun _ => fun
  | [d1, d2, d3] => { results := [.lit (.bool true)], args := [d1, d2, d3] }
  | _ => none }
def fnExactNameOfRow : OpenClaim := { program := "ytabciloabpmklaa", sum := "4bc1d0a7eb580276e37927687a986e12a60d6a7ebd4586966b5605dc003a994c", func := "loop.example/g03229/laws.FnExactNameOf", spec := "fnExactNameOf", apart := false }
def FnExactNameOfSaid : Prop := fnExactNameOfRow.holds Try.pinned (OpenSpec.ofChange fnExactNameOfSpec)

/-- ITS FALSE NEIGHBOUR: 'it returns false'. Refute it at one input. -/
def fnExactNameOfWrong : ChangeSpec := { name := "fnExactNameOf", fn := fun _ => fun
  | [d1, d2, d3] => { results := [.lit (.bool false)], args := [d1, d2, d3] }
  | _ => none }
def FnExactNameOfWrongFalsely : Prop := fnExactNameOfRow.holds Try.pinned (OpenSpec.ofChange fnExactNameOfWrong)

/-- 'laws.FnExchanged': WHATEVER THE INPUT: true; the input reads as it did. -/
def fnExchangedSpec : ChangeSpec := { name := "fnExchanged", fn := fun _ => fun
  | [d] => { results := [.lit (.bool true)], args := [d] }
  | _ => none }
def fnExchangedRow : OpenClaim := { program := "ytabciloabpmklaa", sum := "4bc1d0a7eb580276e37927687a986e12a60d6a7ebd4586966b5605dc003a994c", func := "loop.example/g03229/laws.FnExchanged", spec := "fnExchanged", apart := false }
def FnExchangedSaid : Prop := fnExchangedRow.holds Try.pinned (OpenSpec.ofChange fnExchangedSpec)

/-- ITS FALSE NEIGHBOUR: 'it returns false'. Refute it at one input. -/
def fnExchangedWrong : ChangeSpec := { name := "fnExchanged", fn := fun _ => fun
  | [d] => { results := [.lit (.bool false)], args := [d] }
  | _ => none }
def FnExchangedWrongFalsely : Prop := fnExchangedRow.holds Try.pinned (OpenSpec.ofChange fnExchangedWrong)

/-- 'laws.FnLattice': WHATEVER THE INPUT: true; the input reads as it did. -/
def fnLatticeSpec : ChangeSpec := { name := "fnLattice", fn := fun _ => fun
  | [d] => { results := [.lit (.bool true)], args := [d] }
  | _ => none }
def fnLatticeRow : OpenClaim := { program := "ytabciloabpmklaa", sum := "4bc1d0a7eb580276e37927687a986e12a60d6a7ebd4586966b5605dc003a994c", func := "loop.example/g03229/laws.FnLattice", spec := "fnLattice", apart := false }
def FnLatticeSaid : Prop := fnLatticeRow.holds Try.pinned (OpenSpec.ofChange fnLatticeSpec)

/-- ITS FALSE NEIGHBOUR: 'it returns false'. Refute it at one input. -/
def fnLatticeWrong : ChangeSpec := { name := "fnLattice", fn := fun _ => fun
  | [d] => { results := [.lit (.bool false)], args := [d] }
  | _ => none }
def FnLatticeWrongFalsely : Prop := fnLatticeRow.holds Try.pinned (OpenSpec.ofChange fnLatticeWrong)

/-- 'laws.FnExactNearOf': WHATEVER THE INPUT: true; the input reads as it did. -/
def fnExactNearOfSpec : ChangeSpec := { name := "fnExactNearOf", fn := fun _ => fun
  | [d1, d2] => { results := [.lit (.bool true)], args := [d1, d2] }
  | _ => none }
def fnExactNearOfRow : OpenClaim := { program := "ytabciloabpmklaa", sum := "4bc1d0a7eb580276e37927687a986e12a60d6a7ebd4586966b5605dc003a994c", func := "loop.example/g03229/laws.FnExactNearOf", spec := "fnExactNearOf", apart := false }
def FnExactNearOfSaid : Prop := fnExactNearOfRow.holds Try.pinned (OpenSpec.ofChange fnExactNearOfSpec)

/-- ITS FALSE NEIGHBOUR: 'it returns false'. Refute it at one input. -/
def fnExactNearOfWrong : ChangeSpec := { name := "fnExactNearOf", fn := fun _ => fun
  | [d1, d2] => { results := [.lit (.bool false)], args := [d1, d2] }
  | _ => none }
def FnExactNearOfWrongFalsely : Prop := fnExactNearOfRow.holds Try.pinned (OpenSpec.ofChange fnExactNearOfWrong)

/-- 'laws.FnNames': WHATEVER THE INPUT: true; the input reads as it did. -/
def fnNamesSpec : ChangeSpec := { name := "fnNames", fn := fun _ => fun
  | [d] => { results := [.lit (.bool true)], args := [d] }
  | _ => none }
def fnNamesRow : OpenClaim := { program := "ytabciloabpmklaa", sum := "4bc1d0a7eb580276e37927687a986e12a60d6a7ebd4586966b5605dc003a994c", func := "loop.example/g03229/laws.FnNames", spec := "fnNames", apart := false }
def FnNamesSaid : Prop := fnNamesRow.holds Try.pinned (OpenSpec.ofChange fnNamesSpec)

/-- ITS FALSE NEIGHBOUR: 'it returns false'. Refute it at one input. -/
def fnNamesWrong : ChangeSpec := { name := "fnNames", fn := fun _ => fun
  | [d] => { results := [.lit (.bool false)], args := [d] }
  | _ => none }
def FnNamesWrongFalsely : Prop := fnNamesRow.holds Try.pinned (OpenSpec.ofChange fnNamesWrong)

/-- 'laws.FnExactTurnName': WHATEVER THE INPUT: true; the input reads as it did. -/
def fnExactTurnNameSpec : ChangeSpec := { name := "fnExactTurnName", fn := fun _ => fun
  | [d1, d2] => { results := [.lit (.bool true)], args := [d1, d2] }
  | _ => none }
def fnExactTurnNameRow : OpenClaim := { program := "ytabciloabpmklaa", sum := "4bc1d0a7eb580276e37927687a986e12a60d6a7ebd4586966b5605dc003a994c", func := "loop.example/g03229/laws.FnExactTurnName", spec := "fnExactTurnName", apart := false }
def FnExactTurnNameSaid : Prop := fnExactTurnNameRow.holds Try.pinned (OpenSpec.ofChange fnExactTurnNameSpec)

/-- ITS FALSE NEIGHBOUR: 'it returns false'. Refute it at one input. -/
def fnExactTurnNameWrong : ChangeSpec := { name := "fnExactTurnName", fn := fun _ => fun
  | [d1, d2] => { results := [.lit (.bool false)], args := [d1, d2] }
  | _ => none }
def FnExactTurnNameWrongFalsely : Prop := fnExactTurnNameRow.holds Try.pinned (OpenSpec.ofChange fnExactTurnNameWrong)

/-- 'laws.FnTurnedSpots': WHATEVER THE INPUT: true; the input reads as it did. -/
def fnTurnedSpotsSpec : ChangeSpec := { name := "fnTurnedSpots", fn := fun _ => fun
  | [d] => { results := [.lit (.bool true)], args := [d] }
  | _ => none }
def fnTurnedSpotsRow : OpenClaim := { program := "ytabciloabpmklaa", sum := "4bc1d0a7eb580276e37927687a986e12a60d6a7ebd4586966b5605dc003a994c", func := "loop.example/g03229/laws.FnTurnedSpots", spec := "fnTurnedSpots", apart := false }
def FnTurnedSpotsSaid : Prop := fnTurnedSpotsRow.holds Try.pinned (OpenSpec.ofChange fnTurnedSpotsSpec)

/-- ITS FALSE NEIGHBOUR: 'it returns false'. Refute it at one input. -/
def fnTurnedSpotsWrong : ChangeSpec := { name := "fnTurnedSpots", fn := fun _ => fun
  | [d] => { results := [.lit (.bool false)], args := [d] }
  | _ => none }
def FnTurnedSpotsWrongFalsely : Prop := fnTurnedSpotsRow.holds Try.pinned (OpenSpec.ofChange fnTurnedSpotsWrong)

/- THE SECOND FORM. 'bulk': how many values and letters a reading holds, each counted each time it is reached (what is shared counts as often as it is met; a slice's spare places count too). A statement '..UptoSaid' is the law's where the arguments, and the package variables that the reading takes, are together of bulk at most 1048576: NARROWER than '..Said'. Prove '..Said' where nothing that the law and all that it calls make is longer than what came in: it says more and counts as full. Else prove '..UptoSaid'. A law counts once. -/
mutual
def uptoBulk {H : Type} : DataW H → Nat
  | .lit (.string bytes) => bytes.length + 1
  | .lit _ => 1
  | .nil => 1
  | .ptr d => uptoBulk d + 1
  | .slice elems spare => uptoBulkAll elems + uptoBulkAll spare + 1
  | .agg parts => uptoBulkAll parts + 1
  | .iface _ d => uptoBulk d + 1
  | .map entries => uptoBulkEntries entries + 1
  | .held _ => 1
def uptoBulkAll {H : Type} : List (DataW H) → Nat
  | [] => 0
  | d :: r => uptoBulk d + uptoBulkAll r
def uptoBulkEntries {H : Type} : List (Lit × DataW H) → Nat
  | [] => 0
  | x :: r => uptoBulkEntry x + uptoBulkEntries r
def uptoBulkEntry {H : Type} : Lit × DataW H → Nat
  | (.string bytes, d) => bytes.length + uptoBulk d + 1
  | (_, d) => uptoBulk d + 1
 end
def uptoSmall : (H : Type) → List (DataW H) → Bool := fun _ ds => decide (uptoBulkAll ds ≤ 1048576)
def OpenSpec.upto (s : _root_.Go.ChangeSpec) : _root_.Go.OpenSpec := { _root_.Go.OpenSpec.ofChange s with cond := some uptoSmall }

/-- 'laws.FnExactIsLattice', WHERE WHAT IT READS IS OF BULK AT MOST 1048576: true; the input reads as it did. -/
def fnExactIsLatticeUptoRow : OpenClaim := { program := "ytabciloabpmklaa", sum := "4bc1d0a7eb580276e37927687a986e12a60d6a7ebd4586966b5605dc003a994c", func := "loop.example/g03229/laws.FnExactIsLattice", spec := "fnExactIsLattice", apart := false, narrowed := true }
def FnExactIsLatticeUptoSaid : Prop := fnExactIsLatticeUptoRow.holds Try.pinned (OpenSpec.upto fnExactIsLatticeSpec)

/-- 'laws.FnExactAreaOf', WHERE WHAT IT READS IS OF BULK AT MOST 1048576: true; the input reads as it did. -/
def fnExactAreaOfUptoRow : OpenClaim := { program := "ytabciloabpmklaa", sum := "4bc1d0a7eb580276e37927687a986e12a60d6a7ebd4586966b5605dc003a994c", func := "loop.example/g03229/laws.FnExactAreaOf", spec := "fnExactAreaOf", apart := false, narrowed := true }
def FnExactAreaOfUptoSaid : Prop := fnExactAreaOfUptoRow.holds Try.pinned (OpenSpec.upto fnExactAreaOfSpec)

/-- 'laws.FnExactTurnedLattice', WHERE WHAT IT READS IS OF BULK AT MOST 1048576: true; the input reads as it did. -/
def fnExactTurnedLatticeUptoRow : OpenClaim := { program := "ytabciloabpmklaa", sum := "4bc1d0a7eb580276e37927687a986e12a60d6a7ebd4586966b5605dc003a994c", func := "loop.example/g03229/laws.FnExactTurnedLattice", spec := "fnExactTurnedLattice", apart := false, narrowed := true }
def FnExactTurnedLatticeUptoSaid : Prop := fnExactTurnedLatticeUptoRow.holds Try.pinned (OpenSpec.upto fnExactTurnedLatticeSpec)

/-- 'laws.FnExactHasPoint', WHERE WHAT IT READS IS OF BULK AT MOST 1048576: true; the input reads as it did. -/
def fnExactHasPointUptoRow : OpenClaim := { program := "ytabciloabpmklaa", sum := "4bc1d0a7eb580276e37927687a986e12a60d6a7ebd4586966b5605dc003a994c", func := "loop.example/g03229/laws.FnExactHasPoint", spec := "fnExactHasPoint", apart := false, narrowed := true }
def FnExactHasPointUptoSaid : Prop := fnExactHasPointUptoRow.holds Try.pinned (OpenSpec.upto fnExactHasPointSpec)

/-- 'laws.FnExactPointOf', WHERE WHAT IT READS IS OF BULK AT MOST 1048576: true; the input reads as it did. -/
def fnExactPointOfUptoRow : OpenClaim := { program := "ytabciloabpmklaa", sum := "4bc1d0a7eb580276e37927687a986e12a60d6a7ebd4586966b5605dc003a994c", func := "loop.example/g03229/laws.FnExactPointOf", spec := "fnExactPointOf", apart := false, narrowed := true }
def FnExactPointOfUptoSaid : Prop := fnExactPointOfUptoRow.holds Try.pinned (OpenSpec.upto fnExactPointOfSpec)

/-- 'laws.FnExactPeriodOf', WHERE WHAT IT READS IS OF BULK AT MOST 1048576: true; the input reads as it did. -/
def fnExactPeriodOfUptoRow : OpenClaim := { program := "ytabciloabpmklaa", sum := "4bc1d0a7eb580276e37927687a986e12a60d6a7ebd4586966b5605dc003a994c", func := "loop.example/g03229/laws.FnExactPeriodOf", spec := "fnExactPeriodOf", apart := false, narrowed := true }
def FnExactPeriodOfUptoSaid : Prop := fnExactPeriodOfUptoRow.holds Try.pinned (OpenSpec.upto fnExactPeriodOfSpec)

/-- 'laws.FnExactNameOf', WHERE WHAT IT READS IS OF BULK AT MOST 1048576: true; the input reads as it did. -/
def fnExactNameOfUptoRow : OpenClaim := { program := "ytabciloabpmklaa", sum := "4bc1d0a7eb580276e37927687a986e12a60d6a7ebd4586966b5605dc003a994c", func := "loop.example/g03229/laws.FnExactNameOf", spec := "fnExactNameOf", apart := false, narrowed := true }
def FnExactNameOfUptoSaid : Prop := fnExactNameOfUptoRow.holds Try.pinned (OpenSpec.upto fnExactNameOfSpec)

/-- 'laws.FnExchanged', WHERE WHAT IT READS IS OF BULK AT MOST 1048576: true; the input reads as it did. -/
def fnExchangedUptoRow : OpenClaim := { program := "ytabciloabpmklaa", sum := "4bc1d0a7eb580276e37927687a986e12a60d6a7ebd4586966b5605dc003a994c", func := "loop.example/g03229/laws.FnExchanged", spec := "fnExchanged", apart := false, narrowed := true }
def FnExchangedUptoSaid : Prop := fnExchangedUptoRow.holds Try.pinned (OpenSpec.upto fnExchangedSpec)

/-- 'laws.FnLattice', WHERE WHAT IT READS IS OF BULK AT MOST 1048576: true; the input reads as it did. -/
def fnLatticeUptoRow : OpenClaim := { program := "ytabciloabpmklaa", sum := "4bc1d0a7eb580276e37927687a986e12a60d6a7ebd4586966b5605dc003a994c", func := "loop.example/g03229/laws.FnLattice", spec := "fnLattice", apart := false, narrowed := true }
def FnLatticeUptoSaid : Prop := fnLatticeUptoRow.holds Try.pinned (OpenSpec.upto fnLatticeSpec)

/-- 'laws.FnExactNearOf', WHERE WHAT IT READS IS OF BULK AT MOST 1048576: true; the input reads as it did. -/
def fnExactNearOfUptoRow : OpenClaim := { program := "ytabciloabpmklaa", sum := "4bc1d0a7eb580276e37927687a986e12a60d6a7ebd4586966b5605dc003a994c", func := "loop.example/g03229/laws.FnExactNearOf", spec := "fnExactNearOf", apart := false, narrowed := true }
def FnExactNearOfUptoSaid : Prop := fnExactNearOfUptoRow.holds Try.pinned (OpenSpec.upto fnExactNearOfSpec)

/-- 'laws.FnNames', WHERE WHAT IT READS IS OF BULK AT MOST 1048576: true; the input reads as it did. -/
def fnNamesUptoRow : OpenClaim := { program := "ytabciloabpmklaa", sum := "4bc1d0a7eb580276e37927687a986e12a60d6a7ebd4586966b5605dc003a994c", func := "loop.example/g03229/laws.FnNames", spec := "fnNames", apart := false, narrowed := true }
def FnNamesUptoSaid : Prop := fnNamesUptoRow.holds Try.pinned (OpenSpec.upto fnNamesSpec)

/-- 'laws.FnExactTurnName', WHERE WHAT IT READS IS OF BULK AT MOST 1048576: true; the input reads as it did. -/
def fnExactTurnNameUptoRow : OpenClaim := { program := "ytabciloabpmklaa", sum := "4bc1d0a7eb580276e37927687a986e12a60d6a7ebd4586966b5605dc003a994c", func := "loop.example/g03229/laws.FnExactTurnName", spec := "fnExactTurnName", apart := false, narrowed := true }
def FnExactTurnNameUptoSaid : Prop := fnExactTurnNameUptoRow.holds Try.pinned (OpenSpec.upto fnExactTurnNameSpec)

/-- 'laws.FnTurnedSpots', WHERE WHAT IT READS IS OF BULK AT MOST 1048576: true; the input reads as it did. -/
def fnTurnedSpotsUptoRow : OpenClaim := { program := "ytabciloabpmklaa", sum := "4bc1d0a7eb580276e37927687a986e12a60d6a7ebd4586966b5605dc003a994c", func := "loop.example/g03229/laws.FnTurnedSpots", spec := "fnTurnedSpots", apart := false, narrowed := true }
def FnTurnedSpotsUptoSaid : Prop := fnTurnedSpotsUptoRow.holds Try.pinned (OpenSpec.upto fnTurnedSpotsSpec)

end Rows
end Go.Proofs.Ytabciloabpmklaa
