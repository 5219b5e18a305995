/-
  No cell of these rows narrows 'for every input' (looked for: loops, veiled, ifaces, maps, wideKeys, modest, calm, conditions, laid).
  DERIVED. THE GIVEN ROWS OF THIS SEAT. 12 by the template 'for every input the law returns true; each argument reads behind the call as it read before'; 0 by the template 'total and deterministic' (their statements: YtjonhedjfablbaaTotals.lean).
  GIVEN WITH THE SEED: the statements are not yours to turn. If you find one false, say at which input.
  Laid BY PROGRAM, IN A SANDBOX (cutbox-rows.mjs): the forced cells as the released guide's own fill.sh prints them over the translation f75697fab86948f8… (all of the seat's roots in one cut). By AI agents, Wed Nov 11 2026. No macro, syntax, notation, axiom, sorry.
-/
import Derived.Test.YtjonhedjfablbaaChecked
import GoSem.Claim
import GoSem.ClaimJoined
import GoSem.ClaimMapViews
import Derived.JoinedTies
import Derived.KernelRfl
namespace Go.Proofs.Ytjonhedjfablbaa
/- THE CELL 'sum', in the pinned program and in every row, IS THE sha256 OF THE DUMP (.gsa) THAT YtjonhedjfablbaaProg.lean LOADS. Nothing in Lean hashes anything: it is a label: what it is worth is what the hold of that sum in a sandbox is worth. -/
noncomputable def Try.pinned : Pinned := { name := "ytjonhedjfablbaa", sum := "f75697fab86948f8ee905c8a0d4e43cf3f385b36ada0c12574e45e2e93da408a", checked := Try.checked }
namespace Rows
def none {H : Type} : Left H := { results := [], args := [] }

/-- 'laws.FnExactPlateOfRuns': WHATEVER THE INPUT: true; the input reads as it did. -/
def fnExactPlateOfRunsSpec : ChangeSpec := { name := "fnExactPlateOfRuns", fn := fun _ => fun
  | [d1, d2, d3] => { results := [.lit (.bool true)], args := [d1, d2, d3] }
  | _ => none }
def fnExactPlateOfRunsRow : OpenClaim := { program := "ytjonhedjfablbaa", sum := "f75697fab86948f8ee905c8a0d4e43cf3f385b36ada0c12574e45e2e93da408a", func := "loop.example/g03229/laws.FnExactPlateOfRuns", spec := "fnExactPlateOfRuns", apart := false }
def FnExactPlateOfRunsSaid : Prop := fnExactPlateOfRunsRow.holds Try.pinned (OpenSpec.ofChange fnExactPlateOfRunsSpec)

/-- ITS FALSE NEIGHBOUR: 'it returns false'. Refute it at one input. -/
def fnExactPlateOfRunsWrong : ChangeSpec := { name := "fnExactPlateOfRuns", fn := fun _ => fun
  | [d1, d2, d3] => { results := [.lit (.bool false)], args := [d1, d2, d3] }
  | _ => none }
def FnExactPlateOfRunsWrongFalsely : Prop := fnExactPlateOfRunsRow.holds Try.pinned (OpenSpec.ofChange fnExactPlateOfRunsWrong)

/-- 'laws.FnExactDotText': WHATEVER THE INPUT: true; the input reads as it did. -/
def fnExactDotTextSpec : ChangeSpec := { name := "fnExactDotText", fn := fun _ => fun
  | [d] => { results := [.lit (.bool true)], args := [d] }
  | _ => none }
def fnExactDotTextRow : OpenClaim := { program := "ytjonhedjfablbaa", sum := "f75697fab86948f8ee905c8a0d4e43cf3f385b36ada0c12574e45e2e93da408a", func := "loop.example/g03229/laws.FnExactDotText", spec := "fnExactDotText", unfollowed := true, recurses := true, apart := false }
def FnExactDotTextSaid : Prop := fnExactDotTextRow.holds Try.pinned (OpenSpec.ofChange fnExactDotTextSpec)

/-- ITS FALSE NEIGHBOUR: 'it returns false'. Refute it at one input. -/
def fnExactDotTextWrong : ChangeSpec := { name := "fnExactDotText", fn := fun _ => fun
  | [d] => { results := [.lit (.bool false)], args := [d] }
  | _ => none }
def FnExactDotTextWrongFalsely : Prop := fnExactDotTextRow.holds Try.pinned (OpenSpec.ofChange fnExactDotTextWrong)

/-- 'laws.FnExactRunsOf': WHATEVER THE INPUT: true; the input reads as it did. -/
def fnExactRunsOfSpec : ChangeSpec := { name := "fnExactRunsOf", fn := fun _ => fun
  | [d] => { results := [.lit (.bool true)], args := [d] }
  | _ => none }
def fnExactRunsOfRow : OpenClaim := { program := "ytjonhedjfablbaa", sum := "f75697fab86948f8ee905c8a0d4e43cf3f385b36ada0c12574e45e2e93da408a", func := "loop.example/g03229/laws.FnExactRunsOf", spec := "fnExactRunsOf", unfollowed := true, recurses := true, apart := false }
def FnExactRunsOfSaid : Prop := fnExactRunsOfRow.holds Try.pinned (OpenSpec.ofChange fnExactRunsOfSpec)

/-- ITS FALSE NEIGHBOUR: 'it returns false'. Refute it at one input. -/
def fnExactRunsOfWrong : ChangeSpec := { name := "fnExactRunsOf", fn := fun _ => fun
  | [d] => { results := [.lit (.bool false)], args := [d] }
  | _ => none }
def FnExactRunsOfWrongFalsely : Prop := fnExactRunsOfRow.holds Try.pinned (OpenSpec.ofChange fnExactRunsOfWrong)

/-- 'laws.FnExactSharesMultiply': WHATEVER THE INPUT: true; the input reads as it did. -/
def fnExactSharesMultiplySpec : ChangeSpec := { name := "fnExactSharesMultiply", fn := fun _ => fun
  | [d1, d2] => { results := [.lit (.bool true)], args := [d1, d2] }
  | _ => none }
def fnExactSharesMultiplyRow : OpenClaim := { program := "ytjonhedjfablbaa", sum := "f75697fab86948f8ee905c8a0d4e43cf3f385b36ada0c12574e45e2e93da408a", func := "loop.example/g03229/laws.FnExactSharesMultiply", spec := "fnExactSharesMultiply", unfollowed := true, recurses := true, apart := false }
def FnExactSharesMultiplySaid : Prop := fnExactSharesMultiplyRow.holds Try.pinned (OpenSpec.ofChange fnExactSharesMultiplySpec)

/-- ITS FALSE NEIGHBOUR: 'it returns false'. Refute it at one input. -/
def fnExactSharesMultiplyWrong : ChangeSpec := { name := "fnExactSharesMultiply", fn := fun _ => fun
  | [d1, d2] => { results := [.lit (.bool false)], args := [d1, d2] }
  | _ => none }
def FnExactSharesMultiplyWrongFalsely : Prop := fnExactSharesMultiplyRow.holds Try.pinned (OpenSpec.ofChange fnExactSharesMultiplyWrong)

/-- 'laws.FnExactParseDots': WHATEVER THE INPUT: true; the input reads as it did. -/
def fnExactParseDotsSpec : ChangeSpec := { name := "fnExactParseDots", fn := fun _ => fun
  | [d] => { results := [.lit (.bool true)], args := [d] }
  | _ => none }
def fnExactParseDotsRow : OpenClaim := { program := "ytjonhedjfablbaa", sum := "f75697fab86948f8ee905c8a0d4e43cf3f385b36ada0c12574e45e2e93da408a", func := "loop.example/g03229/laws.FnExactParseDots", spec := "fnExactParseDots", unfollowed := true, recurses := true, apart := false }
def FnExactParseDotsSaid : Prop := fnExactParseDotsRow.holds Try.pinned (OpenSpec.ofChange fnExactParseDotsSpec)

/-- ITS FALSE NEIGHBOUR: 'it returns false'. Refute it at one input. -/
def fnExactParseDotsWrong : ChangeSpec := { name := "fnExactParseDots", fn := fun _ => fun
  | [d] => { results := [.lit (.bool false)], args := [d] }
  | _ => none }
def FnExactParseDotsWrongFalsely : Prop := fnExactParseDotsRow.holds Try.pinned (OpenSpec.ofChange fnExactParseDotsWrong)

/-- 'laws.FnExactCrossPlates': WHATEVER THE INPUT: true; the input reads as it did. -/
def fnExactCrossPlatesSpec : ChangeSpec := { name := "fnExactCrossPlates", fn := fun _ => fun
  | [d1, d2] => { results := [.lit (.bool true)], args := [d1, d2] }
  | _ => none }
def fnExactCrossPlatesRow : OpenClaim := { program := "ytjonhedjfablbaa", sum := "f75697fab86948f8ee905c8a0d4e43cf3f385b36ada0c12574e45e2e93da408a", func := "loop.example/g03229/laws.FnExactCrossPlates", spec := "fnExactCrossPlates", unfollowed := true, recurses := true, apart := false }
def FnExactCrossPlatesSaid : Prop := fnExactCrossPlatesRow.holds Try.pinned (OpenSpec.ofChange fnExactCrossPlatesSpec)

/-- ITS FALSE NEIGHBOUR: 'it returns false'. Refute it at one input. -/
def fnExactCrossPlatesWrong : ChangeSpec := { name := "fnExactCrossPlates", fn := fun _ => fun
  | [d1, d2] => { results := [.lit (.bool false)], args := [d1, d2] }
  | _ => none }
def FnExactCrossPlatesWrongFalsely : Prop := fnExactCrossPlatesRow.holds Try.pinned (OpenSpec.ofChange fnExactCrossPlatesWrong)

/-- 'laws.FnExactMarkAt': WHATEVER THE INPUT: true; the input reads as it did. -/
def fnExactMarkAtSpec : ChangeSpec := { name := "fnExactMarkAt", fn := fun _ => fun
  | [d1, d2, d3] => { results := [.lit (.bool true)], args := [d1, d2, d3] }
  | _ => none }
def fnExactMarkAtRow : OpenClaim := { program := "ytjonhedjfablbaa", sum := "f75697fab86948f8ee905c8a0d4e43cf3f385b36ada0c12574e45e2e93da408a", func := "loop.example/g03229/laws.FnExactMarkAt", spec := "fnExactMarkAt", unfollowed := true, recurses := true, apart := false }
def FnExactMarkAtSaid : Prop := fnExactMarkAtRow.holds Try.pinned (OpenSpec.ofChange fnExactMarkAtSpec)

/-- ITS FALSE NEIGHBOUR: 'it returns false'. Refute it at one input. -/
def fnExactMarkAtWrong : ChangeSpec := { name := "fnExactMarkAt", fn := fun _ => fun
  | [d1, d2, d3] => { results := [.lit (.bool false)], args := [d1, d2, d3] }
  | _ => none }
def FnExactMarkAtWrongFalsely : Prop := fnExactMarkAtRow.holds Try.pinned (OpenSpec.ofChange fnExactMarkAtWrong)

/-- 'laws.FnExactGrowPlate': WHATEVER THE INPUT: true; the input reads as it did. -/
def fnExactGrowPlateSpec : ChangeSpec := { name := "fnExactGrowPlate", fn := fun _ => fun
  | [d] => { results := [.lit (.bool true)], args := [d] }
  | _ => none }
def fnExactGrowPlateRow : OpenClaim := { program := "ytjonhedjfablbaa", sum := "f75697fab86948f8ee905c8a0d4e43cf3f385b36ada0c12574e45e2e93da408a", func := "loop.example/g03229/laws.FnExactGrowPlate", spec := "fnExactGrowPlate", unfollowed := true, recurses := true, apart := false }
def FnExactGrowPlateSaid : Prop := fnExactGrowPlateRow.holds Try.pinned (OpenSpec.ofChange fnExactGrowPlateSpec)

/-- ITS FALSE NEIGHBOUR: 'it returns false'. Refute it at one input. -/
def fnExactGrowPlateWrong : ChangeSpec := { name := "fnExactGrowPlate", fn := fun _ => fun
  | [d] => { results := [.lit (.bool false)], args := [d] }
  | _ => none }
def FnExactGrowPlateWrongFalsely : Prop := fnExactGrowPlateRow.holds Try.pinned (OpenSpec.ofChange fnExactGrowPlateWrong)

/-- 'laws.FnExactShrinkPlate': WHATEVER THE INPUT: true; the input reads as it did. -/
def fnExactShrinkPlateSpec : ChangeSpec := { name := "fnExactShrinkPlate", fn := fun _ => fun
  | [d] => { results := [.lit (.bool true)], args := [d] }
  | _ => none }
def fnExactShrinkPlateRow : OpenClaim := { program := "ytjonhedjfablbaa", sum := "f75697fab86948f8ee905c8a0d4e43cf3f385b36ada0c12574e45e2e93da408a", func := "loop.example/g03229/laws.FnExactShrinkPlate", spec := "fnExactShrinkPlate", unfollowed := true, recurses := true, apart := false }
def FnExactShrinkPlateSaid : Prop := fnExactShrinkPlateRow.holds Try.pinned (OpenSpec.ofChange fnExactShrinkPlateSpec)

/-- ITS FALSE NEIGHBOUR: 'it returns false'. Refute it at one input. -/
def fnExactShrinkPlateWrong : ChangeSpec := { name := "fnExactShrinkPlate", fn := fun _ => fun
  | [d] => { results := [.lit (.bool false)], args := [d] }
  | _ => none }
def FnExactShrinkPlateWrongFalsely : Prop := fnExactShrinkPlateRow.holds Try.pinned (OpenSpec.ofChange fnExactShrinkPlateWrong)

/-- 'laws.FnExactGainOf': WHATEVER THE INPUT: true; the input reads as it did. -/
def fnExactGainOfSpec : ChangeSpec := { name := "fnExactGainOf", fn := fun _ => fun
  | [d] => { results := [.lit (.bool true)], args := [d] }
  | _ => none }
def fnExactGainOfRow : OpenClaim := { program := "ytjonhedjfablbaa", sum := "f75697fab86948f8ee905c8a0d4e43cf3f385b36ada0c12574e45e2e93da408a", func := "loop.example/g03229/laws.FnExactGainOf", spec := "fnExactGainOf", unfollowed := true, recurses := true, apart := false }
def FnExactGainOfSaid : Prop := fnExactGainOfRow.holds Try.pinned (OpenSpec.ofChange fnExactGainOfSpec)

/-- ITS FALSE NEIGHBOUR: 'it returns false'. Refute it at one input. -/
def fnExactGainOfWrong : ChangeSpec := { name := "fnExactGainOf", fn := fun _ => fun
  | [d] => { results := [.lit (.bool false)], args := [d] }
  | _ => none }
def FnExactGainOfWrongFalsely : Prop := fnExactGainOfRow.holds Try.pinned (OpenSpec.ofChange fnExactGainOfWrong)

/-- 'laws.FnExactMarkCounts': WHATEVER THE INPUT: true; the input reads as it did. -/
def fnExactMarkCountsSpec : ChangeSpec := { name := "fnExactMarkCounts", fn := fun _ => fun
  | [d] => { results := [.lit (.bool true)], args := [d] }
  | _ => none }
def fnExactMarkCountsRow : OpenClaim := { program := "ytjonhedjfablbaa", sum := "f75697fab86948f8ee905c8a0d4e43cf3f385b36ada0c12574e45e2e93da408a", func := "loop.example/g03229/laws.FnExactMarkCounts", spec := "fnExactMarkCounts", unfollowed := true, recurses := true, apart := false }
def FnExactMarkCountsSaid : Prop := fnExactMarkCountsRow.holds Try.pinned (OpenSpec.ofChange fnExactMarkCountsSpec)

/-- ITS FALSE NEIGHBOUR: 'it returns false'. Refute it at one input. -/
def fnExactMarkCountsWrong : ChangeSpec := { name := "fnExactMarkCounts", fn := fun _ => fun
  | [d] => { results := [.lit (.bool false)], args := [d] }
  | _ => none }
def FnExactMarkCountsWrongFalsely : Prop := fnExactMarkCountsRow.holds Try.pinned (OpenSpec.ofChange fnExactMarkCountsWrong)

/-- 'laws.FnExactBlendOf': WHATEVER THE INPUT: true; the input reads as it did. -/
def fnExactBlendOfSpec : ChangeSpec := { name := "fnExactBlendOf", fn := fun _ => fun
  | [d1, d2] => { results := [.lit (.bool true)], args := [d1, d2] }
  | _ => none }
def fnExactBlendOfRow : OpenClaim := { program := "ytjonhedjfablbaa", sum := "f75697fab86948f8ee905c8a0d4e43cf3f385b36ada0c12574e45e2e93da408a", func := "loop.example/g03229/laws.FnExactBlendOf", spec := "fnExactBlendOf", unfollowed := true, recurses := true, apart := false }
def FnExactBlendOfSaid : Prop := fnExactBlendOfRow.holds Try.pinned (OpenSpec.ofChange fnExactBlendOfSpec)

/-- ITS FALSE NEIGHBOUR: 'it returns false'. Refute it at one input. -/
def fnExactBlendOfWrong : ChangeSpec := { name := "fnExactBlendOf", fn := fun _ => fun
  | [d1, d2] => { results := [.lit (.bool false)], args := [d1, d2] }
  | _ => none }
def FnExactBlendOfWrongFalsely : Prop := fnExactBlendOfRow.holds Try.pinned (OpenSpec.ofChange fnExactBlendOfWrong)

/- THE SECOND FORM. 'bulk': how many values and letters a reading holds, each counted each time it is reached (what is shared counts as often as it is met; a slice's spare places count too). A statement '..UptoSaid' is the law's where the arguments, and the package variables that the reading takes, are together of bulk at most 1048576: NARROWER than '..Said'. Prove '..Said' where nothing that the law and all that it calls make is longer than what came in: it says more and counts as full. Else prove '..UptoSaid'. A law counts once. -/
mutual
def uptoBulk {H : Type} : DataW H → Nat
  | .lit (.string bytes) => bytes.length + 1
  | .lit _ => 1
  | .nil => 1
  | .ptr d => uptoBulk d + 1
  | .slice elems spare => uptoBulkAll elems + uptoBulkAll spare + 1
  | .agg parts => uptoBulkAll parts + 1
  | .iface _ d => uptoBulk d + 1
  | .map entries => uptoBulkEntries entries + 1
  | .held _ => 1
def uptoBulkAll {H : Type} : List (DataW H) → Nat
  | [] => 0
  | d :: r => uptoBulk d + uptoBulkAll r
def uptoBulkEntries {H : Type} : List (Lit × DataW H) → Nat
  | [] => 0
  | x :: r => uptoBulkEntry x + uptoBulkEntries r
def uptoBulkEntry {H : Type} : Lit × DataW H → Nat
  | (.string bytes, d) => bytes.length + uptoBulk d + 1
  | (_, d) => uptoBulk d + 1
 end
def uptoSmall : (H : Type) → List (DataW H) → Bool := fun _ ds => decide (uptoBulkAll ds ≤ 1048576)
def OpenSpec.upto (s : _root_.Go.ChangeSpec) : _root_.Go.OpenSpec := { _root_.Go.OpenSpec.ofChange s with cond := some uptoSmall }

/-- 'laws.FnExactPlateOfRuns', WHERE WHAT IT READS IS OF BULK AT MOST 1048576: true; the input reads as it did. -/
def fnExactPlateOfRunsUptoRow : OpenClaim := { program := "ytjonhedjfablbaa", sum := "f75697fab86948f8ee905c8a0d4e43cf3f385b36ada0c12574e45e2e93da408a", func := "loop.example/g03229/laws.FnExactPlateOfRuns", spec := "fnExactPlateOfRuns", apart := false, narrowed := true }
def FnExactPlateOfRunsUptoSaid : Prop := fnExactPlateOfRunsUptoRow.holds Try.pinned (OpenSpec.upto fnExactPlateOfRunsSpec)

/-- 'laws.FnExactDotText', WHERE WHAT IT READS IS OF BULK AT MOST 1048576: true; the input reads as it did. -/
def fnExactDotTextUptoRow : OpenClaim := { program := "ytjonhedjfablbaa", sum := "f75697fab86948f8ee905c8a0d4e43cf3f385b36ada0c12574e45e2e93da408a", func := "loop.example/g03229/laws.FnExactDotText", spec := "fnExactDotText", unfollowed := true, recurses := true, apart := false, narrowed := true }
def FnExactDotTextUptoSaid : Prop := fnExactDotTextUptoRow.holds Try.pinned (OpenSpec.upto fnExactDotTextSpec)

/-- 'laws.FnExactRunsOf', WHERE WHAT IT READS IS OF BULK AT MOST 1048576: true; the input reads as it did. -/
def fnExactRunsOfUptoRow : OpenClaim := { program := "ytjonhedjfablbaa", sum := "f75697fab86948f8ee905c8a0d4e43cf3f385b36ada0c12574e45e2e93da408a", func := "loop.example/g03229/laws.FnExactRunsOf", spec := "fnExactRunsOf", unfollowed := true, recurses := true, apart := false, narrowed := true }
def FnExactRunsOfUptoSaid : Prop := fnExactRunsOfUptoRow.holds Try.pinned (OpenSpec.upto fnExactRunsOfSpec)

/-- 'laws.FnExactSharesMultiply', WHERE WHAT IT READS IS OF BULK AT MOST 1048576: true; the input reads as it did. -/
def fnExactSharesMultiplyUptoRow : OpenClaim := { program := "ytjonhedjfablbaa", sum := "f75697fab86948f8ee905c8a0d4e43cf3f385b36ada0c12574e45e2e93da408a", func := "loop.example/g03229/laws.FnExactSharesMultiply", spec := "fnExactSharesMultiply", unfollowed := true, recurses := true, apart := false, narrowed := true }
def FnExactSharesMultiplyUptoSaid : Prop := fnExactSharesMultiplyUptoRow.holds Try.pinned (OpenSpec.upto fnExactSharesMultiplySpec)

/-- 'laws.FnExactParseDots', WHERE WHAT IT READS IS OF BULK AT MOST 1048576: true; the input reads as it did. -/
def fnExactParseDotsUptoRow : OpenClaim := { program := "ytjonhedjfablbaa", sum := "f75697fab86948f8ee905c8a0d4e43cf3f385b36ada0c12574e45e2e93da408a", func := "loop.example/g03229/laws.FnExactParseDots", spec := "fnExactParseDots", unfollowed := true, recurses := true, apart := false, narrowed := true }
def FnExactParseDotsUptoSaid : Prop := fnExactParseDotsUptoRow.holds Try.pinned (OpenSpec.upto fnExactParseDotsSpec)

/-- 'laws.FnExactCrossPlates', WHERE WHAT IT READS IS OF BULK AT MOST 1048576: true; the input reads as it did. -/
def fnExactCrossPlatesUptoRow : OpenClaim := { program := "ytjonhedjfablbaa", sum := "f75697fab86948f8ee905c8a0d4e43cf3f385b36ada0c12574e45e2e93da408a", func := "loop.example/g03229/laws.FnExactCrossPlates", spec := "fnExactCrossPlates", unfollowed := true, recurses := true, apart := false, narrowed := true }
def FnExactCrossPlatesUptoSaid : Prop := fnExactCrossPlatesUptoRow.holds Try.pinned (OpenSpec.upto fnExactCrossPlatesSpec)

/-- 'laws.FnExactMarkAt', WHERE WHAT IT READS IS OF BULK AT MOST 1048576: true; the input reads as it did. -/
def fnExactMarkAtUptoRow : OpenClaim := { program := "ytjonhedjfablbaa", sum := "f75697fab86948f8ee905c8a0d4e43cf3f385b36ada0c12574e45e2e93da408a", func := "loop.example/g03229/laws.FnExactMarkAt", spec := "fnExactMarkAt", unfollowed := true, recurses := true, apart := false, narrowed := true }
def FnExactMarkAtUptoSaid : Prop := fnExactMarkAtUptoRow.holds Try.pinned (OpenSpec.upto fnExactMarkAtSpec)

/-- 'laws.FnExactGrowPlate', WHERE WHAT IT READS IS OF BULK AT MOST 1048576: true; the input reads as it did. -/
def fnExactGrowPlateUptoRow : OpenClaim := { program := "ytjonhedjfablbaa", sum := "f75697fab86948f8ee905c8a0d4e43cf3f385b36ada0c12574e45e2e93da408a", func := "loop.example/g03229/laws.FnExactGrowPlate", spec := "fnExactGrowPlate", unfollowed := true, recurses := true, apart := false, narrowed := true }
def FnExactGrowPlateUptoSaid : Prop := fnExactGrowPlateUptoRow.holds Try.pinned (OpenSpec.upto fnExactGrowPlateSpec)

/-- 'laws.FnExactShrinkPlate', WHERE WHAT IT READS IS OF BULK AT MOST 1048576: true; the input reads as it did. -/
def fnExactShrinkPlateUptoRow : OpenClaim := { program := "ytjonhedjfablbaa", sum := "f75697fab86948f8ee905c8a0d4e43cf3f385b36ada0c12574e45e2e93da408a", func := "loop.example/g03229/laws.FnExactShrinkPlate", spec := "fnExactShrinkPlate", unfollowed := true, recurses := true, apart := false, narrowed := true }
def FnExactShrinkPlateUptoSaid : Prop := fnExactShrinkPlateUptoRow.holds Try.pinned (OpenSpec.upto fnExactShrinkPlateSpec)

/-- 'laws.FnExactGainOf', WHERE WHAT IT READS IS OF BULK AT MOST 1048576: true; the input reads as it did. -/
def fnExactGainOfUptoRow : OpenClaim := { program := "ytjonhedjfablbaa", sum := "f75697fab86948f8ee905c8a0d4e43cf3f385b36ada0c12574e45e2e93da408a", func := "loop.example/g03229/laws.FnExactGainOf", spec := "fnExactGainOf", unfollowed := true, recurses := true, apart := false, narrowed := true }
def FnExactGainOfUptoSaid : Prop := fnExactGainOfUptoRow.holds Try.pinned (OpenSpec.upto fnExactGainOfSpec)

/-- 'laws.FnExactMarkCounts', WHERE WHAT IT READS IS OF BULK AT MOST 1048576: true; the input reads as it did. -/
def fnExactMarkCountsUptoRow : OpenClaim := { program := "ytjonhedjfablbaa", sum := "f75697fab86948f8ee905c8a0d4e43cf3f385b36ada0c12574e45e2e93da408a", func := "loop.example/g03229/laws.FnExactMarkCounts", spec := "fnExactMarkCounts", unfollowed := true, recurses := true, apart := false, narrowed := true }
def FnExactMarkCountsUptoSaid : Prop := fnExactMarkCountsUptoRow.holds Try.pinned (OpenSpec.upto fnExactMarkCountsSpec)

/-- 'laws.FnExactBlendOf', WHERE WHAT IT READS IS OF BULK AT MOST 1048576: true; the input reads as it did. -/
def fnExactBlendOfUptoRow : OpenClaim := { program := "ytjonhedjfablbaa", sum := "f75697fab86948f8ee905c8a0d4e43cf3f385b36ada0c12574e45e2e93da408a", func := "loop.example/g03229/laws.FnExactBlendOf", spec := "fnExactBlendOf", unfollowed := true, recurses := true, apart := false, narrowed := true }
def FnExactBlendOfUptoSaid : Prop := fnExactBlendOfUptoRow.holds Try.pinned (OpenSpec.upto fnExactBlendOfSpec)

end Rows
end Go.Proofs.Ytjonhedjfablbaa
