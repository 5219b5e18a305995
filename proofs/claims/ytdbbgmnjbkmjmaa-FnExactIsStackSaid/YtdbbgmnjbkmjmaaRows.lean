/-
  No cell of these rows narrows 'for every input' (looked for: loops, veiled, ifaces, maps, wideKeys, modest, calm, conditions, laid).
  DERIVED. THE GIVEN ROWS OF THIS SEAT. 12 by the template 'for every input the law returns true; each argument reads behind the call as it read before'; 0 by the template 'total and deterministic' (their statements: YtdbbgmnjbkmjmaaTotals.lean).
  GIVEN WITH THE SEED: the statements are not yours to turn. If you find one false, say at which input.
  Laid BY PROGRAM, IN A SANDBOX (cutbox-rows.mjs): the forced cells as the released guide's own fill.sh prints them over the translation 20ea749341e4067a… (all of the seat's roots in one cut). By AI agents, Wed Nov 11 2026. No macro, syntax, notation, axiom, sorry.
-/
import Derived.Test.YtdbbgmnjbkmjmaaChecked
import GoSem.Claim
import GoSem.ClaimJoined
import GoSem.ClaimMapViews
import Derived.JoinedTies
import Derived.KernelRfl
namespace Go.Proofs.Ytdbbgmnjbkmjmaa
/- THE CELL 'sum', in the pinned program and in every row, IS THE sha256 OF THE DUMP (.gsa) THAT YtdbbgmnjbkmjmaaProg.lean LOADS. Nothing in Lean hashes anything: it is a label: what it is worth is what the hold of that sum in a sandbox is worth. -/
noncomputable def Try.pinned : Pinned := { name := "ytdbbgmnjbkmjmaa", sum := "20ea749341e4067a41b307f205d90fc98c343a5619a259f772c7a24f16b19b56", checked := Try.checked }
namespace Rows
def none {H : Type} : Left H := { results := [], args := [] }

/-- 'laws.FnExactSeedField': WHATEVER THE INPUT: true; the input reads as it did. -/
def fnExactSeedFieldSpec : ChangeSpec := { name := "fnExactSeedField", fn := fun _ => fun
  | [d1, d2, d3] => { results := [.lit (.bool true)], args := [d1, d2, d3] }
  | _ => none }
def fnExactSeedFieldRow : OpenClaim := { program := "ytdbbgmnjbkmjmaa", sum := "20ea749341e4067a41b307f205d90fc98c343a5619a259f772c7a24f16b19b56", func := "loop.example/g03229/laws.FnExactSeedField", spec := "fnExactSeedField", unfollowed := true, recurses := true, apart := false }
def FnExactSeedFieldSaid : Prop := fnExactSeedFieldRow.holds Try.pinned (OpenSpec.ofChange fnExactSeedFieldSpec)

/-- ITS FALSE NEIGHBOUR: 'it returns false'. Refute it at one input. -/
def fnExactSeedFieldWrong : ChangeSpec := { name := "fnExactSeedField", fn := fun _ => fun
  | [d1, d2, d3] => { results := [.lit (.bool false)], args := [d1, d2, d3] }
  | _ => none }
def FnExactSeedFieldWrongFalsely : Prop := fnExactSeedFieldRow.holds Try.pinned (OpenSpec.ofChange fnExactSeedFieldWrong)

/-- 'laws.FnExactIsField': WHATEVER THE INPUT: true; the input reads as it did. -/
def fnExactIsFieldSpec : ChangeSpec := { name := "fnExactIsField", fn := fun _ => fun
  | [d] => { results := [.lit (.bool true)], args := [d] }
  | _ => none }
def fnExactIsFieldRow : OpenClaim := { program := "ytdbbgmnjbkmjmaa", sum := "20ea749341e4067a41b307f205d90fc98c343a5619a259f772c7a24f16b19b56", func := "loop.example/g03229/laws.FnExactIsField", spec := "fnExactIsField", unfollowed := true, recurses := true, apart := false }
def FnExactIsFieldSaid : Prop := fnExactIsFieldRow.holds Try.pinned (OpenSpec.ofChange fnExactIsFieldSpec)

/-- ITS FALSE NEIGHBOUR: 'it returns false'. Refute it at one input. -/
def fnExactIsFieldWrong : ChangeSpec := { name := "fnExactIsField", fn := fun _ => fun
  | [d] => { results := [.lit (.bool false)], args := [d] }
  | _ => none }
def FnExactIsFieldWrongFalsely : Prop := fnExactIsFieldRow.holds Try.pinned (OpenSpec.ofChange fnExactIsFieldWrong)

/-- 'laws.FnExactToneOf': WHATEVER THE INPUT: true; the input reads as it did. -/
def fnExactToneOfSpec : ChangeSpec := { name := "fnExactToneOf", fn := fun _ => fun
  | [d] => { results := [.lit (.bool true)], args := [d] }
  | _ => none }
def fnExactToneOfRow : OpenClaim := { program := "ytdbbgmnjbkmjmaa", sum := "20ea749341e4067a41b307f205d90fc98c343a5619a259f772c7a24f16b19b56", func := "loop.example/g03229/laws.FnExactToneOf", spec := "fnExactToneOf", unfollowed := true, recurses := true, apart := false }
def FnExactToneOfSaid : Prop := fnExactToneOfRow.holds Try.pinned (OpenSpec.ofChange fnExactToneOfSpec)

/-- ITS FALSE NEIGHBOUR: 'it returns false'. Refute it at one input. -/
def fnExactToneOfWrong : ChangeSpec := { name := "fnExactToneOf", fn := fun _ => fun
  | [d] => { results := [.lit (.bool false)], args := [d] }
  | _ => none }
def FnExactToneOfWrongFalsely : Prop := fnExactToneOfRow.holds Try.pinned (OpenSpec.ofChange fnExactToneOfWrong)

/-- 'laws.FnExactPairWeight': WHATEVER THE INPUT: true; the input reads as it did. -/
def fnExactPairWeightSpec : ChangeSpec := { name := "fnExactPairWeight", fn := fun _ => fun
  | [d1, d2, d3] => { results := [.lit (.bool true)], args := [d1, d2, d3] }
  | _ => none }
def fnExactPairWeightRow : OpenClaim := { program := "ytdbbgmnjbkmjmaa", sum := "20ea749341e4067a41b307f205d90fc98c343a5619a259f772c7a24f16b19b56", func := "loop.example/g03229/laws.FnExactPairWeight", spec := "fnExactPairWeight", unfollowed := true, recurses := true, apart := false }
def FnExactPairWeightSaid : Prop := fnExactPairWeightRow.holds Try.pinned (OpenSpec.ofChange fnExactPairWeightSpec)

/-- ITS FALSE NEIGHBOUR: 'it returns false'. Refute it at one input. -/
def fnExactPairWeightWrong : ChangeSpec := { name := "fnExactPairWeight", fn := fun _ => fun
  | [d1, d2, d3] => { results := [.lit (.bool false)], args := [d1, d2, d3] }
  | _ => none }
def FnExactPairWeightWrongFalsely : Prop := fnExactPairWeightRow.holds Try.pinned (OpenSpec.ofChange fnExactPairWeightWrong)

/-- 'laws.FnExactIsStack': WHATEVER THE INPUT: true; the input reads as it did. -/
def fnExactIsStackSpec : ChangeSpec := { name := "fnExactIsStack", fn := fun _ => fun
  | [d] => { results := [.lit (.bool true)], args := [d] }
  | _ => none }
def fnExactIsStackRow : OpenClaim := { program := "ytdbbgmnjbkmjmaa", sum := "20ea749341e4067a41b307f205d90fc98c343a5619a259f772c7a24f16b19b56", func := "loop.example/g03229/laws.FnExactIsStack", spec := "fnExactIsStack", unfollowed := true, recurses := true, apart := false }
def FnExactIsStackSaid : Prop := fnExactIsStackRow.holds Try.pinned (OpenSpec.ofChange fnExactIsStackSpec)

/-- ITS FALSE NEIGHBOUR: 'it returns false'. Refute it at one input. -/
def fnExactIsStackWrong : ChangeSpec := { name := "fnExactIsStack", fn := fun _ => fun
  | [d] => { results := [.lit (.bool false)], args := [d] }
  | _ => none }
def FnExactIsStackWrongFalsely : Prop := fnExactIsStackRow.holds Try.pinned (OpenSpec.ofChange fnExactIsStackWrong)

/-- 'laws.FnExactCrowdAt': WHATEVER THE INPUT: true; the input reads as it did. -/
def fnExactCrowdAtSpec : ChangeSpec := { name := "fnExactCrowdAt", fn := fun _ => fun
  | [d1, d2] => { results := [.lit (.bool true)], args := [d1, d2] }
  | _ => none }
def fnExactCrowdAtRow : OpenClaim := { program := "ytdbbgmnjbkmjmaa", sum := "20ea749341e4067a41b307f205d90fc98c343a5619a259f772c7a24f16b19b56", func := "loop.example/g03229/laws.FnExactCrowdAt", spec := "fnExactCrowdAt", unfollowed := true, recurses := true, apart := false }
def FnExactCrowdAtSaid : Prop := fnExactCrowdAtRow.holds Try.pinned (OpenSpec.ofChange fnExactCrowdAtSpec)

/-- ITS FALSE NEIGHBOUR: 'it returns false'. Refute it at one input. -/
def fnExactCrowdAtWrong : ChangeSpec := { name := "fnExactCrowdAt", fn := fun _ => fun
  | [d1, d2] => { results := [.lit (.bool false)], args := [d1, d2] }
  | _ => none }
def FnExactCrowdAtWrongFalsely : Prop := fnExactCrowdAtRow.holds Try.pinned (OpenSpec.ofChange fnExactCrowdAtWrong)

/-- 'laws.FnExactRoughnessOf': WHATEVER THE INPUT: true; the input reads as it did. -/
def fnExactRoughnessOfSpec : ChangeSpec := { name := "fnExactRoughnessOf", fn := fun _ => fun
  | [d] => { results := [.lit (.bool true)], args := [d] }
  | _ => none }
def fnExactRoughnessOfRow : OpenClaim := { program := "ytdbbgmnjbkmjmaa", sum := "20ea749341e4067a41b307f205d90fc98c343a5619a259f772c7a24f16b19b56", func := "loop.example/g03229/laws.FnExactRoughnessOf", spec := "fnExactRoughnessOf", unfollowed := true, recurses := true, apart := false }
def FnExactRoughnessOfSaid : Prop := fnExactRoughnessOfRow.holds Try.pinned (OpenSpec.ofChange fnExactRoughnessOfSpec)

/-- ITS FALSE NEIGHBOUR: 'it returns false'. Refute it at one input. -/
def fnExactRoughnessOfWrong : ChangeSpec := { name := "fnExactRoughnessOf", fn := fun _ => fun
  | [d] => { results := [.lit (.bool false)], args := [d] }
  | _ => none }
def FnExactRoughnessOfWrongFalsely : Prop := fnExactRoughnessOfRow.holds Try.pinned (OpenSpec.ofChange fnExactRoughnessOfWrong)

/-- 'laws.FnExactTightestDot': WHATEVER THE INPUT: true; the input reads as it did. -/
def fnExactTightestDotSpec : ChangeSpec := { name := "fnExactTightestDot", fn := fun _ => fun
  | [d] => { results := [.lit (.bool true)], args := [d] }
  | _ => none }
def fnExactTightestDotRow : OpenClaim := { program := "ytdbbgmnjbkmjmaa", sum := "20ea749341e4067a41b307f205d90fc98c343a5619a259f772c7a24f16b19b56", func := "loop.example/g03229/laws.FnExactTightestDot", spec := "fnExactTightestDot", unfollowed := true, recurses := true, apart := false }
def FnExactTightestDotSaid : Prop := fnExactTightestDotRow.holds Try.pinned (OpenSpec.ofChange fnExactTightestDotSpec)

/-- ITS FALSE NEIGHBOUR: 'it returns false'. Refute it at one input. -/
def fnExactTightestDotWrong : ChangeSpec := { name := "fnExactTightestDot", fn := fun _ => fun
  | [d] => { results := [.lit (.bool false)], args := [d] }
  | _ => none }
def FnExactTightestDotWrongFalsely : Prop := fnExactTightestDotRow.holds Try.pinned (OpenSpec.ofChange fnExactTightestDotWrong)

/-- 'laws.FnExactWidestVoid': WHATEVER THE INPUT: true; the input reads as it did. -/
def fnExactWidestVoidSpec : ChangeSpec := { name := "fnExactWidestVoid", fn := fun _ => fun
  | [d] => { results := [.lit (.bool true)], args := [d] }
  | _ => none }
def fnExactWidestVoidRow : OpenClaim := { program := "ytdbbgmnjbkmjmaa", sum := "20ea749341e4067a41b307f205d90fc98c343a5619a259f772c7a24f16b19b56", func := "loop.example/g03229/laws.FnExactWidestVoid", spec := "fnExactWidestVoid", unfollowed := true, recurses := true, apart := false }
def FnExactWidestVoidSaid : Prop := fnExactWidestVoidRow.holds Try.pinned (OpenSpec.ofChange fnExactWidestVoidSpec)

/-- ITS FALSE NEIGHBOUR: 'it returns false'. Refute it at one input. -/
def fnExactWidestVoidWrong : ChangeSpec := { name := "fnExactWidestVoid", fn := fun _ => fun
  | [d] => { results := [.lit (.bool false)], args := [d] }
  | _ => none }
def FnExactWidestVoidWrongFalsely : Prop := fnExactWidestVoidRow.holds Try.pinned (OpenSpec.ofChange fnExactWidestVoidWrong)

/-- 'laws.FnExactSwapStep': WHATEVER THE INPUT: true; the input reads as it did. -/
def fnExactSwapStepSpec : ChangeSpec := { name := "fnExactSwapStep", fn := fun _ => fun
  | [d] => { results := [.lit (.bool true)], args := [d] }
  | _ => none }
def fnExactSwapStepRow : OpenClaim := { program := "ytdbbgmnjbkmjmaa", sum := "20ea749341e4067a41b307f205d90fc98c343a5619a259f772c7a24f16b19b56", func := "loop.example/g03229/laws.FnExactSwapStep", spec := "fnExactSwapStep", unfollowed := true, recurses := true, apart := false }
def FnExactSwapStepSaid : Prop := fnExactSwapStepRow.holds Try.pinned (OpenSpec.ofChange fnExactSwapStepSpec)

/-- ITS FALSE NEIGHBOUR: 'it returns false'. Refute it at one input. -/
def fnExactSwapStepWrong : ChangeSpec := { name := "fnExactSwapStep", fn := fun _ => fun
  | [d] => { results := [.lit (.bool false)], args := [d] }
  | _ => none }
def FnExactSwapStepWrongFalsely : Prop := fnExactSwapStepRow.holds Try.pinned (OpenSpec.ofChange fnExactSwapStepWrong)

/-- 'laws.FnExactEvenField': WHATEVER THE INPUT: true; the input reads as it did. -/
def fnExactEvenFieldSpec : ChangeSpec := { name := "fnExactEvenField", fn := fun _ => fun
  | [d1, d2] => { results := [.lit (.bool true)], args := [d1, d2] }
  | _ => none }
def fnExactEvenFieldRow : OpenClaim := { program := "ytdbbgmnjbkmjmaa", sum := "20ea749341e4067a41b307f205d90fc98c343a5619a259f772c7a24f16b19b56", func := "loop.example/g03229/laws.FnExactEvenField", spec := "fnExactEvenField", unfollowed := true, recurses := true, apart := false }
def FnExactEvenFieldSaid : Prop := fnExactEvenFieldRow.holds Try.pinned (OpenSpec.ofChange fnExactEvenFieldSpec)

/-- ITS FALSE NEIGHBOUR: 'it returns false'. Refute it at one input. -/
def fnExactEvenFieldWrong : ChangeSpec := { name := "fnExactEvenField", fn := fun _ => fun
  | [d1, d2] => { results := [.lit (.bool false)], args := [d1, d2] }
  | _ => none }
def FnExactEvenFieldWrongFalsely : Prop := fnExactEvenFieldRow.holds Try.pinned (OpenSpec.ofChange fnExactEvenFieldWrong)

/-- 'laws.FnExactRankField': WHATEVER THE INPUT: true; the input reads as it did. -/
def fnExactRankFieldSpec : ChangeSpec := { name := "fnExactRankField", fn := fun _ => fun
  | [d] => { results := [.lit (.bool true)], args := [d] }
  | _ => none }
def fnExactRankFieldRow : OpenClaim := { program := "ytdbbgmnjbkmjmaa", sum := "20ea749341e4067a41b307f205d90fc98c343a5619a259f772c7a24f16b19b56", func := "loop.example/g03229/laws.FnExactRankField", spec := "fnExactRankField", unfollowed := true, recurses := true, apart := false }
def FnExactRankFieldSaid : Prop := fnExactRankFieldRow.holds Try.pinned (OpenSpec.ofChange fnExactRankFieldSpec)

/-- ITS FALSE NEIGHBOUR: 'it returns false'. Refute it at one input. -/
def fnExactRankFieldWrong : ChangeSpec := { name := "fnExactRankField", fn := fun _ => fun
  | [d] => { results := [.lit (.bool false)], args := [d] }
  | _ => none }
def FnExactRankFieldWrongFalsely : Prop := fnExactRankFieldRow.holds Try.pinned (OpenSpec.ofChange fnExactRankFieldWrong)

/- THE SECOND FORM. 'bulk': how many values and letters a reading holds, each counted each time it is reached (what is shared counts as often as it is met; a slice's spare places count too). A statement '..UptoSaid' is the law's where the arguments, and the package variables that the reading takes, are together of bulk at most 1048576: NARROWER than '..Said'. Prove '..Said' where nothing that the law and all that it calls make is longer than what came in: it says more and counts as full. Else prove '..UptoSaid'. A law counts once. -/
mutual
def uptoBulk {H : Type} : DataW H → Nat
  | .lit (.string bytes) => bytes.length + 1
  | .lit _ => 1
  | .nil => 1
  | .ptr d => uptoBulk d + 1
  | .slice elems spare => uptoBulkAll elems + uptoBulkAll spare + 1
  | .agg parts => uptoBulkAll parts + 1
  | .iface _ d => uptoBulk d + 1
  | .map entries => uptoBulkEntries entries + 1
  | .held _ => 1
def uptoBulkAll {H : Type} : List (DataW H) → Nat
  | [] => 0
  | d :: r => uptoBulk d + uptoBulkAll r
def uptoBulkEntries {H : Type} : List (Lit × DataW H) → Nat
  | [] => 0
  | x :: r => uptoBulkEntry x + uptoBulkEntries r
def uptoBulkEntry {H : Type} : Lit × DataW H → Nat
  | (.string bytes, d) => bytes.length + uptoBulk d + 1
  | (_, d) => uptoBulk d + 1
 end
def uptoSmall : (H : Type) → List (DataW H) → Bool := fun _ ds => decide (uptoBulkAll ds ≤ 1048576)
def OpenSpec.upto (s : _root_.Go.ChangeSpec) : _root_.Go.OpenSpec := { _root_.Go.OpenSpec.ofChange s with cond := some uptoSmall }

/-- 'laws.FnExactSeedField', WHERE WHAT IT READS IS OF BULK AT MOST 1048576: true; the input reads as it did. -/
def fnExactSeedFieldUptoRow : OpenClaim := { program := "ytdbbgmnjbkmjmaa", sum := "20ea749341e4067a41b307f205d90fc98c343a5619a259f772c7a24f16b19b56", func := "loop.example/g03229/laws.FnExactSeedField", spec := "fnExactSeedField", unfollowed := true, recurses := true, apart := false, narrowed := true }
def FnExactSeedFieldUptoSaid : Prop := fnExactSeedFieldUptoRow.holds Try.pinned (OpenSpec.upto fnExactSeedFieldSpec)

/-- 'laws.FnExactIsField', WHERE WHAT IT READS IS OF BULK AT MOST 1048576: true; the input reads as it did. -/
def fnExactIsFieldUptoRow : OpenClaim := { program := "ytdbbgmnjbkmjmaa", sum := "20ea749341e4067a41b307f205d90fc98c343a5619a259f772c7a24f16b19b56", func := "loop.example/g03229/laws.FnExactIsField", spec := "fnExactIsField", unfollowed := true, recurses := true, apart := false, narrowed := true }
def FnExactIsFieldUptoSaid : Prop := fnExactIsFieldUptoRow.holds Try.pinned (OpenSpec.upto fnExactIsFieldSpec)

/-- 'laws.FnExactToneOf', WHERE WHAT IT READS IS OF BULK AT MOST 1048576: true; the input reads as it did. -/
def fnExactToneOfUptoRow : OpenClaim := { program := "ytdbbgmnjbkmjmaa", sum := "20ea749341e4067a41b307f205d90fc98c343a5619a259f772c7a24f16b19b56", func := "loop.example/g03229/laws.FnExactToneOf", spec := "fnExactToneOf", unfollowed := true, recurses := true, apart := false, narrowed := true }
def FnExactToneOfUptoSaid : Prop := fnExactToneOfUptoRow.holds Try.pinned (OpenSpec.upto fnExactToneOfSpec)

/-- 'laws.FnExactPairWeight', WHERE WHAT IT READS IS OF BULK AT MOST 1048576: true; the input reads as it did. -/
def fnExactPairWeightUptoRow : OpenClaim := { program := "ytdbbgmnjbkmjmaa", sum := "20ea749341e4067a41b307f205d90fc98c343a5619a259f772c7a24f16b19b56", func := "loop.example/g03229/laws.FnExactPairWeight", spec := "fnExactPairWeight", unfollowed := true, recurses := true, apart := false, narrowed := true }
def FnExactPairWeightUptoSaid : Prop := fnExactPairWeightUptoRow.holds Try.pinned (OpenSpec.upto fnExactPairWeightSpec)

/-- 'laws.FnExactIsStack', WHERE WHAT IT READS IS OF BULK AT MOST 1048576: true; the input reads as it did. -/
def fnExactIsStackUptoRow : OpenClaim := { program := "ytdbbgmnjbkmjmaa", sum := "20ea749341e4067a41b307f205d90fc98c343a5619a259f772c7a24f16b19b56", func := "loop.example/g03229/laws.FnExactIsStack", spec := "fnExactIsStack", unfollowed := true, recurses := true, apart := false, narrowed := true }
def FnExactIsStackUptoSaid : Prop := fnExactIsStackUptoRow.holds Try.pinned (OpenSpec.upto fnExactIsStackSpec)

/-- 'laws.FnExactCrowdAt', WHERE WHAT IT READS IS OF BULK AT MOST 1048576: true; the input reads as it did. -/
def fnExactCrowdAtUptoRow : OpenClaim := { program := "ytdbbgmnjbkmjmaa", sum := "20ea749341e4067a41b307f205d90fc98c343a5619a259f772c7a24f16b19b56", func := "loop.example/g03229/laws.FnExactCrowdAt", spec := "fnExactCrowdAt", unfollowed := true, recurses := true, apart := false, narrowed := true }
def FnExactCrowdAtUptoSaid : Prop := fnExactCrowdAtUptoRow.holds Try.pinned (OpenSpec.upto fnExactCrowdAtSpec)

/-- 'laws.FnExactRoughnessOf', WHERE WHAT IT READS IS OF BULK AT MOST 1048576: true; the input reads as it did. -/
def fnExactRoughnessOfUptoRow : OpenClaim := { program := "ytdbbgmnjbkmjmaa", sum := "20ea749341e4067a41b307f205d90fc98c343a5619a259f772c7a24f16b19b56", func := "loop.example/g03229/laws.FnExactRoughnessOf", spec := "fnExactRoughnessOf", unfollowed := true, recurses := true, apart := false, narrowed := true }
def FnExactRoughnessOfUptoSaid : Prop := fnExactRoughnessOfUptoRow.holds Try.pinned (OpenSpec.upto fnExactRoughnessOfSpec)

/-- 'laws.FnExactTightestDot', WHERE WHAT IT READS IS OF BULK AT MOST 1048576: true; the input reads as it did. -/
def fnExactTightestDotUptoRow : OpenClaim := { program := "ytdbbgmnjbkmjmaa", sum := "20ea749341e4067a41b307f205d90fc98c343a5619a259f772c7a24f16b19b56", func := "loop.example/g03229/laws.FnExactTightestDot", spec := "fnExactTightestDot", unfollowed := true, recurses := true, apart := false, narrowed := true }
def FnExactTightestDotUptoSaid : Prop := fnExactTightestDotUptoRow.holds Try.pinned (OpenSpec.upto fnExactTightestDotSpec)

/-- 'laws.FnExactWidestVoid', WHERE WHAT IT READS IS OF BULK AT MOST 1048576: true; the input reads as it did. -/
def fnExactWidestVoidUptoRow : OpenClaim := { program := "ytdbbgmnjbkmjmaa", sum := "20ea749341e4067a41b307f205d90fc98c343a5619a259f772c7a24f16b19b56", func := "loop.example/g03229/laws.FnExactWidestVoid", spec := "fnExactWidestVoid", unfollowed := true, recurses := true, apart := false, narrowed := true }
def FnExactWidestVoidUptoSaid : Prop := fnExactWidestVoidUptoRow.holds Try.pinned (OpenSpec.upto fnExactWidestVoidSpec)

/-- 'laws.FnExactSwapStep', WHERE WHAT IT READS IS OF BULK AT MOST 1048576: true; the input reads as it did. -/
def fnExactSwapStepUptoRow : OpenClaim := { program := "ytdbbgmnjbkmjmaa", sum := "20ea749341e4067a41b307f205d90fc98c343a5619a259f772c7a24f16b19b56", func := "loop.example/g03229/laws.FnExactSwapStep", spec := "fnExactSwapStep", unfollowed := true, recurses := true, apart := false, narrowed := true }
def FnExactSwapStepUptoSaid : Prop := fnExactSwapStepUptoRow.holds Try.pinned (OpenSpec.upto fnExactSwapStepSpec)

/-- 'laws.FnExactEvenField', WHERE WHAT IT READS IS OF BULK AT MOST 1048576: true; the input reads as it did. -/
def fnExactEvenFieldUptoRow : OpenClaim := { program := "ytdbbgmnjbkmjmaa", sum := "20ea749341e4067a41b307f205d90fc98c343a5619a259f772c7a24f16b19b56", func := "loop.example/g03229/laws.FnExactEvenField", spec := "fnExactEvenField", unfollowed := true, recurses := true, apart := false, narrowed := true }
def FnExactEvenFieldUptoSaid : Prop := fnExactEvenFieldUptoRow.holds Try.pinned (OpenSpec.upto fnExactEvenFieldSpec)

/-- 'laws.FnExactRankField', WHERE WHAT IT READS IS OF BULK AT MOST 1048576: true; the input reads as it did. -/
def fnExactRankFieldUptoRow : OpenClaim := { program := "ytdbbgmnjbkmjmaa", sum := "20ea749341e4067a41b307f205d90fc98c343a5619a259f772c7a24f16b19b56", func := "loop.example/g03229/laws.FnExactRankField", spec := "fnExactRankField", unfollowed := true, recurses := true, apart := false, narrowed := true }
def FnExactRankFieldUptoSaid : Prop := fnExactRankFieldUptoRow.holds Try.pinned (OpenSpec.upto fnExactRankFieldSpec)

end Rows
end Go.Proofs.Ytdbbgmnjbkmjmaa
