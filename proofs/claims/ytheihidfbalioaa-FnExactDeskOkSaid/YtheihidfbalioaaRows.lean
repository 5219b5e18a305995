/-
  No cell of these rows narrows 'for every input' (looked for: loops, veiled, ifaces, maps, wideKeys, modest, calm, conditions, laid).
  DERIVED. THE GIVEN ROWS OF THIS SEAT. 12 by the template 'for every input the law returns true; each argument reads behind the call as it read before'; 0 by the template 'total and deterministic' (their statements: YtheihidfbalioaaTotals.lean).
  GIVEN WITH THE SEED: the statements are not yours to turn. If you find one false, say at which input.
  Laid BY PROGRAM, IN A SANDBOX (cutbox-rows.mjs): the forced cells as the released guide's own fill.sh prints them over the translation fb2b6ec5eb19b4c7… (all of the seat's roots in one cut). By AI agents, Wed Nov 11 2026. No macro, syntax, notation, axiom, sorry.
-/
import Derived.Test.YtheihidfbalioaaChecked
import GoSem.Claim
import GoSem.ClaimJoined
import GoSem.ClaimMapViews
import Derived.JoinedTies
import Derived.KernelRfl
namespace Go.Proofs.Ytheihidfbalioaa
/- THE CELL 'sum', in the pinned program and in every row, IS THE sha256 OF THE DUMP (.gsa) THAT YtheihidfbalioaaProg.lean LOADS. Nothing in Lean hashes anything: it is a label: what it is worth is what the hold of that sum in a sandbox is worth. -/
noncomputable def Try.pinned : Pinned := { name := "ytheihidfbalioaa", sum := "fb2b6ec5eb19b4c719517192531fc9b6f8011fd8fb72ea98f59dbd620789028a", checked := Try.checked }
namespace Rows
def none {H : Type} : Left H := { results := [], args := [] }

/-- 'laws.FnCrowds': WHATEVER THE INPUT: true; the input reads as it did. -/
def fnCrowdsSpec : ChangeSpec := { name := "fnCrowds", fn := fun _ => fun
  | [d] => { results := [.lit (.bool true)], args := [d] }
  | _ => none }
def fnCrowdsRow : OpenClaim := { program := "ytheihidfbalioaa", sum := "fb2b6ec5eb19b4c719517192531fc9b6f8011fd8fb72ea98f59dbd620789028a", func := "loop.example/g03229/laws.FnCrowds", spec := "fnCrowds", unfollowed := true, recurses := true, apart := false }
def FnCrowdsSaid : Prop := fnCrowdsRow.holds Try.pinned (OpenSpec.ofChange fnCrowdsSpec)

/-- ITS FALSE NEIGHBOUR: 'it returns false'. Refute it at one input. -/
def fnCrowdsWrong : ChangeSpec := { name := "fnCrowds", fn := fun _ => fun
  | [d] => { results := [.lit (.bool false)], args := [d] }
  | _ => none }
def FnCrowdsWrongFalsely : Prop := fnCrowdsRow.holds Try.pinned (OpenSpec.ofChange fnCrowdsWrong)

/-- 'laws.FnEvened': WHATEVER THE INPUT: true; the input reads as it did. -/
def fnEvenedSpec : ChangeSpec := { name := "fnEvened", fn := fun _ => fun
  | [d] => { results := [.lit (.bool true)], args := [d] }
  | _ => none }
def fnEvenedRow : OpenClaim := { program := "ytheihidfbalioaa", sum := "fb2b6ec5eb19b4c719517192531fc9b6f8011fd8fb72ea98f59dbd620789028a", func := "loop.example/g03229/laws.FnEvened", spec := "fnEvened", unfollowed := true, recurses := true, apart := false }
def FnEvenedSaid : Prop := fnEvenedRow.holds Try.pinned (OpenSpec.ofChange fnEvenedSpec)

/-- ITS FALSE NEIGHBOUR: 'it returns false'. Refute it at one input. -/
def fnEvenedWrong : ChangeSpec := { name := "fnEvened", fn := fun _ => fun
  | [d] => { results := [.lit (.bool false)], args := [d] }
  | _ => none }
def FnEvenedWrongFalsely : Prop := fnEvenedRow.holds Try.pinned (OpenSpec.ofChange fnEvenedWrong)

/-- 'laws.FnPlaced': WHATEVER THE INPUT: true; the input reads as it did. -/
def fnPlacedSpec : ChangeSpec := { name := "fnPlaced", fn := fun _ => fun
  | [d] => { results := [.lit (.bool true)], args := [d] }
  | _ => none }
def fnPlacedRow : OpenClaim := { program := "ytheihidfbalioaa", sum := "fb2b6ec5eb19b4c719517192531fc9b6f8011fd8fb72ea98f59dbd620789028a", func := "loop.example/g03229/laws.FnPlaced", spec := "fnPlaced", unfollowed := true, recurses := true, apart := false }
def FnPlacedSaid : Prop := fnPlacedRow.holds Try.pinned (OpenSpec.ofChange fnPlacedSpec)

/-- ITS FALSE NEIGHBOUR: 'it returns false'. Refute it at one input. -/
def fnPlacedWrong : ChangeSpec := { name := "fnPlaced", fn := fun _ => fun
  | [d] => { results := [.lit (.bool false)], args := [d] }
  | _ => none }
def FnPlacedWrongFalsely : Prop := fnPlacedRow.holds Try.pinned (OpenSpec.ofChange fnPlacedWrong)

/-- 'laws.FnRanked': WHATEVER THE INPUT: true; the input reads as it did. -/
def fnRankedSpec : ChangeSpec := { name := "fnRanked", fn := fun _ => fun
  | [d] => { results := [.lit (.bool true)], args := [d] }
  | _ => none }
def fnRankedRow : OpenClaim := { program := "ytheihidfbalioaa", sum := "fb2b6ec5eb19b4c719517192531fc9b6f8011fd8fb72ea98f59dbd620789028a", func := "loop.example/g03229/laws.FnRanked", spec := "fnRanked", unfollowed := true, recurses := true, apart := false }
def FnRankedSaid : Prop := fnRankedRow.holds Try.pinned (OpenSpec.ofChange fnRankedSpec)

/-- ITS FALSE NEIGHBOUR: 'it returns false'. Refute it at one input. -/
def fnRankedWrong : ChangeSpec := { name := "fnRanked", fn := fun _ => fun
  | [d] => { results := [.lit (.bool false)], args := [d] }
  | _ => none }
def FnRankedWrongFalsely : Prop := fnRankedRow.holds Try.pinned (OpenSpec.ofChange fnRankedWrong)

/-- 'laws.FnRuns': WHATEVER THE INPUT: true; the input reads as it did. -/
def fnRunsSpec : ChangeSpec := { name := "fnRuns", fn := fun _ => fun
  | [d] => { results := [.lit (.bool true)], args := [d] }
  | _ => none }
def fnRunsRow : OpenClaim := { program := "ytheihidfbalioaa", sum := "fb2b6ec5eb19b4c719517192531fc9b6f8011fd8fb72ea98f59dbd620789028a", func := "loop.example/g03229/laws.FnRuns", spec := "fnRuns", unfollowed := true, recurses := true, apart := false }
def FnRunsSaid : Prop := fnRunsRow.holds Try.pinned (OpenSpec.ofChange fnRunsSpec)

/-- ITS FALSE NEIGHBOUR: 'it returns false'. Refute it at one input. -/
def fnRunsWrong : ChangeSpec := { name := "fnRuns", fn := fun _ => fun
  | [d] => { results := [.lit (.bool false)], args := [d] }
  | _ => none }
def FnRunsWrongFalsely : Prop := fnRunsRow.holds Try.pinned (OpenSpec.ofChange fnRunsWrong)

/-- 'laws.FnDots': WHATEVER THE INPUT: true; the input reads as it did. -/
def fnDotsSpec : ChangeSpec := { name := "fnDots", fn := fun _ => fun
  | [d] => { results := [.lit (.bool true)], args := [d] }
  | _ => none }
def fnDotsRow : OpenClaim := { program := "ytheihidfbalioaa", sum := "fb2b6ec5eb19b4c719517192531fc9b6f8011fd8fb72ea98f59dbd620789028a", func := "loop.example/g03229/laws.FnDots", spec := "fnDots", unfollowed := true, recurses := true, apart := false }
def FnDotsSaid : Prop := fnDotsRow.holds Try.pinned (OpenSpec.ofChange fnDotsSpec)

/-- ITS FALSE NEIGHBOUR: 'it returns false'. Refute it at one input. -/
def fnDotsWrong : ChangeSpec := { name := "fnDots", fn := fun _ => fun
  | [d] => { results := [.lit (.bool false)], args := [d] }
  | _ => none }
def FnDotsWrongFalsely : Prop := fnDotsRow.holds Try.pinned (OpenSpec.ofChange fnDotsWrong)

/-- 'laws.FnOverprint': WHATEVER THE INPUT: true; the input reads as it did. -/
def fnOverprintSpec : ChangeSpec := { name := "fnOverprint", fn := fun _ => fun
  | [d] => { results := [.lit (.bool true)], args := [d] }
  | _ => none }
def fnOverprintRow : OpenClaim := { program := "ytheihidfbalioaa", sum := "fb2b6ec5eb19b4c719517192531fc9b6f8011fd8fb72ea98f59dbd620789028a", func := "loop.example/g03229/laws.FnOverprint", spec := "fnOverprint", unfollowed := true, recurses := true, apart := false }
def FnOverprintSaid : Prop := fnOverprintRow.holds Try.pinned (OpenSpec.ofChange fnOverprintSpec)

/-- ITS FALSE NEIGHBOUR: 'it returns false'. Refute it at one input. -/
def fnOverprintWrong : ChangeSpec := { name := "fnOverprint", fn := fun _ => fun
  | [d] => { results := [.lit (.bool false)], args := [d] }
  | _ => none }
def FnOverprintWrongFalsely : Prop := fnOverprintRow.holds Try.pinned (OpenSpec.ofChange fnOverprintWrong)

/-- 'laws.FnMarks': WHATEVER THE INPUT: true; the input reads as it did. -/
def fnMarksSpec : ChangeSpec := { name := "fnMarks", fn := fun _ => fun
  | [d] => { results := [.lit (.bool true)], args := [d] }
  | _ => none }
def fnMarksRow : OpenClaim := { program := "ytheihidfbalioaa", sum := "fb2b6ec5eb19b4c719517192531fc9b6f8011fd8fb72ea98f59dbd620789028a", func := "loop.example/g03229/laws.FnMarks", spec := "fnMarks", unfollowed := true, recurses := true, apart := false }
def FnMarksSaid : Prop := fnMarksRow.holds Try.pinned (OpenSpec.ofChange fnMarksSpec)

/-- ITS FALSE NEIGHBOUR: 'it returns false'. Refute it at one input. -/
def fnMarksWrong : ChangeSpec := { name := "fnMarks", fn := fun _ => fun
  | [d] => { results := [.lit (.bool false)], args := [d] }
  | _ => none }
def FnMarksWrongFalsely : Prop := fnMarksRow.holds Try.pinned (OpenSpec.ofChange fnMarksWrong)

/-- 'laws.FnBlended': WHATEVER THE INPUT: true; the input reads as it did. -/
def fnBlendedSpec : ChangeSpec := { name := "fnBlended", fn := fun _ => fun
  | [d] => { results := [.lit (.bool true)], args := [d] }
  | _ => none }
def fnBlendedRow : OpenClaim := { program := "ytheihidfbalioaa", sum := "fb2b6ec5eb19b4c719517192531fc9b6f8011fd8fb72ea98f59dbd620789028a", func := "loop.example/g03229/laws.FnBlended", spec := "fnBlended", unfollowed := true, recurses := true, apart := false }
def FnBlendedSaid : Prop := fnBlendedRow.holds Try.pinned (OpenSpec.ofChange fnBlendedSpec)

/-- ITS FALSE NEIGHBOUR: 'it returns false'. Refute it at one input. -/
def fnBlendedWrong : ChangeSpec := { name := "fnBlended", fn := fun _ => fun
  | [d] => { results := [.lit (.bool false)], args := [d] }
  | _ => none }
def FnBlendedWrongFalsely : Prop := fnBlendedRow.holds Try.pinned (OpenSpec.ofChange fnBlendedWrong)

/-- 'laws.FnGrown': WHATEVER THE INPUT: true; the input reads as it did. -/
def fnGrownSpec : ChangeSpec := { name := "fnGrown", fn := fun _ => fun
  | [d] => { results := [.lit (.bool true)], args := [d] }
  | _ => none }
def fnGrownRow : OpenClaim := { program := "ytheihidfbalioaa", sum := "fb2b6ec5eb19b4c719517192531fc9b6f8011fd8fb72ea98f59dbd620789028a", func := "loop.example/g03229/laws.FnGrown", spec := "fnGrown", unfollowed := true, recurses := true, apart := false }
def FnGrownSaid : Prop := fnGrownRow.holds Try.pinned (OpenSpec.ofChange fnGrownSpec)

/-- ITS FALSE NEIGHBOUR: 'it returns false'. Refute it at one input. -/
def fnGrownWrong : ChangeSpec := { name := "fnGrown", fn := fun _ => fun
  | [d] => { results := [.lit (.bool false)], args := [d] }
  | _ => none }
def FnGrownWrongFalsely : Prop := fnGrownRow.holds Try.pinned (OpenSpec.ofChange fnGrownWrong)

/-- 'laws.FnExactDeskOk': WHATEVER THE INPUT: true; the input reads as it did. -/
def fnExactDeskOkSpec : ChangeSpec := { name := "fnExactDeskOk", fn := fun _ => fun
  | [d] => { results := [.lit (.bool true)], args := [d] }
  | _ => none }
def fnExactDeskOkRow : OpenClaim := { program := "ytheihidfbalioaa", sum := "fb2b6ec5eb19b4c719517192531fc9b6f8011fd8fb72ea98f59dbd620789028a", func := "loop.example/g03229/laws.FnExactDeskOk", spec := "fnExactDeskOk", unfollowed := true, recurses := true, apart := false }
def FnExactDeskOkSaid : Prop := fnExactDeskOkRow.holds Try.pinned (OpenSpec.ofChange fnExactDeskOkSpec)

/-- ITS FALSE NEIGHBOUR: 'it returns false'. Refute it at one input. -/
def fnExactDeskOkWrong : ChangeSpec := { name := "fnExactDeskOk", fn := fun _ => fun
  | [d] => { results := [.lit (.bool false)], args := [d] }
  | _ => none }
def FnExactDeskOkWrongFalsely : Prop := fnExactDeskOkRow.holds Try.pinned (OpenSpec.ofChange fnExactDeskOkWrong)

/-- 'laws.FnExactNewDesk': WHATEVER THE INPUT: true; the input reads as it did. -/
def fnExactNewDeskSpec : ChangeSpec := { name := "fnExactNewDesk", fn := fun _ => fun
  | [] => { results := [.lit (.bool true)], args := [] }
  | _ => none }
def fnExactNewDeskRow : OpenClaim := { program := "ytheihidfbalioaa", sum := "fb2b6ec5eb19b4c719517192531fc9b6f8011fd8fb72ea98f59dbd620789028a", func := "loop.example/g03229/laws.FnExactNewDesk", spec := "fnExactNewDesk", unfollowed := true, recurses := true, apart := false }
def FnExactNewDeskSaid : Prop := fnExactNewDeskRow.holds Try.pinned (OpenSpec.ofChange fnExactNewDeskSpec)

/-- ITS FALSE NEIGHBOUR: 'it returns false'. Refute it at one input. -/
def fnExactNewDeskWrong : ChangeSpec := { name := "fnExactNewDesk", fn := fun _ => fun
  | [] => { results := [.lit (.bool false)], args := [] }
  | _ => none }
def FnExactNewDeskWrongFalsely : Prop := fnExactNewDeskRow.holds Try.pinned (OpenSpec.ofChange fnExactNewDeskWrong)

/- THE SECOND FORM. 'bulk': how many values and letters a reading holds, each counted each time it is reached (what is shared counts as often as it is met; a slice's spare places count too). A statement '..UptoSaid' is the law's where the arguments, and the package variables that the reading takes, are together of bulk at most 1048576: NARROWER than '..Said'. Prove '..Said' where nothing that the law and all that it calls make is longer than what came in: it says more and counts as full. Else prove '..UptoSaid'. A law counts once. -/
mutual
def uptoBulk {H : Type} : DataW H → Nat
  | .lit (.string bytes) => bytes.length + 1
  | .lit _ => 1
  | .nil => 1
  | .ptr d => uptoBulk d + 1
  | .slice elems spare => uptoBulkAll elems + uptoBulkAll spare + 1
  | .agg parts => uptoBulkAll parts + 1
  | .iface _ d => uptoBulk d + 1
  | .map entries => uptoBulkEntries entries + 1
  | .held _ => 1
def uptoBulkAll {H : Type} : List (DataW H) → Nat
  | [] => 0
  | d :: r => uptoBulk d + uptoBulkAll r
def uptoBulkEntries {H : Type} : List (Lit × DataW H) → Nat
  | [] => 0
  | x :: r => uptoBulkEntry x + uptoBulkEntries r
def uptoBulkEntry {H : Type} : Lit × DataW H → Nat
  | (.string bytes, d) => bytes.length + uptoBulk d + 1
  | (_, d) => uptoBulk d + 1
 end
def uptoSmall : (H : Type) → List (DataW H) → Bool := fun _ ds => decide (uptoBulkAll ds ≤ 1048576)
def OpenSpec.upto (s : _root_.Go.ChangeSpec) : _root_.Go.OpenSpec := { _root_.Go.OpenSpec.ofChange s with cond := some uptoSmall }

/-- 'laws.FnCrowds', WHERE WHAT IT READS IS OF BULK AT MOST 1048576: true; the input reads as it did. -/
def fnCrowdsUptoRow : OpenClaim := { program := "ytheihidfbalioaa", sum := "fb2b6ec5eb19b4c719517192531fc9b6f8011fd8fb72ea98f59dbd620789028a", func := "loop.example/g03229/laws.FnCrowds", spec := "fnCrowds", unfollowed := true, recurses := true, apart := false, narrowed := true }
def FnCrowdsUptoSaid : Prop := fnCrowdsUptoRow.holds Try.pinned (OpenSpec.upto fnCrowdsSpec)

/-- 'laws.FnEvened', WHERE WHAT IT READS IS OF BULK AT MOST 1048576: true; the input reads as it did. -/
def fnEvenedUptoRow : OpenClaim := { program := "ytheihidfbalioaa", sum := "fb2b6ec5eb19b4c719517192531fc9b6f8011fd8fb72ea98f59dbd620789028a", func := "loop.example/g03229/laws.FnEvened", spec := "fnEvened", unfollowed := true, recurses := true, apart := false, narrowed := true }
def FnEvenedUptoSaid : Prop := fnEvenedUptoRow.holds Try.pinned (OpenSpec.upto fnEvenedSpec)

/-- 'laws.FnPlaced', WHERE WHAT IT READS IS OF BULK AT MOST 1048576: true; the input reads as it did. -/
def fnPlacedUptoRow : OpenClaim := { program := "ytheihidfbalioaa", sum := "fb2b6ec5eb19b4c719517192531fc9b6f8011fd8fb72ea98f59dbd620789028a", func := "loop.example/g03229/laws.FnPlaced", spec := "fnPlaced", unfollowed := true, recurses := true, apart := false, narrowed := true }
def FnPlacedUptoSaid : Prop := fnPlacedUptoRow.holds Try.pinned (OpenSpec.upto fnPlacedSpec)

/-- 'laws.FnRanked', WHERE WHAT IT READS IS OF BULK AT MOST 1048576: true; the input reads as it did. -/
def fnRankedUptoRow : OpenClaim := { program := "ytheihidfbalioaa", sum := "fb2b6ec5eb19b4c719517192531fc9b6f8011fd8fb72ea98f59dbd620789028a", func := "loop.example/g03229/laws.FnRanked", spec := "fnRanked", unfollowed := true, recurses := true, apart := false, narrowed := true }
def FnRankedUptoSaid : Prop := fnRankedUptoRow.holds Try.pinned (OpenSpec.upto fnRankedSpec)

/-- 'laws.FnRuns', WHERE WHAT IT READS IS OF BULK AT MOST 1048576: true; the input reads as it did. -/
def fnRunsUptoRow : OpenClaim := { program := "ytheihidfbalioaa", sum := "fb2b6ec5eb19b4c719517192531fc9b6f8011fd8fb72ea98f59dbd620789028a", func := "loop.example/g03229/laws.FnRuns", spec := "fnRuns", unfollowed := true, recurses := true, apart := false, narrowed := true }
def FnRunsUptoSaid : Prop := fnRunsUptoRow.holds Try.pinned (OpenSpec.upto fnRunsSpec)

/-- 'laws.FnDots', WHERE WHAT IT READS IS OF BULK AT MOST 1048576: true; the input reads as it did. -/
def fnDotsUptoRow : OpenClaim := { program := "ytheihidfbalioaa", sum := "fb2b6ec5eb19b4c719517192531fc9b6f8011fd8fb72ea98f59dbd620789028a", func := "loop.example/g03229/laws.FnDots", spec := "fnDots", unfollowed := true, recurses := true, apart := false, narrowed := true }
def FnDotsUptoSaid : Prop := fnDotsUptoRow.holds Try.pinned (OpenSpec.upto fnDotsSpec)

/-- 'laws.FnOverprint', WHERE WHAT IT READS IS OF BULK AT MOST 1048576: true; the input reads as it did. -/
def fnOverprintUptoRow : OpenClaim := { program := "ytheihidfbalioaa", sum := "fb2b6ec5eb19b4c719517192531fc9b6f8011fd8fb72ea98f59dbd620789028a", func := "loop.example/g03229/laws.FnOverprint", spec := "fnOverprint", unfollowed := true, recurses := true, apart := false, narrowed := true }
def FnOverprintUptoSaid : Prop := fnOverprintUptoRow.holds Try.pinned (OpenSpec.upto fnOverprintSpec)

/-- 'laws.FnMarks', WHERE WHAT IT READS IS OF BULK AT MOST 1048576: true; the input reads as it did. -/
def fnMarksUptoRow : OpenClaim := { program := "ytheihidfbalioaa", sum := "fb2b6ec5eb19b4c719517192531fc9b6f8011fd8fb72ea98f59dbd620789028a", func := "loop.example/g03229/laws.FnMarks", spec := "fnMarks", unfollowed := true, recurses := true, apart := false, narrowed := true }
def FnMarksUptoSaid : Prop := fnMarksUptoRow.holds Try.pinned (OpenSpec.upto fnMarksSpec)

/-- 'laws.FnBlended', WHERE WHAT IT READS IS OF BULK AT MOST 1048576: true; the input reads as it did. -/
def fnBlendedUptoRow : OpenClaim := { program := "ytheihidfbalioaa", sum := "fb2b6ec5eb19b4c719517192531fc9b6f8011fd8fb72ea98f59dbd620789028a", func := "loop.example/g03229/laws.FnBlended", spec := "fnBlended", unfollowed := true, recurses := true, apart := false, narrowed := true }
def FnBlendedUptoSaid : Prop := fnBlendedUptoRow.holds Try.pinned (OpenSpec.upto fnBlendedSpec)

/-- 'laws.FnGrown', WHERE WHAT IT READS IS OF BULK AT MOST 1048576: true; the input reads as it did. -/
def fnGrownUptoRow : OpenClaim := { program := "ytheihidfbalioaa", sum := "fb2b6ec5eb19b4c719517192531fc9b6f8011fd8fb72ea98f59dbd620789028a", func := "loop.example/g03229/laws.FnGrown", spec := "fnGrown", unfollowed := true, recurses := true, apart := false, narrowed := true }
def FnGrownUptoSaid : Prop := fnGrownUptoRow.holds Try.pinned (OpenSpec.upto fnGrownSpec)

/-- 'laws.FnExactDeskOk', WHERE WHAT IT READS IS OF BULK AT MOST 1048576: true; the input reads as it did. -/
def fnExactDeskOkUptoRow : OpenClaim := { program := "ytheihidfbalioaa", sum := "fb2b6ec5eb19b4c719517192531fc9b6f8011fd8fb72ea98f59dbd620789028a", func := "loop.example/g03229/laws.FnExactDeskOk", spec := "fnExactDeskOk", unfollowed := true, recurses := true, apart := false, narrowed := true }
def FnExactDeskOkUptoSaid : Prop := fnExactDeskOkUptoRow.holds Try.pinned (OpenSpec.upto fnExactDeskOkSpec)

/-- 'laws.FnExactNewDesk', WHERE WHAT IT READS IS OF BULK AT MOST 1048576: true; the input reads as it did. -/
def fnExactNewDeskUptoRow : OpenClaim := { program := "ytheihidfbalioaa", sum := "fb2b6ec5eb19b4c719517192531fc9b6f8011fd8fb72ea98f59dbd620789028a", func := "loop.example/g03229/laws.FnExactNewDesk", spec := "fnExactNewDesk", unfollowed := true, recurses := true, apart := false, narrowed := true }
def FnExactNewDeskUptoSaid : Prop := fnExactNewDeskUptoRow.holds Try.pinned (OpenSpec.upto fnExactNewDeskSpec)

end Rows
end Go.Proofs.Ytheihidfbalioaa
