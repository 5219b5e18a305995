/-
  No cell of these rows narrows 'for every input' (looked for: loops, veiled, ifaces, maps, wideKeys, modest, calm, conditions, laid).
  DERIVED. THE GIVEN ROWS OF THIS SEAT. 3 by the template 'for every input the law returns true; each argument reads behind the call as it read before'; 0 by the template 'total and deterministic' (their statements: YtmahpennnnajcaaTotals.lean).
  GIVEN WITH THE SEED: the statements are not yours to turn. If you find one false, say at which input.
  Laid BY PROGRAM, IN A SANDBOX (cutbox-rows.mjs): the forced cells as the released guide's own fill.sh prints them over the translation c7df82747d3cc5e9… (all of the seat's roots in one cut). By AI agents, Wed Nov 11 2026. No macro, syntax, notation, axiom, sorry.
-/
import Derived.Test.YtmahpennnnajcaaChecked
import GoSem.Claim
import GoSem.ClaimJoined
import GoSem.ClaimMapViews
import Derived.JoinedTies
import Derived.KernelRfl
namespace Go.Proofs.Ytmahpennnnajcaa
/- THE CELL 'sum', in the pinned program and in every row, IS THE sha256 OF THE DUMP (.gsa) THAT YtmahpennnnajcaaProg.lean LOADS. Nothing in Lean hashes anything: it is a label: what it is worth is what the hold of that sum in a sandbox is worth. -/
noncomputable def Try.pinned : Pinned := { name := "ytmahpennnnajcaa", sum := "c7df82747d3cc5e91b9b264a379914dd54a86cea1723d26c82d1451e8a22383a", checked := Try.checked }
namespace Rows
def none {H : Type} : Left H := { results := [], args := [] }

/-- 'laws.FnExactToneOf': WHATEVER THE INPUT: true; the input reads as it did. -/
def fnExactToneOfSpec : ChangeSpec := { name := "fnExactToneOf", fn := fun _ => fun
  | [d] => { results := [.lit (.bool true)], args := [d] }
  | _ => none }
def fnExactToneOfRow : OpenClaim := { program := "ytmahpennnnajcaa", sum := "c7df82747d3cc5e91b9b264a379914dd54a86cea1723d26c82d1451e8a22383a", func := "loop.example/g03229/laws.FnExactToneOf", spec := "fnExactToneOf", unfollowed := true, recurses := true, apart := false }
def FnExactToneOfSaid : Prop := fnExactToneOfRow.holds Try.pinned (OpenSpec.ofChange fnExactToneOfSpec)

/-- ITS FALSE NEIGHBOUR: 'it returns false'. Refute it at one input. -/
def fnExactToneOfWrong : ChangeSpec := { name := "fnExactToneOf", fn := fun _ => fun
  | [d] => { results := [.lit (.bool false)], args := [d] }
  | _ => none }
def FnExactToneOfWrongFalsely : Prop := fnExactToneOfRow.holds Try.pinned (OpenSpec.ofChange fnExactToneOfWrong)

/-- 'laws.FnExactCrossPlates': WHATEVER THE INPUT: true; the input reads as it did. -/
def fnExactCrossPlatesSpec : ChangeSpec := { name := "fnExactCrossPlates", fn := fun _ => fun
  | [d1, d2] => { results := [.lit (.bool true)], args := [d1, d2] }
  | _ => none }
def fnExactCrossPlatesRow : OpenClaim := { program := "ytmahpennnnajcaa", sum := "c7df82747d3cc5e91b9b264a379914dd54a86cea1723d26c82d1451e8a22383a", func := "loop.example/g03229/laws.FnExactCrossPlates", spec := "fnExactCrossPlates", unfollowed := true, recurses := true, apart := false }
def FnExactCrossPlatesSaid : Prop := fnExactCrossPlatesRow.holds Try.pinned (OpenSpec.ofChange fnExactCrossPlatesSpec)

/-- ITS FALSE NEIGHBOUR: 'it returns false'. Refute it at one input. -/
def fnExactCrossPlatesWrong : ChangeSpec := { name := "fnExactCrossPlates", fn := fun _ => fun
  | [d1, d2] => { results := [.lit (.bool false)], args := [d1, d2] }
  | _ => none }
def FnExactCrossPlatesWrongFalsely : Prop := fnExactCrossPlatesRow.holds Try.pinned (OpenSpec.ofChange fnExactCrossPlatesWrong)

/-- 'laws.FnExactMarkCounts': WHATEVER THE INPUT: true; the input reads as it did. -/
def fnExactMarkCountsSpec : ChangeSpec := { name := "fnExactMarkCounts", fn := fun _ => fun
  | [d] => { results := [.lit (.bool true)], args := [d] }
  | _ => none }
def fnExactMarkCountsRow : OpenClaim := { program := "ytmahpennnnajcaa", sum := "c7df82747d3cc5e91b9b264a379914dd54a86cea1723d26c82d1451e8a22383a", func := "loop.example/g03229/laws.FnExactMarkCounts", spec := "fnExactMarkCounts", unfollowed := true, recurses := true, apart := false }
def FnExactMarkCountsSaid : Prop := fnExactMarkCountsRow.holds Try.pinned (OpenSpec.ofChange fnExactMarkCountsSpec)

/-- ITS FALSE NEIGHBOUR: 'it returns false'. Refute it at one input. -/
def fnExactMarkCountsWrong : ChangeSpec := { name := "fnExactMarkCounts", fn := fun _ => fun
  | [d] => { results := [.lit (.bool false)], args := [d] }
  | _ => none }
def FnExactMarkCountsWrongFalsely : Prop := fnExactMarkCountsRow.holds Try.pinned (OpenSpec.ofChange fnExactMarkCountsWrong)

/- THE SECOND FORM. 'bulk': how many values and letters a reading holds, each counted each time it is reached (what is shared counts as often as it is met; a slice's spare places count too). A statement '..UptoSaid' is the law's where the arguments, and the package variables that the reading takes, are together of bulk at most 1048576: NARROWER than '..Said'. Prove '..Said' where nothing that the law and all that it calls make is longer than what came in: it says more and counts as full. Else prove '..UptoSaid'. A law counts once. -/
mutual
def uptoBulk {H : Type} : DataW H → Nat
  | .lit (.string bytes) => bytes.length + 1
  | .lit _ => 1
  | .nil => 1
  | .ptr d => uptoBulk d + 1
  | .slice elems spare => uptoBulkAll elems + uptoBulkAll spare + 1
  | .agg parts => uptoBulkAll parts + 1
  | .iface _ d => uptoBulk d + 1
  | .map entries => uptoBulkEntries entries + 1
  | .held _ => 1
def uptoBulkAll {H : Type} : List (DataW H) → Nat
  | [] => 0
  | d :: r => uptoBulk d + uptoBulkAll r
def uptoBulkEntries {H : Type} : List (Lit × DataW H) → Nat
  | [] => 0
  | x :: r => uptoBulkEntry x + uptoBulkEntries r
def uptoBulkEntry {H : Type} : Lit × DataW H → Nat
  | (.string bytes, d) => bytes.length + uptoBulk d + 1
  | (_, d) => uptoBulk d + 1
 end
def uptoSmall : (H : Type) → List (DataW H) → Bool := fun _ ds => decide (uptoBulkAll ds ≤ 1048576)
def OpenSpec.upto (s : _root_.Go.ChangeSpec) : _root_.Go.OpenSpec := { _root_.Go.OpenSpec.ofChange s with cond := some uptoSmall }

/-- 'laws.FnExactToneOf', WHERE WHAT IT READS IS OF BULK AT MOST 1048576: true; the input reads as it did. -/
def fnExactToneOfUptoRow : OpenClaim := { program := "ytmahpennnnajcaa", sum := "c7df82747d3cc5e91b9b264a379914dd54a86cea1723d26c82d1451e8a22383a", func := "loop.example/g03229/laws.FnExactToneOf", spec := "fnExactToneOf", unfollowed := true, recurses := true, apart := false, narrowed := true }
def FnExactToneOfUptoSaid : Prop := fnExactToneOfUptoRow.holds Try.pinned (OpenSpec.upto fnExactToneOfSpec)

/-- 'laws.FnExactCrossPlates', WHERE WHAT IT READS IS OF BULK AT MOST 1048576: true; the input reads as it did. -/
def fnExactCrossPlatesUptoRow : OpenClaim := { program := "ytmahpennnnajcaa", sum := "c7df82747d3cc5e91b9b264a379914dd54a86cea1723d26c82d1451e8a22383a", func := "loop.example/g03229/laws.FnExactCrossPlates", spec := "fnExactCrossPlates", unfollowed := true, recurses := true, apart := false, narrowed := true }
def FnExactCrossPlatesUptoSaid : Prop := fnExactCrossPlatesUptoRow.holds Try.pinned (OpenSpec.upto fnExactCrossPlatesSpec)

/-- 'laws.FnExactMarkCounts', WHERE WHAT IT READS IS OF BULK AT MOST 1048576: true; the input reads as it did. -/
def fnExactMarkCountsUptoRow : OpenClaim := { program := "ytmahpennnnajcaa", sum := "c7df82747d3cc5e91b9b264a379914dd54a86cea1723d26c82d1451e8a22383a", func := "loop.example/g03229/laws.FnExactMarkCounts", spec := "fnExactMarkCounts", unfollowed := true, recurses := true, apart := false, narrowed := true }
def FnExactMarkCountsUptoSaid : Prop := fnExactMarkCountsUptoRow.holds Try.pinned (OpenSpec.upto fnExactMarkCountsSpec)

end Rows
end Go.Proofs.Ytmahpennnnajcaa
