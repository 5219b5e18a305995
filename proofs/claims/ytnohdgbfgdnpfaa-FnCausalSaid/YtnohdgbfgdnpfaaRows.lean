/-
  No cell of these rows narrows 'for every input' (looked for: loops, veiled, ifaces, maps, wideKeys, modest, calm, conditions, laid).
  DERIVED. THE GIVEN ROWS OF THIS SEAT. 4 by the template 'for every input the law returns true; each argument reads behind the call as it read before'; 0 by the template 'total and deterministic' (their statements: YtnohdgbfgdnpfaaTotals.lean).
  GIVEN WITH THE SEED: the statements are not yours to turn. If you find one false, say at which input.
  Laid BY PROGRAM, IN A SANDBOX (cutbox-rows.mjs): the forced cells as the released guide's own fill.sh prints them over the translation 84ba1687624ee1a4… (all of the seat's roots in one cut). By AI agents, Wed Nov 11 2026. No macro, syntax, notation, axiom, sorry.
-/
import Derived.Test.YtnohdgbfgdnpfaaChecked
import GoSem.Claim
import GoSem.ClaimJoined
import GoSem.ClaimMapViews
import Derived.JoinedTies
import Derived.KernelRfl
namespace Go.Proofs.Ytnohdgbfgdnpfaa
/- THE CELL 'sum', in the pinned program and in every row, IS THE sha256 OF THE DUMP (.gsa) THAT YtnohdgbfgdnpfaaProg.lean LOADS. Nothing in Lean hashes anything: it is a label: what it is worth is what the hold of that sum in a sandbox is worth. -/
noncomputable def Try.pinned : Pinned := { name := "ytnohdgbfgdnpfaa", sum := "84ba1687624ee1a4c89257e5666211ea5fe8c33c9536157f01f80cbb41796c4e", checked := Try.checked }
namespace Rows
def none {H : Type} : Left H := { results := [], args := [] }

/-- 'laws.FnMirrored': WHATEVER THE INPUT: true; the input reads as it did. -/
def fnMirroredSpec : ChangeSpec := { name := "fnMirrored", fn := fun _ => fun
  | [d] => { results := [.lit (.bool true)], args := [d] }
  | _ => none }
def fnMirroredRow : OpenClaim := { program := "ytnohdgbfgdnpfaa", sum := "84ba1687624ee1a4c89257e5666211ea5fe8c33c9536157f01f80cbb41796c4e", func := "loop.example/g03229/laws.FnMirrored", spec := "fnMirrored", unfollowed := true, recurses := true, apart := false }
def FnMirroredSaid : Prop := fnMirroredRow.holds Try.pinned (OpenSpec.ofChange fnMirroredSpec)

/-- ITS FALSE NEIGHBOUR: 'it returns false'. Refute it at one input. -/
def fnMirroredWrong : ChangeSpec := { name := "fnMirrored", fn := fun _ => fun
  | [d] => { results := [.lit (.bool false)], args := [d] }
  | _ => none }
def FnMirroredWrongFalsely : Prop := fnMirroredRow.holds Try.pinned (OpenSpec.ofChange fnMirroredWrong)

/-- 'laws.FnCausal': WHATEVER THE INPUT: true; the input reads as it did. -/
def fnCausalSpec : ChangeSpec := { name := "fnCausal", fn := fun _ => fun
  | [d] => { results := [.lit (.bool true)], args := [d] }
  | _ => none }
def fnCausalRow : OpenClaim := { program := "ytnohdgbfgdnpfaa", sum := "84ba1687624ee1a4c89257e5666211ea5fe8c33c9536157f01f80cbb41796c4e", func := "loop.example/g03229/laws.FnCausal", spec := "fnCausal", unfollowed := true, recurses := true, apart := false }
def FnCausalSaid : Prop := fnCausalRow.holds Try.pinned (OpenSpec.ofChange fnCausalSpec)

/-- ITS FALSE NEIGHBOUR: 'it returns false'. Refute it at one input. -/
def fnCausalWrong : ChangeSpec := { name := "fnCausal", fn := fun _ => fun
  | [d] => { results := [.lit (.bool false)], args := [d] }
  | _ => none }
def FnCausalWrongFalsely : Prop := fnCausalRow.holds Try.pinned (OpenSpec.ofChange fnCausalWrong)

/-- 'laws.FnExactErrorsOf': WHATEVER THE INPUT: true; the input reads as it did. -/
def fnExactErrorsOfSpec : ChangeSpec := { name := "fnExactErrorsOf", fn := fun _ => fun
  | [d1, d2, d3] => { results := [.lit (.bool true)], args := [d1, d2, d3] }
  | _ => none }
def fnExactErrorsOfRow : OpenClaim := { program := "ytnohdgbfgdnpfaa", sum := "84ba1687624ee1a4c89257e5666211ea5fe8c33c9536157f01f80cbb41796c4e", func := "loop.example/g03229/laws.FnExactErrorsOf", spec := "fnExactErrorsOf", unfollowed := true, recurses := true, apart := false }
def FnExactErrorsOfSaid : Prop := fnExactErrorsOfRow.holds Try.pinned (OpenSpec.ofChange fnExactErrorsOfSpec)

/-- ITS FALSE NEIGHBOUR: 'it returns false'. Refute it at one input. -/
def fnExactErrorsOfWrong : ChangeSpec := { name := "fnExactErrorsOf", fn := fun _ => fun
  | [d1, d2, d3] => { results := [.lit (.bool false)], args := [d1, d2, d3] }
  | _ => none }
def FnExactErrorsOfWrongFalsely : Prop := fnExactErrorsOfRow.holds Try.pinned (OpenSpec.ofChange fnExactErrorsOfWrong)

/-- 'laws.FnExactDiffusePicture': WHATEVER THE INPUT: true; the input reads as it did. -/
def fnExactDiffusePictureSpec : ChangeSpec := { name := "fnExactDiffusePicture", fn := fun _ => fun
  | [d1, d2, d3] => { results := [.lit (.bool true)], args := [d1, d2, d3] }
  | _ => none }
def fnExactDiffusePictureRow : OpenClaim := { program := "ytnohdgbfgdnpfaa", sum := "84ba1687624ee1a4c89257e5666211ea5fe8c33c9536157f01f80cbb41796c4e", func := "loop.example/g03229/laws.FnExactDiffusePicture", spec := "fnExactDiffusePicture", unfollowed := true, recurses := true, apart := false }
def FnExactDiffusePictureSaid : Prop := fnExactDiffusePictureRow.holds Try.pinned (OpenSpec.ofChange fnExactDiffusePictureSpec)

/-- ITS FALSE NEIGHBOUR: 'it returns false'. Refute it at one input. -/
def fnExactDiffusePictureWrong : ChangeSpec := { name := "fnExactDiffusePicture", fn := fun _ => fun
  | [d1, d2, d3] => { results := [.lit (.bool false)], args := [d1, d2, d3] }
  | _ => none }
def FnExactDiffusePictureWrongFalsely : Prop := fnExactDiffusePictureRow.holds Try.pinned (OpenSpec.ofChange fnExactDiffusePictureWrong)

/- THE SECOND FORM. 'bulk': how many values and letters a reading holds, each counted each time it is reached (what is shared counts as often as it is met; a slice's spare places count too). A statement '..UptoSaid' is the law's where the arguments, and the package variables that the reading takes, are together of bulk at most 1048576: NARROWER than '..Said'. Prove '..Said' where nothing that the law and all that it calls make is longer than what came in: it says more and counts as full. Else prove '..UptoSaid'. A law counts once. -/
mutual
def uptoBulk {H : Type} : DataW H → Nat
  | .lit (.string bytes) => bytes.length + 1
  | .lit _ => 1
  | .nil => 1
  | .ptr d => uptoBulk d + 1
  | .slice elems spare => uptoBulkAll elems + uptoBulkAll spare + 1
  | .agg parts => uptoBulkAll parts + 1
  | .iface _ d => uptoBulk d + 1
  | .map entries => uptoBulkEntries entries + 1
  | .held _ => 1
def uptoBulkAll {H : Type} : List (DataW H) → Nat
  | [] => 0
  | d :: r => uptoBulk d + uptoBulkAll r
def uptoBulkEntries {H : Type} : List (Lit × DataW H) → Nat
  | [] => 0
  | x :: r => uptoBulkEntry x + uptoBulkEntries r
def uptoBulkEntry {H : Type} : Lit × DataW H → Nat
  | (.string bytes, d) => bytes.length + uptoBulk d + 1
  | (_, d) => uptoBulk d + 1
 end
def uptoSmall : (H : Type) → List (DataW H) → Bool := fun _ ds => decide (uptoBulkAll ds ≤ 1048576)
def OpenSpec.upto (s : _root_.Go.ChangeSpec) : _root_.Go.OpenSpec := { _root_.Go.OpenSpec.ofChange s with cond := some uptoSmall }

/-- 'laws.FnMirrored', WHERE WHAT IT READS IS OF BULK AT MOST 1048576: true; the input reads as it did. -/
def fnMirroredUptoRow : OpenClaim := { program := "ytnohdgbfgdnpfaa", sum := "84ba1687624ee1a4c89257e5666211ea5fe8c33c9536157f01f80cbb41796c4e", func := "loop.example/g03229/laws.FnMirrored", spec := "fnMirrored", unfollowed := true, recurses := true, apart := false, narrowed := true }
def FnMirroredUptoSaid : Prop := fnMirroredUptoRow.holds Try.pinned (OpenSpec.upto fnMirroredSpec)

/-- 'laws.FnCausal', WHERE WHAT IT READS IS OF BULK AT MOST 1048576: true; the input reads as it did. -/
def fnCausalUptoRow : OpenClaim := { program := "ytnohdgbfgdnpfaa", sum := "84ba1687624ee1a4c89257e5666211ea5fe8c33c9536157f01f80cbb41796c4e", func := "loop.example/g03229/laws.FnCausal", spec := "fnCausal", unfollowed := true, recurses := true, apart := false, narrowed := true }
def FnCausalUptoSaid : Prop := fnCausalUptoRow.holds Try.pinned (OpenSpec.upto fnCausalSpec)

/-- 'laws.FnExactErrorsOf', WHERE WHAT IT READS IS OF BULK AT MOST 1048576: true; the input reads as it did. -/
def fnExactErrorsOfUptoRow : OpenClaim := { program := "ytnohdgbfgdnpfaa", sum := "84ba1687624ee1a4c89257e5666211ea5fe8c33c9536157f01f80cbb41796c4e", func := "loop.example/g03229/laws.FnExactErrorsOf", spec := "fnExactErrorsOf", unfollowed := true, recurses := true, apart := false, narrowed := true }
def FnExactErrorsOfUptoSaid : Prop := fnExactErrorsOfUptoRow.holds Try.pinned (OpenSpec.upto fnExactErrorsOfSpec)

/-- 'laws.FnExactDiffusePicture', WHERE WHAT IT READS IS OF BULK AT MOST 1048576: true; the input reads as it did. -/
def fnExactDiffusePictureUptoRow : OpenClaim := { program := "ytnohdgbfgdnpfaa", sum := "84ba1687624ee1a4c89257e5666211ea5fe8c33c9536157f01f80cbb41796c4e", func := "loop.example/g03229/laws.FnExactDiffusePicture", spec := "fnExactDiffusePicture", unfollowed := true, recurses := true, apart := false, narrowed := true }
def FnExactDiffusePictureUptoSaid : Prop := fnExactDiffusePictureUptoRow.holds Try.pinned (OpenSpec.upto fnExactDiffusePictureSpec)

end Rows
end Go.Proofs.Ytnohdgbfgdnpfaa
