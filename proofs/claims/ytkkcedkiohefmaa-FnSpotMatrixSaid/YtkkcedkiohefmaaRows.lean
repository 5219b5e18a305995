/-
  No cell of these rows narrows 'for every input' (looked for: loops, veiled, ifaces, maps, wideKeys, modest, calm, conditions, laid).
  DERIVED. THE GIVEN ROWS OF THIS SEAT. 5 by the template 'for every input the law returns true; each argument reads behind the call as it read before'; 0 by the template 'total and deterministic' (their statements: YtkkcedkiohefmaaTotals.lean).
  GIVEN WITH THE SEED: the statements are not yours to turn. If you find one false, say at which input.
  Laid BY PROGRAM, IN A SANDBOX (cutbox-rows.mjs): the forced cells as the released guide's own fill.sh prints them over the translation de587472de0bc647… (all of the seat's roots in one cut). By AI agents, Wed Nov 11 2026. No macro, syntax, notation, axiom, sorry.
-/
import Derived.Test.YtkkcedkiohefmaaChecked
import GoSem.Claim
import GoSem.ClaimJoined
import GoSem.ClaimMapViews
import Derived.JoinedTies
import Derived.KernelRfl
namespace Go.Proofs.Ytkkcedkiohefmaa
/- THE CELL 'sum', in the pinned program and in every row, IS THE sha256 OF THE DUMP (.gsa) THAT YtkkcedkiohefmaaProg.lean LOADS. Nothing in Lean hashes anything: it is a label: what it is worth is what the hold of that sum in a sandbox is worth. -/
noncomputable def Try.pinned : Pinned := { name := "ytkkcedkiohefmaa", sum := "de587472de0bc647a0700c7de0cdf2be8379f078aa5fa4b74f8d08c28cc3af2a", checked := Try.checked }
namespace Rows
def none {H : Type} : Left H := { results := [], args := [] }

/-- 'laws.FnSpots': WHATEVER THE INPUT: true; the input reads as it did. -/
def fnSpotsSpec : ChangeSpec := { name := "fnSpots", fn := fun _ => fun
  | [d] => { results := [.lit (.bool true)], args := [d] }
  | _ => none }
def fnSpotsRow : OpenClaim := { program := "ytkkcedkiohefmaa", sum := "de587472de0bc647a0700c7de0cdf2be8379f078aa5fa4b74f8d08c28cc3af2a", func := "loop.example/g03229/laws.FnSpots", spec := "fnSpots", unfollowed := true, recurses := true, apart := false }
def FnSpotsSaid : Prop := fnSpotsRow.holds Try.pinned (OpenSpec.ofChange fnSpotsSpec)

/-- ITS FALSE NEIGHBOUR: 'it returns false'. Refute it at one input. -/
def fnSpotsWrong : ChangeSpec := { name := "fnSpots", fn := fun _ => fun
  | [d] => { results := [.lit (.bool false)], args := [d] }
  | _ => none }
def FnSpotsWrongFalsely : Prop := fnSpotsRow.holds Try.pinned (OpenSpec.ofChange fnSpotsWrong)

/-- 'laws.FnSpotMatrix': WHATEVER THE INPUT: true; the input reads as it did. -/
def fnSpotMatrixSpec : ChangeSpec := { name := "fnSpotMatrix", fn := fun _ => fun
  | [d] => { results := [.lit (.bool true)], args := [d] }
  | _ => none }
def fnSpotMatrixRow : OpenClaim := { program := "ytkkcedkiohefmaa", sum := "de587472de0bc647a0700c7de0cdf2be8379f078aa5fa4b74f8d08c28cc3af2a", func := "loop.example/g03229/laws.FnSpotMatrix", spec := "fnSpotMatrix", unfollowed := true, recurses := true, apart := false }
def FnSpotMatrixSaid : Prop := fnSpotMatrixRow.holds Try.pinned (OpenSpec.ofChange fnSpotMatrixSpec)

/-- ITS FALSE NEIGHBOUR: 'it returns false'. Refute it at one input. -/
def fnSpotMatrixWrong : ChangeSpec := { name := "fnSpotMatrix", fn := fun _ => fun
  | [d] => { results := [.lit (.bool false)], args := [d] }
  | _ => none }
def FnSpotMatrixWrongFalsely : Prop := fnSpotMatrixRow.holds Try.pinned (OpenSpec.ofChange fnSpotMatrixWrong)

/-- 'laws.FnExactSpotRanks': WHATEVER THE INPUT: true; the input reads as it did. -/
def fnExactSpotRanksSpec : ChangeSpec := { name := "fnExactSpotRanks", fn := fun _ => fun
  | [d] => { results := [.lit (.bool true)], args := [d] }
  | _ => none }
def fnExactSpotRanksRow : OpenClaim := { program := "ytkkcedkiohefmaa", sum := "de587472de0bc647a0700c7de0cdf2be8379f078aa5fa4b74f8d08c28cc3af2a", func := "loop.example/g03229/laws.FnExactSpotRanks", spec := "fnExactSpotRanks", unfollowed := true, recurses := true, apart := false }
def FnExactSpotRanksSaid : Prop := fnExactSpotRanksRow.holds Try.pinned (OpenSpec.ofChange fnExactSpotRanksSpec)

/-- ITS FALSE NEIGHBOUR: 'it returns false'. Refute it at one input. -/
def fnExactSpotRanksWrong : ChangeSpec := { name := "fnExactSpotRanks", fn := fun _ => fun
  | [d] => { results := [.lit (.bool false)], args := [d] }
  | _ => none }
def FnExactSpotRanksWrongFalsely : Prop := fnExactSpotRanksRow.holds Try.pinned (OpenSpec.ofChange fnExactSpotRanksWrong)

/-- 'laws.FnExactSpotPlate': WHATEVER THE INPUT: true; the input reads as it did. -/
def fnExactSpotPlateSpec : ChangeSpec := { name := "fnExactSpotPlate", fn := fun _ => fun
  | [d1, d2, d3, d4] => { results := [.lit (.bool true)], args := [d1, d2, d3, d4] }
  | _ => none }
def fnExactSpotPlateRow : OpenClaim := { program := "ytkkcedkiohefmaa", sum := "de587472de0bc647a0700c7de0cdf2be8379f078aa5fa4b74f8d08c28cc3af2a", func := "loop.example/g03229/laws.FnExactSpotPlate", spec := "fnExactSpotPlate", unfollowed := true, recurses := true, apart := false }
def FnExactSpotPlateSaid : Prop := fnExactSpotPlateRow.holds Try.pinned (OpenSpec.ofChange fnExactSpotPlateSpec)

/-- ITS FALSE NEIGHBOUR: 'it returns false'. Refute it at one input. -/
def fnExactSpotPlateWrong : ChangeSpec := { name := "fnExactSpotPlate", fn := fun _ => fun
  | [d1, d2, d3, d4] => { results := [.lit (.bool false)], args := [d1, d2, d3, d4] }
  | _ => none }
def FnExactSpotPlateWrongFalsely : Prop := fnExactSpotPlateRow.holds Try.pinned (OpenSpec.ofChange fnExactSpotPlateWrong)

/-- 'laws.FnExactSpotMatrix': WHATEVER THE INPUT: true; the input reads as it did. -/
def fnExactSpotMatrixSpec : ChangeSpec := { name := "fnExactSpotMatrix", fn := fun _ => fun
  | [d] => { results := [.lit (.bool true)], args := [d] }
  | _ => none }
def fnExactSpotMatrixRow : OpenClaim := { program := "ytkkcedkiohefmaa", sum := "de587472de0bc647a0700c7de0cdf2be8379f078aa5fa4b74f8d08c28cc3af2a", func := "loop.example/g03229/laws.FnExactSpotMatrix", spec := "fnExactSpotMatrix", unfollowed := true, recurses := true, apart := false }
def FnExactSpotMatrixSaid : Prop := fnExactSpotMatrixRow.holds Try.pinned (OpenSpec.ofChange fnExactSpotMatrixSpec)

/-- ITS FALSE NEIGHBOUR: 'it returns false'. Refute it at one input. -/
def fnExactSpotMatrixWrong : ChangeSpec := { name := "fnExactSpotMatrix", fn := fun _ => fun
  | [d] => { results := [.lit (.bool false)], args := [d] }
  | _ => none }
def FnExactSpotMatrixWrongFalsely : Prop := fnExactSpotMatrixRow.holds Try.pinned (OpenSpec.ofChange fnExactSpotMatrixWrong)

/- THE SECOND FORM. 'bulk': how many values and letters a reading holds, each counted each time it is reached (what is shared counts as often as it is met; a slice's spare places count too). A statement '..UptoSaid' is the law's where the arguments, and the package variables that the reading takes, are together of bulk at most 1048576: NARROWER than '..Said'. Prove '..Said' where nothing that the law and all that it calls make is longer than what came in: it says more and counts as full. Else prove '..UptoSaid'. A law counts once. -/
mutual
def uptoBulk {H : Type} : DataW H → Nat
  | .lit (.string bytes) => bytes.length + 1
  | .lit _ => 1
  | .nil => 1
  | .ptr d => uptoBulk d + 1
  | .slice elems spare => uptoBulkAll elems + uptoBulkAll spare + 1
  | .agg parts => uptoBulkAll parts + 1
  | .iface _ d => uptoBulk d + 1
  | .map entries => uptoBulkEntries entries + 1
  | .held _ => 1
def uptoBulkAll {H : Type} : List (DataW H) → Nat
  | [] => 0
  | d :: r => uptoBulk d + uptoBulkAll r
def uptoBulkEntries {H : Type} : List (Lit × DataW H) → Nat
  | [] => 0
  | x :: r => uptoBulkEntry x + uptoBulkEntries r
def uptoBulkEntry {H : Type} : Lit × DataW H → Nat
  | (.string bytes, d) => bytes.length + uptoBulk d + 1
  | (_, d) => uptoBulk d + 1
 end
def uptoSmall : (H : Type) → List (DataW H) → Bool := fun _ ds => decide (uptoBulkAll ds ≤ 1048576)
def OpenSpec.upto (s : _root_.Go.ChangeSpec) : _root_.Go.OpenSpec := { _root_.Go.OpenSpec.ofChange s with cond := some uptoSmall }

/-- 'laws.FnSpots', WHERE WHAT IT READS IS OF BULK AT MOST 1048576: true; the input reads as it did. -/
def fnSpotsUptoRow : OpenClaim := { program := "ytkkcedkiohefmaa", sum := "de587472de0bc647a0700c7de0cdf2be8379f078aa5fa4b74f8d08c28cc3af2a", func := "loop.example/g03229/laws.FnSpots", spec := "fnSpots", unfollowed := true, recurses := true, apart := false, narrowed := true }
def FnSpotsUptoSaid : Prop := fnSpotsUptoRow.holds Try.pinned (OpenSpec.upto fnSpotsSpec)

/-- 'laws.FnSpotMatrix', WHERE WHAT IT READS IS OF BULK AT MOST 1048576: true; the input reads as it did. -/
def fnSpotMatrixUptoRow : OpenClaim := { program := "ytkkcedkiohefmaa", sum := "de587472de0bc647a0700c7de0cdf2be8379f078aa5fa4b74f8d08c28cc3af2a", func := "loop.example/g03229/laws.FnSpotMatrix", spec := "fnSpotMatrix", unfollowed := true, recurses := true, apart := false, narrowed := true }
def FnSpotMatrixUptoSaid : Prop := fnSpotMatrixUptoRow.holds Try.pinned (OpenSpec.upto fnSpotMatrixSpec)

/-- 'laws.FnExactSpotRanks', WHERE WHAT IT READS IS OF BULK AT MOST 1048576: true; the input reads as it did. -/
def fnExactSpotRanksUptoRow : OpenClaim := { program := "ytkkcedkiohefmaa", sum := "de587472de0bc647a0700c7de0cdf2be8379f078aa5fa4b74f8d08c28cc3af2a", func := "loop.example/g03229/laws.FnExactSpotRanks", spec := "fnExactSpotRanks", unfollowed := true, recurses := true, apart := false, narrowed := true }
def FnExactSpotRanksUptoSaid : Prop := fnExactSpotRanksUptoRow.holds Try.pinned (OpenSpec.upto fnExactSpotRanksSpec)

/-- 'laws.FnExactSpotPlate', WHERE WHAT IT READS IS OF BULK AT MOST 1048576: true; the input reads as it did. -/
def fnExactSpotPlateUptoRow : OpenClaim := { program := "ytkkcedkiohefmaa", sum := "de587472de0bc647a0700c7de0cdf2be8379f078aa5fa4b74f8d08c28cc3af2a", func := "loop.example/g03229/laws.FnExactSpotPlate", spec := "fnExactSpotPlate", unfollowed := true, recurses := true, apart := false, narrowed := true }
def FnExactSpotPlateUptoSaid : Prop := fnExactSpotPlateUptoRow.holds Try.pinned (OpenSpec.upto fnExactSpotPlateSpec)

/-- 'laws.FnExactSpotMatrix', WHERE WHAT IT READS IS OF BULK AT MOST 1048576: true; the input reads as it did. -/
def fnExactSpotMatrixUptoRow : OpenClaim := { program := "ytkkcedkiohefmaa", sum := "de587472de0bc647a0700c7de0cdf2be8379f078aa5fa4b74f8d08c28cc3af2a", func := "loop.example/g03229/laws.FnExactSpotMatrix", spec := "fnExactSpotMatrix", unfollowed := true, recurses := true, apart := false, narrowed := true }
def FnExactSpotMatrixUptoSaid : Prop := fnExactSpotMatrixUptoRow.holds Try.pinned (OpenSpec.upto fnExactSpotMatrixSpec)

end Rows
end Go.Proofs.Ytkkcedkiohefmaa
