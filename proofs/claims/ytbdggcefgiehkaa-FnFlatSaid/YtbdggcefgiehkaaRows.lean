/-
  No cell of these rows narrows 'for every input' (looked for: loops, veiled, ifaces, maps, wideKeys, modest, calm, conditions, laid).
  DERIVED. THE GIVEN ROWS OF THIS SEAT. 6 by the template 'for every input the law returns true; each argument reads behind the call as it read before'; 0 by the template 'total and deterministic' (their statements: YtbdggcefgiehkaaTotals.lean).
  GIVEN WITH THE SEED: the statements are not yours to turn. If you find one false, say at which input.
  Laid BY PROGRAM, IN A SANDBOX (cutbox-rows.mjs): the forced cells as the released guide's own fill.sh prints them over the translation ed27fa29ef9887ab… (all of the seat's roots in one cut). By AI agents, Wed Nov 11 2026. No macro, syntax, notation, axiom, sorry.
-/
import Derived.Test.YtbdggcefgiehkaaChecked
import GoSem.Claim
import GoSem.ClaimJoined
import GoSem.ClaimMapViews
import Derived.JoinedTies
import Derived.KernelRfl
namespace Go.Proofs.Ytbdggcefgiehkaa
/- THE CELL 'sum', in the pinned program and in every row, IS THE sha256 OF THE DUMP (.gsa) THAT YtbdggcefgiehkaaProg.lean LOADS. Nothing in Lean hashes anything: it is a label: what it is worth is what the hold of that sum in a sandbox is worth. -/
noncomputable def Try.pinned : Pinned := { name := "ytbdggcefgiehkaa", sum := "ed27fa29ef9887abfe40327e8f063154c1f9e0af6ea7e9391e2867c37402fc4f", checked := Try.checked }
namespace Rows
def none {H : Type} : Left H := { results := [], args := [] }

/-- 'laws.FnFlat': WHATEVER THE INPUT: true; the input reads as it did. -/
def fnFlatSpec : ChangeSpec := { name := "fnFlat", fn := fun _ => fun
  | [d] => { results := [.lit (.bool true)], args := [d] }
  | _ => none }
def fnFlatRow : OpenClaim := { program := "ytbdggcefgiehkaa", sum := "ed27fa29ef9887abfe40327e8f063154c1f9e0af6ea7e9391e2867c37402fc4f", func := "loop.example/g01613/laws.FnFlat", spec := "fnFlat", apart := false }
def FnFlatSaid : Prop := fnFlatRow.holds Try.pinned (OpenSpec.ofChange fnFlatSpec)

/-- ITS FALSE NEIGHBOUR: 'it returns false'. Refute it at one input. -/
def fnFlatWrong : ChangeSpec := { name := "fnFlat", fn := fun _ => fun
  | [d] => { results := [.lit (.bool false)], args := [d] }
  | _ => none }
def FnFlatWrongFalsely : Prop := fnFlatRow.holds Try.pinned (OpenSpec.ofChange fnFlatWrong)

/-- 'laws.FnSoft': WHATEVER THE INPUT: true; the input reads as it did. -/
def fnSoftSpec : ChangeSpec := { name := "fnSoft", fn := fun _ => fun
  | [d] => { results := [.lit (.bool true)], args := [d] }
  | _ => none }
def fnSoftRow : OpenClaim := { program := "ytbdggcefgiehkaa", sum := "ed27fa29ef9887abfe40327e8f063154c1f9e0af6ea7e9391e2867c37402fc4f", func := "loop.example/g01613/laws.FnSoft", spec := "fnSoft", apart := false }
def FnSoftSaid : Prop := fnSoftRow.holds Try.pinned (OpenSpec.ofChange fnSoftSpec)

/-- ITS FALSE NEIGHBOUR: 'it returns false'. Refute it at one input. -/
def fnSoftWrong : ChangeSpec := { name := "fnSoft", fn := fun _ => fun
  | [d] => { results := [.lit (.bool false)], args := [d] }
  | _ => none }
def FnSoftWrongFalsely : Prop := fnSoftRow.holds Try.pinned (OpenSpec.ofChange fnSoftWrong)

/-- 'laws.FnPredicted': WHATEVER THE INPUT: true; the input reads as it did. -/
def fnPredictedSpec : ChangeSpec := { name := "fnPredicted", fn := fun _ => fun
  | [d] => { results := [.lit (.bool true)], args := [d] }
  | _ => none }
def fnPredictedRow : OpenClaim := { program := "ytbdggcefgiehkaa", sum := "ed27fa29ef9887abfe40327e8f063154c1f9e0af6ea7e9391e2867c37402fc4f", func := "loop.example/g01613/laws.FnPredicted", spec := "fnPredicted", apart := false }
def FnPredictedSaid : Prop := fnPredictedRow.holds Try.pinned (OpenSpec.ofChange fnPredictedSpec)

/-- ITS FALSE NEIGHBOUR: 'it returns false'. Refute it at one input. -/
def fnPredictedWrong : ChangeSpec := { name := "fnPredicted", fn := fun _ => fun
  | [d] => { results := [.lit (.bool false)], args := [d] }
  | _ => none }
def FnPredictedWrongFalsely : Prop := fnPredictedRow.holds Try.pinned (OpenSpec.ofChange fnPredictedWrong)

/-- 'laws.FnLanes': WHATEVER THE INPUT: true; the input reads as it did. -/
def fnLanesSpec : ChangeSpec := { name := "fnLanes", fn := fun _ => fun
  | [d] => { results := [.lit (.bool true)], args := [d] }
  | _ => none }
def fnLanesRow : OpenClaim := { program := "ytbdggcefgiehkaa", sum := "ed27fa29ef9887abfe40327e8f063154c1f9e0af6ea7e9391e2867c37402fc4f", func := "loop.example/g01613/laws.FnLanes", spec := "fnLanes", apart := false }
def FnLanesSaid : Prop := fnLanesRow.holds Try.pinned (OpenSpec.ofChange fnLanesSpec)

/-- ITS FALSE NEIGHBOUR: 'it returns false'. Refute it at one input. -/
def fnLanesWrong : ChangeSpec := { name := "fnLanes", fn := fun _ => fun
  | [d] => { results := [.lit (.bool false)], args := [d] }
  | _ => none }
def FnLanesWrongFalsely : Prop := fnLanesRow.holds Try.pinned (OpenSpec.ofChange fnLanesWrong)

/-- 'laws.FnClipped': WHATEVER THE INPUT: true; the input reads as it did. -/
def fnClippedSpec : ChangeSpec := { name := "fnClipped", fn := fun _ => fun
  | [d] => { results := [.lit (.bool true)], args := [d] }
  | _ => none }
def fnClippedRow : OpenClaim := { program := "ytbdggcefgiehkaa", sum := "ed27fa29ef9887abfe40327e8f063154c1f9e0af6ea7e9391e2867c37402fc4f", func := "loop.example/g01613/laws.FnClipped", spec := "fnClipped", apart := false }
def FnClippedSaid : Prop := fnClippedRow.holds Try.pinned (OpenSpec.ofChange fnClippedSpec)

/-- ITS FALSE NEIGHBOUR: 'it returns false'. Refute it at one input. -/
def fnClippedWrong : ChangeSpec := { name := "fnClipped", fn := fun _ => fun
  | [d] => { results := [.lit (.bool false)], args := [d] }
  | _ => none }
def FnClippedWrongFalsely : Prop := fnClippedRow.holds Try.pinned (OpenSpec.ofChange fnClippedWrong)

/-- 'laws.FnDiffs': WHATEVER THE INPUT: true; the input reads as it did. -/
def fnDiffsSpec : ChangeSpec := { name := "fnDiffs", fn := fun _ => fun
  | [d] => { results := [.lit (.bool true)], args := [d] }
  | _ => none }
def fnDiffsRow : OpenClaim := { program := "ytbdggcefgiehkaa", sum := "ed27fa29ef9887abfe40327e8f063154c1f9e0af6ea7e9391e2867c37402fc4f", func := "loop.example/g01613/laws.FnDiffs", spec := "fnDiffs", apart := false }
def FnDiffsSaid : Prop := fnDiffsRow.holds Try.pinned (OpenSpec.ofChange fnDiffsSpec)

/-- ITS FALSE NEIGHBOUR: 'it returns false'. Refute it at one input. -/
def fnDiffsWrong : ChangeSpec := { name := "fnDiffs", fn := fun _ => fun
  | [d] => { results := [.lit (.bool false)], args := [d] }
  | _ => none }
def FnDiffsWrongFalsely : Prop := fnDiffsRow.holds Try.pinned (OpenSpec.ofChange fnDiffsWrong)

/- THE SECOND FORM. 'bulk': how many values and letters a reading holds, each counted each time it is reached (what is shared counts as often as it is met; a slice's spare places count too). A statement '..UptoSaid' is the law's where the arguments, and the package variables that the reading takes, are together of bulk at most 1048576: NARROWER than '..Said'. Prove '..Said' where nothing that the law and all that it calls make is longer than what came in: it says more and counts as full. Else prove '..UptoSaid'. A law counts once. -/
mutual
def uptoBulk {H : Type} : DataW H → Nat
  | .lit (.string bytes) => bytes.length + 1
  | .lit _ => 1
  | .nil => 1
  | .ptr d => uptoBulk d + 1
  | .slice elems spare => uptoBulkAll elems + uptoBulkAll spare + 1
  | .agg parts => uptoBulkAll parts + 1
  | .iface _ d => uptoBulk d + 1
  | .map entries => uptoBulkEntries entries + 1
  | .held _ => 1
def uptoBulkAll {H : Type} : List (DataW H) → Nat
  | [] => 0
  | d :: r => uptoBulk d + uptoBulkAll r
def uptoBulkEntries {H : Type} : List (Lit × DataW H) → Nat
  | [] => 0
  | x :: r => uptoBulkEntry x + uptoBulkEntries r
def uptoBulkEntry {H : Type} : Lit × DataW H → Nat
  | (.string bytes, d) => bytes.length + uptoBulk d + 1
  | (_, d) => uptoBulk d + 1
 end
def uptoSmall : (H : Type) → List (DataW H) → Bool := fun _ ds => decide (uptoBulkAll ds ≤ 1048576)
def OpenSpec.upto (s : _root_.Go.ChangeSpec) : _root_.Go.OpenSpec := { _root_.Go.OpenSpec.ofChange s with cond := some uptoSmall }

/-- 'laws.FnFlat', WHERE WHAT IT READS IS OF BULK AT MOST 1048576: true; the input reads as it did. -/
def fnFlatUptoRow : OpenClaim := { program := "ytbdggcefgiehkaa", sum := "ed27fa29ef9887abfe40327e8f063154c1f9e0af6ea7e9391e2867c37402fc4f", func := "loop.example/g01613/laws.FnFlat", spec := "fnFlat", apart := false, narrowed := true }
def FnFlatUptoSaid : Prop := fnFlatUptoRow.holds Try.pinned (OpenSpec.upto fnFlatSpec)

/-- 'laws.FnSoft', WHERE WHAT IT READS IS OF BULK AT MOST 1048576: true; the input reads as it did. -/
def fnSoftUptoRow : OpenClaim := { program := "ytbdggcefgiehkaa", sum := "ed27fa29ef9887abfe40327e8f063154c1f9e0af6ea7e9391e2867c37402fc4f", func := "loop.example/g01613/laws.FnSoft", spec := "fnSoft", apart := false, narrowed := true }
def FnSoftUptoSaid : Prop := fnSoftUptoRow.holds Try.pinned (OpenSpec.upto fnSoftSpec)

/-- 'laws.FnPredicted', WHERE WHAT IT READS IS OF BULK AT MOST 1048576: true; the input reads as it did. -/
def fnPredictedUptoRow : OpenClaim := { program := "ytbdggcefgiehkaa", sum := "ed27fa29ef9887abfe40327e8f063154c1f9e0af6ea7e9391e2867c37402fc4f", func := "loop.example/g01613/laws.FnPredicted", spec := "fnPredicted", apart := false, narrowed := true }
def FnPredictedUptoSaid : Prop := fnPredictedUptoRow.holds Try.pinned (OpenSpec.upto fnPredictedSpec)

/-- 'laws.FnLanes', WHERE WHAT IT READS IS OF BULK AT MOST 1048576: true; the input reads as it did. -/
def fnLanesUptoRow : OpenClaim := { program := "ytbdggcefgiehkaa", sum := "ed27fa29ef9887abfe40327e8f063154c1f9e0af6ea7e9391e2867c37402fc4f", func := "loop.example/g01613/laws.FnLanes", spec := "fnLanes", apart := false, narrowed := true }
def FnLanesUptoSaid : Prop := fnLanesUptoRow.holds Try.pinned (OpenSpec.upto fnLanesSpec)

/-- 'laws.FnClipped', WHERE WHAT IT READS IS OF BULK AT MOST 1048576: true; the input reads as it did. -/
def fnClippedUptoRow : OpenClaim := { program := "ytbdggcefgiehkaa", sum := "ed27fa29ef9887abfe40327e8f063154c1f9e0af6ea7e9391e2867c37402fc4f", func := "loop.example/g01613/laws.FnClipped", spec := "fnClipped", apart := false, narrowed := true }
def FnClippedUptoSaid : Prop := fnClippedUptoRow.holds Try.pinned (OpenSpec.upto fnClippedSpec)

/-- 'laws.FnDiffs', WHERE WHAT IT READS IS OF BULK AT MOST 1048576: true; the input reads as it did. -/
def fnDiffsUptoRow : OpenClaim := { program := "ytbdggcefgiehkaa", sum := "ed27fa29ef9887abfe40327e8f063154c1f9e0af6ea7e9391e2867c37402fc4f", func := "loop.example/g01613/laws.FnDiffs", spec := "fnDiffs", apart := false, narrowed := true }
def FnDiffsUptoSaid : Prop := fnDiffsUptoRow.holds Try.pinned (OpenSpec.upto fnDiffsSpec)

end Rows
end Go.Proofs.Ytbdggcefgiehkaa
