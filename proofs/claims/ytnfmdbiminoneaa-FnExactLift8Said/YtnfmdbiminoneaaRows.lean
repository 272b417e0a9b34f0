/-
  No cell of these rows narrows 'for every input' (looked for: loops, veiled, ifaces, maps, wideKeys, modest, calm, conditions, laid).
  DERIVED. THE GIVEN ROWS OF THIS SEAT. 12 by the template 'for every input the law returns true; each argument reads behind the call as it read before'; 0 by the template 'total and deterministic' (their statements: YtnfmdbiminoneaaTotals.lean).
  GIVEN WITH THE SEED: the statements are not yours to turn. If you find one false, say at which input.
  Laid BY PROGRAM, IN A SANDBOX (cutbox-rows.mjs): the forced cells as the released guide's own fill.sh prints them over the translation 75ddcbe2e0c92353… (all of the seat's roots in one cut). By AI agents, Wed Nov 11 2026. No macro, syntax, notation, axiom, sorry.
-/
import Derived.Test.YtnfmdbiminoneaaChecked
import GoSem.Claim
import GoSem.ClaimJoined
import GoSem.ClaimMapViews
import Derived.JoinedTies
import Derived.KernelRfl
namespace Go.Proofs.Ytnfmdbiminoneaa
/- THE CELL 'sum', in the pinned program and in every row, IS THE sha256 OF THE DUMP (.gsa) THAT YtnfmdbiminoneaaProg.lean LOADS. Nothing in Lean hashes anything: it is a label: what it is worth is what the hold of that sum in a sandbox is worth. -/
noncomputable def Try.pinned : Pinned := { name := "ytnfmdbiminoneaa", sum := "75ddcbe2e0c923537f4a8123ca1a92c5849a668c28857dd0ef39e7eeb55e54f6", checked := Try.checked }
namespace Rows
def none {H : Type} : Left H := { results := [], args := [] }

/-- 'laws.FnExactSoftened': WHATEVER THE INPUT: true; the input reads as it did. -/
def fnExactSoftenedSpec : ChangeSpec := { name := "fnExactSoftened", fn := fun _ => fun
  | [d] => { results := [.lit (.bool true)], args := [d] }
  | _ => none }
def fnExactSoftenedRow : OpenClaim := { program := "ytnfmdbiminoneaa", sum := "75ddcbe2e0c923537f4a8123ca1a92c5849a668c28857dd0ef39e7eeb55e54f6", func := "loop.example/g01613/laws.FnExactSoftened", spec := "fnExactSoftened", apart := false }
def FnExactSoftenedSaid : Prop := fnExactSoftenedRow.holds Try.pinned (OpenSpec.ofChange fnExactSoftenedSpec)

/-- ITS FALSE NEIGHBOUR: 'it returns false'. Refute it at one input. -/
def fnExactSoftenedWrong : ChangeSpec := { name := "fnExactSoftened", fn := fun _ => fun
  | [d] => { results := [.lit (.bool false)], args := [d] }
  | _ => none }
def FnExactSoftenedWrongFalsely : Prop := fnExactSoftenedRow.holds Try.pinned (OpenSpec.ofChange fnExactSoftenedWrong)

/-- 'laws.FnExactColumns': WHATEVER THE INPUT: true; the input reads as it did. -/
def fnExactColumnsSpec : ChangeSpec := { name := "fnExactColumns", fn := fun _ => fun
  | [d] => { results := [.lit (.bool true)], args := [d] }
  | _ => none }
def fnExactColumnsRow : OpenClaim := { program := "ytnfmdbiminoneaa", sum := "75ddcbe2e0c923537f4a8123ca1a92c5849a668c28857dd0ef39e7eeb55e54f6", func := "loop.example/g01613/laws.FnExactColumns", spec := "fnExactColumns", apart := false }
def FnExactColumnsSaid : Prop := fnExactColumnsRow.holds Try.pinned (OpenSpec.ofChange fnExactColumnsSpec)

/-- ITS FALSE NEIGHBOUR: 'it returns false'. Refute it at one input. -/
def fnExactColumnsWrong : ChangeSpec := { name := "fnExactColumns", fn := fun _ => fun
  | [d] => { results := [.lit (.bool false)], args := [d] }
  | _ => none }
def FnExactColumnsWrongFalsely : Prop := fnExactColumnsRow.holds Try.pinned (OpenSpec.ofChange fnExactColumnsWrong)

/-- 'laws.FnExactFrameNew': WHATEVER THE INPUT: true; the input reads as it did. -/
def fnExactFrameNewSpec : ChangeSpec := { name := "fnExactFrameNew", fn := fun _ => fun
  | [d1, d2] => { results := [.lit (.bool true)], args := [d1, d2] }
  | _ => none }
def fnExactFrameNewRow : OpenClaim := { program := "ytnfmdbiminoneaa", sum := "75ddcbe2e0c923537f4a8123ca1a92c5849a668c28857dd0ef39e7eeb55e54f6", func := "loop.example/g01613/laws.FnExactFrameNew", spec := "fnExactFrameNew", apart := false }
def FnExactFrameNewSaid : Prop := fnExactFrameNewRow.holds Try.pinned (OpenSpec.ofChange fnExactFrameNewSpec)

/-- ITS FALSE NEIGHBOUR: 'it returns false'. Refute it at one input. -/
def fnExactFrameNewWrong : ChangeSpec := { name := "fnExactFrameNew", fn := fun _ => fun
  | [d1, d2] => { results := [.lit (.bool false)], args := [d1, d2] }
  | _ => none }
def FnExactFrameNewWrongFalsely : Prop := fnExactFrameNewRow.holds Try.pinned (OpenSpec.ofChange fnExactFrameNewWrong)

/-- 'laws.FnExactClipLanes': WHATEVER THE INPUT: true; the input reads as it did. -/
def fnExactClipLanesSpec : ChangeSpec := { name := "fnExactClipLanes", fn := fun _ => fun
  | [d] => { results := [.lit (.bool true)], args := [d] }
  | _ => none }
def fnExactClipLanesRow : OpenClaim := { program := "ytnfmdbiminoneaa", sum := "75ddcbe2e0c923537f4a8123ca1a92c5849a668c28857dd0ef39e7eeb55e54f6", func := "loop.example/g01613/laws.FnExactClipLanes", spec := "fnExactClipLanes", apart := false }
def FnExactClipLanesSaid : Prop := fnExactClipLanesRow.holds Try.pinned (OpenSpec.ofChange fnExactClipLanesSpec)

/-- ITS FALSE NEIGHBOUR: 'it returns false'. Refute it at one input. -/
def fnExactClipLanesWrong : ChangeSpec := { name := "fnExactClipLanes", fn := fun _ => fun
  | [d] => { results := [.lit (.bool false)], args := [d] }
  | _ => none }
def FnExactClipLanesWrongFalsely : Prop := fnExactClipLanesRow.holds Try.pinned (OpenSpec.ofChange fnExactClipLanesWrong)

/-- 'laws.FnExactClipAdd4': WHATEVER THE INPUT: true; the input reads as it did. -/
def fnExactClipAdd4Spec : ChangeSpec := { name := "fnExactClipAdd4", fn := fun _ => fun
  | [d1, d2] => { results := [.lit (.bool true)], args := [d1, d2] }
  | _ => none }
def fnExactClipAdd4Row : OpenClaim := { program := "ytnfmdbiminoneaa", sum := "75ddcbe2e0c923537f4a8123ca1a92c5849a668c28857dd0ef39e7eeb55e54f6", func := "loop.example/g01613/laws.FnExactClipAdd4", spec := "fnExactClipAdd4", apart := false }
def FnExactClipAdd4Said : Prop := fnExactClipAdd4Row.holds Try.pinned (OpenSpec.ofChange fnExactClipAdd4Spec)

/-- ITS FALSE NEIGHBOUR: 'it returns false'. Refute it at one input. -/
def fnExactClipAdd4Wrong : ChangeSpec := { name := "fnExactClipAdd4", fn := fun _ => fun
  | [d1, d2] => { results := [.lit (.bool false)], args := [d1, d2] }
  | _ => none }
def FnExactClipAdd4WrongFalsely : Prop := fnExactClipAdd4Row.holds Try.pinned (OpenSpec.ofChange fnExactClipAdd4Wrong)

/-- 'laws.FnExactLift8': WHATEVER THE INPUT: true; the input reads as it did. -/
def fnExactLift8Spec : ChangeSpec := { name := "fnExactLift8", fn := fun _ => fun
  | [d] => { results := [.lit (.bool true)], args := [d] }
  | _ => none }
def fnExactLift8Row : OpenClaim := { program := "ytnfmdbiminoneaa", sum := "75ddcbe2e0c923537f4a8123ca1a92c5849a668c28857dd0ef39e7eeb55e54f6", func := "loop.example/g01613/laws.FnExactLift8", spec := "fnExactLift8", apart := false }
def FnExactLift8Said : Prop := fnExactLift8Row.holds Try.pinned (OpenSpec.ofChange fnExactLift8Spec)

/-- ITS FALSE NEIGHBOUR: 'it returns false'. Refute it at one input. -/
def fnExactLift8Wrong : ChangeSpec := { name := "fnExactLift8", fn := fun _ => fun
  | [d] => { results := [.lit (.bool false)], args := [d] }
  | _ => none }
def FnExactLift8WrongFalsely : Prop := fnExactLift8Row.holds Try.pinned (OpenSpec.ofChange fnExactLift8Wrong)

/-- 'laws.FnExactUnpack4': WHATEVER THE INPUT: true; the input reads as it did. -/
def fnExactUnpack4Spec : ChangeSpec := { name := "fnExactUnpack4", fn := fun _ => fun
  | [d] => { results := [.lit (.bool true)], args := [d] }
  | _ => none }
def fnExactUnpack4Row : OpenClaim := { program := "ytnfmdbiminoneaa", sum := "75ddcbe2e0c923537f4a8123ca1a92c5849a668c28857dd0ef39e7eeb55e54f6", func := "loop.example/g01613/laws.FnExactUnpack4", spec := "fnExactUnpack4", apart := false }
def FnExactUnpack4Said : Prop := fnExactUnpack4Row.holds Try.pinned (OpenSpec.ofChange fnExactUnpack4Spec)

/-- ITS FALSE NEIGHBOUR: 'it returns false'. Refute it at one input. -/
def fnExactUnpack4Wrong : ChangeSpec := { name := "fnExactUnpack4", fn := fun _ => fun
  | [d] => { results := [.lit (.bool false)], args := [d] }
  | _ => none }
def FnExactUnpack4WrongFalsely : Prop := fnExactUnpack4Row.holds Try.pinned (OpenSpec.ofChange fnExactUnpack4Wrong)

/-- 'laws.FnExactEdgeOf': WHATEVER THE INPUT: true; the input reads as it did. -/
def fnExactEdgeOfSpec : ChangeSpec := { name := "fnExactEdgeOf", fn := fun _ => fun
  | [d1, d2, d3, d4, d5] => { results := [.lit (.bool true)], args := [d1, d2, d3, d4, d5] }
  | _ => none }
def fnExactEdgeOfRow : OpenClaim := { program := "ytnfmdbiminoneaa", sum := "75ddcbe2e0c923537f4a8123ca1a92c5849a668c28857dd0ef39e7eeb55e54f6", func := "loop.example/g01613/laws.FnExactEdgeOf", spec := "fnExactEdgeOf", apart := false }
def FnExactEdgeOfSaid : Prop := fnExactEdgeOfRow.holds Try.pinned (OpenSpec.ofChange fnExactEdgeOfSpec)

/-- ITS FALSE NEIGHBOUR: 'it returns false'. Refute it at one input. -/
def fnExactEdgeOfWrong : ChangeSpec := { name := "fnExactEdgeOf", fn := fun _ => fun
  | [d1, d2, d3, d4, d5] => { results := [.lit (.bool false)], args := [d1, d2, d3, d4, d5] }
  | _ => none }
def FnExactEdgeOfWrongFalsely : Prop := fnExactEdgeOfRow.holds Try.pinned (OpenSpec.ofChange fnExactEdgeOfWrong)

/-- 'laws.FnExactAddLanes': WHATEVER THE INPUT: true; the input reads as it did. -/
def fnExactAddLanesSpec : ChangeSpec := { name := "fnExactAddLanes", fn := fun _ => fun
  | [d1, d2] => { results := [.lit (.bool true)], args := [d1, d2] }
  | _ => none }
def fnExactAddLanesRow : OpenClaim := { program := "ytnfmdbiminoneaa", sum := "75ddcbe2e0c923537f4a8123ca1a92c5849a668c28857dd0ef39e7eeb55e54f6", func := "loop.example/g01613/laws.FnExactAddLanes", spec := "fnExactAddLanes", apart := false }
def FnExactAddLanesSaid : Prop := fnExactAddLanesRow.holds Try.pinned (OpenSpec.ofChange fnExactAddLanesSpec)

/-- ITS FALSE NEIGHBOUR: 'it returns false'. Refute it at one input. -/
def fnExactAddLanesWrong : ChangeSpec := { name := "fnExactAddLanes", fn := fun _ => fun
  | [d1, d2] => { results := [.lit (.bool false)], args := [d1, d2] }
  | _ => none }
def FnExactAddLanesWrongFalsely : Prop := fnExactAddLanesRow.holds Try.pinned (OpenSpec.ofChange fnExactAddLanesWrong)

/-- 'laws.FnExactResidual': WHATEVER THE INPUT: true; the input reads as it did. -/
def fnExactResidualSpec : ChangeSpec := { name := "fnExactResidual", fn := fun _ => fun
  | [d1, d2] => { results := [.lit (.bool true)], args := [d1, d2] }
  | _ => none }
def fnExactResidualRow : OpenClaim := { program := "ytnfmdbiminoneaa", sum := "75ddcbe2e0c923537f4a8123ca1a92c5849a668c28857dd0ef39e7eeb55e54f6", func := "loop.example/g01613/laws.FnExactResidual", spec := "fnExactResidual", apart := false }
def FnExactResidualSaid : Prop := fnExactResidualRow.holds Try.pinned (OpenSpec.ofChange fnExactResidualSpec)

/-- ITS FALSE NEIGHBOUR: 'it returns false'. Refute it at one input. -/
def fnExactResidualWrong : ChangeSpec := { name := "fnExactResidual", fn := fun _ => fun
  | [d1, d2] => { results := [.lit (.bool false)], args := [d1, d2] }
  | _ => none }
def FnExactResidualWrongFalsely : Prop := fnExactResidualRow.holds Try.pinned (OpenSpec.ofChange fnExactResidualWrong)

/-- 'laws.FnExactRecon': WHATEVER THE INPUT: true; the input reads as it did. -/
def fnExactReconSpec : ChangeSpec := { name := "fnExactRecon", fn := fun _ => fun
  | [d1, d2] => { results := [.lit (.bool true)], args := [d1, d2] }
  | _ => none }
def fnExactReconRow : OpenClaim := { program := "ytnfmdbiminoneaa", sum := "75ddcbe2e0c923537f4a8123ca1a92c5849a668c28857dd0ef39e7eeb55e54f6", func := "loop.example/g01613/laws.FnExactRecon", spec := "fnExactRecon", apart := false }
def FnExactReconSaid : Prop := fnExactReconRow.holds Try.pinned (OpenSpec.ofChange fnExactReconSpec)

/-- ITS FALSE NEIGHBOUR: 'it returns false'. Refute it at one input. -/
def fnExactReconWrong : ChangeSpec := { name := "fnExactRecon", fn := fun _ => fun
  | [d1, d2] => { results := [.lit (.bool false)], args := [d1, d2] }
  | _ => none }
def FnExactReconWrongFalsely : Prop := fnExactReconRow.holds Try.pinned (OpenSpec.ofChange fnExactReconWrong)

/-- 'laws.FnExactFastRecon': WHATEVER THE INPUT: true; the input reads as it did. -/
def fnExactFastReconSpec : ChangeSpec := { name := "fnExactFastRecon", fn := fun _ => fun
  | [d1, d2] => { results := [.lit (.bool true)], args := [d1, d2] }
  | _ => none }
def fnExactFastReconRow : OpenClaim := { program := "ytnfmdbiminoneaa", sum := "75ddcbe2e0c923537f4a8123ca1a92c5849a668c28857dd0ef39e7eeb55e54f6", func := "loop.example/g01613/laws.FnExactFastRecon", spec := "fnExactFastRecon", apart := false }
def FnExactFastReconSaid : Prop := fnExactFastReconRow.holds Try.pinned (OpenSpec.ofChange fnExactFastReconSpec)

/-- ITS FALSE NEIGHBOUR: 'it returns false'. Refute it at one input. -/
def fnExactFastReconWrong : ChangeSpec := { name := "fnExactFastRecon", fn := fun _ => fun
  | [d1, d2] => { results := [.lit (.bool false)], args := [d1, d2] }
  | _ => none }
def FnExactFastReconWrongFalsely : Prop := fnExactFastReconRow.holds Try.pinned (OpenSpec.ofChange fnExactFastReconWrong)

/- THE SECOND FORM. 'bulk': how many values and letters a reading holds, each counted each time it is reached (what is shared counts as often as it is met; a slice's spare places count too). A statement '..UptoSaid' is the law's where the arguments, and the package variables that the reading takes, are together of bulk at most 1048576: NARROWER than '..Said'. Prove '..Said' where nothing that the law and all that it calls make is longer than what came in: it says more and counts as full. Else prove '..UptoSaid'. A law counts once. -/
mutual
def uptoBulk {H : Type} : DataW H → Nat
  | .lit (.string bytes) => bytes.length + 1
  | .lit _ => 1
  | .nil => 1
  | .ptr d => uptoBulk d + 1
  | .slice elems spare => uptoBulkAll elems + uptoBulkAll spare + 1
  | .agg parts => uptoBulkAll parts + 1
  | .iface _ d => uptoBulk d + 1
  | .map entries => uptoBulkEntries entries + 1
  | .held _ => 1
def uptoBulkAll {H : Type} : List (DataW H) → Nat
  | [] => 0
  | d :: r => uptoBulk d + uptoBulkAll r
def uptoBulkEntries {H : Type} : List (Lit × DataW H) → Nat
  | [] => 0
  | x :: r => uptoBulkEntry x + uptoBulkEntries r
def uptoBulkEntry {H : Type} : Lit × DataW H → Nat
  | (.string bytes, d) => bytes.length + uptoBulk d + 1
  | (_, d) => uptoBulk d + 1
 end
def uptoSmall : (H : Type) → List (DataW H) → Bool := fun _ ds => decide (uptoBulkAll ds ≤ 1048576)
def OpenSpec.upto (s : _root_.Go.ChangeSpec) : _root_.Go.OpenSpec := { _root_.Go.OpenSpec.ofChange s with cond := some uptoSmall }

/-- 'laws.FnExactSoftened', WHERE WHAT IT READS IS OF BULK AT MOST 1048576: true; the input reads as it did. -/
def fnExactSoftenedUptoRow : OpenClaim := { program := "ytnfmdbiminoneaa", sum := "75ddcbe2e0c923537f4a8123ca1a92c5849a668c28857dd0ef39e7eeb55e54f6", func := "loop.example/g01613/laws.FnExactSoftened", spec := "fnExactSoftened", apart := false, narrowed := true }
def FnExactSoftenedUptoSaid : Prop := fnExactSoftenedUptoRow.holds Try.pinned (OpenSpec.upto fnExactSoftenedSpec)

/-- 'laws.FnExactColumns', WHERE WHAT IT READS IS OF BULK AT MOST 1048576: true; the input reads as it did. -/
def fnExactColumnsUptoRow : OpenClaim := { program := "ytnfmdbiminoneaa", sum := "75ddcbe2e0c923537f4a8123ca1a92c5849a668c28857dd0ef39e7eeb55e54f6", func := "loop.example/g01613/laws.FnExactColumns", spec := "fnExactColumns", apart := false, narrowed := true }
def FnExactColumnsUptoSaid : Prop := fnExactColumnsUptoRow.holds Try.pinned (OpenSpec.upto fnExactColumnsSpec)

/-- 'laws.FnExactFrameNew', WHERE WHAT IT READS IS OF BULK AT MOST 1048576: true; the input reads as it did. -/
def fnExactFrameNewUptoRow : OpenClaim := { program := "ytnfmdbiminoneaa", sum := "75ddcbe2e0c923537f4a8123ca1a92c5849a668c28857dd0ef39e7eeb55e54f6", func := "loop.example/g01613/laws.FnExactFrameNew", spec := "fnExactFrameNew", apart := false, narrowed := true }
def FnExactFrameNewUptoSaid : Prop := fnExactFrameNewUptoRow.holds Try.pinned (OpenSpec.upto fnExactFrameNewSpec)

/-- 'laws.FnExactClipLanes', WHERE WHAT IT READS IS OF BULK AT MOST 1048576: true; the input reads as it did. -/
def fnExactClipLanesUptoRow : OpenClaim := { program := "ytnfmdbiminoneaa", sum := "75ddcbe2e0c923537f4a8123ca1a92c5849a668c28857dd0ef39e7eeb55e54f6", func := "loop.example/g01613/laws.FnExactClipLanes", spec := "fnExactClipLanes", apart := false, narrowed := true }
def FnExactClipLanesUptoSaid : Prop := fnExactClipLanesUptoRow.holds Try.pinned (OpenSpec.upto fnExactClipLanesSpec)

/-- 'laws.FnExactClipAdd4', WHERE WHAT IT READS IS OF BULK AT MOST 1048576: true; the input reads as it did. -/
def fnExactClipAdd4UptoRow : OpenClaim := { program := "ytnfmdbiminoneaa", sum := "75ddcbe2e0c923537f4a8123ca1a92c5849a668c28857dd0ef39e7eeb55e54f6", func := "loop.example/g01613/laws.FnExactClipAdd4", spec := "fnExactClipAdd4", apart := false, narrowed := true }
def FnExactClipAdd4UptoSaid : Prop := fnExactClipAdd4UptoRow.holds Try.pinned (OpenSpec.upto fnExactClipAdd4Spec)

/-- 'laws.FnExactLift8', WHERE WHAT IT READS IS OF BULK AT MOST 1048576: true; the input reads as it did. -/
def fnExactLift8UptoRow : OpenClaim := { program := "ytnfmdbiminoneaa", sum := "75ddcbe2e0c923537f4a8123ca1a92c5849a668c28857dd0ef39e7eeb55e54f6", func := "loop.example/g01613/laws.FnExactLift8", spec := "fnExactLift8", apart := false, narrowed := true }
def FnExactLift8UptoSaid : Prop := fnExactLift8UptoRow.holds Try.pinned (OpenSpec.upto fnExactLift8Spec)

/-- 'laws.FnExactUnpack4', WHERE WHAT IT READS IS OF BULK AT MOST 1048576: true; the input reads as it did. -/
def fnExactUnpack4UptoRow : OpenClaim := { program := "ytnfmdbiminoneaa", sum := "75ddcbe2e0c923537f4a8123ca1a92c5849a668c28857dd0ef39e7eeb55e54f6", func := "loop.example/g01613/laws.FnExactUnpack4", spec := "fnExactUnpack4", apart := false, narrowed := true }
def FnExactUnpack4UptoSaid : Prop := fnExactUnpack4UptoRow.holds Try.pinned (OpenSpec.upto fnExactUnpack4Spec)

/-- 'laws.FnExactEdgeOf', WHERE WHAT IT READS IS OF BULK AT MOST 1048576: true; the input reads as it did. -/
def fnExactEdgeOfUptoRow : OpenClaim := { program := "ytnfmdbiminoneaa", sum := "75ddcbe2e0c923537f4a8123ca1a92c5849a668c28857dd0ef39e7eeb55e54f6", func := "loop.example/g01613/laws.FnExactEdgeOf", spec := "fnExactEdgeOf", apart := false, narrowed := true }
def FnExactEdgeOfUptoSaid : Prop := fnExactEdgeOfUptoRow.holds Try.pinned (OpenSpec.upto fnExactEdgeOfSpec)

/-- 'laws.FnExactAddLanes', WHERE WHAT IT READS IS OF BULK AT MOST 1048576: true; the input reads as it did. -/
def fnExactAddLanesUptoRow : OpenClaim := { program := "ytnfmdbiminoneaa", sum := "75ddcbe2e0c923537f4a8123ca1a92c5849a668c28857dd0ef39e7eeb55e54f6", func := "loop.example/g01613/laws.FnExactAddLanes", spec := "fnExactAddLanes", apart := false, narrowed := true }
def FnExactAddLanesUptoSaid : Prop := fnExactAddLanesUptoRow.holds Try.pinned (OpenSpec.upto fnExactAddLanesSpec)

/-- 'laws.FnExactResidual', WHERE WHAT IT READS IS OF BULK AT MOST 1048576: true; the input reads as it did. -/
def fnExactResidualUptoRow : OpenClaim := { program := "ytnfmdbiminoneaa", sum := "75ddcbe2e0c923537f4a8123ca1a92c5849a668c28857dd0ef39e7eeb55e54f6", func := "loop.example/g01613/laws.FnExactResidual", spec := "fnExactResidual", apart := false, narrowed := true }
def FnExactResidualUptoSaid : Prop := fnExactResidualUptoRow.holds Try.pinned (OpenSpec.upto fnExactResidualSpec)

/-- 'laws.FnExactRecon', WHERE WHAT IT READS IS OF BULK AT MOST 1048576: true; the input reads as it did. -/
def fnExactReconUptoRow : OpenClaim := { program := "ytnfmdbiminoneaa", sum := "75ddcbe2e0c923537f4a8123ca1a92c5849a668c28857dd0ef39e7eeb55e54f6", func := "loop.example/g01613/laws.FnExactRecon", spec := "fnExactRecon", apart := false, narrowed := true }
def FnExactReconUptoSaid : Prop := fnExactReconUptoRow.holds Try.pinned (OpenSpec.upto fnExactReconSpec)

/-- 'laws.FnExactFastRecon', WHERE WHAT IT READS IS OF BULK AT MOST 1048576: true; the input reads as it did. -/
def fnExactFastReconUptoRow : OpenClaim := { program := "ytnfmdbiminoneaa", sum := "75ddcbe2e0c923537f4a8123ca1a92c5849a668c28857dd0ef39e7eeb55e54f6", func := "loop.example/g01613/laws.FnExactFastRecon", spec := "fnExactFastRecon", apart := false, narrowed := true }
def FnExactFastReconUptoSaid : Prop := fnExactFastReconUptoRow.holds Try.pinned (OpenSpec.upto fnExactFastReconSpec)

end Rows
end Go.Proofs.Ytnfmdbiminoneaa
