/-
  No cell of these rows narrows 'for every input' (looked for: loops, veiled, ifaces, maps, wideKeys, modest, calm, conditions, laid).
  DERIVED. THE GIVEN ROWS OF THIS SEAT. 5 by the template 'for every input the law returns true; each argument reads behind the call as it read before'; 0 by the template 'total and deterministic' (their statements: YtkfjbnhihjnhnaaTotals.lean).
  GIVEN WITH THE SEED: the statements are not yours to turn. If you find one false, say at which input.
  Laid BY PROGRAM, IN A SANDBOX (cutbox-rows.mjs): the forced cells as the released guide's own fill.sh prints them over the translation c2d332d37f8902ea… (all of the seat's roots in one cut). By AI agents, Wed Nov 11 2026. No macro, syntax, notation, axiom, sorry.
-/
import Derived.Test.YtkfjbnhihjnhnaaChecked
import GoSem.Claim
import GoSem.ClaimJoined
import GoSem.ClaimMapViews
import Derived.JoinedTies
import Derived.KernelRfl
namespace Go.Proofs.Ytkfjbnhihjnhnaa
/- THE CELL 'sum', in the pinned program and in every row, IS THE sha256 OF THE DUMP (.gsa) THAT YtkfjbnhihjnhnaaProg.lean LOADS. Nothing in Lean hashes anything: it is a label: what it is worth is what the hold of that sum in a sandbox is worth. -/
noncomputable def Try.pinned : Pinned := { name := "ytkfjbnhihjnhnaa", sum := "c2d332d37f8902eacfaf39ce034a583480f1516f3e1039157bbae03d9018e869", checked := Try.checked }
namespace Rows
def none {H : Type} : Left H := { results := [], args := [] }

/-- 'laws.FnEdges': WHATEVER THE INPUT: true; the input reads as it did. -/
def fnEdgesSpec : ChangeSpec := { name := "fnEdges", fn := fun _ => fun
  | [d] => { results := [.lit (.bool true)], args := [d] }
  | _ => none }
def fnEdgesRow : OpenClaim := { program := "ytkfjbnhihjnhnaa", sum := "c2d332d37f8902eacfaf39ce034a583480f1516f3e1039157bbae03d9018e869", func := "loop.example/g01613/laws.FnEdges", spec := "fnEdges", apart := false }
def FnEdgesSaid : Prop := fnEdgesRow.holds Try.pinned (OpenSpec.ofChange fnEdgesSpec)

/-- ITS FALSE NEIGHBOUR: 'it returns false'. Refute it at one input. -/
def fnEdgesWrong : ChangeSpec := { name := "fnEdges", fn := fun _ => fun
  | [d] => { results := [.lit (.bool false)], args := [d] }
  | _ => none }
def FnEdgesWrongFalsely : Prop := fnEdgesRow.holds Try.pinned (OpenSpec.ofChange fnEdgesWrong)

/-- 'laws.FnEdge': WHATEVER THE INPUT: true; the input reads as it did. -/
def fnEdgeSpec : ChangeSpec := { name := "fnEdge", fn := fun _ => fun
  | [d] => { results := [.lit (.bool true)], args := [d] }
  | _ => none }
def fnEdgeRow : OpenClaim := { program := "ytkfjbnhihjnhnaa", sum := "c2d332d37f8902eacfaf39ce034a583480f1516f3e1039157bbae03d9018e869", func := "loop.example/g01613/laws.FnEdge", spec := "fnEdge", apart := false }
def FnEdgeSaid : Prop := fnEdgeRow.holds Try.pinned (OpenSpec.ofChange fnEdgeSpec)

/-- ITS FALSE NEIGHBOUR: 'it returns false'. Refute it at one input. -/
def fnEdgeWrong : ChangeSpec := { name := "fnEdge", fn := fun _ => fun
  | [d] => { results := [.lit (.bool false)], args := [d] }
  | _ => none }
def FnEdgeWrongFalsely : Prop := fnEdgeRow.holds Try.pinned (OpenSpec.ofChange fnEdgeWrong)

/-- 'laws.FnStill': WHATEVER THE INPUT: true; the input reads as it did. -/
def fnStillSpec : ChangeSpec := { name := "fnStill", fn := fun _ => fun
  | [d] => { results := [.lit (.bool true)], args := [d] }
  | _ => none }
def fnStillRow : OpenClaim := { program := "ytkfjbnhihjnhnaa", sum := "c2d332d37f8902eacfaf39ce034a583480f1516f3e1039157bbae03d9018e869", func := "loop.example/g01613/laws.FnStill", spec := "fnStill", apart := false }
def FnStillSaid : Prop := fnStillRow.holds Try.pinned (OpenSpec.ofChange fnStillSpec)

/-- ITS FALSE NEIGHBOUR: 'it returns false'. Refute it at one input. -/
def fnStillWrong : ChangeSpec := { name := "fnStill", fn := fun _ => fun
  | [d] => { results := [.lit (.bool false)], args := [d] }
  | _ => none }
def FnStillWrongFalsely : Prop := fnStillRow.holds Try.pinned (OpenSpec.ofChange fnStillWrong)

/-- 'laws.FnAround': WHATEVER THE INPUT: true; the input reads as it did. -/
def fnAroundSpec : ChangeSpec := { name := "fnAround", fn := fun _ => fun
  | [d] => { results := [.lit (.bool true)], args := [d] }
  | _ => none }
def fnAroundRow : OpenClaim := { program := "ytkfjbnhihjnhnaa", sum := "c2d332d37f8902eacfaf39ce034a583480f1516f3e1039157bbae03d9018e869", func := "loop.example/g01613/laws.FnAround", spec := "fnAround", apart := false }
def FnAroundSaid : Prop := fnAroundRow.holds Try.pinned (OpenSpec.ofChange fnAroundSpec)

/-- ITS FALSE NEIGHBOUR: 'it returns false'. Refute it at one input. -/
def fnAroundWrong : ChangeSpec := { name := "fnAround", fn := fun _ => fun
  | [d] => { results := [.lit (.bool false)], args := [d] }
  | _ => none }
def FnAroundWrongFalsely : Prop := fnAroundRow.holds Try.pinned (OpenSpec.ofChange fnAroundWrong)

/-- 'laws.FnBlocksIn': WHATEVER THE INPUT: true; the input reads as it did. -/
def fnBlocksInSpec : ChangeSpec := { name := "fnBlocksIn", fn := fun _ => fun
  | [d] => { results := [.lit (.bool true)], args := [d] }
  | _ => none }
def fnBlocksInRow : OpenClaim := { program := "ytkfjbnhihjnhnaa", sum := "c2d332d37f8902eacfaf39ce034a583480f1516f3e1039157bbae03d9018e869", func := "loop.example/g01613/laws.FnBlocksIn", spec := "fnBlocksIn", apart := false }
def FnBlocksInSaid : Prop := fnBlocksInRow.holds Try.pinned (OpenSpec.ofChange fnBlocksInSpec)

/-- ITS FALSE NEIGHBOUR: 'it returns false'. Refute it at one input. -/
def fnBlocksInWrong : ChangeSpec := { name := "fnBlocksIn", fn := fun _ => fun
  | [d] => { results := [.lit (.bool false)], args := [d] }
  | _ => none }
def FnBlocksInWrongFalsely : Prop := fnBlocksInRow.holds Try.pinned (OpenSpec.ofChange fnBlocksInWrong)

/- THE SECOND FORM. 'bulk': how many values and letters a reading holds, each counted each time it is reached (what is shared counts as often as it is met; a slice's spare places count too). A statement '..UptoSaid' is the law's where the arguments, and the package variables that the reading takes, are together of bulk at most 1048576: NARROWER than '..Said'. Prove '..Said' where nothing that the law and all that it calls make is longer than what came in: it says more and counts as full. Else prove '..UptoSaid'. A law counts once. -/
mutual
def uptoBulk {H : Type} : DataW H → Nat
  | .lit (.string bytes) => bytes.length + 1
  | .lit _ => 1
  | .nil => 1
  | .ptr d => uptoBulk d + 1
  | .slice elems spare => uptoBulkAll elems + uptoBulkAll spare + 1
  | .agg parts => uptoBulkAll parts + 1
  | .iface _ d => uptoBulk d + 1
  | .map entries => uptoBulkEntries entries + 1
  | .held _ => 1
def uptoBulkAll {H : Type} : List (DataW H) → Nat
  | [] => 0
  | d :: r => uptoBulk d + uptoBulkAll r
def uptoBulkEntries {H : Type} : List (Lit × DataW H) → Nat
  | [] => 0
  | x :: r => uptoBulkEntry x + uptoBulkEntries r
def uptoBulkEntry {H : Type} : Lit × DataW H → Nat
  | (.string bytes, d) => bytes.length + uptoBulk d + 1
  | (_, d) => uptoBulk d + 1
 end
def uptoSmall : (H : Type) → List (DataW H) → Bool := fun _ ds => decide (uptoBulkAll ds ≤ 1048576)
def OpenSpec.upto (s : _root_.Go.ChangeSpec) : _root_.Go.OpenSpec := { _root_.Go.OpenSpec.ofChange s with cond := some uptoSmall }

/-- 'laws.FnEdges', WHERE WHAT IT READS IS OF BULK AT MOST 1048576: true; the input reads as it did. -/
def fnEdgesUptoRow : OpenClaim := { program := "ytkfjbnhihjnhnaa", sum := "c2d332d37f8902eacfaf39ce034a583480f1516f3e1039157bbae03d9018e869", func := "loop.example/g01613/laws.FnEdges", spec := "fnEdges", apart := false, narrowed := true }
def FnEdgesUptoSaid : Prop := fnEdgesUptoRow.holds Try.pinned (OpenSpec.upto fnEdgesSpec)

/-- 'laws.FnEdge', WHERE WHAT IT READS IS OF BULK AT MOST 1048576: true; the input reads as it did. -/
def fnEdgeUptoRow : OpenClaim := { program := "ytkfjbnhihjnhnaa", sum := "c2d332d37f8902eacfaf39ce034a583480f1516f3e1039157bbae03d9018e869", func := "loop.example/g01613/laws.FnEdge", spec := "fnEdge", apart := false, narrowed := true }
def FnEdgeUptoSaid : Prop := fnEdgeUptoRow.holds Try.pinned (OpenSpec.upto fnEdgeSpec)

/-- 'laws.FnStill', WHERE WHAT IT READS IS OF BULK AT MOST 1048576: true; the input reads as it did. -/
def fnStillUptoRow : OpenClaim := { program := "ytkfjbnhihjnhnaa", sum := "c2d332d37f8902eacfaf39ce034a583480f1516f3e1039157bbae03d9018e869", func := "loop.example/g01613/laws.FnStill", spec := "fnStill", apart := false, narrowed := true }
def FnStillUptoSaid : Prop := fnStillUptoRow.holds Try.pinned (OpenSpec.upto fnStillSpec)

/-- 'laws.FnAround', WHERE WHAT IT READS IS OF BULK AT MOST 1048576: true; the input reads as it did. -/
def fnAroundUptoRow : OpenClaim := { program := "ytkfjbnhihjnhnaa", sum := "c2d332d37f8902eacfaf39ce034a583480f1516f3e1039157bbae03d9018e869", func := "loop.example/g01613/laws.FnAround", spec := "fnAround", apart := false, narrowed := true }
def FnAroundUptoSaid : Prop := fnAroundUptoRow.holds Try.pinned (OpenSpec.upto fnAroundSpec)

/-- 'laws.FnBlocksIn', WHERE WHAT IT READS IS OF BULK AT MOST 1048576: true; the input reads as it did. -/
def fnBlocksInUptoRow : OpenClaim := { program := "ytkfjbnhihjnhnaa", sum := "c2d332d37f8902eacfaf39ce034a583480f1516f3e1039157bbae03d9018e869", func := "loop.example/g01613/laws.FnBlocksIn", spec := "fnBlocksIn", apart := false, narrowed := true }
def FnBlocksInUptoSaid : Prop := fnBlocksInUptoRow.holds Try.pinned (OpenSpec.upto fnBlocksInSpec)

end Rows
end Go.Proofs.Ytkfjbnhihjnhnaa
