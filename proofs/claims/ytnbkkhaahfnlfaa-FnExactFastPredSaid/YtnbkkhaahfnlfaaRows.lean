/-
  No cell of these rows narrows 'for every input' (looked for: loops, veiled, ifaces, maps, wideKeys, modest, calm, conditions, laid).
  DERIVED. THE GIVEN ROWS OF THIS SEAT. 7 by the template 'for every input the law returns true; each argument reads behind the call as it read before'; 0 by the template 'total and deterministic' (their statements: YtnbkkhaahfnlfaaTotals.lean).
  GIVEN WITH THE SEED: the statements are not yours to turn. If you find one false, say at which input.
  Laid BY PROGRAM, IN A SANDBOX (cutbox-rows.mjs): the forced cells as the released guide's own fill.sh prints them over the translation ab49147a36d95c02… (all of the seat's roots in one cut). By AI agents, Wed Nov 11 2026. No macro, syntax, notation, axiom, sorry.
-/
import Derived.Test.YtnbkkhaahfnlfaaChecked
import GoSem.Claim
import GoSem.ClaimJoined
import GoSem.ClaimMapViews
import Derived.JoinedTies
import Derived.KernelRfl
namespace Go.Proofs.Ytnbkkhaahfnlfaa
/- THE CELL 'sum', in the pinned program and in every row, IS THE sha256 OF THE DUMP (.gsa) THAT YtnbkkhaahfnlfaaProg.lean LOADS. Nothing in Lean hashes anything: it is a label: what it is worth is what the hold of that sum in a sandbox is worth. -/
noncomputable def Try.pinned : Pinned := { name := "ytnbkkhaahfnlfaa", sum := "ab49147a36d95c02a8ea980fefaf609c4a6deb1f7e68554fc1a569719c2ec944", checked := Try.checked }
namespace Rows
def none {H : Type} : Left H := { results := [], args := [] }

/-- 'laws.FnExactNbOk': WHATEVER THE INPUT: true; the input reads as it did. -/
def fnExactNbOkSpec : ChangeSpec := { name := "fnExactNbOk", fn := fun _ => fun
  | [d1, d2] => { results := [.lit (.bool true)], args := [d1, d2] }
  | _ => none }
def fnExactNbOkRow : OpenClaim := { program := "ytnbkkhaahfnlfaa", sum := "ab49147a36d95c02a8ea980fefaf609c4a6deb1f7e68554fc1a569719c2ec944", func := "loop.example/g01613/laws.FnExactNbOk", spec := "fnExactNbOk", apart := false }
def FnExactNbOkSaid : Prop := fnExactNbOkRow.holds Try.pinned (OpenSpec.ofChange fnExactNbOkSpec)

/-- ITS FALSE NEIGHBOUR: 'it returns false'. Refute it at one input. -/
def fnExactNbOkWrong : ChangeSpec := { name := "fnExactNbOk", fn := fun _ => fun
  | [d1, d2] => { results := [.lit (.bool false)], args := [d1, d2] }
  | _ => none }
def FnExactNbOkWrongFalsely : Prop := fnExactNbOkRow.holds Try.pinned (OpenSpec.ofChange fnExactNbOkWrong)

/-- 'laws.FnExactMean': WHATEVER THE INPUT: true; the input reads as it did. -/
def fnExactMeanSpec : ChangeSpec := { name := "fnExactMean", fn := fun _ => fun
  | [d1, d2] => { results := [.lit (.bool true)], args := [d1, d2] }
  | _ => none }
def fnExactMeanRow : OpenClaim := { program := "ytnbkkhaahfnlfaa", sum := "ab49147a36d95c02a8ea980fefaf609c4a6deb1f7e68554fc1a569719c2ec944", func := "loop.example/g01613/laws.FnExactMean", spec := "fnExactMean", apart := false }
def FnExactMeanSaid : Prop := fnExactMeanRow.holds Try.pinned (OpenSpec.ofChange fnExactMeanSpec)

/-- ITS FALSE NEIGHBOUR: 'it returns false'. Refute it at one input. -/
def fnExactMeanWrong : ChangeSpec := { name := "fnExactMean", fn := fun _ => fun
  | [d1, d2] => { results := [.lit (.bool false)], args := [d1, d2] }
  | _ => none }
def FnExactMeanWrongFalsely : Prop := fnExactMeanRow.holds Try.pinned (OpenSpec.ofChange fnExactMeanWrong)

/-- 'laws.FnExactBorder': WHATEVER THE INPUT: true; the input reads as it did. -/
def fnExactBorderSpec : ChangeSpec := { name := "fnExactBorder", fn := fun _ => fun
  | [d1, d2] => { results := [.lit (.bool true)], args := [d1, d2] }
  | _ => none }
def fnExactBorderRow : OpenClaim := { program := "ytnbkkhaahfnlfaa", sum := "ab49147a36d95c02a8ea980fefaf609c4a6deb1f7e68554fc1a569719c2ec944", func := "loop.example/g01613/laws.FnExactBorder", spec := "fnExactBorder", apart := false }
def FnExactBorderSaid : Prop := fnExactBorderRow.holds Try.pinned (OpenSpec.ofChange fnExactBorderSpec)

/-- ITS FALSE NEIGHBOUR: 'it returns false'. Refute it at one input. -/
def fnExactBorderWrong : ChangeSpec := { name := "fnExactBorder", fn := fun _ => fun
  | [d1, d2] => { results := [.lit (.bool false)], args := [d1, d2] }
  | _ => none }
def FnExactBorderWrongFalsely : Prop := fnExactBorderRow.holds Try.pinned (OpenSpec.ofChange fnExactBorderWrong)

/-- 'laws.FnExactSlopeRow': WHATEVER THE INPUT: true; the input reads as it did. -/
def fnExactSlopeRowSpec : ChangeSpec := { name := "fnExactSlopeRow", fn := fun _ => fun
  | [d1, d2, d3] => { results := [.lit (.bool true)], args := [d1, d2, d3] }
  | _ => none }
def fnExactSlopeRowRow : OpenClaim := { program := "ytnbkkhaahfnlfaa", sum := "ab49147a36d95c02a8ea980fefaf609c4a6deb1f7e68554fc1a569719c2ec944", func := "loop.example/g01613/laws.FnExactSlopeRow", spec := "fnExactSlopeRow", apart := false }
def FnExactSlopeRowSaid : Prop := fnExactSlopeRowRow.holds Try.pinned (OpenSpec.ofChange fnExactSlopeRowSpec)

/-- ITS FALSE NEIGHBOUR: 'it returns false'. Refute it at one input. -/
def fnExactSlopeRowWrong : ChangeSpec := { name := "fnExactSlopeRow", fn := fun _ => fun
  | [d1, d2, d3] => { results := [.lit (.bool false)], args := [d1, d2, d3] }
  | _ => none }
def FnExactSlopeRowWrongFalsely : Prop := fnExactSlopeRowRow.holds Try.pinned (OpenSpec.ofChange fnExactSlopeRowWrong)

/-- 'laws.FnExactPredAt': WHATEVER THE INPUT: true; the input reads as it did. -/
def fnExactPredAtSpec : ChangeSpec := { name := "fnExactPredAt", fn := fun _ => fun
  | [d1, d2, d3, d4, d5] => { results := [.lit (.bool true)], args := [d1, d2, d3, d4, d5] }
  | _ => none }
def fnExactPredAtRow : OpenClaim := { program := "ytnbkkhaahfnlfaa", sum := "ab49147a36d95c02a8ea980fefaf609c4a6deb1f7e68554fc1a569719c2ec944", func := "loop.example/g01613/laws.FnExactPredAt", spec := "fnExactPredAt", apart := false }
def FnExactPredAtSaid : Prop := fnExactPredAtRow.holds Try.pinned (OpenSpec.ofChange fnExactPredAtSpec)

/-- ITS FALSE NEIGHBOUR: 'it returns false'. Refute it at one input. -/
def fnExactPredAtWrong : ChangeSpec := { name := "fnExactPredAt", fn := fun _ => fun
  | [d1, d2, d3, d4, d5] => { results := [.lit (.bool false)], args := [d1, d2, d3, d4, d5] }
  | _ => none }
def FnExactPredAtWrongFalsely : Prop := fnExactPredAtRow.holds Try.pinned (OpenSpec.ofChange fnExactPredAtWrong)

/-- 'laws.FnExactPred': WHATEVER THE INPUT: true; the input reads as it did. -/
def fnExactPredSpec : ChangeSpec := { name := "fnExactPred", fn := fun _ => fun
  | [d1, d2, d3] => { results := [.lit (.bool true)], args := [d1, d2, d3] }
  | _ => none }
def fnExactPredRow : OpenClaim := { program := "ytnbkkhaahfnlfaa", sum := "ab49147a36d95c02a8ea980fefaf609c4a6deb1f7e68554fc1a569719c2ec944", func := "loop.example/g01613/laws.FnExactPred", spec := "fnExactPred", apart := false }
def FnExactPredSaid : Prop := fnExactPredRow.holds Try.pinned (OpenSpec.ofChange fnExactPredSpec)

/-- ITS FALSE NEIGHBOUR: 'it returns false'. Refute it at one input. -/
def fnExactPredWrong : ChangeSpec := { name := "fnExactPred", fn := fun _ => fun
  | [d1, d2, d3] => { results := [.lit (.bool false)], args := [d1, d2, d3] }
  | _ => none }
def FnExactPredWrongFalsely : Prop := fnExactPredRow.holds Try.pinned (OpenSpec.ofChange fnExactPredWrong)

/-- 'laws.FnExactFastPred': WHATEVER THE INPUT: true; the input reads as it did. -/
def fnExactFastPredSpec : ChangeSpec := { name := "fnExactFastPred", fn := fun _ => fun
  | [d1, d2, d3] => { results := [.lit (.bool true)], args := [d1, d2, d3] }
  | _ => none }
def fnExactFastPredRow : OpenClaim := { program := "ytnbkkhaahfnlfaa", sum := "ab49147a36d95c02a8ea980fefaf609c4a6deb1f7e68554fc1a569719c2ec944", func := "loop.example/g01613/laws.FnExactFastPred", spec := "fnExactFastPred", apart := false }
def FnExactFastPredSaid : Prop := fnExactFastPredRow.holds Try.pinned (OpenSpec.ofChange fnExactFastPredSpec)

/-- ITS FALSE NEIGHBOUR: 'it returns false'. Refute it at one input. -/
def fnExactFastPredWrong : ChangeSpec := { name := "fnExactFastPred", fn := fun _ => fun
  | [d1, d2, d3] => { results := [.lit (.bool false)], args := [d1, d2, d3] }
  | _ => none }
def FnExactFastPredWrongFalsely : Prop := fnExactFastPredRow.holds Try.pinned (OpenSpec.ofChange fnExactFastPredWrong)

/- THE SECOND FORM. 'bulk': how many values and letters a reading holds, each counted each time it is reached (what is shared counts as often as it is met; a slice's spare places count too). A statement '..UptoSaid' is the law's where the arguments, and the package variables that the reading takes, are together of bulk at most 1048576: NARROWER than '..Said'. Prove '..Said' where nothing that the law and all that it calls make is longer than what came in: it says more and counts as full. Else prove '..UptoSaid'. A law counts once. -/
mutual
def uptoBulk {H : Type} : DataW H → Nat
  | .lit (.string bytes) => bytes.length + 1
  | .lit _ => 1
  | .nil => 1
  | .ptr d => uptoBulk d + 1
  | .slice elems spare => uptoBulkAll elems + uptoBulkAll spare + 1
  | .agg parts => uptoBulkAll parts + 1
  | .iface _ d => uptoBulk d + 1
  | .map entries => uptoBulkEntries entries + 1
  | .held _ => 1
def uptoBulkAll {H : Type} : List (DataW H) → Nat
  | [] => 0
  | d :: r => uptoBulk d + uptoBulkAll r
def uptoBulkEntries {H : Type} : List (Lit × DataW H) → Nat
  | [] => 0
  | x :: r => uptoBulkEntry x + uptoBulkEntries r
def uptoBulkEntry {H : Type} : Lit × DataW H → Nat
  | (.string bytes, d) => bytes.length + uptoBulk d + 1
  | (_, d) => uptoBulk d + 1
 end
def uptoSmall : (H : Type) → List (DataW H) → Bool := fun _ ds => decide (uptoBulkAll ds ≤ 1048576)
def OpenSpec.upto (s : _root_.Go.ChangeSpec) : _root_.Go.OpenSpec := { _root_.Go.OpenSpec.ofChange s with cond := some uptoSmall }

/-- 'laws.FnExactNbOk', WHERE WHAT IT READS IS OF BULK AT MOST 1048576: true; the input reads as it did. -/
def fnExactNbOkUptoRow : OpenClaim := { program := "ytnbkkhaahfnlfaa", sum := "ab49147a36d95c02a8ea980fefaf609c4a6deb1f7e68554fc1a569719c2ec944", func := "loop.example/g01613/laws.FnExactNbOk", spec := "fnExactNbOk", apart := false, narrowed := true }
def FnExactNbOkUptoSaid : Prop := fnExactNbOkUptoRow.holds Try.pinned (OpenSpec.upto fnExactNbOkSpec)

/-- 'laws.FnExactMean', WHERE WHAT IT READS IS OF BULK AT MOST 1048576: true; the input reads as it did. -/
def fnExactMeanUptoRow : OpenClaim := { program := "ytnbkkhaahfnlfaa", sum := "ab49147a36d95c02a8ea980fefaf609c4a6deb1f7e68554fc1a569719c2ec944", func := "loop.example/g01613/laws.FnExactMean", spec := "fnExactMean", apart := false, narrowed := true }
def FnExactMeanUptoSaid : Prop := fnExactMeanUptoRow.holds Try.pinned (OpenSpec.upto fnExactMeanSpec)

/-- 'laws.FnExactBorder', WHERE WHAT IT READS IS OF BULK AT MOST 1048576: true; the input reads as it did. -/
def fnExactBorderUptoRow : OpenClaim := { program := "ytnbkkhaahfnlfaa", sum := "ab49147a36d95c02a8ea980fefaf609c4a6deb1f7e68554fc1a569719c2ec944", func := "loop.example/g01613/laws.FnExactBorder", spec := "fnExactBorder", apart := false, narrowed := true }
def FnExactBorderUptoSaid : Prop := fnExactBorderUptoRow.holds Try.pinned (OpenSpec.upto fnExactBorderSpec)

/-- 'laws.FnExactSlopeRow', WHERE WHAT IT READS IS OF BULK AT MOST 1048576: true; the input reads as it did. -/
def fnExactSlopeRowUptoRow : OpenClaim := { program := "ytnbkkhaahfnlfaa", sum := "ab49147a36d95c02a8ea980fefaf609c4a6deb1f7e68554fc1a569719c2ec944", func := "loop.example/g01613/laws.FnExactSlopeRow", spec := "fnExactSlopeRow", apart := false, narrowed := true }
def FnExactSlopeRowUptoSaid : Prop := fnExactSlopeRowUptoRow.holds Try.pinned (OpenSpec.upto fnExactSlopeRowSpec)

/-- 'laws.FnExactPredAt', WHERE WHAT IT READS IS OF BULK AT MOST 1048576: true; the input reads as it did. -/
def fnExactPredAtUptoRow : OpenClaim := { program := "ytnbkkhaahfnlfaa", sum := "ab49147a36d95c02a8ea980fefaf609c4a6deb1f7e68554fc1a569719c2ec944", func := "loop.example/g01613/laws.FnExactPredAt", spec := "fnExactPredAt", apart := false, narrowed := true }
def FnExactPredAtUptoSaid : Prop := fnExactPredAtUptoRow.holds Try.pinned (OpenSpec.upto fnExactPredAtSpec)

/-- 'laws.FnExactPred', WHERE WHAT IT READS IS OF BULK AT MOST 1048576: true; the input reads as it did. -/
def fnExactPredUptoRow : OpenClaim := { program := "ytnbkkhaahfnlfaa", sum := "ab49147a36d95c02a8ea980fefaf609c4a6deb1f7e68554fc1a569719c2ec944", func := "loop.example/g01613/laws.FnExactPred", spec := "fnExactPred", apart := false, narrowed := true }
def FnExactPredUptoSaid : Prop := fnExactPredUptoRow.holds Try.pinned (OpenSpec.upto fnExactPredSpec)

/-- 'laws.FnExactFastPred', WHERE WHAT IT READS IS OF BULK AT MOST 1048576: true; the input reads as it did. -/
def fnExactFastPredUptoRow : OpenClaim := { program := "ytnbkkhaahfnlfaa", sum := "ab49147a36d95c02a8ea980fefaf609c4a6deb1f7e68554fc1a569719c2ec944", func := "loop.example/g01613/laws.FnExactFastPred", spec := "fnExactFastPred", apart := false, narrowed := true }
def FnExactFastPredUptoSaid : Prop := fnExactFastPredUptoRow.holds Try.pinned (OpenSpec.upto fnExactFastPredSpec)

end Rows
end Go.Proofs.Ytnbkkhaahfnlfaa
