/-
  No cell of these rows narrows 'for every input' (looked for: loops, veiled, ifaces, maps, wideKeys, modest, calm, conditions, laid).
  DERIVED. THE GIVEN ROWS OF THIS SEAT. 6 by the template 'for every input the law returns true; each argument reads behind the call as it read before'; 0 by the template 'total and deterministic' (their statements: YtlckmgenmjkfeaaTotals.lean).
  GIVEN WITH THE SEED: the statements are not yours to turn. If you find one false, say at which input.
  Laid BY PROGRAM, IN A SANDBOX (cutbox-rows.mjs): the forced cells as the released guide's own fill.sh prints them over the translation c4b23f1c9ce040d2… (all of the seat's roots in one cut). By AI agents, Wed Nov 11 2026. No macro, syntax, notation, axiom, sorry.
-/
import Derived.Test.YtlckmgenmjkfeaaChecked
import GoSem.Claim
import GoSem.ClaimJoined
import GoSem.ClaimMapViews
import Derived.JoinedTies
import Derived.KernelRfl
namespace Go.Proofs.Ytlckmgenmjkfeaa
/- THE CELL 'sum', in the pinned program and in every row, IS THE sha256 OF THE DUMP (.gsa) THAT YtlckmgenmjkfeaaProg.lean LOADS. Nothing in Lean hashes anything: it is a label: what it is worth is what the hold of that sum in a sandbox is worth. -/
noncomputable def Try.pinned : Pinned := { name := "ytlckmgenmjkfeaa", sum := "c4b23f1c9ce040d2170dac5309fda03632f88b9aa086707be2c1afb767ef06ba", checked := Try.checked }
namespace Rows
def none {H : Type} : Left H := { results := [], args := [] }

/-- 'laws.FnExactSidesOk': WHATEVER THE INPUT: true; the input reads as it did. -/
def fnExactSidesOkSpec : ChangeSpec := { name := "fnExactSidesOk", fn := fun _ => fun
  | [d1, d2] => { results := [.lit (.bool true)], args := [d1, d2] }
  | _ => none }
def fnExactSidesOkRow : OpenClaim := { program := "ytlckmgenmjkfeaa", sum := "c4b23f1c9ce040d2170dac5309fda03632f88b9aa086707be2c1afb767ef06ba", func := "loop.example/g01613/laws.FnExactSidesOk", spec := "fnExactSidesOk", apart := false }
def FnExactSidesOkSaid : Prop := fnExactSidesOkRow.holds Try.pinned (OpenSpec.ofChange fnExactSidesOkSpec)

/-- ITS FALSE NEIGHBOUR: 'it returns false'. Refute it at one input. -/
def fnExactSidesOkWrong : ChangeSpec := { name := "fnExactSidesOk", fn := fun _ => fun
  | [d1, d2] => { results := [.lit (.bool false)], args := [d1, d2] }
  | _ => none }
def FnExactSidesOkWrongFalsely : Prop := fnExactSidesOkRow.holds Try.pinned (OpenSpec.ofChange fnExactSidesOkWrong)

/-- 'laws.FnExactAlphaOf': WHATEVER THE INPUT: true; the input reads as it did. -/
def fnExactAlphaOfSpec : ChangeSpec := { name := "fnExactAlphaOf", fn := fun _ => fun
  | [d] => { results := [.lit (.bool true)], args := [d] }
  | _ => none }
def fnExactAlphaOfRow : OpenClaim := { program := "ytlckmgenmjkfeaa", sum := "c4b23f1c9ce040d2170dac5309fda03632f88b9aa086707be2c1afb767ef06ba", func := "loop.example/g01613/laws.FnExactAlphaOf", spec := "fnExactAlphaOf", apart := false }
def FnExactAlphaOfSaid : Prop := fnExactAlphaOfRow.holds Try.pinned (OpenSpec.ofChange fnExactAlphaOfSpec)

/-- ITS FALSE NEIGHBOUR: 'it returns false'. Refute it at one input. -/
def fnExactAlphaOfWrong : ChangeSpec := { name := "fnExactAlphaOf", fn := fun _ => fun
  | [d] => { results := [.lit (.bool false)], args := [d] }
  | _ => none }
def FnExactAlphaOfWrongFalsely : Prop := fnExactAlphaOfRow.holds Try.pinned (OpenSpec.ofChange fnExactAlphaOfWrong)

/-- 'laws.FnExactBetaOf': WHATEVER THE INPUT: true; the input reads as it did. -/
def fnExactBetaOfSpec : ChangeSpec := { name := "fnExactBetaOf", fn := fun _ => fun
  | [d] => { results := [.lit (.bool true)], args := [d] }
  | _ => none }
def fnExactBetaOfRow : OpenClaim := { program := "ytlckmgenmjkfeaa", sum := "c4b23f1c9ce040d2170dac5309fda03632f88b9aa086707be2c1afb767ef06ba", func := "loop.example/g01613/laws.FnExactBetaOf", spec := "fnExactBetaOf", apart := false }
def FnExactBetaOfSaid : Prop := fnExactBetaOfRow.holds Try.pinned (OpenSpec.ofChange fnExactBetaOfSpec)

/-- ITS FALSE NEIGHBOUR: 'it returns false'. Refute it at one input. -/
def fnExactBetaOfWrong : ChangeSpec := { name := "fnExactBetaOf", fn := fun _ => fun
  | [d] => { results := [.lit (.bool false)], args := [d] }
  | _ => none }
def FnExactBetaOfWrongFalsely : Prop := fnExactBetaOfRow.holds Try.pinned (OpenSpec.ofChange fnExactBetaOfWrong)

/-- 'laws.FnExactModeWord': WHATEVER THE INPUT: true; the input reads as it did. -/
def fnExactModeWordSpec : ChangeSpec := { name := "fnExactModeWord", fn := fun _ => fun
  | [d] => { results := [.lit (.bool true)], args := [d] }
  | _ => none }
def fnExactModeWordRow : OpenClaim := { program := "ytlckmgenmjkfeaa", sum := "c4b23f1c9ce040d2170dac5309fda03632f88b9aa086707be2c1afb767ef06ba", func := "loop.example/g01613/laws.FnExactModeWord", spec := "fnExactModeWord", apart := false }
def FnExactModeWordSaid : Prop := fnExactModeWordRow.holds Try.pinned (OpenSpec.ofChange fnExactModeWordSpec)

/-- ITS FALSE NEIGHBOUR: 'it returns false'. Refute it at one input. -/
def fnExactModeWordWrong : ChangeSpec := { name := "fnExactModeWord", fn := fun _ => fun
  | [d] => { results := [.lit (.bool false)], args := [d] }
  | _ => none }
def FnExactModeWordWrongFalsely : Prop := fnExactModeWordRow.holds Try.pinned (OpenSpec.ofChange fnExactModeWordWrong)

/-- 'laws.FnExactPack4': WHATEVER THE INPUT: true; the input reads as it did. -/
def fnExactPack4Spec : ChangeSpec := { name := "fnExactPack4", fn := fun _ => fun
  | [d] => { results := [.lit (.bool true)], args := [d] }
  | _ => none }
def fnExactPack4Row : OpenClaim := { program := "ytlckmgenmjkfeaa", sum := "c4b23f1c9ce040d2170dac5309fda03632f88b9aa086707be2c1afb767ef06ba", func := "loop.example/g01613/laws.FnExactPack4", spec := "fnExactPack4", apart := false }
def FnExactPack4Said : Prop := fnExactPack4Row.holds Try.pinned (OpenSpec.ofChange fnExactPack4Spec)

/-- ITS FALSE NEIGHBOUR: 'it returns false'. Refute it at one input. -/
def fnExactPack4Wrong : ChangeSpec := { name := "fnExactPack4", fn := fun _ => fun
  | [d] => { results := [.lit (.bool false)], args := [d] }
  | _ => none }
def FnExactPack4WrongFalsely : Prop := fnExactPack4Row.holds Try.pinned (OpenSpec.ofChange fnExactPack4Wrong)

/-- 'laws.FnExactLift4': WHATEVER THE INPUT: true; the input reads as it did. -/
def fnExactLift4Spec : ChangeSpec := { name := "fnExactLift4", fn := fun _ => fun
  | [d] => { results := [.lit (.bool true)], args := [d] }
  | _ => none }
def fnExactLift4Row : OpenClaim := { program := "ytlckmgenmjkfeaa", sum := "c4b23f1c9ce040d2170dac5309fda03632f88b9aa086707be2c1afb767ef06ba", func := "loop.example/g01613/laws.FnExactLift4", spec := "fnExactLift4", apart := false }
def FnExactLift4Said : Prop := fnExactLift4Row.holds Try.pinned (OpenSpec.ofChange fnExactLift4Spec)

/-- ITS FALSE NEIGHBOUR: 'it returns false'. Refute it at one input. -/
def fnExactLift4Wrong : ChangeSpec := { name := "fnExactLift4", fn := fun _ => fun
  | [d] => { results := [.lit (.bool false)], args := [d] }
  | _ => none }
def FnExactLift4WrongFalsely : Prop := fnExactLift4Row.holds Try.pinned (OpenSpec.ofChange fnExactLift4Wrong)

/- THE SECOND FORM. 'bulk': how many values and letters a reading holds, each counted each time it is reached (what is shared counts as often as it is met; a slice's spare places count too). A statement '..UptoSaid' is the law's where the arguments, and the package variables that the reading takes, are together of bulk at most 1048576: NARROWER than '..Said'. Prove '..Said' where nothing that the law and all that it calls make is longer than what came in: it says more and counts as full. Else prove '..UptoSaid'. A law counts once. -/
mutual
def uptoBulk {H : Type} : DataW H → Nat
  | .lit (.string bytes) => bytes.length + 1
  | .lit _ => 1
  | .nil => 1
  | .ptr d => uptoBulk d + 1
  | .slice elems spare => uptoBulkAll elems + uptoBulkAll spare + 1
  | .agg parts => uptoBulkAll parts + 1
  | .iface _ d => uptoBulk d + 1
  | .map entries => uptoBulkEntries entries + 1
  | .held _ => 1
def uptoBulkAll {H : Type} : List (DataW H) → Nat
  | [] => 0
  | d :: r => uptoBulk d + uptoBulkAll r
def uptoBulkEntries {H : Type} : List (Lit × DataW H) → Nat
  | [] => 0
  | x :: r => uptoBulkEntry x + uptoBulkEntries r
def uptoBulkEntry {H : Type} : Lit × DataW H → Nat
  | (.string bytes, d) => bytes.length + uptoBulk d + 1
  | (_, d) => uptoBulk d + 1
 end
def uptoSmall : (H : Type) → List (DataW H) → Bool := fun _ ds => decide (uptoBulkAll ds ≤ 1048576)
def OpenSpec.upto (s : _root_.Go.ChangeSpec) : _root_.Go.OpenSpec := { _root_.Go.OpenSpec.ofChange s with cond := some uptoSmall }

/-- 'laws.FnExactSidesOk', WHERE WHAT IT READS IS OF BULK AT MOST 1048576: true; the input reads as it did. -/
def fnExactSidesOkUptoRow : OpenClaim := { program := "ytlckmgenmjkfeaa", sum := "c4b23f1c9ce040d2170dac5309fda03632f88b9aa086707be2c1afb767ef06ba", func := "loop.example/g01613/laws.FnExactSidesOk", spec := "fnExactSidesOk", apart := false, narrowed := true }
def FnExactSidesOkUptoSaid : Prop := fnExactSidesOkUptoRow.holds Try.pinned (OpenSpec.upto fnExactSidesOkSpec)

/-- 'laws.FnExactAlphaOf', WHERE WHAT IT READS IS OF BULK AT MOST 1048576: true; the input reads as it did. -/
def fnExactAlphaOfUptoRow : OpenClaim := { program := "ytlckmgenmjkfeaa", sum := "c4b23f1c9ce040d2170dac5309fda03632f88b9aa086707be2c1afb767ef06ba", func := "loop.example/g01613/laws.FnExactAlphaOf", spec := "fnExactAlphaOf", apart := false, narrowed := true }
def FnExactAlphaOfUptoSaid : Prop := fnExactAlphaOfUptoRow.holds Try.pinned (OpenSpec.upto fnExactAlphaOfSpec)

/-- 'laws.FnExactBetaOf', WHERE WHAT IT READS IS OF BULK AT MOST 1048576: true; the input reads as it did. -/
def fnExactBetaOfUptoRow : OpenClaim := { program := "ytlckmgenmjkfeaa", sum := "c4b23f1c9ce040d2170dac5309fda03632f88b9aa086707be2c1afb767ef06ba", func := "loop.example/g01613/laws.FnExactBetaOf", spec := "fnExactBetaOf", apart := false, narrowed := true }
def FnExactBetaOfUptoSaid : Prop := fnExactBetaOfUptoRow.holds Try.pinned (OpenSpec.upto fnExactBetaOfSpec)

/-- 'laws.FnExactModeWord', WHERE WHAT IT READS IS OF BULK AT MOST 1048576: true; the input reads as it did. -/
def fnExactModeWordUptoRow : OpenClaim := { program := "ytlckmgenmjkfeaa", sum := "c4b23f1c9ce040d2170dac5309fda03632f88b9aa086707be2c1afb767ef06ba", func := "loop.example/g01613/laws.FnExactModeWord", spec := "fnExactModeWord", apart := false, narrowed := true }
def FnExactModeWordUptoSaid : Prop := fnExactModeWordUptoRow.holds Try.pinned (OpenSpec.upto fnExactModeWordSpec)

/-- 'laws.FnExactPack4', WHERE WHAT IT READS IS OF BULK AT MOST 1048576: true; the input reads as it did. -/
def fnExactPack4UptoRow : OpenClaim := { program := "ytlckmgenmjkfeaa", sum := "c4b23f1c9ce040d2170dac5309fda03632f88b9aa086707be2c1afb767ef06ba", func := "loop.example/g01613/laws.FnExactPack4", spec := "fnExactPack4", apart := false, narrowed := true }
def FnExactPack4UptoSaid : Prop := fnExactPack4UptoRow.holds Try.pinned (OpenSpec.upto fnExactPack4Spec)

/-- 'laws.FnExactLift4', WHERE WHAT IT READS IS OF BULK AT MOST 1048576: true; the input reads as it did. -/
def fnExactLift4UptoRow : OpenClaim := { program := "ytlckmgenmjkfeaa", sum := "c4b23f1c9ce040d2170dac5309fda03632f88b9aa086707be2c1afb767ef06ba", func := "loop.example/g01613/laws.FnExactLift4", spec := "fnExactLift4", apart := false, narrowed := true }
def FnExactLift4UptoSaid : Prop := fnExactLift4UptoRow.holds Try.pinned (OpenSpec.upto fnExactLift4Spec)

end Rows
end Go.Proofs.Ytlckmgenmjkfeaa
