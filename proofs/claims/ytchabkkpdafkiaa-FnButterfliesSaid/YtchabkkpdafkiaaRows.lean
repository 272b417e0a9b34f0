/-
  No cell of these rows narrows 'for every input' (looked for: loops, veiled, ifaces, maps, wideKeys, modest, calm, conditions, laid).
  DERIVED. THE GIVEN ROWS OF THIS SEAT. 6 by the template 'for every input the law returns true; each argument reads behind the call as it read before'; 0 by the template 'total and deterministic' (their statements: YtchabkkpdafkiaaTotals.lean).
  GIVEN WITH THE SEED: the statements are not yours to turn. If you find one false, say at which input.
  Laid BY PROGRAM, IN A SANDBOX (cutbox-rows.mjs): the forced cells as the released guide's own fill.sh prints them over the translation f2181e8b178463fb… (all of the seat's roots in one cut). By AI agents, Wed Nov 11 2026. No macro, syntax, notation, axiom, sorry.
-/
import Derived.Test.YtchabkkpdafkiaaChecked
import GoSem.Claim
import GoSem.ClaimJoined
import GoSem.ClaimMapViews
import Derived.JoinedTies
import Derived.KernelRfl
namespace Go.Proofs.Ytchabkkpdafkiaa
/- THE CELL 'sum', in the pinned program and in every row, IS THE sha256 OF THE DUMP (.gsa) THAT YtchabkkpdafkiaaProg.lean LOADS. Nothing in Lean hashes anything: it is a label: what it is worth is what the hold of that sum in a sandbox is worth. -/
noncomputable def Try.pinned : Pinned := { name := "ytchabkkpdafkiaa", sum := "f2181e8b178463fb545a1a232f7d208be817e86e366af9c44ed7985ccdb8c576", checked := Try.checked }
namespace Rows
def none {H : Type} : Left H := { results := [], args := [] }

/-- 'laws.FnExactFast4': WHATEVER THE INPUT: true; the input reads as it did. -/
def fnExactFast4Spec : ChangeSpec := { name := "fnExactFast4", fn := fun _ => fun
  | [d] => { results := [.lit (.bool true)], args := [d] }
  | _ => none }
def fnExactFast4Row : OpenClaim := { program := "ytchabkkpdafkiaa", sum := "f2181e8b178463fb545a1a232f7d208be817e86e366af9c44ed7985ccdb8c576", func := "loop.example/g01613/laws.FnExactFast4", spec := "fnExactFast4", apart := false }
def FnExactFast4Said : Prop := fnExactFast4Row.holds Try.pinned (OpenSpec.ofChange fnExactFast4Spec)

/-- ITS FALSE NEIGHBOUR: 'it returns false'. Refute it at one input. -/
def fnExactFast4Wrong : ChangeSpec := { name := "fnExactFast4", fn := fun _ => fun
  | [d] => { results := [.lit (.bool false)], args := [d] }
  | _ => none }
def FnExactFast4WrongFalsely : Prop := fnExactFast4Row.holds Try.pinned (OpenSpec.ofChange fnExactFast4Wrong)

/-- 'laws.FnExactFast8': WHATEVER THE INPUT: true; the input reads as it did. -/
def fnExactFast8Spec : ChangeSpec := { name := "fnExactFast8", fn := fun _ => fun
  | [d] => { results := [.lit (.bool true)], args := [d] }
  | _ => none }
def fnExactFast8Row : OpenClaim := { program := "ytchabkkpdafkiaa", sum := "f2181e8b178463fb545a1a232f7d208be817e86e366af9c44ed7985ccdb8c576", func := "loop.example/g01613/laws.FnExactFast8", spec := "fnExactFast8", apart := false }
def FnExactFast8Said : Prop := fnExactFast8Row.holds Try.pinned (OpenSpec.ofChange fnExactFast8Spec)

/-- ITS FALSE NEIGHBOUR: 'it returns false'. Refute it at one input. -/
def fnExactFast8Wrong : ChangeSpec := { name := "fnExactFast8", fn := fun _ => fun
  | [d] => { results := [.lit (.bool false)], args := [d] }
  | _ => none }
def FnExactFast8WrongFalsely : Prop := fnExactFast8Row.holds Try.pinned (OpenSpec.ofChange fnExactFast8Wrong)

/-- 'laws.FnEnergy': WHATEVER THE INPUT: true; the input reads as it did. -/
def fnEnergySpec : ChangeSpec := { name := "fnEnergy", fn := fun _ => fun
  | [d] => { results := [.lit (.bool true)], args := [d] }
  | _ => none }
def fnEnergyRow : OpenClaim := { program := "ytchabkkpdafkiaa", sum := "f2181e8b178463fb545a1a232f7d208be817e86e366af9c44ed7985ccdb8c576", func := "loop.example/g01613/laws.FnEnergy", spec := "fnEnergy", apart := false }
def FnEnergySaid : Prop := fnEnergyRow.holds Try.pinned (OpenSpec.ofChange fnEnergySpec)

/-- ITS FALSE NEIGHBOUR: 'it returns false'. Refute it at one input. -/
def fnEnergyWrong : ChangeSpec := { name := "fnEnergy", fn := fun _ => fun
  | [d] => { results := [.lit (.bool false)], args := [d] }
  | _ => none }
def FnEnergyWrongFalsely : Prop := fnEnergyRow.holds Try.pinned (OpenSpec.ofChange fnEnergyWrong)

/-- 'laws.FnLinear': WHATEVER THE INPUT: true; the input reads as it did. -/
def fnLinearSpec : ChangeSpec := { name := "fnLinear", fn := fun _ => fun
  | [d] => { results := [.lit (.bool true)], args := [d] }
  | _ => none }
def fnLinearRow : OpenClaim := { program := "ytchabkkpdafkiaa", sum := "f2181e8b178463fb545a1a232f7d208be817e86e366af9c44ed7985ccdb8c576", func := "loop.example/g01613/laws.FnLinear", spec := "fnLinear", apart := false }
def FnLinearSaid : Prop := fnLinearRow.holds Try.pinned (OpenSpec.ofChange fnLinearSpec)

/-- ITS FALSE NEIGHBOUR: 'it returns false'. Refute it at one input. -/
def fnLinearWrong : ChangeSpec := { name := "fnLinear", fn := fun _ => fun
  | [d] => { results := [.lit (.bool false)], args := [d] }
  | _ => none }
def FnLinearWrongFalsely : Prop := fnLinearRow.holds Try.pinned (OpenSpec.ofChange fnLinearWrong)

/-- 'laws.FnLifts': WHATEVER THE INPUT: true; the input reads as it did. -/
def fnLiftsSpec : ChangeSpec := { name := "fnLifts", fn := fun _ => fun
  | [d] => { results := [.lit (.bool true)], args := [d] }
  | _ => none }
def fnLiftsRow : OpenClaim := { program := "ytchabkkpdafkiaa", sum := "f2181e8b178463fb545a1a232f7d208be817e86e366af9c44ed7985ccdb8c576", func := "loop.example/g01613/laws.FnLifts", spec := "fnLifts", apart := false }
def FnLiftsSaid : Prop := fnLiftsRow.holds Try.pinned (OpenSpec.ofChange fnLiftsSpec)

/-- ITS FALSE NEIGHBOUR: 'it returns false'. Refute it at one input. -/
def fnLiftsWrong : ChangeSpec := { name := "fnLifts", fn := fun _ => fun
  | [d] => { results := [.lit (.bool false)], args := [d] }
  | _ => none }
def FnLiftsWrongFalsely : Prop := fnLiftsRow.holds Try.pinned (OpenSpec.ofChange fnLiftsWrong)

/-- 'laws.FnButterflies': WHATEVER THE INPUT: true; the input reads as it did. -/
def fnButterfliesSpec : ChangeSpec := { name := "fnButterflies", fn := fun _ => fun
  | [d] => { results := [.lit (.bool true)], args := [d] }
  | _ => none }
def fnButterfliesRow : OpenClaim := { program := "ytchabkkpdafkiaa", sum := "f2181e8b178463fb545a1a232f7d208be817e86e366af9c44ed7985ccdb8c576", func := "loop.example/g01613/laws.FnButterflies", spec := "fnButterflies", apart := false }
def FnButterfliesSaid : Prop := fnButterfliesRow.holds Try.pinned (OpenSpec.ofChange fnButterfliesSpec)

/-- ITS FALSE NEIGHBOUR: 'it returns false'. Refute it at one input. -/
def fnButterfliesWrong : ChangeSpec := { name := "fnButterflies", fn := fun _ => fun
  | [d] => { results := [.lit (.bool false)], args := [d] }
  | _ => none }
def FnButterfliesWrongFalsely : Prop := fnButterfliesRow.holds Try.pinned (OpenSpec.ofChange fnButterfliesWrong)

/- THE SECOND FORM. 'bulk': how many values and letters a reading holds, each counted each time it is reached (what is shared counts as often as it is met; a slice's spare places count too). A statement '..UptoSaid' is the law's where the arguments, and the package variables that the reading takes, are together of bulk at most 1048576: NARROWER than '..Said'. Prove '..Said' where nothing that the law and all that it calls make is longer than what came in: it says more and counts as full. Else prove '..UptoSaid'. A law counts once. -/
mutual
def uptoBulk {H : Type} : DataW H → Nat
  | .lit (.string bytes) => bytes.length + 1
  | .lit _ => 1
  | .nil => 1
  | .ptr d => uptoBulk d + 1
  | .slice elems spare => uptoBulkAll elems + uptoBulkAll spare + 1
  | .agg parts => uptoBulkAll parts + 1
  | .iface _ d => uptoBulk d + 1
  | .map entries => uptoBulkEntries entries + 1
  | .held _ => 1
def uptoBulkAll {H : Type} : List (DataW H) → Nat
  | [] => 0
  | d :: r => uptoBulk d + uptoBulkAll r
def uptoBulkEntries {H : Type} : List (Lit × DataW H) → Nat
  | [] => 0
  | x :: r => uptoBulkEntry x + uptoBulkEntries r
def uptoBulkEntry {H : Type} : Lit × DataW H → Nat
  | (.string bytes, d) => bytes.length + uptoBulk d + 1
  | (_, d) => uptoBulk d + 1
 end
def uptoSmall : (H : Type) → List (DataW H) → Bool := fun _ ds => decide (uptoBulkAll ds ≤ 1048576)
def OpenSpec.upto (s : _root_.Go.ChangeSpec) : _root_.Go.OpenSpec := { _root_.Go.OpenSpec.ofChange s with cond := some uptoSmall }

/-- 'laws.FnExactFast4', WHERE WHAT IT READS IS OF BULK AT MOST 1048576: true; the input reads as it did. -/
def fnExactFast4UptoRow : OpenClaim := { program := "ytchabkkpdafkiaa", sum := "f2181e8b178463fb545a1a232f7d208be817e86e366af9c44ed7985ccdb8c576", func := "loop.example/g01613/laws.FnExactFast4", spec := "fnExactFast4", apart := false, narrowed := true }
def FnExactFast4UptoSaid : Prop := fnExactFast4UptoRow.holds Try.pinned (OpenSpec.upto fnExactFast4Spec)

/-- 'laws.FnExactFast8', WHERE WHAT IT READS IS OF BULK AT MOST 1048576: true; the input reads as it did. -/
def fnExactFast8UptoRow : OpenClaim := { program := "ytchabkkpdafkiaa", sum := "f2181e8b178463fb545a1a232f7d208be817e86e366af9c44ed7985ccdb8c576", func := "loop.example/g01613/laws.FnExactFast8", spec := "fnExactFast8", apart := false, narrowed := true }
def FnExactFast8UptoSaid : Prop := fnExactFast8UptoRow.holds Try.pinned (OpenSpec.upto fnExactFast8Spec)

/-- 'laws.FnEnergy', WHERE WHAT IT READS IS OF BULK AT MOST 1048576: true; the input reads as it did. -/
def fnEnergyUptoRow : OpenClaim := { program := "ytchabkkpdafkiaa", sum := "f2181e8b178463fb545a1a232f7d208be817e86e366af9c44ed7985ccdb8c576", func := "loop.example/g01613/laws.FnEnergy", spec := "fnEnergy", apart := false, narrowed := true }
def FnEnergyUptoSaid : Prop := fnEnergyUptoRow.holds Try.pinned (OpenSpec.upto fnEnergySpec)

/-- 'laws.FnLinear', WHERE WHAT IT READS IS OF BULK AT MOST 1048576: true; the input reads as it did. -/
def fnLinearUptoRow : OpenClaim := { program := "ytchabkkpdafkiaa", sum := "f2181e8b178463fb545a1a232f7d208be817e86e366af9c44ed7985ccdb8c576", func := "loop.example/g01613/laws.FnLinear", spec := "fnLinear", apart := false, narrowed := true }
def FnLinearUptoSaid : Prop := fnLinearUptoRow.holds Try.pinned (OpenSpec.upto fnLinearSpec)

/-- 'laws.FnLifts', WHERE WHAT IT READS IS OF BULK AT MOST 1048576: true; the input reads as it did. -/
def fnLiftsUptoRow : OpenClaim := { program := "ytchabkkpdafkiaa", sum := "f2181e8b178463fb545a1a232f7d208be817e86e366af9c44ed7985ccdb8c576", func := "loop.example/g01613/laws.FnLifts", spec := "fnLifts", apart := false, narrowed := true }
def FnLiftsUptoSaid : Prop := fnLiftsUptoRow.holds Try.pinned (OpenSpec.upto fnLiftsSpec)

/-- 'laws.FnButterflies', WHERE WHAT IT READS IS OF BULK AT MOST 1048576: true; the input reads as it did. -/
def fnButterfliesUptoRow : OpenClaim := { program := "ytchabkkpdafkiaa", sum := "f2181e8b178463fb545a1a232f7d208be817e86e366af9c44ed7985ccdb8c576", func := "loop.example/g01613/laws.FnButterflies", spec := "fnButterflies", apart := false, narrowed := true }
def FnButterfliesUptoSaid : Prop := fnButterfliesUptoRow.holds Try.pinned (OpenSpec.upto fnButterfliesSpec)

end Rows
end Go.Proofs.Ytchabkkpdafkiaa
