/-
  No cell of these rows narrows 'for every input' (looked for: loops, veiled, ifaces, maps, wideKeys, modest, calm, conditions, laid).
  DERIVED. THE GIVEN ROWS OF THIS SEAT. 8 by the template 'for every input the law returns true; each argument reads behind the call as it read before'; 0 by the template 'total and deterministic' (their statements: YtlekgoeibndlcaaTotals.lean).
  GIVEN WITH THE SEED: the statements are not yours to turn. If you find one false, say at which input.
  Laid BY PROGRAM, IN A SANDBOX (cutbox-rows.mjs): the forced cells as the released guide's own fill.sh prints them over the translation e6a7742d763c3da3… (all of the seat's roots in one cut). By AI agents, Wed Nov 11 2026. No macro, syntax, notation, axiom, sorry.
-/
import Derived.Test.YtlekgoeibndlcaaChecked
import GoSem.Claim
import GoSem.ClaimJoined
import GoSem.ClaimMapViews
import Derived.JoinedTies
import Derived.KernelRfl
namespace Go.Proofs.Ytlekgoeibndlcaa
/- THE CELL 'sum', in the pinned program and in every row, IS THE sha256 OF THE DUMP (.gsa) THAT YtlekgoeibndlcaaProg.lean LOADS. Nothing in Lean hashes anything: it is a label: what it is worth is what the hold of that sum in a sandbox is worth. -/
noncomputable def Try.pinned : Pinned := { name := "ytlekgoeibndlcaa", sum := "e6a7742d763c3da3d35b67c5c27b69fdfd0ce9d26efa48a089dae25b263b65e7", checked := Try.checked }
namespace Rows
def none {H : Type} : Left H := { results := [], args := [] }

/-- 'laws.FnExactSameFrame': WHATEVER THE INPUT: true; the input reads as it did. -/
def fnExactSameFrameSpec : ChangeSpec := { name := "fnExactSameFrame", fn := fun _ => fun
  | [d1, d2] => { results := [.lit (.bool true)], args := [d1, d2] }
  | _ => none }
def fnExactSameFrameRow : OpenClaim := { program := "ytlekgoeibndlcaa", sum := "e6a7742d763c3da3d35b67c5c27b69fdfd0ce9d26efa48a089dae25b263b65e7", func := "loop.example/g01613/laws.FnExactSameFrame", spec := "fnExactSameFrame", apart := false }
def FnExactSameFrameSaid : Prop := fnExactSameFrameRow.holds Try.pinned (OpenSpec.ofChange fnExactSameFrameSpec)

/-- ITS FALSE NEIGHBOUR: 'it returns false'. Refute it at one input. -/
def fnExactSameFrameWrong : ChangeSpec := { name := "fnExactSameFrame", fn := fun _ => fun
  | [d1, d2] => { results := [.lit (.bool false)], args := [d1, d2] }
  | _ => none }
def FnExactSameFrameWrongFalsely : Prop := fnExactSameFrameRow.holds Try.pinned (OpenSpec.ofChange fnExactSameFrameWrong)

/-- 'laws.FnExactFrameOk': WHATEVER THE INPUT: true; the input reads as it did. -/
def fnExactFrameOkSpec : ChangeSpec := { name := "fnExactFrameOk", fn := fun _ => fun
  | [d] => { results := [.lit (.bool true)], args := [d] }
  | _ => none }
def fnExactFrameOkRow : OpenClaim := { program := "ytlekgoeibndlcaa", sum := "e6a7742d763c3da3d35b67c5c27b69fdfd0ce9d26efa48a089dae25b263b65e7", func := "loop.example/g01613/laws.FnExactFrameOk", spec := "fnExactFrameOk", apart := false }
def FnExactFrameOkSaid : Prop := fnExactFrameOkRow.holds Try.pinned (OpenSpec.ofChange fnExactFrameOkSpec)

/-- ITS FALSE NEIGHBOUR: 'it returns false'. Refute it at one input. -/
def fnExactFrameOkWrong : ChangeSpec := { name := "fnExactFrameOk", fn := fun _ => fun
  | [d] => { results := [.lit (.bool false)], args := [d] }
  | _ => none }
def FnExactFrameOkWrongFalsely : Prop := fnExactFrameOkRow.holds Try.pinned (OpenSpec.ofChange fnExactFrameOkWrong)

/-- 'laws.FnExactBlockAt': WHATEVER THE INPUT: true; the input reads as it did. -/
def fnExactBlockAtSpec : ChangeSpec := { name := "fnExactBlockAt", fn := fun _ => fun
  | [d1, d2, d3, d4] => { results := [.lit (.bool true)], args := [d1, d2, d3, d4] }
  | _ => none }
def fnExactBlockAtRow : OpenClaim := { program := "ytlekgoeibndlcaa", sum := "e6a7742d763c3da3d35b67c5c27b69fdfd0ce9d26efa48a089dae25b263b65e7", func := "loop.example/g01613/laws.FnExactBlockAt", spec := "fnExactBlockAt", apart := false }
def FnExactBlockAtSaid : Prop := fnExactBlockAtRow.holds Try.pinned (OpenSpec.ofChange fnExactBlockAtSpec)

/-- ITS FALSE NEIGHBOUR: 'it returns false'. Refute it at one input. -/
def fnExactBlockAtWrong : ChangeSpec := { name := "fnExactBlockAt", fn := fun _ => fun
  | [d1, d2, d3, d4] => { results := [.lit (.bool false)], args := [d1, d2, d3, d4] }
  | _ => none }
def FnExactBlockAtWrongFalsely : Prop := fnExactBlockAtRow.holds Try.pinned (OpenSpec.ofChange fnExactBlockAtWrong)

/-- 'laws.FnExactSetBlock': WHATEVER THE INPUT: true; the input reads as it did. -/
def fnExactSetBlockSpec : ChangeSpec := { name := "fnExactSetBlock", fn := fun _ => fun
  | [d1, d2, d3, d4] => { results := [.lit (.bool true)], args := [d1, d2, d3, d4] }
  | _ => none }
def fnExactSetBlockRow : OpenClaim := { program := "ytlekgoeibndlcaa", sum := "e6a7742d763c3da3d35b67c5c27b69fdfd0ce9d26efa48a089dae25b263b65e7", func := "loop.example/g01613/laws.FnExactSetBlock", spec := "fnExactSetBlock", apart := false }
def FnExactSetBlockSaid : Prop := fnExactSetBlockRow.holds Try.pinned (OpenSpec.ofChange fnExactSetBlockSpec)

/-- ITS FALSE NEIGHBOUR: 'it returns false'. Refute it at one input. -/
def fnExactSetBlockWrong : ChangeSpec := { name := "fnExactSetBlock", fn := fun _ => fun
  | [d1, d2, d3, d4] => { results := [.lit (.bool false)], args := [d1, d2, d3, d4] }
  | _ => none }
def FnExactSetBlockWrongFalsely : Prop := fnExactSetBlockRow.holds Try.pinned (OpenSpec.ofChange fnExactSetBlockWrong)

/-- 'laws.FnExactNbAt': WHATEVER THE INPUT: true; the input reads as it did. -/
def fnExactNbAtSpec : ChangeSpec := { name := "fnExactNbAt", fn := fun _ => fun
  | [d1, d2, d3, d4] => { results := [.lit (.bool true)], args := [d1, d2, d3, d4] }
  | _ => none }
def fnExactNbAtRow : OpenClaim := { program := "ytlekgoeibndlcaa", sum := "e6a7742d763c3da3d35b67c5c27b69fdfd0ce9d26efa48a089dae25b263b65e7", func := "loop.example/g01613/laws.FnExactNbAt", spec := "fnExactNbAt", apart := false }
def FnExactNbAtSaid : Prop := fnExactNbAtRow.holds Try.pinned (OpenSpec.ofChange fnExactNbAtSpec)

/-- ITS FALSE NEIGHBOUR: 'it returns false'. Refute it at one input. -/
def fnExactNbAtWrong : ChangeSpec := { name := "fnExactNbAt", fn := fun _ => fun
  | [d1, d2, d3, d4] => { results := [.lit (.bool false)], args := [d1, d2, d3, d4] }
  | _ => none }
def FnExactNbAtWrongFalsely : Prop := fnExactNbAtRow.holds Try.pinned (OpenSpec.ofChange fnExactNbAtWrong)

/-- 'laws.FnExactHorRow': WHATEVER THE INPUT: true; the input reads as it did. -/
def fnExactHorRowSpec : ChangeSpec := { name := "fnExactHorRow", fn := fun _ => fun
  | [d1, d2, d3] => { results := [.lit (.bool true)], args := [d1, d2, d3] }
  | _ => none }
def fnExactHorRowRow : OpenClaim := { program := "ytlekgoeibndlcaa", sum := "e6a7742d763c3da3d35b67c5c27b69fdfd0ce9d26efa48a089dae25b263b65e7", func := "loop.example/g01613/laws.FnExactHorRow", spec := "fnExactHorRow", apart := false }
def FnExactHorRowSaid : Prop := fnExactHorRowRow.holds Try.pinned (OpenSpec.ofChange fnExactHorRowSpec)

/-- ITS FALSE NEIGHBOUR: 'it returns false'. Refute it at one input. -/
def fnExactHorRowWrong : ChangeSpec := { name := "fnExactHorRow", fn := fun _ => fun
  | [d1, d2, d3] => { results := [.lit (.bool false)], args := [d1, d2, d3] }
  | _ => none }
def FnExactHorRowWrongFalsely : Prop := fnExactHorRowRow.holds Try.pinned (OpenSpec.ofChange fnExactHorRowWrong)

/-- 'laws.FnExactVertRow': WHATEVER THE INPUT: true; the input reads as it did. -/
def fnExactVertRowSpec : ChangeSpec := { name := "fnExactVertRow", fn := fun _ => fun
  | [d1, d2, d3] => { results := [.lit (.bool true)], args := [d1, d2, d3] }
  | _ => none }
def fnExactVertRowRow : OpenClaim := { program := "ytlekgoeibndlcaa", sum := "e6a7742d763c3da3d35b67c5c27b69fdfd0ce9d26efa48a089dae25b263b65e7", func := "loop.example/g01613/laws.FnExactVertRow", spec := "fnExactVertRow", apart := false }
def FnExactVertRowSaid : Prop := fnExactVertRowRow.holds Try.pinned (OpenSpec.ofChange fnExactVertRowSpec)

/-- ITS FALSE NEIGHBOUR: 'it returns false'. Refute it at one input. -/
def fnExactVertRowWrong : ChangeSpec := { name := "fnExactVertRow", fn := fun _ => fun
  | [d1, d2, d3] => { results := [.lit (.bool false)], args := [d1, d2, d3] }
  | _ => none }
def FnExactVertRowWrongFalsely : Prop := fnExactVertRowRow.holds Try.pinned (OpenSpec.ofChange fnExactVertRowWrong)

/-- 'laws.FnExactDeblockRef': WHATEVER THE INPUT: true; the input reads as it did. -/
def fnExactDeblockRefSpec : ChangeSpec := { name := "fnExactDeblockRef", fn := fun _ => fun
  | [d1, d2] => { results := [.lit (.bool true)], args := [d1, d2] }
  | _ => none }
def fnExactDeblockRefRow : OpenClaim := { program := "ytlekgoeibndlcaa", sum := "e6a7742d763c3da3d35b67c5c27b69fdfd0ce9d26efa48a089dae25b263b65e7", func := "loop.example/g01613/laws.FnExactDeblockRef", spec := "fnExactDeblockRef", apart := false }
def FnExactDeblockRefSaid : Prop := fnExactDeblockRefRow.holds Try.pinned (OpenSpec.ofChange fnExactDeblockRefSpec)

/-- ITS FALSE NEIGHBOUR: 'it returns false'. Refute it at one input. -/
def fnExactDeblockRefWrong : ChangeSpec := { name := "fnExactDeblockRef", fn := fun _ => fun
  | [d1, d2] => { results := [.lit (.bool false)], args := [d1, d2] }
  | _ => none }
def FnExactDeblockRefWrongFalsely : Prop := fnExactDeblockRefRow.holds Try.pinned (OpenSpec.ofChange fnExactDeblockRefWrong)

/- THE SECOND FORM. 'bulk': how many values and letters a reading holds, each counted each time it is reached (what is shared counts as often as it is met; a slice's spare places count too). A statement '..UptoSaid' is the law's where the arguments, and the package variables that the reading takes, are together of bulk at most 1048576: NARROWER than '..Said'. Prove '..Said' where nothing that the law and all that it calls make is longer than what came in: it says more and counts as full. Else prove '..UptoSaid'. A law counts once. -/
mutual
def uptoBulk {H : Type} : DataW H → Nat
  | .lit (.string bytes) => bytes.length + 1
  | .lit _ => 1
  | .nil => 1
  | .ptr d => uptoBulk d + 1
  | .slice elems spare => uptoBulkAll elems + uptoBulkAll spare + 1
  | .agg parts => uptoBulkAll parts + 1
  | .iface _ d => uptoBulk d + 1
  | .map entries => uptoBulkEntries entries + 1
  | .held _ => 1
def uptoBulkAll {H : Type} : List (DataW H) → Nat
  | [] => 0
  | d :: r => uptoBulk d + uptoBulkAll r
def uptoBulkEntries {H : Type} : List (Lit × DataW H) → Nat
  | [] => 0
  | x :: r => uptoBulkEntry x + uptoBulkEntries r
def uptoBulkEntry {H : Type} : Lit × DataW H → Nat
  | (.string bytes, d) => bytes.length + uptoBulk d + 1
  | (_, d) => uptoBulk d + 1
 end
def uptoSmall : (H : Type) → List (DataW H) → Bool := fun _ ds => decide (uptoBulkAll ds ≤ 1048576)
def OpenSpec.upto (s : _root_.Go.ChangeSpec) : _root_.Go.OpenSpec := { _root_.Go.OpenSpec.ofChange s with cond := some uptoSmall }

/-- 'laws.FnExactSameFrame', WHERE WHAT IT READS IS OF BULK AT MOST 1048576: true; the input reads as it did. -/
def fnExactSameFrameUptoRow : OpenClaim := { program := "ytlekgoeibndlcaa", sum := "e6a7742d763c3da3d35b67c5c27b69fdfd0ce9d26efa48a089dae25b263b65e7", func := "loop.example/g01613/laws.FnExactSameFrame", spec := "fnExactSameFrame", apart := false, narrowed := true }
def FnExactSameFrameUptoSaid : Prop := fnExactSameFrameUptoRow.holds Try.pinned (OpenSpec.upto fnExactSameFrameSpec)

/-- 'laws.FnExactFrameOk', WHERE WHAT IT READS IS OF BULK AT MOST 1048576: true; the input reads as it did. -/
def fnExactFrameOkUptoRow : OpenClaim := { program := "ytlekgoeibndlcaa", sum := "e6a7742d763c3da3d35b67c5c27b69fdfd0ce9d26efa48a089dae25b263b65e7", func := "loop.example/g01613/laws.FnExactFrameOk", spec := "fnExactFrameOk", apart := false, narrowed := true }
def FnExactFrameOkUptoSaid : Prop := fnExactFrameOkUptoRow.holds Try.pinned (OpenSpec.upto fnExactFrameOkSpec)

/-- 'laws.FnExactBlockAt', WHERE WHAT IT READS IS OF BULK AT MOST 1048576: true; the input reads as it did. -/
def fnExactBlockAtUptoRow : OpenClaim := { program := "ytlekgoeibndlcaa", sum := "e6a7742d763c3da3d35b67c5c27b69fdfd0ce9d26efa48a089dae25b263b65e7", func := "loop.example/g01613/laws.FnExactBlockAt", spec := "fnExactBlockAt", apart := false, narrowed := true }
def FnExactBlockAtUptoSaid : Prop := fnExactBlockAtUptoRow.holds Try.pinned (OpenSpec.upto fnExactBlockAtSpec)

/-- 'laws.FnExactSetBlock', WHERE WHAT IT READS IS OF BULK AT MOST 1048576: true; the input reads as it did. -/
def fnExactSetBlockUptoRow : OpenClaim := { program := "ytlekgoeibndlcaa", sum := "e6a7742d763c3da3d35b67c5c27b69fdfd0ce9d26efa48a089dae25b263b65e7", func := "loop.example/g01613/laws.FnExactSetBlock", spec := "fnExactSetBlock", apart := false, narrowed := true }
def FnExactSetBlockUptoSaid : Prop := fnExactSetBlockUptoRow.holds Try.pinned (OpenSpec.upto fnExactSetBlockSpec)

/-- 'laws.FnExactNbAt', WHERE WHAT IT READS IS OF BULK AT MOST 1048576: true; the input reads as it did. -/
def fnExactNbAtUptoRow : OpenClaim := { program := "ytlekgoeibndlcaa", sum := "e6a7742d763c3da3d35b67c5c27b69fdfd0ce9d26efa48a089dae25b263b65e7", func := "loop.example/g01613/laws.FnExactNbAt", spec := "fnExactNbAt", apart := false, narrowed := true }
def FnExactNbAtUptoSaid : Prop := fnExactNbAtUptoRow.holds Try.pinned (OpenSpec.upto fnExactNbAtSpec)

/-- 'laws.FnExactHorRow', WHERE WHAT IT READS IS OF BULK AT MOST 1048576: true; the input reads as it did. -/
def fnExactHorRowUptoRow : OpenClaim := { program := "ytlekgoeibndlcaa", sum := "e6a7742d763c3da3d35b67c5c27b69fdfd0ce9d26efa48a089dae25b263b65e7", func := "loop.example/g01613/laws.FnExactHorRow", spec := "fnExactHorRow", apart := false, narrowed := true }
def FnExactHorRowUptoSaid : Prop := fnExactHorRowUptoRow.holds Try.pinned (OpenSpec.upto fnExactHorRowSpec)

/-- 'laws.FnExactVertRow', WHERE WHAT IT READS IS OF BULK AT MOST 1048576: true; the input reads as it did. -/
def fnExactVertRowUptoRow : OpenClaim := { program := "ytlekgoeibndlcaa", sum := "e6a7742d763c3da3d35b67c5c27b69fdfd0ce9d26efa48a089dae25b263b65e7", func := "loop.example/g01613/laws.FnExactVertRow", spec := "fnExactVertRow", apart := false, narrowed := true }
def FnExactVertRowUptoSaid : Prop := fnExactVertRowUptoRow.holds Try.pinned (OpenSpec.upto fnExactVertRowSpec)

/-- 'laws.FnExactDeblockRef', WHERE WHAT IT READS IS OF BULK AT MOST 1048576: true; the input reads as it did. -/
def fnExactDeblockRefUptoRow : OpenClaim := { program := "ytlekgoeibndlcaa", sum := "e6a7742d763c3da3d35b67c5c27b69fdfd0ce9d26efa48a089dae25b263b65e7", func := "loop.example/g01613/laws.FnExactDeblockRef", spec := "fnExactDeblockRef", apart := false, narrowed := true }
def FnExactDeblockRefUptoSaid : Prop := fnExactDeblockRefUptoRow.holds Try.pinned (OpenSpec.upto fnExactDeblockRefSpec)

end Rows
end Go.Proofs.Ytlekgoeibndlcaa
