/- Contracts of the draws of a prediction and a residual. -/
import Derived.Test.YtkfjbnhihjnhnaaDrawL
namespace Go.Proofs.Ytkfjbnhihjnhnaa
open Go.RowKit
set_option linter.unusedVariables false

theorem below_next {w w1 w2 : World} (h : Below w.heap.size w w1) (k : Below w1.heap.size w1 w2) : Below w.heap.size w w2 := h.trans (k.mono h.size)

theorem sameInts_b (a b : Option Addr) (c d : Nat) (l m : List Int) (w : World) (hl : l.length ≤ 4611686018427387904) (hm : m.length ≤ 4611686018427387904) (hra : Row w a l) (hrb : Row w b m) :
    Calls Try.prog 28 #[.slice a l.length c, .slice b m.length d] w fun e w' => e = .returned (.bool (decide (l = m))) ∧ Below w.heap.size w w' :=
  (sameInts_c a b c d l m w hl hm hra hrb).mono fun _ _ ⟨he, n, hw⟩ => ⟨he, by rw [hw]; exact below_drewN' (Below.refl _ _) n⟩
theorem sameInts_t (a b : Option Addr) (c d : Nat) (l : List Int) (w : World) (hl : l.length ≤ 4611686018427387904) (hra : Row w a l) (hrb : Row w b l) :
    Calls Try.prog 28 #[.slice a l.length c, .slice b l.length d] w fun e w' => e = .returned (.bool true) ∧ Below w.heap.size w w' :=
  (sameInts_b a b c d l l w hl hl hra hrb).mono fun _ _ ⟨he, hw⟩ => ⟨by rw [he]; simp, hw⟩


















































end Go.Proofs.Ytkfjbnhihjnhnaa
