/- Contracts of the frame's small functions and of the statements' helpers on frames. -/
import Derived.Test.YtbdggcefgiehkaaNum
import Derived.Test.YtbdggcefgiehkaaList
namespace Go.Proofs.Ytbdggcefgiehkaa
open Go.RowKit
set_option linter.unusedVariables false

/-- a frame as a value -/
abbrev frv (x y : Int) (a : Option Addr) (n c : Nat) : Value := .agg #[.int .i64 x, .int .i64 y, .slice a n c]
theorem three_set {w0 : World} {B : Nat} {x0 x1 x2 : Value} (a b c : Value) (h0 : w0.cell? ⟨B, 0, none⟩ = some x0) (h1 : w0.cell? ⟨B, 1, none⟩ = some x1) (h2 : w0.cell? ⟨B, 2, none⟩ = some x2) :
    (((w0.setCell ⟨B, 0, none⟩ a).setCell ⟨B, 1, none⟩ b).setCell ⟨B, 2, none⟩ c).cell? ⟨B, 0, none⟩ = some a ∧ (((w0.setCell ⟨B, 0, none⟩ a).setCell ⟨B, 1, none⟩ b).setCell ⟨B, 2, none⟩ c).cell? ⟨B, 1, none⟩ = some b ∧ (((w0.setCell ⟨B, 0, none⟩ a).setCell ⟨B, 1, none⟩ b).setCell ⟨B, 2, none⟩ c).cell? ⟨B, 2, none⟩ = some c := by
  refine ⟨?_, ?_, ?_⟩
  · rw [World.cell?_setCell_other _ _ _ _ (by simp), World.cell?_setCell_other _ _ _ _ (by simp), World.cell?_setCell_same _ _ _ h0]
  · rw [World.cell?_setCell_other _ _ _ _ (by simp)]
    exact World.cell?_setCell_same _ _ _ ((World.cell?_setCell_other _ _ _ _ (by simp)).trans h1)
  · exact World.cell?_setCell_same _ _ _ ((World.cell?_setCell_other _ _ _ _ (by simp)).trans ((World.cell?_setCell_other _ _ _ _ (by simp)).trans h2))
theorem Own.far {B : Nat} {w : World} {a : Option Addr} {c : Nat} {l : List Int} (h : Own B w a c l) {p : Addr} (hp : p.block < B) (u : Value) : Own B (w.setCell p u) a c l := ownsRow_setCell_below h hp u
def zeros (n : Nat) : List Int := List.replicate n 0
theorem zeros_len (n : Nat) : (zeros n).length = n := by simp [zeros]
def newL (x y : Int) : List Int := if sidesB x y then zeros (x * y).toNat else []
def newS (x y z : Int) : Int := if sidesB x y then z else 0
theorem area_bd {x y : Int} (h : sidesB x y = true) : 64 ≤ x * y ∧ x * y ≤ 1024 := by
  obtain ⟨h1, h2, h3, h4, _, _⟩ := sidesB_true h
  constructor
  · have := Int.mul_le_mul h1 h3 (by omega) (by omega); omega
  · have := Int.mul_le_mul h2 h4 (by omega) (by omega); omega
theorem newL_len (x y : Int) : (newL x y).length ≤ 1048576 := by
  unfold newL
  split
  · rename_i h; rw [zeros_len]; have := area_bd h; omega
  · simp




































































































































































end Go.Proofs.Ytbdggcefgiehkaa
