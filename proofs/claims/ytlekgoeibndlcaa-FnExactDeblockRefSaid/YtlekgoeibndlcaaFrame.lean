/- Contracts of the frame's small functions and of the statements' helpers on frames. -/
import Derived.Test.YtlekgoeibndlcaaNum
import Derived.Test.YtlekgoeibndlcaaList
namespace Go.Proofs.Ytlekgoeibndlcaa
open Go.RowKit
set_option linter.unusedVariables false

/-- a frame as a value -/
abbrev frv (x y : Int) (a : Option Addr) (n c : Nat) : Value := .agg #[.int .i64 x, .int .i64 y, .slice a n c]
theorem three_set {w0 : World} {B : Nat} {x0 x1 x2 : Value} (a b c : Value) (h0 : w0.cell? ⟨B, 0, none⟩ = some x0) (h1 : w0.cell? ⟨B, 1, none⟩ = some x1) (h2 : w0.cell? ⟨B, 2, none⟩ = some x2) :
    (((w0.setCell ⟨B, 0, none⟩ a).setCell ⟨B, 1, none⟩ b).setCell ⟨B, 2, none⟩ c).cell? ⟨B, 0, none⟩ = some a ∧ (((w0.setCell ⟨B, 0, none⟩ a).setCell ⟨B, 1, none⟩ b).setCell ⟨B, 2, none⟩ c).cell? ⟨B, 1, none⟩ = some b ∧ (((w0.setCell ⟨B, 0, none⟩ a).setCell ⟨B, 1, none⟩ b).setCell ⟨B, 2, none⟩ c).cell? ⟨B, 2, none⟩ = some c := by
  refine ⟨?_, ?_, ?_⟩
  · rw [World.cell?_setCell_other _ _ _ _ (by simp), World.cell?_setCell_other _ _ _ _ (by simp), World.cell?_setCell_same _ _ _ h0]
  · rw [World.cell?_setCell_other _ _ _ _ (by simp)]
    exact World.cell?_setCell_same _ _ _ ((World.cell?_setCell_other _ _ _ _ (by simp)).trans h1)
  · exact World.cell?_setCell_same _ _ _ ((World.cell?_setCell_other _ _ _ _ (by simp)).trans ((World.cell?_setCell_other _ _ _ _ (by simp)).trans h2))
theorem Own.far {B : Nat} {w : World} {a : Option Addr} {c : Nat} {l : List Int} (h : Own B w a c l) {p : Addr} (hp : p.block < B) (u : Value) : Own B (w.setCell p u) a c l := ownsRow_setCell_below h hp u
def zeros (n : Nat) : List Int := List.replicate n 0
theorem zeros_len (n : Nat) : (zeros n).length = n := by simp [zeros]
def newL (x y : Int) : List Int := if sidesB x y then zeros (x * y).toNat else []
def newS (x y z : Int) : Int := if sidesB x y then z else 0
theorem area_bd {x y : Int} (h : sidesB x y = true) : 64 ≤ x * y ∧ x * y ≤ 1024 := by
  obtain ⟨h1, h2, h3, h4, _, _⟩ := sidesB_true h
  constructor
  · have := Int.mul_le_mul h1 h3 (by omega) (by omega); omega
  · have := Int.mul_le_mul h2 h4 (by omega) (by omega); omega
theorem newL_len (x y : Int) : (newL x y).length ≤ 1048576 := by
  unfold newL
  split
  · rename_i h; rw [zeros_len]; have := area_bd h; omega
  · simp





























































































































set_option maxHeartbeats 400000 in
theorem eqFrame_t (x y : Int) (a b : Option Addr) (c d : Nat) (l : List Int) (w : World) (hl : l.length ≤ 4611686018427387904) (hra : Row w a l) (hrb : Row w b l) :
    Calls Try.prog 15 #[frv x y a l.length c, frv x y b l.length d] w fun e w' => e = .returned (.bool true) ∧ Below w.heap.size w w' := by
  have hne : ∀ b : Int, (b != b) = false := by intro b; simp
  go_enter Try.func15, Try.ntmps15
  go_wp2_with fail
  refine (eqIntS_t _ _ _ _ l _ hl ((hra.alloc _).alloc _) ((hrb.alloc _).alloc _)).mono ?_
  rintro e w1 ⟨rfl, hb1⟩
  go_wp2
  go_ret
  exact ⟨rfl, (((Below.refl w.heap.size w).alloc (Nat.le_refl _) _).alloc (by simp) _).trans (hb1.mono (by simp; omega))⟩


set_option maxHeartbeats 400000 in
theorem markFrame_c (B : Nat) (x y : Int) (a : Option Addr) (c : Nat) (l : List Int) (k : Int) (w : World) (hl : l.length ≤ 4611686018427387904) (h0 : 0 ≤ k) (h1 : k ≤ 4611686018427387) (ho : Own B w a c l) :
    Calls Try.prog 21 #[frv x y a l.length c, .int .i64 k] w fun e w' => e = .returned (.int .i64 (k + l.length)) ∧ Own B w' a c (marks k l.length) ∧ w.grownBy w' (a.map (·.block)) := by
  go_enter Try.func21, Try.ntmps21
  go_wp2_with fail
  refine (markIntS_c B _ _ l k _ hl h0 h1 (ho.alloc _)).mono ?_
  rintro e w1 ⟨rfl, ho1, hg1⟩
  go_wp2
  go_ret
  refine ⟨rfl, ho1, ⟨hg1.os, hg1.tape, hg1.output, ?_, ?_⟩⟩
  · have := hg1.size; simp at this; omega
  · intro i hi hne
    exact (hg1.block i (by simp; omega) hne).trans (Below.heap_alloc w _ i hi)


set_option maxHeartbeats 400000 in
theorem heldFrame_b (x y : Int) (a : Option Addr) (c n : Nat) (k : Int) (w : World) (hl : n ≤ 1099511627776) (h0 : 0 ≤ k) (h1 : k ≤ 4611686018427387) (hr : Row w a (marks k n)) :
    Calls Try.prog 27 #[frv x y a n c, .int .i64 k] w fun e w' => e = .returned (.int .i64 (k + n)) ∧ Below w.heap.size w w' := by
  go_enter Try.func27, Try.ntmps27
  go_wp2_with fail
  refine (heldIntS_b _ _ n k _ (by omega) h0 h1 (hr.alloc _)).mono ?_
  rintro e w1 ⟨rfl, hb1⟩
  go_wp2
  go_ret
  exact ⟨rfl, ((Below.refl w.heap.size w).alloc (Nat.le_refl _) _).trans (hb1.mono (by simp))⟩

end Go.Proofs.Ytlekgoeibndlcaa
