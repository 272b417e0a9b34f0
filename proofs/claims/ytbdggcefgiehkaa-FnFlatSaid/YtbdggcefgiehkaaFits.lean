/- Contracts: does a block fit into a frame? -/
import Derived.Test.YtbdggcefgiehkaaFr2
namespace Go.Proofs.Ytbdggcefgiehkaa
open Go.RowKit
set_option linter.unusedVariables false

def sizeB (n : Int) : Bool := decide (n = 4) || decide (n = 8)
theorem sizeB_true {n : Int} (h : sizeB n = true) : n = 4 ∨ n = 8 := by simpa [sizeB] using h

theorem impl.SizeOk_c (n : Int) (w : World) :
    Calls Try.prog 49 #[.int .i64 n] w fun e w' => e = .returned (.bool (sizeB n)) ∧ w = w' := by
  by_cases h4 : n = 4
  · subst h4
    go_enter Try.func49, Try.ntmps49
    go_wp2
    go_ret
    exact ⟨rfl, rfl⟩
  · by_cases h8 : n = 8
    · subst h8
      go_enter Try.func49, Try.ntmps49
      go_wp2
      go_ret
      exact ⟨rfl, rfl⟩
    · have hf : sizeB n = false := by simp [sizeB, h4, h8]
      have e4 : (n == 4) = false := by simp [h4]
      have e8 : (n == 8) = false := by simp [h8]
      have HF := Lib.hid hf
      clear hf h4 h8
      go_enter Try.func49, Try.ntmps49
      go_wp2
      go_ret
      exact ⟨ret_bool HF.out.symm, rfl⟩


theorem spec.SizeOk_c (n : Int) (w : World) :
    Calls Try.prog 65 #[.int .i64 n] w fun e w' => e = .returned (.bool (sizeB n)) ∧ w = w' := by
  by_cases h4 : n = 4
  · subst h4
    go_enter Try.func65, Try.ntmps65
    go_wp2
    go_ret
    exact ⟨rfl, rfl⟩
  · by_cases h8 : n = 8
    · subst h8
      go_enter Try.func65, Try.ntmps65
      go_wp2
      go_ret
      exact ⟨rfl, rfl⟩
    · have hf : sizeB n = false := by simp [sizeB, h4, h8]
      have e4 : (n == 4) = false := by simp [h4]
      have e8 : (n == 8) = false := by simp [h8]
      have HF := Lib.hid hf
      clear hf h4 h8
      go_enter Try.func65, Try.ntmps65
      go_wp2
      go_ret
      exact ⟨ret_bool HF.out.symm, rfl⟩

def fitsB (x y : Int) (l : List Int) (u v n : Int) : Bool := frameB x y l && (sizeB n && (inR 0 (x - n) u && (inR 0 (y - n) v && (decide (u % n = 0) && decide (v % n = 0)))))
theorem fitsB_true {x y : Int} {l : List Int} {u v n : Int} (h : fitsB x y l u v n = true) :
    frameB x y l = true ∧ (n = 4 ∨ n = 8) ∧ (0 ≤ u ∧ u ≤ x - n) ∧ (0 ≤ v ∧ v ≤ y - n) ∧ u % n = 0 ∧ v % n = 0 := by
  simp only [fitsB, Bool.and_eq_true, decide_eq_true_eq] at h
  exact ⟨h.1, sizeB_true h.2.1, inR_true h.2.2.1, inR_true h.2.2.2.1, h.2.2.2.2.1, h.2.2.2.2.2⟩

theorem fitsB_q1 {x y : Int} {l : List Int} {u v n : Int} (h : inR 0 (x - n) u = false) : fitsB x y l u v n = false := by rw [fitsB, h]; simp
theorem fitsB_q2 {x y : Int} {l : List Int} {u v n : Int} (h : inR 0 (y - n) v = false) : fitsB x y l u v n = false := by rw [fitsB, h]; simp
theorem fitsB_mod {x y : Int} {l : List Int} {u v n : Int} (h1 : frameB x y l = true) (h2 : sizeB n = true) (h3 : inR 0 (x - n) u = true) (h4 : inR 0 (y - n) v = true) : fitsB x y l u v n = (decide (u % n = 0) && decide (v % n = 0)) := by rw [fitsB, h1, h2, h3, h4]; rfl



























































































































































































end Go.Proofs.Ytbdggcefgiehkaa
