/- Plain laws: filtering in place gives what filtering out of one frame into another one gives. -/
import Derived.Test.YtkfjbnhihjnhnaaDebR
namespace Go.Proofs.Ytkfjbnhihjnhnaa
open Go.RowKit
set_option linter.unusedVariables false

theorem set_far (l : List Int) (i p : Nat) (v : Int) (h : p ≠ i) : (l.set i v).getD p 0 = l.getD p 0 := by
  simp only [List.getD_eq_getElem?_getD, List.getElem?_set]
  rw [if_neg (fun e => h e.symm)]
theorem smL_far (l : List Int) (at_ st : Nat) (q : Int) (p : Nat) (h1 : p ≠ at_) (h2 : p ≠ at_ - st) : (smL l at_ st q).getD p 0 = l.getD p 0 := by
  unfold smL
  rw [set_far _ _ _ _ h1, set_far _ _ _ _ h2]
theorem vR_far (W : Nat) (q : Int) (y : Nat) (l : List Int) (j p : Nat) (h : y * W + 8 * j < p) : (vR W q y l j).getD p 0 = l.getD p 0 := by
  induction j with
  | zero => rfl
  | succ j ih => rw [vR, smL_far _ _ _ _ _ (by omega) (by omega), ih (by omega)]
theorem vA_far (W : Nat) (q : Int) (y0 : Nat) (l : List Int) (k p : Nat) (hW : 8 ≤ W) (h : (y0 + k) * W ≤ p) : (vA W q y0 l k).getD p 0 = l.getD p 0 := by
  induction k with
  | zero => rfl
  | succ k ih =>
    have e : (y0 + (k + 1)) * W = (y0 + k) * W + W := by rw [← Nat.add_assoc, Nat.add_mul (y0 + k) 1 W, Nat.one_mul]
    rw [e] at h
    rw [vA, vR_far _ _ _ _ _ _ (by omega), ih (by omega)]
theorem vRC_eq (W : Nat) (q : Int) (y : Nat) (f m : List Int) (hf : ∀ p, y * W ≤ p → f.getD p 0 = m.getD p 0) (j : Nat) : vRC W q y f m j = vR W q y m j := by
  induction j with
  | zero => rfl
  | succ j ih =>
    have g : ∀ p, y * W + 8 * j < p → f.getD p 0 = (vR W q y m j).getD p 0 := fun p hp => (hf p (by omega)).trans (vR_far W q y m j p hp).symm
    rw [vRC, vR, ih]
    unfold smC smL
    rw [g (y * W + 8 * (j + 1) - 2 * 1) (by omega), g (y * W + 8 * (j + 1) - 1) (by omega), g (y * W + 8 * (j + 1)) (by omega), g (y * W + 8 * (j + 1) + 1) (by omega)]
theorem vAC_eq (W : Nat) (q : Int) (y0 : Nat) (l : List Int) (hW : 8 ≤ W) (k : Nat) : vAC W q y0 l l k = vA W q y0 l k := by
  induction k with
  | zero => rfl
  | succ k ih => rw [vAC, vA, ih, vRC_eq W q (y0 + k) l _ (fun p hp => (vA_far W q y0 l k p hW hp).symm)]
theorem hR_far (W : Nat) (q : Int) (y : Nat) (l : List Int) (x p : Nat) (h : ∀ x', x' < x → p ≠ y * W + x' ∧ p ≠ y * W + x' - W) : (hR W q y l x).getD p 0 = l.getD p 0 := by
  induction x with
  | zero => rfl
  | succ x ih => rw [hR, smL_far _ _ _ _ _ (h x (by omega)).1 (h x (by omega)).2, ih (fun x' hx => h x' (by omega))]
theorem hRC_eq (W : Nat) (q : Int) (y : Nat) (f m : List Int) (hy : 2 ≤ y) (hf : ∀ p, y * W ≤ p + 2 * W → f.getD p 0 = m.getD p 0) (x : Nat) (hx : x ≤ W) : hRC W q y f m x = hR W q y m x := by
  have hs2 : 2 * W ≤ y * W := Nat.mul_le_mul_right W hy
  induction x with
  | zero => rfl
  | succ x ih =>
    have g : ∀ p, y * W ≤ p + 2 * W → (∀ x', x' < x → p ≠ y * W + x' ∧ p ≠ y * W + x' - W) → f.getD p 0 = (hR W q y m x).getD p 0 := fun p hp h => (hf p hp).trans (hR_far W q y m x p h).symm
    rw [hRC, hR, ih (by omega)]
    unfold smC smL
    rw [g (y * W + x - 2 * W) (by omega) (fun x' h => by omega), g (y * W + x - W) (by omega) (fun x' h => by omega), g (y * W + x) (by omega) (fun x' h => by omega), g (y * W + x + W) (by omega) (fun x' h => by omega)]
theorem hA_far (W : Nat) (q : Int) (l : List Int) (j p : Nat) (hW : 0 < W) (h : (8 * j + 1) * W ≤ p) : (hA W q l j).getD p 0 = l.getD p 0 := by
  induction j with
  | zero => rfl
  | succ j ih =>
    have e1 : (8 * (j + 1) + 1) * W = 8 * (j + 1) * W + W := by rw [Nat.add_mul, Nat.one_mul]
    have e2 : (8 * j + 1) * W ≤ 8 * (j + 1) * W := Nat.mul_le_mul_right W (by omega)
    rw [hA, hR_far _ _ _ _ _ _ (fun x' hx => by omega), ih (by omega)]
theorem hAC_eq (W : Nat) (q : Int) (l : List Int) (hW : 0 < W) (j : Nat) : hAC W q l l j = hA W q l j := by
  induction j with
  | zero => rfl
  | succ j ih =>
    rw [hAC, hA, ih, hRC_eq W q (8 * (j + 1)) l _ (by omega) (fun p hp => ?_) W (Nat.le_refl _)]
    refine (hA_far W q l j p hW ?_).symm
    have e : 8 * (j + 1) * W = (8 * j + 6) * W + 2 * W := by rw [← Nat.add_mul]; congr 1
    have e2 : (8 * j + 1) * W ≤ (8 * j + 6) * W := Nat.mul_le_mul_right W (by omega)
    omega
end Go.Proofs.Ytkfjbnhihjnhnaa
