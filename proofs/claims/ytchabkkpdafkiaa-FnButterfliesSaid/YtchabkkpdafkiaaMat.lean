/- Plain laws on products of matrices and on lifts: no function of the program is named here. -/
import Derived.Test.YtchabkkpdafkiaaMem
import Derived.IntWalk
namespace Go.Proofs.Ytchabkkpdafkiaa
open Go.RowKit
set_option linter.unusedVariables false

/-- the sum of the first n values of f -/
def sumN (f : Nat → Int) : Nat → Int | 0 => 0 | k + 1 => sumN f k + f k
theorem sumN_congr {f g : Nat → Int} {n : Nat} (h : ∀ i, i < n → f i = g i) : sumN f n = sumN g n := by
  induction n with
  | zero => rfl
  | succ n ih => rw [sumN, sumN, ih (fun i hi => h i (by omega)), h n (by omega)]
theorem sumN_zero (n : Nat) : sumN (fun _ => 0) n = 0 := by
  induction n with
  | zero => rfl
  | succ n ih => rw [sumN, ih]; rfl
theorem sumN_add (f g : Nat → Int) (n : Nat) : sumN (fun i => f i + g i) n = sumN f n + sumN g n := by
  induction n with
  | zero => rfl
  | succ n ih => simp only [sumN, ih]; omega
theorem sumN_mul (c : Int) (f : Nat → Int) (n : Nat) : sumN (fun i => c * f i) n = c * sumN f n := by
  induction n with
  | zero => simp [sumN]
  | succ n ih => simp only [sumN, ih, Int.mul_add]
theorem sumN_mulr (c : Int) (f : Nat → Int) (n : Nat) : sumN (fun i => f i * c) n = sumN f n * c := by
  induction n with
  | zero => simp [sumN]
  | succ n ih => simp only [sumN, ih, Int.add_mul]
theorem sumN_swap (f : Nat → Nat → Int) (n m : Nat) : sumN (fun i => sumN (fun j => f i j) m) n = sumN (fun j => sumN (fun i => f i j) n) m := by
  induction n with
  | zero => simp only [sumN]; rw [sumN_zero]
  | succ n ih => simp only [sumN]; rw [ih, ← sumN_add]
theorem sumN_bd {f : Nat → Int} {n : Nat} {B : Int} (h : ∀ i, i < n → -B ≤ f i ∧ f i ≤ B) : -(n * B) ≤ sumN f n ∧ sumN f n ≤ n * B := by
  induction n with
  | zero => simp [sumN]
  | succ n ih =>
    have h1 := ih (fun i hi => h i (by omega))
    have h2 := h n (by omega)
    have e : ((n + 1 : Nat) : Int) * B = n * B + B := by rw [Int.natCast_add, Int.add_mul]; simp
    rw [e, sumN]
    omega

def halfAt (M : Nat → Nat → Int) (l : List Int) (n r k : Nat) : Int := sumN (fun i => M r i * l.getD (i * n + k) 0) n
def prodAt (M : Nat → Nat → Int) (l : List Int) (n r k : Nat) : Int := sumN (fun i => halfAt M l n r i * M k i) n
/-- a matrix times a square times the matrix turned -/
def prodL (M : Nat → Nat → Int) (l : List Int) (n : Nat) : List Int := tab (fun j => prodAt M l n (j / n) (j % n)) (n * n)
/-- each row of a square times the matrix turned -/
def rowAt (M : Nat → Nat → Int) (l : List Int) (n y k : Nat) : Int := sumN (fun j => M k j * l.getD (y * n + j) 0) n
def rowsL (M : Nat → Nat → Int) (l : List Int) (n : Nat) : List Int := tab (fun j => rowAt M l n (j / n) (j % n)) (n * n)
def turnL (l : List Int) (n : Nat) : List Int := tab (fun j => l.getD (j % n * n + j / n) 0) (n * n)

theorem sq_lt {n a b : Nat} (ha : a < n) (hb : b < n) : a * n + b < n * n := by
  have : (a + 1) * n ≤ n * n := Nat.mul_le_mul_right n ha
  rw [Nat.add_mul] at this
  omega
theorem sq_div {n a b : Nat} (hb : b < n) : (a * n + b) / n = a := by
  rw [Nat.mul_comm, Nat.mul_add_div (by omega), Nat.div_eq_of_lt hb]; rfl
theorem sq_mod {n a b : Nat} (hb : b < n) : (a * n + b) % n = b := by
  rw [Nat.mul_comm, Nat.mul_add_mod, Nat.mod_eq_of_lt hb]
theorem rows_turn (M : Nat → Nat → Int) (l : List Int) (n a b : Nat) (ha : a < n) (hb : b < n) :
    rowAt M (turnL (rowsL M l n) n) n a b = sumN (fun j => M b j * rowAt M l n j a) n := by
  unfold rowAt
  apply sumN_congr
  intro j hj
  congr 1
  unfold turnL
  rw [tab_getD _ _ _ (sq_lt ha hj), sq_div hj, sq_mod hj]
  unfold rowsL
  rw [tab_getD _ _ _ (sq_lt hj ha), sq_div ha, sq_mod ha]
  rfl
/-- lifting all rows, turning, and both once more: the product -/
theorem prod_lift (M : Nat → Nat → Int) (l : List Int) (n : Nat) : turnL (rowsL M (turnL (rowsL M l n) n) n) n = prodL M l n := by
  unfold prodL
  conv => lhs; unfold turnL
  apply tab_congr
  intro j hj
  have hn : 0 < n := by
    cases n with
    | zero => simp at hj
    | succ n => omega
  have h1 : j / n < n := Nat.div_lt_of_lt_mul hj
  have h2 : j % n < n := Nat.mod_lt _ hn
  generalize j / n = r at *
  generalize j % n = k at *
  have e0 : (rowsL M (turnL (rowsL M l n) n) n).getD (k * n + r) 0 = rowAt M (turnL (rowsL M l n) n) n k r := by
    show (tab (fun j => rowAt M (turnL (rowsL M l n) n) n (j / n) (j % n)) (n * n)).getD (k * n + r) 0 = _
    rw [tab_getD _ _ _ (sq_lt h2 h1), sq_div h1, sq_mod h1]
  refine e0.trans ?_
  rw [rows_turn M l n k r h2 h1]
  unfold prodAt halfAt rowAt
  have e1 : (fun j => M r j * sumN (fun i => M k i * l.getD (j * n + i) 0) n) = fun j => sumN (fun i => M r j * (M k i * l.getD (j * n + i) 0)) n := by
    funext j; rw [sumN_mul]
  have e2 : (fun i => sumN (fun j => M r j * l.getD (j * n + i) 0) n * M k i) = fun i => sumN (fun j => M r j * l.getD (j * n + i) 0 * M k i) n := by
    funext i; rw [sumN_mulr]
  rw [e1, e2, sumN_swap]
  apply sumN_congr
  intro i _
  apply sumN_congr
  intro j _
  rw [Int.mul_comm (M k i), ← Int.mul_assoc]

def rowsA : List (List Int) := [[1, 2, 1, 1], [1, 1, -1, -2], [1, -1, -1, 2], [1, -2, 1, -1]]
def rowsA0 : List (List Int) := [[1, 1, 1, 1], [2, 1, -1, -2], [1, -1, -1, 1], [1, -2, 2, -1]]
def rowsH : List (List Int) := [[1, 1, 1, 1, 1, 1, 1, 1], [1, -1, 1, -1, 1, -1, 1, -1], [1, 1, -1, -1, 1, 1, -1, -1], [1, -1, -1, 1, 1, -1, -1, 1], [1, 1, 1, 1, -1, -1, -1, -1], [1, -1, 1, -1, -1, 1, -1, 1], [1, 1, -1, -1, -1, -1, 1, 1], [1, -1, -1, 1, -1, 1, 1, -1]]
/-- entry of a matrix given by its rows -/
def ent (R : List (List Int)) (r k : Nat) : Int := (R.getD r []).getD k 0
theorem rowsA_ent : ∀ r, r < 4 → ∀ k, k < 4 → ent rowsA r k = ent rowsA0 k r := by decide
theorem rowsH_sym : ∀ r, r < 8 → ∀ k, k < 8 → ent rowsH r k = ent rowsH k r := by decide
theorem ent_bd4 : ∀ r, r < 4 → ∀ k, k < 4 → -2 ≤ ent rowsA r k ∧ ent rowsA r k ≤ 2 := by decide
theorem ent_bd40 : ∀ r, r < 4 → ∀ k, k < 4 → -2 ≤ ent rowsA0 r k ∧ ent rowsA0 r k ≤ 2 := by decide
theorem ent_bd8 : ∀ r, r < 8 → ∀ k, k < 8 → -2 ≤ ent rowsH r k ∧ ent rowsH r k ≤ 2 := by decide

theorem mul_bd2 {x y B : Int} (hx : -2 ≤ x ∧ x ≤ 2) (hy : -B ≤ y ∧ y ≤ B) : -(2 * B) ≤ x * y ∧ x * y ≤ 2 * B := by
  obtain ⟨h1, h2⟩ := hx
  have hc : x = -2 ∨ x = -1 ∨ x = 0 ∨ x = 1 ∨ x = 2 := by omega
  rcases hc with rfl | rfl | rfl | rfl | rfl <;> omega
theorem rowAt_bd {M : Nat → Nat → Int} {l : List Int} {n y k : Nat} {B : Int} (hM : ∀ j, j < n → -2 ≤ M k j ∧ M k j ≤ 2) (hl : ∀ j, j < n → -B ≤ l.getD (y * n + j) 0 ∧ l.getD (y * n + j) 0 ≤ B) :
    -(n * (2 * B)) ≤ rowAt M l n y k ∧ rowAt M l n y k ≤ n * (2 * B) := by
  unfold rowAt
  exact sumN_bd (fun i hi => mul_bd2 (hM i hi) (hl i hi))
end Go.Proofs.Ytchabkkpdafkiaa
