/- Contracts of small functions on integers: each returns what the plain function on integers gives, and leaves the world as it was. -/
import Derived.Test.YtchabkkpdafkiaaRows
import Derived.WalkKit
import Derived.ProofKit
import Derived.Lib.Hide
namespace Go.Proofs.Ytchabkkpdafkiaa
open Go.RowKit
set_option linter.unusedVariables false

theorem ret_bool {b b' : Bool} (h : b = b') : Ending.returned (.bool b) = .returned (.bool b') := by rw [h]
theorem ret_int {k : IntKind} {b b' : Int} (h : b = b') : Ending.returned (.int k b) = .returned (.int k b') := by rw [h]

def inR (lo hi n : Int) : Bool := decide (lo ≤ n) && decide (n ≤ hi)

theorem within_c (n lo hi : Int) (w : World) :
    Calls Try.prog 56 #[.int .i64 n, .int .i64 lo, .int .i64 hi] w fun e w' => e = .returned (.bool (inR lo hi n)) ∧ w = w' := by
  unfold inR
  go_enter Try.func56, Try.ntmps56
  go_wp2
  all_goals
    go_ret
    simp [*]
    try omega

theorem l1In_c (n lo hi : Int) (w : World) :
    Calls Try.prog 52 #[.int .i64 n, .int .i64 lo, .int .i64 hi] w fun e w' => e = .returned (.bool (inR lo hi n)) ∧ w = w' := by
  unfold inR
  go_enter Try.func52, Try.ntmps52
  go_wp2
  all_goals
    go_ret
    simp [*]
    try omega

theorem inR_true {lo hi n : Int} (h : inR lo hi n = true) : lo ≤ n ∧ n ≤ hi := by simpa [inR] using h
theorem inR_mk {lo hi n : Int} (h : lo ≤ n ∧ n ≤ hi) : inR lo hi n = true := by simpa [inR] using h
theorem inR_false {lo hi n : Int} (h : inR lo hi n = false) : ¬ (lo ≤ n ∧ n ≤ hi) := by intro k; rw [inR_mk k] at h; cases h

def sidesB (x y : Int) : Bool := inR 8 32 x && inR 8 32 y && decide (x % 8 = 0) && decide (y % 8 = 0)
theorem sidesB_true {x y : Int} (h : sidesB x y = true) : 8 ≤ x ∧ x ≤ 32 ∧ 8 ≤ y ∧ y ≤ 32 ∧ x % 8 = 0 ∧ y % 8 = 0 := by
  simp [sidesB, inR] at h; omega
















































































end Go.Proofs.Ytchabkkpdafkiaa
