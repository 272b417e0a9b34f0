/- Contracts of small functions on integers: each returns what the plain function on integers gives, and leaves the world as it was. -/
import Derived.Test.YtkfjbnhihjnhnaaRows
import Derived.WalkKit
import Derived.ProofKit
import Derived.Lib.Hide
namespace Go.Proofs.Ytkfjbnhihjnhnaa
open Go.RowKit
set_option linter.unusedVariables false

theorem ret_bool {b b' : Bool} (h : b = b') : Ending.returned (.bool b) = .returned (.bool b') := by rw [h]
theorem ret_int {k : IntKind} {b b' : Int} (h : b = b') : Ending.returned (.int k b) = .returned (.int k b') := by rw [h]

def inR (lo hi n : Int) : Bool := decide (lo ≤ n) && decide (n ≤ hi)

theorem within_c (n lo hi : Int) (w : World) :
    Calls Try.prog 58 #[.int .i64 n, .int .i64 lo, .int .i64 hi] w fun e w' => e = .returned (.bool (inR lo hi n)) ∧ w = w' := by
  unfold inR
  go_enter Try.func58, Try.ntmps58
  go_wp2
  all_goals
    go_ret
    simp [*]
    try omega

theorem l1In_c (n lo hi : Int) (w : World) :
    Calls Try.prog 59 #[.int .i64 n, .int .i64 lo, .int .i64 hi] w fun e w' => e = .returned (.bool (inR lo hi n)) ∧ w = w' := by
  unfold inR
  go_enter Try.func59, Try.ntmps59
  go_wp2
  all_goals
    go_ret
    simp [*]
    try omega

theorem inR_true {lo hi n : Int} (h : inR lo hi n = true) : lo ≤ n ∧ n ≤ hi := by simpa [inR] using h
theorem inR_mk {lo hi n : Int} (h : lo ≤ n ∧ n ≤ hi) : inR lo hi n = true := by simpa [inR] using h
theorem inR_false {lo hi n : Int} (h : inR lo hi n = false) : ¬ (lo ≤ n ∧ n ≤ hi) := by intro k; rw [inR_mk k] at h; cases h

def sidesB (x y : Int) : Bool := inR 8 32 x && inR 8 32 y && decide (x % 8 = 0) && decide (y % 8 = 0)
theorem sidesB_true {x y : Int} (h : sidesB x y = true) : 8 ≤ x ∧ x ≤ 32 ∧ 8 ≤ y ∧ y ≤ 32 ∧ x % 8 = 0 ∧ y % 8 = 0 := by
  simp [sidesB, inR] at h; omega

set_option maxHeartbeats 400000 in
theorem impl.SidesOk_c (x y : Int) (w : World) :
    Calls Try.prog 47 #[.int .i64 x, .int .i64 y] w fun e w' => e = .returned (.bool (sidesB x y)) ∧ w = w' := by
  cases h1 : inR 8 32 x
  · have hf : sidesB x y = false := by simp [sidesB, h1]
    rw [hf]
    clear hf
    go_enter Try.func47, Try.ntmps47
    go_wp2_with (go_at_call 58; refine (within_c _ _ _ _).mono ?_; rintro e w' ⟨rfl, rfl⟩)
    go_ret
    exact ⟨rfl, rfl⟩
  · obtain ⟨h1a, h1b⟩ := inR_true h1
    cases h2 : inR 8 32 y
    · have hf : sidesB x y = false := by simp [sidesB, h2]
      rw [hf]
      clear hf
      go_enter Try.func47, Try.ntmps47
      go_wp2_with (go_at_call 58; refine (within_c _ _ _ _).mono ?_; rintro e w' ⟨rfl, rfl⟩)
      go_ret
      exact ⟨rfl, rfl⟩
    · obtain ⟨h2a, h2b⟩ := inR_true h2
      by_cases h3 : x % 8 = 0
      · have h3' : ((x % 8 : Int) == 0) = true := by simp [h3]
        have hf : sidesB x y = decide (y % 8 = 0) := by simp [sidesB, h1, h2, h3]
        have HF := Lib.hid hf
        clear hf h3
        go_enter Try.func47, Try.ntmps47
        go_wp2_with (go_at_call 58; refine (within_c _ _ _ _).mono ?_; rintro e w' ⟨rfl, rfl⟩)
        go_ret
        exact ⟨ret_bool (by rw [HF.out]; first | rfl | simp | (simp; omega)), rfl⟩
      · have h3' : ((x % 8 : Int) == 0) = false := by simp [h3]
        have hf : sidesB x y = false := by simp [sidesB, h3]
        rw [hf]
        clear hf h3
        go_enter Try.func47, Try.ntmps47
        go_wp2_with (go_at_call 58; refine (within_c _ _ _ _).mono ?_; rintro e w' ⟨rfl, rfl⟩)
        go_ret
        exact ⟨rfl, rfl⟩


set_option maxHeartbeats 400000 in
theorem spec.SidesOk_c (x y : Int) (w : World) :
    Calls Try.prog 45 #[.int .i64 x, .int .i64 y] w fun e w' => e = .returned (.bool (sidesB x y)) ∧ w = w' := by
  cases h1 : inR 8 32 x
  · have hf : sidesB x y = false := by simp [sidesB, h1]
    rw [hf]
    clear hf
    go_enter Try.func45, Try.ntmps45
    go_wp2_with (go_at_call 59; refine (l1In_c _ _ _ _).mono ?_; rintro e w' ⟨rfl, rfl⟩)
    go_ret
    exact ⟨rfl, rfl⟩
  · obtain ⟨h1a, h1b⟩ := inR_true h1
    cases h2 : inR 8 32 y
    · have hf : sidesB x y = false := by simp [sidesB, h2]
      rw [hf]
      clear hf
      go_enter Try.func45, Try.ntmps45
      go_wp2_with (go_at_call 59; refine (l1In_c _ _ _ _).mono ?_; rintro e w' ⟨rfl, rfl⟩)
      go_ret
      exact ⟨rfl, rfl⟩
    · obtain ⟨h2a, h2b⟩ := inR_true h2
      by_cases h3 : x % 8 = 0
      · have h3' : ((x % 8 : Int) == 0) = true := by simp [h3]
        have hf : sidesB x y = decide (y % 8 = 0) := by simp [sidesB, h1, h2, h3]
        have HF := Lib.hid hf
        clear hf h3
        go_enter Try.func45, Try.ntmps45
        go_wp2_with (go_at_call 59; refine (l1In_c _ _ _ _).mono ?_; rintro e w' ⟨rfl, rfl⟩)
        go_ret
        exact ⟨ret_bool (by rw [HF.out]; first | rfl | simp | (simp; omega)), rfl⟩
      · have h3' : ((x % 8 : Int) == 0) = false := by simp [h3]
        have hf : sidesB x y = false := by simp [sidesB, h3]
        rw [hf]
        clear hf h3
        go_enter Try.func45, Try.ntmps45
        go_wp2_with (go_at_call 59; refine (l1In_c _ _ _ _).mono ?_; rintro e w' ⟨rfl, rfl⟩)
        go_ret
        exact ⟨rfl, rfl⟩

end Go.Proofs.Ytkfjbnhihjnhnaa
