/- Contracts of clipping and smoothing. -/
import Derived.Test.YtkfjbnhihjnhnaaList
import Derived.StillTailTactics
namespace Go.Proofs.Ytkfjbnhihjnhnaa
open Go.RowKit
set_option linter.unusedVariables false

theorem still_of {P : Program} {f : FuncId} {args : Array Value} {w : World} {v : Value} (h : Calls P f args w fun e w' => e = .returned v ∧ w = w') : Calls P f args w fun e w'' => e = .returned v ∧ w'' = w :=
  h.mono fun _ _ ⟨he, hm⟩ => ⟨he, hm.symm⟩

theorem min_if : ∀ x y : Int, (if y < x then y else x) = min x y := by intro x y; omega
theorem max_if : ∀ x y : Int, (if x < y then y else x) = max x y := by intro x y; omega

/-- n kept from lo to hi -/
def clipF (lo hi n : Int) : Int := max lo (min n hi)
theorem clip_if : ∀ v : Int, max 0 (min 255 v) = clipF 0 255 v := by intro v; unfold clipF; omega
theorem clipF_bd (lo hi n : Int) (h : lo ≤ hi) : lo ≤ clipF lo hi n ∧ clipF lo hi n ≤ hi := by unfold clipF; omega

theorem impl.limited_c (n lo hi : Int) (w : World) :
    Calls Try.prog 53 #[.int .i64 n, .int .i64 lo, .int .i64 hi] w fun e w' => e = .returned (.int .i64 (clipF lo hi n)) ∧ w = w' := by
  have hmin := min_if
  have hmax := max_if
  go_enter Try.func53, Try.ntmps53
  go_wp2
  go_ret
  exact ⟨ret_int (by unfold clipF; first | rfl | omega), rfl⟩


theorem spec.l15Clip_c (n : Int) (w : World) :
    Calls Try.prog 57 #[.int .i64 n] w fun e w' => e = .returned (.int .i64 (clipF 0 255 n)) ∧ w = w' := by
  have hmin := min_if
  have hmax := max_if
  go_enter Try.func57, Try.ntmps57
  go_wp2
  go_ret
  exact ⟨ret_int (by unfold clipF; first | rfl | omega), rfl⟩

/-- the smoothed value of three -/
def softF (a b c : Int) : Int := (a + 2 * b + c + 2) / 4
theorem softF_bd {a b c : Int} (ha : 0 ≤ a ∧ a ≤ 255) (hb : 0 ≤ b ∧ b ≤ 255) (hc : 0 ≤ c ∧ c ≤ 255) : 0 ≤ softF a b c ∧ softF a b c ≤ 255 := by unfold softF; omega






















end Go.Proofs.Ytkfjbnhihjnhnaa
