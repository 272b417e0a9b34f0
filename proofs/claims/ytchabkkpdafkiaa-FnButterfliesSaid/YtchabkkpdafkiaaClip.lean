/- Contracts of clipping and smoothing. -/
import Derived.Test.YtchabkkpdafkiaaList
import Derived.StillTailTactics
namespace Go.Proofs.Ytchabkkpdafkiaa
open Go.RowKit
set_option linter.unusedVariables false

theorem still_of {P : Program} {f : FuncId} {args : Array Value} {w : World} {v : Value} (h : Calls P f args w fun e w' => e = .returned v ∧ w = w') : Calls P f args w fun e w'' => e = .returned v ∧ w'' = w :=
  h.mono fun _ _ ⟨he, hm⟩ => ⟨he, hm.symm⟩

theorem min_if : ∀ x y : Int, (if y < x then y else x) = min x y := by intro x y; omega
theorem max_if : ∀ x y : Int, (if x < y then y else x) = max x y := by intro x y; omega

/-- n kept from lo to hi -/
def clipF (lo hi n : Int) : Int := max lo (min n hi)
theorem clip_if : ∀ v : Int, max 0 (min 255 v) = clipF 0 255 v := by intro v; unfold clipF; omega
theorem clipF_bd (lo hi n : Int) (h : lo ≤ hi) : lo ≤ clipF lo hi n ∧ clipF lo hi n ≤ hi := by unfold clipF; omega




















/-- the smoothed value of three -/
def softF (a b c : Int) : Int := (a + 2 * b + c + 2) / 4
theorem softF_bd {a b c : Int} (ha : 0 ≤ a ∧ a ≤ 255) (hb : 0 ≤ b ∧ b ≤ 255) (hc : 0 ≤ c ∧ c ≤ 255) : 0 ≤ softF a b c ∧ softF a b c ≤ 255 := by unfold softF; omega






















end Go.Proofs.Ytchabkkpdafkiaa
