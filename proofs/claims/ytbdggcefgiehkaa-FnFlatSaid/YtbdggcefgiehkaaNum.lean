/- Contracts of functions on integers alone. -/
import Derived.Test.YtbdggcefgiehkaaMem
namespace Go.Proofs.Ytbdggcefgiehkaa
open Go.RowKit
set_option linter.unusedVariables false

def alphaF (q : Int) : Int := if inR 0 51 q then q + 4 else 0
def betaF (q : Int) : Int := if inR 0 51 q then q / 3 + 2 else 0

























































def modeWordF (m : Int) : ByteArray :=
  if m = 0 then ⟨#[109, 101, 97, 110]⟩ else if m = 1 then ⟨#[100, 111, 119, 110]⟩ else if m = 2 then ⟨#[97, 99, 114, 111, 115, 115]⟩ else
  if m = 3 then ⟨#[115, 108, 111, 112, 101]⟩ else if m = 4 then ⟨#[108, 101, 102, 116]⟩ else if m = 5 then ⟨#[114, 105, 103, 104, 116]⟩ else ⟨#[]⟩

set_option maxHeartbeats 400000 in
theorem impl.ModeWord_c (m : Int) (w : World) :
    Calls Try.prog 26 #[.int .i64 m] w fun e w' => e = .returned (.string (modeWordF m)) ∧ Below w.heap.size w w' := by
  by_cases h : 0 ≤ m ∧ m ≤ 5
  · have h1 := inR_mk h
    have hc : m = 0 ∨ m = 1 ∨ m = 2 ∨ m = 3 ∨ m = 4 ∨ m = 5 := by omega
    rcases hc with rfl | rfl | rfl | rfl | rfl | rfl
    all_goals
      clear h
      go_enter Try.func26, Try.ntmps26
      go_wp2_with (go_at_call 51; refine (within_c _ _ _ _).mono ?_; rintro e w' ⟨rfl, rfl⟩)
      go_ret
      exact ⟨rfl, (Below.refl _ _).alloc (Nat.le_refl _) _⟩
  · have h1 : inR 0 5 m = false := by
      cases hh : inR 0 5 m
      · rfl
      · exact absurd (inR_true hh) h
    have h2 : modeWordF m = ⟨#[]⟩ := by
      unfold modeWordF
      rw [if_neg (by omega), if_neg (by omega), if_neg (by omega), if_neg (by omega), if_neg (by omega), if_neg (by omega)]
    rw [h2]
    clear h2 h
    go_enter Try.func26, Try.ntmps26
    go_wp2_with (go_at_call 51; refine (within_c _ _ _ _).mono ?_; rintro e w' ⟨rfl, rfl⟩)
    go_ret
    exact ⟨rfl, Below.refl _ _⟩


set_option maxHeartbeats 400000 in
theorem spec.ModeWord_c (m : Int) (w : World) :
    Calls Try.prog 63 #[.int .i64 m] w fun e w' => e = .returned (.string (modeWordF m)) ∧ Below w.heap.size w w' := by
  by_cases h : 0 ≤ m ∧ m ≤ 5
  · have h1 := inR_mk h
    have hc : m = 0 ∨ m = 1 ∨ m = 2 ∨ m = 3 ∨ m = 4 ∨ m = 5 := by omega
    rcases hc with rfl | rfl | rfl | rfl | rfl | rfl
    all_goals
      clear h
      go_enter Try.func63, Try.ntmps63
      go_wp2_with (go_at_call 61; refine (l1In_c _ _ _ _).mono ?_; rintro e w' ⟨rfl, rfl⟩)
      go_ret
      exact ⟨rfl, (Below.refl _ _).alloc (Nat.le_refl _) _⟩
  · have h1 : inR 0 5 m = false := by
      cases hh : inR 0 5 m
      · rfl
      · exact absurd (inR_true hh) h
    have h2 : modeWordF m = ⟨#[]⟩ := by
      unfold modeWordF
      rw [if_neg (by omega), if_neg (by omega), if_neg (by omega), if_neg (by omega), if_neg (by omega), if_neg (by omega)]
    rw [h2]
    clear h2 h
    go_enter Try.func63, Try.ntmps63
    go_wp2_with (go_at_call 61; refine (l1In_c _ _ _ _).mono ?_; rintro e w' ⟨rfl, rfl⟩)
    go_ret
    exact ⟨rfl, Below.refl _ _⟩

end Go.Proofs.Ytbdggcefgiehkaa
