/- Contracts of functions on integers alone. -/
import Derived.Test.YtkfjbnhihjnhnaaMem
namespace Go.Proofs.Ytkfjbnhihjnhnaa
open Go.RowKit
set_option linter.unusedVariables false

def alphaF (q : Int) : Int := if inR 0 51 q then q + 4 else 0
def betaF (q : Int) : Int := if inR 0 51 q then q / 3 + 2 else 0

theorem impl.AlphaOf_c (q : Int) (w : World) :
    Calls Try.prog 19 #[.int .i64 q] w fun e w' => e = .returned (.int .i64 (alphaF q)) ∧ w = w' := by
  cases h1 : inR 0 51 q
  · go_enter Try.func19, Try.ntmps19
    go_wp2_with (go_at_call 58; refine (within_c _ _ _ _).mono ?_; rintro e w' ⟨rfl, rfl⟩)
    go_ret
    exact ⟨ret_int (by simp [alphaF, h1]), rfl⟩
  · obtain ⟨h1a, h1b⟩ := inR_true h1
    go_enter Try.func19, Try.ntmps19
    go_wp2_with (go_at_call 58; refine (within_c _ _ _ _).mono ?_; rintro e w' ⟨rfl, rfl⟩)
    go_ret
    exact ⟨ret_int (by simp [alphaF, h1]; try omega), rfl⟩


theorem spec.AlphaOf_c (q : Int) (w : World) :
    Calls Try.prog 41 #[.int .i64 q] w fun e w' => e = .returned (.int .i64 (alphaF q)) ∧ w = w' := by
  cases h1 : inR 0 51 q
  · go_enter Try.func41, Try.ntmps41
    go_wp2_with (go_at_call 59; refine (l1In_c _ _ _ _).mono ?_; rintro e w' ⟨rfl, rfl⟩)
    go_ret
    exact ⟨ret_int (by simp [alphaF, h1]), rfl⟩
  · obtain ⟨h1a, h1b⟩ := inR_true h1
    go_enter Try.func41, Try.ntmps41
    go_wp2_with (go_at_call 59; refine (l1In_c _ _ _ _).mono ?_; rintro e w' ⟨rfl, rfl⟩)
    go_ret
    exact ⟨ret_int (by simp [alphaF, h1]; try omega), rfl⟩


theorem impl.BetaOf_c (q : Int) (w : World) :
    Calls Try.prog 20 #[.int .i64 q] w fun e w' => e = .returned (.int .i64 (betaF q)) ∧ w = w' := by
  cases h1 : inR 0 51 q
  · go_enter Try.func20, Try.ntmps20
    go_wp2_with (go_at_call 58; refine (within_c _ _ _ _).mono ?_; rintro e w' ⟨rfl, rfl⟩)
    go_ret
    exact ⟨ret_int (by simp [betaF, h1]), rfl⟩
  · obtain ⟨h1a, h1b⟩ := inR_true h1
    go_enter Try.func20, Try.ntmps20
    go_wp2_with (go_at_call 58; refine (within_c _ _ _ _).mono ?_; rintro e w' ⟨rfl, rfl⟩)
    go_ret
    exact ⟨ret_int (by simp [betaF, h1]; try omega), rfl⟩


theorem spec.BetaOf_c (q : Int) (w : World) :
    Calls Try.prog 21 #[.int .i64 q] w fun e w' => e = .returned (.int .i64 (betaF q)) ∧ w = w' := by
  cases h1 : inR 0 51 q
  · go_enter Try.func21, Try.ntmps21
    go_wp2_with (go_at_call 59; refine (l1In_c _ _ _ _).mono ?_; rintro e w' ⟨rfl, rfl⟩)
    go_ret
    exact ⟨ret_int (by simp [betaF, h1]), rfl⟩
  · obtain ⟨h1a, h1b⟩ := inR_true h1
    go_enter Try.func21, Try.ntmps21
    go_wp2_with (go_at_call 59; refine (l1In_c _ _ _ _).mono ?_; rintro e w' ⟨rfl, rfl⟩)
    go_ret
    exact ⟨ret_int (by simp [betaF, h1]; try omega), rfl⟩


def modeWordF (m : Int) : ByteArray :=
  if m = 0 then ⟨#[109, 101, 97, 110]⟩ else if m = 1 then ⟨#[100, 111, 119, 110]⟩ else if m = 2 then ⟨#[97, 99, 114, 111, 115, 115]⟩ else
  if m = 3 then ⟨#[115, 108, 111, 112, 101]⟩ else if m = 4 then ⟨#[108, 101, 102, 116]⟩ else if m = 5 then ⟨#[114, 105, 103, 104, 116]⟩ else ⟨#[]⟩
























































end Go.Proofs.Ytkfjbnhihjnhnaa
