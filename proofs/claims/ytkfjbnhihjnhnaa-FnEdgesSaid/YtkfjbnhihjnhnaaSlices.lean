/- Contracts of the library's functions on slices of integers. -/
import Derived.Test.YtkfjbnhihjnhnaaInts
import Derived.WalkSpells
namespace Go.Proofs.Ytkfjbnhihjnhnaa
open Go.RowKit
set_option linter.unusedVariables false


set_option maxHeartbeats 400000 in
theorem Clone_c (a : Option Addr) (c : Nat) (l : List Int) (w : World) (hl : l.length ≤ 1099511627776) (hr : Row w a l) (ha : a = none → l = []) :
    Calls Try.prog 69 #[.slice a l.length c] w fun e w' => ∃ b d, e = .returned (.slice b l.length d) ∧ Own w.heap.size w' b d l ∧ Below w.heap.size w w' := by
  have hq := fun (w : World) (a : Option Addr) (n c : Nat) => Lib.run_eql_slice_nil (P := Try.prog) w 24 3 a n c 0 0 Try.underlying24
  cases a with
  | none =>
    obtain rfl := ha rfl
    clear ha hr
    go_enter Try.func69, Try.ntmps69
    go_wp2
    go_ret
    exact ⟨none, 0, rfl, Own.none_ _ _, Below.refl _ _⟩
  | some p2 =>
    clear ha
    have HR := Lib.hid hr
    clear hr
    go_enter Try.func69, Try.ntmps69
    go_wp2_with (at_builtin; refine append_many Try.underlying24 Try.infoInt rfl (.tmp 5) (.tmp 6) rfl w.heap.size _ _ 0 [] rfl rfl (Own.lit w #[] [] rfl (Nat.le_refl _) (by simp [maxLen])) p2 l.length c l rfl rfl (HR.out.alloc _) ?_ ?_ ?_; (omega); (simp); intro ad1 cc1 w1 hown1 hb1)
    simp only [List.nil_append] at hown1
    go_wp2
    go_ret
    exact ⟨ad1, cc1, ret_slice (by simp), hown1, ((Below.refl w.heap.size w).alloc (Nat.le_refl _) _).trans hb1⟩

end Go.Proofs.Ytkfjbnhihjnhnaa
