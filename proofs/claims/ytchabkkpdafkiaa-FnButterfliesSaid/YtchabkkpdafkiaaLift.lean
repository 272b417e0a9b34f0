/- Contracts of the lifting functions. -/
import Derived.Test.YtchabkkpdafkiaaPack
namespace Go.Proofs.Ytchabkkpdafkiaa
open Go.RowKit
set_option linter.unusedVariables false

def lift4F : List Int → List Int
  | [x0, x1, x2, x3] =>
    let e := wrap64 (x0 + x2); let f := wrap64 (x0 - x2); let g := wrap64 (wrap64 (2 * x1) + x3); let h := wrap64 (x1 - wrap64 (2 * x3))
    [wrap64 (e + g), wrap64 (f + h), wrap64 (f - h), wrap64 (e - g)]
  | _ => []

theorem lift4F_no {l : List Int} (h : l.length ≠ 4) : lift4F l = [] := by
  unfold lift4F
  split
  · simp at h
  · rfl

theorem lift4F_len (l : List Int) : (lift4F l).length ≤ 1048576 := by
  unfold lift4F
  split <;> simp



























set_option maxHeartbeats 1000000 in
theorem spec.Lift4_c (a : Option Addr) (c : Nat) (l : List Int) (w : World) (hl : l.length ≤ 1099511627776) (hr : Row w a l) (hw : ∀ x ∈ l, -9223372036854775808 ≤ x ∧ x ≤ 9223372036854775807) :
    Calls Try.prog 54 #[.slice a l.length c] w fun e w' => ∃ b d, e = .returned (.slice b (lift4F l).length d) ∧ Own w.heap.size w' b d (lift4F l) ∧ Below w.heap.size w w' := by
  by_cases h4 : l.length = 4
  · obtain ⟨x0, x1, x2, x3, rfl⟩ := four_of h4
    clear h4 hl hw
    obtain ⟨b, off, rfl, c0, c1, c2, c3⟩ := hr.four
    clear hr
    simp only [List.length_cons, List.length_nil, Nat.zero_add, Nat.reduceAdd]
    go_enter Try.func54, Try.ntmps54
    go_wp2
    iterate 4 (go_quiet (fail); go_wp2)
    go_ret
    exact ⟨_, _, rfl, Own.lit _ _ (lift4F [x0, x1, x2, x3]) rfl (Nat.le_refl _) (by simp [lift4F, maxLen]), (below_drewN' (Below.refl _ _) _).alloc (Nat.le_refl _) _⟩
  · rw [lift4F_no h4]
    have hne : ((l.length : Int) != 4) = true := by simp; omega
    clear h4 hw
    go_enter Try.func54, Try.ntmps54
    go_wp2
    go_ret
    first
      | exact ⟨_, _, rfl, Own.none_ _ _, Below.refl _ _⟩
      | exact ⟨_, _, rfl, Own.lit _ _ [] rfl (Nat.le_refl _) (by simp [maxLen]), (Below.refl _ _).alloc (Nat.le_refl _) _⟩

end Go.Proofs.Ytchabkkpdafkiaa
