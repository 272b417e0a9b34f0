/- Contracts: the reference's transforms by matrices. -/
import Derived.Test.YtchabkkpdafkiaaMulS
import Derived.Test.YtchabkkpdafkiaaBoth
namespace Go.Proofs.Ytchabkkpdafkiaa
open Go.RowKit
set_option linter.unusedVariables false


set_option maxHeartbeats 1000000 in
theorem l12Some_4 (a : Option Addr) (c : Nat) (l : List Int) (w : World) (hl : l.length ≤ 1099511627776) (hr : Row w a l) :
    Calls Try.prog 42 #[.slice a l.length c, .int .i64 4, .bool true] w fun e w' => ∃ b d, e = .returned (.slice b (prodF rowsA 4 l).length d) ∧ Own w.heap.size w' b d (prodF rowsA 4 l) ∧ Below w.heap.size w w' := by
  have HF : Hid (Calls Try.prog 43 #[.slice a l.length c, .int .i64 4] w fun e w' => e = .returned (.bool (fitsM 4 l)) ∧ w = w') := Lib.hid (spec.l12Fits_c 4 a c l w (by omega) hl hr)
  cases h : fitsM 4 l
  · have e : prodF rowsA 4 l = [] := by simp [prodF, h]
    rw [e]
    rw [h] at HF
    clear hr
    go_enter Try.func42, Try.ntmps42
    go_wp2_with (go_at_call 43; refine HF.out.mono ?_; rintro e w' ⟨rfl, rfl⟩)
    go_ret
    exact ⟨_, _, rfl, Own.lit w #[] [] rfl (Nat.le_refl _) (by simp [maxLen]), (Below.refl _ _).alloc (Nat.le_refl _) _⟩
  · have e : prodF rowsA 4 l = prodL (ent rowsA) l 4 := by simp [prodF, h]
    have hm : l.length = 16 ∧ allR (-1000000000) 1000000000 l = true := by simpa [fitsM] using h
    have HP : Hid (Calls Try.prog 51 #[.slice a 16 c, .int .i64 4, .bool true] w fun e w' => ∃ b d, e = .returned (.slice b 16 d) ∧ Own w.heap.size w' b d (prodL (ent rowsA) l 4) ∧ Below w.heap.size w w') := Lib.hid (l12Mul_4 a c l w hm.1 hm.2 hr)
    rw [e, prodL_len]
    rw [h] at HF
    rw [hm.1] at HF ⊢
    clear hr hm h hl e
    go_enter Try.func42, Try.ntmps42
    go_wp2_with fail
    refine HF.out.mono ?_
    rintro e w' ⟨rfl, rfl⟩
    go_wp2_with fail
    refine HP.out.mono ?_
    rintro e w1 ⟨b, d, rfl, ho, hb⟩
    go_wp2
    go_ret
    exact ⟨b, d, rfl, ho, hb⟩
set_option maxHeartbeats 1000000 in
theorem l12Some_8 (a : Option Addr) (c : Nat) (l : List Int) (w : World) (hl : l.length ≤ 1099511627776) (hr : Row w a l) :
    Calls Try.prog 42 #[.slice a l.length c, .int .i64 8, .bool false] w fun e w' => ∃ b d, e = .returned (.slice b (prodF rowsH 8 l).length d) ∧ Own w.heap.size w' b d (prodF rowsH 8 l) ∧ Below w.heap.size w w' := by
  have HF : Hid (Calls Try.prog 43 #[.slice a l.length c, .int .i64 8] w fun e w' => e = .returned (.bool (fitsM 8 l)) ∧ w = w') := Lib.hid (spec.l12Fits_c 8 a c l w (by omega) hl hr)
  cases h : fitsM 8 l
  · have e : prodF rowsH 8 l = [] := by simp [prodF, h]
    rw [e]
    rw [h] at HF
    clear hr
    go_enter Try.func42, Try.ntmps42
    go_wp2_with (go_at_call 43; refine HF.out.mono ?_; rintro e w' ⟨rfl, rfl⟩)
    go_ret
    exact ⟨_, _, rfl, Own.lit w #[] [] rfl (Nat.le_refl _) (by simp [maxLen]), (Below.refl _ _).alloc (Nat.le_refl _) _⟩
  · have e : prodF rowsH 8 l = prodL (ent rowsH) l 8 := by simp [prodF, h]
    have hm : l.length = 64 ∧ allR (-1000000000) 1000000000 l = true := by simpa [fitsM] using h
    have HP : Hid (Calls Try.prog 51 #[.slice a 64 c, .int .i64 8, .bool false] w fun e w' => ∃ b d, e = .returned (.slice b 64 d) ∧ Own w.heap.size w' b d (prodL (ent rowsH) l 8) ∧ Below w.heap.size w w') := Lib.hid (l12Mul_8 a c l w hm.1 hm.2 hr)
    rw [e, prodL_len]
    rw [h] at HF
    rw [hm.1] at HF ⊢
    clear hr hm h hl e
    go_enter Try.func42, Try.ntmps42
    go_wp2_with fail
    refine HF.out.mono ?_
    rintro e w' ⟨rfl, rfl⟩
    go_wp2_with fail
    refine HP.out.mono ?_
    rintro e w1 ⟨b, d, rfl, ho, hb⟩
    go_wp2
    go_ret
    exact ⟨b, d, rfl, ho, hb⟩


theorem spec.Inverse4_c (a : Option Addr) (c : Nat) (l : List Int) (w : World) (hl : l.length ≤ 1099511627776) (hr : Row w a l) (hw : ∀ x ∈ l, -9223372036854775808 ≤ x ∧ x ≤ 9223372036854775807) :
    Calls Try.prog 29 #[.slice a l.length c] w fun e w' => ∃ b d, e = .returned (.slice b (prodF rowsA 4 l).length d) ∧ Own w.heap.size w' b d (prodF rowsA 4 l) ∧ Below w.heap.size w w' := by
  have HP := Lib.hid (l12Some_4 a c l w hl hr)
  clear hr hw
  go_enter Try.func29, Try.ntmps29
  go_wp2_with (go_at_call 42; refine HP.out.mono ?_; rintro e w1 ⟨b, d, rfl, ho, hb⟩)
  go_ret
  exact ⟨b, d, rfl, ho, hb⟩


theorem spec.Forward8_c (a : Option Addr) (c : Nat) (l : List Int) (w : World) (hl : l.length ≤ 1099511627776) (hr : Row w a l) (hw : ∀ x ∈ l, -9223372036854775808 ≤ x ∧ x ≤ 9223372036854775807) :
    Calls Try.prog 30 #[.slice a l.length c] w fun e w' => ∃ b d, e = .returned (.slice b (prodF rowsH 8 l).length d) ∧ Own w.heap.size w' b d (prodF rowsH 8 l) ∧ Below w.heap.size w w' := by
  have HP := Lib.hid (l12Some_8 a c l w hl hr)
  clear hr hw
  go_enter Try.func30, Try.ntmps30
  go_wp2_with (go_at_call 42; refine HP.out.mono ?_; rintro e w1 ⟨b, d, rfl, ho, hb⟩)
  go_ret
  exact ⟨b, d, rfl, ho, hb⟩

end Go.Proofs.Ytchabkkpdafkiaa
