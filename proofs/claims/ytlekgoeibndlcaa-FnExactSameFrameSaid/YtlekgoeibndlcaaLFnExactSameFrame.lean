/- For every input the law FnExactSameFrame returns true and leaves its arguments as they were; no condition. -/
import Derived.Test.YtlekgoeibndlcaaMem
import Derived.Test.YtlekgoeibndlcaaFrm
import Derived.Test.YtlekgoeibndlcaaFr2
namespace Go.Proofs.Ytlekgoeibndlcaa.fnExactSameFrame
open Go.ChangeShapes Go.WideShapes Go.ChangeAt Go.RowKit Go.Joins
set_option linter.unusedVariables false

set_option maxHeartbeats 4000000 in
theorem walk (w : World) (W0 H0 : Int) (wW0 : -9223372036854775808 ≤ W0 ∧ W0 ≤ 9223372036854775807) (wH0 : -9223372036854775808 ≤ H0 ∧ H0 ≤ 9223372036854775807) (a0 : Option Addr) (c0 : Nat) (l0 : List Int) (r0 : Row w a0 l0) (w0 : ∀ x ∈ l0, -9223372036854775808 ≤ x ∧ x ≤ 9223372036854775807) (n0 : l0.length ≤ 9223372036854775807) (W1 H1 : Int) (wW1 : -9223372036854775808 ≤ W1 ∧ W1 ≤ 9223372036854775807) (wH1 : -9223372036854775808 ≤ H1 ∧ H1 ≤ 9223372036854775807) (a1 : Option Addr) (c1 : Nat) (l1 : List Int) (r1 : Row w a1 l1) (w1 : ∀ x ∈ l1, -9223372036854775808 ≤ x ∧ x ≤ 9223372036854775807) (n1 : l1.length ≤ 9223372036854775807) :
    Calls Try.prog 3 #[.agg #[.int .i64 W0, .int .i64 H0, .slice a0 l0.length c0], .agg #[.int .i64 W1, .int .i64 H1, .slice a1 l1.length c1]] w fun e w' => e = .returned (.bool true) ∧ Below w.heap.size w w' := by
  have bt : Below w.heap.size w w := Below.refl _ _
  by_cases hs0 : l0.length ≤ 1048576
  · have hb0 : l0.length ≤ 1048576 := by omega
    have hl0 : l0.length ≤ 1099511627776 := by omega
    by_cases hs1 : l0.length + l1.length ≤ 1048576
    · have hb1 : l1.length ≤ 1048576 := by omega
      have hl1 : l1.length ≤ 1099511627776 := by omega
      go_enter Try.func3, Try.ntmps3
      go_wp2_with fail
      obtain ⟨vo1, hv1⟩ : ∃ T, T = ((w.alloc (.cells #[.int .i64 W0, .int .i64 H0, .slice a0 l0.length c0] 24)).alloc (.cells #[.int .i64 W1, .int .i64 H1, .slice a1 l1.length c1] 24)) := ⟨_, rfl⟩
      rw [← hv1]
      have bv1 : Below w.heap.size w vo1 := by rw [hv1]; exact (((Below.refl _ _).alloc (Nat.le_refl _) _).alloc (by simp) _)
      have si1 : w.heap.size + 2 ≤ vo1.heap.size := by rw [hv1]; simp
      have bx1_0 : Box3 vo1 w.heap.size (.int .i64 W0) (.int .i64 H0) (.slice a0 l0.length c0) := by rw [hv1]; exact ⟨by first | (simp; done) | (simp; omega), by simp, by simp, by simp⟩
      have bx1_1 : Box3 vo1 (w.heap.size + 1) (.int .i64 W1) (.int .i64 H1) (.slice a1 l1.length c1) := by rw [hv1]; exact ⟨by first | (simp; done) | (simp; omega), by simp, by simp, by simp⟩
      clear hv1
      replace bt := bt.trans (bv1.mono bt.size)
      clear bv1
      refine (szFrame_c W0 H0 _ _ l0 1048576 _ (by omega) (by omega) (by omega)).mono ?_
      rintro e wo2 ⟨rfl, be2⟩
      replace bx1_0 := bx1_0.below be2 (Nat.le_refl _)
      replace bx1_1 := bx1_1.below be2 (Nat.le_refl _)
      replace bt := bt.trans (be2.mono bt.size)
      have si2 := be2.size
      clear be2
      have bxc := bx1_0
      obtain ⟨_, cx1_0_0, cx1_0_1, cx1_0_2⟩ := bxc
      have bxc := bx1_1
      obtain ⟨_, cx1_1_0, cx1_1_1, cx1_1_2⟩ := bxc
      go_wp2_with fail
      clear cx1_0_0 cx1_0_1 cx1_0_2 cx1_1_0 cx1_1_1 cx1_1_2
      refine (szFrame_c W1 H1 _ _ l1 (1048576 - (l0.length : Int)) _ (by omega) (by omega) (by omega)).mono ?_
      rintro e wo3 ⟨rfl, be3⟩
      replace bx1_0 := bx1_0.below be3 (Nat.le_refl _)
      replace bx1_1 := bx1_1.below be3 (Nat.le_refl _)
      replace bt := bt.trans (be3.mono bt.size)
      have si3 := be3.size
      clear be3
      have bxc := bx1_0
      obtain ⟨_, cx1_0_0, cx1_0_1, cx1_0_2⟩ := bxc
      have bxc := bx1_1
      obtain ⟨_, cx1_1_0, cx1_1_1, cx1_1_2⟩ := bxc
      go_wp2_with fail
      clear cx1_0_0 cx1_0_1 cx1_0_2 cx1_1_0 cx1_1_1 cx1_1_2
      have bxc := bx1_0
      obtain ⟨hlbcx1_0_0, cx1_0_0, cx1_0_1, cx1_0_2⟩ := bxc
      have bxc := bx1_1
      obtain ⟨hlbcx1_1_0, cx1_1_0, cx1_1_1, cx1_1_2⟩ := bxc
      go_region_held3 (fun w' => w'.cell? ⟨w.heap.size, 0, none⟩ = some (.int .i64 W0) ∧ w'.cell? ⟨w.heap.size, 1, none⟩ = some (.int .i64 H0) ∧ w'.cell? ⟨w.heap.size, 2, none⟩ = some (.slice a0 l0.length c0) ∧ w'.cell? ⟨(w.heap.size + 1), 0, none⟩ = some (.int .i64 W1) ∧ w'.cell? ⟨(w.heap.size + 1), 1, none⟩ = some (.int .i64 H1) ∧ w'.cell? ⟨(w.heap.size + 1), 2, none⟩ = some (.slice a1 l1.length c1)) (first | exact ⟨bx1_0.2.1, bx1_0.2.2.1, bx1_0.2.2.2, bx1_1.2.1, bx1_1.2.2.1, bx1_1.2.2.2⟩ | go_keep)
        ((first
          | (go_at_call 13; with_reducible refine (toFrame_c W0 H0 _ _ l0 _ hb0 (r0.below bt (Nat.le_refl _)).drew).mono ?_
             rintro e wo4 ⟨xx4, yy4, rfl, ow4, be4⟩
             replace bx1_0 := bx1_0.drew.below be4 (Nat.le_refl _)
             replace bx1_1 := bx1_1.drew.below be4 (Nat.le_refl _)
             replace bt := (bt.drew).trans (be4.mono bt.size)
             have si4 := be4.size
             have hcw4 := bcell be4)
          | (go_at_call 13; with_reducible refine (toFrame_c W1 H1 _ _ l1 _ hb1 (r1.below bt (Nat.le_refl _))).mono ?_
             rintro e wo5 ⟨xx5, yy5, rfl, ow5, be5⟩
             replace ow4 := ow4.below be5 (Nat.le_refl _)
             replace bx1_0 := bx1_0.below be5 (Nat.le_refl _)
             replace bx1_1 := bx1_1.below be5 (Nat.le_refl _)
             replace bt := (bt).trans (be5.mono bt.size)
             have si5 := be5.size
             have hcw5 := bcell be5)
          | (go_at_call 12; with_reducible refine (spec.SameFrame_c W0 H0 _ _ l0 W1 H1 _ _ l1 _ wW0 wH0 hl0 ow4.row w0 wW1 wH1 hl1 ow5.row w1).mono ?_
             rintro e wo6 ⟨rfl, be6⟩
             replace ow4 := ow4.below be6 (Nat.le_refl _)
             replace ow5 := ow5.below be6 (Nat.le_refl _)
             replace bx1_0 := bx1_0.below be6 (Nat.le_refl _)
             replace bx1_1 := bx1_1.below be6 (Nat.le_refl _)
             replace bt := (bt).trans (be6.mono bt.size)
             have si6 := be6.size
             have hcw6 := bcell be6)))
      clear hlbcx1_0_0 cx1_0_0 cx1_0_1 cx1_0_2 hlbcx1_1_0 cx1_1_0 cx1_1_1 cx1_1_2 hcw4 be4 hcw5 be5 hcw6 be6
      have bxc := bx1_0
      obtain ⟨_, cx1_0_0, cx1_0_1, cx1_0_2⟩ := bxc
      have bxc := bx1_1
      obtain ⟨_, cx1_1_0, cx1_1_1, cx1_1_2⟩ := bxc
      go_wp2_with fail
      clear cx1_0_0 cx1_0_1 cx1_0_2 cx1_1_0 cx1_1_1 cx1_1_2
      refine (toFrame_c W0 H0 _ _ l0 _ hb0 (r0.below bt (Nat.le_refl _))).mono ?_
      rintro e wo7 ⟨xx7, yy7, rfl, ow7, be7⟩
      replace bx1_0 := bx1_0.below be7 (Nat.le_refl _)
      replace bx1_1 := bx1_1.below be7 (Nat.le_refl _)
      replace bt := bt.trans (be7.mono bt.size)
      have si7 := be7.size
      clear be7
      have Uow7 := Lib.hid (fun p hp => (ow7.lt p hp).2)
      have bxc := bx1_0
      obtain ⟨_, cx1_0_0, cx1_0_1, cx1_0_2⟩ := bxc
      have bxc := bx1_1
      obtain ⟨_, cx1_1_0, cx1_1_1, cx1_1_2⟩ := bxc
      go_wp2_with fail
      clear cx1_0_0 cx1_0_1 cx1_0_2 cx1_1_0 cx1_1_1 cx1_1_2
      obtain ⟨vo8, hv8⟩ : ∃ T, T = (wo7.alloc (.cells #[.int .i64 (W0), .int .i64 (H0), .slice xx7 (l0).length yy7] 27)) := ⟨_, rfl⟩
      rw [← hv8]
      have bv8 : Below wo7.heap.size wo7 vo8 := by rw [hv8]; exact ((Below.refl _ _).alloc (Nat.le_refl _) _)
      have si8 : wo7.heap.size + 1 ≤ vo8.heap.size := by rw [hv8]; simp
      have bx8_0 : Box3 vo8 wo7.heap.size (.int .i64 (W0)) (.int .i64 (H0)) (.slice xx7 (l0).length yy7) := by rw [hv8]; exact ⟨by first | (simp; done) | (simp; omega), by simp, by simp, by simp⟩
      clear hv8
      replace ow7 := ow7.below bv8 (Nat.le_refl _)
      replace bx1_0 := bx1_0.below bv8 (Nat.le_refl _)
      replace bx1_1 := bx1_1.below bv8 (Nat.le_refl _)
      replace bt := bt.trans (bv8.mono bt.size)
      clear bv8
      refine (toFrame_c W1 H1 _ _ l1 _ hb1 (r1.below bt (Nat.le_refl _))).mono ?_
      rintro e wo9 ⟨xx9, yy9, rfl, ow9, be9⟩
      replace ow7 := ow7.below be9 (Nat.le_refl _)
      replace bx1_0 := bx1_0.below be9 (Nat.le_refl _)
      replace bx1_1 := bx1_1.below be9 (Nat.le_refl _)
      replace bx8_0 := bx8_0.below be9 (Nat.le_refl _)
      replace bt := bt.trans (be9.mono bt.size)
      have si9 := be9.size
      clear be9
      have Uow9 := Lib.hid (fun p hp => (ow9.lt p hp).2)
      have bxc := bx1_0
      obtain ⟨_, cx1_0_0, cx1_0_1, cx1_0_2⟩ := bxc
      have bxc := bx1_1
      obtain ⟨_, cx1_1_0, cx1_1_1, cx1_1_2⟩ := bxc
      have bxc := bx8_0
      obtain ⟨_, cx8_0_0, cx8_0_1, cx8_0_2⟩ := bxc
      go_wp2_with fail
      clear cx1_0_0 cx1_0_1 cx1_0_2 cx1_1_0 cx1_1_1 cx1_1_2 cx8_0_0 cx8_0_1 cx8_0_2
      obtain ⟨vo10, hv10⟩ : ∃ T, T = (wo9.alloc (.cells #[.int .i64 (W1), .int .i64 (H1), .slice xx9 (l1).length yy9] 27)) := ⟨_, rfl⟩
      rw [← hv10]
      have bv10 : Below wo9.heap.size wo9 vo10 := by rw [hv10]; exact ((Below.refl _ _).alloc (Nat.le_refl _) _)
      have si10 : wo9.heap.size + 1 ≤ vo10.heap.size := by rw [hv10]; simp
      have bx10_0 : Box3 vo10 wo9.heap.size (.int .i64 (W1)) (.int .i64 (H1)) (.slice xx9 (l1).length yy9) := by rw [hv10]; exact ⟨by first | (simp; done) | (simp; omega), by simp, by simp, by simp⟩
      clear hv10
      replace ow7 := ow7.below bv10 (Nat.le_refl _)
      replace ow9 := ow9.below bv10 (Nat.le_refl _)
      replace bx1_0 := bx1_0.below bv10 (Nat.le_refl _)
      replace bx1_1 := bx1_1.below bv10 (Nat.le_refl _)
      replace bx8_0 := bx8_0.below bv10 (Nat.le_refl _)
      replace bt := bt.trans (bv10.mono bt.size)
      clear bv10
      refine (impl.SameFrame_c W0 H0 _ _ l0 W1 H1 _ _ l1 _ wW0 wH0 hl0 ow7.row w0 wW1 wH1 hl1 ow9.row w1).mono ?_
      rintro e wo11 ⟨rfl, be11⟩
      replace ow7 := ow7.below be11 (Nat.le_refl _)
      replace ow9 := ow9.below be11 (Nat.le_refl _)
      replace bx1_0 := bx1_0.below be11 (Nat.le_refl _)
      replace bx1_1 := bx1_1.below be11 (Nat.le_refl _)
      replace bx8_0 := bx8_0.below be11 (Nat.le_refl _)
      replace bx10_0 := bx10_0.below be11 (Nat.le_refl _)
      replace bt := bt.trans (be11.mono bt.size)
      have si11 := be11.size
      clear be11
      have hne0 : ∀ b : Bool, (b != b) = false := by intro b; cases b <;> rfl
      have bxc := bx1_0
      obtain ⟨_, cx1_0_0, cx1_0_1, cx1_0_2⟩ := bxc
      have bxc := bx1_1
      obtain ⟨_, cx1_1_0, cx1_1_1, cx1_1_2⟩ := bxc
      have bxc := bx8_0
      obtain ⟨_, cx8_0_0, cx8_0_1, cx8_0_2⟩ := bxc
      have bxc := bx10_0
      obtain ⟨_, cx10_0_0, cx10_0_1, cx10_0_2⟩ := bxc
      go_wp2_with fail
      clear cx1_0_0 cx1_0_1 cx1_0_2 cx1_1_0 cx1_1_1 cx1_1_2 cx8_0_0 cx8_0_1 cx8_0_2 cx10_0_0 cx10_0_1 cx10_0_2
      have bxc := bx8_0
      obtain ⟨hlbcx8_0_0, cx8_0_0, cx8_0_1, cx8_0_2⟩ := bxc
      have bxc := bx1_0
      obtain ⟨hlbcx1_0_0, cx1_0_0, cx1_0_1, cx1_0_2⟩ := bxc
      go_region_held3 (fun w' => w'.cell? ⟨wo7.heap.size, 0, none⟩ = some (.int .i64 (W0)) ∧ w'.cell? ⟨wo7.heap.size, 1, none⟩ = some (.int .i64 (H0)) ∧ w'.cell? ⟨wo7.heap.size, 2, none⟩ = some (.slice xx7 (l0).length yy7) ∧ w'.cell? ⟨w.heap.size, 0, none⟩ = some (.int .i64 W0) ∧ w'.cell? ⟨w.heap.size, 1, none⟩ = some (.int .i64 H0) ∧ w'.cell? ⟨w.heap.size, 2, none⟩ = some (.slice a0 l0.length c0)) (first | exact ⟨bx8_0.2.1, bx8_0.2.2.1, bx8_0.2.2.2, bx1_0.2.1, bx1_0.2.2.1, bx1_0.2.2.2⟩ | go_keep)
        ((first
          | (go_at_call 13; with_reducible refine (toFrame_c W0 H0 _ _ l0 _ hb0 (r0.below bt (Nat.le_refl _)).drew).mono ?_
             rintro e wo12 ⟨xx12, yy12, rfl, ow12, be12⟩
             replace ow7 := ow7.drew.below be12 (Nat.le_refl _)
             replace ow9 := ow9.drew.below be12 (Nat.le_refl _)
             replace bx1_0 := bx1_0.drew.below be12 (Nat.le_refl _)
             replace bx1_1 := bx1_1.drew.below be12 (Nat.le_refl _)
             replace bx8_0 := bx8_0.drew.below be12 (Nat.le_refl _)
             replace bx10_0 := bx10_0.drew.below be12 (Nat.le_refl _)
             replace bt := (bt.drew).trans (be12.mono bt.size)
             have si12 := be12.size
             have hcw12 := bcell be12)
          | (go_at_call 15; with_reducible refine (eqFrame_t (W0) (H0) _ _ _ _ (l0) _ (by have := hb0; omega) ow7.row ow12.row).mono ?_
             rintro e wo13 ⟨rfl, be13⟩
             replace ow7 := ow7.below be13 (Nat.le_refl _)
             replace ow9 := ow9.below be13 (Nat.le_refl _)
             replace bx1_0 := bx1_0.below be13 (Nat.le_refl _)
             replace bx1_1 := bx1_1.below be13 (Nat.le_refl _)
             replace bx8_0 := bx8_0.below be13 (Nat.le_refl _)
             replace bx10_0 := bx10_0.below be13 (Nat.le_refl _)
             replace bt := (bt).trans (be13.mono bt.size)
             have si13 := be13.size
             have hcw13 := bcell be13)))
      clear hlbcx8_0_0 cx8_0_0 cx8_0_1 cx8_0_2 hlbcx1_0_0 cx1_0_0 cx1_0_1 cx1_0_2 hcw12 be12 hcw13 be13
      have bxc := bx1_0
      obtain ⟨_, cx1_0_0, cx1_0_1, cx1_0_2⟩ := bxc
      have bxc := bx1_1
      obtain ⟨_, cx1_1_0, cx1_1_1, cx1_1_2⟩ := bxc
      have bxc := bx8_0
      obtain ⟨_, cx8_0_0, cx8_0_1, cx8_0_2⟩ := bxc
      have bxc := bx10_0
      obtain ⟨_, cx10_0_0, cx10_0_1, cx10_0_2⟩ := bxc
      go_wp2_with fail
      clear cx1_0_0 cx1_0_1 cx1_0_2 cx1_1_0 cx1_1_1 cx1_1_2 cx8_0_0 cx8_0_1 cx8_0_2 cx10_0_0 cx10_0_1 cx10_0_2
      have bxc := bx10_0
      obtain ⟨hlbcx10_0_0, cx10_0_0, cx10_0_1, cx10_0_2⟩ := bxc
      have bxc := bx1_1
      obtain ⟨hlbcx1_1_0, cx1_1_0, cx1_1_1, cx1_1_2⟩ := bxc
      go_region_held3 (fun w' => w'.cell? ⟨wo9.heap.size, 0, none⟩ = some (.int .i64 (W1)) ∧ w'.cell? ⟨wo9.heap.size, 1, none⟩ = some (.int .i64 (H1)) ∧ w'.cell? ⟨wo9.heap.size, 2, none⟩ = some (.slice xx9 (l1).length yy9) ∧ w'.cell? ⟨(w.heap.size + 1), 0, none⟩ = some (.int .i64 W1) ∧ w'.cell? ⟨(w.heap.size + 1), 1, none⟩ = some (.int .i64 H1) ∧ w'.cell? ⟨(w.heap.size + 1), 2, none⟩ = some (.slice a1 l1.length c1)) (first | exact ⟨bx10_0.2.1, bx10_0.2.2.1, bx10_0.2.2.2, bx1_1.2.1, bx1_1.2.2.1, bx1_1.2.2.2⟩ | go_keep)
        ((first
          | (go_at_call 13; with_reducible refine (toFrame_c W1 H1 _ _ l1 _ hb1 (r1.below bt (Nat.le_refl _)).drew).mono ?_
             rintro e wo14 ⟨xx14, yy14, rfl, ow14, be14⟩
             replace ow7 := ow7.drew.below be14 (Nat.le_refl _)
             replace ow9 := ow9.drew.below be14 (Nat.le_refl _)
             replace bx1_0 := bx1_0.drew.below be14 (Nat.le_refl _)
             replace bx1_1 := bx1_1.drew.below be14 (Nat.le_refl _)
             replace bx8_0 := bx8_0.drew.below be14 (Nat.le_refl _)
             replace bx10_0 := bx10_0.drew.below be14 (Nat.le_refl _)
             replace bt := (bt.drew).trans (be14.mono bt.size)
             have si14 := be14.size
             have hcw14 := bcell be14)
          | (go_at_call 15; with_reducible refine (eqFrame_t (W1) (H1) _ _ _ _ (l1) _ (by have := hb1; omega) ow9.row ow14.row).mono ?_
             rintro e wo15 ⟨rfl, be15⟩
             replace ow7 := ow7.below be15 (Nat.le_refl _)
             replace ow9 := ow9.below be15 (Nat.le_refl _)
             replace bx1_0 := bx1_0.below be15 (Nat.le_refl _)
             replace bx1_1 := bx1_1.below be15 (Nat.le_refl _)
             replace bx8_0 := bx8_0.below be15 (Nat.le_refl _)
             replace bx10_0 := bx10_0.below be15 (Nat.le_refl _)
             replace bt := (bt).trans (be15.mono bt.size)
             have si15 := be15.size
             have hcw15 := bcell be15)))
      clear hlbcx10_0_0 cx10_0_0 cx10_0_1 cx10_0_2 hlbcx1_1_0 cx1_1_0 cx1_1_1 cx1_1_2 hcw14 be14 hcw15 be15
      go_wp2
      go_ret
      exact ⟨rfl, bt⟩
    · have hxx : ¬ (l0.length + l1.length ≤ 1048576) := by assumption
      go_enter Try.func3, Try.ntmps3
      go_wp2_with fail
      obtain ⟨vo901, hv901⟩ : ∃ T, T = ((w.alloc (.cells #[.int .i64 W0, .int .i64 H0, .slice a0 l0.length c0] 24)).alloc (.cells #[.int .i64 W1, .int .i64 H1, .slice a1 l1.length c1] 24)) := ⟨_, rfl⟩
      rw [← hv901]
      have bv901 : Below w.heap.size w vo901 := by rw [hv901]; exact (((Below.refl _ _).alloc (Nat.le_refl _) _).alloc (by simp) _)
      have si901 : w.heap.size + 2 ≤ vo901.heap.size := by rw [hv901]; simp
      have bx901_0 : Box3 vo901 w.heap.size (.int .i64 W0) (.int .i64 H0) (.slice a0 l0.length c0) := by rw [hv901]; exact ⟨by first | (simp; done) | (simp; omega), by simp, by simp, by simp⟩
      have bx901_1 : Box3 vo901 (w.heap.size + 1) (.int .i64 W1) (.int .i64 H1) (.slice a1 l1.length c1) := by rw [hv901]; exact ⟨by first | (simp; done) | (simp; omega), by simp, by simp, by simp⟩
      clear hv901
      replace bt := bt.trans (bv901.mono bt.size)
      clear bv901
      refine (szFrame_c W0 H0 _ _ l0 1048576 _ (by omega) (by omega) (by omega)).mono ?_
      rintro e wo902 ⟨rfl, be902⟩
      replace bx901_0 := bx901_0.below be902 (Nat.le_refl _)
      replace bx901_1 := bx901_1.below be902 (Nat.le_refl _)
      replace bt := bt.trans (be902.mono bt.size)
      have si902 := be902.size
      clear be902
      have bxc := bx901_0
      obtain ⟨_, cx901_0_0, cx901_0_1, cx901_0_2⟩ := bxc
      have bxc := bx901_1
      obtain ⟨_, cx901_1_0, cx901_1_1, cx901_1_2⟩ := bxc
      go_wp2_with fail
      clear cx901_0_0 cx901_0_1 cx901_0_2 cx901_1_0 cx901_1_1 cx901_1_2
      refine (szFrame_x W1 H1 _ _ l1 (1048576 - (l0.length : Int)) _ (by omega) (by omega) (by omega) n1).mono ?_
      rintro e wo903 ⟨rfl, be903⟩
      replace bx901_0 := bx901_0.below be903 (Nat.le_refl _)
      replace bx901_1 := bx901_1.below be903 (Nat.le_refl _)
      replace bt := bt.trans (be903.mono bt.size)
      have si903 := be903.size
      clear be903
      go_wp2
      go_ret
      exact ⟨rfl, bt⟩
  · have hxx : ¬ (l0.length ≤ 1048576) := by assumption
    go_enter Try.func3, Try.ntmps3
    go_wp2_with fail
    obtain ⟨vo901, hv901⟩ : ∃ T, T = ((w.alloc (.cells #[.int .i64 W0, .int .i64 H0, .slice a0 l0.length c0] 24)).alloc (.cells #[.int .i64 W1, .int .i64 H1, .slice a1 l1.length c1] 24)) := ⟨_, rfl⟩
    rw [← hv901]
    have bv901 : Below w.heap.size w vo901 := by rw [hv901]; exact (((Below.refl _ _).alloc (Nat.le_refl _) _).alloc (by simp) _)
    have si901 : w.heap.size + 2 ≤ vo901.heap.size := by rw [hv901]; simp
    have bx901_0 : Box3 vo901 w.heap.size (.int .i64 W0) (.int .i64 H0) (.slice a0 l0.length c0) := by rw [hv901]; exact ⟨by first | (simp; done) | (simp; omega), by simp, by simp, by simp⟩
    have bx901_1 : Box3 vo901 (w.heap.size + 1) (.int .i64 W1) (.int .i64 H1) (.slice a1 l1.length c1) := by rw [hv901]; exact ⟨by first | (simp; done) | (simp; omega), by simp, by simp, by simp⟩
    clear hv901
    replace bt := bt.trans (bv901.mono bt.size)
    clear bv901
    refine (szFrame_x W0 H0 _ _ l0 1048576 _ (by omega) (by omega) (by omega) n0).mono ?_
    rintro e wo902 ⟨rfl, be902⟩
    replace bx901_0 := bx901_0.below be902 (Nat.le_refl _)
    replace bx901_1 := bx901_1.below be902 (Nat.le_refl _)
    replace bt := bt.trans (be902.mono bt.size)
    have si902 := be902.size
    clear be902
    go_wp2
    go_ret
    exact ⟨rfl, bt⟩

theorem own : ownKnob Try.prog.godebug = none := by kernel_rfl
theorem laidOut : laidOutB Try.prog = true := by kernel_rfl
set_option maxRecDepth 100000 in
theorem lifted (os : Os) (started : os.Started) (H : Type) (enc : TypeId × Value → H) :
    ReturnsInHanded {} Try.checked os 3 .any (Rows.fnExactSameFrameSpec.pre6 enc Try.prog Try.f3 Rows.fnExactSameFrameRow.domain false) (Rows.fnExactSameFrameSpec.post enc Try.prog Try.f3 false true false false) := by
  refine returnsInHanded_of_change (C := Try.checked) own started (by kernel_rfl) Try.func3
    (ChangeSpec.witness6 (enc := enc) (C := Try.checked) false ⟨#[], #[.agg #[.int .i64 0, .int .i64 0, .slice none 0 0], .agg #[.int .i64 0, .int .i64 0, .slice none 0 0]], []⟩ 8 (by kernel_rfl) (by kernel_rfl) (by kernel_rfl) (by kernel_rfl)) ?_
  intro W base args ds gs before hval0 hW hcnd _
  have hval : ∀ (j : Nat) t v, Try.f3.params[j]? = some t → args[j]? = some v → Value.okWide Try.prog W .any base t v := hval0
  have hW' := hW
  obtain ⟨p, q, hA0, hV, rfl, hfz, hnd⟩ := hW
  have hA : DataW.TrodAll enc Try.prog W 0 (fun _ => true) true Try.f3.params.toList args.toList ds p := hA0
  rw [Try.params3] at hA hval
  obtain ⟨v0, vs0, d0, ds0, p0, q0, hargs, rfl, rfl, h0, tr0⟩ := trodAll_cons hA
  obtain ⟨v1, vs1, d1, ds1, p1, q1, rfl, rfl, rfl, h1, tr1⟩ := trodAll_cons tr0
  obtain ⟨rfl, rfl, rfl⟩ := trodAll_nil tr1
  obtain rfl : args = #[v0, v1] := by cases args; simp_all
  obtain ⟨rfl, rfl⟩ := trodVars_none hV
  have k0 := h0
  have lt0 : ∀ x ∈ p0, x.block < W.heap.size := by obtain ⟨m, hm⟩ := k0; exact DataW.trod_lt m _ _ _ hm
  have k1 := h1
  have lt1 : ∀ x ∈ p1, x.block < W.heap.size := by obtain ⟨m, hm⟩ := k1; exact DataW.trod_lt m _ _ _ hm
  obtain ⟨p00, p01, p02, y00, y01, y02, m0, rfl, rfl, _, hy00, hy01, hy02⟩ := open_agg3 Try.underlying24 (by kernel_rfl) (by kernel_rfl) (hval 0 24 v0 rfl rfl) h0
  obtain ⟨W0, wW0, rfl⟩ := cell_int Try.underlying3 hy00
  obtain ⟨H0, wH0, rfl⟩ := cell_int Try.underlying3 hy01
  obtain ⟨a0, c0, l0, r0, w0, n0, rfl⟩ := cell_ints Try.underlying22 Try.underlying3 (by kernel_rfl) hy02
  obtain ⟨p10, p11, p12, y10, y11, y12, m1, rfl, rfl, _, hy10, hy11, hy12⟩ := open_agg3 Try.underlying24 (by kernel_rfl) (by kernel_rfl) (hval 1 24 v1 rfl rfl) h1
  obtain ⟨W1, wW1, rfl⟩ := cell_int Try.underlying3 hy10
  obtain ⟨H1, wH1, rfl⟩ := cell_int Try.underlying3 hy11
  obtain ⟨a1, c1, l1, r1, w1, n1, rfl⟩ := cell_ints Try.underlying22 Try.underlying3 (by kernel_rfl) hy12
  clear hA0 hval0
  refine (walk W W0 H0 wW0 wH0 a0 c0 l0 r0 w0 n0 W1 H1 wW1 wH1 a1 c1 l1 r1 w1 n1).mono fun e W' ⟨he, bel⟩ => ?_
  subst he
  exact ⟨_, rfl, _, _, _, [], _, [], hW', trodAll_mk1 (shut_bool Try.underlying4 _), (trodAll_cons_mk (Below.trod laidOut (by kernel_rfl) (of_decide_eq_true (by kernel_rfl)) k0 bel lt0) (trodAll_cons_mk (Below.trod laidOut (by kernel_rfl) (of_decide_eq_true (by kernel_rfl)) k1 bel lt1) trodAll_mk0)), rfl, bel.frame _, fun h => by cases h⟩

theorem over : Rows.fnExactSameFrameRow.holds Try.pinned (OpenSpec.ofChange Rows.fnExactSameFrameSpec) :=
  OpenClaim.holds_of_wide 3 Try.f3 rfl rfl rfl rfl rfl rfl rfl ⟨rfl, rfl, rfl, rfl, rfl⟩ rfl rfl rfl rfl rfl (by kernel_rfl) Try.func3 (by kernel_rfl)
    (of_decide_eq_true (by kernel_rfl)) (by unfold Func.isWrapper; first | (rw [if_pos (by decide +kernel)]; kernel_rfl) | (rw [if_neg (by decide +kernel)]; exact ⟨rfl, rfl⟩))
    (fun os started H enc _ => lifted os started H enc)

/-- the statement -/
theorem proved : Rows.FnExactSameFrameSaid := over
#print axioms proved
end Go.Proofs.Ytlekgoeibndlcaa.fnExactSameFrame
