/- For every input the law FnExactSetBlock returns true and leaves its arguments as they were; no condition. -/
import Derived.Test.YtlekgoeibndlcaaMem
import Derived.Test.YtlekgoeibndlcaaFrm
import Derived.Test.YtlekgoeibndlcaaSetB
namespace Go.Proofs.Ytlekgoeibndlcaa.fnExactSetBlock
open Go.ChangeShapes Go.WideShapes Go.ChangeAt Go.RowKit Go.Joins
set_option linter.unusedVariables false

set_option maxHeartbeats 4000000 in
theorem walk (w : World) (W0 H0 : Int) (wW0 : -9223372036854775808 ≤ W0 ∧ W0 ≤ 9223372036854775807) (wH0 : -9223372036854775808 ≤ H0 ∧ H0 ≤ 9223372036854775807) (a0 : Option Addr) (c0 : Nat) (l0 : List Int) (r0 : Row w a0 l0) (w0 : ∀ x ∈ l0, -9223372036854775808 ≤ x ∧ x ≤ 9223372036854775807) (n0 : l0.length ≤ 9223372036854775807) (a1 : Int) (w1 : -9223372036854775808 ≤ a1 ∧ a1 ≤ 9223372036854775807) (a2 : Int) (w2 : -9223372036854775808 ≤ a2 ∧ a2 ≤ 9223372036854775807) (a3 : Option Addr) (c3 : Nat) (l3 : List Int) (r3 : Row w a3 l3) (w3 : ∀ x ∈ l3, -9223372036854775808 ≤ x ∧ x ≤ 9223372036854775807) :
    Calls Try.prog 6 #[.agg #[.int .i64 W0, .int .i64 H0, .slice a0 l0.length c0], .int .i64 a1, .int .i64 a2, .slice a3 l3.length c3] w fun e w' => e = .returned (.bool true) ∧ Below w.heap.size w w' := by
  have bt : Below w.heap.size w w := Below.refl _ _
  by_cases hb3 : l3.length ≤ 1048576
  · have hl3 : l3.length ≤ 1099511627776 := by omega
    by_cases hs0 : l0.length ≤ 1048576
    · have hb0 : l0.length ≤ 1048576 := by omega
      have hl0 : l0.length ≤ 1099511627776 := by omega
      go_enter Try.func6, Try.ntmps6
      have HL0 := Lib.hid (Nat.le_trans (Nat.le_of_eq (setV_len _ _ _ _ _ _)) hb0 : (setV W0 H0 l0 a1 a2 l3).length ≤ 1048576)
      go_wp2_with fail
      obtain ⟨vo1, hv1⟩ : ∃ T, T = (w.alloc (.cells #[.int .i64 W0, .int .i64 H0, .slice a0 l0.length c0] 24)) := ⟨_, rfl⟩
      rw [← hv1]
      have bv1 : Below w.heap.size w vo1 := by rw [hv1]; exact ((Below.refl _ _).alloc (Nat.le_refl _) _)
      have si1 : w.heap.size + 1 ≤ vo1.heap.size := by rw [hv1]; simp
      have bx1_0 : Box3 vo1 w.heap.size (.int .i64 W0) (.int .i64 H0) (.slice a0 l0.length c0) := by rw [hv1]; exact ⟨by first | (simp; done) | (simp; omega), by simp, by simp, by simp⟩
      clear hv1
      replace bt := bt.trans (bv1.mono bt.size)
      clear bv1
      refine (szFrame_c W0 H0 _ _ l0 1048576 _ (by omega) (by omega) (by omega)).mono ?_
      rintro e wo2 ⟨rfl, be2⟩
      replace bx1_0 := bx1_0.below be2 (Nat.le_refl _)
      replace bt := bt.trans (be2.mono bt.size)
      have si2 := be2.size
      clear be2
      have bxc := bx1_0
      obtain ⟨_, cx1_0_0, cx1_0_1, cx1_0_2⟩ := bxc
      go_wp2_with fail
      clear cx1_0_0 cx1_0_1 cx1_0_2
      refine (toFrame_c W0 H0 _ _ l0 _ hb0 (r0.below bt (Nat.le_refl _))).mono ?_
      rintro e wo3 ⟨xx3, yy3, rfl, ow3, be3⟩
      replace bx1_0 := bx1_0.below be3 (Nat.le_refl _)
      replace bt := bt.trans (be3.mono bt.size)
      have si3 := be3.size
      clear be3
      have Uow3 := Lib.hid (fun p hp => (ow3.lt p hp).2)
      have bxc := bx1_0
      obtain ⟨_, cx1_0_0, cx1_0_1, cx1_0_2⟩ := bxc
      go_wp2_with fail
      clear cx1_0_0 cx1_0_1 cx1_0_2
      refine (toIntS_c _ _ l3 _ hb3 (r3.below bt (Nat.le_refl _))).mono ?_
      rintro e wo4 ⟨gg4, rfl, hgg4, ow4, be4⟩
      replace ow3 := ow3.below be4 (Nat.le_refl _)
      replace bx1_0 := bx1_0.below be4 (Nat.le_refl _)
      replace bt := bt.trans (be4.mono bt.size)
      have si4 := be4.size
      clear be4
      clear hgg4
      have Uow4 := Lib.hid (fun p hp => (ow4.lt p hp).2)
      have bxc := bx1_0
      obtain ⟨_, cx1_0_0, cx1_0_1, cx1_0_2⟩ := bxc
      go_wp2_with fail
      clear cx1_0_0 cx1_0_1 cx1_0_2
      refine (spec.SetBlock_c W0 H0 _ _ l0 a1 a2 _ _ l3 _ wW0 wH0 hl0 ow3.row w0 hl3 ow4.row w3 ow3.shape).mono ?_
      rintro e wo5 ⟨xx5, yy5, rfl, ow5, be5⟩
      replace ow3 := ow3.below be5 (Nat.le_refl _)
      replace ow4 := ow4.below be5 (Nat.le_refl _)
      replace bx1_0 := bx1_0.below be5 (Nat.le_refl _)
      replace bt := bt.trans (be5.mono bt.size)
      have si5 := be5.size
      clear be5
      have Uow5 := Lib.hid (fun p hp => (ow5.lt p hp).2)
      have bxc := bx1_0
      obtain ⟨_, cx1_0_0, cx1_0_1, cx1_0_2⟩ := bxc
      go_wp2_with fail
      clear cx1_0_0 cx1_0_1 cx1_0_2
      obtain ⟨vo6, hv6⟩ : ∃ T, T = (wo5.alloc (.cells #[.int .i64 (W0), .int .i64 (H0), .slice xx5 (setV W0 H0 l0 a1 a2 l3).length yy5] 27)) := ⟨_, rfl⟩
      rw [← hv6]
      have bv6 : Below wo5.heap.size wo5 vo6 := by rw [hv6]; exact ((Below.refl _ _).alloc (Nat.le_refl _) _)
      have si6 : wo5.heap.size + 1 ≤ vo6.heap.size := by rw [hv6]; simp
      have bx6_0 : Box3 vo6 wo5.heap.size (.int .i64 (W0)) (.int .i64 (H0)) (.slice xx5 (setV W0 H0 l0 a1 a2 l3).length yy5) := by rw [hv6]; exact ⟨by first | (simp; done) | (simp; omega), by simp, by simp, by simp⟩
      clear hv6
      replace ow3 := ow3.below bv6 (Nat.le_refl _)
      replace ow4 := ow4.below bv6 (Nat.le_refl _)
      replace ow5 := ow5.below bv6 (Nat.le_refl _)
      replace bx1_0 := bx1_0.below bv6 (Nat.le_refl _)
      replace bt := bt.trans (bv6.mono bt.size)
      clear bv6
      refine (toFrame_c W0 H0 _ _ l0 _ hb0 (r0.below bt (Nat.le_refl _))).mono ?_
      rintro e wo7 ⟨xx7, yy7, rfl, ow7, be7⟩
      replace ow3 := ow3.below be7 (Nat.le_refl _)
      replace ow4 := ow4.below be7 (Nat.le_refl _)
      replace ow5 := ow5.below be7 (Nat.le_refl _)
      replace bx1_0 := bx1_0.below be7 (Nat.le_refl _)
      replace bx6_0 := bx6_0.below be7 (Nat.le_refl _)
      replace bt := bt.trans (be7.mono bt.size)
      have si7 := be7.size
      clear be7
      have Uow7 := Lib.hid (fun p hp => (ow7.lt p hp).2)
      have bxc := bx1_0
      obtain ⟨_, cx1_0_0, cx1_0_1, cx1_0_2⟩ := bxc
      have bxc := bx6_0
      obtain ⟨_, cx6_0_0, cx6_0_1, cx6_0_2⟩ := bxc
      go_wp2_with fail
      clear cx1_0_0 cx1_0_1 cx1_0_2 cx6_0_0 cx6_0_1 cx6_0_2
      obtain ⟨vo8, hv8⟩ : ∃ T, T = (wo7.alloc (.cells #[.int .i64 (W0), .int .i64 (H0), .slice xx7 (l0).length yy7] 27)) := ⟨_, rfl⟩
      rw [← hv8]
      have bv8 : Below wo7.heap.size wo7 vo8 := by rw [hv8]; exact ((Below.refl _ _).alloc (Nat.le_refl _) _)
      have si8 : wo7.heap.size + 1 ≤ vo8.heap.size := by rw [hv8]; simp
      have bx8_0 : Box3 vo8 wo7.heap.size (.int .i64 (W0)) (.int .i64 (H0)) (.slice xx7 (l0).length yy7) := by rw [hv8]; exact ⟨by first | (simp; done) | (simp; omega), by simp, by simp, by simp⟩
      clear hv8
      replace ow3 := ow3.below bv8 (Nat.le_refl _)
      replace ow4 := ow4.below bv8 (Nat.le_refl _)
      replace ow5 := ow5.below bv8 (Nat.le_refl _)
      replace ow7 := ow7.below bv8 (Nat.le_refl _)
      replace bx1_0 := bx1_0.below bv8 (Nat.le_refl _)
      replace bx6_0 := bx6_0.below bv8 (Nat.le_refl _)
      replace bt := bt.trans (bv8.mono bt.size)
      clear bv8
      refine (toIntS_c _ _ l3 _ hb3 (r3.below bt (Nat.le_refl _))).mono ?_
      rintro e wo9 ⟨gg9, rfl, hgg9, ow9, be9⟩
      replace ow3 := ow3.below be9 (Nat.le_refl _)
      replace ow4 := ow4.below be9 (Nat.le_refl _)
      replace ow5 := ow5.below be9 (Nat.le_refl _)
      replace ow7 := ow7.below be9 (Nat.le_refl _)
      replace bx1_0 := bx1_0.below be9 (Nat.le_refl _)
      replace bx6_0 := bx6_0.below be9 (Nat.le_refl _)
      replace bx8_0 := bx8_0.below be9 (Nat.le_refl _)
      replace bt := bt.trans (be9.mono bt.size)
      have si9 := be9.size
      clear be9
      clear hgg9
      have Uow9 := Lib.hid (fun p hp => (ow9.lt p hp).2)
      have bxc := bx1_0
      obtain ⟨_, cx1_0_0, cx1_0_1, cx1_0_2⟩ := bxc
      have bxc := bx6_0
      obtain ⟨_, cx6_0_0, cx6_0_1, cx6_0_2⟩ := bxc
      have bxc := bx8_0
      obtain ⟨_, cx8_0_0, cx8_0_1, cx8_0_2⟩ := bxc
      go_wp2_with fail
      clear cx1_0_0 cx1_0_1 cx1_0_2 cx6_0_0 cx6_0_1 cx6_0_2 cx8_0_0 cx8_0_1 cx8_0_2
      refine (impl.SetBlock_c W0 H0 _ _ l0 a1 a2 _ _ l3 _ wW0 wH0 hl0 ow7.row w0 hl3 ow9.row w3).mono ?_
      rintro e wo10 ⟨xx10, yy10, rfl, ow10, be10⟩
      replace ow3 := ow3.below be10 (Nat.le_refl _)
      replace ow4 := ow4.below be10 (Nat.le_refl _)
      replace ow5 := ow5.below be10 (Nat.le_refl _)
      replace ow7 := ow7.below be10 (Nat.le_refl _)
      replace ow9 := ow9.below be10 (Nat.le_refl _)
      replace bx1_0 := bx1_0.below be10 (Nat.le_refl _)
      replace bx6_0 := bx6_0.below be10 (Nat.le_refl _)
      replace bx8_0 := bx8_0.below be10 (Nat.le_refl _)
      replace bt := bt.trans (be10.mono bt.size)
      have si10 := be10.size
      clear be10
      have Uow10 := Lib.hid (fun p hp => (ow10.lt p hp).2)
      have bxc := bx1_0
      obtain ⟨_, cx1_0_0, cx1_0_1, cx1_0_2⟩ := bxc
      have bxc := bx6_0
      obtain ⟨_, cx6_0_0, cx6_0_1, cx6_0_2⟩ := bxc
      have bxc := bx8_0
      obtain ⟨_, cx8_0_0, cx8_0_1, cx8_0_2⟩ := bxc
      go_wp2_with fail
      clear cx1_0_0 cx1_0_1 cx1_0_2 cx6_0_0 cx6_0_1 cx6_0_2 cx8_0_0 cx8_0_1 cx8_0_2
      obtain ⟨vo11, hv11⟩ : ∃ T, T = (wo10.alloc (.cells #[.int .i64 (W0), .int .i64 (H0), .slice xx10 (setV W0 H0 l0 a1 a2 l3).length yy10] 27)) := ⟨_, rfl⟩
      rw [← hv11]
      have bv11 : Below wo10.heap.size wo10 vo11 := by rw [hv11]; exact ((Below.refl _ _).alloc (Nat.le_refl _) _)
      have si11 : wo10.heap.size + 1 ≤ vo11.heap.size := by rw [hv11]; simp
      have bx11_0 : Box3 vo11 wo10.heap.size (.int .i64 (W0)) (.int .i64 (H0)) (.slice xx10 (setV W0 H0 l0 a1 a2 l3).length yy10) := by rw [hv11]; exact ⟨by first | (simp; done) | (simp; omega), by simp, by simp, by simp⟩
      clear hv11
      replace ow3 := ow3.below bv11 (Nat.le_refl _)
      replace ow4 := ow4.below bv11 (Nat.le_refl _)
      replace ow5 := ow5.below bv11 (Nat.le_refl _)
      replace ow7 := ow7.below bv11 (Nat.le_refl _)
      replace ow9 := ow9.below bv11 (Nat.le_refl _)
      replace ow10 := ow10.below bv11 (Nat.le_refl _)
      replace bx1_0 := bx1_0.below bv11 (Nat.le_refl _)
      replace bx6_0 := bx6_0.below bv11 (Nat.le_refl _)
      replace bx8_0 := bx8_0.below bv11 (Nat.le_refl _)
      replace bt := bt.trans (bv11.mono bt.size)
      clear bv11
      refine (eqFrame_t (W0) (H0) _ _ _ _ (setV W0 H0 l0 a1 a2 l3) _ (by have := HL0.out; omega) ow10.row ow5.row).mono ?_
      rintro e wo12 ⟨rfl, be12⟩
      replace ow3 := ow3.below be12 (Nat.le_refl _)
      replace ow4 := ow4.below be12 (Nat.le_refl _)
      replace ow5 := ow5.below be12 (Nat.le_refl _)
      replace ow7 := ow7.below be12 (Nat.le_refl _)
      replace ow9 := ow9.below be12 (Nat.le_refl _)
      replace ow10 := ow10.below be12 (Nat.le_refl _)
      replace bx1_0 := bx1_0.below be12 (Nat.le_refl _)
      replace bx6_0 := bx6_0.below be12 (Nat.le_refl _)
      replace bx8_0 := bx8_0.below be12 (Nat.le_refl _)
      replace bx11_0 := bx11_0.below be12 (Nat.le_refl _)
      replace bt := bt.trans (be12.mono bt.size)
      have si12 := be12.size
      clear be12
      have hneb : ∀ b : Bool, (b != b) = false := by intro b; cases b <;> rfl
      have bxc := bx1_0
      obtain ⟨_, cx1_0_0, cx1_0_1, cx1_0_2⟩ := bxc
      have bxc := bx6_0
      obtain ⟨_, cx6_0_0, cx6_0_1, cx6_0_2⟩ := bxc
      have bxc := bx8_0
      obtain ⟨_, cx8_0_0, cx8_0_1, cx8_0_2⟩ := bxc
      have bxc := bx11_0
      obtain ⟨_, cx11_0_0, cx11_0_1, cx11_0_2⟩ := bxc
      go_wp2_with fail
      clear cx1_0_0 cx1_0_1 cx1_0_2 cx6_0_0 cx6_0_1 cx6_0_2 cx8_0_0 cx8_0_1 cx8_0_2 cx11_0_0 cx11_0_1 cx11_0_2
      have bxc := bx8_0
      obtain ⟨hlbcx8_0_0, cx8_0_0, cx8_0_1, cx8_0_2⟩ := bxc
      have bxc := bx1_0
      obtain ⟨hlbcx1_0_0, cx1_0_0, cx1_0_1, cx1_0_2⟩ := bxc
      go_region_held3 (fun w' => w'.cell? ⟨wo7.heap.size, 0, none⟩ = some (.int .i64 (W0)) ∧ w'.cell? ⟨wo7.heap.size, 1, none⟩ = some (.int .i64 (H0)) ∧ w'.cell? ⟨wo7.heap.size, 2, none⟩ = some (.slice xx7 (l0).length yy7) ∧ w'.cell? ⟨w.heap.size, 0, none⟩ = some (.int .i64 W0) ∧ w'.cell? ⟨w.heap.size, 1, none⟩ = some (.int .i64 H0) ∧ w'.cell? ⟨w.heap.size, 2, none⟩ = some (.slice a0 l0.length c0)) (first | exact ⟨bx8_0.2.1, bx8_0.2.2.1, bx8_0.2.2.2, bx1_0.2.1, bx1_0.2.2.1, bx1_0.2.2.2⟩ | go_keep)
        ((first
          | (go_at_call 13; with_reducible refine (toFrame_c W0 H0 _ _ l0 _ hb0 (r0.below bt (Nat.le_refl _)).drew).mono ?_
             rintro e wo13 ⟨xx13, yy13, rfl, ow13, be13⟩
             replace ow3 := ow3.drew.below be13 (Nat.le_refl _)
             replace ow4 := ow4.drew.below be13 (Nat.le_refl _)
             replace ow5 := ow5.drew.below be13 (Nat.le_refl _)
             replace ow7 := ow7.drew.below be13 (Nat.le_refl _)
             replace ow9 := ow9.drew.below be13 (Nat.le_refl _)
             replace ow10 := ow10.drew.below be13 (Nat.le_refl _)
             replace bx1_0 := bx1_0.drew.below be13 (Nat.le_refl _)
             replace bx6_0 := bx6_0.drew.below be13 (Nat.le_refl _)
             replace bx8_0 := bx8_0.drew.below be13 (Nat.le_refl _)
             replace bx11_0 := bx11_0.drew.below be13 (Nat.le_refl _)
             replace bt := (bt.drew).trans (be13.mono bt.size)
             have si13 := be13.size
             have hcw13 := bcell be13)
          | (go_at_call 15; with_reducible refine (eqFrame_t (W0) (H0) _ _ _ _ (l0) _ (by have := hb0; omega) ow7.row ow13.row).mono ?_
             rintro e wo14 ⟨rfl, be14⟩
             replace ow3 := ow3.below be14 (Nat.le_refl _)
             replace ow4 := ow4.below be14 (Nat.le_refl _)
             replace ow5 := ow5.below be14 (Nat.le_refl _)
             replace ow7 := ow7.below be14 (Nat.le_refl _)
             replace ow9 := ow9.below be14 (Nat.le_refl _)
             replace ow10 := ow10.below be14 (Nat.le_refl _)
             replace bx1_0 := bx1_0.below be14 (Nat.le_refl _)
             replace bx6_0 := bx6_0.below be14 (Nat.le_refl _)
             replace bx8_0 := bx8_0.below be14 (Nat.le_refl _)
             replace bx11_0 := bx11_0.below be14 (Nat.le_refl _)
             replace bt := (bt).trans (be14.mono bt.size)
             have si14 := be14.size
             have hcw14 := bcell be14)))
      clear hlbcx8_0_0 cx8_0_0 cx8_0_1 cx8_0_2 hlbcx1_0_0 cx1_0_0 cx1_0_1 cx1_0_2 hcw13 be13 hcw14 be14
      have bxc := bx1_0
      obtain ⟨_, cx1_0_0, cx1_0_1, cx1_0_2⟩ := bxc
      have bxc := bx6_0
      obtain ⟨_, cx6_0_0, cx6_0_1, cx6_0_2⟩ := bxc
      have bxc := bx8_0
      obtain ⟨_, cx8_0_0, cx8_0_1, cx8_0_2⟩ := bxc
      have bxc := bx11_0
      obtain ⟨_, cx11_0_0, cx11_0_1, cx11_0_2⟩ := bxc
      go_wp2_with fail
      clear cx1_0_0 cx1_0_1 cx1_0_2 cx6_0_0 cx6_0_1 cx6_0_2 cx8_0_0 cx8_0_1 cx8_0_2 cx11_0_0 cx11_0_1 cx11_0_2
      refine (toIntS_c _ _ l3 _ hb3 (r3.below bt (Nat.le_refl _))).mono ?_
      rintro e wo15 ⟨gg15, rfl, hgg15, ow15, be15⟩
      replace ow3 := ow3.below be15 (Nat.le_refl _)
      replace ow4 := ow4.below be15 (Nat.le_refl _)
      replace ow5 := ow5.below be15 (Nat.le_refl _)
      replace ow7 := ow7.below be15 (Nat.le_refl _)
      replace ow9 := ow9.below be15 (Nat.le_refl _)
      replace ow10 := ow10.below be15 (Nat.le_refl _)
      replace bx1_0 := bx1_0.below be15 (Nat.le_refl _)
      replace bx6_0 := bx6_0.below be15 (Nat.le_refl _)
      replace bx8_0 := bx8_0.below be15 (Nat.le_refl _)
      replace bx11_0 := bx11_0.below be15 (Nat.le_refl _)
      replace bt := bt.trans (be15.mono bt.size)
      have si15 := be15.size
      clear be15
      clear hgg15
      have Uow15 := Lib.hid (fun p hp => (ow15.lt p hp).2)
      have bxc := bx1_0
      obtain ⟨_, cx1_0_0, cx1_0_1, cx1_0_2⟩ := bxc
      have bxc := bx6_0
      obtain ⟨_, cx6_0_0, cx6_0_1, cx6_0_2⟩ := bxc
      have bxc := bx8_0
      obtain ⟨_, cx8_0_0, cx8_0_1, cx8_0_2⟩ := bxc
      have bxc := bx11_0
      obtain ⟨_, cx11_0_0, cx11_0_1, cx11_0_2⟩ := bxc
      go_wp2_with fail
      clear cx1_0_0 cx1_0_1 cx1_0_2 cx6_0_0 cx6_0_1 cx6_0_2 cx8_0_0 cx8_0_1 cx8_0_2 cx11_0_0 cx11_0_1 cx11_0_2
      refine (eqIntS_t _ _ _ _ (l3) _ (by have := hb3; omega) ow9.row ow15.row).mono ?_
      rintro e wo16 ⟨rfl, be16⟩
      replace ow3 := ow3.below be16 (Nat.le_refl _)
      replace ow4 := ow4.below be16 (Nat.le_refl _)
      replace ow5 := ow5.below be16 (Nat.le_refl _)
      replace ow7 := ow7.below be16 (Nat.le_refl _)
      replace ow9 := ow9.below be16 (Nat.le_refl _)
      replace ow10 := ow10.below be16 (Nat.le_refl _)
      replace ow15 := ow15.below be16 (Nat.le_refl _)
      replace bx1_0 := bx1_0.below be16 (Nat.le_refl _)
      replace bx6_0 := bx6_0.below be16 (Nat.le_refl _)
      replace bx8_0 := bx8_0.below be16 (Nat.le_refl _)
      replace bx11_0 := bx11_0.below be16 (Nat.le_refl _)
      replace bt := bt.trans (be16.mono bt.size)
      have si16 := be16.size
      clear be16
      have bxc := bx1_0
      obtain ⟨_, cx1_0_0, cx1_0_1, cx1_0_2⟩ := bxc
      have bxc := bx6_0
      obtain ⟨_, cx6_0_0, cx6_0_1, cx6_0_2⟩ := bxc
      have bxc := bx8_0
      obtain ⟨_, cx8_0_0, cx8_0_1, cx8_0_2⟩ := bxc
      have bxc := bx11_0
      obtain ⟨_, cx11_0_0, cx11_0_1, cx11_0_2⟩ := bxc
      go_wp2_with fail
      clear cx1_0_0 cx1_0_1 cx1_0_2 cx6_0_0 cx6_0_1 cx6_0_2 cx8_0_0 cx8_0_1 cx8_0_2 cx11_0_0 cx11_0_1 cx11_0_2
      refine (markFrame_c _ (W0) (H0) _ _ (l0) 1 _ (by have := hb0; omega) (by have := hb0; omega) (by have := hb0; omega) ow7).mono ?_
      rintro e wo17 ⟨rfl, qo17, kg17⟩
      replace ow3 := ow3.grown kg17 (ne_up (N := vo6.heap.size) (fun p hp => Nat.lt_of_lt_of_le (Uow3.out p hp) (by omega)) (ow7.ge (Nat.le_refl _)))
      replace ow4 := ow4.grown kg17 (ne_up (N := vo6.heap.size) (fun p hp => Nat.lt_of_lt_of_le (Uow4.out p hp) (by omega)) (ow7.ge (Nat.le_refl _)))
      replace ow5 := ow5.grown kg17 (ne_up (N := vo6.heap.size) (fun p hp => Nat.lt_of_lt_of_le (Uow5.out p hp) (by omega)) (ow7.ge (Nat.le_refl _)))
      replace ow9 := ow9.grown kg17 (ne_down (ow9.ge (Nat.le_refl _)) (fun p hp => Nat.lt_of_lt_of_le (Uow7.out p hp) (by omega)))
      replace ow10 := ow10.grown kg17 (ne_down (ow10.ge (Nat.le_refl _)) (fun p hp => Nat.lt_of_lt_of_le (Uow7.out p hp) (by omega)))
      replace ow15 := ow15.grown kg17 (ne_down (ow15.ge (Nat.le_refl _)) (fun p hp => Nat.lt_of_lt_of_le (Uow7.out p hp) (by omega)))
      replace bx1_0 := bx1_0.grown kg17 (fun p hp => by have := ow7.ge (K := vo6.heap.size) (Nat.le_refl _) p hp; omega)
      replace bx6_0 := bx6_0.grown kg17 (fun p hp => by have := ow7.ge (K := vo6.heap.size) (Nat.le_refl _) p hp; omega)
      replace bx8_0 := bx8_0.grown kg17 (fun p hp => by have := Uow7.out p hp; omega)
      replace bx11_0 := bx11_0.grown kg17 (fun p hp => by have := Uow7.out p hp; omega)
      replace bt := below_mark bt kg17 bt.size (ow7.ge (by omega))
      have si17 := kg17.size
      clear kg17
      replace ow7 := qo17
      clear qo17
      have bxc := bx1_0
      obtain ⟨_, cx1_0_0, cx1_0_1, cx1_0_2⟩ := bxc
      have bxc := bx6_0
      obtain ⟨_, cx6_0_0, cx6_0_1, cx6_0_2⟩ := bxc
      have bxc := bx8_0
      obtain ⟨_, cx8_0_0, cx8_0_1, cx8_0_2⟩ := bxc
      have bxc := bx11_0
      obtain ⟨_, cx11_0_0, cx11_0_1, cx11_0_2⟩ := bxc
      go_wp2_with fail
      clear cx1_0_0 cx1_0_1 cx1_0_2 cx6_0_0 cx6_0_1 cx6_0_2 cx8_0_0 cx8_0_1 cx8_0_2 cx11_0_0 cx11_0_1 cx11_0_2
      refine (markIntS_c _ _ _ (l3) (1 + ((l0).length : Int)) _ (by have := hb3; omega) (by have := hb3; omega) (by have := hb3; omega) ow9).mono ?_
      rintro e wo18 ⟨rfl, qo18, kg18⟩
      replace ow3 := ow3.grown kg18 (ne_up (N := vo8.heap.size) (fun p hp => Nat.lt_of_lt_of_le (Uow3.out p hp) (by omega)) (ow9.ge (Nat.le_refl _)))
      replace ow4 := ow4.grown kg18 (ne_up (N := vo8.heap.size) (fun p hp => Nat.lt_of_lt_of_le (Uow4.out p hp) (by omega)) (ow9.ge (Nat.le_refl _)))
      replace ow5 := ow5.grown kg18 (ne_up (N := vo8.heap.size) (fun p hp => Nat.lt_of_lt_of_le (Uow5.out p hp) (by omega)) (ow9.ge (Nat.le_refl _)))
      replace ow7 := ow7.grown kg18 (ne_up (N := vo8.heap.size) (fun p hp => Nat.lt_of_lt_of_le (Uow7.out p hp) (by omega)) (ow9.ge (Nat.le_refl _)))
      replace ow10 := ow10.grown kg18 (ne_down (ow10.ge (Nat.le_refl _)) (fun p hp => Nat.lt_of_lt_of_le (Uow9.out p hp) (by omega)))
      replace ow15 := ow15.grown kg18 (ne_down (ow15.ge (Nat.le_refl _)) (fun p hp => Nat.lt_of_lt_of_le (Uow9.out p hp) (by omega)))
      replace bx1_0 := bx1_0.grown kg18 (fun p hp => by have := ow9.ge (K := vo8.heap.size) (Nat.le_refl _) p hp; omega)
      replace bx6_0 := bx6_0.grown kg18 (fun p hp => by have := ow9.ge (K := vo8.heap.size) (Nat.le_refl _) p hp; omega)
      replace bx8_0 := bx8_0.grown kg18 (fun p hp => by have := ow9.ge (K := vo8.heap.size) (Nat.le_refl _) p hp; omega)
      replace bx11_0 := bx11_0.grown kg18 (fun p hp => by have := Uow9.out p hp; omega)
      replace bt := below_mark bt kg18 bt.size (ow9.ge (by omega))
      have si18 := kg18.size
      clear kg18
      replace ow9 := qo18
      clear qo18
      have bxc := bx1_0
      obtain ⟨_, cx1_0_0, cx1_0_1, cx1_0_2⟩ := bxc
      have bxc := bx6_0
      obtain ⟨_, cx6_0_0, cx6_0_1, cx6_0_2⟩ := bxc
      have bxc := bx8_0
      obtain ⟨_, cx8_0_0, cx8_0_1, cx8_0_2⟩ := bxc
      have bxc := bx11_0
      obtain ⟨_, cx11_0_0, cx11_0_1, cx11_0_2⟩ := bxc
      go_wp2_with fail
      clear cx1_0_0 cx1_0_1 cx1_0_2 cx6_0_0 cx6_0_1 cx6_0_2 cx8_0_0 cx8_0_1 cx8_0_2 cx11_0_0 cx11_0_1 cx11_0_2
      refine (eqFrame_t (W0) (H0) _ _ _ _ (setV W0 H0 l0 a1 a2 l3) _ (by have := HL0.out; omega) ow10.row ow5.row).mono ?_
      rintro e wo19 ⟨rfl, be19⟩
      replace ow3 := ow3.below be19 (Nat.le_refl _)
      replace ow4 := ow4.below be19 (Nat.le_refl _)
      replace ow5 := ow5.below be19 (Nat.le_refl _)
      replace ow7 := ow7.below be19 (Nat.le_refl _)
      replace ow9 := ow9.below be19 (Nat.le_refl _)
      replace ow10 := ow10.below be19 (Nat.le_refl _)
      replace ow15 := ow15.below be19 (Nat.le_refl _)
      replace bx1_0 := bx1_0.below be19 (Nat.le_refl _)
      replace bx6_0 := bx6_0.below be19 (Nat.le_refl _)
      replace bx8_0 := bx8_0.below be19 (Nat.le_refl _)
      replace bx11_0 := bx11_0.below be19 (Nat.le_refl _)
      replace bt := bt.trans (be19.mono bt.size)
      have si19 := be19.size
      clear be19
      have hneb : ∀ b : Bool, (b != b) = false := by intro b; cases b <;> rfl
      have bxc := bx1_0
      obtain ⟨_, cx1_0_0, cx1_0_1, cx1_0_2⟩ := bxc
      have bxc := bx6_0
      obtain ⟨_, cx6_0_0, cx6_0_1, cx6_0_2⟩ := bxc
      have bxc := bx8_0
      obtain ⟨_, cx8_0_0, cx8_0_1, cx8_0_2⟩ := bxc
      have bxc := bx11_0
      obtain ⟨_, cx11_0_0, cx11_0_1, cx11_0_2⟩ := bxc
      go_wp2_with fail
      clear cx1_0_0 cx1_0_1 cx1_0_2 cx6_0_0 cx6_0_1 cx6_0_2 cx8_0_0 cx8_0_1 cx8_0_2 cx11_0_0 cx11_0_1 cx11_0_2
      refine (markFrame_c _ (W0) (H0) _ _ (setV W0 H0 l0 a1 a2 l3) 1 _ (by have := HL0.out; omega) (by have := HL0.out; omega) (by have := HL0.out; omega) ow10).mono ?_
      rintro e wo20 ⟨rfl, qo20, kg20⟩
      replace ow3 := ow3.grown kg20 (ne_up (N := wo9.heap.size) (fun p hp => Nat.lt_of_lt_of_le (Uow3.out p hp) (by omega)) (ow10.ge (Nat.le_refl _)))
      replace ow4 := ow4.grown kg20 (ne_up (N := wo9.heap.size) (fun p hp => Nat.lt_of_lt_of_le (Uow4.out p hp) (by omega)) (ow10.ge (Nat.le_refl _)))
      replace ow5 := ow5.grown kg20 (ne_up (N := wo9.heap.size) (fun p hp => Nat.lt_of_lt_of_le (Uow5.out p hp) (by omega)) (ow10.ge (Nat.le_refl _)))
      replace ow7 := ow7.grown kg20 (ne_up (N := wo9.heap.size) (fun p hp => Nat.lt_of_lt_of_le (Uow7.out p hp) (by omega)) (ow10.ge (Nat.le_refl _)))
      replace ow9 := ow9.grown kg20 (ne_up (N := wo9.heap.size) (fun p hp => Nat.lt_of_lt_of_le (Uow9.out p hp) (by omega)) (ow10.ge (Nat.le_refl _)))
      replace ow15 := ow15.grown kg20 (ne_down (ow15.ge (Nat.le_refl _)) (fun p hp => Nat.lt_of_lt_of_le (Uow10.out p hp) (by omega)))
      replace bx1_0 := bx1_0.grown kg20 (fun p hp => by have := ow10.ge (K := wo9.heap.size) (Nat.le_refl _) p hp; omega)
      replace bx6_0 := bx6_0.grown kg20 (fun p hp => by have := ow10.ge (K := wo9.heap.size) (Nat.le_refl _) p hp; omega)
      replace bx8_0 := bx8_0.grown kg20 (fun p hp => by have := ow10.ge (K := wo9.heap.size) (Nat.le_refl _) p hp; omega)
      replace bx11_0 := bx11_0.grown kg20 (fun p hp => by have := Uow10.out p hp; omega)
      replace bt := below_mark bt kg20 bt.size (ow10.ge (by omega))
      have si20 := kg20.size
      clear kg20
      replace ow10 := qo20
      clear qo20
      have bxc := bx1_0
      obtain ⟨_, cx1_0_0, cx1_0_1, cx1_0_2⟩ := bxc
      have bxc := bx6_0
      obtain ⟨_, cx6_0_0, cx6_0_1, cx6_0_2⟩ := bxc
      have bxc := bx8_0
      obtain ⟨_, cx8_0_0, cx8_0_1, cx8_0_2⟩ := bxc
      have bxc := bx11_0
      obtain ⟨_, cx11_0_0, cx11_0_1, cx11_0_2⟩ := bxc
      go_wp2_with fail
      clear cx1_0_0 cx1_0_1 cx1_0_2 cx6_0_0 cx6_0_1 cx6_0_2 cx8_0_0 cx8_0_1 cx8_0_2 cx11_0_0 cx11_0_1 cx11_0_2
      refine (heldFrame_b (W0) (H0) _ _ (setV W0 H0 l0 a1 a2 l3).length 1 _ (by have := HL0.out; omega) (by omega) (by omega) ow10.row).mono ?_
      rintro e wo21 ⟨rfl, be21⟩
      replace ow3 := ow3.below be21 (Nat.le_refl _)
      replace ow4 := ow4.below be21 (Nat.le_refl _)
      replace ow5 := ow5.below be21 (Nat.le_refl _)
      replace ow7 := ow7.below be21 (Nat.le_refl _)
      replace ow9 := ow9.below be21 (Nat.le_refl _)
      replace ow10 := ow10.below be21 (Nat.le_refl _)
      replace ow15 := ow15.below be21 (Nat.le_refl _)
      replace bx1_0 := bx1_0.below be21 (Nat.le_refl _)
      replace bx6_0 := bx6_0.below be21 (Nat.le_refl _)
      replace bx8_0 := bx8_0.below be21 (Nat.le_refl _)
      replace bx11_0 := bx11_0.below be21 (Nat.le_refl _)
      replace bt := bt.trans (be21.mono bt.size)
      have si21 := be21.size
      clear be21
      have bxc := bx1_0
      obtain ⟨_, cx1_0_0, cx1_0_1, cx1_0_2⟩ := bxc
      have bxc := bx6_0
      obtain ⟨_, cx6_0_0, cx6_0_1, cx6_0_2⟩ := bxc
      have bxc := bx8_0
      obtain ⟨_, cx8_0_0, cx8_0_1, cx8_0_2⟩ := bxc
      have bxc := bx11_0
      obtain ⟨_, cx11_0_0, cx11_0_1, cx11_0_2⟩ := bxc
      go_wp2_with fail
      clear cx1_0_0 cx1_0_1 cx1_0_2 cx6_0_0 cx6_0_1 cx6_0_2 cx8_0_0 cx8_0_1 cx8_0_2 cx11_0_0 cx11_0_1 cx11_0_2
      refine (toFrame_c W0 H0 _ _ l0 _ hb0 (r0.below bt (Nat.le_refl _))).mono ?_
      rintro e wo22 ⟨xx22, yy22, rfl, ow22, be22⟩
      replace ow3 := ow3.below be22 (Nat.le_refl _)
      replace ow4 := ow4.below be22 (Nat.le_refl _)
      replace ow5 := ow5.below be22 (Nat.le_refl _)
      replace ow7 := ow7.below be22 (Nat.le_refl _)
      replace ow9 := ow9.below be22 (Nat.le_refl _)
      replace ow10 := ow10.below be22 (Nat.le_refl _)
      replace ow15 := ow15.below be22 (Nat.le_refl _)
      replace bx1_0 := bx1_0.below be22 (Nat.le_refl _)
      replace bx6_0 := bx6_0.below be22 (Nat.le_refl _)
      replace bx8_0 := bx8_0.below be22 (Nat.le_refl _)
      replace bx11_0 := bx11_0.below be22 (Nat.le_refl _)
      replace bt := bt.trans (be22.mono bt.size)
      have si22 := be22.size
      clear be22
      have Uow22 := Lib.hid (fun p hp => (ow22.lt p hp).2)
      have bxc := bx1_0
      obtain ⟨_, cx1_0_0, cx1_0_1, cx1_0_2⟩ := bxc
      have bxc := bx6_0
      obtain ⟨_, cx6_0_0, cx6_0_1, cx6_0_2⟩ := bxc
      have bxc := bx8_0
      obtain ⟨_, cx8_0_0, cx8_0_1, cx8_0_2⟩ := bxc
      have bxc := bx11_0
      obtain ⟨_, cx11_0_0, cx11_0_1, cx11_0_2⟩ := bxc
      go_wp2_with fail
      clear cx1_0_0 cx1_0_1 cx1_0_2 cx6_0_0 cx6_0_1 cx6_0_2 cx8_0_0 cx8_0_1 cx8_0_2 cx11_0_0 cx11_0_1 cx11_0_2
      refine (toIntS_c _ _ l3 _ hb3 (r3.below bt (Nat.le_refl _))).mono ?_
      rintro e wo23 ⟨gg23, rfl, hgg23, ow23, be23⟩
      replace ow3 := ow3.below be23 (Nat.le_refl _)
      replace ow4 := ow4.below be23 (Nat.le_refl _)
      replace ow5 := ow5.below be23 (Nat.le_refl _)
      replace ow7 := ow7.below be23 (Nat.le_refl _)
      replace ow9 := ow9.below be23 (Nat.le_refl _)
      replace ow10 := ow10.below be23 (Nat.le_refl _)
      replace ow15 := ow15.below be23 (Nat.le_refl _)
      replace ow22 := ow22.below be23 (Nat.le_refl _)
      replace bx1_0 := bx1_0.below be23 (Nat.le_refl _)
      replace bx6_0 := bx6_0.below be23 (Nat.le_refl _)
      replace bx8_0 := bx8_0.below be23 (Nat.le_refl _)
      replace bx11_0 := bx11_0.below be23 (Nat.le_refl _)
      replace bt := bt.trans (be23.mono bt.size)
      have si23 := be23.size
      clear be23
      clear hgg23
      have Uow23 := Lib.hid (fun p hp => (ow23.lt p hp).2)
      have bxc := bx1_0
      obtain ⟨_, cx1_0_0, cx1_0_1, cx1_0_2⟩ := bxc
      have bxc := bx6_0
      obtain ⟨_, cx6_0_0, cx6_0_1, cx6_0_2⟩ := bxc
      have bxc := bx8_0
      obtain ⟨_, cx8_0_0, cx8_0_1, cx8_0_2⟩ := bxc
      have bxc := bx11_0
      obtain ⟨_, cx11_0_0, cx11_0_1, cx11_0_2⟩ := bxc
      go_wp2_with fail
      clear cx1_0_0 cx1_0_1 cx1_0_2 cx6_0_0 cx6_0_1 cx6_0_2 cx8_0_0 cx8_0_1 cx8_0_2 cx11_0_0 cx11_0_1 cx11_0_2
      refine (impl.SetBlock_c W0 H0 _ _ l0 a1 a2 _ _ l3 _ wW0 wH0 hl0 ow22.row w0 hl3 ow23.row w3).mono ?_
      rintro e wo24 ⟨xx24, yy24, rfl, ow24, be24⟩
      replace ow3 := ow3.below be24 (Nat.le_refl _)
      replace ow4 := ow4.below be24 (Nat.le_refl _)
      replace ow5 := ow5.below be24 (Nat.le_refl _)
      replace ow7 := ow7.below be24 (Nat.le_refl _)
      replace ow9 := ow9.below be24 (Nat.le_refl _)
      replace ow10 := ow10.below be24 (Nat.le_refl _)
      replace ow15 := ow15.below be24 (Nat.le_refl _)
      replace ow22 := ow22.below be24 (Nat.le_refl _)
      replace ow23 := ow23.below be24 (Nat.le_refl _)
      replace bx1_0 := bx1_0.below be24 (Nat.le_refl _)
      replace bx6_0 := bx6_0.below be24 (Nat.le_refl _)
      replace bx8_0 := bx8_0.below be24 (Nat.le_refl _)
      replace bx11_0 := bx11_0.below be24 (Nat.le_refl _)
      replace bt := bt.trans (be24.mono bt.size)
      have si24 := be24.size
      clear be24
      have Uow24 := Lib.hid (fun p hp => (ow24.lt p hp).2)
      have bxc := bx1_0
      obtain ⟨_, cx1_0_0, cx1_0_1, cx1_0_2⟩ := bxc
      have bxc := bx6_0
      obtain ⟨_, cx6_0_0, cx6_0_1, cx6_0_2⟩ := bxc
      have bxc := bx8_0
      obtain ⟨_, cx8_0_0, cx8_0_1, cx8_0_2⟩ := bxc
      have bxc := bx11_0
      obtain ⟨_, cx11_0_0, cx11_0_1, cx11_0_2⟩ := bxc
      go_wp2_with fail
      clear cx1_0_0 cx1_0_1 cx1_0_2 cx6_0_0 cx6_0_1 cx6_0_2 cx8_0_0 cx8_0_1 cx8_0_2 cx11_0_0 cx11_0_1 cx11_0_2
      obtain ⟨vo25, hv25⟩ : ∃ T, T = (wo24.alloc (.cells #[.int .i64 (W0), .int .i64 (H0), .slice xx24 (setV W0 H0 l0 a1 a2 l3).length yy24] 27)) := ⟨_, rfl⟩
      rw [← hv25]
      have bv25 : Below wo24.heap.size wo24 vo25 := by rw [hv25]; exact ((Below.refl _ _).alloc (Nat.le_refl _) _)
      have si25 : wo24.heap.size + 1 ≤ vo25.heap.size := by rw [hv25]; simp
      have bx25_0 : Box3 vo25 wo24.heap.size (.int .i64 (W0)) (.int .i64 (H0)) (.slice xx24 (setV W0 H0 l0 a1 a2 l3).length yy24) := by rw [hv25]; exact ⟨by first | (simp; done) | (simp; omega), by simp, by simp, by simp⟩
      clear hv25
      replace ow3 := ow3.below bv25 (Nat.le_refl _)
      replace ow4 := ow4.below bv25 (Nat.le_refl _)
      replace ow5 := ow5.below bv25 (Nat.le_refl _)
      replace ow7 := ow7.below bv25 (Nat.le_refl _)
      replace ow9 := ow9.below bv25 (Nat.le_refl _)
      replace ow10 := ow10.below bv25 (Nat.le_refl _)
      replace ow15 := ow15.below bv25 (Nat.le_refl _)
      replace ow22 := ow22.below bv25 (Nat.le_refl _)
      replace ow23 := ow23.below bv25 (Nat.le_refl _)
      replace ow24 := ow24.below bv25 (Nat.le_refl _)
      replace bx1_0 := bx1_0.below bv25 (Nat.le_refl _)
      replace bx6_0 := bx6_0.below bv25 (Nat.le_refl _)
      replace bx8_0 := bx8_0.below bv25 (Nat.le_refl _)
      replace bx11_0 := bx11_0.below bv25 (Nat.le_refl _)
      replace bt := bt.trans (bv25.mono bt.size)
      clear bv25
      refine (eqFrame_t (W0) (H0) _ _ _ _ (setV W0 H0 l0 a1 a2 l3) _ (by have := HL0.out; omega) ow24.row ow5.row).mono ?_
      rintro e wo26 ⟨rfl, be26⟩
      replace ow3 := ow3.below be26 (Nat.le_refl _)
      replace ow4 := ow4.below be26 (Nat.le_refl _)
      replace ow5 := ow5.below be26 (Nat.le_refl _)
      replace ow7 := ow7.below be26 (Nat.le_refl _)
      replace ow9 := ow9.below be26 (Nat.le_refl _)
      replace ow10 := ow10.below be26 (Nat.le_refl _)
      replace ow15 := ow15.below be26 (Nat.le_refl _)
      replace ow22 := ow22.below be26 (Nat.le_refl _)
      replace ow23 := ow23.below be26 (Nat.le_refl _)
      replace ow24 := ow24.below be26 (Nat.le_refl _)
      replace bx1_0 := bx1_0.below be26 (Nat.le_refl _)
      replace bx6_0 := bx6_0.below be26 (Nat.le_refl _)
      replace bx8_0 := bx8_0.below be26 (Nat.le_refl _)
      replace bx11_0 := bx11_0.below be26 (Nat.le_refl _)
      replace bx25_0 := bx25_0.below be26 (Nat.le_refl _)
      replace bt := bt.trans (be26.mono bt.size)
      have si26 := be26.size
      clear be26
      have hneb : ∀ b : Bool, (b != b) = false := by intro b; cases b <;> rfl
      have bxc := bx1_0
      obtain ⟨_, cx1_0_0, cx1_0_1, cx1_0_2⟩ := bxc
      have bxc := bx6_0
      obtain ⟨_, cx6_0_0, cx6_0_1, cx6_0_2⟩ := bxc
      have bxc := bx8_0
      obtain ⟨_, cx8_0_0, cx8_0_1, cx8_0_2⟩ := bxc
      have bxc := bx11_0
      obtain ⟨_, cx11_0_0, cx11_0_1, cx11_0_2⟩ := bxc
      have bxc := bx25_0
      obtain ⟨_, cx25_0_0, cx25_0_1, cx25_0_2⟩ := bxc
      go_wp2_with fail
      clear cx1_0_0 cx1_0_1 cx1_0_2 cx6_0_0 cx6_0_1 cx6_0_2 cx8_0_0 cx8_0_1 cx8_0_2 cx11_0_0 cx11_0_1 cx11_0_2 cx25_0_0 cx25_0_1 cx25_0_2
      refine (heldFrame_b (W0) (H0) _ _ (setV W0 H0 l0 a1 a2 l3).length 1 _ (by have := HL0.out; omega) (by omega) (by omega) ow10.row).mono ?_
      rintro e wo27 ⟨rfl, be27⟩
      replace ow3 := ow3.below be27 (Nat.le_refl _)
      replace ow4 := ow4.below be27 (Nat.le_refl _)
      replace ow5 := ow5.below be27 (Nat.le_refl _)
      replace ow7 := ow7.below be27 (Nat.le_refl _)
      replace ow9 := ow9.below be27 (Nat.le_refl _)
      replace ow10 := ow10.below be27 (Nat.le_refl _)
      replace ow15 := ow15.below be27 (Nat.le_refl _)
      replace ow22 := ow22.below be27 (Nat.le_refl _)
      replace ow23 := ow23.below be27 (Nat.le_refl _)
      replace ow24 := ow24.below be27 (Nat.le_refl _)
      replace bx1_0 := bx1_0.below be27 (Nat.le_refl _)
      replace bx6_0 := bx6_0.below be27 (Nat.le_refl _)
      replace bx8_0 := bx8_0.below be27 (Nat.le_refl _)
      replace bx11_0 := bx11_0.below be27 (Nat.le_refl _)
      replace bx25_0 := bx25_0.below be27 (Nat.le_refl _)
      replace bt := bt.trans (be27.mono bt.size)
      have si27 := be27.size
      clear be27
      go_wp2
      go_ret
      exact ⟨rfl, bt⟩
    · have hxx : ¬ (l0.length ≤ 1048576) := by assumption
      go_enter Try.func6, Try.ntmps6
      go_wp2_with fail
      obtain ⟨vo901, hv901⟩ : ∃ T, T = (w.alloc (.cells #[.int .i64 W0, .int .i64 H0, .slice a0 l0.length c0] 24)) := ⟨_, rfl⟩
      rw [← hv901]
      have bv901 : Below w.heap.size w vo901 := by rw [hv901]; exact ((Below.refl _ _).alloc (Nat.le_refl _) _)
      have si901 : w.heap.size + 1 ≤ vo901.heap.size := by rw [hv901]; simp
      have bx901_0 : Box3 vo901 w.heap.size (.int .i64 W0) (.int .i64 H0) (.slice a0 l0.length c0) := by rw [hv901]; exact ⟨by first | (simp; done) | (simp; omega), by simp, by simp, by simp⟩
      clear hv901
      replace bt := bt.trans (bv901.mono bt.size)
      clear bv901
      refine (szFrame_x W0 H0 _ _ l0 1048576 _ (by omega) (by omega) (by omega) n0).mono ?_
      rintro e wo902 ⟨rfl, be902⟩
      replace bx901_0 := bx901_0.below be902 (Nat.le_refl _)
      replace bt := bt.trans (be902.mono bt.size)
      have si902 := be902.size
      clear be902
      go_wp2
      go_ret
      exact ⟨rfl, bt⟩
  · have ht : (1048576 : Int) < (l3.length : Int) := by omega
    go_enter Try.func6, Try.ntmps6
    go_wp2
    go_ret
    first
      | exact ⟨rfl, bt⟩
      | exact ⟨rfl, bt.alloc (Nat.le_refl _) _⟩

theorem own : ownKnob Try.prog.godebug = none := by kernel_rfl
theorem laidOut : laidOutB Try.prog = true := by kernel_rfl
set_option maxRecDepth 100000 in
theorem lifted (os : Os) (started : os.Started) (H : Type) (enc : TypeId × Value → H) :
    ReturnsInHanded {} Try.checked os 6 .any (Rows.fnExactSetBlockSpec.pre6 enc Try.prog Try.f6 Rows.fnExactSetBlockRow.domain false) (Rows.fnExactSetBlockSpec.post enc Try.prog Try.f6 false true false false) := by
  refine returnsInHanded_of_change (C := Try.checked) own started (by kernel_rfl) Try.func6
    (ChangeSpec.witness6 (enc := enc) (C := Try.checked) false ⟨#[], #[.agg #[.int .i64 0, .int .i64 0, .slice none 0 0], .int .i64 0, .int .i64 0, .slice none 0 0], []⟩ 8 (by kernel_rfl) (by kernel_rfl) (by kernel_rfl) (by kernel_rfl)) ?_
  intro W base args ds gs before hval0 hW hcnd _
  have hval : ∀ (j : Nat) t v, Try.f6.params[j]? = some t → args[j]? = some v → Value.okWide Try.prog W .any base t v := hval0
  have hW' := hW
  obtain ⟨p, q, hA0, hV, rfl, hfz, hnd⟩ := hW
  have hA : DataW.TrodAll enc Try.prog W 0 (fun _ => true) true Try.f6.params.toList args.toList ds p := hA0
  rw [Try.params6] at hA hval
  obtain ⟨v0, vs0, d0, ds0, p0, q0, hargs, rfl, rfl, h0, tr0⟩ := trodAll_cons hA
  obtain ⟨v1, vs1, d1, ds1, p1, q1, rfl, rfl, rfl, h1, tr1⟩ := trodAll_cons tr0
  obtain ⟨v2, vs2, d2, ds2, p2, q2, rfl, rfl, rfl, h2, tr2⟩ := trodAll_cons tr1
  obtain ⟨v3, vs3, d3, ds3, p3, q3, rfl, rfl, rfl, h3, tr3⟩ := trodAll_cons tr2
  obtain ⟨rfl, rfl, rfl⟩ := trodAll_nil tr3
  obtain rfl : args = #[v0, v1, v2, v3] := by cases args; simp_all
  obtain ⟨rfl, rfl⟩ := trodVars_none hV
  have k0 := h0
  have lt0 : ∀ x ∈ p0, x.block < W.heap.size := by obtain ⟨m, hm⟩ := k0; exact DataW.trod_lt m _ _ _ hm
  have k1 := h1
  have lt1 : ∀ x ∈ p1, x.block < W.heap.size := by obtain ⟨m, hm⟩ := k1; exact DataW.trod_lt m _ _ _ hm
  have k2 := h2
  have lt2 : ∀ x ∈ p2, x.block < W.heap.size := by obtain ⟨m, hm⟩ := k2; exact DataW.trod_lt m _ _ _ hm
  have k3 := h3
  have lt3 : ∀ x ∈ p3, x.block < W.heap.size := by obtain ⟨m, hm⟩ := k3; exact DataW.trod_lt m _ _ _ hm
  obtain ⟨p00, p01, p02, y00, y01, y02, m0, rfl, rfl, _, hy00, hy01, hy02⟩ := open_agg3 Try.underlying24 (by kernel_rfl) (by kernel_rfl) (hval 0 24 v0 rfl rfl) h0
  obtain ⟨W0, wW0, rfl⟩ := cell_int Try.underlying3 hy00
  obtain ⟨H0, wH0, rfl⟩ := cell_int Try.underlying3 hy01
  obtain ⟨a0, c0, l0, r0, w0, n0, rfl⟩ := cell_ints Try.underlying22 Try.underlying3 (by kernel_rfl) hy02
  obtain ⟨a1, rfl, rfl, rfl, w1⟩ := open_int Try.underlying3 (hval 1 3 v1 rfl rfl) h1
  obtain ⟨a2, rfl, rfl, rfl, w2⟩ := open_int Try.underlying3 (hval 2 3 v2 rfl rfl) h2
  obtain ⟨a3, len3, c3, rfl⟩ := okWide_slice Try.underlying22 (hval 3 22 v3 rfl rfl)
  obtain ⟨l3, hl3, r3, w3⟩ : ∃ l : List Int, l.length = len3 ∧ Row W a3 l ∧ ∀ x ∈ l, -9223372036854775808 ≤ x ∧ x ≤ 9223372036854775807 := by
    obtain ⟨fuel, hf⟩ := k3
    rcases open_ints Try.underlying22 Try.underlying3 (by kernel_rfl) hf with ⟨hcs, _⟩ | ⟨x, l, c, zs, hcs, _, hl, hm, hz, _, hcell, hwz⟩
    · simp [Value.cells] at hcs
      obtain ⟨rfl, rfl, rfl⟩ := hcs
      exact ⟨[], rfl, .inl rfl, by simp⟩
    · simp [Value.cells] at hcs
      obtain ⟨rfl, rfl, rfl⟩ := hcs
      exact Row.of_cells hl (by simpa using hz) hcell (fun n hn => wf_i64 (hwz n hn))
  subst hl3
  clear hA0 hval0
  refine (walk W W0 H0 wW0 wH0 a0 c0 l0 r0 w0 n0 a1 (wf_i64 w1) a2 (wf_i64 w2) a3 c3 l3 r3 w3).mono fun e W' ⟨he, bel⟩ => ?_
  subst he
  exact ⟨_, rfl, _, _, _, [], _, [], hW', trodAll_mk1 (shut_bool Try.underlying4 _), (trodAll_cons_mk (Below.trod laidOut (by kernel_rfl) (of_decide_eq_true (by kernel_rfl)) k0 bel lt0) (trodAll_cons_mk (Below.trod laidOut (by kernel_rfl) (of_decide_eq_true (by kernel_rfl)) k1 bel lt1) (trodAll_cons_mk (Below.trod laidOut (by kernel_rfl) (of_decide_eq_true (by kernel_rfl)) k2 bel lt2) (trodAll_cons_mk (Below.trod laidOut (by kernel_rfl) (of_decide_eq_true (by kernel_rfl)) k3 bel lt3) trodAll_mk0)))), rfl, bel.frame _, fun h => by cases h⟩

theorem over : Rows.fnExactSetBlockRow.holds Try.pinned (OpenSpec.ofChange Rows.fnExactSetBlockSpec) :=
  OpenClaim.holds_of_wide 6 Try.f6 rfl rfl rfl rfl rfl rfl rfl ⟨rfl, rfl, rfl, rfl, rfl⟩ rfl rfl rfl rfl rfl (by kernel_rfl) Try.func6 (by kernel_rfl)
    (of_decide_eq_true (by kernel_rfl)) (by unfold Func.isWrapper; first | (rw [if_pos (by decide +kernel)]; kernel_rfl) | (rw [if_neg (by decide +kernel)]; exact ⟨rfl, rfl⟩))
    (fun os started H enc _ => lifted os started H enc)

/-- the statement -/
theorem proved : Rows.FnExactSetBlockSaid := over
#print axioms proved
end Go.Proofs.Ytlekgoeibndlcaa.fnExactSetBlock
