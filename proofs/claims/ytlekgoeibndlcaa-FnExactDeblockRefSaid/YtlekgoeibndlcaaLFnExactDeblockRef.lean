/- For every input the law FnExactDeblockRef returns true and leaves its arguments as they were; no condition. -/
import Derived.Test.YtlekgoeibndlcaaMem
import Derived.Test.YtlekgoeibndlcaaFrm
import Derived.Test.YtlekgoeibndlcaaDebC
namespace Go.Proofs.Ytlekgoeibndlcaa.fnExactDeblockRef
open Go.ChangeShapes Go.WideShapes Go.ChangeAt Go.RowKit Go.Joins
set_option linter.unusedVariables false

set_option maxHeartbeats 4000000 in
theorem walk (w : World) (W0 H0 : Int) (wW0 : -9223372036854775808 ≤ W0 ∧ W0 ≤ 9223372036854775807) (wH0 : -9223372036854775808 ≤ H0 ∧ H0 ≤ 9223372036854775807) (a0 : Option Addr) (c0 : Nat) (l0 : List Int) (r0 : Row w a0 l0) (w0 : ∀ x ∈ l0, -9223372036854775808 ≤ x ∧ x ≤ 9223372036854775807) (n0 : l0.length ≤ 9223372036854775807) (a1 : Int) (w1 : -9223372036854775808 ≤ a1 ∧ a1 ≤ 9223372036854775807) :
    Calls Try.prog 10 #[.agg #[.int .i64 W0, .int .i64 H0, .slice a0 l0.length c0], .int .i64 a1] w fun e w' => e = .returned (.bool true) ∧ Below w.heap.size w w' := by
  have bt : Below w.heap.size w w := Below.refl _ _
  by_cases hs0 : l0.length ≤ 1048576
  · have hb0 : l0.length ≤ 1048576 := by omega
    have hl0 : l0.length ≤ 1099511627776 := by omega
    go_enter Try.func10, Try.ntmps10
    have HL0 := Lib.hid (Nat.le_trans (Nat.le_of_eq (debV_len _ _ _ _)) hb0 : (debV W0 H0 l0 a1).length ≤ 1048576)
    go_wp2_with fail
    obtain ⟨vo1, hv1⟩ : ∃ T, T = (w.alloc (.cells #[.int .i64 W0, .int .i64 H0, .slice a0 l0.length c0] 24)) := ⟨_, rfl⟩
    rw [← hv1]
    have bv1 : Below w.heap.size w vo1 := by rw [hv1]; exact ((Below.refl _ _).alloc (Nat.le_refl _) _)
    have si1 : w.heap.size + 1 ≤ vo1.heap.size := by rw [hv1]; simp
    have bx1_0 : Box3 vo1 w.heap.size (.int .i64 W0) (.int .i64 H0) (.slice a0 l0.length c0) := by rw [hv1]; exact ⟨by first | (simp; done) | (simp; omega), by simp, by simp, by simp⟩
    clear hv1
    replace bt := bt.trans (bv1.mono bt.size)
    clear bv1
    refine (szFrame_c W0 H0 _ _ l0 1048576 _ (by omega) (by omega) (by omega)).mono ?_
    rintro e wo2 ⟨rfl, be2⟩
    replace bx1_0 := bx1_0.below be2 (Nat.le_refl _)
    replace bt := bt.trans (be2.mono bt.size)
    have si2 := be2.size
    clear be2
    have bxc := bx1_0
    obtain ⟨_, cx1_0_0, cx1_0_1, cx1_0_2⟩ := bxc
    go_wp2_with fail
    clear cx1_0_0 cx1_0_1 cx1_0_2
    refine (toFrame_c W0 H0 _ _ l0 _ hb0 (r0.below bt (Nat.le_refl _))).mono ?_
    rintro e wo3 ⟨xx3, yy3, rfl, ow3, be3⟩
    replace bx1_0 := bx1_0.below be3 (Nat.le_refl _)
    replace bt := bt.trans (be3.mono bt.size)
    have si3 := be3.size
    clear be3
    have Uow3 := Lib.hid (fun p hp => (ow3.lt p hp).2)
    have bxc := bx1_0
    obtain ⟨_, cx1_0_0, cx1_0_1, cx1_0_2⟩ := bxc
    go_wp2_with fail
    clear cx1_0_0 cx1_0_1 cx1_0_2
    refine (spec.DeblockRef_c W0 H0 _ _ l0 a1 _ wW0 wH0 hl0 ow3.row w0 ow3.shape).mono ?_
    rintro e wo4 ⟨xx4, yy4, rfl, ow4, be4⟩
    replace ow3 := ow3.below be4 (Nat.le_refl _)
    replace bx1_0 := bx1_0.below be4 (Nat.le_refl _)
    replace bt := bt.trans (be4.mono bt.size)
    have si4 := be4.size
    clear be4
    have Uow4 := Lib.hid (fun p hp => (ow4.lt p hp).2)
    have bxc := bx1_0
    obtain ⟨_, cx1_0_0, cx1_0_1, cx1_0_2⟩ := bxc
    go_wp2_with fail
    clear cx1_0_0 cx1_0_1 cx1_0_2
    obtain ⟨vo5, hv5⟩ : ∃ T, T = (wo4.alloc (.cells #[.int .i64 (W0), .int .i64 (H0), .slice xx4 (debV W0 H0 l0 a1).length yy4] 27)) := ⟨_, rfl⟩
    rw [← hv5]
    have bv5 : Below wo4.heap.size wo4 vo5 := by rw [hv5]; exact ((Below.refl _ _).alloc (Nat.le_refl _) _)
    have si5 : wo4.heap.size + 1 ≤ vo5.heap.size := by rw [hv5]; simp
    have bx5_0 : Box3 vo5 wo4.heap.size (.int .i64 (W0)) (.int .i64 (H0)) (.slice xx4 (debV W0 H0 l0 a1).length yy4) := by rw [hv5]; exact ⟨by first | (simp; done) | (simp; omega), by simp, by simp, by simp⟩
    clear hv5
    replace ow3 := ow3.below bv5 (Nat.le_refl _)
    replace ow4 := ow4.below bv5 (Nat.le_refl _)
    replace bx1_0 := bx1_0.below bv5 (Nat.le_refl _)
    replace bt := bt.trans (bv5.mono bt.size)
    clear bv5
    refine (toFrame_c W0 H0 _ _ l0 _ hb0 (r0.below bt (Nat.le_refl _))).mono ?_
    rintro e wo6 ⟨xx6, yy6, rfl, ow6, be6⟩
    replace ow3 := ow3.below be6 (Nat.le_refl _)
    replace ow4 := ow4.below be6 (Nat.le_refl _)
    replace bx1_0 := bx1_0.below be6 (Nat.le_refl _)
    replace bx5_0 := bx5_0.below be6 (Nat.le_refl _)
    replace bt := bt.trans (be6.mono bt.size)
    have si6 := be6.size
    clear be6
    have Uow6 := Lib.hid (fun p hp => (ow6.lt p hp).2)
    have bxc := bx1_0
    obtain ⟨_, cx1_0_0, cx1_0_1, cx1_0_2⟩ := bxc
    have bxc := bx5_0
    obtain ⟨_, cx5_0_0, cx5_0_1, cx5_0_2⟩ := bxc
    go_wp2_with fail
    clear cx1_0_0 cx1_0_1 cx1_0_2 cx5_0_0 cx5_0_1 cx5_0_2
    obtain ⟨vo7, hv7⟩ : ∃ T, T = (wo6.alloc (.cells #[.int .i64 (W0), .int .i64 (H0), .slice xx6 (l0).length yy6] 27)) := ⟨_, rfl⟩
    rw [← hv7]
    have bv7 : Below wo6.heap.size wo6 vo7 := by rw [hv7]; exact ((Below.refl _ _).alloc (Nat.le_refl _) _)
    have si7 : wo6.heap.size + 1 ≤ vo7.heap.size := by rw [hv7]; simp
    have bx7_0 : Box3 vo7 wo6.heap.size (.int .i64 (W0)) (.int .i64 (H0)) (.slice xx6 (l0).length yy6) := by rw [hv7]; exact ⟨by first | (simp; done) | (simp; omega), by simp, by simp, by simp⟩
    clear hv7
    replace ow3 := ow3.below bv7 (Nat.le_refl _)
    replace ow4 := ow4.below bv7 (Nat.le_refl _)
    replace ow6 := ow6.below bv7 (Nat.le_refl _)
    replace bx1_0 := bx1_0.below bv7 (Nat.le_refl _)
    replace bx5_0 := bx5_0.below bv7 (Nat.le_refl _)
    replace bt := bt.trans (bv7.mono bt.size)
    clear bv7
    refine (impl.DeblockRef_c W0 H0 _ _ l0 a1 _ wW0 wH0 hl0 ow6.row w0).mono ?_
    rintro e wo8 ⟨xx8, yy8, rfl, ow8, be8⟩
    replace ow3 := ow3.below be8 (Nat.le_refl _)
    replace ow4 := ow4.below be8 (Nat.le_refl _)
    replace ow6 := ow6.below be8 (Nat.le_refl _)
    replace bx1_0 := bx1_0.below be8 (Nat.le_refl _)
    replace bx5_0 := bx5_0.below be8 (Nat.le_refl _)
    replace bx7_0 := bx7_0.below be8 (Nat.le_refl _)
    replace bt := bt.trans (be8.mono bt.size)
    have si8 := be8.size
    clear be8
    have Uow8 := Lib.hid (fun p hp => (ow8.lt p hp).2)
    have bxc := bx1_0
    obtain ⟨_, cx1_0_0, cx1_0_1, cx1_0_2⟩ := bxc
    have bxc := bx5_0
    obtain ⟨_, cx5_0_0, cx5_0_1, cx5_0_2⟩ := bxc
    have bxc := bx7_0
    obtain ⟨_, cx7_0_0, cx7_0_1, cx7_0_2⟩ := bxc
    go_wp2_with fail
    clear cx1_0_0 cx1_0_1 cx1_0_2 cx5_0_0 cx5_0_1 cx5_0_2 cx7_0_0 cx7_0_1 cx7_0_2
    obtain ⟨vo9, hv9⟩ : ∃ T, T = (wo8.alloc (.cells #[.int .i64 (W0), .int .i64 (H0), .slice xx8 (debV W0 H0 l0 a1).length yy8] 27)) := ⟨_, rfl⟩
    rw [← hv9]
    have bv9 : Below wo8.heap.size wo8 vo9 := by rw [hv9]; exact ((Below.refl _ _).alloc (Nat.le_refl _) _)
    have si9 : wo8.heap.size + 1 ≤ vo9.heap.size := by rw [hv9]; simp
    have bx9_0 : Box3 vo9 wo8.heap.size (.int .i64 (W0)) (.int .i64 (H0)) (.slice xx8 (debV W0 H0 l0 a1).length yy8) := by rw [hv9]; exact ⟨by first | (simp; done) | (simp; omega), by simp, by simp, by simp⟩
    clear hv9
    replace ow3 := ow3.below bv9 (Nat.le_refl _)
    replace ow4 := ow4.below bv9 (Nat.le_refl _)
    replace ow6 := ow6.below bv9 (Nat.le_refl _)
    replace ow8 := ow8.below bv9 (Nat.le_refl _)
    replace bx1_0 := bx1_0.below bv9 (Nat.le_refl _)
    replace bx5_0 := bx5_0.below bv9 (Nat.le_refl _)
    replace bx7_0 := bx7_0.below bv9 (Nat.le_refl _)
    replace bt := bt.trans (bv9.mono bt.size)
    clear bv9
    refine (eqFrame_t (W0) (H0) _ _ _ _ (debV W0 H0 l0 a1) _ (by have := HL0.out; omega) ow8.row ow4.row).mono ?_
    rintro e wo10 ⟨rfl, be10⟩
    replace ow3 := ow3.below be10 (Nat.le_refl _)
    replace ow4 := ow4.below be10 (Nat.le_refl _)
    replace ow6 := ow6.below be10 (Nat.le_refl _)
    replace ow8 := ow8.below be10 (Nat.le_refl _)
    replace bx1_0 := bx1_0.below be10 (Nat.le_refl _)
    replace bx5_0 := bx5_0.below be10 (Nat.le_refl _)
    replace bx7_0 := bx7_0.below be10 (Nat.le_refl _)
    replace bx9_0 := bx9_0.below be10 (Nat.le_refl _)
    replace bt := bt.trans (be10.mono bt.size)
    have si10 := be10.size
    clear be10
    have bxc := bx1_0
    obtain ⟨_, cx1_0_0, cx1_0_1, cx1_0_2⟩ := bxc
    have bxc := bx5_0
    obtain ⟨_, cx5_0_0, cx5_0_1, cx5_0_2⟩ := bxc
    have bxc := bx7_0
    obtain ⟨_, cx7_0_0, cx7_0_1, cx7_0_2⟩ := bxc
    have bxc := bx9_0
    obtain ⟨_, cx9_0_0, cx9_0_1, cx9_0_2⟩ := bxc
    go_wp2_with fail
    clear cx1_0_0 cx1_0_1 cx1_0_2 cx5_0_0 cx5_0_1 cx5_0_2 cx7_0_0 cx7_0_1 cx7_0_2 cx9_0_0 cx9_0_1 cx9_0_2
    have bxc := bx7_0
    obtain ⟨hlbcx7_0_0, cx7_0_0, cx7_0_1, cx7_0_2⟩ := bxc
    have bxc := bx1_0
    obtain ⟨hlbcx1_0_0, cx1_0_0, cx1_0_1, cx1_0_2⟩ := bxc
    go_region_held3 (fun w' => w'.cell? ⟨wo6.heap.size, 0, none⟩ = some (.int .i64 (W0)) ∧ w'.cell? ⟨wo6.heap.size, 1, none⟩ = some (.int .i64 (H0)) ∧ w'.cell? ⟨wo6.heap.size, 2, none⟩ = some (.slice xx6 (l0).length yy6) ∧ w'.cell? ⟨w.heap.size, 0, none⟩ = some (.int .i64 W0) ∧ w'.cell? ⟨w.heap.size, 1, none⟩ = some (.int .i64 H0) ∧ w'.cell? ⟨w.heap.size, 2, none⟩ = some (.slice a0 l0.length c0)) (first | exact ⟨bx7_0.2.1, bx7_0.2.2.1, bx7_0.2.2.2, bx1_0.2.1, bx1_0.2.2.1, bx1_0.2.2.2⟩ | go_keep)
      ((first
        | (go_at_call 13; with_reducible refine (toFrame_c W0 H0 _ _ l0 _ hb0 (r0.below bt (Nat.le_refl _)).drew).mono ?_
           rintro e wo11 ⟨xx11, yy11, rfl, ow11, be11⟩
           replace ow3 := ow3.drew.below be11 (Nat.le_refl _)
           replace ow4 := ow4.drew.below be11 (Nat.le_refl _)
           replace ow6 := ow6.drew.below be11 (Nat.le_refl _)
           replace ow8 := ow8.drew.below be11 (Nat.le_refl _)
           replace bx1_0 := bx1_0.drew.below be11 (Nat.le_refl _)
           replace bx5_0 := bx5_0.drew.below be11 (Nat.le_refl _)
           replace bx7_0 := bx7_0.drew.below be11 (Nat.le_refl _)
           replace bx9_0 := bx9_0.drew.below be11 (Nat.le_refl _)
           replace bt := (bt.drew).trans (be11.mono bt.size)
           have si11 := be11.size
           have hcw11 := bcell be11)
        | (go_at_call 15; with_reducible refine (eqFrame_t (W0) (H0) _ _ _ _ (l0) _ (by have := hb0; omega) ow6.row ow11.row).mono ?_
           rintro e wo12 ⟨rfl, be12⟩
           replace ow3 := ow3.below be12 (Nat.le_refl _)
           replace ow4 := ow4.below be12 (Nat.le_refl _)
           replace ow6 := ow6.below be12 (Nat.le_refl _)
           replace ow8 := ow8.below be12 (Nat.le_refl _)
           replace bx1_0 := bx1_0.below be12 (Nat.le_refl _)
           replace bx5_0 := bx5_0.below be12 (Nat.le_refl _)
           replace bx7_0 := bx7_0.below be12 (Nat.le_refl _)
           replace bx9_0 := bx9_0.below be12 (Nat.le_refl _)
           replace bt := (bt).trans (be12.mono bt.size)
           have si12 := be12.size
           have hcw12 := bcell be12)))
    clear hlbcx7_0_0 cx7_0_0 cx7_0_1 cx7_0_2 hlbcx1_0_0 cx1_0_0 cx1_0_1 cx1_0_2 hcw11 be11 hcw12 be12
    have bxc := bx1_0
    obtain ⟨_, cx1_0_0, cx1_0_1, cx1_0_2⟩ := bxc
    have bxc := bx5_0
    obtain ⟨_, cx5_0_0, cx5_0_1, cx5_0_2⟩ := bxc
    have bxc := bx7_0
    obtain ⟨_, cx7_0_0, cx7_0_1, cx7_0_2⟩ := bxc
    have bxc := bx9_0
    obtain ⟨_, cx9_0_0, cx9_0_1, cx9_0_2⟩ := bxc
    go_wp2_with fail
    clear cx1_0_0 cx1_0_1 cx1_0_2 cx5_0_0 cx5_0_1 cx5_0_2 cx7_0_0 cx7_0_1 cx7_0_2 cx9_0_0 cx9_0_1 cx9_0_2
    refine (markFrame_c _ (W0) (H0) _ _ (l0) 1 _ (by have := hb0; omega) (by have := hb0; omega) (by have := hb0; omega) ow6).mono ?_
    rintro e wo13 ⟨rfl, qo13, kg13⟩
    replace ow3 := ow3.grown kg13 (ne_up (N := vo5.heap.size) (fun p hp => Nat.lt_of_lt_of_le (Uow3.out p hp) (by omega)) (ow6.ge (Nat.le_refl _)))
    replace ow4 := ow4.grown kg13 (ne_up (N := vo5.heap.size) (fun p hp => Nat.lt_of_lt_of_le (Uow4.out p hp) (by omega)) (ow6.ge (Nat.le_refl _)))
    replace ow8 := ow8.grown kg13 (ne_down (ow8.ge (Nat.le_refl _)) (fun p hp => Nat.lt_of_lt_of_le (Uow6.out p hp) (by omega)))
    replace bx1_0 := bx1_0.grown kg13 (fun p hp => by have := ow6.ge (K := vo5.heap.size) (Nat.le_refl _) p hp; omega)
    replace bx5_0 := bx5_0.grown kg13 (fun p hp => by have := ow6.ge (K := vo5.heap.size) (Nat.le_refl _) p hp; omega)
    replace bx7_0 := bx7_0.grown kg13 (fun p hp => by have := Uow6.out p hp; omega)
    replace bx9_0 := bx9_0.grown kg13 (fun p hp => by have := Uow6.out p hp; omega)
    replace bt := below_mark bt kg13 bt.size (ow6.ge (by omega))
    have si13 := kg13.size
    clear kg13
    replace ow6 := qo13
    clear qo13
    have bxc := bx1_0
    obtain ⟨_, cx1_0_0, cx1_0_1, cx1_0_2⟩ := bxc
    have bxc := bx5_0
    obtain ⟨_, cx5_0_0, cx5_0_1, cx5_0_2⟩ := bxc
    have bxc := bx7_0
    obtain ⟨_, cx7_0_0, cx7_0_1, cx7_0_2⟩ := bxc
    have bxc := bx9_0
    obtain ⟨_, cx9_0_0, cx9_0_1, cx9_0_2⟩ := bxc
    go_wp2_with fail
    clear cx1_0_0 cx1_0_1 cx1_0_2 cx5_0_0 cx5_0_1 cx5_0_2 cx7_0_0 cx7_0_1 cx7_0_2 cx9_0_0 cx9_0_1 cx9_0_2
    refine (eqFrame_t (W0) (H0) _ _ _ _ (debV W0 H0 l0 a1) _ (by have := HL0.out; omega) ow8.row ow4.row).mono ?_
    rintro e wo14 ⟨rfl, be14⟩
    replace ow3 := ow3.below be14 (Nat.le_refl _)
    replace ow4 := ow4.below be14 (Nat.le_refl _)
    replace ow6 := ow6.below be14 (Nat.le_refl _)
    replace ow8 := ow8.below be14 (Nat.le_refl _)
    replace bx1_0 := bx1_0.below be14 (Nat.le_refl _)
    replace bx5_0 := bx5_0.below be14 (Nat.le_refl _)
    replace bx7_0 := bx7_0.below be14 (Nat.le_refl _)
    replace bx9_0 := bx9_0.below be14 (Nat.le_refl _)
    replace bt := bt.trans (be14.mono bt.size)
    have si14 := be14.size
    clear be14
    have bxc := bx1_0
    obtain ⟨_, cx1_0_0, cx1_0_1, cx1_0_2⟩ := bxc
    have bxc := bx5_0
    obtain ⟨_, cx5_0_0, cx5_0_1, cx5_0_2⟩ := bxc
    have bxc := bx7_0
    obtain ⟨_, cx7_0_0, cx7_0_1, cx7_0_2⟩ := bxc
    have bxc := bx9_0
    obtain ⟨_, cx9_0_0, cx9_0_1, cx9_0_2⟩ := bxc
    go_wp2_with fail
    clear cx1_0_0 cx1_0_1 cx1_0_2 cx5_0_0 cx5_0_1 cx5_0_2 cx7_0_0 cx7_0_1 cx7_0_2 cx9_0_0 cx9_0_1 cx9_0_2
    refine (markFrame_c _ (W0) (H0) _ _ (debV W0 H0 l0 a1) 1 _ (by have := HL0.out; omega) (by have := HL0.out; omega) (by have := HL0.out; omega) ow8).mono ?_
    rintro e wo15 ⟨rfl, qo15, kg15⟩
    replace ow3 := ow3.grown kg15 (ne_up (N := vo7.heap.size) (fun p hp => Nat.lt_of_lt_of_le (Uow3.out p hp) (by omega)) (ow8.ge (Nat.le_refl _)))
    replace ow4 := ow4.grown kg15 (ne_up (N := vo7.heap.size) (fun p hp => Nat.lt_of_lt_of_le (Uow4.out p hp) (by omega)) (ow8.ge (Nat.le_refl _)))
    replace ow6 := ow6.grown kg15 (ne_up (N := vo7.heap.size) (fun p hp => Nat.lt_of_lt_of_le (Uow6.out p hp) (by omega)) (ow8.ge (Nat.le_refl _)))
    replace bx1_0 := bx1_0.grown kg15 (fun p hp => by have := ow8.ge (K := vo7.heap.size) (Nat.le_refl _) p hp; omega)
    replace bx5_0 := bx5_0.grown kg15 (fun p hp => by have := ow8.ge (K := vo7.heap.size) (Nat.le_refl _) p hp; omega)
    replace bx7_0 := bx7_0.grown kg15 (fun p hp => by have := ow8.ge (K := vo7.heap.size) (Nat.le_refl _) p hp; omega)
    replace bx9_0 := bx9_0.grown kg15 (fun p hp => by have := Uow8.out p hp; omega)
    replace bt := below_mark bt kg15 bt.size (ow8.ge (by omega))
    have si15 := kg15.size
    clear kg15
    replace ow8 := qo15
    clear qo15
    have bxc := bx1_0
    obtain ⟨_, cx1_0_0, cx1_0_1, cx1_0_2⟩ := bxc
    have bxc := bx5_0
    obtain ⟨_, cx5_0_0, cx5_0_1, cx5_0_2⟩ := bxc
    have bxc := bx7_0
    obtain ⟨_, cx7_0_0, cx7_0_1, cx7_0_2⟩ := bxc
    have bxc := bx9_0
    obtain ⟨_, cx9_0_0, cx9_0_1, cx9_0_2⟩ := bxc
    go_wp2_with fail
    clear cx1_0_0 cx1_0_1 cx1_0_2 cx5_0_0 cx5_0_1 cx5_0_2 cx7_0_0 cx7_0_1 cx7_0_2 cx9_0_0 cx9_0_1 cx9_0_2
    refine (heldFrame_b (W0) (H0) _ _ (debV W0 H0 l0 a1).length 1 _ (by have := HL0.out; omega) (by omega) (by omega) ow8.row).mono ?_
    rintro e wo16 ⟨rfl, be16⟩
    replace ow3 := ow3.below be16 (Nat.le_refl _)
    replace ow4 := ow4.below be16 (Nat.le_refl _)
    replace ow6 := ow6.below be16 (Nat.le_refl _)
    replace ow8 := ow8.below be16 (Nat.le_refl _)
    replace bx1_0 := bx1_0.below be16 (Nat.le_refl _)
    replace bx5_0 := bx5_0.below be16 (Nat.le_refl _)
    replace bx7_0 := bx7_0.below be16 (Nat.le_refl _)
    replace bx9_0 := bx9_0.below be16 (Nat.le_refl _)
    replace bt := bt.trans (be16.mono bt.size)
    have si16 := be16.size
    clear be16
    have bxc := bx1_0
    obtain ⟨_, cx1_0_0, cx1_0_1, cx1_0_2⟩ := bxc
    have bxc := bx5_0
    obtain ⟨_, cx5_0_0, cx5_0_1, cx5_0_2⟩ := bxc
    have bxc := bx7_0
    obtain ⟨_, cx7_0_0, cx7_0_1, cx7_0_2⟩ := bxc
    have bxc := bx9_0
    obtain ⟨_, cx9_0_0, cx9_0_1, cx9_0_2⟩ := bxc
    go_wp2_with fail
    clear cx1_0_0 cx1_0_1 cx1_0_2 cx5_0_0 cx5_0_1 cx5_0_2 cx7_0_0 cx7_0_1 cx7_0_2 cx9_0_0 cx9_0_1 cx9_0_2
    refine (toFrame_c W0 H0 _ _ l0 _ hb0 (r0.below bt (Nat.le_refl _))).mono ?_
    rintro e wo17 ⟨xx17, yy17, rfl, ow17, be17⟩
    replace ow3 := ow3.below be17 (Nat.le_refl _)
    replace ow4 := ow4.below be17 (Nat.le_refl _)
    replace ow6 := ow6.below be17 (Nat.le_refl _)
    replace ow8 := ow8.below be17 (Nat.le_refl _)
    replace bx1_0 := bx1_0.below be17 (Nat.le_refl _)
    replace bx5_0 := bx5_0.below be17 (Nat.le_refl _)
    replace bx7_0 := bx7_0.below be17 (Nat.le_refl _)
    replace bx9_0 := bx9_0.below be17 (Nat.le_refl _)
    replace bt := bt.trans (be17.mono bt.size)
    have si17 := be17.size
    clear be17
    have Uow17 := Lib.hid (fun p hp => (ow17.lt p hp).2)
    have bxc := bx1_0
    obtain ⟨_, cx1_0_0, cx1_0_1, cx1_0_2⟩ := bxc
    have bxc := bx5_0
    obtain ⟨_, cx5_0_0, cx5_0_1, cx5_0_2⟩ := bxc
    have bxc := bx7_0
    obtain ⟨_, cx7_0_0, cx7_0_1, cx7_0_2⟩ := bxc
    have bxc := bx9_0
    obtain ⟨_, cx9_0_0, cx9_0_1, cx9_0_2⟩ := bxc
    go_wp2_with fail
    clear cx1_0_0 cx1_0_1 cx1_0_2 cx5_0_0 cx5_0_1 cx5_0_2 cx7_0_0 cx7_0_1 cx7_0_2 cx9_0_0 cx9_0_1 cx9_0_2
    refine (impl.DeblockRef_c W0 H0 _ _ l0 a1 _ wW0 wH0 hl0 ow17.row w0).mono ?_
    rintro e wo18 ⟨xx18, yy18, rfl, ow18, be18⟩
    replace ow3 := ow3.below be18 (Nat.le_refl _)
    replace ow4 := ow4.below be18 (Nat.le_refl _)
    replace ow6 := ow6.below be18 (Nat.le_refl _)
    replace ow8 := ow8.below be18 (Nat.le_refl _)
    replace ow17 := ow17.below be18 (Nat.le_refl _)
    replace bx1_0 := bx1_0.below be18 (Nat.le_refl _)
    replace bx5_0 := bx5_0.below be18 (Nat.le_refl _)
    replace bx7_0 := bx7_0.below be18 (Nat.le_refl _)
    replace bx9_0 := bx9_0.below be18 (Nat.le_refl _)
    replace bt := bt.trans (be18.mono bt.size)
    have si18 := be18.size
    clear be18
    have Uow18 := Lib.hid (fun p hp => (ow18.lt p hp).2)
    have bxc := bx1_0
    obtain ⟨_, cx1_0_0, cx1_0_1, cx1_0_2⟩ := bxc
    have bxc := bx5_0
    obtain ⟨_, cx5_0_0, cx5_0_1, cx5_0_2⟩ := bxc
    have bxc := bx7_0
    obtain ⟨_, cx7_0_0, cx7_0_1, cx7_0_2⟩ := bxc
    have bxc := bx9_0
    obtain ⟨_, cx9_0_0, cx9_0_1, cx9_0_2⟩ := bxc
    go_wp2_with fail
    clear cx1_0_0 cx1_0_1 cx1_0_2 cx5_0_0 cx5_0_1 cx5_0_2 cx7_0_0 cx7_0_1 cx7_0_2 cx9_0_0 cx9_0_1 cx9_0_2
    obtain ⟨vo19, hv19⟩ : ∃ T, T = (wo18.alloc (.cells #[.int .i64 (W0), .int .i64 (H0), .slice xx18 (debV W0 H0 l0 a1).length yy18] 27)) := ⟨_, rfl⟩
    rw [← hv19]
    have bv19 : Below wo18.heap.size wo18 vo19 := by rw [hv19]; exact ((Below.refl _ _).alloc (Nat.le_refl _) _)
    have si19 : wo18.heap.size + 1 ≤ vo19.heap.size := by rw [hv19]; simp
    have bx19_0 : Box3 vo19 wo18.heap.size (.int .i64 (W0)) (.int .i64 (H0)) (.slice xx18 (debV W0 H0 l0 a1).length yy18) := by rw [hv19]; exact ⟨by first | (simp; done) | (simp; omega), by simp, by simp, by simp⟩
    clear hv19
    replace ow3 := ow3.below bv19 (Nat.le_refl _)
    replace ow4 := ow4.below bv19 (Nat.le_refl _)
    replace ow6 := ow6.below bv19 (Nat.le_refl _)
    replace ow8 := ow8.below bv19 (Nat.le_refl _)
    replace ow17 := ow17.below bv19 (Nat.le_refl _)
    replace ow18 := ow18.below bv19 (Nat.le_refl _)
    replace bx1_0 := bx1_0.below bv19 (Nat.le_refl _)
    replace bx5_0 := bx5_0.below bv19 (Nat.le_refl _)
    replace bx7_0 := bx7_0.below bv19 (Nat.le_refl _)
    replace bx9_0 := bx9_0.below bv19 (Nat.le_refl _)
    replace bt := bt.trans (bv19.mono bt.size)
    clear bv19
    refine (eqFrame_t (W0) (H0) _ _ _ _ (debV W0 H0 l0 a1) _ (by have := HL0.out; omega) ow18.row ow4.row).mono ?_
    rintro e wo20 ⟨rfl, be20⟩
    replace ow3 := ow3.below be20 (Nat.le_refl _)
    replace ow4 := ow4.below be20 (Nat.le_refl _)
    replace ow6 := ow6.below be20 (Nat.le_refl _)
    replace ow8 := ow8.below be20 (Nat.le_refl _)
    replace ow17 := ow17.below be20 (Nat.le_refl _)
    replace ow18 := ow18.below be20 (Nat.le_refl _)
    replace bx1_0 := bx1_0.below be20 (Nat.le_refl _)
    replace bx5_0 := bx5_0.below be20 (Nat.le_refl _)
    replace bx7_0 := bx7_0.below be20 (Nat.le_refl _)
    replace bx9_0 := bx9_0.below be20 (Nat.le_refl _)
    replace bx19_0 := bx19_0.below be20 (Nat.le_refl _)
    replace bt := bt.trans (be20.mono bt.size)
    have si20 := be20.size
    clear be20
    have bxc := bx1_0
    obtain ⟨_, cx1_0_0, cx1_0_1, cx1_0_2⟩ := bxc
    have bxc := bx5_0
    obtain ⟨_, cx5_0_0, cx5_0_1, cx5_0_2⟩ := bxc
    have bxc := bx7_0
    obtain ⟨_, cx7_0_0, cx7_0_1, cx7_0_2⟩ := bxc
    have bxc := bx9_0
    obtain ⟨_, cx9_0_0, cx9_0_1, cx9_0_2⟩ := bxc
    have bxc := bx19_0
    obtain ⟨_, cx19_0_0, cx19_0_1, cx19_0_2⟩ := bxc
    go_wp2_with fail
    clear cx1_0_0 cx1_0_1 cx1_0_2 cx5_0_0 cx5_0_1 cx5_0_2 cx7_0_0 cx7_0_1 cx7_0_2 cx9_0_0 cx9_0_1 cx9_0_2 cx19_0_0 cx19_0_1 cx19_0_2
    refine (heldFrame_b (W0) (H0) _ _ (debV W0 H0 l0 a1).length 1 _ (by have := HL0.out; omega) (by omega) (by omega) ow8.row).mono ?_
    rintro e wo21 ⟨rfl, be21⟩
    replace ow3 := ow3.below be21 (Nat.le_refl _)
    replace ow4 := ow4.below be21 (Nat.le_refl _)
    replace ow6 := ow6.below be21 (Nat.le_refl _)
    replace ow8 := ow8.below be21 (Nat.le_refl _)
    replace ow17 := ow17.below be21 (Nat.le_refl _)
    replace ow18 := ow18.below be21 (Nat.le_refl _)
    replace bx1_0 := bx1_0.below be21 (Nat.le_refl _)
    replace bx5_0 := bx5_0.below be21 (Nat.le_refl _)
    replace bx7_0 := bx7_0.below be21 (Nat.le_refl _)
    replace bx9_0 := bx9_0.below be21 (Nat.le_refl _)
    replace bx19_0 := bx19_0.below be21 (Nat.le_refl _)
    replace bt := bt.trans (be21.mono bt.size)
    have si21 := be21.size
    clear be21
    go_wp2
    go_ret
    exact ⟨rfl, bt⟩
  · have hxx : ¬ (l0.length ≤ 1048576) := by assumption
    go_enter Try.func10, Try.ntmps10
    go_wp2_with fail
    obtain ⟨vo901, hv901⟩ : ∃ T, T = (w.alloc (.cells #[.int .i64 W0, .int .i64 H0, .slice a0 l0.length c0] 24)) := ⟨_, rfl⟩
    rw [← hv901]
    have bv901 : Below w.heap.size w vo901 := by rw [hv901]; exact ((Below.refl _ _).alloc (Nat.le_refl _) _)
    have si901 : w.heap.size + 1 ≤ vo901.heap.size := by rw [hv901]; simp
    have bx901_0 : Box3 vo901 w.heap.size (.int .i64 W0) (.int .i64 H0) (.slice a0 l0.length c0) := by rw [hv901]; exact ⟨by first | (simp; done) | (simp; omega), by simp, by simp, by simp⟩
    clear hv901
    replace bt := bt.trans (bv901.mono bt.size)
    clear bv901
    refine (szFrame_x W0 H0 _ _ l0 1048576 _ (by omega) (by omega) (by omega) n0).mono ?_
    rintro e wo902 ⟨rfl, be902⟩
    replace bx901_0 := bx901_0.below be902 (Nat.le_refl _)
    replace bt := bt.trans (be902.mono bt.size)
    have si902 := be902.size
    clear be902
    go_wp2
    go_ret
    exact ⟨rfl, bt⟩

theorem own : ownKnob Try.prog.godebug = none := by kernel_rfl
theorem laidOut : laidOutB Try.prog = true := by kernel_rfl
set_option maxRecDepth 100000 in
theorem lifted (os : Os) (started : os.Started) (H : Type) (enc : TypeId × Value → H) :
    ReturnsInHanded {} Try.checked os 10 .any (Rows.fnExactDeblockRefSpec.pre6 enc Try.prog Try.f10 Rows.fnExactDeblockRefRow.domain false) (Rows.fnExactDeblockRefSpec.post enc Try.prog Try.f10 false true false false) := by
  refine returnsInHanded_of_change (C := Try.checked) own started (by kernel_rfl) Try.func10
    (ChangeSpec.witness6 (enc := enc) (C := Try.checked) false ⟨#[], #[.agg #[.int .i64 0, .int .i64 0, .slice none 0 0], .int .i64 0], []⟩ 8 (by kernel_rfl) (by kernel_rfl) (by kernel_rfl) (by kernel_rfl)) ?_
  intro W base args ds gs before hval0 hW hcnd _
  have hval : ∀ (j : Nat) t v, Try.f10.params[j]? = some t → args[j]? = some v → Value.okWide Try.prog W .any base t v := hval0
  have hW' := hW
  obtain ⟨p, q, hA0, hV, rfl, hfz, hnd⟩ := hW
  have hA : DataW.TrodAll enc Try.prog W 0 (fun _ => true) true Try.f10.params.toList args.toList ds p := hA0
  rw [Try.params10] at hA hval
  obtain ⟨v0, vs0, d0, ds0, p0, q0, hargs, rfl, rfl, h0, tr0⟩ := trodAll_cons hA
  obtain ⟨v1, vs1, d1, ds1, p1, q1, rfl, rfl, rfl, h1, tr1⟩ := trodAll_cons tr0
  obtain ⟨rfl, rfl, rfl⟩ := trodAll_nil tr1
  obtain rfl : args = #[v0, v1] := by cases args; simp_all
  obtain ⟨rfl, rfl⟩ := trodVars_none hV
  have k0 := h0
  have lt0 : ∀ x ∈ p0, x.block < W.heap.size := by obtain ⟨m, hm⟩ := k0; exact DataW.trod_lt m _ _ _ hm
  have k1 := h1
  have lt1 : ∀ x ∈ p1, x.block < W.heap.size := by obtain ⟨m, hm⟩ := k1; exact DataW.trod_lt m _ _ _ hm
  obtain ⟨p00, p01, p02, y00, y01, y02, m0, rfl, rfl, _, hy00, hy01, hy02⟩ := open_agg3 Try.underlying24 (by kernel_rfl) (by kernel_rfl) (hval 0 24 v0 rfl rfl) h0
  obtain ⟨W0, wW0, rfl⟩ := cell_int Try.underlying3 hy00
  obtain ⟨H0, wH0, rfl⟩ := cell_int Try.underlying3 hy01
  obtain ⟨a0, c0, l0, r0, w0, n0, rfl⟩ := cell_ints Try.underlying22 Try.underlying3 (by kernel_rfl) hy02
  obtain ⟨a1, rfl, rfl, rfl, w1⟩ := open_int Try.underlying3 (hval 1 3 v1 rfl rfl) h1
  clear hA0 hval0
  refine (walk W W0 H0 wW0 wH0 a0 c0 l0 r0 w0 n0 a1 (wf_i64 w1)).mono fun e W' ⟨he, bel⟩ => ?_
  subst he
  exact ⟨_, rfl, _, _, _, [], _, [], hW', trodAll_mk1 (shut_bool Try.underlying4 _), (trodAll_cons_mk (Below.trod laidOut (by kernel_rfl) (of_decide_eq_true (by kernel_rfl)) k0 bel lt0) (trodAll_cons_mk (Below.trod laidOut (by kernel_rfl) (of_decide_eq_true (by kernel_rfl)) k1 bel lt1) trodAll_mk0)), rfl, bel.frame _, fun h => by cases h⟩

theorem over : Rows.fnExactDeblockRefRow.holds Try.pinned (OpenSpec.ofChange Rows.fnExactDeblockRefSpec) :=
  OpenClaim.holds_of_wide 10 Try.f10 rfl rfl rfl rfl rfl rfl rfl ⟨rfl, rfl, rfl, rfl, rfl⟩ rfl rfl rfl rfl rfl (by kernel_rfl) Try.func10 (by kernel_rfl)
    (of_decide_eq_true (by kernel_rfl)) (by unfold Func.isWrapper; first | (rw [if_pos (by decide +kernel)]; kernel_rfl) | (rw [if_neg (by decide +kernel)]; exact ⟨rfl, rfl⟩))
    (fun os started H enc _ => lifted os started H enc)

/-- the statement -/
theorem proved : Rows.FnExactDeblockRefSaid := over
#print axioms proved
end Go.Proofs.Ytlekgoeibndlcaa.fnExactDeblockRef
