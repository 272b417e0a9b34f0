/- For every input the law FnExactFastPred returns true and leaves its arguments as they were; no condition. -/
import Derived.Test.YtnbkkhaahfnlfaaMem
import Derived.Test.YtnbkkhaahfnlfaaFrm
import Derived.Test.YtnbkkhaahfnlfaaFastQ
namespace Go.Proofs.Ytnbkkhaahfnlfaa.fnExactFastPred
open Go.ChangeShapes Go.WideShapes Go.ChangeAt Go.RowKit Go.Joins
set_option linter.unusedVariables false

set_option maxHeartbeats 4000000 in
theorem walk (w : World) (a0 : Int) (w0 : -9223372036854775808 ≤ a0 ∧ a0 ≤ 9223372036854775807) (a1 b1 : Option Addr) (c1 d1 : Nat) (l1 m1 : List Int) (r1 : Row w a1 l1) (s1 : Row w b1 m1) (w1 : ∀ x ∈ l1, -9223372036854775808 ≤ x ∧ x ≤ 9223372036854775807) (u1 : ∀ x ∈ m1, -9223372036854775808 ≤ x ∧ x ≤ 9223372036854775807) (C1 : Int) (wC1 : -9223372036854775808 ≤ C1 ∧ C1 ≤ 9223372036854775807) (T1 L1 : Bool) (n1 : l1.length ≤ 9223372036854775807) (o1 : m1.length ≤ 9223372036854775807) (a2 : Int) (w2 : -9223372036854775808 ≤ a2 ∧ a2 ≤ 9223372036854775807) :
    Calls Try.prog 9 #[.int .i64 a0, .agg #[.slice a1 l1.length c1, .slice b1 m1.length d1, .int .i64 C1, .bool T1, .bool L1], .int .i64 a2] w fun e w' => e = .returned (.bool true) ∧ Below w.heap.size w w' := by
  have bt : Below w.heap.size w w := Below.refl _ _
  by_cases hs1 : l1.length + m1.length ≤ 1048576
  · have hb1 : l1.length ≤ 1048576 := by omega
    have hl1 : l1.length ≤ 1099511627776 := by omega
    have hc1 : m1.length ≤ 1048576 := by omega
    have hm1 : m1.length ≤ 1099511627776 := by omega
    go_enter Try.func9, Try.ntmps9
    have HL0 := Lib.hid (predLF_len _ _ _ _ _ _ _ : (predLF l1 m1 C1 T1 L1 a0 a2).length ≤ 1048576)
    go_wp2_with fail
    obtain ⟨vo1, hv1⟩ : ∃ T, T = (w.alloc (.cells #[.slice a1 l1.length c1, .slice b1 m1.length d1, .int .i64 C1, .bool T1, .bool L1] 24)) := ⟨_, rfl⟩
    rw [← hv1]
    have bv1 : Below w.heap.size w vo1 := by rw [hv1]; exact ((Below.refl _ _).alloc (Nat.le_refl _) _)
    have si1 : w.heap.size + 1 ≤ vo1.heap.size := by rw [hv1]; simp
    have bx1_0 : Box5 vo1 w.heap.size (.slice a1 l1.length c1) (.slice b1 m1.length d1) (.int .i64 C1) (.bool T1) (.bool L1) := by rw [hv1]; exact ⟨by first | (simp; done) | (simp; omega), by simp, by simp, by simp, by simp, by simp⟩
    clear hv1
    replace bt := bt.trans (bv1.mono bt.size)
    clear bv1
    refine (szNb_c _ _ l1 _ _ m1 C1 T1 L1 1048576 _ (by omega) (by omega) (by omega)).mono ?_
    rintro e wo2 ⟨rfl, be2⟩
    replace bx1_0 := bx1_0.below be2 (Nat.le_refl _)
    replace bt := bt.trans (be2.mono bt.size)
    have si2 := be2.size
    clear be2
    have bxc := bx1_0
    obtain ⟨_, cx1_0_0, cx1_0_1, cx1_0_2, cx1_0_3, cx1_0_4⟩ := bxc
    go_wp2_with fail
    clear cx1_0_0 cx1_0_1 cx1_0_2 cx1_0_3 cx1_0_4
    refine (toNb_c _ _ l1 _ _ m1 C1 T1 L1 _ hb1 (r1.below bt (Nat.le_refl _)) hc1 (s1.below bt (Nat.le_refl _))).mono ?_
    rintro e wo3 ⟨xx3, yy3, zz3, vv3, rfl, ow3, ox3, on3, be3⟩
    replace bx1_0 := bx1_0.below be3 (Nat.le_refl _)
    replace bt := bt.trans (be3.mono bt.size)
    have si3 := be3.size
    clear be3
    replace on3 := Lib.hid on3
    have Uow3 := Lib.hid (fun p hp => (ow3.lt p hp).2)
    have Uox3 := Lib.hid (fun p hp => (ox3.lt p hp).2)
    have bxc := bx1_0
    obtain ⟨_, cx1_0_0, cx1_0_1, cx1_0_2, cx1_0_3, cx1_0_4⟩ := bxc
    go_wp2_with fail
    clear cx1_0_0 cx1_0_1 cx1_0_2 cx1_0_3 cx1_0_4
    refine (spec.FastPred_c a0 _ _ l1 _ _ m1 C1 T1 L1 a2 _ hl1 ow3.row w1 hm1 ox3.row u1 wC1 ow3.cap ox3.cap).mono ?_
    rintro e wo4 ⟨xx4, yy4, rfl, ow4, be4⟩
    replace ow3 := ow3.below be4 (Nat.le_refl _)
    replace ox3 := ox3.below be4 (Nat.le_refl _)
    replace bx1_0 := bx1_0.below be4 (Nat.le_refl _)
    replace bt := bt.trans (be4.mono bt.size)
    have si4 := be4.size
    clear be4
    have Uow4 := Lib.hid (fun p hp => (ow4.lt p hp).2)
    have bxc := bx1_0
    obtain ⟨_, cx1_0_0, cx1_0_1, cx1_0_2, cx1_0_3, cx1_0_4⟩ := bxc
    go_wp2_with fail
    clear cx1_0_0 cx1_0_1 cx1_0_2 cx1_0_3 cx1_0_4
    refine (toNb_c _ _ l1 _ _ m1 C1 T1 L1 _ hb1 (r1.below bt (Nat.le_refl _)) hc1 (s1.below bt (Nat.le_refl _))).mono ?_
    rintro e wo5 ⟨xx5, yy5, zz5, vv5, rfl, ow5, ox5, on5, be5⟩
    replace ow3 := ow3.below be5 (Nat.le_refl _)
    replace ox3 := ox3.below be5 (Nat.le_refl _)
    replace ow4 := ow4.below be5 (Nat.le_refl _)
    replace bx1_0 := bx1_0.below be5 (Nat.le_refl _)
    replace bt := bt.trans (be5.mono bt.size)
    have si5 := be5.size
    clear be5
    replace on5 := Lib.hid on5
    have Uow5 := Lib.hid (fun p hp => (ow5.lt p hp).2)
    have Uox5 := Lib.hid (fun p hp => (ox5.lt p hp).2)
    have bxc := bx1_0
    obtain ⟨_, cx1_0_0, cx1_0_1, cx1_0_2, cx1_0_3, cx1_0_4⟩ := bxc
    go_wp2_with fail
    clear cx1_0_0 cx1_0_1 cx1_0_2 cx1_0_3 cx1_0_4
    obtain ⟨vo6, hv6⟩ : ∃ T, T = (wo5.alloc (.cells #[.slice xx5 (l1).length yy5, .slice zz5 (m1).length vv5, .int .i64 (C1), .bool (T1), .bool (L1)] 27)) := ⟨_, rfl⟩
    rw [← hv6]
    have bv6 : Below wo5.heap.size wo5 vo6 := by rw [hv6]; exact ((Below.refl _ _).alloc (Nat.le_refl _) _)
    have si6 : wo5.heap.size + 1 ≤ vo6.heap.size := by rw [hv6]; simp
    have bx6_0 : Box5 vo6 wo5.heap.size (.slice xx5 (l1).length yy5) (.slice zz5 (m1).length vv5) (.int .i64 (C1)) (.bool (T1)) (.bool (L1)) := by rw [hv6]; exact ⟨by first | (simp; done) | (simp; omega), by simp, by simp, by simp, by simp, by simp⟩
    clear hv6
    replace ow3 := ow3.below bv6 (Nat.le_refl _)
    replace ox3 := ox3.below bv6 (Nat.le_refl _)
    replace ow4 := ow4.below bv6 (Nat.le_refl _)
    replace ow5 := ow5.below bv6 (Nat.le_refl _)
    replace ox5 := ox5.below bv6 (Nat.le_refl _)
    replace bx1_0 := bx1_0.below bv6 (Nat.le_refl _)
    replace bt := bt.trans (bv6.mono bt.size)
    clear bv6
    refine (impl.FastPred_c a0 _ _ l1 _ _ m1 C1 T1 L1 a2 _ hl1 ow5.row w1 hm1 ox5.row u1 wC1 ow5.cap ox5.cap).mono ?_
    rintro e wo7 ⟨xx7, yy7, rfl, ow7, be7⟩
    replace ow3 := ow3.below be7 (Nat.le_refl _)
    replace ox3 := ox3.below be7 (Nat.le_refl _)
    replace ow4 := ow4.below be7 (Nat.le_refl _)
    replace ow5 := ow5.below be7 (Nat.le_refl _)
    replace ox5 := ox5.below be7 (Nat.le_refl _)
    replace bx1_0 := bx1_0.below be7 (Nat.le_refl _)
    replace bx6_0 := bx6_0.below be7 (Nat.le_refl _)
    replace bt := bt.trans (be7.mono bt.size)
    have si7 := be7.size
    clear be7
    have Uow7 := Lib.hid (fun p hp => (ow7.lt p hp).2)
    have bxc := bx1_0
    obtain ⟨_, cx1_0_0, cx1_0_1, cx1_0_2, cx1_0_3, cx1_0_4⟩ := bxc
    have bxc := bx6_0
    obtain ⟨_, cx6_0_0, cx6_0_1, cx6_0_2, cx6_0_3, cx6_0_4⟩ := bxc
    go_wp2_with fail
    clear cx1_0_0 cx1_0_1 cx1_0_2 cx1_0_3 cx1_0_4 cx6_0_0 cx6_0_1 cx6_0_2 cx6_0_3 cx6_0_4
    refine (eqIntS_t _ _ _ _ (predLF l1 m1 C1 T1 L1 a0 a2) _ (by have := HL0.out; omega) ow7.row ow4.row).mono ?_
    rintro e wo8 ⟨rfl, be8⟩
    replace ow3 := ow3.below be8 (Nat.le_refl _)
    replace ox3 := ox3.below be8 (Nat.le_refl _)
    replace ow4 := ow4.below be8 (Nat.le_refl _)
    replace ow5 := ow5.below be8 (Nat.le_refl _)
    replace ox5 := ox5.below be8 (Nat.le_refl _)
    replace ow7 := ow7.below be8 (Nat.le_refl _)
    replace bx1_0 := bx1_0.below be8 (Nat.le_refl _)
    replace bx6_0 := bx6_0.below be8 (Nat.le_refl _)
    replace bt := bt.trans (be8.mono bt.size)
    have si8 := be8.size
    clear be8
    have bxc := bx1_0
    obtain ⟨_, cx1_0_0, cx1_0_1, cx1_0_2, cx1_0_3, cx1_0_4⟩ := bxc
    have bxc := bx6_0
    obtain ⟨_, cx6_0_0, cx6_0_1, cx6_0_2, cx6_0_3, cx6_0_4⟩ := bxc
    go_wp2_with fail
    clear cx1_0_0 cx1_0_1 cx1_0_2 cx1_0_3 cx1_0_4 cx6_0_0 cx6_0_1 cx6_0_2 cx6_0_3 cx6_0_4
    have bxc := bx6_0
    obtain ⟨hlbcx6_0_0, cx6_0_0, cx6_0_1, cx6_0_2, cx6_0_3, cx6_0_4⟩ := bxc
    have bxc := bx1_0
    obtain ⟨hlbcx1_0_0, cx1_0_0, cx1_0_1, cx1_0_2, cx1_0_3, cx1_0_4⟩ := bxc
    go_region_held3 (fun w' => w'.cell? ⟨wo5.heap.size, 0, none⟩ = some (.slice xx5 (l1).length yy5) ∧ w'.cell? ⟨wo5.heap.size, 1, none⟩ = some (.slice zz5 (m1).length vv5) ∧ w'.cell? ⟨wo5.heap.size, 2, none⟩ = some (.int .i64 (C1)) ∧ w'.cell? ⟨wo5.heap.size, 3, none⟩ = some (.bool (T1)) ∧ w'.cell? ⟨wo5.heap.size, 4, none⟩ = some (.bool (L1)) ∧ w'.cell? ⟨w.heap.size, 0, none⟩ = some (.slice a1 l1.length c1) ∧ w'.cell? ⟨w.heap.size, 1, none⟩ = some (.slice b1 m1.length d1) ∧ w'.cell? ⟨w.heap.size, 2, none⟩ = some (.int .i64 C1) ∧ w'.cell? ⟨w.heap.size, 3, none⟩ = some (.bool T1) ∧ w'.cell? ⟨w.heap.size, 4, none⟩ = some (.bool L1)) (first | exact ⟨bx6_0.2.1, bx6_0.2.2.1, bx6_0.2.2.2.1, bx6_0.2.2.2.2.1, bx6_0.2.2.2.2.2, bx1_0.2.1, bx1_0.2.2.1, bx1_0.2.2.2.1, bx1_0.2.2.2.2.1, bx1_0.2.2.2.2.2⟩ | go_keep)
      ((first
        | (go_at_call 12; with_reducible refine (toNb_c _ _ l1 _ _ m1 C1 T1 L1 _ hb1 (r1.below bt (Nat.le_refl _)).drew hc1 (s1.below bt (Nat.le_refl _)).drew).mono ?_
           rintro e wo9 ⟨xx9, yy9, zz9, vv9, rfl, ow9, ox9, _, be9⟩
           replace ow3 := ow3.drew.below be9 (Nat.le_refl _)
           replace ox3 := ox3.drew.below be9 (Nat.le_refl _)
           replace ow4 := ow4.drew.below be9 (Nat.le_refl _)
           replace ow5 := ow5.drew.below be9 (Nat.le_refl _)
           replace ox5 := ox5.drew.below be9 (Nat.le_refl _)
           replace ow7 := ow7.drew.below be9 (Nat.le_refl _)
           replace bx1_0 := bx1_0.drew.below be9 (Nat.le_refl _)
           replace bx6_0 := bx6_0.drew.below be9 (Nat.le_refl _)
           replace bt := (bt.drew).trans (be9.mono bt.size)
           have si9 := be9.size
           have hcw9 := bcell be9)
        | (go_at_call 14; with_reducible refine (eqNb_t _ _ _ _ _ _ _ _ (l1) (m1) (C1) (T1) (L1) _ (by have := hb1; omega) (by have := hc1; omega) ow5.row ow9.row ox5.row ox9.row).mono ?_
           rintro e wo10 ⟨rfl, be10⟩
           replace ow3 := ow3.below be10 (Nat.le_refl _)
           replace ox3 := ox3.below be10 (Nat.le_refl _)
           replace ow4 := ow4.below be10 (Nat.le_refl _)
           replace ow5 := ow5.below be10 (Nat.le_refl _)
           replace ox5 := ox5.below be10 (Nat.le_refl _)
           replace ow7 := ow7.below be10 (Nat.le_refl _)
           replace bx1_0 := bx1_0.below be10 (Nat.le_refl _)
           replace bx6_0 := bx6_0.below be10 (Nat.le_refl _)
           replace bt := (bt).trans (be10.mono bt.size)
           have si10 := be10.size
           have hcw10 := bcell be10)))
    clear hlbcx6_0_0 cx6_0_0 cx6_0_1 cx6_0_2 cx6_0_3 cx6_0_4 hlbcx1_0_0 cx1_0_0 cx1_0_1 cx1_0_2 cx1_0_3 cx1_0_4 hcw9 be9 hcw10 be10
    have bxc := bx1_0
    obtain ⟨_, cx1_0_0, cx1_0_1, cx1_0_2, cx1_0_3, cx1_0_4⟩ := bxc
    have bxc := bx6_0
    obtain ⟨_, cx6_0_0, cx6_0_1, cx6_0_2, cx6_0_3, cx6_0_4⟩ := bxc
    go_wp2_with fail
    clear cx1_0_0 cx1_0_1 cx1_0_2 cx1_0_3 cx1_0_4 cx6_0_0 cx6_0_1 cx6_0_2 cx6_0_3 cx6_0_4
    refine (markNb_c _ _ _ _ (l1) _ _ (m1) (C1) (T1) (L1) 1 _ (by have := hb1; have := hc1; omega) (by have := hb1; have := hc1; omega) (by have := hb1; have := hc1; omega) (by have := hb1; have := hc1; omega) ow5 ox5 on5.out).mono ?_
    rintro e wo11 ⟨rfl, qo11, qp11, kg11⟩
    replace ow3 := ow3.grown2 kg11 (ne_up (N := wo4.heap.size) (fun p hp => Nat.lt_of_lt_of_le (Uow3.out p hp) (by omega)) (ow5.ge (Nat.le_refl _))) (ne_up (N := wo4.heap.size) (fun p hp => Nat.lt_of_lt_of_le (Uow3.out p hp) (by omega)) (ox5.ge (Nat.le_refl _)))
    replace ox3 := ox3.grown2 kg11 (ne_up (N := wo4.heap.size) (fun p hp => Nat.lt_of_lt_of_le (Uox3.out p hp) (by omega)) (ow5.ge (Nat.le_refl _))) (ne_up (N := wo4.heap.size) (fun p hp => Nat.lt_of_lt_of_le (Uox3.out p hp) (by omega)) (ox5.ge (Nat.le_refl _)))
    replace ow4 := ow4.grown2 kg11 (ne_up (N := wo4.heap.size) (fun p hp => Nat.lt_of_lt_of_le (Uow4.out p hp) (by omega)) (ow5.ge (Nat.le_refl _))) (ne_up (N := wo4.heap.size) (fun p hp => Nat.lt_of_lt_of_le (Uow4.out p hp) (by omega)) (ox5.ge (Nat.le_refl _)))
    replace ow7 := ow7.grown2 kg11 (ne_down (ow7.ge (Nat.le_refl _)) (fun p hp => Nat.lt_of_lt_of_le (Uow5.out p hp) (by omega))) (ne_down (ow7.ge (Nat.le_refl _)) (fun p hp => Nat.lt_of_lt_of_le (Uox5.out p hp) (by omega)))
    replace bx1_0 := bx1_0.grown2 kg11 (fun p hp => by have := ow5.ge (K := wo4.heap.size) (Nat.le_refl _) p hp; omega) (fun p hp => by have := ox5.ge (K := wo4.heap.size) (Nat.le_refl _) p hp; omega)
    replace bx6_0 := bx6_0.grown2 kg11 (fun p hp => by have := Uow5.out p hp; omega) (fun p hp => by have := Uox5.out p hp; omega)
    replace bt := below_mark2 bt kg11 bt.size (ow5.ge (by omega)) (ox5.ge (by omega))
    have si11 := kg11.size
    clear kg11
    replace ow5 := qo11
    clear qo11
    replace ox5 := qp11
    clear qp11
    have bxc := bx1_0
    obtain ⟨_, cx1_0_0, cx1_0_1, cx1_0_2, cx1_0_3, cx1_0_4⟩ := bxc
    have bxc := bx6_0
    obtain ⟨_, cx6_0_0, cx6_0_1, cx6_0_2, cx6_0_3, cx6_0_4⟩ := bxc
    go_wp2_with fail
    clear cx1_0_0 cx1_0_1 cx1_0_2 cx1_0_3 cx1_0_4 cx6_0_0 cx6_0_1 cx6_0_2 cx6_0_3 cx6_0_4
    refine (eqIntS_t _ _ _ _ (predLF l1 m1 C1 T1 L1 a0 a2) _ (by have := HL0.out; omega) ow7.row ow4.row).mono ?_
    rintro e wo12 ⟨rfl, be12⟩
    replace ow3 := ow3.below be12 (Nat.le_refl _)
    replace ox3 := ox3.below be12 (Nat.le_refl _)
    replace ow4 := ow4.below be12 (Nat.le_refl _)
    replace ow5 := ow5.below be12 (Nat.le_refl _)
    replace ox5 := ox5.below be12 (Nat.le_refl _)
    replace ow7 := ow7.below be12 (Nat.le_refl _)
    replace bx1_0 := bx1_0.below be12 (Nat.le_refl _)
    replace bx6_0 := bx6_0.below be12 (Nat.le_refl _)
    replace bt := bt.trans (be12.mono bt.size)
    have si12 := be12.size
    clear be12
    have bxc := bx1_0
    obtain ⟨_, cx1_0_0, cx1_0_1, cx1_0_2, cx1_0_3, cx1_0_4⟩ := bxc
    have bxc := bx6_0
    obtain ⟨_, cx6_0_0, cx6_0_1, cx6_0_2, cx6_0_3, cx6_0_4⟩ := bxc
    go_wp2_with fail
    clear cx1_0_0 cx1_0_1 cx1_0_2 cx1_0_3 cx1_0_4 cx6_0_0 cx6_0_1 cx6_0_2 cx6_0_3 cx6_0_4
    refine (markIntS_c _ _ _ (predLF l1 m1 C1 T1 L1 a0 a2) 1 _ (by have := HL0.out; omega) (by have := HL0.out; omega) (by have := HL0.out; omega) ow7).mono ?_
    rintro e wo13 ⟨rfl, qo13, kg13⟩
    replace ow3 := ow3.grown kg13 (ne_up (N := vo6.heap.size) (fun p hp => Nat.lt_of_lt_of_le (Uow3.out p hp) (by omega)) (ow7.ge (Nat.le_refl _)))
    replace ox3 := ox3.grown kg13 (ne_up (N := vo6.heap.size) (fun p hp => Nat.lt_of_lt_of_le (Uox3.out p hp) (by omega)) (ow7.ge (Nat.le_refl _)))
    replace ow4 := ow4.grown kg13 (ne_up (N := vo6.heap.size) (fun p hp => Nat.lt_of_lt_of_le (Uow4.out p hp) (by omega)) (ow7.ge (Nat.le_refl _)))
    replace ow5 := ow5.grown kg13 (ne_up (N := vo6.heap.size) (fun p hp => Nat.lt_of_lt_of_le (Uow5.out p hp) (by omega)) (ow7.ge (Nat.le_refl _)))
    replace ox5 := ox5.grown kg13 (ne_up (N := vo6.heap.size) (fun p hp => Nat.lt_of_lt_of_le (Uox5.out p hp) (by omega)) (ow7.ge (Nat.le_refl _)))
    replace bx1_0 := bx1_0.grown kg13 (fun p hp => by have := ow7.ge (K := vo6.heap.size) (Nat.le_refl _) p hp; omega)
    replace bx6_0 := bx6_0.grown kg13 (fun p hp => by have := ow7.ge (K := vo6.heap.size) (Nat.le_refl _) p hp; omega)
    replace bt := below_mark bt kg13 bt.size (ow7.ge (by omega))
    have si13 := kg13.size
    clear kg13
    replace ow7 := qo13
    clear qo13
    have bxc := bx1_0
    obtain ⟨_, cx1_0_0, cx1_0_1, cx1_0_2, cx1_0_3, cx1_0_4⟩ := bxc
    have bxc := bx6_0
    obtain ⟨_, cx6_0_0, cx6_0_1, cx6_0_2, cx6_0_3, cx6_0_4⟩ := bxc
    go_wp2_with fail
    clear cx1_0_0 cx1_0_1 cx1_0_2 cx1_0_3 cx1_0_4 cx6_0_0 cx6_0_1 cx6_0_2 cx6_0_3 cx6_0_4
    refine (heldIntS_b _ _ (predLF l1 m1 C1 T1 L1 a0 a2).length 1 _ (by have := HL0.out; omega) (by omega) (by omega) ow7.row).mono ?_
    rintro e wo14 ⟨rfl, be14⟩
    replace ow3 := ow3.below be14 (Nat.le_refl _)
    replace ox3 := ox3.below be14 (Nat.le_refl _)
    replace ow4 := ow4.below be14 (Nat.le_refl _)
    replace ow5 := ow5.below be14 (Nat.le_refl _)
    replace ox5 := ox5.below be14 (Nat.le_refl _)
    replace ow7 := ow7.below be14 (Nat.le_refl _)
    replace bx1_0 := bx1_0.below be14 (Nat.le_refl _)
    replace bx6_0 := bx6_0.below be14 (Nat.le_refl _)
    replace bt := bt.trans (be14.mono bt.size)
    have si14 := be14.size
    clear be14
    have bxc := bx1_0
    obtain ⟨_, cx1_0_0, cx1_0_1, cx1_0_2, cx1_0_3, cx1_0_4⟩ := bxc
    have bxc := bx6_0
    obtain ⟨_, cx6_0_0, cx6_0_1, cx6_0_2, cx6_0_3, cx6_0_4⟩ := bxc
    go_wp2_with fail
    clear cx1_0_0 cx1_0_1 cx1_0_2 cx1_0_3 cx1_0_4 cx6_0_0 cx6_0_1 cx6_0_2 cx6_0_3 cx6_0_4
    refine (toNb_c _ _ l1 _ _ m1 C1 T1 L1 _ hb1 (r1.below bt (Nat.le_refl _)) hc1 (s1.below bt (Nat.le_refl _))).mono ?_
    rintro e wo15 ⟨xx15, yy15, zz15, vv15, rfl, ow15, ox15, on15, be15⟩
    replace ow3 := ow3.below be15 (Nat.le_refl _)
    replace ox3 := ox3.below be15 (Nat.le_refl _)
    replace ow4 := ow4.below be15 (Nat.le_refl _)
    replace ow5 := ow5.below be15 (Nat.le_refl _)
    replace ox5 := ox5.below be15 (Nat.le_refl _)
    replace ow7 := ow7.below be15 (Nat.le_refl _)
    replace bx1_0 := bx1_0.below be15 (Nat.le_refl _)
    replace bx6_0 := bx6_0.below be15 (Nat.le_refl _)
    replace bt := bt.trans (be15.mono bt.size)
    have si15 := be15.size
    clear be15
    replace on15 := Lib.hid on15
    have Uow15 := Lib.hid (fun p hp => (ow15.lt p hp).2)
    have Uox15 := Lib.hid (fun p hp => (ox15.lt p hp).2)
    have bxc := bx1_0
    obtain ⟨_, cx1_0_0, cx1_0_1, cx1_0_2, cx1_0_3, cx1_0_4⟩ := bxc
    have bxc := bx6_0
    obtain ⟨_, cx6_0_0, cx6_0_1, cx6_0_2, cx6_0_3, cx6_0_4⟩ := bxc
    go_wp2_with fail
    clear cx1_0_0 cx1_0_1 cx1_0_2 cx1_0_3 cx1_0_4 cx6_0_0 cx6_0_1 cx6_0_2 cx6_0_3 cx6_0_4
    refine (impl.FastPred_c a0 _ _ l1 _ _ m1 C1 T1 L1 a2 _ hl1 ow15.row w1 hm1 ox15.row u1 wC1 ow15.cap ox15.cap).mono ?_
    rintro e wo16 ⟨xx16, yy16, rfl, ow16, be16⟩
    replace ow3 := ow3.below be16 (Nat.le_refl _)
    replace ox3 := ox3.below be16 (Nat.le_refl _)
    replace ow4 := ow4.below be16 (Nat.le_refl _)
    replace ow5 := ow5.below be16 (Nat.le_refl _)
    replace ox5 := ox5.below be16 (Nat.le_refl _)
    replace ow7 := ow7.below be16 (Nat.le_refl _)
    replace ow15 := ow15.below be16 (Nat.le_refl _)
    replace ox15 := ox15.below be16 (Nat.le_refl _)
    replace bx1_0 := bx1_0.below be16 (Nat.le_refl _)
    replace bx6_0 := bx6_0.below be16 (Nat.le_refl _)
    replace bt := bt.trans (be16.mono bt.size)
    have si16 := be16.size
    clear be16
    have Uow16 := Lib.hid (fun p hp => (ow16.lt p hp).2)
    have bxc := bx1_0
    obtain ⟨_, cx1_0_0, cx1_0_1, cx1_0_2, cx1_0_3, cx1_0_4⟩ := bxc
    have bxc := bx6_0
    obtain ⟨_, cx6_0_0, cx6_0_1, cx6_0_2, cx6_0_3, cx6_0_4⟩ := bxc
    go_wp2_with fail
    clear cx1_0_0 cx1_0_1 cx1_0_2 cx1_0_3 cx1_0_4 cx6_0_0 cx6_0_1 cx6_0_2 cx6_0_3 cx6_0_4
    refine (eqIntS_t _ _ _ _ (predLF l1 m1 C1 T1 L1 a0 a2) _ (by have := HL0.out; omega) ow16.row ow4.row).mono ?_
    rintro e wo17 ⟨rfl, be17⟩
    replace ow3 := ow3.below be17 (Nat.le_refl _)
    replace ox3 := ox3.below be17 (Nat.le_refl _)
    replace ow4 := ow4.below be17 (Nat.le_refl _)
    replace ow5 := ow5.below be17 (Nat.le_refl _)
    replace ox5 := ox5.below be17 (Nat.le_refl _)
    replace ow7 := ow7.below be17 (Nat.le_refl _)
    replace ow15 := ow15.below be17 (Nat.le_refl _)
    replace ox15 := ox15.below be17 (Nat.le_refl _)
    replace ow16 := ow16.below be17 (Nat.le_refl _)
    replace bx1_0 := bx1_0.below be17 (Nat.le_refl _)
    replace bx6_0 := bx6_0.below be17 (Nat.le_refl _)
    replace bt := bt.trans (be17.mono bt.size)
    have si17 := be17.size
    clear be17
    have bxc := bx1_0
    obtain ⟨_, cx1_0_0, cx1_0_1, cx1_0_2, cx1_0_3, cx1_0_4⟩ := bxc
    have bxc := bx6_0
    obtain ⟨_, cx6_0_0, cx6_0_1, cx6_0_2, cx6_0_3, cx6_0_4⟩ := bxc
    go_wp2_with fail
    clear cx1_0_0 cx1_0_1 cx1_0_2 cx1_0_3 cx1_0_4 cx6_0_0 cx6_0_1 cx6_0_2 cx6_0_3 cx6_0_4
    refine (heldIntS_b _ _ (predLF l1 m1 C1 T1 L1 a0 a2).length 1 _ (by have := HL0.out; omega) (by omega) (by omega) ow7.row).mono ?_
    rintro e wo18 ⟨rfl, be18⟩
    replace ow3 := ow3.below be18 (Nat.le_refl _)
    replace ox3 := ox3.below be18 (Nat.le_refl _)
    replace ow4 := ow4.below be18 (Nat.le_refl _)
    replace ow5 := ow5.below be18 (Nat.le_refl _)
    replace ox5 := ox5.below be18 (Nat.le_refl _)
    replace ow7 := ow7.below be18 (Nat.le_refl _)
    replace ow15 := ow15.below be18 (Nat.le_refl _)
    replace ox15 := ox15.below be18 (Nat.le_refl _)
    replace ow16 := ow16.below be18 (Nat.le_refl _)
    replace bx1_0 := bx1_0.below be18 (Nat.le_refl _)
    replace bx6_0 := bx6_0.below be18 (Nat.le_refl _)
    replace bt := bt.trans (be18.mono bt.size)
    have si18 := be18.size
    clear be18
    go_wp2
    go_ret
    exact ⟨rfl, bt⟩
  · have hxx : ¬ (l1.length + m1.length ≤ 1048576) := by assumption
    go_enter Try.func9, Try.ntmps9
    go_wp2_with fail
    obtain ⟨vo901, hv901⟩ : ∃ T, T = (w.alloc (.cells #[.slice a1 l1.length c1, .slice b1 m1.length d1, .int .i64 C1, .bool T1, .bool L1] 24)) := ⟨_, rfl⟩
    rw [← hv901]
    have bv901 : Below w.heap.size w vo901 := by rw [hv901]; exact ((Below.refl _ _).alloc (Nat.le_refl _) _)
    have si901 : w.heap.size + 1 ≤ vo901.heap.size := by rw [hv901]; simp
    have bx901_0 : Box5 vo901 w.heap.size (.slice a1 l1.length c1) (.slice b1 m1.length d1) (.int .i64 C1) (.bool T1) (.bool L1) := by rw [hv901]; exact ⟨by first | (simp; done) | (simp; omega), by simp, by simp, by simp, by simp, by simp⟩
    clear hv901
    replace bt := bt.trans (bv901.mono bt.size)
    clear bv901
    refine (szNb_x _ _ l1 _ _ m1 C1 T1 L1 1048576 _ (by omega) (by omega) (by omega) n1 o1).mono ?_
    rintro e wo902 ⟨rfl, be902⟩
    replace bx901_0 := bx901_0.below be902 (Nat.le_refl _)
    replace bt := bt.trans (be902.mono bt.size)
    have si902 := be902.size
    clear be902
    go_wp2
    go_ret
    exact ⟨rfl, bt⟩

theorem own : ownKnob Try.prog.godebug = none := by kernel_rfl
theorem laidOut : laidOutB Try.prog = true := by kernel_rfl
set_option maxRecDepth 100000 in
theorem lifted (os : Os) (started : os.Started) (H : Type) (enc : TypeId × Value → H) :
    ReturnsInHanded {} Try.checked os 9 .any (Rows.fnExactFastPredSpec.pre6 enc Try.prog Try.f9 Rows.fnExactFastPredRow.domain false) (Rows.fnExactFastPredSpec.post enc Try.prog Try.f9 false true false false) := by
  refine returnsInHanded_of_change (C := Try.checked) own started (by kernel_rfl) Try.func9
    (ChangeSpec.witness6 (enc := enc) (C := Try.checked) false ⟨#[], #[.int .i64 0, .agg #[.slice none 0 0, .slice none 0 0, .int .i64 0, .bool false, .bool false], .int .i64 0], []⟩ 8 (by kernel_rfl) (by kernel_rfl) (by kernel_rfl) (by kernel_rfl)) ?_
  intro W base args ds gs before hval0 hW hcnd _
  have hval : ∀ (j : Nat) t v, Try.f9.params[j]? = some t → args[j]? = some v → Value.okWide Try.prog W .any base t v := hval0
  have hW' := hW
  obtain ⟨p, q, hA0, hV, rfl, hfz, hnd⟩ := hW
  have hA : DataW.TrodAll enc Try.prog W 0 (fun _ => true) true Try.f9.params.toList args.toList ds p := hA0
  rw [Try.params9] at hA hval
  obtain ⟨v0, vs0, d0, ds0, p0, q0, hargs, rfl, rfl, h0, tr0⟩ := trodAll_cons hA
  obtain ⟨v1, vs1, d1, ds1, p1, q1, rfl, rfl, rfl, h1, tr1⟩ := trodAll_cons tr0
  obtain ⟨v2, vs2, d2, ds2, p2, q2, rfl, rfl, rfl, h2, tr2⟩ := trodAll_cons tr1
  obtain ⟨rfl, rfl, rfl⟩ := trodAll_nil tr2
  obtain rfl : args = #[v0, v1, v2] := by cases args; simp_all
  obtain ⟨rfl, rfl⟩ := trodVars_none hV
  have k0 := h0
  have lt0 : ∀ x ∈ p0, x.block < W.heap.size := by obtain ⟨m, hm⟩ := k0; exact DataW.trod_lt m _ _ _ hm
  have k1 := h1
  have lt1 : ∀ x ∈ p1, x.block < W.heap.size := by obtain ⟨m, hm⟩ := k1; exact DataW.trod_lt m _ _ _ hm
  have k2 := h2
  have lt2 : ∀ x ∈ p2, x.block < W.heap.size := by obtain ⟨m, hm⟩ := k2; exact DataW.trod_lt m _ _ _ hm
  obtain ⟨a0, rfl, rfl, rfl, w0⟩ := open_int Try.underlying3 (hval 0 3 v0 rfl rfl) h0
  obtain ⟨p10, p11, p12, p13, p14, y10, y11, y12, y13, y14, fu1, rfl, rfl, _, hy10, hy11, hy12, hy13, hy14⟩ := open_agg_five Try.underlying24 (by kernel_rfl) (by kernel_rfl) (hval 1 24 v1 rfl rfl) h1
  obtain ⟨a1, c1, l1, r1, w1, n1, rfl⟩ := cell_ints Try.underlying22 Try.underlying3 (by kernel_rfl) hy10
  obtain ⟨b1, d1, m1, s1, u1, o1, rfl⟩ := cell_ints Try.underlying22 Try.underlying3 (by kernel_rfl) hy11
  obtain ⟨C1, wC1, rfl⟩ := cell_int Try.underlying3 hy12
  obtain ⟨T1, rfl⟩ := cell_bool Try.underlying4 hy13
  obtain ⟨L1, rfl⟩ := cell_bool Try.underlying4 hy14
  obtain ⟨a2, rfl, rfl, rfl, w2⟩ := open_int Try.underlying3 (hval 2 3 v2 rfl rfl) h2
  clear hA0 hval0
  refine (walk W a0 (wf_i64 w0) a1 b1 c1 d1 l1 m1 r1 s1 w1 u1 C1 wC1 T1 L1 n1 o1 a2 (wf_i64 w2)).mono fun e W' ⟨he, bel⟩ => ?_
  subst he
  exact ⟨_, rfl, _, _, _, [], _, [], hW', trodAll_mk1 (shut_bool Try.underlying4 _), (trodAll_cons_mk (Below.trod laidOut (by kernel_rfl) (of_decide_eq_true (by kernel_rfl)) k0 bel lt0) (trodAll_cons_mk (Below.trod laidOut (by kernel_rfl) (of_decide_eq_true (by kernel_rfl)) k1 bel lt1) (trodAll_cons_mk (Below.trod laidOut (by kernel_rfl) (of_decide_eq_true (by kernel_rfl)) k2 bel lt2) trodAll_mk0))), rfl, bel.frame _, fun h => by cases h⟩

theorem over : Rows.fnExactFastPredRow.holds Try.pinned (OpenSpec.ofChange Rows.fnExactFastPredSpec) :=
  OpenClaim.holds_of_wide 9 Try.f9 rfl rfl rfl rfl rfl rfl rfl ⟨rfl, rfl, rfl, rfl, rfl⟩ rfl rfl rfl rfl rfl (by kernel_rfl) Try.func9 (by kernel_rfl)
    (of_decide_eq_true (by kernel_rfl)) (by unfold Func.isWrapper; first | (rw [if_pos (by decide +kernel)]; kernel_rfl) | (rw [if_neg (by decide +kernel)]; exact ⟨rfl, rfl⟩))
    (fun os started H enc _ => lifted os started H enc)

/-- the statement -/
theorem proved : Rows.FnExactFastPredSaid := over
#print axioms proved
end Go.Proofs.Ytnbkkhaahfnlfaa.fnExactFastPred
