/- For every input the law FnExactResidual returns true and leaves its arguments as they were; no condition. -/
import Derived.Test.YtnfmdbiminoneaaMem
import Derived.Test.YtnfmdbiminoneaaFrm
import Derived.Test.YtnfmdbiminoneaaRec2
namespace Go.Proofs.Ytnfmdbiminoneaa.fnExactResidual
open Go.ChangeShapes Go.WideShapes Go.ChangeAt Go.RowKit Go.Joins
set_option linter.unusedVariables false

set_option maxHeartbeats 4000000 in
theorem walk (w : World) (a0 : Option Addr) (c0 : Nat) (l0 : List Int) (r0 : Row w a0 l0) (w0 : ∀ x ∈ l0, -9223372036854775808 ≤ x ∧ x ≤ 9223372036854775807) (a1 : Option Addr) (c1 : Nat) (l1 : List Int) (r1 : Row w a1 l1) (w1 : ∀ x ∈ l1, -9223372036854775808 ≤ x ∧ x ≤ 9223372036854775807) :
    Calls Try.prog 12 #[.slice a0 l0.length c0, .slice a1 l1.length c1] w fun e w' => e = .returned (.bool true) ∧ Below w.heap.size w w' := by
  have bt : Below w.heap.size w w := Below.refl _ _
  by_cases hb0 : l0.length ≤ 1048576
  · have hl0 : l0.length ≤ 1099511627776 := by omega
    by_cases hb1 : l1.length ≤ 1048576
    · have hl1 : l1.length ≤ 1099511627776 := by omega
      go_enter Try.func12, Try.ntmps12
      have HL := Lib.hid (Nat.le_trans (resF_len l0 l1) hb1 : (resF l0 l1).length ≤ 1048576)
      go_wp2_with fail
      refine (toIntS_c _ _ l0 _ hb0 (r0.below bt (Nat.le_refl _))).mono ?_
      rintro e wo1 ⟨gg1, rfl, hgg1, ow1, be1⟩
      replace bt := bt.trans (be1.mono bt.size)
      have si1 := be1.size
      clear be1
      clear hgg1
      have Uow1 := Lib.hid (fun p hp => (ow1.lt p hp).2)
      go_wp2_with fail
      refine (toIntS_c _ _ l1 _ hb1 (r1.below bt (Nat.le_refl _))).mono ?_
      rintro e wo2 ⟨gg2, rfl, hgg2, ow2, be2⟩
      replace ow1 := ow1.below be2 (Nat.le_refl _)
      replace bt := bt.trans (be2.mono bt.size)
      have si2 := be2.size
      clear be2
      clear hgg2
      have Uow2 := Lib.hid (fun p hp => (ow2.lt p hp).2)
      go_wp2_with fail
      refine (spec.Residual_c _ _ l0 _ _ l1 _ hl0 ow1.row w0 hl1 ow2.row w1).mono ?_
      rintro e wo3 ⟨xx3, yy3, rfl, ow3, be3⟩
      replace ow1 := ow1.below be3 (Nat.le_refl _)
      replace ow2 := ow2.below be3 (Nat.le_refl _)
      replace bt := bt.trans (be3.mono bt.size)
      have si3 := be3.size
      clear be3
      have Uow3 := Lib.hid (fun p hp => (ow3.lt p hp).2)
      go_wp2_with fail
      refine (toIntS_c _ _ l0 _ hb0 (r0.below bt (Nat.le_refl _))).mono ?_
      rintro e wo4 ⟨gg4, rfl, hgg4, ow4, be4⟩
      replace ow1 := ow1.below be4 (Nat.le_refl _)
      replace ow2 := ow2.below be4 (Nat.le_refl _)
      replace ow3 := ow3.below be4 (Nat.le_refl _)
      replace bt := bt.trans (be4.mono bt.size)
      have si4 := be4.size
      clear be4
      clear hgg4
      have Uow4 := Lib.hid (fun p hp => (ow4.lt p hp).2)
      go_wp2_with fail
      refine (toIntS_c _ _ l1 _ hb1 (r1.below bt (Nat.le_refl _))).mono ?_
      rintro e wo5 ⟨gg5, rfl, hgg5, ow5, be5⟩
      replace ow1 := ow1.below be5 (Nat.le_refl _)
      replace ow2 := ow2.below be5 (Nat.le_refl _)
      replace ow3 := ow3.below be5 (Nat.le_refl _)
      replace ow4 := ow4.below be5 (Nat.le_refl _)
      replace bt := bt.trans (be5.mono bt.size)
      have si5 := be5.size
      clear be5
      clear hgg5
      have Uow5 := Lib.hid (fun p hp => (ow5.lt p hp).2)
      go_wp2_with fail
      refine (impl.Residual_c _ _ l0 _ _ l1 _ hl0 ow4.row w0 hl1 ow5.row w1).mono ?_
      rintro e wo6 ⟨xx6, yy6, rfl, ow6, be6⟩
      replace ow1 := ow1.below be6 (Nat.le_refl _)
      replace ow2 := ow2.below be6 (Nat.le_refl _)
      replace ow3 := ow3.below be6 (Nat.le_refl _)
      replace ow4 := ow4.below be6 (Nat.le_refl _)
      replace ow5 := ow5.below be6 (Nat.le_refl _)
      replace bt := bt.trans (be6.mono bt.size)
      have si6 := be6.size
      clear be6
      have Uow6 := Lib.hid (fun p hp => (ow6.lt p hp).2)
      go_wp2_with fail
      refine (eqIntS_t _ _ _ _ (resF l0 l1) _ (by have := HL.out; omega) ow6.row ow3.row).mono ?_
      rintro e wo7 ⟨rfl, be7⟩
      replace ow1 := ow1.below be7 (Nat.le_refl _)
      replace ow2 := ow2.below be7 (Nat.le_refl _)
      replace ow3 := ow3.below be7 (Nat.le_refl _)
      replace ow4 := ow4.below be7 (Nat.le_refl _)
      replace ow5 := ow5.below be7 (Nat.le_refl _)
      replace ow6 := ow6.below be7 (Nat.le_refl _)
      replace bt := bt.trans (be7.mono bt.size)
      have si7 := be7.size
      clear be7
      go_wp2_with fail
      refine (toIntS_c _ _ l0 _ hb0 (r0.below bt (Nat.le_refl _))).mono ?_
      rintro e wo8 ⟨gg8, rfl, hgg8, ow8, be8⟩
      replace ow1 := ow1.below be8 (Nat.le_refl _)
      replace ow2 := ow2.below be8 (Nat.le_refl _)
      replace ow3 := ow3.below be8 (Nat.le_refl _)
      replace ow4 := ow4.below be8 (Nat.le_refl _)
      replace ow5 := ow5.below be8 (Nat.le_refl _)
      replace ow6 := ow6.below be8 (Nat.le_refl _)
      replace bt := bt.trans (be8.mono bt.size)
      have si8 := be8.size
      clear be8
      clear hgg8
      have Uow8 := Lib.hid (fun p hp => (ow8.lt p hp).2)
      go_wp2_with fail
      refine (eqIntS_t _ _ _ _ (l0) _ (by have := hb0; omega) ow4.row ow8.row).mono ?_
      rintro e wo9 ⟨rfl, be9⟩
      replace ow1 := ow1.below be9 (Nat.le_refl _)
      replace ow2 := ow2.below be9 (Nat.le_refl _)
      replace ow3 := ow3.below be9 (Nat.le_refl _)
      replace ow4 := ow4.below be9 (Nat.le_refl _)
      replace ow5 := ow5.below be9 (Nat.le_refl _)
      replace ow6 := ow6.below be9 (Nat.le_refl _)
      replace ow8 := ow8.below be9 (Nat.le_refl _)
      replace bt := bt.trans (be9.mono bt.size)
      have si9 := be9.size
      clear be9
      go_wp2_with fail
      refine (toIntS_c _ _ l1 _ hb1 (r1.below bt (Nat.le_refl _))).mono ?_
      rintro e wo10 ⟨gg10, rfl, hgg10, ow10, be10⟩
      replace ow1 := ow1.below be10 (Nat.le_refl _)
      replace ow2 := ow2.below be10 (Nat.le_refl _)
      replace ow3 := ow3.below be10 (Nat.le_refl _)
      replace ow4 := ow4.below be10 (Nat.le_refl _)
      replace ow5 := ow5.below be10 (Nat.le_refl _)
      replace ow6 := ow6.below be10 (Nat.le_refl _)
      replace ow8 := ow8.below be10 (Nat.le_refl _)
      replace bt := bt.trans (be10.mono bt.size)
      have si10 := be10.size
      clear be10
      clear hgg10
      have Uow10 := Lib.hid (fun p hp => (ow10.lt p hp).2)
      go_wp2_with fail
      refine (eqIntS_t _ _ _ _ (l1) _ (by have := hb1; omega) ow5.row ow10.row).mono ?_
      rintro e wo11 ⟨rfl, be11⟩
      replace ow1 := ow1.below be11 (Nat.le_refl _)
      replace ow2 := ow2.below be11 (Nat.le_refl _)
      replace ow3 := ow3.below be11 (Nat.le_refl _)
      replace ow4 := ow4.below be11 (Nat.le_refl _)
      replace ow5 := ow5.below be11 (Nat.le_refl _)
      replace ow6 := ow6.below be11 (Nat.le_refl _)
      replace ow8 := ow8.below be11 (Nat.le_refl _)
      replace ow10 := ow10.below be11 (Nat.le_refl _)
      replace bt := bt.trans (be11.mono bt.size)
      have si11 := be11.size
      clear be11
      go_wp2_with fail
      refine (markIntS_c _ _ _ (l0) 1 _ (by have := hb0; omega) (by have := hb0; omega) (by have := hb0; omega) ow4).mono ?_
      rintro e wo12 ⟨rfl, qo12, kg12⟩
      replace ow1 := ow1.grown kg12 (ne_up (N := wo3.heap.size) (fun p hp => Nat.lt_of_lt_of_le (Uow1.out p hp) (by omega)) (ow4.ge (Nat.le_refl _)))
      replace ow2 := ow2.grown kg12 (ne_up (N := wo3.heap.size) (fun p hp => Nat.lt_of_lt_of_le (Uow2.out p hp) (by omega)) (ow4.ge (Nat.le_refl _)))
      replace ow3 := ow3.grown kg12 (ne_up (N := wo3.heap.size) (fun p hp => Nat.lt_of_lt_of_le (Uow3.out p hp) (by omega)) (ow4.ge (Nat.le_refl _)))
      replace ow5 := ow5.grown kg12 (ne_down (ow5.ge (Nat.le_refl _)) (fun p hp => Nat.lt_of_lt_of_le (Uow4.out p hp) (by omega)))
      replace ow6 := ow6.grown kg12 (ne_down (ow6.ge (Nat.le_refl _)) (fun p hp => Nat.lt_of_lt_of_le (Uow4.out p hp) (by omega)))
      replace ow8 := ow8.grown kg12 (ne_down (ow8.ge (Nat.le_refl _)) (fun p hp => Nat.lt_of_lt_of_le (Uow4.out p hp) (by omega)))
      replace ow10 := ow10.grown kg12 (ne_down (ow10.ge (Nat.le_refl _)) (fun p hp => Nat.lt_of_lt_of_le (Uow4.out p hp) (by omega)))
      replace bt := below_mark bt kg12 bt.size (ow4.ge (by omega))
      have si12 := kg12.size
      clear kg12
      replace ow4 := qo12
      clear qo12
      go_wp2_with fail
      refine (markIntS_c _ _ _ (l1) (1 + ((l0).length : Int)) _ (by have := hb1; omega) (by have := hb1; omega) (by have := hb1; omega) ow5).mono ?_
      rintro e wo13 ⟨rfl, qo13, kg13⟩
      replace ow1 := ow1.grown kg13 (ne_up (N := wo4.heap.size) (fun p hp => Nat.lt_of_lt_of_le (Uow1.out p hp) (by omega)) (ow5.ge (Nat.le_refl _)))
      replace ow2 := ow2.grown kg13 (ne_up (N := wo4.heap.size) (fun p hp => Nat.lt_of_lt_of_le (Uow2.out p hp) (by omega)) (ow5.ge (Nat.le_refl _)))
      replace ow3 := ow3.grown kg13 (ne_up (N := wo4.heap.size) (fun p hp => Nat.lt_of_lt_of_le (Uow3.out p hp) (by omega)) (ow5.ge (Nat.le_refl _)))
      replace ow4 := ow4.grown kg13 (ne_up (N := wo4.heap.size) (fun p hp => Nat.lt_of_lt_of_le (Uow4.out p hp) (by omega)) (ow5.ge (Nat.le_refl _)))
      replace ow6 := ow6.grown kg13 (ne_down (ow6.ge (Nat.le_refl _)) (fun p hp => Nat.lt_of_lt_of_le (Uow5.out p hp) (by omega)))
      replace ow8 := ow8.grown kg13 (ne_down (ow8.ge (Nat.le_refl _)) (fun p hp => Nat.lt_of_lt_of_le (Uow5.out p hp) (by omega)))
      replace ow10 := ow10.grown kg13 (ne_down (ow10.ge (Nat.le_refl _)) (fun p hp => Nat.lt_of_lt_of_le (Uow5.out p hp) (by omega)))
      replace bt := below_mark bt kg13 bt.size (ow5.ge (by omega))
      have si13 := kg13.size
      clear kg13
      replace ow5 := qo13
      clear qo13
      go_wp2_with fail
      refine (eqIntS_t _ _ _ _ (resF l0 l1) _ (by have := HL.out; omega) ow6.row ow3.row).mono ?_
      rintro e wo14 ⟨rfl, be14⟩
      replace ow1 := ow1.below be14 (Nat.le_refl _)
      replace ow2 := ow2.below be14 (Nat.le_refl _)
      replace ow3 := ow3.below be14 (Nat.le_refl _)
      replace ow4 := ow4.below be14 (Nat.le_refl _)
      replace ow5 := ow5.below be14 (Nat.le_refl _)
      replace ow6 := ow6.below be14 (Nat.le_refl _)
      replace ow8 := ow8.below be14 (Nat.le_refl _)
      replace ow10 := ow10.below be14 (Nat.le_refl _)
      replace bt := bt.trans (be14.mono bt.size)
      have si14 := be14.size
      clear be14
      go_wp2_with fail
      refine (markIntS_c _ _ _ (resF l0 l1) 1 _ (by have := HL.out; omega) (by have := HL.out; omega) (by have := HL.out; omega) ow6).mono ?_
      rintro e wo15 ⟨rfl, qo15, kg15⟩
      replace ow1 := ow1.grown kg15 (ne_up (N := wo5.heap.size) (fun p hp => Nat.lt_of_lt_of_le (Uow1.out p hp) (by omega)) (ow6.ge (Nat.le_refl _)))
      replace ow2 := ow2.grown kg15 (ne_up (N := wo5.heap.size) (fun p hp => Nat.lt_of_lt_of_le (Uow2.out p hp) (by omega)) (ow6.ge (Nat.le_refl _)))
      replace ow3 := ow3.grown kg15 (ne_up (N := wo5.heap.size) (fun p hp => Nat.lt_of_lt_of_le (Uow3.out p hp) (by omega)) (ow6.ge (Nat.le_refl _)))
      replace ow4 := ow4.grown kg15 (ne_up (N := wo5.heap.size) (fun p hp => Nat.lt_of_lt_of_le (Uow4.out p hp) (by omega)) (ow6.ge (Nat.le_refl _)))
      replace ow5 := ow5.grown kg15 (ne_up (N := wo5.heap.size) (fun p hp => Nat.lt_of_lt_of_le (Uow5.out p hp) (by omega)) (ow6.ge (Nat.le_refl _)))
      replace ow8 := ow8.grown kg15 (ne_down (ow8.ge (Nat.le_refl _)) (fun p hp => Nat.lt_of_lt_of_le (Uow6.out p hp) (by omega)))
      replace ow10 := ow10.grown kg15 (ne_down (ow10.ge (Nat.le_refl _)) (fun p hp => Nat.lt_of_lt_of_le (Uow6.out p hp) (by omega)))
      replace bt := below_mark bt kg15 bt.size (ow6.ge (by omega))
      have si15 := kg15.size
      clear kg15
      replace ow6 := qo15
      clear qo15
      go_wp2_with fail
      refine (heldIntS_b _ _ (resF l0 l1).length 1 _ (by have := HL.out; omega) (by omega) (by omega) ow6.row).mono ?_
      rintro e wo16 ⟨rfl, be16⟩
      replace ow1 := ow1.below be16 (Nat.le_refl _)
      replace ow2 := ow2.below be16 (Nat.le_refl _)
      replace ow3 := ow3.below be16 (Nat.le_refl _)
      replace ow4 := ow4.below be16 (Nat.le_refl _)
      replace ow5 := ow5.below be16 (Nat.le_refl _)
      replace ow6 := ow6.below be16 (Nat.le_refl _)
      replace ow8 := ow8.below be16 (Nat.le_refl _)
      replace ow10 := ow10.below be16 (Nat.le_refl _)
      replace bt := bt.trans (be16.mono bt.size)
      have si16 := be16.size
      clear be16
      go_wp2_with fail
      refine (toIntS_c _ _ l0 _ hb0 (r0.below bt (Nat.le_refl _))).mono ?_
      rintro e wo17 ⟨gg17, rfl, hgg17, ow17, be17⟩
      replace ow1 := ow1.below be17 (Nat.le_refl _)
      replace ow2 := ow2.below be17 (Nat.le_refl _)
      replace ow3 := ow3.below be17 (Nat.le_refl _)
      replace ow4 := ow4.below be17 (Nat.le_refl _)
      replace ow5 := ow5.below be17 (Nat.le_refl _)
      replace ow6 := ow6.below be17 (Nat.le_refl _)
      replace ow8 := ow8.below be17 (Nat.le_refl _)
      replace ow10 := ow10.below be17 (Nat.le_refl _)
      replace bt := bt.trans (be17.mono bt.size)
      have si17 := be17.size
      clear be17
      clear hgg17
      have Uow17 := Lib.hid (fun p hp => (ow17.lt p hp).2)
      go_wp2_with fail
      refine (toIntS_c _ _ l1 _ hb1 (r1.below bt (Nat.le_refl _))).mono ?_
      rintro e wo18 ⟨gg18, rfl, hgg18, ow18, be18⟩
      replace ow1 := ow1.below be18 (Nat.le_refl _)
      replace ow2 := ow2.below be18 (Nat.le_refl _)
      replace ow3 := ow3.below be18 (Nat.le_refl _)
      replace ow4 := ow4.below be18 (Nat.le_refl _)
      replace ow5 := ow5.below be18 (Nat.le_refl _)
      replace ow6 := ow6.below be18 (Nat.le_refl _)
      replace ow8 := ow8.below be18 (Nat.le_refl _)
      replace ow10 := ow10.below be18 (Nat.le_refl _)
      replace ow17 := ow17.below be18 (Nat.le_refl _)
      replace bt := bt.trans (be18.mono bt.size)
      have si18 := be18.size
      clear be18
      clear hgg18
      have Uow18 := Lib.hid (fun p hp => (ow18.lt p hp).2)
      go_wp2_with fail
      refine (impl.Residual_c _ _ l0 _ _ l1 _ hl0 ow17.row w0 hl1 ow18.row w1).mono ?_
      rintro e wo19 ⟨xx19, yy19, rfl, ow19, be19⟩
      replace ow1 := ow1.below be19 (Nat.le_refl _)
      replace ow2 := ow2.below be19 (Nat.le_refl _)
      replace ow3 := ow3.below be19 (Nat.le_refl _)
      replace ow4 := ow4.below be19 (Nat.le_refl _)
      replace ow5 := ow5.below be19 (Nat.le_refl _)
      replace ow6 := ow6.below be19 (Nat.le_refl _)
      replace ow8 := ow8.below be19 (Nat.le_refl _)
      replace ow10 := ow10.below be19 (Nat.le_refl _)
      replace ow17 := ow17.below be19 (Nat.le_refl _)
      replace ow18 := ow18.below be19 (Nat.le_refl _)
      replace bt := bt.trans (be19.mono bt.size)
      have si19 := be19.size
      clear be19
      have Uow19 := Lib.hid (fun p hp => (ow19.lt p hp).2)
      go_wp2_with fail
      refine (eqIntS_t _ _ _ _ (resF l0 l1) _ (by have := HL.out; omega) ow19.row ow3.row).mono ?_
      rintro e wo20 ⟨rfl, be20⟩
      replace ow1 := ow1.below be20 (Nat.le_refl _)
      replace ow2 := ow2.below be20 (Nat.le_refl _)
      replace ow3 := ow3.below be20 (Nat.le_refl _)
      replace ow4 := ow4.below be20 (Nat.le_refl _)
      replace ow5 := ow5.below be20 (Nat.le_refl _)
      replace ow6 := ow6.below be20 (Nat.le_refl _)
      replace ow8 := ow8.below be20 (Nat.le_refl _)
      replace ow10 := ow10.below be20 (Nat.le_refl _)
      replace ow17 := ow17.below be20 (Nat.le_refl _)
      replace ow18 := ow18.below be20 (Nat.le_refl _)
      replace ow19 := ow19.below be20 (Nat.le_refl _)
      replace bt := bt.trans (be20.mono bt.size)
      have si20 := be20.size
      clear be20
      go_wp2_with fail
      refine (heldIntS_b _ _ (resF l0 l1).length 1 _ (by have := HL.out; omega) (by omega) (by omega) ow6.row).mono ?_
      rintro e wo21 ⟨rfl, be21⟩
      replace ow1 := ow1.below be21 (Nat.le_refl _)
      replace ow2 := ow2.below be21 (Nat.le_refl _)
      replace ow3 := ow3.below be21 (Nat.le_refl _)
      replace ow4 := ow4.below be21 (Nat.le_refl _)
      replace ow5 := ow5.below be21 (Nat.le_refl _)
      replace ow6 := ow6.below be21 (Nat.le_refl _)
      replace ow8 := ow8.below be21 (Nat.le_refl _)
      replace ow10 := ow10.below be21 (Nat.le_refl _)
      replace ow17 := ow17.below be21 (Nat.le_refl _)
      replace ow18 := ow18.below be21 (Nat.le_refl _)
      replace ow19 := ow19.below be21 (Nat.le_refl _)
      replace bt := bt.trans (be21.mono bt.size)
      have si21 := be21.size
      clear be21
      go_wp2
      go_ret
      exact ⟨rfl, bt⟩
    · have ht : (1048576 : Int) < (l1.length : Int) := by omega
      go_enter Try.func12, Try.ntmps12
      go_wp2
      go_ret
      exact ⟨rfl, bt⟩
  · have ht : (1048576 : Int) < (l0.length : Int) := by omega
    go_enter Try.func12, Try.ntmps12
    go_wp2
    go_ret
    exact ⟨rfl, bt⟩

theorem own : ownKnob Try.prog.godebug = none := by kernel_rfl
theorem laidOut : laidOutB Try.prog = true := by kernel_rfl
set_option maxRecDepth 100000 in
theorem lifted (os : Os) (started : os.Started) (H : Type) (enc : TypeId × Value → H) :
    ReturnsInHanded {} Try.checked os 12 .any (Rows.fnExactResidualSpec.pre6 enc Try.prog Try.f12 Rows.fnExactResidualRow.domain false) (Rows.fnExactResidualSpec.post enc Try.prog Try.f12 false true false false) := by
  refine returnsInHanded_of_change (C := Try.checked) own started (by kernel_rfl) Try.func12
    (ChangeSpec.witness6 (enc := enc) (C := Try.checked) false ⟨#[], #[.slice none 0 0, .slice none 0 0], []⟩ 8 (by kernel_rfl) (by kernel_rfl) (by kernel_rfl) (by kernel_rfl)) ?_
  intro W base args ds gs before hval0 hW hcnd _
  have hval : ∀ (j : Nat) t v, Try.f12.params[j]? = some t → args[j]? = some v → Value.okWide Try.prog W .any base t v := hval0
  have hW' := hW
  obtain ⟨p, q, hA0, hV, rfl, hfz, hnd⟩ := hW
  have hA : DataW.TrodAll enc Try.prog W 0 (fun _ => true) true Try.f12.params.toList args.toList ds p := hA0
  rw [Try.params12] at hA hval
  obtain ⟨v0, vs0, d0, ds0, p0, q0, hargs, rfl, rfl, h0, tr0⟩ := trodAll_cons hA
  obtain ⟨v1, vs1, d1, ds1, p1, q1, rfl, rfl, rfl, h1, tr1⟩ := trodAll_cons tr0
  obtain ⟨rfl, rfl, rfl⟩ := trodAll_nil tr1
  obtain rfl : args = #[v0, v1] := by cases args; simp_all
  obtain ⟨rfl, rfl⟩ := trodVars_none hV
  have k0 := h0
  have lt0 : ∀ x ∈ p0, x.block < W.heap.size := by obtain ⟨m, hm⟩ := k0; exact DataW.trod_lt m _ _ _ hm
  have k1 := h1
  have lt1 : ∀ x ∈ p1, x.block < W.heap.size := by obtain ⟨m, hm⟩ := k1; exact DataW.trod_lt m _ _ _ hm
  obtain ⟨a0, len0, c0, rfl⟩ := okWide_slice Try.underlying22 (hval 0 22 v0 rfl rfl)
  obtain ⟨l0, hl0, r0, w0⟩ : ∃ l : List Int, l.length = len0 ∧ Row W a0 l ∧ ∀ x ∈ l, -9223372036854775808 ≤ x ∧ x ≤ 9223372036854775807 := by
    obtain ⟨fuel, hf⟩ := k0
    rcases open_ints Try.underlying22 Try.underlying3 (by kernel_rfl) hf with ⟨hcs, _⟩ | ⟨x, l, c, zs, hcs, _, hl, hm, hz, _, hcell, hwz⟩
    · simp [Value.cells] at hcs
      obtain ⟨rfl, rfl, rfl⟩ := hcs
      exact ⟨[], rfl, .inl rfl, by simp⟩
    · simp [Value.cells] at hcs
      obtain ⟨rfl, rfl, rfl⟩ := hcs
      exact Row.of_cells hl (by simpa using hz) hcell (fun n hn => wf_i64 (hwz n hn))
  subst hl0
  obtain ⟨a1, len1, c1, rfl⟩ := okWide_slice Try.underlying22 (hval 1 22 v1 rfl rfl)
  obtain ⟨l1, hl1, r1, w1⟩ : ∃ l : List Int, l.length = len1 ∧ Row W a1 l ∧ ∀ x ∈ l, -9223372036854775808 ≤ x ∧ x ≤ 9223372036854775807 := by
    obtain ⟨fuel, hf⟩ := k1
    rcases open_ints Try.underlying22 Try.underlying3 (by kernel_rfl) hf with ⟨hcs, _⟩ | ⟨x, l, c, zs, hcs, _, hl, hm, hz, _, hcell, hwz⟩
    · simp [Value.cells] at hcs
      obtain ⟨rfl, rfl, rfl⟩ := hcs
      exact ⟨[], rfl, .inl rfl, by simp⟩
    · simp [Value.cells] at hcs
      obtain ⟨rfl, rfl, rfl⟩ := hcs
      exact Row.of_cells hl (by simpa using hz) hcell (fun n hn => wf_i64 (hwz n hn))
  subst hl1
  clear hA0 hval0
  refine (walk W a0 c0 l0 r0 w0 a1 c1 l1 r1 w1).mono fun e W' ⟨he, bel⟩ => ?_
  subst he
  exact ⟨_, rfl, _, _, _, [], _, [], hW', trodAll_mk1 (shut_bool Try.underlying4 _), (trodAll_cons_mk (Below.trod laidOut (by kernel_rfl) (of_decide_eq_true (by kernel_rfl)) k0 bel lt0) (trodAll_cons_mk (Below.trod laidOut (by kernel_rfl) (of_decide_eq_true (by kernel_rfl)) k1 bel lt1) trodAll_mk0)), rfl, bel.frame _, fun h => by cases h⟩

theorem over : Rows.fnExactResidualRow.holds Try.pinned (OpenSpec.ofChange Rows.fnExactResidualSpec) :=
  OpenClaim.holds_of_wide 12 Try.f12 rfl rfl rfl rfl rfl rfl rfl ⟨rfl, rfl, rfl, rfl, rfl⟩ rfl rfl rfl rfl rfl (by kernel_rfl) Try.func12 (by kernel_rfl)
    (of_decide_eq_true (by kernel_rfl)) (by unfold Func.isWrapper; first | (rw [if_pos (by decide +kernel)]; kernel_rfl) | (rw [if_neg (by decide +kernel)]; exact ⟨rfl, rfl⟩))
    (fun os started H enc _ => lifted os started H enc)

/-- the statement -/
theorem proved : Rows.FnExactResidualSaid := over
#print axioms proved
end Go.Proofs.Ytnfmdbiminoneaa.fnExactResidual
