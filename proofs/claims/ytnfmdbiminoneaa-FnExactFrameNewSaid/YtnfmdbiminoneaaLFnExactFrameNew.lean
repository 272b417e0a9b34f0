/- For every input the law FnExactFrameNew returns true and leaves its arguments as they were; no condition. -/
import Derived.Test.YtnfmdbiminoneaaMem
import Derived.Test.YtnfmdbiminoneaaFrm
import Derived.Test.YtnfmdbiminoneaaFrame
namespace Go.Proofs.Ytnfmdbiminoneaa.fnExactFrameNew
open Go.ChangeShapes Go.WideShapes Go.ChangeAt Go.RowKit Go.Joins
set_option linter.unusedVariables false

set_option maxHeartbeats 4000000 in
theorem walk (a0 : Int) (w0 : -9223372036854775808 ≤ a0 ∧ a0 ≤ 9223372036854775807) (a1 : Int) (w1 : -9223372036854775808 ≤ a1 ∧ a1 ≤ 9223372036854775807) (w : World) :
    Calls Try.prog 5 #[.int .i64 a0, .int .i64 a1] w fun e w' => e = .returned (.bool true) ∧ Below w.heap.size w w' := by
  have bt : Below w.heap.size w w := Below.refl _ _
  go_enter Try.func5, Try.ntmps5
  have HL0 := Lib.hid (newL_len a0 a1 : (newL a0 a1).length ≤ 1048576)
  go_wp2_with fail
  refine (spec.FrameNew_c a0 a1 _ ).mono ?_
  rintro e wo1 ⟨xx1, yy1, rfl, ow1, be1⟩
  replace bt := bt.trans (be1.mono bt.size)
  have si1 := be1.size
  clear be1
  have Uow1 := Lib.hid (fun p hp => (ow1.lt p hp).2)
  go_wp2_with fail
  obtain ⟨vo2, hv2⟩ : ∃ T, T = wo1.alloc (.cells #[.int .i64 (newS a0 a1 a0), .int .i64 (newS a0 a1 a1), .slice xx1 (newL a0 a1).length yy1] 28) := ⟨_, rfl⟩
  rw [← hv2]
  have bv2 : Below wo1.heap.size wo1 vo2 := by rw [hv2]; exact (Below.refl _ _).alloc (Nat.le_refl _) _
  have si2 : wo1.heap.size < vo2.heap.size := by rw [hv2]; simp
  have bx2 : Box3 vo2 wo1.heap.size (.int .i64 (newS a0 a1 a0)) (.int .i64 (newS a0 a1 a1)) (.slice xx1 (newL a0 a1).length yy1) := by rw [hv2]; exact Box3.new _ _ _ _ _
  clear hv2
  replace ow1 := ow1.below bv2 (Nat.le_refl _)
  replace bt := bt.trans (bv2.mono bt.size)
  clear bv2
  refine (impl.FrameNew_c a0 a1 _ ).mono ?_
  rintro e wo3 ⟨xx3, yy3, rfl, ow3, be3⟩
  replace ow1 := ow1.below be3 (Nat.le_refl _)
  replace bx2 := bx2.below be3 (Nat.le_refl _)
  replace bt := bt.trans (be3.mono bt.size)
  have si3 := be3.size
  clear be3
  have Uow3 := Lib.hid (fun p hp => (ow3.lt p hp).2)
  have bxc := bx2
  obtain ⟨_, cx2_0, cx2_1, cx2_2⟩ := bxc
  go_wp2_with fail
  clear cx2_0 cx2_1 cx2_2
  obtain ⟨vo4, hv4⟩ : ∃ T, T = wo3.alloc (.cells #[.int .i64 (newS a0 a1 a0), .int .i64 (newS a0 a1 a1), .slice xx3 (newL a0 a1).length yy3] 28) := ⟨_, rfl⟩
  rw [← hv4]
  have bv4 : Below wo3.heap.size wo3 vo4 := by rw [hv4]; exact (Below.refl _ _).alloc (Nat.le_refl _) _
  have si4 : wo3.heap.size < vo4.heap.size := by rw [hv4]; simp
  have bx4 : Box3 vo4 wo3.heap.size (.int .i64 (newS a0 a1 a0)) (.int .i64 (newS a0 a1 a1)) (.slice xx3 (newL a0 a1).length yy3) := by rw [hv4]; exact Box3.new _ _ _ _ _
  clear hv4
  replace ow1 := ow1.below bv4 (Nat.le_refl _)
  replace ow3 := ow3.below bv4 (Nat.le_refl _)
  replace bx2 := bx2.below bv4 (Nat.le_refl _)
  replace bt := bt.trans (bv4.mono bt.size)
  clear bv4
  refine (eqFrame_t (newS a0 a1 a0) (newS a0 a1 a1) _ _ _ _ (newL a0 a1) _ (by have := HL0.out; omega) ow3.row ow1.row).mono ?_
  rintro e wo5 ⟨rfl, be5⟩
  replace ow1 := ow1.below be5 (Nat.le_refl _)
  replace ow3 := ow3.below be5 (Nat.le_refl _)
  replace bx2 := bx2.below be5 (Nat.le_refl _)
  replace bx4 := bx4.below be5 (Nat.le_refl _)
  replace bt := bt.trans (be5.mono bt.size)
  have si5 := be5.size
  clear be5
  have bxc := bx4
  obtain ⟨_, cx4_0, cx4_1, cx4_2⟩ := bxc
  go_wp2_with fail
  clear cx4_0 cx4_1 cx4_2
  refine (markFrame_c _ (newS a0 a1 a0) (newS a0 a1 a1) _ _ (newL a0 a1) 1 _ (by have := HL0.out; omega) (by have := HL0.out; omega) (by have := HL0.out; omega) ow3).mono ?_
  rintro e wo6 ⟨rfl, qo6, kg6⟩
  replace ow1 := ow1.grown kg6 (ne_up (N := vo2.heap.size) (fun p hp => Nat.lt_of_lt_of_le (Uow1.out p hp) (by omega)) (ow3.ge (Nat.le_refl _)))
  replace bx2 := bx2.grown kg6 (fun p hp => by have := ow3.ge (K := vo2.heap.size) (Nat.le_refl _) p hp; omega)
  replace bx4 := bx4.grown kg6 (fun p hp => by have := Uow3.out p hp; omega)
  replace bt := below_mark bt kg6 bt.size (ow3.ge (by omega))
  have si6 := kg6.size
  clear kg6
  replace ow3 := qo6
  clear qo6
  have bxc := bx4
  obtain ⟨_, cx4_0, cx4_1, cx4_2⟩ := bxc
  go_wp2_with fail
  clear cx4_0 cx4_1 cx4_2
  refine (heldFrame_b (newS a0 a1 a0) (newS a0 a1 a1) _ _ (newL a0 a1).length 1 _ (by have := HL0.out; omega) (by omega) (by omega) ow3.row).mono ?_
  rintro e wo7 ⟨rfl, be7⟩
  replace ow1 := ow1.below be7 (Nat.le_refl _)
  replace ow3 := ow3.below be7 (Nat.le_refl _)
  replace bx2 := bx2.below be7 (Nat.le_refl _)
  replace bx4 := bx4.below be7 (Nat.le_refl _)
  replace bt := bt.trans (be7.mono bt.size)
  have si7 := be7.size
  clear be7
  go_wp2_with fail
  refine (impl.FrameNew_c a0 a1 _ ).mono ?_
  rintro e wo8 ⟨xx8, yy8, rfl, ow8, be8⟩
  replace ow1 := ow1.below be8 (Nat.le_refl _)
  replace ow3 := ow3.below be8 (Nat.le_refl _)
  replace bx2 := bx2.below be8 (Nat.le_refl _)
  replace bx4 := bx4.below be8 (Nat.le_refl _)
  replace bt := bt.trans (be8.mono bt.size)
  have si8 := be8.size
  clear be8
  have Uow8 := Lib.hid (fun p hp => (ow8.lt p hp).2)
  have bxc := bx2
  obtain ⟨_, cx2_0, cx2_1, cx2_2⟩ := bxc
  go_wp2_with fail
  clear cx2_0 cx2_1 cx2_2
  obtain ⟨vo9, hv9⟩ : ∃ T, T = wo8.alloc (.cells #[.int .i64 (newS a0 a1 a0), .int .i64 (newS a0 a1 a1), .slice xx8 (newL a0 a1).length yy8] 28) := ⟨_, rfl⟩
  rw [← hv9]
  have bv9 : Below wo8.heap.size wo8 vo9 := by rw [hv9]; exact (Below.refl _ _).alloc (Nat.le_refl _) _
  have si9 : wo8.heap.size < vo9.heap.size := by rw [hv9]; simp
  have bx9 : Box3 vo9 wo8.heap.size (.int .i64 (newS a0 a1 a0)) (.int .i64 (newS a0 a1 a1)) (.slice xx8 (newL a0 a1).length yy8) := by rw [hv9]; exact Box3.new _ _ _ _ _
  clear hv9
  replace ow1 := ow1.below bv9 (Nat.le_refl _)
  replace ow3 := ow3.below bv9 (Nat.le_refl _)
  replace ow8 := ow8.below bv9 (Nat.le_refl _)
  replace bx2 := bx2.below bv9 (Nat.le_refl _)
  replace bx4 := bx4.below bv9 (Nat.le_refl _)
  replace bt := bt.trans (bv9.mono bt.size)
  clear bv9
  refine (eqFrame_t (newS a0 a1 a0) (newS a0 a1 a1) _ _ _ _ (newL a0 a1) _ (by have := HL0.out; omega) ow8.row ow1.row).mono ?_
  rintro e wo10 ⟨rfl, be10⟩
  replace ow1 := ow1.below be10 (Nat.le_refl _)
  replace ow3 := ow3.below be10 (Nat.le_refl _)
  replace ow8 := ow8.below be10 (Nat.le_refl _)
  replace bx2 := bx2.below be10 (Nat.le_refl _)
  replace bx4 := bx4.below be10 (Nat.le_refl _)
  replace bx9 := bx9.below be10 (Nat.le_refl _)
  replace bt := bt.trans (be10.mono bt.size)
  have si10 := be10.size
  clear be10
  have bxc := bx4
  obtain ⟨_, cx4_0, cx4_1, cx4_2⟩ := bxc
  go_wp2_with fail
  clear cx4_0 cx4_1 cx4_2
  refine (heldFrame_b (newS a0 a1 a0) (newS a0 a1 a1) _ _ (newL a0 a1).length 1 _ (by have := HL0.out; omega) (by omega) (by omega) ow3.row).mono ?_
  rintro e wo11 ⟨rfl, be11⟩
  replace ow1 := ow1.below be11 (Nat.le_refl _)
  replace ow3 := ow3.below be11 (Nat.le_refl _)
  replace ow8 := ow8.below be11 (Nat.le_refl _)
  replace bx2 := bx2.below be11 (Nat.le_refl _)
  replace bx4 := bx4.below be11 (Nat.le_refl _)
  replace bx9 := bx9.below be11 (Nat.le_refl _)
  replace bt := bt.trans (be11.mono bt.size)
  have si11 := be11.size
  clear be11
  go_wp2
  go_ret
  exact ⟨rfl, bt⟩

theorem own : ownKnob Try.prog.godebug = none := by kernel_rfl
theorem laidOut : laidOutB Try.prog = true := by kernel_rfl
set_option maxRecDepth 100000 in
theorem lifted (os : Os) (started : os.Started) (H : Type) (enc : TypeId × Value → H) :
    ReturnsInHanded {} Try.checked os 5 .any (Rows.fnExactFrameNewSpec.pre6 enc Try.prog Try.f5 Rows.fnExactFrameNewRow.domain false) (Rows.fnExactFrameNewSpec.post enc Try.prog Try.f5 false true false false) := by
  refine returnsInHanded_of_change (C := Try.checked) own started (by kernel_rfl) Try.func5
    (ChangeSpec.witness6 (enc := enc) (C := Try.checked) false ⟨#[], #[.int .i64 0, .int .i64 0], []⟩ 8 (by kernel_rfl) (by kernel_rfl) (by kernel_rfl) (by kernel_rfl)) ?_
  intro W base args ds gs before hval0 hW hcnd _
  have hval : ∀ (j : Nat) t v, Try.f5.params[j]? = some t → args[j]? = some v → Value.okWide Try.prog W .any base t v := hval0
  have hW' := hW
  obtain ⟨p, q, hA0, hV, rfl, hfz, hnd⟩ := hW
  have hA : DataW.TrodAll enc Try.prog W 0 (fun _ => true) true Try.f5.params.toList args.toList ds p := hA0
  rw [Try.params5] at hA hval
  obtain ⟨v0, vs0, d0, ds0, p0, q0, hargs, rfl, rfl, h0, tr0⟩ := trodAll_cons hA
  obtain ⟨v1, vs1, d1, ds1, p1, q1, rfl, rfl, rfl, h1, tr1⟩ := trodAll_cons tr0
  obtain ⟨rfl, rfl, rfl⟩ := trodAll_nil tr1
  obtain rfl : args = #[v0, v1] := by cases args; simp_all
  obtain ⟨rfl, rfl⟩ := trodVars_none hV
  have k0 := h0
  have lt0 : ∀ x ∈ p0, x.block < W.heap.size := by obtain ⟨m, hm⟩ := k0; exact DataW.trod_lt m _ _ _ hm
  have k1 := h1
  have lt1 : ∀ x ∈ p1, x.block < W.heap.size := by obtain ⟨m, hm⟩ := k1; exact DataW.trod_lt m _ _ _ hm
  obtain ⟨a0, rfl, rfl, rfl, w0⟩ := open_int Try.underlying3 (hval 0 3 v0 rfl rfl) h0
  obtain ⟨a1, rfl, rfl, rfl, w1⟩ := open_int Try.underlying3 (hval 1 3 v1 rfl rfl) h1
  clear hA0 hval0
  refine (walk a0 (wf_i64 w0) a1 (wf_i64 w1) W).mono fun e W' ⟨he, bel⟩ => ?_
  subst he
  exact ⟨_, rfl, _, _, _, [], _, [], hW', trodAll_mk1 (shut_bool Try.underlying4 _), (trodAll_cons_mk (Below.trod laidOut (by kernel_rfl) (of_decide_eq_true (by kernel_rfl)) k0 bel lt0) (trodAll_cons_mk (Below.trod laidOut (by kernel_rfl) (of_decide_eq_true (by kernel_rfl)) k1 bel lt1) trodAll_mk0)), rfl, bel.frame _, fun h => by cases h⟩

theorem over : Rows.fnExactFrameNewRow.holds Try.pinned (OpenSpec.ofChange Rows.fnExactFrameNewSpec) :=
  OpenClaim.holds_of_wide 5 Try.f5 rfl rfl rfl rfl rfl rfl rfl ⟨rfl, rfl, rfl, rfl, rfl⟩ rfl rfl rfl rfl rfl (by kernel_rfl) Try.func5 (by kernel_rfl)
    (of_decide_eq_true (by kernel_rfl)) (by unfold Func.isWrapper; first | (rw [if_pos (by decide +kernel)]; kernel_rfl) | (rw [if_neg (by decide +kernel)]; exact ⟨rfl, rfl⟩))
    (fun os started H enc _ => lifted os started H enc)

/-- the statement -/
theorem proved : Rows.FnExactFrameNewSaid := over
#print axioms proved
end Go.Proofs.Ytnfmdbiminoneaa.fnExactFrameNew
