/- For every input the law FnExactFast8 returns true and leaves its arguments as they were; no condition. -/
import Derived.Test.YtchabkkpdafkiaaMem
import Derived.Test.YtchabkkpdafkiaaFrm
import Derived.Test.YtchabkkpdafkiaaMatF
import Derived.Test.YtchabkkpdafkiaaBoth2
namespace Go.Proofs.Ytchabkkpdafkiaa.fnExactFast8
open Go.ChangeShapes Go.WideShapes Go.ChangeAt Go.RowKit Go.Joins
set_option linter.unusedVariables false

set_option maxHeartbeats 4000000 in
theorem walk (w : World) (a0 : Option Addr) (c0 : Nat) (l0 : List Int) (r0 : Row w a0 l0) (w0 : ∀ x ∈ l0, -9223372036854775808 ≤ x ∧ x ≤ 9223372036854775807) :
    Calls Try.prog 4 #[.slice a0 l0.length c0] w fun e w' => e = .returned (.bool true) ∧ Below w.heap.size w w' := by
  have bt : Below w.heap.size w w := Below.refl _ _
  by_cases hb0 : l0.length ≤ 1048576
  · have hl0 : l0.length ≤ 1099511627776 := by omega
    go_enter Try.func4, Try.ntmps4
    have HL0 := Lib.hid (Nat.le_trans (prodF_len rowsH 8 l0 (by decide)) (by decide) : (prodF rowsH 8 l0).length ≤ 1048576)
    go_wp2_with fail
    refine (toIntS_c _ _ l0 _ hb0 (r0.below bt (Nat.le_refl _))).mono ?_
    rintro e wo1 ⟨gg1, rfl, hgg1, ow1, be1⟩
    replace bt := bt.trans (be1.mono bt.size)
    have si1 := be1.size
    clear be1
    clear hgg1
    have Uow1 := Lib.hid (fun p hp => (ow1.lt p hp).2)
    go_wp2_with fail
    refine (spec.Fast8_c _ _ l0 _ hl0 ow1.row w0 ow1.cap).mono ?_
    rintro e wo2 ⟨xx2, yy2, rfl, ow2, be2⟩
    replace ow1 := ow1.below be2 (Nat.le_refl _)
    replace bt := bt.trans (be2.mono bt.size)
    have si2 := be2.size
    clear be2
    have Uow2 := Lib.hid (fun p hp => (ow2.lt p hp).2)
    go_wp2_with fail
    refine (toIntS_c _ _ l0 _ hb0 (r0.below bt (Nat.le_refl _))).mono ?_
    rintro e wo3 ⟨gg3, rfl, hgg3, ow3, be3⟩
    replace ow1 := ow1.below be3 (Nat.le_refl _)
    replace ow2 := ow2.below be3 (Nat.le_refl _)
    replace bt := bt.trans (be3.mono bt.size)
    have si3 := be3.size
    clear be3
    clear hgg3
    have Uow3 := Lib.hid (fun p hp => (ow3.lt p hp).2)
    go_wp2_with fail
    refine (impl.Fast8_c _ _ l0 _ hl0 ow3.row w0).mono ?_
    rintro e wo4 ⟨xx4, yy4, rfl, ow4, be4⟩
    replace ow1 := ow1.below be4 (Nat.le_refl _)
    replace ow2 := ow2.below be4 (Nat.le_refl _)
    replace ow3 := ow3.below be4 (Nat.le_refl _)
    replace bt := bt.trans (be4.mono bt.size)
    have si4 := be4.size
    clear be4
    have Uow4 := Lib.hid (fun p hp => (ow4.lt p hp).2)
    go_wp2_with fail
    refine (eqIntS_t _ _ _ _ (prodF rowsH 8 l0) _ (by have := HL0.out; omega) ow4.row ow2.row).mono ?_
    rintro e wo5 ⟨rfl, be5⟩
    replace ow1 := ow1.below be5 (Nat.le_refl _)
    replace ow2 := ow2.below be5 (Nat.le_refl _)
    replace ow3 := ow3.below be5 (Nat.le_refl _)
    replace ow4 := ow4.below be5 (Nat.le_refl _)
    replace bt := bt.trans (be5.mono bt.size)
    have si5 := be5.size
    clear be5
    go_wp2_with fail
    refine (toIntS_c _ _ l0 _ hb0 (r0.below bt (Nat.le_refl _))).mono ?_
    rintro e wo6 ⟨gg6, rfl, hgg6, ow6, be6⟩
    replace ow1 := ow1.below be6 (Nat.le_refl _)
    replace ow2 := ow2.below be6 (Nat.le_refl _)
    replace ow3 := ow3.below be6 (Nat.le_refl _)
    replace ow4 := ow4.below be6 (Nat.le_refl _)
    replace bt := bt.trans (be6.mono bt.size)
    have si6 := be6.size
    clear be6
    clear hgg6
    have Uow6 := Lib.hid (fun p hp => (ow6.lt p hp).2)
    go_wp2_with fail
    refine (eqIntS_t _ _ _ _ (l0) _ (by have := hb0; omega) ow3.row ow6.row).mono ?_
    rintro e wo7 ⟨rfl, be7⟩
    replace ow1 := ow1.below be7 (Nat.le_refl _)
    replace ow2 := ow2.below be7 (Nat.le_refl _)
    replace ow3 := ow3.below be7 (Nat.le_refl _)
    replace ow4 := ow4.below be7 (Nat.le_refl _)
    replace ow6 := ow6.below be7 (Nat.le_refl _)
    replace bt := bt.trans (be7.mono bt.size)
    have si7 := be7.size
    clear be7
    go_wp2_with fail
    refine (markIntS_c _ _ _ (l0) 1 _ (by have := hb0; omega) (by have := hb0; omega) (by have := hb0; omega) ow3).mono ?_
    rintro e wo8 ⟨rfl, qo8, kg8⟩
    replace ow1 := ow1.grown kg8 (ne_up (N := wo2.heap.size) (fun p hp => Nat.lt_of_lt_of_le (Uow1.out p hp) (by omega)) (ow3.ge (Nat.le_refl _)))
    replace ow2 := ow2.grown kg8 (ne_up (N := wo2.heap.size) (fun p hp => Nat.lt_of_lt_of_le (Uow2.out p hp) (by omega)) (ow3.ge (Nat.le_refl _)))
    replace ow4 := ow4.grown kg8 (ne_down (ow4.ge (Nat.le_refl _)) (fun p hp => Nat.lt_of_lt_of_le (Uow3.out p hp) (by omega)))
    replace ow6 := ow6.grown kg8 (ne_down (ow6.ge (Nat.le_refl _)) (fun p hp => Nat.lt_of_lt_of_le (Uow3.out p hp) (by omega)))
    replace bt := below_mark bt kg8 bt.size (ow3.ge (by omega))
    have si8 := kg8.size
    clear kg8
    replace ow3 := qo8
    clear qo8
    go_wp2_with fail
    refine (eqIntS_t _ _ _ _ (prodF rowsH 8 l0) _ (by have := HL0.out; omega) ow4.row ow2.row).mono ?_
    rintro e wo9 ⟨rfl, be9⟩
    replace ow1 := ow1.below be9 (Nat.le_refl _)
    replace ow2 := ow2.below be9 (Nat.le_refl _)
    replace ow3 := ow3.below be9 (Nat.le_refl _)
    replace ow4 := ow4.below be9 (Nat.le_refl _)
    replace ow6 := ow6.below be9 (Nat.le_refl _)
    replace bt := bt.trans (be9.mono bt.size)
    have si9 := be9.size
    clear be9
    go_wp2_with fail
    refine (markIntS_c _ _ _ (prodF rowsH 8 l0) 1 _ (by have := HL0.out; omega) (by have := HL0.out; omega) (by have := HL0.out; omega) ow4).mono ?_
    rintro e wo10 ⟨rfl, qo10, kg10⟩
    replace ow1 := ow1.grown kg10 (ne_up (N := wo3.heap.size) (fun p hp => Nat.lt_of_lt_of_le (Uow1.out p hp) (by omega)) (ow4.ge (Nat.le_refl _)))
    replace ow2 := ow2.grown kg10 (ne_up (N := wo3.heap.size) (fun p hp => Nat.lt_of_lt_of_le (Uow2.out p hp) (by omega)) (ow4.ge (Nat.le_refl _)))
    replace ow3 := ow3.grown kg10 (ne_up (N := wo3.heap.size) (fun p hp => Nat.lt_of_lt_of_le (Uow3.out p hp) (by omega)) (ow4.ge (Nat.le_refl _)))
    replace ow6 := ow6.grown kg10 (ne_down (ow6.ge (Nat.le_refl _)) (fun p hp => Nat.lt_of_lt_of_le (Uow4.out p hp) (by omega)))
    replace bt := below_mark bt kg10 bt.size (ow4.ge (by omega))
    have si10 := kg10.size
    clear kg10
    replace ow4 := qo10
    clear qo10
    go_wp2_with fail
    refine (heldIntS_b _ _ (prodF rowsH 8 l0).length 1 _ (by have := HL0.out; omega) (by omega) (by omega) ow4.row).mono ?_
    rintro e wo11 ⟨rfl, be11⟩
    replace ow1 := ow1.below be11 (Nat.le_refl _)
    replace ow2 := ow2.below be11 (Nat.le_refl _)
    replace ow3 := ow3.below be11 (Nat.le_refl _)
    replace ow4 := ow4.below be11 (Nat.le_refl _)
    replace ow6 := ow6.below be11 (Nat.le_refl _)
    replace bt := bt.trans (be11.mono bt.size)
    have si11 := be11.size
    clear be11
    go_wp2_with fail
    refine (toIntS_c _ _ l0 _ hb0 (r0.below bt (Nat.le_refl _))).mono ?_
    rintro e wo12 ⟨gg12, rfl, hgg12, ow12, be12⟩
    replace ow1 := ow1.below be12 (Nat.le_refl _)
    replace ow2 := ow2.below be12 (Nat.le_refl _)
    replace ow3 := ow3.below be12 (Nat.le_refl _)
    replace ow4 := ow4.below be12 (Nat.le_refl _)
    replace ow6 := ow6.below be12 (Nat.le_refl _)
    replace bt := bt.trans (be12.mono bt.size)
    have si12 := be12.size
    clear be12
    clear hgg12
    have Uow12 := Lib.hid (fun p hp => (ow12.lt p hp).2)
    go_wp2_with fail
    refine (impl.Fast8_c _ _ l0 _ hl0 ow12.row w0).mono ?_
    rintro e wo13 ⟨xx13, yy13, rfl, ow13, be13⟩
    replace ow1 := ow1.below be13 (Nat.le_refl _)
    replace ow2 := ow2.below be13 (Nat.le_refl _)
    replace ow3 := ow3.below be13 (Nat.le_refl _)
    replace ow4 := ow4.below be13 (Nat.le_refl _)
    replace ow6 := ow6.below be13 (Nat.le_refl _)
    replace ow12 := ow12.below be13 (Nat.le_refl _)
    replace bt := bt.trans (be13.mono bt.size)
    have si13 := be13.size
    clear be13
    have Uow13 := Lib.hid (fun p hp => (ow13.lt p hp).2)
    go_wp2_with fail
    refine (eqIntS_t _ _ _ _ (prodF rowsH 8 l0) _ (by have := HL0.out; omega) ow13.row ow2.row).mono ?_
    rintro e wo14 ⟨rfl, be14⟩
    replace ow1 := ow1.below be14 (Nat.le_refl _)
    replace ow2 := ow2.below be14 (Nat.le_refl _)
    replace ow3 := ow3.below be14 (Nat.le_refl _)
    replace ow4 := ow4.below be14 (Nat.le_refl _)
    replace ow6 := ow6.below be14 (Nat.le_refl _)
    replace ow12 := ow12.below be14 (Nat.le_refl _)
    replace ow13 := ow13.below be14 (Nat.le_refl _)
    replace bt := bt.trans (be14.mono bt.size)
    have si14 := be14.size
    clear be14
    go_wp2_with fail
    refine (heldIntS_b _ _ (prodF rowsH 8 l0).length 1 _ (by have := HL0.out; omega) (by omega) (by omega) ow4.row).mono ?_
    rintro e wo15 ⟨rfl, be15⟩
    replace ow1 := ow1.below be15 (Nat.le_refl _)
    replace ow2 := ow2.below be15 (Nat.le_refl _)
    replace ow3 := ow3.below be15 (Nat.le_refl _)
    replace ow4 := ow4.below be15 (Nat.le_refl _)
    replace ow6 := ow6.below be15 (Nat.le_refl _)
    replace ow12 := ow12.below be15 (Nat.le_refl _)
    replace ow13 := ow13.below be15 (Nat.le_refl _)
    replace bt := bt.trans (be15.mono bt.size)
    have si15 := be15.size
    clear be15
    go_wp2
    go_ret
    exact ⟨rfl, bt⟩
  · have ht : (1048576 : Int) < (l0.length : Int) := by omega
    go_enter Try.func4, Try.ntmps4
    go_wp2
    go_ret
    first
      | exact ⟨rfl, bt⟩
      | exact ⟨rfl, bt.alloc (Nat.le_refl _) _⟩

theorem own : ownKnob Try.prog.godebug = none := by kernel_rfl
theorem laidOut : laidOutB Try.prog = true := by kernel_rfl
set_option maxRecDepth 100000 in
theorem lifted (os : Os) (started : os.Started) (H : Type) (enc : TypeId × Value → H) :
    ReturnsInHanded {} Try.checked os 4 .any (Rows.fnExactFast8Spec.pre6 enc Try.prog Try.f4 Rows.fnExactFast8Row.domain false) (Rows.fnExactFast8Spec.post enc Try.prog Try.f4 false true false false) := by
  refine returnsInHanded_of_change (C := Try.checked) own started (by kernel_rfl) Try.func4
    (ChangeSpec.witness6 (enc := enc) (C := Try.checked) false ⟨#[], #[.slice none 0 0], []⟩ 8 (by kernel_rfl) (by kernel_rfl) (by kernel_rfl) (by kernel_rfl)) ?_
  intro W base args ds gs before hval0 hW hcnd _
  have hval : ∀ (j : Nat) t v, Try.f4.params[j]? = some t → args[j]? = some v → Value.okWide Try.prog W .any base t v := hval0
  have hW' := hW
  obtain ⟨p, q, hA0, hV, rfl, hfz, hnd⟩ := hW
  have hA : DataW.TrodAll enc Try.prog W 0 (fun _ => true) true Try.f4.params.toList args.toList ds p := hA0
  rw [Try.params4] at hA hval
  obtain ⟨v0, vs0, d0, ds0, p0, q0, hargs, rfl, rfl, h0, tr0⟩ := trodAll_cons hA
  obtain ⟨rfl, rfl, rfl⟩ := trodAll_nil tr0
  obtain rfl : args = #[v0] := by cases args; simp_all
  obtain ⟨rfl, rfl⟩ := trodVars_none hV
  have k0 := h0
  have lt0 : ∀ x ∈ p0, x.block < W.heap.size := by obtain ⟨m, hm⟩ := k0; exact DataW.trod_lt m _ _ _ hm
  obtain ⟨a0, len0, c0, rfl⟩ := okWide_slice Try.underlying22 (hval 0 22 v0 rfl rfl)
  obtain ⟨l0, hl0, r0, w0⟩ : ∃ l : List Int, l.length = len0 ∧ Row W a0 l ∧ ∀ x ∈ l, -9223372036854775808 ≤ x ∧ x ≤ 9223372036854775807 := by
    obtain ⟨fuel, hf⟩ := k0
    rcases open_ints Try.underlying22 Try.underlying3 (by kernel_rfl) hf with ⟨hcs, _⟩ | ⟨x, l, c, zs, hcs, _, hl, hm, hz, _, hcell, hwz⟩
    · simp [Value.cells] at hcs
      obtain ⟨rfl, rfl, rfl⟩ := hcs
      exact ⟨[], rfl, .inl rfl, by simp⟩
    · simp [Value.cells] at hcs
      obtain ⟨rfl, rfl, rfl⟩ := hcs
      exact Row.of_cells hl (by simpa using hz) hcell (fun n hn => wf_i64 (hwz n hn))
  subst hl0
  clear hA0 hval0
  refine (walk W a0 c0 l0 r0 w0).mono fun e W' ⟨he, bel⟩ => ?_
  subst he
  exact ⟨_, rfl, _, _, _, [], _, [], hW', trodAll_mk1 (shut_bool Try.underlying4 _), (trodAll_cons_mk (Below.trod laidOut (by kernel_rfl) (of_decide_eq_true (by kernel_rfl)) k0 bel lt0) trodAll_mk0), rfl, bel.frame _, fun h => by cases h⟩

theorem over : Rows.fnExactFast8Row.holds Try.pinned (OpenSpec.ofChange Rows.fnExactFast8Spec) :=
  OpenClaim.holds_of_wide 4 Try.f4 rfl rfl rfl rfl rfl rfl rfl ⟨rfl, rfl, rfl, rfl, rfl⟩ rfl rfl rfl rfl rfl (by kernel_rfl) Try.func4 (by kernel_rfl)
    (of_decide_eq_true (by kernel_rfl)) (by unfold Func.isWrapper; first | (rw [if_pos (by decide +kernel)]; kernel_rfl) | (rw [if_neg (by decide +kernel)]; exact ⟨rfl, rfl⟩))
    (fun os started H enc _ => lifted os started H enc)

/-- the statement -/
theorem proved : Rows.FnExactFast8Said := over
#print axioms proved
end Go.Proofs.Ytchabkkpdafkiaa.fnExactFast8
