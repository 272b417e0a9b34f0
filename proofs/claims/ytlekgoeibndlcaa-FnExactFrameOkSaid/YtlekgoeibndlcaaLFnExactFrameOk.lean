/- For every input the law FnExactFrameOk returns true and leaves its arguments as they were; no condition. -/
import Derived.Test.YtlekgoeibndlcaaMem
import Derived.Test.YtlekgoeibndlcaaFrm
import Derived.Test.YtlekgoeibndlcaaFr2
namespace Go.Proofs.Ytlekgoeibndlcaa.fnExactFrameOk
open Go.ChangeShapes Go.WideShapes Go.ChangeAt Go.RowKit Go.Joins
set_option linter.unusedVariables false

set_option maxHeartbeats 4000000 in
theorem walk (w : World) (W0 H0 : Int) (wW0 : -9223372036854775808 ≤ W0 ∧ W0 ≤ 9223372036854775807) (wH0 : -9223372036854775808 ≤ H0 ∧ H0 ≤ 9223372036854775807) (a0 : Option Addr) (c0 : Nat) (l0 : List Int) (r0 : Row w a0 l0) (w0 : ∀ x ∈ l0, -9223372036854775808 ≤ x ∧ x ≤ 9223372036854775807) (n0 : l0.length ≤ 9223372036854775807) :
    Calls Try.prog 4 #[.agg #[.int .i64 W0, .int .i64 H0, .slice a0 l0.length c0]] w fun e w' => e = .returned (.bool true) ∧ Below w.heap.size w w' := by
  have bt : Below w.heap.size w w := Below.refl _ _
  by_cases hs0 : l0.length ≤ 1048576
  · have hb0 : l0.length ≤ 1048576 := by omega
    have hl0 : l0.length ≤ 1099511627776 := by omega
    go_enter Try.func4, Try.ntmps4
    go_wp2_with fail
    obtain ⟨vo1, hv1⟩ : ∃ T, T = (w.alloc (.cells #[.int .i64 W0, .int .i64 H0, .slice a0 l0.length c0] 24)) := ⟨_, rfl⟩
    rw [← hv1]
    have bv1 : Below w.heap.size w vo1 := by rw [hv1]; exact ((Below.refl _ _).alloc (Nat.le_refl _) _)
    have si1 : w.heap.size + 1 ≤ vo1.heap.size := by rw [hv1]; simp
    have bx1_0 : Box3 vo1 w.heap.size (.int .i64 W0) (.int .i64 H0) (.slice a0 l0.length c0) := by rw [hv1]; exact ⟨by first | (simp; done) | (simp; omega), by simp, by simp, by simp⟩
    clear hv1
    replace bt := bt.trans (bv1.mono bt.size)
    clear bv1
    refine (szFrame_c W0 H0 _ _ l0 1048576 _ (by omega) (by omega) (by omega)).mono ?_
    rintro e wo2 ⟨rfl, be2⟩
    replace bx1_0 := bx1_0.below be2 (Nat.le_refl _)
    replace bt := bt.trans (be2.mono bt.size)
    have si2 := be2.size
    clear be2
    have bxc := bx1_0
    obtain ⟨_, cx1_0_0, cx1_0_1, cx1_0_2⟩ := bxc
    go_wp2_with fail
    clear cx1_0_0 cx1_0_1 cx1_0_2
    refine (toFrame_c W0 H0 _ _ l0 _ hb0 (r0.below bt (Nat.le_refl _))).mono ?_
    rintro e wo3 ⟨xx3, yy3, rfl, ow3, be3⟩
    replace bx1_0 := bx1_0.below be3 (Nat.le_refl _)
    replace bt := bt.trans (be3.mono bt.size)
    have si3 := be3.size
    clear be3
    have Uow3 := Lib.hid (fun p hp => (ow3.lt p hp).2)
    have bxc := bx1_0
    obtain ⟨_, cx1_0_0, cx1_0_1, cx1_0_2⟩ := bxc
    go_wp2_with fail
    clear cx1_0_0 cx1_0_1 cx1_0_2
    refine (spec.FrameOk_c W0 H0 _ _ l0 _ wW0 wH0 hl0 ow3.row w0).mono ?_
    rintro e wo4 ⟨rfl, be4⟩
    replace ow3 := ow3.below be4 (Nat.le_refl _)
    replace bx1_0 := bx1_0.below be4 (Nat.le_refl _)
    replace bt := bt.trans (be4.mono bt.size)
    have si4 := be4.size
    clear be4
    have bxc := bx1_0
    obtain ⟨_, cx1_0_0, cx1_0_1, cx1_0_2⟩ := bxc
    go_wp2_with fail
    clear cx1_0_0 cx1_0_1 cx1_0_2
    refine (toFrame_c W0 H0 _ _ l0 _ hb0 (r0.below bt (Nat.le_refl _))).mono ?_
    rintro e wo5 ⟨xx5, yy5, rfl, ow5, be5⟩
    replace ow3 := ow3.below be5 (Nat.le_refl _)
    replace bx1_0 := bx1_0.below be5 (Nat.le_refl _)
    replace bt := bt.trans (be5.mono bt.size)
    have si5 := be5.size
    clear be5
    have Uow5 := Lib.hid (fun p hp => (ow5.lt p hp).2)
    have bxc := bx1_0
    obtain ⟨_, cx1_0_0, cx1_0_1, cx1_0_2⟩ := bxc
    go_wp2_with fail
    clear cx1_0_0 cx1_0_1 cx1_0_2
    obtain ⟨vo6, hv6⟩ : ∃ T, T = (wo5.alloc (.cells #[.int .i64 (W0), .int .i64 (H0), .slice xx5 (l0).length yy5] 27)) := ⟨_, rfl⟩
    rw [← hv6]
    have bv6 : Below wo5.heap.size wo5 vo6 := by rw [hv6]; exact ((Below.refl _ _).alloc (Nat.le_refl _) _)
    have si6 : wo5.heap.size + 1 ≤ vo6.heap.size := by rw [hv6]; simp
    have bx6_0 : Box3 vo6 wo5.heap.size (.int .i64 (W0)) (.int .i64 (H0)) (.slice xx5 (l0).length yy5) := by rw [hv6]; exact ⟨by first | (simp; done) | (simp; omega), by simp, by simp, by simp⟩
    clear hv6
    replace ow3 := ow3.below bv6 (Nat.le_refl _)
    replace ow5 := ow5.below bv6 (Nat.le_refl _)
    replace bx1_0 := bx1_0.below bv6 (Nat.le_refl _)
    replace bt := bt.trans (bv6.mono bt.size)
    clear bv6
    refine (impl.FrameOk_c W0 H0 _ _ l0 _ wW0 wH0 hl0 ow5.row w0).mono ?_
    rintro e wo7 ⟨rfl, be7⟩
    replace ow3 := ow3.below be7 (Nat.le_refl _)
    replace ow5 := ow5.below be7 (Nat.le_refl _)
    replace bx1_0 := bx1_0.below be7 (Nat.le_refl _)
    replace bx6_0 := bx6_0.below be7 (Nat.le_refl _)
    replace bt := bt.trans (be7.mono bt.size)
    have si7 := be7.size
    clear be7
    have hne0 : ∀ b : Bool, (b != b) = false := by intro b; cases b <;> rfl
    have bxc := bx1_0
    obtain ⟨_, cx1_0_0, cx1_0_1, cx1_0_2⟩ := bxc
    have bxc := bx6_0
    obtain ⟨_, cx6_0_0, cx6_0_1, cx6_0_2⟩ := bxc
    go_wp2_with fail
    clear cx1_0_0 cx1_0_1 cx1_0_2 cx6_0_0 cx6_0_1 cx6_0_2
    have bxc := bx6_0
    obtain ⟨hlbcx6_0_0, cx6_0_0, cx6_0_1, cx6_0_2⟩ := bxc
    have bxc := bx1_0
    obtain ⟨hlbcx1_0_0, cx1_0_0, cx1_0_1, cx1_0_2⟩ := bxc
    go_region_held3 (fun w' => w'.cell? ⟨wo5.heap.size, 0, none⟩ = some (.int .i64 (W0)) ∧ w'.cell? ⟨wo5.heap.size, 1, none⟩ = some (.int .i64 (H0)) ∧ w'.cell? ⟨wo5.heap.size, 2, none⟩ = some (.slice xx5 (l0).length yy5) ∧ w'.cell? ⟨w.heap.size, 0, none⟩ = some (.int .i64 W0) ∧ w'.cell? ⟨w.heap.size, 1, none⟩ = some (.int .i64 H0) ∧ w'.cell? ⟨w.heap.size, 2, none⟩ = some (.slice a0 l0.length c0)) (first | exact ⟨bx6_0.2.1, bx6_0.2.2.1, bx6_0.2.2.2, bx1_0.2.1, bx1_0.2.2.1, bx1_0.2.2.2⟩ | go_keep)
      ((first
        | (go_at_call 13; with_reducible refine (toFrame_c W0 H0 _ _ l0 _ hb0 (r0.below bt (Nat.le_refl _)).drew).mono ?_
           rintro e wo8 ⟨xx8, yy8, rfl, ow8, be8⟩
           replace ow3 := ow3.drew.below be8 (Nat.le_refl _)
           replace ow5 := ow5.drew.below be8 (Nat.le_refl _)
           replace bx1_0 := bx1_0.drew.below be8 (Nat.le_refl _)
           replace bx6_0 := bx6_0.drew.below be8 (Nat.le_refl _)
           replace bt := (bt.drew).trans (be8.mono bt.size)
           have si8 := be8.size
           have hcw8 := bcell be8)
        | (go_at_call 15; with_reducible refine (eqFrame_t (W0) (H0) _ _ _ _ (l0) _ (by have := hb0; omega) ow5.row ow8.row).mono ?_
           rintro e wo9 ⟨rfl, be9⟩
           replace ow3 := ow3.below be9 (Nat.le_refl _)
           replace ow5 := ow5.below be9 (Nat.le_refl _)
           replace bx1_0 := bx1_0.below be9 (Nat.le_refl _)
           replace bx6_0 := bx6_0.below be9 (Nat.le_refl _)
           replace bt := (bt).trans (be9.mono bt.size)
           have si9 := be9.size
           have hcw9 := bcell be9)))
    clear hlbcx6_0_0 cx6_0_0 cx6_0_1 cx6_0_2 hlbcx1_0_0 cx1_0_0 cx1_0_1 cx1_0_2 hcw8 be8 hcw9 be9
    go_wp2
    go_ret
    exact ⟨rfl, bt⟩
  · have hxx : ¬ (l0.length ≤ 1048576) := by assumption
    go_enter Try.func4, Try.ntmps4
    go_wp2_with fail
    obtain ⟨vo901, hv901⟩ : ∃ T, T = (w.alloc (.cells #[.int .i64 W0, .int .i64 H0, .slice a0 l0.length c0] 24)) := ⟨_, rfl⟩
    rw [← hv901]
    have bv901 : Below w.heap.size w vo901 := by rw [hv901]; exact ((Below.refl _ _).alloc (Nat.le_refl _) _)
    have si901 : w.heap.size + 1 ≤ vo901.heap.size := by rw [hv901]; simp
    have bx901_0 : Box3 vo901 w.heap.size (.int .i64 W0) (.int .i64 H0) (.slice a0 l0.length c0) := by rw [hv901]; exact ⟨by first | (simp; done) | (simp; omega), by simp, by simp, by simp⟩
    clear hv901
    replace bt := bt.trans (bv901.mono bt.size)
    clear bv901
    refine (szFrame_x W0 H0 _ _ l0 1048576 _ (by omega) (by omega) (by omega) n0).mono ?_
    rintro e wo902 ⟨rfl, be902⟩
    replace bx901_0 := bx901_0.below be902 (Nat.le_refl _)
    replace bt := bt.trans (be902.mono bt.size)
    have si902 := be902.size
    clear be902
    go_wp2
    go_ret
    exact ⟨rfl, bt⟩

theorem own : ownKnob Try.prog.godebug = none := by kernel_rfl
theorem laidOut : laidOutB Try.prog = true := by kernel_rfl
set_option maxRecDepth 100000 in
theorem lifted (os : Os) (started : os.Started) (H : Type) (enc : TypeId × Value → H) :
    ReturnsInHanded {} Try.checked os 4 .any (Rows.fnExactFrameOkSpec.pre6 enc Try.prog Try.f4 Rows.fnExactFrameOkRow.domain false) (Rows.fnExactFrameOkSpec.post enc Try.prog Try.f4 false true false false) := by
  refine returnsInHanded_of_change (C := Try.checked) own started (by kernel_rfl) Try.func4
    (ChangeSpec.witness6 (enc := enc) (C := Try.checked) false ⟨#[], #[.agg #[.int .i64 0, .int .i64 0, .slice none 0 0]], []⟩ 8 (by kernel_rfl) (by kernel_rfl) (by kernel_rfl) (by kernel_rfl)) ?_
  intro W base args ds gs before hval0 hW hcnd _
  have hval : ∀ (j : Nat) t v, Try.f4.params[j]? = some t → args[j]? = some v → Value.okWide Try.prog W .any base t v := hval0
  have hW' := hW
  obtain ⟨p, q, hA0, hV, rfl, hfz, hnd⟩ := hW
  have hA : DataW.TrodAll enc Try.prog W 0 (fun _ => true) true Try.f4.params.toList args.toList ds p := hA0
  rw [Try.params4] at hA hval
  obtain ⟨v0, vs0, d0, ds0, p0, q0, hargs, rfl, rfl, h0, tr0⟩ := trodAll_cons hA
  obtain ⟨rfl, rfl, rfl⟩ := trodAll_nil tr0
  obtain rfl : args = #[v0] := by cases args; simp_all
  obtain ⟨rfl, rfl⟩ := trodVars_none hV
  have k0 := h0
  have lt0 : ∀ x ∈ p0, x.block < W.heap.size := by obtain ⟨m, hm⟩ := k0; exact DataW.trod_lt m _ _ _ hm
  obtain ⟨p00, p01, p02, y00, y01, y02, m0, rfl, rfl, _, hy00, hy01, hy02⟩ := open_agg3 Try.underlying24 (by kernel_rfl) (by kernel_rfl) (hval 0 24 v0 rfl rfl) h0
  obtain ⟨W0, wW0, rfl⟩ := cell_int Try.underlying3 hy00
  obtain ⟨H0, wH0, rfl⟩ := cell_int Try.underlying3 hy01
  obtain ⟨a0, c0, l0, r0, w0, n0, rfl⟩ := cell_ints Try.underlying22 Try.underlying3 (by kernel_rfl) hy02
  clear hA0 hval0
  refine (walk W W0 H0 wW0 wH0 a0 c0 l0 r0 w0 n0).mono fun e W' ⟨he, bel⟩ => ?_
  subst he
  exact ⟨_, rfl, _, _, _, [], _, [], hW', trodAll_mk1 (shut_bool Try.underlying4 _), (trodAll_cons_mk (Below.trod laidOut (by kernel_rfl) (of_decide_eq_true (by kernel_rfl)) k0 bel lt0) trodAll_mk0), rfl, bel.frame _, fun h => by cases h⟩

theorem over : Rows.fnExactFrameOkRow.holds Try.pinned (OpenSpec.ofChange Rows.fnExactFrameOkSpec) :=
  OpenClaim.holds_of_wide 4 Try.f4 rfl rfl rfl rfl rfl rfl rfl ⟨rfl, rfl, rfl, rfl, rfl⟩ rfl rfl rfl rfl rfl (by kernel_rfl) Try.func4 (by kernel_rfl)
    (of_decide_eq_true (by kernel_rfl)) (by unfold Func.isWrapper; first | (rw [if_pos (by decide +kernel)]; kernel_rfl) | (rw [if_neg (by decide +kernel)]; exact ⟨rfl, rfl⟩))
    (fun os started H enc _ => lifted os started H enc)

/-- the statement -/
theorem proved : Rows.FnExactFrameOkSaid := over
#print axioms proved
end Go.Proofs.Ytlekgoeibndlcaa.fnExactFrameOk
