/- For every input the law FnExactPredAt returns true and leaves its arguments as they were; no condition. -/
import Derived.Test.YtnbkkhaahfnlfaaMem
import Derived.Test.YtnbkkhaahfnlfaaFrm
import Derived.Test.YtnbkkhaahfnlfaaPredAt
namespace Go.Proofs.Ytnbkkhaahfnlfaa.fnExactPredAt
open Go.ChangeShapes Go.WideShapes Go.ChangeAt Go.RowKit Go.Joins
set_option linter.unusedVariables false

set_option maxHeartbeats 4000000 in
theorem walk (w : World) (a0 : Int) (w0 : -9223372036854775808 ≤ a0 ∧ a0 ≤ 9223372036854775807) (a1 b1 : Option Addr) (c1 d1 : Nat) (l1 m1 : List Int) (r1 : Row w a1 l1) (s1 : Row w b1 m1) (w1 : ∀ x ∈ l1, -9223372036854775808 ≤ x ∧ x ≤ 9223372036854775807) (u1 : ∀ x ∈ m1, -9223372036854775808 ≤ x ∧ x ≤ 9223372036854775807) (C1 : Int) (wC1 : -9223372036854775808 ≤ C1 ∧ C1 ≤ 9223372036854775807) (T1 L1 : Bool) (n1 : l1.length ≤ 9223372036854775807) (o1 : m1.length ≤ 9223372036854775807) (a2 : Int) (w2 : -9223372036854775808 ≤ a2 ∧ a2 ≤ 9223372036854775807) (a3 : Int) (w3 : -9223372036854775808 ≤ a3 ∧ a3 ≤ 9223372036854775807) (a4 : Int) (w4 : -9223372036854775808 ≤ a4 ∧ a4 ≤ 9223372036854775807) :
    Calls Try.prog 7 #[.int .i64 a0, .agg #[.slice a1 l1.length c1, .slice b1 m1.length d1, .int .i64 C1, .bool T1, .bool L1], .int .i64 a2, .int .i64 a3, .int .i64 a4] w fun e w' => e = .returned (.bool true) ∧ Below w.heap.size w w' := by
  have bt : Below w.heap.size w w := Below.refl _ _
  by_cases hs1 : l1.length + m1.length ≤ 1048576
  · have hb1 : l1.length ≤ 1048576 := by omega
    have hl1 : l1.length ≤ 1099511627776 := by omega
    have hc1 : m1.length ≤ 1048576 := by omega
    have hm1 : m1.length ≤ 1099511627776 := by omega
    go_enter Try.func7, Try.ntmps7
    go_wp2_with fail
    obtain ⟨vo1, hv1⟩ : ∃ T, T = (w.alloc (.cells #[.slice a1 l1.length c1, .slice b1 m1.length d1, .int .i64 C1, .bool T1, .bool L1] 24)) := ⟨_, rfl⟩
    rw [← hv1]
    have bv1 : Below w.heap.size w vo1 := by rw [hv1]; exact ((Below.refl _ _).alloc (Nat.le_refl _) _)
    have si1 : w.heap.size + 1 ≤ vo1.heap.size := by rw [hv1]; simp
    have bx1_0 : Box5 vo1 w.heap.size (.slice a1 l1.length c1) (.slice b1 m1.length d1) (.int .i64 C1) (.bool T1) (.bool L1) := by rw [hv1]; exact ⟨by first | (simp; done) | (simp; omega), by simp, by simp, by simp, by simp, by simp⟩
    clear hv1
    replace bt := bt.trans (bv1.mono bt.size)
    clear bv1
    refine (szNb_c _ _ l1 _ _ m1 C1 T1 L1 1048576 _ (by omega) (by omega) (by omega)).mono ?_
    rintro e wo2 ⟨rfl, be2⟩
    replace bx1_0 := bx1_0.below be2 (Nat.le_refl _)
    replace bt := bt.trans (be2.mono bt.size)
    have si2 := be2.size
    clear be2
    have bxc := bx1_0
    obtain ⟨_, cx1_0_0, cx1_0_1, cx1_0_2, cx1_0_3, cx1_0_4⟩ := bxc
    go_wp2_with fail
    clear cx1_0_0 cx1_0_1 cx1_0_2 cx1_0_3 cx1_0_4
    refine (toNb_c _ _ l1 _ _ m1 C1 T1 L1 _ hb1 (r1.below bt (Nat.le_refl _)) hc1 (s1.below bt (Nat.le_refl _))).mono ?_
    rintro e wo3 ⟨xx3, yy3, zz3, vv3, rfl, ow3, ox3, on3, be3⟩
    replace bx1_0 := bx1_0.below be3 (Nat.le_refl _)
    replace bt := bt.trans (be3.mono bt.size)
    have si3 := be3.size
    clear be3
    replace on3 := Lib.hid on3
    have Uow3 := Lib.hid (fun p hp => (ow3.lt p hp).2)
    have Uox3 := Lib.hid (fun p hp => (ox3.lt p hp).2)
    have bxc := bx1_0
    obtain ⟨_, cx1_0_0, cx1_0_1, cx1_0_2, cx1_0_3, cx1_0_4⟩ := bxc
    go_wp2_with fail
    clear cx1_0_0 cx1_0_1 cx1_0_2 cx1_0_3 cx1_0_4
    refine (spec.PredAt_c a0 _ _ l1 _ _ m1 C1 T1 L1 a2 a3 a4 _ hl1 ow3.row w1 hm1 ox3.row u1 wC1 ow3.cap ox3.cap).mono ?_
    rintro e wo4 ⟨rfl, be4⟩
    replace ow3 := ow3.below be4 (Nat.le_refl _)
    replace ox3 := ox3.below be4 (Nat.le_refl _)
    replace bx1_0 := bx1_0.below be4 (Nat.le_refl _)
    replace bt := bt.trans (be4.mono bt.size)
    have si4 := be4.size
    clear be4
    have bxc := bx1_0
    obtain ⟨_, cx1_0_0, cx1_0_1, cx1_0_2, cx1_0_3, cx1_0_4⟩ := bxc
    go_wp2_with fail
    clear cx1_0_0 cx1_0_1 cx1_0_2 cx1_0_3 cx1_0_4
    refine (toNb_c _ _ l1 _ _ m1 C1 T1 L1 _ hb1 (r1.below bt (Nat.le_refl _)) hc1 (s1.below bt (Nat.le_refl _))).mono ?_
    rintro e wo5 ⟨xx5, yy5, zz5, vv5, rfl, ow5, ox5, on5, be5⟩
    replace ow3 := ow3.below be5 (Nat.le_refl _)
    replace ox3 := ox3.below be5 (Nat.le_refl _)
    replace bx1_0 := bx1_0.below be5 (Nat.le_refl _)
    replace bt := bt.trans (be5.mono bt.size)
    have si5 := be5.size
    clear be5
    replace on5 := Lib.hid on5
    have Uow5 := Lib.hid (fun p hp => (ow5.lt p hp).2)
    have Uox5 := Lib.hid (fun p hp => (ox5.lt p hp).2)
    have bxc := bx1_0
    obtain ⟨_, cx1_0_0, cx1_0_1, cx1_0_2, cx1_0_3, cx1_0_4⟩ := bxc
    go_wp2_with fail
    clear cx1_0_0 cx1_0_1 cx1_0_2 cx1_0_3 cx1_0_4
    obtain ⟨vo6, hv6⟩ : ∃ T, T = (wo5.alloc (.cells #[.slice xx5 (l1).length yy5, .slice zz5 (m1).length vv5, .int .i64 (C1), .bool (T1), .bool (L1)] 27)) := ⟨_, rfl⟩
    rw [← hv6]
    have bv6 : Below wo5.heap.size wo5 vo6 := by rw [hv6]; exact ((Below.refl _ _).alloc (Nat.le_refl _) _)
    have si6 : wo5.heap.size + 1 ≤ vo6.heap.size := by rw [hv6]; simp
    have bx6_0 : Box5 vo6 wo5.heap.size (.slice xx5 (l1).length yy5) (.slice zz5 (m1).length vv5) (.int .i64 (C1)) (.bool (T1)) (.bool (L1)) := by rw [hv6]; exact ⟨by first | (simp; done) | (simp; omega), by simp, by simp, by simp, by simp, by simp⟩
    clear hv6
    replace ow3 := ow3.below bv6 (Nat.le_refl _)
    replace ox3 := ox3.below bv6 (Nat.le_refl _)
    replace ow5 := ow5.below bv6 (Nat.le_refl _)
    replace ox5 := ox5.below bv6 (Nat.le_refl _)
    replace bx1_0 := bx1_0.below bv6 (Nat.le_refl _)
    replace bt := bt.trans (bv6.mono bt.size)
    clear bv6
    refine (impl.PredAt_c a0 _ _ l1 _ _ m1 C1 T1 L1 a2 a3 a4 _ hl1 ow5.row w1 hm1 ox5.row u1 wC1 ow5.cap ox5.cap).mono ?_
    rintro e wo7 ⟨rfl, be7⟩
    replace ow3 := ow3.below be7 (Nat.le_refl _)
    replace ox3 := ox3.below be7 (Nat.le_refl _)
    replace ow5 := ow5.below be7 (Nat.le_refl _)
    replace ox5 := ox5.below be7 (Nat.le_refl _)
    replace bx1_0 := bx1_0.below be7 (Nat.le_refl _)
    replace bx6_0 := bx6_0.below be7 (Nat.le_refl _)
    replace bt := bt.trans (be7.mono bt.size)
    have si7 := be7.size
    clear be7
    have hne0 : ∀ b : Int, (b != b) = false := by intro b; simp
    have bxc := bx1_0
    obtain ⟨_, cx1_0_0, cx1_0_1, cx1_0_2, cx1_0_3, cx1_0_4⟩ := bxc
    have bxc := bx6_0
    obtain ⟨_, cx6_0_0, cx6_0_1, cx6_0_2, cx6_0_3, cx6_0_4⟩ := bxc
    go_wp2_with fail
    clear cx1_0_0 cx1_0_1 cx1_0_2 cx1_0_3 cx1_0_4 cx6_0_0 cx6_0_1 cx6_0_2 cx6_0_3 cx6_0_4
    have bxc := bx6_0
    obtain ⟨hlbcx6_0_0, cx6_0_0, cx6_0_1, cx6_0_2, cx6_0_3, cx6_0_4⟩ := bxc
    have bxc := bx1_0
    obtain ⟨hlbcx1_0_0, cx1_0_0, cx1_0_1, cx1_0_2, cx1_0_3, cx1_0_4⟩ := bxc
    go_region_held3 (fun w' => w'.cell? ⟨wo5.heap.size, 0, none⟩ = some (.slice xx5 (l1).length yy5) ∧ w'.cell? ⟨wo5.heap.size, 1, none⟩ = some (.slice zz5 (m1).length vv5) ∧ w'.cell? ⟨wo5.heap.size, 2, none⟩ = some (.int .i64 (C1)) ∧ w'.cell? ⟨wo5.heap.size, 3, none⟩ = some (.bool (T1)) ∧ w'.cell? ⟨wo5.heap.size, 4, none⟩ = some (.bool (L1)) ∧ w'.cell? ⟨w.heap.size, 0, none⟩ = some (.slice a1 l1.length c1) ∧ w'.cell? ⟨w.heap.size, 1, none⟩ = some (.slice b1 m1.length d1) ∧ w'.cell? ⟨w.heap.size, 2, none⟩ = some (.int .i64 C1) ∧ w'.cell? ⟨w.heap.size, 3, none⟩ = some (.bool T1) ∧ w'.cell? ⟨w.heap.size, 4, none⟩ = some (.bool L1)) (first | exact ⟨bx6_0.2.1, bx6_0.2.2.1, bx6_0.2.2.2.1, bx6_0.2.2.2.2.1, bx6_0.2.2.2.2.2, bx1_0.2.1, bx1_0.2.2.1, bx1_0.2.2.2.1, bx1_0.2.2.2.2.1, bx1_0.2.2.2.2.2⟩ | go_keep)
      ((first
        | (go_at_call 12; with_reducible refine (toNb_c _ _ l1 _ _ m1 C1 T1 L1 _ hb1 (r1.below bt (Nat.le_refl _)).drew hc1 (s1.below bt (Nat.le_refl _)).drew).mono ?_
           rintro e wo8 ⟨xx8, yy8, zz8, vv8, rfl, ow8, ox8, _, be8⟩
           replace ow3 := ow3.drew.below be8 (Nat.le_refl _)
           replace ox3 := ox3.drew.below be8 (Nat.le_refl _)
           replace ow5 := ow5.drew.below be8 (Nat.le_refl _)
           replace ox5 := ox5.drew.below be8 (Nat.le_refl _)
           replace bx1_0 := bx1_0.drew.below be8 (Nat.le_refl _)
           replace bx6_0 := bx6_0.drew.below be8 (Nat.le_refl _)
           replace bt := (bt.drew).trans (be8.mono bt.size)
           have si8 := be8.size
           have hcw8 := bcell be8)
        | (go_at_call 14; with_reducible refine (eqNb_t _ _ _ _ _ _ _ _ (l1) (m1) (C1) (T1) (L1) _ (by have := hb1; omega) (by have := hc1; omega) ow5.row ow8.row ox5.row ox8.row).mono ?_
           rintro e wo9 ⟨rfl, be9⟩
           replace ow3 := ow3.below be9 (Nat.le_refl _)
           replace ox3 := ox3.below be9 (Nat.le_refl _)
           replace ow5 := ow5.below be9 (Nat.le_refl _)
           replace ox5 := ox5.below be9 (Nat.le_refl _)
           replace bx1_0 := bx1_0.below be9 (Nat.le_refl _)
           replace bx6_0 := bx6_0.below be9 (Nat.le_refl _)
           replace bt := (bt).trans (be9.mono bt.size)
           have si9 := be9.size
           have hcw9 := bcell be9)))
    clear hlbcx6_0_0 cx6_0_0 cx6_0_1 cx6_0_2 cx6_0_3 cx6_0_4 hlbcx1_0_0 cx1_0_0 cx1_0_1 cx1_0_2 cx1_0_3 cx1_0_4 hcw8 be8 hcw9 be9
    go_wp2
    go_ret
    exact ⟨rfl, bt⟩
  · have hxx : ¬ (l1.length + m1.length ≤ 1048576) := by assumption
    go_enter Try.func7, Try.ntmps7
    go_wp2_with fail
    obtain ⟨vo901, hv901⟩ : ∃ T, T = (w.alloc (.cells #[.slice a1 l1.length c1, .slice b1 m1.length d1, .int .i64 C1, .bool T1, .bool L1] 24)) := ⟨_, rfl⟩
    rw [← hv901]
    have bv901 : Below w.heap.size w vo901 := by rw [hv901]; exact ((Below.refl _ _).alloc (Nat.le_refl _) _)
    have si901 : w.heap.size + 1 ≤ vo901.heap.size := by rw [hv901]; simp
    have bx901_0 : Box5 vo901 w.heap.size (.slice a1 l1.length c1) (.slice b1 m1.length d1) (.int .i64 C1) (.bool T1) (.bool L1) := by rw [hv901]; exact ⟨by first | (simp; done) | (simp; omega), by simp, by simp, by simp, by simp, by simp⟩
    clear hv901
    replace bt := bt.trans (bv901.mono bt.size)
    clear bv901
    refine (szNb_x _ _ l1 _ _ m1 C1 T1 L1 1048576 _ (by omega) (by omega) (by omega) n1 o1).mono ?_
    rintro e wo902 ⟨rfl, be902⟩
    replace bx901_0 := bx901_0.below be902 (Nat.le_refl _)
    replace bt := bt.trans (be902.mono bt.size)
    have si902 := be902.size
    clear be902
    go_wp2
    go_ret
    exact ⟨rfl, bt⟩

theorem own : ownKnob Try.prog.godebug = none := by kernel_rfl
theorem laidOut : laidOutB Try.prog = true := by kernel_rfl
set_option maxRecDepth 100000 in
theorem lifted (os : Os) (started : os.Started) (H : Type) (enc : TypeId × Value → H) :
    ReturnsInHanded {} Try.checked os 7 .any (Rows.fnExactPredAtSpec.pre6 enc Try.prog Try.f7 Rows.fnExactPredAtRow.domain false) (Rows.fnExactPredAtSpec.post enc Try.prog Try.f7 false true false false) := by
  refine returnsInHanded_of_change (C := Try.checked) own started (by kernel_rfl) Try.func7
    (ChangeSpec.witness6 (enc := enc) (C := Try.checked) false ⟨#[], #[.int .i64 0, .agg #[.slice none 0 0, .slice none 0 0, .int .i64 0, .bool false, .bool false], .int .i64 0, .int .i64 0, .int .i64 0], []⟩ 8 (by kernel_rfl) (by kernel_rfl) (by kernel_rfl) (by kernel_rfl)) ?_
  intro W base args ds gs before hval0 hW hcnd _
  have hval : ∀ (j : Nat) t v, Try.f7.params[j]? = some t → args[j]? = some v → Value.okWide Try.prog W .any base t v := hval0
  have hW' := hW
  obtain ⟨p, q, hA0, hV, rfl, hfz, hnd⟩ := hW
  have hA : DataW.TrodAll enc Try.prog W 0 (fun _ => true) true Try.f7.params.toList args.toList ds p := hA0
  rw [Try.params7] at hA hval
  obtain ⟨v0, vs0, d0, ds0, p0, q0, hargs, rfl, rfl, h0, tr0⟩ := trodAll_cons hA
  obtain ⟨v1, vs1, d1, ds1, p1, q1, rfl, rfl, rfl, h1, tr1⟩ := trodAll_cons tr0
  obtain ⟨v2, vs2, d2, ds2, p2, q2, rfl, rfl, rfl, h2, tr2⟩ := trodAll_cons tr1
  obtain ⟨v3, vs3, d3, ds3, p3, q3, rfl, rfl, rfl, h3, tr3⟩ := trodAll_cons tr2
  obtain ⟨v4, vs4, d4, ds4, p4, q4, rfl, rfl, rfl, h4, tr4⟩ := trodAll_cons tr3
  obtain ⟨rfl, rfl, rfl⟩ := trodAll_nil tr4
  obtain rfl : args = #[v0, v1, v2, v3, v4] := by cases args; simp_all
  obtain ⟨rfl, rfl⟩ := trodVars_none hV
  have k0 := h0
  have lt0 : ∀ x ∈ p0, x.block < W.heap.size := by obtain ⟨m, hm⟩ := k0; exact DataW.trod_lt m _ _ _ hm
  have k1 := h1
  have lt1 : ∀ x ∈ p1, x.block < W.heap.size := by obtain ⟨m, hm⟩ := k1; exact DataW.trod_lt m _ _ _ hm
  have k2 := h2
  have lt2 : ∀ x ∈ p2, x.block < W.heap.size := by obtain ⟨m, hm⟩ := k2; exact DataW.trod_lt m _ _ _ hm
  have k3 := h3
  have lt3 : ∀ x ∈ p3, x.block < W.heap.size := by obtain ⟨m, hm⟩ := k3; exact DataW.trod_lt m _ _ _ hm
  have k4 := h4
  have lt4 : ∀ x ∈ p4, x.block < W.heap.size := by obtain ⟨m, hm⟩ := k4; exact DataW.trod_lt m _ _ _ hm
  obtain ⟨a0, rfl, rfl, rfl, w0⟩ := open_int Try.underlying3 (hval 0 3 v0 rfl rfl) h0
  obtain ⟨p10, p11, p12, p13, p14, y10, y11, y12, y13, y14, fu1, rfl, rfl, _, hy10, hy11, hy12, hy13, hy14⟩ := open_agg_five Try.underlying24 (by kernel_rfl) (by kernel_rfl) (hval 1 24 v1 rfl rfl) h1
  obtain ⟨a1, c1, l1, r1, w1, n1, rfl⟩ := cell_ints Try.underlying22 Try.underlying3 (by kernel_rfl) hy10
  obtain ⟨b1, d1, m1, s1, u1, o1, rfl⟩ := cell_ints Try.underlying22 Try.underlying3 (by kernel_rfl) hy11
  obtain ⟨C1, wC1, rfl⟩ := cell_int Try.underlying3 hy12
  obtain ⟨T1, rfl⟩ := cell_bool Try.underlying4 hy13
  obtain ⟨L1, rfl⟩ := cell_bool Try.underlying4 hy14
  obtain ⟨a2, rfl, rfl, rfl, w2⟩ := open_int Try.underlying3 (hval 2 3 v2 rfl rfl) h2
  obtain ⟨a3, rfl, rfl, rfl, w3⟩ := open_int Try.underlying3 (hval 3 3 v3 rfl rfl) h3
  obtain ⟨a4, rfl, rfl, rfl, w4⟩ := open_int Try.underlying3 (hval 4 3 v4 rfl rfl) h4
  clear hA0 hval0
  refine (walk W a0 (wf_i64 w0) a1 b1 c1 d1 l1 m1 r1 s1 w1 u1 C1 wC1 T1 L1 n1 o1 a2 (wf_i64 w2) a3 (wf_i64 w3) a4 (wf_i64 w4)).mono fun e W' ⟨he, bel⟩ => ?_
  subst he
  exact ⟨_, rfl, _, _, _, [], _, [], hW', trodAll_mk1 (shut_bool Try.underlying4 _), (trodAll_cons_mk (Below.trod laidOut (by kernel_rfl) (of_decide_eq_true (by kernel_rfl)) k0 bel lt0) (trodAll_cons_mk (Below.trod laidOut (by kernel_rfl) (of_decide_eq_true (by kernel_rfl)) k1 bel lt1) (trodAll_cons_mk (Below.trod laidOut (by kernel_rfl) (of_decide_eq_true (by kernel_rfl)) k2 bel lt2) (trodAll_cons_mk (Below.trod laidOut (by kernel_rfl) (of_decide_eq_true (by kernel_rfl)) k3 bel lt3) (trodAll_cons_mk (Below.trod laidOut (by kernel_rfl) (of_decide_eq_true (by kernel_rfl)) k4 bel lt4) trodAll_mk0))))), rfl, bel.frame _, fun h => by cases h⟩

theorem over : Rows.fnExactPredAtRow.holds Try.pinned (OpenSpec.ofChange Rows.fnExactPredAtSpec) :=
  OpenClaim.holds_of_wide 7 Try.f7 rfl rfl rfl rfl rfl rfl rfl ⟨rfl, rfl, rfl, rfl, rfl⟩ rfl rfl rfl rfl rfl (by kernel_rfl) Try.func7 (by kernel_rfl)
    (of_decide_eq_true (by kernel_rfl)) (by unfold Func.isWrapper; first | (rw [if_pos (by decide +kernel)]; kernel_rfl) | (rw [if_neg (by decide +kernel)]; exact ⟨rfl, rfl⟩))
    (fun os started H enc _ => lifted os started H enc)

/-- the statement -/
theorem proved : Rows.FnExactPredAtSaid := over
#print axioms proved
end Go.Proofs.Ytnbkkhaahfnlfaa.fnExactPredAt
