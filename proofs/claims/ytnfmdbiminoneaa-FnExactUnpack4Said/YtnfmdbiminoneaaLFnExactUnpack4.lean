/- For every input the law FnExactUnpack4 returns true and leaves its arguments as they were; no condition. -/
import Derived.Test.YtnfmdbiminoneaaMem
import Derived.Test.YtnfmdbiminoneaaFrm
import Derived.Test.YtnfmdbiminoneaaLanes
namespace Go.Proofs.Ytnfmdbiminoneaa.fnExactUnpack4
open Go.ChangeShapes Go.WideShapes Go.ChangeAt Go.RowKit Go.Joins
set_option linter.unusedVariables false

set_option maxHeartbeats 1000000 in
theorem walk (a0 : Int) (w0 : -9223372036854775808 ≤ a0 ∧ a0 ≤ 9223372036854775807) (w : World) :
    Calls Try.prog 9 #[.int .i64 a0] w fun e w' => e = .returned (.bool true) ∧ Below w.heap.size w w' := by
  have bt : Below w.heap.size w w := Below.refl _ _
  go_enter Try.func9, Try.ntmps9
  have HL := Lib.hid (unpackF_len a0 : (unpackF a0).length ≤ 1048576)
  go_wp2_with fail
  refine (spec.Unpack4_c a0 _ w0).mono ?_
  rintro e w1 ⟨x1, y1, rfl, o1, b1⟩
  have bt := bt.trans (b1.mono bt.size)
  have s1 := b1.size
  clear b1
  have Uo1 := Lib.hid (fun p hp => (o1.lt p hp).2)
  go_wp2_with fail
  refine (impl.Unpack4_c a0 _ w0).mono ?_
  rintro e w2 ⟨x2, y2, rfl, o2, b2⟩
  have o1 := o1.below b2 (Nat.le_refl _)
  have bt := bt.trans (b2.mono bt.size)
  have s2 := b2.size
  clear b2
  have Uo2 := Lib.hid (fun p hp => (o2.lt p hp).2)
  go_wp2_with fail
  refine (eqIntS_t _ _ _ _ (unpackF a0) _ (by have := HL.out; omega) o2.row o1.row).mono ?_
  rintro e w3 ⟨rfl, b3⟩
  have o1 := o1.below b3 (Nat.le_refl _)
  have o2 := o2.below b3 (Nat.le_refl _)
  have bt := bt.trans (b3.mono bt.size)
  have s3 := b3.size
  clear b3
  go_wp2_with fail
  refine (markIntS_c _ _ _ (unpackF a0) 1 _ (by have := HL.out; omega) (by omega) (by omega) o2).mono ?_
  rintro e w4 ⟨rfl, q4, k4⟩
  have o1 := o1.grown k4 (ne_up (N := w1.heap.size) (fun p hp => Nat.lt_of_lt_of_le (Uo1.out p hp) (by omega)) (o2.ge (Nat.le_refl _)))
  have bt := below_mark bt k4 bt.size (o2.ge (by omega))
  have s4 := k4.size
  clear k4
  have o2 := q4
  clear q4
  go_wp2_with fail
  refine (heldIntS_b _ _ (unpackF a0).length 1 _ (by have := HL.out; omega) (by omega) (by omega) o2.row).mono ?_
  rintro e w5 ⟨rfl, b5⟩
  have o1 := o1.below b5 (Nat.le_refl _)
  have o2 := o2.below b5 (Nat.le_refl _)
  have bt := bt.trans (b5.mono bt.size)
  have s5 := b5.size
  clear b5
  go_wp2_with fail
  refine (impl.Unpack4_c a0 _ w0).mono ?_
  rintro e w6 ⟨x6, y6, rfl, o6, b6⟩
  have o1 := o1.below b6 (Nat.le_refl _)
  have o2 := o2.below b6 (Nat.le_refl _)
  have bt := bt.trans (b6.mono bt.size)
  have s6 := b6.size
  clear b6
  have Uo6 := Lib.hid (fun p hp => (o6.lt p hp).2)
  go_wp2_with fail
  refine (eqIntS_t _ _ _ _ (unpackF a0) _ (by have := HL.out; omega) o6.row o1.row).mono ?_
  rintro e w7 ⟨rfl, b7⟩
  have o1 := o1.below b7 (Nat.le_refl _)
  have o2 := o2.below b7 (Nat.le_refl _)
  have o6 := o6.below b7 (Nat.le_refl _)
  have bt := bt.trans (b7.mono bt.size)
  have s7 := b7.size
  clear b7
  go_wp2_with fail
  refine (heldIntS_b _ _ (unpackF a0).length 1 _ (by have := HL.out; omega) (by omega) (by omega) o2.row).mono ?_
  rintro e w8 ⟨rfl, b8⟩
  have o1 := o1.below b8 (Nat.le_refl _)
  have o2 := o2.below b8 (Nat.le_refl _)
  have o6 := o6.below b8 (Nat.le_refl _)
  have bt := bt.trans (b8.mono bt.size)
  have s8 := b8.size
  clear b8
  go_wp2
  go_ret
  exact ⟨rfl, bt⟩

theorem own : ownKnob Try.prog.godebug = none := by kernel_rfl
theorem laidOut : laidOutB Try.prog = true := by kernel_rfl
set_option maxRecDepth 100000 in
theorem lifted (os : Os) (started : os.Started) (H : Type) (enc : TypeId × Value → H) :
    ReturnsInHanded {} Try.checked os 9 .any (Rows.fnExactUnpack4Spec.pre6 enc Try.prog Try.f9 Rows.fnExactUnpack4Row.domain false) (Rows.fnExactUnpack4Spec.post enc Try.prog Try.f9 false true false false) := by
  refine returnsInHanded_of_change (C := Try.checked) own started (by kernel_rfl) Try.func9
    (ChangeSpec.witness6 (enc := enc) (C := Try.checked) false ⟨#[], #[.int .i64 0], []⟩ 8 (by kernel_rfl) (by kernel_rfl) (by kernel_rfl) (by kernel_rfl)) ?_
  intro W base args ds gs before hval0 hW hcnd _
  have hval : ∀ (j : Nat) t v, Try.f9.params[j]? = some t → args[j]? = some v → Value.okWide Try.prog W .any base t v := hval0
  have hW' := hW
  obtain ⟨p, q, hA0, hV, rfl, hfz, hnd⟩ := hW
  have hA : DataW.TrodAll enc Try.prog W 0 (fun _ => true) true Try.f9.params.toList args.toList ds p := hA0
  rw [Try.params9] at hA hval
  obtain ⟨v0, vs0, d0, ds0, p0, q0, hargs, rfl, rfl, h0, r0⟩ := trodAll_cons hA
  obtain ⟨rfl, rfl, rfl⟩ := trodAll_nil r0
  obtain rfl : args = #[v0] := by cases args; simp_all
  obtain ⟨rfl, rfl⟩ := trodVars_none hV
  have k0 := h0
  have lt0 : ∀ x ∈ p0, x.block < W.heap.size := by obtain ⟨m, hm⟩ := k0; exact DataW.trod_lt m _ _ _ hm
  obtain ⟨a0, rfl, rfl, rfl, w0⟩ := open_int Try.underlying3 (hval 0 3 v0 rfl rfl) h0
  clear hA0 hval0
  refine (walk a0 (wf_i64 w0) W).mono fun e W' ⟨he, bel⟩ => ?_
  subst he
  exact ⟨_, rfl, _, _, _, [], _, [], hW', trodAll_mk1 (shut_bool Try.underlying4 _), (trodAll_cons_mk (Below.trod laidOut (by kernel_rfl) (of_decide_eq_true (by kernel_rfl)) k0 bel lt0) trodAll_mk0), rfl, bel.frame _, fun h => by cases h⟩

theorem over : Rows.fnExactUnpack4Row.holds Try.pinned (OpenSpec.ofChange Rows.fnExactUnpack4Spec) :=
  OpenClaim.holds_of_wide 9 Try.f9 rfl rfl rfl rfl rfl rfl rfl ⟨rfl, rfl, rfl, rfl, rfl⟩ rfl rfl rfl rfl rfl (by kernel_rfl) Try.func9 (by kernel_rfl)
    (of_decide_eq_true (by kernel_rfl)) (by unfold Func.isWrapper; first | (rw [if_pos (by decide +kernel)]; kernel_rfl) | (rw [if_neg (by decide +kernel)]; exact ⟨rfl, rfl⟩))
    (fun os started H enc _ => lifted os started H enc)

/-- the statement -/
theorem proved : Rows.FnExactUnpack4Said := over
#print axioms proved
end Go.Proofs.Ytnfmdbiminoneaa.fnExactUnpack4
