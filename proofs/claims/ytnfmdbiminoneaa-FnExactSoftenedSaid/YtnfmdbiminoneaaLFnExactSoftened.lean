/- For every input the law FnExactSoftened returns true and leaves its arguments as they were; no condition. -/
import Derived.Test.YtnfmdbiminoneaaMem
import Derived.Test.YtnfmdbiminoneaaFrm
import Derived.Test.YtnfmdbiminoneaaSoft
namespace Go.Proofs.Ytnfmdbiminoneaa.fnExactSoftened
open Go.ChangeShapes Go.WideShapes Go.ChangeAt Go.RowKit Go.Joins
set_option linter.unusedVariables false

set_option maxHeartbeats 1000000 in
theorem walk (w : World) (a0 : Option Addr) (c0 : Nat) (l0 : List Int) (r0 : Row w a0 l0) (w0 : ∀ x ∈ l0, -9223372036854775808 ≤ x ∧ x ≤ 9223372036854775807) :
    Calls Try.prog 3 #[.slice a0 l0.length c0] w fun e w' => e = .returned (.bool true) ∧ Below w.heap.size w w' := by
  have bt : Below w.heap.size w w := Below.refl _ _
  by_cases hb0 : l0.length ≤ 1048576
  · have hl0 : l0.length ≤ 1099511627776 := by omega
    go_enter Try.func3, Try.ntmps3
    have HL := Lib.hid (Nat.le_trans (softL_len l0) hb0 : (softL l0).length ≤ 1048576)
    go_wp2_with fail
    refine (toIntS_c _ _ l0 _ hb0 (r0.below bt (Nat.le_refl _))).mono ?_
    rintro e w1 ⟨g1, rfl, hg1, o1, b1⟩
    have bt := bt.trans (b1.mono bt.size)
    have s1 := b1.size
    clear b1
    clear hg1
    have Uo1 := Lib.hid (fun p hp => (o1.lt p hp).2)
    go_wp2_with fail
    refine (spec.Softened_c _ _ l0 _ hl0 o1.row w0).mono ?_
    rintro e w2 ⟨x2, y2, rfl, o2, b2⟩
    have o1 := o1.below b2 (Nat.le_refl _)
    have bt := bt.trans (b2.mono bt.size)
    have s2 := b2.size
    clear b2
    have Uo2 := Lib.hid (fun p hp => (o2.lt p hp).2)
    go_wp2_with fail
    refine (toIntS_c _ _ l0 _ hb0 (r0.below bt (Nat.le_refl _))).mono ?_
    rintro e w3 ⟨g3, rfl, hg3, o3, b3⟩
    have o1 := o1.below b3 (Nat.le_refl _)
    have o2 := o2.below b3 (Nat.le_refl _)
    have bt := bt.trans (b3.mono bt.size)
    have s3 := b3.size
    clear b3
    clear hg3
    have Uo3 := Lib.hid (fun p hp => (o3.lt p hp).2)
    go_wp2_with fail
    refine (impl.Softened_c _ _ l0 _ hl0 o3.row w0).mono ?_
    rintro e w4 ⟨x4, y4, rfl, o4, b4⟩
    have o1 := o1.below b4 (Nat.le_refl _)
    have o2 := o2.below b4 (Nat.le_refl _)
    have o3 := o3.below b4 (Nat.le_refl _)
    have bt := bt.trans (b4.mono bt.size)
    have s4 := b4.size
    clear b4
    have Uo4 := Lib.hid (fun p hp => (o4.lt p hp).2)
    go_wp2_with fail
    refine (eqIntS_t _ _ _ _ (softL l0) _ (by have := HL.out; omega) o4.row o2.row).mono ?_
    rintro e w5 ⟨rfl, b5⟩
    have o1 := o1.below b5 (Nat.le_refl _)
    have o2 := o2.below b5 (Nat.le_refl _)
    have o3 := o3.below b5 (Nat.le_refl _)
    have o4 := o4.below b5 (Nat.le_refl _)
    have bt := bt.trans (b5.mono bt.size)
    have s5 := b5.size
    clear b5
    go_wp2_with fail
    refine (toIntS_c _ _ l0 _ hb0 (r0.below bt (Nat.le_refl _))).mono ?_
    rintro e w6 ⟨g6, rfl, hg6, o6, b6⟩
    have o1 := o1.below b6 (Nat.le_refl _)
    have o2 := o2.below b6 (Nat.le_refl _)
    have o3 := o3.below b6 (Nat.le_refl _)
    have o4 := o4.below b6 (Nat.le_refl _)
    have bt := bt.trans (b6.mono bt.size)
    have s6 := b6.size
    clear b6
    clear hg6
    have Uo6 := Lib.hid (fun p hp => (o6.lt p hp).2)
    go_wp2_with fail
    refine (eqIntS_t _ _ _ _ (l0) _ (by have := hb0; omega) o3.row o6.row).mono ?_
    rintro e w7 ⟨rfl, b7⟩
    have o1 := o1.below b7 (Nat.le_refl _)
    have o2 := o2.below b7 (Nat.le_refl _)
    have o3 := o3.below b7 (Nat.le_refl _)
    have o4 := o4.below b7 (Nat.le_refl _)
    have o6 := o6.below b7 (Nat.le_refl _)
    have bt := bt.trans (b7.mono bt.size)
    have s7 := b7.size
    clear b7
    go_wp2_with fail
    refine (markIntS_c _ _ _ (l0) 1 _ (by have := hb0; omega) (by omega) (by omega) o3).mono ?_
    rintro e w8 ⟨rfl, q8, k8⟩
    have o1 := o1.grown k8 (ne_up (N := w2.heap.size) (fun p hp => Nat.lt_of_lt_of_le (Uo1.out p hp) (by omega)) (o3.ge (Nat.le_refl _)))
    have o2 := o2.grown k8 (ne_up (N := w2.heap.size) (fun p hp => Nat.lt_of_lt_of_le (Uo2.out p hp) (by omega)) (o3.ge (Nat.le_refl _)))
    have o4 := o4.grown k8 (ne_down (o4.ge (Nat.le_refl _)) (fun p hp => Nat.lt_of_lt_of_le (Uo3.out p hp) (by omega)))
    have o6 := o6.grown k8 (ne_down (o6.ge (Nat.le_refl _)) (fun p hp => Nat.lt_of_lt_of_le (Uo3.out p hp) (by omega)))
    have bt := below_mark bt k8 bt.size (o3.ge (by omega))
    have s8 := k8.size
    clear k8
    have o3 := q8
    clear q8
    go_wp2_with fail
    refine (eqIntS_t _ _ _ _ (softL l0) _ (by have := HL.out; omega) o4.row o2.row).mono ?_
    rintro e w9 ⟨rfl, b9⟩
    have o1 := o1.below b9 (Nat.le_refl _)
    have o2 := o2.below b9 (Nat.le_refl _)
    have o3 := o3.below b9 (Nat.le_refl _)
    have o4 := o4.below b9 (Nat.le_refl _)
    have o6 := o6.below b9 (Nat.le_refl _)
    have bt := bt.trans (b9.mono bt.size)
    have s9 := b9.size
    clear b9
    go_wp2_with fail
    refine (markIntS_c _ _ _ (softL l0) 1 _ (by have := HL.out; omega) (by omega) (by omega) o4).mono ?_
    rintro e w10 ⟨rfl, q10, k10⟩
    have o1 := o1.grown k10 (ne_up (N := w3.heap.size) (fun p hp => Nat.lt_of_lt_of_le (Uo1.out p hp) (by omega)) (o4.ge (Nat.le_refl _)))
    have o2 := o2.grown k10 (ne_up (N := w3.heap.size) (fun p hp => Nat.lt_of_lt_of_le (Uo2.out p hp) (by omega)) (o4.ge (Nat.le_refl _)))
    have o3 := o3.grown k10 (ne_up (N := w3.heap.size) (fun p hp => Nat.lt_of_lt_of_le (Uo3.out p hp) (by omega)) (o4.ge (Nat.le_refl _)))
    have o6 := o6.grown k10 (ne_down (o6.ge (Nat.le_refl _)) (fun p hp => Nat.lt_of_lt_of_le (Uo4.out p hp) (by omega)))
    have bt := below_mark bt k10 bt.size (o4.ge (by omega))
    have s10 := k10.size
    clear k10
    have o4 := q10
    clear q10
    go_wp2_with fail
    refine (heldIntS_b _ _ (softL l0).length 1 _ (by have := HL.out; omega) (by omega) (by omega) o4.row).mono ?_
    rintro e w11 ⟨rfl, b11⟩
    have o1 := o1.below b11 (Nat.le_refl _)
    have o2 := o2.below b11 (Nat.le_refl _)
    have o3 := o3.below b11 (Nat.le_refl _)
    have o4 := o4.below b11 (Nat.le_refl _)
    have o6 := o6.below b11 (Nat.le_refl _)
    have bt := bt.trans (b11.mono bt.size)
    have s11 := b11.size
    clear b11
    go_wp2_with fail
    refine (toIntS_c _ _ l0 _ hb0 (r0.below bt (Nat.le_refl _))).mono ?_
    rintro e w12 ⟨g12, rfl, hg12, o12, b12⟩
    have o1 := o1.below b12 (Nat.le_refl _)
    have o2 := o2.below b12 (Nat.le_refl _)
    have o3 := o3.below b12 (Nat.le_refl _)
    have o4 := o4.below b12 (Nat.le_refl _)
    have o6 := o6.below b12 (Nat.le_refl _)
    have bt := bt.trans (b12.mono bt.size)
    have s12 := b12.size
    clear b12
    clear hg12
    have Uo12 := Lib.hid (fun p hp => (o12.lt p hp).2)
    go_wp2_with fail
    refine (impl.Softened_c _ _ l0 _ hl0 o12.row w0).mono ?_
    rintro e w13 ⟨x13, y13, rfl, o13, b13⟩
    have o1 := o1.below b13 (Nat.le_refl _)
    have o2 := o2.below b13 (Nat.le_refl _)
    have o3 := o3.below b13 (Nat.le_refl _)
    have o4 := o4.below b13 (Nat.le_refl _)
    have o6 := o6.below b13 (Nat.le_refl _)
    have o12 := o12.below b13 (Nat.le_refl _)
    have bt := bt.trans (b13.mono bt.size)
    have s13 := b13.size
    clear b13
    have Uo13 := Lib.hid (fun p hp => (o13.lt p hp).2)
    go_wp2_with fail
    refine (eqIntS_t _ _ _ _ (softL l0) _ (by have := HL.out; omega) o13.row o2.row).mono ?_
    rintro e w14 ⟨rfl, b14⟩
    have o1 := o1.below b14 (Nat.le_refl _)
    have o2 := o2.below b14 (Nat.le_refl _)
    have o3 := o3.below b14 (Nat.le_refl _)
    have o4 := o4.below b14 (Nat.le_refl _)
    have o6 := o6.below b14 (Nat.le_refl _)
    have o12 := o12.below b14 (Nat.le_refl _)
    have o13 := o13.below b14 (Nat.le_refl _)
    have bt := bt.trans (b14.mono bt.size)
    have s14 := b14.size
    clear b14
    go_wp2_with fail
    refine (heldIntS_b _ _ (softL l0).length 1 _ (by have := HL.out; omega) (by omega) (by omega) o4.row).mono ?_
    rintro e w15 ⟨rfl, b15⟩
    have o1 := o1.below b15 (Nat.le_refl _)
    have o2 := o2.below b15 (Nat.le_refl _)
    have o3 := o3.below b15 (Nat.le_refl _)
    have o4 := o4.below b15 (Nat.le_refl _)
    have o6 := o6.below b15 (Nat.le_refl _)
    have o12 := o12.below b15 (Nat.le_refl _)
    have o13 := o13.below b15 (Nat.le_refl _)
    have bt := bt.trans (b15.mono bt.size)
    have s15 := b15.size
    clear b15
    go_wp2
    go_ret
    exact ⟨rfl, bt⟩
  · have ht : (1048576 : Int) < (l0.length : Int) := by omega
    go_enter Try.func3, Try.ntmps3
    go_wp2
    go_ret
    exact ⟨rfl, bt⟩

theorem own : ownKnob Try.prog.godebug = none := by kernel_rfl
theorem laidOut : laidOutB Try.prog = true := by kernel_rfl
set_option maxRecDepth 100000 in
theorem lifted (os : Os) (started : os.Started) (H : Type) (enc : TypeId × Value → H) :
    ReturnsInHanded {} Try.checked os 3 .any (Rows.fnExactSoftenedSpec.pre6 enc Try.prog Try.f3 Rows.fnExactSoftenedRow.domain false) (Rows.fnExactSoftenedSpec.post enc Try.prog Try.f3 false true false false) := by
  refine returnsInHanded_of_change (C := Try.checked) own started (by kernel_rfl) Try.func3
    (ChangeSpec.witness6 (enc := enc) (C := Try.checked) false ⟨#[], #[.slice none 0 0], []⟩ 8 (by kernel_rfl) (by kernel_rfl) (by kernel_rfl) (by kernel_rfl)) ?_
  intro W base args ds gs before hval0 hW hcnd _
  have hval : ∀ (j : Nat) t v, Try.f3.params[j]? = some t → args[j]? = some v → Value.okWide Try.prog W .any base t v := hval0
  have hW' := hW
  obtain ⟨p, q, hA0, hV, rfl, hfz, hnd⟩ := hW
  have hA : DataW.TrodAll enc Try.prog W 0 (fun _ => true) true Try.f3.params.toList args.toList ds p := hA0
  rw [Try.params3] at hA hval
  obtain ⟨v0, vs0, d0, ds0, p0, q0, hargs, rfl, rfl, h0, r0⟩ := trodAll_cons hA
  obtain ⟨rfl, rfl, rfl⟩ := trodAll_nil r0
  obtain rfl : args = #[v0] := by cases args; simp_all
  obtain ⟨rfl, rfl⟩ := trodVars_none hV
  have k0 := h0
  have lt0 : ∀ x ∈ p0, x.block < W.heap.size := by obtain ⟨m, hm⟩ := k0; exact DataW.trod_lt m _ _ _ hm
  obtain ⟨a0, len0, c0, rfl⟩ := okWide_slice Try.underlying22 (hval 0 22 v0 rfl rfl)
  obtain ⟨l0, hl0, r0, w0⟩ : ∃ l : List Int, l.length = len0 ∧ Row W a0 l ∧ ∀ x ∈ l, -9223372036854775808 ≤ x ∧ x ≤ 9223372036854775807 := by
    obtain ⟨fuel, hf⟩ := k0
    rcases open_ints Try.underlying22 Try.underlying3 (by kernel_rfl) hf with ⟨hcs, _⟩ | ⟨x, l, c, zs, hcs, _, hl, hm, hz, _, hcell, hwz⟩
    · simp [Value.cells] at hcs
      obtain ⟨rfl, rfl, rfl⟩ := hcs
      exact ⟨[], rfl, .inl rfl, by simp⟩
    · simp [Value.cells] at hcs
      obtain ⟨rfl, rfl, rfl⟩ := hcs
      exact Row.of_cells hl (by simpa using hz) hcell (fun n hn => wf_i64 (hwz n hn))
  subst hl0
  clear hA0 hval0
  refine (walk W a0 c0 l0 r0 w0).mono fun e W' ⟨he, bel⟩ => ?_
  subst he
  exact ⟨_, rfl, _, _, _, [], _, [], hW', trodAll_mk1 (shut_bool Try.underlying4 _), (trodAll_cons_mk (Below.trod laidOut (by kernel_rfl) (of_decide_eq_true (by kernel_rfl)) k0 bel lt0) trodAll_mk0), rfl, bel.frame _, fun h => by cases h⟩

theorem over : Rows.fnExactSoftenedRow.holds Try.pinned (OpenSpec.ofChange Rows.fnExactSoftenedSpec) :=
  OpenClaim.holds_of_wide 3 Try.f3 rfl rfl rfl rfl rfl rfl rfl ⟨rfl, rfl, rfl, rfl, rfl⟩ rfl rfl rfl rfl rfl (by kernel_rfl) Try.func3 (by kernel_rfl)
    (of_decide_eq_true (by kernel_rfl)) (by unfold Func.isWrapper; first | (rw [if_pos (by decide +kernel)]; kernel_rfl) | (rw [if_neg (by decide +kernel)]; exact ⟨rfl, rfl⟩))
    (fun os started H enc _ => lifted os started H enc)

/-- the statement -/
theorem proved : Rows.FnExactSoftenedSaid := over
#print axioms proved
end Go.Proofs.Ytnfmdbiminoneaa.fnExactSoftened
