/- For every input the law FnExactPack4 returns true and leaves its arguments as they were; no condition. -/
import Derived.Test.YtlckmgenmjkfeaaMem
import Derived.Test.YtlckmgenmjkfeaaFrm
import Derived.Test.YtlckmgenmjkfeaaPack
namespace Go.Proofs.Ytlckmgenmjkfeaa.fnExactPack4
open Go.ChangeShapes Go.WideShapes Go.ChangeAt Go.RowKit Go.Joins
set_option linter.unusedVariables false

set_option maxHeartbeats 1000000 in
theorem walk (w : World) (a0 : Option Addr) (c0 : Nat) (l0 : List Int) (r0 : Row w a0 l0) (w0 : ∀ x ∈ l0, -9223372036854775808 ≤ x ∧ x ≤ 9223372036854775807) :
    Calls Try.prog 7 #[.slice a0 l0.length c0] w fun e w' => e = .returned (.bool true) ∧ Below w.heap.size w w' := by
  by_cases hbig : l0.length ≤ 1048576
  · have ht : ((1048576 : Int) < (l0.length : Int)) = False := by simp; omega
    have hl : l0.length ≤ 4611686018427387904 := by omega
    go_enter Try.func7, Try.ntmps7
    go_wp2_with fail
    refine (toIntS_c _ _ l0 _ hbig r0).mono ?_
    rintro e w1 ⟨g1, rfl, hg1, o1, b1⟩
    clear hg1
    go_wp2_with fail
    refine (spec.Pack4_c _ _ l0 _ hl o1.row).mono ?_
    rintro e w' ⟨rfl, rfl⟩
    go_wp2_with fail
    refine (toIntS_c _ _ l0 _ hbig (r0.below b1 (Nat.le_refl _))).mono ?_
    rintro e w2 ⟨g2, rfl, hg2, o2, b2⟩
    clear hg2
    go_wp2_with fail
    refine (impl.Pack4_c _ _ l0 _ hl o2.row).mono ?_
    rintro e w' ⟨rfl, n, rfl⟩
    have b12 : Below w.heap.size w (w2.drewN n) := below_drewN' (b1.trans (b2.mono b1.size)) n
    have hne : ∀ b : Bool, (b != b) = false := by intro b; cases b <;> rfl
    generalize packF l0 = u at *
    generalize packOk l0 = v at *
    go_wp2_with fail
    refine (toIntS_c _ _ l0 _ hbig (r0.below b12 (Nat.le_refl _))).mono ?_
    rintro e w3 ⟨g3, rfl, hg3, o3, b3⟩
    clear hg3
    go_wp2_with fail
    refine (eqIntS_c _ _ _ _ l0 l0 _ hl hl ((o2.drewN n).row.below b3 (Nat.le_refl _)) o3.row).mono ?_
    rintro e w' ⟨rfl, m, rfl⟩
    go_wp2
    go_ret
    exact ⟨rfl, below_drewN' (b12.trans (b3.mono b12.size)) m⟩
  · go_enter Try.func7, Try.ntmps7
    go_wp2
    go_ret
    exact ⟨rfl, Below.refl _ _⟩

theorem own : ownKnob Try.prog.godebug = none := by kernel_rfl
theorem laidOut : laidOutB Try.prog = true := by kernel_rfl
set_option maxRecDepth 100000 in
theorem lifted (os : Os) (started : os.Started) (H : Type) (enc : TypeId × Value → H) :
    ReturnsInHanded {} Try.checked os 7 .any (Rows.fnExactPack4Spec.pre6 enc Try.prog Try.f7 Rows.fnExactPack4Row.domain false) (Rows.fnExactPack4Spec.post enc Try.prog Try.f7 false true false false) := by
  refine returnsInHanded_of_change (C := Try.checked) own started (by kernel_rfl) Try.func7
    (ChangeSpec.witness6 (enc := enc) (C := Try.checked) false ⟨#[], #[.slice none 0 0], []⟩ 8 (by kernel_rfl) (by kernel_rfl) (by kernel_rfl) (by kernel_rfl)) ?_
  intro W base args ds gs before hval0 hW hcnd _
  have hval : ∀ (j : Nat) t v, Try.f7.params[j]? = some t → args[j]? = some v → Value.okWide Try.prog W .any base t v := hval0
  have hW' := hW
  obtain ⟨p, q, hA0, hV, rfl, hfz, hnd⟩ := hW
  have hA : DataW.TrodAll enc Try.prog W 0 (fun _ => true) true Try.f7.params.toList args.toList ds p := hA0
  rw [Try.params7] at hA hval
  obtain ⟨v0, vs0, d0, ds0, p0, q0, hargs, rfl, rfl, h0, r0⟩ := trodAll_cons hA
  obtain ⟨rfl, rfl, rfl⟩ := trodAll_nil r0
  obtain rfl : args = #[v0] := by cases args; simp_all
  obtain ⟨rfl, rfl⟩ := trodVars_none hV
  have k0 := h0
  have lt0 : ∀ x ∈ p0, x.block < W.heap.size := by obtain ⟨m, hm⟩ := k0; exact DataW.trod_lt m _ _ _ hm
  obtain ⟨a0, len0, c0, rfl⟩ := okWide_slice Try.underlying26 (hval 0 26 v0 rfl rfl)
  obtain ⟨l0, hl0, r0, w0⟩ : ∃ l : List Int, l.length = len0 ∧ Row W a0 l ∧ ∀ x ∈ l, -9223372036854775808 ≤ x ∧ x ≤ 9223372036854775807 := by
    obtain ⟨fuel, hf⟩ := k0
    rcases open_ints Try.underlying26 Try.underlying3 (by kernel_rfl) hf with ⟨hcs, _⟩ | ⟨x, l, c, zs, hcs, _, hl, hm, hz, _, hcell, hwz⟩
    · simp [Value.cells] at hcs
      obtain ⟨rfl, rfl, rfl⟩ := hcs
      exact ⟨[], rfl, .inl rfl, by simp⟩
    · simp [Value.cells] at hcs
      obtain ⟨rfl, rfl, rfl⟩ := hcs
      exact Row.of_cells hl (by simpa using hz) hcell (fun n hn => wf_i64 (hwz n hn))
  subst hl0
  clear hA0 hval0
  refine (walk W a0 c0 l0 r0 w0).mono fun e W' ⟨he, bel⟩ => ?_
  subst he
  exact ⟨_, rfl, _, _, _, [], _, [], hW', trodAll_mk1 (shut_bool Try.underlying4 _), (trodAll_cons_mk (Below.trod laidOut (by kernel_rfl) (of_decide_eq_true (by kernel_rfl)) k0 bel lt0) trodAll_mk0), rfl, bel.frame _, fun h => by cases h⟩

theorem over : Rows.fnExactPack4Row.holds Try.pinned (OpenSpec.ofChange Rows.fnExactPack4Spec) :=
  OpenClaim.holds_of_wide 7 Try.f7 rfl rfl rfl rfl rfl rfl rfl ⟨rfl, rfl, rfl, rfl, rfl⟩ rfl rfl rfl rfl rfl (by kernel_rfl) Try.func7 (by kernel_rfl)
    (of_decide_eq_true (by kernel_rfl)) (by unfold Func.isWrapper; first | (rw [if_pos (by decide +kernel)]; kernel_rfl) | (rw [if_neg (by decide +kernel)]; exact ⟨rfl, rfl⟩))
    (fun os started H enc _ => lifted os started H enc)

/-- the statement -/
theorem proved : Rows.FnExactPack4Said := over
#print axioms proved
end Go.Proofs.Ytlckmgenmjkfeaa.fnExactPack4
