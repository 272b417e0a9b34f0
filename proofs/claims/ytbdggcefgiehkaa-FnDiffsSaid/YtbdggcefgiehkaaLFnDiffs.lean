/- For every input the law FnDiffs returns true and leaves its arguments as they were; no condition. -/
import Derived.Test.YtbdggcefgiehkaaMem
import Derived.Test.YtbdggcefgiehkaaFrm
import Derived.Test.YtbdggcefgiehkaaDrawR
import Derived.Test.YtbdggcefgiehkaaRec2
namespace Go.Proofs.Ytbdggcefgiehkaa.fnDiffs
open Go.ChangeShapes Go.WideShapes Go.ChangeAt Go.RowKit Go.Joins
set_option linter.unusedVariables false
theorem rec_res {f p : List Int} (h : resF f p ≠ []) : recF p (resF f p) = f := by
  have hb : resB f p = true := by
    cases hb : resB f p
    · exact absurd (by simp [resF, hb]) h
    · rfl
  have hb2 : twoB p f = true ∧ allR 0 255 f = true := by simpa [resB] using hb
  obtain ⟨h1, h2, h3⟩ := twoB_true hb2.1
  have e : resF f p = tab (resAt f p) p.length := by simp [resF, hb]
  rw [e]
  have ht : twoB p (tab (resAt f p) p.length) = true := by simp [twoB, tab_len, h1, h3]
  have e2 : recF p (tab (resAt f p) p.length) = tab (recAt p (tab (resAt f p) p.length)) p.length := by simp [recF, ht]
  rw [e2]
  refine (tab_congr (g := fun i => f.getD i 0) fun i hi => ?_).trans (tab_of f p.length h2.symm).symm
  have bf := allR_at hb2.2 (i := i) (by omega)
  have bp := allR_at h3 hi
  unfold recAt
  rw [tab_getD _ _ _ hi, resAt]
  unfold clipF
  omega
theorem res_bd {f p : List Int} (x : Int) (h : x ∈ resF f p) : -9223372036854775808 ≤ x ∧ x ≤ 9223372036854775807 := by
  have hb : resB f p = true := by
    cases hb : resB f p
    · simp [resF, hb] at h
    · rfl
  have hb2 : twoB p f = true ∧ allR 0 255 f = true := by simpa [resB] using hb
  obtain ⟨h1, h2, h3⟩ := twoB_true hb2.1
  have e : resF f p = tab (resAt f p) p.length := by simp [resF, hb]
  rw [e] at h
  obtain ⟨i, hi, rfl⟩ := tab_mem' h
  have bf := allR_at hb2.2 (i := i) (by omega)
  have bp := allR_at h3 hi
  unfold resAt
  omega

set_option maxHeartbeats 4000000 in
theorem walk (w : World) (a0 : Option Addr) (c0 : Nat) (l0 : List Int) (r0 : RowB w a0 l0) (w0 : ∀ x ∈ l0, 0 ≤ x ∧ x ≤ 255) :
    Calls Try.prog 8 #[.slice a0 l0.length c0] w fun e w' => e = .returned (.bool true) ∧ Below w.heap.size w w' := by
  by_cases hbig : 1048576 < l0.length
  · have HB := Lib.hid (big_c a0 c0 l0.length w)
    rw [decide_eq_true hbig] at HB
    clear hbig r0 w0
    go_enter Try.func8, Try.ntmps8
    go_wp2_with (go_at_call 9; refine HB.out.mono ?_; rintro e w' ⟨rfl, rfl⟩)
    go_ret
    exact ⟨rfl, Below.refl _ _⟩
  · have HB := Lib.hid (big_c a0 c0 l0.length w)
    rw [decide_eq_false hbig] at HB
    have HD := Lib.hid (DrawResidual_c a0 c0 l0 w (by omega) r0 w0)
    clear hbig r0 w0
    go_enter Try.func8, Try.ntmps8
    go_wp2_with (go_at_call 9; refine HB.out.mono ?_; rintro e w' ⟨rfl, rfl⟩)
    refine HD.out.mono ?_
    rintro e w1 ⟨b, d, f, b2, d2, p, rfl, ⟨hl1, hl2⟩, hfb, hpb, hrf, hrp, hb1⟩
    have hfb' : ∀ x ∈ f, -9223372036854775808 ≤ x ∧ x ≤ 9223372036854775807 := fun x hx => by have := hfb x hx; omega
    have hpb' : ∀ x ∈ p, -9223372036854775808 ≤ x ∧ x ≤ 9223372036854775807 := fun x hx => by have := hpb x hx; omega
    have HI := Lib.hid (fun w => impl.Residual_c b d f b2 d2 p w (by omega))
    have HRF : Hid (∀ w2, Below w1.heap.size w1 w2 → Row w2 b f) := Lib.hid (fun w2 h => hrf.below h (Nat.le_refl _))
    have HRP : Hid (∀ w2, Below w1.heap.size w1 w2 → Row w2 b2 p) := Lib.hid (fun w2 h => hrp.below h (Nat.le_refl _))
    have HB1 := Lib.hid hb1
    have HFB := Lib.hid hfb'
    have HPB := Lib.hid hpb'
    obtain ⟨R, hR⟩ : ∃ R, R = resF f p := ⟨_, rfl⟩
    have hRl : R.length ≤ 64 := by rw [hR]; exact Nat.le_trans (resF_len f p) hl2
    have HRR : Hid (R ≠ [] → recF p R = f) := Lib.hid (by rw [hR]; exact rec_res)
    have HRB : Hid (∀ x ∈ R, -9223372036854775808 ≤ x ∧ x ≤ 9223372036854775807) := Lib.hid (by rw [hR]; exact fun x h => res_bd x h)
    have HIR : Hid (∀ w0, Row w0 b f → Row w0 b2 p → Calls Try.prog 45 #[.slice b f.length d, .slice b2 p.length d2] w0 fun e w' => ∃ b d, e = .returned (.slice b R.length d) ∧ Own w0.heap.size w' b d R ∧ Below w0.heap.size w0 w') := Lib.hid (fun w0 h1 h2 => by rw [hR]; exact impl.Residual_c b d f b2 d2 p w0 (by omega) h1 HFB.out (by omega) h2 HPB.out)
    have HSR : Hid (∀ w0, Row w0 b f → Row w0 b2 p → Calls Try.prog 46 #[.slice b f.length d, .slice b2 p.length d2] w0 fun e w' => ∃ b d, e = .returned (.slice b R.length d) ∧ Own w0.heap.size w' b d R ∧ Below w0.heap.size w0 w') := Lib.hid (fun w0 h1 h2 => by rw [hR]; exact spec.Residual_c b d f b2 d2 p w0 (by omega) h1 HFB.out (by omega) h2 HPB.out)
    clear hR hb1 hfb hpb hfb' hpb' hrf hrp HI HD
    go_wp2_with fail
    refine (HIR.out w1 (HRF.out _ (Below.refl _ _)) (HRP.out _ (Below.refl _ _))).mono ?_
    rintro e w2 ⟨b3, d3, rfl, ho, hb2⟩
    have HB12 := Lib.hid hb2
    have HB2 := Lib.hid (below_next HB1.out hb2)
    by_cases hz : R.length = 0
    · have hz2 : ((R.length : Int) == 0) = true := by simp [hz]
      have HZ := Lib.hid hz
      clear ho hb2 hz
      go_wp2_with fail
      refine (HSR.out w2 (HRF.out _ HB12.out) (HRP.out _ HB12.out)).mono ?_
      rintro e w3 ⟨b4, d4, rfl, ho4, hb3⟩
      have HB3 := Lib.hid (below_next HB2.out hb3)
      clear ho4 hb3
      go_wp2
      go_ret
      exact ⟨ret_bool (by first | rfl | exact hz2 | simp [HZ.out]), HB3.out⟩
    · have hz2 : ((R.length : Int) == 0) = false := by rw [beq_eq_false_iff_ne]; omega
      have hne : R ≠ [] := by intro h; rw [h] at hz; exact hz rfl
      have hrec := HRR.out hne
      have hrl : (recF p R).length = f.length := by rw [hrec]
      have HFR : Hid (∀ w0, Row w0 b2 p → Row w0 b3 R → Calls Try.prog 42 #[.slice b2 p.length d2, .slice b3 R.length d3] w0 fun e w' => ∃ b d, e = .returned (.slice b f.length d) ∧ Own w0.heap.size w' b d f ∧ Below w0.heap.size w0 w') := Lib.hid (fun w0 h1 h2 => by
        have h := impl.FastRecon_c b2 d2 p b3 d3 R w0 (by omega) h1 HPB.out (by omega) h2 HRB.out
        rw [hrec] at h
        exact h)
      have HRC : Hid (∀ w0, Row w0 b2 p → Row w0 b3 R → Calls Try.prog 41 #[.slice b2 p.length d2, .slice b3 R.length d3] w0 fun e w' => ∃ b d, e = .returned (.slice b f.length d) ∧ Own w0.heap.size w' b d f ∧ Below w0.heap.size w0 w') := Lib.hid (fun w0 h1 h2 => by
        have h := impl.Recon_c b2 d2 p b3 d3 R w0 (by omega) h1 HPB.out (by omega) h2 HRB.out
        rw [hrec] at h
        exact h)
      have HRO : Hid (∀ w3, Below w2.heap.size w2 w3 → Row w3 b3 R) := Lib.hid (fun w3 h => ho.row.below h (Nat.le_refl _))
      clear ho hb2 hrec hrl HRR HSR HIR hne
      go_wp2_with fail
      refine (HFR.out w2 (HRP.out _ HB12.out) (HRO.out _ (Below.refl _ _))).mono ?_
      rintro e w3 ⟨b4, d4, rfl, ho4, hb3⟩
      have hb13 := below_next HB12.out hb3
      go_wp2_with fail
      refine (sameInts_t b4 b d4 d f w3 (by omega) ho4.row (HRF.out _ hb13)).mono ?_
      rintro e w4 ⟨rfl, hb4⟩
      have hb14 := below_next hb13 hb4
      have hb24 := below_next hb3 hb4
      have HB4 := Lib.hid (below_next (below_next HB2.out hb3) hb4)
      go_wp2_with fail
      refine (HRC.out w4 (HRP.out _ hb14) (HRO.out _ hb24)).mono ?_
      rintro e w5 ⟨b5, d5, rfl, ho5, hb5⟩
      go_wp2_with fail
      refine (sameInts_t b5 b d5 d f w5 (by omega) ho5.row (HRF.out _ (below_next hb14 hb5))).mono ?_
      rintro e w6 ⟨rfl, hb6⟩
      have HB6 := Lib.hid (below_next (below_next HB4.out hb5) hb6)
      clear ho4 ho5 hb3 hb4 hb5 hb6 hb13 hb14 hb24
      go_wp2
      go_ret
      exact ⟨rfl, HB6.out⟩

theorem own : ownKnob Try.prog.godebug = none := by kernel_rfl
theorem laidOut : laidOutB Try.prog = true := by kernel_rfl
set_option maxRecDepth 100000 in
theorem lifted (os : Os) (started : os.Started) (H : Type) (enc : TypeId × Value → H) :
    ReturnsInHanded {} Try.checked os 8 .any (Rows.fnDiffsSpec.pre6 enc Try.prog Try.f8 Rows.fnDiffsRow.domain false) (Rows.fnDiffsSpec.post enc Try.prog Try.f8 false true false false) := by
  refine returnsInHanded_of_change (C := Try.checked) own started (by kernel_rfl) Try.func8
    (ChangeSpec.witness6 (enc := enc) (C := Try.checked) false ⟨#[], #[.slice none 0 0], []⟩ 8 (by kernel_rfl) (by kernel_rfl) (by kernel_rfl) (by kernel_rfl)) ?_
  intro W base args ds gs before hval0 hW hcnd _
  have hval : ∀ (j : Nat) t v, Try.f8.params[j]? = some t → args[j]? = some v → Value.okWide Try.prog W .any base t v := hval0
  have hW' := hW
  obtain ⟨p, q, hA0, hV, rfl, hfz, hnd⟩ := hW
  have hA : DataW.TrodAll enc Try.prog W 0 (fun _ => true) true Try.f8.params.toList args.toList ds p := hA0
  rw [Try.params8] at hA hval
  obtain ⟨v0, vs0, d0, ds0, p0, q0, hargs, rfl, rfl, h0, tr0⟩ := trodAll_cons hA
  obtain ⟨rfl, rfl, rfl⟩ := trodAll_nil tr0
  obtain rfl : args = #[v0] := by cases args; simp_all
  obtain ⟨rfl, rfl⟩ := trodVars_none hV
  have k0 := h0
  have lt0 : ∀ x ∈ p0, x.block < W.heap.size := by obtain ⟨m, hm⟩ := k0; exact DataW.trod_lt m _ _ _ hm
  obtain ⟨a0, len0, c0, rfl⟩ := okWide_slice Try.underlying22 (hval 0 22 v0 rfl rfl)
  obtain ⟨l0, hl0, r0, w0⟩ : ∃ l : List Int, l.length = len0 ∧ RowB W a0 l ∧ ∀ x ∈ l, 0 ≤ x ∧ x ≤ 255 := by
    obtain ⟨fuel, hf⟩ := k0
    rcases open_ints Try.underlying22 Try.underlying5 (by kernel_rfl) hf with ⟨hcs, _⟩ | ⟨x, l, c, zs, hcs, _, hl, hm, hz, _, hcell, hwz⟩
    · simp [Value.cells] at hcs
      obtain ⟨rfl, rfl, rfl⟩ := hcs
      exact ⟨[], rfl, .inl rfl, by simp⟩
    · simp [Value.cells] at hcs
      obtain ⟨rfl, rfl, rfl⟩ := hcs
      exact RowB.of_cells hl (by simpa using hz) hcell (fun n hn => wf_u8 (hwz n hn))
  subst hl0
  clear hA0 hval0
  refine (walk W a0 c0 l0 r0 w0).mono fun e W' ⟨he, bel⟩ => ?_
  subst he
  exact ⟨_, rfl, _, _, _, [], _, [], hW', trodAll_mk1 (shut_bool Try.underlying4 _), (trodAll_cons_mk (Below.trod laidOut (by kernel_rfl) (of_decide_eq_true (by kernel_rfl)) k0 bel lt0) trodAll_mk0), rfl, bel.frame _, fun h => by cases h⟩

theorem over : Rows.fnDiffsRow.holds Try.pinned (OpenSpec.ofChange Rows.fnDiffsSpec) :=
  OpenClaim.holds_of_wide 8 Try.f8 rfl rfl rfl rfl rfl rfl rfl ⟨rfl, rfl, rfl, rfl, rfl⟩ rfl rfl rfl rfl rfl (by kernel_rfl) Try.func8 (by kernel_rfl)
    (of_decide_eq_true (by kernel_rfl)) (by unfold Func.isWrapper; first | (rw [if_pos (by decide +kernel)]; kernel_rfl) | (rw [if_neg (by decide +kernel)]; exact ⟨rfl, rfl⟩))
    (fun os started H enc _ => lifted os started H enc)

/-- the statement -/
theorem proved : Rows.FnDiffsSaid := over
#print axioms proved
end Go.Proofs.Ytbdggcefgiehkaa.fnDiffs
