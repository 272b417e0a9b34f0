/- For every input the law FnButterflies returns true and leaves its arguments as they were; no condition. -/
import Derived.Test.YtchabkkpdafkiaaMem
import Derived.Test.YtchabkkpdafkiaaFrm
import Derived.Test.YtchabkkpdafkiaaSomeS
import Derived.Test.YtchabkkpdafkiaaMatF
import Derived.Test.YtchabkkpdafkiaaDrawT
import Derived.Test.YtchabkkpdafkiaaDrawR
namespace Go.Proofs.Ytchabkkpdafkiaa.fnButterflies
open Go.ChangeShapes Go.WideShapes Go.ChangeAt Go.RowKit Go.Joins
set_option linter.unusedVariables false

set_option maxHeartbeats 4000000 in
theorem walk (w : World) (a0 : Option Addr) (c0 : Nat) (l0 : List Int) (r0 : RowB w a0 l0) (w0 : ∀ x ∈ l0, 0 ≤ x ∧ x ≤ 255) :
    Calls Try.prog 8 #[.slice a0 l0.length c0] w fun e w' => e = .returned (.bool true) ∧ Below w.heap.size w w' := by
  by_cases hbig : 1048576 < l0.length
  · have HB := Lib.hid (big_c a0 c0 l0.length w)
    rw [decide_eq_true hbig] at HB
    clear hbig r0 w0
    go_enter Try.func8, Try.ntmps8
    go_wp2_with (go_at_call 17; refine HB.out.mono ?_; rintro e w' ⟨rfl, rfl⟩)
    go_ret
    exact ⟨rfl, Below.refl _ _⟩
  · have HB := Lib.hid (big_c a0 c0 l0.length w)
    rw [decide_eq_false hbig] at HB
    have HD := Lib.hid (spec.DrawInverse4_c a0 c0 l0 w (by omega) r0 w0)
    have HD8 : Hid (∀ v, Below w.heap.size w v → Calls Try.prog 28 #[.slice a0 l0.length c0] v fun e w' => ∃ (b : Option Addr) (d : Nat) (L : List Int), e = .returned (.slice b L.length d) ∧ L.length ≤ 64 ∧ L.length ≤ d ∧ (∀ x ∈ L, -1000000001 ≤ x ∧ x ≤ 1000000001) ∧ Row w' b L ∧ Below v.heap.size v w') := Lib.hid (fun v h => spec.DrawInverse8_c a0 c0 l0 v (by omega) (r0.below h (Nat.le_refl _)) w0)
    clear hbig r0 w0
    go_enter Try.func8, Try.ntmps8
    go_wp2_with (go_at_call 17; refine HB.out.mono ?_; rintro e w' ⟨rfl, rfl⟩)
    refine HD.out.mono ?_
    rintro e w1 ⟨b, d, L, rfl, hLl, hLd, hLb, hrL, k1⟩
    clear HB HD
    go_wp2_with fail
    refine (HD8.out w1 k1).mono ?_
    rintro e w2 ⟨b2, d2, M, rfl, hMl, hMd, hMb, hrM, k2⟩
    have hrL2 := hrL.below k2 (Nat.le_refl _)
    have HK2 := Lib.hid (below_next k1 k2)
    obtain ⟨P, hP⟩ : ∃ P, P = prodF rowsA 4 L := ⟨_, rfl⟩
    obtain ⟨Q, hQ⟩ : ∃ Q, Q = prodF rowsH 8 M := ⟨_, rfl⟩
    have hPl : P.length ≤ 64 := by rw [hP]; exact prodF_len _ _ _ (by omega)
    have hQl : Q.length ≤ 64 := by rw [hQ]; exact prodF_len _ _ _ (by omega)
    have hLw : ∀ x ∈ L, -9223372036854775808 ≤ x ∧ x ≤ 9223372036854775807 := fun x hx => by have := hLb x hx; omega
    have hMw : ∀ x ∈ M, -9223372036854775808 ≤ x ∧ x ≤ 9223372036854775807 := fun x hx => by have := hMb x hx; omega
    have H1 : Hid (∀ v, Below w2.heap.size w2 v → Calls Try.prog 11 #[.slice b L.length d] v fun e w' => ∃ x y, e = .returned (.slice x P.length y) ∧ Own v.heap.size w' x y P ∧ Below v.heap.size v w') := Lib.hid (fun v h => by rw [hP]; exact impl.Fast4_c b d L v (by omega) (hrL2.below h (Nat.le_refl _)) hLw)
    have H2 : Hid (∀ v, Below w2.heap.size w2 v → Calls Try.prog 21 #[.slice b L.length d] v fun e w' => ∃ x y, e = .returned (.slice x P.length y) ∧ Own v.heap.size w' x y P ∧ Below v.heap.size v w') := Lib.hid (fun v h => by rw [hP]; exact impl.Inverse4_c b d L v (by omega) (hrL2.below h (Nat.le_refl _)) hLw)
    have H3 : Hid (∀ v, Below w2.heap.size w2 v → Calls Try.prog 16 #[.slice b2 M.length d2] v fun e w' => ∃ x y, e = .returned (.slice x Q.length y) ∧ Own v.heap.size w' x y Q ∧ Below v.heap.size v w') := Lib.hid (fun v h => by rw [hQ]; exact impl.Fast8_c b2 d2 M v (by omega) (hrM.below h (Nat.le_refl _)) hMw)
    have H4 : Hid (∀ v, Below w2.heap.size w2 v → Calls Try.prog 19 #[.slice b2 M.length d2] v fun e w' => ∃ x y, e = .returned (.slice x Q.length y) ∧ Own v.heap.size w' x y Q ∧ Below v.heap.size v w') := Lib.hid (fun v h => by rw [hQ]; exact impl.Inverse8_c b2 d2 M v (by omega) (hrM.below h (Nat.le_refl _)) hMw)
    have H5 : Hid (∀ v, Below w2.heap.size w2 v → Calls Try.prog 29 #[.slice b L.length d] v fun e w' => ∃ x y, e = .returned (.slice x P.length y) ∧ Own v.heap.size w' x y P ∧ Below v.heap.size v w') := Lib.hid (fun v h => by rw [hP]; exact spec.Inverse4_c b d L v (by omega) (hrL2.below h (Nat.le_refl _)) hLw)
    have H6 : Hid (∀ v, Below w2.heap.size w2 v → Calls Try.prog 30 #[.slice b2 M.length d2] v fun e w' => ∃ x y, e = .returned (.slice x Q.length y) ∧ Own v.heap.size w' x y Q ∧ Below v.heap.size v w') := Lib.hid (fun v h => by rw [hQ]; exact spec.Forward8_c b2 d2 M v (by omega) (hrM.below h (Nat.le_refl _)) hMw)
    have kA := Below.refl w2.heap.size w2
    clear hP hQ hLb hMb hLw hMw hrL hrL2 hrM k1 k2 HD8
    go_wp2_with fail
    refine (H1.out w2 kA).mono ?_
    rintro e w3 ⟨x3, y3, rfl, o3, j3⟩
    have k3 := below_next kA j3
    go_wp2_with fail
    refine (H2.out w3 k3).mono ?_
    rintro e w4 ⟨x4, y4, rfl, o4, j4⟩
    have k4 := below_next k3 j4
    go_wp2_with fail
    refine (sameInts_t x3 x4 y3 y4 P w4 (by omega) (o3.row.below j4 (Nat.le_refl _)) o4.row).mono ?_
    rintro e w5 ⟨rfl, j5⟩
    have k5 := below_next k4 j5
    clear o3 o4 j3 j4 j5 k3 k4
    go_wp2_with fail
    refine (H3.out w5 k5).mono ?_
    rintro e w6 ⟨x6, y6, rfl, o6, j6⟩
    have k6 := below_next k5 j6
    go_wp2_with fail
    refine (H4.out w6 k6).mono ?_
    rintro e w7 ⟨x7, y7, rfl, o7, j7⟩
    have k7 := below_next k6 j7
    go_wp2_with fail
    refine (sameInts_t x6 x7 y6 y7 Q w7 (by omega) (o6.row.below j7 (Nat.le_refl _)) o7.row).mono ?_
    rintro e w8 ⟨rfl, j8⟩
    have k8 := below_next k7 j8
    clear o6 o7 j6 j7 j8 k6 k7
    go_wp2_with fail
    refine (H1.out w8 k8).mono ?_
    rintro e w9 ⟨x9, y9, rfl, o9, j9⟩
    have k9 := below_next k8 j9
    go_wp2_with fail
    refine (H5.out w9 k9).mono ?_
    rintro e w10 ⟨x10, y10, rfl, o10, j10⟩
    have k10 := below_next k9 j10
    go_wp2_with fail
    refine (sameInts_t x9 x10 y9 y10 P w10 (by omega) (o9.row.below j10 (Nat.le_refl _)) o10.row).mono ?_
    rintro e w11 ⟨rfl, j11⟩
    have k11 := below_next k10 j11
    clear o9 o10 j9 j10 j11 k9 k10
    go_wp2_with fail
    refine (H3.out w11 k11).mono ?_
    rintro e w12 ⟨x12, y12, rfl, o12, j12⟩
    have k12 := below_next k11 j12
    go_wp2_with fail
    refine (H6.out w12 k12).mono ?_
    rintro e w13 ⟨x13, y13, rfl, o13, j13⟩
    have k13 := below_next k12 j13
    go_wp2_with fail
    refine (sameInts_t x12 x13 y12 y13 Q w13 (by omega) (o12.row.below j13 (Nat.le_refl _)) o13.row).mono ?_
    rintro e w14 ⟨rfl, j14⟩
    have k14 := below_next k13 j14
    clear o12 o13 j12 j13 j14 k12 k13
    have HF := Lib.hid (below_next HK2.out k14)
    clear kA k5 k8 k11 k14
    go_wp2
    go_ret
    exact ⟨ret_bool (by first | rfl | simp), HF.out⟩

theorem own : ownKnob Try.prog.godebug = none := by kernel_rfl
theorem laidOut : laidOutB Try.prog = true := by kernel_rfl
set_option maxRecDepth 100000 in
theorem lifted (os : Os) (started : os.Started) (H : Type) (enc : TypeId × Value → H) :
    ReturnsInHanded {} Try.checked os 8 .any (Rows.fnButterfliesSpec.pre6 enc Try.prog Try.f8 Rows.fnButterfliesRow.domain false) (Rows.fnButterfliesSpec.post enc Try.prog Try.f8 false true false false) := by
  refine returnsInHanded_of_change (C := Try.checked) own started (by kernel_rfl) Try.func8
    (ChangeSpec.witness6 (enc := enc) (C := Try.checked) false ⟨#[], #[.slice none 0 0], []⟩ 8 (by kernel_rfl) (by kernel_rfl) (by kernel_rfl) (by kernel_rfl)) ?_
  intro W base args ds gs before hval0 hW hcnd _
  have hval : ∀ (j : Nat) t v, Try.f8.params[j]? = some t → args[j]? = some v → Value.okWide Try.prog W .any base t v := hval0
  have hW' := hW
  obtain ⟨p, q, hA0, hV, rfl, hfz, hnd⟩ := hW
  have hA : DataW.TrodAll enc Try.prog W 0 (fun _ => true) true Try.f8.params.toList args.toList ds p := hA0
  rw [Try.params8] at hA hval
  obtain ⟨v0, vs0, d0, ds0, p0, q0, hargs, rfl, rfl, h0, tr0⟩ := trodAll_cons hA
  obtain ⟨rfl, rfl, rfl⟩ := trodAll_nil tr0
  obtain rfl : args = #[v0] := by cases args; simp_all
  obtain ⟨rfl, rfl⟩ := trodVars_none hV
  have k0 := h0
  have lt0 : ∀ x ∈ p0, x.block < W.heap.size := by obtain ⟨m, hm⟩ := k0; exact DataW.trod_lt m _ _ _ hm
  obtain ⟨a0, len0, c0, rfl⟩ := okWide_slice Try.underlying27 (hval 0 27 v0 rfl rfl)
  obtain ⟨l0, hl0, r0, w0⟩ : ∃ l : List Int, l.length = len0 ∧ RowB W a0 l ∧ ∀ x ∈ l, 0 ≤ x ∧ x ≤ 255 := by
    obtain ⟨fuel, hf⟩ := k0
    rcases open_ints Try.underlying27 Try.underlying5 (by kernel_rfl) hf with ⟨hcs, _⟩ | ⟨x, l, c, zs, hcs, _, hl, hm, hz, _, hcell, hwz⟩
    · simp [Value.cells] at hcs
      obtain ⟨rfl, rfl, rfl⟩ := hcs
      exact ⟨[], rfl, .inl rfl, by simp⟩
    · simp [Value.cells] at hcs
      obtain ⟨rfl, rfl, rfl⟩ := hcs
      exact RowB.of_cells hl (by simpa using hz) hcell (fun n hn => wf_u8 (hwz n hn))
  subst hl0
  clear hA0 hval0
  refine (walk W a0 c0 l0 r0 w0).mono fun e W' ⟨he, bel⟩ => ?_
  subst he
  exact ⟨_, rfl, _, _, _, [], _, [], hW', trodAll_mk1 (shut_bool Try.underlying4 _), (trodAll_cons_mk (Below.trod laidOut (by kernel_rfl) (of_decide_eq_true (by kernel_rfl)) k0 bel lt0) trodAll_mk0), rfl, bel.frame _, fun h => by cases h⟩

theorem over : Rows.fnButterfliesRow.holds Try.pinned (OpenSpec.ofChange Rows.fnButterfliesSpec) :=
  OpenClaim.holds_of_wide 8 Try.f8 rfl rfl rfl rfl rfl rfl rfl ⟨rfl, rfl, rfl, rfl, rfl⟩ rfl rfl rfl rfl rfl (by kernel_rfl) Try.func8 (by kernel_rfl)
    (of_decide_eq_true (by kernel_rfl)) (by unfold Func.isWrapper; first | (rw [if_pos (by decide +kernel)]; kernel_rfl) | (rw [if_neg (by decide +kernel)]; exact ⟨rfl, rfl⟩))
    (fun os started H enc _ => lifted os started H enc)

/-- the statement -/
theorem proved : Rows.FnButterfliesSaid := over
#print axioms proved
end Go.Proofs.Ytchabkkpdafkiaa.fnButterflies
