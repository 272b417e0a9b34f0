/- For every input the law FnEdge returns true and leaves its arguments as they were; no condition. -/
import Derived.Test.YtkfjbnhihjnhnaaMem
import Derived.Test.YtkfjbnhihjnhnaaFrm
import Derived.Test.YtkfjbnhihjnhnaaDrawE
import Derived.Test.YtkfjbnhihjnhnaaEdge
namespace Go.Proofs.Ytkfjbnhihjnhnaa.fnEdge
open Go.ChangeShapes Go.WideShapes Go.ChangeAt Go.RowKit Go.Joins
set_option linter.unusedVariables false
theorem edge_near {p1 p0 q0 q1 q m : Int} (hp : 0 ≤ p0 ∧ p0 ≤ 255) (hq : 0 ≤ q0 ∧ q0 ≤ 255) (hm : m = 1 + q / 4) (h0 : 0 ≤ q) :
    (edgeP p1 p0 q0 q1 q - p0 ≤ m ∧ p0 - edgeP p1 p0 q0 q1 q ≤ m) ∧ (edgeQ p1 p0 q0 q1 q - q0 ≤ m ∧ q0 - edgeQ p1 p0 q0 q1 q ≤ m) := by
  have h1 : 0 ≤ q / 4 := by omega
  have hd : -(q / 4 + 1) ≤ edgeD p1 p0 q0 q1 q ∧ edgeD p1 p0 q0 q1 q ≤ q / 4 + 1 := clipF_bd _ _ _ (by omega)
  unfold edgeP edgeQ
  split
  · unfold clipF
    omega
  · omega
theorem edge_same {p1 p0 q0 q1 q : Int} (h : alphaF q = 0 ∨ alphaF q ≤ dist p0 q0) : edgeP p1 p0 q0 q1 q = p0 ∧ edgeQ p1 p0 q0 q1 q = q0 := by
  have hn : edgeOn p1 p0 q0 q1 q = false := by
    have := dist_nn p0 q0
    have h1 : decide (dist p0 q0 < alphaF q) = false := by simp; omega
    simp [edgeOn, h1]
  simp [edgeP, edgeQ, hn]

set_option maxHeartbeats 4000000 in
theorem walk (w : World) (a0 : Option Addr) (c0 : Nat) (l0 : List Int) (r0 : RowB w a0 l0) (w0 : ∀ x ∈ l0, 0 ≤ x ∧ x ≤ 255) :
    Calls Try.prog 4 #[.slice a0 l0.length c0] w fun e w' => e = .returned (.bool true) ∧ Below w.heap.size w w' := by
  by_cases hbig : 1048576 < l0.length
  · have HB := Lib.hid (big_c a0 c0 l0.length w)
    rw [decide_eq_true hbig] at HB
    clear hbig r0 w0
    go_enter Try.func4, Try.ntmps4
    go_wp2_with (go_at_call 8; refine HB.out.mono ?_; rintro e w' ⟨rfl, rfl⟩)
    go_ret
    exact ⟨rfl, Below.refl _ _⟩
  · have HB := Lib.hid (big_c a0 c0 l0.length w)
    rw [decide_eq_false hbig] at HB
    have HD := Lib.hid (DrawEdgeOf_c a0 c0 l0 w (by omega) r0 w0)
    have hne : ∀ b : Int, (b != b) = false := by intro b; simp
    have hmin := min_if
    have hmax := max_if
    clear hbig r0 w0
    go_enter Try.func4, Try.ntmps4
    go_wp2_with (go_at_call 8; refine HB.out.mono ?_; rintro e w' ⟨rfl, rfl⟩)
    refine HD.out.mono ?_
    rintro e w1 ⟨p1, p0, q0, q1, q, rfl, hp1, ⟨hp0, hp0'⟩, ⟨hq0, hq0'⟩, hq1, hq, hb⟩
    have HBB := Lib.hid hb
    have HI := Lib.hid (impl.EdgeOf_c p1 p0 q0 q1 q)
    have HS := Lib.hid (spec.EdgeOf_c p1 p0 q0 q1 q)
    have HN : Hid (∀ m, m = 1 + q / 4 → 0 ≤ q → (edgeP p1 p0 q0 q1 q - p0 ≤ m ∧ p0 - edgeP p1 p0 q0 q1 q ≤ m) ∧ (edgeQ p1 p0 q0 q1 q - q0 ≤ m ∧ q0 - edgeQ p1 p0 q0 q1 q ≤ m)) := Lib.hid (fun m hm h0 => edge_near ⟨hp0, hp0'⟩ ⟨hq0, hq0'⟩ hm h0)
    have HE : Hid (alphaF q = 0 ∨ alphaF q ≤ dist p0 q0 → edgeP p1 p0 q0 q1 q = p0 ∧ edgeQ p1 p0 q0 q1 q = q0) := Lib.hid edge_same
    generalize edgeP p1 p0 q0 q1 q = P at *
    generalize edgeQ p1 p0 q0 q1 q = Q at *
    clear hb HD
    have HAL := Lib.hid (impl.AlphaOf_c q)
    obtain ⟨D, hD⟩ : ∃ D, D = dist p0 q0 := ⟨_, rfl⟩
    have eD : max (p0 - q0) (q0 - p0) = D := by rw [hD]; rfl
    rw [← hD] at HE
    have hA2 : alphaF q ≠ 0 → 0 ≤ q ∧ q ≤ 51 := by
      intro h
      by_cases hi : inR 0 51 q = true
      · exact inR_true hi
      · exact absurd (by simp [alphaF, hi]) h
    have HA2 := Lib.hid hA2
    generalize alphaF q = A at *
    clear hD hA2
    by_cases h0 : A = 0
    · obtain ⟨hP, hQ⟩ := HE.out (.inl h0)
      subst h0 hP hQ
      clear HN HE
      go_wp2_with (first
        | (go_at_call 17; refine (HI.out _).mono ?_; rintro e w2 ⟨rfl, hb2⟩)
        | (go_at_call 18; refine (HS.out _).mono ?_; rintro e w3 ⟨rfl, hb3⟩)
        | (go_at_call 19; refine (HAL.out _).mono ?_; rintro e w' ⟨rfl, rfl⟩)
        | (go_at_call 20; refine (impl.BetaOf_c _ _).mono ?_; rintro e w' ⟨rfl, rfl⟩)
        | (go_at_call 21; refine (spec.BetaOf_c _ _).mono ?_; rintro e w' ⟨rfl, rfl⟩))
      go_ret
      exact ⟨ret_bool (by first | rfl | simp), (HBB.out.trans (hb2.mono HBB.out.size)).trans (hb3.mono (Nat.le_trans HBB.out.size hb2.size))⟩
    · have h0b : (A == 0) = false := by simp [h0]
      obtain ⟨hq0, hq1⟩ := HA2.out h0
      by_cases h1 : A ≤ D
      · obtain ⟨hP, hQ⟩ := HE.out (.inr h1)
        subst hP hQ
        clear HN HE
        go_wp2_with (first
          | (go_at_call 17; refine (HI.out _).mono ?_; rintro e w2 ⟨rfl, hb2⟩)
          | (go_at_call 18; refine (HS.out _).mono ?_; rintro e w3 ⟨rfl, hb3⟩)
          | (go_at_call 19; refine (HAL.out _).mono ?_; rintro e w' ⟨rfl, rfl⟩)
          | (go_at_call 20; refine (impl.BetaOf_c _ _).mono ?_; rintro e w' ⟨rfl, rfl⟩)
          | (go_at_call 21; refine (spec.BetaOf_c _ _).mono ?_; rintro e w' ⟨rfl, rfl⟩))
        go_ret
        exact ⟨ret_bool (by first | rfl | simp), (HBB.out.trans (hb2.mono HBB.out.size)).trans (hb3.mono (Nat.le_trans HBB.out.size hb2.size))⟩
      · obtain ⟨m, hm⟩ : ∃ m, m = 1 + q / 4 := ⟨_, rfl⟩
        have hm4 : 1 + q.tdiv 4 = m := by rw [hm, Int.tdiv_eq_ediv_of_nonneg (by omega)]
        have hm4' : 1 + q / 4 = m := hm.symm
        obtain ⟨⟨n1, n2⟩, n3, n4⟩ := HN.out m hm (by omega)
        have n1d : decide (P - p0 ≤ m) = true := by simp; omega
        have n2d : decide (p0 - P ≤ m) = true := by simp; omega
        have n3d : decide (Q - q0 ≤ m) = true := by simp; omega
        have n4d : decide (q0 - Q ≤ m) = true := by simp; omega
        have hPb : 0 ≤ P + 1000 ∧ P ≤ 1000 := by omega
        have hQb : 0 ≤ Q + 1000 ∧ Q ≤ 1000 := by omega
        clear HN HE hm
        go_wp2_with (first
          | (go_at_call 17; refine (HI.out _).mono ?_; rintro e w2 ⟨rfl, hb2⟩)
          | (go_at_call 18; refine (HS.out _).mono ?_; rintro e w3 ⟨rfl, hb3⟩)
          | (go_at_call 19; refine (HAL.out _).mono ?_; rintro e w' ⟨rfl, rfl⟩)
          | (go_at_call 20; refine (impl.BetaOf_c _ _).mono ?_; rintro e w' ⟨rfl, rfl⟩)
          | (go_at_call 21; refine (spec.BetaOf_c _ _).mono ?_; rintro e w' ⟨rfl, rfl⟩))
        go_ret
        exact ⟨ret_bool (by first | rfl | simp), (HBB.out.trans (hb2.mono HBB.out.size)).trans (hb3.mono (Nat.le_trans HBB.out.size hb2.size))⟩

theorem own : ownKnob Try.prog.godebug = none := by kernel_rfl
theorem laidOut : laidOutB Try.prog = true := by kernel_rfl
set_option maxRecDepth 100000 in
theorem lifted (os : Os) (started : os.Started) (H : Type) (enc : TypeId × Value → H) :
    ReturnsInHanded {} Try.checked os 4 .any (Rows.fnEdgeSpec.pre6 enc Try.prog Try.f4 Rows.fnEdgeRow.domain false) (Rows.fnEdgeSpec.post enc Try.prog Try.f4 false true false false) := by
  refine returnsInHanded_of_change (C := Try.checked) own started (by kernel_rfl) Try.func4
    (ChangeSpec.witness6 (enc := enc) (C := Try.checked) false ⟨#[], #[.slice none 0 0], []⟩ 8 (by kernel_rfl) (by kernel_rfl) (by kernel_rfl) (by kernel_rfl)) ?_
  intro W base args ds gs before hval0 hW hcnd _
  have hval : ∀ (j : Nat) t v, Try.f4.params[j]? = some t → args[j]? = some v → Value.okWide Try.prog W .any base t v := hval0
  have hW' := hW
  obtain ⟨p, q, hA0, hV, rfl, hfz, hnd⟩ := hW
  have hA : DataW.TrodAll enc Try.prog W 0 (fun _ => true) true Try.f4.params.toList args.toList ds p := hA0
  rw [Try.params4] at hA hval
  obtain ⟨v0, vs0, d0, ds0, p0, q0, hargs, rfl, rfl, h0, tr0⟩ := trodAll_cons hA
  obtain ⟨rfl, rfl, rfl⟩ := trodAll_nil tr0
  obtain rfl : args = #[v0] := by cases args; simp_all
  obtain ⟨rfl, rfl⟩ := trodVars_none hV
  have k0 := h0
  have lt0 : ∀ x ∈ p0, x.block < W.heap.size := by obtain ⟨m, hm⟩ := k0; exact DataW.trod_lt m _ _ _ hm
  obtain ⟨a0, len0, c0, rfl⟩ := okWide_slice Try.underlying22 (hval 0 22 v0 rfl rfl)
  obtain ⟨l0, hl0, r0, w0⟩ : ∃ l : List Int, l.length = len0 ∧ RowB W a0 l ∧ ∀ x ∈ l, 0 ≤ x ∧ x ≤ 255 := by
    obtain ⟨fuel, hf⟩ := k0
    rcases open_ints Try.underlying22 Try.underlying5 (by kernel_rfl) hf with ⟨hcs, _⟩ | ⟨x, l, c, zs, hcs, _, hl, hm, hz, _, hcell, hwz⟩
    · simp [Value.cells] at hcs
      obtain ⟨rfl, rfl, rfl⟩ := hcs
      exact ⟨[], rfl, .inl rfl, by simp⟩
    · simp [Value.cells] at hcs
      obtain ⟨rfl, rfl, rfl⟩ := hcs
      exact RowB.of_cells hl (by simpa using hz) hcell (fun n hn => wf_u8 (hwz n hn))
  subst hl0
  clear hA0 hval0
  refine (walk W a0 c0 l0 r0 w0).mono fun e W' ⟨he, bel⟩ => ?_
  subst he
  exact ⟨_, rfl, _, _, _, [], _, [], hW', trodAll_mk1 (shut_bool Try.underlying4 _), (trodAll_cons_mk (Below.trod laidOut (by kernel_rfl) (of_decide_eq_true (by kernel_rfl)) k0 bel lt0) trodAll_mk0), rfl, bel.frame _, fun h => by cases h⟩

theorem over : Rows.fnEdgeRow.holds Try.pinned (OpenSpec.ofChange Rows.fnEdgeSpec) :=
  OpenClaim.holds_of_wide 4 Try.f4 rfl rfl rfl rfl rfl rfl rfl ⟨rfl, rfl, rfl, rfl, rfl⟩ rfl rfl rfl rfl rfl (by kernel_rfl) Try.func4 (by kernel_rfl)
    (of_decide_eq_true (by kernel_rfl)) (by unfold Func.isWrapper; first | (rw [if_pos (by decide +kernel)]; kernel_rfl) | (rw [if_neg (by decide +kernel)]; exact ⟨rfl, rfl⟩))
    (fun os started H enc _ => lifted os started H enc)

/-- the statement -/
theorem proved : Rows.FnEdgeSaid := over
#print axioms proved
end Go.Proofs.Ytkfjbnhihjnhnaa.fnEdge
