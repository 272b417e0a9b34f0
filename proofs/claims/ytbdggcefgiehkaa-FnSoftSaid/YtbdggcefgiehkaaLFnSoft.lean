/- For every input the law FnSoft returns true and leaves its arguments as they were; no condition. -/
import Derived.Test.YtbdggcefgiehkaaMem
import Derived.Test.YtbdggcefgiehkaaFrm
import Derived.Test.YtbdggcefgiehkaaDrawM
import Derived.Test.YtbdggcefgiehkaaDrawS
import Derived.Test.YtbdggcefgiehkaaDrawR
import Derived.Test.YtbdggcefgiehkaaSlope
import Derived.Test.YtbdggcefgiehkaaSoft
namespace Go.Proofs.Ytbdggcefgiehkaa.fnSoft
open Go.ChangeShapes Go.WideShapes Go.ChangeAt Go.RowKit Go.Joins
set_option linter.unusedVariables false
theorem soft_between (x y z : Int) : max 0 (min 255 (min x (min y z))) ≤ softF (clipF 0 255 x) (clipF 0 255 y) (clipF 0 255 z) ∧ softF (clipF 0 255 x) (clipF 0 255 y) (clipF 0 255 z) ≤ max 0 (min 255 (max x (max y z))) ∧ 0 ≤ softF (clipF 0 255 x) (clipF 0 255 y) (clipF 0 255 z) ∧ softF (clipF 0 255 x) (clipF 0 255 y) (clipF 0 255 z) ≤ 255 := by
  unfold softF clipF
  omega
-- DEEP

set_option maxRecDepth 100000 in
set_option maxHeartbeats 4000000 in
theorem walk (w : World) (a0 : Option Addr) (c0 : Nat) (l0 : List Int) (r0 : RowB w a0 l0) (w0 : ∀ x ∈ l0, 0 ≤ x ∧ x ≤ 255) :
    Calls Try.prog 4 #[.slice a0 l0.length c0] w fun e w' => e = .returned (.bool true) ∧ Below w.heap.size w w' := by
  by_cases hbig : 1048576 < l0.length
  · have HB := Lib.hid (big_c a0 c0 l0.length w)
    rw [decide_eq_true hbig] at HB
    clear hbig r0 w0
    go_enter Try.func4, Try.ntmps4
    go_wp2_with (go_at_call 9; refine HB.out.mono ?_; rintro e w' ⟨rfl, rfl⟩)
    go_ret
    exact ⟨rfl, Below.refl _ _⟩
  · have HB := Lib.hid (big_c a0 c0 l0.length w)
    rw [decide_eq_false hbig] at HB
    have HD := Lib.hid (DrawSoftened_c a0 c0 l0 w (by omega) r0 w0)
    have HDS : Hid (∀ v, Below w.heap.size w v → Calls Try.prog 17 #[.slice a0 l0.length c0] v fun e w' => ∃ (x : Option Addr) (p : Nat) (L : List Int) (y : Option Addr) (q : Nat) (M : List Int) (C : Int) (T H : Bool) (n z : Int), e = .returned (.tuple #[nbv x L.length p y M.length q C T H, .int .i64 n, .int .i64 z]) ∧ (L.length ≤ 16 ∧ L.length ≤ p ∧ M.length ≤ 8 ∧ M.length ≤ q) ∧ (∀ z ∈ L, -1 ≤ z ∧ z ≤ 256) ∧ (∀ z ∈ M, -1 ≤ z ∧ z ≤ 256) ∧ (-1 ≤ C ∧ C ≤ 256) ∧ (0 ≤ n ∧ n ≤ 8) ∧ (-1 ≤ z ∧ z ≤ 5) ∧ Row w' x L ∧ Row w' y M ∧ Below v.heap.size v w') := Lib.hid (fun v h => DrawSlopeRow_c a0 c0 l0 v (by omega) (r0.below h (Nat.le_refl _)) w0)
    have hmin := min_if
    have hmax := max_if
    clear hbig r0 w0
    go_enter Try.func4, Try.ntmps4
    go_wp2_with (go_at_call 9; refine HB.out.mono ?_; rintro e w' ⟨rfl, rfl⟩)
    refine HD.out.mono ?_
    rintro e w1 ⟨b, d, L, rfl, hl16, hLb, hrL, hb1⟩
    have hLb' : ∀ x ∈ L, -9223372036854775808 ≤ x ∧ x ≤ 9223372036854775807 := fun x hx => by have := hLb x hx; omega
    obtain ⟨X, hX⟩ : ∃ X, X = softL L := ⟨_, rfl⟩
    have hXl : X.length = L.length - 2 := by rw [hX, softL, tab_len]
    have HXA : Hid (∀ i, i < X.length → X.getD i 0 = softF (clipF 0 255 (L.getD i 0)) (clipF 0 255 (L.getD (i + 1) 0)) (clipF 0 255 (L.getD (i + 2) 0))) := Lib.hid (fun i hi => by rw [hX] at hi ⊢; rw [softL, tab_len] at hi; rw [softL, tab_getD _ _ _ hi]; rfl)
    have HC1 : Hid (∀ v, Row v b L → Calls Try.prog 16 #[.slice b L.length d] v fun e w' => ∃ b d, e = .returned (.slice b X.length d) ∧ Own v.heap.size w' b d X ∧ Below v.heap.size v w') := Lib.hid (fun v h => by rw [hX]; exact impl.Softened_c b d L v (by omega) h hLb')
    have HC2 : Hid (∀ v, Row v b L → Calls Try.prog 19 #[.slice b L.length d] v fun e w' => ∃ b d, e = .returned (.slice b X.length d) ∧ Own v.heap.size w' b d X ∧ Below v.heap.size v w') := Lib.hid (fun v h => by rw [hX]; exact spec.Softened_c b d L v (by omega) h hLb')
    have HRL : Hid (∀ v, Below w1.heap.size w1 v → Row v b L) := Lib.hid (fun v h => hrL.below h (Nat.le_refl _))
    have HLB : Hid (∀ i, i < L.length → -5 ≤ L.getD i 0 ∧ L.getD i 0 ≤ 300) := Lib.hid (fun i hi => by rw [getD_lt hi]; exact hLb _ (List.getElem_mem hi))
    have HXL := Lib.hid hXl
    have HB1 := Lib.hid hb1
    clear hX hXl hLb hLb' hrL hb1 HD
    go_wp2_with fail
    refine (HC1.out w1 (HRL.out _ (Below.refl _ _))).mono ?_
    rintro e w2 ⟨b2, d2, rfl, o2, k2⟩
    have HB2 := Lib.hid (below_next HB1.out k2)
    have HRX : Hid (∀ v, Below w2.heap.size w2 v → Row v b2 X) := Lib.hid (fun v h => o2.row.below h (Nat.le_refl _))
    have HRL2 : Hid (∀ v, Below w2.heap.size w2 v → Row v b L) := Lib.hid (fun v h => HRL.out v (below_next k2 h))
    clear o2 k2 HC1
    go_wp2_with fail
    go_loopw [5, 6, 7] (fun i _ _ wx => ∃ (j n : Nat), j ≤ X.length ∧ i = .int .i64 j ∧ wx = w2.drewN n) (fun i _ _ _ => X.length - (intOf i).toNat)
    case atStart => exact ⟨0, 0, Nat.zero_le _, rfl, rfl⟩
    case round =>
      obtain ⟨j, n, hj, rfl, rfl⟩ := hrel
      by_cases hlt : j < X.length
      · have hxl := HXL.out
        obtain ⟨gx, fx, rfl, hcx⟩ := (HRX.out _ (Below.refl _ _)).at_ (i := j) hlt
        obtain ⟨gl, fl, rfl, hc0⟩ := (HRL2.out _ (Below.refl _ _)).at_ (i := j) (by omega)
        obtain ⟨_, _, e, hc1⟩ := (HRL2.out _ (Below.refl _ _)).at_ (i := j + 1) (by omega)
        cases e
        obtain ⟨_, _, e, hc2⟩ := (HRL2.out _ (Below.refl _ _)).at_ (i := j + 2) (by omega)
        cases e
        have hxa := HXA.out j hlt
        have hbt := soft_between (L.getD j 0) (L.getD (j + 1) 0) (L.getD (j + 2) 0)
        rw [← hxa] at hbt
        have b0 := HLB.out j (by omega)
        have b1 := HLB.out (j + 1) (by omega)
        have b2' := HLB.out (j + 2) (by omega)
        have hlen : (L.length : Int) - 2 = (X.length : Int) := by omega
        have HLN := Lib.hid hlen
        have z0 : (j : Int) < (X.length : Int) := by omega
        have z1 : (j : Int) < (L.length : Int) := by omega
        obtain ⟨j1, hj1⟩ : ∃ j1, j1 = j + 1 := ⟨_, rfl⟩
        obtain ⟨j2, hj2⟩ : ∃ j2, j2 = j + 2 := ⟨_, rfl⟩
        have q1 : IntKind.i64.wrap ((j : Int) + 1) = (j1 : Int) := by rw [IntWalk.i64_in _ (by omega)]; omega
        have q2 : IntKind.i64.wrap ((j : Int) + 2) = (j2 : Int) := by rw [IntWalk.i64_in _ (by omega)]; omega
        have z2 : (j1 : Int) < (L.length : Int) := by omega
        have z3 : (j2 : Int) < (L.length : Int) := by omega
        rw [show fl + (j + 1) = fl + j1 from by omega] at hc1
        rw [show fl + (j + 2) = fl + j2 from by omega] at hc2
        generalize L.getD j 0 = x0 at *
        generalize L.getD (j + 1) 0 = x1 at *
        generalize L.getD (j + 2) 0 = x2 at *
        generalize X.getD j 0 = xx at *
        obtain ⟨lo, hlo⟩ : ∃ lo, lo = max 0 (min 255 (min x0 (min x1 x2))) := ⟨_, rfl⟩
        obtain ⟨hi, hhi⟩ : ∃ hi, hi = max 0 (min 255 (max x0 (max x1 x2))) := ⟨_, rfl⟩
        rw [← hlo, ← hhi] at hbt
        obtain ⟨t0, t1, t2, t3⟩ := hbt
        have elo := hlo.symm
        have ehi := hhi.symm
        have HJ := Lib.hid hj1
        have HLT := Lib.hid hlt
        clear hxa hlo hhi hxl hj1 hj2
        have hne : ∀ b : Int, (b != b) = false := by intro b; simp
        go_wp2
        go_quiet (fail)
        go_wp2
        go_quiet (fail)
        go_wp2
        go_roundw
        all_goals first
          | exact ⟨j + 1, _, by have := HLT.out; omega, by first | go_num | (have := HJ.out; go_num) | (rw [HJ.out]; go_num), by first | rfl | exact World.drewN_drewN _ _ _ | (simp only [World.drewN_drewN]; rfl)⟩
          | (have := HLT.out; have := HJ.out; simp [intOf]; omega)
          | (have := HLT.out; have := HJ.out; simp only [intOf, Int.toNat_natCast]; omega)
      · have z0 : (X.length : Int) ≤ (j : Int) := by omega
        have HB3 := Lib.hid (below_drewN' HB2.out n)
        have HRX3 : Hid (∀ v, Below (w2.drewN n).heap.size (w2.drewN n) v → Row v b2 X) := Lib.hid (fun v h => ((HRX.out _ (Below.refl _ _)).drewN n).below h (Nat.le_refl _))
        have HRL3 : Hid (∀ v, Below (w2.drewN n).heap.size (w2.drewN n) v → Row v b L) := Lib.hid (fun v h => ((HRL2.out _ (Below.refl _ _)).drewN n).below h (Nat.le_refl _))
        generalize w2.drewN n = w3 at *
        have hX16 : X.length ≤ 16 := by have := HXL.out; omega
        clear HXA HRX HRL HRL2 HB2 HLB
        go_wp2_with fail
        refine (HDS.out w3 HB3.out).mono ?_
        rintro e w4 ⟨x, p, A, y, q, M, C, T, H, n2, z, rfl, ⟨ha1, ha2, ha3, ha4⟩, hAb, hMb, hCb, hnb, hzb, hrA, hrM, k4⟩
        have hAb' : ∀ x ∈ A, -9223372036854775808 ≤ x ∧ x ≤ 9223372036854775807 := fun x hx => by have := hAb x hx; omega
        have hMb' : ∀ x ∈ M, -9223372036854775808 ≤ x ∧ x ≤ 9223372036854775807 := fun x hx => by have := hMb x hx; omega
        obtain ⟨S, hS⟩ : ∃ S, S = slopeF A M C n2 z := ⟨_, rfl⟩
        have hSl : S.length ≤ 1048576 := by rw [hS]; exact slopeF_len _ _ _ _ _
        have HS1 : Hid (∀ v, Row v x A → Row v y M → Calls Try.prog 20 #[nbv x A.length p y M.length q C T H, .int .i64 n2, .int .i64 z] v fun e w' => ∃ b d, e = .returned (.slice b S.length d) ∧ Own v.heap.size w' b d S ∧ Below v.heap.size v w') := Lib.hid (fun v h1 h2 => by rw [hS]; exact impl.SlopeRow_c x p A y q M C T H n2 z v (by omega) h1 hAb' (by omega) h2 hMb' (by omega) ha2 ha4)
        have HS2 : Hid (∀ v, Row v x A → Row v y M → Calls Try.prog 21 #[nbv x A.length p y M.length q C T H, .int .i64 n2, .int .i64 z] v fun e w' => ∃ b d, e = .returned (.slice b S.length d) ∧ Own v.heap.size w' b d S ∧ Below v.heap.size v w') := Lib.hid (fun v h1 h2 => by rw [hS]; exact spec.SlopeRow_c x p A y q M C T H n2 z v (by omega) h1 hAb' (by omega) h2 hMb' (by omega) ha2 ha4)
        obtain ⟨w5, hw5⟩ : ∃ w5, w5 = w4.alloc (.cells #[.slice x A.length p, .slice y M.length q, .int .i64 C, .bool T, .bool H] 27) := ⟨_, rfl⟩
        have k5 : Below w4.heap.size w4 w5 := by rw [hw5]; exact (Below.refl _ _).alloc (Nat.le_refl _) _
        have HB5 : Hid (Box5 w5 w4.heap.size (.slice x A.length p) (.slice y M.length q) (.int .i64 C) (.bool T) (.bool H)) := Lib.hid (by rw [hw5]; exact Box5.new _ _ _ _ _ _ _)
        have HK : Hid (Below w.heap.size w w5) := Lib.hid (below_next (below_next HB3.out k4) k5)
        have HA5 : Hid (∀ v, Below w5.heap.size w5 v → Row v x A) := Lib.hid (fun v h => hrA.below (below_next k5 h) (Nat.le_refl _))
        have HM5 : Hid (∀ v, Below w5.heap.size w5 v → Row v y M) := Lib.hid (fun v h => hrM.below (below_next k5 h) (Nat.le_refl _))
        have HX5 : Hid (∀ v, Below w5.heap.size w5 v → Row v b2 X) := Lib.hid (fun v h => HRX3.out v (below_next (below_next k4 k5) h))
        have HL5 : Hid (∀ v, Below w5.heap.size w5 v → Row v b L) := Lib.hid (fun v h => HRL3.out v (below_next (below_next k4 k5) h))
        obtain ⟨kb, hkb⟩ : ∃ kb, kb = w4.heap.size := ⟨_, rfl⟩
        rw [← hkb] at HB5
        go_wp2_with fail
        rw [← hw5, ← hkb]
        obtain ⟨hkl, c0, c1, c2, c3, c4⟩ := HB5.out
        clear hw5 hkb k4 k5 hrA hrM hAb hMb hAb' hMb' hS HRX3 HRL3 HDS HB5
        go_region_held3 (fun w' => w'.cell? ⟨kb, 0, none⟩ = some (.slice x A.length p) ∧ w'.cell? ⟨kb, 1, none⟩ = some (.slice y M.length q) ∧ w'.cell? ⟨kb, 2, none⟩ = some (.int .i64 C) ∧ w'.cell? ⟨kb, 3, none⟩ = some (.bool T) ∧ w'.cell? ⟨kb, 4, none⟩ = some (.bool H)) (first | go_keep)
          ((first
            | (go_at_call 19; refine (HC2.out _ (HL5.out _ (Below.refl _ _)).drew).mono ?_; rintro e w6 ⟨b6, d6, rfl, o6, k6⟩; have c06 := bcell k6 kb 0 hkl; have c16 := bcell k6 kb 1 hkl; have c26 := bcell k6 kb 2 hkl; have c36 := bcell k6 kb 3 hkl; have c46 := bcell k6 kb 4 hkl; have k6 : Below w5.heap.size w5 w6 := below_next ((Below.refl w5.heap.size w5).drew) k6; have hkl6 : kb < w6.heap.size := Nat.lt_of_lt_of_le hkl k6.size)
            | (go_at_call 20; refine (HS1.out _ (HA5.out _ (below_next k6 k7)) (HM5.out _ (below_next k6 k7))).mono ?_; rintro e w8 ⟨b8, d8, rfl, o8, k8⟩; have c08 := bcell k8 kb 0 hkl7; have c18 := bcell k8 kb 1 hkl7; have c28 := bcell k8 kb 2 hkl7; have c38 := bcell k8 kb 3 hkl7; have c48 := bcell k8 kb 4 hkl7; have k68 := below_next (below_next k6 k7) k8; have hkl8 : kb < w8.heap.size := Nat.lt_of_lt_of_le hkl7 k8.size)
            | (go_at_call 21; refine (HS2.out _ (HA5.out _ k68) (HM5.out _ k68)).mono ?_; rintro e w9 ⟨b9, d9, rfl, o9, k9⟩; have c09 := bcell k9 kb 0 hkl8; have c19 := bcell k9 kb 1 hkl8; have c29 := bcell k9 kb 2 hkl8; have c39 := bcell k9 kb 3 hkl8; have c49 := bcell k9 kb 4 hkl8; have hkl9 : kb < w9.heap.size := Nat.lt_of_lt_of_le hkl8 k9.size)
            | (go_at_call 18; (first
                | (refine (sameInts_t b8 b9 d8 d9 S w9 (by omega) (o8.row.below k9 (Nat.le_refl _)) o9.row).mono ?_; rintro e w10 ⟨rfl, k10⟩; have c010 := bcell k10 kb 0 hkl9; have c110 := bcell k10 kb 1 hkl9; have c210 := bcell k10 kb 2 hkl9; have c310 := bcell k10 kb 3 hkl9; have c410 := bcell k10 kb 4 hkl9)
                | (refine (sameInts_t b2 b6 d2 d6 X w6 (by omega) (HX5.out _ k6) o6.row).mono ?_; rintro e w7 ⟨rfl, k7⟩; have c07 := bcell k7 kb 0 hkl6; have c17 := bcell k7 kb 1 hkl6; have c27 := bcell k7 kb 2 hkl6; have c37 := bcell k7 kb 3 hkl6; have c47 := bcell k7 kb 4 hkl6; have hkl7 : kb < w7.heap.size := Nat.lt_of_lt_of_le hkl6 k7.size)))))
        all_goals
          have HF := Lib.hid (below_next (below_next (below_next HK.out k68) k9) k10)
          clear o6 o8 o9 k6 k7 k8 k68 k9 k10
          go_wp2
          go_ret
          exact ⟨rfl, HF.out⟩

theorem own : ownKnob Try.prog.godebug = none := by kernel_rfl
theorem laidOut : laidOutB Try.prog = true := by kernel_rfl
set_option maxRecDepth 100000 in
theorem lifted (os : Os) (started : os.Started) (H : Type) (enc : TypeId × Value → H) :
    ReturnsInHanded {} Try.checked os 4 .any (Rows.fnSoftSpec.pre6 enc Try.prog Try.f4 Rows.fnSoftRow.domain false) (Rows.fnSoftSpec.post enc Try.prog Try.f4 false true false false) := by
  refine returnsInHanded_of_change (C := Try.checked) own started (by kernel_rfl) Try.func4
    (ChangeSpec.witness6 (enc := enc) (C := Try.checked) false ⟨#[], #[.slice none 0 0], []⟩ 8 (by kernel_rfl) (by kernel_rfl) (by kernel_rfl) (by kernel_rfl)) ?_
  intro W base args ds gs before hval0 hW hcnd _
  have hval : ∀ (j : Nat) t v, Try.f4.params[j]? = some t → args[j]? = some v → Value.okWide Try.prog W .any base t v := hval0
  have hW' := hW
  obtain ⟨p, q, hA0, hV, rfl, hfz, hnd⟩ := hW
  have hA : DataW.TrodAll enc Try.prog W 0 (fun _ => true) true Try.f4.params.toList args.toList ds p := hA0
  rw [Try.params4] at hA hval
  obtain ⟨v0, vs0, d0, ds0, p0, q0, hargs, rfl, rfl, h0, tr0⟩ := trodAll_cons hA
  obtain ⟨rfl, rfl, rfl⟩ := trodAll_nil tr0
  obtain rfl : args = #[v0] := by cases args; simp_all
  obtain ⟨rfl, rfl⟩ := trodVars_none hV
  have k0 := h0
  have lt0 : ∀ x ∈ p0, x.block < W.heap.size := by obtain ⟨m, hm⟩ := k0; exact DataW.trod_lt m _ _ _ hm
  obtain ⟨a0, len0, c0, rfl⟩ := okWide_slice Try.underlying22 (hval 0 22 v0 rfl rfl)
  obtain ⟨l0, hl0, r0, w0⟩ : ∃ l : List Int, l.length = len0 ∧ RowB W a0 l ∧ ∀ x ∈ l, 0 ≤ x ∧ x ≤ 255 := by
    obtain ⟨fuel, hf⟩ := k0
    rcases open_ints Try.underlying22 Try.underlying5 (by kernel_rfl) hf with ⟨hcs, _⟩ | ⟨x, l, c, zs, hcs, _, hl, hm, hz, _, hcell, hwz⟩
    · simp [Value.cells] at hcs
      obtain ⟨rfl, rfl, rfl⟩ := hcs
      exact ⟨[], rfl, .inl rfl, by simp⟩
    · simp [Value.cells] at hcs
      obtain ⟨rfl, rfl, rfl⟩ := hcs
      exact RowB.of_cells hl (by simpa using hz) hcell (fun n hn => wf_u8 (hwz n hn))
  subst hl0
  clear hA0 hval0
  refine (walk W a0 c0 l0 r0 w0).mono fun e W' ⟨he, bel⟩ => ?_
  subst he
  exact ⟨_, rfl, _, _, _, [], _, [], hW', trodAll_mk1 (shut_bool Try.underlying4 _), (trodAll_cons_mk (Below.trod laidOut (by kernel_rfl) (of_decide_eq_true (by kernel_rfl)) k0 bel lt0) trodAll_mk0), rfl, bel.frame _, fun h => by cases h⟩

theorem over : Rows.fnSoftRow.holds Try.pinned (OpenSpec.ofChange Rows.fnSoftSpec) :=
  OpenClaim.holds_of_wide 4 Try.f4 rfl rfl rfl rfl rfl rfl rfl ⟨rfl, rfl, rfl, rfl, rfl⟩ rfl rfl rfl rfl rfl (by kernel_rfl) Try.func4 (by kernel_rfl)
    (of_decide_eq_true (by kernel_rfl)) (by unfold Func.isWrapper; first | (rw [if_pos (by decide +kernel)]; kernel_rfl) | (rw [if_neg (by decide +kernel)]; exact ⟨rfl, rfl⟩))
    (fun os started H enc _ => lifted os started H enc)

/-- the statement -/
theorem proved : Rows.FnSoftSaid := over
#print axioms proved
end Go.Proofs.Ytbdggcefgiehkaa.fnSoft
