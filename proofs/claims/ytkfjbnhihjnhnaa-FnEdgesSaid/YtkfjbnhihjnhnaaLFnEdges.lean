/- For every input the law FnEdges returns true and leaves its arguments as they were; no condition. -/
import Derived.Test.YtkfjbnhihjnhnaaMem
import Derived.Test.YtkfjbnhihjnhnaaFrm
import Derived.Test.YtkfjbnhihjnhnaaDebF
import Derived.Test.YtkfjbnhihjnhnaaDrawI
import Derived.Test.YtkfjbnhihjnhnaaDrawR
import Derived.StillTailTactics
import Derived.Deep.RegionHeld3
namespace Go.Proofs.Ytkfjbnhihjnhnaa.fnEdges
open Go.ChangeShapes Go.WideShapes Go.ChangeAt Go.RowKit Go.Joins
set_option linter.unusedVariables false
-- DEEP
-- KIT Derived.StillTailTactics
-- KIT Derived.Deep.RegionHeld3

set_option maxRecDepth 100000 in
set_option maxHeartbeats 4000000 in
theorem walk (w : World) (a0 : Option Addr) (c0 : Nat) (l0 : List Int) (r0 : RowB w a0 l0) (w0 : ∀ x ∈ l0, 0 ≤ x ∧ x ≤ 255) :
    Calls Try.prog 3 #[.slice a0 l0.length c0] w fun e w' => e = .returned (.bool true) ∧ Below w.heap.size w w' := by
  by_cases hbig : 1048576 < l0.length
  · have HB := Lib.hid (big_c a0 c0 l0.length w)
    rw [decide_eq_true hbig] at HB
    clear hbig r0 w0
    go_enter Try.func3, Try.ntmps3
    go_wp2_with (go_at_call 8; refine HB.out.mono ?_; rintro e w' ⟨rfl, rfl⟩)
    go_ret
    exact ⟨rfl, Below.refl _ _⟩
  · have HB := Lib.hid (big_c a0 c0 l0.length w)
    rw [decide_eq_false hbig] at HB
    have HD := Lib.hid (DrawDeblockRef_c a0 c0 l0 w (by omega) r0 w0)
    clear hbig r0 w0
    go_enter Try.func3, Try.ntmps3
    go_wp2_with (go_at_call 8; refine HB.out.mono ?_; rintro e w' ⟨rfl, rfl⟩)
    refine HD.out.mono ?_
    rintro e w4 ⟨X, Y, x, d, L, q, rfl, hX, hY, hq, hLl, hLd, hLb, hrL, k4⟩
    have hLw : ∀ z ∈ L, -9223372036854775808 ≤ z ∧ z ≤ 9223372036854775807 := fun z hz => by have := hLb z hz; omega
    obtain ⟨px, fx, rfl, hpx, _⟩ := hrL.inside hLl.1
    obtain ⟨A, hA⟩ : ∃ S, S = debV X Y L q := ⟨_, rfl⟩
    have hAl : A.length = L.length := by rw [hA]; exact debV_len _ _ _ _
    have hAw : ∀ z ∈ A, -9223372036854775808 ≤ z ∧ z ≤ 9223372036854775807 := by
      cases hfr : frameB X Y L
      · rw [hA, debV_out hfr]; exact hLw
      · intro z hz
        rw [hA] at hz
        have := inR_true (List.all_eq_true.1 (frameB_true (debV_ok (q := q) hfr)).2.2 z hz)
        omega
    have HR0 : Hid (∀ t, Below w4.heap.size w4 t → Row t (some ⟨px, fx, none⟩) L) := Lib.hid (fun t h => hrL.below h (Nat.le_refl _))
    have HDR : Hid (∀ t, Row t (some ⟨px, fx, none⟩) L → Calls Try.prog 10 #[frv X Y (some ⟨px, fx, none⟩) L.length d, .int .i64 q] t fun e w' => ∃ b d', e = .returned (frv X Y b A.length d') ∧ Own t.heap.size w' b d' A ∧ Below t.heap.size t w') := Lib.hid (fun t h => by
      rw [hA]
      exact impl.DeblockRef_c X Y _ d L q t (by omega) (by omega) (by omega) h hLw)
    have HDF : Hid (∀ t, Row t (some ⟨px, fx, none⟩) L → Calls Try.prog 11 #[frv X Y (some ⟨px, fx, none⟩) L.length d, .int .i64 q] t fun e w' => ∃ b d', e = .returned (frv X Y b A.length d') ∧ Own t.heap.size w' b d' A ∧ Below t.heap.size t w') := Lib.hid (fun t h => by
      rw [hA]
      exact impl.DeblockFast_c X Y _ d L q t (by omega) (by omega) (by omega) h hLw)
    have HDS : Hid (∀ t, Row t (some ⟨px, fx, none⟩) L → Calls Try.prog 13 #[frv X Y (some ⟨px, fx, none⟩) L.length d, .int .i64 q] t fun e w' => ∃ b d', e = .returned (frv X Y b A.length d') ∧ Own t.heap.size w' b d' A ∧ Below t.heap.size t w') := Lib.hid (fun t h => by
      rw [hA]
      exact spec.DeblockRef_c X Y _ d L q t (by omega) (by omega) (by omega) h hLw (.inr ⟨_, rfl⟩))
    have HSA : Hid (∀ b c' b2 c2 t, Row t b A → Row t b2 A → Calls Try.prog 12 #[frv X Y b A.length c', frv X Y b2 A.length c2] t fun e w' => e = .returned (.bool true) ∧ Below t.heap.size t w') := Lib.hid (fun b c' b2 c2 t h1 h2 => by
      have h := spec.SameFrame_c X Y b c' A X Y b2 c2 A t (by omega) (by omega) (by omega) h1 hAw (by omega) (by omega) (by omega) h2 hAw
      rw [show sameB X Y A X Y A = true from by simp [sameB]] at h
      exact h)
    have HSL : Hid (∀ b c' t, A = L → Row t b A → Row t (some ⟨px, fx, none⟩) L → Calls Try.prog 12 #[frv X Y b A.length c', frv X Y (some ⟨px, fx, none⟩) L.length d] t fun e w' => e = .returned (.bool true) ∧ Below t.heap.size t w') := Lib.hid (fun b c' t he h1 h2 => by
      have h := spec.SameFrame_c X Y b c' A X Y (some ⟨px, fx, none⟩) d L t (by omega) (by omega) (by omega) h1 hAw (by omega) (by omega) (by omega) h2 hLw
      rw [show sameB X Y A X Y L = true from by simp [sameB, he]] at h
      exact h)
    have HOKL : Hid (∀ t, Row t (some ⟨px, fx, none⟩) L → Calls Try.prog 14 #[frv X Y (some ⟨px, fx, none⟩) L.length d] t fun e w' => e = .returned (.bool (frameB X Y L)) ∧ Below t.heap.size t w') := Lib.hid (fun t h => spec.FrameOk_c X Y _ d L t (by omega) (by omega) (by omega) h hLw)
    have HOKA : Hid (∀ b c' t, Row t b A → Calls Try.prog 15 #[frv X Y b A.length c'] t fun e w' => e = .returned (.bool (frameB X Y A)) ∧ Below t.heap.size t w') := Lib.hid (fun b c' t h => impl.FrameOk_c X Y b c' A t (by omega) (by omega) (by omega) h hAw)
    have HAV := Lib.hid hA
    obtain ⟨nL, hnL⟩ : ∃ n, L.length = n := ⟨_, rfl⟩
    have HNL := Lib.hid hnL
    have HNA := Lib.hid (hAl.trans hnL)
    rw [HNA.out, hnL] at HDR HDF HDS HSL
    rw [HNA.out] at HSA HOKA
    rw [hnL] at HOKL hLl ⊢
    have hnl : nL ≤ 384 := hLl.2
    have HK4 := Lib.hid k4
    obtain ⟨w5, hw5⟩ : ∃ w5, w5 = w4.alloc (.cells #[.int .i64 X, .int .i64 Y, .slice (some ⟨px, fx, none⟩) nL d] 26) := ⟨_, rfl⟩
    have k45 : Below w4.heap.size w4 w5 := by rw [hw5]; exact (Below.refl _ _).alloc (Nat.le_refl _) _
    have HF0 : Hid (Box3 w5 w4.heap.size (.int .i64 X) (.int .i64 Y) (.slice (some ⟨px, fx, none⟩) nL d)) := Lib.hid (by rw [hw5]; exact Box3.new _ _ _ _ _)
    obtain ⟨kf, hkf⟩ : ∃ k, k = w4.heap.size := ⟨_, rfl⟩
    rw [← hkf] at HF0
    clear hLb hLw hLd hAw hA hAl hnL HD hrL k4 hq hpx
    go_wp2_with fail
    rw [← hkf, ← hw5]
    clear hw5 hkf
    obtain ⟨_, f0, f1, f2⟩ := HF0.out
    refine (HDR.out w5 (HR0.out _ k45)).mono ?_
    rintro e w6 ⟨b1, d1, rfl, o1, k56⟩
    have k46 := below_next k45 k56
    obtain ⟨w7, hw7⟩ : ∃ w7, w7 = w6.alloc (.cells #[.int .i64 X, .int .i64 Y, .slice b1 nL d1] 26) := ⟨_, rfl⟩
    have k67 : Below w6.heap.size w6 w7 := by rw [hw7]; exact (Below.refl _ _).alloc (Nat.le_refl _) _
    have HG0 : Hid (Box3 w7 w6.heap.size (.int .i64 X) (.int .i64 Y) (.slice b1 nL d1)) := Lib.hid (by rw [hw7]; exact Box3.new _ _ _ _ _)
    have HR1 : Hid (∀ t, Below w7.heap.size w7 t → Row t b1 A) := Lib.hid (fun t h => o1.row.below (below_next k67 h) (Nat.le_refl _))
    have k47 := below_next k46 k67
    have HFG := Lib.hid (HF0.out.below (below_next k56 k67) (Nat.le_refl _))
    obtain ⟨kg, hkg⟩ : ∃ k, k = w6.heap.size := ⟨_, rfl⟩
    obtain ⟨_, f0, f1, f2⟩ := HF0.out.below k56 (Nat.le_refl _)
    rw [← hkg] at HG0
    have hkfg : kf < kg := by rw [hkg]; exact Nat.lt_of_lt_of_le HF0.out.1 k56.size
    have hkn1 : ¬ (kf = kg) := by omega
    have hkn2 : ¬ (kg = kf) := by omega
    clear o1 k56 k45
    go_wp2_with fail
    rw [← hkg, ← hw7]
    clear hw7 hkg k46 k67
    obtain ⟨_, f0, f1, f2⟩ := HFG.out
    refine (HDF.out w7 (HR0.out _ k47)).mono ?_
    rintro e w8 ⟨b2, d2, rfl, o2, k78⟩
    obtain ⟨w9, hw9⟩ : ∃ w9, w9 = w8.alloc (.cells #[.int .i64 X, .int .i64 Y, .slice b2 nL d2] 26) := ⟨_, rfl⟩
    have k89 : Below w8.heap.size w8 w9 := by rw [hw9]; exact (Below.refl _ _).alloc (Nat.le_refl _) _
    have HH9 : Hid (Box3 w9 w8.heap.size (.int .i64 X) (.int .i64 Y) (.slice b2 nL d2)) := Lib.hid (by rw [hw9]; exact Box3.new _ _ _ _ _)
    have k79 := below_next k78 k89
    have HK := Lib.hid (below_next (below_next HK4.out k47) k79)
    have HRM : Hid (∀ t, Below w9.heap.size w9 t → Row t (some ⟨px, fx, none⟩) L ∧ Row t b1 A ∧ Row t b2 A) := Lib.hid (fun t h => ⟨HR0.out _ (below_next (below_next k47 k79) h), HR1.out _ (below_next k79 h), o2.row.below (below_next k89 h) (Nat.le_refl _)⟩)
    have HF9 := Lib.hid (HFG.out.below k79 (Nat.le_refl _))
    have HG9 := Lib.hid (HG0.out.below k79 (Nat.le_refl _))
    obtain ⟨_, f0, f1, f2⟩ := HFG.out.below k78 (Nat.le_refl _)
    obtain ⟨_, g0, g1, g2⟩ := HG0.out.below k78 (Nat.le_refl _)
    obtain ⟨kh, hkh⟩ : ∃ k, k = w8.heap.size := ⟨_, rfl⟩
    have hk8 : kg < w8.heap.size := Nat.lt_of_lt_of_le HG0.out.1 k78.size
    rw [← hkh] at HH9 hk8
    have hkn3 : ¬ (kf = kh) := by omega
    have hkn4 : ¬ (kh = kf) := by omega
    have hkn5 : ¬ (kg = kh) := by omega
    have hkn6 : ¬ (kh = kg) := by omega
    clear o2 k78 k47 k89 k79 HFG HG0 HF0 HR0 HR1 HDR HDF HK4 hk8
    have HBX : Hid (∀ t, Below w9.heap.size w9 t → t.cell? ⟨kf, 0, none⟩ = some (.int .i64 X) ∧ t.cell? ⟨kf, 1, none⟩ = some (.int .i64 Y) ∧ t.cell? ⟨kf, 2, none⟩ = some (.slice (some ⟨px, fx, none⟩) nL d) ∧ t.cell? ⟨kg, 0, none⟩ = some (.int .i64 X) ∧ t.cell? ⟨kg, 1, none⟩ = some (.int .i64 Y) ∧ t.cell? ⟨kg, 2, none⟩ = some (.slice b1 nL d1) ∧ t.cell? ⟨kh, 0, none⟩ = some (.int .i64 X) ∧ t.cell? ⟨kh, 1, none⟩ = some (.int .i64 Y) ∧ t.cell? ⟨kh, 2, none⟩ = some (.slice b2 nL d2)) := Lib.hid (fun t ht => by
      have h1 := (HF9.out.below ht (Nat.le_refl _)).2
      have h2 := (HG9.out.below ht (Nat.le_refl _)).2
      have h3 := (HH9.out.below ht (Nat.le_refl _)).2
      exact ⟨h1.1, h1.2.1, h1.2.2, h2.1, h2.2.1, h2.2.2, h3⟩)
    go_upto_region 6 with fail
    rw [← hw9, ← hkh]
    clear hw9 hkh f0 f1 f2 g0 g1 g2
    have kc : Below w9.heap.size w9 w9.drew := (Below.refl _ _).drew
    have hq := HBX.out _ (Below.refl _ _)
    go_cut [34] (fun s34 wx => s34 = .bool false ∧ Below w9.heap.size w9 wx)
    case first =>
      go_region_held3 (fun w' => w'.cell? ⟨kf, 0, none⟩ = some (.int .i64 X) ∧ w'.cell? ⟨kf, 1, none⟩ = some (.int .i64 Y) ∧ w'.cell? ⟨kf, 2, none⟩ = some (.slice (some ⟨px, fx, none⟩) nL d) ∧ w'.cell? ⟨kg, 0, none⟩ = some (.int .i64 X) ∧ w'.cell? ⟨kg, 1, none⟩ = some (.int .i64 Y) ∧ w'.cell? ⟨kg, 2, none⟩ = some (.slice b1 nL d1) ∧ w'.cell? ⟨kh, 0, none⟩ = some (.int .i64 X) ∧ w'.cell? ⟨kh, 1, none⟩ = some (.int .i64 Y) ∧ w'.cell? ⟨kh, 2, none⟩ = some (.slice b2 nL d2)) (first | exact hq | go_keep)
        ((first
          | (go_at_call 13; with_reducible refine (HDS.out _ (HRM.out _ kc).1).mono ?_; rintro e wn ⟨b3, d3, rfl, ho, hb⟩; have hr := ho.row; have kc := below_next kc hb; have hq := HBX.out _ kc; clear hb ho)
          | (go_at_call 12; (first | with_reducible refine (HSA.out b1 d1 b2 d2 _ (HRM.out _ kc).2.1 (HRM.out _ kc).2.2).mono ?_ | with_reducible refine (HSA.out b1 d1 b3 d3 _ (HRM.out _ kc).2.1 hr).mono ?_); rintro e wn ⟨rfl, hb⟩; have kc := below_next kc hb; have hq := HBX.out _ kc; clear hb)))
      all_goals
        go_wp2_with fail
        go_meet
        exact ⟨rfl, kc⟩
    case rest =>
      obtain ⟨rfl, kcut⟩ := hcut
      clear kc hq
      obtain ⟨f0, f1, f2, g0, g1, g2, h0, h1, h2⟩ := HBX.out _ kcut
      have HKC := Lib.hid kcut
      clear kcut
      go_wp2_with fail
      refine (HOKL.out wc (HRM.out _ HKC.out).1).mono ?_
      rintro e w10 ⟨rfl, k10⟩
      have k10 := below_next HKC.out k10
      have HK10 := Lib.hid k10
      clear f0 f1 f2 g0 g1 g2 h0 h1 h2 k10
      cases hfr : frameB X Y L
      · have hAL : A = L := by rw [HAV.out]; exact debV_out hfr
        have HAL := Lib.hid hAL
        clear hAL hfr
        obtain ⟨f0, f1, f2, g0, g1, g2, h0, h1, h2⟩ := HBX.out _ HK10.out
        go_wp2_with fail
        refine (HSL.out b1 d1 w10 HAL.out (HRM.out _ HK10.out).2.1 (HRM.out _ HK10.out).1).mono ?_
        rintro e w11 ⟨rfl, k11⟩
        have HF := Lib.hid (below_next HK.out (below_next HK10.out k11))
        clear k11
        go_wp2
        go_ret
        exact ⟨rfl, HF.out⟩
      · obtain ⟨hsd, hlen, _⟩ := frameB_true hfr
        have hsd2 := sidesB_true hsd
        obtain ⟨X, rfl⟩ := Int.eq_ofNat_of_zero_le (show 0 ≤ X by omega)
        have hX8 : 8 ≤ X := by omega
        have hX32 : X ≤ 32 := by omega
        have hIN : ∀ p, 0 < p % X % 8 ∧ p % X % 8 < 7 → 0 < p / X % 8 ∧ p / X % 8 < 7 → A.getD p 0 = L.getD p 0 := fun p h1 h2 => by rw [HAV.out]; exact debV_in (by omega) p h1 h2
        have HIN := Lib.hid hIN
        have hfA : frameB X Y A = true := by rw [HAV.out]; exact debV_ok hfr
        rw [hfA] at HOKA
        clear hsd hlen hsd2 hIN hfA hfr hX HAV
        obtain ⟨w9', hw9'⟩ : ∃ z, z = w10 := ⟨_, rfl⟩
        have HRW : Hid (∀ t, Below w9'.heap.size w9' t → Row t (some ⟨px, fx, none⟩) L ∧ Row t b1 A) := Lib.hid (fun t h => by rw [hw9'] at h; exact ⟨(HRM.out _ (below_next HK10.out h)).1, (HRM.out _ (below_next HK10.out h)).2.1⟩)
        have HB9 : Hid (∀ t, Below w9'.heap.size w9' t → t.cell? ⟨kf, 0, none⟩ = some (.int .i64 X) ∧ t.cell? ⟨kf, 2, none⟩ = some (.slice (some ⟨px, fx, none⟩) nL d) ∧ t.cell? ⟨kg, 0, none⟩ = some (.int .i64 X) ∧ t.cell? ⟨kg, 1, none⟩ = some (.int .i64 Y) ∧ t.cell? ⟨kg, 2, none⟩ = some (.slice b1 nL d1)) := Lib.hid (fun t h => by
          rw [hw9'] at h
          obtain ⟨h0, _, h2, h3, h4, h5, _⟩ := HBX.out _ (below_next HK10.out h)
          exact ⟨h0, h2, h3, h4, h5⟩)
        have HK9 : Hid (Below w.heap.size w w9') := Lib.hid (by rw [hw9']; exact below_next HK.out HK10.out)
        rw [← hw9']
        clear hw9' HK10 HKC HBX HRM HF9 HG9 HH9 HK HDS HSA HSL HOKL
        go_wp2_with fail
        go_loopw [7] (fun i wr => ∃ (j m : Nat), j ≤ nL ∧ i = .int .i64 j ∧ wr = w9'.drewN m) (fun i _ => nL - (intOf i).toNat)
        case atStart => exact ⟨0, 0, Nat.zero_le _, rfl, rfl⟩
        case round =>
          obtain ⟨j, m, hj, rfl, rfl⟩ := hrel
          obtain ⟨f0, f2, g0, g1, g2⟩ := HB9.out _ (Below.refl _ _)
          by_cases hlt : j < nL
          · have hltd : decide ((j : Int) < (nL : Int)) = true := decide_eq_true (by omega)
            have hltn : decide (j < nL) = true := decide_eq_true hlt
            have hjn : (j : Int) < (nL : Int) := by omega
            obtain ⟨_, _, e, cL⟩ := (HRW.out _ (Below.refl _ _)).1.at_ (i := j) (by rw [HNL.out]; exact hlt)
            cases e
            obtain ⟨gS, fS, rfl, cS⟩ := (HRW.out _ (Below.refl _ _)).2.at_ (i := j) (by rw [HNA.out]; exact hlt)
            obtain ⟨am, ham⟩ : ∃ t, t = j % X := ⟨_, rfl⟩
            obtain ⟨bm, hbm⟩ : ∃ t, t = j / X := ⟨_, rfl⟩
            obtain ⟨a8, ha8⟩ : ∃ t, t = am % 8 := ⟨_, rfl⟩
            obtain ⟨b8, hb8⟩ : ∃ t, t = bm % 8 := ⟨_, rfl⟩
            have hbj : bm ≤ j := by rw [hbm]; exact Nat.div_le_self _ _
            have haj : am < X := by rw [ham]; exact Nat.mod_lt _ (by omega)
            have q1 : (j : Int).tmod (X : Int) = (am : Int) := by rw [Int.tmod_eq_emod_of_nonneg (by omega), ham]; rfl
            have q3 : (j : Int) % (X : Int) = (am : Int) := by rw [ham]; rfl
            have q5 : (j : Int).tdiv (X : Int) = (bm : Int) := by rw [Int.tdiv_eq_ediv_of_nonneg (by omega), hbm]; rfl
            have q2 : IntKind.i64.wrap ((j : Int).tdiv (X : Int)) = (bm : Int) := by rw [q5]; exact IntWalk.i64_in _ (by omega)
            have q4 : (j : Int) / (X : Int) = (bm : Int) := by rw [hbm]; rfl
            have q6 : (am : Int).tmod 8 = (a8 : Int) := by rw [Int.tmod_eq_emod_of_nonneg (by omega), ha8]; rfl
            have q7 : (am : Int) % 8 = (a8 : Int) := by rw [ha8]; rfl
            have q8 : (bm : Int).tmod 8 = (b8 : Int) := by rw [Int.tmod_eq_emod_of_nonneg (by omega), hb8]; rfl
            have q9 : (bm : Int) % 8 = (b8 : Int) := by rw [hb8]; rfl
            have hxz : ((X : Int) == 0) = false := by simp; omega
            have hxz2 : ¬ ((X : Int) = 0) := by omega
            have hxz3 : ¬ (X = 0) := by omega
            have hq1 : Hid (a8 = j % X % 8) := Lib.hid (by rw [ha8, ham])
            have hq2 : Hid (b8 = j / X % 8) := Lib.hid (by rw [hb8, hbm])
            clear ham hbm ha8 hb8
            by_cases c1 : 0 < a8
            · have t1 : decide ((0 : Int) < (a8 : Int)) = true := decide_eq_true (by omega)
              have t1n : decide (0 < a8) = true := decide_eq_true c1
              by_cases c2 : a8 < 7
              · have t2 : decide ((a8 : Int) < 7) = true := decide_eq_true (by omega)
                have t2n : decide (a8 < 7) = true := decide_eq_true c2
                by_cases c3 : 0 < b8
                · have t3 : decide ((0 : Int) < (b8 : Int)) = true := decide_eq_true (by omega)
                  have t3n : decide (0 < b8) = true := decide_eq_true c3
                  by_cases c4 : b8 < 7
                  · have t4 : decide ((b8 : Int) < 7) = true := decide_eq_true (by omega)
                    have t4n : decide (b8 < 7) = true := decide_eq_true c4
                    have hv := HIN.out j ⟨by rw [← hq1.out]; exact c1, by rw [← hq1.out]; exact c2⟩ ⟨by rw [← hq2.out]; exact c3, by rw [← hq2.out]; exact c4⟩
                    rw [hv] at cS
                    generalize L.getD j 0 = pv at *
                    clear hv hq1 hq2 c1 c2 c3 c4
                    go_wp2
                    go_quiet (fail)
                    go_wp2
                    go_roundw
                    case rel => exact ⟨j + 1, _, by omega, by go_num, by first | rfl | exact World.drewN_drewN _ _ _⟩
                    case measure => simp [intOf]; omega
                  · have t4 : decide ((b8 : Int) < 7) = false := decide_eq_false (by omega)
                    have t4n : decide (b8 < 7) = false := decide_eq_false c4
                    clear hq1 hq2 cL cS c1 c2 c3 c4
                    go_wp2
                    go_quiet (fail)
                    go_wp2
                    go_roundw
                    case rel => exact ⟨j + 1, _, by omega, by go_num, by first | rfl | exact World.drewN_drewN _ _ _⟩
                    case measure => simp [intOf]; omega
                · have t3 : decide ((0 : Int) < (b8 : Int)) = false := decide_eq_false (by omega)
                  have t3n : decide (0 < b8) = false := decide_eq_false c3
                  clear hq1 hq2 cL cS c1 c2 c3
                  go_wp2
                  go_quiet (fail)
                  go_wp2
                  go_roundw
                  case rel => exact ⟨j + 1, _, by omega, by go_num, by first | rfl | exact World.drewN_drewN _ _ _⟩
                  case measure => simp [intOf]; omega
              · have t2 : decide ((a8 : Int) < 7) = false := decide_eq_false (by omega)
                have t2n : decide (a8 < 7) = false := decide_eq_false c2
                clear hq1 hq2 cL cS c1 c2
                go_wp2
                go_quiet (fail)
                go_wp2
                go_roundw
                case rel => exact ⟨j + 1, _, by omega, by go_num, by first | rfl | exact World.drewN_drewN _ _ _⟩
                case measure => simp [intOf]; omega
            · have t1 : decide ((0 : Int) < (a8 : Int)) = false := decide_eq_false (by omega)
              have t1n : decide (0 < a8) = false := decide_eq_false c1
              clear hq1 hq2 cL cS c1
              go_wp2
              go_quiet (fail)
              go_wp2
              go_roundw
              case rel => exact ⟨j + 1, _, by omega, by go_num, by first | rfl | exact World.drewN_drewN _ _ _⟩
              case measure => simp [intOf]; omega
          · have hltd : decide ((j : Int) < (nL : Int)) = false := decide_eq_false (by omega)
            have hltn : decide (j < nL) = false := decide_eq_false hlt
            have HKD := Lib.hid (below_drewN' HK9.out m)
            have HX : Hid (Row (w9'.drewN m) b1 A) := Lib.hid (HRW.out _ (below_drewN' (Below.refl _ _) m)).2
            have hx := HB9.out _ (below_drewN' (Below.refl _ _) m)
            obtain ⟨wz, hwz⟩ : ∃ z, z = w9'.drewN m := ⟨_, rfl⟩
            clear f0 f2 g0 g1 g2
            rw [← hwz] at HKD HX hx ⊢
            obtain ⟨f0, f2, g0, g1, g2⟩ := hx
            clear hwz
            go_wp2_with fail
            refine (HOKA.out b1 d1 wz HX.out).mono ?_
            rintro e w11 ⟨rfl, k11⟩
            have HF := Lib.hid (below_next HKD.out k11)
            clear k11
            go_wp2
            go_ret
            exact ⟨rfl, HF.out⟩

theorem own : ownKnob Try.prog.godebug = none := by kernel_rfl
theorem laidOut : laidOutB Try.prog = true := by kernel_rfl
set_option maxRecDepth 100000 in
theorem lifted (os : Os) (started : os.Started) (H : Type) (enc : TypeId × Value → H) :
    ReturnsInHanded {} Try.checked os 3 .any (Rows.fnEdgesSpec.pre6 enc Try.prog Try.f3 Rows.fnEdgesRow.domain false) (Rows.fnEdgesSpec.post enc Try.prog Try.f3 false true false false) := by
  refine returnsInHanded_of_change (C := Try.checked) own started (by kernel_rfl) Try.func3
    (ChangeSpec.witness6 (enc := enc) (C := Try.checked) false ⟨#[], #[.slice none 0 0], []⟩ 8 (by kernel_rfl) (by kernel_rfl) (by kernel_rfl) (by kernel_rfl)) ?_
  intro W base args ds gs before hval0 hW hcnd _
  have hval : ∀ (j : Nat) t v, Try.f3.params[j]? = some t → args[j]? = some v → Value.okWide Try.prog W .any base t v := hval0
  have hW' := hW
  obtain ⟨p, q, hA0, hV, rfl, hfz, hnd⟩ := hW
  have hA : DataW.TrodAll enc Try.prog W 0 (fun _ => true) true Try.f3.params.toList args.toList ds p := hA0
  rw [Try.params3] at hA hval
  obtain ⟨v0, vs0, d0, ds0, p0, q0, hargs, rfl, rfl, h0, tr0⟩ := trodAll_cons hA
  obtain ⟨rfl, rfl, rfl⟩ := trodAll_nil tr0
  obtain rfl : args = #[v0] := by cases args; simp_all
  obtain ⟨rfl, rfl⟩ := trodVars_none hV
  have k0 := h0
  have lt0 : ∀ x ∈ p0, x.block < W.heap.size := by obtain ⟨m, hm⟩ := k0; exact DataW.trod_lt m _ _ _ hm
  obtain ⟨a0, len0, c0, rfl⟩ := okWide_slice Try.underlying22 (hval 0 22 v0 rfl rfl)
  obtain ⟨l0, hl0, r0, w0⟩ : ∃ l : List Int, l.length = len0 ∧ RowB W a0 l ∧ ∀ x ∈ l, 0 ≤ x ∧ x ≤ 255 := by
    obtain ⟨fuel, hf⟩ := k0
    rcases open_ints Try.underlying22 Try.underlying5 (by kernel_rfl) hf with ⟨hcs, _⟩ | ⟨x, l, c, zs, hcs, _, hl, hm, hz, _, hcell, hwz⟩
    · simp [Value.cells] at hcs
      obtain ⟨rfl, rfl, rfl⟩ := hcs
      exact ⟨[], rfl, .inl rfl, by simp⟩
    · simp [Value.cells] at hcs
      obtain ⟨rfl, rfl, rfl⟩ := hcs
      exact RowB.of_cells hl (by simpa using hz) hcell (fun n hn => wf_u8 (hwz n hn))
  subst hl0
  clear hA0 hval0
  refine (walk W a0 c0 l0 r0 w0).mono fun e W' ⟨he, bel⟩ => ?_
  subst he
  exact ⟨_, rfl, _, _, _, [], _, [], hW', trodAll_mk1 (shut_bool Try.underlying4 _), (trodAll_cons_mk (Below.trod laidOut (by kernel_rfl) (of_decide_eq_true (by kernel_rfl)) k0 bel lt0) trodAll_mk0), rfl, bel.frame _, fun h => by cases h⟩

theorem over : Rows.fnEdgesRow.holds Try.pinned (OpenSpec.ofChange Rows.fnEdgesSpec) :=
  OpenClaim.holds_of_wide 3 Try.f3 rfl rfl rfl rfl rfl rfl rfl ⟨rfl, rfl, rfl, rfl, rfl⟩ rfl rfl rfl rfl rfl (by kernel_rfl) Try.func3 (by kernel_rfl)
    (of_decide_eq_true (by kernel_rfl)) (by unfold Func.isWrapper; first | (rw [if_pos (by decide +kernel)]; kernel_rfl) | (rw [if_neg (by decide +kernel)]; exact ⟨rfl, rfl⟩))
    (fun os started H enc _ => lifted os started H enc)

/-- the statement -/
theorem proved : Rows.FnEdgesSaid := over
#print axioms proved
end Go.Proofs.Ytkfjbnhihjnhnaa.fnEdges
