/- For every input the law FnPredicted returns true and leaves its arguments as they were; no condition. -/
import Derived.Test.YtbdggcefgiehkaaMem
import Derived.Test.YtbdggcefgiehkaaFrm
import Derived.Test.YtbdggcefgiehkaaDrawM
import Derived.Test.YtbdggcefgiehkaaDrawR
import Derived.Test.YtbdggcefgiehkaaPred
import Derived.Test.YtbdggcefgiehkaaPredS
import Derived.Test.YtbdggcefgiehkaaFastQ
namespace Go.Proofs.Ytbdggcefgiehkaa.fnPredicted
open Go.ChangeShapes Go.WideShapes Go.ChangeAt Go.RowKit Go.Joins
set_option linter.unusedVariables false
-- DEEP
theorem predV_bd {l m : List Int} {C : Int} {T L : Bool} {n : Nat} {mode : Int} {x y : Nat} (hn : n = 4 ∨ n = 8) (hb : nbB l m C n = true) (hm : 0 ≤ mode ∧ mode ≤ 5) (hx : x < n) (hy : y < n) :
    0 ≤ predV l m C T L n mode x y ∧ predV l m C T L n mode x y ≤ 255 := by
  obtain ⟨_, hl, hml, ha, hb2, hC0, hC1⟩ := nbB_true hb
  have tl : ∀ i, i < 2 * n → 0 ≤ l.getD i 0 ∧ l.getD i 0 ≤ 255 := fun i hi => allR_at ha (by omega)
  have tm : ∀ i, i < n → 0 ≤ m.getD i 0 ∧ m.getD i 0 ≤ 255 := fun i hi => allR_at hb2 (by omega)
  have hs1 := sumP_bd l n (fun i hi => tl i (by omega))
  have hs2 := sumP_bd m n tm
  unfold predV
  split
  · unfold meanV
    rcases hn with rfl | rfl <;> (split <;> (try split) <;> omega)
  · split
    · exact tl x (by omega)
    · split
      · exact tm y hy
      · split
        · exact clipF_bd 0 255 _ (by omega)
        · split
          · exact softF_bd (tl _ (by omega)) (tl _ (by omega)) (tl _ (by omega))
          · split
            · exact softF_bd (borderL_bd ⟨hC0, hC1⟩ (fun i hi => tl i (by omega)) tm _ (by omega)) (borderL_bd ⟨hC0, hC1⟩ (fun i hi => tl i (by omega)) tm _ (by omega)) (borderL_bd ⟨hC0, hC1⟩ (fun i hi => tl i (by omega)) tm _ (by omega))
            · omega
theorem word_in {m : Int} (h : 0 ≤ m ∧ m ≤ 5) : (modeWordF m).toList.isEmpty = false := by
  have hc : m = 0 ∨ m = 1 ∨ m = 2 ∨ m = 3 ∨ m = 4 ∨ m = 5 := by omega
  rcases hc with rfl | rfl | rfl | rfl | rfl | rfl <;> decide +kernel

set_option maxRecDepth 100000 in
set_option maxHeartbeats 4000000 in
theorem walk (w : World) (a0 : Option Addr) (c0 : Nat) (l0 : List Int) (r0 : RowB w a0 l0) (w0 : ∀ x ∈ l0, 0 ≤ x ∧ x ≤ 255) :
    Calls Try.prog 5 #[.slice a0 l0.length c0] w fun e w' => e = .returned (.bool true) ∧ Below w.heap.size w w' := by
  by_cases hbig : 1048576 < l0.length
  · have HB := Lib.hid (big_c a0 c0 l0.length w)
    rw [decide_eq_true hbig] at HB
    clear hbig r0 w0
    go_enter Try.func5, Try.ntmps5
    go_wp2_with (go_at_call 9; refine HB.out.mono ?_; rintro e w' ⟨rfl, rfl⟩)
    go_ret
    exact ⟨rfl, Below.refl _ _⟩
  · have HB := Lib.hid (big_c a0 c0 l0.length w)
    rw [decide_eq_false hbig] at HB
    have HD := Lib.hid (DrawPred_c a0 c0 l0 w (by omega) r0 w0)
    clear hbig r0 w0
    go_enter Try.func5, Try.ntmps5
    go_wp2_with (go_at_call 9; refine HB.out.mono ?_; rintro e w' ⟨rfl, rfl⟩)
    refine HD.out.mono ?_
    rintro e w4 ⟨xa, pa, A, ya, qa, Mm, C, T, H, n, m, rfl, ⟨ha1, ha2, ha3, ha4⟩, hAb, hMb, hCb, hnb, hmb, hrA, hrM, k4⟩
    have hAb' : ∀ x ∈ A, -9223372036854775808 ≤ x ∧ x ≤ 9223372036854775807 := fun x hx => by have := hAb x hx; omega
    have hMb' : ∀ x ∈ Mm, -9223372036854775808 ≤ x ∧ x ≤ 9223372036854775807 := fun x hx => by have := hMb x hx; omega
    obtain ⟨P, hP⟩ : ∃ S, S = predLF A Mm C T H m n := ⟨_, rfl⟩
    have hPl : P.length ≤ 1048576 := by rw [hP]; exact predLF_len _ _ _ _ _ _ _
    have HP1 : Hid (∀ v, Row v xa A → Row v ya Mm → Calls Try.prog 23 #[.int .i64 m, nbv xa A.length pa ya Mm.length qa C T H, .int .i64 n] v fun e w' => ∃ b d, e = .returned (.slice b P.length d) ∧ Own v.heap.size w' b d P ∧ Below v.heap.size v w') := Lib.hid (fun v h1 h2 => by rw [hP]; exact impl.Pred_c m xa pa A ya qa Mm C T H n v (by omega) h1 hAb' (by omega) h2 hMb' (by omega) ha2 ha4)
    have HP2 : Hid (∀ v, Row v xa A → Row v ya Mm → Calls Try.prog 11 #[.int .i64 m, nbv xa A.length pa ya Mm.length qa C T H, .int .i64 n] v fun e w' => ∃ b d, e = .returned (.slice b P.length d) ∧ Own v.heap.size w' b d P ∧ Below v.heap.size v w') := Lib.hid (fun v h1 h2 => by rw [hP]; exact impl.FastPred_c m xa pa A ya qa Mm C T H n v (by omega) h1 hAb' (by omega) h2 hMb' (by omega) ha2 ha4)
    have HP3 : Hid (∀ v, Row v xa A → Row v ya Mm → Calls Try.prog 24 #[.int .i64 m, nbv xa A.length pa ya Mm.length qa C T H, .int .i64 n] v fun e w' => ∃ b d, e = .returned (.slice b P.length d) ∧ Own v.heap.size w' b d P ∧ Below v.heap.size v w') := Lib.hid (fun v h1 h2 => by rw [hP]; exact spec.Pred_c m xa pa A ya qa Mm C T H n v (by omega) h1 hAb' (by omega) h2 hMb' (by omega) ha2 ha4)
    have HOK0 : Hid (∀ v, Row v xa A → Row v ya Mm → Calls Try.prog 25 #[nbv xa A.length pa ya Mm.length qa C T H, .int .i64 n] v fun e w' => e = .returned (.bool (nbB A Mm C n)) ∧ Below v.heap.size v w') := Lib.hid (fun v h1 h2 => spec.NbOk_c xa pa A ya qa Mm C T H n v (by omega) h1 hAb' (by omega) h2 hMb' (by omega))
    have HAB := Lib.hid hAb'
    have HMB := Lib.hid hMb'
    have HPD0 := Lib.hid hP
    obtain ⟨w5, hw5⟩ : ∃ w5, w5 = w4.alloc (.cells #[.slice xa A.length pa, .slice ya Mm.length qa, .int .i64 C, .bool T, .bool H] 27) := ⟨_, rfl⟩
    have k5 : Below w4.heap.size w4 w5 := by rw [hw5]; exact (Below.refl _ _).alloc (Nat.le_refl _) _
    have HBX0 : Hid (Box5 w5 w4.heap.size (.slice xa A.length pa) (.slice ya Mm.length qa) (.int .i64 C) (.bool T) (.bool H)) := Lib.hid (by rw [hw5]; exact Box5.new _ _ _ _ _ _ _)
    have HK5 : Hid (Below w.heap.size w w5) := Lib.hid (below_next k4 k5)
    have HA : Hid (∀ v, Below w5.heap.size w5 v → Row v xa A) := Lib.hid (fun v h => hrA.below (below_next k5 h) (Nat.le_refl _))
    have HMr : Hid (∀ v, Below w5.heap.size w5 v → Row v ya Mm) := Lib.hid (fun v h => hrM.below (below_next k5 h) (Nat.le_refl _))
    obtain ⟨kb, hkb⟩ : ∃ kb, kb = w4.heap.size := ⟨_, rfl⟩
    rw [← hkb] at HBX0
    have HBX := HBX0
    clear hP hAb hMb hAb' hMb' HD
    go_wp2_with fail
    have hwk : w4.alloc (.cells #[.slice xa A.length pa, .slice ya Mm.length qa, .int .i64 C, .bool T, .bool H] 27) = w5 := hw5.symm
    rw [← hkb, hwk]
    obtain ⟨hkl, c0, c1, c2, c3, c4⟩ := HBX.out
    clear hw5 hwk hkb k4 k5 hrA hrM HBX0
    refine (HP1.out w5 (HA.out _ (Below.refl _ _)) (HMr.out _ (Below.refl _ _))).mono ?_
    rintro e w6 ⟨bp, dp, rfl, o6, k6⟩
    have HRP6 : Hid (∀ v, Below w6.heap.size w6 v → Row v bp P) := Lib.hid (fun v h => o6.row.below h (Nat.le_refl _))
    obtain ⟨hkl6, d0, d1, d2, d3, d4⟩ := HBX.out.below k6 (Nat.le_refl _)
    go_wp2_with fail
    refine (HP2.out w6 (HA.out _ k6) (HMr.out _ k6)).mono ?_
    rintro e w7 ⟨b7, d7, rfl, o7, k7'⟩
    have k7 := below_next k6 k7'
    obtain ⟨hkl7, e0, e1, e2, e3, e4⟩ := HBX.out.below k7 (Nat.le_refl _)
    go_wp2_with fail
    refine (sameInts_t bp b7 dp d7 P w7 (by omega) (HRP6.out _ k7') o7.row).mono ?_
    rintro e w8 ⟨rfl, k8'⟩
    have k8 := below_next k7 k8'
    have k68 := below_next k7' k8'
    obtain ⟨hkl8, f0, f1, f2, f3, f4⟩ := HBX.out.below k8 (Nat.le_refl _)
    go_wp2_with fail
    refine (HP3.out w8 (HA.out _ k8) (HMr.out _ k8)).mono ?_
    rintro e w81 ⟨b81, d81, rfl, o81, k81'⟩
    have k81 := below_next k8 k81'
    have k681 := below_next k68 k81'
    go_wp2_with fail
    refine (sameInts_t bp b81 dp d81 P w81 (by omega) (HRP6.out _ k681) o81.row).mono ?_
    rintro e w9 ⟨rfl, k9'⟩
    have k9 := below_next k81 k9'
    have k69 := below_next k681 k9'
    have HRP : Hid (∀ v, Below w5.heap.size w5 v → Row v bp P → True) := Lib.hid (fun _ _ _ => trivial)
    have HRP9 : Hid (∀ v, Below w9.heap.size w9 v → Row v bp P) := Lib.hid (fun v h => HRP6.out v (below_next k69 h))
    obtain ⟨hkl9, g0, g1, g2, g3, g4⟩ := HBX.out.below k9 (Nat.le_refl _)
    clear o6 o7 o81 k7' k8' k81' k9' k68 k681 k69 k81 HP1 HP2 HP3 c0 c1 c2 c3 c4 d0 d1 d2 d3 d4 e0 e1 e2 e3 e4 f0 f1 f2 f3 f4 hkl6 hkl7 hkl8 HRP HRP6
    have HK9 := Lib.hid k9
    cases hok : nbB A Mm C n
    · have hp0 : P = [] := by rw [HPD0.out]; simp [predLF, predLB, hok]
      subst hp0
      rw [hok] at HOK0
      clear k6 k7 k8
      go_wp2_with fail
      refine (HOK0.out w9 (HA.out _ k9) (HMr.out _ k9)).mono ?_
      rintro e w10 ⟨rfl, k10⟩
      have HF := Lib.hid (below_next (below_next HK5.out k9) k10)
      clear k9 k10
      go_wp2
      go_ret
      exact ⟨ret_bool (by first | rfl | simp), HF.out⟩
    · rw [hok] at HOK0
      cases hmo : inR 0 5 m
      · have hp0 : P = [] := by rw [HPD0.out]; simp [predLF, predLB, hmo]
        subst hp0
        have hw0 := modeWord_out hmo
        clear k6 k7 k8
        go_wp2_with fail
        refine (HOK0.out w9 (HA.out _ k9) (HMr.out _ k9)).mono ?_
        rintro e w10 ⟨rfl, k10⟩
        go_wp2_with fail
        refine (impl.ModeWord_c m w10).mono ?_
        rintro e w11 ⟨rfl, k11⟩
        rw [hw0]
        have HF := Lib.hid (below_next (below_next (below_next HK5.out k9) k10) k11)
        clear k9 k10 k11
        go_wp2
        go_ret
        exact ⟨ret_bool (by first | rfl | simp), HF.out⟩
      · have hm05 := inR_true hmo
        have hwi := word_in hm05
        have HRP : Hid (∀ v, Below w5.heap.size w5 v → Below w9.heap.size w9 v → Row v bp P) := Lib.hid (fun v _ h => HRP9.out v h)
        have HPD1 : Hid (P = predL A Mm C T H n.toNat m) := Lib.hid (by rw [HPD0.out]; simp [predLF, predLB, hok, hmo])
        have HNB0 := Lib.hid hok
        rcases (nbB_true hok).1 with rfl | rfl
        · have HNB : Hid (nbB A Mm C ((4 : Nat) : Int) = true) := HNB0
          have HPD : Hid (P = predL A Mm C T H 4 m) := HPD1
          have HOK := HOK0
          clear HOK0 HPD1 HNB0 HPD0 hok hmo
          have HPV : Hid (∀ i, i < 16 → P.getD i 0 = predV A Mm C T H 4 m (i % 4) (i / 4) ∧ 0 ≤ P.getD i 0 ∧ P.getD i 0 ≤ 255) := Lib.hid (fun i hi => by
            have e : P.getD i 0 = predV A Mm C T H 4 m (i % 4) (i / 4) := by
              rw [HPD.out]
              show (predL A Mm C T H 4 m).getD i 0 = _
              unfold predL
              rw [tab_getD _ _ _ (by omega)]
            refine ⟨e, ?_⟩
            rw [e]
            exact predV_bd (.inl rfl) HNB.out hm05 (by omega) (by omega))
          have HPF : Hid (∀ i, i < 16 → predF A Mm C T H m 4 ((i % 4 : Nat) : Int) ((i / 4 : Nat) : Int) = predV A Mm C T H 4 m (i % 4) (i / 4)) := Lib.hid (fun i hi => by
            have h1 : inR 0 (4 - 1) ((i % 4 : Nat) : Int) = true := inR_mk (by omega)
            have h2 : inR 0 (4 - 1) ((i / 4 : Nat) : Int) = true := inR_mk (by omega)
            have hb : predB A Mm C 4 ((i % 4 : Nat) : Int) ((i / 4 : Nat) : Int) = true := by rw [predB, h1, h2]; have h9 := HNB.out; simpa using h9
            rw [predF, if_pos hb]
            rfl)
          have HPL : Hid (P.length = 16) := Lib.hid (by rw [HPD.out]; show (predL A Mm C T H 4 m).length = 16; unfold predL; rw [tab_len])
          have HAT : Hid (∀ (v : World) (x y : Int), Row v xa A → Row v ya Mm → Calls Try.prog 27 #[.int .i64 m, nbv xa A.length pa ya Mm.length qa C T H, .int .i64 4, .int .i64 x, .int .i64 y] v fun e w' => e = .returned (.int .i64 (predF A Mm C T H m 4 x y)) ∧ Below v.heap.size v w') := Lib.hid (fun v x y h1 h2 => impl.PredAt_c m xa pa A ya qa Mm C T H 4 x y v (by omega) h1 HAB.out (by omega) h2 HMB.out (by omega) ha2 ha4)
          go_wp2_with fail
          refine (HOK.out w9 (HA.out _ k9) (HMr.out _ k9)).mono ?_
          rintro e w10 ⟨rfl, k10⟩
          have k910 := k10
          have k10 := below_next k9 k10
          go_wp2_with fail
          refine (impl.ModeWord_c m w10).mono ?_
          rintro e w11 ⟨rfl, k11⟩
          have k911 := below_next k910 k11
          have k11 := below_next k10 k11
          generalize modeWordF m = str at *
          have HK11 := Lib.hid k11
          have HR11 := Lib.hid (HRP9.out w11 k911)
          clear k6 k7 k8 k9 k10 k11 k910 k911 HRP
          go_wp2
          go_loopw [8] (fun i wx => ∃ j : Nat, j ≤ 16 ∧ i = .int .i64 j ∧ Below w5.heap.size w5 wx ∧ Row wx bp P) (fun i _ => 16 - (intOf i).toNat)
          case atStart => exact ⟨0, by omega, rfl, HK11.out, HR11.out⟩
          case round =>
            obtain ⟨j, hj, rfl, kx, hrp⟩ := hrel
            by_cases hlt : j < 16
            · obtain ⟨gp, fp, rfl, hcp⟩ := hrp.at_ (i := j) (by rw [HPL.out]; exact hlt)
              have hpv := HPV.out j hlt
              have hpf := HPF.out j hlt
              rw [← hpv.1] at hpf
              have hv0 := hpv.2.1
              have hv1 := hpv.2.2
              clear hpv
              have HGB : Hid (gp < wr.heap.size) := Lib.hid (World.block_lt_of_cell? wr _ hcp)
              have HRP1 := Lib.hid hrp
              obtain ⟨jm, hjm⟩ : ∃ jm, jm = j % 4 := ⟨_, rfl⟩
              obtain ⟨jd, hjd⟩ : ∃ jd, jd = j / 4 := ⟨_, rfl⟩
              rw [← hjm, ← hjd] at hpf
              have q1 : (j : Int).tmod 4 = (jm : Int) := by rw [Int.tmod_eq_emod_of_nonneg (by omega)]; omega
              have q2 : IntKind.i64.wrap ((j : Int).tdiv 4) = (jd : Int) := by rw [Int.tdiv_eq_ediv_of_nonneg (by omega), IntWalk.i64_in _ (by omega)]; omega
              have q3 : (j : Int) % 4 = (jm : Int) := by omega
              have q4 : (j : Int) / 4 = (jd : Int) := by omega
              have q5 : IntKind.i64.wrap (jm : Int) = (jm : Int) := IntWalk.i64_in _ (by omega)
              have q6 : IntKind.i64.wrap (jd : Int) = (jd : Int) := IntWalk.i64_in _ (by omega)
              have HCall : Hid (∀ v, Row v xa A → Row v ya Mm → Calls Try.prog 27 #[.int .i64 m, nbv xa A.length pa ya Mm.length qa C T H, .int .i64 4, .int .i64 jm, .int .i64 jd] v fun e w' => e = .returned (.int .i64 (P.getD j 0)) ∧ Below v.heap.size v w') := Lib.hid (fun v h1 h2 => by
                have h := HAT.out v jm jd h1 h2
                rw [hpf] at h
                exact h)
              generalize P.getD j 0 = pv at *
              obtain ⟨hkl, c0, c1, c2, c3, c4⟩ := HBX.out.below kx (Nat.le_refl _)
              have HKX := Lib.hid kx
              have zj : (j : Int) < (P.length : Int) := by have := HPL.out; omega
              have hne : ∀ b : Int, (b != b) = false := by intro b; simp
              clear hpf hjm hjd kx hrp
              go_wp2_with fail
              have l1 : decide (pv < 0) = false := decide_eq_false (by omega)
              have l2 : decide (255 < pv) = false := decide_eq_false (by omega)
              go_region_held3 (fun w' => w'.cell? ⟨kb, 0, none⟩ = some (.slice xa A.length pa) ∧ w'.cell? ⟨kb, 1, none⟩ = some (.slice ya Mm.length qa) ∧ w'.cell? ⟨kb, 2, none⟩ = some (.int .i64 C) ∧ w'.cell? ⟨kb, 3, none⟩ = some (.bool T) ∧ w'.cell? ⟨kb, 4, none⟩ = some (.bool H) ∧ w'.cell? ⟨gp, fp + j, none⟩ = some (.int .i64 pv)) (first | go_keep)
                ((go_at_call 27; refine (HCall.out _ (HA.out _ HKX.out).drew (HMr.out _ HKX.out).drew).mono ?_; rintro e w12 ⟨rfl, k12⟩; have d0 := bcell k12 kb 0 hkl; have d1 := bcell k12 kb 1 hkl; have d2 := bcell k12 kb 2 hkl; have d3 := bcell k12 kb 3 hkl; have d4 := bcell k12 kb 4 hkl; have d5 := bcell k12 gp (fp + j) HGB.out))
              all_goals
                have k13 := below_next ((Below.refl wr.heap.size wr).drew) k12
                have HK13 := Lib.hid (below_next HKX.out k13)
                have HR13 := Lib.hid (HRP1.out.below k13 (Nat.le_refl _))
                clear k12 k13
                go_wp2
                go_roundw
                case rel => exact ⟨j + 1, by omega, by go_num, HK13.out, HR13.out⟩
                case measure => simp [intOf]; omega
            · obtain rfl : j = 16 := by omega
              have zj : (P.length : Int) ≤ 16 := by have := HPL.out; omega
              have ze : ((P.length : Int) == 16) = true := by rw [beq_iff_eq]; have := HPL.out; omega
              have HF := Lib.hid (below_next HK5.out kx)
              clear kx hrp
              go_wp2
              go_ret
              exact ⟨ret_bool (by first | rfl | exact ze | simp [HPL.out]), HF.out⟩
        · have HNB : Hid (nbB A Mm C ((8 : Nat) : Int) = true) := HNB0
          have HPD : Hid (P = predL A Mm C T H 8 m) := HPD1
          have HOK := HOK0
          clear HOK0 HPD1 HNB0 HPD0 hok hmo
          have HPV : Hid (∀ i, i < 64 → P.getD i 0 = predV A Mm C T H 8 m (i % 8) (i / 8) ∧ 0 ≤ P.getD i 0 ∧ P.getD i 0 ≤ 255) := Lib.hid (fun i hi => by
            have e : P.getD i 0 = predV A Mm C T H 8 m (i % 8) (i / 8) := by
              rw [HPD.out]
              show (predL A Mm C T H 8 m).getD i 0 = _
              unfold predL
              rw [tab_getD _ _ _ (by omega)]
            refine ⟨e, ?_⟩
            rw [e]
            exact predV_bd (.inr rfl) HNB.out hm05 (by omega) (by omega))
          have HPF : Hid (∀ i, i < 64 → predF A Mm C T H m 8 ((i % 8 : Nat) : Int) ((i / 8 : Nat) : Int) = predV A Mm C T H 8 m (i % 8) (i / 8)) := Lib.hid (fun i hi => by
            have h1 : inR 0 (8 - 1) ((i % 8 : Nat) : Int) = true := inR_mk (by omega)
            have h2 : inR 0 (8 - 1) ((i / 8 : Nat) : Int) = true := inR_mk (by omega)
            have hb : predB A Mm C 8 ((i % 8 : Nat) : Int) ((i / 8 : Nat) : Int) = true := by rw [predB, h1, h2]; have h9 := HNB.out; simpa using h9
            rw [predF, if_pos hb]
            rfl)
          have HPL : Hid (P.length = 64) := Lib.hid (by rw [HPD.out]; show (predL A Mm C T H 8 m).length = 64; unfold predL; rw [tab_len])
          have HAT : Hid (∀ (v : World) (x y : Int), Row v xa A → Row v ya Mm → Calls Try.prog 27 #[.int .i64 m, nbv xa A.length pa ya Mm.length qa C T H, .int .i64 8, .int .i64 x, .int .i64 y] v fun e w' => e = .returned (.int .i64 (predF A Mm C T H m 8 x y)) ∧ Below v.heap.size v w') := Lib.hid (fun v x y h1 h2 => impl.PredAt_c m xa pa A ya qa Mm C T H 8 x y v (by omega) h1 HAB.out (by omega) h2 HMB.out (by omega) ha2 ha4)
          go_wp2_with fail
          refine (HOK.out w9 (HA.out _ k9) (HMr.out _ k9)).mono ?_
          rintro e w10 ⟨rfl, k10⟩
          have k910 := k10
          have k10 := below_next k9 k10
          go_wp2_with fail
          refine (impl.ModeWord_c m w10).mono ?_
          rintro e w11 ⟨rfl, k11⟩
          have k911 := below_next k910 k11
          have k11 := below_next k10 k11
          generalize modeWordF m = str at *
          have HK11 := Lib.hid k11
          have HR11 := Lib.hid (HRP9.out w11 k911)
          clear k6 k7 k8 k9 k10 k11 k910 k911 HRP
          go_wp2
          go_loopw [8] (fun i wx => ∃ j : Nat, j ≤ 64 ∧ i = .int .i64 j ∧ Below w5.heap.size w5 wx ∧ Row wx bp P) (fun i _ => 64 - (intOf i).toNat)
          case atStart => exact ⟨0, by omega, rfl, HK11.out, HR11.out⟩
          case round =>
            obtain ⟨j, hj, rfl, kx, hrp⟩ := hrel
            by_cases hlt : j < 64
            · obtain ⟨gp, fp, rfl, hcp⟩ := hrp.at_ (i := j) (by rw [HPL.out]; exact hlt)
              have hpv := HPV.out j hlt
              have hpf := HPF.out j hlt
              rw [← hpv.1] at hpf
              have hv0 := hpv.2.1
              have hv1 := hpv.2.2
              clear hpv
              have HGB : Hid (gp < wr.heap.size) := Lib.hid (World.block_lt_of_cell? wr _ hcp)
              have HRP1 := Lib.hid hrp
              obtain ⟨jm, hjm⟩ : ∃ jm, jm = j % 8 := ⟨_, rfl⟩
              obtain ⟨jd, hjd⟩ : ∃ jd, jd = j / 8 := ⟨_, rfl⟩
              rw [← hjm, ← hjd] at hpf
              have q1 : (j : Int).tmod 8 = (jm : Int) := by rw [Int.tmod_eq_emod_of_nonneg (by omega)]; omega
              have q2 : IntKind.i64.wrap ((j : Int).tdiv 8) = (jd : Int) := by rw [Int.tdiv_eq_ediv_of_nonneg (by omega), IntWalk.i64_in _ (by omega)]; omega
              have q3 : (j : Int) % 8 = (jm : Int) := by omega
              have q4 : (j : Int) / 8 = (jd : Int) := by omega
              have q5 : IntKind.i64.wrap (jm : Int) = (jm : Int) := IntWalk.i64_in _ (by omega)
              have q6 : IntKind.i64.wrap (jd : Int) = (jd : Int) := IntWalk.i64_in _ (by omega)
              have HCall : Hid (∀ v, Row v xa A → Row v ya Mm → Calls Try.prog 27 #[.int .i64 m, nbv xa A.length pa ya Mm.length qa C T H, .int .i64 8, .int .i64 jm, .int .i64 jd] v fun e w' => e = .returned (.int .i64 (P.getD j 0)) ∧ Below v.heap.size v w') := Lib.hid (fun v h1 h2 => by
                have h := HAT.out v jm jd h1 h2
                rw [hpf] at h
                exact h)
              generalize P.getD j 0 = pv at *
              obtain ⟨hkl, c0, c1, c2, c3, c4⟩ := HBX.out.below kx (Nat.le_refl _)
              have HKX := Lib.hid kx
              have zj : (j : Int) < (P.length : Int) := by have := HPL.out; omega
              have hne : ∀ b : Int, (b != b) = false := by intro b; simp
              clear hpf hjm hjd kx hrp
              go_wp2_with fail
              have l1 : decide (pv < 0) = false := decide_eq_false (by omega)
              have l2 : decide (255 < pv) = false := decide_eq_false (by omega)
              go_region_held3 (fun w' => w'.cell? ⟨kb, 0, none⟩ = some (.slice xa A.length pa) ∧ w'.cell? ⟨kb, 1, none⟩ = some (.slice ya Mm.length qa) ∧ w'.cell? ⟨kb, 2, none⟩ = some (.int .i64 C) ∧ w'.cell? ⟨kb, 3, none⟩ = some (.bool T) ∧ w'.cell? ⟨kb, 4, none⟩ = some (.bool H) ∧ w'.cell? ⟨gp, fp + j, none⟩ = some (.int .i64 pv)) (first | go_keep)
                ((go_at_call 27; refine (HCall.out _ (HA.out _ HKX.out).drew (HMr.out _ HKX.out).drew).mono ?_; rintro e w12 ⟨rfl, k12⟩; have d0 := bcell k12 kb 0 hkl; have d1 := bcell k12 kb 1 hkl; have d2 := bcell k12 kb 2 hkl; have d3 := bcell k12 kb 3 hkl; have d4 := bcell k12 kb 4 hkl; have d5 := bcell k12 gp (fp + j) HGB.out))
              all_goals
                have k13 := below_next ((Below.refl wr.heap.size wr).drew) k12
                have HK13 := Lib.hid (below_next HKX.out k13)
                have HR13 := Lib.hid (HRP1.out.below k13 (Nat.le_refl _))
                clear k12 k13
                go_wp2
                go_roundw
                case rel => exact ⟨j + 1, by omega, by go_num, HK13.out, HR13.out⟩
                case measure => simp [intOf]; omega
            · obtain rfl : j = 64 := by omega
              have zj : (P.length : Int) ≤ 64 := by have := HPL.out; omega
              have ze : ((P.length : Int) == 64) = true := by rw [beq_iff_eq]; have := HPL.out; omega
              have HF := Lib.hid (below_next HK5.out kx)
              clear kx hrp
              go_wp2
              go_ret
              exact ⟨ret_bool (by first | rfl | exact ze | simp [HPL.out]), HF.out⟩

theorem own : ownKnob Try.prog.godebug = none := by kernel_rfl
theorem laidOut : laidOutB Try.prog = true := by kernel_rfl
set_option maxRecDepth 100000 in
theorem lifted (os : Os) (started : os.Started) (H : Type) (enc : TypeId × Value → H) :
    ReturnsInHanded {} Try.checked os 5 .any (Rows.fnPredictedSpec.pre6 enc Try.prog Try.f5 Rows.fnPredictedRow.domain false) (Rows.fnPredictedSpec.post enc Try.prog Try.f5 false true false false) := by
  refine returnsInHanded_of_change (C := Try.checked) own started (by kernel_rfl) Try.func5
    (ChangeSpec.witness6 (enc := enc) (C := Try.checked) false ⟨#[], #[.slice none 0 0], []⟩ 8 (by kernel_rfl) (by kernel_rfl) (by kernel_rfl) (by kernel_rfl)) ?_
  intro W base args ds gs before hval0 hW hcnd _
  have hval : ∀ (j : Nat) t v, Try.f5.params[j]? = some t → args[j]? = some v → Value.okWide Try.prog W .any base t v := hval0
  have hW' := hW
  obtain ⟨p, q, hA0, hV, rfl, hfz, hnd⟩ := hW
  have hA : DataW.TrodAll enc Try.prog W 0 (fun _ => true) true Try.f5.params.toList args.toList ds p := hA0
  rw [Try.params5] at hA hval
  obtain ⟨v0, vs0, d0, ds0, p0, q0, hargs, rfl, rfl, h0, tr0⟩ := trodAll_cons hA
  obtain ⟨rfl, rfl, rfl⟩ := trodAll_nil tr0
  obtain rfl : args = #[v0] := by cases args; simp_all
  obtain ⟨rfl, rfl⟩ := trodVars_none hV
  have k0 := h0
  have lt0 : ∀ x ∈ p0, x.block < W.heap.size := by obtain ⟨m, hm⟩ := k0; exact DataW.trod_lt m _ _ _ hm
  obtain ⟨a0, len0, c0, rfl⟩ := okWide_slice Try.underlying22 (hval 0 22 v0 rfl rfl)
  obtain ⟨l0, hl0, r0, w0⟩ : ∃ l : List Int, l.length = len0 ∧ RowB W a0 l ∧ ∀ x ∈ l, 0 ≤ x ∧ x ≤ 255 := by
    obtain ⟨fuel, hf⟩ := k0
    rcases open_ints Try.underlying22 Try.underlying5 (by kernel_rfl) hf with ⟨hcs, _⟩ | ⟨x, l, c, zs, hcs, _, hl, hm, hz, _, hcell, hwz⟩
    · simp [Value.cells] at hcs
      obtain ⟨rfl, rfl, rfl⟩ := hcs
      exact ⟨[], rfl, .inl rfl, by simp⟩
    · simp [Value.cells] at hcs
      obtain ⟨rfl, rfl, rfl⟩ := hcs
      exact RowB.of_cells hl (by simpa using hz) hcell (fun n hn => wf_u8 (hwz n hn))
  subst hl0
  clear hA0 hval0
  refine (walk W a0 c0 l0 r0 w0).mono fun e W' ⟨he, bel⟩ => ?_
  subst he
  exact ⟨_, rfl, _, _, _, [], _, [], hW', trodAll_mk1 (shut_bool Try.underlying4 _), (trodAll_cons_mk (Below.trod laidOut (by kernel_rfl) (of_decide_eq_true (by kernel_rfl)) k0 bel lt0) trodAll_mk0), rfl, bel.frame _, fun h => by cases h⟩

theorem over : Rows.fnPredictedRow.holds Try.pinned (OpenSpec.ofChange Rows.fnPredictedSpec) :=
  OpenClaim.holds_of_wide 5 Try.f5 rfl rfl rfl rfl rfl rfl rfl ⟨rfl, rfl, rfl, rfl, rfl⟩ rfl rfl rfl rfl rfl (by kernel_rfl) Try.func5 (by kernel_rfl)
    (of_decide_eq_true (by kernel_rfl)) (by unfold Func.isWrapper; first | (rw [if_pos (by decide +kernel)]; kernel_rfl) | (rw [if_neg (by decide +kernel)]; exact ⟨rfl, rfl⟩))
    (fun os started H enc _ => lifted os started H enc)

/-- the statement -/
theorem proved : Rows.FnPredictedSaid := over
#print axioms proved
end Go.Proofs.Ytbdggcefgiehkaa.fnPredicted
