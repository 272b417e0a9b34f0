/- For every input the law FnClipped returns true and leaves its arguments as they were; no condition. -/
import Derived.Test.YtbdggcefgiehkaaMem
import Derived.Test.YtbdggcefgiehkaaFrm
import Derived.Test.YtbdggcefgiehkaaDrawR
import Derived.Test.YtbdggcefgiehkaaRec2
import Derived.Test.YtbdggcefgiehkaaLanesP
namespace Go.Proofs.Ytbdggcefgiehkaa.fnClipped
open Go.ChangeShapes Go.WideShapes Go.ChangeAt Go.RowKit Go.Joins
set_option linter.unusedVariables false

set_option maxHeartbeats 4000000 in
theorem walk (w : World) (a0 : Option Addr) (c0 : Nat) (l0 : List Int) (r0 : RowB w a0 l0) (w0 : ∀ x ∈ l0, 0 ≤ x ∧ x ≤ 255) :
    Calls Try.prog 7 #[.slice a0 l0.length c0] w fun e w' => e = .returned (.bool true) ∧ Below w.heap.size w w' := by
  by_cases hbig : 1048576 < l0.length
  · have HB := Lib.hid (big_c a0 c0 l0.length w)
    rw [decide_eq_true hbig] at HB
    clear hbig r0 w0
    go_enter Try.func7, Try.ntmps7
    go_wp2_with (go_at_call 9; refine HB.out.mono ?_; rintro e w' ⟨rfl, rfl⟩)
    go_ret
    exact ⟨rfl, Below.refl _ _⟩
  · have HB := Lib.hid (big_c a0 c0 l0.length w)
    rw [decide_eq_false hbig] at HB
    have HD := Lib.hid (DrawClipAdd4_c a0 c0 l0 w (by omega) r0 w0)
    have HDR : Hid (∀ v, Below w.heap.size w v → Calls Try.prog 40 #[.slice a0 l0.length c0] v fun e w' => ∃ (b : Option Addr) (d : Nat) (L : List Int) (b2 : Option Addr) (d2 : Nat) (M : List Int), e = .returned (.tuple #[.slice b L.length d, .slice b2 M.length d2]) ∧ (L.length ≤ 64 ∧ M.length ≤ 64) ∧ (∀ x ∈ L, -1 ≤ x ∧ x ≤ 256) ∧ (∀ x ∈ M, -5000 ≤ x ∧ x ≤ 5000) ∧ Row w' b L ∧ Row w' b2 M ∧ Below v.heap.size v w') := Lib.hid (fun v h => DrawRecon_c a0 c0 l0 v (by omega) (r0.below h (Nat.le_refl _)) w0)
    have hmin := min_if
    have hmax := max_if
    have hclip : ∀ v : Int, max (-1023) (min 1023 v) = clipF (-1023) 1023 v := by intro v; unfold clipF; omega
    clear hbig r0 w0
    go_enter Try.func7, Try.ntmps7
    go_wp2_with (go_at_call 9; refine HB.out.mono ?_; rintro e w' ⟨rfl, rfl⟩)
    refine HD.out.mono ?_
    rintro e w1 ⟨b, d, L, b2, d2, M, rfl, ⟨hl1, hl2⟩, hLb, hMb, hrL, hrM, hb1⟩
    have hLb' : ∀ x ∈ L, -9223372036854775808 ≤ x ∧ x ≤ 9223372036854775807 := fun x hx => by have := hLb x hx; omega
    have hMb' : ∀ x ∈ M, -9223372036854775808 ≤ x ∧ x ≤ 9223372036854775807 := fun x hx => by have := hMb x hx; omega
    have HRL : Hid (∀ v, Below w1.heap.size w1 v → Row v b L) := Lib.hid (fun v h => hrL.below h (Nat.le_refl _))
    have HRM : Hid (∀ v, Below w1.heap.size w1 v → Row v b2 M) := Lib.hid (fun v h => hrM.below h (Nat.le_refl _))
    obtain ⟨X, hX⟩ : ∃ X, X = cadF L M := ⟨_, rfl⟩
    have hXl : X.length ≤ 1048576 := by rw [hX]; exact cadF_len L M
    have HC1 : Hid (∀ v, Row v b L → Row v b2 M → Calls Try.prog 38 #[.slice b L.length d, .slice b2 M.length d2] v fun e w' => ∃ b d, e = .returned (.slice b X.length d) ∧ Own v.heap.size w' b d X ∧ Below v.heap.size v w') := Lib.hid (fun v h1 h2 => by rw [hX]; exact impl.ClipAdd4_c b d L b2 d2 M v (by omega) h1 hLb' (by omega) h2 hMb')
    have HC2 : Hid (∀ v, Row v b L → Row v b2 M → Calls Try.prog 39 #[.slice b L.length d, .slice b2 M.length d2] v fun e w' => ∃ b d, e = .returned (.slice b X.length d) ∧ Own v.heap.size w' b d X ∧ Below v.heap.size v w') := Lib.hid (fun v h1 h2 => by rw [hX]; exact spec.ClipAdd4_c b d L b2 d2 M v (by omega) h1 hLb' (by omega) h2 hMb')
    have HX := Lib.hid hX
    have HB1 := Lib.hid hb1
    have HMB := Lib.hid hMb
    clear hX hLb hMb hLb' hMb' hrL hrM hb1 HD
    go_wp2_with fail
    refine (HC1.out w1 (HRL.out _ (Below.refl _ _)) (HRM.out _ (Below.refl _ _))).mono ?_
    rintro e w2 ⟨b3, d3, rfl, o1, k1⟩
    go_wp2_with fail
    refine (HC2.out w2 (HRL.out _ k1) (HRM.out _ k1)).mono ?_
    rintro e w3 ⟨b4, d4, rfl, o2, k2⟩
    go_wp2_with fail
    refine (sameInts_t b3 b4 d3 d4 X w3 (by omega) (o1.row.below k2 (Nat.le_refl _)) o2.row).mono ?_
    rintro e w4 ⟨rfl, k3⟩
    have HRX : Hid (∀ v, Below w4.heap.size w4 v → Row v b3 X) := Lib.hid (fun v h => (o1.row.below (below_next k2 k3) (Nat.le_refl _)).below h (Nat.le_refl _))
    have HK4 := Lib.hid (below_next (below_next k1 k2) k3)
    have HB4 := Lib.hid (below_next HB1.out HK4.out)
    clear o1 o2 k1 k2 k3 HC1 HC2
    cases hok : cadOk L M
    · have hX0 : X.length = 0 := by rw [HX.out]; simp [cadF, hok]
      have hX4 : ((X.length : Int) == 4) = false := by rw [beq_eq_false_iff_ne]; omega
      clear hok hX0
      go_wp2_with fail
      refine (HDR.out w4 HB4.out).mono ?_
      rintro e u1 ⟨q, qd, Q, t, td, T, rfl, ⟨hq1, hq2⟩, hqb, htb, hrq, hrt, hu1⟩
      have hqb' : ∀ x ∈ Q, -9223372036854775808 ≤ x ∧ x ≤ 9223372036854775807 := fun x hx => by have := hqb x hx; omega
      have htb' : ∀ x ∈ T, -9223372036854775808 ≤ x ∧ x ≤ 9223372036854775807 := fun x hx => by have := htb x hx; omega
      have HRQ : Hid (∀ v, Below u1.heap.size u1 v → Row v q Q) := Lib.hid (fun v h => hrq.below h (Nat.le_refl _))
      have HRT : Hid (∀ v, Below u1.heap.size u1 v → Row v t T) := Lib.hid (fun v h => hrt.below h (Nat.le_refl _))
      obtain ⟨Z, hZ⟩ : ∃ Z, Z = recF Q T := ⟨_, rfl⟩
      have hZl : Z.length ≤ 64 := by rw [hZ]; exact Nat.le_trans (recF_len Q T) hq1
      have HC1 : Hid (∀ v, Row v q Q → Row v t T → Calls Try.prog 41 #[.slice q Q.length qd, .slice t T.length td] v fun e w' => ∃ b d, e = .returned (.slice b Z.length d) ∧ Own v.heap.size w' b d Z ∧ Below v.heap.size v w') := Lib.hid (fun v h1 h2 => by rw [hZ]; exact impl.Recon_c q qd Q t td T v (by omega) h1 hqb' (by omega) h2 htb')
      have HC2 : Hid (∀ v, Row v q Q → Row v t T → Calls Try.prog 42 #[.slice q Q.length qd, .slice t T.length td] v fun e w' => ∃ b d, e = .returned (.slice b Z.length d) ∧ Own v.heap.size w' b d Z ∧ Below v.heap.size v w') := Lib.hid (fun v h1 h2 => by rw [hZ]; exact impl.FastRecon_c q qd Q t td T v (by omega) h1 hqb' (by omega) h2 htb')
      have HC3 : Hid (∀ v, Row v q Q → Row v t T → Calls Try.prog 43 #[.slice q Q.length qd, .slice t T.length td] v fun e w' => ∃ b d, e = .returned (.slice b Z.length d) ∧ Own v.heap.size w' b d Z ∧ Below v.heap.size v w') := Lib.hid (fun v h1 h2 => by rw [hZ]; exact spec.Recon_c q qd Q t td T v (by omega) h1 hqb' (by omega) h2 htb')
      have HU1 := Lib.hid (below_next HB4.out hu1)
      clear hZ hqb htb hqb' htb' hrq hrt hu1
      go_wp2_with fail
      refine (HC1.out u1 (HRQ.out _ (Below.refl _ _)) (HRT.out _ (Below.refl _ _))).mono ?_
      rintro e u2 ⟨x1, y1, rfl, o1, k1⟩
      go_wp2_with fail
      refine (HC2.out u2 (HRQ.out _ k1) (HRT.out _ k1)).mono ?_
      rintro e u3 ⟨x2, y2, rfl, o2, k2⟩
      have k12 := below_next k1 k2
      go_wp2_with fail
      refine (sameInts_t x1 x2 y1 y2 Z u3 (by omega) (o1.row.below k2 (Nat.le_refl _)) o2.row).mono ?_
      rintro e u4 ⟨rfl, k3⟩
      have k13 := below_next k12 k3
      clear o1 o2
      go_wp2_with fail
      refine (HC1.out u4 (HRQ.out _ k13) (HRT.out _ k13)).mono ?_
      rintro e u5 ⟨x3, y3, rfl, o3, k4⟩
      have k14 := below_next k13 k4
      go_wp2_with fail
      refine (HC3.out u5 (HRQ.out _ k14) (HRT.out _ k14)).mono ?_
      rintro e u6 ⟨x4, y4, rfl, o4, k5⟩
      go_wp2_with fail
      refine (sameInts_t x3 x4 y3 y4 Z u6 (by omega) (o3.row.below k5 (Nat.le_refl _)) o4.row).mono ?_
      rintro e u7 ⟨rfl, k6⟩
      have HU7 := Lib.hid (below_next (below_next (below_next HU1.out k14) k5) k6)
      clear o3 o4 k1 k2 k12 k3 k13 k4 k14 k5 k6
      go_wp2
      go_ret
      exact ⟨rfl, HU7.out⟩
    · have hX0 : X.length = 4 := by rw [HX.out]; simp [cadF, hok, tab_len]
      have hX4 : ((X.length : Int) == 4) = true := by rw [beq_iff_eq]; omega
      obtain ⟨hao, hcl⟩ := clipped hok
      have hM4 : M.length = 4 := by
        have h2 : L.length = 4 ∧ M.length = 4 ∧ allR 0 255 L = true := by simpa [cadOk] using hok
        exact h2.2.1
      have HM4 := Lib.hid hM4
      obtain ⟨f, hf⟩ : ∃ f : Nat → Int, f = fun i => 1024 + clipF (-1023) 1023 (M.getD i 0) := ⟨_, rfl⟩
      have HF : Hid (∀ i, f i = 1024 + clipF (-1023) 1023 (M.getD i 0)) := Lib.hid (fun i => by rw [hf])
      have HBL : Hid (tab f 4 = biasL M) := Lib.hid (by rw [hf]; rfl)
      have HAO := Lib.hid hao
      have HCL : Hid (unpackF (clipLanesF (addV (packF L) (packF (biasL M)))) = X) := Lib.hid (by rw [hcl, HX.out])
      have HX0 := Lib.hid hX0
      clear hok hX0 hao hcl hf hM4
      obtain ⟨bM, oM, rfl, hbM, _⟩ := (HRM.out w4 HK4.out).inside (by rw [HM4.out]; omega)
      go_wp2_with fail
      go_loopw [6, 7] (fun o i wr => ∃ (k : Nat) (ad : Option Addr) (cc : Nat), k ≤ 4 ∧ i = .int .i64 k ∧ o = .slice ad k cc ∧ Own w4.heap.size wr ad cc (tab f k) ∧ Below w4.heap.size w4 wr) (fun _ i _ => 4 - (intOf i).toNat)
      case atStart => exact ⟨0, _, _, Nat.zero_le _, rfl, rfl, Own.lit _ _ [] rfl (Nat.le_refl _) (by simp [maxLen]), (Below.refl _ _).alloc (Nat.le_refl _) _⟩
      case round =>
        obtain ⟨k, ad, cc, hk, rfl, rfl, ho, hbw⟩ := hrel
        by_cases hlt : k < 4
        · obtain ⟨_, _, e, hcell⟩ := (HRM.out wr (below_next HK4.out hbw)).at_ (i := k) (by rw [HM4.out]; exact hlt)
          cases e
          obtain ⟨x, hx⟩ : ∃ x, x = M.getD k 0 := ⟨_, rfl⟩
          have hfx : f k = 1024 + clipF (-1023) 1023 x := by rw [HF.out, hx]
          rw [← hx] at hcell
          have hcb := clipF_bd (-1023) 1023 x (by omega)
          obtain ⟨y, hy⟩ : ∃ y, y = clipF (-1023) 1023 x := ⟨_, rfl⟩
          have ey := hy.symm
          rw [← hy] at hfx hcb
          obtain ⟨hy0, hy1⟩ := hcb
          have HFX := Lib.hid hfx
          have HO := Lib.hid ho
          have HBW := Lib.hid hbw
          have z1 : (k : Int) < (M.length : Int) := by have := HM4.out; omega
          clear hx hy hfx ho hbw
          go_wp2_with (at_builtin; refine append_one Try.underlying25 Try.infoInt rfl (.tmp 40) (.tmp 48) rfl w4.heap.size ad cc k (tab f k) (tab_len _ _) rfl (HO.out.alloc _) wr.heap.size (1024 + y) rfl ?_ ?_ ?_ ?_; (simp); (omega); (have := HBW.out.size; simp; omega); intro ad1 cc1 w9 ho9 hb9)
          rw [← HFX.out, ← tab_succ] at ho9
          have HO9 := Lib.hid ho9
          have HB9 : Hid (Below w4.heap.size w4 w9) := Lib.hid ((HBW.out.alloc HBW.out.size _).trans hb9)
          clear ho9 hb9
          go_wp2
          go_roundw
          case rel => exact ⟨k + 1, ad1, cc1, by omega, by go_num, rfl, HO9.out, HB9.out⟩
          case measure => simp [intOf]; omega
        · obtain rfl : k = 4 := by omega
          have HOB := Lib.hid ho
          rw [HBL.out] at HOB
          have HBW := Lib.hid hbw
          have HB5 := Lib.hid (below_next HB4.out hbw)
          have hbl4 : (biasL M).length = 4 := rfl
          have HBL4 := Lib.hid hbl4
          have HP2 : Hid (∀ v, Row v ad (biasL M) → Calls Try.prog 29 #[.slice ad 4 cc] v fun e w' => e = .returned (.tuple #[.int .i64 (packF (biasL M)), .bool (packOk (biasL M))]) ∧ ∃ n, w' = v.drewN n) := Lib.hid (fun v h => impl.Pack4_c ad cc (biasL M) v (by rw [HBL4.out]; omega) h)
          have hpb1 := packF_bd L
          have hpb2 := packF_bd (biasL M)
          generalize biasL M = BL at *
          clear ho hbw
          go_wp2_with fail
          refine (impl.Pack4_c b d L wr (by omega) (HRL.out _ (below_next HK4.out HBW.out))).mono ?_
          rintro e w5 ⟨rfl, n5, rfl⟩
          go_wp2_with fail
          refine (HP2.out _ (HOB.out.row.drewN n5)).mono ?_
          rintro e w6 ⟨rfl, n6, rfl⟩
          have HADD : Hid (∀ v, Calls Try.prog 33 #[.int .i64 (packF L), .int .i64 (packF BL)] v fun e w' => e = .returned (.tuple #[.int .i64 (addV (packF L) (packF BL)), .bool true]) ∧ Below v.heap.size v w') := Lib.hid (fun v => by
            have h := impl.AddLanes_c (packF L) (packF BL) v (by omega) (by omega)
            rw [HAO.out] at h
            exact h)
          have havb := addV_bd (packF L) (packF BL)
          generalize packF L = P1 at *
          generalize packF BL = P2 at *
          generalize addV P1 P2 = S at *
          clear HP2
          go_wp2_with fail
          refine (HADD.out _).mono ?_
          rintro e w7 ⟨rfl, k7⟩
          have HK7 := Lib.hid (below_next (below_drewN' HBW.out (n5 + n6)) k7)
          have HB7 := Lib.hid (below_next (below_drewN' HB5.out (n5 + n6)) k7)
          clear k7
          go_wp2_with fail
          refine (impl.ClipLanes_c S w7 (by omega)).mono ?_
          rintro e w8 ⟨rfl, k8⟩
          have hclb : 0 ≤ clipLanesF S ∧ clipLanesF S ≤ 9223372036854775807 := packF_bd _
          generalize clipLanesF S = CS at *
          go_wp2_with fail
          refine (impl.Unpack4_c CS w8 (by omega)).mono ?_
          rintro e w9 ⟨b9, d9, rfl, o9, k9⟩
          rw [HCL.out] at o9
          rw [HCL.out]
          have HSI : Hid (∀ v, Row v b9 X → Row v b3 X → Calls Try.prog 18 #[.slice b9 X.length d9, .slice b3 X.length d3] v fun e w' => e = .returned (.bool true) ∧ Below v.heap.size v w') := Lib.hid (fun v h1 h2 => by
            have h := sameInts_t b9 b3 d9 d3 X v (by omega) h1 h2
            exact h)
          have HK9 := Lib.hid (below_next (below_next HK7.out k8) k9)
          have HB9 := Lib.hid (below_next (below_next HB7.out k8) k9)
          have HO9 := Lib.hid o9
          clear o9 k8 k9
          go_wp2_with fail
          refine (HSI.out w9 HO9.out.row (HRX.out _ HK9.out)).mono ?_
          rintro e w10 ⟨rfl, k10⟩
          have HB10 := Lib.hid (below_next HB9.out k10)
          clear k10
          go_wp2_with fail
          refine (HDR.out w10 HB10.out).mono ?_
          rintro e u1 ⟨q, qd, Q, t, td, T, rfl, ⟨hq1, hq2⟩, hqb, htb, hrq, hrt, hu1⟩
          have hqb' : ∀ x ∈ Q, -9223372036854775808 ≤ x ∧ x ≤ 9223372036854775807 := fun x hx => by have := hqb x hx; omega
          have htb' : ∀ x ∈ T, -9223372036854775808 ≤ x ∧ x ≤ 9223372036854775807 := fun x hx => by have := htb x hx; omega
          have HRQ : Hid (∀ v, Below u1.heap.size u1 v → Row v q Q) := Lib.hid (fun v h => hrq.below h (Nat.le_refl _))
          have HRT : Hid (∀ v, Below u1.heap.size u1 v → Row v t T) := Lib.hid (fun v h => hrt.below h (Nat.le_refl _))
          obtain ⟨Z, hZ⟩ : ∃ Z, Z = recF Q T := ⟨_, rfl⟩
          have hZl : Z.length ≤ 64 := by rw [hZ]; exact Nat.le_trans (recF_len Q T) hq1
          have HC1 : Hid (∀ v, Row v q Q → Row v t T → Calls Try.prog 41 #[.slice q Q.length qd, .slice t T.length td] v fun e w' => ∃ b d, e = .returned (.slice b Z.length d) ∧ Own v.heap.size w' b d Z ∧ Below v.heap.size v w') := Lib.hid (fun v h1 h2 => by rw [hZ]; exact impl.Recon_c q qd Q t td T v (by omega) h1 hqb' (by omega) h2 htb')
          have HC2 : Hid (∀ v, Row v q Q → Row v t T → Calls Try.prog 42 #[.slice q Q.length qd, .slice t T.length td] v fun e w' => ∃ b d, e = .returned (.slice b Z.length d) ∧ Own v.heap.size w' b d Z ∧ Below v.heap.size v w') := Lib.hid (fun v h1 h2 => by rw [hZ]; exact impl.FastRecon_c q qd Q t td T v (by omega) h1 hqb' (by omega) h2 htb')
          have HC3 : Hid (∀ v, Row v q Q → Row v t T → Calls Try.prog 43 #[.slice q Q.length qd, .slice t T.length td] v fun e w' => ∃ b d, e = .returned (.slice b Z.length d) ∧ Own v.heap.size w' b d Z ∧ Below v.heap.size v w') := Lib.hid (fun v h1 h2 => by rw [hZ]; exact spec.Recon_c q qd Q t td T v (by omega) h1 hqb' (by omega) h2 htb')
          have HU1 := Lib.hid (below_next HB10.out hu1)
          clear hZ hqb htb hqb' htb' hrq hrt hu1
          go_wp2_with fail
          refine (HC1.out u1 (HRQ.out _ (Below.refl _ _)) (HRT.out _ (Below.refl _ _))).mono ?_
          rintro e u2 ⟨x1, y1, rfl, o1, k1⟩
          go_wp2_with fail
          refine (HC2.out u2 (HRQ.out _ k1) (HRT.out _ k1)).mono ?_
          rintro e u3 ⟨x2, y2, rfl, o2, k2⟩
          have k12 := below_next k1 k2
          go_wp2_with fail
          refine (sameInts_t x1 x2 y1 y2 Z u3 (by omega) (o1.row.below k2 (Nat.le_refl _)) o2.row).mono ?_
          rintro e u4 ⟨rfl, k3⟩
          have k13 := below_next k12 k3
          clear o1 o2
          go_wp2_with fail
          refine (HC1.out u4 (HRQ.out _ k13) (HRT.out _ k13)).mono ?_
          rintro e u5 ⟨x3, y3, rfl, o3, k4⟩
          have k14 := below_next k13 k4
          go_wp2_with fail
          refine (HC3.out u5 (HRQ.out _ k14) (HRT.out _ k14)).mono ?_
          rintro e u6 ⟨x4, y4, rfl, o4, k5⟩
          go_wp2_with fail
          refine (sameInts_t x3 x4 y3 y4 Z u6 (by omega) (o3.row.below k5 (Nat.le_refl _)) o4.row).mono ?_
          rintro e u7 ⟨rfl, k6⟩
          have HU7 := Lib.hid (below_next (below_next (below_next HU1.out k14) k5) k6)
          clear o3 o4 k1 k2 k12 k3 k13 k4 k14 k5 k6
          go_wp2
          go_ret
          exact ⟨rfl, HU7.out⟩

theorem own : ownKnob Try.prog.godebug = none := by kernel_rfl
theorem laidOut : laidOutB Try.prog = true := by kernel_rfl
set_option maxRecDepth 100000 in
theorem lifted (os : Os) (started : os.Started) (H : Type) (enc : TypeId × Value → H) :
    ReturnsInHanded {} Try.checked os 7 .any (Rows.fnClippedSpec.pre6 enc Try.prog Try.f7 Rows.fnClippedRow.domain false) (Rows.fnClippedSpec.post enc Try.prog Try.f7 false true false false) := by
  refine returnsInHanded_of_change (C := Try.checked) own started (by kernel_rfl) Try.func7
    (ChangeSpec.witness6 (enc := enc) (C := Try.checked) false ⟨#[], #[.slice none 0 0], []⟩ 8 (by kernel_rfl) (by kernel_rfl) (by kernel_rfl) (by kernel_rfl)) ?_
  intro W base args ds gs before hval0 hW hcnd _
  have hval : ∀ (j : Nat) t v, Try.f7.params[j]? = some t → args[j]? = some v → Value.okWide Try.prog W .any base t v := hval0
  have hW' := hW
  obtain ⟨p, q, hA0, hV, rfl, hfz, hnd⟩ := hW
  have hA : DataW.TrodAll enc Try.prog W 0 (fun _ => true) true Try.f7.params.toList args.toList ds p := hA0
  rw [Try.params7] at hA hval
  obtain ⟨v0, vs0, d0, ds0, p0, q0, hargs, rfl, rfl, h0, tr0⟩ := trodAll_cons hA
  obtain ⟨rfl, rfl, rfl⟩ := trodAll_nil tr0
  obtain rfl : args = #[v0] := by cases args; simp_all
  obtain ⟨rfl, rfl⟩ := trodVars_none hV
  have k0 := h0
  have lt0 : ∀ x ∈ p0, x.block < W.heap.size := by obtain ⟨m, hm⟩ := k0; exact DataW.trod_lt m _ _ _ hm
  obtain ⟨a0, len0, c0, rfl⟩ := okWide_slice Try.underlying22 (hval 0 22 v0 rfl rfl)
  obtain ⟨l0, hl0, r0, w0⟩ : ∃ l : List Int, l.length = len0 ∧ RowB W a0 l ∧ ∀ x ∈ l, 0 ≤ x ∧ x ≤ 255 := by
    obtain ⟨fuel, hf⟩ := k0
    rcases open_ints Try.underlying22 Try.underlying5 (by kernel_rfl) hf with ⟨hcs, _⟩ | ⟨x, l, c, zs, hcs, _, hl, hm, hz, _, hcell, hwz⟩
    · simp [Value.cells] at hcs
      obtain ⟨rfl, rfl, rfl⟩ := hcs
      exact ⟨[], rfl, .inl rfl, by simp⟩
    · simp [Value.cells] at hcs
      obtain ⟨rfl, rfl, rfl⟩ := hcs
      exact RowB.of_cells hl (by simpa using hz) hcell (fun n hn => wf_u8 (hwz n hn))
  subst hl0
  clear hA0 hval0
  refine (walk W a0 c0 l0 r0 w0).mono fun e W' ⟨he, bel⟩ => ?_
  subst he
  exact ⟨_, rfl, _, _, _, [], _, [], hW', trodAll_mk1 (shut_bool Try.underlying4 _), (trodAll_cons_mk (Below.trod laidOut (by kernel_rfl) (of_decide_eq_true (by kernel_rfl)) k0 bel lt0) trodAll_mk0), rfl, bel.frame _, fun h => by cases h⟩

theorem over : Rows.fnClippedRow.holds Try.pinned (OpenSpec.ofChange Rows.fnClippedSpec) :=
  OpenClaim.holds_of_wide 7 Try.f7 rfl rfl rfl rfl rfl rfl rfl ⟨rfl, rfl, rfl, rfl, rfl⟩ rfl rfl rfl rfl rfl (by kernel_rfl) Try.func7 (by kernel_rfl)
    (of_decide_eq_true (by kernel_rfl)) (by unfold Func.isWrapper; first | (rw [if_pos (by decide +kernel)]; kernel_rfl) | (rw [if_neg (by decide +kernel)]; exact ⟨rfl, rfl⟩))
    (fun os started H enc _ => lifted os started H enc)

/-- the statement -/
theorem proved : Rows.FnClippedSaid := over
#print axioms proved
end Go.Proofs.Ytbdggcefgiehkaa.fnClipped
