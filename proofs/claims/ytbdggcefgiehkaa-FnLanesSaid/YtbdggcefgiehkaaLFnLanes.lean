/- For every input the law FnLanes returns true and leaves its arguments as they were; no condition. -/
import Derived.Test.YtbdggcefgiehkaaMem
import Derived.Test.YtbdggcefgiehkaaFrm
import Derived.Test.YtbdggcefgiehkaaDrawR
import Derived.Test.YtbdggcefgiehkaaLanesP
namespace Go.Proofs.Ytbdggcefgiehkaa.fnLanes
open Go.ChangeShapes Go.WideShapes Go.ChangeAt Go.RowKit Go.Joins
set_option linter.unusedVariables false

set_option maxHeartbeats 4000000 in
theorem walk (w : World) (a0 : Option Addr) (c0 : Nat) (l0 : List Int) (r0 : RowB w a0 l0) (w0 : ∀ x ∈ l0, 0 ≤ x ∧ x ≤ 255) :
    Calls Try.prog 6 #[.slice a0 l0.length c0] w fun e w' => e = .returned (.bool true) ∧ Below w.heap.size w w' := by
  by_cases hbig : 1048576 < l0.length
  · have HB := Lib.hid (big_c a0 c0 l0.length w)
    rw [decide_eq_true hbig] at HB
    clear hbig r0 w0
    go_enter Try.func6, Try.ntmps6
    go_wp2_with (go_at_call 9; refine HB.out.mono ?_; rintro e w' ⟨rfl, rfl⟩)
    go_ret
    exact ⟨rfl, Below.refl _ _⟩
  · have HB := Lib.hid (big_c a0 c0 l0.length w)
    rw [decide_eq_false hbig] at HB
    have HD := Lib.hid (DrawPack4_c a0 c0 l0 w (by omega) r0 w0)
    have HDA : Hid (∀ v, Below w.heap.size w v → Calls Try.prog 32 #[.slice a0 l0.length c0] v fun e w' => ∃ x y : Int, e = .returned (.tuple #[.int .i64 x, .int .i64 y]) ∧ (-9223372036854775808 ≤ x ∧ x ≤ 9223372036854775807) ∧ (-9223372036854775808 ≤ y ∧ y ≤ 9223372036854775807) ∧ Below v.heap.size v w') := Lib.hid (fun v h => DrawAddLanes_c a0 c0 l0 v (by omega) (r0.below h (Nat.le_refl _)) w0)
    have HDC : Hid (∀ v, Below w.heap.size w v → Calls Try.prog 35 #[.slice a0 l0.length c0] v fun e w' => ∃ x : Int, e = .returned (.int .i64 x) ∧ (-9223372036854775808 ≤ x ∧ x ≤ 9223372036854775807) ∧ Below v.heap.size v w') := Lib.hid (fun v h => DrawClipLanes_c a0 c0 l0 v (by omega) (r0.below h (Nat.le_refl _)) w0)
    have hmin := min_if
    have hmax := max_if
    have hne : ∀ b : Int, (b != b) = false := by intro b; simp
    have hneb : ∀ b : Bool, (b != b) = false := by intro b; cases b <;> rfl
    clear hbig r0 w0
    go_enter Try.func6, Try.ntmps6
    go_wp2_with (go_at_call 9; refine HB.out.mono ?_; rintro e w' ⟨rfl, rfl⟩)
    refine HD.out.mono ?_
    rintro e w1 ⟨b, d, L, rfl, hl4, hLb, hrL, hb1⟩
    have HRL : Hid (∀ v, Below w1.heap.size w1 v → Row v b L) := Lib.hid (fun v h => hrL.below h (Nat.le_refl _))
    have HB1 := Lib.hid hb1
    clear hLb hrL hb1 HD
    go_wp2_with fail
    refine (impl.Pack4_c b d L w1 (by omega) (HRL.out _ (Below.refl _ _))).mono ?_
    rintro e w2 ⟨rfl, n2, rfl⟩
    go_wp2_with fail
    refine (spec.Pack4_c b d L _ (by omega) ((HRL.out _ (Below.refl _ _)).drewN n2)).mono ?_
    rintro e w3 ⟨rfl, rfl⟩
    have HB3 := Lib.hid (below_drewN' HB1.out n2)
    have HRL3 : Hid (∀ v, Below (w1.drewN n2).heap.size (w1.drewN n2) v → Row v b L) := Lib.hid (fun v h => ((HRL.out _ (Below.refl _ _)).drewN n2).below h (Nat.le_refl _))
    generalize w1.drewN n2 = w3 at *
    have hpb := packF_bd L
    cases hok : packOk L
    · generalize packF L = PK at *
      clear hok
      go_wp2_with fail
      refine (HDA.out w3 HB3.out).mono ?_
      rintro e v1 ⟨a, b, rfl, ha, hb, hv1⟩
      have HV1 := Lib.hid (below_next HB3.out hv1)
      clear hv1
      go_wp2_with fail
      refine (impl.AddLanes_c a b v1 ha hb).mono ?_
      rintro e v2 ⟨rfl, k1⟩
      go_wp2_with fail
      refine (impl.Unpack4_c a v2 ha).mono ?_
      rintro e v3 ⟨xa, ya, rfl, oa, k2⟩
      go_wp2_with fail
      refine (impl.Unpack4_c b v3 hb).mono ?_
      rintro e v4 ⟨xb, yb, rfl, ob, k3⟩
      go_wp2_with fail
      refine (spec.AddLanes_c a b v4 ha hb).mono ?_
      rintro e v5 ⟨rfl, k4⟩
      have HV5 := Lib.hid (below_next (below_next (below_next (below_next HV1.out k1) k2) k3) k4)
      cases hok : addOk a b
      · have neb : (false != false) = false := rfl
        clear oa ob k1 k2 k3 k4 hok
        go_wp2_with fail
        refine (HDC.out v5 HV5.out).mono ?_
        rintro e u1 ⟨k, rfl, hk, hu1⟩
        have HU1 := Lib.hid (below_next HV5.out hu1)
        clear hu1
        go_wp2_with fail
        refine (impl.Unpack4_c k u1 hk).mono ?_
        rintro e u2 ⟨x1, y1, rfl, o1, k1⟩
        go_wp2_with fail
        refine (impl.ClipLanes_c k u2 hk).mono ?_
        rintro e u3 ⟨rfl, k2⟩
        have hclb : 0 ≤ clipLanesF k ∧ clipLanesF k ≤ 9223372036854775807 := packF_bd _
        rcases unpackF_cases k with hz | h4
        · have HO := Lib.hid (o1.below k2 (Nat.le_refl _))
          rw [hz] at HO ⊢
          generalize clipLanesF k = CS at *
          go_wp2_with fail
          refine (impl.Unpack4_c CS u3 (by omega)).mono ?_
          rintro e u4 ⟨x2, y2, rfl, o2, k3⟩
          have HE := Lib.hid (below_next (below_next (below_next HU1.out k1) k2) k3)
          clear o1 o2 k1 k2 k3
          go_wp2
          go_loopw [21] (fun i wr => i = .int .i64 0 ∧ wr = u4) (fun i _ => 0)
          case atStart => exact ⟨rfl, rfl⟩
          case round =>
            obtain ⟨rfl, rfl⟩ := hrel
            go_wp2
            go_ret
            exact ⟨rfl, HE.out⟩
        · have hcv := clip_val h4
          obtain ⟨U, hU⟩ : ∃ U, U = unpackF k := ⟨_, rfl⟩
          have HUB : Hid (∀ i, i < 4 → 0 ≤ U.getD i 0 ∧ U.getD i 0 ≤ 32767) := Lib.hid (fun i hi => by rw [hU]; exact unpackF_at (by omega))
          have HU4 : Hid (U.length = 4) := Lib.hid (by rw [hU]; exact h4)
          obtain ⟨V, hV⟩ : ∃ V, V = tab (fun i => clipF 0 255 (U.getD i 0 - 1024)) 4 := ⟨_, rfl⟩
          rw [← hU, ← hV] at hcv
          have HV4 : Hid (V.length = 4) := Lib.hid (by rw [hV, tab_len])
          have HVA : Hid (∀ i, i < 4 → V.getD i 0 = clipF 0 255 (U.getD i 0 - 1024)) := Lib.hid (fun i hi => by rw [hV, tab_getD _ _ _ hi])
          rw [← hU] at o1 ⊢
          have HCV := Lib.hid hcv
          generalize clipLanesF k = CS at *
          clear hU hV h4 hcv
          go_wp2_with fail
          refine (impl.Unpack4_c CS u3 (by omega)).mono ?_
          rintro e u4 ⟨x2, y2, rfl, o2, k3⟩
          rw [HCV.out] at o2 ⊢
          have HE := Lib.hid (below_next (below_next (below_next HU1.out k1) k2) k3)
          have HR1 := Lib.hid ((o1.row.below k2 (Nat.le_refl _)).below k3 (Nat.le_refl _))
          have HR2 := Lib.hid o2.row
          have hz4 : ((V.length : Int) != 4) = false := by have := HV4.out; simp; omega
          clear o1 o2 k1 k2 k3 HCV
          go_wp2
          go_loopw [21] (fun i wr => ∃ (j n : Nat), j ≤ 4 ∧ i = .int .i64 j ∧ wr = u4.drewN n) (fun i _ => 4 - (intOf i).toNat)
          case atStart => exact ⟨0, 0, by omega, rfl, rfl⟩
          case round =>
            obtain ⟨j, n, hj, rfl, rfl⟩ := hrel
            by_cases hlt : j < 4
            · obtain ⟨ba, oa, rfl, hca⟩ := HR1.out.at_ (i := j) (by rw [HU4.out]; exact hlt)
              obtain ⟨bb, ob, rfl, hcb⟩ := HR2.out.at_ (i := j) (by rw [HV4.out]; exact hlt)
              have hva := HVA.out j hlt
              have hub := HUB.out j hlt
              obtain ⟨x, hx⟩ : ∃ x, x = U.getD j 0 := ⟨_, rfl⟩
              obtain ⟨y, hy⟩ : ∃ y, y = V.getD j 0 := ⟨_, rfl⟩
              rw [← hx] at hca hva hub
              rw [← hy] at hcb hva
              obtain ⟨hx0, hx1⟩ := hub
              have hyb : 0 ≤ y ∧ y ≤ 255 := by rw [hva]; exact clipF_bd 0 255 _ (by omega)
              obtain ⟨hy0, hy1⟩ := hyb
              have e1 : max 0 (min 255 (x - 1024)) = y := by rw [hva]; unfold clipF; omega
              have z1 : (j : Int) < (U.length : Int) := by have := HU4.out; omega
              have z2 : (j : Int) < (V.length : Int) := by have := HV4.out; omega
              have ne1 : ∀ b : Int, (b != b) = false := by intro b; simp
              clear hx hy hva
              go_wp2
              go_quiet (fail)
              go_wp2
              go_roundw
              case rel => exact ⟨j + 1, _, by omega, by go_num, by first | rfl | exact World.drewN_drewN _ _ _⟩
              case measure => simp [intOf]; omega
            · have zd : (U.length : Int) ≤ (j : Int) := by have := HU4.out; omega
              go_wp2
              go_ret
              exact ⟨rfl, below_drewN' HE.out _⟩
      · obtain ⟨hsum, hun, hla, hlb⟩ := add_val ha.2 hb.2 hok
        have hvb := addV_bd a b
        rw [hsum] at hvb hun
        have hwr : IntKind.i64.wrap (a + b) = a + b := IntWalk.i64_in _ (by omega)
        have hwr2 : wrap64 (a + b) = a + b := by unfold wrap64; omega
        have neb : (true != true) = false := rfl
        have ne1 : ∀ b : Int, (b != b) = false := by intro b; simp
        obtain ⟨Z, hZ⟩ : ∃ Z, Z = addL a b := ⟨_, rfl⟩
        have HZ4 : Hid (Z.length = 4) := Lib.hid (by rw [hZ, addL, tab_len])
        obtain ⟨X, hX⟩ : ∃ X, X = unpackF a := ⟨_, rfl⟩
        obtain ⟨Y, hY⟩ : ∃ Y, Y = unpackF b := ⟨_, rfl⟩
        have HX4 : Hid (X.length = 4) := Lib.hid (by rw [hX]; exact hla)
        have HY4 : Hid (Y.length = 4) := Lib.hid (by rw [hY]; exact hlb)
        have HXB : Hid (∀ i, i < 4 → 0 ≤ X.getD i 0 ∧ X.getD i 0 ≤ 32767) := Lib.hid (fun i hi => by rw [hX]; exact unpackF_at (by omega))
        have HYB : Hid (∀ i, i < 4 → 0 ≤ Y.getD i 0 ∧ Y.getD i 0 ≤ 32767) := Lib.hid (fun i hi => by rw [hY]; exact unpackF_at (by omega))
        have HZA : Hid (∀ i, i < 4 → Z.getD i 0 = X.getD i 0 + Y.getD i 0) := Lib.hid (fun i hi => by rw [hZ, hX, hY, addL, tab_getD _ _ _ hi])
        rw [← hZ] at hun
        rw [← hX] at oa
        rw [← hY] at ob
        rw [← hX, ← hY, hsum]
        have HUN := Lib.hid hun
        have HR1 := Lib.hid ((oa.row.below k3 (Nat.le_refl _)).below k4 (Nat.le_refl _))
        have HR2 := Lib.hid (ob.row.below k4 (Nat.le_refl _))
        have HCB := Lib.hid hvb
        clear oa ob k1 k2 k3 k4 hok hsum hun hla hlb hZ hX hY
        go_wp2_with fail
        refine (impl.Unpack4_c (a + b) v5 (by have := HCB.out; omega)).mono ?_
        rintro e v6 ⟨xz, yz, rfl, oz, k5⟩
        rw [HUN.out] at oz ⊢
        have HRZ := Lib.hid oz.row
        have HR1 := Lib.hid (HR1.out.below k5 (Nat.le_refl _))
        have HR2 := Lib.hid (HR2.out.below k5 (Nat.le_refl _))
        have HV6 := Lib.hid (below_next HV5.out k5)
        have l1 : ((Z.length : Int) != 4) = false := by have := HZ4.out; simp; omega
        have l2 : ((X.length : Int) != 4) = false := by have := HX4.out; simp; omega
        have l3 : ((Y.length : Int) != 4) = false := by have := HY4.out; simp; omega
        clear oz k5 HUN
        go_wp2
        go_loopw [17] (fun i wr => ∃ (j n : Nat), j ≤ 4 ∧ i = .int .i64 j ∧ wr = v6.drewN n) (fun i _ => 4 - (intOf i).toNat)
        case atStart => exact ⟨0, 0, by omega, rfl, rfl⟩
        case round =>
          obtain ⟨j, n, hj, rfl, rfl⟩ := hrel
          by_cases hlt : j < 4
          · obtain ⟨ba, oa, rfl, hca⟩ := HR1.out.at_ (i := j) (by rw [HX4.out]; exact hlt)
            obtain ⟨bb, ob, rfl, hcb⟩ := HR2.out.at_ (i := j) (by rw [HY4.out]; exact hlt)
            obtain ⟨bz, oz, rfl, hcz⟩ := HRZ.out.at_ (i := j) (by rw [HZ4.out]; exact hlt)
            have hza := HZA.out j hlt
            have hxb := HXB.out j hlt
            have hyb := HYB.out j hlt
            obtain ⟨x, hx⟩ : ∃ x, x = X.getD j 0 := ⟨_, rfl⟩
            obtain ⟨y, hy⟩ : ∃ y, y = Y.getD j 0 := ⟨_, rfl⟩
            rw [hza] at hcz
            rw [← hx] at hca hcz hxb
            rw [← hy] at hcb hcz hyb
            obtain ⟨hx0, hx1⟩ := hxb
            obtain ⟨hy0, hy1⟩ := hyb
            have z1 : (j : Int) < (X.length : Int) := by have := HX4.out; omega
            have z2 : (j : Int) < (Y.length : Int) := by have := HY4.out; omega
            have z3 : (j : Int) < (Z.length : Int) := by have := HZ4.out; omega
            clear hx hy hza
            go_wp2
            go_quiet (fail)
            go_wp2
            go_roundw
            case rel => exact ⟨j + 1, _, by omega, by go_num, by first | rfl | exact World.drewN_drewN _ _ _⟩
            case measure => simp [intOf]; omega
          · obtain rfl : j = 4 := by omega
            have HV7 := Lib.hid (below_drewN' HV6.out n)
            generalize v6.drewN n = v7 at *
            clear HR1 HR2 HRZ HV6 HZA HXB HYB l1 l2 l3
            go_wp2_with fail
            refine (HDC.out v7 HV7.out).mono ?_
            rintro e u1 ⟨k, rfl, hk, hu1⟩
            have HU1 := Lib.hid (below_next HV7.out hu1)
            clear hu1
            go_wp2_with fail
            refine (impl.Unpack4_c k u1 hk).mono ?_
            rintro e u2 ⟨x1, y1, rfl, o1, k1⟩
            go_wp2_with fail
            refine (impl.ClipLanes_c k u2 hk).mono ?_
            rintro e u3 ⟨rfl, k2⟩
            have hclb : 0 ≤ clipLanesF k ∧ clipLanesF k ≤ 9223372036854775807 := packF_bd _
            rcases unpackF_cases k with hz | h4
            · have HO := Lib.hid (o1.below k2 (Nat.le_refl _))
              rw [hz] at HO ⊢
              generalize clipLanesF k = CS at *
              go_wp2_with fail
              refine (impl.Unpack4_c CS u3 (by omega)).mono ?_
              rintro e u4 ⟨x2, y2, rfl, o2, k3⟩
              have HE := Lib.hid (below_next (below_next (below_next HU1.out k1) k2) k3)
              clear o1 o2 k1 k2 k3
              go_wp2
              go_loopw [21] (fun i wr => i = .int .i64 0 ∧ wr = u4) (fun i _ => 0)
              case atStart => exact ⟨rfl, rfl⟩
              case round =>
                obtain ⟨rfl, rfl⟩ := hrel
                go_wp2
                go_ret
                exact ⟨rfl, HE.out⟩
            · have hcv := clip_val h4
              obtain ⟨U, hU⟩ : ∃ U, U = unpackF k := ⟨_, rfl⟩
              have HUB : Hid (∀ i, i < 4 → 0 ≤ U.getD i 0 ∧ U.getD i 0 ≤ 32767) := Lib.hid (fun i hi => by rw [hU]; exact unpackF_at (by omega))
              have HU4 : Hid (U.length = 4) := Lib.hid (by rw [hU]; exact h4)
              obtain ⟨V, hV⟩ : ∃ V, V = tab (fun i => clipF 0 255 (U.getD i 0 - 1024)) 4 := ⟨_, rfl⟩
              rw [← hU, ← hV] at hcv
              have HV4 : Hid (V.length = 4) := Lib.hid (by rw [hV, tab_len])
              have HVA : Hid (∀ i, i < 4 → V.getD i 0 = clipF 0 255 (U.getD i 0 - 1024)) := Lib.hid (fun i hi => by rw [hV, tab_getD _ _ _ hi])
              rw [← hU] at o1 ⊢
              have HCV := Lib.hid hcv
              generalize clipLanesF k = CS at *
              clear hU hV h4 hcv
              go_wp2_with fail
              refine (impl.Unpack4_c CS u3 (by omega)).mono ?_
              rintro e u4 ⟨x2, y2, rfl, o2, k3⟩
              rw [HCV.out] at o2 ⊢
              have HE := Lib.hid (below_next (below_next (below_next HU1.out k1) k2) k3)
              have HR1 := Lib.hid ((o1.row.below k2 (Nat.le_refl _)).below k3 (Nat.le_refl _))
              have HR2 := Lib.hid o2.row
              have hz4 : ((V.length : Int) != 4) = false := by have := HV4.out; simp; omega
              clear o1 o2 k1 k2 k3 HCV
              go_wp2
              go_loopw [21] (fun i wr => ∃ (j n : Nat), j ≤ 4 ∧ i = .int .i64 j ∧ wr = u4.drewN n) (fun i _ => 4 - (intOf i).toNat)
              case atStart => exact ⟨0, 0, by omega, rfl, rfl⟩
              case round =>
                obtain ⟨j, n, hj, rfl, rfl⟩ := hrel
                by_cases hlt : j < 4
                · obtain ⟨ba, oa, rfl, hca⟩ := HR1.out.at_ (i := j) (by rw [HU4.out]; exact hlt)
                  obtain ⟨bb, ob, rfl, hcb⟩ := HR2.out.at_ (i := j) (by rw [HV4.out]; exact hlt)
                  have hva := HVA.out j hlt
                  have hub := HUB.out j hlt
                  obtain ⟨x, hx⟩ : ∃ x, x = U.getD j 0 := ⟨_, rfl⟩
                  obtain ⟨y, hy⟩ : ∃ y, y = V.getD j 0 := ⟨_, rfl⟩
                  rw [← hx] at hca hva hub
                  rw [← hy] at hcb hva
                  obtain ⟨hx0, hx1⟩ := hub
                  have hyb : 0 ≤ y ∧ y ≤ 255 := by rw [hva]; exact clipF_bd 0 255 _ (by omega)
                  obtain ⟨hy0, hy1⟩ := hyb
                  have e1 : max 0 (min 255 (x - 1024)) = y := by rw [hva]; unfold clipF; omega
                  have z1 : (j : Int) < (U.length : Int) := by have := HU4.out; omega
                  have z2 : (j : Int) < (V.length : Int) := by have := HV4.out; omega
                  have ne1 : ∀ b : Int, (b != b) = false := by intro b; simp
                  clear hx hy hva
                  go_wp2
                  go_quiet (fail)
                  go_wp2
                  go_roundw
                  case rel => exact ⟨j + 1, _, by omega, by go_num, by first | rfl | exact World.drewN_drewN _ _ _⟩
                  case measure => simp [intOf]; omega
                · have zd : (U.length : Int) ≤ (j : Int) := by have := HU4.out; omega
                  go_wp2
                  go_ret
                  exact ⟨rfl, below_drewN' HE.out _⟩
    · have hup := unpack_pack hok
      have HUP := Lib.hid hup
      generalize packF L = PK at *
      clear hup hok
      go_wp2_with fail
      refine (impl.Unpack4_c PK w3 (by omega)).mono ?_
      rintro e w4 ⟨b4, d4, rfl, o4, k4⟩
      rw [HUP.out] at o4 ⊢
      go_wp2_with fail
      refine (sameInts_t b4 b d4 d L w4 (by omega) o4.row (HRL3.out _ k4)).mono ?_
      rintro e w5 ⟨rfl, k5⟩
      have HB5 := Lib.hid (below_next (below_next HB3.out k4) k5)
      clear o4 k4 k5 HUP
      go_wp2_with fail
      refine (HDA.out w5 HB5.out).mono ?_
      rintro e v1 ⟨a, b, rfl, ha, hb, hv1⟩
      have HV1 := Lib.hid (below_next HB5.out hv1)
      clear hv1
      go_wp2_with fail
      refine (impl.AddLanes_c a b v1 ha hb).mono ?_
      rintro e v2 ⟨rfl, k1⟩
      go_wp2_with fail
      refine (impl.Unpack4_c a v2 ha).mono ?_
      rintro e v3 ⟨xa, ya, rfl, oa, k2⟩
      go_wp2_with fail
      refine (impl.Unpack4_c b v3 hb).mono ?_
      rintro e v4 ⟨xb, yb, rfl, ob, k3⟩
      go_wp2_with fail
      refine (spec.AddLanes_c a b v4 ha hb).mono ?_
      rintro e v5 ⟨rfl, k4⟩
      have HV5 := Lib.hid (below_next (below_next (below_next (below_next HV1.out k1) k2) k3) k4)
      cases hok : addOk a b
      · have neb : (false != false) = false := rfl
        clear oa ob k1 k2 k3 k4 hok
        go_wp2_with fail
        refine (HDC.out v5 HV5.out).mono ?_
        rintro e u1 ⟨k, rfl, hk, hu1⟩
        have HU1 := Lib.hid (below_next HV5.out hu1)
        clear hu1
        go_wp2_with fail
        refine (impl.Unpack4_c k u1 hk).mono ?_
        rintro e u2 ⟨x1, y1, rfl, o1, k1⟩
        go_wp2_with fail
        refine (impl.ClipLanes_c k u2 hk).mono ?_
        rintro e u3 ⟨rfl, k2⟩
        have hclb : 0 ≤ clipLanesF k ∧ clipLanesF k ≤ 9223372036854775807 := packF_bd _
        rcases unpackF_cases k with hz | h4
        · have HO := Lib.hid (o1.below k2 (Nat.le_refl _))
          rw [hz] at HO ⊢
          generalize clipLanesF k = CS at *
          go_wp2_with fail
          refine (impl.Unpack4_c CS u3 (by omega)).mono ?_
          rintro e u4 ⟨x2, y2, rfl, o2, k3⟩
          have HE := Lib.hid (below_next (below_next (below_next HU1.out k1) k2) k3)
          clear o1 o2 k1 k2 k3
          go_wp2
          go_loopw [21] (fun i wr => i = .int .i64 0 ∧ wr = u4) (fun i _ => 0)
          case atStart => exact ⟨rfl, rfl⟩
          case round =>
            obtain ⟨rfl, rfl⟩ := hrel
            go_wp2
            go_ret
            exact ⟨rfl, HE.out⟩
        · have hcv := clip_val h4
          obtain ⟨U, hU⟩ : ∃ U, U = unpackF k := ⟨_, rfl⟩
          have HUB : Hid (∀ i, i < 4 → 0 ≤ U.getD i 0 ∧ U.getD i 0 ≤ 32767) := Lib.hid (fun i hi => by rw [hU]; exact unpackF_at (by omega))
          have HU4 : Hid (U.length = 4) := Lib.hid (by rw [hU]; exact h4)
          obtain ⟨V, hV⟩ : ∃ V, V = tab (fun i => clipF 0 255 (U.getD i 0 - 1024)) 4 := ⟨_, rfl⟩
          rw [← hU, ← hV] at hcv
          have HV4 : Hid (V.length = 4) := Lib.hid (by rw [hV, tab_len])
          have HVA : Hid (∀ i, i < 4 → V.getD i 0 = clipF 0 255 (U.getD i 0 - 1024)) := Lib.hid (fun i hi => by rw [hV, tab_getD _ _ _ hi])
          rw [← hU] at o1 ⊢
          have HCV := Lib.hid hcv
          generalize clipLanesF k = CS at *
          clear hU hV h4 hcv
          go_wp2_with fail
          refine (impl.Unpack4_c CS u3 (by omega)).mono ?_
          rintro e u4 ⟨x2, y2, rfl, o2, k3⟩
          rw [HCV.out] at o2 ⊢
          have HE := Lib.hid (below_next (below_next (below_next HU1.out k1) k2) k3)
          have HR1 := Lib.hid ((o1.row.below k2 (Nat.le_refl _)).below k3 (Nat.le_refl _))
          have HR2 := Lib.hid o2.row
          have hz4 : ((V.length : Int) != 4) = false := by have := HV4.out; simp; omega
          clear o1 o2 k1 k2 k3 HCV
          go_wp2
          go_loopw [21] (fun i wr => ∃ (j n : Nat), j ≤ 4 ∧ i = .int .i64 j ∧ wr = u4.drewN n) (fun i _ => 4 - (intOf i).toNat)
          case atStart => exact ⟨0, 0, by omega, rfl, rfl⟩
          case round =>
            obtain ⟨j, n, hj, rfl, rfl⟩ := hrel
            by_cases hlt : j < 4
            · obtain ⟨ba, oa, rfl, hca⟩ := HR1.out.at_ (i := j) (by rw [HU4.out]; exact hlt)
              obtain ⟨bb, ob, rfl, hcb⟩ := HR2.out.at_ (i := j) (by rw [HV4.out]; exact hlt)
              have hva := HVA.out j hlt
              have hub := HUB.out j hlt
              obtain ⟨x, hx⟩ : ∃ x, x = U.getD j 0 := ⟨_, rfl⟩
              obtain ⟨y, hy⟩ : ∃ y, y = V.getD j 0 := ⟨_, rfl⟩
              rw [← hx] at hca hva hub
              rw [← hy] at hcb hva
              obtain ⟨hx0, hx1⟩ := hub
              have hyb : 0 ≤ y ∧ y ≤ 255 := by rw [hva]; exact clipF_bd 0 255 _ (by omega)
              obtain ⟨hy0, hy1⟩ := hyb
              have e1 : max 0 (min 255 (x - 1024)) = y := by rw [hva]; unfold clipF; omega
              have z1 : (j : Int) < (U.length : Int) := by have := HU4.out; omega
              have z2 : (j : Int) < (V.length : Int) := by have := HV4.out; omega
              have ne1 : ∀ b : Int, (b != b) = false := by intro b; simp
              clear hx hy hva
              go_wp2
              go_quiet (fail)
              go_wp2
              go_roundw
              case rel => exact ⟨j + 1, _, by omega, by go_num, by first | rfl | exact World.drewN_drewN _ _ _⟩
              case measure => simp [intOf]; omega
            · have zd : (U.length : Int) ≤ (j : Int) := by have := HU4.out; omega
              go_wp2
              go_ret
              exact ⟨rfl, below_drewN' HE.out _⟩
      · obtain ⟨hsum, hun, hla, hlb⟩ := add_val ha.2 hb.2 hok
        have hvb := addV_bd a b
        rw [hsum] at hvb hun
        have hwr : IntKind.i64.wrap (a + b) = a + b := IntWalk.i64_in _ (by omega)
        have hwr2 : wrap64 (a + b) = a + b := by unfold wrap64; omega
        have neb : (true != true) = false := rfl
        have ne1 : ∀ b : Int, (b != b) = false := by intro b; simp
        obtain ⟨Z, hZ⟩ : ∃ Z, Z = addL a b := ⟨_, rfl⟩
        have HZ4 : Hid (Z.length = 4) := Lib.hid (by rw [hZ, addL, tab_len])
        obtain ⟨X, hX⟩ : ∃ X, X = unpackF a := ⟨_, rfl⟩
        obtain ⟨Y, hY⟩ : ∃ Y, Y = unpackF b := ⟨_, rfl⟩
        have HX4 : Hid (X.length = 4) := Lib.hid (by rw [hX]; exact hla)
        have HY4 : Hid (Y.length = 4) := Lib.hid (by rw [hY]; exact hlb)
        have HXB : Hid (∀ i, i < 4 → 0 ≤ X.getD i 0 ∧ X.getD i 0 ≤ 32767) := Lib.hid (fun i hi => by rw [hX]; exact unpackF_at (by omega))
        have HYB : Hid (∀ i, i < 4 → 0 ≤ Y.getD i 0 ∧ Y.getD i 0 ≤ 32767) := Lib.hid (fun i hi => by rw [hY]; exact unpackF_at (by omega))
        have HZA : Hid (∀ i, i < 4 → Z.getD i 0 = X.getD i 0 + Y.getD i 0) := Lib.hid (fun i hi => by rw [hZ, hX, hY, addL, tab_getD _ _ _ hi])
        rw [← hZ] at hun
        rw [← hX] at oa
        rw [← hY] at ob
        rw [← hX, ← hY, hsum]
        have HUN := Lib.hid hun
        have HR1 := Lib.hid ((oa.row.below k3 (Nat.le_refl _)).below k4 (Nat.le_refl _))
        have HR2 := Lib.hid (ob.row.below k4 (Nat.le_refl _))
        have HCB := Lib.hid hvb
        clear oa ob k1 k2 k3 k4 hok hsum hun hla hlb hZ hX hY
        go_wp2_with fail
        refine (impl.Unpack4_c (a + b) v5 (by have := HCB.out; omega)).mono ?_
        rintro e v6 ⟨xz, yz, rfl, oz, k5⟩
        rw [HUN.out] at oz ⊢
        have HRZ := Lib.hid oz.row
        have HR1 := Lib.hid (HR1.out.below k5 (Nat.le_refl _))
        have HR2 := Lib.hid (HR2.out.below k5 (Nat.le_refl _))
        have HV6 := Lib.hid (below_next HV5.out k5)
        have l1 : ((Z.length : Int) != 4) = false := by have := HZ4.out; simp; omega
        have l2 : ((X.length : Int) != 4) = false := by have := HX4.out; simp; omega
        have l3 : ((Y.length : Int) != 4) = false := by have := HY4.out; simp; omega
        clear oz k5 HUN
        go_wp2
        go_loopw [17] (fun i wr => ∃ (j n : Nat), j ≤ 4 ∧ i = .int .i64 j ∧ wr = v6.drewN n) (fun i _ => 4 - (intOf i).toNat)
        case atStart => exact ⟨0, 0, by omega, rfl, rfl⟩
        case round =>
          obtain ⟨j, n, hj, rfl, rfl⟩ := hrel
          by_cases hlt : j < 4
          · obtain ⟨ba, oa, rfl, hca⟩ := HR1.out.at_ (i := j) (by rw [HX4.out]; exact hlt)
            obtain ⟨bb, ob, rfl, hcb⟩ := HR2.out.at_ (i := j) (by rw [HY4.out]; exact hlt)
            obtain ⟨bz, oz, rfl, hcz⟩ := HRZ.out.at_ (i := j) (by rw [HZ4.out]; exact hlt)
            have hza := HZA.out j hlt
            have hxb := HXB.out j hlt
            have hyb := HYB.out j hlt
            obtain ⟨x, hx⟩ : ∃ x, x = X.getD j 0 := ⟨_, rfl⟩
            obtain ⟨y, hy⟩ : ∃ y, y = Y.getD j 0 := ⟨_, rfl⟩
            rw [hza] at hcz
            rw [← hx] at hca hcz hxb
            rw [← hy] at hcb hcz hyb
            obtain ⟨hx0, hx1⟩ := hxb
            obtain ⟨hy0, hy1⟩ := hyb
            have z1 : (j : Int) < (X.length : Int) := by have := HX4.out; omega
            have z2 : (j : Int) < (Y.length : Int) := by have := HY4.out; omega
            have z3 : (j : Int) < (Z.length : Int) := by have := HZ4.out; omega
            clear hx hy hza
            go_wp2
            go_quiet (fail)
            go_wp2
            go_roundw
            case rel => exact ⟨j + 1, _, by omega, by go_num, by first | rfl | exact World.drewN_drewN _ _ _⟩
            case measure => simp [intOf]; omega
          · obtain rfl : j = 4 := by omega
            have HV7 := Lib.hid (below_drewN' HV6.out n)
            generalize v6.drewN n = v7 at *
            clear HR1 HR2 HRZ HV6 HZA HXB HYB l1 l2 l3
            go_wp2_with fail
            refine (HDC.out v7 HV7.out).mono ?_
            rintro e u1 ⟨k, rfl, hk, hu1⟩
            have HU1 := Lib.hid (below_next HV7.out hu1)
            clear hu1
            go_wp2_with fail
            refine (impl.Unpack4_c k u1 hk).mono ?_
            rintro e u2 ⟨x1, y1, rfl, o1, k1⟩
            go_wp2_with fail
            refine (impl.ClipLanes_c k u2 hk).mono ?_
            rintro e u3 ⟨rfl, k2⟩
            have hclb : 0 ≤ clipLanesF k ∧ clipLanesF k ≤ 9223372036854775807 := packF_bd _
            rcases unpackF_cases k with hz | h4
            · have HO := Lib.hid (o1.below k2 (Nat.le_refl _))
              rw [hz] at HO ⊢
              generalize clipLanesF k = CS at *
              go_wp2_with fail
              refine (impl.Unpack4_c CS u3 (by omega)).mono ?_
              rintro e u4 ⟨x2, y2, rfl, o2, k3⟩
              have HE := Lib.hid (below_next (below_next (below_next HU1.out k1) k2) k3)
              clear o1 o2 k1 k2 k3
              go_wp2
              go_loopw [21] (fun i wr => i = .int .i64 0 ∧ wr = u4) (fun i _ => 0)
              case atStart => exact ⟨rfl, rfl⟩
              case round =>
                obtain ⟨rfl, rfl⟩ := hrel
                go_wp2
                go_ret
                exact ⟨rfl, HE.out⟩
            · have hcv := clip_val h4
              obtain ⟨U, hU⟩ : ∃ U, U = unpackF k := ⟨_, rfl⟩
              have HUB : Hid (∀ i, i < 4 → 0 ≤ U.getD i 0 ∧ U.getD i 0 ≤ 32767) := Lib.hid (fun i hi => by rw [hU]; exact unpackF_at (by omega))
              have HU4 : Hid (U.length = 4) := Lib.hid (by rw [hU]; exact h4)
              obtain ⟨V, hV⟩ : ∃ V, V = tab (fun i => clipF 0 255 (U.getD i 0 - 1024)) 4 := ⟨_, rfl⟩
              rw [← hU, ← hV] at hcv
              have HV4 : Hid (V.length = 4) := Lib.hid (by rw [hV, tab_len])
              have HVA : Hid (∀ i, i < 4 → V.getD i 0 = clipF 0 255 (U.getD i 0 - 1024)) := Lib.hid (fun i hi => by rw [hV, tab_getD _ _ _ hi])
              rw [← hU] at o1 ⊢
              have HCV := Lib.hid hcv
              generalize clipLanesF k = CS at *
              clear hU hV h4 hcv
              go_wp2_with fail
              refine (impl.Unpack4_c CS u3 (by omega)).mono ?_
              rintro e u4 ⟨x2, y2, rfl, o2, k3⟩
              rw [HCV.out] at o2 ⊢
              have HE := Lib.hid (below_next (below_next (below_next HU1.out k1) k2) k3)
              have HR1 := Lib.hid ((o1.row.below k2 (Nat.le_refl _)).below k3 (Nat.le_refl _))
              have HR2 := Lib.hid o2.row
              have hz4 : ((V.length : Int) != 4) = false := by have := HV4.out; simp; omega
              clear o1 o2 k1 k2 k3 HCV
              go_wp2
              go_loopw [21] (fun i wr => ∃ (j n : Nat), j ≤ 4 ∧ i = .int .i64 j ∧ wr = u4.drewN n) (fun i _ => 4 - (intOf i).toNat)
              case atStart => exact ⟨0, 0, by omega, rfl, rfl⟩
              case round =>
                obtain ⟨j, n, hj, rfl, rfl⟩ := hrel
                by_cases hlt : j < 4
                · obtain ⟨ba, oa, rfl, hca⟩ := HR1.out.at_ (i := j) (by rw [HU4.out]; exact hlt)
                  obtain ⟨bb, ob, rfl, hcb⟩ := HR2.out.at_ (i := j) (by rw [HV4.out]; exact hlt)
                  have hva := HVA.out j hlt
                  have hub := HUB.out j hlt
                  obtain ⟨x, hx⟩ : ∃ x, x = U.getD j 0 := ⟨_, rfl⟩
                  obtain ⟨y, hy⟩ : ∃ y, y = V.getD j 0 := ⟨_, rfl⟩
                  rw [← hx] at hca hva hub
                  rw [← hy] at hcb hva
                  obtain ⟨hx0, hx1⟩ := hub
                  have hyb : 0 ≤ y ∧ y ≤ 255 := by rw [hva]; exact clipF_bd 0 255 _ (by omega)
                  obtain ⟨hy0, hy1⟩ := hyb
                  have e1 : max 0 (min 255 (x - 1024)) = y := by rw [hva]; unfold clipF; omega
                  have z1 : (j : Int) < (U.length : Int) := by have := HU4.out; omega
                  have z2 : (j : Int) < (V.length : Int) := by have := HV4.out; omega
                  have ne1 : ∀ b : Int, (b != b) = false := by intro b; simp
                  clear hx hy hva
                  go_wp2
                  go_quiet (fail)
                  go_wp2
                  go_roundw
                  case rel => exact ⟨j + 1, _, by omega, by go_num, by first | rfl | exact World.drewN_drewN _ _ _⟩
                  case measure => simp [intOf]; omega
                · have zd : (U.length : Int) ≤ (j : Int) := by have := HU4.out; omega
                  go_wp2
                  go_ret
                  exact ⟨rfl, below_drewN' HE.out _⟩

theorem own : ownKnob Try.prog.godebug = none := by kernel_rfl
theorem laidOut : laidOutB Try.prog = true := by kernel_rfl
set_option maxRecDepth 100000 in
theorem lifted (os : Os) (started : os.Started) (H : Type) (enc : TypeId × Value → H) :
    ReturnsInHanded {} Try.checked os 6 .any (Rows.fnLanesSpec.pre6 enc Try.prog Try.f6 Rows.fnLanesRow.domain false) (Rows.fnLanesSpec.post enc Try.prog Try.f6 false true false false) := by
  refine returnsInHanded_of_change (C := Try.checked) own started (by kernel_rfl) Try.func6
    (ChangeSpec.witness6 (enc := enc) (C := Try.checked) false ⟨#[], #[.slice none 0 0], []⟩ 8 (by kernel_rfl) (by kernel_rfl) (by kernel_rfl) (by kernel_rfl)) ?_
  intro W base args ds gs before hval0 hW hcnd _
  have hval : ∀ (j : Nat) t v, Try.f6.params[j]? = some t → args[j]? = some v → Value.okWide Try.prog W .any base t v := hval0
  have hW' := hW
  obtain ⟨p, q, hA0, hV, rfl, hfz, hnd⟩ := hW
  have hA : DataW.TrodAll enc Try.prog W 0 (fun _ => true) true Try.f6.params.toList args.toList ds p := hA0
  rw [Try.params6] at hA hval
  obtain ⟨v0, vs0, d0, ds0, p0, q0, hargs, rfl, rfl, h0, tr0⟩ := trodAll_cons hA
  obtain ⟨rfl, rfl, rfl⟩ := trodAll_nil tr0
  obtain rfl : args = #[v0] := by cases args; simp_all
  obtain ⟨rfl, rfl⟩ := trodVars_none hV
  have k0 := h0
  have lt0 : ∀ x ∈ p0, x.block < W.heap.size := by obtain ⟨m, hm⟩ := k0; exact DataW.trod_lt m _ _ _ hm
  obtain ⟨a0, len0, c0, rfl⟩ := okWide_slice Try.underlying22 (hval 0 22 v0 rfl rfl)
  obtain ⟨l0, hl0, r0, w0⟩ : ∃ l : List Int, l.length = len0 ∧ RowB W a0 l ∧ ∀ x ∈ l, 0 ≤ x ∧ x ≤ 255 := by
    obtain ⟨fuel, hf⟩ := k0
    rcases open_ints Try.underlying22 Try.underlying5 (by kernel_rfl) hf with ⟨hcs, _⟩ | ⟨x, l, c, zs, hcs, _, hl, hm, hz, _, hcell, hwz⟩
    · simp [Value.cells] at hcs
      obtain ⟨rfl, rfl, rfl⟩ := hcs
      exact ⟨[], rfl, .inl rfl, by simp⟩
    · simp [Value.cells] at hcs
      obtain ⟨rfl, rfl, rfl⟩ := hcs
      exact RowB.of_cells hl (by simpa using hz) hcell (fun n hn => wf_u8 (hwz n hn))
  subst hl0
  clear hA0 hval0
  refine (walk W a0 c0 l0 r0 w0).mono fun e W' ⟨he, bel⟩ => ?_
  subst he
  exact ⟨_, rfl, _, _, _, [], _, [], hW', trodAll_mk1 (shut_bool Try.underlying4 _), (trodAll_cons_mk (Below.trod laidOut (by kernel_rfl) (of_decide_eq_true (by kernel_rfl)) k0 bel lt0) trodAll_mk0), rfl, bel.frame _, fun h => by cases h⟩

theorem over : Rows.fnLanesRow.holds Try.pinned (OpenSpec.ofChange Rows.fnLanesSpec) :=
  OpenClaim.holds_of_wide 6 Try.f6 rfl rfl rfl rfl rfl rfl rfl ⟨rfl, rfl, rfl, rfl, rfl⟩ rfl rfl rfl rfl rfl (by kernel_rfl) Try.func6 (by kernel_rfl)
    (of_decide_eq_true (by kernel_rfl)) (by unfold Func.isWrapper; first | (rw [if_pos (by decide +kernel)]; kernel_rfl) | (rw [if_neg (by decide +kernel)]; exact ⟨rfl, rfl⟩))
    (fun os started H enc _ => lifted os started H enc)

/-- the statement -/
theorem proved : Rows.FnLanesSaid := over
#print axioms proved
end Go.Proofs.Ytbdggcefgiehkaa.fnLanes
