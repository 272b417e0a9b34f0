/- The walk of impl.NbAt, size 4. -/
import Derived.Test.YtkfjbnhihjnhnaaNbAtD
namespace Go.Proofs.Ytkfjbnhihjnhnaa
open Go.RowKit
set_option linter.unusedVariables false


set_option maxRecDepth 100000 in
set_option maxHeartbeats 8000000 in
theorem impl.NbAt_4 (X Y U V : Nat) (a : Option Addr) (c : Nat) (l : List Int) (w : World) (hX : X ≤ 32) (hY : Y ≤ 32) (hl : l.length = X * Y) (hU : U + 4 ≤ X) (hV : V + 4 ≤ Y) (hr : Row w a l)
    (hS : ∀ w0, Row w0 a l → Calls Try.prog 62 #[frv X Y a l.length c, .int .i64 U, .int .i64 V, .int .i64 4] w0 fun e w' => e = .returned (.bool true) ∧ Below w0.heap.size w0 w') :
    Calls Try.prog 26 #[frv X Y a l.length c, .int .i64 U, .int .i64 V, .int .i64 4] w fun e w' => ∃ xx yy zz vv, e = .returned (nbv xx 8 yy zz 4 vv (corAt X l U V) (decide (0 < V)) (decide (0 < U))) ∧ Own w.heap.size w' xx yy (tab (topAt X l U V 4) 8) ∧ Own w.heap.size w' zz vv (tab (leftAt X l U V) 4) ∧ (∀ p q, xx = some p → zz = some q → p.block ≠ q.block) ∧ Below w.heap.size w w' := by
  have hpos : 0 < l.length := by rw [hl]; exact Nat.mul_pos (by omega) (by omega)
  obtain ⟨b, off, rfl, hbk, hc⟩ := hr.inside hpos
  have hlb : l.length ≤ 1024 := by rw [hl]; exact Nat.mul_le_mul hX hY
  have hrow : ∀ r s, s = r * X → r < Y → s + X ≤ l.length := by
    intro r s hs hlt
    have h1 : (r + 1) * X ≤ Y * X := Nat.mul_le_mul_right X hlt
    rw [Nat.add_mul, Nat.one_mul, Nat.mul_comm Y X, ← hl, ← hs] at h1
    exact h1
  have HRow := Lib.hid hrow
  have HC := Lib.hid hc
  have HSz := Lib.hid hS
  have HR0 := Lib.hid hr
  obtain ⟨T, hT⟩ : ∃ T : Bool, decide ((0 : Int) < (V : Int)) = T := ⟨_, rfl⟩
  obtain ⟨H, hH⟩ : ∃ T : Bool, decide ((0 : Int) < (U : Int)) = T := ⟨_, rfl⟩
  have HT : Hid (T = decide (0 < V)) := Lib.hid (by rw [← hT]; simp)
  have HH : Hid (H = decide (0 < U)) := Lib.hid (by rw [← hH]; simp)
  have hTn : decide (0 < V) = T := HT.out.symm
  have hHn : decide (0 < U) = H := HH.out.symm
  clear hl hr hc hS hrow hpos
  go_enter Try.func26, Try.ntmps26
  go_wp2_with fail
  obtain ⟨W0, hW0⟩ : ∃ W0, W0 = (w.alloc (.cells #[.int .i64 X, .int .i64 Y, .slice (some ⟨b, off, none⟩) l.length c] 26)).alloc (.cells #[.slice none 0 0, .slice none 0 0, .int .i64 0, .bool false, .bool false] 42) := ⟨_, rfl⟩
  rw [← hW0]
  have HZ : Hid (W0.heap.size = w.heap.size + 1 + 1) := Lib.hid (by rw [hW0]; simp)
  have HB0 : Hid (Below w.heap.size w W0) := Lib.hid (by rw [hW0]; exact ((Below.refl w.heap.size w).alloc (Nat.le_refl _) _).alloc (by simp) _)
  have PA : Hid (Box3 W0 w.heap.size (.int .i64 X) (.int .i64 Y) (.slice (some ⟨b, off, none⟩) l.length c)) := Lib.hid (by rw [hW0]; exact (Box3.new w _ _ _ _).below ((Below.refl _ _).alloc (Nat.le_refl _) _) (Nat.le_refl _))
  have RA : Hid (Box5 W0 (w.heap.size + 1) (.slice none 0 0) (.slice none 0 0) (.int .i64 0) (.bool false) (.bool false)) := Lib.hid (by rw [hW0]; exact ⟨by first | (simp; done) | (simp; omega), by simp [World.cell?_alloc_at], by simp [World.cell?_alloc_at], by simp [World.cell?_alloc_at], by simp [World.cell?_alloc_at], by simp [World.cell?_alloc_at]⟩)
  have RF : Hid (∀ i, W0.frozen? ⟨w.heap.size + 1, i, none⟩ = false) := Lib.hid (fun i => by rw [hW0]; simp [go_sem])
  have hz : w.heap.size + 1 + 1 ≤ W0.heap.size := Nat.le_of_eq HZ.out.symm
  clear hW0
  refine (HSz.out W0 (HR0.out.below HB0.out (Nat.le_refl _))).mono ?_
  rintro e w1 ⟨rfl, hb1⟩
  have hBB := PA.out.below hb1 (Nat.le_refl _)
  obtain ⟨hsz1, p0, p1, p2⟩ := hBB
  have HN0 := Lib.hid (fun t C => NbR.new W0 w1 t C T H hb1)
  have hw1 : w.heap.size + 1 + 1 ≤ w1.heap.size := Nat.le_trans hz hb1.size
  have HBW : Hid (Below w.heap.size w w1) := Lib.hid (HB0.out.trans (hb1.mono (by omega)))
  have hk0 : ¬ (w.heap.size = w1.heap.size) := by omega
  have hk1 : ¬ (w1.heap.size = w.heap.size) := by omega
  clear hb1 HSz HR0
  go_wp2_with fail
  obtain ⟨k, hk⟩ : ∃ k, k = w1.heap.size := ⟨_, rfl⟩
  have HN := Lib.hid (HN0.out 42 128)
  rw [← hk] at HN ⊢
  clear hk hk0 hk1 HN0 p0 p1 p2 hsz1 hTn hHn hT hH hw1
  go_loopw [28] (fun i wr => ∃ (j : Nat) (xa : Option Addr) (p : Nat), j ≤ 8 ∧ i = .int .i64 j ∧ NbR W0 k xa p (tab (topAt X l U V 4) j) none 0 [] 128 T H wr) (fun i _ => 8 - (intOf i).toNat)
  case atStart => exact ⟨0, _, _, Nat.zero_le _, rfl, HN.out⟩
  case round =>
    clear HN
    obtain ⟨j, xa, p, hj, rfl, hR⟩ := hrel
    have HR := Lib.hid hR
    have HLE := Lib.hid hR.le
    clear hR
    by_cases hlt : j < 8
    · have hltd : decide ((j : Int) < 8) = true := by simp; omega
      obtain ⟨c0, c1, c2, c3, c4⟩ := HR.out.cells
      rw [tab_len] at c0
      have f0 := HR.out.frz 0
      have hBB := PA.out.below HR.out.bel (Nat.le_refl _)
      obtain ⟨hsz1, p0, p1, p2⟩ := hBB
      by_cases hV0 : V = 0
      · have HV0 := Lib.hid hV0; clear hV0; have v1 : decide ((0 : Int) < (V : Int)) = false := decide_eq_false (by have := HV0.out; omega)
        have v1n : decide (0 < V) = false := decide_eq_false (by have := HV0.out; omega)
        have v2 : ((V : Int) == 0) = true := by have := HV0.out; simp; omega
        have HY : Hid ((topAt X l U V 4) j = 128) := Lib.hid (topAt_z _ _ _ _ _ _ HV0.out)
        go_wp2_with (at_builtin; refine append_one_l Try.underlying24 Try.infoInt rfl (.tmp 71) (.tmp 73) rfl (k + 1) xa p j (tab (topAt X l U V 4) j) (tab_len _ _) rfl (HR.out.top_.alloc _) wr.heap.size (128) rfl ?_ ?_ ?_ ?_; (simp); (omega); (have := HLE.out; simp; omega); intro g1 cc1 w9 ho9 hg9 hat9; obtain ⟨⟨hk9, e0, e1, e2, e3, e4⟩, hF9⟩ := (HR.out.alloc _).mid hg9 (.inl rfl); have f90 := hF9 0; rw [tab_len] at e0; have HT1 : Hid (NbR W0 k (some ⟨g1, 0, none⟩) cc1 (tab (topAt X l U V 4) (j + 1)) none 0 [] 128 T H (w9.setCell ⟨k, 0, none⟩ (.slice (some ⟨g1, 0, none⟩) (j + 1) cc1))) := Lib.hid (by have h := (HR.out.alloc _).top ho9 hg9 hat9; rw [tab_len] at h; rw [tab_succ (topAt X l U V 4) j, HY.out]; exact h); clear ho9 hg9 hat9 hF9)
        go_roundw
        case rel => exact ⟨j + 1, _, _, by omega, by go_num, HT1.out⟩
        case measure => simp [intOf]; omega
      · have v1 : decide ((0 : Int) < (V : Int)) = true := decide_eq_true (by omega)
        have v1n : decide (0 < V) = true := decide_eq_true (by omega)
        have v2 : ((V : Int) == 0) = false := by simp; omega
        have v3 : ¬ ((V : Int) = 0) := by omega
        by_cases hjn : j < 4
        · have n1 : decide ((j : Int) < 4) = true := by simp; omega
          obtain ⟨V1, hV1⟩ : ∃ V1, V = V1 + 1 := ⟨V - 1, by omega⟩
          obtain ⟨s, hs⟩ : ∃ s, s = V1 * X := ⟨_, rfl⟩
          obtain ⟨t, ht⟩ : ∃ t, t = s + U := ⟨_, rfl⟩
          obtain ⟨m, hm⟩ : ∃ m, m = t + j := ⟨_, rfl⟩
          have hsX := HRow.out V1 s hs (by omega)
          have hml : m < l.length := by omega
          have hsI : (V1 : Int) * (X : Int) = (s : Int) := by rw [hs]; exact (Int.natCast_mul V1 X).symm
          have i1 : (V : Int) - 1 = (V1 : Int) := by omega
          have i1w : IntKind.i64.wrap ((V : Int) - 1) = (V1 : Int) := by rw [i1]; exact IntWalk.i64_in _ (by omega)
          have i2w : IntKind.i64.wrap ((V1 : Int) * (X : Int)) = (s : Int) := by rw [hsI]; exact IntWalk.i64_in _ (by omega)
          have i3 : (s : Int) + (U : Int) = (t : Int) := by omega
          have i3w : IntKind.i64.wrap ((s : Int) + (U : Int)) = (t : Int) := by rw [i3]; exact IntWalk.i64_in _ (by omega)
          have i4 : (t : Int) + (j : Int) = (m : Int) := by omega
          have i4w : IntKind.i64.wrap ((t : Int) + (j : Int)) = (m : Int) := by rw [i4]; exact IntWalk.i64_in _ (by omega)
          have z1 : (m : Int) < (l.length : Int) := by omega
          have cj := (bcell (HB0.out.trans (HR.out.bel.mono (by omega))) b (off + m) hbk).trans (HC.out m hml)
          have HY : Hid ((topAt X l U V 4) j = l.getD m 0) := Lib.hid (by rw [topAt_p X l U V 4 j (by omega) (.inl hjn), hm, ht, hs, hV1]; rfl)
          generalize l.getD m 0 = xv at *
          clear hV1 hs ht hm hsX hml
          go_wp2_with (at_builtin; refine append_one_l Try.underlying24 Try.infoInt rfl (.tmp 71) (.tmp 73) rfl (k + 1) xa p j (tab (topAt X l U V 4) j) (tab_len _ _) rfl (HR.out.top_.alloc _) wr.heap.size (xv) rfl ?_ ?_ ?_ ?_; (simp); (omega); (have := HLE.out; simp; omega); intro g1 cc1 w9 ho9 hg9 hat9; obtain ⟨⟨hk9, e0, e1, e2, e3, e4⟩, hF9⟩ := (HR.out.alloc _).mid hg9 (.inl rfl); have f90 := hF9 0; rw [tab_len] at e0; have HT1 : Hid (NbR W0 k (some ⟨g1, 0, none⟩) cc1 (tab (topAt X l U V 4) (j + 1)) none 0 [] 128 T H (w9.setCell ⟨k, 0, none⟩ (.slice (some ⟨g1, 0, none⟩) (j + 1) cc1))) := Lib.hid (by have h := (HR.out.alloc _).top ho9 hg9 hat9; rw [tab_len] at h; rw [tab_succ (topAt X l U V 4) j, HY.out]; exact h); clear ho9 hg9 hat9 hF9)
          go_roundw
          case rel => exact ⟨j + 1, _, _, by omega, by go_num, HT1.out⟩
          case measure => simp [intOf]; omega
        · have n1 : decide ((j : Int) < 4) = false := by simp; omega
          by_cases hm8 : V % 8 = 0
          · have HM8 := Lib.hid hm8
            obtain ⟨r8, hr8⟩ : ∃ r8, r8 = V % 8 := ⟨_, rfl⟩
            have m1 : (V : Int).tmod 8 = (r8 : Int) := by rw [Int.tmod_eq_emod_of_nonneg (by omega)]; omega
            have m2 : (V : Int) % 8 = (r8 : Int) := by omega
            have m3 : ((r8 : Int) == 0) = true := by simp; omega
            clear hm8 hr8
            by_cases hux : U + j < X
            · have u1 : decide ((U : Int) + (j : Int) < (X : Int)) = true := by simp; omega
              have u2 : (U : Int) + (j : Int) < (X : Int) := by omega
      
              obtain ⟨V1, hV1⟩ : ∃ V1, V = V1 + 1 := ⟨V - 1, by omega⟩
              obtain ⟨s, hs⟩ : ∃ s, s = V1 * X := ⟨_, rfl⟩
              obtain ⟨t, ht⟩ : ∃ t, t = s + U := ⟨_, rfl⟩
              obtain ⟨m, hm⟩ : ∃ m, m = t + j := ⟨_, rfl⟩
              have hsX := HRow.out V1 s hs (by omega)
              have hml : m < l.length := by omega
              have hsI : (V1 : Int) * (X : Int) = (s : Int) := by rw [hs]; exact (Int.natCast_mul V1 X).symm
              have i1 : (V : Int) - 1 = (V1 : Int) := by omega
              have i1w : IntKind.i64.wrap ((V : Int) - 1) = (V1 : Int) := by rw [i1]; exact IntWalk.i64_in _ (by omega)
              have i2w : IntKind.i64.wrap ((V1 : Int) * (X : Int)) = (s : Int) := by rw [hsI]; exact IntWalk.i64_in _ (by omega)
              have i3 : (s : Int) + (U : Int) = (t : Int) := by omega
              have i3w : IntKind.i64.wrap ((s : Int) + (U : Int)) = (t : Int) := by rw [i3]; exact IntWalk.i64_in _ (by omega)
              have i4 : (t : Int) + (j : Int) = (m : Int) := by omega
              have i4w : IntKind.i64.wrap ((t : Int) + (j : Int)) = (m : Int) := by rw [i4]; exact IntWalk.i64_in _ (by omega)
              have z1 : (m : Int) < (l.length : Int) := by omega
              have cj := (bcell (HB0.out.trans (HR.out.bel.mono (by omega))) b (off + m) hbk).trans (HC.out m hml)
              have HY : Hid ((topAt X l U V 4) j = l.getD m 0) := Lib.hid (by rw [topAt_p X l U V 4 j (by omega) (.inr ⟨HM8.out, hux⟩), hm, ht, hs, hV1]; rfl)
              generalize l.getD m 0 = xv at *
              clear hV1 hs ht hm hsX hml
              go_wp2_with (at_builtin; refine append_one_l Try.underlying24 Try.infoInt rfl (.tmp 71) (.tmp 73) rfl (k + 1) xa p j (tab (topAt X l U V 4) j) (tab_len _ _) rfl (HR.out.top_.alloc _) wr.heap.size (xv) rfl ?_ ?_ ?_ ?_; (simp); (omega); (have := HLE.out; simp; omega); intro g1 cc1 w9 ho9 hg9 hat9; obtain ⟨⟨hk9, e0, e1, e2, e3, e4⟩, hF9⟩ := (HR.out.alloc _).mid hg9 (.inl rfl); have f90 := hF9 0; rw [tab_len] at e0; have HT1 : Hid (NbR W0 k (some ⟨g1, 0, none⟩) cc1 (tab (topAt X l U V 4) (j + 1)) none 0 [] 128 T H (w9.setCell ⟨k, 0, none⟩ (.slice (some ⟨g1, 0, none⟩) (j + 1) cc1))) := Lib.hid (by have h := (HR.out.alloc _).top ho9 hg9 hat9; rw [tab_len] at h; rw [tab_succ (topAt X l U V 4) j, HY.out]; exact h); clear ho9 hg9 hat9 hF9)
              go_roundw
              case rel => exact ⟨j + 1, _, _, by omega, by go_num, HT1.out⟩
              case measure => simp [intOf]; omega
            · have u1 : decide ((U : Int) + (j : Int) < (X : Int)) = false := by simp; omega
              have HUX := Lib.hid hux
              clear hux
      
              obtain ⟨j1, hj1⟩ : ∃ j1, j = j1 + 1 := ⟨j - 1, by omega⟩
              have i1 : (j : Int) - 1 = (j1 : Int) := by omega
              have i1w : IntKind.i64.wrap ((j : Int) - 1) = (j1 : Int) := by rw [i1]; exact IntWalk.i64_in _ (by omega)
              have z1 : (j1 : Int) < (j : Int) := by omega
              have hat := HR.out.top_.at_ (i := j1) (by rw [tab_len]; omega)
              obtain ⟨ga, rfl, _, _, cj, _⟩ := hat
              rw [tab_getD _ _ _ (by omega)] at cj
              have HY : Hid ((topAt X l U V 4) j = (topAt X l U V 4) j1) := Lib.hid (by rw [hj1]; exact topAt_s X l U V 4 j1 (by omega) (by have := HUX.out; omega))
              generalize (topAt X l U V 4) j1 = xv at *
              clear hj1
              go_wp2_with (at_builtin; refine append_one_l Try.underlying24 Try.infoInt rfl (.tmp 71) (.tmp 73) rfl (k + 1) (some ⟨ga, 0, none⟩) p j (tab (topAt X l U V 4) j) (tab_len _ _) rfl (HR.out.top_.alloc _) wr.heap.size (xv) rfl ?_ ?_ ?_ ?_; (simp); (omega); (have := HLE.out; simp; omega); intro g1 cc1 w9 ho9 hg9 hat9; obtain ⟨⟨hk9, e0, e1, e2, e3, e4⟩, hF9⟩ := (HR.out.alloc _).mid hg9 (.inl rfl); have f90 := hF9 0; rw [tab_len] at e0; have HT1 : Hid (NbR W0 k (some ⟨g1, 0, none⟩) cc1 (tab (topAt X l U V 4) (j + 1)) none 0 [] 128 T H (w9.setCell ⟨k, 0, none⟩ (.slice (some ⟨g1, 0, none⟩) (j + 1) cc1))) := Lib.hid (by have h := (HR.out.alloc _).top ho9 hg9 hat9; rw [tab_len] at h; rw [tab_succ (topAt X l U V 4) j, HY.out]; exact h); clear ho9 hg9 hat9 hF9)
              go_roundw
              case rel => exact ⟨j + 1, _, _, by omega, by go_num, HT1.out⟩
              case measure => simp [intOf]; omega
          · obtain ⟨r8, hr8⟩ : ∃ r8, r8 = V % 8 := ⟨_, rfl⟩
            have m1 : (V : Int).tmod 8 = (r8 : Int) := by rw [Int.tmod_eq_emod_of_nonneg (by omega)]; omega
            have m2 : (V : Int) % 8 = (r8 : Int) := by omega
            have m3 : ((r8 : Int) == 0) = false := by simp; omega
            have HM8 := Lib.hid hm8
            clear hm8 hr8
            obtain ⟨j1, hj1⟩ : ∃ j1, j = j1 + 1 := ⟨j - 1, by omega⟩
            have i1 : (j : Int) - 1 = (j1 : Int) := by omega
            have i1w : IntKind.i64.wrap ((j : Int) - 1) = (j1 : Int) := by rw [i1]; exact IntWalk.i64_in _ (by omega)
            have z1 : (j1 : Int) < (j : Int) := by omega
            have hat := HR.out.top_.at_ (i := j1) (by rw [tab_len]; omega)
            obtain ⟨ga, rfl, _, _, cj, _⟩ := hat
            rw [tab_getD _ _ _ (by omega)] at cj
            have HY : Hid ((topAt X l U V 4) j = (topAt X l U V 4) j1) := Lib.hid (by rw [hj1]; exact topAt_s X l U V 4 j1 (by omega) (by have := HM8.out; omega))
            generalize (topAt X l U V 4) j1 = xv at *
            clear hj1
            go_wp2_with (at_builtin; refine append_one_l Try.underlying24 Try.infoInt rfl (.tmp 71) (.tmp 73) rfl (k + 1) (some ⟨ga, 0, none⟩) p j (tab (topAt X l U V 4) j) (tab_len _ _) rfl (HR.out.top_.alloc _) wr.heap.size (xv) rfl ?_ ?_ ?_ ?_; (simp); (omega); (have := HLE.out; simp; omega); intro g1 cc1 w9 ho9 hg9 hat9; obtain ⟨⟨hk9, e0, e1, e2, e3, e4⟩, hF9⟩ := (HR.out.alloc _).mid hg9 (.inl rfl); have f90 := hF9 0; rw [tab_len] at e0; have HT1 : Hid (NbR W0 k (some ⟨g1, 0, none⟩) cc1 (tab (topAt X l U V 4) (j + 1)) none 0 [] 128 T H (w9.setCell ⟨k, 0, none⟩ (.slice (some ⟨g1, 0, none⟩) (j + 1) cc1))) := Lib.hid (by have h := (HR.out.alloc _).top ho9 hg9 hat9; rw [tab_len] at h; rw [tab_succ (topAt X l U V 4) j, HY.out]; exact h); clear ho9 hg9 hat9 hF9)
            go_roundw
            case rel => exact ⟨j + 1, _, _, by omega, by go_num, HT1.out⟩
            case measure => simp [intOf]; omega
    · have hjM : j = 8 := by omega
      have hjZ : (j : Int) = 8 := by omega
      rw [hjM] at HR
      rw [hjZ]
      clear hj hlt hjM hjZ HLE
      have HN : Hid (NbR W0 k xa p (tab (topAt X l U V 4) 8) none 0 (tab (leftAt X l U V) 0) 128 T H wr) := HR
      clear HR
      go_wp2
      go_loopw [78] (fun i wr => ∃ (j : Nat) (ya : Option Addr) (q : Nat), j ≤ 4 ∧ i = .int .i64 j ∧ NbR W0 k xa p (tab (topAt X l U V 4) 8) ya q (tab (leftAt X l U V) j) 128 T H wr) (fun i _ => 4 - (intOf i).toNat)
      case atStart => exact ⟨0, _, _, Nat.zero_le _, rfl, HN.out⟩
      case round =>
        clear HN
        obtain ⟨j, ya, q, hj, rfl, hR⟩ := hrel
        have HR := Lib.hid hR
        have HLE := Lib.hid hR.le
        clear hR
        by_cases hlt : j < 4
        · have hltd : decide ((j : Int) < 4) = true := by simp; omega
          obtain ⟨c0, c1, c2, c3, c4⟩ := HR.out.cells
          rw [tab_len] at c1
          have f1 := HR.out.frz 1
          have hBB := PA.out.below HR.out.bel (Nat.le_refl _)
          obtain ⟨hsz1, p0, p1, p2⟩ := hBB
          by_cases hU0 : U = 0
          · have HU0 := Lib.hid hU0; clear hU0; have u1 : decide ((0 : Int) < (U : Int)) = false := decide_eq_false (by have := HU0.out; omega)
            have u1n : decide (0 < U) = false := decide_eq_false (by have := HU0.out; omega)
            have HY : Hid ((leftAt X l U V) j = 128) := Lib.hid (by simp [leftAt, HU0.out])
            go_wp2_with (at_builtin; refine append_one_l Try.underlying24 Try.infoInt rfl (.tmp 97) (.tmp 99) rfl (k + 1) ya q j (tab (leftAt X l U V) j) (tab_len _ _) rfl (HR.out.left_.alloc _) wr.heap.size (128) rfl ?_ ?_ ?_ ?_; (simp); (omega); (have := HLE.out; simp; omega); intro g1 cc1 w9 ho9 hg9 hat9; obtain ⟨⟨hk9, e0, e1, e2, e3, e4⟩, hF9⟩ := (HR.out.alloc _).mid hg9 (.inr rfl); have f91 := hF9 1; rw [tab_len] at e1; have HT1 : Hid (NbR W0 k xa p (tab (topAt X l U V 4) 8) (some ⟨g1, 0, none⟩) cc1 (tab (leftAt X l U V) (j + 1)) 128 T H (w9.setCell ⟨k, 1, none⟩ (.slice (some ⟨g1, 0, none⟩) (j + 1) cc1))) := Lib.hid (by have h := (HR.out.alloc _).left ho9 hg9 hat9; rw [tab_len] at h; rw [tab_succ (leftAt X l U V) j, HY.out]; exact h); clear ho9 hg9 hat9 hF9)
            go_roundw
            case rel => exact ⟨j + 1, _, _, by omega, by go_num, HT1.out⟩
            case measure => simp [intOf]; omega
          · have u1 : decide ((0 : Int) < (U : Int)) = true := decide_eq_true (by omega)
            have u1n : decide (0 < U) = true := decide_eq_true (by omega)
            have u2 : (0 : Int) < (U : Int) := by omega
            have u3 : 0 < U := by omega
            obtain ⟨r, hr⟩ : ∃ r, r = V + j := ⟨_, rfl⟩
            obtain ⟨s, hs⟩ : ∃ s, s = r * X := ⟨_, rfl⟩
            obtain ⟨t, ht⟩ : ∃ t, t = s + U := ⟨_, rfl⟩
            obtain ⟨m, hm⟩ : ∃ m, m = t - 1 := ⟨_, rfl⟩
            have hsX := HRow.out r s hs (by omega)
            have hml : m < l.length := by omega
            have hsI : (r : Int) * (X : Int) = (s : Int) := by rw [hs]; exact (Int.natCast_mul r X).symm
            have i1 : (V : Int) + (j : Int) = (r : Int) := by omega
            have i1w : IntKind.i64.wrap ((V : Int) + (j : Int)) = (r : Int) := by rw [i1]; exact IntWalk.i64_in _ (by omega)
            have i2w : IntKind.i64.wrap ((r : Int) * (X : Int)) = (s : Int) := by rw [hsI]; exact IntWalk.i64_in _ (by omega)
            have i3 : (s : Int) + (U : Int) = (t : Int) := by omega
            have i3w : IntKind.i64.wrap ((s : Int) + (U : Int)) = (t : Int) := by rw [i3]; exact IntWalk.i64_in _ (by omega)
            have i4 : (t : Int) - 1 = (m : Int) := by omega
            have i4w : IntKind.i64.wrap ((t : Int) - 1) = (m : Int) := by rw [i4]; exact IntWalk.i64_in _ (by omega)
            have z1 : (m : Int) < (l.length : Int) := by omega
            have cj := (bcell (HB0.out.trans (HR.out.bel.mono (by omega))) b (off + m) hbk).trans (HC.out m hml)
            have HY : Hid ((leftAt X l U V) j = l.getD m 0) := Lib.hid (by rw [leftAt, if_neg hU0, hm, ht, hs, hr])
            generalize l.getD m 0 = xv at *
            clear hr hs ht hm hsX hml
            go_wp2_with (at_builtin; refine append_one_l Try.underlying24 Try.infoInt rfl (.tmp 97) (.tmp 99) rfl (k + 1) ya q j (tab (leftAt X l U V) j) (tab_len _ _) rfl (HR.out.left_.alloc _) wr.heap.size (xv) rfl ?_ ?_ ?_ ?_; (simp); (omega); (have := HLE.out; simp; omega); intro g1 cc1 w9 ho9 hg9 hat9; obtain ⟨⟨hk9, e0, e1, e2, e3, e4⟩, hF9⟩ := (HR.out.alloc _).mid hg9 (.inr rfl); have f91 := hF9 1; rw [tab_len] at e1; have HT1 : Hid (NbR W0 k xa p (tab (topAt X l U V 4) 8) (some ⟨g1, 0, none⟩) cc1 (tab (leftAt X l U V) (j + 1)) 128 T H (w9.setCell ⟨k, 1, none⟩ (.slice (some ⟨g1, 0, none⟩) (j + 1) cc1))) := Lib.hid (by have h := (HR.out.alloc _).left ho9 hg9 hat9; rw [tab_len] at h; rw [tab_succ (leftAt X l U V) j, HY.out]; exact h); clear ho9 hg9 hat9 hF9)
            go_roundw
            case rel => exact ⟨j + 1, _, _, by omega, by go_num, HT1.out⟩
            case measure => simp [intOf]; omega
        · have hjM : j = 4 := by omega
          have hjZ : (j : Int) = 4 := by omega
          rw [hjM] at HR
          rw [hjZ]
          clear hj hlt hjM hjZ HLE
          obtain ⟨c0, c1, c2, c3, c4⟩ := HR.out.cells
          rw [tab_len] at c0 c1
          have f2 := HR.out.frz 2
          have hBB := PA.out.below HR.out.bel (Nat.le_refl _)
          obtain ⟨hsz1, p0, p1, p2⟩ := hBB
          by_cases hU0 : U = 0
          · have u1 : decide ((0 : Int) < (U : Int)) = false := decide_eq_false (by omega)
            have u1n : decide (0 < U) = false := decide_eq_false (by omega)
            have HCO : Hid (corAt X l U V = 128) := Lib.hid (by simp [corAt, hU0])
            clear hU0
            have hRB := RA.out.below HR.out.bel (Nat.le_refl _)
            have hq := fun i => ((HR.out.bel).frozen (p := ⟨w.heap.size + 1, i, none⟩) (by show w.heap.size + 1 < _; omega)).trans (RF.out i)
            have q0 := hq 0
            have q1 := hq 1
            have q2 := hq 2
            have q3 := hq 3
            have q4 := hq 4
            have hkk : ¬ (k = w.heap.size + 1) := by have := HR.out.lt; have := HR.out.2.2.2.2.2.2; omega
            have hkk' : ¬ (w.heap.size + 1 = k) := fun e => hkk e.symm
            clear hq
            obtain ⟨_, r0, r1, r2, r3, r4⟩ := RA.out.below HR.out.bel (Nat.le_refl _)
            go_wp2
            obtain ⟨_, t0, t1, t2, t3, t4⟩ := ((((hRB.s0 (.slice xa 8 p)).s1 (.slice ya 4 q)).s2 (.int .i64 (128))).s3 (.bool T)).s4 (.bool H)
            refine bodyPost_ret (v := nbv xa 8 p ya 4 q (128) T H) (by simp [results, Try.results26, go_sem, t0, t1, t2, t3, t4]) rfl ⟨xa, p, ya, q, by rw [HCO.out, ← HT.out, ← HH.out], ?_⟩
            exact HR.out.fin HB0.out (w.heap.size + 1) (Nat.le_succ _) (by omega) _ _ _ _ _
          · have u1 : decide ((0 : Int) < (U : Int)) = true := decide_eq_true (by omega)
            have u1n : decide (0 < U) = true := decide_eq_true (by omega)
            by_cases hV0 : V = 0
            · have v1 : decide ((0 : Int) < (V : Int)) = false := decide_eq_false (by omega)
              have v1n : decide (0 < V) = false := decide_eq_false (by omega)
              have HCO : Hid (corAt X l U V = 128) := Lib.hid (by simp [corAt, hV0])
              clear hV0
              have hRB := RA.out.below HR.out.bel (Nat.le_refl _)
              have hq := fun i => ((HR.out.bel).frozen (p := ⟨w.heap.size + 1, i, none⟩) (by show w.heap.size + 1 < _; omega)).trans (RF.out i)
              have q0 := hq 0
              have q1 := hq 1
              have q2 := hq 2
              have q3 := hq 3
              have q4 := hq 4
              have hkk : ¬ (k = w.heap.size + 1) := by have := HR.out.lt; have := HR.out.2.2.2.2.2.2; omega
              have hkk' : ¬ (w.heap.size + 1 = k) := fun e => hkk e.symm
              clear hq
              obtain ⟨_, r0, r1, r2, r3, r4⟩ := RA.out.below HR.out.bel (Nat.le_refl _)
              go_wp2
              obtain ⟨_, t0, t1, t2, t3, t4⟩ := ((((hRB.s0 (.slice xa 8 p)).s1 (.slice ya 4 q)).s2 (.int .i64 (128))).s3 (.bool T)).s4 (.bool H)
              refine bodyPost_ret (v := nbv xa 8 p ya 4 q (128) T H) (by simp [results, Try.results26, go_sem, t0, t1, t2, t3, t4]) rfl ⟨xa, p, ya, q, by rw [HCO.out, ← HT.out, ← HH.out], ?_⟩
              exact HR.out.fin HB0.out (w.heap.size + 1) (Nat.le_succ _) (by omega) _ _ _ _ _
            · have v1 : decide ((0 : Int) < (V : Int)) = true := decide_eq_true (by omega)
              have v1n : decide (0 < V) = true := decide_eq_true (by omega)
              obtain ⟨V1, hV1⟩ : ∃ V1, V = V1 + 1 := ⟨V - 1, by omega⟩
              obtain ⟨s, hs⟩ : ∃ s, s = V1 * X := ⟨_, rfl⟩
              obtain ⟨t, ht⟩ : ∃ t, t = s + U := ⟨_, rfl⟩
              obtain ⟨m, hm⟩ : ∃ m, m = t - 1 := ⟨_, rfl⟩
              have hsX := HRow.out V1 s hs (by omega)
              have hml : m < l.length := by omega
              have hsI : (V1 : Int) * (X : Int) = (s : Int) := by rw [hs]; exact (Int.natCast_mul V1 X).symm
              have i1 : (V : Int) - 1 = (V1 : Int) := by omega
              have i1w : IntKind.i64.wrap ((V : Int) - 1) = (V1 : Int) := by rw [i1]; exact IntWalk.i64_in _ (by omega)
              have i2w : IntKind.i64.wrap ((V1 : Int) * (X : Int)) = (s : Int) := by rw [hsI]; exact IntWalk.i64_in _ (by omega)
              have i3 : (s : Int) + (U : Int) = (t : Int) := by omega
              have i3w : IntKind.i64.wrap ((s : Int) + (U : Int)) = (t : Int) := by rw [i3]; exact IntWalk.i64_in _ (by omega)
              have i4 : (t : Int) - 1 = (m : Int) := by omega
              have i4w : IntKind.i64.wrap ((t : Int) - 1) = (m : Int) := by rw [i4]; exact IntWalk.i64_in _ (by omega)
              have z1 : (m : Int) < (l.length : Int) := by omega
              have cj := (bcell (HB0.out.trans (HR.out.bel.mono (by omega))) b (off + m) hbk).trans (HC.out m hml)
              have HCO : Hid (corAt X l U V = l.getD m 0) := Lib.hid (by rw [corAt, if_pos ⟨by omega, by omega⟩, hm, ht, hs, hV1]; rfl)
              generalize l.getD m 0 = x at *
              clear hV1 hs ht hm hsX hml
              have HRC := Lib.hid (HR.out.cor x)
              have hRB := RA.out.below HRC.out.bel (Nat.le_refl _)
              have hq := fun i => ((HR.out.bel).frozen (p := ⟨w.heap.size + 1, i, none⟩) (by show w.heap.size + 1 < _; omega)).trans (RF.out i)
              have q0 := hq 0
              have q1 := hq 1
              have q2 := hq 2
              have q3 := hq 3
              have q4 := hq 4
              have hkk : ¬ (k = w.heap.size + 1) := by have := HR.out.lt; have := HR.out.2.2.2.2.2.2; omega
              have hkk' : ¬ (w.heap.size + 1 = k) := fun e => hkk e.symm
              clear hq
              obtain ⟨_, r0, r1, r2, r3, r4⟩ := RA.out.below HR.out.bel (Nat.le_refl _)
              go_wp2
              obtain ⟨_, t0, t1, t2, t3, t4⟩ := ((((hRB.s0 (.slice xa 8 p)).s1 (.slice ya 4 q)).s2 (.int .i64 (x))).s3 (.bool T)).s4 (.bool H)
              refine bodyPost_ret (v := nbv xa 8 p ya 4 q (x) T H) (by simp [results, Try.results26, go_sem, t0, t1, t2, t3, t4]) rfl ⟨xa, p, ya, q, by rw [HCO.out, ← HT.out, ← HH.out], ?_⟩
              exact HRC.out.fin HB0.out (w.heap.size + 1) (Nat.le_succ _) (by omega) _ _ _ _ _

end Go.Proofs.Ytkfjbnhihjnhnaa
