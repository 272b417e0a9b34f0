/- Contracts: the reference's filter of one row of blocks. -/
import Derived.Test.YtlekgoeibndlcaaDebS
namespace Go.Proofs.Ytlekgoeibndlcaa
open Go.RowKit
set_option linter.unusedVariables false


set_option maxHeartbeats 1000000 in
theorem l21Ok_c (x y : Int) (a : Option Addr) (c : Nat) (l : List Int) (q r : Int) (w : World) (hx : -9223372036854775808 ≤ x ∧ x ≤ 9223372036854775807) (hy : -9223372036854775808 ≤ y ∧ y ≤ 9223372036854775807) (hl : l.length ≤ 1099511627776) (hr : Row w a l) (hw : ∀ x ∈ l, -9223372036854775808 ≤ x ∧ x ≤ 9223372036854775807) :
    Calls Try.prog 51 #[frv x y a l.length c, .int .i64 q, .int .i64 r] w fun e w' => e = .returned (.bool (vrB x y l q r)) ∧ Below w.heap.size w w' := by
  have hcall := fun t => spec.FrameOk_c x y a c l (w.alloc (.cells #[.int .i64 x, .int .i64 y, .slice a l.length c] t)) hx hy hl (hr.alloc _) hw
  cases h : frameB x y l
  · simp only [h] at hcall
    have HC := Lib.hid hcall
    have HF : Hid (vrB x y l q r = false) := Lib.hid (by simp [vrB, filtB, h])
    clear hcall h hx hy hl hr hw
    go_enter Try.func51, Try.ntmps51
    go_wp2_with fail
    refine (HC.out _).mono ?_
    rintro e w1 ⟨rfl, hb⟩
    go_wp2
    go_ret
    exact ⟨ret_bool HF.out.symm, ((Below.refl w.heap.size w).alloc (Nat.le_refl _) _).trans (hb.mono (by simp))⟩
  · simp only [h] at hcall
    have HC := Lib.hid hcall
    cases h2 : inR 0 51 q
    · have ha : decide (0 < alphaF q) = false := by rw [alpha_in]; exact h2
      have HF : Hid (vrB x y l q r = false) := Lib.hid (by simp [vrB, filtB, h2])
      clear hcall h hx hy hl hr hw h2
      go_enter Try.func51, Try.ntmps51
      go_wp2_with fail
      refine (HC.out _).mono ?_
      rintro e w1 ⟨rfl, hb⟩
      go_wp2_with (go_at_call 58; refine (spec.AlphaOf_c _ _).mono ?_; rintro e w' ⟨rfl, rfl⟩)
      go_ret
      exact ⟨ret_bool HF.out.symm, ((Below.refl w.heap.size w).alloc (Nat.le_refl _) _).trans (hb.mono (by simp))⟩
    · have ha : decide (0 < alphaF q) = true := by rw [alpha_in]; exact h2
      obtain ⟨hs, _, _⟩ := frameB_true h
      obtain ⟨s1, s2, s3, s4, s5, s6⟩ := sidesB_true hs
      obtain ⟨Z, hZ⟩ : ∃ Z : Int, Z = y / 8 - 1 := ⟨_, rfl⟩
      have HF : Hid (vrB x y l q r = inR 0 Z r) := Lib.hid (by simp [vrB, filtB, h, h2, hZ])
      have hdv : y / 8 - 1 = Z := hZ.symm
      have hzb : 0 ≤ Z ∧ Z ≤ 4 := by omega
      clear hcall h hl hr hw h2 hZ hs hx hy
      go_enter Try.func51, Try.ntmps51
      go_wp2_with fail
      refine (HC.out _).mono ?_
      rintro e w1 ⟨rfl, hb⟩
      have b1 := (bcell hb w.heap.size 1 (by simp)).trans (show (w.alloc (.cells #[.int .i64 x, .int .i64 y, .slice a l.length c] 27)).cell? ⟨w.heap.size, 1, none⟩ = some (.int .i64 y) by simp)
      have HB : Hid (Below w.heap.size w w1) := Lib.hid (((Below.refl w.heap.size w).alloc (Nat.le_refl _) _).trans (hb.mono (by simp)))
      clear hb
      go_wp2_with (first
        | (go_at_call 58; refine (spec.AlphaOf_c _ _).mono ?_; rintro e w' ⟨rfl, rfl⟩)
        | (go_at_call 59; refine (l1In_c _ _ _ _).mono ?_; rintro e w' ⟨rfl, rfl⟩))
      go_ret
      exact ⟨ret_bool HF.out.symm, HB.out⟩


set_option maxHeartbeats 4000000 in
theorem spec.VertRow_no (x y : Int) (a : Option Addr) (c : Nat) (l : List Int) (q r : Int) (w : World) (hx : -9223372036854775808 ≤ x ∧ x ≤ 9223372036854775807) (hy : -9223372036854775808 ≤ y ∧ y ≤ 9223372036854775807) (hl : l.length ≤ 1099511627776) (hr : Row w a l) (hw : ∀ x ∈ l, -9223372036854775808 ≤ x ∧ x ≤ 9223372036854775807) (hsh : Shape a c l) (h : vrB x y l q r = false) :
    Calls Try.prog 35 #[frv x y a l.length c, .int .i64 q, .int .i64 r] w fun e w' => ∃ b d, e = .returned (frv x y b l.length d) ∧ Own w.heap.size w' b d (l) ∧ Below w.heap.size w w' := by
  have hfi := fun w0 (h : Row w0 a l) => l21Ok_c x y a c l q r w0 hx hy hl h hw
  simp only [h] at hfi
  have HFI := Lib.hid hfi
  have HRR : Hid (∀ w0, Below w.heap.size w w0 → Row w0 a l) := Lib.hid (fun w0 h => hr.below h (Nat.le_refl _))
  clear hfi hx hy hw h
  have hown := fun w0 (h : Row w0 a l) => l18Copy_c x y a c l w0 hl h hsh
  have HO := Lib.hid hown
  have HRW := Lib.hid hr
  clear hown
  go_enter Try.func35, Try.ntmps35
  go_wp2_with fail
  obtain ⟨W0, hW0⟩ : ∃ WW, WW = (w.alloc (.cells #[.int .i64 x, .int .i64 y, .slice a l.length c] 27)).alloc (.cells #[.int .i64 0, .int .i64 0, .slice none 0 0] 27) := ⟨_, rfl⟩
  rw [← hW0]
  have c0 : W0.cell? ⟨w.heap.size, 0, none⟩ = some (.int .i64 x) := by rw [hW0]; simp
  have c1 : W0.cell? ⟨w.heap.size, 1, none⟩ = some (.int .i64 y) := by rw [hW0]; simp
  have c2' : W0.cell? ⟨w.heap.size, 2, none⟩ = some (.slice a l.length c) := by rw [hW0]; simp
  have PA : Hid (Box3 W0 w.heap.size (.int .i64 x) (.int .i64 y) (.slice a l.length c)) := Lib.hid (by rw [hW0]; exact (Box3.new w _ _ _ _).below ((Below.refl _ _).alloc (Nat.le_refl _) _) (Nat.le_refl _))
  have RA : Hid (Box3 W0 (w.heap.size + 1) (.int .i64 0) (.int .i64 0) (.slice none 0 0)) := Lib.hid (by rw [hW0]; exact ⟨by simp, by simp, by simp, by simp⟩)
  have RF : Hid (∀ i, W0.frozen? ⟨w.heap.size + 1, i, none⟩ = false) := Lib.hid (fun i => by rw [hW0]; simp [go_sem])
  have HB0 : Hid (Below w.heap.size w W0) := Lib.hid (by rw [hW0]; exact ((Below.refl w.heap.size w).alloc (Nat.le_refl _) _).alloc (by simp) _)
  have HZ : Hid (W0.heap.size = w.heap.size + 1 + 1) := Lib.hid (by rw [hW0]; simp)
  have HRd := Lib.hid ((HRW.out.below HB0.out (Nat.le_refl _)).drew)
  clear hW0
  refine (HO.out W0 (HRW.out.below HB0.out (Nat.le_refl _))).mono ?_
  rintro e w1 ⟨b, d, rfl, ho, hb⟩
  have hcut := own_cut1 (n := 0) 27 HB0.out HZ.out PA.out RA.out RF.out ho hb
  clear ho hb c0 c1 c2'
  have HCUT := Lib.hid hcut
  clear hcut
  go_upto_region 2 with fail
  obtain ⟨wc, hwc⟩ : ∃ WW, WW = w1.alloc (.cells #[.int .i64 x, .int .i64 y, .slice b l.length d] 27) := ⟨_, rfl⟩
  rw [← hwc]
  obtain ⟨o, ho⟩ : ∃ o, o = w1.heap.size := ⟨_, rfl⟩
  rw [← ho]
  have hF : OwnFacts w x y a c l o b d l wc := by
    have h := HCUT.out
    rw [← hwc, ← ho] at h
    obtain ⟨o2, b2, d2, _, h2, h3⟩ := h
    injection h2 with h2
    injection h2 with h2
    injection h2 with h2
    subst h2
    have hbb := h3.1.2.2.2
    have hb0 : wc.cell? ⟨o, 2, none⟩ = some (.slice b l.length d) := by rw [hwc, ho]; simp
    rw [hb0] at hbb
    injection hbb with hbb
    injection hbb with e1 e2 e3
    subst e1 e3
    exact h3
  clear hwc ho HCUT HZ RA RF HB0 PA HRd
  have hFH := Lib.hid hF
  obtain ⟨B1, _, _, B4, _, _, _, _⟩ := hF
  obtain ⟨_, b40, b41, b42⟩ := B4
  obtain ⟨_, b10, b11, b12⟩ := B1
  clear HRW HO
  go_wp2_with fail
  refine (HFI.out _ (HRR.out _ hFH.out.2.2.1)).mono ?_
  rintro e wf ⟨rfl, hb⟩
  have hG := hFH.out.below hb
  clear hb hFH b40 b41 b42 b10 b11 b12
  have HG := Lib.hid hG
  obtain ⟨B1, _, _, B4, B5, FZ, _, _⟩ := hG
  obtain ⟨_, b40, b41, b42⟩ := B4
  obtain ⟨_, b10, b11, b12⟩ := B1
  obtain ⟨_, b50, b51, b52⟩ := B5
  have f0 := FZ 0
  have f1 := FZ 1
  have f2 := FZ 2
  clear FZ
  go_wp2
  have hD := HG.out.done
  refine bodyPost_ret (v := frv x y b l.length d) (by simp [results, Try.results35, go_sem, hD.1]) rfl ⟨_, d, rfl, hD.2.1, hD.2.2⟩
set_option maxHeartbeats 4000000 in
theorem spec.VertRow_on (x y : Int) (a : Option Addr) (c : Nat) (l : List Int) (q r : Int) (w : World) (hx : -9223372036854775808 ≤ x ∧ x ≤ 9223372036854775807) (hy : -9223372036854775808 ≤ y ∧ y ≤ 9223372036854775807) (hl : l.length ≤ 1099511627776) (hr : Row w a l) (hw : ∀ x ∈ l, -9223372036854775808 ≤ x ∧ x ≤ 9223372036854775807) (hsh : Shape a c l) (X Y R : Nat) (ex : x = X) (ey : y = Y) (er : r = R) (hX : 8 ≤ X ∧ X ≤ 32 ∧ X % 8 = 0) (hY : 8 ≤ Y ∧ Y ≤ 32 ∧ Y % 8 = 0) (hlen : l.length = X * Y) (h : vrB x y l q r = true) (hR8 : 8 * R + 8 ≤ Y) :
    Calls Try.prog 35 #[frv x y a l.length c, .int .i64 q, .int .i64 r] w fun e w' => ∃ b d, e = .returned (frv x y b l.length d) ∧ Own w.heap.size w' b d (vA X q (8 * R) l 8) ∧ Below w.heap.size w w' := by
  have hfi := fun w0 (h : Row w0 a l) => l21Ok_c x y a c l q r w0 hx hy hl h hw
  simp only [h] at hfi
  have HFI := Lib.hid hfi
  have HRR : Hid (∀ w0, Below w.heap.size w w0 → Row w0 a l) := Lib.hid (fun w0 h => hr.below h (Nat.le_refl _))
  subst ex ey er
  have HLP : Hid (0 < l.length) := Lib.hid (by rw [hlen]; exact Nat.mul_pos (by omega) (by omega))
  have hX1 := hX.2.1
  have hY1 := hY.2.1
  have hY0 := hY.1
  obtain ⟨R8, hR8e⟩ : ∃ t, t = 8 * R := ⟨_, rfl⟩
  have er1 : 8 * (R : Int) = (R8 : Int) := by omega
  obtain ⟨R9, hR9e⟩ : ∃ t, t = R8 + 8 := ⟨_, rfl⟩
  have er2 : (R8 : Int) + 8 = (R9 : Int) := by omega
  have hvert := fun (g d : Nat) w0 (ho : Own (w.heap.size + 2) w0 (some ⟨g, 0, none⟩) d l) => spec.l20Across_same X Y R8 R9 q g d (w.heap.size + 2) l w0 hX hY.2.1 hlen (by omega) (by omega) ho
  have HV := Lib.hid hvert
  have HE : Hid (vA X q R8 l (R9 - R8) = vA X q (8 * R) l 8) := Lib.hid (by rw [hR8e, show R9 - 8 * R = 8 from by omega])
  clear hvert hfi hx hy hw h hlen hX hY hR8e hR9e
  have hown := fun w0 (h : Row w0 a l) => l18Copy_c X Y a c l w0 hl h hsh
  have HO := Lib.hid hown
  have HRW := Lib.hid hr
  clear hown
  go_enter Try.func35, Try.ntmps35
  go_wp2_with fail
  obtain ⟨W0, hW0⟩ : ∃ WW, WW = (w.alloc (.cells #[.int .i64 X, .int .i64 Y, .slice a l.length c] 27)).alloc (.cells #[.int .i64 0, .int .i64 0, .slice none 0 0] 27) := ⟨_, rfl⟩
  rw [← hW0]
  have c0 : W0.cell? ⟨w.heap.size, 0, none⟩ = some (.int .i64 X) := by rw [hW0]; simp
  have c1 : W0.cell? ⟨w.heap.size, 1, none⟩ = some (.int .i64 Y) := by rw [hW0]; simp
  have c2' : W0.cell? ⟨w.heap.size, 2, none⟩ = some (.slice a l.length c) := by rw [hW0]; simp
  have PA : Hid (Box3 W0 w.heap.size (.int .i64 X) (.int .i64 Y) (.slice a l.length c)) := Lib.hid (by rw [hW0]; exact (Box3.new w _ _ _ _).below ((Below.refl _ _).alloc (Nat.le_refl _) _) (Nat.le_refl _))
  have RA : Hid (Box3 W0 (w.heap.size + 1) (.int .i64 0) (.int .i64 0) (.slice none 0 0)) := Lib.hid (by rw [hW0]; exact ⟨by simp, by simp, by simp, by simp⟩)
  have RF : Hid (∀ i, W0.frozen? ⟨w.heap.size + 1, i, none⟩ = false) := Lib.hid (fun i => by rw [hW0]; simp [go_sem])
  have HB0 : Hid (Below w.heap.size w W0) := Lib.hid (by rw [hW0]; exact ((Below.refl w.heap.size w).alloc (Nat.le_refl _) _).alloc (by simp) _)
  have HZ : Hid (W0.heap.size = w.heap.size + 1 + 1) := Lib.hid (by rw [hW0]; simp)
  have HRd := Lib.hid ((HRW.out.below HB0.out (Nat.le_refl _)).drew)
  clear hW0
  refine (HO.out W0 (HRW.out.below HB0.out (Nat.le_refl _))).mono ?_
  rintro e w1 ⟨b, d, rfl, ho, hb⟩
  have hcut := own_cut1 (n := 0) 27 HB0.out HZ.out PA.out RA.out RF.out ho hb
  clear ho hb c0 c1 c2'
  have HCUT := Lib.hid hcut
  clear hcut
  go_upto_region 2 with fail
  obtain ⟨wc, hwc⟩ : ∃ WW, WW = w1.alloc (.cells #[.int .i64 X, .int .i64 Y, .slice b l.length d] 27) := ⟨_, rfl⟩
  rw [← hwc]
  obtain ⟨o, ho⟩ : ∃ o, o = w1.heap.size := ⟨_, rfl⟩
  rw [← ho]
  have hF : OwnFacts w X Y a c l o b d l wc := by
    have h := HCUT.out
    rw [← hwc, ← ho] at h
    obtain ⟨o2, b2, d2, _, h2, h3⟩ := h
    injection h2 with h2
    injection h2 with h2
    injection h2 with h2
    subst h2
    have hbb := h3.1.2.2.2
    have hb0 : wc.cell? ⟨o, 2, none⟩ = some (.slice b l.length d) := by rw [hwc, ho]; simp
    rw [hb0] at hbb
    injection hbb with hbb
    injection hbb with e1 e2 e3
    subst e1 e3
    exact h3
  clear hwc ho HCUT HZ RA RF HB0 PA HRd
  have hFH := Lib.hid hF
  obtain ⟨B1, _, _, B4, _, _, _, _⟩ := hF
  obtain ⟨_, b40, b41, b42⟩ := B4
  obtain ⟨_, b10, b11, b12⟩ := B1
  clear HRW HO
  go_wp2_with fail
  refine (HFI.out _ (HRR.out _ hFH.out.2.2.1)).mono ?_
  rintro e wf ⟨rfl, hb⟩
  have hG := hFH.out.below hb
  clear hb hFH b40 b41 b42 b10 b11 b12
  obtain ⟨g, rfl, _⟩ := hG.2.1.at_ (i := 0) HLP.out
  have HVc := Lib.hid (HV.out g d wf hG.2.1)
  rw [HE.out] at HVc
  have HG := Lib.hid hG
  obtain ⟨B1, _, _, B4, B5, FZ, _, _⟩ := hG
  obtain ⟨_, b40, b41, b42⟩ := B4
  obtain ⟨_, b10, b11, b12⟩ := B1
  obtain ⟨_, b50, b51, b52⟩ := B5
  have f0 := FZ 0
  have f1 := FZ 1
  have f2 := FZ 2
  clear FZ
  go_wp2_with (go_at_call 56; refine HVc.out.mono ?_; rintro e w2 ⟨rfl, ho2, hg2⟩; have hG2 := HG.out.grown hg2 ho2; have HG2 := Lib.hid hG2; clear ho2 hg2 b40 b41 b42 b10 b11 b12 b50 b51 b52 f0 f1 f2; obtain ⟨B1, _, _, B4, B5, FZ, _, _⟩ := hG2; obtain ⟨_, b40, b41, b42⟩ := B4; obtain ⟨_, b10, b11, b12⟩ := B1; obtain ⟨_, b50, b51, b52⟩ := B5; have f0 := FZ 0; have f1 := FZ 1; have f2 := FZ 2; clear FZ)
  have hD := HG2.out.done
  refine bodyPost_ret (v := frv X Y (some ⟨g, 0, none⟩) l.length d) (by simp [results, Try.results35, go_sem, hD.1]) rfl ⟨_, d, rfl, hD.2.1, hD.2.2⟩
theorem spec.VertRow_c (x y : Int) (a : Option Addr) (c : Nat) (l : List Int) (q r : Int) (w : World) (hx : -9223372036854775808 ≤ x ∧ x ≤ 9223372036854775807) (hy : -9223372036854775808 ≤ y ∧ y ≤ 9223372036854775807) (hl : l.length ≤ 1099511627776) (hr : Row w a l) (hw : ∀ x ∈ l, -9223372036854775808 ≤ x ∧ x ≤ 9223372036854775807) (hsh : Shape a c l) :
    Calls Try.prog 35 #[frv x y a l.length c, .int .i64 q, .int .i64 r] w fun e w' => ∃ b d, e = .returned (frv x y b (vrV x y l q r).length d) ∧ Own w.heap.size w' b d (vrV x y l q r) ∧ Below w.heap.size w w' := by
  rw [vrV_len]
  cases h : vrB x y l q r
  · have e2 : vrV x y l q r = l := by
      unfold vrV
      rw [if_neg]
      intro hh
      rw [h] at hh
      cases hh
    rw [e2]
    exact spec.VertRow_no x y a c l q r w hx hy hl hr hw hsh h
  · have hv := h
    simp only [vrB, Bool.and_eq_true] at hv
    obtain ⟨X, Y, rfl, rfl, hX, hY, hlen⟩ := filt_split hv.1
    have hrr := inR_true hv.2
    obtain ⟨R, rfl⟩ := Int.eq_ofNat_of_zero_le hrr.1
    have e2 : vrV X Y l q R = vA X q (8 * R) l 8 := by simp [vrV, h]
    rw [e2]
    exact spec.VertRow_on X Y a c l q R w hx hy hl hr hw hsh X Y R rfl rfl rfl hX hY hlen h (by omega)


set_option maxHeartbeats 4000000 in
theorem spec.HorRow_no (x y : Int) (a : Option Addr) (c : Nat) (l : List Int) (q r : Int) (w : World) (hx : -9223372036854775808 ≤ x ∧ x ≤ 9223372036854775807) (hy : -9223372036854775808 ≤ y ∧ y ≤ 9223372036854775807) (hl : l.length ≤ 1099511627776) (hr : Row w a l) (hw : ∀ x ∈ l, -9223372036854775808 ≤ x ∧ x ≤ 9223372036854775807) (hsh : Shape a c l) (h : vrB x y l q r = false) :
    Calls Try.prog 33 #[frv x y a l.length c, .int .i64 q, .int .i64 r] w fun e w' => ∃ b d, e = .returned (frv x y b l.length d) ∧ Own w.heap.size w' b d (l) ∧ Below w.heap.size w w' := by
  have hfi := fun w0 (h : Row w0 a l) => l21Ok_c x y a c l q r w0 hx hy hl h hw
  simp only [h] at hfi
  have HFI := Lib.hid hfi
  have HRR : Hid (∀ w0, Below w.heap.size w w0 → Row w0 a l) := Lib.hid (fun w0 h => hr.below h (Nat.le_refl _))
  clear hfi hx hy hw h
  have hown := fun w0 (h : Row w0 a l) => l18Copy_c x y a c l w0 hl h hsh
  have HO := Lib.hid hown
  have HRW := Lib.hid hr
  clear hown
  go_enter Try.func33, Try.ntmps33
  go_wp2_with fail
  obtain ⟨W0, hW0⟩ : ∃ WW, WW = (w.alloc (.cells #[.int .i64 x, .int .i64 y, .slice a l.length c] 27)).alloc (.cells #[.int .i64 0, .int .i64 0, .slice none 0 0] 27) := ⟨_, rfl⟩
  rw [← hW0]
  have c0 : W0.cell? ⟨w.heap.size, 0, none⟩ = some (.int .i64 x) := by rw [hW0]; simp
  have c1 : W0.cell? ⟨w.heap.size, 1, none⟩ = some (.int .i64 y) := by rw [hW0]; simp
  have c2' : W0.cell? ⟨w.heap.size, 2, none⟩ = some (.slice a l.length c) := by rw [hW0]; simp
  have PA : Hid (Box3 W0 w.heap.size (.int .i64 x) (.int .i64 y) (.slice a l.length c)) := Lib.hid (by rw [hW0]; exact (Box3.new w _ _ _ _).below ((Below.refl _ _).alloc (Nat.le_refl _) _) (Nat.le_refl _))
  have RA : Hid (Box3 W0 (w.heap.size + 1) (.int .i64 0) (.int .i64 0) (.slice none 0 0)) := Lib.hid (by rw [hW0]; exact ⟨by simp, by simp, by simp, by simp⟩)
  have RF : Hid (∀ i, W0.frozen? ⟨w.heap.size + 1, i, none⟩ = false) := Lib.hid (fun i => by rw [hW0]; simp [go_sem])
  have HB0 : Hid (Below w.heap.size w W0) := Lib.hid (by rw [hW0]; exact ((Below.refl w.heap.size w).alloc (Nat.le_refl _) _).alloc (by simp) _)
  have HZ : Hid (W0.heap.size = w.heap.size + 1 + 1) := Lib.hid (by rw [hW0]; simp)
  have HRd := Lib.hid ((HRW.out.below HB0.out (Nat.le_refl _)).drew)
  clear hW0
  refine (HO.out W0 (HRW.out.below HB0.out (Nat.le_refl _))).mono ?_
  rintro e w1 ⟨b, d, rfl, ho, hb⟩
  have hcut := own_cut1 (n := 0) 27 HB0.out HZ.out PA.out RA.out RF.out ho hb
  clear ho hb c0 c1 c2'
  have HCUT := Lib.hid hcut
  clear hcut
  go_upto_region 2 with fail
  obtain ⟨wc, hwc⟩ : ∃ WW, WW = w1.alloc (.cells #[.int .i64 x, .int .i64 y, .slice b l.length d] 27) := ⟨_, rfl⟩
  rw [← hwc]
  obtain ⟨o, ho⟩ : ∃ o, o = w1.heap.size := ⟨_, rfl⟩
  rw [← ho]
  have hF : OwnFacts w x y a c l o b d l wc := by
    have h := HCUT.out
    rw [← hwc, ← ho] at h
    obtain ⟨o2, b2, d2, _, h2, h3⟩ := h
    injection h2 with h2
    injection h2 with h2
    injection h2 with h2
    subst h2
    have hbb := h3.1.2.2.2
    have hb0 : wc.cell? ⟨o, 2, none⟩ = some (.slice b l.length d) := by rw [hwc, ho]; simp
    rw [hb0] at hbb
    injection hbb with hbb
    injection hbb with e1 e2 e3
    subst e1 e3
    exact h3
  clear hwc ho HCUT HZ RA RF HB0 PA HRd
  have hFH := Lib.hid hF
  obtain ⟨B1, _, _, B4, _, _, _, _⟩ := hF
  obtain ⟨_, b40, b41, b42⟩ := B4
  obtain ⟨_, b10, b11, b12⟩ := B1
  clear HRW HO
  go_wp2_with fail
  refine (HFI.out _ (HRR.out _ hFH.out.2.2.1)).mono ?_
  rintro e wf ⟨rfl, hb⟩
  have hG := hFH.out.below hb
  clear hb hFH b40 b41 b42 b10 b11 b12
  have HG := Lib.hid hG
  obtain ⟨B1, _, _, B4, B5, FZ, _, _⟩ := hG
  obtain ⟨_, b40, b41, b42⟩ := B4
  obtain ⟨_, b10, b11, b12⟩ := B1
  obtain ⟨_, b50, b51, b52⟩ := B5
  have f0 := FZ 0
  have f1 := FZ 1
  have f2 := FZ 2
  clear FZ
  go_wp2
  have hD := HG.out.done
  refine bodyPost_ret (v := frv x y b l.length d) (by simp [results, Try.results33, go_sem, hD.1]) rfl ⟨_, d, rfl, hD.2.1, hD.2.2⟩
set_option maxHeartbeats 4000000 in
theorem spec.HorRow_zero (x y : Int) (a : Option Addr) (c : Nat) (l : List Int) (q r : Int) (w : World) (hx : -9223372036854775808 ≤ x ∧ x ≤ 9223372036854775807) (hy : -9223372036854775808 ≤ y ∧ y ≤ 9223372036854775807) (hl : l.length ≤ 1099511627776) (hr : Row w a l) (hw : ∀ x ∈ l, -9223372036854775808 ≤ x ∧ x ≤ 9223372036854775807) (hsh : Shape a c l) (h : vrB x y l q r = true) (hr0 : r = 0) :
    Calls Try.prog 33 #[frv x y a l.length c, .int .i64 q, .int .i64 r] w fun e w' => ∃ b d, e = .returned (frv x y b l.length d) ∧ Own w.heap.size w' b d (l) ∧ Below w.heap.size w w' := by
  have hfi := fun w0 (h : Row w0 a l) => l21Ok_c x y a c l q r w0 hx hy hl h hw
  simp only [h] at hfi
  have HFI := Lib.hid hfi
  have HRR : Hid (∀ w0, Below w.heap.size w w0 → Row w0 a l) := Lib.hid (fun w0 h => hr.below h (Nat.le_refl _))
  have er0 : (r == 0) = true := by simpa using hr0
  clear hfi hx hy hw h hr0
  have hown := fun w0 (h : Row w0 a l) => l18Copy_c x y a c l w0 hl h hsh
  have HO := Lib.hid hown
  have HRW := Lib.hid hr
  clear hown
  go_enter Try.func33, Try.ntmps33
  go_wp2_with fail
  obtain ⟨W0, hW0⟩ : ∃ WW, WW = (w.alloc (.cells #[.int .i64 x, .int .i64 y, .slice a l.length c] 27)).alloc (.cells #[.int .i64 0, .int .i64 0, .slice none 0 0] 27) := ⟨_, rfl⟩
  rw [← hW0]
  have c0 : W0.cell? ⟨w.heap.size, 0, none⟩ = some (.int .i64 x) := by rw [hW0]; simp
  have c1 : W0.cell? ⟨w.heap.size, 1, none⟩ = some (.int .i64 y) := by rw [hW0]; simp
  have c2' : W0.cell? ⟨w.heap.size, 2, none⟩ = some (.slice a l.length c) := by rw [hW0]; simp
  have PA : Hid (Box3 W0 w.heap.size (.int .i64 x) (.int .i64 y) (.slice a l.length c)) := Lib.hid (by rw [hW0]; exact (Box3.new w _ _ _ _).below ((Below.refl _ _).alloc (Nat.le_refl _) _) (Nat.le_refl _))
  have RA : Hid (Box3 W0 (w.heap.size + 1) (.int .i64 0) (.int .i64 0) (.slice none 0 0)) := Lib.hid (by rw [hW0]; exact ⟨by simp, by simp, by simp, by simp⟩)
  have RF : Hid (∀ i, W0.frozen? ⟨w.heap.size + 1, i, none⟩ = false) := Lib.hid (fun i => by rw [hW0]; simp [go_sem])
  have HB0 : Hid (Below w.heap.size w W0) := Lib.hid (by rw [hW0]; exact ((Below.refl w.heap.size w).alloc (Nat.le_refl _) _).alloc (by simp) _)
  have HZ : Hid (W0.heap.size = w.heap.size + 1 + 1) := Lib.hid (by rw [hW0]; simp)
  have HRd := Lib.hid ((HRW.out.below HB0.out (Nat.le_refl _)).drew)
  clear hW0
  refine (HO.out W0 (HRW.out.below HB0.out (Nat.le_refl _))).mono ?_
  rintro e w1 ⟨b, d, rfl, ho, hb⟩
  have hcut := own_cut1 (n := 0) 27 HB0.out HZ.out PA.out RA.out RF.out ho hb
  clear ho hb c0 c1 c2'
  have HCUT := Lib.hid hcut
  clear hcut
  go_upto_region 2 with fail
  obtain ⟨wc, hwc⟩ : ∃ WW, WW = w1.alloc (.cells #[.int .i64 x, .int .i64 y, .slice b l.length d] 27) := ⟨_, rfl⟩
  rw [← hwc]
  obtain ⟨o, ho⟩ : ∃ o, o = w1.heap.size := ⟨_, rfl⟩
  rw [← ho]
  have hF : OwnFacts w x y a c l o b d l wc := by
    have h := HCUT.out
    rw [← hwc, ← ho] at h
    obtain ⟨o2, b2, d2, _, h2, h3⟩ := h
    injection h2 with h2
    injection h2 with h2
    injection h2 with h2
    subst h2
    have hbb := h3.1.2.2.2
    have hb0 : wc.cell? ⟨o, 2, none⟩ = some (.slice b l.length d) := by rw [hwc, ho]; simp
    rw [hb0] at hbb
    injection hbb with hbb
    injection hbb with e1 e2 e3
    subst e1 e3
    exact h3
  clear hwc ho HCUT HZ RA RF HB0 PA HRd
  have hFH := Lib.hid hF
  obtain ⟨B1, _, _, B4, _, _, _, _⟩ := hF
  obtain ⟨_, b40, b41, b42⟩ := B4
  obtain ⟨_, b10, b11, b12⟩ := B1
  clear HRW HO
  go_wp2_with fail
  refine (HFI.out _ (HRR.out _ hFH.out.2.2.1)).mono ?_
  rintro e wf ⟨rfl, hb⟩
  have hG := hFH.out.below hb
  clear hb hFH b40 b41 b42 b10 b11 b12
  have HG := Lib.hid hG
  obtain ⟨B1, _, _, B4, B5, FZ, _, _⟩ := hG
  obtain ⟨_, b40, b41, b42⟩ := B4
  obtain ⟨_, b10, b11, b12⟩ := B1
  obtain ⟨_, b50, b51, b52⟩ := B5
  have f0 := FZ 0
  have f1 := FZ 1
  have f2 := FZ 2
  clear FZ
  go_wp2
  have hD := HG.out.done
  refine bodyPost_ret (v := frv x y b l.length d) (by simp [results, Try.results33, go_sem, hD.1]) rfl ⟨_, d, rfl, hD.2.1, hD.2.2⟩
set_option maxHeartbeats 4000000 in
theorem spec.HorRow_on (x y : Int) (a : Option Addr) (c : Nat) (l : List Int) (q r : Int) (w : World) (hx : -9223372036854775808 ≤ x ∧ x ≤ 9223372036854775807) (hy : -9223372036854775808 ≤ y ∧ y ≤ 9223372036854775807) (hl : l.length ≤ 1099511627776) (hr : Row w a l) (hw : ∀ x ∈ l, -9223372036854775808 ≤ x ∧ x ≤ 9223372036854775807) (hsh : Shape a c l) (X Y R : Nat) (ex : x = X) (ey : y = Y) (er : r = R) (hX : 8 ≤ X ∧ X ≤ 32 ∧ X % 8 = 0) (hY : 8 ≤ Y ∧ Y ≤ 32 ∧ Y % 8 = 0) (hlen : l.length = X * Y) (h : vrB x y l q r = true) (hR8 : 8 * R + 8 ≤ Y) (hR0 : 0 < R) :
    Calls Try.prog 33 #[frv x y a l.length c, .int .i64 q, .int .i64 r] w fun e w' => ∃ b d, e = .returned (frv x y b l.length d) ∧ Own w.heap.size w' b d (hR X q (8 * R) l X) ∧ Below w.heap.size w w' := by
  have hfi := fun w0 (h : Row w0 a l) => l21Ok_c x y a c l q r w0 hx hy hl h hw
  simp only [h] at hfi
  have HFI := Lib.hid hfi
  have HRR : Hid (∀ w0, Below w.heap.size w w0 → Row w0 a l) := Lib.hid (fun w0 h => hr.below h (Nat.le_refl _))
  subst ex ey er
  have HLP : Hid (0 < l.length) := Lib.hid (by rw [hlen]; exact Nat.mul_pos (by omega) (by omega))
  have hX1 := hX.2.1
  have hY1 := hY.2.1
  have hY0 := hY.1
  obtain ⟨R8, hR8e⟩ : ∃ t, t = 8 * R := ⟨_, rfl⟩
  have er1 : 8 * (R : Int) = (R8 : Int) := by omega
  have er0 : ((R : Int) == 0) = false := by simp; omega
  have hhor := fun (g d : Nat) w0 (ho : Own (w.heap.size + 2) w0 (some ⟨g, 0, none⟩) d l) => spec.l20Down_same X Y R8 q g d (w.heap.size + 2) l w0 ⟨hX.1, hX.2.1⟩ hY.2.1 hlen (by omega) (by omega) ho
  have HV := Lib.hid hhor
  have HE : Hid (hR X q R8 l X = hR X q (8 * R) l X) := Lib.hid (by rw [hR8e])
  clear hhor hfi hx hy hw h hlen hX hY hR8e
  have hown := fun w0 (h : Row w0 a l) => l18Copy_c X Y a c l w0 hl h hsh
  have HO := Lib.hid hown
  have HRW := Lib.hid hr
  clear hown
  go_enter Try.func33, Try.ntmps33
  go_wp2_with fail
  obtain ⟨W0, hW0⟩ : ∃ WW, WW = (w.alloc (.cells #[.int .i64 X, .int .i64 Y, .slice a l.length c] 27)).alloc (.cells #[.int .i64 0, .int .i64 0, .slice none 0 0] 27) := ⟨_, rfl⟩
  rw [← hW0]
  have c0 : W0.cell? ⟨w.heap.size, 0, none⟩ = some (.int .i64 X) := by rw [hW0]; simp
  have c1 : W0.cell? ⟨w.heap.size, 1, none⟩ = some (.int .i64 Y) := by rw [hW0]; simp
  have c2' : W0.cell? ⟨w.heap.size, 2, none⟩ = some (.slice a l.length c) := by rw [hW0]; simp
  have PA : Hid (Box3 W0 w.heap.size (.int .i64 X) (.int .i64 Y) (.slice a l.length c)) := Lib.hid (by rw [hW0]; exact (Box3.new w _ _ _ _).below ((Below.refl _ _).alloc (Nat.le_refl _) _) (Nat.le_refl _))
  have RA : Hid (Box3 W0 (w.heap.size + 1) (.int .i64 0) (.int .i64 0) (.slice none 0 0)) := Lib.hid (by rw [hW0]; exact ⟨by simp, by simp, by simp, by simp⟩)
  have RF : Hid (∀ i, W0.frozen? ⟨w.heap.size + 1, i, none⟩ = false) := Lib.hid (fun i => by rw [hW0]; simp [go_sem])
  have HB0 : Hid (Below w.heap.size w W0) := Lib.hid (by rw [hW0]; exact ((Below.refl w.heap.size w).alloc (Nat.le_refl _) _).alloc (by simp) _)
  have HZ : Hid (W0.heap.size = w.heap.size + 1 + 1) := Lib.hid (by rw [hW0]; simp)
  have HRd := Lib.hid ((HRW.out.below HB0.out (Nat.le_refl _)).drew)
  clear hW0
  refine (HO.out W0 (HRW.out.below HB0.out (Nat.le_refl _))).mono ?_
  rintro e w1 ⟨b, d, rfl, ho, hb⟩
  have hcut := own_cut1 (n := 0) 27 HB0.out HZ.out PA.out RA.out RF.out ho hb
  clear ho hb c0 c1 c2'
  have HCUT := Lib.hid hcut
  clear hcut
  go_upto_region 2 with fail
  obtain ⟨wc, hwc⟩ : ∃ WW, WW = w1.alloc (.cells #[.int .i64 X, .int .i64 Y, .slice b l.length d] 27) := ⟨_, rfl⟩
  rw [← hwc]
  obtain ⟨o, ho⟩ : ∃ o, o = w1.heap.size := ⟨_, rfl⟩
  rw [← ho]
  have hF : OwnFacts w X Y a c l o b d l wc := by
    have h := HCUT.out
    rw [← hwc, ← ho] at h
    obtain ⟨o2, b2, d2, _, h2, h3⟩ := h
    injection h2 with h2
    injection h2 with h2
    injection h2 with h2
    subst h2
    have hbb := h3.1.2.2.2
    have hb0 : wc.cell? ⟨o, 2, none⟩ = some (.slice b l.length d) := by rw [hwc, ho]; simp
    rw [hb0] at hbb
    injection hbb with hbb
    injection hbb with e1 e2 e3
    subst e1 e3
    exact h3
  clear hwc ho HCUT HZ RA RF HB0 PA HRd
  have hFH := Lib.hid hF
  obtain ⟨B1, _, _, B4, _, _, _, _⟩ := hF
  obtain ⟨_, b40, b41, b42⟩ := B4
  obtain ⟨_, b10, b11, b12⟩ := B1
  clear HRW HO
  go_wp2_with fail
  refine (HFI.out _ (HRR.out _ hFH.out.2.2.1)).mono ?_
  rintro e wf ⟨rfl, hb⟩
  have hG := hFH.out.below hb
  clear hb hFH b40 b41 b42 b10 b11 b12
  obtain ⟨g, rfl, _⟩ := hG.2.1.at_ (i := 0) HLP.out
  have HVc := Lib.hid (HV.out g d wf hG.2.1)
  rw [HE.out] at HVc
  have HG := Lib.hid hG
  obtain ⟨B1, _, _, B4, B5, FZ, _, _⟩ := hG
  obtain ⟨_, b40, b41, b42⟩ := B4
  obtain ⟨_, b10, b11, b12⟩ := B1
  obtain ⟨_, b50, b51, b52⟩ := B5
  have f0 := FZ 0
  have f1 := FZ 1
  have f2 := FZ 2
  clear FZ
  go_wp2_with (go_at_call 52; refine HVc.out.mono ?_; rintro e w2 ⟨rfl, ho2, hg2⟩; have hG2 := HG.out.grown hg2 ho2; have HG2 := Lib.hid hG2; clear ho2 hg2 b40 b41 b42 b10 b11 b12 b50 b51 b52 f0 f1 f2; obtain ⟨B1, _, _, B4, B5, FZ, _, _⟩ := hG2; obtain ⟨_, b40, b41, b42⟩ := B4; obtain ⟨_, b10, b11, b12⟩ := B1; obtain ⟨_, b50, b51, b52⟩ := B5; have f0 := FZ 0; have f1 := FZ 1; have f2 := FZ 2; clear FZ)
  have hD := HG2.out.done
  refine bodyPost_ret (v := frv X Y (some ⟨g, 0, none⟩) l.length d) (by simp [results, Try.results33, go_sem, hD.1]) rfl ⟨_, d, rfl, hD.2.1, hD.2.2⟩
theorem spec.HorRow_c (x y : Int) (a : Option Addr) (c : Nat) (l : List Int) (q r : Int) (w : World) (hx : -9223372036854775808 ≤ x ∧ x ≤ 9223372036854775807) (hy : -9223372036854775808 ≤ y ∧ y ≤ 9223372036854775807) (hl : l.length ≤ 1099511627776) (hr : Row w a l) (hw : ∀ x ∈ l, -9223372036854775808 ≤ x ∧ x ≤ 9223372036854775807) (hsh : Shape a c l) :
    Calls Try.prog 33 #[frv x y a l.length c, .int .i64 q, .int .i64 r] w fun e w' => ∃ b d, e = .returned (frv x y b (hrV x y l q r).length d) ∧ Own w.heap.size w' b d (hrV x y l q r) ∧ Below w.heap.size w w' := by
  rw [hrV_len]
  cases h : vrB x y l q r
  · have e2 : hrV x y l q r = l := by
      unfold hrV
      rw [if_neg]
      intro hh
      simp only [hrB, Bool.and_eq_true] at hh
      simp only [vrB, hh.1, Bool.true_and] at h
      have h3 := inR_true hh.2
      exact inR_false h ⟨by omega, h3.2⟩
    rw [e2]
    exact spec.HorRow_no x y a c l q r w hx hy hl hr hw hsh h
  · have hv := h
    simp only [vrB, Bool.and_eq_true] at hv
    obtain ⟨X, Y, rfl, rfl, hX, hY, hlen⟩ := filt_split hv.1
    have hrr := inR_true hv.2
    obtain ⟨R, rfl⟩ := Int.eq_ofNat_of_zero_le hrr.1
    by_cases hR0 : 0 < R
    · have e2 : hrV X Y l q R = hR X q (8 * R) l X := by
        have h3 : hrB X Y l q R = true := by simp only [hrB, hv.1, Bool.true_and]; exact inR_mk (by omega)
        simp [hrV, h3]
      rw [e2]
      exact spec.HorRow_on X Y a c l q R w hx hy hl hr hw hsh X Y R rfl rfl rfl hX hY hlen h (by omega) hR0
    · have e2 : hrV X Y l q R = l := by
        unfold hrV
        rw [if_neg]
        intro hh
        simp only [hrB, Bool.and_eq_true] at hh
        have h3 := inR_true hh.2
        omega
      rw [e2]
      exact spec.HorRow_zero X Y a c l q R w hx hy hl hr hw hsh h (by omega)

end Go.Proofs.Ytlekgoeibndlcaa
