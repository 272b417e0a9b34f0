/- Contracts: the filter of a frame, and of one row of blocks. -/
import Derived.Test.YtkfjbnhihjnhnaaDeb
namespace Go.Proofs.Ytkfjbnhihjnhnaa
open Go.RowKit
set_option linter.unusedVariables false

theorem OwnFacts.grown {w wx w' : World} {x y : Int} {a : Option Addr} {c d o g : Nat} {l l2 l3 : List Int} (h : OwnFacts w x y a c l o (some ⟨g, 0, none⟩) d l2 wx) (hg : wx.grownBy w' (some g)) (ho : Own (w.heap.size + 2) w' (some ⟨g, 0, none⟩) d l3) :
    OwnFacts w x y a c l o (some ⟨g, 0, none⟩) d l3 w' := by
  obtain ⟨h1, h2, h3, h4, h5, h6, h7, h8⟩ := h
  have hgB : w.heap.size + 2 ≤ g := (h2.lt _ rfl).1
  have hne : g ≠ o := h7 _ rfl
  refine ⟨h1.grown (a := some ⟨g, 0, none⟩) hg (fun p hp => by cases hp; exact hne), ho, ?_, h4.grown (a := some ⟨g, 0, none⟩) hg (fun p hp => by cases hp; show g ≠ _; omega), h5.grown (a := some ⟨g, 0, none⟩) hg (fun p hp => by cases hp; show g ≠ _; omega), fun i => ?_, h7, h8⟩
  · exact h3.grown hg h3.size (fun k hk => by injection hk with hk; omega)
  · rw [World.frozen?_of_block (w := wx) (hg.block _ h5.1 (by intro e; injection e with e; have e2 : w.heap.size + 1 = g := e; omega))]
    exact h6 i
theorem filt_split {x y : Int} {l : List Int} {q : Int} (h : filtB x y l q = true) : ∃ X Y : Nat, x = X ∧ y = Y ∧ (8 ≤ X ∧ X ≤ 32 ∧ X % 8 = 0) ∧ (8 ≤ Y ∧ Y ≤ 32 ∧ Y % 8 = 0) ∧ l.length = X * Y := by
  simp only [filtB, Bool.and_eq_true] at h
  obtain ⟨hs, hlen, _⟩ := frameB_true h.1
  obtain ⟨s1, s2, s3, s4, s5, s6⟩ := sidesB_true hs
  obtain ⟨X, rfl⟩ := Int.eq_ofNat_of_zero_le (show 0 ≤ x by omega)
  obtain ⟨Y, rfl⟩ := Int.eq_ofNat_of_zero_le (show 0 ≤ y by omega)
  refine ⟨X, Y, rfl, rfl, by omega, by omega, ?_⟩
  rw [← Int.natCast_mul] at hlen
  exact Int.ofNat.inj hlen
def debV (x y : Int) (l : List Int) (q : Int) : List Int := if filtB x y l q = true then hA x.toNat q (vA x.toNat q 0 l y.toNat) (y.toNat / 8 - 1) else l
def vrB (x y : Int) (l : List Int) (q r : Int) : Bool := filtB x y l q && inR 0 (y / 8 - 1) r
def vrV (x y : Int) (l : List Int) (q r : Int) : List Int := if vrB x y l q r = true then vA x.toNat q (8 * r.toNat) l 8 else l
def hrB (x y : Int) (l : List Int) (q r : Int) : Bool := filtB x y l q && inR 1 (y / 8 - 1) r
def hrV (x y : Int) (l : List Int) (q r : Int) : List Int := if hrB x y l q r = true then hR x.toNat q (8 * r.toNat) l x.toNat else l
theorem debV_len (x y : Int) (l : List Int) (q : Int) : (debV x y l q).length = l.length := by
  unfold debV; split
  · rw [hA_len, vA_len]
  · rfl
theorem vrV_len (x y : Int) (l : List Int) (q r : Int) : (vrV x y l q r).length = l.length := by
  unfold vrV; split
  · rw [vA_len]
  · rfl
theorem hrV_len (x y : Int) (l : List Int) (q r : Int) : (hrV x y l q r).length = l.length := by
  unfold hrV; split
  · rw [hR_len]
  · rfl


set_option maxHeartbeats 4000000 in
theorem impl.DeblockRef_no (x y : Int) (a : Option Addr) (c : Nat) (l : List Int) (q : Int) (w : World) (hx : -9223372036854775808 ≤ x ∧ x ≤ 9223372036854775807) (hy : -9223372036854775808 ≤ y ∧ y ≤ 9223372036854775807) (hl : l.length ≤ 1099511627776) (hr : Row w a l) (hw : ∀ x ∈ l, -9223372036854775808 ≤ x ∧ x ≤ 9223372036854775807) (h : filtB x y l q = false) :
    Calls Try.prog 10 #[frv x y a l.length c, .int .i64 q] w fun e w' => ∃ b d, e = .returned (frv x y b l.length d) ∧ Own w.heap.size w' b d (l) ∧ Below w.heap.size w w' := by
  have hfi := fun w0 (h : Row w0 a l) => isFiltered_c x y a c l q w0 hx hy hl h hw
  simp only [h] at hfi
  have HFI := Lib.hid hfi
  have HRR : Hid (∀ w0, Below w.heap.size w w0 → Row w0 a l) := Lib.hid (fun w0 h => hr.below h (Nat.le_refl _))
  clear hfi hx hy hw h
  have hown := fun w0 (h : Row w0 a l) => own_c x y a c l w0 hl h
  have HO := Lib.hid hown
  have HRW := Lib.hid hr
  clear hown
  go_enter Try.func10, Try.ntmps10
  go_wp2_with fail
  obtain ⟨W0, hW0⟩ : ∃ WW, WW = (w.alloc (.cells #[.int .i64 x, .int .i64 y, .slice a l.length c] 26)).alloc (.cells #[.int .i64 0, .int .i64 0, .slice none 0 0] 26) := ⟨_, rfl⟩
  rw [← hW0]
  have c0 : W0.cell? ⟨w.heap.size, 0, none⟩ = some (.int .i64 x) := by rw [hW0]; simp
  have c1 : W0.cell? ⟨w.heap.size, 1, none⟩ = some (.int .i64 y) := by rw [hW0]; simp
  have c2' : W0.cell? ⟨w.heap.size, 2, none⟩ = some (.slice a l.length c) := by rw [hW0]; simp
  have PA : Hid (Box3 W0 w.heap.size (.int .i64 x) (.int .i64 y) (.slice a l.length c)) := Lib.hid (by rw [hW0]; exact (Box3.new w _ _ _ _).below ((Below.refl _ _).alloc (Nat.le_refl _) _) (Nat.le_refl _))
  have RA : Hid (Box3 W0 (w.heap.size + 1) (.int .i64 0) (.int .i64 0) (.slice none 0 0)) := Lib.hid (by rw [hW0]; exact ⟨by simp, by simp, by simp, by simp⟩)
  have RF : Hid (∀ i, W0.frozen? ⟨w.heap.size + 1, i, none⟩ = false) := Lib.hid (fun i => by rw [hW0]; simp [go_sem])
  have HB0 : Hid (Below w.heap.size w W0) := Lib.hid (by rw [hW0]; exact ((Below.refl w.heap.size w).alloc (Nat.le_refl _) _).alloc (by simp) _)
  have HZ : Hid (W0.heap.size = w.heap.size + 1 + 1) := Lib.hid (by rw [hW0]; simp)
  have HRd := Lib.hid ((HRW.out.below HB0.out (Nat.le_refl _)).drew)
  clear hW0
  refine (HO.out W0 (HRW.out.below HB0.out (Nat.le_refl _))).mono ?_
  rintro e w1 ⟨b, d, rfl, ho, hb⟩
  have hcut := own_cut1 (n := 0) 26 HB0.out HZ.out PA.out RA.out RF.out ho hb
  clear ho hb c0 c1 c2'
  have HCUT := Lib.hid hcut
  clear hcut
  go_upto_region 2 with fail
  obtain ⟨wc, hwc⟩ : ∃ WW, WW = w1.alloc (.cells #[.int .i64 x, .int .i64 y, .slice b l.length d] 26) := ⟨_, rfl⟩
  rw [← hwc]
  obtain ⟨o, ho⟩ : ∃ o, o = w1.heap.size := ⟨_, rfl⟩
  rw [← ho]
  have hF : OwnFacts w x y a c l o b d l wc := by
    have h := HCUT.out
    rw [← hwc, ← ho] at h
    obtain ⟨o2, b2, d2, _, h2, h3⟩ := h
    injection h2 with h2
    injection h2 with h2
    injection h2 with h2
    subst h2
    have hbb := h3.1.2.2.2
    have hb0 : wc.cell? ⟨o, 2, none⟩ = some (.slice b l.length d) := by rw [hwc, ho]; simp
    rw [hb0] at hbb
    injection hbb with hbb
    injection hbb with e1 e2 e3
    subst e1 e3
    exact h3
  clear hwc ho HCUT HZ RA RF HB0 PA HRd
  have hFH := Lib.hid hF
  obtain ⟨B1, _, _, B4, _, _, _, _⟩ := hF
  obtain ⟨_, b40, b41, b42⟩ := B4
  obtain ⟨_, b10, b11, b12⟩ := B1
  clear HRW HO
  go_wp2_with fail
  refine (HFI.out _ (HRR.out _ hFH.out.2.2.1)).mono ?_
  rintro e wf ⟨rfl, hb⟩
  have hG := hFH.out.below hb
  clear hb hFH b40 b41 b42 b10 b11 b12
  have HG := Lib.hid hG
  obtain ⟨B1, _, _, B4, B5, FZ, _, _⟩ := hG
  obtain ⟨_, b40, b41, b42⟩ := B4
  obtain ⟨_, b10, b11, b12⟩ := B1
  obtain ⟨_, b50, b51, b52⟩ := B5
  have f0 := FZ 0
  have f1 := FZ 1
  have f2 := FZ 2
  clear FZ
  go_wp2
  have hD := HG.out.done
  refine bodyPost_ret (v := frv x y b l.length d) (by simp [results, Try.results10, go_sem, hD.1]) rfl ⟨_, d, rfl, hD.2.1, hD.2.2⟩
set_option maxHeartbeats 4000000 in
theorem impl.DeblockRef_on (x y : Int) (a : Option Addr) (c : Nat) (l : List Int) (q : Int) (w : World) (hx : -9223372036854775808 ≤ x ∧ x ≤ 9223372036854775807) (hy : -9223372036854775808 ≤ y ∧ y ≤ 9223372036854775807) (hl : l.length ≤ 1099511627776) (hr : Row w a l) (hw : ∀ x ∈ l, -9223372036854775808 ≤ x ∧ x ≤ 9223372036854775807) (X Y : Nat) (ex : x = X) (ey : y = Y) (hX : 8 ≤ X ∧ X ≤ 32 ∧ X % 8 = 0) (hY : 8 ≤ Y ∧ Y ≤ 32 ∧ Y % 8 = 0) (hlen : l.length = X * Y) (h : filtB x y l q = true) :
    Calls Try.prog 10 #[frv x y a l.length c, .int .i64 q] w fun e w' => ∃ b d, e = .returned (frv x y b l.length d) ∧ Own w.heap.size w' b d (hA X q (vA X q 0 l Y) (Y / 8 - 1)) ∧ Below w.heap.size w w' := by
  have hfi := fun w0 (h : Row w0 a l) => isFiltered_c x y a c l q w0 hx hy hl h hw
  simp only [h] at hfi
  have HFI := Lib.hid hfi
  have HRR : Hid (∀ w0, Below w.heap.size w w0 → Row w0 a l) := Lib.hid (fun w0 h => hr.below h (Nat.le_refl _))
  subst ex ey
  have HLP : Hid (0 < l.length) := Lib.hid (by rw [hlen]; exact Nat.mul_pos (by omega) (by omega))
  have hX1 := hX.2.1
  have hY1 := hY.2.1
  have hY0 := hY.1
  have hvert := fun (g d : Nat) w0 (ho : Own (w.heap.size + 2) w0 (some ⟨g, 0, none⟩) d l) => vertical_c X Y 0 Y q g d (w.heap.size + 2) l w0 hX hY.2.1 hlen (Nat.zero_le _) (Nat.le_refl _) ho
  have HV := Lib.hid hvert
  have hhor := fun (g d j : Nat) (m : List Int) w0 (hm : m.length = l.length) (hj : 8 * (j + 1) + 8 ≤ Y) (ho : Own (w.heap.size + 2) w0 (some ⟨g, 0, none⟩) d m) => horizontal_c X Y (8 * (j + 1)) q g d (w.heap.size + 2) m w0 ⟨hX.1, hX.2.1⟩ hY.2.1 (hm.trans hlen) (by omega) (by omega) ho
  have HH := Lib.hid hhor
  have HY2 := Lib.hid hY.2.2
  clear hvert hhor hfi hx hy hw h hlen hX hY
  have hown := fun w0 (h : Row w0 a l) => own_c X Y a c l w0 hl h
  have HO := Lib.hid hown
  have HRW := Lib.hid hr
  clear hown
  go_enter Try.func10, Try.ntmps10
  go_wp2_with fail
  obtain ⟨W0, hW0⟩ : ∃ WW, WW = (w.alloc (.cells #[.int .i64 X, .int .i64 Y, .slice a l.length c] 26)).alloc (.cells #[.int .i64 0, .int .i64 0, .slice none 0 0] 26) := ⟨_, rfl⟩
  rw [← hW0]
  have c0 : W0.cell? ⟨w.heap.size, 0, none⟩ = some (.int .i64 X) := by rw [hW0]; simp
  have c1 : W0.cell? ⟨w.heap.size, 1, none⟩ = some (.int .i64 Y) := by rw [hW0]; simp
  have c2' : W0.cell? ⟨w.heap.size, 2, none⟩ = some (.slice a l.length c) := by rw [hW0]; simp
  have PA : Hid (Box3 W0 w.heap.size (.int .i64 X) (.int .i64 Y) (.slice a l.length c)) := Lib.hid (by rw [hW0]; exact (Box3.new w _ _ _ _).below ((Below.refl _ _).alloc (Nat.le_refl _) _) (Nat.le_refl _))
  have RA : Hid (Box3 W0 (w.heap.size + 1) (.int .i64 0) (.int .i64 0) (.slice none 0 0)) := Lib.hid (by rw [hW0]; exact ⟨by simp, by simp, by simp, by simp⟩)
  have RF : Hid (∀ i, W0.frozen? ⟨w.heap.size + 1, i, none⟩ = false) := Lib.hid (fun i => by rw [hW0]; simp [go_sem])
  have HB0 : Hid (Below w.heap.size w W0) := Lib.hid (by rw [hW0]; exact ((Below.refl w.heap.size w).alloc (Nat.le_refl _) _).alloc (by simp) _)
  have HZ : Hid (W0.heap.size = w.heap.size + 1 + 1) := Lib.hid (by rw [hW0]; simp)
  have HRd := Lib.hid ((HRW.out.below HB0.out (Nat.le_refl _)).drew)
  clear hW0
  refine (HO.out W0 (HRW.out.below HB0.out (Nat.le_refl _))).mono ?_
  rintro e w1 ⟨b, d, rfl, ho, hb⟩
  have hcut := own_cut1 (n := 0) 26 HB0.out HZ.out PA.out RA.out RF.out ho hb
  clear ho hb c0 c1 c2'
  have HCUT := Lib.hid hcut
  clear hcut
  go_upto_region 2 with fail
  obtain ⟨wc, hwc⟩ : ∃ WW, WW = w1.alloc (.cells #[.int .i64 X, .int .i64 Y, .slice b l.length d] 26) := ⟨_, rfl⟩
  rw [← hwc]
  obtain ⟨o, ho⟩ : ∃ o, o = w1.heap.size := ⟨_, rfl⟩
  rw [← ho]
  have hF : OwnFacts w X Y a c l o b d l wc := by
    have h := HCUT.out
    rw [← hwc, ← ho] at h
    obtain ⟨o2, b2, d2, _, h2, h3⟩ := h
    injection h2 with h2
    injection h2 with h2
    injection h2 with h2
    subst h2
    have hbb := h3.1.2.2.2
    have hb0 : wc.cell? ⟨o, 2, none⟩ = some (.slice b l.length d) := by rw [hwc, ho]; simp
    rw [hb0] at hbb
    injection hbb with hbb
    injection hbb with e1 e2 e3
    subst e1 e3
    exact h3
  clear hwc ho HCUT HZ RA RF HB0 PA HRd
  have hFH := Lib.hid hF
  obtain ⟨B1, _, _, B4, _, _, _, _⟩ := hF
  obtain ⟨_, b40, b41, b42⟩ := B4
  obtain ⟨_, b10, b11, b12⟩ := B1
  clear HRW HO
  go_wp2_with fail
  refine (HFI.out _ (HRR.out _ hFH.out.2.2.1)).mono ?_
  rintro e wf ⟨rfl, hb⟩
  have hG := hFH.out.below hb
  clear hb hFH b40 b41 b42 b10 b11 b12
  obtain ⟨g, rfl, _⟩ := hG.2.1.at_ (i := 0) HLP.out
  have HVc : Hid (Calls Try.prog 39 #[frv X Y (some ⟨g, 0, none⟩) l.length d, .int .i64 0, .int .i64 Y, .int .i64 q] wf fun e w' => e = .returned (.tuple #[]) ∧ Own (w.heap.size + 2) w' (some ⟨g, 0, none⟩) d (vA X q 0 l Y) ∧ wf.grownBy w' (some g)) := Lib.hid (HV.out g d wf hG.2.1)
  have HG := Lib.hid hG
  obtain ⟨B1, _, _, B4, B5, FZ, _, _⟩ := hG
  obtain ⟨_, b40, b41, b42⟩ := B4
  obtain ⟨_, b10, b11, b12⟩ := B1
  obtain ⟨_, b50, b51, b52⟩ := B5
  have f0 := FZ 0
  have f1 := FZ 1
  have f2 := FZ 2
  clear FZ
  go_wp2_with (go_at_call 39; refine HVc.out.mono ?_; rintro e w2 ⟨rfl, ho2, hg2⟩)
  have hG2 := HG.out.grown hg2 ho2
  clear HG HVc ho2 hg2 b40 b41 b42 b10 b11 b12 b50 b51 b52 f0 f1 f2
  have HG2 := Lib.hid hG2
  clear hG2
  go_loopw [6] (fun i wr => ∃ j yy : Nat, j ≤ Y / 8 - 1 ∧ yy = 8 * (j + 1) ∧ i = .int .i64 yy ∧ OwnFacts w X Y a c l o (some ⟨g, 0, none⟩) d (hA X q (vA X q 0 l Y) j) wr) (fun i _ => (Y + 8 - (intOf i)).toNat)
  case atStart => exact ⟨0, 8, Nat.zero_le _, rfl, rfl, HG2.out⟩
  case round =>
    clear HG2
    obtain ⟨j, yy, hj, hyy, rfl, hG⟩ := hrel
    have HYY := Lib.hid hyy
    by_cases hlt : yy < Y
    · have hltd : decide ((yy : Int) < (Y : Int)) = true := by simp; omega
      have hj2 : 8 * (j + 1) + 8 ≤ Y := by have := HY2.out; omega
      have hhc := HH.out g d j (hA X q (vA X q 0 l Y) j) wr (by rw [hA_len, vA_len]) hj2
      rw [← hyy, hA_len, vA_len] at hhc
      have HHC := Lib.hid (hhc hG.2.1)
      have HN : Hid (hR X q yy (hA X q (vA X q 0 l Y) j) X = hA X q (vA X q 0 l Y) (j + 1)) := Lib.hid (by rw [hA, hyy])
      clear hhc hyy
      have HG := Lib.hid hG
      obtain ⟨B1, _, _, B4, B5, FZ, _, _⟩ := hG
      obtain ⟨_, b40, b41, b42⟩ := B4
      obtain ⟨_, b10, b11, b12⟩ := B1
      obtain ⟨_, b50, b51, b52⟩ := B5
      have f0 := FZ 0
      have f1 := FZ 1
      have f2 := FZ 2
      clear FZ
      go_wp2_with (go_at_call 40; refine HHC.out.mono ?_; rintro e w3 ⟨rfl, ho3, hg3⟩)
      rw [HN.out] at ho3
      have HG3 := Lib.hid (HG.out.grown hg3 ho3)
      clear HG HHC ho3 hg3 b40 b41 b42 b10 b11 b12 b50 b51 b52 f0 f1 f2
      go_wp2
      go_roundw
      case rel => exact ⟨j + 1, yy + 8, by have := HYY.out; omega, by rw [HYY.out]; omega, by go_num, HG3.out⟩
      case measure => simp [intOf]; omega
    · have hltd : decide ((yy : Int) < (Y : Int)) = false := by simp; omega
      have hje : Hid (j = Y / 8 - 1) := Lib.hid (by have := HY2.out; omega)
      clear hyy
      have HG := Lib.hid hG
      obtain ⟨B1, _, _, B4, B5, FZ, _, _⟩ := hG
      obtain ⟨_, b40, b41, b42⟩ := B4
      obtain ⟨_, b10, b11, b12⟩ := B1
      obtain ⟨_, b50, b51, b52⟩ := B5
      have f0 := FZ 0
      have f1 := FZ 1
      have f2 := FZ 2
      clear FZ
      go_wp2
      rw [hje.out] at HG
      have hD := HG.out.done
      refine bodyPost_ret (v := frv X Y (some ⟨g, 0, none⟩) l.length d) (by simp [results, Try.results10, go_sem, hD.1]) rfl ⟨_, d, rfl, hD.2.1, hD.2.2⟩
theorem impl.DeblockRef_c (x y : Int) (a : Option Addr) (c : Nat) (l : List Int) (q : Int) (w : World) (hx : -9223372036854775808 ≤ x ∧ x ≤ 9223372036854775807) (hy : -9223372036854775808 ≤ y ∧ y ≤ 9223372036854775807) (hl : l.length ≤ 1099511627776) (hr : Row w a l) (hw : ∀ x ∈ l, -9223372036854775808 ≤ x ∧ x ≤ 9223372036854775807) :
    Calls Try.prog 10 #[frv x y a l.length c, .int .i64 q] w fun e w' => ∃ b d, e = .returned (frv x y b (debV x y l q).length d) ∧ Own w.heap.size w' b d (debV x y l q) ∧ Below w.heap.size w w' := by
  rw [debV_len]
  cases h : filtB x y l q
  · have e2 : debV x y l q = l := by simp [debV, h]
    rw [e2]
    exact impl.DeblockRef_no x y a c l q w hx hy hl hr hw h
  · have e2 : debV x y l q = hA x.toNat q (vA x.toNat q 0 l y.toNat) (y.toNat / 8 - 1) := by simp [debV, h]
    rw [e2]
    obtain ⟨X, Y, rfl, rfl, hX, hY, hlen⟩ := filt_split h
    exact impl.DeblockRef_on X Y a c l q w hx hy hl hr hw X Y rfl rfl hX hY hlen h































































































































































































































































































































































































































































































































































end Go.Proofs.Ytkfjbnhihjnhnaa
