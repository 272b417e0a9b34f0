/- Contracts of the draws of frames as a law calls them. -/
import Derived.Test.YtkfjbnhihjnhnaaDrawH
import Derived.Test.YtkfjbnhihjnhnaaDrawE
namespace Go.Proofs.Ytkfjbnhihjnhnaa
open Go.RowKit
set_option linter.unusedVariables false

/-- the result's box r and a box k, a row of the draw's own, the cursor -/
def Frb (W : World) (g : Nat) (a : Option Addr) (c : Nat) (l : List Int) (B r k : Nat) (v0 v1 v2 : Value) (x : Option Addr) (L : List Int) (wz : World) : Prop :=
  Box3 wz r (.int .i64 0) (.int .i64 0) (.slice none 0 0) ∧ (∀ i, wz.frozen? ⟨r, i, none⟩ = false) ∧ Box3 wz k v0 v1 v2 ∧ Frs B wz x L ∧ Dr W g a c l wz ∧ g < B ∧ r < B ∧ B ≤ k ∧ g ≠ r
theorem Frb.mk {W w1 : World} {g : Nat} {a : Option Addr} {c : Nat} {l : List Int} {B r : Nat} {x : Option Addr} {p : Nat} {L : List Int} {X Y : Int} (hg : g < B) (hr : r < B) (hgr : g ≠ r) (hB : B ≤ w1.heap.size) (hb : Box3 w1 r (.int .i64 0) (.int .i64 0) (.slice none 0 0)) (hf : ∀ i, w1.frozen? ⟨r, i, none⟩ = false) (h1 : Frs B w1 x L) (hd : Dr W g a c l w1) :
    Frb W g a c l B r w1.heap.size (.int .i64 X) (.int .i64 Y) (.slice x L.length p) x L (w1.alloc (.cells #[.int .i64 X, .int .i64 Y, .slice x L.length p] 26)) := by
  have al : Below w1.heap.size w1 (w1.alloc (.cells #[.int .i64 X, .int .i64 Y, .slice x L.length p] 26)) := (Below.refl _ _).alloc (Nat.le_refl _) _
  exact ⟨hb.below al (Nat.le_refl _), fun i => (al.frozen (p := ⟨r, i, none⟩) hb.1).trans (hf i), Box3.new _ _ _ _ _, h1.below al h1.lt, hd.alloc _, hg, hr, hB, hgr⟩
section
variable {W : World} {g : Nat} {a : Option Addr} {c : Nat} {l : List Int} {B r k : Nat} {v0 v1 v2 : Value} {x : Option Addr} {L : List Int} {wz w' : World}
theorem Frb.cur (h : Frb W g a c l B r k v0 v1 v2 x L wz) (hdr : Dr W g a c l w') (hd : wz.grownBy w' (some g)) : Frb W g a c l B r k v0 v1 v2 x L w' := by
  obtain ⟨h1, h2, h3, h5, h7, h8, h9, h10, h11⟩ := h
  exact ⟨h1.grown (a := some ⟨g, 0, none⟩) hd (fun p hp => by cases hp; exact h11), frozen_curF hd h1.1 h11 h2, h3.grown (a := some ⟨g, 0, none⟩) hd (fun p hp => by cases hp; show g ≠ k; omega), h5.cur hd h8, hdr, h8, h9, h10, h11⟩
theorem Frb.dr (h : Frb W g a c l B r k v0 v1 v2 x L wz) : Dr W g a c l wz := h.2.2.2.2.1
theorem Frb.res (h : Frb W g a c l B r k v0 v1 v2 x L wz) : Box3 wz r (.int .i64 0) (.int .i64 0) (.slice none 0 0) := h.1
theorem Frb.box (h : Frb W g a c l B r k v0 v1 v2 x L wz) : Box3 wz k v0 v1 v2 := h.2.2.1
theorem Frb.frs (h : Frb W g a c l B r k v0 v1 v2 x L wz) : Frs B wz x L := h.2.2.2.1
end

attribute [local irreducible] Calls World.alloc in
set_option maxHeartbeats 4000000 in
theorem DrawNbAt_c (a : Option Addr) (c : Nat) (l : List Int) (w : World) (hl : l.length ≤ 1048576) (hr : RowB w a l) (hw : ∀ x ∈ l, 0 ≤ x ∧ x ≤ 255) :
    Calls Try.prog 25 #[.slice a l.length c] w fun e w' => ∃ (X Y : Nat) (x : Option Addr) (d : Nat) (L : List Int) (u v t : Int), e = .returned (.tuple #[frv X Y x L.length d, .int .i64 u, .int .i64 v, .int .i64 t]) ∧ X ≤ 40 ∧ Y ≤ 16 ∧ (-4 ≤ u ∧ u ≤ 1000 ∧ 0 ≤ v ∧ v ≤ 1000 ∧ 0 ≤ t ∧ t ≤ 16) ∧ (0 < L.length ∧ L.length ≤ 384) ∧ L.length ≤ d ∧ (∀ z ∈ L, -1 ≤ z ∧ z ≤ 256) ∧ Row w' x L ∧ Below w.heap.size w w' := by
  have al : Below w.heap.size w (w.alloc (.cells #[.int .i64 0, .int .i64 0, .slice none 0 0] 26)) := (Below.refl _ _).alloc (Nat.le_refl _) _
  have hZ := Box3.new w 26 (.int .i64 0) (.int .i64 0) (.slice none 0 0)
  have hZF : ∀ i, (w.alloc (.cells #[.int .i64 0, .int .i64 0, .slice none 0 0] 26)).frozen? ⟨w.heap.size, i, none⟩ = false := fun i => by simp [go_sem]
  have hsz : (w.alloc (.cells #[.int .i64 0, .int .i64 0, .slice none 0 0] 26)).heap.size = w.heap.size + 1 := by simp
  have HN0 := Lib.hid (l1New_c a c l (w.alloc (.cells #[.int .i64 0, .int .i64 0, .slice none 0 0] 26)) hl (hr.below al (Nat.le_refl _)) hw)
  have HAL := Lib.hid al
  have HZ := Lib.hid hZ
  have HZF := Lib.hid hZF
  have HSZ := Lib.hid hsz
  clear hr hw al hZ hZF hsz
  go_enter Try.func25, Try.ntmps25
  go_wp2_with fail
  refine HN0.out.mono ?_
  rintro e w1 ⟨g, rfl, hcu, hgw, hb0⟩
  have hgl : g < w1.heap.size := hcu.1
  rw [HSZ.out] at hgw
  have hgr : g ≠ w.heap.size := by omega
  have HB1 := Lib.hid (HAL.out.trans (hb0.mono (by rw [HSZ.out]; omega)))
  have HG := Lib.hid hgw
  have hr1 := HZ.out.below hb0 (Nat.le_refl _)
  have hf1 : ∀ i, w1.frozen? ⟨w.heap.size, i, none⟩ = false := fun i => (hb0.frozen (p := ⟨w.heap.size, i, none⟩) (by show w.heap.size < _; rw [HSZ.out]; omega)).trans (HZF.out i)
  have HR1 := Lib.hid hr1
  have HF1 := Lib.hid hf1
  clear hr1 hf1 hb0 HN0 HZ HZF
  go_wp2_with fail
  refine (l18Spot_d w1 g a c l w1 (Dr.start hcu)).mono ?_
  rintro e w2 ⟨X, Y, x, d, L, u, v, t, rfl, hX, hY, huv, hLl, hLd, hLb, hfL, hdr2, hd2⟩
  have hr2 := HR1.out.grown (a := some ⟨g, 0, none⟩) hd2 (fun p hp => by cases hp; exact hgr)
  have hf2 := frozen_curF hd2 HR1.out.1 hgr HF1.out
  have HR2 := Lib.hid hr2
  have HBL := Lib.hid (D.below HB1.out hdr2.2 HB1.out.size (by have := HG.out; omega))
  have HLB := Lib.hid hLb
  have HFL := Lib.hid hfL
  have HUV := Lib.hid huv
  have hs1 : w.heap.size < w1.heap.size := by have := HR1.out.1; omega
  obtain ⟨_, r0, r1, r2⟩ := hr2
  have q0 := hf2 0
  have q1 := hf2 1
  have q2 := hf2 2
  clear hf2 hLb hfL hdr2 hd2 hcu hgw huv
  go_wp2
  obtain ⟨_, r0, r1, r2⟩ := HR2.out
  have hT := three_set (.int .i64 X) (.int .i64 Y) (.slice x L.length d) r0 r1 r2
  refine bodyPost_ret (v := .tuple #[frv X Y x L.length d, .int .i64 u, .int .i64 v, .int .i64 t]) (by simp [results, Try.results25, go_sem, hT]) rfl ?_
  exact ⟨X, Y, x, d, L, u, v, t, rfl, hX, hY.2, HUV.out, hLl, hLd, HLB.out, (HFL.out.three _ (fun r hr => by have := (HFL.out.2 r hr).1; omega) _ _ _).1, HBL.out.trans (three_below _ _ _ _ _ _ (Nat.le_refl _))⟩


attribute [local irreducible] Calls World.alloc in
set_option maxHeartbeats 4000000 in
theorem DrawDeblockRef_c (a : Option Addr) (c : Nat) (l : List Int) (w : World) (hl : l.length ≤ 1048576) (hr : RowB w a l) (hw : ∀ x ∈ l, 0 ≤ x ∧ x ≤ 255) :
    Calls Try.prog 9 #[.slice a l.length c] w fun e w' => ∃ (X : Int) (Y : Nat) (x : Option Addr) (d : Nat) (L : List Int) (q : Int), e = .returned (.tuple #[frv X Y x L.length d, .int .i64 q]) ∧ (0 ≤ X ∧ X ≤ 40) ∧ (8 ≤ Y ∧ Y ≤ 16) ∧ (-1 ≤ q ∧ q ≤ 52) ∧ (0 < L.length ∧ L.length ≤ 384) ∧ L.length ≤ d ∧ (∀ z ∈ L, -1 ≤ z ∧ z ≤ 256) ∧ Row w' x L ∧ Below w.heap.size w w' := by
  have al : Below w.heap.size w (w.alloc (.cells #[.int .i64 0, .int .i64 0, .slice none 0 0] 26)) := (Below.refl _ _).alloc (Nat.le_refl _) _
  have hZ := Box3.new w 26 (.int .i64 0) (.int .i64 0) (.slice none 0 0)
  have hZF : ∀ i, (w.alloc (.cells #[.int .i64 0, .int .i64 0, .slice none 0 0] 26)).frozen? ⟨w.heap.size, i, none⟩ = false := fun i => by simp [go_sem]
  have hsz : (w.alloc (.cells #[.int .i64 0, .int .i64 0, .slice none 0 0] 26)).heap.size = w.heap.size + 1 := by simp
  have HN0 := Lib.hid (l1New_c a c l (w.alloc (.cells #[.int .i64 0, .int .i64 0, .slice none 0 0] 26)) hl (hr.below al (Nat.le_refl _)) hw)
  have HAL := Lib.hid al
  have HZ := Lib.hid hZ
  have HZF := Lib.hid hZF
  have HSZ := Lib.hid hsz
  clear hr hw al hZ hZF hsz
  go_enter Try.func9, Try.ntmps9
  go_wp2_with fail
  refine HN0.out.mono ?_
  rintro e w1 ⟨g, rfl, hcu, hgw, hb0⟩
  have hgl : g < w1.heap.size := hcu.1
  rw [HSZ.out] at hgw
  have hgr : g ≠ w.heap.size := by omega
  have HB1 := Lib.hid (HAL.out.trans (hb0.mono (by rw [HSZ.out]; omega)))
  have HG := Lib.hid hgw
  have hr1 := HZ.out.below hb0 (Nat.le_refl _)
  have hf1 : ∀ i, w1.frozen? ⟨w.heap.size, i, none⟩ = false := fun i => (hb0.frozen (p := ⟨w.heap.size, i, none⟩) (by show w.heap.size < _; rw [HSZ.out]; omega)).trans (HZF.out i)
  have HR1 := Lib.hid hr1
  have HF1 := Lib.hid hf1
  clear hr1 hf1 hb0 HN0 HZ HZF
  go_wp2_with fail
  refine (l18Any_d w1 g a c l w1 (Dr.start hcu)).mono ?_
  rintro e w2 ⟨X, Y, x, d, L, rfl, hX, hY, hLl, hLd, hLb, hfL, hdr2, hd2⟩
  go_wp2_with fail
  refine (l20Q_d w1 g a c l w2 hdr2).mono ?_
  rintro e w3 ⟨q, rfl, hq, hdr3, hd3⟩
  have hd13 := D.trans hd2 hd3
  have hr2 := HR1.out.grown (a := some ⟨g, 0, none⟩) hd13 (fun p hp => by cases hp; exact hgr)
  have hf2 := frozen_curF hd13 HR1.out.1 hgr HF1.out
  have HR2 := Lib.hid hr2
  have HBL := Lib.hid (D.below HB1.out hdr3.2 HB1.out.size (by have := HG.out; omega))
  have HLB := Lib.hid hLb
  have HFL := Lib.hid (hfL.cur hd3 hgl)
  have hs1 : w.heap.size < w1.heap.size := by have := HR1.out.1; omega
  obtain ⟨_, r0, r1, r2⟩ := hr2
  have q0 := hf2 0
  have q1 := hf2 1
  have q2 := hf2 2
  clear hf2 hLb hfL hdr2 hd2 hdr3 hd3 hd13 hcu hgw
  go_wp2
  obtain ⟨_, r0, r1, r2⟩ := HR2.out
  have hT := three_set (.int .i64 X) (.int .i64 Y) (.slice x L.length d) r0 r1 r2
  refine bodyPost_ret (v := .tuple #[frv X Y x L.length d, .int .i64 q]) (by simp [results, Try.results9, go_sem, hT]) rfl ?_
  exact ⟨X, Y, x, d, L, q, rfl, hX, hY, hq, hLl, hLd, HLB.out, (HFL.out.three _ (fun r hr => by have := (HFL.out.2 r hr).1; omega) _ _ _).1, HBL.out.trans (three_below _ _ _ _ _ _ (Nat.le_refl _))⟩


attribute [local irreducible] Calls World.alloc in
set_option maxHeartbeats 4000000 in
theorem DrawSetBlock_c (a : Option Addr) (c : Nat) (l : List Int) (w : World) (hl : l.length ≤ 1048576) (hr : RowB w a l) (hw : ∀ x ∈ l, 0 ≤ x ∧ x ≤ 255) :
    Calls Try.prog 30 #[.slice a l.length c] w fun e w' => ∃ (X Y : Nat) (x : Option Addr) (d : Nat) (L : List Int) (u v : Int) (y : Option Addr) (q : Nat) (M : List Int), e = .returned (.tuple #[frv X Y x L.length d, .int .i64 u, .int .i64 v, .slice y M.length q]) ∧ X ≤ 40 ∧ Y ≤ 16 ∧ (-4 ≤ u ∧ u ≤ 1000 ∧ 0 ≤ v ∧ v ≤ 1000) ∧ (0 < L.length ∧ L.length ≤ 384) ∧ L.length ≤ d ∧ (∀ z ∈ L, -1 ≤ z ∧ z ≤ 256) ∧ M.length ≤ 256 ∧ M.length ≤ q ∧ (∀ z ∈ M, 0 ≤ z ∧ z ≤ 256) ∧ Row w' x L ∧ Row w' y M ∧ Below w.heap.size w w' := by
  have al : Below w.heap.size w (w.alloc (.cells #[.int .i64 0, .int .i64 0, .slice none 0 0] 26)) := (Below.refl _ _).alloc (Nat.le_refl _) _
  have hZ := Box3.new w 26 (.int .i64 0) (.int .i64 0) (.slice none 0 0)
  have hZF : ∀ i, (w.alloc (.cells #[.int .i64 0, .int .i64 0, .slice none 0 0] 26)).frozen? ⟨w.heap.size, i, none⟩ = false := fun i => by simp [go_sem]
  have hsz : (w.alloc (.cells #[.int .i64 0, .int .i64 0, .slice none 0 0] 26)).heap.size = w.heap.size + 1 := by simp
  have HN0 := Lib.hid (l1New_c a c l (w.alloc (.cells #[.int .i64 0, .int .i64 0, .slice none 0 0] 26)) hl (hr.below al (Nat.le_refl _)) hw)
  have HAL := Lib.hid al
  have HZ := Lib.hid hZ
  have HZF := Lib.hid hZF
  have HSZ := Lib.hid hsz
  have hmax := max_if
  clear hr hw al hZ hZF hsz
  go_enter Try.func30, Try.ntmps30
  go_wp2_with fail
  refine HN0.out.mono ?_
  rintro e w1 ⟨g, rfl, hcu, hgw, hb0⟩
  have hgl : g < w1.heap.size := hcu.1
  rw [HSZ.out] at hgw
  have hgr : g ≠ w.heap.size := by omega
  have HB1 := Lib.hid (HAL.out.trans (hb0.mono (by rw [HSZ.out]; omega)))
  have HG := Lib.hid hgw
  have hr1 := HZ.out.below hb0 (Nat.le_refl _)
  have hf1 : ∀ i, w1.frozen? ⟨w.heap.size, i, none⟩ = false := fun i => (hb0.frozen (p := ⟨w.heap.size, i, none⟩) (by show w.heap.size < _; rw [HSZ.out]; omega)).trans (HZF.out i)
  have HR1 := Lib.hid hr1
  have HF1 := Lib.hid hf1
  clear hr1 hf1 hb0 HN0 HZ HZF
  go_wp2_with fail
  refine (l18Spot_d w1 g a c l w1 (Dr.start hcu)).mono ?_
  rintro e w2 ⟨X, Y, x, d, L, u, v, t, rfl, hX, hY, huv, hLl, hLd, hLb, hfL, hdr2, hd2⟩
  have HN := Lib.hid (Frb.mk (p := d) (X := (X : Int)) (Y := (Y : Int)) hgl HR1.out.1 hgr hd2.size (HR1.out.grown (a := some ⟨g, 0, none⟩) hd2 (fun p hp => by cases hp; exact hgr)) (frozen_curF hd2 HR1.out.1 hgr HF1.out) hfL hdr2)
  have HLB := Lib.hid hLb
  have HUV : Hid (-4 ≤ u ∧ u ≤ 1000 ∧ 0 ≤ v ∧ v ≤ 1000) := Lib.hid (by omega)
  obtain ⟨tt, htt⟩ : ∃ z, t * t = z := ⟨_, rfl⟩
  have httb : 0 ≤ tt ∧ tt ≤ 16 * 16 := by rw [← htt]; exact ⟨Int.mul_nonneg (by omega) (by omega), Int.mul_le_mul (by omega) (by omega) (by omega) (by omega)⟩
  have httw : IntKind.i64.wrap (t * t) = tt := by rw [htt]; exact IntWalk.i64_in _ (by omega)
  have hmt : max 0 tt = tt := by omega
  have hs1 : w.heap.size < w1.heap.size := by have := HR1.out.1; omega
  have hs2 : w1.heap.size ≤ w2.heap.size := hd2.size
  obtain ⟨k, hk⟩ : ∃ k, k = w2.heap.size := ⟨_, rfl⟩
  have HXB : Hid (∀ q, x = some q → q.block < w2.heap.size) := Lib.hid hfL.lt
  clear hLb hfL hdr2 hd2 hcu hgw huv HR1 HF1
  go_wp2_with fail
  rw [← hk] at HN HXB ⊢
  obtain ⟨wB, hwB⟩ : ∃ wB, wB = w2.alloc (.cells #[.int .i64 X, .int .i64 Y, .slice x L.length d] 26) := ⟨_, rfl⟩
  rw [← hwB] at HN ⊢
  have hkr : ¬ (k = w.heap.size) := by omega
  have hkr' : ¬ (w.heap.size = k) := by omega
  have hkB : k + 1 = wB.heap.size := by rw [hwB, hk]; simp
  have hw3 : w1.heap.size ≤ wB.heap.size := by omega
  have hk1 : w1.heap.size ≤ k := by omega
  clear hwB hk htt httw
  refine (l14Line_d w1 g a c l tt wB (by omega) HN.out.dr).mono ?_
  rintro e w3 ⟨y, q, M, rfl, hMl, hMb, hoM, hdr3, hd3⟩
  have hN3 := HN.out.cur hdr3 hd3
  obtain ⟨m, hm⟩ : ∃ m, M.length = m := ⟨_, rfl⟩
  have HML := Lib.hid hm
  have hMl2 : m ≤ 256 := by omega
  have HMC := Lib.hid hoM.cap
  have HMB := Lib.hid hMb
  rw [hm] at HMC ⊢
  clear HN hdr3 hd3 hMl hMb hmt hm
  have HN := Lib.hid hN3
  clear hN3
  by_cases hM : m = 0
  · subst hM
    obtain ⟨_, r0, r1, r2⟩ := HN.out.res
    obtain ⟨_, k0, k1, k2⟩ := HN.out.box
    have q0 := HN.out.2.1 0
    have q1 := HN.out.2.1 1
    have q2 := HN.out.2.1 2
    have HOM := Lib.hid hoM
    clear hoM
    go_wp2
    obtain ⟨_, r0, r1, r2⟩ := HN.out.res
    have hT := three_set (.int .i64 X) (.int .i64 Y) (.slice x L.length d) r0 r1 r2
    refine bodyPost_ret (v := .tuple #[frv X Y x L.length d, .int .i64 u, .int .i64 v, .slice y 0 q]) (by simp [results, Try.results30, go_sem, hT]) rfl ?_
    exact ⟨X, Y, x, d, L, u, v, y, q, M, by rw [HML.out], hX, hY.2, HUV.out, hLl, hLd, HLB.out, by rw [HML.out]; exact hMl2, by rw [HML.out]; exact HMC.out, fun z hz => by have := HMB.out z hz; omega, (HN.out.frs.three _ (fun r hr => by have := (HN.out.frs.2 r hr).1; omega) _ _ _).1, (HOM.out.frs.three _ (fun r hr => by have := (HOM.out.frs.2 r hr).1; omega) _ _ _).1, (D.below HB1.out HN.out.dr.2 HB1.out.size (by have := HG.out; omega)).trans (three_below _ _ _ _ _ _ (Nat.le_refl _))⟩
  · have hMz : decide ((0 : Int) < (m : Int)) = true := decide_eq_true (by omega)
    have hMz2 : decide (0 < m) = true := decide_eq_true (by omega)
    have hMp : (0 : Int) < (m : Int) := by omega
    go_wp2_with fail
    refine (l1Once_d w1 g a c l 10 w3 (by omega) HN.out.dr).mono ?_
    rintro e w4 ⟨bb, rfl, hdr4, hd4⟩
    have hN4 := HN.out.cur hdr4 hd4
    have hoM4 := hoM.cur hd4 (by omega)
    clear HN hdr4 hd4 hoM
    have HN := Lib.hid hN4
    have HOM := Lib.hid hoM4
    obtain ⟨_, r0, r1, r2⟩ := hN4.res
    obtain ⟨_, k0, k1, k2⟩ := hN4.box
    have q0 := hN4.2.1 0
    have q1 := hN4.2.1 1
    have q2 := hN4.2.1 2
    clear hN4
    cases bb
    · clear hoM4
      go_wp2
      obtain ⟨_, r0, r1, r2⟩ := HN.out.res
      have hT := three_set (.int .i64 X) (.int .i64 Y) (.slice x L.length d) r0 r1 r2
      refine bodyPost_ret (v := .tuple #[frv X Y x L.length d, .int .i64 u, .int .i64 v, .slice y m q]) (by simp [results, Try.results30, go_sem, hT]) rfl ?_
      exact ⟨X, Y, x, d, L, u, v, y, q, M, by rw [HML.out], hX, hY.2, HUV.out, hLl, hLd, HLB.out, by rw [HML.out]; exact hMl2, by rw [HML.out]; exact HMC.out, fun z hz => by have := HMB.out z hz; omega, (HN.out.frs.three _ (fun r hr => by have := (HN.out.frs.2 r hr).1; omega) _ _ _).1, (HOM.out.frs.three _ (fun r hr => by have := (HOM.out.frs.2 r hr).1; omega) _ _ _).1, (D.below HB1.out HN.out.dr.2 HB1.out.size (by have := HG.out; omega)).trans (three_below _ _ _ _ _ _ (Nat.le_refl _))⟩
    · obtain ⟨gm, rfl, hgm, _, m0, fm, hmst⟩ := hoM4.at_ (i := 0) (by rw [HML.out]; omega)
      have hgmk : ¬ (gm = k) := by omega
      have hgmk' : ¬ (k = gm) := by omega
      have hgmr : ¬ (gm = w.heap.size) := by omega
      have hgmr' : ¬ (w.heap.size = gm) := by omega
      obtain ⟨hmst, hmg⟩ := hmst 256
      have HMS := Lib.hid hmst
      have HMG := Lib.hid hmg
      have HXL : Hid (Frs w1.heap.size (w4.setCell ⟨gm, 0, none⟩ (.int .i64 256)) x L) := Lib.hid (HN.out.frs.farF (p := ⟨gm, 0, none⟩) (fun q hq => by have := HXB.out q hq; show q.block ≠ gm; omega) _)
      clear hoM4 hmst hmg
      go_wp2
      obtain ⟨_, r0, r1, r2⟩ := HN.out.res.farF (p := ⟨gm, 0, none⟩) hgmr (.int .i64 256)
      have hT := three_set (.int .i64 X) (.int .i64 Y) (.slice x L.length d) r0 r1 r2
      refine bodyPost_ret (v := .tuple #[frv X Y x L.length d, .int .i64 u, .int .i64 v, .slice (some ⟨gm, 0, none⟩) m q]) (by simp [results, Try.results30, go_sem, hT]) rfl ?_
      have hb4 : Below w.heap.size w (w4.setCell ⟨gm, 0, none⟩ (.int .i64 256)) := (D.below HB1.out HN.out.dr.2 HB1.out.size (by have := HG.out; omega)).setCell (p := ⟨gm, 0, none⟩) (by show w.heap.size ≤ gm; omega) _
      exact ⟨X, Y, x, d, L, u, v, _, q, M.set 0 256, by rw [List.length_set, HML.out], hX, hY.2, HUV.out, hLl, hLd, HLB.out, by rw [List.length_set, HML.out]; exact hMl2, by rw [List.length_set, HML.out]; exact HMC.out, fun z hz => (mem_set hz).elim (fun h => by have := HMB.out z h; omega) (fun h => by omega), (HXL.out.three _ (fun r hr => by have := (HXL.out.2 r hr).1; omega) _ _ _).1, (HMS.out.frs.three _ (fun r hr => by have := (HMS.out.frs.2 r hr).1; omega) _ _ _).1, hb4.trans (three_below _ _ _ _ _ _ (Nat.le_refl _))⟩

end Go.Proofs.Ytkfjbnhihjnhnaa
