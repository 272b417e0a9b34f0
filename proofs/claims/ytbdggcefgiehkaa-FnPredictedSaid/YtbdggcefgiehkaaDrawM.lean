/- Contracts of the draws of neighbourhoods with a side, a mode, a row. -/
import Derived.Test.YtbdggcefgiehkaaDrawN
namespace Go.Proofs.Ytbdggcefgiehkaa
open Go.RowKit
set_option linter.unusedVariables false

theorem Nbs.mk {w w1 : World} {g : Nat} {a : Option Addr} {c : Nat} {l : List Int} {x : Option Addr} {p : Nat} {L : List Int} {y : Option Addr} {q : Nat} {M : List Int} {C : Int} {T H : Bool} (hg : g < w.heap.size) (hb : Box5 w1 w.heap.size (.slice none 0 0) (.slice none 0 0) (.int .i64 0) (.bool false) (.bool false)) (hf : ∀ i, w1.frozen? ⟨w.heap.size, i, none⟩ = false) (h1 : Frs (w.heap.size + 1) w1 x L) (h2 : Frs (w.heap.size + 1) w1 y M) (hd : Dr w g a c l w1) :
    Nbs w g a c l w1.heap.size (.slice x L.length p) (.slice y M.length q) (.int .i64 C) (.bool T) (.bool H) x L y M (w1.alloc (.cells #[.slice x L.length p, .slice y M.length q, .int .i64 C, .bool T, .bool H] 27)) := by
  have al : Below w1.heap.size w1 (w1.alloc (.cells #[.slice x L.length p, .slice y M.length q, .int .i64 C, .bool T, .bool H] 27)) := (Below.refl _ _).alloc (Nat.le_refl _) _
  exact ⟨hb.below al (Nat.le_refl _), fun i => (al.frozen (p := ⟨w.heap.size, i, none⟩) hb.1).trans (hf i), Box5.new _ _ _ _ _ _ _, fun i => by simp [go_sem], h1.below al h1.lt, h2.below al h2.lt, hd.alloc _, hg, hb.1, fun q hq => Nat.ne_of_lt (h1.lt q hq), fun q hq => Nat.ne_of_lt (h2.lt q hq)⟩


attribute [local irreducible] Calls World.alloc in
set_option maxHeartbeats 4000000 in
theorem l14Draw_d (W : World) (g : Nat) (a : Option Addr) (c : Nat) (l : List Int) (w : World) (h : Dr W g a c l w) :
    Calls Try.prog 59 #[.pointer (some ⟨g, 0, none⟩)] w fun e w' => ∃ (x : Option Addr) (p : Nat) (L : List Int) (y : Option Addr) (q : Nat) (M : List Int) (C : Int) (T H : Bool) (n : Int), e = .returned (.tuple #[nbv x L.length p y M.length q C T H, .int .i64 n]) ∧ (L.length ≤ 16 ∧ L.length ≤ p ∧ M.length ≤ 8 ∧ M.length ≤ q) ∧ (∀ z ∈ L, -1 ≤ z ∧ z ≤ 256) ∧ (∀ z ∈ M, -1 ≤ z ∧ z ≤ 256) ∧ (-1 ≤ C ∧ C ≤ 256) ∧ (0 ≤ n ∧ n ≤ 8) ∧ Frs w.heap.size w' x L ∧ Frs w.heap.size w' y M ∧ Dr W g a c l w' ∧ w.grownBy w' (some g) := by
  have hL := Lib.hid h.low
  have HH := Lib.hid h
  have HZ := Lib.hid (Box5.new w 27 (.slice none 0 0) (.slice none 0 0) (.int .i64 0) (.bool false) (.bool false))
  have HZF : Hid (∀ i, (w.alloc (.cells #[.slice none 0 0, .slice none 0 0, .int .i64 0, .bool false, .bool false] 27)).frozen? ⟨w.heap.size, i, none⟩ = false) := Lib.hid (fun i => by simp [go_sem])
  have H0 := Lib.hid ((Dr.start h.1).alloc (.cells #[.slice none 0 0, .slice none 0 0, .int .i64 0, .bool false, .bool false] 27))
  have hp := l1PickInt_d w g a c l [4, 4, 8] #[.int .i64 4, .int .i64 4, .int .i64 8] 3 (w.alloc (.cells #[.slice none 0 0, .slice none 0 0, .int .i64 0, .bool false, .bool false] 27)) (by simp) rfl rfl H0.out
  rw [show (w.alloc (.cells #[.slice none 0 0, .slice none 0 0, .int .i64 0, .bool false, .bool false] 27)).heap.size = w.heap.size + 1 from by simp] at hp
  have HP := Lib.hid hp
  have hgw := h.1.1
  clear h hp
  go_enter Try.func59, Try.ntmps59
  go_wp2_with fail
  refine HP.out.mono ?_
  rintro e w1 ⟨n, rfl, hn, hdr1, hd1⟩
  obtain ⟨m, rfl, hm⟩ : ∃ m : Nat, n = m ∧ (m = 4 ∨ m = 8) := by
    simp at hn
    rcases hn with h | h
    · exact ⟨4, h, .inl rfl⟩
    · exact ⟨8, h, .inr rfl⟩
  clear hn
  go_wp2_with fail
  refine (l14Nb_d w g a c l m w1 hm hdr1).mono ?_
  rintro e w2 ⟨x, p, L, y, q, M, C, T, H, rfl, hlen, hLb, hMb, hCb, hfL, hfM, hdr2, hd2⟩
  have hdA := D.trans hd1 hd2
  have hs1 : w.heap.size + 1 ≤ w1.heap.size := by have := hd1.size; simp at this; omega
  have HN := Lib.hid (Nbs.mk (p := p) (q := q) (C := C) (T := T) (H := H) hgw (HZ.out.grown (a := some ⟨g, 0, none⟩) hdA (fun p hp => by cases hp; exact Nat.ne_of_lt hgw)) (frozen_cur hdA (by simp) (Nat.ne_of_lt hgw) HZF.out) (hfL.mono hs1) (hfM.mono hs1) hdr2)
  have HLB := Lib.hid hLb
  have HMB := Lib.hid hMb
  obtain ⟨k, hk⟩ : ∃ k, k = w2.heap.size := ⟨_, rfl⟩
  clear hLb hMb hfL hfM hdr1 hdr2 hd1 hd2 hdA hs1 HZ HZF H0
  go_wp2_with fail
  rw [← hk] at HN ⊢
  clear hk
  obtain ⟨wB, hwB⟩ : ∃ wB, wB = w2.alloc (.cells #[.slice x L.length p, .slice y M.length q, .int .i64 C, .bool T, .bool H] 27) := ⟨_, rfl⟩
  rw [← hwB] at HN ⊢
  clear hwB
  refine (l1Once_d w g a c l 14 wB (by omega) HN.out.2.2.2.2.2.2.1).mono ?_
  rintro e w3 ⟨bb, rfl, hdr3, hd3⟩
  have hN := HN.out.cur hdr3 hd3
  clear HN hdr3 hd3
  have HN := Lib.hid hN
  clear hN
  have hkr : ¬ (k = w.heap.size) := by have := HN.out.2.2.2.2.2.2.2.2.1; omega
  have hkr' : ¬ (w.heap.size = k) := by omega
  cases bb
  · obtain ⟨_, r0, r1, r2, r3, r4⟩ := HN.out.1
    obtain ⟨_, k0, k1, k2, k3, k4⟩ := HN.out.2.2.1
    have q0 := HN.out.2.1 0
    have q1 := HN.out.2.1 1
    have q2 := HN.out.2.1 2
    have q3 := HN.out.2.1 3
    have q4 := HN.out.2.1 4
    go_wp2
    obtain ⟨hrb, hrf, hkb, hkf, hfL, hfM, hdr, _, hwk, hxk, hyk⟩ := HN.out
    have hF5 := ((((hrb.s0 (.slice x L.length p)).s1 (.slice y M.length q)).s2 (.int .i64 C)).s3 (.bool T)).s4 (.bool H)
    obtain ⟨_, z0, z1, z2, z3, z4⟩ := hF5
    refine bodyPost_ret (v := .tuple #[.agg #[.slice x L.length p, .slice y M.length q, .int .i64 C, .bool T, .bool H], .int .i64 m]) (by simp [results, Try.results59, go_sem, z0, z1, z2, z3, z4]) rfl ?_
    have hfin := hdr.owned (five_below w3 w.heap.size w.heap.size (.slice x L.length p) (.slice y M.length q) (.int .i64 C) (.bool T) (.bool H) (Nat.le_refl _)) (Nat.le_refl _) hL.out
    exact ⟨x, p, L, y, q, M, C, T, H, m, rfl, hlen, HLB.out, HMB.out, hCb, by omega, (hfL.mono (Nat.le_succ _)).five _ (fun r hr => by have := (hfL.2 r hr).1; omega) _ _ _ _ _, (hfM.mono (Nat.le_succ _)).five _ (fun r hr => by have := (hfM.2 r hr).1; omega) _ _ _ _ _, HH.out.next hfin.1 hfin.2, hfin.2⟩
  · obtain ⟨_, r0, r1, r2, r3, r4⟩ := HN.out.1
    obtain ⟨_, k0, k1, k2, k3, k4⟩ := HN.out.2.2.1
    have q0 := HN.out.2.1 0
    have q1 := HN.out.2.1 1
    have q2 := HN.out.2.1 2
    have q3 := HN.out.2.1 3
    have q4 := HN.out.2.1 4
    go_wp2_with fail
    go_region_held3 (fun w' => w'.cell? ⟨k, 0, none⟩ = some (.slice x L.length p) ∧ w'.cell? ⟨k, 1, none⟩ = some (.slice y M.length q) ∧ w'.cell? ⟨k, 2, none⟩ = some (.int .i64 C) ∧ w'.cell? ⟨k, 3, none⟩ = some (.bool T) ∧ w'.cell? ⟨k, 4, none⟩ = some (.bool H)) (first | go_keep | (simp [hkr, hkr', s0, s1, s2, s3, s4]; done) | (simp [hkr, hkr', k0, k1, k2, k3, k4]; done))
      ((first
        | (go_at_call 56; refine (l1PickInt_r w g a c l [4, 8, 5, 0] w3.heap.size 4 _ (by simp) ((Own.lit (B := 0) w3 #[.int .i64 4, .int .i64 8, .int .i64 5, .int .i64 0] [4, 8, 5, 0] rfl (Nat.zero_le _) (by simp [maxLen])).row.drew) (Nat.ne_of_gt HN.out.2.2.2.2.2.2.1.lt) rfl ((HN.out.2.2.2.2.2.2.1.alloc _).drew)).mono ?_; rintro e w8 ⟨u, rfl, hu, hdr8, hd8⟩; have hN8 : Nbs w g a c l k (.slice x L.length p) (.slice y M.length q) (.int .i64 C) (.bool T) (.bool H) x L y M w8 := (HN.out.alloc _).drew.cur hdr8 hd8; have s0 := hN8.2.2.1.2.1; have s1 := hN8.2.2.1.2.2.1; have s2 := hN8.2.2.1.2.2.2.1; have s3 := hN8.2.2.1.2.2.2.2.1; have s4 := hN8.2.2.1.2.2.2.2.2; have y0 := hN8.1.2.1; have y1 := hN8.1.2.2.1; have y2 := hN8.1.2.2.2.1; have y3 := hN8.1.2.2.2.2.1; have y4 := hN8.1.2.2.2.2.2; have x0 := hN8.2.1 0; have x1 := hN8.2.1 1; have x2 := hN8.2.1 2; have x3 := hN8.2.1 3; have x4 := hN8.2.1 4)))
    have hub : 0 ≤ u ∧ u ≤ 8 := by simp at hu; omega
    have HN := Lib.hid hN8
    clear hN8 hdr8 hd8 hu
    go_wp2
    obtain ⟨hrb, hrf, hkb, hkf, hfL, hfM, hdr, _, hwk, hxk, hyk⟩ := HN.out
    have hF5 := ((((hrb.s0 (.slice x L.length p)).s1 (.slice y M.length q)).s2 (.int .i64 C)).s3 (.bool T)).s4 (.bool H)
    obtain ⟨_, z0, z1, z2, z3, z4⟩ := hF5
    refine bodyPost_ret (v := .tuple #[.agg #[.slice x L.length p, .slice y M.length q, .int .i64 C, .bool T, .bool H], .int .i64 u]) (by simp [results, Try.results59, go_sem, z0, z1, z2, z3, z4]) rfl ?_
    have hfin := hdr.owned (five_below w8 w.heap.size w.heap.size (.slice x L.length p) (.slice y M.length q) (.int .i64 C) (.bool T) (.bool H) (Nat.le_refl _)) (Nat.le_refl _) hL.out
    exact ⟨x, p, L, y, q, M, C, T, H, u, rfl, hlen, HLB.out, HMB.out, hCb, hub, (hfL.mono (Nat.le_succ _)).five _ (fun r hr => by have := (hfL.2 r hr).1; omega) _ _ _ _ _, (hfM.mono (Nat.le_succ _)).five _ (fun r hr => by have := (hfM.2 r hr).1; omega) _ _ _ _ _, HH.out.next hfin.1 hfin.2, hfin.2⟩

/-- the same for a box that lies before the cursor -/
def Nbd (W : World) (g : Nat) (a : Option Addr) (c : Nat) (l : List Int) (B r k : Nat) (v0 v1 v2 v3 v4 : Value) (x : Option Addr) (L : List Int) (y : Option Addr) (M : List Int) (wz : World) : Prop :=
  Box5 wz r (.slice none 0 0) (.slice none 0 0) (.int .i64 0) (.bool false) (.bool false) ∧ (∀ i, wz.frozen? ⟨r, i, none⟩ = false) ∧ Box5 wz k v0 v1 v2 v3 v4 ∧ Frs B wz x L ∧ Frs B wz y M ∧ Dr W g a c l wz ∧ g < B ∧ r < B ∧ B ≤ k ∧ g ≠ r
theorem Nbd.mk {W w1 : World} {g : Nat} {a : Option Addr} {c : Nat} {l : List Int} {B r : Nat} {x : Option Addr} {p : Nat} {L : List Int} {y : Option Addr} {q : Nat} {M : List Int} {C : Int} {T H : Bool} (hg : g < B) (hr : r < B) (hgr : g ≠ r) (hB : B ≤ w1.heap.size) (hb : Box5 w1 r (.slice none 0 0) (.slice none 0 0) (.int .i64 0) (.bool false) (.bool false)) (hf : ∀ i, w1.frozen? ⟨r, i, none⟩ = false) (h1 : Frs B w1 x L) (h2 : Frs B w1 y M) (hd : Dr W g a c l w1) :
    Nbd W g a c l B r w1.heap.size (.slice x L.length p) (.slice y M.length q) (.int .i64 C) (.bool T) (.bool H) x L y M (w1.alloc (.cells #[.slice x L.length p, .slice y M.length q, .int .i64 C, .bool T, .bool H] 27)) := by
  have al : Below w1.heap.size w1 (w1.alloc (.cells #[.slice x L.length p, .slice y M.length q, .int .i64 C, .bool T, .bool H] 27)) := (Below.refl _ _).alloc (Nat.le_refl _) _
  exact ⟨hb.below al (Nat.le_refl _), fun i => (al.frozen (p := ⟨r, i, none⟩) hb.1).trans (hf i), Box5.new _ _ _ _ _ _ _, h1.below al h1.lt, h2.below al h2.lt, hd.alloc _, hg, hr, hB, hgr⟩
theorem Nbd.cur {W : World} {g : Nat} {a : Option Addr} {c : Nat} {l : List Int} {B r k : Nat} {v0 v1 v2 v3 v4 : Value} {x : Option Addr} {L : List Int} {y : Option Addr} {M : List Int} {wz w' : World} (h : Nbd W g a c l B r k v0 v1 v2 v3 v4 x L y M wz) (hdr : Dr W g a c l w') (hd : wz.grownBy w' (some g)) : Nbd W g a c l B r k v0 v1 v2 v3 v4 x L y M w' := by
  obtain ⟨h1, h2, h3, h5, h6, h7, h8, h9, h10, h11⟩ := h
  exact ⟨h1.grown (a := some ⟨g, 0, none⟩) hd (fun p hp => by cases hp; exact h11), frozen_cur hd h1.1 h11 h2, h3.grown (a := some ⟨g, 0, none⟩) hd (fun p hp => by cases hp; show g ≠ k; omega), h5.cur hd h8, h6.cur hd h8, hdr, h8, h9, h10, h11⟩
theorem Nbd.drew {W : World} {g : Nat} {a : Option Addr} {c : Nat} {l : List Int} {B r k : Nat} {v0 v1 v2 v3 v4 : Value} {x : Option Addr} {L : List Int} {y : Option Addr} {M : List Int} {wz : World} (h : Nbd W g a c l B r k v0 v1 v2 v3 v4 x L y M wz) : Nbd W g a c l B r k v0 v1 v2 v3 v4 x L y M wz.drew := by
  obtain ⟨h1, h2, h3, h5, h6, h7, h8, h9, h10, h11⟩ := h
  exact ⟨h1, h2, h3, h5, h6, h7.drew, h8, h9, h10, h11⟩

attribute [local irreducible] Calls World.alloc in
set_option maxHeartbeats 4000000 in
theorem DrawSlopeRow_c (a : Option Addr) (c : Nat) (l : List Int) (w : World) (hl : l.length ≤ 1048576) (hr : RowB w a l) (hw : ∀ x ∈ l, 0 ≤ x ∧ x ≤ 255) :
    Calls Try.prog 17 #[.slice a l.length c] w fun e w' => ∃ (x : Option Addr) (p : Nat) (L : List Int) (y : Option Addr) (q : Nat) (M : List Int) (C : Int) (T H : Bool) (n z : Int), e = .returned (.tuple #[nbv x L.length p y M.length q C T H, .int .i64 n, .int .i64 z]) ∧ (L.length ≤ 16 ∧ L.length ≤ p ∧ M.length ≤ 8 ∧ M.length ≤ q) ∧ (∀ z ∈ L, -1 ≤ z ∧ z ≤ 256) ∧ (∀ z ∈ M, -1 ≤ z ∧ z ≤ 256) ∧ (-1 ≤ C ∧ C ≤ 256) ∧ (0 ≤ n ∧ n ≤ 8) ∧ (-1 ≤ z ∧ z ≤ 5) ∧ Row w' x L ∧ Row w' y M ∧ Below w.heap.size w w' := by
  have al : Below w.heap.size w (w.alloc (.cells #[.slice none 0 0, .slice none 0 0, .int .i64 0, .bool false, .bool false] 27)) := (Below.refl _ _).alloc (Nat.le_refl _) _
  have hZ := Box5.new w 27 (.slice none 0 0) (.slice none 0 0) (.int .i64 0) (.bool false) (.bool false)
  have hZF : ∀ i, (w.alloc (.cells #[.slice none 0 0, .slice none 0 0, .int .i64 0, .bool false, .bool false] 27)).frozen? ⟨w.heap.size, i, none⟩ = false := fun i => by simp [go_sem]
  have hsz : (w.alloc (.cells #[.slice none 0 0, .slice none 0 0, .int .i64 0, .bool false, .bool false] 27)).heap.size = w.heap.size + 1 := by simp
  have HN0 := Lib.hid (l1New_c a c l (w.alloc (.cells #[.slice none 0 0, .slice none 0 0, .int .i64 0, .bool false, .bool false] 27)) hl (hr.below al (Nat.le_refl _)) hw)
  have HAL := Lib.hid al
  have HZ := Lib.hid hZ
  have HZF := Lib.hid hZF
  have HSZ := Lib.hid hsz
  clear hr hw al hZ hZF hsz
  go_enter Try.func17, Try.ntmps17
  go_wp2_with fail
  refine HN0.out.mono ?_
  rintro e w1 ⟨g, rfl, hcu, hgw, hb0⟩
  have hgl : g < w1.heap.size := hcu.1
  rw [HSZ.out] at hgw
  have hgr : g ≠ w.heap.size := by omega
  have HB1 := Lib.hid (HAL.out.trans (hb0.mono (by rw [HSZ.out]; omega)))
  have HG := Lib.hid hgw
  have hr1 := HZ.out.below hb0 (Nat.le_refl _)
  have hf1 : ∀ i, w1.frozen? ⟨w.heap.size, i, none⟩ = false := fun i => (hb0.frozen (p := ⟨w.heap.size, i, none⟩) (by show w.heap.size < _; rw [HSZ.out]; omega)).trans (HZF.out i)
  go_wp2_with fail
  refine (l14Draw_d w1 g a c l w1 (Dr.start hcu)).mono ?_
  rintro e w2 ⟨x, p, L, y, q, M, C, T, H, n, rfl, hlen, hLb, hMb, hCb, hnb, hfL, hfM, hdr2, hd2⟩
  have HN := Lib.hid (Nbd.mk (p := p) (q := q) (C := C) (T := T) (H := H) hgl hr1.1 hgr hd2.size (hr1.grown (a := some ⟨g, 0, none⟩) hd2 (fun p hp => by cases hp; exact hgr)) (frozen_cur hd2 hr1.1 hgr hf1) hfL hfM hdr2)
  have HLB := Lib.hid hLb
  have HMB := Lib.hid hMb
  obtain ⟨k, hk⟩ : ∃ k, k = w2.heap.size := ⟨_, rfl⟩
  clear hLb hMb hfL hfM hdr2 hd2 hcu hb0 hr1 hf1 hgw HZ HZF HAL HN0
  go_wp2_with fail
  rw [← hk] at HN ⊢
  clear hk
  obtain ⟨wB, hwB⟩ : ∃ wB, wB = w2.alloc (.cells #[.slice x L.length p, .slice y M.length q, .int .i64 C, .bool T, .bool H] 27) := ⟨_, rfl⟩
  rw [← hwB] at HN ⊢
  clear hwB
  have hkr : ¬ (k = w.heap.size) := by have h1 := HN.out.2.2.2.2.2.2.2.1; have h2 := HN.out.2.2.2.2.2.2.2.2.1; omega
  have hkr' : ¬ (w.heap.size = k) := by omega
  obtain ⟨_, r0, r1, r2, r3, r4⟩ := HN.out.1
  obtain ⟨_, k0, k1, k2, k3, k4⟩ := HN.out.2.2.1
  go_region_held3 (fun w' => w'.cell? ⟨k, 0, none⟩ = some (.slice x L.length p) ∧ w'.cell? ⟨k, 1, none⟩ = some (.slice y M.length q) ∧ w'.cell? ⟨k, 2, none⟩ = some (.int .i64 C) ∧ w'.cell? ⟨k, 3, none⟩ = some (.bool T) ∧ w'.cell? ⟨k, 4, none⟩ = some (.bool H)) (first | go_keep | (simp [hkr, hkr', s0, s1, s2, s3, s4]; done) | (simp [hkr, hkr', k0, k1, k2, k3, k4]; done))
    ((first
      | (go_at_call 54; refine (l1Below_p w1 g a c l 6 _ (by omega) HN.out.2.2.2.2.2.1.drew).mono ?_; rintro e w8 ⟨u, rfl, hu0, hu1, hdr8, hd8⟩; have eu : IntKind.i64.wrap (u - 1) = u - 1 := IntWalk.i64_in _ (by omega); have hN8 := HN.out.drew.cur hdr8 hd8; have s0 := hN8.2.2.1.2.1; have s1 := hN8.2.2.1.2.2.1; have s2 := hN8.2.2.1.2.2.2.1; have s3 := hN8.2.2.1.2.2.2.2.1; have s4 := hN8.2.2.1.2.2.2.2.2; have y0 := hN8.1.2.1; have y1 := hN8.1.2.2.1; have y2 := hN8.1.2.2.2.1; have y3 := hN8.1.2.2.2.2.1; have y4 := hN8.1.2.2.2.2.2; have x0 := hN8.2.1 0; have x1 := hN8.2.1 1; have x2 := hN8.2.1 2; have x3 := hN8.2.1 3; have x4 := hN8.2.1 4)))
  all_goals
    have HN9 := Lib.hid hN8
    clear hN8 hd8 hdr8 HN
    go_wp2
    obtain ⟨hrb, hrf, hkb, hfL, hfM, hdr, hgB, hrB, hBk, _⟩ := HN9.out
    have hF5 := ((((hrb.s0 (.slice x L.length p)).s1 (.slice y M.length q)).s2 (.int .i64 C)).s3 (.bool T)).s4 (.bool H)
    obtain ⟨_, z0, z1, z2, z3, z4⟩ := hF5
    refine bodyPost_ret (v := .tuple #[.agg #[.slice x L.length p, .slice y M.length q, .int .i64 C, .bool T, .bool H], .int .i64 n, .int .i64 (u - 1)]) (by simp [results, Try.results17, go_sem, z0, z1, z2, z3, z4]) rfl ?_
    have hbel : Below w.heap.size w w8 := D.below HB1.out hdr.2 HB1.out.size (by have := HG.out; omega)
    exact ⟨x, p, L, y, q, M, C, T, H, n, u - 1, rfl, hlen, HLB.out, HMB.out, hCb, hnb, by omega, (hfL.five _ (fun r hr => by have := (hfL.2 r hr).1; omega) _ _ _ _ _).1, (hfM.five _ (fun r hr => by have := (hfM.2 r hr).1; omega) _ _ _ _ _).1, hbel.trans (five_below _ _ _ _ _ _ _ _ (Nat.le_refl _))⟩


theorem l15Mode_d (W : World) (g : Nat) (a : Option Addr) (c : Nat) (l : List Int) (w : World) (h : Dr W g a c l w) :
    Calls Try.prog 62 #[.pointer (some ⟨g, 0, none⟩)] w fun e w' => ∃ z : Int, e = .returned (.int .i64 z) ∧ -1 ≤ z ∧ z ≤ 6 ∧ Dr W g a c l w' ∧ w.grownBy w' (some g) := by
  have H := Lib.hid h
  have H0 := Lib.hid (Dr.start h.1)
  clear h
  go_enter Try.func62, Try.ntmps62
  go_wp2_with fail
  refine (l1PickInt_d w g a c l [_, _, _, _, _, _, _, _, _, _, _, _, _, _] _ 14 w (by simp) (by rfl) rfl H0.out).mono ?_
  rintro e w2 ⟨z, rfl, hz, hdr2, hd2⟩
  have hzb : -1 ≤ z ∧ z ≤ 6 := by simp at hz; omega
  have HD := Lib.hid hdr2
  clear hdr2 hd2 hz
  go_wp2
  go_ret
  exact ⟨z, rfl, hzb.1, hzb.2, H.out.next HD.out.1 HD.out.2, HD.out.2⟩


attribute [local irreducible] Calls World.alloc in
set_option maxHeartbeats 4000000 in
theorem DrawPred_c (a : Option Addr) (c : Nat) (l : List Int) (w : World) (hl : l.length ≤ 1048576) (hr : RowB w a l) (hw : ∀ x ∈ l, 0 ≤ x ∧ x ≤ 255) :
    Calls Try.prog 22 #[.slice a l.length c] w fun e w' => ∃ (x : Option Addr) (p : Nat) (L : List Int) (y : Option Addr) (q : Nat) (M : List Int) (C : Int) (T H : Bool) (n z : Int), e = .returned (.tuple #[.int .i64 z, nbv x L.length p y M.length q C T H, .int .i64 n]) ∧ (L.length ≤ 16 ∧ L.length ≤ p ∧ M.length ≤ 8 ∧ M.length ≤ q) ∧ (∀ z ∈ L, -1 ≤ z ∧ z ≤ 256) ∧ (∀ z ∈ M, -1 ≤ z ∧ z ≤ 256) ∧ (-1 ≤ C ∧ C ≤ 256) ∧ (0 ≤ n ∧ n ≤ 8) ∧ (-1 ≤ z ∧ z ≤ 6) ∧ Row w' x L ∧ Row w' y M ∧ Below w.heap.size w w' := by
  have al : Below w.heap.size w (w.alloc (.cells #[.slice none 0 0, .slice none 0 0, .int .i64 0, .bool false, .bool false] 27)) := (Below.refl _ _).alloc (Nat.le_refl _) _
  have hZ := Box5.new w 27 (.slice none 0 0) (.slice none 0 0) (.int .i64 0) (.bool false) (.bool false)
  have hZF : ∀ i, (w.alloc (.cells #[.slice none 0 0, .slice none 0 0, .int .i64 0, .bool false, .bool false] 27)).frozen? ⟨w.heap.size, i, none⟩ = false := fun i => by simp [go_sem]
  have hsz : (w.alloc (.cells #[.slice none 0 0, .slice none 0 0, .int .i64 0, .bool false, .bool false] 27)).heap.size = w.heap.size + 1 := by simp
  have HN0 := Lib.hid (l1New_c a c l (w.alloc (.cells #[.slice none 0 0, .slice none 0 0, .int .i64 0, .bool false, .bool false] 27)) hl (hr.below al (Nat.le_refl _)) hw)
  have HAL := Lib.hid al
  have HZ := Lib.hid hZ
  have HZF := Lib.hid hZF
  have HSZ := Lib.hid hsz
  clear hr hw al hZ hZF hsz
  go_enter Try.func22, Try.ntmps22
  go_wp2_with fail
  refine HN0.out.mono ?_
  rintro e w1 ⟨g, rfl, hcu, hgw, hb0⟩
  have hgl : g < w1.heap.size := hcu.1
  rw [HSZ.out] at hgw
  have hgr : g ≠ w.heap.size := by omega
  have HB1 := Lib.hid (HAL.out.trans (hb0.mono (by rw [HSZ.out]; omega)))
  have HG := Lib.hid hgw
  have hr1 := HZ.out.below hb0 (Nat.le_refl _)
  have hf1 : ∀ i, w1.frozen? ⟨w.heap.size, i, none⟩ = false := fun i => (hb0.frozen (p := ⟨w.heap.size, i, none⟩) (by show w.heap.size < _; rw [HSZ.out]; omega)).trans (HZF.out i)
  go_wp2_with fail
  refine (l14Draw_d w1 g a c l w1 (Dr.start hcu)).mono ?_
  rintro e w2 ⟨x, p, L, y, q, M, C, T, H, n, rfl, hlen, hLb, hMb, hCb, hnb, hfL, hfM, hdr2, hd2⟩
  have HN := Lib.hid (Nbd.mk (p := p) (q := q) (C := C) (T := T) (H := H) hgl hr1.1 hgr hd2.size (hr1.grown (a := some ⟨g, 0, none⟩) hd2 (fun p hp => by cases hp; exact hgr)) (frozen_cur hd2 hr1.1 hgr hf1) hfL hfM hdr2)
  have HLB := Lib.hid hLb
  have HMB := Lib.hid hMb
  obtain ⟨k, hk⟩ : ∃ k, k = w2.heap.size := ⟨_, rfl⟩
  clear hLb hMb hfL hfM hdr2 hd2 hcu hb0 hr1 hf1 hgw HZ HZF HAL HN0
  go_wp2_with fail
  rw [← hk] at HN ⊢
  clear hk
  obtain ⟨wB, hwB⟩ : ∃ wB, wB = w2.alloc (.cells #[.slice x L.length p, .slice y M.length q, .int .i64 C, .bool T, .bool H] 27) := ⟨_, rfl⟩
  rw [← hwB] at HN ⊢
  clear hwB
  have hkr : ¬ (k = w.heap.size) := by have h1 := HN.out.2.2.2.2.2.2.2.1; have h2 := HN.out.2.2.2.2.2.2.2.2.1; omega
  have hkr' : ¬ (w.heap.size = k) := by omega
  obtain ⟨_, r0, r1, r2, r3, r4⟩ := HN.out.1
  obtain ⟨_, k0, k1, k2, k3, k4⟩ := HN.out.2.2.1
  go_region_held3 (fun w' => w'.cell? ⟨k, 0, none⟩ = some (.slice x L.length p) ∧ w'.cell? ⟨k, 1, none⟩ = some (.slice y M.length q) ∧ w'.cell? ⟨k, 2, none⟩ = some (.int .i64 C) ∧ w'.cell? ⟨k, 3, none⟩ = some (.bool T) ∧ w'.cell? ⟨k, 4, none⟩ = some (.bool H)) (first | go_keep | (simp [hkr, hkr', s0, s1, s2, s3, s4]; done) | (simp [hkr, hkr', k0, k1, k2, k3, k4]; done))
    ((first
      | (go_at_call 62; refine (l15Mode_d w1 g a c l _ HN.out.2.2.2.2.2.1.drew).mono ?_; rintro e w8 ⟨u, rfl, hu0, hu1, hdr8, hd8⟩; have hN8 := HN.out.drew.cur hdr8 hd8; have s0 := hN8.2.2.1.2.1; have s1 := hN8.2.2.1.2.2.1; have s2 := hN8.2.2.1.2.2.2.1; have s3 := hN8.2.2.1.2.2.2.2.1; have s4 := hN8.2.2.1.2.2.2.2.2; have y0 := hN8.1.2.1; have y1 := hN8.1.2.2.1; have y2 := hN8.1.2.2.2.1; have y3 := hN8.1.2.2.2.2.1; have y4 := hN8.1.2.2.2.2.2; have x0 := hN8.2.1 0; have x1 := hN8.2.1 1; have x2 := hN8.2.1 2; have x3 := hN8.2.1 3; have x4 := hN8.2.1 4)))
  all_goals
    have HN9 := Lib.hid hN8
    clear hN8 hd8 hdr8 HN
    go_wp2
    obtain ⟨hrb, hrf, hkb, hfL, hfM, hdr, hgB, hrB, hBk, _⟩ := HN9.out
    have hF5 := ((((hrb.s0 (.slice x L.length p)).s1 (.slice y M.length q)).s2 (.int .i64 C)).s3 (.bool T)).s4 (.bool H)
    obtain ⟨_, z0, z1, z2, z3, z4⟩ := hF5
    refine bodyPost_ret (v := .tuple #[.int .i64 u, .agg #[.slice x L.length p, .slice y M.length q, .int .i64 C, .bool T, .bool H], .int .i64 n]) (by simp [results, Try.results22, go_sem, z0, z1, z2, z3, z4]) rfl ?_
    have hbel : Below w.heap.size w w8 := D.below HB1.out hdr.2 HB1.out.size (by have := HG.out; omega)
    exact ⟨x, p, L, y, q, M, C, T, H, n, u, rfl, hlen, HLB.out, HMB.out, hCb, hnb, by omega, (hfL.five _ (fun r hr => by have := (hfL.2 r hr).1; omega) _ _ _ _ _).1, (hfM.five _ (fun r hr => by have := (hfM.2 r hr).1; omega) _ _ _ _ _).1, hbel.trans (five_below _ _ _ _ _ _ _ _ (Nat.le_refl _))⟩


end Go.Proofs.Ytbdggcefgiehkaa
