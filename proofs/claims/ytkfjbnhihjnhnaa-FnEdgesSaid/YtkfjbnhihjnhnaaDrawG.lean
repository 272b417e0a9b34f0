/- Contracts of the draws of frames: any frame. -/
import Derived.Test.YtkfjbnhihjnhnaaDrawF
namespace Go.Proofs.Ytkfjbnhihjnhnaa
open Go.RowKit
set_option linter.unusedVariables false


attribute [local irreducible] Calls World.alloc in
set_option maxHeartbeats 4000000 in
theorem l18Any_d (W : World) (g : Nat) (a : Option Addr) (c : Nat) (l : List Int) (w : World) (h : Dr W g a c l w) :
    Calls Try.prog 35 #[.pointer (some ⟨g, 0, none⟩)] w fun e w' => ∃ (X : Int) (Y : Nat) (x : Option Addr) (d : Nat) (L : List Int), e = .returned (frv X Y x L.length d) ∧ (0 ≤ X ∧ X ≤ 40) ∧ (8 ≤ Y ∧ Y ≤ 16) ∧ (0 < L.length ∧ L.length ≤ 384) ∧ L.length ≤ d ∧ (∀ z ∈ L, -1 ≤ z ∧ z ≤ 256) ∧ Frs w.heap.size w' x L ∧ Dr W g a c l w' ∧ w.grownBy w' (some g) := by
  have hL := Lib.hid h.low
  have HH := Lib.hid h
  have HZ := Lib.hid (Box3.new w 26 (.int .i64 0) (.int .i64 0) (.slice none 0 0))
  have HZF : Hid (∀ i, (w.alloc (.cells #[.int .i64 0, .int .i64 0, .slice none 0 0] 26)).frozen? ⟨w.heap.size, i, none⟩ = false) := Lib.hid (fun i => by simp [go_sem])
  have H0 := Lib.hid ((Dr.start h.1).alloc (.cells #[.int .i64 0, .int .i64 0, .slice none 0 0] 26))
  have hgw := h.1.1
  clear h
  go_enter Try.func35, Try.ntmps35
  go_wp2_with fail
  refine (l18Frame_d w g a c l _ H0.out).mono ?_
  rintro e w1 ⟨X, Y, gb, d, L, rfl, hXb, hYb, hLn, hLd, hLb, hfr1, hdr1, hd1⟩
  have hs : (w.alloc (.cells #[.int .i64 0, .int .i64 0, .slice none 0 0] 26)).heap.size = w.heap.size + 1 := by simp
  rw [hs] at hfr1
  have hs1 : w.heap.size + 1 ≤ w1.heap.size := by have := hd1.size; omega
  have hr1 := HZ.out.grown (a := some ⟨g, 0, none⟩) hd1 (fun p hp => by cases hp; exact Nat.ne_of_lt hgw)
  have hf1 := frozen_curF hd1 (by simp) (Nat.ne_of_lt hgw) HZF.out
  have hn1 : L.length ≤ 24 * 16 := by rw [hLn]; exact Nat.mul_le_mul hXb.2.1 hYb.2.1
  have hn0 : 8 * 8 ≤ L.length := by rw [hLn]; exact Nat.mul_le_mul hXb.1 hYb.1
  have hN : Frd w g a c l w1.heap.size (.int .i64 X) (.int .i64 Y) (.slice (some ⟨gb, 0, none⟩) L.length d) (some ⟨gb, 0, none⟩) L (w1.alloc (.cells #[.int .i64 X, .int .i64 Y, .slice (some ⟨gb, 0, none⟩) L.length d] 26)) := by
    have al : Below w1.heap.size w1 (w1.alloc (.cells #[.int .i64 X, .int .i64 Y, .slice (some ⟨gb, 0, none⟩) L.length d] 26)) := (Below.refl _ _).alloc (Nat.le_refl _) _
    exact ⟨hr1.below al (Nat.le_refl _), fun i => (al.frozen (p := ⟨w.heap.size, i, none⟩) hs1).trans (hf1 i), Box3.new _ _ _ _ _, fun i => by simp [go_sem], hfr1.below al hfr1.lt, hdr1.alloc _, hgw, hs1, fun q hq => Nat.ne_of_lt (hfr1.lt q hq)⟩
  have HN := Lib.hid hN
  obtain ⟨k, hk⟩ : ∃ k, k = w1.heap.size := ⟨_, rfl⟩
  obtain ⟨n, hn⟩ : ∃ n, L.length = n := ⟨_, rfl⟩
  have HLN := Lib.hid hn
  have HLB := Lib.hid hLb
  have hX0 : 8 ≤ X := hXb.1
  have hX9 : X ≤ 24 := hXb.2.1
  have hY0 : 8 ≤ Y := hYb.1
  have hY9 : Y ≤ 16 := hYb.2.1
  rw [hn] at HN hLd hn1 hn0 ⊢
  have HLD := Lib.hid hLd
  clear hN hfr1 hdr1 hs hs1 hd1 hr1 hf1 HZ HZF H0 hXb hYb hLn hLb hn
  go_wp2_with fail
  rw [← hk] at HN ⊢
  clear hk
  obtain ⟨wB, hwB⟩ : ∃ wB, wB = w1.alloc (.cells #[.int .i64 X, .int .i64 Y, .slice (some ⟨gb, 0, none⟩) n d] 26) := ⟨_, rfl⟩
  rw [← hwB] at HN ⊢
  clear hwB
  refine (l1Below_p w g a c l 16 wB (by omega) HN.out.dr).mono ?_
  rintro e w6 ⟨s, rfl, hs0, hs1, hdr6, hd6⟩
  have hN := HN.out.cur hdr6 hd6
  clear HN hdr6 hd6
  have HN := Lib.hid hN
  have hkr : ¬ (k = w.heap.size) := by have := HN.out.lt; omega
  have hkr' : ¬ (w.heap.size = k) := by omega
  by_cases h0 : s = 0
  · subst h0
    have k2 := HN.out.box.2.2.2
    have hg6 := HN.out.dr.lt
    have hn0i : 0 < (n : Int) := by omega
    clear hN
    go_wp2_with fail
    go_region_held3 (fun w' => w'.cell? ⟨k, 2, none⟩ = some (.slice (some ⟨gb, 0, none⟩) n d)) (first | go_keep | exact (World.cell?_setCell_far _ _ _ _ hgk).trans s8)
      ((first
        | (go_at_call 49; refine (l1Below_p w g a c l n _ (by omega) (by first | exact HN.out.dr.drew | exact (HN.out.dr.alloc _).drew)).mono ?_; rintro e w7 ⟨i, rfl, hi0, hi1, hdr7, hd7⟩; obtain ⟨j, rfl⟩ := Int.eq_ofNat_of_zero_le hi0; have hN7 : Frd w g a c l k (.int .i64 X) (.int .i64 Y) (.slice (some ⟨gb, 0, none⟩) n d) (some ⟨gb, 0, none⟩) L w7 := (by first | exact HN.out.drew.cur hdr7 hd7 | exact (HN.out.alloc _).drew.cur hdr7 hd7); have s7 := hN7.box.2.2.2; have hjL : (j : Int) < (n : Int) := (by omega))
        | (go_at_call 51; (first | (refine (l1PickInt_d w g a c l [_, _] _ 2 w7 (by simp) (by rfl) rfl hdr7).mono ?_; rintro e w8 ⟨u, rfl, hu, hdr8, hd8⟩) | (refine (l1PickInt_rF w g a c l [-1, 256] w6.heap.size 2 w7 (by simp) (((Own.lit (B := 0) w6 #[.int .i64 (-1), .int .i64 256] [-1, 256] rfl (Nat.zero_le _) (by simp [maxLen])).row.drew).cur hd7 (fun p hp => by cases hp; exact Nat.ne_of_gt hg6)) (Nat.ne_of_gt hg6) rfl hdr7).mono ?_; rintro e w8 ⟨u, rfl, hu, hdr8, hd8⟩)); have hN8 : Frd w g a c l k (.int .i64 X) (.int .i64 Y) (.slice (some ⟨gb, 0, none⟩) n d) (some ⟨gb, 0, none⟩) L w8 := hN7.cur hdr8 hd8; have s8 := hN8.box.2.2.2; have c8 : ∃ v, w8.cell? ⟨gb, j, none⟩ = some v := (by obtain ⟨_, _, e9, h9⟩ := hN8.frs.1.at_ (i := j) (by rw [HLN.out]; omega); cases e9; rw [Nat.zero_add] at h9; exact ⟨_, h9⟩); obtain ⟨old, c8⟩ := c8; have f8 := (hN8.frs.2 _ rfl).2.2 j; have hgk : gb ≠ k := hN8.ne ⟨gb, 0, none⟩ rfl)))
    all_goals
      have hub : -1 ≤ u ∧ u ≤ 256 := by simp at hu; omega
      have hgr : gb ≠ w.heap.size := by have := (hN8.frs.2 _ rfl).1; have : w.heap.size + 1 ≤ gb := this; omega
      have hgk1 : ¬ (gb = k) := hgk
      have hgk2 : ¬ (k = gb) := fun e => hgk e.symm
      have hgr1 : ¬ (gb = w.heap.size) := hgr
      have hgr2 : ¬ (w.heap.size = gb) := fun e => hgr e.symm
      have HNN := Lib.hid (hN8.sx hL.out j u)
      obtain ⟨_, r0, r1, r2⟩ := hN8.res
      obtain ⟨_, k0, k1, k3⟩ := hN8.box
      have q0 := hN8.2.1 0
      have q1 := hN8.2.1 1
      have q2 := hN8.2.1 2
      clear hN8 hN7 HN hdr7 hd7 hdr8 hd8 hu s7 hgk hgr
      have HN := HNN
      clear HNN
      go_wp2
      obtain ⟨_, r0, r1, r2⟩ := HN.out.res
      have hT := three_set (.int .i64 X) (.int .i64 Y) (.slice (some ⟨gb, 0, none⟩) n d) r0 r1 r2
      refine bodyPost_ret (v := frv X Y (some ⟨gb, 0, none⟩) n d) (by simp [results, Try.results35, go_sem, hT]) rfl ?_
      obtain ⟨y1, y2, y3⟩ := HN.out.done HH.out hL.out (.int .i64 X) (.int .i64 Y) (.slice (some ⟨gb, 0, none⟩) n d)
      exact ⟨X, Y, _, d, L.set j u, by rw [List.length_set, HLN.out], ⟨by omega, by omega⟩, ⟨hY0, hY9⟩, by rw [List.length_set, HLN.out]; omega, by rw [List.length_set, HLN.out]; exact HLD.out, fun z hz => (mem_set hz).elim (fun h => by have := HLB.out z h; omega) (fun h => by omega), y1, y2, y3⟩
  · have e0 : (s == 0) = false := by simp [h0]
    by_cases h1 : s = 1
    · subst h1
      have k0 := hN.box.2.1
      obtain ⟨X8, hX8⟩ : ∃ z, IntKind.i64.wrap ((X : Int) + 8) = z := ⟨_, rfl⟩
      have hX8b : 16 ≤ X8 ∧ X8 ≤ 32 := by rw [← hX8, IntWalk.i64_in _ (by omega)]; omega
      clear hN
      go_wp2_with fail
      refine (l1PickInt_d w g a c l [_, _, _, _] _ 4 w6 (by simp) (by rfl) rfl HN.out.dr).mono ?_
      rintro e w7 ⟨u, rfl, hu, hdr7, hd7⟩
      have hub : 0 ≤ u ∧ u ≤ 40 := by simp at hu; omega
      have hN7 := HN.out.cur hdr7 hd7
      have HNN := Lib.hid (hN7.s0 hL.out (.int .i64 u))
      obtain ⟨_, r0, r1, r2⟩ := hN7.res
      obtain ⟨_, k0, k1, k3⟩ := hN7.box
      have q0 := hN7.2.1 0
      have q1 := hN7.2.1 1
      have q2 := hN7.2.1 2
      have p0 := hN7.2.2.2.1 0
      clear hN7 HN hdr7 hd7 hu hX8 hX8b
      have HN := HNN
      clear HNN
      go_wp2
      obtain ⟨_, r0, r1, r2⟩ := HN.out.res
      have hT := three_set (.int .i64 u) (.int .i64 Y) (.slice (some ⟨gb, 0, none⟩) n d) r0 r1 r2
      refine bodyPost_ret (v := frv u Y (some ⟨gb, 0, none⟩) n d) (by simp [results, Try.results35, go_sem, hT]) rfl ?_
      obtain ⟨y1, y2, y3⟩ := HN.out.done HH.out hL.out (.int .i64 u) (.int .i64 Y) (.slice (some ⟨gb, 0, none⟩) n d)
      exact ⟨u, Y, _, d, L, by rw [HLN.out], hub, ⟨hY0, hY9⟩, by rw [HLN.out]; omega, by rw [HLN.out]; exact HLD.out, fun z hz => by have := HLB.out z hz; omega, y1, y2, y3⟩
    · have e1 : (s == 1) = false := by simp [h1]
      by_cases h2 : s = 2
      · subst h2
        obtain ⟨m1, hm1⟩ : ∃ m1, n = m1 + 1 := ⟨n - 1, by omega⟩
        subst hm1
        have HNN := Lib.hid (hN.s2 hL.out (.slice (some ⟨gb, 1, none⟩) m1 (d - 1)) (hN.frs.tail HLN.out (by omega)) (fun r hr => by cases hr; exact hN.ne ⟨gb, 0, none⟩ rfl))
        obtain ⟨_, r0, r1, r2⟩ := hN.res
        obtain ⟨_, k0, k1, k3⟩ := hN.box
        have q0 := hN.2.1 0
        have q1 := hN.2.1 1
        have q2 := hN.2.1 2
        have p2 := hN.2.2.2.1 2
        have hcap : m1 + 1 ≤ d := HLD.out
        clear hN HN
        have HN := HNN
        clear HNN
        go_wp2
        obtain ⟨_, r0, r1, r2⟩ := HN.out.res
        have hT := three_set (.int .i64 X) (.int .i64 Y) (.slice (some ⟨gb, 1, none⟩) m1 (d - 1)) r0 r1 r2
        refine bodyPost_ret (v := frv X Y (some ⟨gb, 1, none⟩) m1 (d - 1)) (by simp [results, Try.results35, go_sem, hT]) rfl ?_
        obtain ⟨y1, y2, y3⟩ := HN.out.done HH.out hL.out (.int .i64 X) (.int .i64 Y) (.slice (some ⟨gb, 1, none⟩) m1 (d - 1))
        exact ⟨X, Y, _, d - 1, tab (fun i => L.getD (1 + i) 0) m1, by rw [tab_len], ⟨by omega, by omega⟩, ⟨hY0, hY9⟩, by rw [tab_len]; omega, by rw [tab_len]; omega, fun z hz => by obtain ⟨i, hi, rfl⟩ := tab_mem' hz; have h4 : 1 + i < L.length := (by rw [HLN.out]; omega); have := HLB.out (L.getD (1 + i) 0) (by rw [getD_lt h4]; exact List.getElem_mem h4); omega, y1, y2, y3⟩
      · have e2 : (s == 2) = false := by simp [h2]
        obtain ⟨_, r0, r1, r2⟩ := hN.res
        obtain ⟨_, k0, k1, k3⟩ := hN.box
        have q0 := hN.2.1 0
        have q1 := hN.2.1 1
        have q2 := hN.2.1 2
        clear hN
        go_wp2
        obtain ⟨_, r0, r1, r2⟩ := HN.out.res
        have hT := three_set (.int .i64 X) (.int .i64 Y) (.slice (some ⟨gb, 0, none⟩) n d) r0 r1 r2
        refine bodyPost_ret (v := frv X Y (some ⟨gb, 0, none⟩) n d) (by simp [results, Try.results35, go_sem, hT]) rfl ?_
        obtain ⟨y1, y2, y3⟩ := HN.out.done HH.out hL.out (.int .i64 X) (.int .i64 Y) (.slice (some ⟨gb, 0, none⟩) n d)
        exact ⟨X, Y, _, d, L, by rw [HLN.out], ⟨by omega, by omega⟩, ⟨hY0, hY9⟩, by rw [HLN.out]; omega, by rw [HLN.out]; exact HLD.out, fun z hz => by have := HLB.out z hz; omega, y1, y2, y3⟩

end Go.Proofs.Ytkfjbnhihjnhnaa
