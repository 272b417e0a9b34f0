/- Contracts of the draws of frames: a frame and a place in it. -/
import Derived.Test.YtkfjbnhihjnhnaaDrawG
namespace Go.Proofs.Ytkfjbnhihjnhnaa
open Go.RowKit
set_option linter.unusedVariables false

theorem max_b {q m : Int} (h : max 1 q = m) (hq : q ≤ 40) : 1 ≤ m ∧ m ≤ 40 := by omega

attribute [local irreducible] Calls World.alloc in
set_option maxHeartbeats 4000000 in
theorem l18Spot_d (W : World) (g : Nat) (a : Option Addr) (c : Nat) (l : List Int) (w : World) (h : Dr W g a c l w) :
    Calls Try.prog 61 #[.pointer (some ⟨g, 0, none⟩)] w fun e w' => ∃ (X Y : Nat) (x : Option Addr) (d : Nat) (L : List Int) (u v t : Int), e = .returned (.tuple #[frv X Y x L.length d, .int .i64 u, .int .i64 v, .int .i64 t]) ∧ X ≤ 40 ∧ (8 ≤ Y ∧ Y ≤ 16) ∧ (-4 ≤ u ∧ u ≤ 1000 ∧ 0 ≤ v ∧ v ≤ 1000 ∧ 0 ≤ t ∧ t ≤ 16) ∧ (0 < L.length ∧ L.length ≤ 384) ∧ L.length ≤ d ∧ (∀ z ∈ L, -1 ≤ z ∧ z ≤ 256) ∧ Frs w.heap.size w' x L ∧ Dr W g a c l w' ∧ w.grownBy w' (some g) := by
  have hL := Lib.hid h.low
  have HH := Lib.hid h
  have HZ := Lib.hid (Box3.new w 26 (.int .i64 0) (.int .i64 0) (.slice none 0 0))
  have HZF : Hid (∀ i, (w.alloc (.cells #[.int .i64 0, .int .i64 0, .slice none 0 0] 26)).frozen? ⟨w.heap.size, i, none⟩ = false) := Lib.hid (fun i => by simp [go_sem])
  have H0 := Lib.hid ((Dr.start h.1).alloc (.cells #[.int .i64 0, .int .i64 0, .slice none 0 0] 26))
  have hgw := h.1.1
  have hmax := max_if
  clear h
  go_enter Try.func61, Try.ntmps61
  go_wp2_with fail
  refine (l18Any_d w g a c l _ H0.out).mono ?_
  rintro e w1 ⟨X, Y, x, d, L, rfl, hXb, hYb, hn1, hLd, hLb, hfr1, hdr1, hd1⟩
  obtain ⟨X, rfl⟩ := Int.eq_ofNat_of_zero_le hXb.1
  have hX9 : X ≤ 40 := by omega
  have hY9 : Y ≤ 16 := hYb.2
  have hY8 : 8 ≤ Y := hYb.1
  have hX9' : X ≤ 40 := hX9
  have hY9' : Y ≤ 40 := Nat.le_trans hY9 (by decide)
  have hs : (w.alloc (.cells #[.int .i64 0, .int .i64 0, .slice none 0 0] 26)).heap.size = w.heap.size + 1 := by simp
  rw [hs] at hfr1
  have hs1 : w.heap.size + 1 ≤ w1.heap.size := by have := hd1.size; omega
  have hr1 := HZ.out.grown (a := some ⟨g, 0, none⟩) hd1 (fun p hp => by cases hp; exact Nat.ne_of_lt hgw)
  have hf1 := frozen_curF hd1 (by simp) (Nat.ne_of_lt hgw) HZF.out
  have hN : Frd w g a c l w1.heap.size (.int .i64 X) (.int .i64 Y) (.slice x L.length d) x L (w1.alloc (.cells #[.int .i64 X, .int .i64 Y, .slice x L.length d] 26)) := by
    have al : Below w1.heap.size w1 (w1.alloc (.cells #[.int .i64 X, .int .i64 Y, .slice x L.length d] 26)) := (Below.refl _ _).alloc (Nat.le_refl _) _
    exact ⟨hr1.below al (Nat.le_refl _), fun i => (al.frozen (p := ⟨w.heap.size, i, none⟩) hs1).trans (hf1 i), Box3.new _ _ _ _ _, fun i => by simp [go_sem], hfr1.below al hfr1.lt, hdr1.alloc _, hgw, hs1, fun q hq => Nat.ne_of_lt (hfr1.lt q hq)⟩
  have HN := Lib.hid hN
  obtain ⟨k, hk⟩ : ∃ k, k = w1.heap.size := ⟨_, rfl⟩
  obtain ⟨n, hn⟩ : ∃ n, L.length = n := ⟨_, rfl⟩
  have HLN := Lib.hid hn
  have HLB := Lib.hid hLb
  rw [hn] at HN hLd hn1 ⊢
  have HLD := Lib.hid hLd
  clear hN hfr1 hdr1 hs hs1 hd1 hr1 hf1 HZ HZF H0 hXb hYb hLb hn hLd
  go_wp2_with fail
  rw [← hk] at HN ⊢
  obtain ⟨wB, hwB⟩ : ∃ wB, wB = w1.alloc (.cells #[.int .i64 X, .int .i64 Y, .slice x n d] 26) := ⟨_, rfl⟩
  rw [← hwB] at HN ⊢
  have hkB : k + 1 = wB.heap.size := by rw [hwB, hk]; simp
  rw [hkB]
  clear hwB hk hkB
  refine (l1PickInt_d w g a c l [_, _, _] _ 3 wB (by simp) (by rfl) rfl HN.out.dr).mono ?_
  rintro e w2 ⟨t, rfl, ht, hdr2, hd2⟩
  have htb : t = 4 ∨ t = 8 := by simp at ht; omega
  clear ht
  obtain ⟨t, rfl⟩ := Int.eq_ofNat_of_zero_le (show 0 ≤ t by omega)
  have ht4 : 4 ≤ t := by omega
  have ht8 : t ≤ 8 := by omega
  have hN2 := HN.out.cur hdr2 hd2
  clear HN hdr2 hd2 htb
  have HN := Lib.hid hN2
  have htz : ((t : Int) == 0) = false := by simp; omega
  have htz2 : ¬ ((t : Int) = 0) := by omega
  have htz3 : ¬ (t = 0) := by omega
  obtain ⟨q, hq⟩ : ∃ q, q = X / t := ⟨_, rfl⟩
  have hq9 : q ≤ X := by rw [hq]; exact Nat.div_le_self _ _
  have q0 : (X : Int).tdiv (t : Int) = (q : Int) := by rw [Int.tdiv_eq_ediv_of_nonneg (by omega), hq]; rfl
  have q1 : IntKind.i64.wrap ((X : Int).tdiv (t : Int)) = (q : Int) := by rw [q0]; exact IntWalk.i64_in _ (by omega)
  have q2 : (X : Int) / (t : Int) = (q : Int) := by rw [hq]; rfl
  have q3 : IntKind.i64.wrap (q : Int) = (q : Int) := IntWalk.i64_in _ (by omega)
  have q4 : wrap64 (q : Int) = (q : Int) := by rw [← wrap_is]; exact q3
  obtain ⟨mq, hmq⟩ : ∃ m, max 1 (q : Int) = m := ⟨_, rfl⟩
  have hmqb : 1 ≤ mq ∧ mq ≤ 40 := max_b hmq (Int.ofNat_le.mpr (Nat.le_trans hq9 hX9'))
  have k0 := HN.out.box.2.1
  clear hq
  go_wp2_with fail
  refine (l1Below_p w g a c l mq w2 (by omega) HN.out.dr).mono ?_
  rintro e w3 ⟨u, rfl, hu0, hu1, hdr3, hd3⟩
  have hN3 := HN.out.cur hdr3 hd3
  clear HN hdr3 hd3 k0 q0 q1 q2 q3 q4 hmq
  have HN := Lib.hid hN3
  clear hN3
  have hzu : 0 ≤ (t : Int) * u ∧ (t : Int) * u ≤ 8 * 40 := ⟨Int.mul_nonneg (by omega) (by omega), Int.mul_le_mul (by omega) (by omega) (by omega) (by omega)⟩
  obtain ⟨zu, hzzu⟩ : ∃ z, IntKind.i64.wrap ((t : Int) * u) = z := ⟨_, rfl⟩
  have hzub : 0 ≤ zu ∧ zu ≤ 320 := by rw [← hzzu, IntWalk.i64_in _ (by omega)]; omega
  clear hzu
  obtain ⟨r, hr⟩ : ∃ r, r = Y / t := ⟨_, rfl⟩
  have hr9 : r ≤ Y := by rw [hr]; exact Nat.div_le_self _ _
  have r0 : (Y : Int).tdiv (t : Int) = (r : Int) := by rw [Int.tdiv_eq_ediv_of_nonneg (by omega), hr]; rfl
  have r1 : IntKind.i64.wrap ((Y : Int).tdiv (t : Int)) = (r : Int) := by rw [r0]; exact IntWalk.i64_in _ (by omega)
  have r2 : (Y : Int) / (t : Int) = (r : Int) := by rw [hr]; rfl
  have r3 : IntKind.i64.wrap (r : Int) = (r : Int) := IntWalk.i64_in _ (by omega)
  have r4 : wrap64 (r : Int) = (r : Int) := by rw [← wrap_is]; exact r3
  obtain ⟨mr, hmr⟩ : ∃ m, max 1 (r : Int) = m := ⟨_, rfl⟩
  have hmrb : 1 ≤ mr ∧ mr ≤ 40 := max_b hmr (Int.ofNat_le.mpr (Nat.le_trans hr9 hY9'))
  have k0 := HN.out.box.2.2.1
  clear hr
  go_wp2_with fail
  refine (l1Below_p w g a c l mr w3 (by omega) HN.out.dr).mono ?_
  rintro e w4 ⟨v, rfl, hv0, hv1, hdr3, hd3⟩
  have hN3 := HN.out.cur hdr3 hd3
  clear HN hdr3 hd3 k0 r0 r1 r2 r3 r4 hmr
  have HN := Lib.hid hN3
  clear hN3
  have hzv : 0 ≤ (t : Int) * v ∧ (t : Int) * v ≤ 8 * 40 := ⟨Int.mul_nonneg (by omega) (by omega), Int.mul_le_mul (by omega) (by omega) (by omega) (by omega)⟩
  obtain ⟨zv, hzzv⟩ : ∃ z, IntKind.i64.wrap ((t : Int) * v) = z := ⟨_, rfl⟩
  have hzvb : 0 ≤ zv ∧ zv ≤ 320 := by rw [← hzzv, IntWalk.i64_in _ (by omega)]; omega
  clear hzv
  go_wp2_with fail
  clear hzzu hzzv
  refine (l1Below_p w g a c l 14 w4 (by omega) HN.out.dr).mono ?_
  rintro e w5 ⟨s, rfl, hs0, hs1, hdr5, hd5⟩
  have hN5 := HN.out.cur hdr5 hd5
  clear HN hdr5 hd5
  have HN := Lib.hid hN5
  have hkr : ¬ (k = w.heap.size) := by have := HN.out.lt; omega
  have hkr' : ¬ (w.heap.size = k) := by omega
  by_cases h0 : s = 0
  · subst h0
    have k0 := hN5.box.2.1
    clear hN5
    go_wp2_with fail
    refine (l1PickInt_d w g a c l [_, _, _] _ 3 w5 (by simp) (by rfl) rfl HN.out.dr).mono ?_
    rintro e w6 ⟨z, rfl, hz, hdr6, hd6⟩
    have hzb : -4 ≤ z ∧ z ≤ 40 := by simp at hz; omega
    have hN5 := HN.out.cur hdr6 hd6
    clear HN hdr6 hd6 hz
    have HN := Lib.hid hN5
    obtain ⟨_, r0, r1, r2⟩ := hN5.res
    obtain ⟨_, k0, k1, k3⟩ := hN5.box
    have q0 := hN5.2.1 0
    have q1 := hN5.2.1 1
    have q2 := hN5.2.1 2
    clear hN5
    go_wp2
    obtain ⟨_, r0, r1, r2⟩ := HN.out.res
    have hT := three_set (.int .i64 X) (.int .i64 Y) (.slice x n d) r0 r1 r2
    refine bodyPost_ret (v := .tuple #[frv X Y x n d, .int .i64 z, .int .i64 zv, .int .i64 (t:Int)]) (by simp [results, Try.results61, go_sem, hT]) rfl ?_
    obtain ⟨y1, y2, y3⟩ := HN.out.done HH.out hL.out (.int .i64 X) (.int .i64 Y) (.slice x n d)
    exact ⟨X, Y, _, d, L, z, zv, (t:Int), by rw [HLN.out], hX9, ⟨hY8, hY9⟩, by omega, by rw [HLN.out]; exact hn1, by rw [HLN.out]; exact HLD.out, HLB.out, y1, y2, y3⟩
  · have e0 : (s == 0) = false := by simp [h0]
    by_cases h1 : s = 1
    · subst h1
      clear hN5
      go_wp2_with fail
      refine (l1PickInt_d w g a c l [_, _, _] _ 3 w5 (by simp) (by rfl) rfl HN.out.dr).mono ?_
      rintro e w6 ⟨z, rfl, hz, hdr6, hd6⟩
      have hzb : 0 ≤ z ∧ z ≤ 16 := by simp at hz; omega
      have hN5 := HN.out.cur hdr6 hd6
      clear HN hdr6 hd6 hz
      have HN := Lib.hid hN5
      obtain ⟨_, r0, r1, r2⟩ := hN5.res
      obtain ⟨_, k0, k1, k3⟩ := hN5.box
      have q0 := hN5.2.1 0
      have q1 := hN5.2.1 1
      have q2 := hN5.2.1 2
      clear hN5
      go_wp2
      obtain ⟨_, r0, r1, r2⟩ := HN.out.res
      have hT := three_set (.int .i64 X) (.int .i64 Y) (.slice x n d) r0 r1 r2
      refine bodyPost_ret (v := .tuple #[frv X Y x n d, .int .i64 zu, .int .i64 zv, .int .i64 z]) (by simp [results, Try.results61, go_sem, hT]) rfl ?_
      obtain ⟨y1, y2, y3⟩ := HN.out.done HH.out hL.out (.int .i64 X) (.int .i64 Y) (.slice x n d)
      exact ⟨X, Y, _, d, L, zu, zv, z, by rw [HLN.out], hX9, ⟨hY8, hY9⟩, by omega, by rw [HLN.out]; exact hn1, by rw [HLN.out]; exact HLD.out, HLB.out, y1, y2, y3⟩
    · have e1 : (s == 1) = false := by simp [h1]
      obtain ⟨_, r0, r1, r2⟩ := hN5.res
      obtain ⟨_, k0, k1, k3⟩ := hN5.box
      have q0 := hN5.2.1 0
      have q1 := hN5.2.1 1
      have q2 := hN5.2.1 2
      clear hN5
      go_wp2
      obtain ⟨_, r0, r1, r2⟩ := HN.out.res
      have hT := three_set (.int .i64 X) (.int .i64 Y) (.slice x n d) r0 r1 r2
      refine bodyPost_ret (v := .tuple #[frv X Y x n d, .int .i64 zu, .int .i64 zv, .int .i64 (t:Int)]) (by simp [results, Try.results61, go_sem, hT]) rfl ?_
      obtain ⟨y1, y2, y3⟩ := HN.out.done HH.out hL.out (.int .i64 X) (.int .i64 Y) (.slice x n d)
      exact ⟨X, Y, _, d, L, zu, zv, (t:Int), by rw [HLN.out], hX9, ⟨hY8, hY9⟩, by omega, by rw [HLN.out]; exact hn1, by rw [HLN.out]; exact HLD.out, HLB.out, y1, y2, y3⟩

end Go.Proofs.Ytkfjbnhihjnhnaa
