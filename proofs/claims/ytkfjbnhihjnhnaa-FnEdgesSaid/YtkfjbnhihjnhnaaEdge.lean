/- Contracts of the filter at an edge. -/
import Derived.Test.YtkfjbnhihjnhnaaClip
import Derived.Test.YtkfjbnhihjnhnaaNum
namespace Go.Proofs.Ytkfjbnhihjnhnaa
open Go.RowKit
set_option linter.unusedVariables false

theorem tdiv8 (a : Int) : a.tdiv 8 = if 0 ≤ a then a / 8 else -((-a) / 8) := by
  split
  · exact Int.tdiv_eq_ediv_of_nonneg (by assumption)
  · have h : a = -(-a) := by omega
    rw [h, Int.neg_tdiv, Int.tdiv_eq_ediv_of_nonneg (by omega)]; simp
theorem tmod8 (a : Int) : a.tmod 8 = if 0 ≤ a then a % 8 else -((-a) % 8) := by
  split
  · exact Int.tmod_eq_emod_of_nonneg (by assumption)
  · have h : a = -(-a) := by omega
    rw [h, Int.neg_tmod, Int.tmod_eq_emod_of_nonneg (by omega)]; simp


theorem impl.floorDiv_c (a : Int) (w : World) (h0 : -1000000000 ≤ a) (h1 : a ≤ 1000000000) :
    Calls Try.prog 54 #[.int .i64 a, .int .i64 8] w fun e w' => e = .returned (.int .i64 (a / 8)) ∧ w = w' := by
  by_cases h : 0 ≤ a
  · go_enter Try.func54, Try.ntmps54
    go_wp2
    all_goals
      go_ret
      exact ⟨ret_int (by omega), rfl⟩
  · have hd := Lib.hid (tdiv8 a)
    have hm := tmod8 a
    rw [if_neg h] at hm
    by_cases hz : (-a) % 8 = 0
    · have ht : ¬ a.tmod 8 < 0 := by omega
      clear hm
      go_enter Try.func54, Try.ntmps54
      go_wp2
      go_ret
      exact ⟨ret_int (by rw [hd.out, if_neg (by omega)]; omega), rfl⟩
    · have ht : a.tmod 8 < 0 := by omega
      have hb : -200000000 ≤ a.tdiv 8 := by rw [hd.out, if_neg (by omega)]; omega
      have hb2 : a.tdiv 8 ≤ 0 := by rw [hd.out, if_neg (by omega)]; omega
      clear hm
      go_enter Try.func54, Try.ntmps54
      go_wp2
      go_ret
      exact ⟨ret_int (by rw [hd.out, if_neg (by omega)]; omega), rfl⟩


theorem spec.l12Floor_c (a : Int) (w : World) (h0 : -1000000000 ≤ a) (h1 : a ≤ 1000000000) :
    Calls Try.prog 56 #[.int .i64 a, .int .i64 8] w fun e w' => e = .returned (.int .i64 (a / 8)) ∧ w = w' := by
  by_cases h : 0 ≤ a
  · go_enter Try.func56, Try.ntmps56
    go_wp2
    all_goals
      go_ret
      exact ⟨ret_int (by omega), rfl⟩
  · go_enter Try.func56, Try.ntmps56
    go_wp2
    all_goals
      go_ret
      exact ⟨ret_int (by omega), rfl⟩


def dist (a b : Int) : Int := max (a - b) (b - a)

theorem impl.near_c (a b c : Int) (w : World) (ha : 0 ≤ a ∧ a ≤ 255) (hb : 0 ≤ b ∧ b ≤ 255) :
    Calls Try.prog 52 #[.int .i64 a, .int .i64 b, .int .i64 c] w fun e w' => e = .returned (.bool (decide (dist a b < c))) ∧ w = w' := by
  obtain ⟨a0, a1⟩ := ha
  obtain ⟨b0, b1⟩ := hb
  have hmin := min_if
  have hmax := max_if
  go_enter Try.func52, Try.ntmps52
  go_wp2
  go_ret
  exact ⟨ret_bool (by unfold dist; rfl), rfl⟩


theorem spec.l20Abs_c (n : Int) (w : World) (h0 : -1000000000 ≤ n) (h1 : n ≤ 1000000000) :
    Calls Try.prog 55 #[.int .i64 n] w fun e w' => e = .returned (.int .i64 (max n (-n))) ∧ w = w' := by
  have hmin := min_if
  have hmax := max_if
  go_enter Try.func55, Try.ntmps55
  go_wp2
  go_ret
  exact ⟨ret_int (by first | rfl | omega), rfl⟩


theorem dist_comm (a b : Int) : dist a b = dist b a := by unfold dist; omega
theorem dist_sub (a b : Int) : max (a - b) (-(a - b)) = dist a b := by unfold dist; omega
theorem le_t {a b : Int} (h : decide (a < b) = false) : decide (b ≤ a) = true := by simp at h ⊢; omega
theorem le_f {a b : Int} (h : decide (a < b) = true) : decide (b ≤ a) = false := by simp at h ⊢; omega
theorem dist_nn (a b : Int) : 0 ≤ dist a b := by unfold dist; omega
theorem alpha_pos {q : Int} (h : 0 < alphaF q) : 0 ≤ q ∧ q ≤ 51 := by
  unfold alphaF at h
  split at h
  · exact inR_true (by assumption)
  · omega

/-- is the edge filtered? -/
def edgeOn (p1 p0 q0 q1 q : Int) : Bool := allR 0 255 [p1, p0, q0, q1] && (decide (dist p0 q0 < alphaF q) && (decide (dist p1 p0 < betaF q) && decide (dist q0 q1 < betaF q)))
def edgeD (p1 p0 q0 q1 q : Int) : Int := clipF (-(q / 4 + 1)) (q / 4 + 1) ((4 * (q0 - p0) + (p1 - q1) + 4) / 8)
def edgeP (p1 p0 q0 q1 q : Int) : Int := if edgeOn p1 p0 q0 q1 q then clipF 0 255 (p0 + edgeD p1 p0 q0 q1 q) else p0
def edgeQ (p1 p0 q0 q1 q : Int) : Int := if edgeOn p1 p0 q0 q1 q then clipF 0 255 (q0 - edgeD p1 p0 q0 q1 q) else q0

theorem edge_bd {p1 p0 q0 q1 q : Int} (h : edgeOn p1 p0 q0 q1 q = true) : (0 ≤ p1 ∧ p1 ≤ 255) ∧ (0 ≤ p0 ∧ p0 ≤ 255) ∧ (0 ≤ q0 ∧ q0 ≤ 255) ∧ (0 ≤ q1 ∧ q1 ≤ 255) ∧ 0 ≤ q ∧ q ≤ 51 := by
  simp only [edgeOn, allR, List.all_cons, List.all_nil, Bool.and_true, Bool.and_eq_true, decide_eq_true_eq] at h
  obtain ⟨⟨h1, h2, h3, h4⟩, h5, _⟩ := h
  exact ⟨inR_true h1, inR_true h2, inR_true h3, inR_true h4, alpha_pos (by have := dist_nn p0 q0; omega)⟩
theorem edgeD_bd (p1 p0 q0 q1 q : Int) (h : 0 ≤ q ∧ q ≤ 51) : -13 ≤ edgeD p1 p0 q0 q1 q ∧ edgeD p1 p0 q0 q1 q ≤ 13 := by
  have := clipF_bd (-(q / 4 + 1)) (q / 4 + 1) ((4 * (q0 - p0) + (p1 - q1) + 4) / 8) (by omega)
  unfold edgeD; omega


set_option maxHeartbeats 1000000 in
theorem impl.EdgeOf_off (p1 p0 q0 q1 q : Int) (w : World) (h : edgeOn p1 p0 q0 q1 q = false) :
    Calls Try.prog 17 #[.int .i64 p1, .int .i64 p0, .int .i64 q0, .int .i64 q1, .int .i64 q] w fun e w' => e = .returned (.tuple #[.int .i64 p0, .int .i64 q0]) ∧ Below w.heap.size w w' := by
  have hrow : Row (w.alloc (.cells #[.int .i64 p1, .int .i64 p0, .int .i64 q0, .int .i64 q1] 3)) (some ⟨w.heap.size, 0, none⟩) [p1, p0, q0, q1] := (Own.lit (B := 0) w _ [p1, p0, q0, q1] rfl (Nat.zero_le _) (by simp [maxLen])).row
  have HR := Lib.hid hrow
  clear hrow
  cases hall : allR 0 255 [p1, p0, q0, q1]
  · clear h
    go_enter Try.func17, Try.ntmps17
    go_wp2_with (go_at_call 48; refine (impl.allWithin_c _ _ [p1, p0, q0, q1] _ _ _ (by simp) HR.out).mono ?_; rintro e w' ⟨rfl, rfl⟩)
    go_ret2
    exact ⟨rfl, (Below.refl _ _).alloc (Nat.le_refl _) _⟩
  · have hb := hall
    simp only [allR, List.all_cons, List.all_nil, Bool.and_true, Bool.and_eq_true] at hb
    obtain ⟨b1, b2, b3, b4⟩ := hb
    have b1 := inR_true b1
    have b2 := inR_true b2
    have b3 := inR_true b3
    have b4 := inR_true b4
    cases h1 : decide (dist p0 q0 < alphaF q)
    · clear h
      go_enter Try.func17, Try.ntmps17
      go_wp2_with (first
        | (go_at_call 48; refine (impl.allWithin_c _ _ [p1, p0, q0, q1] _ _ _ (by simp) HR.out).mono ?_; rintro e w' ⟨rfl, rfl⟩)
        | (go_at_call 52; refine (impl.near_c _ _ _ _ (by omega) (by omega)).mono ?_; rintro e w' ⟨rfl, rfl⟩)
        | (go_at_call 19; refine (impl.AlphaOf_c _ _).mono ?_; rintro e w' ⟨rfl, rfl⟩)
        | (go_at_call 20; refine (impl.BetaOf_c _ _).mono ?_; rintro e w' ⟨rfl, rfl⟩))
      go_ret2
      exact ⟨rfl, (Below.refl _ _).alloc (Nat.le_refl _) _⟩
    · cases h2 : decide (dist p1 p0 < betaF q)
      · clear h
        go_enter Try.func17, Try.ntmps17
        go_wp2_with (first
          | (go_at_call 48; refine (impl.allWithin_c _ _ [p1, p0, q0, q1] _ _ _ (by simp) HR.out).mono ?_; rintro e w' ⟨rfl, rfl⟩)
          | (go_at_call 52; refine (impl.near_c _ _ _ _ (by omega) (by omega)).mono ?_; rintro e w' ⟨rfl, rfl⟩)
          | (go_at_call 19; refine (impl.AlphaOf_c _ _).mono ?_; rintro e w' ⟨rfl, rfl⟩)
          | (go_at_call 20; refine (impl.BetaOf_c _ _).mono ?_; rintro e w' ⟨rfl, rfl⟩))
        go_ret2
        exact ⟨rfl, (Below.refl _ _).alloc (Nat.le_refl _) _⟩
      · cases h3 : decide (dist q0 q1 < betaF q)
        · clear h
          go_enter Try.func17, Try.ntmps17
          go_wp2_with (first
            | (go_at_call 48; refine (impl.allWithin_c _ _ [p1, p0, q0, q1] _ _ _ (by simp) HR.out).mono ?_; rintro e w' ⟨rfl, rfl⟩)
            | (go_at_call 52; refine (impl.near_c _ _ _ _ (by omega) (by omega)).mono ?_; rintro e w' ⟨rfl, rfl⟩)
            | (go_at_call 19; refine (impl.AlphaOf_c _ _).mono ?_; rintro e w' ⟨rfl, rfl⟩)
            | (go_at_call 20; refine (impl.BetaOf_c _ _).mono ?_; rintro e w' ⟨rfl, rfl⟩))
          go_ret2
          exact ⟨rfl, (Below.refl _ _).alloc (Nat.le_refl _) _⟩
        · rw [edgeOn, hall, h1, h2, h3] at h
          cases h
set_option maxHeartbeats 1000000 in
theorem impl.EdgeOf_on (p1 p0 q0 q1 q : Int) (w : World) (h : edgeOn p1 p0 q0 q1 q = true) :
    Calls Try.prog 17 #[.int .i64 p1, .int .i64 p0, .int .i64 q0, .int .i64 q1, .int .i64 q] w fun e w' => e = .returned (.tuple #[.int .i64 (clipF 0 255 (p0 + edgeD p1 p0 q0 q1 q)), .int .i64 (clipF 0 255 (q0 - edgeD p1 p0 q0 q1 q))]) ∧ Below w.heap.size w w' := by
  have hrow : Row (w.alloc (.cells #[.int .i64 p1, .int .i64 p0, .int .i64 q0, .int .i64 q1] 3)) (some ⟨w.heap.size, 0, none⟩) [p1, p0, q0, q1] := (Own.lit (B := 0) w _ [p1, p0, q0, q1] rfl (Nat.zero_le _) (by simp [maxLen])).row
  have HR := Lib.hid hrow
  clear hrow
  obtain ⟨b1, b2, b3, b4, bq0, bq1⟩ := edge_bd h
  have hD := edgeD_bd p1 p0 q0 q1 q ⟨bq0, bq1⟩
  have HE : Hid (edgeD p1 p0 q0 q1 q = clipF (-(q / 4 + 1)) (q / 4 + 1) ((4 * (q0 - p0) + (p1 - q1) + 4) / 8)) := rfl
  generalize edgeD p1 p0 q0 q1 q = D at *
  unfold edgeOn at h
  simp only [Bool.and_eq_true] at h
  obtain ⟨hall, h1, h2, h3⟩ := h
  have hc1 : -(q / 4 + 1) ≤ q / 4 + 1 := by omega
  go_enter Try.func17, Try.ntmps17
  go_wp2_with (first
    | (go_at_call 48; refine (impl.allWithin_c _ _ [p1, p0, q0, q1] _ _ _ (by simp) HR.out).mono ?_; rintro e w' ⟨rfl, rfl⟩)
    | (go_at_call 52; refine (impl.near_c _ _ _ _ (by omega) (by omega)).mono ?_; rintro e w' ⟨rfl, rfl⟩)
    | (go_at_call 19; refine (impl.AlphaOf_c _ _).mono ?_; rintro e w' ⟨rfl, rfl⟩)
    | (go_at_call 20; refine (impl.BetaOf_c _ _).mono ?_; rintro e w' ⟨rfl, rfl⟩)
    | (go_at_call 54; refine (impl.floorDiv_c _ _ (by omega) (by omega)).mono ?_; rintro e w' ⟨rfl, rfl⟩)
    | (go_at_call 53; refine (impl.limited_c _ _ _ _).mono ?_; rintro e w' ⟨rfl, rfl⟩; first | rw [← HE.out] | skip))
  go_ret2
  exact ⟨rfl, (Below.refl _ _).alloc (Nat.le_refl _) _⟩
theorem impl.EdgeOf_c (p1 p0 q0 q1 q : Int) (w : World) :
    Calls Try.prog 17 #[.int .i64 p1, .int .i64 p0, .int .i64 q0, .int .i64 q1, .int .i64 q] w fun e w' => e = .returned (.tuple #[.int .i64 (edgeP p1 p0 q0 q1 q), .int .i64 (edgeQ p1 p0 q0 q1 q)]) ∧ Below w.heap.size w w' := by
  unfold edgeP edgeQ
  cases h : edgeOn p1 p0 q0 q1 q
  · exact impl.EdgeOf_off p1 p0 q0 q1 q w h
  · exact impl.EdgeOf_on p1 p0 q0 q1 q w h


set_option maxHeartbeats 1000000 in
theorem spec.EdgeOf_off (p1 p0 q0 q1 q : Int) (w : World) (h : edgeOn p1 p0 q0 q1 q = false) :
    Calls Try.prog 18 #[.int .i64 p1, .int .i64 p0, .int .i64 q0, .int .i64 q1, .int .i64 q] w fun e w' => e = .returned (.tuple #[.int .i64 p0, .int .i64 q0]) ∧ Below w.heap.size w w' := by
  have hrow : Row (w.alloc (.cells #[.int .i64 p1, .int .i64 p0, .int .i64 q0, .int .i64 q1] 3)) (some ⟨w.heap.size, 0, none⟩) [p1, p0, q0, q1] := (Own.lit (B := 0) w _ [p1, p0, q0, q1] rfl (Nat.zero_le _) (by simp [maxLen])).row
  have HR := Lib.hid hrow
  clear hrow
  cases hall : allR 0 255 [p1, p0, q0, q1]
  · clear h
    have hmin := min_if
    have hmax := max_if
    go_enter Try.func18, Try.ntmps18
    go_wp2_with (go_at_call 46; refine (spec.l14Pix_c _ _ [p1, p0, q0, q1] _ (by simp) HR.out).mono ?_; rintro e w' ⟨rfl, rfl⟩)
    go_ret2
    exact ⟨rfl, (Below.refl _ _).alloc (Nat.le_refl _) _⟩
  · have hb := hall
    simp only [allR, List.all_cons, List.all_nil, Bool.and_true, Bool.and_eq_true] at hb
    obtain ⟨b1, b2, b3, b4⟩ := hb
    have b1 := inR_true b1
    have b2 := inR_true b2
    have b3 := inR_true b3
    have b4 := inR_true b4
    cases h1 : decide (dist p0 q0 < alphaF q)
    · clear h
      have k1 := le_t h1
      have hmin := min_if
      have hmax := max_if
      go_enter Try.func18, Try.ntmps18
      go_wp2_with (first
        | (go_at_call 46; refine (spec.l14Pix_c _ _ [p1, p0, q0, q1] _ (by simp) HR.out).mono ?_; rintro e w' ⟨rfl, rfl⟩)
        | (go_at_call 55; refine (spec.l20Abs_c _ _ (by omega) (by omega)).mono ?_; rintro e w' ⟨rfl, rfl⟩; rw [dist_sub])
        | (go_at_call 41; refine (spec.AlphaOf_c _ _).mono ?_; rintro e w' ⟨rfl, rfl⟩)
        | (go_at_call 21; refine (spec.BetaOf_c _ _).mono ?_; rintro e w' ⟨rfl, rfl⟩))
      go_ret2
      exact ⟨rfl, (Below.refl _ _).alloc (Nat.le_refl _) _⟩
    · cases h2 : decide (dist p1 p0 < betaF q)
      · clear h
        have k1 := le_f h1
        have k2 := le_t h2
        have hmin := min_if
        have hmax := max_if
        go_enter Try.func18, Try.ntmps18
        go_wp2_with (first
          | (go_at_call 46; refine (spec.l14Pix_c _ _ [p1, p0, q0, q1] _ (by simp) HR.out).mono ?_; rintro e w' ⟨rfl, rfl⟩)
          | (go_at_call 55; refine (spec.l20Abs_c _ _ (by omega) (by omega)).mono ?_; rintro e w' ⟨rfl, rfl⟩; rw [dist_sub])
          | (go_at_call 41; refine (spec.AlphaOf_c _ _).mono ?_; rintro e w' ⟨rfl, rfl⟩)
          | (go_at_call 21; refine (spec.BetaOf_c _ _).mono ?_; rintro e w' ⟨rfl, rfl⟩))
        go_ret2
        exact ⟨rfl, (Below.refl _ _).alloc (Nat.le_refl _) _⟩
      · cases h3 : decide (dist q1 q0 < betaF q)
        · clear h
          have k1 := le_f h1
          have k2 := le_f h2
          have k3 := le_t h3
          have hmin := min_if
          have hmax := max_if
          go_enter Try.func18, Try.ntmps18
          go_wp2_with (first
            | (go_at_call 46; refine (spec.l14Pix_c _ _ [p1, p0, q0, q1] _ (by simp) HR.out).mono ?_; rintro e w' ⟨rfl, rfl⟩)
            | (go_at_call 55; refine (spec.l20Abs_c _ _ (by omega) (by omega)).mono ?_; rintro e w' ⟨rfl, rfl⟩; rw [dist_sub])
            | (go_at_call 41; refine (spec.AlphaOf_c _ _).mono ?_; rintro e w' ⟨rfl, rfl⟩)
            | (go_at_call 21; refine (spec.BetaOf_c _ _).mono ?_; rintro e w' ⟨rfl, rfl⟩))
          go_ret2
          exact ⟨rfl, (Below.refl _ _).alloc (Nat.le_refl _) _⟩
        · rw [edgeOn, dist_comm q0 q1, hall, h1, h2, h3] at h
          cases h
set_option maxHeartbeats 1000000 in
theorem spec.EdgeOf_on (p1 p0 q0 q1 q : Int) (w : World) (h : edgeOn p1 p0 q0 q1 q = true) :
    Calls Try.prog 18 #[.int .i64 p1, .int .i64 p0, .int .i64 q0, .int .i64 q1, .int .i64 q] w fun e w' => e = .returned (.tuple #[.int .i64 (clipF 0 255 (p0 + edgeD p1 p0 q0 q1 q)), .int .i64 (clipF 0 255 (q0 - edgeD p1 p0 q0 q1 q))]) ∧ Below w.heap.size w w' := by
  have hrow : Row (w.alloc (.cells #[.int .i64 p1, .int .i64 p0, .int .i64 q0, .int .i64 q1] 3)) (some ⟨w.heap.size, 0, none⟩) [p1, p0, q0, q1] := (Own.lit (B := 0) w _ [p1, p0, q0, q1] rfl (Nat.zero_le _) (by simp [maxLen])).row
  have HR := Lib.hid hrow
  clear hrow
  obtain ⟨b1, b2, b3, b4, bq0, bq1⟩ := edge_bd h
  have hD := edgeD_bd p1 p0 q0 q1 q ⟨bq0, bq1⟩
  have HE : Hid (edgeD p1 p0 q0 q1 q = clipF (-(q / 4 + 1)) (q / 4 + 1) ((4 * (q0 - p0) + (p1 - q1) + 4) / 8)) := rfl
  generalize edgeD p1 p0 q0 q1 q = D at *
  unfold edgeOn at h
  rw [dist_comm q0 q1] at h
  simp only [Bool.and_eq_true] at h
  obtain ⟨hall, h1, h2, h3⟩ := h
  have k1 := le_f h1
  have k2 := le_f h2
  have k3 := le_f h3
  have hDx : max (-(1 + q / 4)) (min (1 + q / 4) (((q0 - p0) * 4 + p1 - q1 + 4) / 8)) = D := by rw [HE.out]; unfold clipF; omega
  have hmin := min_if
  have hmax := max_if
  go_enter Try.func18, Try.ntmps18
  go_wp2_with (first
    | (go_at_call 46; refine (spec.l14Pix_c _ _ [p1, p0, q0, q1] _ (by simp) HR.out).mono ?_; rintro e w' ⟨rfl, rfl⟩)
    | (go_at_call 55; refine (spec.l20Abs_c _ _ (by omega) (by omega)).mono ?_; rintro e w' ⟨rfl, rfl⟩; rw [dist_sub])
    | (go_at_call 41; refine (spec.AlphaOf_c _ _).mono ?_; rintro e w' ⟨rfl, rfl⟩)
    | (go_at_call 21; refine (spec.BetaOf_c _ _).mono ?_; rintro e w' ⟨rfl, rfl⟩)
    | (go_at_call 56; refine (spec.l12Floor_c _ _ (by omega) (by omega)).mono ?_; rintro e w' ⟨rfl, rfl⟩)
    | (go_at_call 57; refine (spec.l15Clip_c _ _).mono ?_; rintro e w' ⟨rfl, rfl⟩))
  go_ret2
  exact ⟨rfl, (Below.refl _ _).alloc (Nat.le_refl _) _⟩
theorem spec.EdgeOf_c (p1 p0 q0 q1 q : Int) (w : World) :
    Calls Try.prog 18 #[.int .i64 p1, .int .i64 p0, .int .i64 q0, .int .i64 q1, .int .i64 q] w fun e w' => e = .returned (.tuple #[.int .i64 (edgeP p1 p0 q0 q1 q), .int .i64 (edgeQ p1 p0 q0 q1 q)]) ∧ Below w.heap.size w w' := by
  unfold edgeP edgeQ
  cases h : edgeOn p1 p0 q0 q1 q
  · exact spec.EdgeOf_off p1 p0 q0 q1 q w h
  · exact spec.EdgeOf_on p1 p0 q0 q1 q w h

end Go.Proofs.Ytkfjbnhihjnhnaa
