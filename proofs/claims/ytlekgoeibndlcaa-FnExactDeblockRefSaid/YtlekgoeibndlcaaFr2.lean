/- Contracts of the statements' helpers on frames: sizes and copies; of the frame's validity and equality. -/
import Derived.Test.YtlekgoeibndlcaaFrame
import Derived.Test.YtlekgoeibndlcaaSlices
namespace Go.Proofs.Ytlekgoeibndlcaa
open Go.RowKit
set_option linter.unusedVariables false


theorem szIntS_c (a : Option Addr) (c n : Nat) (k : Int) (w : World) (hn : n ≤ 9223372036854775807) (h0 : 0 ≤ k) (h1 : k ≤ 1048576) :
    Calls Try.prog 39 #[.slice a n c, .int .i64 k] w fun e w' => e = .returned (.int .i64 (if (n : Int) ≤ k then k - n else -1)) ∧ w = w' := by
  by_cases h : (n : Int) ≤ k
  · rw [if_pos h]
    go_enter Try.func39, Try.ntmps39
    go_wp2
    go_ret
    exact ⟨rfl, rfl⟩
  · rw [if_neg h]
    go_enter Try.func39, Try.ntmps39
    go_wp2
    go_ret
    exact ⟨rfl, rfl⟩


theorem szFrame_c (x y : Int) (a : Option Addr) (c : Nat) (l : List Int) (k : Int) (w : World) (h0 : 0 ≤ k) (h1 : k ≤ 1048576) (hn : (l.length : Int) ≤ k) :
    Calls Try.prog 11 #[frv x y a l.length c, .int .i64 k] w fun e w' => e = .returned (.int .i64 (k - l.length)) ∧ Below w.heap.size w w' := by
  have hs := fun w : World => szIntS_c a c l.length k w (by omega) h0 h1
  rw [if_pos hn] at hs
  have HS := Lib.hid hs
  clear hs
  go_enter Try.func11, Try.ntmps11
  go_wp2_with (go_at_call 39; refine (HS.out _).mono ?_; rintro e w' ⟨rfl, rfl⟩)
  go_ret
  exact ⟨rfl, (Below.refl w.heap.size w).alloc (Nat.le_refl _) _⟩
theorem szFrame_x (x y : Int) (a : Option Addr) (c : Nat) (l : List Int) (k : Int) (w : World) (h0 : 0 ≤ k) (h1 : k ≤ 1048576) (hn : ¬ (l.length : Int) ≤ k) (hb : l.length ≤ 9223372036854775807) :
    Calls Try.prog 11 #[frv x y a l.length c, .int .i64 k] w fun e w' => e = .returned (.int .i64 (-1)) ∧ Below w.heap.size w w' := by
  have hs := fun w : World => szIntS_c a c l.length k w hb h0 h1
  rw [if_neg hn] at hs
  have HS := Lib.hid hs
  clear hs
  go_enter Try.func11, Try.ntmps11
  go_wp2_with (go_at_call 39; refine (HS.out _).mono ?_; rintro e w' ⟨rfl, rfl⟩)
  go_ret
  exact ⟨rfl, (Below.refl w.heap.size w).alloc (Nat.le_refl _) _⟩


set_option maxHeartbeats 1000000 in
theorem toFrame_c (x y : Int) (a : Option Addr) (c : Nat) (l : List Int) (w : World) (hl : l.length ≤ 1048576) (hr : Row w a l) :
    Calls Try.prog 13 #[frv x y a l.length c] w fun e w' => ∃ b d, e = .returned (frv x y b l.length d) ∧ Own w.heap.size w' b d l ∧ Below w.heap.size w w' := by
  have HR := Lib.hid hr
  clear hr
  go_enter Try.func13, Try.ntmps13
  go_wp2_with fail
  refine (toIntS_c _ _ l _ hl (((HR.out.alloc _).alloc _).alloc _)).mono ?_
  rintro e w1 ⟨g1, rfl, hg1, ho, hb⟩
  have d0 : w1.cell? ⟨w.heap.size + 1 + 1, 0, none⟩ = some (.int .i64 x) := (hb.cell (p := ⟨w.heap.size + 1 + 1, 0, none⟩) (by simp)).trans (by simp [World.cell?_alloc_at])
  have d1 : w1.cell? ⟨w.heap.size + 1 + 1, 1, none⟩ = some (.int .i64 y) := (hb.cell (p := ⟨w.heap.size + 1 + 1, 1, none⟩) (by simp)).trans (by simp [World.cell?_alloc_at])
  have d2 : w1.cell? ⟨w.heap.size + 1 + 1, 2, none⟩ = some (.slice none 0 0) := (hb.cell (p := ⟨w.heap.size + 1 + 1, 2, none⟩) (by simp)).trans (by simp [World.cell?_alloc_at])
  have f0 : w1.frozen? ⟨w.heap.size + 1 + 1, 2, none⟩ = false := (hb.frozen (p := ⟨w.heap.size + 1 + 1, 2, none⟩) (by simp)).trans (by simp [go_sem])
  have r0 : w1.cell? ⟨w.heap.size + 1, 0, none⟩ = some (.int .i64 0) := (hb.cell (p := ⟨w.heap.size + 1, 0, none⟩) (by simp)).trans (by simp [World.cell?_alloc_at, World.cell?_alloc_past])
  have r1 : w1.cell? ⟨w.heap.size + 1, 1, none⟩ = some (.int .i64 0) := (hb.cell (p := ⟨w.heap.size + 1, 1, none⟩) (by simp)).trans (by simp [World.cell?_alloc_at, World.cell?_alloc_past])
  have r2 : w1.cell? ⟨w.heap.size + 1, 2, none⟩ = some (.slice none 0 0) := (hb.cell (p := ⟨w.heap.size + 1, 2, none⟩) (by simp)).trans (by simp [World.cell?_alloc_at, World.cell?_alloc_past])
  have k0 : w1.frozen? ⟨w.heap.size + 1, 0, none⟩ = false := (hb.frozen (p := ⟨w.heap.size + 1, 0, none⟩) (by simp)).trans (by simp [go_sem])
  have k1 : w1.frozen? ⟨w.heap.size + 1, 1, none⟩ = false := (hb.frozen (p := ⟨w.heap.size + 1, 1, none⟩) (by simp)).trans (by simp [go_sem])
  have k2 : w1.frozen? ⟨w.heap.size + 1, 2, none⟩ = false := (hb.frozen (p := ⟨w.heap.size + 1, 2, none⟩) (by simp)).trans (by simp [go_sem])
  have HO : Hid (Own (w.heap.size + 1 + 1 + 1) w1 (some ⟨g1, 0, none⟩) l.length l) := ho.mono (by simp)
  have HB : Hid (Below w.heap.size w w1) := ((((Below.refl w.heap.size w).alloc (Nat.le_refl _) _).alloc (by simp) _).alloc (by simp; omega) _).trans (hb.mono (by simp; omega))
  have hlt : g1 ≠ w.heap.size + 1 ∧ g1 ≠ w.heap.size + 1 + 1 := by rw [hg1]; simp; omega
  clear hg1 ho hb HR
  go_wp2
  have e0 := (World.cell?_setCell_other (w := w1) (a := ⟨w.heap.size + 1 + 1, 2, none⟩) (b := ⟨w.heap.size + 1, 0, none⟩) (v := .slice (some ⟨g1, 0, none⟩) l.length l.length) (by simp)).trans r0
  have e1 := (World.cell?_setCell_other (w := w1) (a := ⟨w.heap.size + 1 + 1, 2, none⟩) (b := ⟨w.heap.size + 1, 1, none⟩) (v := .slice (some ⟨g1, 0, none⟩) l.length l.length) (by simp)).trans r1
  have e2 := (World.cell?_setCell_other (w := w1) (a := ⟨w.heap.size + 1 + 1, 2, none⟩) (b := ⟨w.heap.size + 1, 2, none⟩) (v := .slice (some ⟨g1, 0, none⟩) l.length l.length) (by simp)).trans r2
  have hT := three_set (.int .i64 x) (.int .i64 y) (.slice (some ⟨g1, 0, none⟩) l.length l.length) e0 e1 e2
  clear e0 e1 e2 d0 d1 d2 f0 r0 r1 r2 k0 k1 k2
  refine bodyPost_ret (v := frv x y (some ⟨g1, 0, none⟩) l.length l.length) (by simp [results, Try.results13, go_sem, hT]) rfl ⟨some ⟨g1, 0, none⟩, l.length, rfl, ?_, ?_⟩
  · exact ((((HO.out.far (p := ⟨w.heap.size + 1 + 1, 2, none⟩) (by show w.heap.size + 1 + 1 < _; omega) _).far (p := ⟨w.heap.size + 1, 0, none⟩) (by show w.heap.size + 1 < _; omega) _).far (p := ⟨w.heap.size + 1, 1, none⟩) (by show w.heap.size + 1 < _; omega) _).far (p := ⟨w.heap.size + 1, 2, none⟩) (by show w.heap.size + 1 < _; omega) _).mono (by omega)
  · exact (((HB.out.setCell (p := ⟨w.heap.size + 1 + 1, 2, none⟩) (by show _ ≤ w.heap.size + 1 + 1; omega) _).setCell (p := ⟨w.heap.size + 1, 0, none⟩) (by show _ ≤ w.heap.size + 1; omega) _).setCell (p := ⟨w.heap.size + 1, 1, none⟩) (by show _ ≤ w.heap.size + 1; omega) _).setCell (p := ⟨w.heap.size + 1, 2, none⟩) (by show _ ≤ w.heap.size + 1; omega) _


def frameB (x y : Int) (l : List Int) : Bool := sidesB x y && (decide ((l.length : Int) = x * y) && allR 0 255 l)
theorem frameB_true {x y : Int} {l : List Int} (h : frameB x y l = true) : sidesB x y = true ∧ (l.length : Int) = x * y ∧ allR 0 255 l = true := by
  simpa [frameB] using h

set_option maxHeartbeats 1000000 in
theorem impl.FrameOk_c (x y : Int) (a : Option Addr) (c : Nat) (l : List Int) (w : World) (hx : -9223372036854775808 ≤ x ∧ x ≤ 9223372036854775807) (hy : -9223372036854775808 ≤ y ∧ y ≤ 9223372036854775807) (hl : l.length ≤ 1099511627776) (hr : Row w a l) (hw : ∀ x ∈ l, -9223372036854775808 ≤ x ∧ x ≤ 9223372036854775807) :
    Calls Try.prog 17 #[frv x y a l.length c] w fun e w' => e = .returned (.bool (frameB x y l)) ∧ Below w.heap.size w w' := by
  clear hx hy hw
  have HR := Lib.hid hr
  clear hr
  cases h1 : sidesB x y
  · have hf : frameB x y l = false := by rw [frameB, h1]; rfl
    have HF := Lib.hid hf
    clear hf
    go_enter Try.func17, Try.ntmps17
    go_wp2_with (go_at_call 43; refine (impl.SidesOk_c _ _ _).mono ?_; rintro e w' ⟨rfl, rfl⟩)
    go_ret
    exact ⟨ret_bool HF.out.symm, (Below.refl w.heap.size w).alloc (Nat.le_refl _) _⟩
  · obtain ⟨hab0, hab1⟩ := area_bd h1
    by_cases h2 : (l.length : Int) = x * y
    · have h2' : ((l.length : Int) == IntKind.i64.wrap (x * y)) = true := by rw [IntWalk.i64_in _ (by omega)]; simp [h2]
      have h2'' : ((l.length : Int) == x * y) = true := by simp [h2]
      have hf : frameB x y l = allR 0 255 l := by rw [frameB, h1, h2]; simp
      have HF := Lib.hid hf
      clear hf h2
      go_enter Try.func17, Try.ntmps17
      go_wp2_with fail
      refine (impl.SidesOk_c _ _ _).mono ?_
      rintro e w' ⟨rfl, rfl⟩
      go_wp2_with fail
      refine (impl.allWithin_c _ _ l _ _ _ (by omega) (HR.out.alloc _)).mono ?_
      rintro e w' ⟨rfl, rfl⟩
      go_wp2
      go_ret
      exact ⟨ret_bool HF.out.symm, (Below.refl w.heap.size w).alloc (Nat.le_refl _) _⟩
    · have h2' : ((l.length : Int) == IntKind.i64.wrap (x * y)) = false := by rw [IntWalk.i64_in _ (by omega)]; simp [h2]
      have h2'' : ((l.length : Int) == x * y) = false := by simp [h2]
      have hf : frameB x y l = false := by rw [frameB, h1]; simp [h2]
      have HF := Lib.hid hf
      clear hf h2
      go_enter Try.func17, Try.ntmps17
      go_wp2_with fail
      refine (impl.SidesOk_c _ _ _).mono ?_
      rintro e w' ⟨rfl, rfl⟩
      go_wp2
      go_ret
      exact ⟨ret_bool HF.out.symm, (Below.refl w.heap.size w).alloc (Nat.le_refl _) _⟩


set_option maxHeartbeats 1000000 in
theorem spec.FrameOk_c (x y : Int) (a : Option Addr) (c : Nat) (l : List Int) (w : World) (hx : -9223372036854775808 ≤ x ∧ x ≤ 9223372036854775807) (hy : -9223372036854775808 ≤ y ∧ y ≤ 9223372036854775807) (hl : l.length ≤ 1099511627776) (hr : Row w a l) (hw : ∀ x ∈ l, -9223372036854775808 ≤ x ∧ x ≤ 9223372036854775807) :
    Calls Try.prog 16 #[frv x y a l.length c] w fun e w' => e = .returned (.bool (frameB x y l)) ∧ Below w.heap.size w w' := by
  clear hx hy hw
  have HR := Lib.hid hr
  clear hr
  cases h1 : sidesB x y
  · have hf : frameB x y l = false := by rw [frameB, h1]; rfl
    have HF := Lib.hid hf
    clear hf
    go_enter Try.func16, Try.ntmps16
    go_wp2_with (go_at_call 41; refine (spec.SidesOk_c _ _ _).mono ?_; rintro e w' ⟨rfl, rfl⟩)
    go_ret
    exact ⟨ret_bool HF.out.symm, (Below.refl w.heap.size w).alloc (Nat.le_refl _) _⟩
  · obtain ⟨hab0, hab1⟩ := area_bd h1
    by_cases h2 : (l.length : Int) = x * y
    · have h2' : ((l.length : Int) == IntKind.i64.wrap (x * y)) = true := by rw [IntWalk.i64_in _ (by omega)]; simp [h2]
      have h2'' : ((l.length : Int) == x * y) = true := by simp [h2]
      have hf : frameB x y l = allR 0 255 l := by rw [frameB, h1, h2]; simp
      have HF := Lib.hid hf
      clear hf h2
      go_enter Try.func16, Try.ntmps16
      go_wp2_with fail
      refine (spec.SidesOk_c _ _ _).mono ?_
      rintro e w' ⟨rfl, rfl⟩
      go_wp2_with fail
      refine (spec.l14Pix_c _ _ l _ (by omega) (HR.out.alloc _)).mono ?_
      rintro e w' ⟨rfl, rfl⟩
      go_wp2
      go_ret
      exact ⟨ret_bool HF.out.symm, (Below.refl w.heap.size w).alloc (Nat.le_refl _) _⟩
    · have h2' : ((l.length : Int) == IntKind.i64.wrap (x * y)) = false := by rw [IntWalk.i64_in _ (by omega)]; simp [h2]
      have h2'' : ((l.length : Int) == x * y) = false := by simp [h2]
      have hf : frameB x y l = false := by rw [frameB, h1]; simp [h2]
      have HF := Lib.hid hf
      clear hf h2
      go_enter Try.func16, Try.ntmps16
      go_wp2_with fail
      refine (spec.SidesOk_c _ _ _).mono ?_
      rintro e w' ⟨rfl, rfl⟩
      go_wp2
      go_ret
      exact ⟨ret_bool HF.out.symm, (Below.refl w.heap.size w).alloc (Nat.le_refl _) _⟩



set_option maxHeartbeats 400000 in
theorem Equal_c (a b : Option Addr) (c d : Nat) (l m : List Int) (w : World) (hl : l.length ≤ 1099511627776) (hm : m.length ≤ 1099511627776) (hra : Row w a l) (hrb : Row w b m) :
    Calls Try.prog 40 #[.slice a l.length c, .slice b m.length d] w fun e w' => e = .returned (.bool (decide (l = m))) ∧ ∃ n, w' = w.drewN n := by
  by_cases hlen : l.length = m.length
  · have hne : ((l.length : Int) != (m.length : Int)) = false := by simp [hlen]
    have HL := Lib.hid hlen
    clear hlen
    go_enter Try.func40, Try.ntmps40
    go_wp2
    go_loopw [5, 13] (fun _ i wr => ∃ k : Nat, k ≤ l.length ∧ i = .int .i64 k ∧ (∀ i, i < k → l.getD i 0 = m.getD i 0) ∧ ∃ n, wr = w.drewN n) (fun _ i _ => l.length - (intOf i).toNat)
    case atStart => exact ⟨0, Nat.zero_le _, rfl, fun i h => absurd h (by omega), 0, rfl⟩
    case round =>
      obtain ⟨k, hk, rfl, heq, n, rfl⟩ := hrel
      have HE := Lib.hid heq
      clear heq
      by_cases hlt : k < l.length
      · have hlt2 : k < m.length := by rw [← HL.out]; exact hlt
        obtain ⟨ba, oa, rfl, hca⟩ := hra.at_ hlt
        obtain ⟨bb, ob, rfl, hcb⟩ := hrb.at_ hlt2
        obtain ⟨x, hx⟩ : ∃ x, x = l.getD k 0 := ⟨_, rfl⟩
        obtain ⟨y, hy⟩ : ∃ y, y = m.getD k 0 := ⟨_, rfl⟩
        rw [← hx] at hca
        rw [← hy] at hcb
        have HX := Lib.hid hx
        have HY := Lib.hid hy
        clear hx hy hra hrb hne
        have hi1 : (k : Int) < (l.length : Int) := by omega
        have hi2 : (k : Int) < (m.length : Int) := by omega
        go_wp2
        go_quiet (fail)
        by_cases hxy : x = y
        · have hb : (x != y) = false := by simp [hxy]
          have HXY := Lib.hid hxy
          clear hxy
          go_wp2
          go_roundw
          case rel => exact ⟨k + 1, by omega, by go_num, fun i hi => by
            by_cases h : i < k
            · exact HE.out i h
            · obtain rfl : i = k := by omega
              rw [← HX.out, ← HY.out]; exact HXY.out, by first | exact ⟨_, rfl⟩ | exact drewN_ex _ _⟩
          case measure => simp [intOf]; omega
        · have hb : (x != y) = true := by simp [hxy]
          have HXY := Lib.hid hxy
          clear hxy
          go_wp2
          go_ret
          refine ⟨ret_bool ?_, by first | exact ⟨_, rfl⟩ | exact drewN_ex _ _⟩
          rw [decide_eq_false]
          intro e
          exact HXY.out (by rw [HX.out, HY.out, e])
      · have hend : k = l.length := by omega
        clear hra hrb hne
        go_wp2
        go_ret
        refine ⟨ret_bool ?_, _, rfl⟩
        rw [decide_eq_true]
        exact eq_of_take HL.out (fun i hi => HE.out i (by omega))
  · have hne : ((l.length : Int) != (m.length : Int)) = true := by simp; omega
    have HL := Lib.hid hlen
    clear hlen
    go_enter Try.func40, Try.ntmps40
    go_wp2
    go_ret
    refine ⟨ret_bool ?_, 0, rfl⟩
    rw [decide_eq_false]
    intro e
    exact HL.out (by rw [e])


def sameB (x y : Int) (l : List Int) (x2 y2 : Int) (l2 : List Int) : Bool := decide (x = x2) && (decide (y = y2) && decide (l = l2))

set_option maxHeartbeats 1000000 in
theorem impl.SameFrame_c (x y : Int) (a : Option Addr) (c : Nat) (l : List Int) (x2 y2 : Int) (a2 : Option Addr) (c2 : Nat) (l2 : List Int) (w : World) (hx : -9223372036854775808 ≤ x ∧ x ≤ 9223372036854775807) (hy : -9223372036854775808 ≤ y ∧ y ≤ 9223372036854775807) (hl : l.length ≤ 1099511627776) (hr : Row w a l) (hw : ∀ x ∈ l, -9223372036854775808 ≤ x ∧ x ≤ 9223372036854775807)
    (hx2 : -9223372036854775808 ≤ x2 ∧ x2 ≤ 9223372036854775807) (hy2 : -9223372036854775808 ≤ y2 ∧ y2 ≤ 9223372036854775807) (hl2 : l2.length ≤ 1099511627776) (hr2 : Row w a2 l2) (hw2 : ∀ x ∈ l2, -9223372036854775808 ≤ x ∧ x ≤ 9223372036854775807) :
    Calls Try.prog 14 #[frv x y a l.length c, frv x2 y2 a2 l2.length c2] w fun e w' => e = .returned (.bool (sameB x y l x2 y2 l2)) ∧ Below w.heap.size w w' := by
  clear hx hy hw hx2 hy2 hw2
  have HR := Lib.hid hr
  have HR2 := Lib.hid hr2
  clear hr hr2
  by_cases h1 : x = x2
  · by_cases h2 : y = y2
    · have hf : sameB x y l x2 y2 l2 = decide (l = l2) := by simp [sameB, h1, h2]
      have e1 : (x == x2) = true := by simp [h1]
      have e2 : (y == y2) = true := by simp [h2]
      have HF := Lib.hid hf
      clear hf h1 h2
      go_enter Try.func14, Try.ntmps14
      go_wp2_with fail
      refine (Equal_c _ _ _ _ l l2 _ hl hl2 ((HR.out.alloc _).alloc _) ((HR2.out.alloc _).alloc _)).mono ?_
      rintro e w' ⟨rfl, n, rfl⟩
      go_wp2
      go_ret
      exact ⟨ret_bool HF.out.symm, below_drewN' (((Below.refl w.heap.size w).alloc (Nat.le_refl _) _).alloc (by simp) _) _⟩
    · have hf : sameB x y l x2 y2 l2 = false := by simp [sameB, h2]
      have e1 : (x == x2) = true := by simp [h1]
      have e2 : (y == y2) = false := by simp [h2]
      have HF := Lib.hid hf
      clear hf h1 h2
      go_enter Try.func14, Try.ntmps14
      go_wp2
      go_ret
      exact ⟨ret_bool HF.out.symm, ((Below.refl w.heap.size w).alloc (Nat.le_refl _) _).alloc (by simp) _⟩
  · have hf : sameB x y l x2 y2 l2 = false := by simp [sameB, h1]
    have e1 : (x == x2) = false := by simp [h1]
    have HF := Lib.hid hf
    clear hf h1
    go_enter Try.func14, Try.ntmps14
    go_wp2
    go_ret
    exact ⟨ret_bool HF.out.symm, ((Below.refl w.heap.size w).alloc (Nat.le_refl _) _).alloc (by simp) _⟩


set_option maxHeartbeats 2000000 in
theorem spec.SameFrame_c (x y : Int) (a : Option Addr) (c : Nat) (l : List Int) (x2 y2 : Int) (a2 : Option Addr) (c2 : Nat) (l2 : List Int) (w : World) (hx : -9223372036854775808 ≤ x ∧ x ≤ 9223372036854775807) (hy : -9223372036854775808 ≤ y ∧ y ≤ 9223372036854775807) (hl : l.length ≤ 1099511627776) (hr : Row w a l) (hw : ∀ x ∈ l, -9223372036854775808 ≤ x ∧ x ≤ 9223372036854775807)
    (hx2 : -9223372036854775808 ≤ x2 ∧ x2 ≤ 9223372036854775807) (hy2 : -9223372036854775808 ≤ y2 ∧ y2 ≤ 9223372036854775807) (hl2 : l2.length ≤ 1099511627776) (hr2 : Row w a2 l2) (hw2 : ∀ x ∈ l2, -9223372036854775808 ≤ x ∧ x ≤ 9223372036854775807) :
    Calls Try.prog 12 #[frv x y a l.length c, frv x2 y2 a2 l2.length c2] w fun e w' => e = .returned (.bool (sameB x y l x2 y2 l2)) ∧ Below w.heap.size w w' := by
  clear hx hy hw hx2 hy2 hw2
  by_cases h1 : x = x2
  · have e1 : (x != x2) = false := by simp [h1]
    by_cases h2 : y = y2
    · have e2 : (y != y2) = false := by simp [h2]
      by_cases h3 : l.length = l2.length
      · have e3 : ((l.length : Int) != (l2.length : Int)) = false := by simp [h3]
        have hf : sameB x y l x2 y2 l2 = decide (l = l2) := by simp [sameB, h1, h2]
        have HF := Lib.hid hf
        have H3 := Lib.hid h3
        clear hf h1 h2 h3
        go_enter Try.func12, Try.ntmps12
        go_wp2
        obtain ⟨W0, hW0⟩ : ∃ W0, W0 = (w.alloc (.cells #[.int .i64 x, .int .i64 y, .slice a l.length c] 27)).alloc (.cells #[.int .i64 x2, .int .i64 y2, .slice a2 l2.length c2] 27) := ⟨_, rfl⟩
        rw [← hW0]
        have p0 : W0.cell? ⟨w.heap.size, 2, none⟩ = some (.slice a l.length c) := by rw [hW0]; simp
        have p1 : W0.cell? ⟨w.heap.size + 1, 2, none⟩ = some (.slice a2 l2.length c2) := by rw [hW0]; simp
        have HB : Hid (Below w.heap.size w W0) := by show Below _ _ _; rw [hW0]; exact ((Below.refl w.heap.size w).alloc (Nat.le_refl _) _).alloc (by simp) _
        have ra := hr.below HB.out (Nat.le_refl _)
        have rb := hr2.below HB.out (Nat.le_refl _)
        clear hW0 hr hr2
        go_loopw [5] (fun i wr => ∃ k : Nat, k ≤ l.length ∧ i = .int .i64 k ∧ (∀ i, i < k → l.getD i 0 = l2.getD i 0) ∧ ∃ n, wr = W0.drewN n) (fun i _ => l.length - (intOf i).toNat)
        case atStart => exact ⟨0, Nat.zero_le _, rfl, fun i h => absurd h (by omega), 0, rfl⟩
        case round =>
          obtain ⟨k, hk, rfl, heq, n, rfl⟩ := hrel
          have HE := Lib.hid heq
          clear heq
          by_cases hlt : k < l.length
          · have hlt2 : k < l2.length := by rw [← H3.out]; exact hlt
            obtain ⟨ba, oa, rfl, hca⟩ := ra.at_ hlt
            obtain ⟨bb, ob, rfl, hcb⟩ := rb.at_ hlt2
            obtain ⟨u, hu⟩ : ∃ x, x = l.getD k 0 := ⟨_, rfl⟩
            obtain ⟨v, hv⟩ : ∃ y, y = l2.getD k 0 := ⟨_, rfl⟩
            rw [← hu] at hca
            rw [← hv] at hcb
            have HX := Lib.hid hu
            have HY := Lib.hid hv
            clear hu hv ra rb e1 e2 e3
            have hi1 : (k : Int) < (l.length : Int) := by omega
            have hi2 : (k : Int) < (l2.length : Int) := by omega
            go_wp2
            go_quiet (fail)
            by_cases hxy : u = v
            · have hb : (u != v) = false := by simp [hxy]
              have HXY := Lib.hid hxy
              clear hxy
              go_wp2
              go_roundw
              case rel => exact ⟨k + 1, by omega, by go_num, fun i hi => by
                by_cases h : i < k
                · exact HE.out i h
                · obtain rfl : i = k := by omega
                  rw [← HX.out, ← HY.out]; exact HXY.out, by first | exact ⟨_, rfl⟩ | exact drewN_ex _ _⟩
              case measure => simp [intOf]; omega
            · have hb : (u != v) = true := by simp [hxy]
              have HXY := Lib.hid hxy
              clear hxy
              go_wp2
              go_ret
              refine ⟨ret_bool ?_, by first | exact below_drewN' HB.out _ | exact below_drewN' (below_drewN' HB.out _) _⟩
              rw [HF.out, decide_eq_false]
              intro e
              exact HXY.out (by rw [HX.out, HY.out, e])
          · have hend : k = l.length := by omega
            clear ra rb e1 e2 e3
            go_wp2
            go_ret
            refine ⟨ret_bool ?_, below_drewN' HB.out _⟩
            rw [HF.out, decide_eq_true]
            exact eq_of_take H3.out (fun i hi => HE.out i (by omega))
      · have e3 : ((l.length : Int) != (l2.length : Int)) = true := by simp; omega
        have hf : sameB x y l x2 y2 l2 = false := by
          have : l ≠ l2 := fun e => h3 (by rw [e])
          simp [sameB, this]
        have HF := Lib.hid hf
        clear hf h1 h2 h3
        go_enter Try.func12, Try.ntmps12
        go_wp2
        go_ret
        exact ⟨ret_bool HF.out.symm, ((Below.refl w.heap.size w).alloc (Nat.le_refl _) _).alloc (by simp) _⟩
    · have e2 : (y != y2) = true := by simp [h2]
      have hf : sameB x y l x2 y2 l2 = false := by simp [sameB, h2]
      have HF := Lib.hid hf
      clear hf h1 h2
      go_enter Try.func12, Try.ntmps12
      go_wp2
      go_ret
      exact ⟨ret_bool HF.out.symm, ((Below.refl w.heap.size w).alloc (Nat.le_refl _) _).alloc (by simp) _⟩
  · have e1 : (x != x2) = true := by simp [h1]
    have hf : sameB x y l x2 y2 l2 = false := by simp [sameB, h1]
    have HF := Lib.hid hf
    clear hf h1
    go_enter Try.func12, Try.ntmps12
    go_wp2
    go_ret
    exact ⟨ret_bool HF.out.symm, ((Below.refl w.heap.size w).alloc (Nat.le_refl _) _).alloc (by simp) _⟩

end Go.Proofs.Ytlekgoeibndlcaa
