/- Contracts: does a block fit into a frame? -/
import Derived.Test.YtkfjbnhihjnhnaaFr2
namespace Go.Proofs.Ytkfjbnhihjnhnaa
open Go.RowKit
set_option linter.unusedVariables false

def sizeB (n : Int) : Bool := decide (n = 4) || decide (n = 8)
theorem sizeB_true {n : Int} (h : sizeB n = true) : n = 4 ∨ n = 8 := by simpa [sizeB] using h

theorem impl.SizeOk_c (n : Int) (w : World) :
    Calls Try.prog 64 #[.int .i64 n] w fun e w' => e = .returned (.bool (sizeB n)) ∧ w = w' := by
  by_cases h4 : n = 4
  · subst h4
    go_enter Try.func64, Try.ntmps64
    go_wp2
    go_ret
    exact ⟨rfl, rfl⟩
  · by_cases h8 : n = 8
    · subst h8
      go_enter Try.func64, Try.ntmps64
      go_wp2
      go_ret
      exact ⟨rfl, rfl⟩
    · have hf : sizeB n = false := by simp [sizeB, h4, h8]
      have e4 : (n == 4) = false := by simp [h4]
      have e8 : (n == 8) = false := by simp [h8]
      have HF := Lib.hid hf
      clear hf h4 h8
      go_enter Try.func64, Try.ntmps64
      go_wp2
      go_ret
      exact ⟨ret_bool HF.out.symm, rfl⟩


theorem spec.SizeOk_c (n : Int) (w : World) :
    Calls Try.prog 72 #[.int .i64 n] w fun e w' => e = .returned (.bool (sizeB n)) ∧ w = w' := by
  by_cases h4 : n = 4
  · subst h4
    go_enter Try.func72, Try.ntmps72
    go_wp2
    go_ret
    exact ⟨rfl, rfl⟩
  · by_cases h8 : n = 8
    · subst h8
      go_enter Try.func72, Try.ntmps72
      go_wp2
      go_ret
      exact ⟨rfl, rfl⟩
    · have hf : sizeB n = false := by simp [sizeB, h4, h8]
      have e4 : (n == 4) = false := by simp [h4]
      have e8 : (n == 8) = false := by simp [h8]
      have HF := Lib.hid hf
      clear hf h4 h8
      go_enter Try.func72, Try.ntmps72
      go_wp2
      go_ret
      exact ⟨ret_bool HF.out.symm, rfl⟩

def fitsB (x y : Int) (l : List Int) (u v n : Int) : Bool := frameB x y l && (sizeB n && (inR 0 (x - n) u && (inR 0 (y - n) v && (decide (u % n = 0) && decide (v % n = 0)))))
theorem fitsB_true {x y : Int} {l : List Int} {u v n : Int} (h : fitsB x y l u v n = true) :
    frameB x y l = true ∧ (n = 4 ∨ n = 8) ∧ (0 ≤ u ∧ u ≤ x - n) ∧ (0 ≤ v ∧ v ≤ y - n) ∧ u % n = 0 ∧ v % n = 0 := by
  simp only [fitsB, Bool.and_eq_true, decide_eq_true_eq] at h
  exact ⟨h.1, sizeB_true h.2.1, inR_true h.2.2.1, inR_true h.2.2.2.1, h.2.2.2.2.1, h.2.2.2.2.2⟩

theorem fitsB_q1 {x y : Int} {l : List Int} {u v n : Int} (h : inR 0 (x - n) u = false) : fitsB x y l u v n = false := by rw [fitsB, h]; simp
theorem fitsB_q2 {x y : Int} {l : List Int} {u v n : Int} (h : inR 0 (y - n) v = false) : fitsB x y l u v n = false := by rw [fitsB, h]; simp
theorem fitsB_mod {x y : Int} {l : List Int} {u v n : Int} (h1 : frameB x y l = true) (h2 : sizeB n = true) (h3 : inR 0 (x - n) u = true) (h4 : inR 0 (y - n) v = true) : fitsB x y l u v n = (decide (u % n = 0) && decide (v % n = 0)) := by rw [fitsB, h1, h2, h3, h4]; rfl


set_option maxHeartbeats 2000000 in
theorem impl.fits_c (x y : Int) (a : Option Addr) (c : Nat) (l : List Int) (u v n : Int) (w : World) (hx : -9223372036854775808 ≤ x ∧ x ≤ 9223372036854775807) (hy : -9223372036854775808 ≤ y ∧ y ≤ 9223372036854775807) (hl : l.length ≤ 1099511627776) (hr : Row w a l) (hw : ∀ x ∈ l, -9223372036854775808 ≤ x ∧ x ≤ 9223372036854775807) :
    Calls Try.prog 62 #[frv x y a l.length c, .int .i64 u, .int .i64 v, .int .i64 n] w fun e w' => e = .returned (.bool (fitsB x y l u v n)) ∧ Below w.heap.size w w' := by
  have hc := fun t => impl.FrameOk_c x y a c l (w.alloc (.cells #[.int .i64 x, .int .i64 y, .slice a l.length c] t)) hx hy hl (hr.alloc _) hw
  have HW := Lib.hid hc
  clear hc hx hy hw hr
  have fin : ∀ t, ∀ w1, Below (w.alloc (.cells #[.int .i64 x, .int .i64 y, .slice a l.length c] t)).heap.size (w.alloc (.cells #[.int .i64 x, .int .i64 y, .slice a l.length c] t)) w1 → Below w.heap.size w w1 := fun t w1 hb => ((Below.refl w.heap.size w).alloc (Nat.le_refl _) _).trans (hb.mono (by simp))
  have HFin := Lib.hid fin
  clear fin
  cases h1 : frameB x y l
  · have hf : fitsB x y l u v n = false := by rw [fitsB, h1]; rfl
    have HF := Lib.hid hf
    rw [h1] at HW
    clear hf h1
    go_enter Try.func62, Try.ntmps62
    go_wp2_with fail
    refine (HW.out _).mono ?_
    rintro e w1 ⟨rfl, hb⟩
    go_wp2
    go_ret
    exact ⟨ret_bool HF.out.symm, HFin.out _ _ hb⟩
  · rw [h1] at HW
    obtain ⟨hs1, hs2, hs3, hs4, _, _⟩ := sidesB_true (frameB_true h1).1
    cases h2 : sizeB n
    · have hf : fitsB x y l u v n = false := by rw [fitsB, h1, h2]; rfl
      have HF := Lib.hid hf
      clear hf h1
      go_enter Try.func62, Try.ntmps62
      go_wp2_with fail
      refine (HW.out _).mono ?_
      rintro e w1 ⟨rfl, hb⟩
      go_wp2_with (go_at_call 64; refine (impl.SizeOk_c _ _).mono ?_; rintro e w' ⟨rfl, rfl⟩)
      go_ret
      exact ⟨ret_bool HF.out.symm, HFin.out _ _ hb⟩
    · have hn := sizeB_true h2
      cases hq1 : inR 0 (x - n) u
      · have hf := fitsB_q1 (y := y) (l := l) (v := v) hq1
        have HF := Lib.hid hf
        clear hf h1
        rcases hn with rfl | rfl
        all_goals
          go_enter Try.func62, Try.ntmps62
          go_wp2_with fail
          refine (HW.out _).mono ?_
          rintro e w1 ⟨rfl, hb⟩
          have c0 : w1.cell? ⟨w.heap.size, 0, none⟩ = some (.int .i64 x) := (hb.cell (p := ⟨w.heap.size, 0, none⟩) (by simp)).trans (by simp)
          go_wp2_with (first
            | (go_at_call 64; refine (impl.SizeOk_c _ _).mono ?_; rintro e w' ⟨rfl, rfl⟩)
            | (go_at_call 58; refine (within_c _ _ _ _).mono ?_; rintro e w' ⟨rfl, rfl⟩))
          go_ret
          exact ⟨ret_bool HF.out.symm, HFin.out _ _ hb⟩
      · obtain ⟨hu0, hu1⟩ := inR_true hq1
        cases hq2 : inR 0 (y - n) v
        · have hf := fitsB_q2 (x := x) (l := l) (u := u) hq2
          have HF := Lib.hid hf
          clear hf h1
          rcases hn with rfl | rfl
          all_goals
            go_enter Try.func62, Try.ntmps62
            go_wp2_with fail
            refine (HW.out _).mono ?_
            rintro e w1 ⟨rfl, hb⟩
            have c0 : w1.cell? ⟨w.heap.size, 0, none⟩ = some (.int .i64 x) := (hb.cell (p := ⟨w.heap.size, 0, none⟩) (by simp)).trans (by simp)
            have c1 : w1.cell? ⟨w.heap.size, 1, none⟩ = some (.int .i64 y) := (hb.cell (p := ⟨w.heap.size, 1, none⟩) (by simp)).trans (by simp)
            go_wp2_with (first
              | (go_at_call 64; refine (impl.SizeOk_c _ _).mono ?_; rintro e w' ⟨rfl, rfl⟩)
              | (go_at_call 58; refine (within_c _ _ _ _).mono ?_; rintro e w' ⟨rfl, rfl⟩))
            go_ret
            exact ⟨ret_bool HF.out.symm, HFin.out _ _ hb⟩
        · obtain ⟨hv0, hv1⟩ := inR_true hq2
          have hf := fitsB_mod h1 h2 hq1 hq2
          have HF := Lib.hid hf
          clear hf h1
          rcases hn with rfl | rfl
          all_goals
            go_enter Try.func62, Try.ntmps62
            go_wp2_with fail
            refine (HW.out _).mono ?_
            rintro e w1 ⟨rfl, hb⟩
            have c0 : w1.cell? ⟨w.heap.size, 0, none⟩ = some (.int .i64 x) := (hb.cell (p := ⟨w.heap.size, 0, none⟩) (by simp)).trans (by simp)
            have c1 : w1.cell? ⟨w.heap.size, 1, none⟩ = some (.int .i64 y) := (hb.cell (p := ⟨w.heap.size, 1, none⟩) (by simp)).trans (by simp)
            go_wp2_with (first
              | (go_at_call 64; refine (impl.SizeOk_c _ _).mono ?_; rintro e w' ⟨rfl, rfl⟩)
              | (go_at_call 58; refine (within_c _ _ _ _).mono ?_; rintro e w' ⟨rfl, rfl⟩))
            all_goals
              go_ret
              refine ⟨ret_bool ?_, HFin.out _ _ hb⟩
              rw [HF.out]
              rename_i hm
              simp only [hm, decide_true, decide_false, Bool.true_and, Bool.false_and]
              try rfl


set_option maxHeartbeats 2000000 in
theorem spec.l18In_c (x y : Int) (a : Option Addr) (c : Nat) (l : List Int) (u v n : Int) (w : World) (hx : -9223372036854775808 ≤ x ∧ x ≤ 9223372036854775807) (hy : -9223372036854775808 ≤ y ∧ y ≤ 9223372036854775807) (hl : l.length ≤ 1099511627776) (hr : Row w a l) (hw : ∀ x ∈ l, -9223372036854775808 ≤ x ∧ x ≤ 9223372036854775807) :
    Calls Try.prog 63 #[frv x y a l.length c, .int .i64 u, .int .i64 v, .int .i64 n] w fun e w' => e = .returned (.bool (fitsB x y l u v n)) ∧ Below w.heap.size w w' := by
  have hc := fun t => spec.FrameOk_c x y a c l (w.alloc (.cells #[.int .i64 x, .int .i64 y, .slice a l.length c] t)) hx hy hl (hr.alloc _) hw
  have HW := Lib.hid hc
  clear hc hx hy hw hr
  have fin : ∀ t, ∀ w1, Below (w.alloc (.cells #[.int .i64 x, .int .i64 y, .slice a l.length c] t)).heap.size (w.alloc (.cells #[.int .i64 x, .int .i64 y, .slice a l.length c] t)) w1 → Below w.heap.size w w1 := fun t w1 hb => ((Below.refl w.heap.size w).alloc (Nat.le_refl _) _).trans (hb.mono (by simp))
  have HFin := Lib.hid fin
  clear fin
  cases h1 : frameB x y l
  · have hf : fitsB x y l u v n = false := by rw [fitsB, h1]; rfl
    have HF := Lib.hid hf
    rw [h1] at HW
    clear hf h1
    go_enter Try.func63, Try.ntmps63
    go_wp2_with fail
    refine (HW.out _).mono ?_
    rintro e w1 ⟨rfl, hb⟩
    go_wp2
    go_ret
    exact ⟨ret_bool HF.out.symm, HFin.out _ _ hb⟩
  · rw [h1] at HW
    obtain ⟨hs1, hs2, hs3, hs4, _, _⟩ := sidesB_true (frameB_true h1).1
    cases h2 : sizeB n
    · have hf : fitsB x y l u v n = false := by rw [fitsB, h1, h2]; rfl
      have HF := Lib.hid hf
      clear hf h1
      go_enter Try.func63, Try.ntmps63
      go_wp2_with fail
      refine (HW.out _).mono ?_
      rintro e w1 ⟨rfl, hb⟩
      go_wp2_with (go_at_call 72; refine (spec.SizeOk_c _ _).mono ?_; rintro e w' ⟨rfl, rfl⟩)
      go_ret
      exact ⟨ret_bool HF.out.symm, HFin.out _ _ hb⟩
    · have hn := sizeB_true h2
      cases hq1 : inR 0 (x - n) u
      · have hf := fitsB_q1 (y := y) (l := l) (v := v) hq1
        have HF := Lib.hid hf
        clear hf h1
        rcases hn with rfl | rfl
        all_goals
          go_enter Try.func63, Try.ntmps63
          go_wp2_with fail
          refine (HW.out _).mono ?_
          rintro e w1 ⟨rfl, hb⟩
          have c0 : w1.cell? ⟨w.heap.size, 0, none⟩ = some (.int .i64 x) := (hb.cell (p := ⟨w.heap.size, 0, none⟩) (by simp)).trans (by simp)
          go_wp2_with (first
            | (go_at_call 72; refine (spec.SizeOk_c _ _).mono ?_; rintro e w' ⟨rfl, rfl⟩)
            | (go_at_call 59; refine (l1In_c _ _ _ _).mono ?_; rintro e w' ⟨rfl, rfl⟩))
          go_ret
          exact ⟨ret_bool HF.out.symm, HFin.out _ _ hb⟩
      · obtain ⟨hu0, hu1⟩ := inR_true hq1
        cases hq2 : inR 0 (y - n) v
        · have hf := fitsB_q2 (x := x) (l := l) (u := u) hq2
          have HF := Lib.hid hf
          clear hf h1
          rcases hn with rfl | rfl
          all_goals
            go_enter Try.func63, Try.ntmps63
            go_wp2_with fail
            refine (HW.out _).mono ?_
            rintro e w1 ⟨rfl, hb⟩
            have c0 : w1.cell? ⟨w.heap.size, 0, none⟩ = some (.int .i64 x) := (hb.cell (p := ⟨w.heap.size, 0, none⟩) (by simp)).trans (by simp)
            have c1 : w1.cell? ⟨w.heap.size, 1, none⟩ = some (.int .i64 y) := (hb.cell (p := ⟨w.heap.size, 1, none⟩) (by simp)).trans (by simp)
            go_wp2_with (first
              | (go_at_call 72; refine (spec.SizeOk_c _ _).mono ?_; rintro e w' ⟨rfl, rfl⟩)
              | (go_at_call 59; refine (l1In_c _ _ _ _).mono ?_; rintro e w' ⟨rfl, rfl⟩))
            go_ret
            exact ⟨ret_bool HF.out.symm, HFin.out _ _ hb⟩
        · obtain ⟨hv0, hv1⟩ := inR_true hq2
          have hf := fitsB_mod h1 h2 hq1 hq2
          have HF := Lib.hid hf
          clear hf h1
          rcases hn with rfl | rfl
          all_goals
            go_enter Try.func63, Try.ntmps63
            go_wp2_with fail
            refine (HW.out _).mono ?_
            rintro e w1 ⟨rfl, hb⟩
            have c0 : w1.cell? ⟨w.heap.size, 0, none⟩ = some (.int .i64 x) := (hb.cell (p := ⟨w.heap.size, 0, none⟩) (by simp)).trans (by simp)
            have c1 : w1.cell? ⟨w.heap.size, 1, none⟩ = some (.int .i64 y) := (hb.cell (p := ⟨w.heap.size, 1, none⟩) (by simp)).trans (by simp)
            go_wp2_with (first
              | (go_at_call 72; refine (spec.SizeOk_c _ _).mono ?_; rintro e w' ⟨rfl, rfl⟩)
              | (go_at_call 59; refine (l1In_c _ _ _ _).mono ?_; rintro e w' ⟨rfl, rfl⟩))
            all_goals
              go_ret
              refine ⟨ret_bool ?_, HFin.out _ _ hb⟩
              rw [HF.out]
              rename_i hm
              simp only [hm, decide_true, decide_false, Bool.true_and, Bool.false_and]
              try rfl

end Go.Proofs.Ytkfjbnhihjnhnaa
