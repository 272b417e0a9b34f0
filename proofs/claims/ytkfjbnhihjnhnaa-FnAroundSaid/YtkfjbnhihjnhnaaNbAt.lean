/- Contracts of NbAt, whatever the input. -/
import Derived.Test.YtkfjbnhihjnhnaaNbAtI4
import Derived.Test.YtkfjbnhihjnhnaaNbAtI8
import Derived.Test.YtkfjbnhihjnhnaaNbAtS4
import Derived.Test.YtkfjbnhihjnhnaaNbAtS8
namespace Go.Proofs.Ytkfjbnhihjnhnaa
open Go.RowKit
set_option linter.unusedVariables false


theorem nbTop_no {x y : Int} {l : List Int} {u v n : Int} (h : fitsB x y l u v n = false) : nbTop x y l u v n = [] := by simp [nbTop, h]
theorem nbLeft_no {x y : Int} {l : List Int} {u v n : Int} (h : fitsB x y l u v n = false) : nbLeft x y l u v n = [] := by simp [nbLeft, h]
theorem nbTop_len (x y : Int) (l : List Int) (u v n : Int) : (nbTop x y l u v n).length ≤ 16 := by
  rw [nbTop]
  split
  · rename_i h
    rw [tab_len]
    rcases (fitsB_true h).2.1 with rfl | rfl <;> decide
  · simp
theorem nbLeft_len (x y : Int) (l : List Int) (u v n : Int) : (nbLeft x y l u v n).length ≤ 8 := by
  rw [nbLeft]
  split
  · rename_i h
    rw [tab_len]
    rcases (fitsB_true h).2.1 with rfl | rfl <;> decide
  · simp

set_option maxHeartbeats 1000000 in
theorem impl.NbAt_c (x y : Int) (a : Option Addr) (c : Nat) (l : List Int) (u v n : Int) (w : World) (hx : -9223372036854775808 ≤ x ∧ x ≤ 9223372036854775807) (hy : -9223372036854775808 ≤ y ∧ y ≤ 9223372036854775807) (hl : l.length ≤ 1099511627776) (hr : Row w a l) (hw : ∀ x ∈ l, -9223372036854775808 ≤ x ∧ x ≤ 9223372036854775807) :
    Calls Try.prog 26 #[frv x y a l.length c, .int .i64 u, .int .i64 v, .int .i64 n] w fun e w' => ∃ xx yy zz vv, e = .returned (nbv xx (nbTop x y l u v n).length yy zz (nbLeft x y l u v n).length vv (nbCor x y l u v n) (nbHT x y l u v n) (nbHL x y l u v n)) ∧ Own w.heap.size w' xx yy (nbTop x y l u v n) ∧ Own w.heap.size w' zz vv (nbLeft x y l u v n) ∧ (∀ p q, xx = some p → zz = some q → p.block ≠ q.block) ∧ Below w.heap.size w w' := by
  have hs := fun w0 (hr0 : Row w0 a l) => impl.fits_c x y a c l u v n w0 hx hy hl hr0 hw
  cases h : fitsB x y l u v n
  · rw [nbTop_no h, nbLeft_no h, show nbCor x y l u v n = 0 from by simp [nbCor, h], show nbHT x y l u v n = false from by simp [nbHT, h], show nbHL x y l u v n = false from by simp [nbHL, h]]
    rw [h] at hs
    have HS := Lib.hid hs
    have HR := Lib.hid hr
    clear hs h hx hy hl hr hw
    go_enter Try.func26, Try.ntmps26
    go_wp2_with fail
    obtain ⟨W0, hW0⟩ : ∃ W0, W0 = (w.alloc (.cells #[.int .i64 x, .int .i64 y, .slice a l.length c] 26)).alloc (.cells #[.slice none 0 0, .slice none 0 0, .int .i64 0, .bool false, .bool false] 42) := ⟨_, rfl⟩
    rw [← hW0]
    have HZ : Hid (W0.heap.size = w.heap.size + 1 + 1) := Lib.hid (by rw [hW0]; simp)
    have HB0 : Hid (Below w.heap.size w W0) := Lib.hid (by rw [hW0]; exact ((Below.refl w.heap.size w).alloc (Nat.le_refl _) _).alloc (by simp) _)
    have RA : Hid (Box5 W0 (w.heap.size + 1) (.slice none 0 0) (.slice none 0 0) (.int .i64 0) (.bool false) (.bool false)) := Lib.hid (by rw [hW0]; exact ⟨by first | (simp; done) | (simp; omega), by simp [World.cell?_alloc_at], by simp [World.cell?_alloc_at], by simp [World.cell?_alloc_at], by simp [World.cell?_alloc_at], by simp [World.cell?_alloc_at]⟩)
    have RF : Hid (∀ i, W0.frozen? ⟨w.heap.size + 1, i, none⟩ = false) := Lib.hid (fun i => by rw [hW0]; simp [go_sem])
    clear hW0
    refine (HS.out W0 (HR.out.below HB0.out (Nat.le_refl _))).mono ?_
    rintro e w1 ⟨rfl, hb1⟩
    have hRB := RA.out.below hb1 (Nat.le_refl _)
    have hq := fun i => (hb1.frozen (p := ⟨w.heap.size + 1, i, none⟩) (by show w.heap.size + 1 < _; rw [HZ.out]; omega)).trans (RF.out i)
    have HBW : Hid (Below w.heap.size w w1) := Lib.hid (HB0.out.trans (hb1.mono (by rw [HZ.out]; omega)))
    have HRB := Lib.hid hRB
    obtain ⟨_, r0, r1, r2, r3, r4⟩ := hRB
    have q0 := hq 0
    have q1 := hq 1
    have q2 := hq 2
    have q3 := hq 3
    have q4 := hq 4
    clear hq hb1
    go_wp2
    obtain ⟨_, t0, t1, t2, t3, t4⟩ := ((((HRB.out.s0 (.slice none 0 0)).s1 (.slice none 0 0)).s2 (.int .i64 0)).s3 (.bool false)).s4 (.bool false)
    refine bodyPost_ret (v := nbv none 0 0 none 0 0 0 false false) (by simp [results, Try.results26, go_sem, t0, t1, t2, t3, t4]) rfl ⟨none, 0, none, 0, rfl, Own.none_ _ _, Own.none_ _ _, ?_, ?_⟩
    · intro p q hp; cases hp
    exact HBW.out.trans (five_belowN _ _ _ _ _ _ _ _ (Nat.le_succ _))
  · obtain ⟨X, Y, U, V, rfl, rfl, rfl, rfl, hX, hY, hlen, hn⟩ := blk_split h
    rw [h] at hs
    rcases hn with ⟨rfl, hU, hV⟩ | ⟨rfl, hU, hV⟩
    · have e1 : nbTop X Y l U V 4 = tab (topAt X l U V 4) 8 := by rw [nbTop, if_pos h]; simp
      have e2 : nbLeft X Y l U V 4 = tab (leftAt X l U V) 4 := by rw [nbLeft, if_pos h]; simp
      have e3 : nbCor X Y l U V 4 = corAt X l U V := by rw [nbCor, if_pos h]; simp
      have e4 : nbHT X Y l U V 4 = decide (0 < V) := by rw [nbHT, h]; simp
      have e5 : nbHL X Y l U V 4 = decide (0 < U) := by rw [nbHL, h]; simp
      rw [e1, e2, e3, e4, e5, tab_len, tab_len]
      exact impl.NbAt_4 X Y U V a c l w hX hY hlen hU hV hr hs
    · have e1 : nbTop X Y l U V 8 = tab (topAt X l U V 8) 16 := by rw [nbTop, if_pos h]; simp
      have e2 : nbLeft X Y l U V 8 = tab (leftAt X l U V) 8 := by rw [nbLeft, if_pos h]; simp
      have e3 : nbCor X Y l U V 8 = corAt X l U V := by rw [nbCor, if_pos h]; simp
      have e4 : nbHT X Y l U V 8 = decide (0 < V) := by rw [nbHT, h]; simp
      have e5 : nbHL X Y l U V 8 = decide (0 < U) := by rw [nbHL, h]; simp
      rw [e1, e2, e3, e4, e5, tab_len, tab_len]
      exact impl.NbAt_8 X Y U V a c l w hX hY hlen hU hV hr hs


set_option maxHeartbeats 1000000 in
theorem spec.NbAt_c (x y : Int) (a : Option Addr) (c : Nat) (l : List Int) (u v n : Int) (w : World) (hx : -9223372036854775808 ≤ x ∧ x ≤ 9223372036854775807) (hy : -9223372036854775808 ≤ y ∧ y ≤ 9223372036854775807) (hl : l.length ≤ 1099511627776) (hr : Row w a l) (hw : ∀ x ∈ l, -9223372036854775808 ≤ x ∧ x ≤ 9223372036854775807) :
    Calls Try.prog 27 #[frv x y a l.length c, .int .i64 u, .int .i64 v, .int .i64 n] w fun e w' => ∃ xx yy zz vv, e = .returned (nbv xx (nbTop x y l u v n).length yy zz (nbLeft x y l u v n).length vv (nbCor x y l u v n) (nbHT x y l u v n) (nbHL x y l u v n)) ∧ Own w.heap.size w' xx yy (nbTop x y l u v n) ∧ Own w.heap.size w' zz vv (nbLeft x y l u v n) ∧ (∀ p q, xx = some p → zz = some q → p.block ≠ q.block) ∧ Below w.heap.size w w' := by
  have hs := fun w0 (hr0 : Row w0 a l) => spec.l18In_c x y a c l u v n w0 hx hy hl hr0 hw
  cases h : fitsB x y l u v n
  · rw [nbTop_no h, nbLeft_no h, show nbCor x y l u v n = 0 from by simp [nbCor, h], show nbHT x y l u v n = false from by simp [nbHT, h], show nbHL x y l u v n = false from by simp [nbHL, h]]
    rw [h] at hs
    have HS := Lib.hid hs
    have HR := Lib.hid hr
    clear hs h hx hy hl hr hw
    go_enter Try.func27, Try.ntmps27
    go_wp2_with fail
    obtain ⟨W0, hW0⟩ : ∃ W0, W0 = (w.alloc (.cells #[.int .i64 x, .int .i64 y, .slice a l.length c] 26)).alloc (.cells #[.slice none 0 0, .slice none 0 0, .int .i64 0, .bool false, .bool false] 42) := ⟨_, rfl⟩
    rw [← hW0]
    have HZ : Hid (W0.heap.size = w.heap.size + 1 + 1) := Lib.hid (by rw [hW0]; simp)
    have HB0 : Hid (Below w.heap.size w W0) := Lib.hid (by rw [hW0]; exact ((Below.refl w.heap.size w).alloc (Nat.le_refl _) _).alloc (by simp) _)
    have RA : Hid (Box5 W0 (w.heap.size + 1) (.slice none 0 0) (.slice none 0 0) (.int .i64 0) (.bool false) (.bool false)) := Lib.hid (by rw [hW0]; exact ⟨by first | (simp; done) | (simp; omega), by simp [World.cell?_alloc_at], by simp [World.cell?_alloc_at], by simp [World.cell?_alloc_at], by simp [World.cell?_alloc_at], by simp [World.cell?_alloc_at]⟩)
    have RF : Hid (∀ i, W0.frozen? ⟨w.heap.size + 1, i, none⟩ = false) := Lib.hid (fun i => by rw [hW0]; simp [go_sem])
    clear hW0
    refine (HS.out W0 (HR.out.below HB0.out (Nat.le_refl _))).mono ?_
    rintro e w1 ⟨rfl, hb1⟩
    have hRB := RA.out.below hb1 (Nat.le_refl _)
    have hq := fun i => (hb1.frozen (p := ⟨w.heap.size + 1, i, none⟩) (by show w.heap.size + 1 < _; rw [HZ.out]; omega)).trans (RF.out i)
    have HBW : Hid (Below w.heap.size w w1) := Lib.hid (HB0.out.trans (hb1.mono (by rw [HZ.out]; omega)))
    have HRB := Lib.hid hRB
    obtain ⟨_, r0, r1, r2, r3, r4⟩ := hRB
    have q0 := hq 0
    have q1 := hq 1
    have q2 := hq 2
    have q3 := hq 3
    have q4 := hq 4
    clear hq hb1
    go_wp2
    obtain ⟨_, t0, t1, t2, t3, t4⟩ := ((((HRB.out.s0 (.slice none 0 0)).s1 (.slice none 0 0)).s2 (.int .i64 0)).s3 (.bool false)).s4 (.bool false)
    refine bodyPost_ret (v := nbv none 0 0 none 0 0 0 false false) (by simp [results, Try.results27, go_sem, t0, t1, t2, t3, t4]) rfl ⟨none, 0, none, 0, rfl, Own.none_ _ _, Own.none_ _ _, ?_, ?_⟩
    · intro p q hp; cases hp
    exact HBW.out.trans (five_belowN _ _ _ _ _ _ _ _ (Nat.le_succ _))
  · obtain ⟨X, Y, U, V, rfl, rfl, rfl, rfl, hX, hY, hlen, hn⟩ := blk_split h
    rw [h] at hs
    rcases hn with ⟨rfl, hU, hV⟩ | ⟨rfl, hU, hV⟩
    · have e1 : nbTop X Y l U V 4 = tab (topAt X l U V 4) 8 := by rw [nbTop, if_pos h]; simp
      have e2 : nbLeft X Y l U V 4 = tab (leftAt X l U V) 4 := by rw [nbLeft, if_pos h]; simp
      have e3 : nbCor X Y l U V 4 = corAt X l U V := by rw [nbCor, if_pos h]; simp
      have e4 : nbHT X Y l U V 4 = decide (0 < V) := by rw [nbHT, h]; simp
      have e5 : nbHL X Y l U V 4 = decide (0 < U) := by rw [nbHL, h]; simp
      rw [e1, e2, e3, e4, e5, tab_len, tab_len]
      exact spec.NbAt_4 X Y U V a c l w hX hY hlen hU hV hr hs
    · have e1 : nbTop X Y l U V 8 = tab (topAt X l U V 8) 16 := by rw [nbTop, if_pos h]; simp
      have e2 : nbLeft X Y l U V 8 = tab (leftAt X l U V) 8 := by rw [nbLeft, if_pos h]; simp
      have e3 : nbCor X Y l U V 8 = corAt X l U V := by rw [nbCor, if_pos h]; simp
      have e4 : nbHT X Y l U V 8 = decide (0 < V) := by rw [nbHT, h]; simp
      have e5 : nbHL X Y l U V 8 = decide (0 < U) := by rw [nbHL, h]; simp
      rw [e1, e2, e3, e4, e5, tab_len, tab_len]
      exact spec.NbAt_8 X Y U V a c l w hX hY hlen hU hV hr hs


end Go.Proofs.Ytkfjbnhihjnhnaa
