/- Contracts of the statements' helpers on neighbourhoods: sizes, copies, equality, marks. -/
import Derived.Test.YtnbkkhaahfnlfaaFr2
import Derived.Test.YtnbkkhaahfnlfaaFrm
namespace Go.Proofs.Ytnbkkhaahfnlfaa
open Go.RowKit
set_option linter.unusedVariables false

/-- a neighbourhood as a value -/
abbrev nbv (a : Option Addr) (n c : Nat) (b : Option Addr) (m d : Nat) (C : Int) (T L : Bool) : Value := .agg #[.slice a n c, .slice b m d, .int .i64 C, .bool T, .bool L]

/-- the world grew but for two blocks -/
def Grown2 (w w' : World) (a b : Option Nat) : Prop := ∃ wm, w.grownBy wm a ∧ wm.grownBy w' b
theorem Grown2.size {w w' : World} {a b : Option Nat} (h : Grown2 w w' a b) : w.heap.size ≤ w'.heap.size := by
  obtain ⟨_, h1, h2⟩ := h; exact Nat.le_trans h1.size h2.size
theorem Own.grown2 {B : Nat} {w w' : World} {x y : Option Addr} {a : Option Addr} {c : Nat} {l : List Int} (h : Own B w a c l) (hg : Grown2 w w' (x.map (·.block)) (y.map (·.block)))
    (h1 : ∀ p g, a = some p → x.map (·.block) = some g → p.block ≠ g) (h2 : ∀ p g, a = some p → y.map (·.block) = some g → p.block ≠ g) : Own B w' a c l := by
  obtain ⟨_, g1, g2⟩ := hg; exact (h.grown g1 h1).grown g2 h2
theorem Box3.grown2 {w w' : World} {b : Nat} {v0 v1 v2 : Value} {x y : Option Addr} (h : Box3 w b v0 v1 v2) (hg : Grown2 w w' (x.map (·.block)) (y.map (·.block))) (h1 : ∀ p, x = some p → p.block ≠ b) (h2 : ∀ p, y = some p → p.block ≠ b) : Box3 w' b v0 v1 v2 := by
  obtain ⟨_, g1, g2⟩ := hg; exact (h.grown g1 h1).grown g2 h2
theorem Box5.grown2 {w w' : World} {b : Nat} {v0 v1 v2 v3 v4 : Value} {x y : Option Addr} (h : Box5 w b v0 v1 v2 v3 v4) (hg : Grown2 w w' (x.map (·.block)) (y.map (·.block))) (h1 : ∀ p, x = some p → p.block ≠ b) (h2 : ∀ p, y = some p → p.block ≠ b) : Box5 w' b v0 v1 v2 v3 v4 := by
  obtain ⟨_, g1, g2⟩ := hg; exact (h.grown g1 h1).grown g2 h2
theorem below_mark2 {B : Nat} {a w w' : World} {x y : Option Addr} (h : Below B a w) (hg : Grown2 w w' (x.map (·.block)) (y.map (·.block))) (hB : B ≤ w.heap.size) (hx : ∀ p, x = some p → B ≤ p.block) (hy : ∀ p, y = some p → B ≤ p.block) : Below B a w' := by
  obtain ⟨_, g1, g2⟩ := hg; exact below_mark (below_mark h g1 hB hx) g2 (Nat.le_trans hB g1.size) hy

theorem Box5.far {w : World} {b : Nat} {v0 v1 v2 v3 v4 : Value} (h : Box5 w b v0 v1 v2 v3 v4) {p : Addr} (hp : p.block ≠ b) (x : Value) : Box5 (w.setCell p x) b v0 v1 v2 v3 v4 := by
  obtain ⟨hl, h0, h1, h2, h3, h4⟩ := h
  have ne : ∀ i, (⟨b, i, none⟩ : Addr) ≠ p := fun i e => hp (by rw [← e])
  refine ⟨by simpa using hl, ?_, ?_, ?_, ?_, ?_⟩
  · rw [World.cell?_setCell_other _ _ _ _ (by first | exact ne _ | exact (ne _).symm)]; exact h0
  · rw [World.cell?_setCell_other _ _ _ _ (by first | exact ne _ | exact (ne _).symm)]; exact h1
  · rw [World.cell?_setCell_other _ _ _ _ (by first | exact ne _ | exact (ne _).symm)]; exact h2
  · rw [World.cell?_setCell_other _ _ _ _ (by first | exact ne _ | exact (ne _).symm)]; exact h3
  · rw [World.cell?_setCell_other _ _ _ _ (by first | exact ne _ | exact (ne _).symm)]; exact h4
theorem Box5.s0 {w : World} {b : Nat} {v0 v1 v2 v3 v4 : Value} (h : Box5 w b v0 v1 v2 v3 v4) (x : Value) : Box5 (w.setCell ⟨b, 0, none⟩ x) b x v1 v2 v3 v4 := by
  obtain ⟨hl, h0, h1, h2, h3, h4⟩ := h
  exact ⟨by simpa using hl, World.cell?_setCell_same _ _ _ h0, (World.cell?_setCell_other _ _ _ _ (by simp)).trans h1, (World.cell?_setCell_other _ _ _ _ (by simp)).trans h2, (World.cell?_setCell_other _ _ _ _ (by simp)).trans h3, (World.cell?_setCell_other _ _ _ _ (by simp)).trans h4⟩
theorem Box5.s1 {w : World} {b : Nat} {v0 v1 v2 v3 v4 : Value} (h : Box5 w b v0 v1 v2 v3 v4) (x : Value) : Box5 (w.setCell ⟨b, 1, none⟩ x) b v0 x v2 v3 v4 := by
  obtain ⟨hl, h0, h1, h2, h3, h4⟩ := h
  exact ⟨by simpa using hl, (World.cell?_setCell_other _ _ _ _ (by simp)).trans h0, World.cell?_setCell_same _ _ _ h1, (World.cell?_setCell_other _ _ _ _ (by simp)).trans h2, (World.cell?_setCell_other _ _ _ _ (by simp)).trans h3, (World.cell?_setCell_other _ _ _ _ (by simp)).trans h4⟩
theorem Box5.s2 {w : World} {b : Nat} {v0 v1 v2 v3 v4 : Value} (h : Box5 w b v0 v1 v2 v3 v4) (x : Value) : Box5 (w.setCell ⟨b, 2, none⟩ x) b v0 v1 x v3 v4 := by
  obtain ⟨hl, h0, h1, h2, h3, h4⟩ := h
  exact ⟨by simpa using hl, (World.cell?_setCell_other _ _ _ _ (by simp)).trans h0, (World.cell?_setCell_other _ _ _ _ (by simp)).trans h1, World.cell?_setCell_same _ _ _ h2, (World.cell?_setCell_other _ _ _ _ (by simp)).trans h3, (World.cell?_setCell_other _ _ _ _ (by simp)).trans h4⟩
theorem Box5.s3 {w : World} {b : Nat} {v0 v1 v2 v3 v4 : Value} (h : Box5 w b v0 v1 v2 v3 v4) (x : Value) : Box5 (w.setCell ⟨b, 3, none⟩ x) b v0 v1 v2 x v4 := by
  obtain ⟨hl, h0, h1, h2, h3, h4⟩ := h
  exact ⟨by simpa using hl, (World.cell?_setCell_other _ _ _ _ (by simp)).trans h0, (World.cell?_setCell_other _ _ _ _ (by simp)).trans h1, (World.cell?_setCell_other _ _ _ _ (by simp)).trans h2, World.cell?_setCell_same _ _ _ h3, (World.cell?_setCell_other _ _ _ _ (by simp)).trans h4⟩
theorem Box5.s4 {w : World} {b : Nat} {v0 v1 v2 v3 v4 : Value} (h : Box5 w b v0 v1 v2 v3 v4) (x : Value) : Box5 (w.setCell ⟨b, 4, none⟩ x) b v0 v1 v2 v3 x := by
  obtain ⟨hl, h0, h1, h2, h3, h4⟩ := h
  exact ⟨by simpa using hl, (World.cell?_setCell_other _ _ _ _ (by simp)).trans h0, (World.cell?_setCell_other _ _ _ _ (by simp)).trans h1, (World.cell?_setCell_other _ _ _ _ (by simp)).trans h2, (World.cell?_setCell_other _ _ _ _ (by simp)).trans h3, World.cell?_setCell_same _ _ _ h4⟩


theorem szNb_c (a : Option Addr) (c : Nat) (l : List Int) (b : Option Addr) (d : Nat) (m : List Int) (C : Int) (T L : Bool) (k : Int) (w : World) (h0 : 0 ≤ k) (h1 : k ≤ 1048576) (hn : (l.length : Int) + (m.length : Int) ≤ k) :
    Calls Try.prog 10 #[nbv a l.length c b m.length d C T L, .int .i64 k] w fun e w' => e = .returned (.int .i64 (k - l.length - m.length)) ∧ Below w.heap.size w w' := by
  have hs := fun w : World => szIntS_c a c l.length k w (by omega) h0 h1
  rw [if_pos (by omega)] at hs
  have hs2 := fun w : World => szIntS_c b d m.length (k - l.length) w (by omega) (by omega) (by omega)
  rw [if_pos (by omega)] at hs2
  have HS := Lib.hid hs
  have HS2 := Lib.hid hs2
  clear hs hs2
  go_enter Try.func10, Try.ntmps10
  go_wp2_with fail
  refine (HS.out _).mono ?_
  rintro e w' ⟨rfl, rfl⟩
  go_wp2_with fail
  refine (HS2.out _).mono ?_
  rintro e w' ⟨rfl, rfl⟩
  go_wp2
  go_ret
  exact ⟨rfl, (Below.refl w.heap.size w).alloc (Nat.le_refl _) _⟩
theorem szNb_x (a : Option Addr) (c : Nat) (l : List Int) (b : Option Addr) (d : Nat) (m : List Int) (C : Int) (T L : Bool) (k : Int) (w : World) (h0 : 0 ≤ k) (h1 : k ≤ 1048576) (hn : ¬ (l.length : Int) + (m.length : Int) ≤ k) (hbl : l.length ≤ 9223372036854775807) (hbm : m.length ≤ 9223372036854775807) :
    Calls Try.prog 10 #[nbv a l.length c b m.length d C T L, .int .i64 k] w fun e w' => e = .returned (.int .i64 (-1)) ∧ Below w.heap.size w w' := by
  have hs := fun w : World => szIntS_c a c l.length k w hbl h0 h1
  by_cases hl : (l.length : Int) ≤ k
  · rw [if_pos hl] at hs
    have hs2 := fun w : World => szIntS_c b d m.length (k - l.length) w hbm (by omega) (by omega)
    rw [if_neg (by omega)] at hs2
    have HS := Lib.hid hs
    have HS2 := Lib.hid hs2
    clear hs hs2
    go_enter Try.func10, Try.ntmps10
    go_wp2_with fail
    refine (HS.out _).mono ?_
    rintro e w' ⟨rfl, rfl⟩
    go_wp2_with fail
    refine (HS2.out _).mono ?_
    rintro e w' ⟨rfl, rfl⟩
    go_wp2
    go_ret
    exact ⟨rfl, (Below.refl w.heap.size w).alloc (Nat.le_refl _) _⟩
  · rw [if_neg hl] at hs
    have HS := Lib.hid hs
    clear hs
    go_enter Try.func10, Try.ntmps10
    go_wp2_with fail
    refine (HS.out _).mono ?_
    rintro e w' ⟨rfl, rfl⟩
    go_wp2
    go_ret
    exact ⟨rfl, (Below.refl w.heap.size w).alloc (Nat.le_refl _) _⟩


set_option maxHeartbeats 2000000 in
theorem toNb_c (a : Option Addr) (c : Nat) (l : List Int) (b : Option Addr) (d : Nat) (m : List Int) (C : Int) (T L : Bool) (w : World) (hl : l.length ≤ 1048576) (hr : Row w a l) (hm : m.length ≤ 1048576) (hs : Row w b m) :
    Calls Try.prog 12 #[nbv a l.length c b m.length d C T L] w fun e w' => ∃ xx yy zz vv, e = .returned (nbv xx l.length yy zz m.length vv C T L) ∧ Own w.heap.size w' xx yy l ∧ Own w.heap.size w' zz vv m ∧ (∀ p q, xx = some p → zz = some q → p.block ≠ q.block) ∧ Below w.heap.size w w' := by
  have HR := Lib.hid hr
  have HS := Lib.hid hs
  clear hr hs
  go_enter Try.func12, Try.ntmps12
  go_wp2_with fail
  obtain ⟨W0, hW0⟩ : ∃ W0, W0 = ((w.alloc (.cells #[.slice a l.length c, .slice b m.length d, .int .i64 C, .bool T, .bool L] 24)).alloc (.cells #[.slice none 0 0, .slice none 0 0, .int .i64 0, .bool false, .bool false] 27)).alloc (.cells #[.slice none 0 0, .slice none 0 0, .int .i64 0, .bool false, .bool false] 27) := ⟨_, rfl⟩
  rw [← hW0]
  have HZ0 : Hid (W0.heap.size = w.heap.size + 1 + 1 + 1) := Lib.hid (by rw [hW0]; simp)
  have HB0 : Hid (Below w.heap.size w W0) := Lib.hid (by rw [hW0]; exact (((Below.refl w.heap.size w).alloc (Nat.le_refl _) _).alloc (by simp) _).alloc (by simp; omega) _)
  have P0 : Box5 W0 w.heap.size (.slice a l.length c) (.slice b m.length d) (.int .i64 C) (.bool T) (.bool L) := by
    rw [hW0]; exact ((Box5.new w _ _ _ _ _ _).below ((Below.refl _ _).alloc (Nat.le_refl _) _) (Nat.le_refl _)).below ((Below.refl _ _).alloc (Nat.le_refl _) _) (Nat.le_refl _)
  have R0 : Box5 W0 (w.heap.size + 1) (.slice none 0 0) (.slice none 0 0) (.int .i64 0) (.bool false) (.bool false) := by
    rw [hW0]; exact ⟨by first | (simp; done) | (simp; omega), by simp [World.cell?_alloc_at, World.cell?_alloc_past], by simp [World.cell?_alloc_at, World.cell?_alloc_past], by simp [World.cell?_alloc_at, World.cell?_alloc_past], by simp [World.cell?_alloc_at, World.cell?_alloc_past], by simp [World.cell?_alloc_at, World.cell?_alloc_past]⟩
  have O0 : Box5 W0 (w.heap.size + 1 + 1) (.slice none 0 0) (.slice none 0 0) (.int .i64 0) (.bool false) (.bool false) := by
    rw [hW0]; exact ⟨by first | (simp; done) | (simp; omega), by simp [World.cell?_alloc_at], by simp [World.cell?_alloc_at], by simp [World.cell?_alloc_at], by simp [World.cell?_alloc_at], by simp [World.cell?_alloc_at]⟩
  have F0 : Hid (∀ i, W0.frozen? ⟨w.heap.size + 1, i, none⟩ = false ∧ W0.frozen? ⟨w.heap.size + 1 + 1, i, none⟩ = false) := Lib.hid (fun i => by rw [hW0]; constructor <;> simp [go_sem])
  clear hW0
  refine (toIntS_c _ _ l _ hl (HR.out.below HB0.out (Nat.le_refl _))).mono ?_
  rintro e w1 ⟨g1, rfl, hg1, o1, b1⟩
  have P1 := P0.below b1 (Nat.le_refl _)
  have R1 := R0.below b1 (Nat.le_refl _)
  have O1 := O0.below b1 (Nat.le_refl _)
  have F1 : Hid (∀ i, w1.frozen? ⟨w.heap.size + 1, i, none⟩ = false ∧ w1.frozen? ⟨w.heap.size + 1 + 1, i, none⟩ = false) := Lib.hid (fun i => ⟨(b1.frozen (p := ⟨w.heap.size + 1, i, none⟩) (by have := HZ0.out; show w.heap.size + 1 < _; omega)).trans (F0.out i).1, (b1.frozen (p := ⟨w.heap.size + 1 + 1, i, none⟩) (by have := HZ0.out; show w.heap.size + 1 + 1 < _; omega)).trans (F0.out i).2⟩)
  have HO1 := Lib.hid o1
  have HB1 : Hid (Below w.heap.size w w1) := Lib.hid (HB0.out.trans (b1.mono (by have := HZ0.out; omega)))
  have HG1 := Lib.hid hg1
  have HZ1 := Lib.hid b1.size
  clear P0 R0 O0 F0 o1 b1 hg1
  have hP := P1
  obtain ⟨_, p0, p1, p2, p3, p4⟩ := hP
  have hO := O1
  obtain ⟨_, q0, q1, q2, q3, q4⟩ := hO
  have f0 := (F1.out 0).2
  go_wp2_with fail
  clear p0 p1 p2 p3 p4 q0 q1 q2 q3 q4 f0
  obtain ⟨W2, hW2⟩ : ∃ T, T = w1.setCell ⟨w.heap.size + 1 + 1, 0, none⟩ (.slice (some ⟨g1, 0, none⟩) l.length l.length) := ⟨_, rfl⟩
  rw [← hW2]
  have P2 : Box5 W2 w.heap.size (.slice a l.length c) (.slice b m.length d) (.int .i64 C) (.bool T) (.bool L) := by rw [hW2]; exact P1.far (by show w.heap.size + 1 + 1 ≠ _; omega) _
  have R2 : Box5 W2 (w.heap.size + 1) (.slice none 0 0) (.slice none 0 0) (.int .i64 0) (.bool false) (.bool false) := by rw [hW2]; exact R1.far (by show w.heap.size + 1 + 1 ≠ _; omega) _
  have O2 : Box5 W2 (w.heap.size + 1 + 1) (.slice (some ⟨g1, 0, none⟩) l.length l.length) (.slice none 0 0) (.int .i64 0) (.bool false) (.bool false) := by rw [hW2]; exact O1.s0 _
  have F2 : Hid (∀ i, W2.frozen? ⟨w.heap.size + 1, i, none⟩ = false ∧ W2.frozen? ⟨w.heap.size + 1 + 1, i, none⟩ = false) := Lib.hid (fun i => by rw [hW2]; have := F1.out i; constructor <;> simp [go_sem, this.1, this.2])
  have HO2 : Hid (Own W0.heap.size W2 (some ⟨g1, 0, none⟩) l.length l) := Lib.hid (by rw [hW2]; exact HO1.out.far (by have := HZ0.out; show w.heap.size + 1 + 1 < _; omega) _)
  have HB2 : Hid (Below w.heap.size w W2) := Lib.hid (by rw [hW2]; exact HB1.out.setCell (by show _ ≤ w.heap.size + 1 + 1; omega) _)
  have HZ2 : Hid (W0.heap.size ≤ W2.heap.size) := Lib.hid (by rw [hW2]; have := HZ1.out; simpa using this)
  clear hW2 P1 R1 O1 F1 HO1 HB1 HZ1
  refine (toIntS_c _ _ m _ hm (HS.out.below HB2.out (Nat.le_refl _))).mono ?_
  rintro e w3 ⟨g3, rfl, hg3, o3, b3⟩
  have P3 := P2.below b3 (Nat.le_refl _)
  have R3 := R2.below b3 (Nat.le_refl _)
  have O3 := O2.below b3 (Nat.le_refl _)
  have F3 : Hid (∀ i, w3.frozen? ⟨w.heap.size + 1, i, none⟩ = false ∧ w3.frozen? ⟨w.heap.size + 1 + 1, i, none⟩ = false) := Lib.hid (fun i => ⟨(b3.frozen (p := ⟨w.heap.size + 1, i, none⟩) (by have := HZ0.out; have := HZ2.out; show w.heap.size + 1 < _; omega)).trans (F2.out i).1, (b3.frozen (p := ⟨w.heap.size + 1 + 1, i, none⟩) (by have := HZ0.out; have := HZ2.out; show w.heap.size + 1 + 1 < _; omega)).trans (F2.out i).2⟩)
  have HO3 := Lib.hid (HO2.out.below b3 (Nat.le_refl _))
  have HO4 := Lib.hid o3
  have HB3 : Hid (Below w.heap.size w w3) := Lib.hid (HB2.out.trans (b3.mono HB2.out.size))
  have HNE : Hid (g1 ≠ g3) := Lib.hid (by have := (HO2.out.lt _ rfl).2; have : g1 < W2.heap.size := this; omega)
  have HG3 := Lib.hid hg3
  clear P2 R2 O2 F2 HO2 HB2 b3 o3 hg3
  have hP := P3
  obtain ⟨_, p0, p1, p2, p3, p4⟩ := hP
  have hO := O3
  obtain ⟨_, q0, q1, q2, q3, q4⟩ := hO
  have hR := R3
  obtain ⟨_, r0, r1, r2, r3, r4⟩ := hR
  have f1 := (F3.out 1).2
  have f2 := (F3.out 2).2
  have f3 := (F3.out 3).2
  have f4 := (F3.out 4).2
  have k0 := (F3.out 0).1
  have k1 := (F3.out 1).1
  have k2 := (F3.out 2).1
  have k3 := (F3.out 3).1
  have k4 := (F3.out 4).1
  go_wp2
  have n2 : ∀ i, (⟨w.heap.size + 1 + 1, i, none⟩ : Addr).block ≠ w.heap.size + 1 := fun i => by show w.heap.size + 1 + 1 ≠ _; omega
  have hT := ((((((((R3.far (n2 1) (.slice (some ⟨g3, 0, none⟩) m.length m.length)).far (n2 2) (.int .i64 C)).far (n2 3) (.bool T)).far (n2 4) (.bool L)).s0 (.slice (some ⟨g1, 0, none⟩) l.length l.length)).s1 (.slice (some ⟨g3, 0, none⟩) m.length m.length)).s2 (.int .i64 C)).s3 (.bool T)).s4 (.bool L)
  clear p0 p1 p2 p3 p4 q0 q1 q2 q3 q4 r0 r1 r2 r3 r4 f1 f2 f3 f4 k0 k1 k2 k3 k4 P3 O3 R3 F3
  obtain ⟨_, t0, t1, t2, t3, t4⟩ := hT
  have z0 := HZ0.out
  have z2 := HZ2.out
  refine bodyPost_ret (v := nbv (some ⟨g1, 0, none⟩) l.length l.length (some ⟨g3, 0, none⟩) m.length m.length C T L) (by simp [results, Try.results12, go_sem, t0, t1, t2, t3, t4]) rfl ⟨some ⟨g1, 0, none⟩, l.length, some ⟨g3, 0, none⟩, m.length, rfl, ?_, ?_, ?_, ?_⟩
  · exact (((((((((HO3.out.far (p := ⟨w.heap.size + 1 + 1, 1, none⟩) (by show w.heap.size + 1 + 1 < _; omega) _).far (p := ⟨w.heap.size + 1 + 1, 2, none⟩) (by show w.heap.size + 1 + 1 < _; omega) _).far (p := ⟨w.heap.size + 1 + 1, 3, none⟩) (by show w.heap.size + 1 + 1 < _; omega) _).far (p := ⟨w.heap.size + 1 + 1, 4, none⟩) (by show w.heap.size + 1 + 1 < _; omega) _).far (p := ⟨w.heap.size + 1, 0, none⟩) (by show w.heap.size + 1 < _; omega) _).far (p := ⟨w.heap.size + 1, 1, none⟩) (by show w.heap.size + 1 < _; omega) _).far (p := ⟨w.heap.size + 1, 2, none⟩) (by show w.heap.size + 1 < _; omega) _).far (p := ⟨w.heap.size + 1, 3, none⟩) (by show w.heap.size + 1 < _; omega) _).far (p := ⟨w.heap.size + 1, 4, none⟩) (by show w.heap.size + 1 < _; omega) _).mono (by omega)
  · exact (((((((((HO4.out.far (p := ⟨w.heap.size + 1 + 1, 1, none⟩) (by show w.heap.size + 1 + 1 < _; omega) _).far (p := ⟨w.heap.size + 1 + 1, 2, none⟩) (by show w.heap.size + 1 + 1 < _; omega) _).far (p := ⟨w.heap.size + 1 + 1, 3, none⟩) (by show w.heap.size + 1 + 1 < _; omega) _).far (p := ⟨w.heap.size + 1 + 1, 4, none⟩) (by show w.heap.size + 1 + 1 < _; omega) _).far (p := ⟨w.heap.size + 1, 0, none⟩) (by show w.heap.size + 1 < _; omega) _).far (p := ⟨w.heap.size + 1, 1, none⟩) (by show w.heap.size + 1 < _; omega) _).far (p := ⟨w.heap.size + 1, 2, none⟩) (by show w.heap.size + 1 < _; omega) _).far (p := ⟨w.heap.size + 1, 3, none⟩) (by show w.heap.size + 1 < _; omega) _).far (p := ⟨w.heap.size + 1, 4, none⟩) (by show w.heap.size + 1 < _; omega) _).mono (by omega)
  · intro p q hp hq
    cases hp
    cases hq
    exact HNE.out
  · exact ((((((((HB3.out.setCell (p := ⟨w.heap.size + 1 + 1, 1, none⟩) (by show _ ≤ w.heap.size + 1 + 1; omega) _).setCell (p := ⟨w.heap.size + 1 + 1, 2, none⟩) (by show _ ≤ w.heap.size + 1 + 1; omega) _).setCell (p := ⟨w.heap.size + 1 + 1, 3, none⟩) (by show _ ≤ w.heap.size + 1 + 1; omega) _).setCell (p := ⟨w.heap.size + 1 + 1, 4, none⟩) (by show _ ≤ w.heap.size + 1 + 1; omega) _).setCell (p := ⟨w.heap.size + 1, 0, none⟩) (by show _ ≤ w.heap.size + 1; omega) _).setCell (p := ⟨w.heap.size + 1, 1, none⟩) (by show _ ≤ w.heap.size + 1; omega) _).setCell (p := ⟨w.heap.size + 1, 2, none⟩) (by show _ ≤ w.heap.size + 1; omega) _).setCell (p := ⟨w.heap.size + 1, 3, none⟩) (by show _ ≤ w.heap.size + 1; omega) _).setCell (p := ⟨w.heap.size + 1, 4, none⟩) (by show _ ≤ w.heap.size + 1; omega) _


set_option maxHeartbeats 1000000 in
theorem eqNb_t (a1 a2 : Option Addr) (c1 c2 : Nat) (b1 b2 : Option Addr) (d1 d2 : Nat) (l m : List Int) (C : Int) (T L : Bool) (w : World) (hl : l.length ≤ 4611686018427387904) (hm : m.length ≤ 4611686018427387904) (r1 : Row w a1 l) (r2 : Row w a2 l) (s1 : Row w b1 m) (s2 : Row w b2 m) :
    Calls Try.prog 14 #[nbv a1 l.length c1 b1 m.length d1 C T L, nbv a2 l.length c2 b2 m.length d2 C T L] w fun e w' => e = .returned (.bool true) ∧ Below w.heap.size w w' := by
  have hne : ∀ b : Int, (b != b) = false := by intro b; simp
  have hneb : ∀ b : Bool, (b != b) = false := by intro b; cases b <;> rfl
  have HR1 := Lib.hid r1
  have HR2 := Lib.hid r2
  have HS1 := Lib.hid s1
  have HS2 := Lib.hid s2
  clear r1 r2 s1 s2
  go_enter Try.func14, Try.ntmps14
  go_wp2_with fail
  obtain ⟨W0, hW0⟩ : ∃ W0, W0 = (w.alloc (.cells #[.slice a1 l.length c1, .slice b1 m.length d1, .int .i64 C, .bool T, .bool L] 27)).alloc (.cells #[.slice a2 l.length c2, .slice b2 m.length d2, .int .i64 C, .bool T, .bool L] 27) := ⟨_, rfl⟩
  rw [← hW0]
  have HB0 : Hid (Below w.heap.size w W0) := Lib.hid (by rw [hW0]; exact ((Below.refl w.heap.size w).alloc (Nat.le_refl _) _).alloc (by simp) _)
  have P0 : Box5 W0 w.heap.size (.slice a1 l.length c1) (.slice b1 m.length d1) (.int .i64 C) (.bool T) (.bool L) := by
    rw [hW0]; exact ⟨by simp; omega, by simp [World.cell?_alloc_at, World.cell?_alloc_past], by simp [World.cell?_alloc_at, World.cell?_alloc_past], by simp [World.cell?_alloc_at, World.cell?_alloc_past], by simp [World.cell?_alloc_at, World.cell?_alloc_past], by simp [World.cell?_alloc_at, World.cell?_alloc_past]⟩
  have Q0 : Box5 W0 (w.heap.size + 1) (.slice a2 l.length c2) (.slice b2 m.length d2) (.int .i64 C) (.bool T) (.bool L) := by
    rw [hW0]; exact ⟨by simp, by simp [World.cell?_alloc_at], by simp [World.cell?_alloc_at], by simp [World.cell?_alloc_at], by simp [World.cell?_alloc_at], by simp [World.cell?_alloc_at]⟩
  clear hW0
  refine (eqIntS_t _ _ _ _ l _ hl (HR1.out.below HB0.out (Nat.le_refl _)) (HR2.out.below HB0.out (Nat.le_refl _))).mono ?_
  rintro e w1 ⟨rfl, hb1⟩
  have P1 := P0.below hb1 (Nat.le_refl _)
  have Q1 := Q0.below hb1 (Nat.le_refl _)
  have HB1 : Hid (Below w.heap.size w w1) := Lib.hid (HB0.out.trans (hb1.mono HB0.out.size))
  clear P0 Q0 hb1
  have hP := P1
  have hQ := Q1
  obtain ⟨_, p0, p1, p2, p3, p4⟩ := hP
  obtain ⟨_, q0, q1, q2, q3, q4⟩ := hQ
  go_wp2_with fail
  clear p0 p1 p2 p3 p4 q0 q1 q2 q3 q4
  refine (eqIntS_t _ _ _ _ m _ hm (HS1.out.below HB1.out (Nat.le_refl _)) (HS2.out.below HB1.out (Nat.le_refl _))).mono ?_
  rintro e w2 ⟨rfl, hb2⟩
  have P2 := P1.below hb2 (Nat.le_refl _)
  have Q2 := Q1.below hb2 (Nat.le_refl _)
  have HB2 : Hid (Below w.heap.size w w2) := Lib.hid (HB1.out.trans (hb2.mono HB1.out.size))
  clear P1 Q1 hb2
  obtain ⟨_, p0, p1, p2, p3, p4⟩ := P2
  obtain ⟨_, q0, q1, q2, q3, q4⟩ := Q2
  go_wp2
  go_ret
  exact ⟨rfl, HB2.out⟩


set_option maxHeartbeats 1000000 in
theorem markNb_c (B B' : Nat) (a : Option Addr) (c : Nat) (l : List Int) (b : Option Addr) (d : Nat) (m : List Int) (C : Int) (T L : Bool) (k : Int) (w : World) (hl : l.length ≤ 1099511627776) (hm : m.length ≤ 1099511627776) (h0 : 0 ≤ k) (h1 : k ≤ 4611686018426) (ho : Own B w a c l) (ho2 : Own B' w b d m) (hne : ∀ p q, a = some p → b = some q → p.block ≠ q.block) :
    Calls Try.prog 20 #[nbv a l.length c b m.length d C T L, .int .i64 k] w fun e w' => e = .returned (.int .i64 (k + l.length + m.length)) ∧ Own B w' a c (marks k l.length) ∧ Own B' w' b d (marks (k + l.length) m.length) ∧ Grown2 w w' (a.map (·.block)) (b.map (·.block)) := by
  have HO := Lib.hid ho
  have HO2 := Lib.hid ho2
  have HN := Lib.hid hne
  clear ho ho2 hne
  go_enter Try.func20, Try.ntmps20
  go_wp2_with fail
  obtain ⟨W0, hW0⟩ : ∃ W0, W0 = w.alloc (.cells #[.slice a l.length c, .slice b m.length d, .int .i64 C, .bool T, .bool L] 27) := ⟨_, rfl⟩
  rw [← hW0]
  have P0 : Box5 W0 w.heap.size (.slice a l.length c) (.slice b m.length d) (.int .i64 C) (.bool T) (.bool L) := by rw [hW0]; exact Box5.new _ _ _ _ _ _ _
  have HA : Hid (W0 = w.alloc (.cells #[.slice a l.length c, .slice b m.length d, .int .i64 C, .bool T, .bool L] 27)) := Lib.hid hW0
  have oo : Own B W0 a c l := by rw [hW0]; exact HO.out.alloc _
  have oo2 : Own B' W0 b d m := by rw [hW0]; exact HO2.out.alloc _
  clear hW0
  refine (markIntS_c B _ _ l k _ (by omega) h0 (by omega) oo).mono ?_
  rintro e w1 ⟨rfl, o1, g1⟩
  have P1 := P0.grown g1 (fun p hp => by have := (HO.out.lt p hp).2; omega)
  have o2 := oo2.grown g1 (fun p g hp hg => by
    cases a with
    | none => cases hg
    | some q => simp at hg; have := HN.out q p rfl hp; omega)
  have G1 : Hid (w.grownBy w1 (a.map (·.block))) := Lib.hid (by
    have hA := HA.out
    subst hA
    refine ⟨g1.os, g1.tape, g1.output, ?_, ?_⟩
    · have := g1.size; simp at this; omega
    · intro i hi hne
      exact (g1.block i (by simp; omega) hne).trans (Below.heap_alloc w _ i hi))
  have O1 := Lib.hid o1
  clear o1 g1 P0 oo oo2
  obtain ⟨_, p0, p1, p2, p3, p4⟩ := P1
  go_wp2_with fail
  clear p0 p1 p2 p3 p4
  refine (markIntS_c B' _ _ m (k + l.length) _ (by omega) (by omega) (by omega) o2).mono ?_
  rintro e w2 ⟨rfl, o3, g2⟩
  have O2 := Lib.hid (O1.out.grown g2 (fun p g hp hg => by
    cases b with
    | none => cases hg
    | some q => simp at hg; have := HN.out p q hp rfl; omega))
  have O3 := Lib.hid o3
  have G2 := Lib.hid g2
  clear o3 g2 o2 O1
  go_wp2
  go_ret
  exact ⟨rfl, O2.out, O3.out, w1, G1.out, G2.out⟩



















end Go.Proofs.Ytnbkkhaahfnlfaa
