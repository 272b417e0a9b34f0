/- Contracts of the statements' helpers on neighbourhoods: sizes, copies, equality, marks. -/
import Derived.Test.YtlekgoeibndlcaaFr2
import Derived.Test.YtlekgoeibndlcaaFrm
namespace Go.Proofs.Ytlekgoeibndlcaa
open Go.RowKit
set_option linter.unusedVariables false

/-- a neighbourhood as a value -/
abbrev nbv (a : Option Addr) (n c : Nat) (b : Option Addr) (m d : Nat) (C : Int) (T L : Bool) : Value := .agg #[.slice a n c, .slice b m d, .int .i64 C, .bool T, .bool L]

/-- the world grew but for two blocks -/
def Grown2 (w w' : World) (a b : Option Nat) : Prop := ∃ wm, w.grownBy wm a ∧ wm.grownBy w' b
theorem Grown2.size {w w' : World} {a b : Option Nat} (h : Grown2 w w' a b) : w.heap.size ≤ w'.heap.size := by
  obtain ⟨_, h1, h2⟩ := h; exact Nat.le_trans h1.size h2.size
theorem Own.grown2 {B : Nat} {w w' : World} {x y : Option Addr} {a : Option Addr} {c : Nat} {l : List Int} (h : Own B w a c l) (hg : Grown2 w w' (x.map (·.block)) (y.map (·.block)))
    (h1 : ∀ p g, a = some p → x.map (·.block) = some g → p.block ≠ g) (h2 : ∀ p g, a = some p → y.map (·.block) = some g → p.block ≠ g) : Own B w' a c l := by
  obtain ⟨_, g1, g2⟩ := hg; exact (h.grown g1 h1).grown g2 h2
theorem Box3.grown2 {w w' : World} {b : Nat} {v0 v1 v2 : Value} {x y : Option Addr} (h : Box3 w b v0 v1 v2) (hg : Grown2 w w' (x.map (·.block)) (y.map (·.block))) (h1 : ∀ p, x = some p → p.block ≠ b) (h2 : ∀ p, y = some p → p.block ≠ b) : Box3 w' b v0 v1 v2 := by
  obtain ⟨_, g1, g2⟩ := hg; exact (h.grown g1 h1).grown g2 h2
theorem Box5.grown2 {w w' : World} {b : Nat} {v0 v1 v2 v3 v4 : Value} {x y : Option Addr} (h : Box5 w b v0 v1 v2 v3 v4) (hg : Grown2 w w' (x.map (·.block)) (y.map (·.block))) (h1 : ∀ p, x = some p → p.block ≠ b) (h2 : ∀ p, y = some p → p.block ≠ b) : Box5 w' b v0 v1 v2 v3 v4 := by
  obtain ⟨_, g1, g2⟩ := hg; exact (h.grown g1 h1).grown g2 h2
theorem below_mark2 {B : Nat} {a w w' : World} {x y : Option Addr} (h : Below B a w) (hg : Grown2 w w' (x.map (·.block)) (y.map (·.block))) (hB : B ≤ w.heap.size) (hx : ∀ p, x = some p → B ≤ p.block) (hy : ∀ p, y = some p → B ≤ p.block) : Below B a w' := by
  obtain ⟨_, g1, g2⟩ := hg; exact below_mark (below_mark h g1 hB hx) g2 (Nat.le_trans hB g1.size) hy

theorem Box5.far {w : World} {b : Nat} {v0 v1 v2 v3 v4 : Value} (h : Box5 w b v0 v1 v2 v3 v4) {p : Addr} (hp : p.block ≠ b) (x : Value) : Box5 (w.setCell p x) b v0 v1 v2 v3 v4 := by
  obtain ⟨hl, h0, h1, h2, h3, h4⟩ := h
  have ne : ∀ i, (⟨b, i, none⟩ : Addr) ≠ p := fun i e => hp (by rw [← e])
  refine ⟨by simpa using hl, ?_, ?_, ?_, ?_, ?_⟩
  · rw [World.cell?_setCell_other _ _ _ _ (by first | exact ne _ | exact (ne _).symm)]; exact h0
  · rw [World.cell?_setCell_other _ _ _ _ (by first | exact ne _ | exact (ne _).symm)]; exact h1
  · rw [World.cell?_setCell_other _ _ _ _ (by first | exact ne _ | exact (ne _).symm)]; exact h2
  · rw [World.cell?_setCell_other _ _ _ _ (by first | exact ne _ | exact (ne _).symm)]; exact h3
  · rw [World.cell?_setCell_other _ _ _ _ (by first | exact ne _ | exact (ne _).symm)]; exact h4
theorem Box5.s0 {w : World} {b : Nat} {v0 v1 v2 v3 v4 : Value} (h : Box5 w b v0 v1 v2 v3 v4) (x : Value) : Box5 (w.setCell ⟨b, 0, none⟩ x) b x v1 v2 v3 v4 := by
  obtain ⟨hl, h0, h1, h2, h3, h4⟩ := h
  exact ⟨by simpa using hl, World.cell?_setCell_same _ _ _ h0, (World.cell?_setCell_other _ _ _ _ (by simp)).trans h1, (World.cell?_setCell_other _ _ _ _ (by simp)).trans h2, (World.cell?_setCell_other _ _ _ _ (by simp)).trans h3, (World.cell?_setCell_other _ _ _ _ (by simp)).trans h4⟩
theorem Box5.s1 {w : World} {b : Nat} {v0 v1 v2 v3 v4 : Value} (h : Box5 w b v0 v1 v2 v3 v4) (x : Value) : Box5 (w.setCell ⟨b, 1, none⟩ x) b v0 x v2 v3 v4 := by
  obtain ⟨hl, h0, h1, h2, h3, h4⟩ := h
  exact ⟨by simpa using hl, (World.cell?_setCell_other _ _ _ _ (by simp)).trans h0, World.cell?_setCell_same _ _ _ h1, (World.cell?_setCell_other _ _ _ _ (by simp)).trans h2, (World.cell?_setCell_other _ _ _ _ (by simp)).trans h3, (World.cell?_setCell_other _ _ _ _ (by simp)).trans h4⟩
theorem Box5.s2 {w : World} {b : Nat} {v0 v1 v2 v3 v4 : Value} (h : Box5 w b v0 v1 v2 v3 v4) (x : Value) : Box5 (w.setCell ⟨b, 2, none⟩ x) b v0 v1 x v3 v4 := by
  obtain ⟨hl, h0, h1, h2, h3, h4⟩ := h
  exact ⟨by simpa using hl, (World.cell?_setCell_other _ _ _ _ (by simp)).trans h0, (World.cell?_setCell_other _ _ _ _ (by simp)).trans h1, World.cell?_setCell_same _ _ _ h2, (World.cell?_setCell_other _ _ _ _ (by simp)).trans h3, (World.cell?_setCell_other _ _ _ _ (by simp)).trans h4⟩
theorem Box5.s3 {w : World} {b : Nat} {v0 v1 v2 v3 v4 : Value} (h : Box5 w b v0 v1 v2 v3 v4) (x : Value) : Box5 (w.setCell ⟨b, 3, none⟩ x) b v0 v1 v2 x v4 := by
  obtain ⟨hl, h0, h1, h2, h3, h4⟩ := h
  exact ⟨by simpa using hl, (World.cell?_setCell_other _ _ _ _ (by simp)).trans h0, (World.cell?_setCell_other _ _ _ _ (by simp)).trans h1, (World.cell?_setCell_other _ _ _ _ (by simp)).trans h2, World.cell?_setCell_same _ _ _ h3, (World.cell?_setCell_other _ _ _ _ (by simp)).trans h4⟩
theorem Box5.s4 {w : World} {b : Nat} {v0 v1 v2 v3 v4 : Value} (h : Box5 w b v0 v1 v2 v3 v4) (x : Value) : Box5 (w.setCell ⟨b, 4, none⟩ x) b v0 v1 v2 v3 x := by
  obtain ⟨hl, h0, h1, h2, h3, h4⟩ := h
  exact ⟨by simpa using hl, (World.cell?_setCell_other _ _ _ _ (by simp)).trans h0, (World.cell?_setCell_other _ _ _ _ (by simp)).trans h1, (World.cell?_setCell_other _ _ _ _ (by simp)).trans h2, (World.cell?_setCell_other _ _ _ _ (by simp)).trans h3, World.cell?_setCell_same _ _ _ h4⟩

















































































































































set_option maxHeartbeats 1000000 in
theorem eqNb_t (a1 a2 : Option Addr) (c1 c2 : Nat) (b1 b2 : Option Addr) (d1 d2 : Nat) (l m : List Int) (C : Int) (T L : Bool) (w : World) (hl : l.length ≤ 4611686018427387904) (hm : m.length ≤ 4611686018427387904) (r1 : Row w a1 l) (r2 : Row w a2 l) (s1 : Row w b1 m) (s2 : Row w b2 m) :
    Calls Try.prog 30 #[nbv a1 l.length c1 b1 m.length d1 C T L, nbv a2 l.length c2 b2 m.length d2 C T L] w fun e w' => e = .returned (.bool true) ∧ Below w.heap.size w w' := by
  have hne : ∀ b : Int, (b != b) = false := by intro b; simp
  have hneb : ∀ b : Bool, (b != b) = false := by intro b; cases b <;> rfl
  have HR1 := Lib.hid r1
  have HR2 := Lib.hid r2
  have HS1 := Lib.hid s1
  have HS2 := Lib.hid s2
  clear r1 r2 s1 s2
  go_enter Try.func30, Try.ntmps30
  go_wp2_with fail
  obtain ⟨W0, hW0⟩ : ∃ W0, W0 = (w.alloc (.cells #[.slice a1 l.length c1, .slice b1 m.length d1, .int .i64 C, .bool T, .bool L] 42)).alloc (.cells #[.slice a2 l.length c2, .slice b2 m.length d2, .int .i64 C, .bool T, .bool L] 42) := ⟨_, rfl⟩
  rw [← hW0]
  have HB0 : Hid (Below w.heap.size w W0) := Lib.hid (by rw [hW0]; exact ((Below.refl w.heap.size w).alloc (Nat.le_refl _) _).alloc (by simp) _)
  have P0 : Box5 W0 w.heap.size (.slice a1 l.length c1) (.slice b1 m.length d1) (.int .i64 C) (.bool T) (.bool L) := by
    rw [hW0]; exact ⟨by simp; omega, by simp [World.cell?_alloc_at, World.cell?_alloc_past], by simp [World.cell?_alloc_at, World.cell?_alloc_past], by simp [World.cell?_alloc_at, World.cell?_alloc_past], by simp [World.cell?_alloc_at, World.cell?_alloc_past], by simp [World.cell?_alloc_at, World.cell?_alloc_past]⟩
  have Q0 : Box5 W0 (w.heap.size + 1) (.slice a2 l.length c2) (.slice b2 m.length d2) (.int .i64 C) (.bool T) (.bool L) := by
    rw [hW0]; exact ⟨by simp, by simp [World.cell?_alloc_at], by simp [World.cell?_alloc_at], by simp [World.cell?_alloc_at], by simp [World.cell?_alloc_at], by simp [World.cell?_alloc_at]⟩
  clear hW0
  refine (eqIntS_t _ _ _ _ l _ hl (HR1.out.below HB0.out (Nat.le_refl _)) (HR2.out.below HB0.out (Nat.le_refl _))).mono ?_
  rintro e w1 ⟨rfl, hb1⟩
  have P1 := P0.below hb1 (Nat.le_refl _)
  have Q1 := Q0.below hb1 (Nat.le_refl _)
  have HB1 : Hid (Below w.heap.size w w1) := Lib.hid (HB0.out.trans (hb1.mono HB0.out.size))
  clear P0 Q0 hb1
  have hP := P1
  have hQ := Q1
  obtain ⟨_, p0, p1, p2, p3, p4⟩ := hP
  obtain ⟨_, q0, q1, q2, q3, q4⟩ := hQ
  go_wp2_with fail
  clear p0 p1 p2 p3 p4 q0 q1 q2 q3 q4
  refine (eqIntS_t _ _ _ _ m _ hm (HS1.out.below HB1.out (Nat.le_refl _)) (HS2.out.below HB1.out (Nat.le_refl _))).mono ?_
  rintro e w2 ⟨rfl, hb2⟩
  have P2 := P1.below hb2 (Nat.le_refl _)
  have Q2 := Q1.below hb2 (Nat.le_refl _)
  have HB2 : Hid (Below w.heap.size w w2) := Lib.hid (HB1.out.trans (hb2.mono HB1.out.size))
  clear P1 Q1 hb2
  obtain ⟨_, p0, p1, p2, p3, p4⟩ := P2
  obtain ⟨_, q0, q1, q2, q3, q4⟩ := Q2
  go_wp2
  go_ret
  exact ⟨rfl, HB2.out⟩


set_option maxHeartbeats 1000000 in
theorem markNb_c (B B' : Nat) (a : Option Addr) (c : Nat) (l : List Int) (b : Option Addr) (d : Nat) (m : List Int) (C : Int) (T L : Bool) (k : Int) (w : World) (hl : l.length ≤ 1099511627776) (hm : m.length ≤ 1099511627776) (h0 : 0 ≤ k) (h1 : k ≤ 4611686018426) (ho : Own B w a c l) (ho2 : Own B' w b d m) (hne : ∀ p q, a = some p → b = some q → p.block ≠ q.block) :
    Calls Try.prog 31 #[nbv a l.length c b m.length d C T L, .int .i64 k] w fun e w' => e = .returned (.int .i64 (k + l.length + m.length)) ∧ Own B w' a c (marks k l.length) ∧ Own B' w' b d (marks (k + l.length) m.length) ∧ Grown2 w w' (a.map (·.block)) (b.map (·.block)) := by
  have HO := Lib.hid ho
  have HO2 := Lib.hid ho2
  have HN := Lib.hid hne
  clear ho ho2 hne
  go_enter Try.func31, Try.ntmps31
  go_wp2_with fail
  obtain ⟨W0, hW0⟩ : ∃ W0, W0 = w.alloc (.cells #[.slice a l.length c, .slice b m.length d, .int .i64 C, .bool T, .bool L] 42) := ⟨_, rfl⟩
  rw [← hW0]
  have P0 : Box5 W0 w.heap.size (.slice a l.length c) (.slice b m.length d) (.int .i64 C) (.bool T) (.bool L) := by rw [hW0]; exact Box5.new _ _ _ _ _ _ _
  have HA : Hid (W0 = w.alloc (.cells #[.slice a l.length c, .slice b m.length d, .int .i64 C, .bool T, .bool L] 42)) := Lib.hid hW0
  have oo : Own B W0 a c l := by rw [hW0]; exact HO.out.alloc _
  have oo2 : Own B' W0 b d m := by rw [hW0]; exact HO2.out.alloc _
  clear hW0
  refine (markIntS_c B _ _ l k _ (by omega) h0 (by omega) oo).mono ?_
  rintro e w1 ⟨rfl, o1, g1⟩
  have P1 := P0.grown g1 (fun p hp => by have := (HO.out.lt p hp).2; omega)
  have o2 := oo2.grown g1 (fun p g hp hg => by
    cases a with
    | none => cases hg
    | some q => simp at hg; have := HN.out q p rfl hp; omega)
  have G1 : Hid (w.grownBy w1 (a.map (·.block))) := Lib.hid (by
    have hA := HA.out
    subst hA
    refine ⟨g1.os, g1.tape, g1.output, ?_, ?_⟩
    · have := g1.size; simp at this; omega
    · intro i hi hne
      exact (g1.block i (by simp; omega) hne).trans (Below.heap_alloc w _ i hi))
  have O1 := Lib.hid o1
  clear o1 g1 P0 oo oo2
  obtain ⟨_, p0, p1, p2, p3, p4⟩ := P1
  go_wp2_with fail
  clear p0 p1 p2 p3 p4
  refine (markIntS_c B' _ _ m (k + l.length) _ (by omega) (by omega) (by omega) o2).mono ?_
  rintro e w2 ⟨rfl, o3, g2⟩
  have O2 := Lib.hid (O1.out.grown g2 (fun p g hp hg => by
    cases b with
    | none => cases hg
    | some q => simp at hg; have := HN.out p q hp rfl; omega))
  have O3 := Lib.hid o3
  have G2 := Lib.hid g2
  clear o3 g2 o2 O1
  go_wp2
  go_ret
  exact ⟨rfl, O2.out, O3.out, w1, G1.out, G2.out⟩


set_option maxHeartbeats 1000000 in
theorem heldNb_b (a : Option Addr) (c n : Nat) (b : Option Addr) (d n2 : Nat) (C : Int) (T L : Bool) (k : Int) (w : World) (hl : n ≤ 1099511627776) (hm : n2 ≤ 1099511627776) (h0 : 0 ≤ k) (h1 : k ≤ 4611686018426) (hr : Row w a (marks k n)) (hs : Row w b (marks (k + n) n2)) :
    Calls Try.prog 32 #[nbv a n c b n2 d C T L, .int .i64 k] w fun e w' => e = .returned (.int .i64 (k + n + n2)) ∧ Below w.heap.size w w' := by
  have HR := Lib.hid hr
  have HS := Lib.hid hs
  clear hr hs
  go_enter Try.func32, Try.ntmps32
  go_wp2_with fail
  refine (heldIntS_c _ _ n k _ (by omega) h0 (by omega) (HR.out.alloc _)).mono ?_
  rintro e w1 ⟨rfl, rfl⟩
  go_wp2_with fail
  refine (heldIntS_c _ _ n2 (k + n) _ (by omega) (by omega) (by omega) (HS.out.alloc _)).mono ?_
  rintro e w1 ⟨rfl, rfl⟩
  go_wp2
  go_ret
  exact ⟨rfl, (Below.refl w.heap.size w).alloc (Nat.le_refl _) _⟩

end Go.Proofs.Ytlekgoeibndlcaa
