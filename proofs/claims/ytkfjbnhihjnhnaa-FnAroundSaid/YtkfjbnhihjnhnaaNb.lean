/- Contracts of the statements' helpers on neighbourhoods: sizes, copies, equality, marks. -/
import Derived.Test.YtkfjbnhihjnhnaaFr2
import Derived.Test.YtkfjbnhihjnhnaaFrm
namespace Go.Proofs.Ytkfjbnhihjnhnaa
open Go.RowKit
set_option linter.unusedVariables false

/-- a neighbourhood as a value -/
abbrev nbv (a : Option Addr) (n c : Nat) (b : Option Addr) (m d : Nat) (C : Int) (T L : Bool) : Value := .agg #[.slice a n c, .slice b m d, .int .i64 C, .bool T, .bool L]

/-- the world grew but for two blocks -/
def Grown2 (w w' : World) (a b : Option Nat) : Prop := ∃ wm, w.grownBy wm a ∧ wm.grownBy w' b
theorem Grown2.size {w w' : World} {a b : Option Nat} (h : Grown2 w w' a b) : w.heap.size ≤ w'.heap.size := by
  obtain ⟨_, h1, h2⟩ := h; exact Nat.le_trans h1.size h2.size
theorem Own.grown2 {B : Nat} {w w' : World} {x y : Option Addr} {a : Option Addr} {c : Nat} {l : List Int} (h : Own B w a c l) (hg : Grown2 w w' (x.map (·.block)) (y.map (·.block)))
    (h1 : ∀ p g, a = some p → x.map (·.block) = some g → p.block ≠ g) (h2 : ∀ p g, a = some p → y.map (·.block) = some g → p.block ≠ g) : Own B w' a c l := by
  obtain ⟨_, g1, g2⟩ := hg; exact (h.grown g1 h1).grown g2 h2
theorem Box3.grown2 {w w' : World} {b : Nat} {v0 v1 v2 : Value} {x y : Option Addr} (h : Box3 w b v0 v1 v2) (hg : Grown2 w w' (x.map (·.block)) (y.map (·.block))) (h1 : ∀ p, x = some p → p.block ≠ b) (h2 : ∀ p, y = some p → p.block ≠ b) : Box3 w' b v0 v1 v2 := by
  obtain ⟨_, g1, g2⟩ := hg; exact (h.grown g1 h1).grown g2 h2
theorem Box5.grown2 {w w' : World} {b : Nat} {v0 v1 v2 v3 v4 : Value} {x y : Option Addr} (h : Box5 w b v0 v1 v2 v3 v4) (hg : Grown2 w w' (x.map (·.block)) (y.map (·.block))) (h1 : ∀ p, x = some p → p.block ≠ b) (h2 : ∀ p, y = some p → p.block ≠ b) : Box5 w' b v0 v1 v2 v3 v4 := by
  obtain ⟨_, g1, g2⟩ := hg; exact (h.grown g1 h1).grown g2 h2
theorem below_mark2 {B : Nat} {a w w' : World} {x y : Option Addr} (h : Below B a w) (hg : Grown2 w w' (x.map (·.block)) (y.map (·.block))) (hB : B ≤ w.heap.size) (hx : ∀ p, x = some p → B ≤ p.block) (hy : ∀ p, y = some p → B ≤ p.block) : Below B a w' := by
  obtain ⟨_, g1, g2⟩ := hg; exact below_mark (below_mark h g1 hB hx) g2 (Nat.le_trans hB g1.size) hy

theorem Box5.far {w : World} {b : Nat} {v0 v1 v2 v3 v4 : Value} (h : Box5 w b v0 v1 v2 v3 v4) {p : Addr} (hp : p.block ≠ b) (x : Value) : Box5 (w.setCell p x) b v0 v1 v2 v3 v4 := by
  obtain ⟨hl, h0, h1, h2, h3, h4⟩ := h
  have ne : ∀ i, (⟨b, i, none⟩ : Addr) ≠ p := fun i e => hp (by rw [← e])
  refine ⟨by simpa using hl, ?_, ?_, ?_, ?_, ?_⟩
  · rw [World.cell?_setCell_other _ _ _ _ (by first | exact ne _ | exact (ne _).symm)]; exact h0
  · rw [World.cell?_setCell_other _ _ _ _ (by first | exact ne _ | exact (ne _).symm)]; exact h1
  · rw [World.cell?_setCell_other _ _ _ _ (by first | exact ne _ | exact (ne _).symm)]; exact h2
  · rw [World.cell?_setCell_other _ _ _ _ (by first | exact ne _ | exact (ne _).symm)]; exact h3
  · rw [World.cell?_setCell_other _ _ _ _ (by first | exact ne _ | exact (ne _).symm)]; exact h4
theorem Box5.s0 {w : World} {b : Nat} {v0 v1 v2 v3 v4 : Value} (h : Box5 w b v0 v1 v2 v3 v4) (x : Value) : Box5 (w.setCell ⟨b, 0, none⟩ x) b x v1 v2 v3 v4 := by
  obtain ⟨hl, h0, h1, h2, h3, h4⟩ := h
  exact ⟨by simpa using hl, World.cell?_setCell_same _ _ _ h0, (World.cell?_setCell_other _ _ _ _ (by simp)).trans h1, (World.cell?_setCell_other _ _ _ _ (by simp)).trans h2, (World.cell?_setCell_other _ _ _ _ (by simp)).trans h3, (World.cell?_setCell_other _ _ _ _ (by simp)).trans h4⟩
theorem Box5.s1 {w : World} {b : Nat} {v0 v1 v2 v3 v4 : Value} (h : Box5 w b v0 v1 v2 v3 v4) (x : Value) : Box5 (w.setCell ⟨b, 1, none⟩ x) b v0 x v2 v3 v4 := by
  obtain ⟨hl, h0, h1, h2, h3, h4⟩ := h
  exact ⟨by simpa using hl, (World.cell?_setCell_other _ _ _ _ (by simp)).trans h0, World.cell?_setCell_same _ _ _ h1, (World.cell?_setCell_other _ _ _ _ (by simp)).trans h2, (World.cell?_setCell_other _ _ _ _ (by simp)).trans h3, (World.cell?_setCell_other _ _ _ _ (by simp)).trans h4⟩
theorem Box5.s2 {w : World} {b : Nat} {v0 v1 v2 v3 v4 : Value} (h : Box5 w b v0 v1 v2 v3 v4) (x : Value) : Box5 (w.setCell ⟨b, 2, none⟩ x) b v0 v1 x v3 v4 := by
  obtain ⟨hl, h0, h1, h2, h3, h4⟩ := h
  exact ⟨by simpa using hl, (World.cell?_setCell_other _ _ _ _ (by simp)).trans h0, (World.cell?_setCell_other _ _ _ _ (by simp)).trans h1, World.cell?_setCell_same _ _ _ h2, (World.cell?_setCell_other _ _ _ _ (by simp)).trans h3, (World.cell?_setCell_other _ _ _ _ (by simp)).trans h4⟩
theorem Box5.s3 {w : World} {b : Nat} {v0 v1 v2 v3 v4 : Value} (h : Box5 w b v0 v1 v2 v3 v4) (x : Value) : Box5 (w.setCell ⟨b, 3, none⟩ x) b v0 v1 v2 x v4 := by
  obtain ⟨hl, h0, h1, h2, h3, h4⟩ := h
  exact ⟨by simpa using hl, (World.cell?_setCell_other _ _ _ _ (by simp)).trans h0, (World.cell?_setCell_other _ _ _ _ (by simp)).trans h1, (World.cell?_setCell_other _ _ _ _ (by simp)).trans h2, World.cell?_setCell_same _ _ _ h3, (World.cell?_setCell_other _ _ _ _ (by simp)).trans h4⟩
theorem Box5.s4 {w : World} {b : Nat} {v0 v1 v2 v3 v4 : Value} (h : Box5 w b v0 v1 v2 v3 v4) (x : Value) : Box5 (w.setCell ⟨b, 4, none⟩ x) b v0 v1 v2 v3 x := by
  obtain ⟨hl, h0, h1, h2, h3, h4⟩ := h
  exact ⟨by simpa using hl, (World.cell?_setCell_other _ _ _ _ (by simp)).trans h0, (World.cell?_setCell_other _ _ _ _ (by simp)).trans h1, (World.cell?_setCell_other _ _ _ _ (by simp)).trans h2, (World.cell?_setCell_other _ _ _ _ (by simp)).trans h3, World.cell?_setCell_same _ _ _ h4⟩
































































































































































































































































end Go.Proofs.Ytkfjbnhihjnhnaa
