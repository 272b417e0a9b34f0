/- Lemmas that open the arguments of a statement: integers, slices, structs by value. -/
import Derived.Test.YtnfmdbiminoneaaMem
import Derived.Lib.SmallJoins
import Derived.OpenShut
import Derived.ShutString
import Derived.ChangeOld
import Derived.Below
import Derived.Carry
namespace Go.Proofs.Ytnfmdbiminoneaa
open Go.ChangeShapes Go.WideShapes Go.ChangeAt Go.RowKit Go.Joins

theorem wf_i64 {n : Int} (h : (Lit.int .i64 n).wf = true) : -9223372036854775808 ≤ n ∧ n ≤ 9223372036854775807 := bounds_i64 h
theorem wf_u8 {n : Int} (h : (Lit.int .u8 n).wf = true) : 0 ≤ n ∧ n ≤ 255 := bounds_u8 h

/-- The slice of bytes at address a reads as l. -/
def RowB (w : World) (a : Option Addr) (l : List Int) : Prop :=
  l = [] ∨ ∃ b off, a = some ⟨b, off, none⟩ ∧ ∀ i, i < l.length → w.cell? ⟨b, off + i, none⟩ = some (.int .u8 (l.getD i 0))

theorem Row.of_cells {w : World} {a : Addr} {len cap : Nat} {zs : List Int} (hl : len ≤ cap) (hz : zs.length = cap) (hc : ∀ i, i < zs.length → w.cell? (a.add i) = some (.int .i64 (zs.getD i 0)))
    (hw : ∀ n ∈ zs, -9223372036854775808 ≤ n ∧ n ≤ 9223372036854775807) : ∃ l : List Int, l.length = len ∧ Row w (some a) l ∧ ∀ x ∈ l, -9223372036854775808 ≤ x ∧ x ≤ 9223372036854775807 := by
  refine ⟨zs.take len, by simp; omega, ?_, fun x hx => hw x (List.mem_of_mem_take hx)⟩
  by_cases h0 : len = 0
  · exact .inl (by simp [h0])
  · obtain ⟨b, off, rfl, hc'⟩ := ints_at hc (by omega)
    refine .inr ⟨b, off, rfl, fun i hi => ?_⟩
    simp at hi
    rw [hc' i (by omega)]
    simp [List.getD, show i < len by omega, show i < zs.length by omega]
theorem RowB.of_cells {w : World} {a : Addr} {len cap : Nat} {zs : List Int} (hl : len ≤ cap) (hz : zs.length = cap) (hc : ∀ i, i < zs.length → w.cell? (a.add i) = some (.int .u8 (zs.getD i 0)))
    (hw : ∀ n ∈ zs, 0 ≤ n ∧ n ≤ 255) : ∃ l : List Int, l.length = len ∧ RowB w (some a) l ∧ ∀ x ∈ l, 0 ≤ x ∧ x ≤ 255 := by
  refine ⟨zs.take len, by simp; omega, ?_, fun x hx => hw x (List.mem_of_mem_take hx)⟩
  by_cases h0 : len = 0
  · exact .inl (by simp [h0])
  · obtain ⟨b, off, rfl, hc'⟩ := ints_at hc (by omega)
    refine .inr ⟨b, off, rfl, fun i hi => ?_⟩
    simp at hi
    rw [hc' i (by omega)]
    simp [List.getD, show i < len by omega, show i < zs.length by omega]

theorem box_ne {b o : Nat} {a : Option Addr} (hne : ∀ p, a = some p → p.block ≠ b) : some (⟨b, o, none⟩ : Addr).block ≠ a.map (·.block) := by
  intro e
  cases a with
  | none => cases e
  | some q => simp at e; exact hne q rfl e.symm

/-- block b of the world holds these 3 cells -/
def Box3 (w : World) (b : Nat) (v0 v1 v2 : Value) : Prop := b < w.heap.size ∧ w.cell? ⟨b, 0, none⟩ = some v0 ∧ w.cell? ⟨b, 1, none⟩ = some v1 ∧ w.cell? ⟨b, 2, none⟩ = some v2
theorem Box3.new (w : World) (t : TypeId) (v0 v1 v2 : Value) : Box3 (w.alloc (.cells #[v0, v1, v2] t)) w.heap.size v0 v1 v2 := ⟨by simp, by simp, by simp, by simp⟩
theorem Box3.below {w w' : World} {b K : Nat} {v0 v1 v2 : Value} (h : Box3 w b v0 v1 v2) (hb : Below K w w') (hK : w.heap.size ≤ K) : Box3 w' b v0 v1 v2 := by
  obtain ⟨hl, h0, h1, h2⟩ := h
  exact ⟨Nat.lt_of_lt_of_le hl hb.size, (hb.cell (p := ⟨b, 0, none⟩) (by show b < K; omega)).trans h0, (hb.cell (p := ⟨b, 1, none⟩) (by show b < K; omega)).trans h1, (hb.cell (p := ⟨b, 2, none⟩) (by show b < K; omega)).trans h2⟩
theorem Box3.grown {w w' : World} {b : Nat} {v0 v1 v2 : Value} {a : Option Addr} (h : Box3 w b v0 v1 v2) (hg : w.grownBy w' (a.map (·.block))) (hne : ∀ p, a = some p → p.block ≠ b) : Box3 w' b v0 v1 v2 := by
  obtain ⟨hl, h0, h1, h2⟩ := h
  exact ⟨Nat.lt_of_lt_of_le hl hg.size, hg.cell h0 (box_ne hne), hg.cell h1 (box_ne hne), hg.cell h2 (box_ne hne)⟩

/-- block b of the world holds these 5 cells -/
def Box5 (w : World) (b : Nat) (v0 v1 v2 v3 v4 : Value) : Prop := b < w.heap.size ∧ w.cell? ⟨b, 0, none⟩ = some v0 ∧ w.cell? ⟨b, 1, none⟩ = some v1 ∧ w.cell? ⟨b, 2, none⟩ = some v2 ∧ w.cell? ⟨b, 3, none⟩ = some v3 ∧ w.cell? ⟨b, 4, none⟩ = some v4
theorem Box5.new (w : World) (t : TypeId) (v0 v1 v2 v3 v4 : Value) : Box5 (w.alloc (.cells #[v0, v1, v2, v3, v4] t)) w.heap.size v0 v1 v2 v3 v4 := ⟨by simp, by simp, by simp, by simp, by simp, by simp⟩
theorem Box5.below {w w' : World} {b K : Nat} {v0 v1 v2 v3 v4 : Value} (h : Box5 w b v0 v1 v2 v3 v4) (hb : Below K w w') (hK : w.heap.size ≤ K) : Box5 w' b v0 v1 v2 v3 v4 := by
  obtain ⟨hl, h0, h1, h2, h3, h4⟩ := h
  exact ⟨Nat.lt_of_lt_of_le hl hb.size, (hb.cell (p := ⟨b, 0, none⟩) (by show b < K; omega)).trans h0, (hb.cell (p := ⟨b, 1, none⟩) (by show b < K; omega)).trans h1, (hb.cell (p := ⟨b, 2, none⟩) (by show b < K; omega)).trans h2, (hb.cell (p := ⟨b, 3, none⟩) (by show b < K; omega)).trans h3, (hb.cell (p := ⟨b, 4, none⟩) (by show b < K; omega)).trans h4⟩
theorem Box5.grown {w w' : World} {b : Nat} {v0 v1 v2 v3 v4 : Value} {a : Option Addr} (h : Box5 w b v0 v1 v2 v3 v4) (hg : w.grownBy w' (a.map (·.block))) (hne : ∀ p, a = some p → p.block ≠ b) : Box5 w' b v0 v1 v2 v3 v4 := by
  obtain ⟨hl, h0, h1, h2, h3, h4⟩ := h
  exact ⟨Nat.lt_of_lt_of_le hl hg.size, hg.cell h0 (box_ne hne), hg.cell h1 (box_ne hne), hg.cell h2 (box_ne hne), hg.cell h3 (box_ne hne), hg.cell h4 (box_ne hne)⟩
end Go.Proofs.Ytnfmdbiminoneaa
