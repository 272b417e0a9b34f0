/- Lemmas that open the arguments of a statement: integers, slices, structs by value. -/
import Derived.Test.YtnfmdbiminoneaaMem
import Derived.Lib.SmallJoins
import Derived.OpenShut
import Derived.ShutString
import Derived.ChangeOld
import Derived.Below
import Derived.Carry
namespace Go.Proofs.Ytnfmdbiminoneaa
open Go.ChangeShapes Go.WideShapes Go.ChangeAt Go.RowKit Go.Joins

theorem wf_i64 {n : Int} (h : (Lit.int .i64 n).wf = true) : -9223372036854775808 ≤ n ∧ n ≤ 9223372036854775807 := bounds_i64 h
theorem wf_u8 {n : Int} (h : (Lit.int .u8 n).wf = true) : 0 ≤ n ∧ n ≤ 255 := bounds_u8 h

/-- The slice of bytes at address a reads as l. -/
def RowB (w : World) (a : Option Addr) (l : List Int) : Prop :=
  l = [] ∨ ∃ b off, a = some ⟨b, off, none⟩ ∧ ∀ i, i < l.length → w.cell? ⟨b, off + i, none⟩ = some (.int .u8 (l.getD i 0))

theorem Row.of_cells {w : World} {a : Addr} {len cap : Nat} {zs : List Int} (hl : len ≤ cap) (hz : zs.length = cap) (hc : ∀ i, i < zs.length → w.cell? (a.add i) = some (.int .i64 (zs.getD i 0)))
    (hw : ∀ n ∈ zs, -9223372036854775808 ≤ n ∧ n ≤ 9223372036854775807) : ∃ l : List Int, l.length = len ∧ Row w (some a) l ∧ ∀ x ∈ l, -9223372036854775808 ≤ x ∧ x ≤ 9223372036854775807 := by
  refine ⟨zs.take len, by simp; omega, ?_, fun x hx => hw x (List.mem_of_mem_take hx)⟩
  by_cases h0 : len = 0
  · exact .inl (by simp [h0])
  · obtain ⟨b, off, rfl, hc'⟩ := ints_at hc (by omega)
    refine .inr ⟨b, off, rfl, fun i hi => ?_⟩
    simp at hi
    rw [hc' i (by omega)]
    simp [List.getD, show i < len by omega, show i < zs.length by omega]
theorem RowB.of_cells {w : World} {a : Addr} {len cap : Nat} {zs : List Int} (hl : len ≤ cap) (hz : zs.length = cap) (hc : ∀ i, i < zs.length → w.cell? (a.add i) = some (.int .u8 (zs.getD i 0)))
    (hw : ∀ n ∈ zs, 0 ≤ n ∧ n ≤ 255) : ∃ l : List Int, l.length = len ∧ RowB w (some a) l ∧ ∀ x ∈ l, 0 ≤ x ∧ x ≤ 255 := by
  refine ⟨zs.take len, by simp; omega, ?_, fun x hx => hw x (List.mem_of_mem_take hx)⟩
  by_cases h0 : len = 0
  · exact .inl (by simp [h0])
  · obtain ⟨b, off, rfl, hc'⟩ := ints_at hc (by omega)
    refine .inr ⟨b, off, rfl, fun i hi => ?_⟩
    simp at hi
    rw [hc' i (by omega)]
    simp [List.getD, show i < len by omega, show i < zs.length by omega]
end Go.Proofs.Ytnfmdbiminoneaa
