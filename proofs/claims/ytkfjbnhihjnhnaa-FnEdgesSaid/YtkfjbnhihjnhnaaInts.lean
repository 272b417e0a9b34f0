/- Contracts of the statements' helpers on slices of integers: a copy, an equality test, a marking, a look at the marks. -/
import Derived.Test.YtkfjbnhihjnhnaaMem
namespace Go.Proofs.Ytkfjbnhihjnhnaa
open Go.RowKit
set_option linter.unusedVariables false

theorem getD_lt {l : List Int} {k : Nat} (h : k < l.length) : l.getD k 0 = l[k] := by simp [List.getD, h]
theorem take_snoc {l : List Int} {k : Nat} (h : k < l.length) : l.take (k + 1) = l.take k ++ [l.getD k 0] := by
  rw [List.take_add_one, List.getElem?_eq_getElem h, getD_lt h]; rfl

/-- the first k of l, zeros behind -/
def copied (l : List Int) (k : Nat) : List Int := l.take k ++ List.replicate (l.length - k) 0
theorem copied_len (l : List Int) (k : Nat) (h : k ≤ l.length) : (copied l k).length = l.length := by simp [copied]; omega
theorem copied_all (l : List Int) : copied l l.length = l := by simp [copied]
theorem copied_zero (l : List Int) : copied l 0 = List.replicate l.length 0 := by simp [copied]
theorem copied_set (l : List Int) (k : Nat) (h : k < l.length) : (copied l k).set k (l.getD k 0) = copied l (k + 1) := by
  unfold copied
  rw [take_snoc h, List.set_append_right _ _ (by simp; omega)]
  have e : k - (List.take k l).length = 0 := by simp; omega
  rw [e]
  have e2 : l.length - k = (l.length - (k + 1)) + 1 := by omega
  rw [e2, List.replicate_succ]
  simp





















































theorem eq_of_take {l m : List Int} (h : l.length = m.length) (ht : ∀ i, i < l.length → l.getD i 0 = m.getD i 0) : l = m := by
  apply List.ext_getElem h
  intro i h1 h2
  have := ht i h1
  rwa [getD_lt h1, getD_lt h2] at this








































































/-- the numbers k, k+1, .. -/
def marks (k : Int) (n : Nat) : List Int := (List.range n).map (fun i : Nat => k + (i : Int))
theorem marks_len (k : Int) (n : Nat) : (marks k n).length = n := by simp [marks]
theorem marks_getD (k : Int) (n i : Nat) (h : i < n) : (marks k n).getD i 0 = k + i := by simp [marks, List.getD, h]
/-- the first i of l are marked -/
def marked (l : List Int) (k : Int) (i : Nat) : List Int := marks k i ++ l.drop i
theorem marked_len (l : List Int) (k : Int) (i : Nat) (h : i ≤ l.length) : (marked l k i).length = l.length := by simp [marked, marks_len]; omega
theorem marked_set (l : List Int) (k : Int) (i : Nat) (h : i < l.length) : (marked l k i).set i (k + i) = marked l k (i + 1) := by
  unfold marked
  rw [List.set_append_right _ _ (by rw [marks_len]; exact Nat.le_refl _), marks_len, Nat.sub_self, List.drop_eq_getElem_cons h, List.set_cons_zero]
  simp [marks, List.range_succ]




























































/-! The same contracts with the world told by 'Below' alone. -/













theorem ne_up {aS aR : Option Addr} {N : Nat} (hS : ∀ p, aS = some p → p.block < N) (hR : ∀ p, aR = some p → N ≤ p.block) : ∀ p g, aS = some p → aR.map (·.block) = some g → p.block ≠ g := by
  intro p g h1 h2
  cases aR with
  | none => cases h2
  | some q => simp at h2; have := hS p h1; have := hR q rfl; omega
theorem ne_down {aS aR : Option Addr} {N : Nat} (hS : ∀ p, aS = some p → N ≤ p.block) (hR : ∀ p, aR = some p → p.block < N) : ∀ p g, aS = some p → aR.map (·.block) = some g → p.block ≠ g := by
  intro p g h1 h2
  cases aR with
  | none => cases h2
  | some q => simp at h2; have := hS p h1; have := hR q rfl; omega
theorem Own.ge {B K : Nat} {w : World} {a : Option Addr} {c : Nat} {l : List Int} (h : Own B w a c l) (hK : K ≤ B) : ∀ p, a = some p → K ≤ p.block := fun p hp => Nat.le_trans hK (h.lt p hp).1
theorem below_mark {B : Nat} {a w w' : World} {x : Option Addr} (h : Below B a w) (hg : w.grownBy w' (x.map (·.block))) (hB : B ≤ w.heap.size) (hx : ∀ p, x = some p → B ≤ p.block) : Below B a w' :=
  h.grown hg hB fun k hk => by
    cases x with
    | none => cases hk
    | some q => simp at hk; have := hx q rfl; omega
end Go.Proofs.Ytkfjbnhihjnhnaa
