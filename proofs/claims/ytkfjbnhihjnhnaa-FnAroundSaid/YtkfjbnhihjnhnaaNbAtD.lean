/- Contracts of the numbers around a block. -/
import Derived.Test.YtkfjbnhihjnhnaaNbG
import Derived.Test.YtkfjbnhihjnhnaaFrame
import Derived.Test.YtkfjbnhihjnhnaaBlk2
namespace Go.Proofs.Ytkfjbnhihjnhnaa
open Go.RowKit
set_option linter.unusedVariables false

/-- the numbers above, from the block's left on -/
def topAt (X : Nat) (l : List Int) (U V n : Nat) : Nat → Int
  | 0 => if V = 0 then 128 else l.getD ((V - 1) * X + U) 0
  | i + 1 => if V = 0 then 128 else if i + 1 < n ∨ (V % 8 = 0 ∧ U + (i + 1) < X) then l.getD ((V - 1) * X + U + (i + 1)) 0 else topAt X l U V n i
def leftAt (X : Nat) (l : List Int) (U V i : Nat) : Int := if U = 0 then 128 else l.getD ((V + i) * X + U - 1) 0
def corAt (X : Nat) (l : List Int) (U V : Nat) : Int := if 0 < U ∧ 0 < V then l.getD ((V - 1) * X + U - 1) 0 else 128
theorem topAt_z (X : Nat) (l : List Int) (U V n j : Nat) (h : V = 0) : topAt X l U V n j = 128 := by cases j <;> simp [topAt, h]
theorem topAt_p (X : Nat) (l : List Int) (U V n j : Nat) (h : 0 < V) (hj : j < n ∨ (V % 8 = 0 ∧ U + j < X)) : topAt X l U V n j = l.getD ((V - 1) * X + U + j) 0 := by
  have h0 : ¬ V = 0 := by omega
  cases j with
  | zero => simp [topAt, h0]
  | succ j => rw [topAt, if_neg h0, if_pos hj]
theorem topAt_s (X : Nat) (l : List Int) (U V n j : Nat) (h : 0 < V) (hj : ¬ (j + 1 < n ∨ (V % 8 = 0 ∧ U + (j + 1) < X))) : topAt X l U V n (j + 1) = topAt X l U V n j := by
  have h0 : ¬ V = 0 := by omega
  rw [topAt, if_neg h0, if_neg hj]
def nbTop (x y : Int) (l : List Int) (u v n : Int) : List Int := if fitsB x y l u v n = true then tab (topAt x.toNat l u.toNat v.toNat n.toNat) (2 * n.toNat) else []
def nbLeft (x y : Int) (l : List Int) (u v n : Int) : List Int := if fitsB x y l u v n = true then tab (leftAt x.toNat l u.toNat v.toNat) n.toNat else []
def nbCor (x y : Int) (l : List Int) (u v n : Int) : Int := if fitsB x y l u v n = true then corAt x.toNat l u.toNat v.toNat else 0
def nbHT (x y : Int) (l : List Int) (u v n : Int) : Bool := fitsB x y l u v n && decide (0 < v)
def nbHL (x y : Int) (l : List Int) (u v n : Int) : Bool := fitsB x y l u v n && decide (0 < u)
theorem five_belowN (w : World) (r B : Nat) (u0 u1 u2 u3 u4 : Value) (h : B ≤ r) : Below B w (((((w.setCell ⟨r, 0, none⟩ u0).setCell ⟨r, 1, none⟩ u1).setCell ⟨r, 2, none⟩ u2).setCell ⟨r, 3, none⟩ u3).setCell ⟨r, 4, none⟩ u4) :=
  (((((Below.refl B w).setCell (p := ⟨r, 0, none⟩) h _).setCell (p := ⟨r, 1, none⟩) h _).setCell (p := ⟨r, 2, none⟩) h _).setCell (p := ⟨r, 3, none⟩) h _).setCell (p := ⟨r, 4, none⟩) h _
/-- the result's block filled: the end of the walk -/
theorem NbR.fin {w W w1 : World} {k : Nat} {xa : Option Addr} {p : Nat} {A : List Int} {ya : Option Addr} {q : Nat} {M : List Int} {C : Int} {T H : Bool} (h : NbR W k xa p A ya q M C T H w1) (hb : Below w.heap.size w W) (r : Nat) (hr : w.heap.size ≤ r) (hr2 : r < W.heap.size) (u0 u1 u2 u3 u4 : Value) :
    Own w.heap.size (((((w1.setCell ⟨r, 0, none⟩ u0).setCell ⟨r, 1, none⟩ u1).setCell ⟨r, 2, none⟩ u2).setCell ⟨r, 3, none⟩ u3).setCell ⟨r, 4, none⟩ u4) xa p A ∧
    Own w.heap.size (((((w1.setCell ⟨r, 0, none⟩ u0).setCell ⟨r, 1, none⟩ u1).setCell ⟨r, 2, none⟩ u2).setCell ⟨r, 3, none⟩ u3).setCell ⟨r, 4, none⟩ u4) ya q M ∧
    (∀ p q, xa = some p → ya = some q → p.block ≠ q.block) ∧
    Below w.heap.size w (((((w1.setCell ⟨r, 0, none⟩ u0).setCell ⟨r, 1, none⟩ u1).setCell ⟨r, 2, none⟩ u2).setCell ⟨r, 3, none⟩ u3).setCell ⟨r, 4, none⟩ u4) := by
  obtain ⟨h1, h2, h3, h4, h5, h6, h7⟩ := h
  have hk : r < k + 1 := by omega
  refine ⟨(((((h3.far (p := ⟨r, 0, none⟩) hk u0).far (p := ⟨r, 1, none⟩) hk u1).far (p := ⟨r, 2, none⟩) hk u2).far (p := ⟨r, 3, none⟩) hk u3).far (p := ⟨r, 4, none⟩) hk u4).mono (by omega), (((((h4.far (p := ⟨r, 0, none⟩) hk u0).far (p := ⟨r, 1, none⟩) hk u1).far (p := ⟨r, 2, none⟩) hk u2).far (p := ⟨r, 3, none⟩) hk u3).far (p := ⟨r, 4, none⟩) hk u4).mono (by omega), h5, (hb.trans (h6.mono (by omega))).trans (five_belowN w1 r w.heap.size u0 u1 u2 u3 u4 hr)⟩

end Go.Proofs.Ytkfjbnhihjnhnaa
