/- Contracts of the draws of lanes, of squares and of lines. -/
import Derived.Test.YtkfjbnhihjnhnaaDraw2
import Derived.Test.YtkfjbnhihjnhnaaPack
namespace Go.Proofs.Ytkfjbnhihjnhnaa
open Go.RowKit
set_option linter.unusedVariables false

/-- a row in blocks from B on, which may be written -/
def Frs (B : Nat) (w : World) (b : Option Addr) (L : List Int) : Prop := Row w b L ∧ ∀ p, b = some p → B ≤ p.block ∧ p.block < w.heap.size ∧ ∀ i, w.frozen? ⟨p.block, i, none⟩ = false
theorem Own.frs {B : Nat} {w : World} {b : Option Addr} {d : Nat} {L : List Int} (h : Own B w b d L) : Frs B w b L := by
  refine ⟨h.row, fun p hp => ?_⟩
  rcases h.form with ⟨rfl, _, _⟩ | ⟨g, rfl, h1, h2⟩
  · cases hp
  · cases hp; exact ⟨h1, h2, fun i => h.frozenAt i⟩
theorem Frs.cur {B : Nat} {w w' : World} {b : Option Addr} {L : List Int} {g : Nat} (h : Frs B w b L) (hd : w.grownBy w' (some g)) (hg : g < B) : Frs B w' b L := by
  refine ⟨h.1.cur hd (fun p hp => by have := (h.2 p hp).1; omega), fun p hp => ?_⟩
  obtain ⟨h1, h2, h3⟩ := h.2 p hp
  refine ⟨h1, Nat.lt_of_lt_of_le h2 hd.size, fun i => ?_⟩
  rw [World.frozen?_of_block (a := ⟨p.block, i, none⟩) (hd.block _ h2 (by intro e; injection e with e; have e2 : p.block = g := e; omega))]
  exact h3 i
theorem Frs.below {B K : Nat} {w w' : World} {b : Option Addr} {L : List Int} (h : Frs B w b L) (hb : Below K w w') (hK : ∀ p, b = some p → p.block < K) : Frs B w' b L :=
  ⟨h.1.under hb hK, fun p hp => ⟨(h.2 p hp).1, Nat.lt_of_lt_of_le (h.2 p hp).2.1 hb.size, fun i => (hb.frozen (p := ⟨p.block, i, none⟩) (hK p hp)).trans ((h.2 p hp).2.2 i)⟩⟩
theorem Frs.lt {B : Nat} {w : World} {b : Option Addr} {L : List Int} (h : Frs B w b L) : ∀ p, b = some p → p.block < w.heap.size := fun p hp => (h.2 p hp).2.1
theorem Frs.mono {B B' : Nat} {w : World} {b : Option Addr} {L : List Int} (h : Frs B w b L) (hB : B' ≤ B) : Frs B' w b L := ⟨h.1, fun p hp => ⟨Nat.le_trans hB (h.2 p hp).1, (h.2 p hp).2⟩⟩
/-- one value written -/
theorem Frs.stored {B : Nat} {w : World} {b off : Nat} {L : List Int} (h : Frs B w (some ⟨b, off, none⟩) L) (j : Nat) (x : Int) : Frs B (w.setCell ⟨b, off + j, none⟩ (.int .i64 x)) (some ⟨b, off, none⟩) (L.set j x) := by
  obtain ⟨h1, h2, h3⟩ := h.2 _ rfl
  refine ⟨?_, fun p hp => by cases hp; exact ⟨h1, by simpa using h2, fun i => by simp [h3 i]⟩⟩
  rcases h.1 with rfl | ⟨b', o', e, hc⟩
  · exact .inl (by simp)
  · cases e
    refine .inr ⟨b, off, rfl, fun i hi => ?_⟩
    rw [List.length_set] at hi
    by_cases e : j = i
    · subst e
      rw [World.cell?_setCell_same _ _ _ (hc j hi)]
      simp [List.getD, hi]
    · rw [World.cell?_setCell_other _ _ _ _ (by intro h; injection h; omega), hc i hi]
      simp [List.getD, e]
theorem Row.part' {w : World} {b off : Nat} {l : List Int} {t n : Nat} (h : Row w (some ⟨b, off, none⟩) l) (ht : t + n ≤ l.length) (hn : 0 < n) :
    Row w (some ⟨b, off + t, none⟩) (tab (fun i => l.getD (t + i) 0) n) := by
  refine .inr ⟨b, off + t, rfl, fun i hi => ?_⟩
  rw [tab_len] at hi
  rw [tab_getD _ _ _ hi, Nat.add_assoc]
  obtain ⟨b1, off1, e, hc⟩ := h.all (by omega)
  cases e
  exact hc (t + i) (by omega)
/-- all but the first -/
theorem Frs.tail {B : Nat} {w : World} {b : Nat} {l : List Int} {n : Nat} (h : Frs B w (some ⟨b, 0, none⟩) l) (hl : l.length = n + 1) (hn : 0 < n) : Frs B w (some ⟨b, 1, none⟩) (tab (fun i => l.getD (1 + i) 0) n) := by
  have h1 := h.1.part' (t := 1) (n := n) (by omega) hn
  rw [Nat.zero_add] at h1
  exact ⟨h1, fun p hp => by cases hp; exact h.2 ⟨b, 0, none⟩ rfl⟩
theorem tab_mem' {f : Nat → Int} {n : Nat} {x : Int} (h : x ∈ tab f n) : ∃ i, i < n ∧ x = f i := by
  simp [tab] at h
  obtain ⟨i, h1, h2⟩ := h
  exact ⟨i, h1, h2.symm⟩
theorem Low.mono2 {a : Option Addr} {l : List Int} {g B B' : Nat} (h : Low a l g B) (hB : B ≤ B') : Low a l g B' := h.mono hB
theorem Own.farD {B : Nat} {w : World} {a : Option Addr} {c : Nat} {l : List Int} (h : Own B w a c l) {p : Addr} (hp : p.block < B) (u : Value) : Own B (w.setCell p u) a c l := ownsRow_setCell_below h hp u
theorem mem_set {l : List Int} {i : Nat} {v x : Int} (h : x ∈ l.set i v) : x ∈ l ∨ x = v := by
  rcases List.mem_or_eq_of_mem_set h with h | h
  · exact .inl h
  · exact .inr h

































































































theorem packV_four (x0 x1 x2 x3 : Int) : packV [x0, x1, x2, x3] = ((x3 * 65536 + x2) * 65536 + x1) * 65536 + x0 := by simp [packV]
theorem packF_bd (l : List Int) : 0 ≤ packF l ∧ packF l ≤ 9223372036854775807 := by
  unfold packF
  split
  · rename_i h
    have h2 : l.length = 4 ∧ allR 0 32767 l = true := by simpa [packOk] using h
    obtain ⟨x0, x1, x2, x3, rfl⟩ := four_of h2.1
    have b0 : 0 ≤ x0 ∧ x0 ≤ 32767 := allR_at h2.2 (i := 0) (by simp)
    have b1 : 0 ≤ x1 ∧ x1 ≤ 32767 := allR_at h2.2 (i := 1) (by simp)
    have b2 : 0 ≤ x2 ∧ x2 ≤ 32767 := allR_at h2.2 (i := 2) (by simp)
    have b3 : 0 ≤ x3 ∧ x3 ≤ 32767 := allR_at h2.2 (i := 3) (by simp)
    rw [packV_four]
    omega
  · omega























































































































































































































































































































end Go.Proofs.Ytkfjbnhihjnhnaa
