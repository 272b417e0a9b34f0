/- Lemmas that open the arguments of a statement: integers, slices, structs by value. -/
import Derived.Test.YtkfjbnhihjnhnaaMem
import Derived.Lib.SmallJoins
import Derived.OpenShut
import Derived.ShutString
import Derived.ChangeOld
import Derived.Below
import Derived.Carry
namespace Go.Proofs.Ytkfjbnhihjnhnaa
open Go.ChangeShapes Go.WideShapes Go.ChangeAt Go.RowKit Go.Joins Go.Deep

theorem wf_i64 {n : Int} (h : (Lit.int .i64 n).wf = true) : -9223372036854775808 ≤ n ∧ n ≤ 9223372036854775807 := bounds_i64 h
theorem wf_u8 {n : Int} (h : (Lit.int .u8 n).wf = true) : 0 ≤ n ∧ n ≤ 255 := bounds_u8 h

/-- The slice of bytes at address a reads as l. -/
def RowB (w : World) (a : Option Addr) (l : List Int) : Prop :=
  l = [] ∨ ∃ b off, a = some ⟨b, off, none⟩ ∧ ∀ i, i < l.length → w.cell? ⟨b, off + i, none⟩ = some (.int .u8 (l.getD i 0))

theorem Row.of_cells {w : World} {a : Addr} {len cap : Nat} {zs : List Int} (hl : len ≤ cap) (hz : zs.length = cap) (hc : ∀ i, i < zs.length → w.cell? (a.add i) = some (.int .i64 (zs.getD i 0)))
    (hw : ∀ n ∈ zs, -9223372036854775808 ≤ n ∧ n ≤ 9223372036854775807) : ∃ l : List Int, l.length = len ∧ Row w (some a) l ∧ ∀ x ∈ l, -9223372036854775808 ≤ x ∧ x ≤ 9223372036854775807 := by
  refine ⟨zs.take len, by simp; omega, ?_, fun x hx => hw x (List.mem_of_mem_take hx)⟩
  by_cases h0 : len = 0
  · exact .inl (by simp [h0])
  · obtain ⟨b, off, rfl, hc'⟩ := ints_at hc (by omega)
    refine .inr ⟨b, off, rfl, fun i hi => ?_⟩
    simp at hi
    rw [hc' i (by omega)]
    simp [List.getD, show i < len by omega, show i < zs.length by omega]
theorem RowB.of_cells {w : World} {a : Addr} {len cap : Nat} {zs : List Int} (hl : len ≤ cap) (hz : zs.length = cap) (hc : ∀ i, i < zs.length → w.cell? (a.add i) = some (.int .u8 (zs.getD i 0)))
    (hw : ∀ n ∈ zs, 0 ≤ n ∧ n ≤ 255) : ∃ l : List Int, l.length = len ∧ RowB w (some a) l ∧ ∀ x ∈ l, 0 ≤ x ∧ x ≤ 255 := by
  refine ⟨zs.take len, by simp; omega, ?_, fun x hx => hw x (List.mem_of_mem_take hx)⟩
  by_cases h0 : len = 0
  · exact .inl (by simp [h0])
  · obtain ⟨b, off, rfl, hc'⟩ := ints_at hc (by omega)
    refine .inr ⟨b, off, rfl, fun i hi => ?_⟩
    simp at hi
    rw [hc' i (by omega)]
    simp [List.getD, show i < len by omega, show i < zs.length by omega]

theorem box_ne {b o : Nat} {a : Option Addr} (hne : ∀ p, a = some p → p.block ≠ b) : some (⟨b, o, none⟩ : Addr).block ≠ a.map (·.block) := by
  intro e
  cases a with
  | none => cases e
  | some q => simp at e; exact hne q rfl e.symm

/-- block b of the world holds these 3 cells -/
def Box3 (w : World) (b : Nat) (v0 v1 v2 : Value) : Prop := b < w.heap.size ∧ w.cell? ⟨b, 0, none⟩ = some v0 ∧ w.cell? ⟨b, 1, none⟩ = some v1 ∧ w.cell? ⟨b, 2, none⟩ = some v2
theorem Box3.new (w : World) (t : TypeId) (v0 v1 v2 : Value) : Box3 (w.alloc (.cells #[v0, v1, v2] t)) w.heap.size v0 v1 v2 := ⟨by simp, by simp, by simp, by simp⟩
theorem Box3.below {w w' : World} {b K : Nat} {v0 v1 v2 : Value} (h : Box3 w b v0 v1 v2) (hb : Below K w w') (hK : w.heap.size ≤ K) : Box3 w' b v0 v1 v2 := by
  obtain ⟨hl, h0, h1, h2⟩ := h
  exact ⟨Nat.lt_of_lt_of_le hl hb.size, (hb.cell (p := ⟨b, 0, none⟩) (by show b < K; omega)).trans h0, (hb.cell (p := ⟨b, 1, none⟩) (by show b < K; omega)).trans h1, (hb.cell (p := ⟨b, 2, none⟩) (by show b < K; omega)).trans h2⟩
theorem Box3.drew {w : World} {b : Nat} {v0 v1 v2 : Value} (h : Box3 w b v0 v1 v2) : Box3 w.drew b v0 v1 v2 := h
theorem Box3.grown {w w' : World} {b : Nat} {v0 v1 v2 : Value} {a : Option Addr} (h : Box3 w b v0 v1 v2) (hg : w.grownBy w' (a.map (·.block))) (hne : ∀ p, a = some p → p.block ≠ b) : Box3 w' b v0 v1 v2 := by
  obtain ⟨hl, h0, h1, h2⟩ := h
  exact ⟨Nat.lt_of_lt_of_le hl hg.size, hg.cell h0 (box_ne hne), hg.cell h1 (box_ne hne), hg.cell h2 (box_ne hne)⟩

/-- block b of the world holds these 5 cells -/
def Box5 (w : World) (b : Nat) (v0 v1 v2 v3 v4 : Value) : Prop := b < w.heap.size ∧ w.cell? ⟨b, 0, none⟩ = some v0 ∧ w.cell? ⟨b, 1, none⟩ = some v1 ∧ w.cell? ⟨b, 2, none⟩ = some v2 ∧ w.cell? ⟨b, 3, none⟩ = some v3 ∧ w.cell? ⟨b, 4, none⟩ = some v4
theorem Box5.new (w : World) (t : TypeId) (v0 v1 v2 v3 v4 : Value) : Box5 (w.alloc (.cells #[v0, v1, v2, v3, v4] t)) w.heap.size v0 v1 v2 v3 v4 := ⟨by simp, by simp, by simp, by simp, by simp, by simp⟩
theorem Box5.below {w w' : World} {b K : Nat} {v0 v1 v2 v3 v4 : Value} (h : Box5 w b v0 v1 v2 v3 v4) (hb : Below K w w') (hK : w.heap.size ≤ K) : Box5 w' b v0 v1 v2 v3 v4 := by
  obtain ⟨hl, h0, h1, h2, h3, h4⟩ := h
  exact ⟨Nat.lt_of_lt_of_le hl hb.size, (hb.cell (p := ⟨b, 0, none⟩) (by show b < K; omega)).trans h0, (hb.cell (p := ⟨b, 1, none⟩) (by show b < K; omega)).trans h1, (hb.cell (p := ⟨b, 2, none⟩) (by show b < K; omega)).trans h2, (hb.cell (p := ⟨b, 3, none⟩) (by show b < K; omega)).trans h3, (hb.cell (p := ⟨b, 4, none⟩) (by show b < K; omega)).trans h4⟩
theorem Box5.drew {w : World} {b : Nat} {v0 v1 v2 v3 v4 : Value} (h : Box5 w b v0 v1 v2 v3 v4) : Box5 w.drew b v0 v1 v2 v3 v4 := h
theorem Box5.grown {w w' : World} {b : Nat} {v0 v1 v2 v3 v4 : Value} {a : Option Addr} (h : Box5 w b v0 v1 v2 v3 v4) (hg : w.grownBy w' (a.map (·.block))) (hne : ∀ p, a = some p → p.block ≠ b) : Box5 w' b v0 v1 v2 v3 v4 := by
  obtain ⟨hl, h0, h1, h2, h3, h4⟩ := h
  exact ⟨Nat.lt_of_lt_of_le hl hg.size, hg.cell h0 (box_ne hne), hg.cell h1 (box_ne hne), hg.cell h2 (box_ne hne), hg.cell h3 (box_ne hne), hg.cell h4 (box_ne hne)⟩

section
variable {H : Type} {enc : TypeId × Value → H} {P : Program} {w : World} {base : Nat} {spare : Nat → Bool} {held : Bool}
theorem cell_int {t : TypeId} {fuel : Nat} {v : Value} {y : DataW H × List MemPlace} (ht : P.underlying t = some (.int .i64)) (h : DataW.trod enc P w base spare held fuel t [v] = some y) :
    ∃ x : Int, (-9223372036854775808 ≤ x ∧ x ≤ 9223372036854775807) ∧ v = .int .i64 x := by
  obtain ⟨x, e, _, hw⟩ := DataW.trod_int ht h
  simp at e
  exact ⟨x, wf_i64 hw, e⟩
theorem cell_bool {t : TypeId} {fuel : Nat} {v : Value} {y : DataW H × List MemPlace} (ht : P.underlying t = some .bool) (h : DataW.trod enc P w base spare held fuel t [v] = some y) :
    ∃ x : Bool, v = .bool x := by
  obtain ⟨x, e, _⟩ := DataW.trod_bool ht h
  simp at e
  exact ⟨x, e⟩
theorem cell_ints {t e : TypeId} {fuel : Nat} {v : Value} {y : DataW H × List MemPlace} (ht : P.underlying t = some (.slice e)) (he : P.underlying e = some (.int .i64)) (hC : P.cellsOf e = 1) (h : DataW.trod enc P w base (fun _ => true) held fuel t [v] = some y) :
    ∃ (a : Option Addr) (c : Nat) (l : List Int), Row w a l ∧ (∀ x ∈ l, -9223372036854775808 ≤ x ∧ x ≤ 9223372036854775807) ∧ l.length ≤ 9223372036854775807 ∧ v = .slice a l.length c := by
  rcases open_ints ht he hC h with ⟨hcs, _⟩ | ⟨x, l, c, zs, hcs, _, hl, hm, hz, _, hcell, hwz⟩
  · simp at hcs
    exact ⟨none, 0, [], .inl rfl, by simp, by simp, hcs⟩
  · simp at hcs
    obtain ⟨l', h1, h2, h3⟩ := Row.of_cells hl (by simpa using hz) hcell (fun n hn => wf_i64 (hwz n hn))
    exact ⟨some x, c, l', h2, h3, by unfold maxLen at hm; omega, by rw [h1]; exact hcs⟩
theorem open_agg_five {r : Reach} {b0 : Nat} {t : TypeId} {f0 f1 f2 f3 f4 : Field} {v : Value} {d : DataW H} {p : List MemPlace} (hs : P.underlying t = some (.struct #[f0, f1, f2, f3, f4])) (hone : oneCellFields P #[f0, f1, f2, f3, f4] = true) (hC : P.cellsOf t = 5)
    (hv : Value.okWide P w r b0 t v) (h : DataW.Trod enc P w base spare held t v d p) :
    ∃ (v0 v1 v2 v3 v4 : Value) (y0 y1 y2 y3 y4 : DataW H × List MemPlace) (n : Nat), v = .agg #[v0, v1, v2, v3, v4] ∧ d = .agg [y0.1, y1.1, y2.1, y3.1, y4.1] ∧ p = y0.2 ++ (y1.2 ++ (y2.2 ++ (y3.2 ++ y4.2))) ∧
      DataW.trod enc P w base spare held n f0.type [v0] = some y0 ∧ DataW.trod enc P w base spare held n f1.type [v1] = some y1 ∧ DataW.trod enc P w base spare held n f2.type [v2] = some y2 ∧ DataW.trod enc P w base spare held n f3.type [v3] = some y3 ∧ DataW.trod enc P w base spare held n f4.type [v4] = some y4 := by
  obtain ⟨cs, rfl, hsz⟩ := okWide_struct hs hv
  obtain ⟨l⟩ := cs
  match l, hsz.trans hC with
  | [c0, c1, c2, c3, c4], _ =>
    obtain ⟨fuel, hf⟩ := h
    obtain ⟨xs, n, _, hx, _, hlen, hg⟩ := DataW.trod_struct hs hf
    have one : ∀ i f, #[f0, f1, f2, f3, f4][i]? = some f → _ := fun i f hi => hone_of hone i f hi
    obtain ⟨o0, k0⟩ := one 0 f0 rfl
    obtain ⟨o1, k1⟩ := one 1 f1 rfl
    obtain ⟨o2, k2⟩ := one 2 f2 rfl
    obtain ⟨o3, k3⟩ := one 3 f3 rfl
    obtain ⟨o4, k4⟩ := one 4 f4 rfl
    match xs, hlen with
    | [y0, y1, y2, y3, y4], _ =>
      simp only [Prod.mk.injEq] at hx
      refine ⟨c0, c1, c2, c3, c4, y0, y1, y2, y3, y4, n, rfl, by simpa using hx.1, by simpa using hx.2, ?_, ?_, ?_, ?_, ?_⟩
      · simpa [Value.cells, o0, k0] using hg 0 f0 rfl
      · simpa [Value.cells, o1, k1] using hg 1 f1 rfl
      · simpa [Value.cells, o2, k2] using hg 2 f2 rfl
      · simpa [Value.cells, o3, k3] using hg 3 f3 rfl
      · simpa [Value.cells, o4, k4] using hg 4 f4 rfl
end
end Go.Proofs.Ytkfjbnhihjnhnaa
