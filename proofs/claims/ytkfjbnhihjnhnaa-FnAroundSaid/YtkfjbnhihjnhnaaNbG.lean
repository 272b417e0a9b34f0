/- Appending one number to a row that may be empty; a box of five cells whose two rows grow. -/
import Derived.Test.YtkfjbnhihjnhnaaMem
import Derived.Test.YtkfjbnhihjnhnaaFrm
import Derived.Test.YtkfjbnhihjnhnaaNb
namespace Go.Proofs.Ytkfjbnhihjnhnaa
open Go.RowKit
set_option linter.unusedVariables false

theorem ownBlock_map (ad : Option Addr) (n c : Nat) : (Value.slice ad n c).ownBlock = ad.map (·.block) := by cases ad <;> rfl
theorem append_one_l {P : Program} (hP : P.underlying 24 = some (.slice 3)) (hI : (P.info? 3).map (fun i => (i.zero, i.size, i.bytes)) = some (some (.int .i64 0), 1, 8)) {w : World} {ops : Array Oper} {rest : List Oper} {o : Oper} {a : Act} {Q : Exit → Act → World → Prop} (hgd : o.guard = none) (s x : Operand)
    (ho : o.op = .call { callee := .builtin .append, args := #[s, x], argTypes := #[24, 24] })
    (B : Nat) (ad : Option Addr) (c n : Nat) (l : List Int) (hn : l.length = n) (hs : a.eval s = .slice ad n c) (hown : Own B w ad c l)
    (gx : Nat) (y : Int) (hx : a.eval x = .slice (some ⟨gx, 0, none⟩) 1 1) (hc : w.cell? ⟨gx, 0, none⟩ = some (.int .i64 y)) (hlen : n ≤ 1099511627776) (hB : B ≤ w.heap.size)
    (h : ∀ g' c' w', Own B w' (some ⟨g', 0, none⟩) c' (l ++ [y]) → w.grownBy w' (ad.map (·.block)) → (ad.map (·.block) = some g' ∨ g' = w.heap.size) → wpList P ops Q rest (a.put o.dst (.slice (some ⟨g', 0, none⟩) (n + 1) c')) w') : wpList P ops Q (o :: rest) a w := by
  obtain ⟨i0, hi, hz0, hz1, hz2⟩ := info_parts hI
  subst hn
  refine wpList_append_lies w hgd s x 24 ho B 3 i0 (.int .i64 0) 1 8 hP hi hz0 hz1 hz2 rfl (by decide) _ _ _ hs hown ⟨gx, 0, none⟩ 1 1 [.int .i64 y] hx rfl ?_ ?_ (by omega) ?_ ?_ hB _ rfl ?_
  · intro j u hj
    match j, hj with
    | 0, hj => simp at hj; subst hj; simpa [Addr.add] using hc
  · intro u hu; simp at hu; subst hu; rfl
  · unfold maxLen; omega
  · omega
  · intro g' c' w' hown' hgrow hat _
    rw [ownBlock_map] at hgrow hat
    refine h g' c' w' ?_ hgrow hat
    unfold Own
    rw [List.length_append, List.map_append]
    exact hown'
theorem step_append_one_l {P : Program} (hP : P.underlying 24 = some (.slice 3)) (hI : (P.info? 3).map (fun i => (i.zero, i.size, i.bytes)) = some (some (.int .i64 0), 1, 8)) {w : World} {ops : Array Oper} {o : Oper} {a : Act} {K : Act → World → Prop} {Q : Exit → Act → World → Prop} {E : Prop} (hgd : o.guard = none) (s x : Operand)
    (ho : o.op = .call { callee := .builtin .append, args := #[s, x], argTypes := #[24, 24] })
    (B : Nat) (ad : Option Addr) (c n : Nat) (l : List Int) (hn : l.length = n) (hs : a.eval s = .slice ad n c) (hown : Own B w ad c l)
    (gx : Nat) (y : Int) (hx : a.eval x = .slice (some ⟨gx, 0, none⟩) 1 1) (hc : w.cell? ⟨gx, 0, none⟩ = some (.int .i64 y)) (hlen : n ≤ 1099511627776) (hB : B ≤ w.heap.size)
    (h : ∀ g' c' w', Own B w' (some ⟨g', 0, none⟩) c' (l ++ [y]) → w.grownBy w' (ad.map (·.block)) → (ad.map (·.block) = some g' ∨ g' = w.heap.size) → K (a.put o.dst (.slice (some ⟨g', 0, none⟩) (n + 1) c')) w') : if Region.wanted o (yielded ops a.tmps) = true then Oper.wp P o a w K Q else E := by
  obtain ⟨i0, hi, hz0, hz1, hz2⟩ := info_parts hI
  subst hn
  refine step_append_lies w hgd s x 24 ho B 3 i0 (.int .i64 0) 1 8 hP hi hz0 hz1 hz2 rfl (by decide) _ _ _ hs hown ⟨gx, 0, none⟩ 1 1 [.int .i64 y] hx rfl ?_ ?_ (by omega) ?_ ?_ hB _ rfl ?_
  · intro j u hj
    match j, hj with
    | 0, hj => simp at hj; subst hj; simpa [Addr.add] using hc
  · intro u hu; simp at hu; subst hu; rfl
  · unfold maxLen; omega
  · omega
  · intro g' c' w' hown' hgrow hat _
    rw [ownBlock_map] at hgrow hat
    refine h g' c' w' ?_ hgrow hat
    unfold Own
    rw [List.length_append, List.map_append]
    exact hown'
/-- the box at block k, with its two rows beyond it, apart from each other -/
def NbR (W : World) (k : Nat) (xa : Option Addr) (p : Nat) (A : List Int) (ya : Option Addr) (q : Nat) (M : List Int) (C : Int) (T H : Bool) (w : World) : Prop :=
  Box5 w k (.slice xa A.length p) (.slice ya M.length q) (.int .i64 C) (.bool T) (.bool H) ∧ (∀ i, w.frozen? ⟨k, i, none⟩ = false) ∧ Own (k + 1) w xa p A ∧ Own (k + 1) w ya q M ∧ (∀ r s, xa = some r → ya = some s → r.block ≠ s.block) ∧ Below W.heap.size W w ∧ W.heap.size ≤ k
theorem NbR.new (W w : World) (t : TypeId) (C : Int) (T H : Bool) (hb : Below W.heap.size W w) : NbR W w.heap.size none 0 [] none 0 [] C T H (w.alloc (.cells #[.slice none 0 0, .slice none 0 0, .int .i64 C, .bool T, .bool H] t)) := by
  refine ⟨Box5.new _ _ _ _ _ _ _, fun i => by simp [go_sem], Own.none_ _ _, Own.none_ _ _, ?_, hb.alloc hb.size _, hb.size⟩
  intro r s hr hs
  cases hr
section
variable {W w : World} {k : Nat} {xa : Option Addr} {p : Nat} {A : List Int} {ya : Option Addr} {q : Nat} {M : List Int} {C : Int} {T H : Bool}
theorem NbR.below {w' : World} (h : NbR W k xa p A ya q M C T H w) (hb : Below w.heap.size w w') : NbR W k xa p A ya q M C T H w' := by
  obtain ⟨h1, h2, h3, h4, h5, h6, h7⟩ := h
  exact ⟨h1.below hb (Nat.le_refl _), fun i => (hb.frozen (p := ⟨k, i, none⟩) h1.1).trans (h2 i), h3.below hb (Nat.le_refl _), h4.below hb (Nat.le_refl _), h5, h6.trans (hb.mono h6.size), h7⟩
theorem NbR.alloc (h : NbR W k xa p A ya q M C T H w) (o : Obj) : NbR W k xa p A ya q M C T H (w.alloc o) := h.below ((Below.refl _ _).alloc (Nat.le_refl _) _)
theorem NbR.drew (h : NbR W k xa p A ya q M C T H w) : NbR W k xa p A ya q M C T H w.drew := h.below (Below.refl _ _).drew
theorem NbR.cells (h : NbR W k xa p A ya q M C T H w) : w.cell? ⟨k, 0, none⟩ = some (.slice xa A.length p) ∧ w.cell? ⟨k, 1, none⟩ = some (.slice ya M.length q) ∧ w.cell? ⟨k, 2, none⟩ = some (.int .i64 C) ∧ w.cell? ⟨k, 3, none⟩ = some (.bool T) ∧ w.cell? ⟨k, 4, none⟩ = some (.bool H) := h.1.2
theorem NbR.frz (h : NbR W k xa p A ya q M C T H w) (i : Nat) : w.frozen? ⟨k, i, none⟩ = false := h.2.1 i
theorem NbR.top_ (h : NbR W k xa p A ya q M C T H w) : Own (k + 1) w xa p A := h.2.2.1
theorem NbR.left_ (h : NbR W k xa p A ya q M C T H w) : Own (k + 1) w ya q M := h.2.2.2.1
theorem NbR.lt (h : NbR W k xa p A ya q M C T H w) : k < w.heap.size := h.1.1
theorem NbR.le (h : NbR W k xa p A ya q M C T H w) : k + 1 ≤ w.heap.size := h.1.1
theorem NbR.bel (h : NbR W k xa p A ya q M C T H w) : Below W.heap.size W w := h.2.2.2.2.2.1
theorem frozen_grown {w1 : World} {b : Option Nat} {k : Nat} (hg : w.grownBy w1 b) (hk : k < w.heap.size) (hb : b ≠ some k) (h : ∀ i, w.frozen? ⟨k, i, none⟩ = false) : ∀ i, w1.frozen? ⟨k, i, none⟩ = false := fun i => by
  rw [World.frozen?_of_block (a := ⟨k, i, none⟩) (hg.block _ hk (fun e => hb e.symm))]
  exact h i
/-- after one of its rows has grown: the box still stands -/
theorem NbR.mid {w1 : World} (h : NbR W k xa p A ya q M C T H w) {ad : Option Addr} (hg : w.grownBy w1 (ad.map (·.block))) (had : ad = xa ∨ ad = ya) :
    Box5 w1 k (.slice xa A.length p) (.slice ya M.length q) (.int .i64 C) (.bool T) (.bool H) ∧ (∀ i, w1.frozen? ⟨k, i, none⟩ = false) := by
  have hne : ∀ r, ad = some r → r.block ≠ k := by
    intro r hr
    rcases had with rfl | rfl
    · have := (h.top_.lt r hr).1; omega
    · have := (h.left_.lt r hr).1; omega
  refine ⟨h.1.grown hg hne, frozen_grown hg h.lt ?_ h.2.1⟩
  cases ad with
  | none => simp
  | some r => have := hne r rfl; simp; exact this
theorem NbR.top {w1 : World} {g c : Nat} {y : Int} (h : NbR W k xa p A ya q M C T H w) (ho : Own (k + 1) w1 (some ⟨g, 0, none⟩) c (A ++ [y])) (hg : w.grownBy w1 (xa.map (·.block))) (hat : xa.map (·.block) = some g ∨ g = w.heap.size) :
    NbR W k (some ⟨g, 0, none⟩) c (A ++ [y]) ya q M C T H (w1.setCell ⟨k, 0, none⟩ (.slice (some ⟨g, 0, none⟩) (A.length + 1) c)) := by
  obtain ⟨hB, hF⟩ := h.mid hg (.inl rfl)
  obtain ⟨h1, h2, h3, h4, h5, h6, h7⟩ := h
  have e : (A ++ [y]).length = A.length + 1 := by simp
  have ho2 : Own (k + 1) w1 ya q M := h4.grown hg (fun r s hr hs => by
    cases xa with
    | none => simp at hs
    | some t => simp at hs; subst hs; exact fun e => h5 t r rfl hr e.symm)
  refine ⟨by rw [e]; exact hB.s0 _, fun i => by simp [hF i], ?_, ?_, ?_, ?_, h7⟩
  · exact ownsRow_setCell_below ho (Nat.lt_succ_self k) _
  · exact ownsRow_setCell_below ho2 (Nat.lt_succ_self k) _
  · intro r s hr hs
    cases hr
    rcases hat with hat | rfl
    · cases xa with
      | none => simp at hat
      | some t => simp at hat; subst hat; exact h5 t s rfl hs
    · exact Nat.ne_of_gt (h4.lt s hs).2
  · exact (h6.grown hg h6.size (fun b hb => by
      cases xa with
      | none => simp at hb
      | some t => simp at hb; subst hb; have := (h3.lt t rfl).1; omega)).setCell (p := ⟨k, 0, none⟩) h7 _
theorem NbR.left {w1 : World} {g c : Nat} {y : Int} (h : NbR W k xa p A ya q M C T H w) (ho : Own (k + 1) w1 (some ⟨g, 0, none⟩) c (M ++ [y])) (hg : w.grownBy w1 (ya.map (·.block))) (hat : ya.map (·.block) = some g ∨ g = w.heap.size) :
    NbR W k xa p A (some ⟨g, 0, none⟩) c (M ++ [y]) C T H (w1.setCell ⟨k, 1, none⟩ (.slice (some ⟨g, 0, none⟩) (M.length + 1) c)) := by
  obtain ⟨hB, hF⟩ := h.mid hg (.inr rfl)
  obtain ⟨h1, h2, h3, h4, h5, h6, h7⟩ := h
  have e : (M ++ [y]).length = M.length + 1 := by simp
  have ho2 : Own (k + 1) w1 xa p A := h3.grown hg (fun r s hr hs => by
    cases ya with
    | none => simp at hs
    | some t => simp at hs; subst hs; exact h5 r t hr rfl)
  refine ⟨by rw [e]; exact hB.s1 _, fun i => by simp [hF i], ?_, ?_, ?_, ?_, h7⟩
  · exact ownsRow_setCell_below ho2 (Nat.lt_succ_self k) _
  · exact ownsRow_setCell_below ho (Nat.lt_succ_self k) _
  · intro r s hr hs
    cases hs
    rcases hat with hat | rfl
    · cases ya with
      | none => simp at hat
      | some t => simp at hat; subst hat; exact h5 r t hr rfl
    · exact Nat.ne_of_lt (h3.lt r hr).2
  · exact (h6.grown hg h6.size (fun b hb => by
      cases ya with
      | none => simp at hb
      | some t => simp at hb; subst hb; have := (h4.lt t rfl).1; omega)).setCell (p := ⟨k, 1, none⟩) h7 _
/-- the corner written -/
theorem NbR.cor (h : NbR W k xa p A ya q M C T H w) (y : Int) : NbR W k xa p A ya q M y T H (w.setCell ⟨k, 2, none⟩ (.int .i64 y)) := by
  obtain ⟨h1, h2, h3, h4, h5, h6, h7⟩ := h
  exact ⟨h1.s2 _, fun i => by simp [h2 i], ownsRow_setCell_below h3 (Nat.lt_succ_self k) _, ownsRow_setCell_below h4 (Nat.lt_succ_self k) _, h5, h6.setCell (p := ⟨k, 2, none⟩) h7 _, h7⟩
end
end Go.Proofs.Ytkfjbnhihjnhnaa
