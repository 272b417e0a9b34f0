/- Plain laws on appending one number: where the longer row lies; three rows of a call's own side by side. -/
import Derived.Test.YtchabkkpdafkiaaMem
namespace Go.Proofs.Ytchabkkpdafkiaa
open Go.RowKit
set_option linter.unusedVariables false

theorem append_one_at {P : Program} (hP : P.underlying 22 = some (.slice 3)) (hI : (P.info? 3).map (fun i => (i.zero, i.size, i.bytes)) = some (some (.int .i64 0), 1, 8)) {w : World} {ops : Array Oper} {rest : List Oper} {o : Oper} {a : Act} {Q : Exit → Act → World → Prop} (hgd : o.guard = none) (s x : Operand)
    (ho : o.op = .call { callee := .builtin .append, args := #[s, x], argTypes := #[22, 22] })
    (B g c n : Nat) (l : List Int) (hn : l.length = n) (hs : a.eval s = .slice (some ⟨g, 0, none⟩) n c) (hown : Own B w (some ⟨g, 0, none⟩) c l)
    (gx : Nat) (y : Int) (hx : a.eval x = .slice (some ⟨gx, 0, none⟩) 1 1) (hc : w.cell? ⟨gx, 0, none⟩ = some (.int .i64 y)) (hlen : n ≤ 1099511627776) (hB : B ≤ w.heap.size)
    (h : ∀ g' c' w', Own B w' (some ⟨g', 0, none⟩) c' (l ++ [y]) → w.grownBy w' (some g) → (g' = g ∨ g' = w.heap.size) → wpList P ops Q rest (a.put o.dst (.slice (some ⟨g', 0, none⟩) (n + 1) c')) w') : wpList P ops Q (o :: rest) a w := by
  obtain ⟨i0, hi, hz0, hz1, hz2⟩ := info_parts hI
  subst hn
  refine wpList_append_lies w hgd s x 22 ho B 3 i0 (.int .i64 0) 1 8 hP hi hz0 hz1 hz2 rfl (by decide) _ _ _ hs hown ⟨gx, 0, none⟩ 1 1 [.int .i64 y] hx rfl ?_ ?_ (by omega) ?_ ?_ hB _ rfl ?_
  · intro j u hj
    match j, hj with
    | 0, hj => simp at hj; subst hj; simpa [Addr.add] using hc
  · intro u hu; simp at hu; subst hu; rfl
  · unfold maxLen; omega
  · omega
  · intro g' c' w' hown' hgrow hat _
    refine h g' c' w' ?_ hgrow ?_
    · unfold Own
      rw [List.length_append, List.map_append]
      exact hown'
    · rcases hat with hat | hat
      · left; simp [Value.ownBlock] at hat; exact hat.symm
      · exact .inr hat
theorem step_append_one_at {P : Program} (hP : P.underlying 22 = some (.slice 3)) (hI : (P.info? 3).map (fun i => (i.zero, i.size, i.bytes)) = some (some (.int .i64 0), 1, 8)) {w : World} {ops : Array Oper} {o : Oper} {a : Act} {K : Act → World → Prop} {Q : Exit → Act → World → Prop} {E : Prop} (hgd : o.guard = none) (s x : Operand)
    (ho : o.op = .call { callee := .builtin .append, args := #[s, x], argTypes := #[22, 22] })
    (B g c n : Nat) (l : List Int) (hn : l.length = n) (hs : a.eval s = .slice (some ⟨g, 0, none⟩) n c) (hown : Own B w (some ⟨g, 0, none⟩) c l)
    (gx : Nat) (y : Int) (hx : a.eval x = .slice (some ⟨gx, 0, none⟩) 1 1) (hc : w.cell? ⟨gx, 0, none⟩ = some (.int .i64 y)) (hlen : n ≤ 1099511627776) (hB : B ≤ w.heap.size)
    (h : ∀ g' c' w', Own B w' (some ⟨g', 0, none⟩) c' (l ++ [y]) → w.grownBy w' (some g) → (g' = g ∨ g' = w.heap.size) → K (a.put o.dst (.slice (some ⟨g', 0, none⟩) (n + 1) c')) w') : if Region.wanted o (yielded ops a.tmps) = true then Oper.wp P o a w K Q else E := by
  obtain ⟨i0, hi, hz0, hz1, hz2⟩ := info_parts hI
  subst hn
  refine step_append_lies w hgd s x 22 ho B 3 i0 (.int .i64 0) 1 8 hP hi hz0 hz1 hz2 rfl (by decide) _ _ _ hs hown ⟨gx, 0, none⟩ 1 1 [.int .i64 y] hx rfl ?_ ?_ (by omega) ?_ ?_ hB _ rfl ?_
  · intro j u hj
    match j, hj with
    | 0, hj => simp at hj; subst hj; simpa [Addr.add] using hc
  · intro u hu; simp at hu; subst hu; rfl
  · unfold maxLen; omega
  · omega
  · intro g' c' w' hown' hgrow hat _
    refine h g' c' w' ?_ hgrow ?_
    · unfold Own
      rw [List.length_append, List.map_append]
      exact hown'
    · rcases hat with hat | hat
      · left; simp [Value.ownBlock] at hat; exact hat.symm
      · exact .inr hat
/-- three rows of the call's own, apart from each other -/
def Tri (W : World) (ga ca : Nat) (A : List Int) (gb cb : Nat) (B : List Int) (gc cc : Nat) (C : List Int) (w : World) : Prop :=
  (ga ≠ gb ∧ ga ≠ gc ∧ gb ≠ gc) ∧ Own W.heap.size w (some ⟨ga, 0, none⟩) ca A ∧ Own W.heap.size w (some ⟨gb, 0, none⟩) cb B ∧ Own W.heap.size w (some ⟨gc, 0, none⟩) cc C ∧ Below W.heap.size W w
theorem below_grown1 {W w w1 : World} {g : Nat} (h : Below W.heap.size W w) (hg : w.grownBy w1 (some g)) (hgW : W.heap.size ≤ g) : Below W.heap.size W w1 := h.grown hg h.size (fun k hk => by injection hk with hk; omega)
theorem Tri.start (w : World) : Tri w w.heap.size 0 [] (w.heap.size + 1) 0 [] (w.heap.size + 1 + 1) 0 [] (((w.alloc (.cells #[] 3)).alloc (.cells #[] 3)).alloc (.cells #[] 3)) := by
  have h1 : Own w.heap.size (w.alloc (.cells #[] 3)) (some ⟨w.heap.size, 0, none⟩) 0 [] := Own.lit w #[] [] rfl (Nat.le_refl _) (by simp [maxLen])
  have h2 := Own.lit (B := w.heap.size) (w.alloc (.cells #[] 3)) #[] [] rfl (by simp) (by simp [maxLen])
  have h3 := Own.lit (B := w.heap.size) ((w.alloc (.cells #[] 3)).alloc (.cells #[] 3)) #[] [] rfl (by simp; omega) (by simp [maxLen])
  rw [show (w.alloc (.cells #[] 3)).heap.size = w.heap.size + 1 from by simp] at h2
  rw [show ((w.alloc (.cells #[] 3)).alloc (.cells #[] 3)).heap.size = w.heap.size + 1 + 1 from by simp] at h3
  exact ⟨⟨by omega, by omega, by omega⟩, (h1.alloc _).alloc _, h2.alloc _, h3, (((Below.refl w.heap.size w).alloc (Nat.le_refl _) _).alloc (by simp) _).alloc (by simp; omega) _⟩
theorem Tri.alloc {W w : World} {ga ca gb cb gc cc : Nat} {A B C : List Int} (h : Tri W ga ca A gb cb B gc cc C w) (o : Obj) : Tri W ga ca A gb cb B gc cc C (w.alloc o) := ⟨h.1, h.2.1.alloc o, h.2.2.1.alloc o, h.2.2.2.1.alloc o, h.2.2.2.2.alloc h.2.2.2.2.size o⟩
theorem Tri.drew {W w : World} {ga ca gb cb gc cc : Nat} {A B C : List Int} (h : Tri W ga ca A gb cb B gc cc C w) : Tri W ga ca A gb cb B gc cc C w.drew := ⟨h.1, h.2.1.drew, h.2.2.1.drew, h.2.2.2.1.drew, h.2.2.2.2.drew⟩
theorem Tri.app1 {W w w1 : World} {ga ca gb cb gc cc : Nat} {A A' B C : List Int} {g' c' : Nat} (h : Tri W ga ca A gb cb B gc cc C w) (ho : Own W.heap.size w1 (some ⟨g', 0, none⟩) c' A') (hg : w.grownBy w1 (some ga)) (hat : g' = ga ∨ g' = w.heap.size) : Tri W g' c' A' gb cb B gc cc C w1 := by
  obtain ⟨⟨n1, n2, n3⟩, oa, ob, oc, hb⟩ := h
  have lb := (ob.lt _ rfl).2
  have lc := (oc.lt _ rfl).2
  have la := (oa.lt _ rfl).1
  refine ⟨⟨?_, ?_, n3⟩, ho, ob.grown hg (fun p q hp hq => by cases hp; cases hq; exact fun e => n1 e.symm), oc.grown hg (fun p q hp hq => by cases hp; cases hq; exact fun e => n2 e.symm), below_grown1 hb hg la⟩
  · rcases hat with rfl | rfl
    · exact n1
    · exact Nat.ne_of_gt lb
  · rcases hat with rfl | rfl
    · exact n2
    · exact Nat.ne_of_gt lc
theorem Tri.app2 {W w w1 : World} {ga ca gb cb gc cc : Nat} {A B' B C : List Int} {g' c' : Nat} (h : Tri W ga ca A gb cb B gc cc C w) (ho : Own W.heap.size w1 (some ⟨g', 0, none⟩) c' B') (hg : w.grownBy w1 (some gb)) (hat : g' = gb ∨ g' = w.heap.size) : Tri W ga ca A g' c' B' gc cc C w1 := by
  obtain ⟨⟨n1, n2, n3⟩, oa, ob, oc, hb⟩ := h
  have la := (oa.lt _ rfl).2
  have lc := (oc.lt _ rfl).2
  have lb := (ob.lt _ rfl).1
  refine ⟨⟨?_, n2, ?_⟩, oa.grown hg (fun p q hp hq => by cases hp; cases hq; exact fun e => n1 e), ho, oc.grown hg (fun p q hp hq => by cases hp; cases hq; exact fun e => n3 e.symm), below_grown1 hb hg lb⟩
  · rcases hat with rfl | rfl
    · exact n1
    · exact Nat.ne_of_lt la
  · rcases hat with rfl | rfl
    · exact n3
    · exact Nat.ne_of_gt lc
theorem Tri.app3 {W w w1 : World} {ga ca gb cb gc cc : Nat} {A B C C' : List Int} {g' c' : Nat} (h : Tri W ga ca A gb cb B gc cc C w) (ho : Own W.heap.size w1 (some ⟨g', 0, none⟩) c' C') (hg : w.grownBy w1 (some gc)) (hat : g' = gc ∨ g' = w.heap.size) : Tri W ga ca A gb cb B g' c' C' w1 := by
  obtain ⟨⟨n1, n2, n3⟩, oa, ob, oc, hb⟩ := h
  have la := (oa.lt _ rfl).2
  have lb := (ob.lt _ rfl).2
  have lc := (oc.lt _ rfl).1
  refine ⟨⟨n1, ?_, ?_⟩, oa.grown hg (fun p q hp hq => by cases hp; cases hq; exact fun e => n2 e), ob.grown hg (fun p q hp hq => by cases hp; cases hq; exact fun e => n3 e), ho, below_grown1 hb hg lc⟩
  · rcases hat with rfl | rfl
    · exact n2
    · exact Nat.ne_of_lt la
  · rcases hat with rfl | rfl
    · exact n3
    · exact Nat.ne_of_lt lb
end Go.Proofs.Ytchabkkpdafkiaa
