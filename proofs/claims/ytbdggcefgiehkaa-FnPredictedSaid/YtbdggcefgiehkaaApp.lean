/- Plain laws on append: where the longer row lies. -/
import Derived.Test.YtbdggcefgiehkaaMem
namespace Go.Proofs.Ytbdggcefgiehkaa
open Go.RowKit
set_option linter.unusedVariables false

theorem append_many_at {P : Program} (hP : P.underlying 25 = some (.slice 3)) (hI : (P.info? 3).map (fun i => (i.zero, i.size, i.bytes)) = some (some (.int .i64 0), 1, 8)) {w : World} {ops : Array Oper} {rest : List Oper} {o : Oper} {a : Act} {Q : Exit → Act → World → Prop} (hgd : o.guard = none) (s x : Operand)
    (ho : o.op = .call { callee := .builtin .append, args := #[s, x], argTypes := #[25, 25] })
    (B g c n : Nat) (l : List Int) (hn : l.length = n) (hs : a.eval s = .slice (some ⟨g, 0, none⟩) n c) (hown : Own B w (some ⟨g, 0, none⟩) c l)
    (p2 : Addr) (m c2 : Nat) (l2 : List Int) (hm : l2.length = m) (hm0 : 0 < m) (hx : a.eval x = .slice (some p2) m c2) (hr : Row w (some p2) l2) (hlen : n + m ≤ 1099511627776) (hB : B ≤ w.heap.size)
    (h : ∀ g' c' w', Own B w' (some ⟨g', 0, none⟩) c' (l ++ l2) → w.grownBy w' (some g) → (g' = g ∨ g' = w.heap.size) → wpList P ops Q rest (a.put o.dst (.slice (some ⟨g', 0, none⟩) (n + m) c')) w') : wpList P ops Q (o :: rest) a w := by
  obtain ⟨i0, hi, hz0, hz1, hz2⟩ := info_parts hI
  subst hn
  subst hm
  refine wpList_append_lies w hgd s x 25 ho B 3 i0 (.int .i64 0) 1 8 hP hi hz0 hz1 hz2 rfl (by decide) _ _ _ hs hown p2 l2.length c2 (l2.map (Value.int .i64)) hx (by simp) ?_ ?_ hm0 ?_ ?_ hB _ rfl ?_
  · intro j u hj
    have hjl : j < l2.length := by have := (List.getElem?_eq_some_iff.1 hj).1; simpa using this
    obtain ⟨b, off, hb, hc⟩ := hr.all (by omega)
    injection hb with hb
    subst hb
    rw [Addr.add_lit, hc j hjl]
    rw [← hj]; simp [List.getD, hjl]
  · intro u hu; simp at hu; obtain ⟨y, _, rfl⟩ := hu; rfl
  · unfold maxLen; omega
  · omega
  · intro g' c' w' hown' hgrow hat _
    refine h g' c' w' ?_ hgrow ?_
    · unfold Own
      rw [List.length_append, List.map_append]
      exact hown'
    · rcases hat with hat | hat
      · left; simp [Value.ownBlock] at hat; exact hat.symm
      · exact .inr hat
end Go.Proofs.Ytbdggcefgiehkaa
