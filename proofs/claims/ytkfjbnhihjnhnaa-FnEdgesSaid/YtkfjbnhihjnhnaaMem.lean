/- Plain lemmas on memory: a slice of integers that reads as a list, and a slice of integers that the call itself made. No function of the program is named here. -/
import Derived.Test.YtkfjbnhihjnhnaaBase
import Derived.WalkKit
import Derived.ProofKit
import Derived.Lib.Hide
import Derived.Deep.QuietTactic
import Derived.Deep.Draws
import Derived.BigQuiet
import Derived.WalkSmall
import Derived.Deep.RegionHeld3
import Derived.Deep.AppendLies
namespace Go.Proofs.Ytkfjbnhihjnhnaa
open Go.RowKit
set_option linter.unusedVariables false

theorem Try.infoInt : (Try.prog.info? 3).map (fun i => (i.zero, i.size, i.bytes)) = some (some (.int .i64 0), 1, 8) := by kernel_rfl

theorem quiet_eq {P : Program} {f : FuncId} {args : Array Value} {w : World} {n : Nat} {v : Value}
    (h : Calls P f args (w.drewN n) fun e w' => e = .returned v ∧ w.drewN n = w') : Calls P f args (w.drewN n) fun e w'' => e = .returned v ∧ ∃ m, w'' = w.drewN m :=
  h.mono fun _ _ ⟨he, hm⟩ => ⟨he, n, hm.symm⟩

/-- The slice at address a reads as the integers l. -/
def Row (w : World) (a : Option Addr) (l : List Int) : Prop :=
  l = [] ∨ ∃ b off, a = some ⟨b, off, none⟩ ∧ ∀ i, i < l.length → w.cell? ⟨b, off + i, none⟩ = some (.int .i64 (l.getD i 0))

theorem Row.nil (w : World) (a : Option Addr) : Row w a [] := .inl rfl
theorem Row.at_ {w : World} {a : Option Addr} {l : List Int} (h : Row w a l) {i : Nat} (hi : i < l.length) :
    ∃ b off, a = some ⟨b, off, none⟩ ∧ w.cell? ⟨b, off + i, none⟩ = some (.int .i64 (l.getD i 0)) := by
  rcases h with rfl | ⟨b, off, rfl, hc⟩
  · simp at hi
  · exact ⟨b, off, rfl, hc i hi⟩
theorem Row.all {w : World} {a : Option Addr} {l : List Int} (h : Row w a l) (hl : 0 < l.length) :
    ∃ b off, a = some ⟨b, off, none⟩ ∧ ∀ i, i < l.length → w.cell? ⟨b, off + i, none⟩ = some (.int .i64 (l.getD i 0)) := by
  rcases h with rfl | h
  · simp at hl
  · exact h
theorem Row.keep {w w' : World} {a : Option Addr} {l : List Int} (h : Row w a l) (hk : ∀ p : Addr, some p.block = a.map (·.block) → (∃ v, w.cell? p = some v) → w'.cell? p = w.cell? p) : Row w' a l := by
  rcases h with rfl | ⟨b, off, rfl, hc⟩
  · exact .inl rfl
  · exact .inr ⟨b, off, rfl, fun i hi => (hk ⟨b, off + i, none⟩ rfl ⟨_, hc i hi⟩).trans (hc i hi)⟩
theorem Row.below {B : Nat} {w w' : World} {a : Option Addr} {l : List Int} (h : Row w a l) (hb : Below B w w') (hB : w.heap.size ≤ B) : Row w' a l :=
  h.keep fun p _ ⟨_, hv⟩ => hb.cell (p := p) (Nat.lt_of_lt_of_le (World.block_lt_of_cell? w p hv) hB)
theorem Row.under {B : Nat} {w w' : World} {a : Option Addr} {l : List Int} (h : Row w a l) (hb : Below B w w') (hB : ∀ p, a = some p → p.block < B) : Row w' a l :=
  h.keep fun p hp _ => hb.cell (p := p) (by cases a with | none => simp at hp | some q => simp at hp; rw [hp]; exact hB q rfl)
theorem Row.drewN {w : World} {a : Option Addr} {l : List Int} (h : Row w a l) (n : Nat) : Row (w.drewN n) a l := h
theorem Row.drew {w : World} {a : Option Addr} {l : List Int} (h : Row w a l) : Row w.drew a l := h
theorem Row.alloc {w : World} {a : Option Addr} {l : List Int} (h : Row w a l) (o : Obj) : Row (w.alloc o) a l :=
  h.below ((Below.refl w.heap.size w).alloc (Nat.le_refl _) o) (Nat.le_refl _)
theorem Row.grown {w w' : World} {row : Option Nat} {a : Option Addr} {l : List Int} (h : Row w a l) (hg : w.grownBy w' row) (hne : ∀ p g, a = some p → row = some g → p.block ≠ g) : Row w' a l := by
  refine h.keep fun p hp ⟨v, hv⟩ => ?_
  refine (hg.cell hv ?_).trans hv.symm
  intro e
  cases a with
  | none => simp at hp
  | some q => simp at hp; exact hne q p.block rfl e.symm hp.symm

/-- The slice at address a, with capacity c, holds the integers l and is one of the call's own rows, from block B on. -/
def Own (B : Nat) (w : World) (a : Option Addr) (c : Nat) (l : List Int) : Prop :=
  w.ownsRow B 3 1 (.slice a l.length c) l.length (l.map (Value.int .i64))

theorem Own.form {B : Nat} {w : World} {a : Option Addr} {c : Nat} {l : List Int} (h : Own B w a c l) : (a = none ∧ c = 0 ∧ l = []) ∨ ∃ g, a = some ⟨g, 0, none⟩ ∧ B ≤ g ∧ g < w.heap.size := by
  have h2 := h
  rcases h2.2 with ⟨h', hn⟩ | ⟨g, cap, cur, h', hb, hg, _⟩
  · injection h' with h1 h2 h3
    exact .inl ⟨h1, h3, List.eq_nil_of_length_eq_zero h2⟩
  · injection h' with h1 h2 h3
    exact .inr ⟨g, h1, hb, (Array.getElem?_eq_some_iff.1 hg).1⟩
theorem Own.row {B : Nat} {w : World} {a : Option Addr} {c : Nat} {l : List Int} (h : Own B w a c l) : Row w a l := by
  rcases h.form with ⟨_, _, rfl⟩ | ⟨g, rfl, _, _⟩
  · exact .inl rfl
  · refine .inr ⟨g, 0, rfl, fun i hi => ?_⟩
    rw [Nat.zero_add, World.ownsRow.cellAt h i (by omega)]
    simp [List.getD, hi]
theorem Own.lt {B : Nat} {w : World} {a : Option Addr} {c : Nat} {l : List Int} (h : Own B w a c l) : ∀ p, a = some p → B ≤ p.block ∧ p.block < w.heap.size := by
  intro p hp
  rcases h.form with ⟨rfl, _, _⟩ | ⟨g, rfl, h1, h2⟩
  · cases hp
  · cases hp; exact ⟨h1, h2⟩
theorem Own.at_ {B : Nat} {w : World} {a : Option Addr} {c : Nat} {l : List Int} (h : Own B w a c l) {i : Nat} (hi : i < l.length) :
    ∃ g, a = some ⟨g, 0, none⟩ ∧ B ≤ g ∧ g < w.heap.size ∧ w.cell? ⟨g, i, none⟩ = some (.int .i64 (l.getD i 0)) ∧ w.frozen? ⟨g, i, none⟩ = false ∧
      ∀ x, Own B (w.setCell ⟨g, i, none⟩ (.int .i64 x)) a c (l.set i x) ∧ w.grownBy (w.setCell ⟨g, i, none⟩ (.int .i64 x)) (some g) := by
  rcases h.form with ⟨_, _, rfl⟩ | ⟨g, rfl, h1, h2⟩
  · simp at hi
  · refine ⟨g, rfl, h1, h2, ?_, World.ownsRow.frozenAt h i, fun x => ?_⟩
    · rw [World.ownsRow.cellAt h i (by omega)]; simp [List.getD, hi]
    · have hs := World.ownsRow.stored h i (.int .i64 x)
      refine ⟨?_, hs.2⟩
      unfold Own
      rw [List.length_set, List.map_set]
      exact hs.1
theorem Own.cellAt {B : Nat} {w : World} {g c : Nat} {l : List Int} (h : Own B w (some ⟨g, 0, none⟩) c l) {i : Nat} (hi : i < l.length) : w.cell? ⟨g, i, none⟩ = some (.int .i64 (l.getD i 0)) := by
  rw [World.ownsRow.cellAt h i (by omega)]; simp [List.getD, hi]
theorem Own.frozenAt {B : Nat} {w : World} {g c : Nat} {l : List Int} (h : Own B w (some ⟨g, 0, none⟩) c l) (i : Nat) : w.frozen? ⟨g, i, none⟩ = false := World.ownsRow.frozenAt h i
theorem Own.stored {B : Nat} {w : World} {g c : Nat} {l : List Int} (h : Own B w (some ⟨g, 0, none⟩) c l) (i : Nat) (x : Int) :
    Own B (w.setCell ⟨g, i, none⟩ (.int .i64 x)) (some ⟨g, 0, none⟩) c (l.set i x) := by
  have hs := World.ownsRow.stored h i (.int .i64 x)
  unfold Own
  rw [List.length_set, List.map_set]
  exact hs.1
theorem Own.grown {B : Nat} {w w' : World} {row : Option Nat} {a : Option Addr} {c : Nat} {l : List Int} (h : Own B w a c l) (hg : w.grownBy w' row) (hne : ∀ p g, a = some p → row = some g → p.block ≠ g) : Own B w' a c l := by
  refine World.ownsRow.kept h hg ?_
  cases a with
  | none => exact .inl rfl
  | some p => exact .inr fun e => hne p p.block rfl e.symm rfl
theorem Own.under {B K : Nat} {w w' : World} {a : Option Addr} {c : Nat} {l : List Int} (h : Own B w a c l) (hb : Below K w w') (hK : ∀ p, a = some p → p.block < K) : Own B w' a c l := by
  refine ⟨h.1, ?_⟩
  rcases h.2 with hn | ⟨g, cap, cur, he, hgB, hgg, rest⟩
  · exact .inl hn
  · refine .inr ⟨g, cap, cur, he, hgB, ?_, rest⟩
    injection he with he
    rw [hb.block g (hK _ he)]
    exact hgg
theorem Own.below {B K : Nat} {w w' : World} {a : Option Addr} {c : Nat} {l : List Int} (h : Own B w a c l) (hb : Below K w w') (hK : w.heap.size ≤ K) : Own B w' a c l :=
  h.under hb fun p hp => Nat.lt_of_lt_of_le (h.lt p hp).2 hK
theorem Own.drewN {B : Nat} {w : World} {a : Option Addr} {c : Nat} {l : List Int} (h : Own B w a c l) (n : Nat) : Own B (w.drewN n) a c l := h
theorem Own.drew {B : Nat} {w : World} {a : Option Addr} {c : Nat} {l : List Int} (h : Own B w a c l) : Own B w.drew a c l := h
theorem Own.alloc {B : Nat} {w : World} {a : Option Addr} {c : Nat} {l : List Int} (h : Own B w a c l) (o : Obj) : Own B (w.alloc o) a c l := World.ownsRow.alloc h o
theorem Own.mono {B B' : Nat} {w : World} {a : Option Addr} {c : Nat} {l : List Int} (h : Own B w a c l) (hB : B' ≤ B) : Own B' w a c l := by
  refine ⟨h.1, ?_⟩
  rcases h.2 with hn | ⟨g, cap, cur, he, hgB, hgg, rest⟩
  · exact .inl hn
  · exact .inr ⟨g, cap, cur, he, Nat.le_trans hB hgB, hgg, rest⟩
theorem Own.cap {B : Nat} {w : World} {a : Option Addr} {c : Nat} {l : List Int} (h : Own B w a c l) : l.length ≤ c := by
  rcases h.2 with ⟨h', hn⟩ | ⟨g, cap, cur, h', _, _, hc, _⟩
  · omega
  · injection h' with _ _ h3
    omega
theorem Own.none_ (B : Nat) (w : World) : Own B w none 0 [] := World.ownsRow_nil _ _ _ _

theorem Own.lit {B : Nat} (w : World) (cs : Array Value) (l : List Int) (hcs : cs.toList = l.map (Value.int .i64)) (hB : B ≤ w.heap.size) (hm : l.length ≤ maxLen) :
    Own B (w.alloc (.cells cs 3)) (some ⟨w.heap.size, 0, none⟩) l.length l := by
  have h := World.ownsRow_lit (e := 3) (size := 1) w cs l.length hB hm (by rw [← Array.length_toList, hcs]; simp)
  rw [hcs] at h
  exact h
/-- the first k values of f -/
def tab (f : Nat → Int) (k : Nat) : List Int := (List.range k).map f
theorem tab_len (f : Nat → Int) (k : Nat) : (tab f k).length = k := by simp [tab]
theorem tab_succ (f : Nat → Int) (k : Nat) : tab f (k + 1) = tab f k ++ [f k] := by simp [tab, List.range_succ]
theorem tab_getD (f : Nat → Int) (k i : Nat) (h : i < k) : (tab f k).getD i 0 = f i := by simp [tab, List.getD, h]
theorem tab_congr {f g : Nat → Int} {k : Nat} (h : ∀ i, i < k → f i = g i) : tab f k = tab g k := by
  unfold tab
  apply List.map_congr_left
  intro i hi
  exact h i (List.mem_range.1 hi)
theorem tab_of (l : List Int) (n : Nat) (h : l.length = n) : l = tab (fun i => l.getD i 0) n := by
  subst h
  apply List.ext_getElem
  · simp [tab]
  · intro i h1 h2
    simp [tab, List.getD, h1]
/-- append of one integer to a row of the call's own -/
theorem append_one {P : Program} (hP : P.underlying 24 = some (.slice 3)) (hI : (P.info? 3).map (fun i => (i.zero, i.size, i.bytes)) = some (some (.int .i64 0), 1, 8)) {w : World} {ops : Array Oper} {rest : List Oper} {o : Oper} {a : Act} {Q : Exit → Act → World → Prop} (hgd : o.guard = none) (s x : Operand)
    (ho : o.op = .call { callee := .builtin .append, args := #[s, x], argTypes := #[24, 24] })
    (B : Nat) (ad : Option Addr) (c n : Nat) (l : List Int) (hn : l.length = n) (hs : a.eval s = .slice ad n c) (hown : Own B w ad c l)
    (g : Nat) (y : Int) (hx : a.eval x = .slice (some ⟨g, 0, none⟩) 1 1) (hc : w.cell? ⟨g, 0, none⟩ = some (.int .i64 y)) (hlen : n ≤ 1099511627776) (hB : B ≤ w.heap.size)
    (h : ∀ ad' c' w', Own B w' ad' c' (l ++ [y]) → Below B w w' → wpList P ops Q rest (a.put o.dst (.slice ad' (n + 1) c')) w') : wpList P ops Q (o :: rest) a w := by
  obtain ⟨i0, hi, hz0, hz1, hz2⟩ := info_parts hI
  subst hn
  refine wpList_append_own w hgd s x 24 ho B 3 i0 (.int .i64 0) 1 8 hP hi hz0 hz1 hz2 rfl (by decide) _ _ _ hs hown ⟨g, 0, none⟩ 1 1 [.int .i64 y] hx rfl ?_ ?_ ?_ ?_ hB ?_
  · intro j u hj
    match j, hj with
    | 0, hj => simp at hj; subst hj; simpa [Addr.add] using hc
  · intro u hu; simp at hu; subst hu; rfl
  · unfold maxLen; omega
  · omega
  · intro v' w' hown' hgrow _
    have hsh : ∃ ad' c', v' = .slice ad' (l.length + 1) c' := by
      rcases hown'.2 with ⟨_, h0⟩ | ⟨g', cap, cur, rfl, _⟩
      · omega
      · exact ⟨_, _, rfl⟩
    obtain ⟨ad', c', rfl⟩ := hsh
    refine h ad' c' w' ?_ ((Below.refl B w).grown hgrow hB fun k hk => ?_)
    · unfold Own
      have e : (l ++ [y]).length = l.length + 1 := by simp
      rw [e, List.map_append]
      exact hown'
    · cases ad with
      | none => cases hk
      | some q => simp [Value.ownBlock] at hk; have := (Own.lt hown q rfl).1; omega
/-- the same at a step of a region that draws its order -/
theorem step_append_one {P : Program} (hP : P.underlying 24 = some (.slice 3)) (hI : (P.info? 3).map (fun i => (i.zero, i.size, i.bytes)) = some (some (.int .i64 0), 1, 8)) {w : World} {ops : Array Oper} {o : Oper} {a : Act} {K : Act → World → Prop} {Q : Exit → Act → World → Prop} {E : Prop} (hgd : o.guard = none) (s x : Operand)
    (ho : o.op = .call { callee := .builtin .append, args := #[s, x], argTypes := #[24, 24] })
    (B : Nat) (ad : Option Addr) (c n : Nat) (l : List Int) (hn : l.length = n) (hs : a.eval s = .slice ad n c) (hown : Own B w ad c l)
    (g : Nat) (y : Int) (hx : a.eval x = .slice (some ⟨g, 0, none⟩) 1 1) (hc : w.cell? ⟨g, 0, none⟩ = some (.int .i64 y)) (hlen : n ≤ 1099511627776) (hB : B ≤ w.heap.size)
    (h : ∀ ad' c' w', Own B w' ad' c' (l ++ [y]) → Below B w w' → K (a.put o.dst (.slice ad' (n + 1) c')) w') : if Region.wanted o (yielded ops a.tmps) = true then Oper.wp P o a w K Q else E := by
  have hwant : Region.wanted o (yielded ops a.tmps) = true := by simp [Region.wanted, hgd]
  rw [if_pos hwant]
  obtain ⟨i0, hi, hz0, hz1, hz2⟩ := info_parts hI
  subst hn
  refine wp_append_own w s x 24 ho B 3 i0 (.int .i64 0) 1 8 hP hi hz0 hz1 hz2 rfl (by decide) _ _ _ hs hown ⟨g, 0, none⟩ 1 1 [.int .i64 y] hx rfl ?_ ?_ ?_ ?_ hB ?_
  · intro j u hj
    match j, hj with
    | 0, hj => simp at hj; subst hj; simpa [Addr.add] using hc
  · intro u hu; simp at hu; subst hu; rfl
  · unfold maxLen; omega
  · omega
  · intro v' w' hown' hgrow _
    have hsh : ∃ ad' c', v' = .slice ad' (l.length + 1) c' := by
      rcases hown'.2 with ⟨_, h0⟩ | ⟨g', cap, cur, rfl, _⟩
      · omega
      · exact ⟨_, _, rfl⟩
    obtain ⟨ad', c', rfl⟩ := hsh
    refine h ad' c' w' ?_ ((Below.refl B w).grown hgrow hB fun k hk => ?_)
    · unfold Own
      have e : (l ++ [y]).length = l.length + 1 := by simp
      rw [e, List.map_append]
      exact hown'
    · cases ad with
      | none => cases hk
      | some q => simp [Value.ownBlock] at hk; have := (Own.lt hown q rfl).1; omega
/-- append of a row of integers to a row of the call's own, at a step of a region that draws its order -/
theorem step_append_many {P : Program} (hP : P.underlying 24 = some (.slice 3)) (hI : (P.info? 3).map (fun i => (i.zero, i.size, i.bytes)) = some (some (.int .i64 0), 1, 8)) {w : World} {ops : Array Oper} {o : Oper} {a : Act} {K : Act → World → Prop} {Q : Exit → Act → World → Prop} {E : Prop} (hgd : o.guard = none) (s x : Operand)
    (ho : o.op = .call { callee := .builtin .append, args := #[s, x], argTypes := #[24, 24] })
    (B : Nat) (ad : Option Addr) (c n : Nat) (l : List Int) (hn : l.length = n) (hs : a.eval s = .slice ad n c) (hown : Own B w ad c l)
    (a2 : Option Addr) (m c2 : Nat) (l2 : List Int) (hm : l2.length = m) (hm0 : 0 < m) (hx : a.eval x = .slice a2 m c2) (hr : Row w a2 l2) (hlen : n + m ≤ 1099511627776) (hB : B ≤ w.heap.size)
    (h : ∀ ad' c' w', Own B w' ad' c' (l ++ l2) → Below B w w' → K (a.put o.dst (.slice ad' (n + m) c')) w') : if Region.wanted o (yielded ops a.tmps) = true then Oper.wp P o a w K Q else E := by
  have hwant : Region.wanted o (yielded ops a.tmps) = true := by simp [Region.wanted, hgd]
  rw [if_pos hwant]
  obtain ⟨i0, hi, hz0, hz1, hz2⟩ := info_parts hI
  subst hn
  subst hm
  obtain ⟨b, off, rfl, hc⟩ := hr.all hm0
  refine wp_append_own w s x 24 ho B 3 i0 (.int .i64 0) 1 8 hP hi hz0 hz1 hz2 rfl (by decide) _ _ _ hs hown ⟨b, off, none⟩ l2.length c2 (l2.map (Value.int .i64)) hx (by simp) ?_ ?_ ?_ ?_ hB ?_
  · intro j u hj
    have hjl : j < l2.length := by have := (List.getElem?_eq_some_iff.1 hj).1; simpa using this
    rw [Addr.add_lit, hc j hjl]
    rw [← hj]; simp [List.getD, hjl]
  · intro u hu; simp at hu; obtain ⟨y, _, rfl⟩ := hu; rfl
  · unfold maxLen; omega
  · omega
  · intro v' w' hown' hgrow _
    have hsh : ∃ ad' c', v' = .slice ad' (l.length + l2.length) c' := by
      rcases hown'.2 with ⟨_, h0⟩ | ⟨g', cap, cur, rfl, _⟩
      · omega
      · exact ⟨_, _, rfl⟩
    obtain ⟨ad', c', rfl⟩ := hsh
    refine h ad' c' w' ?_ ((Below.refl B w).grown hgrow hB fun k hk => ?_)
    · unfold Own
      rw [List.length_append, List.map_append]
      exact hown'
    · cases ad with
      | none => cases hk
      | some q => simp [Value.ownBlock] at hk; have := (Own.lt hown q rfl).1; omega
/-- the same in a plain region, the source not nil, empty or not -/
theorem append_many {P : Program} (hP : P.underlying 24 = some (.slice 3)) (hI : (P.info? 3).map (fun i => (i.zero, i.size, i.bytes)) = some (some (.int .i64 0), 1, 8)) {w : World} {ops : Array Oper} {rest : List Oper} {o : Oper} {a : Act} {Q : Exit → Act → World → Prop} (hgd : o.guard = none) (s x : Operand)
    (ho : o.op = .call { callee := .builtin .append, args := #[s, x], argTypes := #[24, 24] })
    (B : Nat) (ad : Option Addr) (c n : Nat) (l : List Int) (hn : l.length = n) (hs : a.eval s = .slice ad n c) (hown : Own B w ad c l)
    (p2 : Addr) (m c2 : Nat) (l2 : List Int) (hm : l2.length = m) (hx : a.eval x = .slice (some p2) m c2) (hr : Row w (some p2) l2) (hlen : n + m ≤ 1099511627776) (hB : B ≤ w.heap.size)
    (h : ∀ ad' c' w', Own B w' ad' c' (l ++ l2) → Below B w w' → wpList P ops Q rest (a.put o.dst (.slice ad' (n + m) c')) w') : wpList P ops Q (o :: rest) a w := by
  obtain ⟨i0, hi, hz0, hz1, hz2⟩ := info_parts hI
  subst hn
  subst hm
  refine wpList_append_own w hgd s x 24 ho B 3 i0 (.int .i64 0) 1 8 hP hi hz0 hz1 hz2 rfl (by decide) _ _ _ hs hown p2 l2.length c2 (l2.map (Value.int .i64)) hx (by simp) ?_ ?_ ?_ ?_ hB ?_
  · intro j u hj
    have hjl : j < l2.length := by have := (List.getElem?_eq_some_iff.1 hj).1; simpa using this
    obtain ⟨b, off, hb, hc⟩ := hr.all (by omega)
    injection hb with hb
    subst hb
    rw [Addr.add_lit, hc j hjl]
    rw [← hj]; simp [List.getD, hjl]
  · intro u hu; simp at hu; obtain ⟨y, _, rfl⟩ := hu; rfl
  · unfold maxLen; omega
  · omega
  · intro v' w' hown' hgrow _
    have hsh : ∃ ad' c', v' = .slice ad' (l.length + l2.length) c' := by
      rcases hown'.2 with ⟨h1, h0⟩ | ⟨g', cap, cur, rfl, _⟩
      · exact ⟨none, 0, by rw [h1, h0]⟩
      · exact ⟨_, _, rfl⟩
    obtain ⟨ad', c', rfl⟩ := hsh
    refine h ad' c' w' ?_ ((Below.refl B w).grown hgrow hB fun k hk => ?_)
    · unfold Own
      rw [List.length_append, List.map_append]
      exact hown'
    · cases ad with
      | none => cases hk
      | some q => simp [Value.ownBlock] at hk; have := (Own.lt hown q rfl).1; omega
theorem tab_append (f : Nat → Int) (k m : Nat) : tab f k ++ tab (fun i => f (k + i)) m = tab f (k + m) := by
  induction m with
  | zero => simp [tab]
  | succ m ih => rw [tab_succ, ← List.append_assoc, ih, ← Nat.add_assoc, tab_succ]
theorem bcell {B : Nat} {W w1 : World} (hb : Below B W w1) : ∀ b o, b < B → w1.cell? ⟨b, o, none⟩ = W.cell? ⟨b, o, none⟩ := fun b o h => hb.cell (p := ⟨b, o, none⟩) h
theorem Row.inside {w : World} {a : Option Addr} {l : List Int} (h : Row w a l) (hl : 0 < l.length) :
    ∃ b off, a = some ⟨b, off, none⟩ ∧ b < w.heap.size ∧ ∀ i, i < l.length → w.cell? ⟨b, off + i, none⟩ = some (.int .i64 (l.getD i 0)) := by
  obtain ⟨b, off, e, hc⟩ := h.all hl
  exact ⟨b, off, e, World.block_lt_of_cell? w _ (hc 0 hl), hc⟩
theorem ret_slice {a : Option Addr} {n n' c : Nat} (h : n = n') : Ending.returned (.slice a n c) = .returned (.slice a n' c) := by rw [h]
theorem cell_new (w : World) (y : Value) (t : TypeId) : (w.alloc (.cells #[y] t)).cell? ⟨w.heap.size, 0, none⟩ = some y := by
  simp

/-- the first k of l are turned into the values of f -/
def upd (f : Nat → Int) (l : List Int) (k : Nat) : List Int := tab f k ++ l.drop k
theorem upd_zero (f : Nat → Int) (l : List Int) : upd f l 0 = l := by simp [upd, tab]
theorem upd_len (f : Nat → Int) (l : List Int) (k : Nat) (h : k ≤ l.length) : (upd f l k).length = l.length := by simp [upd, tab_len]; omega
theorem upd_all (f : Nat → Int) (l : List Int) : upd f l l.length = tab f l.length := by simp [upd]
theorem upd_getD (f : Nat → Int) (l : List Int) (k : Nat) (h : k < l.length) : (upd f l k).getD k 0 = l.getD k 0 := by
  simp [upd, List.getD, List.getElem?_append, tab_len]
theorem upd_set (f : Nat → Int) (l : List Int) (k : Nat) (h : k < l.length) : (upd f l k).set k (f k) = upd f l (k + 1) := by
  unfold upd
  rw [List.set_append_right _ _ (by rw [tab_len]; exact Nat.le_refl _), tab_len, Nat.sub_self, List.drop_eq_getElem_cons h, List.set_cons_zero, tab_succ]
  simp
theorem below_drewN' {B : Nat} {a w : World} (h : Below B a w) (n : Nat) : Below B a (w.drewN n) := below_drewN h n
theorem drewN_ex {w : World} (n m : Nat) : ∃ k, (w.drewN n).drewN m = w.drewN k := ⟨n + m, World.drewN_drewN _ _ _⟩
theorem map_madeCells (n : Nat) : (madeCells (Value.int .i64 0).cells (n * 1)).toList = (List.replicate n (0 : Int)).map (Value.int .i64) := by
  have h : (Value.int .i64 0).cells = #[Value.int .i64 0] := rfl
  rw [h, toList_madeCells_one, Nat.mul_one, List.map_replicate]
end Go.Proofs.Ytkfjbnhihjnhnaa
