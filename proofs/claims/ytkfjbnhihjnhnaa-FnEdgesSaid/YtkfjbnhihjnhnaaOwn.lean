/- Contracts: a frame of the call's own. -/
import Derived.Test.YtkfjbnhihjnhnaaFits
import Derived.Test.YtkfjbnhihjnhnaaFrm
import Derived.Laws.AppendOwnNone
namespace Go.Proofs.Ytkfjbnhihjnhnaa
open Go.RowKit
set_option linter.unusedVariables false

/-- an address that is there, or a slice that is nil -/
def Shape (a : Option Addr) (c : Nat) (l : List Int) : Prop := (a = none ∧ c = 0 ∧ l = []) ∨ ∃ p, a = some p
theorem Own.shape {B : Nat} {w : World} {a : Option Addr} {c : Nat} {l : List Int} (h : Own B w a c l) : Shape a c l := by
  rcases h.form with h | ⟨g, h, _⟩
  · exact .inl h
  · exact .inr ⟨_, h⟩
theorem Row.nil_of {w : World} {a : Option Addr} {l : List Int} (h : Row w a l) : a = none → l = [] := fun e => by
  rcases h with h1 | ⟨b, off, h1, _⟩
  · exact h1
  · rw [h1] at e; cases e
theorem step_append_src {P : Program} (hP : P.underlying 24 = some (.slice 3)) (hI : (P.info? 3).map (fun i => (i.zero, i.size, i.bytes)) = some (some (.int .i64 0), 1, 8)) {w : World} {ops : Array Oper} {o : Oper} {a : Act} {K : Act → World → Prop} {Q : Exit → Act → World → Prop} {E : Prop} (hgd : o.guard = none) (s x : Operand)
    (ho : o.op = .call { callee := .builtin .append, args := #[s, x], argTypes := #[24, 24] })
    (B : Nat) (ad : Option Addr) (c n : Nat) (l : List Int) (hn : l.length = n) (hs : a.eval s = .slice ad n c) (hown : Own B w ad c l)
    (a2 : Option Addr) (m c2 : Nat) (l2 : List Int) (hm : l2.length = m) (hsh : Shape a2 c2 l2) (hx : a.eval x = .slice a2 m c2) (hr : Row w a2 l2) (hlen : n + m ≤ 1099511627776) (hB : B ≤ w.heap.size)
    (h : ∀ ad' c' w', Own B w' ad' c' (l ++ l2) → Below B w w' → K (a.put o.dst (.slice ad' (n + m) c')) w') : if Region.wanted o (yielded ops a.tmps) = true then Oper.wp P o a w K Q else E := by
  have hwant : Region.wanted o (yielded ops a.tmps) = true := by simp [Region.wanted, hgd]
  rw [if_pos hwant]
  obtain ⟨i0, hi, hz0, hz1, hz2⟩ := info_parts hI
  subst hn
  subst hm
  rcases hsh with ⟨rfl, rfl, rfl⟩ | ⟨p2, rfl⟩
  · have hrun := run_append_owned_none (P := P) (w := w) B 24 o.type 3 i0 1 hP hi (.slice ad l.length c) l.length (l.map (Value.int .i64)) hown
    unfold Oper.wp
    simp only [List.length_nil] at hx
    simp [execOp, ho, resolve, invoke, builtin, hs, hx, hrun, Result.andThen]
    have h2 := h ad c w (by simpa using hown) (Below.refl _ _)
    have h3 : K (a.put o.dst (.slice ad l.length c)) w := by simpa using h2
    exact h3
  · refine wp_append_own w s x 24 ho B 3 i0 (.int .i64 0) 1 8 hP hi hz0 hz1 hz2 rfl (by decide) _ _ _ hs hown p2 l2.length c2 (l2.map (Value.int .i64)) hx (by simp) ?_ ?_ ?_ ?_ hB ?_
    · intro j u hj
      have hjl : j < l2.length := by have := (List.getElem?_eq_some_iff.1 hj).1; simpa using this
      obtain ⟨b, off, hb, hc⟩ := hr.all (by omega)
      injection hb with hb
      subst hb
      rw [Addr.add_lit, hc j hjl]
      rw [← hj]; simp [List.getD, hjl]
    · intro u hu; simp at hu; obtain ⟨y, _, rfl⟩ := hu; rfl
    · unfold maxLen; omega
    · omega
    · intro v' w' hown' hgrow _
      have hsh : ∃ ad' c', v' = .slice ad' (l.length + l2.length) c' := by
        rcases hown'.2 with ⟨h1, h0⟩ | ⟨g', cap, cur, rfl, _⟩
        · exact ⟨none, 0, by rw [h1, h0]⟩
        · exact ⟨_, _, rfl⟩
      obtain ⟨ad', c', rfl⟩ := hsh
      refine h ad' c' w' ?_ ((Below.refl B w).grown hgrow hB fun k hk => ?_)
      · unfold Own
        rw [List.length_append, List.map_append]
        exact hown'
      · cases ad with
        | none => cases hk
        | some q => simp [Value.ownBlock] at hk; have := (Own.lt hown q rfl).1; omega


set_option maxHeartbeats 1000000 in
theorem own_c (x y : Int) (a : Option Addr) (c : Nat) (l : List Int) (w : World) (hl : l.length ≤ 1099511627776) (hr : Row w a l) :
    Calls Try.prog 37 #[frv x y a l.length c] w fun e w' => ∃ b d, e = .returned (frv x y b l.length d) ∧ Own w.heap.size w' b d l ∧ Below w.heap.size w w' := by
  have hcl := fun w0 (h : Row w0 a l) => Clone_c a c l w0 hl h h.nil_of
  have HC := Lib.hid hcl
  have HR := Lib.hid hr
  clear hcl hr
  go_enter Try.func37, Try.ntmps37
  go_wp2_with fail
  obtain ⟨W0, hW0⟩ : ∃ WW, WW = (w.alloc (.cells #[.int .i64 x, .int .i64 y, .slice a l.length c] 26)).alloc (.cells #[.int .i64 0, .int .i64 0, .slice none 0 0] 26) := ⟨_, rfl⟩
  rw [← hW0]
  have c0 : W0.cell? ⟨w.heap.size, 0, none⟩ = some (.int .i64 x) := by rw [hW0]; simp
  have c1 : W0.cell? ⟨w.heap.size, 1, none⟩ = some (.int .i64 y) := by rw [hW0]; simp
  have c2 : W0.cell? ⟨w.heap.size, 2, none⟩ = some (.slice a l.length c) := by rw [hW0]; simp
  have RA : Hid (Box3 W0 (w.heap.size + 1) (.int .i64 0) (.int .i64 0) (.slice none 0 0)) := Lib.hid (by rw [hW0]; exact ⟨by simp, by simp, by simp, by simp⟩)
  have RF : Hid (∀ i, W0.frozen? ⟨w.heap.size + 1, i, none⟩ = false) := Lib.hid (fun i => by rw [hW0]; simp [go_sem])
  have HB0 : Hid (Below w.heap.size w W0) := Lib.hid (by rw [hW0]; exact ((Below.refl w.heap.size w).alloc (Nat.le_refl _) _).alloc (by simp) _)
  have HZ : Hid (W0.heap.size = w.heap.size + 1 + 1) := Lib.hid (by rw [hW0]; simp)
  have HCL := Lib.hid (HC.out W0.drew ((HR.out.below HB0.out (Nat.le_refl _)).drew))
  clear hW0
  go_region_held3 (fun w' => w'.cell? ⟨w.heap.size, 0, none⟩ = some (.int .i64 x) ∧ w'.cell? ⟨w.heap.size, 1, none⟩ = some (.int .i64 y) ∧ w'.cell? ⟨w.heap.size, 2, none⟩ = some (.slice a l.length c)) (first | go_keep)
    ((first
      | (go_at_call 69; go_loud (refine HCL.out.mono ?_; rintro e w1 ⟨b, d, rfl, ho, hb⟩; have hz : W0.heap.size = w.heap.size + 1 + 1 := HZ.out; have k0 := bcell hb w.heap.size 0 (by show _ < W0.heap.size; omega); have k1 := bcell hb w.heap.size 1 (by show _ < W0.heap.size; omega); have k2 := bcell hb w.heap.size 2 (by show _ < W0.heap.size; omega); have r0 := (bcell hb (w.heap.size + 1) 0 (by show _ < W0.heap.size; omega)).trans RA.out.2.1; have r1 := (bcell hb (w.heap.size + 1) 1 (by show _ < W0.heap.size; omega)).trans RA.out.2.2.1; have r2 := (bcell hb (w.heap.size + 1) 2 (by show _ < W0.heap.size; omega)).trans RA.out.2.2.2; have f0 := (hb.frozen (p := ⟨w.heap.size + 1, 0, none⟩) (by show w.heap.size + 1 < W0.heap.size; omega)).trans (RF.out 0); have f1 := (hb.frozen (p := ⟨w.heap.size + 1, 1, none⟩) (by show w.heap.size + 1 < W0.heap.size; omega)).trans (RF.out 1); have f2 := (hb.frozen (p := ⟨w.heap.size + 1, 2, none⟩) (by show w.heap.size + 1 < W0.heap.size; omega)).trans (RF.out 2); clear hz))))
  have HO := Lib.hid ho
  have HB : Hid (Below w.heap.size w w1) := Lib.hid (HB0.out.drew.trans (hb.mono (by have := HZ.out; show _ ≤ W0.heap.size; omega)))
  clear ho hb k0 k1 k2
  go_wp2
  have hT := three_set (.int .i64 x) (.int .i64 y) (.slice b l.length d) r0 r1 r2
  have z := HZ.out
  refine bodyPost_ret (v := frv x y b l.length d) (by simp [results, Try.results37, go_sem, hT]) rfl ⟨b, d, rfl, ?_, ?_⟩
  · exact (((HO.out.far (p := ⟨w.heap.size + 1, 0, none⟩) (by show w.heap.size + 1 < W0.heap.size; omega) _).far (p := ⟨w.heap.size + 1, 1, none⟩) (by show w.heap.size + 1 < W0.heap.size; omega) _).far (p := ⟨w.heap.size + 1, 2, none⟩) (by show w.heap.size + 1 < W0.heap.size; omega) _).mono (by show w.heap.size ≤ W0.heap.size; omega)
  · exact ((HB.out.setCell (p := ⟨w.heap.size + 1, 0, none⟩) (by show _ ≤ w.heap.size + 1; omega) _).setCell (p := ⟨w.heap.size + 1, 1, none⟩) (by show _ ≤ w.heap.size + 1; omega) _).setCell (p := ⟨w.heap.size + 1, 2, none⟩) (by show _ ≤ w.heap.size + 1; omega) _


set_option maxHeartbeats 1000000 in
theorem l18Copy_c (x y : Int) (a : Option Addr) (c : Nat) (l : List Int) (w : World) (hl : l.length ≤ 1099511627776) (hr : Row w a l) (hsh : Shape a c l) :
    Calls Try.prog 42 #[frv x y a l.length c] w fun e w' => ∃ b d, e = .returned (frv x y b l.length d) ∧ Own w.heap.size w' b d l ∧ Below w.heap.size w w' := by
  have HSH := Lib.hid hsh
  have HR := Lib.hid hr
  clear hr hsh
  go_enter Try.func42, Try.ntmps42
  go_wp2_with fail
  obtain ⟨W0, hW0⟩ : ∃ WW, WW = (w.alloc (.cells #[.int .i64 x, .int .i64 y, .slice a l.length c] 26)).alloc (.cells #[.int .i64 0, .int .i64 0, .slice none 0 0] 26) := ⟨_, rfl⟩
  rw [← hW0]
  have c0 : W0.cell? ⟨w.heap.size, 0, none⟩ = some (.int .i64 x) := by rw [hW0]; simp
  have c1 : W0.cell? ⟨w.heap.size, 1, none⟩ = some (.int .i64 y) := by rw [hW0]; simp
  have c2 : W0.cell? ⟨w.heap.size, 2, none⟩ = some (.slice a l.length c) := by rw [hW0]; simp
  have RA : Hid (Box3 W0 (w.heap.size + 1) (.int .i64 0) (.int .i64 0) (.slice none 0 0)) := Lib.hid (by rw [hW0]; exact ⟨by simp, by simp, by simp, by simp⟩)
  have RF : Hid (∀ i, W0.frozen? ⟨w.heap.size + 1, i, none⟩ = false) := Lib.hid (fun i => by rw [hW0]; simp [go_sem])
  have HB0 : Hid (Below w.heap.size w W0) := Lib.hid (by rw [hW0]; exact ((Below.refl w.heap.size w).alloc (Nat.le_refl _) _).alloc (by simp) _)
  have HZ : Hid (W0.heap.size = w.heap.size + 1 + 1) := Lib.hid (by rw [hW0]; simp)
  clear hW0
  go_region_held3 (fun w' => w'.cell? ⟨w.heap.size, 0, none⟩ = some (.int .i64 x) ∧ w'.cell? ⟨w.heap.size, 1, none⟩ = some (.int .i64 y) ∧ w'.cell? ⟨w.heap.size, 2, none⟩ = some (.slice a l.length c)) (first | go_keep)
    ((first
      | (refine step_append_src Try.underlying24 Try.infoInt rfl (.tmp 7) (.tmp 9) rfl W0.heap.size _ _ 0 [] rfl rfl (Own.lit W0.drew #[] [] rfl (Nat.le_refl _) (by simp [maxLen])) a l.length c l rfl HSH.out rfl (((HR.out.below HB0.out (Nat.le_refl _)).drew).alloc _) ?_ ?_ ?_; (omega); (simp); intro b d w1 ho hb'; have hb : Below W0.heap.size W0 w1 := ((Below.refl W0.heap.size W0).drew.alloc (Nat.le_refl _) _).trans hb'; simp only [List.nil_append] at ho; have hz : W0.heap.size = w.heap.size + 1 + 1 := HZ.out; have k0 := bcell hb w.heap.size 0 (by show _ < W0.heap.size; omega); have k1 := bcell hb w.heap.size 1 (by show _ < W0.heap.size; omega); have k2 := bcell hb w.heap.size 2 (by show _ < W0.heap.size; omega); have r0 := (bcell hb (w.heap.size + 1) 0 (by show _ < W0.heap.size; omega)).trans RA.out.2.1; have r1 := (bcell hb (w.heap.size + 1) 1 (by show _ < W0.heap.size; omega)).trans RA.out.2.2.1; have r2 := (bcell hb (w.heap.size + 1) 2 (by show _ < W0.heap.size; omega)).trans RA.out.2.2.2; have f0 := (hb.frozen (p := ⟨w.heap.size + 1, 0, none⟩) (by show w.heap.size + 1 < W0.heap.size; omega)).trans (RF.out 0); have f1 := (hb.frozen (p := ⟨w.heap.size + 1, 1, none⟩) (by show w.heap.size + 1 < W0.heap.size; omega)).trans (RF.out 1); have f2 := (hb.frozen (p := ⟨w.heap.size + 1, 2, none⟩) (by show w.heap.size + 1 < W0.heap.size; omega)).trans (RF.out 2); clear hz hb')))
  have HO := Lib.hid ho
  have HB : Hid (Below w.heap.size w w1) := Lib.hid (HB0.out.trans (hb.mono (by have := HZ.out; show _ ≤ W0.heap.size; omega)))
  clear ho hb k0 k1 k2
  go_wp2
  have hT := three_set (.int .i64 x) (.int .i64 y) (.slice b l.length d) r0 r1 r2
  have z := HZ.out
  refine bodyPost_ret (v := frv x y b l.length d) (by simp [results, Try.results42, go_sem, hT]) rfl ⟨b, d, rfl, ?_, ?_⟩
  · exact (((HO.out.far (p := ⟨w.heap.size + 1, 0, none⟩) (by show w.heap.size + 1 < W0.heap.size; omega) _).far (p := ⟨w.heap.size + 1, 1, none⟩) (by show w.heap.size + 1 < W0.heap.size; omega) _).far (p := ⟨w.heap.size + 1, 2, none⟩) (by show w.heap.size + 1 < W0.heap.size; omega) _).mono (by show w.heap.size ≤ W0.heap.size; omega)
  · exact ((HB.out.setCell (p := ⟨w.heap.size + 1, 0, none⟩) (by show _ ≤ w.heap.size + 1; omega) _).setCell (p := ⟨w.heap.size + 1, 1, none⟩) (by show _ ≤ w.heap.size + 1; omega) _).setCell (p := ⟨w.heap.size + 1, 2, none⟩) (by show _ ≤ w.heap.size + 1; omega) _

end Go.Proofs.Ytkfjbnhihjnhnaa
