/- Contracts: both passes of the transforms by sums and differences. -/
import Derived.Test.YtchabkkpdafkiaaBoth
namespace Go.Proofs.Ytchabkkpdafkiaa
open Go.RowKit
set_option linter.unusedVariables false

theorem rowsL_len (M : Nat → Nat → Int) (l : List Int) (n : Nat) : (rowsL M l n).length = n * n := by rw [rowsL, tab_len]
theorem turn_col (l : List Int) (n : Nat) (h : l.length = n * n) (hn : n = 4 ∨ n = 8) : colF l = turnL l n := by
  rcases hn with rfl | rfl
  · simp only [colF, sideN, h]; rfl
  · simp only [colF, sideN, h]; rfl
theorem rowsL_bd {R : List (List Int)} {l : List Int} {n : Nat} {B : Int} (hR : ∀ r, r < n → ∀ k, k < n → -2 ≤ ent R r k ∧ ent R r k ≤ 2) (hb : ∀ i, i < n * n → -B ≤ l.getD i 0 ∧ l.getD i 0 ≤ B) (i : Nat) (hi : i < n * n) :
    -(n * (2 * B)) ≤ (rowsL (ent R) l n).getD i 0 ∧ (rowsL (ent R) l n).getD i 0 ≤ n * (2 * B) := by
  have hn : 0 < n := by
    cases n with
    | zero => simp at hi
    | succ n => omega
  unfold rowsL
  rw [tab_getD _ _ _ hi]
  exact rowAt_bd (fun j hj => hR _ (Nat.mod_lt _ hn) j hj) (fun j hj => hb _ (sq_lt (Nat.div_lt_of_lt_mul hi) hj))

set_option maxHeartbeats 1000000 in
theorem spec.l13Both_4 (a : Option Addr) (c : Nat) (l : List Int) (w : World) (hl : l.length ≤ 1099511627776) (hr : Row w a l) (hcap : l.length ≤ c) :
    Calls Try.prog 31 #[.slice a l.length c, .int .i64 4] w fun e w' => ∃ b d, e = .returned (.slice b (prodF rowsA 4 l).length d) ∧ Own w.heap.size w' b d (prodF rowsA 4 l) ∧ Below w.heap.size w w' := by
  have hf := spec.l12Fits_c 4 a c l w (by omega) hl hr
  cases h : fitsM 4 l
  · rw [h] at hf
    have HF := Lib.hid hf
    have e : prodF rowsA 4 l = [] := by simp [prodF, h]
    rw [e]
    clear hf h hr e
    go_enter Try.func31, Try.ntmps31
    go_wp2_with (go_at_call 43; refine HF.out.mono ?_; rintro e w' ⟨rfl, rfl⟩)
    go_ret
    exact ⟨_, _, rfl, Own.lit _ _ [] rfl (Nat.le_refl _) (by simp [maxLen]), (Below.refl _ _).alloc (Nat.le_refl _) _⟩
  · have hm : l.length = 16 ∧ allR (-1000000000) 1000000000 l = true := by simpa [fitsM] using h
    rw [h, hm.1] at hf
    have HF := Lib.hid hf
    have e : prodF rowsA 4 l = prodL (ent rowsA) l 4 := by simp [prodF, h]
    have hb0 : ∀ i, i < 16 → -1000000000 ≤ l.getD i 0 ∧ l.getD i 0 ≤ 1000000000 := fun i hi => allR_at hm.2 (by omega)
    have hb1 : ∀ i, i < 4 * 4 → -((4 : Nat) * (2 * 1000000000)) ≤ (rowsL (ent rowsA) l 4).getD i 0 ∧ (rowsL (ent rowsA) l 4).getD i 0 ≤ (4 : Nat) * (2 * 1000000000) := rowsL_bd (by decide) hb0
    have hb2 : ∀ i, i < 16 → -1000000000000 ≤ (turnL (rowsL (ent rowsA) l 4) 4).getD i 0 ∧ (turnL (rowsL (ent rowsA) l 4) 4).getD i 0 ≤ 1000000000000 := fun i hi => by
      unfold turnL
      rw [tab_getD _ _ _ hi]
      have := hb1 (i % 4 * 4 + i / 4) (by omega)
      omega
    have HR1 := Lib.hid (spec.l13Rows_4 a c l w hm.1 (by omega) hr (fun i hi => by have := hb0 i hi; omega))
    have HC : Hid (∀ (x : List Int) (b : Option Addr) (d : Nat) (w0 : World), x.length = 16 → Row w0 b x → Calls Try.prog 44 #[.slice b 16 d] w0 fun e w' => ∃ b d, e = .returned (.slice b 16 d) ∧ Own w0.heap.size w' b d (turnL x 4) ∧ Below w0.heap.size w0 w') := Lib.hid (fun x b d w0 hx hrx => by
      have h := spec.Columns_4 b d x w0 hx hrx
      exact h)
    have HR2 : Hid (∀ (b : Option Addr) (d : Nat) (w0 : World), 16 ≤ d → Row w0 b (turnL (rowsL (ent rowsA) l 4) 4) → Calls Try.prog 45 #[.slice b 16 d, .int .i64 4] w0 fun e w' => ∃ b d, e = .returned (.slice b 16 d) ∧ Own w0.heap.size w' b d (rowsL (ent rowsA) (turnL (rowsL (ent rowsA) l 4) 4) 4) ∧ Below w0.heap.size w0 w') := Lib.hid (fun b d w0 hd hrx => spec.l13Rows_4 b d _ w0 (by unfold turnL; rw [tab_len]) hd hrx hb2)
    obtain ⟨P, hP⟩ : ∃ P, P = prodL (ent rowsA) l 4 := ⟨_, rfl⟩
    have HEND : Hid (turnL (rowsL (ent rowsA) (turnL (rowsL (ent rowsA) l 4) 4) 4) 4 = P) := Lib.hid (by rw [hP]; exact prod_lift (ent rowsA) l 4)
    have HPL : Hid (P.length = 16) := Lib.hid (by rw [hP, prodL_len])
    have HL1 : Hid ((rowsL (ent rowsA) l 4).length = 16) := Lib.hid (by rw [rowsL, tab_len])
    have HL2 : Hid ((turnL (rowsL (ent rowsA) l 4) 4).length = 16) := Lib.hid (by rw [turnL, tab_len])
    have HL3 : Hid ((rowsL (ent rowsA) (turnL (rowsL (ent rowsA) l 4) 4) 4).length = 16) := Lib.hid (by rw [rowsL, tab_len])
    rw [e, ← hP, HPL.out, hm.1]
    clear hP
    generalize rowsL (ent rowsA) l 4 = x1 at *
    generalize hx2 : turnL x1 4 = x2 at *
    have HX2 := Lib.hid hx2
    clear hx2
    generalize rowsL (ent rowsA) x2 4 = x3 at *
    clear hf h hr e hm hb0 hb1 hb2 hl
    go_enter Try.func31, Try.ntmps31
    go_wp2_with fail
    refine HF.out.mono ?_
    rintro e w' ⟨rfl, rfl⟩
    go_wp2_with fail
    refine HR1.out.mono ?_
    rintro e w1 ⟨b1, d1, rfl, ho1, hb1⟩
    go_wp2_with fail
    refine (HC.out x1 b1 d1 w1 HL1.out ho1.row).mono ?_
    rintro e w2 ⟨b2, d2, rfl, ho2, hb2⟩
    rw [HX2.out] at ho2
    go_wp2_with fail
    refine (HR2.out b2 d2 w2 (by have := ho2.cap; rw [HL2.out] at this; exact this) ho2.row).mono ?_
    rintro e w3 ⟨b3, d3, rfl, ho3, hb3⟩
    go_wp2_with fail
    refine (HC.out x3 b3 d3 w3 HL3.out ho3.row).mono ?_
    rintro e w4 ⟨b4, d4, rfl, ho4, hb4⟩
    rw [HEND.out] at ho4
    have s1 := hb1.size
    have s2 := hb2.size
    have s3 := hb3.size
    have HO := Lib.hid (ho4.mono (B' := w.heap.size) (by omega))
    have HB : Hid (Below w.heap.size w w4) := Lib.hid (((hb1.trans (hb2.mono (by omega))).trans (hb3.mono (by omega))).trans (hb4.mono (by omega)))
    clear ho1 ho2 ho3 ho4 hb1 hb2 hb3 hb4 HC HR1 HR2
    go_wp2
    go_ret
    exact ⟨b4, d4, rfl, HO.out, HB.out⟩
theorem spec.Fast4_c (a : Option Addr) (c : Nat) (l : List Int) (w : World) (hl : l.length ≤ 1099511627776) (hr : Row w a l) (hw : ∀ x ∈ l, -9223372036854775808 ≤ x ∧ x ≤ 9223372036854775807) (hcap : l.length ≤ c) :
    Calls Try.prog 9 #[.slice a l.length c] w fun e w' => ∃ b d, e = .returned (.slice b (prodF rowsA 4 l).length d) ∧ Own w.heap.size w' b d (prodF rowsA 4 l) ∧ Below w.heap.size w w' := by
  have HP := Lib.hid (spec.l13Both_4 a c l w hl hr hcap)
  clear hr hw hcap
  go_enter Try.func9, Try.ntmps9
  go_wp2_with (go_at_call 31; refine HP.out.mono ?_; rintro e w1 ⟨b, d, rfl, ho, hb⟩)
  go_ret
  exact ⟨b, d, rfl, ho, hb⟩


set_option maxHeartbeats 1000000 in
theorem spec.l13Both_8 (a : Option Addr) (c : Nat) (l : List Int) (w : World) (hl : l.length ≤ 1099511627776) (hr : Row w a l) (hcap : l.length ≤ c) :
    Calls Try.prog 31 #[.slice a l.length c, .int .i64 8] w fun e w' => ∃ b d, e = .returned (.slice b (prodF rowsH 8 l).length d) ∧ Own w.heap.size w' b d (prodF rowsH 8 l) ∧ Below w.heap.size w w' := by
  have hf := spec.l12Fits_c 8 a c l w (by omega) hl hr
  cases h : fitsM 8 l
  · rw [h] at hf
    have HF := Lib.hid hf
    have e : prodF rowsH 8 l = [] := by simp [prodF, h]
    rw [e]
    clear hf h hr e
    go_enter Try.func31, Try.ntmps31
    go_wp2_with (go_at_call 43; refine HF.out.mono ?_; rintro e w' ⟨rfl, rfl⟩)
    go_ret
    exact ⟨_, _, rfl, Own.lit _ _ [] rfl (Nat.le_refl _) (by simp [maxLen]), (Below.refl _ _).alloc (Nat.le_refl _) _⟩
  · have hm : l.length = 64 ∧ allR (-1000000000) 1000000000 l = true := by simpa [fitsM] using h
    rw [h, hm.1] at hf
    have HF := Lib.hid hf
    have e : prodF rowsH 8 l = prodL (ent rowsH) l 8 := by simp [prodF, h]
    have hb0 : ∀ i, i < 64 → -1000000000 ≤ l.getD i 0 ∧ l.getD i 0 ≤ 1000000000 := fun i hi => allR_at hm.2 (by omega)
    have hb1 : ∀ i, i < 8 * 8 → -((8 : Nat) * (2 * 1000000000)) ≤ (rowsL (ent rowsH) l 8).getD i 0 ∧ (rowsL (ent rowsH) l 8).getD i 0 ≤ (8 : Nat) * (2 * 1000000000) := rowsL_bd (by decide) hb0
    have hb2 : ∀ i, i < 64 → -1000000000000 ≤ (turnL (rowsL (ent rowsH) l 8) 8).getD i 0 ∧ (turnL (rowsL (ent rowsH) l 8) 8).getD i 0 ≤ 1000000000000 := fun i hi => by
      unfold turnL
      rw [tab_getD _ _ _ hi]
      have := hb1 (i % 8 * 8 + i / 8) (by omega)
      omega
    have HR1 := Lib.hid (spec.l13Rows_8 a c l w hm.1 (by omega) hr (fun i hi => by have := hb0 i hi; omega))
    have HC : Hid (∀ (x : List Int) (b : Option Addr) (d : Nat) (w0 : World), x.length = 64 → Row w0 b x → Calls Try.prog 44 #[.slice b 64 d] w0 fun e w' => ∃ b d, e = .returned (.slice b 64 d) ∧ Own w0.heap.size w' b d (turnL x 8) ∧ Below w0.heap.size w0 w') := Lib.hid (fun x b d w0 hx hrx => by
      have h := spec.Columns_8 b d x w0 hx hrx
      exact h)
    have HR2 : Hid (∀ (b : Option Addr) (d : Nat) (w0 : World), 64 ≤ d → Row w0 b (turnL (rowsL (ent rowsH) l 8) 8) → Calls Try.prog 45 #[.slice b 64 d, .int .i64 8] w0 fun e w' => ∃ b d, e = .returned (.slice b 64 d) ∧ Own w0.heap.size w' b d (rowsL (ent rowsH) (turnL (rowsL (ent rowsH) l 8) 8) 8) ∧ Below w0.heap.size w0 w') := Lib.hid (fun b d w0 hd hrx => spec.l13Rows_8 b d _ w0 (by unfold turnL; rw [tab_len]) hd hrx hb2)
    obtain ⟨P, hP⟩ : ∃ P, P = prodL (ent rowsH) l 8 := ⟨_, rfl⟩
    have HEND : Hid (turnL (rowsL (ent rowsH) (turnL (rowsL (ent rowsH) l 8) 8) 8) 8 = P) := Lib.hid (by rw [hP]; exact prod_lift (ent rowsH) l 8)
    have HPL : Hid (P.length = 64) := Lib.hid (by rw [hP, prodL_len])
    have HL1 : Hid ((rowsL (ent rowsH) l 8).length = 64) := Lib.hid (by rw [rowsL, tab_len])
    have HL2 : Hid ((turnL (rowsL (ent rowsH) l 8) 8).length = 64) := Lib.hid (by rw [turnL, tab_len])
    have HL3 : Hid ((rowsL (ent rowsH) (turnL (rowsL (ent rowsH) l 8) 8) 8).length = 64) := Lib.hid (by rw [rowsL, tab_len])
    rw [e, ← hP, HPL.out, hm.1]
    clear hP
    generalize rowsL (ent rowsH) l 8 = x1 at *
    generalize hx2 : turnL x1 8 = x2 at *
    have HX2 := Lib.hid hx2
    clear hx2
    generalize rowsL (ent rowsH) x2 8 = x3 at *
    clear hf h hr e hm hb0 hb1 hb2 hl
    go_enter Try.func31, Try.ntmps31
    go_wp2_with fail
    refine HF.out.mono ?_
    rintro e w' ⟨rfl, rfl⟩
    go_wp2_with fail
    refine HR1.out.mono ?_
    rintro e w1 ⟨b1, d1, rfl, ho1, hb1⟩
    go_wp2_with fail
    refine (HC.out x1 b1 d1 w1 HL1.out ho1.row).mono ?_
    rintro e w2 ⟨b2, d2, rfl, ho2, hb2⟩
    rw [HX2.out] at ho2
    go_wp2_with fail
    refine (HR2.out b2 d2 w2 (by have := ho2.cap; rw [HL2.out] at this; exact this) ho2.row).mono ?_
    rintro e w3 ⟨b3, d3, rfl, ho3, hb3⟩
    go_wp2_with fail
    refine (HC.out x3 b3 d3 w3 HL3.out ho3.row).mono ?_
    rintro e w4 ⟨b4, d4, rfl, ho4, hb4⟩
    rw [HEND.out] at ho4
    have s1 := hb1.size
    have s2 := hb2.size
    have s3 := hb3.size
    have HO := Lib.hid (ho4.mono (B' := w.heap.size) (by omega))
    have HB : Hid (Below w.heap.size w w4) := Lib.hid (((hb1.trans (hb2.mono (by omega))).trans (hb3.mono (by omega))).trans (hb4.mono (by omega)))
    clear ho1 ho2 ho3 ho4 hb1 hb2 hb3 hb4 HC HR1 HR2
    go_wp2
    go_ret
    exact ⟨b4, d4, rfl, HO.out, HB.out⟩
theorem spec.Fast8_c (a : Option Addr) (c : Nat) (l : List Int) (w : World) (hl : l.length ≤ 1099511627776) (hr : Row w a l) (hw : ∀ x ∈ l, -9223372036854775808 ≤ x ∧ x ≤ 9223372036854775807) (hcap : l.length ≤ c) :
    Calls Try.prog 15 #[.slice a l.length c] w fun e w' => ∃ b d, e = .returned (.slice b (prodF rowsH 8 l).length d) ∧ Own w.heap.size w' b d (prodF rowsH 8 l) ∧ Below w.heap.size w w' := by
  have HP := Lib.hid (spec.l13Both_8 a c l w hl hr hcap)
  clear hr hw hcap
  go_enter Try.func15, Try.ntmps15
  go_wp2_with (go_at_call 31; refine HP.out.mono ?_; rintro e w1 ⟨b, d, rfl, ho, hb⟩)
  go_ret
  exact ⟨b, d, rfl, ho, hb⟩

end Go.Proofs.Ytchabkkpdafkiaa
