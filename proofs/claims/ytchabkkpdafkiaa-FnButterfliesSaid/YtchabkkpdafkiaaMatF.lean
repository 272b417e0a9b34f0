/- Contracts: the transforms by matrices. -/
import Derived.Test.YtchabkkpdafkiaaMatH
namespace Go.Proofs.Ytchabkkpdafkiaa
open Go.RowKit
set_option linter.unusedVariables false


set_option maxHeartbeats 1000000 in
theorem impl.product_no4 (p c : Nat) (a : Option Addr) (c2 : Nat) (l : List Int) (w : World) (hl : l.length ≤ 1099511627776) (hr : Row w a l) (h : fitsM 4 l = false) :
    Calls Try.prog 32 #[.slice (some ⟨p, 0, none⟩) 4 c, .slice a l.length c2] w fun e w' => e = .returned (.slice none 0 0) ∧ w = w' := by
  by_cases hn : l.length = 16
  · have ha : allR (-1000000000) 1000000000 l = false := by simpa [fitsM, hn] using h
    have hAW := impl.allWithin_c a c2 l (-1000000000) 1000000000 w (by omega) hr
    rw [ha, hn] at hAW
    have HAW := Lib.hid hAW
    rw [hn]
    clear hAW ha h hr hn
    go_enter Try.func32, Try.ntmps32
    go_wp2_with (go_at_call 46; refine HAW.out.mono ?_; rintro e w' ⟨rfl, rfl⟩)
    go_ret
    exact ⟨rfl, rfl⟩
  · have hne : ((l.length : Int) != 16) = true := by simp; omega
    clear h hr hn
    go_enter Try.func32, Try.ntmps32
    go_wp2
    go_ret
    exact ⟨rfl, rfl⟩
theorem impl.product_c4 (R : List (List Int)) (p c : Nat) (a : Option Addr) (c2 : Nat) (l : List Int) (w : World) (hR : R.length = 4) (hrow : ∀ r, r < R.length → (R.getD r []).length = 4) (hent : ∀ r, r < 4 → ∀ k, k < 4 → -2 ≤ ent R r k ∧ ent R r k ≤ 2)
    (hl : l.length ≤ 1099511627776) (hr : Row w a l) (hM : MatAt w p R) :
    Calls Try.prog 32 #[.slice (some ⟨p, 0, none⟩) 4 c, .slice a l.length c2] w fun e w' => ∃ b d, e = .returned (.slice b (prodF R 4 l).length d) ∧ Own w.heap.size w' b d (prodF R 4 l) ∧ Below w.heap.size w w' := by
  cases h : fitsM 4 l
  · have e : prodF R 4 l = [] := by simp [prodF, h]
    rw [e]
    exact (impl.product_no4 p c a c2 l w hl hr h).mono (by rintro e w' ⟨rfl, rfl⟩; exact ⟨none, 0, rfl, Own.none_ _ _, Below.refl _ _⟩)
  · have e : prodF R 4 l = prodL (ent R) l 4 := by simp [prodF, h]
    have hm : l.length = 16 ∧ allR (-1000000000) 1000000000 l = true := by simpa [fitsM] using h
    rw [e, prodL_len, hm.1]
    exact impl.product_4 R p c a c2 l w hR hrow hent hm.1 hm.2 hr hM
set_option maxHeartbeats 1000000 in
theorem impl.product_no8 (p c : Nat) (a : Option Addr) (c2 : Nat) (l : List Int) (w : World) (hl : l.length ≤ 1099511627776) (hr : Row w a l) (h : fitsM 8 l = false) :
    Calls Try.prog 32 #[.slice (some ⟨p, 0, none⟩) 8 c, .slice a l.length c2] w fun e w' => e = .returned (.slice none 0 0) ∧ w = w' := by
  by_cases hn : l.length = 64
  · have ha : allR (-1000000000) 1000000000 l = false := by simpa [fitsM, hn] using h
    have hAW := impl.allWithin_c a c2 l (-1000000000) 1000000000 w (by omega) hr
    rw [ha, hn] at hAW
    have HAW := Lib.hid hAW
    rw [hn]
    clear hAW ha h hr hn
    go_enter Try.func32, Try.ntmps32
    go_wp2_with (go_at_call 46; refine HAW.out.mono ?_; rintro e w' ⟨rfl, rfl⟩)
    go_ret
    exact ⟨rfl, rfl⟩
  · have hne : ((l.length : Int) != 64) = true := by simp; omega
    clear h hr hn
    go_enter Try.func32, Try.ntmps32
    go_wp2
    go_ret
    exact ⟨rfl, rfl⟩
theorem impl.product_c8 (R : List (List Int)) (p c : Nat) (a : Option Addr) (c2 : Nat) (l : List Int) (w : World) (hR : R.length = 8) (hrow : ∀ r, r < R.length → (R.getD r []).length = 8) (hent : ∀ r, r < 8 → ∀ k, k < 8 → -2 ≤ ent R r k ∧ ent R r k ≤ 2)
    (hl : l.length ≤ 1099511627776) (hr : Row w a l) (hM : MatAt w p R) :
    Calls Try.prog 32 #[.slice (some ⟨p, 0, none⟩) 8 c, .slice a l.length c2] w fun e w' => ∃ b d, e = .returned (.slice b (prodF R 8 l).length d) ∧ Own w.heap.size w' b d (prodF R 8 l) ∧ Below w.heap.size w w' := by
  cases h : fitsM 8 l
  · have e : prodF R 8 l = [] := by simp [prodF, h]
    rw [e]
    exact (impl.product_no8 p c a c2 l w hl hr h).mono (by rintro e w' ⟨rfl, rfl⟩; exact ⟨none, 0, rfl, Own.none_ _ _, Below.refl _ _⟩)
  · have e : prodF R 8 l = prodL (ent R) l 8 := by simp [prodF, h]
    have hm : l.length = 64 ∧ allR (-1000000000) 1000000000 l = true := by simpa [fitsM] using h
    rw [e, prodL_len, hm.1]
    exact impl.product_8 R p c a c2 l w hR hrow hent hm.1 hm.2 hr hM


theorem impl.Forward8_c (a : Option Addr) (c : Nat) (l : List Int) (w : World) (hl : l.length ≤ 1099511627776) (hr : Row w a l) (hw : ∀ x ∈ l, -9223372036854775808 ≤ x ∧ x ≤ 9223372036854775807) :
    Calls Try.prog 20 #[.slice a l.length c] w fun e w' => ∃ b d, e = .returned (.slice b (prodF rowsH 8 l).length d) ∧ Own w.heap.size w' b d (prodF rowsH 8 l) ∧ Below w.heap.size w w' := by
  have hp := fun p c1 w0 (h : Row w0 a l) (hM : MatAt w0 p rowsH) => impl.product_c8 rowsH p c1 a c l w0 rfl (by decide) (by decide) hl h hM
  have HP := Lib.hid hp
  have HR : Hid (∀ w0, Below w.heap.size w w0 → Row w0 a l) := Lib.hid (fun w0 h => hr.below h (Nat.le_refl _))
  clear hp hr hw
  go_enter Try.func20, Try.ntmps20
  go_wp2_with (first
    | (go_at_call 33; refine (impl.matrixH_c _).mono ?_; rintro e w1 ⟨p, c1, rfl, hM, hb⟩)
    | (go_at_call 32; refine (HP.out p c1 _ (HR.out _ hb) hM).mono ?_; rintro e w2 ⟨b, d, rfl, ho, hb2⟩))
  go_ret
  exact ⟨b, d, rfl, ho.mono hb.size, hb.trans (hb2.mono hb.size)⟩


theorem impl.Inverse8_c (a : Option Addr) (c : Nat) (l : List Int) (w : World) (hl : l.length ≤ 1099511627776) (hr : Row w a l) (hw : ∀ x ∈ l, -9223372036854775808 ≤ x ∧ x ≤ 9223372036854775807) :
    Calls Try.prog 19 #[.slice a l.length c] w fun e w' => ∃ b d, e = .returned (.slice b (prodF rowsH 8 l).length d) ∧ Own w.heap.size w' b d (prodF rowsH 8 l) ∧ Below w.heap.size w w' := by
  have hp := fun p c1 w0 (h : Row w0 a l) (hM : MatAt w0 p rowsH) => impl.product_c8 rowsH p c1 a c l w0 rfl (by decide) (by decide) hl h hM
  have HP := Lib.hid hp
  have HR : Hid (∀ w0, Below w.heap.size w w0 → Row w0 a l) := Lib.hid (fun w0 h => hr.below h (Nat.le_refl _))
  clear hp hr hw
  go_enter Try.func19, Try.ntmps19
  go_wp2_with (first
    | (go_at_call 33; refine (impl.matrixH_c _).mono ?_; rintro e w1 ⟨p, c1, rfl, hM, hb⟩)
    | (go_at_call 32; refine (HP.out p c1 _ (HR.out _ hb) hM).mono ?_; rintro e w2 ⟨b, d, rfl, ho, hb2⟩))
  go_ret
  exact ⟨b, d, rfl, ho.mono hb.size, hb.trans (hb2.mono hb.size)⟩


theorem impl.Inverse4_c (a : Option Addr) (c : Nat) (l : List Int) (w : World) (hl : l.length ≤ 1099511627776) (hr : Row w a l) (hw : ∀ x ∈ l, -9223372036854775808 ≤ x ∧ x ≤ 9223372036854775807) :
    Calls Try.prog 21 #[.slice a l.length c] w fun e w' => ∃ b d, e = .returned (.slice b (prodF rowsA 4 l).length d) ∧ Own w.heap.size w' b d (prodF rowsA 4 l) ∧ Below w.heap.size w w' := by
  have hp := fun p c1 w0 (h : Row w0 a l) (hM : MatAt w0 p rowsA) => impl.product_c4 rowsA p c1 a c l w0 rfl (by decide) (by decide) hl h hM
  have HP := Lib.hid hp
  have ht := fun p c1 w0 (hM : MatAt w0 p rowsA0) => impl.turned_c rowsA0 p c1 w0 rfl (by decide) hM
  rw [show ((List.range 4).map fun r => tab (fun k => ent rowsA0 k r) 4) = rowsA from by decide] at ht
  have HT := Lib.hid ht
  have HR : Hid (∀ w0, Below w.heap.size w w0 → Row w0 a l) := Lib.hid (fun w0 h => hr.below h (Nat.le_refl _))
  clear hp hr hw ht
  go_enter Try.func21, Try.ntmps21
  go_wp2_with (first
    | (go_at_call 35; refine (impl.matrixA_c _).mono ?_; rintro e w1 ⟨p, c1, rfl, hM, hb⟩)
    | (go_at_call 34; refine (HT.out p c1 _ hM).mono ?_; rintro e w2 ⟨p2, c2, rfl, hM2, hb2⟩)
    | (go_at_call 32; refine (HP.out p2 c2 _ (HR.out _ (hb.trans (hb2.mono hb.size))) hM2).mono ?_; rintro e w3 ⟨b, d, rfl, ho, hb3⟩))
  go_ret
  have hs := Nat.le_trans hb.size hb2.size
  exact ⟨b, d, rfl, ho.mono hs, (hb.trans (hb2.mono hb.size)).trans (hb3.mono hs)⟩


theorem impl.Fast4_c (a : Option Addr) (c : Nat) (l : List Int) (w : World) (hl : l.length ≤ 1099511627776) (hr : Row w a l) (hw : ∀ x ∈ l, -9223372036854775808 ≤ x ∧ x ≤ 9223372036854775807) :
    Calls Try.prog 11 #[.slice a l.length c] w fun e w' => ∃ b d, e = .returned (.slice b (prodF rowsA 4 l).length d) ∧ Own w.heap.size w' b d (prodF rowsA 4 l) ∧ Below w.heap.size w w' := by
  have HP := Lib.hid (impl.Inverse4_c a c l w hl hr hw)
  clear hr hw
  go_enter Try.func11, Try.ntmps11
  go_wp2_with (go_at_call 21; refine HP.out.mono ?_; rintro e w1 ⟨b, d, rfl, ho, hb⟩)
  go_ret
  exact ⟨b, d, rfl, ho, hb⟩


theorem impl.Fast8_c (a : Option Addr) (c : Nat) (l : List Int) (w : World) (hl : l.length ≤ 1099511627776) (hr : Row w a l) (hw : ∀ x ∈ l, -9223372036854775808 ≤ x ∧ x ≤ 9223372036854775807) :
    Calls Try.prog 16 #[.slice a l.length c] w fun e w' => ∃ b d, e = .returned (.slice b (prodF rowsH 8 l).length d) ∧ Own w.heap.size w' b d (prodF rowsH 8 l) ∧ Below w.heap.size w w' := by
  have HP := Lib.hid (impl.Inverse8_c a c l w hl hr hw)
  clear hr hw
  go_enter Try.func16, Try.ntmps16
  go_wp2_with (go_at_call 19; refine HP.out.mono ?_; rintro e w1 ⟨b, d, rfl, ho, hb⟩)
  go_ret
  exact ⟨b, d, rfl, ho, hb⟩

end Go.Proofs.Ytchabkkpdafkiaa
