/- Contracts: a row of the slope. -/
import Derived.Test.YtbdggcefgiehkaaPred
import Derived.Test.YtbdggcefgiehkaaRec2
namespace Go.Proofs.Ytbdggcefgiehkaa
open Go.RowKit
set_option linter.unusedVariables false

def slopeAt (l m : List Int) (C : Int) (y x : Nat) : Int := clipF 0 255 (m.getD y 0 + l.getD x 0 - C)
def slopeL (l m : List Int) (C : Int) (n y : Nat) : List Int := tab (slopeAt l m C y) n
def slopeB (l m : List Int) (C n y : Int) : Bool := nbB l m C n && inR 0 (n - 1) y
def slopeF (l m : List Int) (C n y : Int) : List Int := if slopeB l m C n y = true then slopeL l m C n.toNat y.toNat else []
theorem slopeF_len (l m : List Int) (C n y : Int) : (slopeF l m C n y).length ≤ 1048576 := by
  unfold slopeF
  split
  · rename_i h
    simp only [slopeB, Bool.and_eq_true] at h
    unfold slopeL
    rw [tab_len]
    rcases (nbB_true h.1).1 with rfl | rfl <;> decide
  · simp
theorem cad_slope {l m : List Int} {C : Int} {y k : Nat} (h : k + 4 ≤ l.length) (hall : allR 0 255 l = true) (hd : -1023 ≤ m.getD y 0 - C ∧ m.getD y 0 - C ≤ 1023) :
    cadF (cut4 l k) [m.getD y 0 - C, m.getD y 0 - C, m.getD y 0 - C, m.getD y 0 - C] = tab (fun i => slopeAt l m C y (k + i)) 4 := by
  have hok : cadOk (cut4 l k) [m.getD y 0 - C, m.getD y 0 - C, m.getD y 0 - C, m.getD y 0 - C] = true := by
    have h1 := cut4_len h
    have h2 : allR 0 255 (cut4 l k) = true := allR_mk (fun i hi => by rw [h1] at hi; rw [cut4_at hi]; exact inR_mk (allR_at hall (by omega)))
    simp [cadOk, h1, h2]
  rw [cadF, if_pos hok]
  apply tab_congr
  intro i hi
  unfold cadAt slopeAt
  rw [cut4_at hi]
  have e : ([m.getD y 0 - C, m.getD y 0 - C, m.getD y 0 - C, m.getD y 0 - C] : List Int).getD i 0 = m.getD y 0 - C := by
    have : i = 0 ∨ i = 1 ∨ i = 2 ∨ i = 3 := by omega
    rcases this with rfl | rfl | rfl | rfl <;> rfl
  rw [e]
  unfold clipF
  omega


set_option maxHeartbeats 4000000 in
theorem impl.SlopeRow_4 (a : Option Addr) (c : Nat) (l : List Int) (b : Option Addr) (d : Nat) (m : List Int) (C : Int) (T L : Bool) (Y : Nat) (w : World) (hN : NbAll w a l b m 4) (hok : nbB l m C 4 = true) (hcl : l.length ≤ c) (hY : Y < 4) :
    Calls Try.prog 20 #[nbv a l.length c b m.length d C T L, .int .i64 4, .int .i64 Y] w fun e w' => ∃ x y, e = .returned (.slice x 4 y) ∧ Own w.heap.size w' x y (slopeL l m C 4 Y) ∧ Below w.heap.size w w' := by
  have HN : Hid (∀ w0, Below w.heap.size w w0 → NbAll w0 a l b m 4) := Lib.hid (fun w0 h => ⟨hN.hl, hN.hm, hN.hr.below h (Nat.le_refl _), hN.hs.below h (Nat.le_refl _), hN.tl, hN.tm⟩)
  have HALL : Hid (allR 0 255 l = true) := Lib.hid (nbB_true hok).2.2.2.1
  have hCb := (nbB_true hok).2.2.2.2.2
  obtain ⟨hC0, hC1⟩ := hCb
  obtain ⟨hl, hm, hr, hs, htl, htm⟩ := hN
  have hcall := fun (w0 : World) (h : NbAll w0 a l b m 4) => impl.NbOk_4 a c l b d m C T L w0 (by omega) h.hr (by omega) h.hs
  have hpred := fun (w0 : World) (h : NbAll w0 a l b m 4) (X : Nat) (hX : X < 4) => impl.PredAt_4_3 a c l b d m C T L X Y w0 h hok hcl hX hY
  simp only [hok] at hcall
  obtain ⟨my0, my1⟩ := htm Y hY
  obtain ⟨p1, o1, rfl, hb1, hc1⟩ := hr.inside (by omega)
  obtain ⟨p2, o2, rfl, hb2, hc2⟩ := hs.inside (by omega)
  have HC1 : Hid (∀ w0, Below w.heap.size w w0 → ∀ i, i < l.length → w0.cell? ⟨p1, o1 + i, none⟩ = some (.int .i64 (l.getD i 0))) := Lib.hid (fun w0 h i hi => (bcell h _ _ hb1).trans (hc1 i hi))
  have HC2 : Hid (∀ w0, Below w.heap.size w w0 → ∀ i, i < 4 → w0.cell? ⟨p2, o2 + i, none⟩ = some (.int .i64 (m.getD i 0))) := Lib.hid (fun w0 h i hi => (bcell h _ _ hb2).trans (hc2 i (by omega)))
  have HLL := Lib.hid hl
  have HT1 := Lib.hid htl
  rw [hl, hm] at hcall hpred ⊢
  rw [hl] at hcl
  simp only [Nat.reduceMul] at hcall hpred ⊢ hcl
  have HC := Lib.hid hcall
  have HP := Lib.hid hpred
  clear hcall hpred hr hs hc1 hc2 hl hm htl htm hok
  have hy : inR 0 3 (Y : Int) = true := inR_mk (by omega)
  go_enter Try.func20, Try.ntmps20
  go_wp2_with fail
  obtain ⟨W0, hW0⟩ : ∃ WW, WW = w.alloc (.cells #[.slice (some ⟨p1, o1, none⟩) 8 c, .slice (some ⟨p2, o2, none⟩) 4 d, .int .i64 C, .bool T, .bool L] 27) := ⟨_, rfl⟩
  rw [← hW0]
  have P0 : Box5 W0 w.heap.size (.slice (some ⟨p1, o1, none⟩) 8 c) (.slice (some ⟨p2, o2, none⟩) 4 d) (.int .i64 C) (.bool T) (.bool L) := by rw [hW0]; exact Box5.new w _ _ _ _ _ _
  have HB0 : Hid (Below w.heap.size w W0) := Lib.hid (by rw [hW0]; exact (Below.refl w.heap.size w).alloc (Nat.le_refl _) _)
  clear hW0
  refine (HC.out W0 (HN.out W0 HB0.out)).mono ?_
  rintro e w1 ⟨rfl, hb⟩
  have P1 := P0.below hb (Nat.le_refl _)
  have HB : Hid (Below w.heap.size w w1) := Lib.hid (HB0.out.trans (hb.mono HB0.out.size))
  clear hb P0 HB0 HC
  go_wp2_with (go_at_call 51; refine (within_c _ _ _ _).mono ?_; rintro e w' ⟨rfl, rfl⟩)
  go_loopw [7, 22] (fun o i wr => ∃ (k : Nat) (ad : Option Addr) (cc : Nat), k ≤ 4 ∧ i = .int .i64 k ∧ o = .slice ad k cc ∧ Own (w.heap.size + 1) wr ad cc (tab (slopeAt l m C Y) k) ∧ Below w.heap.size w wr ∧ Box5 wr w.heap.size (.slice (some ⟨p1, o1, none⟩) 8 c) (.slice (some ⟨p2, o2, none⟩) 4 d) (.int .i64 C) (.bool T) (.bool L)) (fun _ i _ => 4 - (intOf i).toNat)
  case atStart => exact ⟨0, _, _, Nat.zero_le _, rfl, rfl, Own.lit _ _ [] rfl (by have := P1.1; omega) (by simp [maxLen]), HB.out.alloc HB.out.size _, P1.below ((Below.refl _ _).alloc (Nat.le_refl _) _) (Nat.le_refl _)⟩
  case round =>
    clear P1 HB
    obtain ⟨k, ad, cc, hk, rfl, rfl, hown, hb, P⟩ := hrel
    have hwz : w.heap.size < wr.heap.size := P.1
    by_cases hlt : k < 4
    · have HPr := Lib.hid (HP.out wr (HN.out wr hb) k hlt)
      have HY : Hid (slopeAt l m C Y k = predV l m C T L 4 3 k Y) := Lib.hid rfl
      have H1 := Lib.hid hown
      have H2 := Lib.hid hb
      have HPB := Lib.hid P
      obtain ⟨_, q0, q1, q2, q3, q4⟩ := P
      generalize predV l m C T L 4 3 k Y = v at *
      clear hown hb
      have hkb : k ≤ 1099511627776 := by omega
      go_wp2_with (first
        | (go_at_call 27; refine HPr.out.mono ?_; rintro e w3 ⟨rfl, hb2⟩)
        | (at_builtin; refine append_one Try.underlying25 Try.infoInt rfl (.tmp 25) (.tmp 31) rfl (w.heap.size + 1) ad cc k (tab (slopeAt l m C Y) k) (tab_len _ _) rfl ((H1.out.below hb2 (Nat.le_refl _)).alloc _) w3.heap.size v rfl ?_ ?_ ?_ ?_; (simp); (omega); (have := hb2.size; simp; omega); intro ad1 cc1 w4 hown1 hb3))
      rw [← HY.out, ← tab_succ] at hown1
      have H3 := Lib.hid hown1
      have hs2 : wr.heap.size ≤ w3.heap.size := hb2.size
      have H4 : Hid (Below w.heap.size w w4) := Lib.hid ((H2.out.trans (hb2.mono (by omega))).trans (((Below.refl _ _).alloc (by omega) (Obj.cells #[.int .i64 v] 3)).trans (hb3.mono (by omega))))
      have H5 : Hid (Box5 w4 w.heap.size (.slice (some ⟨p1, o1, none⟩) 8 c) (.slice (some ⟨p2, o2, none⟩) 4 d) (.int .i64 C) (.bool T) (.bool L)) := Lib.hid (by
        have h := (HPB.out.below hb2 (Nat.le_refl _)).below ((Below.refl _ _).alloc (Nat.le_refl _) (Obj.cells #[.int .i64 v] 3)) (Nat.le_refl _)
        exact ⟨Nat.lt_of_lt_of_le h.1 hb3.size, (bcell hb3 _ _ (by omega)).trans h.2.1, (bcell hb3 _ _ (by omega)).trans h.2.2.1, (bcell hb3 _ _ (by omega)).trans h.2.2.2.1, (bcell hb3 _ _ (by omega)).trans h.2.2.2.2.1, (bcell hb3 _ _ (by omega)).trans h.2.2.2.2.2⟩)
      clear hown1 hb3 hb2 q0 q1 q2 q3 q4
      go_wp2
      go_roundw
      case rel => exact ⟨k + 1, ad1, cc1, by omega, by go_num, rfl, H3.out, H4.out, H5.out⟩
      case measure => simp [intOf]; omega
    · obtain rfl : k = 4 := by omega
      have H1 := Lib.hid hown
      have H2 := Lib.hid hb
      clear hown hb P
      go_wp2
      go_ret
      exact ⟨ad, cc, rfl, H1.out.mono (by omega), H2.out⟩
set_option maxHeartbeats 4000000 in
theorem impl.SlopeRow_8 (a : Option Addr) (c : Nat) (l : List Int) (b : Option Addr) (d : Nat) (m : List Int) (C : Int) (T L : Bool) (Y : Nat) (w : World) (hN : NbAll w a l b m 8) (hok : nbB l m C 8 = true) (hcl : l.length ≤ c) (hY : Y < 8) :
    Calls Try.prog 20 #[nbv a l.length c b m.length d C T L, .int .i64 8, .int .i64 Y] w fun e w' => ∃ x y, e = .returned (.slice x 8 y) ∧ Own w.heap.size w' x y (slopeL l m C 8 Y) ∧ Below w.heap.size w w' := by
  have HN : Hid (∀ w0, Below w.heap.size w w0 → NbAll w0 a l b m 8) := Lib.hid (fun w0 h => ⟨hN.hl, hN.hm, hN.hr.below h (Nat.le_refl _), hN.hs.below h (Nat.le_refl _), hN.tl, hN.tm⟩)
  have HALL : Hid (allR 0 255 l = true) := Lib.hid (nbB_true hok).2.2.2.1
  have hCb := (nbB_true hok).2.2.2.2.2
  obtain ⟨hC0, hC1⟩ := hCb
  obtain ⟨hl, hm, hr, hs, htl, htm⟩ := hN
  have hcall := fun (w0 : World) (h : NbAll w0 a l b m 8) => impl.NbOk_8 a c l b d m C T L w0 (by omega) h.hr (by omega) h.hs
  have hpred := fun (w0 : World) (h : NbAll w0 a l b m 8) (X : Nat) (hX : X < 8) => impl.PredAt_8_3 a c l b d m C T L X Y w0 h hok hcl hX hY
  simp only [hok] at hcall
  obtain ⟨my0, my1⟩ := htm Y hY
  obtain ⟨p1, o1, rfl, hb1, hc1⟩ := hr.inside (by omega)
  obtain ⟨p2, o2, rfl, hb2, hc2⟩ := hs.inside (by omega)
  have HC1 : Hid (∀ w0, Below w.heap.size w w0 → ∀ i, i < l.length → w0.cell? ⟨p1, o1 + i, none⟩ = some (.int .i64 (l.getD i 0))) := Lib.hid (fun w0 h i hi => (bcell h _ _ hb1).trans (hc1 i hi))
  have HC2 : Hid (∀ w0, Below w.heap.size w w0 → ∀ i, i < 8 → w0.cell? ⟨p2, o2 + i, none⟩ = some (.int .i64 (m.getD i 0))) := Lib.hid (fun w0 h i hi => (bcell h _ _ hb2).trans (hc2 i (by omega)))
  have HLL := Lib.hid hl
  have HT1 := Lib.hid htl
  rw [hl, hm] at hcall hpred ⊢
  rw [hl] at hcl
  simp only [Nat.reduceMul] at hcall hpred ⊢ hcl
  have HC := Lib.hid hcall
  have HP := Lib.hid hpred
  clear hcall hpred hr hs hc1 hc2 hl hm htl htm hok
  have hy : inR 0 7 (Y : Int) = true := inR_mk (by omega)
  go_enter Try.func20, Try.ntmps20
  go_wp2_with fail
  obtain ⟨W0, hW0⟩ : ∃ WW, WW = w.alloc (.cells #[.slice (some ⟨p1, o1, none⟩) 16 c, .slice (some ⟨p2, o2, none⟩) 8 d, .int .i64 C, .bool T, .bool L] 27) := ⟨_, rfl⟩
  rw [← hW0]
  have P0 : Box5 W0 w.heap.size (.slice (some ⟨p1, o1, none⟩) 16 c) (.slice (some ⟨p2, o2, none⟩) 8 d) (.int .i64 C) (.bool T) (.bool L) := by rw [hW0]; exact Box5.new w _ _ _ _ _ _
  have HB0 : Hid (Below w.heap.size w W0) := Lib.hid (by rw [hW0]; exact (Below.refl w.heap.size w).alloc (Nat.le_refl _) _)
  clear hW0
  refine (HC.out W0 (HN.out W0 HB0.out)).mono ?_
  rintro e w1 ⟨rfl, hb⟩
  have P1 := P0.below hb (Nat.le_refl _)
  have HB : Hid (Below w.heap.size w w1) := Lib.hid (HB0.out.trans (hb.mono HB0.out.size))
  clear hb P0 HB0 HC
  go_wp2_with (go_at_call 51; refine (within_c _ _ _ _).mono ?_; rintro e w' ⟨rfl, rfl⟩)
  go_loopw [7, 22] (fun o i wr => ∃ (k : Nat) (ad : Option Addr) (cc : Nat), k ≤ 8 ∧ i = .int .i64 k ∧ o = .slice ad k cc ∧ Own (w.heap.size + 1) wr ad cc (tab (slopeAt l m C Y) k) ∧ Below w.heap.size w wr ∧ Box5 wr w.heap.size (.slice (some ⟨p1, o1, none⟩) 16 c) (.slice (some ⟨p2, o2, none⟩) 8 d) (.int .i64 C) (.bool T) (.bool L)) (fun _ i _ => 8 - (intOf i).toNat)
  case atStart => exact ⟨0, _, _, Nat.zero_le _, rfl, rfl, Own.lit _ _ [] rfl (by have := P1.1; omega) (by simp [maxLen]), HB.out.alloc HB.out.size _, P1.below ((Below.refl _ _).alloc (Nat.le_refl _) _) (Nat.le_refl _)⟩
  case round =>
    clear P1 HB
    obtain ⟨k, ad, cc, hk, rfl, rfl, hown, hb, P⟩ := hrel
    have hwz : w.heap.size < wr.heap.size := P.1
    by_cases hlt : k < 8
    · have HPr := Lib.hid (HP.out wr (HN.out wr hb) k hlt)
      have HY : Hid (slopeAt l m C Y k = predV l m C T L 8 3 k Y) := Lib.hid rfl
      have H1 := Lib.hid hown
      have H2 := Lib.hid hb
      have HPB := Lib.hid P
      obtain ⟨_, q0, q1, q2, q3, q4⟩ := P
      generalize predV l m C T L 8 3 k Y = v at *
      clear hown hb
      have hkb : k ≤ 1099511627776 := by omega
      go_wp2_with (first
        | (go_at_call 27; refine HPr.out.mono ?_; rintro e w3 ⟨rfl, hb2⟩)
        | (at_builtin; refine append_one Try.underlying25 Try.infoInt rfl (.tmp 25) (.tmp 31) rfl (w.heap.size + 1) ad cc k (tab (slopeAt l m C Y) k) (tab_len _ _) rfl ((H1.out.below hb2 (Nat.le_refl _)).alloc _) w3.heap.size v rfl ?_ ?_ ?_ ?_; (simp); (omega); (have := hb2.size; simp; omega); intro ad1 cc1 w4 hown1 hb3))
      rw [← HY.out, ← tab_succ] at hown1
      have H3 := Lib.hid hown1
      have hs2 : wr.heap.size ≤ w3.heap.size := hb2.size
      have H4 : Hid (Below w.heap.size w w4) := Lib.hid ((H2.out.trans (hb2.mono (by omega))).trans (((Below.refl _ _).alloc (by omega) (Obj.cells #[.int .i64 v] 3)).trans (hb3.mono (by omega))))
      have H5 : Hid (Box5 w4 w.heap.size (.slice (some ⟨p1, o1, none⟩) 16 c) (.slice (some ⟨p2, o2, none⟩) 8 d) (.int .i64 C) (.bool T) (.bool L)) := Lib.hid (by
        have h := (HPB.out.below hb2 (Nat.le_refl _)).below ((Below.refl _ _).alloc (Nat.le_refl _) (Obj.cells #[.int .i64 v] 3)) (Nat.le_refl _)
        exact ⟨Nat.lt_of_lt_of_le h.1 hb3.size, (bcell hb3 _ _ (by omega)).trans h.2.1, (bcell hb3 _ _ (by omega)).trans h.2.2.1, (bcell hb3 _ _ (by omega)).trans h.2.2.2.1, (bcell hb3 _ _ (by omega)).trans h.2.2.2.2.1, (bcell hb3 _ _ (by omega)).trans h.2.2.2.2.2⟩)
      clear hown1 hb3 hb2 q0 q1 q2 q3 q4
      go_wp2
      go_roundw
      case rel => exact ⟨k + 1, ad1, cc1, by omega, by go_num, rfl, H3.out, H4.out, H5.out⟩
      case measure => simp [intOf]; omega
    · obtain rfl : k = 8 := by omega
      have H1 := Lib.hid hown
      have H2 := Lib.hid hb
      clear hown hb P
      go_wp2
      go_ret
      exact ⟨ad, cc, rfl, H1.out.mono (by omega), H2.out⟩
set_option maxHeartbeats 1000000 in
theorem impl.SlopeRow_c (a : Option Addr) (c : Nat) (l : List Int) (b : Option Addr) (d : Nat) (m : List Int) (C : Int) (T L : Bool) (n y : Int) (w : World) (hl : l.length ≤ 1099511627776) (hr : Row w a l) (hw : ∀ x ∈ l, -9223372036854775808 ≤ x ∧ x ≤ 9223372036854775807) (hm : m.length ≤ 1099511627776) (hs : Row w b m) (hu : ∀ x ∈ m, -9223372036854775808 ≤ x ∧ x ≤ 9223372036854775807) (hC : -9223372036854775808 ≤ C ∧ C ≤ 9223372036854775807) (hcl : l.length ≤ c) (hcm : m.length ≤ d) :
    Calls Try.prog 20 #[nbv a l.length c b m.length d C T L, .int .i64 n, .int .i64 y] w fun e w' => ∃ x z, e = .returned (.slice x (slopeF l m C n y).length z) ∧ Own w.heap.size w' x z (slopeF l m C n y) ∧ Below w.heap.size w w' := by
  have hcall := fun t => impl.NbOk_c a c l b d m C T L n (w.alloc (.cells #[.slice a l.length c, .slice b m.length d, .int .i64 C, .bool T, .bool L] t)) hl (hr.alloc _) hw hm (hs.alloc _) hu hC
  cases h : nbB l m C n
  · simp only [h] at hcall
    have HC := Lib.hid hcall
    have hf : slopeF l m C n y = [] := by simp [slopeF, slopeB, h]
    rw [hf]
    clear hcall h hl hr hw hm hs hu hC hcl hcm hf
    go_enter Try.func20, Try.ntmps20
    go_wp2_with fail
    refine (HC.out _).mono ?_
    rintro e w1 ⟨rfl, hb⟩
    have HB : Hid (Below w.heap.size w w1) := Lib.hid (((Below.refl w.heap.size w).alloc (Nat.le_refl _) _).trans (hb.mono (by simp)))
    clear hb
    go_wp2
    go_ret
    exact ⟨none, 0, rfl, Own.none_ _ _, HB.out⟩
  · have h48 := (nbB_true h).1
    cases hy : inR 0 (n - 1) y
    · simp only [h] at hcall
      have HC := Lib.hid hcall
      have hf : slopeF l m C n y = [] := by simp [slopeF, slopeB, hy]
      rw [hf]
      clear hcall h hl hr hw hm hs hu hC hcl hcm hf
      rcases h48 with rfl | rfl
      · have hy' : inR 0 3 y = false := hy
        clear hy
        go_enter Try.func20, Try.ntmps20
        go_wp2_with fail
        refine (HC.out _).mono ?_
        rintro e w1 ⟨rfl, hb⟩
        have HB : Hid (Below w.heap.size w w1) := Lib.hid (((Below.refl w.heap.size w).alloc (Nat.le_refl _) _).trans (hb.mono (by simp)))
        clear hb
        go_wp2_with (go_at_call 51; refine (within_c _ _ _ _).mono ?_; rintro e w' ⟨rfl, rfl⟩)
        go_ret
        exact ⟨none, 0, rfl, Own.none_ _ _, HB.out⟩
      · have hy' : inR 0 7 y = false := hy
        clear hy
        go_enter Try.func20, Try.ntmps20
        go_wp2_with fail
        refine (HC.out _).mono ?_
        rintro e w1 ⟨rfl, hb⟩
        have HB : Hid (Below w.heap.size w w1) := Lib.hid (((Below.refl w.heap.size w).alloc (Nat.le_refl _) _).trans (hb.mono (by simp)))
        clear hb
        go_wp2_with (go_at_call 51; refine (within_c _ _ _ _).mono ?_; rintro e w' ⟨rfl, rfl⟩)
        go_ret
        exact ⟨none, 0, rfl, Own.none_ _ _, HB.out⟩
    · have hf : slopeF l m C n y = slopeL l m C n.toNat y.toNat := by simp [slopeF, slopeB, h, hy]
      rw [hf]
      have hy := inR_true hy
      obtain ⟨Y, rfl⟩ := Int.eq_ofNat_of_zero_le hy.1
      clear hcall
      rcases h48 with rfl | rfl
      · exact impl.SlopeRow_4 a c l b d m C T L Y w (nb_all hr hs h) h hcl (by omega)
      · exact impl.SlopeRow_8 a c l b d m C T L Y w (nb_all hr hs h) h hcl (by omega)


set_option maxHeartbeats 4000000 in
theorem spec.SlopeRow_4 (a : Option Addr) (c : Nat) (l : List Int) (b : Option Addr) (d : Nat) (m : List Int) (C : Int) (T L : Bool) (Y : Nat) (w : World) (hN : NbAll w a l b m 4) (hok : nbB l m C 4 = true) (hcl : l.length ≤ c) (hY : Y < 4) :
    Calls Try.prog 21 #[nbv a l.length c b m.length d C T L, .int .i64 4, .int .i64 Y] w fun e w' => ∃ x y, e = .returned (.slice x 4 y) ∧ Own w.heap.size w' x y (slopeL l m C 4 Y) ∧ Below w.heap.size w w' := by
  have HN : Hid (∀ w0, Below w.heap.size w w0 → NbAll w0 a l b m 4) := Lib.hid (fun w0 h => ⟨hN.hl, hN.hm, hN.hr.below h (Nat.le_refl _), hN.hs.below h (Nat.le_refl _), hN.tl, hN.tm⟩)
  have HALL : Hid (allR 0 255 l = true) := Lib.hid (nbB_true hok).2.2.2.1
  have hCb := (nbB_true hok).2.2.2.2.2
  obtain ⟨hC0, hC1⟩ := hCb
  obtain ⟨hl, hm, hr, hs, htl, htm⟩ := hN
  have hcall := fun (w0 : World) (h : NbAll w0 a l b m 4) => spec.NbOk_4 a c l b d m C T L w0 (by omega) h.hr (by omega) h.hs
  simp only [hok] at hcall
  obtain ⟨my0, my1⟩ := htm Y hY
  obtain ⟨p1, o1, rfl, hb1, hc1⟩ := hr.inside (by omega)
  obtain ⟨p2, o2, rfl, hb2, hc2⟩ := hs.inside (by omega)
  have HC1 : Hid (∀ w0, Below w.heap.size w w0 → ∀ i, i < l.length → w0.cell? ⟨p1, o1 + i, none⟩ = some (.int .i64 (l.getD i 0))) := Lib.hid (fun w0 h i hi => (bcell h _ _ hb1).trans (hc1 i hi))
  have HC2 : Hid (∀ w0, Below w.heap.size w w0 → ∀ i, i < 4 → w0.cell? ⟨p2, o2 + i, none⟩ = some (.int .i64 (m.getD i 0))) := Lib.hid (fun w0 h i hi => (bcell h _ _ hb2).trans (hc2 i (by omega)))
  have HLL := Lib.hid hl
  have HT1 := Lib.hid htl
  rw [hl, hm] at hcall ⊢
  rw [hl] at hcl
  simp only [Nat.reduceMul] at hcall ⊢ hcl
  have HC := Lib.hid hcall
  clear hcall hr hs hc1 hc2 hl hm htl htm hok
  have hy : inR 0 3 (Y : Int) = true := inR_mk (by omega)
  go_enter Try.func21, Try.ntmps21
  go_wp2_with fail
  obtain ⟨W0, hW0⟩ : ∃ WW, WW = (w.alloc (.cells #[.slice (some ⟨p1, o1, none⟩) 8 c, .slice (some ⟨p2, o2, none⟩) 4 d, .int .i64 C, .bool T, .bool L] 27)).alloc (.cells #[] 3) := ⟨_, rfl⟩
  rw [← hW0]
  have P0 : Box5 W0 w.heap.size (.slice (some ⟨p1, o1, none⟩) 8 c) (.slice (some ⟨p2, o2, none⟩) 4 d) (.int .i64 C) (.bool T) (.bool L) := by rw [hW0]; exact (Box5.new w _ _ _ _ _ _).below ((Below.refl _ _).alloc (Nat.le_refl _) _) (Nat.le_refl _)
  have HB0 : Hid (Below w.heap.size w W0) := Lib.hid (by rw [hW0]; exact ((Below.refl w.heap.size w).alloc (Nat.le_refl _) _).alloc (by simp) _)
  have HO0 : Hid (Own (w.heap.size + 1) W0 (some ⟨w.heap.size + 1, 0, none⟩) 0 []) := Lib.hid (by
    have h := Own.lit (B := w.heap.size + 1) (w.alloc (.cells #[.slice (some ⟨p1, o1, none⟩) 8 c, .slice (some ⟨p2, o2, none⟩) 4 d, .int .i64 C, .bool T, .bool L] 27)) #[] [] rfl (by simp) (by simp [maxLen])
    rw [hW0]; simpa using h)
  clear hW0
  refine (HC.out W0 (HN.out W0 HB0.out)).mono ?_
  rintro e w1 ⟨rfl, hb⟩
  have P1 := P0.below hb (Nat.le_refl _)
  have HB : Hid (Below w.heap.size w w1) := Lib.hid (HB0.out.trans (hb.mono HB0.out.size))
  have HO1 := Lib.hid (HO0.out.below hb (Nat.le_refl _))
  clear hb P0 HB0 HC HO0
  have hPB := P1
  obtain ⟨_, q0, q1, q2, q3, q4⟩ := hPB
  have cy := HC2.out w1 HB.out Y hY
  have hyi : (Y : Int) < 4 := by omega
  have HS : Hid (∀ k, k + 4 ≤ l.length → cadF (cut4 l k) [m.getD Y 0 - C, m.getD Y 0 - C, m.getD Y 0 - C, m.getD Y 0 - C] = tab (fun i => slopeAt l m C Y (k + i)) 4) := Lib.hid (fun k hk => cad_slope hk HALL.out (by omega))
  generalize hv : m.getD Y 0 = v at *
  have HV := Lib.hid hv
  clear hv
  have s1 : IntKind.i64.wrap (v - C) = v - C := IntWalk.i64_in _ (by omega)
  go_wp2_with (go_at_call 61; refine (l1In_c _ _ _ _).mono ?_; rintro e w' ⟨rfl, rfl⟩)
  go_quiet (fail)
  go_wp2
  clear q0 q1 q2 q3 q4 cy s1
  obtain ⟨D, hD⟩ : ∃ D, D = v - C := ⟨_, rfl⟩
  rw [← hD] at HS ⊢
  have HDB : -1023 ≤ D ∧ D ≤ 1023 := by omega
  clear hD
  generalize hw2 : w1.drewN _ = w2
  have P2 : Box5 w2 w.heap.size (.slice (some ⟨p1, o1, none⟩) 8 c) (.slice (some ⟨p2, o2, none⟩) 4 d) (.int .i64 C) (.bool T) (.bool L) := by rw [← hw2]; exact P1
  have HB2 : Hid (Below w.heap.size w w2) := Lib.hid (by rw [← hw2]; exact below_drewN' HB.out _)
  have HO2 : Hid (Own (w.heap.size + 1) w2 (some ⟨w.heap.size + 1, 0, none⟩) 0 []) := Lib.hid (by rw [← hw2]; exact HO1.out.drewN _)
  clear hw2 P1 HB HO1
  go_loopw [7, 9] (fun o i wr => ∃ (k : Nat) (ad : Option Addr) (cc : Nat), k ≤ 4 ∧ k % 4 = 0 ∧ i = .int .i64 k ∧ o = .slice ad k cc ∧ Own (w.heap.size + 1) wr ad cc (tab (slopeAt l m C Y) k) ∧ Below w.heap.size w wr ∧ Box5 wr w.heap.size (.slice (some ⟨p1, o1, none⟩) 8 c) (.slice (some ⟨p2, o2, none⟩) 4 d) (.int .i64 C) (.bool T) (.bool L)) (fun _ i _ => 4 - (intOf i).toNat)
  case atStart => exact ⟨0, _, _, Nat.zero_le _, rfl, rfl, rfl, HO2.out, HB2.out, P2⟩
  case round =>
    clear P2 HB2 HO2
    obtain ⟨k, ad, cc, hk, hk4, rfl, rfl, hown, hb, P⟩ := hrel
    have hwz : w.heap.size < wr.heap.size := P.1
    by_cases hlt : k < 4
    · have hrow1 : Row (wr.alloc (.cells #[.int .i64 D, .int .i64 D, .int .i64 D, .int .i64 D] 3)) (some ⟨p1, o1 + k, none⟩) (cut4 l k) := cut4_row (fun i hi => (bcell ((Below.refl _ _).alloc (Nat.le_refl _) _) p1 (o1 + i) (by have := hb.size; omega)).trans (HC1.out wr hb i hi)) (by have := HLL.out; omega)
      have hrow2 := (Own.lit (B := 0) wr #[.int .i64 D, .int .i64 D, .int .i64 D, .int .i64 D] [D, D, D, D] rfl (Nat.zero_le _) (by simp [maxLen])).row
      have el := cut4_len (l := l) (k := k) (by have := HLL.out; omega)
      have hcall := spec.ClipAdd4_c (some ⟨p1, o1 + k, none⟩) (c - k) (cut4 l k) (some ⟨wr.heap.size, 0, none⟩) 4 [D, D, D, D] _ (by rw [el]; omega) hrow1 (fun x hx => by
        obtain ⟨i, hi, rfl⟩ := List.getElem_of_mem (cut4_mem hx)
        have := allR_at HALL.out hi
        rw [getD_lt hi] at this
        omega) (by simp) hrow2 (fun x hx => by simp at hx; omega)
      rw [el, HS.out k (by have := HLL.out; omega), tab_len] at hcall
      have HCL := Lib.hid hcall
      have H1 := Lib.hid hown
      have H2 := Lib.hid hb
      have HPB := Lib.hid P
      obtain ⟨_, q0, q1, q2, q3, q4⟩ := P
      have z1 : IntKind.i64.wrap ((k : Int) + 4) = (k : Int) + 4 := IntWalk.i64_in _ (by omega)
      have z2 : (0 : Int) ≤ (k : Int) + 4 := by omega
      have z3 : (k : Int) + 4 ≤ (c : Int) := by omega
      have z5 : ((k : Int) + 4).toNat = k + 4 := by omega
      have z6 : ¬ c = k := by omega
      have HK4 := Lib.hid hk4
      clear hown hb hrow1 hrow2 el hcall hk4
      have hkb : k ≤ 1099511627776 := by omega
      go_wp2_with (first
        | (go_at_call 39; refine HCL.out.mono ?_; rintro e w3 ⟨bb, dd, rfl, oo, bo⟩)
        | (at_builtin; obtain ⟨gg, rfl, _⟩ := oo.at_ (i := 0) (by rw [tab_len]; omega); refine append_many Try.underlying25 Try.infoInt rfl (.tmp 36) (.tmp 48) rfl (w.heap.size + 1) ad cc k (tab (slopeAt l m C Y) k) (tab_len _ _) rfl ((H1.out.alloc _).below bo (Nat.le_refl _)) ⟨gg, 0, none⟩ 4 dd (tab (fun i => slopeAt l m C Y (k + i)) 4) (tab_len _ _) rfl oo.row ?_ ?_ ?_; (omega); (have := bo.size; simp at this; omega); intro ad1 cc1 w4 hown1 hb3))
      rw [tab_append] at hown1
      have H3 := Lib.hid hown1
      have hs2 : wr.heap.size ≤ w3.heap.size := by have := bo.size; simp at this; omega
      have H4 : Hid (Below w.heap.size w w4) := Lib.hid (((H2.out.alloc H2.out.size _).trans (bo.mono (by simp; omega))).trans (hb3.mono (by omega)))
      have H5 : Hid (Box5 w4 w.heap.size (.slice (some ⟨p1, o1, none⟩) 8 c) (.slice (some ⟨p2, o2, none⟩) 4 d) (.int .i64 C) (.bool T) (.bool L)) := Lib.hid (by
        have h := (HPB.out.below ((Below.refl _ _).alloc (Nat.le_refl _) (Obj.cells #[.int .i64 D, .int .i64 D, .int .i64 D, .int .i64 D] 3)) (Nat.le_refl _)).below bo (Nat.le_refl _)
        exact ⟨Nat.lt_of_lt_of_le h.1 hb3.size, (bcell hb3 _ _ (by omega)).trans h.2.1, (bcell hb3 _ _ (by omega)).trans h.2.2.1, (bcell hb3 _ _ (by omega)).trans h.2.2.2.1, (bcell hb3 _ _ (by omega)).trans h.2.2.2.2.1, (bcell hb3 _ _ (by omega)).trans h.2.2.2.2.2⟩)
      clear hown1 hb3 bo oo q0 q1 q2 q3 q4
      go_wp2
      go_roundw
      case rel => exact ⟨k + 4, ad1, cc1, by have := HK4.out; omega, by have := HK4.out; omega, by go_num, rfl, H3.out, H4.out, H5.out⟩
      case measure => simp [intOf]; omega
    · obtain rfl : k = 4 := by omega
      have H1 := Lib.hid hown
      have H2 := Lib.hid hb
      clear hown hb P
      go_wp2
      go_ret
      exact ⟨ad, cc, rfl, H1.out.mono (by omega), H2.out⟩
set_option maxHeartbeats 4000000 in
theorem spec.SlopeRow_8 (a : Option Addr) (c : Nat) (l : List Int) (b : Option Addr) (d : Nat) (m : List Int) (C : Int) (T L : Bool) (Y : Nat) (w : World) (hN : NbAll w a l b m 8) (hok : nbB l m C 8 = true) (hcl : l.length ≤ c) (hY : Y < 8) :
    Calls Try.prog 21 #[nbv a l.length c b m.length d C T L, .int .i64 8, .int .i64 Y] w fun e w' => ∃ x y, e = .returned (.slice x 8 y) ∧ Own w.heap.size w' x y (slopeL l m C 8 Y) ∧ Below w.heap.size w w' := by
  have HN : Hid (∀ w0, Below w.heap.size w w0 → NbAll w0 a l b m 8) := Lib.hid (fun w0 h => ⟨hN.hl, hN.hm, hN.hr.below h (Nat.le_refl _), hN.hs.below h (Nat.le_refl _), hN.tl, hN.tm⟩)
  have HALL : Hid (allR 0 255 l = true) := Lib.hid (nbB_true hok).2.2.2.1
  have hCb := (nbB_true hok).2.2.2.2.2
  obtain ⟨hC0, hC1⟩ := hCb
  obtain ⟨hl, hm, hr, hs, htl, htm⟩ := hN
  have hcall := fun (w0 : World) (h : NbAll w0 a l b m 8) => spec.NbOk_8 a c l b d m C T L w0 (by omega) h.hr (by omega) h.hs
  simp only [hok] at hcall
  obtain ⟨my0, my1⟩ := htm Y hY
  obtain ⟨p1, o1, rfl, hb1, hc1⟩ := hr.inside (by omega)
  obtain ⟨p2, o2, rfl, hb2, hc2⟩ := hs.inside (by omega)
  have HC1 : Hid (∀ w0, Below w.heap.size w w0 → ∀ i, i < l.length → w0.cell? ⟨p1, o1 + i, none⟩ = some (.int .i64 (l.getD i 0))) := Lib.hid (fun w0 h i hi => (bcell h _ _ hb1).trans (hc1 i hi))
  have HC2 : Hid (∀ w0, Below w.heap.size w w0 → ∀ i, i < 8 → w0.cell? ⟨p2, o2 + i, none⟩ = some (.int .i64 (m.getD i 0))) := Lib.hid (fun w0 h i hi => (bcell h _ _ hb2).trans (hc2 i (by omega)))
  have HLL := Lib.hid hl
  have HT1 := Lib.hid htl
  rw [hl, hm] at hcall ⊢
  rw [hl] at hcl
  simp only [Nat.reduceMul] at hcall ⊢ hcl
  have HC := Lib.hid hcall
  clear hcall hr hs hc1 hc2 hl hm htl htm hok
  have hy : inR 0 7 (Y : Int) = true := inR_mk (by omega)
  go_enter Try.func21, Try.ntmps21
  go_wp2_with fail
  obtain ⟨W0, hW0⟩ : ∃ WW, WW = (w.alloc (.cells #[.slice (some ⟨p1, o1, none⟩) 16 c, .slice (some ⟨p2, o2, none⟩) 8 d, .int .i64 C, .bool T, .bool L] 27)).alloc (.cells #[] 3) := ⟨_, rfl⟩
  rw [← hW0]
  have P0 : Box5 W0 w.heap.size (.slice (some ⟨p1, o1, none⟩) 16 c) (.slice (some ⟨p2, o2, none⟩) 8 d) (.int .i64 C) (.bool T) (.bool L) := by rw [hW0]; exact (Box5.new w _ _ _ _ _ _).below ((Below.refl _ _).alloc (Nat.le_refl _) _) (Nat.le_refl _)
  have HB0 : Hid (Below w.heap.size w W0) := Lib.hid (by rw [hW0]; exact ((Below.refl w.heap.size w).alloc (Nat.le_refl _) _).alloc (by simp) _)
  have HO0 : Hid (Own (w.heap.size + 1) W0 (some ⟨w.heap.size + 1, 0, none⟩) 0 []) := Lib.hid (by
    have h := Own.lit (B := w.heap.size + 1) (w.alloc (.cells #[.slice (some ⟨p1, o1, none⟩) 16 c, .slice (some ⟨p2, o2, none⟩) 8 d, .int .i64 C, .bool T, .bool L] 27)) #[] [] rfl (by simp) (by simp [maxLen])
    rw [hW0]; simpa using h)
  clear hW0
  refine (HC.out W0 (HN.out W0 HB0.out)).mono ?_
  rintro e w1 ⟨rfl, hb⟩
  have P1 := P0.below hb (Nat.le_refl _)
  have HB : Hid (Below w.heap.size w w1) := Lib.hid (HB0.out.trans (hb.mono HB0.out.size))
  have HO1 := Lib.hid (HO0.out.below hb (Nat.le_refl _))
  clear hb P0 HB0 HC HO0
  have hPB := P1
  obtain ⟨_, q0, q1, q2, q3, q4⟩ := hPB
  have cy := HC2.out w1 HB.out Y hY
  have hyi : (Y : Int) < 8 := by omega
  have HS : Hid (∀ k, k + 4 ≤ l.length → cadF (cut4 l k) [m.getD Y 0 - C, m.getD Y 0 - C, m.getD Y 0 - C, m.getD Y 0 - C] = tab (fun i => slopeAt l m C Y (k + i)) 4) := Lib.hid (fun k hk => cad_slope hk HALL.out (by omega))
  generalize hv : m.getD Y 0 = v at *
  have HV := Lib.hid hv
  clear hv
  have s1 : IntKind.i64.wrap (v - C) = v - C := IntWalk.i64_in _ (by omega)
  go_wp2_with (go_at_call 61; refine (l1In_c _ _ _ _).mono ?_; rintro e w' ⟨rfl, rfl⟩)
  go_quiet (fail)
  go_wp2
  clear q0 q1 q2 q3 q4 cy s1
  obtain ⟨D, hD⟩ : ∃ D, D = v - C := ⟨_, rfl⟩
  rw [← hD] at HS ⊢
  have HDB : -1023 ≤ D ∧ D ≤ 1023 := by omega
  clear hD
  generalize hw2 : w1.drewN _ = w2
  have P2 : Box5 w2 w.heap.size (.slice (some ⟨p1, o1, none⟩) 16 c) (.slice (some ⟨p2, o2, none⟩) 8 d) (.int .i64 C) (.bool T) (.bool L) := by rw [← hw2]; exact P1
  have HB2 : Hid (Below w.heap.size w w2) := Lib.hid (by rw [← hw2]; exact below_drewN' HB.out _)
  have HO2 : Hid (Own (w.heap.size + 1) w2 (some ⟨w.heap.size + 1, 0, none⟩) 0 []) := Lib.hid (by rw [← hw2]; exact HO1.out.drewN _)
  clear hw2 P1 HB HO1
  go_loopw [7, 9] (fun o i wr => ∃ (k : Nat) (ad : Option Addr) (cc : Nat), k ≤ 8 ∧ k % 4 = 0 ∧ i = .int .i64 k ∧ o = .slice ad k cc ∧ Own (w.heap.size + 1) wr ad cc (tab (slopeAt l m C Y) k) ∧ Below w.heap.size w wr ∧ Box5 wr w.heap.size (.slice (some ⟨p1, o1, none⟩) 16 c) (.slice (some ⟨p2, o2, none⟩) 8 d) (.int .i64 C) (.bool T) (.bool L)) (fun _ i _ => 8 - (intOf i).toNat)
  case atStart => exact ⟨0, _, _, Nat.zero_le _, rfl, rfl, rfl, HO2.out, HB2.out, P2⟩
  case round =>
    clear P2 HB2 HO2
    obtain ⟨k, ad, cc, hk, hk4, rfl, rfl, hown, hb, P⟩ := hrel
    have hwz : w.heap.size < wr.heap.size := P.1
    by_cases hlt : k < 8
    · have hrow1 : Row (wr.alloc (.cells #[.int .i64 D, .int .i64 D, .int .i64 D, .int .i64 D] 3)) (some ⟨p1, o1 + k, none⟩) (cut4 l k) := cut4_row (fun i hi => (bcell ((Below.refl _ _).alloc (Nat.le_refl _) _) p1 (o1 + i) (by have := hb.size; omega)).trans (HC1.out wr hb i hi)) (by have := HLL.out; omega)
      have hrow2 := (Own.lit (B := 0) wr #[.int .i64 D, .int .i64 D, .int .i64 D, .int .i64 D] [D, D, D, D] rfl (Nat.zero_le _) (by simp [maxLen])).row
      have el := cut4_len (l := l) (k := k) (by have := HLL.out; omega)
      have hcall := spec.ClipAdd4_c (some ⟨p1, o1 + k, none⟩) (c - k) (cut4 l k) (some ⟨wr.heap.size, 0, none⟩) 4 [D, D, D, D] _ (by rw [el]; omega) hrow1 (fun x hx => by
        obtain ⟨i, hi, rfl⟩ := List.getElem_of_mem (cut4_mem hx)
        have := allR_at HALL.out hi
        rw [getD_lt hi] at this
        omega) (by simp) hrow2 (fun x hx => by simp at hx; omega)
      rw [el, HS.out k (by have := HLL.out; omega), tab_len] at hcall
      have HCL := Lib.hid hcall
      have H1 := Lib.hid hown
      have H2 := Lib.hid hb
      have HPB := Lib.hid P
      obtain ⟨_, q0, q1, q2, q3, q4⟩ := P
      have z1 : IntKind.i64.wrap ((k : Int) + 4) = (k : Int) + 4 := IntWalk.i64_in _ (by omega)
      have z2 : (0 : Int) ≤ (k : Int) + 4 := by omega
      have z3 : (k : Int) + 4 ≤ (c : Int) := by omega
      have z5 : ((k : Int) + 4).toNat = k + 4 := by omega
      have z6 : ¬ c = k := by omega
      have HK4 := Lib.hid hk4
      clear hown hb hrow1 hrow2 el hcall hk4
      have hkb : k ≤ 1099511627776 := by omega
      go_wp2_with (first
        | (go_at_call 39; refine HCL.out.mono ?_; rintro e w3 ⟨bb, dd, rfl, oo, bo⟩)
        | (at_builtin; obtain ⟨gg, rfl, _⟩ := oo.at_ (i := 0) (by rw [tab_len]; omega); refine append_many Try.underlying25 Try.infoInt rfl (.tmp 36) (.tmp 48) rfl (w.heap.size + 1) ad cc k (tab (slopeAt l m C Y) k) (tab_len _ _) rfl ((H1.out.alloc _).below bo (Nat.le_refl _)) ⟨gg, 0, none⟩ 4 dd (tab (fun i => slopeAt l m C Y (k + i)) 4) (tab_len _ _) rfl oo.row ?_ ?_ ?_; (omega); (have := bo.size; simp at this; omega); intro ad1 cc1 w4 hown1 hb3))
      rw [tab_append] at hown1
      have H3 := Lib.hid hown1
      have hs2 : wr.heap.size ≤ w3.heap.size := by have := bo.size; simp at this; omega
      have H4 : Hid (Below w.heap.size w w4) := Lib.hid (((H2.out.alloc H2.out.size _).trans (bo.mono (by simp; omega))).trans (hb3.mono (by omega)))
      have H5 : Hid (Box5 w4 w.heap.size (.slice (some ⟨p1, o1, none⟩) 16 c) (.slice (some ⟨p2, o2, none⟩) 8 d) (.int .i64 C) (.bool T) (.bool L)) := Lib.hid (by
        have h := (HPB.out.below ((Below.refl _ _).alloc (Nat.le_refl _) (Obj.cells #[.int .i64 D, .int .i64 D, .int .i64 D, .int .i64 D] 3)) (Nat.le_refl _)).below bo (Nat.le_refl _)
        exact ⟨Nat.lt_of_lt_of_le h.1 hb3.size, (bcell hb3 _ _ (by omega)).trans h.2.1, (bcell hb3 _ _ (by omega)).trans h.2.2.1, (bcell hb3 _ _ (by omega)).trans h.2.2.2.1, (bcell hb3 _ _ (by omega)).trans h.2.2.2.2.1, (bcell hb3 _ _ (by omega)).trans h.2.2.2.2.2⟩)
      clear hown1 hb3 bo oo q0 q1 q2 q3 q4
      go_wp2
      go_roundw
      case rel => exact ⟨k + 4, ad1, cc1, by have := HK4.out; omega, by have := HK4.out; omega, by go_num, rfl, H3.out, H4.out, H5.out⟩
      case measure => simp [intOf]; omega
    · obtain rfl : k = 8 := by omega
      have H1 := Lib.hid hown
      have H2 := Lib.hid hb
      clear hown hb P
      go_wp2
      go_ret
      exact ⟨ad, cc, rfl, H1.out.mono (by omega), H2.out⟩
set_option maxHeartbeats 1000000 in
theorem spec.SlopeRow_c (a : Option Addr) (c : Nat) (l : List Int) (b : Option Addr) (d : Nat) (m : List Int) (C : Int) (T L : Bool) (n y : Int) (w : World) (hl : l.length ≤ 1099511627776) (hr : Row w a l) (hw : ∀ x ∈ l, -9223372036854775808 ≤ x ∧ x ≤ 9223372036854775807) (hm : m.length ≤ 1099511627776) (hs : Row w b m) (hu : ∀ x ∈ m, -9223372036854775808 ≤ x ∧ x ≤ 9223372036854775807) (hC : -9223372036854775808 ≤ C ∧ C ≤ 9223372036854775807) (hcl : l.length ≤ c) (hcm : m.length ≤ d) :
    Calls Try.prog 21 #[nbv a l.length c b m.length d C T L, .int .i64 n, .int .i64 y] w fun e w' => ∃ x z, e = .returned (.slice x (slopeF l m C n y).length z) ∧ Own w.heap.size w' x z (slopeF l m C n y) ∧ Below w.heap.size w w' := by
  have hcall := fun t => spec.NbOk_c a c l b d m C T L n ((w.alloc (.cells #[.slice a l.length c, .slice b m.length d, .int .i64 C, .bool T, .bool L] t)).alloc (.cells #[] 3)) hl ((hr.alloc _).alloc _) hw hm ((hs.alloc _).alloc _) hu hC
  cases h : nbB l m C n
  · simp only [h] at hcall
    have HC := Lib.hid hcall
    have hf : slopeF l m C n y = [] := by simp [slopeF, slopeB, h]
    rw [hf]
    clear hcall h hl hr hw hm hs hu hC hcl hcm hf
    go_enter Try.func21, Try.ntmps21
    go_wp2_with fail
    refine (HC.out _).mono ?_
    rintro e w1 ⟨rfl, hb⟩
    have HB : Hid (Below w.heap.size w w1) := Lib.hid ((((Below.refl w.heap.size w).alloc (Nat.le_refl _) _).alloc (by simp) _).trans (hb.mono (by simp; omega)))
    have HO : Hid (Own w.heap.size w1 (some ⟨w.heap.size + 1, 0, none⟩) 0 []) := Lib.hid (by
      have h := Own.lit (B := w.heap.size) (w.alloc (.cells #[.slice a l.length c, .slice b m.length d, .int .i64 C, .bool T, .bool L] 27)) #[] [] rfl (by simp) (by simp [maxLen])
      have h2 := h.below hb (Nat.le_refl _)
      simpa using h2)
    clear hb
    go_wp2
    go_ret
    exact ⟨_, _, rfl, HO.out, HB.out⟩
  · have h48 := (nbB_true h).1
    cases hy : inR 0 (n - 1) y
    · simp only [h] at hcall
      have HC := Lib.hid hcall
      have hf : slopeF l m C n y = [] := by simp [slopeF, slopeB, hy]
      rw [hf]
      clear hcall h hl hr hw hm hs hu hC hcl hcm hf
      rcases h48 with rfl | rfl
      · have hy' : inR 0 3 y = false := hy
        clear hy
        go_enter Try.func21, Try.ntmps21
        go_wp2_with fail
        refine (HC.out _).mono ?_
        rintro e w1 ⟨rfl, hb⟩
        have HB : Hid (Below w.heap.size w w1) := Lib.hid ((((Below.refl w.heap.size w).alloc (Nat.le_refl _) _).alloc (by simp) _).trans (hb.mono (by simp; omega)))
        have HO : Hid (Own w.heap.size w1 (some ⟨w.heap.size + 1, 0, none⟩) 0 []) := Lib.hid (by
          have h := Own.lit (B := w.heap.size) (w.alloc (.cells #[.slice a l.length c, .slice b m.length d, .int .i64 C, .bool T, .bool L] 27)) #[] [] rfl (by simp) (by simp [maxLen])
          have h2 := h.below hb (Nat.le_refl _)
          simpa using h2)
        clear hb
        go_wp2_with (go_at_call 61; refine (l1In_c _ _ _ _).mono ?_; rintro e w' ⟨rfl, rfl⟩)
        go_ret
        exact ⟨_, _, rfl, HO.out, HB.out⟩
      · have hy' : inR 0 7 y = false := hy
        clear hy
        go_enter Try.func21, Try.ntmps21
        go_wp2_with fail
        refine (HC.out _).mono ?_
        rintro e w1 ⟨rfl, hb⟩
        have HB : Hid (Below w.heap.size w w1) := Lib.hid ((((Below.refl w.heap.size w).alloc (Nat.le_refl _) _).alloc (by simp) _).trans (hb.mono (by simp; omega)))
        have HO : Hid (Own w.heap.size w1 (some ⟨w.heap.size + 1, 0, none⟩) 0 []) := Lib.hid (by
          have h := Own.lit (B := w.heap.size) (w.alloc (.cells #[.slice a l.length c, .slice b m.length d, .int .i64 C, .bool T, .bool L] 27)) #[] [] rfl (by simp) (by simp [maxLen])
          have h2 := h.below hb (Nat.le_refl _)
          simpa using h2)
        clear hb
        go_wp2_with (go_at_call 61; refine (l1In_c _ _ _ _).mono ?_; rintro e w' ⟨rfl, rfl⟩)
        go_ret
        exact ⟨_, _, rfl, HO.out, HB.out⟩
    · have hf : slopeF l m C n y = slopeL l m C n.toNat y.toNat := by simp [slopeF, slopeB, h, hy]
      rw [hf]
      have hy := inR_true hy
      obtain ⟨Y, rfl⟩ := Int.eq_ofNat_of_zero_le hy.1
      clear hcall
      rcases h48 with rfl | rfl
      · exact spec.SlopeRow_4 a c l b d m C T L Y w (nb_all hr hs h) h hcl (by omega)
      · exact spec.SlopeRow_8 a c l b d m C T L Y w (nb_all hr hs h) h hcl (by omega)

end Go.Proofs.Ytbdggcefgiehkaa
