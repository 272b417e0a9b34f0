/- Contracts: the reference's prediction by rows, whole. -/
import Derived.Test.YtnbkkhaahfnlfaaFastP
import Derived.Test.YtnbkkhaahfnlfaaApp
namespace Go.Proofs.Ytnbkkhaahfnlfaa
open Go.RowKit
set_option linter.unusedVariables false


set_option maxHeartbeats 8000000 in
set_option maxRecDepth 100000 in
theorem spec.FastPred_4_x (mode : Int) (h4 : mode ≠ 4) (hmo : inR 0 5 mode = true) (a : Option Addr) (c : Nat) (l : List Int) (b : Option Addr) (d : Nat) (m : List Int) (C : Int) (T L : Bool) (w : World) (hN : NbAll w a l b m 4) (hok : nbB l m C 4 = true) (hcl : l.length ≤ c) :
    Calls Try.prog 29 #[.int .i64 mode, nbv a l.length c b m.length d C T L, .int .i64 4] w fun e w' => ∃ x y, e = .returned (.slice x 16 y) ∧ Own w.heap.size w' x y (predL l m C T L 4 mode) ∧ Below w.heap.size w w' := by
  have hCb := (nbB_true hok).2.2.2.2.2
  obtain ⟨hC0, hC1⟩ := hCb
  have HBB : Hid (∀ i, i < 2 * 4 + 1 → 0 ≤ (borderL l m C 4).getD i 0 ∧ (borderL l m C 4).getD i 0 ≤ 255) := Lib.hid (borderL_bd ⟨hC0, hC1⟩ (fun i hi => hN.tl i (by omega)) hN.tm)
  have HMO := Lib.hid (modeWord_in hmo)
  have HSB := Lib.hid (soft_border (l := l) (m := m) (C := C) (n := 4) (mode := mode) h4 HBB.out)
  have m4 : (mode == 4) = false := by simpa using h4
  clear h4
  have HN : Hid (∀ w0, Below w.heap.size w w0 → NbAll w0 a l b m 4) := Lib.hid (fun w0 h => ⟨hN.hl, hN.hm, hN.hr.below h (Nat.le_refl _), hN.hs.below h (Nat.le_refl _), hN.tl, hN.tm⟩)
  obtain ⟨hl, hm, hr, hs, htl, htm⟩ := hN
  have hcall := fun (w0 : World) (h : NbAll w0 a l b m 4) => spec.NbOk_4 a c l b d m C T L w0 (by omega) h.hr (by omega) h.hs
  have hbord := fun (w0 : World) (h : NbAll w0 a l b m 4) => spec.Border_4 a c l b d m C T L w0 h hok hcl
  have hrow := fun (w0 : World) (h : NbAll w0 a l b m 4) (Y : Nat) (hY : Y < 4) (sg sc : Nat) (S : List Int) (hS : softOk l m C 4 mode S) (hsc : 7 ≤ sc) (hsr : ∀ i, i < 7 → w0.cell? ⟨sg, i, none⟩ = some (.int .i64 (S.getD i 0))) (hsg : sg < w0.heap.size) => spec.l17Row_4 mode hmo a c l b d m C T L Y sg sc S w0 h hok hcl hY hS hsc hsr hsg
  simp only [hok] at hcall
  obtain ⟨p1, o1, rfl, hb1, hc1⟩ := hr.inside (by omega)
  obtain ⟨p2, o2, rfl, hb2, hc2⟩ := hs.inside (by omega)
  have HC1 : Hid (∀ w0, Below w.heap.size w w0 → ∀ i, i < 8 → w0.cell? ⟨p1, o1 + i, none⟩ = some (.int .i64 (l.getD i 0))) := Lib.hid (fun w0 h i hi => (bcell h _ _ hb1).trans (hc1 i (by omega)))
  have HC2 : Hid (∀ w0, Below w.heap.size w w0 → ∀ i, i < 4 → w0.cell? ⟨p2, o2 + i, none⟩ = some (.int .i64 (m.getD i 0))) := Lib.hid (fun w0 h i hi => (bcell h _ _ hb2).trans (hc2 i (by omega)))
  have HT1 := Lib.hid htl
  have HLL := Lib.hid hl
  rw [hl, hm] at hcall hbord hrow ⊢
  rw [hl] at hcl
  simp only [Nat.reduceMul] at hcall hbord hrow ⊢ hcl
  have HCALL := Lib.hid hcall
  have HBORD := Lib.hid hbord
  have HROW := Lib.hid hrow
  clear hcall hbord hrow hr hs hc1 hc2 hl hm htl htm hok hmo
  go_enter Try.func29, Try.ntmps29
  go_wp2_with fail
  obtain ⟨W0, hW0⟩ : ∃ WW, WW = (w.alloc (.cells #[.slice (some ⟨p1, o1, none⟩) 8 c, .slice (some ⟨p2, o2, none⟩) 4 d, .int .i64 C, .bool T, .bool L] 27)).alloc (.cells #[] 3) := ⟨_, rfl⟩
  rw [← hW0]
  have P0 : Box5 W0 w.heap.size (.slice (some ⟨p1, o1, none⟩) 8 c) (.slice (some ⟨p2, o2, none⟩) 4 d) (.int .i64 C) (.bool T) (.bool L) := by rw [hW0]; exact (Box5.new w _ _ _ _ _ _).below ((Below.refl _ _).alloc (Nat.le_refl _) _) (Nat.le_refl _)
  have HB0 : Hid (Below w.heap.size w W0) := Lib.hid (by rw [hW0]; exact ((Below.refl w.heap.size w).alloc (Nat.le_refl _) _).alloc (by simp) _)
  have HO0 : Hid (Own (w.heap.size + 1) W0 (some ⟨w.heap.size + 1, 0, none⟩) 0 []) := Lib.hid (by
    have h := Own.lit (B := w.heap.size + 1) (w.alloc (.cells #[.slice (some ⟨p1, o1, none⟩) 8 c, .slice (some ⟨p2, o2, none⟩) 4 d, .int .i64 C, .bool T, .bool L] 27)) #[] [] rfl (by simp) (by simp [maxLen])
    rw [hW0]; simpa using h)
  clear hW0
  refine (HCALL.out W0 (HN.out W0 HB0.out)).mono ?_
  rintro e w1 ⟨rfl, hb⟩
  have P1 := P0.below hb (Nat.le_refl _)
  have HB1 : Hid (Below w.heap.size w w1) := Lib.hid (HB0.out.trans (hb.mono HB0.out.size))
  have HO1 := Lib.hid (HO0.out.below hb (Nat.le_refl _))
  clear hb P0 HB0 HO0 HCALL
  go_wp2_with fail
  refine (spec.ModeWord_c mode w1).mono ?_
  rintro e w2 ⟨rfl, hb⟩
  have P2 := P1.below hb (Nat.le_refl _)
  have HB2 : Hid (Below w.heap.size w w2) := Lib.hid (HB1.out.trans (hb.mono HB1.out.size))
  have HO2 := Lib.hid (HO1.out.below hb (Nat.le_refl _))
  have hmw : (modeWordF mode).toList.isEmpty = false := by rcases HMO.out with rfl | rfl | rfl | rfl | rfl | rfl <;> decide +kernel
  clear hb P1 HB1 HO1
  have hP := P2
  obtain ⟨_, q0, q1, q2, q3, q4⟩ := hP
  go_wp2_with fail
  refine (HBORD.out w2 (HN.out w2 HB2.out)).mono ?_
  rintro e w3 ⟨ba, bc, rfl, ho3, hb⟩
  have P3 := P2.below hb (Nat.le_refl _)
  have HB3 : Hid (Below w.heap.size w w3) := Lib.hid (HB2.out.trans (hb.mono HB2.out.size))
  have HO3 := Lib.hid (HO2.out.below hb (Nat.le_refl _))
  clear P2 HB2 HO2 q0 q1 q2 q3 q4 hb hmw
  have hsof := spec.Softened_c ba bc (borderL l m C 4) w3 (by rw [borderL_len]; omega) ho3.row (fun x hx => by
    obtain ⟨i, hi, rfl⟩ := List.getElem_of_mem hx
    have := HBB.out i (by rw [borderL_len] at hi; exact hi)
    rw [getD_lt hi] at this
    omega)
  have HSL : Hid ((softL (borderL l m C 4)).length = 7) := Lib.hid (by rw [softL, tab_len, borderL_len])
  rw [HSL.out, borderL_len] at hsof
  simp only [Nat.reduceMul, Nat.reduceAdd] at hsof
  have HSOF := Lib.hid hsof
  clear hsof ho3
  go_wp2_with fail
  refine HSOF.out.mono ?_
  rintro e w4 ⟨sa, sc, rfl, ho4, hb⟩
  have P4 := P3.below hb (Nat.le_refl _)
  have HB4 : Hid (Below w.heap.size w w4) := Lib.hid (HB3.out.trans (hb.mono HB3.out.size))
  have HO4 := Lib.hid (HO3.out.below hb (Nat.le_refl _))
  have hs3 : w.heap.size + 1 < w3.heap.size := (HO3.out.lt _ rfl).2
  have hs4 : w3.heap.size ≤ w4.heap.size := hb.size
  obtain ⟨sg, rfl, hsg1, hsg2, _⟩ := ho4.at_ (i := 0) (by rw [HSL.out]; omega)
  have HSR : Hid (∀ i, i < 7 → w4.cell? ⟨sg, i, none⟩ = some (.int .i64 ((softL (borderL l m C 4)).getD i 0))) := Lib.hid (fun i hi => ho4.cellAt (i := i) (by rw [HSL.out]; exact hi))
  have hscc : 7 ≤ sc := by have := ho4.cap; rw [HSL.out] at this; exact this
  have HSS := HSB
  generalize hS : softL (borderL l m C 4) = S at *
  clear hb P3 HB3 HO3 HSOF ho4 hS HSB HSL
  go_wp2
  obtain ⟨w8, hw8⟩ : ∃ WW : World, WW = w4 := ⟨_, rfl⟩
  rw [← hw8] at P4 HB4 HO4 HSR hs4 hsg2 ⊢
  have P8 := P4
  have HB8 := HB4
  have HO8 := HO4
  have HSR8 := HSR
  have hsg8 : w.heap.size + 1 < sg := by omega
  clear hw8 P4 HB4 HO4 HSR hsg1
  go_loopw [7, 10] (fun o i wr => ∃ (k g cc : Nat), k ≤ 4 ∧ i = .int .i64 k ∧ o = .slice (some ⟨g, 0, none⟩) (k * 4) cc ∧ Own (w.heap.size + 1) wr (some ⟨g, 0, none⟩) cc (tab (fun i => predV l m C T L 4 mode (i % 4) (i / 4)) (k * 4)) ∧ Below w.heap.size w wr ∧ Box5 wr w.heap.size (.slice (some ⟨p1, o1, none⟩) 8 c) (.slice (some ⟨p2, o2, none⟩) 4 d) (.int .i64 C) (.bool T) (.bool L) ∧ g ≠ sg ∧ sg < wr.heap.size ∧ (∀ i, i < 7 → wr.cell? ⟨sg, i, none⟩ = some (.int .i64 (S.getD i 0)))) (fun _ i _ => 4 - (intOf i).toNat)
  case atStart => exact ⟨0, _, _, Nat.zero_le _, rfl, by simp, HO8.out, HB8.out, P8, by omega, hsg2, HSR8.out⟩
  case round =>
    clear P8 HB8 HO8 HSR8 hsg2
    obtain ⟨k, g, cc, hk, rfl, rfl, hown, hb, P, hgs, hsg, hsr⟩ := hrel
    have hwz : w.heap.size < wr.heap.size := P.1
    obtain ⟨kn, hkn⟩ : ∃ kn, kn = k * 4 := ⟨_, rfl⟩
    rw [← hkn] at hown ⊢
    have HKN := Lib.hid hkn
    have hknb : kn ≤ 4096 := by omega
    clear hkn
    by_cases hlt : k < 4
    · have HRW := Lib.hid (HROW.out wr (HN.out wr hb) k hlt sg sc S HSS.out hscc hsr hsg)
      have HY : Hid (tab (fun i => predV l m C T L 4 mode ((kn + i) % 4) ((kn + i) / 4)) 4 = rowV l m C T L 4 mode k) := Lib.hid (by
        unfold rowV
        apply tab_congr
        intro x hx
        rw [HKN.out, sq_mod hx, sq_div hx])
      have H1 := Lib.hid hown
      have H2 := Lib.hid hb
      have HPB := Lib.hid P
      have HSC := Lib.hid hsr
      obtain ⟨_, q0, q1, q2, q3, q4⟩ := P
      clear hown hb hsr
      go_wp2_with (first
        | (go_at_call 49; refine HRW.out.mono ?_; rintro e w3 ⟨rp, rz, rfl, rr, rb⟩)
        | (at_builtin; refine append_many_at Try.underlying22 Try.infoInt rfl (.tmp 48) (.tmp 54) rfl (w.heap.size + 1) g cc kn (tab (fun i => predV l m C T L 4 mode (i % 4) (i / 4)) kn) (tab_len _ _) rfl (H1.out.below rb (Nat.le_refl _)) rp 4 rz (rowV l m C T L 4 mode k) (tab_len _ _) (by omega) rfl rr ?_ ?_ ?_; (omega); (have := rb.size; omega); intro g' cc1 w5 ho5 hg5 hat5))
      have hs3' : wr.heap.size ≤ w3.heap.size := rb.size
      rw [← HY.out, tab_append (fun i => predV l m C T L 4 mode (i % 4) (i / 4))] at ho5
      have H3 := Lib.hid ho5
      have hgB : w.heap.size + 1 ≤ g := (H1.out.lt _ rfl).1
      have H4 : Hid (Below w.heap.size w w5) := Lib.hid ((H2.out.trans (rb.mono (by omega))).grown hg5 (by omega) (fun k hk => by injection hk with hk; omega))
      have H5 : Hid (Box5 w5 w.heap.size (.slice (some ⟨p1, o1, none⟩) 8 c) (.slice (some ⟨p2, o2, none⟩) 4 d) (.int .i64 C) (.bool T) (.bool L)) := Lib.hid ((HPB.out.below rb (Nat.le_refl _)).grown (a := some ⟨g, 0, none⟩) hg5 (fun p hp => by cases hp; show g ≠ _; omega))
      have H6 : Hid (g' ≠ sg ∧ sg < w5.heap.size) := Lib.hid ⟨by rcases hat5 with h | h <;> omega, by have := hg5.size; omega⟩
      have H7 : Hid (∀ i, i < 7 → w5.cell? ⟨sg, i, none⟩ = some (.int .i64 (S.getD i 0))) := Lib.hid (fun i hi => hg5.cell ((bcell rb sg i hsg).trans (HSC.out i hi)) (by show some sg ≠ some g; intro h; injection h with h; exact hgs h.symm))
      clear ho5 hg5 hat5 rr rb q0 q1 q2 q3 q4
      go_wp2
      go_roundw
      case rel => exact ⟨k + 1, g', cc1, by omega, by go_num, by rw [show (k + 1) * 4 = kn + 4 from by rw [HKN.out]; omega], by rw [show (k + 1) * 4 = kn + 4 from by rw [HKN.out]; omega]; exact H3.out, H4.out, H5.out, H6.out.1, H6.out.2, H7.out⟩
      case measure => simp [intOf]; omega
    · obtain rfl : k = 4 := by omega
      have H1 := Lib.hid hown
      have H2 := Lib.hid hb
      have hk2 : Hid (kn = 16) := Lib.hid HKN.out
      clear hown hb P
      go_wp2
      go_ret
      exact ⟨_, _, ret_slice hk2.out, by have h := H1.out; rw [hk2.out] at h; exact h.mono (by omega), H2.out⟩
set_option maxHeartbeats 8000000 in
set_option maxRecDepth 100000 in
theorem spec.FastPred_4_4 (hmo : inR 0 5 4 = true) (a : Option Addr) (c : Nat) (l : List Int) (b : Option Addr) (d : Nat) (m : List Int) (C : Int) (T L : Bool) (w : World) (hN : NbAll w a l b m 4) (hok : nbB l m C 4 = true) (hcl : l.length ≤ c) :
    Calls Try.prog 29 #[.int .i64 4, nbv a l.length c b m.length d C T L, .int .i64 4] w fun e w' => ∃ x y, e = .returned (.slice x 16 y) ∧ Own w.heap.size w' x y (predL l m C T L 4 4) ∧ Below w.heap.size w w' := by
  have hCb := (nbB_true hok).2.2.2.2.2
  obtain ⟨hC0, hC1⟩ := hCb
  have HBB : Hid (∀ i, i < 2 * 4 + 1 → 0 ≤ (borderL l m C 4).getD i 0 ∧ (borderL l m C 4).getD i 0 ≤ 255) := Lib.hid (borderL_bd ⟨hC0, hC1⟩ (fun i hi => hN.tl i (by omega)) hN.tm)
  have HMO := Lib.hid (modeWord_in hmo)
  have HST := Lib.hid (soft_top (l := l) (m := m) (C := C) (n := 4) (by omega) hN.hl hN.tl)
  have HN : Hid (∀ w0, Below w.heap.size w w0 → NbAll w0 a l b m 4) := Lib.hid (fun w0 h => ⟨hN.hl, hN.hm, hN.hr.below h (Nat.le_refl _), hN.hs.below h (Nat.le_refl _), hN.tl, hN.tm⟩)
  obtain ⟨hl, hm, hr, hs, htl, htm⟩ := hN
  have hcall := fun (w0 : World) (h : NbAll w0 a l b m 4) => spec.NbOk_4 a c l b d m C T L w0 (by omega) h.hr (by omega) h.hs
  have hbord := fun (w0 : World) (h : NbAll w0 a l b m 4) => spec.Border_4 a c l b d m C T L w0 h hok hcl
  have hrow := fun (w0 : World) (h : NbAll w0 a l b m 4) (Y : Nat) (hY : Y < 4) (sg sc : Nat) (S : List Int) (hS : softOk l m C 4 4 S) (hsc : 7 ≤ sc) (hsr : ∀ i, i < 7 → w0.cell? ⟨sg, i, none⟩ = some (.int .i64 (S.getD i 0))) (hsg : sg < w0.heap.size) => spec.l17Row_4 4 hmo a c l b d m C T L Y sg sc S w0 h hok hcl hY hS hsc hsr hsg
  simp only [hok] at hcall
  obtain ⟨p1, o1, rfl, hb1, hc1⟩ := hr.inside (by omega)
  obtain ⟨p2, o2, rfl, hb2, hc2⟩ := hs.inside (by omega)
  have HC1 : Hid (∀ w0, Below w.heap.size w w0 → ∀ i, i < 8 → w0.cell? ⟨p1, o1 + i, none⟩ = some (.int .i64 (l.getD i 0))) := Lib.hid (fun w0 h i hi => (bcell h _ _ hb1).trans (hc1 i (by omega)))
  have HC2 : Hid (∀ w0, Below w.heap.size w w0 → ∀ i, i < 4 → w0.cell? ⟨p2, o2 + i, none⟩ = some (.int .i64 (m.getD i 0))) := Lib.hid (fun w0 h i hi => (bcell h _ _ hb2).trans (hc2 i (by omega)))
  have HT1 := Lib.hid htl
  have HLL := Lib.hid hl
  rw [hl, hm] at hcall hbord hrow ⊢
  rw [hl] at hcl
  simp only [Nat.reduceMul] at hcall hbord hrow ⊢ hcl
  have HCALL := Lib.hid hcall
  have HBORD := Lib.hid hbord
  have HROW := Lib.hid hrow
  clear hcall hbord hrow hr hs hc1 hc2 hl hm htl htm hok hmo
  go_enter Try.func29, Try.ntmps29
  go_wp2_with fail
  obtain ⟨W0, hW0⟩ : ∃ WW, WW = (w.alloc (.cells #[.slice (some ⟨p1, o1, none⟩) 8 c, .slice (some ⟨p2, o2, none⟩) 4 d, .int .i64 C, .bool T, .bool L] 27)).alloc (.cells #[] 3) := ⟨_, rfl⟩
  rw [← hW0]
  have P0 : Box5 W0 w.heap.size (.slice (some ⟨p1, o1, none⟩) 8 c) (.slice (some ⟨p2, o2, none⟩) 4 d) (.int .i64 C) (.bool T) (.bool L) := by rw [hW0]; exact (Box5.new w _ _ _ _ _ _).below ((Below.refl _ _).alloc (Nat.le_refl _) _) (Nat.le_refl _)
  have HB0 : Hid (Below w.heap.size w W0) := Lib.hid (by rw [hW0]; exact ((Below.refl w.heap.size w).alloc (Nat.le_refl _) _).alloc (by simp) _)
  have HO0 : Hid (Own (w.heap.size + 1) W0 (some ⟨w.heap.size + 1, 0, none⟩) 0 []) := Lib.hid (by
    have h := Own.lit (B := w.heap.size + 1) (w.alloc (.cells #[.slice (some ⟨p1, o1, none⟩) 8 c, .slice (some ⟨p2, o2, none⟩) 4 d, .int .i64 C, .bool T, .bool L] 27)) #[] [] rfl (by simp) (by simp [maxLen])
    rw [hW0]; simpa using h)
  clear hW0
  refine (HCALL.out W0 (HN.out W0 HB0.out)).mono ?_
  rintro e w1 ⟨rfl, hb⟩
  have P1 := P0.below hb (Nat.le_refl _)
  have HB1 : Hid (Below w.heap.size w w1) := Lib.hid (HB0.out.trans (hb.mono HB0.out.size))
  have HO1 := Lib.hid (HO0.out.below hb (Nat.le_refl _))
  clear hb P0 HB0 HO0 HCALL
  go_wp2_with fail
  refine (spec.ModeWord_c 4 w1).mono ?_
  rintro e w2 ⟨rfl, hb⟩
  have P2 := P1.below hb (Nat.le_refl _)
  have HB2 : Hid (Below w.heap.size w w2) := Lib.hid (HB1.out.trans (hb.mono HB1.out.size))
  have HO2 := Lib.hid (HO1.out.below hb (Nat.le_refl _))
  have hmw : (modeWordF 4).toList.isEmpty = false := by decide +kernel
  clear hb P1 HB1 HO1
  have hP := P2
  obtain ⟨_, q0, q1, q2, q3, q4⟩ := hP
  go_wp2_with fail
  refine (HBORD.out w2 (HN.out w2 HB2.out)).mono ?_
  rintro e w3 ⟨ba, bc, rfl, ho3, hb⟩
  have P3 := P2.below hb (Nat.le_refl _)
  have HB3 : Hid (Below w.heap.size w w3) := Lib.hid (HB2.out.trans (hb.mono HB2.out.size))
  have HO3 := Lib.hid (HO2.out.below hb (Nat.le_refl _))
  clear P2 HB2 HO2 q0 q1 q2 q3 q4 hb hmw
  have hsof := spec.Softened_c ba bc (borderL l m C 4) w3 (by rw [borderL_len]; omega) ho3.row (fun x hx => by
    obtain ⟨i, hi, rfl⟩ := List.getElem_of_mem hx
    have := HBB.out i (by rw [borderL_len] at hi; exact hi)
    rw [getD_lt hi] at this
    omega)
  have HSL : Hid ((softL (borderL l m C 4)).length = 7) := Lib.hid (by rw [softL, tab_len, borderL_len])
  rw [HSL.out, borderL_len] at hsof
  simp only [Nat.reduceMul, Nat.reduceAdd] at hsof
  have HSOF := Lib.hid hsof
  clear hsof ho3
  go_wp2_with fail
  refine HSOF.out.mono ?_
  rintro e w4 ⟨sa, sc, rfl, ho4, hb⟩
  have P4 := P3.below hb (Nat.le_refl _)
  have HB4 : Hid (Below w.heap.size w w4) := Lib.hid (HB3.out.trans (hb.mono HB3.out.size))
  have HO4 := Lib.hid (HO3.out.below hb (Nat.le_refl _))
  have hs3 : w.heap.size + 1 < w3.heap.size := (HO3.out.lt _ rfl).2
  have hs4 : w3.heap.size ≤ w4.heap.size := hb.size
  clear hb P3 HB3 HO3 HSOF HSL ho4
  have hP := P4
  obtain ⟨_, q0, q1, q2, q3, q4⟩ := hP
  have hr4 : Row w4 (some ⟨p1, o1, none⟩) l := .inr ⟨p1, o1, rfl, fun i hi => HC1.out w4 HB4.out i (by have := HLL.out; omega)⟩
  have HR4 := Lib.hid hr4
  have HO4' := HO4
  have HRANGE : Hid (∀ x ∈ l ++ [l.getD 7 0], -9223372036854775808 ≤ x ∧ x ≤ 9223372036854775807) := Lib.hid (fun x hx => by
    rcases List.mem_append.1 hx with hx | hx
    · obtain ⟨i, hi, rfl⟩ := List.getElem_of_mem hx
      have := HT1.out i (by have := HLL.out; omega)
      rw [getD_lt hi] at this
      omega
    · have h2 := HT1.out 7 (by omega)
      simp only [List.mem_singleton] at hx
      rw [hx]
      omega)
  have HEL : Hid ((l ++ [l.getD 7 0]).length = 9) := Lib.hid (by rw [List.length_append, HLL.out]; rfl)
  have HSL : Hid ((softL (l ++ [l.getD 7 0])).length = 7) := Lib.hid (by rw [softL, tab_len, HEL.out])
  have hsz4 : w.heap.size + 1 < w4.heap.size := by omega
  clear hr4
  generalize hv : l.getD 7 0 = v at *
  have HV := Lib.hid hv
  clear hv
  go_wp2_with (first
    | (at_builtin; refine append_many Try.underlying22 Try.infoInt rfl (.tmp 28) (.tmp 30) rfl w4.heap.size _ _ 0 [] rfl rfl (Own.lit w4 #[] [] rfl (Nat.le_refl _) (by simp [maxLen])) ⟨p1, o1, none⟩ 8 c l HLL.out rfl (HR4.out.alloc _) ?_ ?_ ?_; (omega); (simp); intro ad1 cc1 w5 ho5 hb5; have hk0 := (bcell hb5 w.heap.size 0 (by omega)).trans ((bcell ((Below.refl w4.heap.size w4).alloc (Nat.le_refl _) (Obj.cells #[] 3)) w.heap.size 0 (by omega)).trans q0); have hkv := (bcell hb5 p1 (o1 + 7) (by omega)).trans ((bcell ((Below.refl w4.heap.size w4).alloc (Nat.le_refl _) (Obj.cells #[] 3)) p1 (o1 + 7) (by omega)).trans ((HC1.out w4 HB4.out 7 (by omega)).trans (by rw [HV.out]))); have HO5 : Hid (Own w4.heap.size w5 ad1 cc1 l) := Lib.hid (by simpa using ho5); have HB5 := Lib.hid hb5; clear ho5 hb5)
    | (at_builtin; refine append_one Try.underlying22 Try.infoInt rfl (.tmp 32) (.tmp 40) rfl w4.heap.size ad1 cc1 8 l HLL.out rfl (HO5.out.alloc _) w5.heap.size v rfl ?_ ?_ ?_ ?_; (simp); (omega); (have := HB5.out.size; simp at this; simp; omega); intro ad2 cc2 w6 ho6 hb6; have HO6 := Lib.hid ho6; have HB6 := Lib.hid hb6; clear ho6 hb6; have hsof := spec.Softened_c ad2 cc2 (l ++ [v]) w6 (by rw [HEL.out]; omega) HO6.out.row HRANGE.out; rw [HSL.out, HEL.out] at hsof; have HSOF := Lib.hid hsof; clear hsof)
    | (go_at_call 48; refine HSOF.out.mono ?_; rintro e w8 ⟨ta, tc, rfl, ho8, hb8⟩))
  have hs5 : w4.heap.size ≤ w5.heap.size := by have := HB5.out.size; simp at this; omega
  have hs6 : w5.heap.size ≤ w6.heap.size := by have := HB6.out.size; simp at this; omega
  have HB8 : Hid (Below w.heap.size w w8) := Lib.hid ((((HB4.out.alloc HB4.out.size _).trans (HB5.out.mono (by omega))).trans ((Below.refl _ _).alloc (by omega) (Obj.cells #[.int .i64 v] 3) |>.trans (HB6.out.mono (by omega)))).trans (hb8.mono (by omega)))
  have HBW : Hid (Below w4.heap.size w4 w8) := Lib.hid (((((Below.refl w4.heap.size w4).alloc (Nat.le_refl _) _).trans HB5.out).trans (((Below.refl _ _).alloc (by omega) (Obj.cells #[.int .i64 v] 3)).trans HB6.out)).trans (hb8.mono (by omega)))
  have P8 := P4.below HBW.out (Nat.le_refl _)
  have HO8 := Lib.hid (HO4.out.below HBW.out (Nat.le_refl _))
  obtain ⟨sg, rfl, hsg1, hsg2, _⟩ := ho8.at_ (i := 0) (by rw [HSL.out]; omega)
  have HSR8 : Hid (∀ i, i < 7 → w8.cell? ⟨sg, i, none⟩ = some (.int .i64 ((softL (l ++ [v])).getD i 0))) := Lib.hid (fun i hi => ho8.cellAt (i := i) (by rw [HSL.out]; exact hi))
  have hscc : 7 ≤ tc := by have := ho8.cap; rw [HSL.out] at this; exact this
  have HSS : Hid (softOk l m C 4 4 (softL (l ++ [v]))) := HST
  have hsg8 : w.heap.size + 1 < sg := by omega
  generalize hS : softL (l ++ [v]) = S at *
  generalize hsc : tc = sc at *
  clear hS hsc HB5 HB6 HBW hb8 HO5 HO6 HSOF P4 HB4 HO4 HO4' HR4 ho8 hsg1 hk0 hkv q0 q1 q2 q3 q4 HST HSL HEL HRANGE
  go_loopw [7, 10] (fun o i wr => ∃ (k g cc : Nat), k ≤ 4 ∧ i = .int .i64 k ∧ o = .slice (some ⟨g, 0, none⟩) (k * 4) cc ∧ Own (w.heap.size + 1) wr (some ⟨g, 0, none⟩) cc (tab (fun i => predV l m C T L 4 4 (i % 4) (i / 4)) (k * 4)) ∧ Below w.heap.size w wr ∧ Box5 wr w.heap.size (.slice (some ⟨p1, o1, none⟩) 8 c) (.slice (some ⟨p2, o2, none⟩) 4 d) (.int .i64 C) (.bool T) (.bool L) ∧ g ≠ sg ∧ sg < wr.heap.size ∧ (∀ i, i < 7 → wr.cell? ⟨sg, i, none⟩ = some (.int .i64 (S.getD i 0)))) (fun _ i _ => 4 - (intOf i).toNat)
  case atStart => exact ⟨0, _, _, Nat.zero_le _, rfl, by simp, HO8.out, HB8.out, P8, by omega, hsg2, HSR8.out⟩
  case round =>
    clear P8 HB8 HO8 HSR8 hsg2
    obtain ⟨k, g, cc, hk, rfl, rfl, hown, hb, P, hgs, hsg, hsr⟩ := hrel
    have hwz : w.heap.size < wr.heap.size := P.1
    obtain ⟨kn, hkn⟩ : ∃ kn, kn = k * 4 := ⟨_, rfl⟩
    rw [← hkn] at hown ⊢
    have HKN := Lib.hid hkn
    have hknb : kn ≤ 4096 := by omega
    clear hkn
    by_cases hlt : k < 4
    · have HRW := Lib.hid (HROW.out wr (HN.out wr hb) k hlt sg sc S HSS.out hscc hsr hsg)
      have HY : Hid (tab (fun i => predV l m C T L 4 4 ((kn + i) % 4) ((kn + i) / 4)) 4 = rowV l m C T L 4 4 k) := Lib.hid (by
        unfold rowV
        apply tab_congr
        intro x hx
        rw [HKN.out, sq_mod hx, sq_div hx])
      have H1 := Lib.hid hown
      have H2 := Lib.hid hb
      have HPB := Lib.hid P
      have HSC := Lib.hid hsr
      obtain ⟨_, q0, q1, q2, q3, q4⟩ := P
      clear hown hb hsr
      go_wp2_with (first
        | (go_at_call 49; refine HRW.out.mono ?_; rintro e w3 ⟨rp, rz, rfl, rr, rb⟩)
        | (at_builtin; refine append_many_at Try.underlying22 Try.infoInt rfl (.tmp 48) (.tmp 54) rfl (w.heap.size + 1) g cc kn (tab (fun i => predV l m C T L 4 4 (i % 4) (i / 4)) kn) (tab_len _ _) rfl (H1.out.below rb (Nat.le_refl _)) rp 4 rz (rowV l m C T L 4 4 k) (tab_len _ _) (by omega) rfl rr ?_ ?_ ?_; (omega); (have := rb.size; omega); intro g' cc1 w5 ho5 hg5 hat5))
      have hs3' : wr.heap.size ≤ w3.heap.size := rb.size
      rw [← HY.out, tab_append (fun i => predV l m C T L 4 4 (i % 4) (i / 4))] at ho5
      have H3 := Lib.hid ho5
      have hgB : w.heap.size + 1 ≤ g := (H1.out.lt _ rfl).1
      have H4 : Hid (Below w.heap.size w w5) := Lib.hid ((H2.out.trans (rb.mono (by omega))).grown hg5 (by omega) (fun k hk => by injection hk with hk; omega))
      have H5 : Hid (Box5 w5 w.heap.size (.slice (some ⟨p1, o1, none⟩) 8 c) (.slice (some ⟨p2, o2, none⟩) 4 d) (.int .i64 C) (.bool T) (.bool L)) := Lib.hid ((HPB.out.below rb (Nat.le_refl _)).grown (a := some ⟨g, 0, none⟩) hg5 (fun p hp => by cases hp; show g ≠ _; omega))
      have H6 : Hid (g' ≠ sg ∧ sg < w5.heap.size) := Lib.hid ⟨by rcases hat5 with h | h <;> omega, by have := hg5.size; omega⟩
      have H7 : Hid (∀ i, i < 7 → w5.cell? ⟨sg, i, none⟩ = some (.int .i64 (S.getD i 0))) := Lib.hid (fun i hi => hg5.cell ((bcell rb sg i hsg).trans (HSC.out i hi)) (by show some sg ≠ some g; intro h; injection h with h; exact hgs h.symm))
      clear ho5 hg5 hat5 rr rb q0 q1 q2 q3 q4
      go_wp2
      go_roundw
      case rel => exact ⟨k + 1, g', cc1, by omega, by go_num, by rw [show (k + 1) * 4 = kn + 4 from by rw [HKN.out]; omega], by rw [show (k + 1) * 4 = kn + 4 from by rw [HKN.out]; omega]; exact H3.out, H4.out, H5.out, H6.out.1, H6.out.2, H7.out⟩
      case measure => simp [intOf]; omega
    · obtain rfl : k = 4 := by omega
      have H1 := Lib.hid hown
      have H2 := Lib.hid hb
      have hk2 : Hid (kn = 16) := Lib.hid HKN.out
      clear hown hb P
      go_wp2
      go_ret
      exact ⟨_, _, ret_slice hk2.out, by have h := H1.out; rw [hk2.out] at h; exact h.mono (by omega), H2.out⟩
set_option maxHeartbeats 8000000 in
set_option maxRecDepth 100000 in
theorem spec.FastPred_8_x (mode : Int) (h4 : mode ≠ 4) (hmo : inR 0 5 mode = true) (a : Option Addr) (c : Nat) (l : List Int) (b : Option Addr) (d : Nat) (m : List Int) (C : Int) (T L : Bool) (w : World) (hN : NbAll w a l b m 8) (hok : nbB l m C 8 = true) (hcl : l.length ≤ c) :
    Calls Try.prog 29 #[.int .i64 mode, nbv a l.length c b m.length d C T L, .int .i64 8] w fun e w' => ∃ x y, e = .returned (.slice x 64 y) ∧ Own w.heap.size w' x y (predL l m C T L 8 mode) ∧ Below w.heap.size w w' := by
  have hCb := (nbB_true hok).2.2.2.2.2
  obtain ⟨hC0, hC1⟩ := hCb
  have HBB : Hid (∀ i, i < 2 * 8 + 1 → 0 ≤ (borderL l m C 8).getD i 0 ∧ (borderL l m C 8).getD i 0 ≤ 255) := Lib.hid (borderL_bd ⟨hC0, hC1⟩ (fun i hi => hN.tl i (by omega)) hN.tm)
  have HMO := Lib.hid (modeWord_in hmo)
  have HSB := Lib.hid (soft_border (l := l) (m := m) (C := C) (n := 8) (mode := mode) h4 HBB.out)
  have m4 : (mode == 4) = false := by simpa using h4
  clear h4
  have HN : Hid (∀ w0, Below w.heap.size w w0 → NbAll w0 a l b m 8) := Lib.hid (fun w0 h => ⟨hN.hl, hN.hm, hN.hr.below h (Nat.le_refl _), hN.hs.below h (Nat.le_refl _), hN.tl, hN.tm⟩)
  obtain ⟨hl, hm, hr, hs, htl, htm⟩ := hN
  have hcall := fun (w0 : World) (h : NbAll w0 a l b m 8) => spec.NbOk_8 a c l b d m C T L w0 (by omega) h.hr (by omega) h.hs
  have hbord := fun (w0 : World) (h : NbAll w0 a l b m 8) => spec.Border_8 a c l b d m C T L w0 h hok hcl
  have hrow := fun (w0 : World) (h : NbAll w0 a l b m 8) (Y : Nat) (hY : Y < 8) (sg sc : Nat) (S : List Int) (hS : softOk l m C 8 mode S) (hsc : 15 ≤ sc) (hsr : ∀ i, i < 15 → w0.cell? ⟨sg, i, none⟩ = some (.int .i64 (S.getD i 0))) (hsg : sg < w0.heap.size) => spec.l17Row_8 mode hmo a c l b d m C T L Y sg sc S w0 h hok hcl hY hS hsc hsr hsg
  simp only [hok] at hcall
  obtain ⟨p1, o1, rfl, hb1, hc1⟩ := hr.inside (by omega)
  obtain ⟨p2, o2, rfl, hb2, hc2⟩ := hs.inside (by omega)
  have HC1 : Hid (∀ w0, Below w.heap.size w w0 → ∀ i, i < 16 → w0.cell? ⟨p1, o1 + i, none⟩ = some (.int .i64 (l.getD i 0))) := Lib.hid (fun w0 h i hi => (bcell h _ _ hb1).trans (hc1 i (by omega)))
  have HC2 : Hid (∀ w0, Below w.heap.size w w0 → ∀ i, i < 8 → w0.cell? ⟨p2, o2 + i, none⟩ = some (.int .i64 (m.getD i 0))) := Lib.hid (fun w0 h i hi => (bcell h _ _ hb2).trans (hc2 i (by omega)))
  have HT1 := Lib.hid htl
  have HLL := Lib.hid hl
  rw [hl, hm] at hcall hbord hrow ⊢
  rw [hl] at hcl
  simp only [Nat.reduceMul] at hcall hbord hrow ⊢ hcl
  have HCALL := Lib.hid hcall
  have HBORD := Lib.hid hbord
  have HROW := Lib.hid hrow
  clear hcall hbord hrow hr hs hc1 hc2 hl hm htl htm hok hmo
  go_enter Try.func29, Try.ntmps29
  go_wp2_with fail
  obtain ⟨W0, hW0⟩ : ∃ WW, WW = (w.alloc (.cells #[.slice (some ⟨p1, o1, none⟩) 16 c, .slice (some ⟨p2, o2, none⟩) 8 d, .int .i64 C, .bool T, .bool L] 27)).alloc (.cells #[] 3) := ⟨_, rfl⟩
  rw [← hW0]
  have P0 : Box5 W0 w.heap.size (.slice (some ⟨p1, o1, none⟩) 16 c) (.slice (some ⟨p2, o2, none⟩) 8 d) (.int .i64 C) (.bool T) (.bool L) := by rw [hW0]; exact (Box5.new w _ _ _ _ _ _).below ((Below.refl _ _).alloc (Nat.le_refl _) _) (Nat.le_refl _)
  have HB0 : Hid (Below w.heap.size w W0) := Lib.hid (by rw [hW0]; exact ((Below.refl w.heap.size w).alloc (Nat.le_refl _) _).alloc (by simp) _)
  have HO0 : Hid (Own (w.heap.size + 1) W0 (some ⟨w.heap.size + 1, 0, none⟩) 0 []) := Lib.hid (by
    have h := Own.lit (B := w.heap.size + 1) (w.alloc (.cells #[.slice (some ⟨p1, o1, none⟩) 16 c, .slice (some ⟨p2, o2, none⟩) 8 d, .int .i64 C, .bool T, .bool L] 27)) #[] [] rfl (by simp) (by simp [maxLen])
    rw [hW0]; simpa using h)
  clear hW0
  refine (HCALL.out W0 (HN.out W0 HB0.out)).mono ?_
  rintro e w1 ⟨rfl, hb⟩
  have P1 := P0.below hb (Nat.le_refl _)
  have HB1 : Hid (Below w.heap.size w w1) := Lib.hid (HB0.out.trans (hb.mono HB0.out.size))
  have HO1 := Lib.hid (HO0.out.below hb (Nat.le_refl _))
  clear hb P0 HB0 HO0 HCALL
  go_wp2_with fail
  refine (spec.ModeWord_c mode w1).mono ?_
  rintro e w2 ⟨rfl, hb⟩
  have P2 := P1.below hb (Nat.le_refl _)
  have HB2 : Hid (Below w.heap.size w w2) := Lib.hid (HB1.out.trans (hb.mono HB1.out.size))
  have HO2 := Lib.hid (HO1.out.below hb (Nat.le_refl _))
  have hmw : (modeWordF mode).toList.isEmpty = false := by rcases HMO.out with rfl | rfl | rfl | rfl | rfl | rfl <;> decide +kernel
  clear hb P1 HB1 HO1
  have hP := P2
  obtain ⟨_, q0, q1, q2, q3, q4⟩ := hP
  go_wp2_with fail
  refine (HBORD.out w2 (HN.out w2 HB2.out)).mono ?_
  rintro e w3 ⟨ba, bc, rfl, ho3, hb⟩
  have P3 := P2.below hb (Nat.le_refl _)
  have HB3 : Hid (Below w.heap.size w w3) := Lib.hid (HB2.out.trans (hb.mono HB2.out.size))
  have HO3 := Lib.hid (HO2.out.below hb (Nat.le_refl _))
  clear P2 HB2 HO2 q0 q1 q2 q3 q4 hb hmw
  have hsof := spec.Softened_c ba bc (borderL l m C 8) w3 (by rw [borderL_len]; omega) ho3.row (fun x hx => by
    obtain ⟨i, hi, rfl⟩ := List.getElem_of_mem hx
    have := HBB.out i (by rw [borderL_len] at hi; exact hi)
    rw [getD_lt hi] at this
    omega)
  have HSL : Hid ((softL (borderL l m C 8)).length = 15) := Lib.hid (by rw [softL, tab_len, borderL_len])
  rw [HSL.out, borderL_len] at hsof
  simp only [Nat.reduceMul, Nat.reduceAdd] at hsof
  have HSOF := Lib.hid hsof
  clear hsof ho3
  go_wp2_with fail
  refine HSOF.out.mono ?_
  rintro e w4 ⟨sa, sc, rfl, ho4, hb⟩
  have P4 := P3.below hb (Nat.le_refl _)
  have HB4 : Hid (Below w.heap.size w w4) := Lib.hid (HB3.out.trans (hb.mono HB3.out.size))
  have HO4 := Lib.hid (HO3.out.below hb (Nat.le_refl _))
  have hs3 : w.heap.size + 1 < w3.heap.size := (HO3.out.lt _ rfl).2
  have hs4 : w3.heap.size ≤ w4.heap.size := hb.size
  obtain ⟨sg, rfl, hsg1, hsg2, _⟩ := ho4.at_ (i := 0) (by rw [HSL.out]; omega)
  have HSR : Hid (∀ i, i < 15 → w4.cell? ⟨sg, i, none⟩ = some (.int .i64 ((softL (borderL l m C 8)).getD i 0))) := Lib.hid (fun i hi => ho4.cellAt (i := i) (by rw [HSL.out]; exact hi))
  have hscc : 15 ≤ sc := by have := ho4.cap; rw [HSL.out] at this; exact this
  have HSS := HSB
  generalize hS : softL (borderL l m C 8) = S at *
  clear hb P3 HB3 HO3 HSOF ho4 hS HSB HSL
  go_wp2
  obtain ⟨w8, hw8⟩ : ∃ WW : World, WW = w4 := ⟨_, rfl⟩
  rw [← hw8] at P4 HB4 HO4 HSR hs4 hsg2 ⊢
  have P8 := P4
  have HB8 := HB4
  have HO8 := HO4
  have HSR8 := HSR
  have hsg8 : w.heap.size + 1 < sg := by omega
  clear hw8 P4 HB4 HO4 HSR hsg1
  go_loopw [7, 10] (fun o i wr => ∃ (k g cc : Nat), k ≤ 8 ∧ i = .int .i64 k ∧ o = .slice (some ⟨g, 0, none⟩) (k * 8) cc ∧ Own (w.heap.size + 1) wr (some ⟨g, 0, none⟩) cc (tab (fun i => predV l m C T L 8 mode (i % 8) (i / 8)) (k * 8)) ∧ Below w.heap.size w wr ∧ Box5 wr w.heap.size (.slice (some ⟨p1, o1, none⟩) 16 c) (.slice (some ⟨p2, o2, none⟩) 8 d) (.int .i64 C) (.bool T) (.bool L) ∧ g ≠ sg ∧ sg < wr.heap.size ∧ (∀ i, i < 15 → wr.cell? ⟨sg, i, none⟩ = some (.int .i64 (S.getD i 0)))) (fun _ i _ => 8 - (intOf i).toNat)
  case atStart => exact ⟨0, _, _, Nat.zero_le _, rfl, by simp, HO8.out, HB8.out, P8, by omega, hsg2, HSR8.out⟩
  case round =>
    clear P8 HB8 HO8 HSR8 hsg2
    obtain ⟨k, g, cc, hk, rfl, rfl, hown, hb, P, hgs, hsg, hsr⟩ := hrel
    have hwz : w.heap.size < wr.heap.size := P.1
    obtain ⟨kn, hkn⟩ : ∃ kn, kn = k * 8 := ⟨_, rfl⟩
    rw [← hkn] at hown ⊢
    have HKN := Lib.hid hkn
    have hknb : kn ≤ 4096 := by omega
    clear hkn
    by_cases hlt : k < 8
    · have HRW := Lib.hid (HROW.out wr (HN.out wr hb) k hlt sg sc S HSS.out hscc hsr hsg)
      have HY : Hid (tab (fun i => predV l m C T L 8 mode ((kn + i) % 8) ((kn + i) / 8)) 8 = rowV l m C T L 8 mode k) := Lib.hid (by
        unfold rowV
        apply tab_congr
        intro x hx
        rw [HKN.out, sq_mod hx, sq_div hx])
      have H1 := Lib.hid hown
      have H2 := Lib.hid hb
      have HPB := Lib.hid P
      have HSC := Lib.hid hsr
      obtain ⟨_, q0, q1, q2, q3, q4⟩ := P
      clear hown hb hsr
      go_wp2_with (first
        | (go_at_call 49; refine HRW.out.mono ?_; rintro e w3 ⟨rp, rz, rfl, rr, rb⟩)
        | (at_builtin; refine append_many_at Try.underlying22 Try.infoInt rfl (.tmp 48) (.tmp 54) rfl (w.heap.size + 1) g cc kn (tab (fun i => predV l m C T L 8 mode (i % 8) (i / 8)) kn) (tab_len _ _) rfl (H1.out.below rb (Nat.le_refl _)) rp 8 rz (rowV l m C T L 8 mode k) (tab_len _ _) (by omega) rfl rr ?_ ?_ ?_; (omega); (have := rb.size; omega); intro g' cc1 w5 ho5 hg5 hat5))
      have hs3' : wr.heap.size ≤ w3.heap.size := rb.size
      rw [← HY.out, tab_append (fun i => predV l m C T L 8 mode (i % 8) (i / 8))] at ho5
      have H3 := Lib.hid ho5
      have hgB : w.heap.size + 1 ≤ g := (H1.out.lt _ rfl).1
      have H4 : Hid (Below w.heap.size w w5) := Lib.hid ((H2.out.trans (rb.mono (by omega))).grown hg5 (by omega) (fun k hk => by injection hk with hk; omega))
      have H5 : Hid (Box5 w5 w.heap.size (.slice (some ⟨p1, o1, none⟩) 16 c) (.slice (some ⟨p2, o2, none⟩) 8 d) (.int .i64 C) (.bool T) (.bool L)) := Lib.hid ((HPB.out.below rb (Nat.le_refl _)).grown (a := some ⟨g, 0, none⟩) hg5 (fun p hp => by cases hp; show g ≠ _; omega))
      have H6 : Hid (g' ≠ sg ∧ sg < w5.heap.size) := Lib.hid ⟨by rcases hat5 with h | h <;> omega, by have := hg5.size; omega⟩
      have H7 : Hid (∀ i, i < 15 → w5.cell? ⟨sg, i, none⟩ = some (.int .i64 (S.getD i 0))) := Lib.hid (fun i hi => hg5.cell ((bcell rb sg i hsg).trans (HSC.out i hi)) (by show some sg ≠ some g; intro h; injection h with h; exact hgs h.symm))
      clear ho5 hg5 hat5 rr rb q0 q1 q2 q3 q4
      go_wp2
      go_roundw
      case rel => exact ⟨k + 1, g', cc1, by omega, by go_num, by rw [show (k + 1) * 8 = kn + 8 from by rw [HKN.out]; omega], by rw [show (k + 1) * 8 = kn + 8 from by rw [HKN.out]; omega]; exact H3.out, H4.out, H5.out, H6.out.1, H6.out.2, H7.out⟩
      case measure => simp [intOf]; omega
    · obtain rfl : k = 8 := by omega
      have H1 := Lib.hid hown
      have H2 := Lib.hid hb
      have hk2 : Hid (kn = 64) := Lib.hid HKN.out
      clear hown hb P
      go_wp2
      go_ret
      exact ⟨_, _, ret_slice hk2.out, by have h := H1.out; rw [hk2.out] at h; exact h.mono (by omega), H2.out⟩
set_option maxHeartbeats 8000000 in
set_option maxRecDepth 100000 in
theorem spec.FastPred_8_4 (hmo : inR 0 5 4 = true) (a : Option Addr) (c : Nat) (l : List Int) (b : Option Addr) (d : Nat) (m : List Int) (C : Int) (T L : Bool) (w : World) (hN : NbAll w a l b m 8) (hok : nbB l m C 8 = true) (hcl : l.length ≤ c) :
    Calls Try.prog 29 #[.int .i64 4, nbv a l.length c b m.length d C T L, .int .i64 8] w fun e w' => ∃ x y, e = .returned (.slice x 64 y) ∧ Own w.heap.size w' x y (predL l m C T L 8 4) ∧ Below w.heap.size w w' := by
  have hCb := (nbB_true hok).2.2.2.2.2
  obtain ⟨hC0, hC1⟩ := hCb
  have HBB : Hid (∀ i, i < 2 * 8 + 1 → 0 ≤ (borderL l m C 8).getD i 0 ∧ (borderL l m C 8).getD i 0 ≤ 255) := Lib.hid (borderL_bd ⟨hC0, hC1⟩ (fun i hi => hN.tl i (by omega)) hN.tm)
  have HMO := Lib.hid (modeWord_in hmo)
  have HST := Lib.hid (soft_top (l := l) (m := m) (C := C) (n := 8) (by omega) hN.hl hN.tl)
  have HN : Hid (∀ w0, Below w.heap.size w w0 → NbAll w0 a l b m 8) := Lib.hid (fun w0 h => ⟨hN.hl, hN.hm, hN.hr.below h (Nat.le_refl _), hN.hs.below h (Nat.le_refl _), hN.tl, hN.tm⟩)
  obtain ⟨hl, hm, hr, hs, htl, htm⟩ := hN
  have hcall := fun (w0 : World) (h : NbAll w0 a l b m 8) => spec.NbOk_8 a c l b d m C T L w0 (by omega) h.hr (by omega) h.hs
  have hbord := fun (w0 : World) (h : NbAll w0 a l b m 8) => spec.Border_8 a c l b d m C T L w0 h hok hcl
  have hrow := fun (w0 : World) (h : NbAll w0 a l b m 8) (Y : Nat) (hY : Y < 8) (sg sc : Nat) (S : List Int) (hS : softOk l m C 8 4 S) (hsc : 15 ≤ sc) (hsr : ∀ i, i < 15 → w0.cell? ⟨sg, i, none⟩ = some (.int .i64 (S.getD i 0))) (hsg : sg < w0.heap.size) => spec.l17Row_8 4 hmo a c l b d m C T L Y sg sc S w0 h hok hcl hY hS hsc hsr hsg
  simp only [hok] at hcall
  obtain ⟨p1, o1, rfl, hb1, hc1⟩ := hr.inside (by omega)
  obtain ⟨p2, o2, rfl, hb2, hc2⟩ := hs.inside (by omega)
  have HC1 : Hid (∀ w0, Below w.heap.size w w0 → ∀ i, i < 16 → w0.cell? ⟨p1, o1 + i, none⟩ = some (.int .i64 (l.getD i 0))) := Lib.hid (fun w0 h i hi => (bcell h _ _ hb1).trans (hc1 i (by omega)))
  have HC2 : Hid (∀ w0, Below w.heap.size w w0 → ∀ i, i < 8 → w0.cell? ⟨p2, o2 + i, none⟩ = some (.int .i64 (m.getD i 0))) := Lib.hid (fun w0 h i hi => (bcell h _ _ hb2).trans (hc2 i (by omega)))
  have HT1 := Lib.hid htl
  have HLL := Lib.hid hl
  rw [hl, hm] at hcall hbord hrow ⊢
  rw [hl] at hcl
  simp only [Nat.reduceMul] at hcall hbord hrow ⊢ hcl
  have HCALL := Lib.hid hcall
  have HBORD := Lib.hid hbord
  have HROW := Lib.hid hrow
  clear hcall hbord hrow hr hs hc1 hc2 hl hm htl htm hok hmo
  go_enter Try.func29, Try.ntmps29
  go_wp2_with fail
  obtain ⟨W0, hW0⟩ : ∃ WW, WW = (w.alloc (.cells #[.slice (some ⟨p1, o1, none⟩) 16 c, .slice (some ⟨p2, o2, none⟩) 8 d, .int .i64 C, .bool T, .bool L] 27)).alloc (.cells #[] 3) := ⟨_, rfl⟩
  rw [← hW0]
  have P0 : Box5 W0 w.heap.size (.slice (some ⟨p1, o1, none⟩) 16 c) (.slice (some ⟨p2, o2, none⟩) 8 d) (.int .i64 C) (.bool T) (.bool L) := by rw [hW0]; exact (Box5.new w _ _ _ _ _ _).below ((Below.refl _ _).alloc (Nat.le_refl _) _) (Nat.le_refl _)
  have HB0 : Hid (Below w.heap.size w W0) := Lib.hid (by rw [hW0]; exact ((Below.refl w.heap.size w).alloc (Nat.le_refl _) _).alloc (by simp) _)
  have HO0 : Hid (Own (w.heap.size + 1) W0 (some ⟨w.heap.size + 1, 0, none⟩) 0 []) := Lib.hid (by
    have h := Own.lit (B := w.heap.size + 1) (w.alloc (.cells #[.slice (some ⟨p1, o1, none⟩) 16 c, .slice (some ⟨p2, o2, none⟩) 8 d, .int .i64 C, .bool T, .bool L] 27)) #[] [] rfl (by simp) (by simp [maxLen])
    rw [hW0]; simpa using h)
  clear hW0
  refine (HCALL.out W0 (HN.out W0 HB0.out)).mono ?_
  rintro e w1 ⟨rfl, hb⟩
  have P1 := P0.below hb (Nat.le_refl _)
  have HB1 : Hid (Below w.heap.size w w1) := Lib.hid (HB0.out.trans (hb.mono HB0.out.size))
  have HO1 := Lib.hid (HO0.out.below hb (Nat.le_refl _))
  clear hb P0 HB0 HO0 HCALL
  go_wp2_with fail
  refine (spec.ModeWord_c 4 w1).mono ?_
  rintro e w2 ⟨rfl, hb⟩
  have P2 := P1.below hb (Nat.le_refl _)
  have HB2 : Hid (Below w.heap.size w w2) := Lib.hid (HB1.out.trans (hb.mono HB1.out.size))
  have HO2 := Lib.hid (HO1.out.below hb (Nat.le_refl _))
  have hmw : (modeWordF 4).toList.isEmpty = false := by decide +kernel
  clear hb P1 HB1 HO1
  have hP := P2
  obtain ⟨_, q0, q1, q2, q3, q4⟩ := hP
  go_wp2_with fail
  refine (HBORD.out w2 (HN.out w2 HB2.out)).mono ?_
  rintro e w3 ⟨ba, bc, rfl, ho3, hb⟩
  have P3 := P2.below hb (Nat.le_refl _)
  have HB3 : Hid (Below w.heap.size w w3) := Lib.hid (HB2.out.trans (hb.mono HB2.out.size))
  have HO3 := Lib.hid (HO2.out.below hb (Nat.le_refl _))
  clear P2 HB2 HO2 q0 q1 q2 q3 q4 hb hmw
  have hsof := spec.Softened_c ba bc (borderL l m C 8) w3 (by rw [borderL_len]; omega) ho3.row (fun x hx => by
    obtain ⟨i, hi, rfl⟩ := List.getElem_of_mem hx
    have := HBB.out i (by rw [borderL_len] at hi; exact hi)
    rw [getD_lt hi] at this
    omega)
  have HSL : Hid ((softL (borderL l m C 8)).length = 15) := Lib.hid (by rw [softL, tab_len, borderL_len])
  rw [HSL.out, borderL_len] at hsof
  simp only [Nat.reduceMul, Nat.reduceAdd] at hsof
  have HSOF := Lib.hid hsof
  clear hsof ho3
  go_wp2_with fail
  refine HSOF.out.mono ?_
  rintro e w4 ⟨sa, sc, rfl, ho4, hb⟩
  have P4 := P3.below hb (Nat.le_refl _)
  have HB4 : Hid (Below w.heap.size w w4) := Lib.hid (HB3.out.trans (hb.mono HB3.out.size))
  have HO4 := Lib.hid (HO3.out.below hb (Nat.le_refl _))
  have hs3 : w.heap.size + 1 < w3.heap.size := (HO3.out.lt _ rfl).2
  have hs4 : w3.heap.size ≤ w4.heap.size := hb.size
  clear hb P3 HB3 HO3 HSOF HSL ho4
  have hP := P4
  obtain ⟨_, q0, q1, q2, q3, q4⟩ := hP
  have hr4 : Row w4 (some ⟨p1, o1, none⟩) l := .inr ⟨p1, o1, rfl, fun i hi => HC1.out w4 HB4.out i (by have := HLL.out; omega)⟩
  have HR4 := Lib.hid hr4
  have HO4' := HO4
  have HRANGE : Hid (∀ x ∈ l ++ [l.getD 15 0], -9223372036854775808 ≤ x ∧ x ≤ 9223372036854775807) := Lib.hid (fun x hx => by
    rcases List.mem_append.1 hx with hx | hx
    · obtain ⟨i, hi, rfl⟩ := List.getElem_of_mem hx
      have := HT1.out i (by have := HLL.out; omega)
      rw [getD_lt hi] at this
      omega
    · have h2 := HT1.out 15 (by omega)
      simp only [List.mem_singleton] at hx
      rw [hx]
      omega)
  have HEL : Hid ((l ++ [l.getD 15 0]).length = 17) := Lib.hid (by rw [List.length_append, HLL.out]; rfl)
  have HSL : Hid ((softL (l ++ [l.getD 15 0])).length = 15) := Lib.hid (by rw [softL, tab_len, HEL.out])
  have hsz4 : w.heap.size + 1 < w4.heap.size := by omega
  clear hr4
  generalize hv : l.getD 15 0 = v at *
  have HV := Lib.hid hv
  clear hv
  go_wp2_with (first
    | (at_builtin; refine append_many Try.underlying22 Try.infoInt rfl (.tmp 28) (.tmp 30) rfl w4.heap.size _ _ 0 [] rfl rfl (Own.lit w4 #[] [] rfl (Nat.le_refl _) (by simp [maxLen])) ⟨p1, o1, none⟩ 16 c l HLL.out rfl (HR4.out.alloc _) ?_ ?_ ?_; (omega); (simp); intro ad1 cc1 w5 ho5 hb5; have hk0 := (bcell hb5 w.heap.size 0 (by omega)).trans ((bcell ((Below.refl w4.heap.size w4).alloc (Nat.le_refl _) (Obj.cells #[] 3)) w.heap.size 0 (by omega)).trans q0); have hkv := (bcell hb5 p1 (o1 + 15) (by omega)).trans ((bcell ((Below.refl w4.heap.size w4).alloc (Nat.le_refl _) (Obj.cells #[] 3)) p1 (o1 + 15) (by omega)).trans ((HC1.out w4 HB4.out 15 (by omega)).trans (by rw [HV.out]))); have HO5 : Hid (Own w4.heap.size w5 ad1 cc1 l) := Lib.hid (by simpa using ho5); have HB5 := Lib.hid hb5; clear ho5 hb5)
    | (at_builtin; refine append_one Try.underlying22 Try.infoInt rfl (.tmp 32) (.tmp 40) rfl w4.heap.size ad1 cc1 16 l HLL.out rfl (HO5.out.alloc _) w5.heap.size v rfl ?_ ?_ ?_ ?_; (simp); (omega); (have := HB5.out.size; simp at this; simp; omega); intro ad2 cc2 w6 ho6 hb6; have HO6 := Lib.hid ho6; have HB6 := Lib.hid hb6; clear ho6 hb6; have hsof := spec.Softened_c ad2 cc2 (l ++ [v]) w6 (by rw [HEL.out]; omega) HO6.out.row HRANGE.out; rw [HSL.out, HEL.out] at hsof; have HSOF := Lib.hid hsof; clear hsof)
    | (go_at_call 48; refine HSOF.out.mono ?_; rintro e w8 ⟨ta, tc, rfl, ho8, hb8⟩))
  have hs5 : w4.heap.size ≤ w5.heap.size := by have := HB5.out.size; simp at this; omega
  have hs6 : w5.heap.size ≤ w6.heap.size := by have := HB6.out.size; simp at this; omega
  have HB8 : Hid (Below w.heap.size w w8) := Lib.hid ((((HB4.out.alloc HB4.out.size _).trans (HB5.out.mono (by omega))).trans ((Below.refl _ _).alloc (by omega) (Obj.cells #[.int .i64 v] 3) |>.trans (HB6.out.mono (by omega)))).trans (hb8.mono (by omega)))
  have HBW : Hid (Below w4.heap.size w4 w8) := Lib.hid (((((Below.refl w4.heap.size w4).alloc (Nat.le_refl _) _).trans HB5.out).trans (((Below.refl _ _).alloc (by omega) (Obj.cells #[.int .i64 v] 3)).trans HB6.out)).trans (hb8.mono (by omega)))
  have P8 := P4.below HBW.out (Nat.le_refl _)
  have HO8 := Lib.hid (HO4.out.below HBW.out (Nat.le_refl _))
  obtain ⟨sg, rfl, hsg1, hsg2, _⟩ := ho8.at_ (i := 0) (by rw [HSL.out]; omega)
  have HSR8 : Hid (∀ i, i < 15 → w8.cell? ⟨sg, i, none⟩ = some (.int .i64 ((softL (l ++ [v])).getD i 0))) := Lib.hid (fun i hi => ho8.cellAt (i := i) (by rw [HSL.out]; exact hi))
  have hscc : 15 ≤ tc := by have := ho8.cap; rw [HSL.out] at this; exact this
  have HSS : Hid (softOk l m C 8 4 (softL (l ++ [v]))) := HST
  have hsg8 : w.heap.size + 1 < sg := by omega
  generalize hS : softL (l ++ [v]) = S at *
  generalize hsc : tc = sc at *
  clear hS hsc HB5 HB6 HBW hb8 HO5 HO6 HSOF P4 HB4 HO4 HO4' HR4 ho8 hsg1 hk0 hkv q0 q1 q2 q3 q4 HST HSL HEL HRANGE
  go_loopw [7, 10] (fun o i wr => ∃ (k g cc : Nat), k ≤ 8 ∧ i = .int .i64 k ∧ o = .slice (some ⟨g, 0, none⟩) (k * 8) cc ∧ Own (w.heap.size + 1) wr (some ⟨g, 0, none⟩) cc (tab (fun i => predV l m C T L 8 4 (i % 8) (i / 8)) (k * 8)) ∧ Below w.heap.size w wr ∧ Box5 wr w.heap.size (.slice (some ⟨p1, o1, none⟩) 16 c) (.slice (some ⟨p2, o2, none⟩) 8 d) (.int .i64 C) (.bool T) (.bool L) ∧ g ≠ sg ∧ sg < wr.heap.size ∧ (∀ i, i < 15 → wr.cell? ⟨sg, i, none⟩ = some (.int .i64 (S.getD i 0)))) (fun _ i _ => 8 - (intOf i).toNat)
  case atStart => exact ⟨0, _, _, Nat.zero_le _, rfl, by simp, HO8.out, HB8.out, P8, by omega, hsg2, HSR8.out⟩
  case round =>
    clear P8 HB8 HO8 HSR8 hsg2
    obtain ⟨k, g, cc, hk, rfl, rfl, hown, hb, P, hgs, hsg, hsr⟩ := hrel
    have hwz : w.heap.size < wr.heap.size := P.1
    obtain ⟨kn, hkn⟩ : ∃ kn, kn = k * 8 := ⟨_, rfl⟩
    rw [← hkn] at hown ⊢
    have HKN := Lib.hid hkn
    have hknb : kn ≤ 4096 := by omega
    clear hkn
    by_cases hlt : k < 8
    · have HRW := Lib.hid (HROW.out wr (HN.out wr hb) k hlt sg sc S HSS.out hscc hsr hsg)
      have HY : Hid (tab (fun i => predV l m C T L 8 4 ((kn + i) % 8) ((kn + i) / 8)) 8 = rowV l m C T L 8 4 k) := Lib.hid (by
        unfold rowV
        apply tab_congr
        intro x hx
        rw [HKN.out, sq_mod hx, sq_div hx])
      have H1 := Lib.hid hown
      have H2 := Lib.hid hb
      have HPB := Lib.hid P
      have HSC := Lib.hid hsr
      obtain ⟨_, q0, q1, q2, q3, q4⟩ := P
      clear hown hb hsr
      go_wp2_with (first
        | (go_at_call 49; refine HRW.out.mono ?_; rintro e w3 ⟨rp, rz, rfl, rr, rb⟩)
        | (at_builtin; refine append_many_at Try.underlying22 Try.infoInt rfl (.tmp 48) (.tmp 54) rfl (w.heap.size + 1) g cc kn (tab (fun i => predV l m C T L 8 4 (i % 8) (i / 8)) kn) (tab_len _ _) rfl (H1.out.below rb (Nat.le_refl _)) rp 8 rz (rowV l m C T L 8 4 k) (tab_len _ _) (by omega) rfl rr ?_ ?_ ?_; (omega); (have := rb.size; omega); intro g' cc1 w5 ho5 hg5 hat5))
      have hs3' : wr.heap.size ≤ w3.heap.size := rb.size
      rw [← HY.out, tab_append (fun i => predV l m C T L 8 4 (i % 8) (i / 8))] at ho5
      have H3 := Lib.hid ho5
      have hgB : w.heap.size + 1 ≤ g := (H1.out.lt _ rfl).1
      have H4 : Hid (Below w.heap.size w w5) := Lib.hid ((H2.out.trans (rb.mono (by omega))).grown hg5 (by omega) (fun k hk => by injection hk with hk; omega))
      have H5 : Hid (Box5 w5 w.heap.size (.slice (some ⟨p1, o1, none⟩) 16 c) (.slice (some ⟨p2, o2, none⟩) 8 d) (.int .i64 C) (.bool T) (.bool L)) := Lib.hid ((HPB.out.below rb (Nat.le_refl _)).grown (a := some ⟨g, 0, none⟩) hg5 (fun p hp => by cases hp; show g ≠ _; omega))
      have H6 : Hid (g' ≠ sg ∧ sg < w5.heap.size) := Lib.hid ⟨by rcases hat5 with h | h <;> omega, by have := hg5.size; omega⟩
      have H7 : Hid (∀ i, i < 15 → w5.cell? ⟨sg, i, none⟩ = some (.int .i64 (S.getD i 0))) := Lib.hid (fun i hi => hg5.cell ((bcell rb sg i hsg).trans (HSC.out i hi)) (by show some sg ≠ some g; intro h; injection h with h; exact hgs h.symm))
      clear ho5 hg5 hat5 rr rb q0 q1 q2 q3 q4
      go_wp2
      go_roundw
      case rel => exact ⟨k + 1, g', cc1, by omega, by go_num, by rw [show (k + 1) * 8 = kn + 8 from by rw [HKN.out]; omega], by rw [show (k + 1) * 8 = kn + 8 from by rw [HKN.out]; omega]; exact H3.out, H4.out, H5.out, H6.out.1, H6.out.2, H7.out⟩
      case measure => simp [intOf]; omega
    · obtain rfl : k = 8 := by omega
      have H1 := Lib.hid hown
      have H2 := Lib.hid hb
      have hk2 : Hid (kn = 64) := Lib.hid HKN.out
      clear hown hb P
      go_wp2
      go_ret
      exact ⟨_, _, ret_slice hk2.out, by have h := H1.out; rw [hk2.out] at h; exact h.mono (by omega), H2.out⟩


set_option maxHeartbeats 1000000 in
theorem spec.FastPred_no (mode : Int) (a : Option Addr) (c : Nat) (l : List Int) (b : Option Addr) (d : Nat) (m : List Int) (C : Int) (T L : Bool) (n : Int) (w : World) (hl : l.length ≤ 1099511627776) (hr : Row w a l) (hw : ∀ x ∈ l, -9223372036854775808 ≤ x ∧ x ≤ 9223372036854775807) (hm : m.length ≤ 1099511627776) (hs : Row w b m) (hu : ∀ x ∈ m, -9223372036854775808 ≤ x ∧ x ≤ 9223372036854775807) (hC : -9223372036854775808 ≤ C ∧ C ≤ 9223372036854775807) (h : predLB l m C n mode = false) :
    Calls Try.prog 29 #[.int .i64 mode, nbv a l.length c b m.length d C T L, .int .i64 n] w fun e w' => ∃ x y, e = .returned (.slice x 0 y) ∧ Own w.heap.size w' x y [] ∧ Below w.heap.size w w' := by
  have hcall := fun (w0 : World) (h1 : Below w.heap.size w w0) => spec.NbOk_c a c l b d m C T L n w0 hl (hr.below h1 (Nat.le_refl _)) hw hm (hs.below h1 (Nat.le_refl _)) hu hC
  cases hn : nbB l m C n
  · simp only [hn] at hcall
    have HC := Lib.hid hcall
    clear hcall hl hr hw hm hs hu hC h hn
    go_enter Try.func29, Try.ntmps29
    go_wp2_with fail
    refine (HC.out _ (((Below.refl w.heap.size w).alloc (Nat.le_refl _) _).alloc (by simp) _)).mono ?_
    rintro e w1 ⟨rfl, hb⟩
    have HB : Hid (Below w.heap.size w w1) := Lib.hid ((((Below.refl w.heap.size w).alloc (Nat.le_refl _) _).alloc (by simp) _).trans (hb.mono (by simp; omega)))
    have HO : Hid (Own w.heap.size w1 (some ⟨w.heap.size + 1, 0, none⟩) 0 []) := Lib.hid (by
      have h := Own.lit (B := w.heap.size) (w.alloc (.cells #[.slice a l.length c, .slice b m.length d, .int .i64 C, .bool T, .bool L] 27)) #[] [] rfl (by simp) (by simp [maxLen])
      have h2 := h.below hb (Nat.le_refl _)
      simpa using h2)
    clear hb
    go_wp2
    go_ret
    exact ⟨_, _, rfl, HO.out, HB.out⟩
  · have hmo : inR 0 5 mode = false := by simpa [predLB, hn] using h
    have HMW := Lib.hid (modeWord_out hmo)
    simp only [hn] at hcall
    have HC := Lib.hid hcall
    clear hcall hl hr hw hm hs hu hC h hn hmo
    go_enter Try.func29, Try.ntmps29
    go_wp2_with fail
    refine (HC.out _ (((Below.refl w.heap.size w).alloc (Nat.le_refl _) _).alloc (by simp) _)).mono ?_
    rintro e w1 ⟨rfl, hb⟩
    have HB : Hid (Below w.heap.size w w1) := Lib.hid ((((Below.refl w.heap.size w).alloc (Nat.le_refl _) _).alloc (by simp) _).trans (hb.mono (by simp; omega)))
    have HO : Hid (Own w.heap.size w1 (some ⟨w.heap.size + 1, 0, none⟩) 0 []) := Lib.hid (by
      have h := Own.lit (B := w.heap.size) (w.alloc (.cells #[.slice a l.length c, .slice b m.length d, .int .i64 C, .bool T, .bool L] 27)) #[] [] rfl (by simp) (by simp [maxLen])
      have h2 := h.below hb (Nat.le_refl _)
      simpa using h2)
    clear hb
    go_wp2_with fail
    refine (spec.ModeWord_c mode w1).mono ?_
    rintro e w2 ⟨rfl, hb2⟩
    have hmw : (modeWordF mode).toList.isEmpty = true := by rw [HMW.out]; decide +kernel
    have HB2 : Hid (Below w.heap.size w w2) := Lib.hid (HB.out.trans (hb2.mono HB.out.size))
    have HO2 := Lib.hid (HO.out.below hb2 (Nat.le_refl _))
    clear hb2
    go_wp2
    go_ret
    exact ⟨_, _, rfl, HO2.out, HB2.out⟩
theorem spec.FastPred_c (mode : Int) (a : Option Addr) (c : Nat) (l : List Int) (b : Option Addr) (d : Nat) (m : List Int) (C : Int) (T L : Bool) (n : Int) (w : World) (hl : l.length ≤ 1099511627776) (hr : Row w a l) (hw : ∀ x ∈ l, -9223372036854775808 ≤ x ∧ x ≤ 9223372036854775807) (hm : m.length ≤ 1099511627776) (hs : Row w b m) (hu : ∀ x ∈ m, -9223372036854775808 ≤ x ∧ x ≤ 9223372036854775807) (hC : -9223372036854775808 ≤ C ∧ C ≤ 9223372036854775807) (hcl : l.length ≤ c) (hcm : m.length ≤ d) :
    Calls Try.prog 29 #[.int .i64 mode, nbv a l.length c b m.length d C T L, .int .i64 n] w fun e w' => ∃ x y, e = .returned (.slice x (predLF l m C T L mode n).length y) ∧ Own w.heap.size w' x y (predLF l m C T L mode n) ∧ Below w.heap.size w w' := by
  cases h : predLB l m C n mode
  · have hf : predLF l m C T L mode n = [] := by simp [predLF, h]
    rw [hf]
    exact spec.FastPred_no mode a c l b d m C T L n w hl hr hw hm hs hu hC h
  · have hf : predLF l m C T L mode n = predL l m C T L n.toNat mode := by simp [predLF, h]
    rw [hf]
    simp only [predLB, Bool.and_eq_true] at h
    obtain ⟨hok, hmo⟩ := h
    by_cases h4 : mode = 4
    · subst h4
      rcases (nbB_true hok).1 with rfl | rfl
      · exact spec.FastPred_4_4 hmo a c l b d m C T L w (nb_all hr hs hok) hok hcl
      · exact spec.FastPred_8_4 hmo a c l b d m C T L w (nb_all hr hs hok) hok hcl
    · rcases (nbB_true hok).1 with rfl | rfl
      · exact spec.FastPred_4_x mode h4 hmo a c l b d m C T L w (nb_all hr hs hok) hok hcl
      · exact spec.FastPred_8_x mode h4 hmo a c l b d m C T L w (nb_all hr hs hok) hok hcl

end Go.Proofs.Ytnbkkhaahfnlfaa
