/- Contracts: one sample of a prediction. -/
import Derived.Test.YtbdggcefgiehkaaBorder
import Derived.Test.YtbdggcefgiehkaaClip
namespace Go.Proofs.Ytbdggcefgiehkaa
open Go.RowKit
set_option linter.unusedVariables false

def predV (l m : List Int) (C : Int) (T L : Bool) (n : Nat) (mode : Int) (x y : Nat) : Int :=
  if mode = 0 then meanV l m T L n else if mode = 1 then l.getD x 0 else if mode = 2 then m.getD y 0 else if mode = 3 then clipF 0 255 (m.getD y 0 + l.getD x 0 - C)
  else if mode = 4 then softF (l.getD (x + y) 0) (l.getD (min (x + y + 1) (2 * n - 1)) 0) (l.getD (min (x + y + 2) (2 * n - 1)) 0)
  else if mode = 5 then softF ((borderL l m C n).getD (x + n - y - 1) 0) ((borderL l m C n).getD (x + n - y) 0) ((borderL l m C n).getD (x + n - y + 1) 0) else -1
def predB (l m : List Int) (C n x y : Int) : Bool := nbB l m C n && (inR 0 (n - 1) x && inR 0 (n - 1) y)
def predF (l m : List Int) (C : Int) (T L : Bool) (mode n x y : Int) : Int := if predB l m C n x y = true then predV l m C T L n.toNat mode x.toNat y.toNat else -1

theorem borderL_bd {l m : List Int} {C : Int} {n : Nat} (hC : 0 ≤ C ∧ C ≤ 255) (tl : ∀ i, i < n → 0 ≤ l.getD i 0 ∧ l.getD i 0 ≤ 255) (tm : ∀ i, i < n → 0 ≤ m.getD i 0 ∧ m.getD i 0 ≤ 255) (i : Nat) (hi : i < 2 * n + 1) :
    0 ≤ (borderL l m C n).getD i 0 ∧ (borderL l m C n).getD i 0 ≤ 255 := by
  have hmem : ∀ x ∈ borderL l m C n, 0 ≤ x ∧ x ≤ 255 := by
    intro x hx
    simp only [borderL, tab, List.mem_append, List.mem_map, List.mem_range, List.mem_singleton] at hx
    rcases hx with (⟨j, hj, rfl⟩ | rfl) | ⟨j, hj, rfl⟩
    · exact tm _ (by omega)
    · exact hC
    · exact tl _ hj
  rw [getD_lt (by rw [borderL_len]; exact hi)]
  exact hmem _ (List.getElem_mem _)
--GEN

set_option maxHeartbeats 4000000 in
set_option maxRecDepth 100000 in
theorem impl.PredAt_4_0 (a : Option Addr) (c : Nat) (l : List Int) (b : Option Addr) (d : Nat) (m : List Int) (C : Int) (T L : Bool) (X Y : Nat) (w : World) (hN : NbAll w a l b m 4) (hok : nbB l m C 4 = true) (hcl : l.length ≤ c) (hX : X < 4) (hY : Y < 4) :
    Calls Try.prog 27 #[.int .i64 (0), nbv a l.length c b m.length d C T L, .int .i64 4, .int .i64 X, .int .i64 Y] w fun e w' => e = .returned (.int .i64 (predV l m C T L 4 0 X Y)) ∧ Below w.heap.size w w' := by
  have HPV : Hid (predV l m C T L 4 0 X Y = meanV l m T L 4) := Lib.hid rfl
  have hCb := (nbB_true hok).2.2.2.2.2
  obtain ⟨hC0, hC1⟩ := hCb
  have HN : Hid (∀ w0, Below w.heap.size w w0 → NbAll w0 a l b m 4) := Lib.hid (fun w0 h => ⟨hN.hl, hN.hm, hN.hr.below h (Nat.le_refl _), hN.hs.below h (Nat.le_refl _), hN.tl, hN.tm⟩)
  obtain ⟨hl, hm, hr, hs, htl, htm⟩ := hN
  have hcall := fun (w0 : World) (h : NbAll w0 a l b m 4) => impl.NbOk_4 a c l b d m C T L w0 (by omega) h.hr (by omega) h.hs
  have hmean := fun (w0 : World) (h : NbAll w0 a l b m 4) => impl.Mean_4 a c l b d m C T L w0 h hok hcl
  have hbord := fun (w0 : World) (h : NbAll w0 a l b m 4) => impl.Border_4 a c l b d m C T L w0 h hok hcl
  obtain ⟨p1, o1, rfl, hb1, hc1⟩ := hr.inside (by omega)
  obtain ⟨p2, o2, rfl, hb2, hc2⟩ := hs.inside (by omega)
  have HC1 : Hid (∀ w0, Below w.heap.size w w0 → ∀ i, i < 8 → w0.cell? ⟨p1, o1 + i, none⟩ = some (.int .i64 (l.getD i 0))) := Lib.hid (fun w0 h i hi => (bcell h _ _ hb1).trans (hc1 i (by omega)))
  have HC2 : Hid (∀ w0, Below w.heap.size w w0 → ∀ i, i < 4 → w0.cell? ⟨p2, o2 + i, none⟩ = some (.int .i64 (m.getD i 0))) := Lib.hid (fun w0 h i hi => (bcell h _ _ hb2).trans (hc2 i (by omega)))
  simp only [hok] at hcall
  rw [hl, hm] at hcall hmean hbord ⊢
  rw [hl] at hcl
  have HC := Lib.hid hcall
  have HME := Lib.hid hmean
  have HBO := Lib.hid hbord
  have HT1 := Lib.hid htl
  have HT2 := Lib.hid htm
  clear hcall hmean hbord hr hs hc1 hc2 hl hm htl htm hok
  have hx : inR 0 3 (X : Int) = true := inR_mk (by omega)
  have hy : inR 0 3 (Y : Int) = true := inR_mk (by omega)
  go_enter Try.func27, Try.ntmps27
  go_wp2_with fail
  obtain ⟨W0, hW0⟩ : ∃ WW, WW = w.alloc (.cells #[.slice (some ⟨p1, o1, none⟩) 8 c, .slice (some ⟨p2, o2, none⟩) 4 d, .int .i64 C, .bool T, .bool L] 27) := ⟨_, rfl⟩
  rw [← hW0]
  have P0 : Box5 W0 w.heap.size (.slice (some ⟨p1, o1, none⟩) 8 c) (.slice (some ⟨p2, o2, none⟩) 4 d) (.int .i64 C) (.bool T) (.bool L) := by rw [hW0]; exact Box5.new w _ _ _ _ _ _
  have HB0 : Hid (Below w.heap.size w W0) := Lib.hid (by rw [hW0]; exact (Below.refl w.heap.size w).alloc (Nat.le_refl _) _)
  clear hW0
  refine (HC.out W0 (HN.out W0 HB0.out)).mono ?_
  rintro e w1 ⟨rfl, hb⟩
  have P1 := P0.below hb (Nat.le_refl _)
  have HB : Hid (Below w.heap.size w w1) := Lib.hid (HB0.out.trans (hb.mono HB0.out.size))
  clear hb P0 HB0 HC
  have hP := P1
  obtain ⟨_, q0, q1, q2, q3, q4⟩ := hP
  go_wp2_with (first | (go_at_call 51; refine (within_c _ _ _ _).mono ?_; rintro e w' ⟨rfl, rfl⟩) | (go_at_call 12; refine (HME.out w1 (HN.out w1 HB.out)).mono ?_; rintro e w3 ⟨rfl, hb3⟩))
  go_ret
  exact ⟨ret_int HPV.out.symm, HB.out.trans (hb3.mono HB.out.size)⟩
set_option maxHeartbeats 4000000 in
set_option maxRecDepth 100000 in
theorem impl.PredAt_4_1 (a : Option Addr) (c : Nat) (l : List Int) (b : Option Addr) (d : Nat) (m : List Int) (C : Int) (T L : Bool) (X Y : Nat) (w : World) (hN : NbAll w a l b m 4) (hok : nbB l m C 4 = true) (hcl : l.length ≤ c) (hX : X < 4) (hY : Y < 4) :
    Calls Try.prog 27 #[.int .i64 (1), nbv a l.length c b m.length d C T L, .int .i64 4, .int .i64 X, .int .i64 Y] w fun e w' => e = .returned (.int .i64 (predV l m C T L 4 1 X Y)) ∧ Below w.heap.size w w' := by
  have HPV : Hid (predV l m C T L 4 1 X Y = l.getD X 0) := Lib.hid rfl
  have hCb := (nbB_true hok).2.2.2.2.2
  obtain ⟨hC0, hC1⟩ := hCb
  have HN : Hid (∀ w0, Below w.heap.size w w0 → NbAll w0 a l b m 4) := Lib.hid (fun w0 h => ⟨hN.hl, hN.hm, hN.hr.below h (Nat.le_refl _), hN.hs.below h (Nat.le_refl _), hN.tl, hN.tm⟩)
  obtain ⟨hl, hm, hr, hs, htl, htm⟩ := hN
  have hcall := fun (w0 : World) (h : NbAll w0 a l b m 4) => impl.NbOk_4 a c l b d m C T L w0 (by omega) h.hr (by omega) h.hs
  have hmean := fun (w0 : World) (h : NbAll w0 a l b m 4) => impl.Mean_4 a c l b d m C T L w0 h hok hcl
  have hbord := fun (w0 : World) (h : NbAll w0 a l b m 4) => impl.Border_4 a c l b d m C T L w0 h hok hcl
  obtain ⟨p1, o1, rfl, hb1, hc1⟩ := hr.inside (by omega)
  obtain ⟨p2, o2, rfl, hb2, hc2⟩ := hs.inside (by omega)
  have HC1 : Hid (∀ w0, Below w.heap.size w w0 → ∀ i, i < 8 → w0.cell? ⟨p1, o1 + i, none⟩ = some (.int .i64 (l.getD i 0))) := Lib.hid (fun w0 h i hi => (bcell h _ _ hb1).trans (hc1 i (by omega)))
  have HC2 : Hid (∀ w0, Below w.heap.size w w0 → ∀ i, i < 4 → w0.cell? ⟨p2, o2 + i, none⟩ = some (.int .i64 (m.getD i 0))) := Lib.hid (fun w0 h i hi => (bcell h _ _ hb2).trans (hc2 i (by omega)))
  simp only [hok] at hcall
  rw [hl, hm] at hcall hmean hbord ⊢
  rw [hl] at hcl
  have HC := Lib.hid hcall
  have HME := Lib.hid hmean
  have HBO := Lib.hid hbord
  have HT1 := Lib.hid htl
  have HT2 := Lib.hid htm
  clear hcall hmean hbord hr hs hc1 hc2 hl hm htl htm hok
  have hx : inR 0 3 (X : Int) = true := inR_mk (by omega)
  have hy : inR 0 3 (Y : Int) = true := inR_mk (by omega)
  go_enter Try.func27, Try.ntmps27
  go_wp2_with fail
  obtain ⟨W0, hW0⟩ : ∃ WW, WW = w.alloc (.cells #[.slice (some ⟨p1, o1, none⟩) 8 c, .slice (some ⟨p2, o2, none⟩) 4 d, .int .i64 C, .bool T, .bool L] 27) := ⟨_, rfl⟩
  rw [← hW0]
  have P0 : Box5 W0 w.heap.size (.slice (some ⟨p1, o1, none⟩) 8 c) (.slice (some ⟨p2, o2, none⟩) 4 d) (.int .i64 C) (.bool T) (.bool L) := by rw [hW0]; exact Box5.new w _ _ _ _ _ _
  have HB0 : Hid (Below w.heap.size w W0) := Lib.hid (by rw [hW0]; exact (Below.refl w.heap.size w).alloc (Nat.le_refl _) _)
  clear hW0
  refine (HC.out W0 (HN.out W0 HB0.out)).mono ?_
  rintro e w1 ⟨rfl, hb⟩
  have P1 := P0.below hb (Nat.le_refl _)
  have HB : Hid (Below w.heap.size w w1) := Lib.hid (HB0.out.trans (hb.mono HB0.out.size))
  clear hb P0 HB0 HC
  have hP := P1
  obtain ⟨_, q0, q1, q2, q3, q4⟩ := hP
  have hcell := HC1.out w1 HB.out X (by omega)
  have hi : (X : Int) < 8 := by omega
  generalize l.getD X 0 = v at *
  go_wp2_with (go_at_call 51; refine (within_c _ _ _ _).mono ?_; rintro e w' ⟨rfl, rfl⟩)
  go_ret
  exact ⟨ret_int HPV.out.symm, HB.out⟩
set_option maxHeartbeats 4000000 in
set_option maxRecDepth 100000 in
theorem impl.PredAt_4_2 (a : Option Addr) (c : Nat) (l : List Int) (b : Option Addr) (d : Nat) (m : List Int) (C : Int) (T L : Bool) (X Y : Nat) (w : World) (hN : NbAll w a l b m 4) (hok : nbB l m C 4 = true) (hcl : l.length ≤ c) (hX : X < 4) (hY : Y < 4) :
    Calls Try.prog 27 #[.int .i64 (2), nbv a l.length c b m.length d C T L, .int .i64 4, .int .i64 X, .int .i64 Y] w fun e w' => e = .returned (.int .i64 (predV l m C T L 4 2 X Y)) ∧ Below w.heap.size w w' := by
  have HPV : Hid (predV l m C T L 4 2 X Y = m.getD Y 0) := Lib.hid rfl
  have hCb := (nbB_true hok).2.2.2.2.2
  obtain ⟨hC0, hC1⟩ := hCb
  have HN : Hid (∀ w0, Below w.heap.size w w0 → NbAll w0 a l b m 4) := Lib.hid (fun w0 h => ⟨hN.hl, hN.hm, hN.hr.below h (Nat.le_refl _), hN.hs.below h (Nat.le_refl _), hN.tl, hN.tm⟩)
  obtain ⟨hl, hm, hr, hs, htl, htm⟩ := hN
  have hcall := fun (w0 : World) (h : NbAll w0 a l b m 4) => impl.NbOk_4 a c l b d m C T L w0 (by omega) h.hr (by omega) h.hs
  have hmean := fun (w0 : World) (h : NbAll w0 a l b m 4) => impl.Mean_4 a c l b d m C T L w0 h hok hcl
  have hbord := fun (w0 : World) (h : NbAll w0 a l b m 4) => impl.Border_4 a c l b d m C T L w0 h hok hcl
  obtain ⟨p1, o1, rfl, hb1, hc1⟩ := hr.inside (by omega)
  obtain ⟨p2, o2, rfl, hb2, hc2⟩ := hs.inside (by omega)
  have HC1 : Hid (∀ w0, Below w.heap.size w w0 → ∀ i, i < 8 → w0.cell? ⟨p1, o1 + i, none⟩ = some (.int .i64 (l.getD i 0))) := Lib.hid (fun w0 h i hi => (bcell h _ _ hb1).trans (hc1 i (by omega)))
  have HC2 : Hid (∀ w0, Below w.heap.size w w0 → ∀ i, i < 4 → w0.cell? ⟨p2, o2 + i, none⟩ = some (.int .i64 (m.getD i 0))) := Lib.hid (fun w0 h i hi => (bcell h _ _ hb2).trans (hc2 i (by omega)))
  simp only [hok] at hcall
  rw [hl, hm] at hcall hmean hbord ⊢
  rw [hl] at hcl
  have HC := Lib.hid hcall
  have HME := Lib.hid hmean
  have HBO := Lib.hid hbord
  have HT1 := Lib.hid htl
  have HT2 := Lib.hid htm
  clear hcall hmean hbord hr hs hc1 hc2 hl hm htl htm hok
  have hx : inR 0 3 (X : Int) = true := inR_mk (by omega)
  have hy : inR 0 3 (Y : Int) = true := inR_mk (by omega)
  go_enter Try.func27, Try.ntmps27
  go_wp2_with fail
  obtain ⟨W0, hW0⟩ : ∃ WW, WW = w.alloc (.cells #[.slice (some ⟨p1, o1, none⟩) 8 c, .slice (some ⟨p2, o2, none⟩) 4 d, .int .i64 C, .bool T, .bool L] 27) := ⟨_, rfl⟩
  rw [← hW0]
  have P0 : Box5 W0 w.heap.size (.slice (some ⟨p1, o1, none⟩) 8 c) (.slice (some ⟨p2, o2, none⟩) 4 d) (.int .i64 C) (.bool T) (.bool L) := by rw [hW0]; exact Box5.new w _ _ _ _ _ _
  have HB0 : Hid (Below w.heap.size w W0) := Lib.hid (by rw [hW0]; exact (Below.refl w.heap.size w).alloc (Nat.le_refl _) _)
  clear hW0
  refine (HC.out W0 (HN.out W0 HB0.out)).mono ?_
  rintro e w1 ⟨rfl, hb⟩
  have P1 := P0.below hb (Nat.le_refl _)
  have HB : Hid (Below w.heap.size w w1) := Lib.hid (HB0.out.trans (hb.mono HB0.out.size))
  clear hb P0 HB0 HC
  have hP := P1
  obtain ⟨_, q0, q1, q2, q3, q4⟩ := hP
  have hcell := HC2.out w1 HB.out Y (by omega)
  have hi : (Y : Int) < 4 := by omega
  generalize m.getD Y 0 = v at *
  go_wp2_with (go_at_call 51; refine (within_c _ _ _ _).mono ?_; rintro e w' ⟨rfl, rfl⟩)
  go_ret
  exact ⟨ret_int HPV.out.symm, HB.out⟩
set_option maxHeartbeats 4000000 in
set_option maxRecDepth 100000 in
theorem impl.PredAt_4_3 (a : Option Addr) (c : Nat) (l : List Int) (b : Option Addr) (d : Nat) (m : List Int) (C : Int) (T L : Bool) (X Y : Nat) (w : World) (hN : NbAll w a l b m 4) (hok : nbB l m C 4 = true) (hcl : l.length ≤ c) (hX : X < 4) (hY : Y < 4) :
    Calls Try.prog 27 #[.int .i64 (3), nbv a l.length c b m.length d C T L, .int .i64 4, .int .i64 X, .int .i64 Y] w fun e w' => e = .returned (.int .i64 (predV l m C T L 4 3 X Y)) ∧ Below w.heap.size w w' := by
  have HPV : Hid (predV l m C T L 4 3 X Y = clipF 0 255 (m.getD Y 0 + l.getD X 0 - C)) := Lib.hid rfl
  have hCb := (nbB_true hok).2.2.2.2.2
  obtain ⟨hC0, hC1⟩ := hCb
  have HN : Hid (∀ w0, Below w.heap.size w w0 → NbAll w0 a l b m 4) := Lib.hid (fun w0 h => ⟨hN.hl, hN.hm, hN.hr.below h (Nat.le_refl _), hN.hs.below h (Nat.le_refl _), hN.tl, hN.tm⟩)
  obtain ⟨hl, hm, hr, hs, htl, htm⟩ := hN
  have hcall := fun (w0 : World) (h : NbAll w0 a l b m 4) => impl.NbOk_4 a c l b d m C T L w0 (by omega) h.hr (by omega) h.hs
  have hmean := fun (w0 : World) (h : NbAll w0 a l b m 4) => impl.Mean_4 a c l b d m C T L w0 h hok hcl
  have hbord := fun (w0 : World) (h : NbAll w0 a l b m 4) => impl.Border_4 a c l b d m C T L w0 h hok hcl
  obtain ⟨p1, o1, rfl, hb1, hc1⟩ := hr.inside (by omega)
  obtain ⟨p2, o2, rfl, hb2, hc2⟩ := hs.inside (by omega)
  have HC1 : Hid (∀ w0, Below w.heap.size w w0 → ∀ i, i < 8 → w0.cell? ⟨p1, o1 + i, none⟩ = some (.int .i64 (l.getD i 0))) := Lib.hid (fun w0 h i hi => (bcell h _ _ hb1).trans (hc1 i (by omega)))
  have HC2 : Hid (∀ w0, Below w.heap.size w w0 → ∀ i, i < 4 → w0.cell? ⟨p2, o2 + i, none⟩ = some (.int .i64 (m.getD i 0))) := Lib.hid (fun w0 h i hi => (bcell h _ _ hb2).trans (hc2 i (by omega)))
  simp only [hok] at hcall
  rw [hl, hm] at hcall hmean hbord ⊢
  rw [hl] at hcl
  have HC := Lib.hid hcall
  have HME := Lib.hid hmean
  have HBO := Lib.hid hbord
  have HT1 := Lib.hid htl
  have HT2 := Lib.hid htm
  clear hcall hmean hbord hr hs hc1 hc2 hl hm htl htm hok
  have hx : inR 0 3 (X : Int) = true := inR_mk (by omega)
  have hy : inR 0 3 (Y : Int) = true := inR_mk (by omega)
  go_enter Try.func27, Try.ntmps27
  go_wp2_with fail
  obtain ⟨W0, hW0⟩ : ∃ WW, WW = w.alloc (.cells #[.slice (some ⟨p1, o1, none⟩) 8 c, .slice (some ⟨p2, o2, none⟩) 4 d, .int .i64 C, .bool T, .bool L] 27) := ⟨_, rfl⟩
  rw [← hW0]
  have P0 : Box5 W0 w.heap.size (.slice (some ⟨p1, o1, none⟩) 8 c) (.slice (some ⟨p2, o2, none⟩) 4 d) (.int .i64 C) (.bool T) (.bool L) := by rw [hW0]; exact Box5.new w _ _ _ _ _ _
  have HB0 : Hid (Below w.heap.size w W0) := Lib.hid (by rw [hW0]; exact (Below.refl w.heap.size w).alloc (Nat.le_refl _) _)
  clear hW0
  refine (HC.out W0 (HN.out W0 HB0.out)).mono ?_
  rintro e w1 ⟨rfl, hb⟩
  have P1 := P0.below hb (Nat.le_refl _)
  have HB : Hid (Below w.heap.size w w1) := Lib.hid (HB0.out.trans (hb.mono HB0.out.size))
  clear hb P0 HB0 HC
  have hP := P1
  obtain ⟨_, q0, q1, q2, q3, q4⟩ := hP
  have cl := HC1.out w1 HB.out X (by omega)
  have cm := HC2.out w1 HB.out Y (by omega)
  have hi1 : (X : Int) < 8 := by omega
  have hi2 : (Y : Int) < 4 := by omega
  obtain ⟨a0, a1⟩ := HT1.out X (by omega)
  obtain ⟨a2, a3⟩ := HT2.out Y (by omega)
  generalize l.getD X 0 = u at *
  generalize m.getD Y 0 = v at *
  have s1 : IntKind.i64.wrap (v + u) = v + u := IntWalk.i64_in _ (by omega)
  have s2 : IntKind.i64.wrap (v + u - C) = v + u - C := IntWalk.i64_in _ (by omega)
  go_wp2_with (go_at_call 51; refine (within_c _ _ _ _).mono ?_; rintro e w' ⟨rfl, rfl⟩)
  go_quiet ((go_at_call 58; exact quiet_eq (impl.limited_c _ _ _ _)))
  go_wp2
  go_ret
  exact ⟨ret_int HPV.out.symm, below_drewN' HB.out _⟩
set_option maxHeartbeats 4000000 in
set_option maxRecDepth 100000 in
theorem impl.PredAt_4_4 (a : Option Addr) (c : Nat) (l : List Int) (b : Option Addr) (d : Nat) (m : List Int) (C : Int) (T L : Bool) (X Y : Nat) (w : World) (hN : NbAll w a l b m 4) (hok : nbB l m C 4 = true) (hcl : l.length ≤ c) (hX : X < 4) (hY : Y < 4) :
    Calls Try.prog 27 #[.int .i64 (4), nbv a l.length c b m.length d C T L, .int .i64 4, .int .i64 X, .int .i64 Y] w fun e w' => e = .returned (.int .i64 (predV l m C T L 4 4 X Y)) ∧ Below w.heap.size w w' := by
  have HPV : Hid (predV l m C T L 4 4 X Y = softF (l.getD (X + Y) 0) (l.getD (min (X + Y + 1) 7) 0) (l.getD (min (X + Y + 2) 7) 0)) := Lib.hid rfl
  have hCb := (nbB_true hok).2.2.2.2.2
  obtain ⟨hC0, hC1⟩ := hCb
  have HN : Hid (∀ w0, Below w.heap.size w w0 → NbAll w0 a l b m 4) := Lib.hid (fun w0 h => ⟨hN.hl, hN.hm, hN.hr.below h (Nat.le_refl _), hN.hs.below h (Nat.le_refl _), hN.tl, hN.tm⟩)
  obtain ⟨hl, hm, hr, hs, htl, htm⟩ := hN
  have hcall := fun (w0 : World) (h : NbAll w0 a l b m 4) => impl.NbOk_4 a c l b d m C T L w0 (by omega) h.hr (by omega) h.hs
  have hmean := fun (w0 : World) (h : NbAll w0 a l b m 4) => impl.Mean_4 a c l b d m C T L w0 h hok hcl
  have hbord := fun (w0 : World) (h : NbAll w0 a l b m 4) => impl.Border_4 a c l b d m C T L w0 h hok hcl
  obtain ⟨p1, o1, rfl, hb1, hc1⟩ := hr.inside (by omega)
  obtain ⟨p2, o2, rfl, hb2, hc2⟩ := hs.inside (by omega)
  have HC1 : Hid (∀ w0, Below w.heap.size w w0 → ∀ i, i < 8 → w0.cell? ⟨p1, o1 + i, none⟩ = some (.int .i64 (l.getD i 0))) := Lib.hid (fun w0 h i hi => (bcell h _ _ hb1).trans (hc1 i (by omega)))
  have HC2 : Hid (∀ w0, Below w.heap.size w w0 → ∀ i, i < 4 → w0.cell? ⟨p2, o2 + i, none⟩ = some (.int .i64 (m.getD i 0))) := Lib.hid (fun w0 h i hi => (bcell h _ _ hb2).trans (hc2 i (by omega)))
  simp only [hok] at hcall
  rw [hl, hm] at hcall hmean hbord ⊢
  rw [hl] at hcl
  have HC := Lib.hid hcall
  have HME := Lib.hid hmean
  have HBO := Lib.hid hbord
  have HT1 := Lib.hid htl
  have HT2 := Lib.hid htm
  clear hcall hmean hbord hr hs hc1 hc2 hl hm htl htm hok
  have hx : inR 0 3 (X : Int) = true := inR_mk (by omega)
  have hy : inR 0 3 (Y : Int) = true := inR_mk (by omega)
  go_enter Try.func27, Try.ntmps27
  go_wp2_with fail
  obtain ⟨W0, hW0⟩ : ∃ WW, WW = w.alloc (.cells #[.slice (some ⟨p1, o1, none⟩) 8 c, .slice (some ⟨p2, o2, none⟩) 4 d, .int .i64 C, .bool T, .bool L] 27) := ⟨_, rfl⟩
  rw [← hW0]
  have P0 : Box5 W0 w.heap.size (.slice (some ⟨p1, o1, none⟩) 8 c) (.slice (some ⟨p2, o2, none⟩) 4 d) (.int .i64 C) (.bool T) (.bool L) := by rw [hW0]; exact Box5.new w _ _ _ _ _ _
  have HB0 : Hid (Below w.heap.size w W0) := Lib.hid (by rw [hW0]; exact (Below.refl w.heap.size w).alloc (Nat.le_refl _) _)
  clear hW0
  refine (HC.out W0 (HN.out W0 HB0.out)).mono ?_
  rintro e w1 ⟨rfl, hb⟩
  have P1 := P0.below hb (Nat.le_refl _)
  have HB : Hid (Below w.heap.size w w1) := Lib.hid (HB0.out.trans (hb.mono HB0.out.size))
  clear hb P0 HB0 HC
  have hP := P1
  obtain ⟨_, q0, q1, q2, q3, q4⟩ := hP
  obtain ⟨i0, hi0⟩ : ∃ t, t = X + Y := ⟨_, rfl⟩
  obtain ⟨j1, hj1⟩ : ∃ t, t = X + Y + 1 := ⟨_, rfl⟩
  obtain ⟨j2, hj2⟩ : ∃ t, t = X + Y + 2 := ⟨_, rfl⟩
  obtain ⟨i1, hi1⟩ : ∃ t, t = min (X + Y + 1) 7 := ⟨_, rfl⟩
  obtain ⟨i2, hi2⟩ : ∃ t, t = min (X + Y + 2) 7 := ⟨_, rfl⟩
  rw [← hi1, ← hi2, ← hi0] at HPV
  have c0 := HC1.out w1 HB.out i0 (by omega)
  have B0 := HT1.out i0 (by omega)
  have c1 := HC1.out w1 HB.out i1 (by omega)
  have B1 := HT1.out i1 (by omega)
  have c2 := HC1.out w1 HB.out i2 (by omega)
  have B2 := HT1.out i2 (by omega)
  have w0s : IntKind.i64.wrap ((X : Int) + (Y : Int)) = (i0 : Int) := by rw [IntWalk.i64_in _ (by omega)]; omega
  have w1s : IntKind.i64.wrap ((i0 : Int) + 1) = (j1 : Int) := by rw [IntWalk.i64_in _ (by omega)]; omega
  have w2s : IntKind.i64.wrap ((i0 : Int) + 2) = (j2 : Int) := by rw [IntWalk.i64_in _ (by omega)]; omega
  have m1 : min (j1 : Int) 7 = (i1 : Int) := by omega
  have m2 : min (j2 : Int) 7 = (i2 : Int) := by omega
  have m1' : min 7 (j1 : Int) = (i1 : Int) := by omega
  have m2' : min 7 (j2 : Int) = (i2 : Int) := by omega
  have hmin := min_if
  have z0 : (i0 : Int) < 8 := by omega
  have z1 : (i1 : Int) < 8 := by omega
  have z2 : (i2 : Int) < 8 := by omega
  generalize l.getD i0 0 = x0 at *
  generalize l.getD i1 0 = x1 at *
  generalize l.getD i2 0 = x2 at *
  clear hi0 hj1 hj2 hi1 hi2
  go_wp2_with (go_at_call 51; refine (within_c _ _ _ _).mono ?_; rintro e w' ⟨rfl, rfl⟩)
  go_quiet ((go_at_call 57; exact quiet_eq (impl.smoothed_c _ _ _ _ B0 B1 B2)))
  go_wp2
  go_ret
  exact ⟨ret_int HPV.out.symm, below_drewN' HB.out _⟩
set_option maxHeartbeats 4000000 in
set_option maxRecDepth 100000 in
theorem impl.PredAt_4_5 (a : Option Addr) (c : Nat) (l : List Int) (b : Option Addr) (d : Nat) (m : List Int) (C : Int) (T L : Bool) (X Y : Nat) (w : World) (hN : NbAll w a l b m 4) (hok : nbB l m C 4 = true) (hcl : l.length ≤ c) (hX : X < 4) (hY : Y < 4) :
    Calls Try.prog 27 #[.int .i64 (5), nbv a l.length c b m.length d C T L, .int .i64 4, .int .i64 X, .int .i64 Y] w fun e w' => e = .returned (.int .i64 (predV l m C T L 4 5 X Y)) ∧ Below w.heap.size w w' := by
  have HPV : Hid (predV l m C T L 4 5 X Y = softF ((borderL l m C 4).getD (X + 4 - Y - 1) 0) ((borderL l m C 4).getD (X + 4 - Y) 0) ((borderL l m C 4).getD (X + 4 - Y + 1) 0)) := Lib.hid rfl
  have hCb := (nbB_true hok).2.2.2.2.2
  obtain ⟨hC0, hC1⟩ := hCb
  have HN : Hid (∀ w0, Below w.heap.size w w0 → NbAll w0 a l b m 4) := Lib.hid (fun w0 h => ⟨hN.hl, hN.hm, hN.hr.below h (Nat.le_refl _), hN.hs.below h (Nat.le_refl _), hN.tl, hN.tm⟩)
  obtain ⟨hl, hm, hr, hs, htl, htm⟩ := hN
  have hcall := fun (w0 : World) (h : NbAll w0 a l b m 4) => impl.NbOk_4 a c l b d m C T L w0 (by omega) h.hr (by omega) h.hs
  have hmean := fun (w0 : World) (h : NbAll w0 a l b m 4) => impl.Mean_4 a c l b d m C T L w0 h hok hcl
  have hbord := fun (w0 : World) (h : NbAll w0 a l b m 4) => impl.Border_4 a c l b d m C T L w0 h hok hcl
  have HBB : Hid (∀ i, i < 9 → 0 ≤ (borderL l m C 4).getD i 0 ∧ (borderL l m C 4).getD i 0 ≤ 255) := Lib.hid (borderL_bd ⟨hC0, hC1⟩ (fun i hi => htl i (by omega)) htm)
  obtain ⟨p1, o1, rfl, hb1, hc1⟩ := hr.inside (by omega)
  obtain ⟨p2, o2, rfl, hb2, hc2⟩ := hs.inside (by omega)
  have HC1 : Hid (∀ w0, Below w.heap.size w w0 → ∀ i, i < 8 → w0.cell? ⟨p1, o1 + i, none⟩ = some (.int .i64 (l.getD i 0))) := Lib.hid (fun w0 h i hi => (bcell h _ _ hb1).trans (hc1 i (by omega)))
  have HC2 : Hid (∀ w0, Below w.heap.size w w0 → ∀ i, i < 4 → w0.cell? ⟨p2, o2 + i, none⟩ = some (.int .i64 (m.getD i 0))) := Lib.hid (fun w0 h i hi => (bcell h _ _ hb2).trans (hc2 i (by omega)))
  simp only [hok] at hcall
  rw [hl, hm] at hcall hmean hbord ⊢
  rw [hl] at hcl
  have HC := Lib.hid hcall
  have HME := Lib.hid hmean
  have HBO := Lib.hid hbord
  have HT1 := Lib.hid htl
  have HT2 := Lib.hid htm
  clear hcall hmean hbord hr hs hc1 hc2 hl hm htl htm hok
  have hx : inR 0 3 (X : Int) = true := inR_mk (by omega)
  have hy : inR 0 3 (Y : Int) = true := inR_mk (by omega)
  go_enter Try.func27, Try.ntmps27
  go_wp2_with fail
  obtain ⟨W0, hW0⟩ : ∃ WW, WW = w.alloc (.cells #[.slice (some ⟨p1, o1, none⟩) 8 c, .slice (some ⟨p2, o2, none⟩) 4 d, .int .i64 C, .bool T, .bool L] 27) := ⟨_, rfl⟩
  rw [← hW0]
  have P0 : Box5 W0 w.heap.size (.slice (some ⟨p1, o1, none⟩) 8 c) (.slice (some ⟨p2, o2, none⟩) 4 d) (.int .i64 C) (.bool T) (.bool L) := by rw [hW0]; exact Box5.new w _ _ _ _ _ _
  have HB0 : Hid (Below w.heap.size w W0) := Lib.hid (by rw [hW0]; exact (Below.refl w.heap.size w).alloc (Nat.le_refl _) _)
  clear hW0
  refine (HC.out W0 (HN.out W0 HB0.out)).mono ?_
  rintro e w1 ⟨rfl, hb⟩
  have P1 := P0.below hb (Nat.le_refl _)
  have HB : Hid (Below w.heap.size w w1) := Lib.hid (HB0.out.trans (hb.mono HB0.out.size))
  clear hb P0 HB0 HC
  have hP := P1
  obtain ⟨_, q0, q1, q2, q3, q4⟩ := hP
  go_wp2_with (go_at_call 51; refine (within_c _ _ _ _).mono ?_; rintro e w' ⟨rfl, rfl⟩)
  refine (HBO.out w1 (HN.out w1 HB.out)).mono ?_
  rintro e w2 ⟨bx, by2, rfl, ho, hb⟩
  have P2 := P1.below hb (Nat.le_refl _)
  have HB2 : Hid (Below w.heap.size w w2) := Lib.hid (HB.out.trans (hb.mono HB.out.size))
  obtain ⟨g, rfl, hg1, hg2, _⟩ := ho.at_ (i := 0) (by rw [borderL_len]; omega)
  have HO := Lib.hid ho
  clear hb ho P1 HB q0 q1 q2 q3 q4
  obtain ⟨_, q0, q1, q2, q3, q4⟩ := P2
  obtain ⟨t1, ht1⟩ : ∃ t, t = X + 4 - Y := ⟨_, rfl⟩
  have et : (X : Int) - (Y : Int) + 4 = (t1 : Int) := by omega
  have etw : IntKind.i64.wrap ((X : Int) - (Y : Int) + 4) = (t1 : Int) := by rw [et, IntWalk.i64_in _ (by omega)]
  have etx : IntKind.i64.wrap ((X : Int) - (Y : Int)) = (X : Int) - (Y : Int) := IntWalk.i64_in _ (by omega)
  obtain ⟨t0, ht0⟩ : ∃ t, t = X + 4 - Y - 1 := ⟨_, rfl⟩
  obtain ⟨t2, ht2⟩ : ∃ t, t = X + 4 - Y + 1 := ⟨_, rfl⟩
  have ew0 : IntKind.i64.wrap ((t1 : Int) - 1) = (t0 : Int) := by rw [IntWalk.i64_in _ (by omega)]; omega
  have ew2 : IntKind.i64.wrap ((t1 : Int) + 1) = (t2 : Int) := by rw [IntWalk.i64_in _ (by omega)]; omega
  have z0 : (t0 : Int) < 9 := by omega
  have z1 : (t1 : Int) < 9 := by omega
  have z2 : (t2 : Int) < 9 := by omega
  rw [← ht1] at HPV
  have e0 : t1 - 1 = t0 := by omega
  have e2 : t1 + 1 = t2 := by omega
  rw [e0, e2] at HPV
  have c0 := HO.out.cellAt (i := t0) (by rw [borderL_len]; omega)
  have B0 := HBB.out t0 (by omega)
  have c1 := HO.out.cellAt (i := t1) (by rw [borderL_len]; omega)
  have B1 := HBB.out t1 (by omega)
  have c2 := HO.out.cellAt (i := t2) (by rw [borderL_len]; omega)
  have B2 := HBB.out t2 (by omega)
  generalize (borderL l m C 4).getD t0 0 = x0 at *
  generalize (borderL l m C 4).getD t1 0 = x1 at *
  generalize (borderL l m C 4).getD t2 0 = x2 at *
  clear e0 e2 ht0 ht1 ht2
  go_wp2_with fail
  go_quiet ((go_at_call 57; exact quiet_eq (impl.smoothed_c _ _ _ _ B0 B1 B2)))
  go_wp2
  go_ret
  exact ⟨ret_int HPV.out.symm, below_drewN' HB2.out _⟩
set_option maxHeartbeats 4000000 in
set_option maxRecDepth 100000 in
theorem impl.PredAt_4_x (mode : Int) (h0 : mode ≠ 0) (h1 : mode ≠ 1) (h2 : mode ≠ 2) (h3 : mode ≠ 3) (h4 : mode ≠ 4) (h5 : mode ≠ 5) (a : Option Addr) (c : Nat) (l : List Int) (b : Option Addr) (d : Nat) (m : List Int) (C : Int) (T L : Bool) (X Y : Nat) (w : World) (hN : NbAll w a l b m 4) (hok : nbB l m C 4 = true) (hcl : l.length ≤ c) (hX : X < 4) (hY : Y < 4) :
    Calls Try.prog 27 #[.int .i64 (mode), nbv a l.length c b m.length d C T L, .int .i64 4, .int .i64 X, .int .i64 Y] w fun e w' => e = .returned (.int .i64 (predV l m C T L 4 mode X Y)) ∧ Below w.heap.size w w' := by
  have m0 : (mode == 0) = false := by simpa using h0
  have m1 : (mode == 1) = false := by simpa using h1
  have m2 : (mode == 2) = false := by simpa using h2
  have m3 : (mode == 3) = false := by simpa using h3
  have m4 : (mode == 4) = false := by simpa using h4
  have m5 : (mode == 5) = false := by simpa using h5
  have HPV : Hid (predV l m C T L 4 mode X Y = -1) := Lib.hid (by simp [predV, h0, h1, h2, h3, h4, h5])
  clear h0 h1 h2 h3 h4 h5
  have hCb := (nbB_true hok).2.2.2.2.2
  obtain ⟨hC0, hC1⟩ := hCb
  have HN : Hid (∀ w0, Below w.heap.size w w0 → NbAll w0 a l b m 4) := Lib.hid (fun w0 h => ⟨hN.hl, hN.hm, hN.hr.below h (Nat.le_refl _), hN.hs.below h (Nat.le_refl _), hN.tl, hN.tm⟩)
  obtain ⟨hl, hm, hr, hs, htl, htm⟩ := hN
  have hcall := fun (w0 : World) (h : NbAll w0 a l b m 4) => impl.NbOk_4 a c l b d m C T L w0 (by omega) h.hr (by omega) h.hs
  have hmean := fun (w0 : World) (h : NbAll w0 a l b m 4) => impl.Mean_4 a c l b d m C T L w0 h hok hcl
  have hbord := fun (w0 : World) (h : NbAll w0 a l b m 4) => impl.Border_4 a c l b d m C T L w0 h hok hcl
  obtain ⟨p1, o1, rfl, hb1, hc1⟩ := hr.inside (by omega)
  obtain ⟨p2, o2, rfl, hb2, hc2⟩ := hs.inside (by omega)
  have HC1 : Hid (∀ w0, Below w.heap.size w w0 → ∀ i, i < 8 → w0.cell? ⟨p1, o1 + i, none⟩ = some (.int .i64 (l.getD i 0))) := Lib.hid (fun w0 h i hi => (bcell h _ _ hb1).trans (hc1 i (by omega)))
  have HC2 : Hid (∀ w0, Below w.heap.size w w0 → ∀ i, i < 4 → w0.cell? ⟨p2, o2 + i, none⟩ = some (.int .i64 (m.getD i 0))) := Lib.hid (fun w0 h i hi => (bcell h _ _ hb2).trans (hc2 i (by omega)))
  simp only [hok] at hcall
  rw [hl, hm] at hcall hmean hbord ⊢
  rw [hl] at hcl
  have HC := Lib.hid hcall
  have HME := Lib.hid hmean
  have HBO := Lib.hid hbord
  have HT1 := Lib.hid htl
  have HT2 := Lib.hid htm
  clear hcall hmean hbord hr hs hc1 hc2 hl hm htl htm hok
  have hx : inR 0 3 (X : Int) = true := inR_mk (by omega)
  have hy : inR 0 3 (Y : Int) = true := inR_mk (by omega)
  go_enter Try.func27, Try.ntmps27
  go_wp2_with fail
  obtain ⟨W0, hW0⟩ : ∃ WW, WW = w.alloc (.cells #[.slice (some ⟨p1, o1, none⟩) 8 c, .slice (some ⟨p2, o2, none⟩) 4 d, .int .i64 C, .bool T, .bool L] 27) := ⟨_, rfl⟩
  rw [← hW0]
  have P0 : Box5 W0 w.heap.size (.slice (some ⟨p1, o1, none⟩) 8 c) (.slice (some ⟨p2, o2, none⟩) 4 d) (.int .i64 C) (.bool T) (.bool L) := by rw [hW0]; exact Box5.new w _ _ _ _ _ _
  have HB0 : Hid (Below w.heap.size w W0) := Lib.hid (by rw [hW0]; exact (Below.refl w.heap.size w).alloc (Nat.le_refl _) _)
  clear hW0
  refine (HC.out W0 (HN.out W0 HB0.out)).mono ?_
  rintro e w1 ⟨rfl, hb⟩
  have P1 := P0.below hb (Nat.le_refl _)
  have HB : Hid (Below w.heap.size w w1) := Lib.hid (HB0.out.trans (hb.mono HB0.out.size))
  clear hb P0 HB0 HC
  have hP := P1
  obtain ⟨_, q0, q1, q2, q3, q4⟩ := hP
  go_wp2_with (go_at_call 51; refine (within_c _ _ _ _).mono ?_; rintro e w' ⟨rfl, rfl⟩)
  go_ret
  exact ⟨ret_int HPV.out.symm, HB.out⟩
set_option maxHeartbeats 4000000 in
set_option maxRecDepth 100000 in
theorem impl.PredAt_8_0 (a : Option Addr) (c : Nat) (l : List Int) (b : Option Addr) (d : Nat) (m : List Int) (C : Int) (T L : Bool) (X Y : Nat) (w : World) (hN : NbAll w a l b m 8) (hok : nbB l m C 8 = true) (hcl : l.length ≤ c) (hX : X < 8) (hY : Y < 8) :
    Calls Try.prog 27 #[.int .i64 (0), nbv a l.length c b m.length d C T L, .int .i64 8, .int .i64 X, .int .i64 Y] w fun e w' => e = .returned (.int .i64 (predV l m C T L 8 0 X Y)) ∧ Below w.heap.size w w' := by
  have HPV : Hid (predV l m C T L 8 0 X Y = meanV l m T L 8) := Lib.hid rfl
  have hCb := (nbB_true hok).2.2.2.2.2
  obtain ⟨hC0, hC1⟩ := hCb
  have HN : Hid (∀ w0, Below w.heap.size w w0 → NbAll w0 a l b m 8) := Lib.hid (fun w0 h => ⟨hN.hl, hN.hm, hN.hr.below h (Nat.le_refl _), hN.hs.below h (Nat.le_refl _), hN.tl, hN.tm⟩)
  obtain ⟨hl, hm, hr, hs, htl, htm⟩ := hN
  have hcall := fun (w0 : World) (h : NbAll w0 a l b m 8) => impl.NbOk_8 a c l b d m C T L w0 (by omega) h.hr (by omega) h.hs
  have hmean := fun (w0 : World) (h : NbAll w0 a l b m 8) => impl.Mean_8 a c l b d m C T L w0 h hok hcl
  have hbord := fun (w0 : World) (h : NbAll w0 a l b m 8) => impl.Border_8 a c l b d m C T L w0 h hok hcl
  obtain ⟨p1, o1, rfl, hb1, hc1⟩ := hr.inside (by omega)
  obtain ⟨p2, o2, rfl, hb2, hc2⟩ := hs.inside (by omega)
  have HC1 : Hid (∀ w0, Below w.heap.size w w0 → ∀ i, i < 16 → w0.cell? ⟨p1, o1 + i, none⟩ = some (.int .i64 (l.getD i 0))) := Lib.hid (fun w0 h i hi => (bcell h _ _ hb1).trans (hc1 i (by omega)))
  have HC2 : Hid (∀ w0, Below w.heap.size w w0 → ∀ i, i < 8 → w0.cell? ⟨p2, o2 + i, none⟩ = some (.int .i64 (m.getD i 0))) := Lib.hid (fun w0 h i hi => (bcell h _ _ hb2).trans (hc2 i (by omega)))
  simp only [hok] at hcall
  rw [hl, hm] at hcall hmean hbord ⊢
  rw [hl] at hcl
  have HC := Lib.hid hcall
  have HME := Lib.hid hmean
  have HBO := Lib.hid hbord
  have HT1 := Lib.hid htl
  have HT2 := Lib.hid htm
  clear hcall hmean hbord hr hs hc1 hc2 hl hm htl htm hok
  have hx : inR 0 7 (X : Int) = true := inR_mk (by omega)
  have hy : inR 0 7 (Y : Int) = true := inR_mk (by omega)
  go_enter Try.func27, Try.ntmps27
  go_wp2_with fail
  obtain ⟨W0, hW0⟩ : ∃ WW, WW = w.alloc (.cells #[.slice (some ⟨p1, o1, none⟩) 16 c, .slice (some ⟨p2, o2, none⟩) 8 d, .int .i64 C, .bool T, .bool L] 27) := ⟨_, rfl⟩
  rw [← hW0]
  have P0 : Box5 W0 w.heap.size (.slice (some ⟨p1, o1, none⟩) 16 c) (.slice (some ⟨p2, o2, none⟩) 8 d) (.int .i64 C) (.bool T) (.bool L) := by rw [hW0]; exact Box5.new w _ _ _ _ _ _
  have HB0 : Hid (Below w.heap.size w W0) := Lib.hid (by rw [hW0]; exact (Below.refl w.heap.size w).alloc (Nat.le_refl _) _)
  clear hW0
  refine (HC.out W0 (HN.out W0 HB0.out)).mono ?_
  rintro e w1 ⟨rfl, hb⟩
  have P1 := P0.below hb (Nat.le_refl _)
  have HB : Hid (Below w.heap.size w w1) := Lib.hid (HB0.out.trans (hb.mono HB0.out.size))
  clear hb P0 HB0 HC
  have hP := P1
  obtain ⟨_, q0, q1, q2, q3, q4⟩ := hP
  go_wp2_with (first | (go_at_call 51; refine (within_c _ _ _ _).mono ?_; rintro e w' ⟨rfl, rfl⟩) | (go_at_call 12; refine (HME.out w1 (HN.out w1 HB.out)).mono ?_; rintro e w3 ⟨rfl, hb3⟩))
  go_ret
  exact ⟨ret_int HPV.out.symm, HB.out.trans (hb3.mono HB.out.size)⟩
set_option maxHeartbeats 4000000 in
set_option maxRecDepth 100000 in
theorem impl.PredAt_8_1 (a : Option Addr) (c : Nat) (l : List Int) (b : Option Addr) (d : Nat) (m : List Int) (C : Int) (T L : Bool) (X Y : Nat) (w : World) (hN : NbAll w a l b m 8) (hok : nbB l m C 8 = true) (hcl : l.length ≤ c) (hX : X < 8) (hY : Y < 8) :
    Calls Try.prog 27 #[.int .i64 (1), nbv a l.length c b m.length d C T L, .int .i64 8, .int .i64 X, .int .i64 Y] w fun e w' => e = .returned (.int .i64 (predV l m C T L 8 1 X Y)) ∧ Below w.heap.size w w' := by
  have HPV : Hid (predV l m C T L 8 1 X Y = l.getD X 0) := Lib.hid rfl
  have hCb := (nbB_true hok).2.2.2.2.2
  obtain ⟨hC0, hC1⟩ := hCb
  have HN : Hid (∀ w0, Below w.heap.size w w0 → NbAll w0 a l b m 8) := Lib.hid (fun w0 h => ⟨hN.hl, hN.hm, hN.hr.below h (Nat.le_refl _), hN.hs.below h (Nat.le_refl _), hN.tl, hN.tm⟩)
  obtain ⟨hl, hm, hr, hs, htl, htm⟩ := hN
  have hcall := fun (w0 : World) (h : NbAll w0 a l b m 8) => impl.NbOk_8 a c l b d m C T L w0 (by omega) h.hr (by omega) h.hs
  have hmean := fun (w0 : World) (h : NbAll w0 a l b m 8) => impl.Mean_8 a c l b d m C T L w0 h hok hcl
  have hbord := fun (w0 : World) (h : NbAll w0 a l b m 8) => impl.Border_8 a c l b d m C T L w0 h hok hcl
  obtain ⟨p1, o1, rfl, hb1, hc1⟩ := hr.inside (by omega)
  obtain ⟨p2, o2, rfl, hb2, hc2⟩ := hs.inside (by omega)
  have HC1 : Hid (∀ w0, Below w.heap.size w w0 → ∀ i, i < 16 → w0.cell? ⟨p1, o1 + i, none⟩ = some (.int .i64 (l.getD i 0))) := Lib.hid (fun w0 h i hi => (bcell h _ _ hb1).trans (hc1 i (by omega)))
  have HC2 : Hid (∀ w0, Below w.heap.size w w0 → ∀ i, i < 8 → w0.cell? ⟨p2, o2 + i, none⟩ = some (.int .i64 (m.getD i 0))) := Lib.hid (fun w0 h i hi => (bcell h _ _ hb2).trans (hc2 i (by omega)))
  simp only [hok] at hcall
  rw [hl, hm] at hcall hmean hbord ⊢
  rw [hl] at hcl
  have HC := Lib.hid hcall
  have HME := Lib.hid hmean
  have HBO := Lib.hid hbord
  have HT1 := Lib.hid htl
  have HT2 := Lib.hid htm
  clear hcall hmean hbord hr hs hc1 hc2 hl hm htl htm hok
  have hx : inR 0 7 (X : Int) = true := inR_mk (by omega)
  have hy : inR 0 7 (Y : Int) = true := inR_mk (by omega)
  go_enter Try.func27, Try.ntmps27
  go_wp2_with fail
  obtain ⟨W0, hW0⟩ : ∃ WW, WW = w.alloc (.cells #[.slice (some ⟨p1, o1, none⟩) 16 c, .slice (some ⟨p2, o2, none⟩) 8 d, .int .i64 C, .bool T, .bool L] 27) := ⟨_, rfl⟩
  rw [← hW0]
  have P0 : Box5 W0 w.heap.size (.slice (some ⟨p1, o1, none⟩) 16 c) (.slice (some ⟨p2, o2, none⟩) 8 d) (.int .i64 C) (.bool T) (.bool L) := by rw [hW0]; exact Box5.new w _ _ _ _ _ _
  have HB0 : Hid (Below w.heap.size w W0) := Lib.hid (by rw [hW0]; exact (Below.refl w.heap.size w).alloc (Nat.le_refl _) _)
  clear hW0
  refine (HC.out W0 (HN.out W0 HB0.out)).mono ?_
  rintro e w1 ⟨rfl, hb⟩
  have P1 := P0.below hb (Nat.le_refl _)
  have HB : Hid (Below w.heap.size w w1) := Lib.hid (HB0.out.trans (hb.mono HB0.out.size))
  clear hb P0 HB0 HC
  have hP := P1
  obtain ⟨_, q0, q1, q2, q3, q4⟩ := hP
  have hcell := HC1.out w1 HB.out X (by omega)
  have hi : (X : Int) < 16 := by omega
  generalize l.getD X 0 = v at *
  go_wp2_with (go_at_call 51; refine (within_c _ _ _ _).mono ?_; rintro e w' ⟨rfl, rfl⟩)
  go_ret
  exact ⟨ret_int HPV.out.symm, HB.out⟩
set_option maxHeartbeats 4000000 in
set_option maxRecDepth 100000 in
theorem impl.PredAt_8_2 (a : Option Addr) (c : Nat) (l : List Int) (b : Option Addr) (d : Nat) (m : List Int) (C : Int) (T L : Bool) (X Y : Nat) (w : World) (hN : NbAll w a l b m 8) (hok : nbB l m C 8 = true) (hcl : l.length ≤ c) (hX : X < 8) (hY : Y < 8) :
    Calls Try.prog 27 #[.int .i64 (2), nbv a l.length c b m.length d C T L, .int .i64 8, .int .i64 X, .int .i64 Y] w fun e w' => e = .returned (.int .i64 (predV l m C T L 8 2 X Y)) ∧ Below w.heap.size w w' := by
  have HPV : Hid (predV l m C T L 8 2 X Y = m.getD Y 0) := Lib.hid rfl
  have hCb := (nbB_true hok).2.2.2.2.2
  obtain ⟨hC0, hC1⟩ := hCb
  have HN : Hid (∀ w0, Below w.heap.size w w0 → NbAll w0 a l b m 8) := Lib.hid (fun w0 h => ⟨hN.hl, hN.hm, hN.hr.below h (Nat.le_refl _), hN.hs.below h (Nat.le_refl _), hN.tl, hN.tm⟩)
  obtain ⟨hl, hm, hr, hs, htl, htm⟩ := hN
  have hcall := fun (w0 : World) (h : NbAll w0 a l b m 8) => impl.NbOk_8 a c l b d m C T L w0 (by omega) h.hr (by omega) h.hs
  have hmean := fun (w0 : World) (h : NbAll w0 a l b m 8) => impl.Mean_8 a c l b d m C T L w0 h hok hcl
  have hbord := fun (w0 : World) (h : NbAll w0 a l b m 8) => impl.Border_8 a c l b d m C T L w0 h hok hcl
  obtain ⟨p1, o1, rfl, hb1, hc1⟩ := hr.inside (by omega)
  obtain ⟨p2, o2, rfl, hb2, hc2⟩ := hs.inside (by omega)
  have HC1 : Hid (∀ w0, Below w.heap.size w w0 → ∀ i, i < 16 → w0.cell? ⟨p1, o1 + i, none⟩ = some (.int .i64 (l.getD i 0))) := Lib.hid (fun w0 h i hi => (bcell h _ _ hb1).trans (hc1 i (by omega)))
  have HC2 : Hid (∀ w0, Below w.heap.size w w0 → ∀ i, i < 8 → w0.cell? ⟨p2, o2 + i, none⟩ = some (.int .i64 (m.getD i 0))) := Lib.hid (fun w0 h i hi => (bcell h _ _ hb2).trans (hc2 i (by omega)))
  simp only [hok] at hcall
  rw [hl, hm] at hcall hmean hbord ⊢
  rw [hl] at hcl
  have HC := Lib.hid hcall
  have HME := Lib.hid hmean
  have HBO := Lib.hid hbord
  have HT1 := Lib.hid htl
  have HT2 := Lib.hid htm
  clear hcall hmean hbord hr hs hc1 hc2 hl hm htl htm hok
  have hx : inR 0 7 (X : Int) = true := inR_mk (by omega)
  have hy : inR 0 7 (Y : Int) = true := inR_mk (by omega)
  go_enter Try.func27, Try.ntmps27
  go_wp2_with fail
  obtain ⟨W0, hW0⟩ : ∃ WW, WW = w.alloc (.cells #[.slice (some ⟨p1, o1, none⟩) 16 c, .slice (some ⟨p2, o2, none⟩) 8 d, .int .i64 C, .bool T, .bool L] 27) := ⟨_, rfl⟩
  rw [← hW0]
  have P0 : Box5 W0 w.heap.size (.slice (some ⟨p1, o1, none⟩) 16 c) (.slice (some ⟨p2, o2, none⟩) 8 d) (.int .i64 C) (.bool T) (.bool L) := by rw [hW0]; exact Box5.new w _ _ _ _ _ _
  have HB0 : Hid (Below w.heap.size w W0) := Lib.hid (by rw [hW0]; exact (Below.refl w.heap.size w).alloc (Nat.le_refl _) _)
  clear hW0
  refine (HC.out W0 (HN.out W0 HB0.out)).mono ?_
  rintro e w1 ⟨rfl, hb⟩
  have P1 := P0.below hb (Nat.le_refl _)
  have HB : Hid (Below w.heap.size w w1) := Lib.hid (HB0.out.trans (hb.mono HB0.out.size))
  clear hb P0 HB0 HC
  have hP := P1
  obtain ⟨_, q0, q1, q2, q3, q4⟩ := hP
  have hcell := HC2.out w1 HB.out Y (by omega)
  have hi : (Y : Int) < 8 := by omega
  generalize m.getD Y 0 = v at *
  go_wp2_with (go_at_call 51; refine (within_c _ _ _ _).mono ?_; rintro e w' ⟨rfl, rfl⟩)
  go_ret
  exact ⟨ret_int HPV.out.symm, HB.out⟩
set_option maxHeartbeats 4000000 in
set_option maxRecDepth 100000 in
theorem impl.PredAt_8_3 (a : Option Addr) (c : Nat) (l : List Int) (b : Option Addr) (d : Nat) (m : List Int) (C : Int) (T L : Bool) (X Y : Nat) (w : World) (hN : NbAll w a l b m 8) (hok : nbB l m C 8 = true) (hcl : l.length ≤ c) (hX : X < 8) (hY : Y < 8) :
    Calls Try.prog 27 #[.int .i64 (3), nbv a l.length c b m.length d C T L, .int .i64 8, .int .i64 X, .int .i64 Y] w fun e w' => e = .returned (.int .i64 (predV l m C T L 8 3 X Y)) ∧ Below w.heap.size w w' := by
  have HPV : Hid (predV l m C T L 8 3 X Y = clipF 0 255 (m.getD Y 0 + l.getD X 0 - C)) := Lib.hid rfl
  have hCb := (nbB_true hok).2.2.2.2.2
  obtain ⟨hC0, hC1⟩ := hCb
  have HN : Hid (∀ w0, Below w.heap.size w w0 → NbAll w0 a l b m 8) := Lib.hid (fun w0 h => ⟨hN.hl, hN.hm, hN.hr.below h (Nat.le_refl _), hN.hs.below h (Nat.le_refl _), hN.tl, hN.tm⟩)
  obtain ⟨hl, hm, hr, hs, htl, htm⟩ := hN
  have hcall := fun (w0 : World) (h : NbAll w0 a l b m 8) => impl.NbOk_8 a c l b d m C T L w0 (by omega) h.hr (by omega) h.hs
  have hmean := fun (w0 : World) (h : NbAll w0 a l b m 8) => impl.Mean_8 a c l b d m C T L w0 h hok hcl
  have hbord := fun (w0 : World) (h : NbAll w0 a l b m 8) => impl.Border_8 a c l b d m C T L w0 h hok hcl
  obtain ⟨p1, o1, rfl, hb1, hc1⟩ := hr.inside (by omega)
  obtain ⟨p2, o2, rfl, hb2, hc2⟩ := hs.inside (by omega)
  have HC1 : Hid (∀ w0, Below w.heap.size w w0 → ∀ i, i < 16 → w0.cell? ⟨p1, o1 + i, none⟩ = some (.int .i64 (l.getD i 0))) := Lib.hid (fun w0 h i hi => (bcell h _ _ hb1).trans (hc1 i (by omega)))
  have HC2 : Hid (∀ w0, Below w.heap.size w w0 → ∀ i, i < 8 → w0.cell? ⟨p2, o2 + i, none⟩ = some (.int .i64 (m.getD i 0))) := Lib.hid (fun w0 h i hi => (bcell h _ _ hb2).trans (hc2 i (by omega)))
  simp only [hok] at hcall
  rw [hl, hm] at hcall hmean hbord ⊢
  rw [hl] at hcl
  have HC := Lib.hid hcall
  have HME := Lib.hid hmean
  have HBO := Lib.hid hbord
  have HT1 := Lib.hid htl
  have HT2 := Lib.hid htm
  clear hcall hmean hbord hr hs hc1 hc2 hl hm htl htm hok
  have hx : inR 0 7 (X : Int) = true := inR_mk (by omega)
  have hy : inR 0 7 (Y : Int) = true := inR_mk (by omega)
  go_enter Try.func27, Try.ntmps27
  go_wp2_with fail
  obtain ⟨W0, hW0⟩ : ∃ WW, WW = w.alloc (.cells #[.slice (some ⟨p1, o1, none⟩) 16 c, .slice (some ⟨p2, o2, none⟩) 8 d, .int .i64 C, .bool T, .bool L] 27) := ⟨_, rfl⟩
  rw [← hW0]
  have P0 : Box5 W0 w.heap.size (.slice (some ⟨p1, o1, none⟩) 16 c) (.slice (some ⟨p2, o2, none⟩) 8 d) (.int .i64 C) (.bool T) (.bool L) := by rw [hW0]; exact Box5.new w _ _ _ _ _ _
  have HB0 : Hid (Below w.heap.size w W0) := Lib.hid (by rw [hW0]; exact (Below.refl w.heap.size w).alloc (Nat.le_refl _) _)
  clear hW0
  refine (HC.out W0 (HN.out W0 HB0.out)).mono ?_
  rintro e w1 ⟨rfl, hb⟩
  have P1 := P0.below hb (Nat.le_refl _)
  have HB : Hid (Below w.heap.size w w1) := Lib.hid (HB0.out.trans (hb.mono HB0.out.size))
  clear hb P0 HB0 HC
  have hP := P1
  obtain ⟨_, q0, q1, q2, q3, q4⟩ := hP
  have cl := HC1.out w1 HB.out X (by omega)
  have cm := HC2.out w1 HB.out Y (by omega)
  have hi1 : (X : Int) < 16 := by omega
  have hi2 : (Y : Int) < 8 := by omega
  obtain ⟨a0, a1⟩ := HT1.out X (by omega)
  obtain ⟨a2, a3⟩ := HT2.out Y (by omega)
  generalize l.getD X 0 = u at *
  generalize m.getD Y 0 = v at *
  have s1 : IntKind.i64.wrap (v + u) = v + u := IntWalk.i64_in _ (by omega)
  have s2 : IntKind.i64.wrap (v + u - C) = v + u - C := IntWalk.i64_in _ (by omega)
  go_wp2_with (go_at_call 51; refine (within_c _ _ _ _).mono ?_; rintro e w' ⟨rfl, rfl⟩)
  go_quiet ((go_at_call 58; exact quiet_eq (impl.limited_c _ _ _ _)))
  go_wp2
  go_ret
  exact ⟨ret_int HPV.out.symm, below_drewN' HB.out _⟩
set_option maxHeartbeats 4000000 in
set_option maxRecDepth 100000 in
theorem impl.PredAt_8_4 (a : Option Addr) (c : Nat) (l : List Int) (b : Option Addr) (d : Nat) (m : List Int) (C : Int) (T L : Bool) (X Y : Nat) (w : World) (hN : NbAll w a l b m 8) (hok : nbB l m C 8 = true) (hcl : l.length ≤ c) (hX : X < 8) (hY : Y < 8) :
    Calls Try.prog 27 #[.int .i64 (4), nbv a l.length c b m.length d C T L, .int .i64 8, .int .i64 X, .int .i64 Y] w fun e w' => e = .returned (.int .i64 (predV l m C T L 8 4 X Y)) ∧ Below w.heap.size w w' := by
  have HPV : Hid (predV l m C T L 8 4 X Y = softF (l.getD (X + Y) 0) (l.getD (min (X + Y + 1) 15) 0) (l.getD (min (X + Y + 2) 15) 0)) := Lib.hid rfl
  have hCb := (nbB_true hok).2.2.2.2.2
  obtain ⟨hC0, hC1⟩ := hCb
  have HN : Hid (∀ w0, Below w.heap.size w w0 → NbAll w0 a l b m 8) := Lib.hid (fun w0 h => ⟨hN.hl, hN.hm, hN.hr.below h (Nat.le_refl _), hN.hs.below h (Nat.le_refl _), hN.tl, hN.tm⟩)
  obtain ⟨hl, hm, hr, hs, htl, htm⟩ := hN
  have hcall := fun (w0 : World) (h : NbAll w0 a l b m 8) => impl.NbOk_8 a c l b d m C T L w0 (by omega) h.hr (by omega) h.hs
  have hmean := fun (w0 : World) (h : NbAll w0 a l b m 8) => impl.Mean_8 a c l b d m C T L w0 h hok hcl
  have hbord := fun (w0 : World) (h : NbAll w0 a l b m 8) => impl.Border_8 a c l b d m C T L w0 h hok hcl
  obtain ⟨p1, o1, rfl, hb1, hc1⟩ := hr.inside (by omega)
  obtain ⟨p2, o2, rfl, hb2, hc2⟩ := hs.inside (by omega)
  have HC1 : Hid (∀ w0, Below w.heap.size w w0 → ∀ i, i < 16 → w0.cell? ⟨p1, o1 + i, none⟩ = some (.int .i64 (l.getD i 0))) := Lib.hid (fun w0 h i hi => (bcell h _ _ hb1).trans (hc1 i (by omega)))
  have HC2 : Hid (∀ w0, Below w.heap.size w w0 → ∀ i, i < 8 → w0.cell? ⟨p2, o2 + i, none⟩ = some (.int .i64 (m.getD i 0))) := Lib.hid (fun w0 h i hi => (bcell h _ _ hb2).trans (hc2 i (by omega)))
  simp only [hok] at hcall
  rw [hl, hm] at hcall hmean hbord ⊢
  rw [hl] at hcl
  have HC := Lib.hid hcall
  have HME := Lib.hid hmean
  have HBO := Lib.hid hbord
  have HT1 := Lib.hid htl
  have HT2 := Lib.hid htm
  clear hcall hmean hbord hr hs hc1 hc2 hl hm htl htm hok
  have hx : inR 0 7 (X : Int) = true := inR_mk (by omega)
  have hy : inR 0 7 (Y : Int) = true := inR_mk (by omega)
  go_enter Try.func27, Try.ntmps27
  go_wp2_with fail
  obtain ⟨W0, hW0⟩ : ∃ WW, WW = w.alloc (.cells #[.slice (some ⟨p1, o1, none⟩) 16 c, .slice (some ⟨p2, o2, none⟩) 8 d, .int .i64 C, .bool T, .bool L] 27) := ⟨_, rfl⟩
  rw [← hW0]
  have P0 : Box5 W0 w.heap.size (.slice (some ⟨p1, o1, none⟩) 16 c) (.slice (some ⟨p2, o2, none⟩) 8 d) (.int .i64 C) (.bool T) (.bool L) := by rw [hW0]; exact Box5.new w _ _ _ _ _ _
  have HB0 : Hid (Below w.heap.size w W0) := Lib.hid (by rw [hW0]; exact (Below.refl w.heap.size w).alloc (Nat.le_refl _) _)
  clear hW0
  refine (HC.out W0 (HN.out W0 HB0.out)).mono ?_
  rintro e w1 ⟨rfl, hb⟩
  have P1 := P0.below hb (Nat.le_refl _)
  have HB : Hid (Below w.heap.size w w1) := Lib.hid (HB0.out.trans (hb.mono HB0.out.size))
  clear hb P0 HB0 HC
  have hP := P1
  obtain ⟨_, q0, q1, q2, q3, q4⟩ := hP
  obtain ⟨i0, hi0⟩ : ∃ t, t = X + Y := ⟨_, rfl⟩
  obtain ⟨j1, hj1⟩ : ∃ t, t = X + Y + 1 := ⟨_, rfl⟩
  obtain ⟨j2, hj2⟩ : ∃ t, t = X + Y + 2 := ⟨_, rfl⟩
  obtain ⟨i1, hi1⟩ : ∃ t, t = min (X + Y + 1) 15 := ⟨_, rfl⟩
  obtain ⟨i2, hi2⟩ : ∃ t, t = min (X + Y + 2) 15 := ⟨_, rfl⟩
  rw [← hi1, ← hi2, ← hi0] at HPV
  have c0 := HC1.out w1 HB.out i0 (by omega)
  have B0 := HT1.out i0 (by omega)
  have c1 := HC1.out w1 HB.out i1 (by omega)
  have B1 := HT1.out i1 (by omega)
  have c2 := HC1.out w1 HB.out i2 (by omega)
  have B2 := HT1.out i2 (by omega)
  have w0s : IntKind.i64.wrap ((X : Int) + (Y : Int)) = (i0 : Int) := by rw [IntWalk.i64_in _ (by omega)]; omega
  have w1s : IntKind.i64.wrap ((i0 : Int) + 1) = (j1 : Int) := by rw [IntWalk.i64_in _ (by omega)]; omega
  have w2s : IntKind.i64.wrap ((i0 : Int) + 2) = (j2 : Int) := by rw [IntWalk.i64_in _ (by omega)]; omega
  have m1 : min (j1 : Int) 15 = (i1 : Int) := by omega
  have m2 : min (j2 : Int) 15 = (i2 : Int) := by omega
  have m1' : min 15 (j1 : Int) = (i1 : Int) := by omega
  have m2' : min 15 (j2 : Int) = (i2 : Int) := by omega
  have hmin := min_if
  have z0 : (i0 : Int) < 16 := by omega
  have z1 : (i1 : Int) < 16 := by omega
  have z2 : (i2 : Int) < 16 := by omega
  generalize l.getD i0 0 = x0 at *
  generalize l.getD i1 0 = x1 at *
  generalize l.getD i2 0 = x2 at *
  clear hi0 hj1 hj2 hi1 hi2
  go_wp2_with (go_at_call 51; refine (within_c _ _ _ _).mono ?_; rintro e w' ⟨rfl, rfl⟩)
  go_quiet ((go_at_call 57; exact quiet_eq (impl.smoothed_c _ _ _ _ B0 B1 B2)))
  go_wp2
  go_ret
  exact ⟨ret_int HPV.out.symm, below_drewN' HB.out _⟩
set_option maxHeartbeats 4000000 in
set_option maxRecDepth 100000 in
theorem impl.PredAt_8_5 (a : Option Addr) (c : Nat) (l : List Int) (b : Option Addr) (d : Nat) (m : List Int) (C : Int) (T L : Bool) (X Y : Nat) (w : World) (hN : NbAll w a l b m 8) (hok : nbB l m C 8 = true) (hcl : l.length ≤ c) (hX : X < 8) (hY : Y < 8) :
    Calls Try.prog 27 #[.int .i64 (5), nbv a l.length c b m.length d C T L, .int .i64 8, .int .i64 X, .int .i64 Y] w fun e w' => e = .returned (.int .i64 (predV l m C T L 8 5 X Y)) ∧ Below w.heap.size w w' := by
  have HPV : Hid (predV l m C T L 8 5 X Y = softF ((borderL l m C 8).getD (X + 8 - Y - 1) 0) ((borderL l m C 8).getD (X + 8 - Y) 0) ((borderL l m C 8).getD (X + 8 - Y + 1) 0)) := Lib.hid rfl
  have hCb := (nbB_true hok).2.2.2.2.2
  obtain ⟨hC0, hC1⟩ := hCb
  have HN : Hid (∀ w0, Below w.heap.size w w0 → NbAll w0 a l b m 8) := Lib.hid (fun w0 h => ⟨hN.hl, hN.hm, hN.hr.below h (Nat.le_refl _), hN.hs.below h (Nat.le_refl _), hN.tl, hN.tm⟩)
  obtain ⟨hl, hm, hr, hs, htl, htm⟩ := hN
  have hcall := fun (w0 : World) (h : NbAll w0 a l b m 8) => impl.NbOk_8 a c l b d m C T L w0 (by omega) h.hr (by omega) h.hs
  have hmean := fun (w0 : World) (h : NbAll w0 a l b m 8) => impl.Mean_8 a c l b d m C T L w0 h hok hcl
  have hbord := fun (w0 : World) (h : NbAll w0 a l b m 8) => impl.Border_8 a c l b d m C T L w0 h hok hcl
  have HBB : Hid (∀ i, i < 17 → 0 ≤ (borderL l m C 8).getD i 0 ∧ (borderL l m C 8).getD i 0 ≤ 255) := Lib.hid (borderL_bd ⟨hC0, hC1⟩ (fun i hi => htl i (by omega)) htm)
  obtain ⟨p1, o1, rfl, hb1, hc1⟩ := hr.inside (by omega)
  obtain ⟨p2, o2, rfl, hb2, hc2⟩ := hs.inside (by omega)
  have HC1 : Hid (∀ w0, Below w.heap.size w w0 → ∀ i, i < 16 → w0.cell? ⟨p1, o1 + i, none⟩ = some (.int .i64 (l.getD i 0))) := Lib.hid (fun w0 h i hi => (bcell h _ _ hb1).trans (hc1 i (by omega)))
  have HC2 : Hid (∀ w0, Below w.heap.size w w0 → ∀ i, i < 8 → w0.cell? ⟨p2, o2 + i, none⟩ = some (.int .i64 (m.getD i 0))) := Lib.hid (fun w0 h i hi => (bcell h _ _ hb2).trans (hc2 i (by omega)))
  simp only [hok] at hcall
  rw [hl, hm] at hcall hmean hbord ⊢
  rw [hl] at hcl
  have HC := Lib.hid hcall
  have HME := Lib.hid hmean
  have HBO := Lib.hid hbord
  have HT1 := Lib.hid htl
  have HT2 := Lib.hid htm
  clear hcall hmean hbord hr hs hc1 hc2 hl hm htl htm hok
  have hx : inR 0 7 (X : Int) = true := inR_mk (by omega)
  have hy : inR 0 7 (Y : Int) = true := inR_mk (by omega)
  go_enter Try.func27, Try.ntmps27
  go_wp2_with fail
  obtain ⟨W0, hW0⟩ : ∃ WW, WW = w.alloc (.cells #[.slice (some ⟨p1, o1, none⟩) 16 c, .slice (some ⟨p2, o2, none⟩) 8 d, .int .i64 C, .bool T, .bool L] 27) := ⟨_, rfl⟩
  rw [← hW0]
  have P0 : Box5 W0 w.heap.size (.slice (some ⟨p1, o1, none⟩) 16 c) (.slice (some ⟨p2, o2, none⟩) 8 d) (.int .i64 C) (.bool T) (.bool L) := by rw [hW0]; exact Box5.new w _ _ _ _ _ _
  have HB0 : Hid (Below w.heap.size w W0) := Lib.hid (by rw [hW0]; exact (Below.refl w.heap.size w).alloc (Nat.le_refl _) _)
  clear hW0
  refine (HC.out W0 (HN.out W0 HB0.out)).mono ?_
  rintro e w1 ⟨rfl, hb⟩
  have P1 := P0.below hb (Nat.le_refl _)
  have HB : Hid (Below w.heap.size w w1) := Lib.hid (HB0.out.trans (hb.mono HB0.out.size))
  clear hb P0 HB0 HC
  have hP := P1
  obtain ⟨_, q0, q1, q2, q3, q4⟩ := hP
  go_wp2_with (go_at_call 51; refine (within_c _ _ _ _).mono ?_; rintro e w' ⟨rfl, rfl⟩)
  refine (HBO.out w1 (HN.out w1 HB.out)).mono ?_
  rintro e w2 ⟨bx, by2, rfl, ho, hb⟩
  have P2 := P1.below hb (Nat.le_refl _)
  have HB2 : Hid (Below w.heap.size w w2) := Lib.hid (HB.out.trans (hb.mono HB.out.size))
  obtain ⟨g, rfl, hg1, hg2, _⟩ := ho.at_ (i := 0) (by rw [borderL_len]; omega)
  have HO := Lib.hid ho
  clear hb ho P1 HB q0 q1 q2 q3 q4
  obtain ⟨_, q0, q1, q2, q3, q4⟩ := P2
  obtain ⟨t1, ht1⟩ : ∃ t, t = X + 8 - Y := ⟨_, rfl⟩
  have et : (X : Int) - (Y : Int) + 8 = (t1 : Int) := by omega
  have etw : IntKind.i64.wrap ((X : Int) - (Y : Int) + 8) = (t1 : Int) := by rw [et, IntWalk.i64_in _ (by omega)]
  have etx : IntKind.i64.wrap ((X : Int) - (Y : Int)) = (X : Int) - (Y : Int) := IntWalk.i64_in _ (by omega)
  obtain ⟨t0, ht0⟩ : ∃ t, t = X + 8 - Y - 1 := ⟨_, rfl⟩
  obtain ⟨t2, ht2⟩ : ∃ t, t = X + 8 - Y + 1 := ⟨_, rfl⟩
  have ew0 : IntKind.i64.wrap ((t1 : Int) - 1) = (t0 : Int) := by rw [IntWalk.i64_in _ (by omega)]; omega
  have ew2 : IntKind.i64.wrap ((t1 : Int) + 1) = (t2 : Int) := by rw [IntWalk.i64_in _ (by omega)]; omega
  have z0 : (t0 : Int) < 17 := by omega
  have z1 : (t1 : Int) < 17 := by omega
  have z2 : (t2 : Int) < 17 := by omega
  rw [← ht1] at HPV
  have e0 : t1 - 1 = t0 := by omega
  have e2 : t1 + 1 = t2 := by omega
  rw [e0, e2] at HPV
  have c0 := HO.out.cellAt (i := t0) (by rw [borderL_len]; omega)
  have B0 := HBB.out t0 (by omega)
  have c1 := HO.out.cellAt (i := t1) (by rw [borderL_len]; omega)
  have B1 := HBB.out t1 (by omega)
  have c2 := HO.out.cellAt (i := t2) (by rw [borderL_len]; omega)
  have B2 := HBB.out t2 (by omega)
  generalize (borderL l m C 8).getD t0 0 = x0 at *
  generalize (borderL l m C 8).getD t1 0 = x1 at *
  generalize (borderL l m C 8).getD t2 0 = x2 at *
  clear e0 e2 ht0 ht1 ht2
  go_wp2_with fail
  go_quiet ((go_at_call 57; exact quiet_eq (impl.smoothed_c _ _ _ _ B0 B1 B2)))
  go_wp2
  go_ret
  exact ⟨ret_int HPV.out.symm, below_drewN' HB2.out _⟩
set_option maxHeartbeats 4000000 in
set_option maxRecDepth 100000 in
theorem impl.PredAt_8_x (mode : Int) (h0 : mode ≠ 0) (h1 : mode ≠ 1) (h2 : mode ≠ 2) (h3 : mode ≠ 3) (h4 : mode ≠ 4) (h5 : mode ≠ 5) (a : Option Addr) (c : Nat) (l : List Int) (b : Option Addr) (d : Nat) (m : List Int) (C : Int) (T L : Bool) (X Y : Nat) (w : World) (hN : NbAll w a l b m 8) (hok : nbB l m C 8 = true) (hcl : l.length ≤ c) (hX : X < 8) (hY : Y < 8) :
    Calls Try.prog 27 #[.int .i64 (mode), nbv a l.length c b m.length d C T L, .int .i64 8, .int .i64 X, .int .i64 Y] w fun e w' => e = .returned (.int .i64 (predV l m C T L 8 mode X Y)) ∧ Below w.heap.size w w' := by
  have m0 : (mode == 0) = false := by simpa using h0
  have m1 : (mode == 1) = false := by simpa using h1
  have m2 : (mode == 2) = false := by simpa using h2
  have m3 : (mode == 3) = false := by simpa using h3
  have m4 : (mode == 4) = false := by simpa using h4
  have m5 : (mode == 5) = false := by simpa using h5
  have HPV : Hid (predV l m C T L 8 mode X Y = -1) := Lib.hid (by simp [predV, h0, h1, h2, h3, h4, h5])
  clear h0 h1 h2 h3 h4 h5
  have hCb := (nbB_true hok).2.2.2.2.2
  obtain ⟨hC0, hC1⟩ := hCb
  have HN : Hid (∀ w0, Below w.heap.size w w0 → NbAll w0 a l b m 8) := Lib.hid (fun w0 h => ⟨hN.hl, hN.hm, hN.hr.below h (Nat.le_refl _), hN.hs.below h (Nat.le_refl _), hN.tl, hN.tm⟩)
  obtain ⟨hl, hm, hr, hs, htl, htm⟩ := hN
  have hcall := fun (w0 : World) (h : NbAll w0 a l b m 8) => impl.NbOk_8 a c l b d m C T L w0 (by omega) h.hr (by omega) h.hs
  have hmean := fun (w0 : World) (h : NbAll w0 a l b m 8) => impl.Mean_8 a c l b d m C T L w0 h hok hcl
  have hbord := fun (w0 : World) (h : NbAll w0 a l b m 8) => impl.Border_8 a c l b d m C T L w0 h hok hcl
  obtain ⟨p1, o1, rfl, hb1, hc1⟩ := hr.inside (by omega)
  obtain ⟨p2, o2, rfl, hb2, hc2⟩ := hs.inside (by omega)
  have HC1 : Hid (∀ w0, Below w.heap.size w w0 → ∀ i, i < 16 → w0.cell? ⟨p1, o1 + i, none⟩ = some (.int .i64 (l.getD i 0))) := Lib.hid (fun w0 h i hi => (bcell h _ _ hb1).trans (hc1 i (by omega)))
  have HC2 : Hid (∀ w0, Below w.heap.size w w0 → ∀ i, i < 8 → w0.cell? ⟨p2, o2 + i, none⟩ = some (.int .i64 (m.getD i 0))) := Lib.hid (fun w0 h i hi => (bcell h _ _ hb2).trans (hc2 i (by omega)))
  simp only [hok] at hcall
  rw [hl, hm] at hcall hmean hbord ⊢
  rw [hl] at hcl
  have HC := Lib.hid hcall
  have HME := Lib.hid hmean
  have HBO := Lib.hid hbord
  have HT1 := Lib.hid htl
  have HT2 := Lib.hid htm
  clear hcall hmean hbord hr hs hc1 hc2 hl hm htl htm hok
  have hx : inR 0 7 (X : Int) = true := inR_mk (by omega)
  have hy : inR 0 7 (Y : Int) = true := inR_mk (by omega)
  go_enter Try.func27, Try.ntmps27
  go_wp2_with fail
  obtain ⟨W0, hW0⟩ : ∃ WW, WW = w.alloc (.cells #[.slice (some ⟨p1, o1, none⟩) 16 c, .slice (some ⟨p2, o2, none⟩) 8 d, .int .i64 C, .bool T, .bool L] 27) := ⟨_, rfl⟩
  rw [← hW0]
  have P0 : Box5 W0 w.heap.size (.slice (some ⟨p1, o1, none⟩) 16 c) (.slice (some ⟨p2, o2, none⟩) 8 d) (.int .i64 C) (.bool T) (.bool L) := by rw [hW0]; exact Box5.new w _ _ _ _ _ _
  have HB0 : Hid (Below w.heap.size w W0) := Lib.hid (by rw [hW0]; exact (Below.refl w.heap.size w).alloc (Nat.le_refl _) _)
  clear hW0
  refine (HC.out W0 (HN.out W0 HB0.out)).mono ?_
  rintro e w1 ⟨rfl, hb⟩
  have P1 := P0.below hb (Nat.le_refl _)
  have HB : Hid (Below w.heap.size w w1) := Lib.hid (HB0.out.trans (hb.mono HB0.out.size))
  clear hb P0 HB0 HC
  have hP := P1
  obtain ⟨_, q0, q1, q2, q3, q4⟩ := hP
  go_wp2_with (go_at_call 51; refine (within_c _ _ _ _).mono ?_; rintro e w' ⟨rfl, rfl⟩)
  go_ret
  exact ⟨ret_int HPV.out.symm, HB.out⟩


set_option maxHeartbeats 4000000 in
set_option maxRecDepth 100000 in
theorem spec.PredAt_4_0 (a : Option Addr) (c : Nat) (l : List Int) (b : Option Addr) (d : Nat) (m : List Int) (C : Int) (T L : Bool) (X Y : Nat) (w : World) (hN : NbAll w a l b m 4) (hok : nbB l m C 4 = true) (hcl : l.length ≤ c) (hX : X < 4) (hY : Y < 4) :
    Calls Try.prog 64 #[.int .i64 (0), nbv a l.length c b m.length d C T L, .int .i64 4, .int .i64 X, .int .i64 Y] w fun e w' => e = .returned (.int .i64 (predV l m C T L 4 0 X Y)) ∧ Below w.heap.size w w' := by
  have HPV : Hid (predV l m C T L 4 0 X Y = meanV l m T L 4) := Lib.hid rfl
  have hCb := (nbB_true hok).2.2.2.2.2
  obtain ⟨hC0, hC1⟩ := hCb
  have HN : Hid (∀ w0, Below w.heap.size w w0 → NbAll w0 a l b m 4) := Lib.hid (fun w0 h => ⟨hN.hl, hN.hm, hN.hr.below h (Nat.le_refl _), hN.hs.below h (Nat.le_refl _), hN.tl, hN.tm⟩)
  obtain ⟨hl, hm, hr, hs, htl, htm⟩ := hN
  have hcall := fun (w0 : World) (h : NbAll w0 a l b m 4) => spec.NbOk_4 a c l b d m C T L w0 (by omega) h.hr (by omega) h.hs
  have hmean := fun (w0 : World) (h : NbAll w0 a l b m 4) => spec.Mean_4 a c l b d m C T L w0 h hok hcl
  have hbord := fun (w0 : World) (h : NbAll w0 a l b m 4) => spec.Border_4 a c l b d m C T L w0 h hok hcl
  obtain ⟨p1, o1, rfl, hb1, hc1⟩ := hr.inside (by omega)
  obtain ⟨p2, o2, rfl, hb2, hc2⟩ := hs.inside (by omega)
  have HC1 : Hid (∀ w0, Below w.heap.size w w0 → ∀ i, i < 8 → w0.cell? ⟨p1, o1 + i, none⟩ = some (.int .i64 (l.getD i 0))) := Lib.hid (fun w0 h i hi => (bcell h _ _ hb1).trans (hc1 i (by omega)))
  have HC2 : Hid (∀ w0, Below w.heap.size w w0 → ∀ i, i < 4 → w0.cell? ⟨p2, o2 + i, none⟩ = some (.int .i64 (m.getD i 0))) := Lib.hid (fun w0 h i hi => (bcell h _ _ hb2).trans (hc2 i (by omega)))
  simp only [hok] at hcall
  rw [hl, hm] at hcall hmean hbord ⊢
  rw [hl] at hcl
  have HC := Lib.hid hcall
  have HME := Lib.hid hmean
  have HBO := Lib.hid hbord
  have HT1 := Lib.hid htl
  have HT2 := Lib.hid htm
  clear hcall hmean hbord hr hs hc1 hc2 hl hm htl htm hok
  have hx : inR 0 3 (X : Int) = true := inR_mk (by omega)
  have hy : inR 0 3 (Y : Int) = true := inR_mk (by omega)
  go_enter Try.func64, Try.ntmps64
  go_wp2_with fail
  obtain ⟨W0, hW0⟩ : ∃ WW, WW = w.alloc (.cells #[.slice (some ⟨p1, o1, none⟩) 8 c, .slice (some ⟨p2, o2, none⟩) 4 d, .int .i64 C, .bool T, .bool L] 27) := ⟨_, rfl⟩
  rw [← hW0]
  have P0 : Box5 W0 w.heap.size (.slice (some ⟨p1, o1, none⟩) 8 c) (.slice (some ⟨p2, o2, none⟩) 4 d) (.int .i64 C) (.bool T) (.bool L) := by rw [hW0]; exact Box5.new w _ _ _ _ _ _
  have HB0 : Hid (Below w.heap.size w W0) := Lib.hid (by rw [hW0]; exact (Below.refl w.heap.size w).alloc (Nat.le_refl _) _)
  clear hW0
  refine (HC.out W0 (HN.out W0 HB0.out)).mono ?_
  rintro e w1 ⟨rfl, hb⟩
  have P1 := P0.below hb (Nat.le_refl _)
  have HB : Hid (Below w.heap.size w w1) := Lib.hid (HB0.out.trans (hb.mono HB0.out.size))
  clear hb P0 HB0 HC
  have hP := P1
  obtain ⟨_, q0, q1, q2, q3, q4⟩ := hP
  obtain ⟨t1, ht1⟩ : ∃ t, t = X + 4 - Y := ⟨_, rfl⟩
  have et : (X : Int) - (Y : Int) + 4 = (t1 : Int) := by omega
  have etw : IntKind.i64.wrap ((X : Int) - (Y : Int) + 4) = (t1 : Int) := by rw [et, IntWalk.i64_in _ (by omega)]
  have etx : IntKind.i64.wrap ((X : Int) - (Y : Int)) = (X : Int) - (Y : Int) := IntWalk.i64_in _ (by omega)
  go_wp2_with (go_at_call 61; refine (l1In_c _ _ _ _).mono ?_; rintro e w' ⟨rfl, rfl⟩)
  refine (HBO.out w1 (HN.out w1 HB.out)).mono ?_
  rintro e w2 ⟨bx, by2, rfl, ho, hb⟩
  have P2 := P1.below hb (Nat.le_refl _)
  have HB2 : Hid (Below w.heap.size w w2) := Lib.hid (HB.out.trans (hb.mono HB.out.size))
  obtain ⟨g, rfl, hg1, hg2, _⟩ := ho.at_ (i := 0) (by rw [borderL_len]; omega)
  have HO := Lib.hid ho
  clear hb ho P1 HB q0 q1 q2 q3 q4
  obtain ⟨_, q0, q1, q2, q3, q4⟩ := P2
  go_wp2_with (go_at_call 77; refine (HME.out w2 (HN.out w2 HB2.out)).mono ?_; rintro e w3 ⟨rfl, hb3⟩)
  go_ret
  exact ⟨ret_int HPV.out.symm, HB2.out.trans (hb3.mono HB2.out.size)⟩
set_option maxHeartbeats 4000000 in
set_option maxRecDepth 100000 in
theorem spec.PredAt_4_1 (a : Option Addr) (c : Nat) (l : List Int) (b : Option Addr) (d : Nat) (m : List Int) (C : Int) (T L : Bool) (X Y : Nat) (w : World) (hN : NbAll w a l b m 4) (hok : nbB l m C 4 = true) (hcl : l.length ≤ c) (hX : X < 4) (hY : Y < 4) :
    Calls Try.prog 64 #[.int .i64 (1), nbv a l.length c b m.length d C T L, .int .i64 4, .int .i64 X, .int .i64 Y] w fun e w' => e = .returned (.int .i64 (predV l m C T L 4 1 X Y)) ∧ Below w.heap.size w w' := by
  have HPV : Hid (predV l m C T L 4 1 X Y = l.getD X 0) := Lib.hid rfl
  have hCb := (nbB_true hok).2.2.2.2.2
  obtain ⟨hC0, hC1⟩ := hCb
  have HN : Hid (∀ w0, Below w.heap.size w w0 → NbAll w0 a l b m 4) := Lib.hid (fun w0 h => ⟨hN.hl, hN.hm, hN.hr.below h (Nat.le_refl _), hN.hs.below h (Nat.le_refl _), hN.tl, hN.tm⟩)
  obtain ⟨hl, hm, hr, hs, htl, htm⟩ := hN
  have hcall := fun (w0 : World) (h : NbAll w0 a l b m 4) => spec.NbOk_4 a c l b d m C T L w0 (by omega) h.hr (by omega) h.hs
  have hmean := fun (w0 : World) (h : NbAll w0 a l b m 4) => spec.Mean_4 a c l b d m C T L w0 h hok hcl
  have hbord := fun (w0 : World) (h : NbAll w0 a l b m 4) => spec.Border_4 a c l b d m C T L w0 h hok hcl
  obtain ⟨p1, o1, rfl, hb1, hc1⟩ := hr.inside (by omega)
  obtain ⟨p2, o2, rfl, hb2, hc2⟩ := hs.inside (by omega)
  have HC1 : Hid (∀ w0, Below w.heap.size w w0 → ∀ i, i < 8 → w0.cell? ⟨p1, o1 + i, none⟩ = some (.int .i64 (l.getD i 0))) := Lib.hid (fun w0 h i hi => (bcell h _ _ hb1).trans (hc1 i (by omega)))
  have HC2 : Hid (∀ w0, Below w.heap.size w w0 → ∀ i, i < 4 → w0.cell? ⟨p2, o2 + i, none⟩ = some (.int .i64 (m.getD i 0))) := Lib.hid (fun w0 h i hi => (bcell h _ _ hb2).trans (hc2 i (by omega)))
  simp only [hok] at hcall
  rw [hl, hm] at hcall hmean hbord ⊢
  rw [hl] at hcl
  have HC := Lib.hid hcall
  have HME := Lib.hid hmean
  have HBO := Lib.hid hbord
  have HT1 := Lib.hid htl
  have HT2 := Lib.hid htm
  clear hcall hmean hbord hr hs hc1 hc2 hl hm htl htm hok
  have hx : inR 0 3 (X : Int) = true := inR_mk (by omega)
  have hy : inR 0 3 (Y : Int) = true := inR_mk (by omega)
  go_enter Try.func64, Try.ntmps64
  go_wp2_with fail
  obtain ⟨W0, hW0⟩ : ∃ WW, WW = w.alloc (.cells #[.slice (some ⟨p1, o1, none⟩) 8 c, .slice (some ⟨p2, o2, none⟩) 4 d, .int .i64 C, .bool T, .bool L] 27) := ⟨_, rfl⟩
  rw [← hW0]
  have P0 : Box5 W0 w.heap.size (.slice (some ⟨p1, o1, none⟩) 8 c) (.slice (some ⟨p2, o2, none⟩) 4 d) (.int .i64 C) (.bool T) (.bool L) := by rw [hW0]; exact Box5.new w _ _ _ _ _ _
  have HB0 : Hid (Below w.heap.size w W0) := Lib.hid (by rw [hW0]; exact (Below.refl w.heap.size w).alloc (Nat.le_refl _) _)
  clear hW0
  refine (HC.out W0 (HN.out W0 HB0.out)).mono ?_
  rintro e w1 ⟨rfl, hb⟩
  have P1 := P0.below hb (Nat.le_refl _)
  have HB : Hid (Below w.heap.size w w1) := Lib.hid (HB0.out.trans (hb.mono HB0.out.size))
  clear hb P0 HB0 HC
  have hP := P1
  obtain ⟨_, q0, q1, q2, q3, q4⟩ := hP
  obtain ⟨t1, ht1⟩ : ∃ t, t = X + 4 - Y := ⟨_, rfl⟩
  have et : (X : Int) - (Y : Int) + 4 = (t1 : Int) := by omega
  have etw : IntKind.i64.wrap ((X : Int) - (Y : Int) + 4) = (t1 : Int) := by rw [et, IntWalk.i64_in _ (by omega)]
  have etx : IntKind.i64.wrap ((X : Int) - (Y : Int)) = (X : Int) - (Y : Int) := IntWalk.i64_in _ (by omega)
  go_wp2_with (go_at_call 61; refine (l1In_c _ _ _ _).mono ?_; rintro e w' ⟨rfl, rfl⟩)
  refine (HBO.out w1 (HN.out w1 HB.out)).mono ?_
  rintro e w2 ⟨bx, by2, rfl, ho, hb⟩
  have P2 := P1.below hb (Nat.le_refl _)
  have HB2 : Hid (Below w.heap.size w w2) := Lib.hid (HB.out.trans (hb.mono HB.out.size))
  obtain ⟨g, rfl, hg1, hg2, _⟩ := ho.at_ (i := 0) (by rw [borderL_len]; omega)
  have HO := Lib.hid ho
  clear hb ho P1 HB q0 q1 q2 q3 q4
  obtain ⟨_, q0, q1, q2, q3, q4⟩ := P2
  have hcell := HC1.out w2 HB2.out X (by omega)
  have hi : (X : Int) < 8 := by omega
  generalize l.getD X 0 = v at *
  go_wp2
  go_ret
  exact ⟨ret_int HPV.out.symm, HB2.out⟩
set_option maxHeartbeats 4000000 in
set_option maxRecDepth 100000 in
theorem spec.PredAt_4_2 (a : Option Addr) (c : Nat) (l : List Int) (b : Option Addr) (d : Nat) (m : List Int) (C : Int) (T L : Bool) (X Y : Nat) (w : World) (hN : NbAll w a l b m 4) (hok : nbB l m C 4 = true) (hcl : l.length ≤ c) (hX : X < 4) (hY : Y < 4) :
    Calls Try.prog 64 #[.int .i64 (2), nbv a l.length c b m.length d C T L, .int .i64 4, .int .i64 X, .int .i64 Y] w fun e w' => e = .returned (.int .i64 (predV l m C T L 4 2 X Y)) ∧ Below w.heap.size w w' := by
  have HPV : Hid (predV l m C T L 4 2 X Y = m.getD Y 0) := Lib.hid rfl
  have hCb := (nbB_true hok).2.2.2.2.2
  obtain ⟨hC0, hC1⟩ := hCb
  have HN : Hid (∀ w0, Below w.heap.size w w0 → NbAll w0 a l b m 4) := Lib.hid (fun w0 h => ⟨hN.hl, hN.hm, hN.hr.below h (Nat.le_refl _), hN.hs.below h (Nat.le_refl _), hN.tl, hN.tm⟩)
  obtain ⟨hl, hm, hr, hs, htl, htm⟩ := hN
  have hcall := fun (w0 : World) (h : NbAll w0 a l b m 4) => spec.NbOk_4 a c l b d m C T L w0 (by omega) h.hr (by omega) h.hs
  have hmean := fun (w0 : World) (h : NbAll w0 a l b m 4) => spec.Mean_4 a c l b d m C T L w0 h hok hcl
  have hbord := fun (w0 : World) (h : NbAll w0 a l b m 4) => spec.Border_4 a c l b d m C T L w0 h hok hcl
  obtain ⟨p1, o1, rfl, hb1, hc1⟩ := hr.inside (by omega)
  obtain ⟨p2, o2, rfl, hb2, hc2⟩ := hs.inside (by omega)
  have HC1 : Hid (∀ w0, Below w.heap.size w w0 → ∀ i, i < 8 → w0.cell? ⟨p1, o1 + i, none⟩ = some (.int .i64 (l.getD i 0))) := Lib.hid (fun w0 h i hi => (bcell h _ _ hb1).trans (hc1 i (by omega)))
  have HC2 : Hid (∀ w0, Below w.heap.size w w0 → ∀ i, i < 4 → w0.cell? ⟨p2, o2 + i, none⟩ = some (.int .i64 (m.getD i 0))) := Lib.hid (fun w0 h i hi => (bcell h _ _ hb2).trans (hc2 i (by omega)))
  simp only [hok] at hcall
  rw [hl, hm] at hcall hmean hbord ⊢
  rw [hl] at hcl
  have HC := Lib.hid hcall
  have HME := Lib.hid hmean
  have HBO := Lib.hid hbord
  have HT1 := Lib.hid htl
  have HT2 := Lib.hid htm
  clear hcall hmean hbord hr hs hc1 hc2 hl hm htl htm hok
  have hx : inR 0 3 (X : Int) = true := inR_mk (by omega)
  have hy : inR 0 3 (Y : Int) = true := inR_mk (by omega)
  go_enter Try.func64, Try.ntmps64
  go_wp2_with fail
  obtain ⟨W0, hW0⟩ : ∃ WW, WW = w.alloc (.cells #[.slice (some ⟨p1, o1, none⟩) 8 c, .slice (some ⟨p2, o2, none⟩) 4 d, .int .i64 C, .bool T, .bool L] 27) := ⟨_, rfl⟩
  rw [← hW0]
  have P0 : Box5 W0 w.heap.size (.slice (some ⟨p1, o1, none⟩) 8 c) (.slice (some ⟨p2, o2, none⟩) 4 d) (.int .i64 C) (.bool T) (.bool L) := by rw [hW0]; exact Box5.new w _ _ _ _ _ _
  have HB0 : Hid (Below w.heap.size w W0) := Lib.hid (by rw [hW0]; exact (Below.refl w.heap.size w).alloc (Nat.le_refl _) _)
  clear hW0
  refine (HC.out W0 (HN.out W0 HB0.out)).mono ?_
  rintro e w1 ⟨rfl, hb⟩
  have P1 := P0.below hb (Nat.le_refl _)
  have HB : Hid (Below w.heap.size w w1) := Lib.hid (HB0.out.trans (hb.mono HB0.out.size))
  clear hb P0 HB0 HC
  have hP := P1
  obtain ⟨_, q0, q1, q2, q3, q4⟩ := hP
  obtain ⟨t1, ht1⟩ : ∃ t, t = X + 4 - Y := ⟨_, rfl⟩
  have et : (X : Int) - (Y : Int) + 4 = (t1 : Int) := by omega
  have etw : IntKind.i64.wrap ((X : Int) - (Y : Int) + 4) = (t1 : Int) := by rw [et, IntWalk.i64_in _ (by omega)]
  have etx : IntKind.i64.wrap ((X : Int) - (Y : Int)) = (X : Int) - (Y : Int) := IntWalk.i64_in _ (by omega)
  go_wp2_with (go_at_call 61; refine (l1In_c _ _ _ _).mono ?_; rintro e w' ⟨rfl, rfl⟩)
  refine (HBO.out w1 (HN.out w1 HB.out)).mono ?_
  rintro e w2 ⟨bx, by2, rfl, ho, hb⟩
  have P2 := P1.below hb (Nat.le_refl _)
  have HB2 : Hid (Below w.heap.size w w2) := Lib.hid (HB.out.trans (hb.mono HB.out.size))
  obtain ⟨g, rfl, hg1, hg2, _⟩ := ho.at_ (i := 0) (by rw [borderL_len]; omega)
  have HO := Lib.hid ho
  clear hb ho P1 HB q0 q1 q2 q3 q4
  obtain ⟨_, q0, q1, q2, q3, q4⟩ := P2
  have hcell := HC2.out w2 HB2.out Y (by omega)
  have hi : (Y : Int) < 4 := by omega
  generalize m.getD Y 0 = v at *
  go_wp2
  go_ret
  exact ⟨ret_int HPV.out.symm, HB2.out⟩
set_option maxHeartbeats 4000000 in
set_option maxRecDepth 100000 in
theorem spec.PredAt_4_3 (a : Option Addr) (c : Nat) (l : List Int) (b : Option Addr) (d : Nat) (m : List Int) (C : Int) (T L : Bool) (X Y : Nat) (w : World) (hN : NbAll w a l b m 4) (hok : nbB l m C 4 = true) (hcl : l.length ≤ c) (hX : X < 4) (hY : Y < 4) :
    Calls Try.prog 64 #[.int .i64 (3), nbv a l.length c b m.length d C T L, .int .i64 4, .int .i64 X, .int .i64 Y] w fun e w' => e = .returned (.int .i64 (predV l m C T L 4 3 X Y)) ∧ Below w.heap.size w w' := by
  have HPV : Hid (predV l m C T L 4 3 X Y = clipF 0 255 (m.getD Y 0 + l.getD X 0 - C)) := Lib.hid rfl
  have hCb := (nbB_true hok).2.2.2.2.2
  obtain ⟨hC0, hC1⟩ := hCb
  have HN : Hid (∀ w0, Below w.heap.size w w0 → NbAll w0 a l b m 4) := Lib.hid (fun w0 h => ⟨hN.hl, hN.hm, hN.hr.below h (Nat.le_refl _), hN.hs.below h (Nat.le_refl _), hN.tl, hN.tm⟩)
  obtain ⟨hl, hm, hr, hs, htl, htm⟩ := hN
  have hcall := fun (w0 : World) (h : NbAll w0 a l b m 4) => spec.NbOk_4 a c l b d m C T L w0 (by omega) h.hr (by omega) h.hs
  have hmean := fun (w0 : World) (h : NbAll w0 a l b m 4) => spec.Mean_4 a c l b d m C T L w0 h hok hcl
  have hbord := fun (w0 : World) (h : NbAll w0 a l b m 4) => spec.Border_4 a c l b d m C T L w0 h hok hcl
  obtain ⟨p1, o1, rfl, hb1, hc1⟩ := hr.inside (by omega)
  obtain ⟨p2, o2, rfl, hb2, hc2⟩ := hs.inside (by omega)
  have HC1 : Hid (∀ w0, Below w.heap.size w w0 → ∀ i, i < 8 → w0.cell? ⟨p1, o1 + i, none⟩ = some (.int .i64 (l.getD i 0))) := Lib.hid (fun w0 h i hi => (bcell h _ _ hb1).trans (hc1 i (by omega)))
  have HC2 : Hid (∀ w0, Below w.heap.size w w0 → ∀ i, i < 4 → w0.cell? ⟨p2, o2 + i, none⟩ = some (.int .i64 (m.getD i 0))) := Lib.hid (fun w0 h i hi => (bcell h _ _ hb2).trans (hc2 i (by omega)))
  simp only [hok] at hcall
  rw [hl, hm] at hcall hmean hbord ⊢
  rw [hl] at hcl
  have HC := Lib.hid hcall
  have HME := Lib.hid hmean
  have HBO := Lib.hid hbord
  have HT1 := Lib.hid htl
  have HT2 := Lib.hid htm
  clear hcall hmean hbord hr hs hc1 hc2 hl hm htl htm hok
  have hx : inR 0 3 (X : Int) = true := inR_mk (by omega)
  have hy : inR 0 3 (Y : Int) = true := inR_mk (by omega)
  go_enter Try.func64, Try.ntmps64
  go_wp2_with fail
  obtain ⟨W0, hW0⟩ : ∃ WW, WW = w.alloc (.cells #[.slice (some ⟨p1, o1, none⟩) 8 c, .slice (some ⟨p2, o2, none⟩) 4 d, .int .i64 C, .bool T, .bool L] 27) := ⟨_, rfl⟩
  rw [← hW0]
  have P0 : Box5 W0 w.heap.size (.slice (some ⟨p1, o1, none⟩) 8 c) (.slice (some ⟨p2, o2, none⟩) 4 d) (.int .i64 C) (.bool T) (.bool L) := by rw [hW0]; exact Box5.new w _ _ _ _ _ _
  have HB0 : Hid (Below w.heap.size w W0) := Lib.hid (by rw [hW0]; exact (Below.refl w.heap.size w).alloc (Nat.le_refl _) _)
  clear hW0
  refine (HC.out W0 (HN.out W0 HB0.out)).mono ?_
  rintro e w1 ⟨rfl, hb⟩
  have P1 := P0.below hb (Nat.le_refl _)
  have HB : Hid (Below w.heap.size w w1) := Lib.hid (HB0.out.trans (hb.mono HB0.out.size))
  clear hb P0 HB0 HC
  have hP := P1
  obtain ⟨_, q0, q1, q2, q3, q4⟩ := hP
  obtain ⟨t1, ht1⟩ : ∃ t, t = X + 4 - Y := ⟨_, rfl⟩
  have et : (X : Int) - (Y : Int) + 4 = (t1 : Int) := by omega
  have etw : IntKind.i64.wrap ((X : Int) - (Y : Int) + 4) = (t1 : Int) := by rw [et, IntWalk.i64_in _ (by omega)]
  have etx : IntKind.i64.wrap ((X : Int) - (Y : Int)) = (X : Int) - (Y : Int) := IntWalk.i64_in _ (by omega)
  go_wp2_with (go_at_call 61; refine (l1In_c _ _ _ _).mono ?_; rintro e w' ⟨rfl, rfl⟩)
  refine (HBO.out w1 (HN.out w1 HB.out)).mono ?_
  rintro e w2 ⟨bx, by2, rfl, ho, hb⟩
  have P2 := P1.below hb (Nat.le_refl _)
  have HB2 : Hid (Below w.heap.size w w2) := Lib.hid (HB.out.trans (hb.mono HB.out.size))
  obtain ⟨g, rfl, hg1, hg2, _⟩ := ho.at_ (i := 0) (by rw [borderL_len]; omega)
  have HO := Lib.hid ho
  clear hb ho P1 HB q0 q1 q2 q3 q4
  obtain ⟨_, q0, q1, q2, q3, q4⟩ := P2
  have cl := HC1.out w2 HB2.out X (by omega)
  have cm := HC2.out w2 HB2.out Y (by omega)
  have hi1 : (X : Int) < 8 := by omega
  have hi2 : (Y : Int) < 4 := by omega
  obtain ⟨a0, a1⟩ := HT1.out X (by omega)
  obtain ⟨a2, a3⟩ := HT2.out Y (by omega)
  generalize l.getD X 0 = u at *
  generalize m.getD Y 0 = v at *
  have s1 : IntKind.i64.wrap (v + u) = v + u := IntWalk.i64_in _ (by omega)
  have s2 : IntKind.i64.wrap (v + u - C) = v + u - C := IntWalk.i64_in _ (by omega)
  go_wp2_with fail
  go_quiet ((go_at_call 70; exact quiet_eq (spec.l15Clip_c _ _)))
  go_wp2
  go_ret
  exact ⟨ret_int HPV.out.symm, below_drewN' HB2.out _⟩
set_option maxHeartbeats 4000000 in
set_option maxRecDepth 100000 in
theorem spec.PredAt_4_4 (a : Option Addr) (c : Nat) (l : List Int) (b : Option Addr) (d : Nat) (m : List Int) (C : Int) (T L : Bool) (X Y : Nat) (w : World) (hN : NbAll w a l b m 4) (hok : nbB l m C 4 = true) (hcl : l.length ≤ c) (hX : X < 4) (hY : Y < 4) :
    Calls Try.prog 64 #[.int .i64 (4), nbv a l.length c b m.length d C T L, .int .i64 4, .int .i64 X, .int .i64 Y] w fun e w' => e = .returned (.int .i64 (predV l m C T L 4 4 X Y)) ∧ Below w.heap.size w w' := by
  have HPV : Hid (predV l m C T L 4 4 X Y = softF (l.getD (X + Y) 0) (l.getD (min (X + Y + 1) 7) 0) (l.getD (min (X + Y + 2) 7) 0)) := Lib.hid rfl
  have hCb := (nbB_true hok).2.2.2.2.2
  obtain ⟨hC0, hC1⟩ := hCb
  have HN : Hid (∀ w0, Below w.heap.size w w0 → NbAll w0 a l b m 4) := Lib.hid (fun w0 h => ⟨hN.hl, hN.hm, hN.hr.below h (Nat.le_refl _), hN.hs.below h (Nat.le_refl _), hN.tl, hN.tm⟩)
  obtain ⟨hl, hm, hr, hs, htl, htm⟩ := hN
  have hcall := fun (w0 : World) (h : NbAll w0 a l b m 4) => spec.NbOk_4 a c l b d m C T L w0 (by omega) h.hr (by omega) h.hs
  have hmean := fun (w0 : World) (h : NbAll w0 a l b m 4) => spec.Mean_4 a c l b d m C T L w0 h hok hcl
  have hbord := fun (w0 : World) (h : NbAll w0 a l b m 4) => spec.Border_4 a c l b d m C T L w0 h hok hcl
  obtain ⟨p1, o1, rfl, hb1, hc1⟩ := hr.inside (by omega)
  obtain ⟨p2, o2, rfl, hb2, hc2⟩ := hs.inside (by omega)
  have HC1 : Hid (∀ w0, Below w.heap.size w w0 → ∀ i, i < 8 → w0.cell? ⟨p1, o1 + i, none⟩ = some (.int .i64 (l.getD i 0))) := Lib.hid (fun w0 h i hi => (bcell h _ _ hb1).trans (hc1 i (by omega)))
  have HC2 : Hid (∀ w0, Below w.heap.size w w0 → ∀ i, i < 4 → w0.cell? ⟨p2, o2 + i, none⟩ = some (.int .i64 (m.getD i 0))) := Lib.hid (fun w0 h i hi => (bcell h _ _ hb2).trans (hc2 i (by omega)))
  simp only [hok] at hcall
  rw [hl, hm] at hcall hmean hbord ⊢
  rw [hl] at hcl
  have HC := Lib.hid hcall
  have HME := Lib.hid hmean
  have HBO := Lib.hid hbord
  have HT1 := Lib.hid htl
  have HT2 := Lib.hid htm
  clear hcall hmean hbord hr hs hc1 hc2 hl hm htl htm hok
  have hx : inR 0 3 (X : Int) = true := inR_mk (by omega)
  have hy : inR 0 3 (Y : Int) = true := inR_mk (by omega)
  go_enter Try.func64, Try.ntmps64
  go_wp2_with fail
  obtain ⟨W0, hW0⟩ : ∃ WW, WW = w.alloc (.cells #[.slice (some ⟨p1, o1, none⟩) 8 c, .slice (some ⟨p2, o2, none⟩) 4 d, .int .i64 C, .bool T, .bool L] 27) := ⟨_, rfl⟩
  rw [← hW0]
  have P0 : Box5 W0 w.heap.size (.slice (some ⟨p1, o1, none⟩) 8 c) (.slice (some ⟨p2, o2, none⟩) 4 d) (.int .i64 C) (.bool T) (.bool L) := by rw [hW0]; exact Box5.new w _ _ _ _ _ _
  have HB0 : Hid (Below w.heap.size w W0) := Lib.hid (by rw [hW0]; exact (Below.refl w.heap.size w).alloc (Nat.le_refl _) _)
  clear hW0
  refine (HC.out W0 (HN.out W0 HB0.out)).mono ?_
  rintro e w1 ⟨rfl, hb⟩
  have P1 := P0.below hb (Nat.le_refl _)
  have HB : Hid (Below w.heap.size w w1) := Lib.hid (HB0.out.trans (hb.mono HB0.out.size))
  clear hb P0 HB0 HC
  have hP := P1
  obtain ⟨_, q0, q1, q2, q3, q4⟩ := hP
  obtain ⟨t1, ht1⟩ : ∃ t, t = X + 4 - Y := ⟨_, rfl⟩
  have et : (X : Int) - (Y : Int) + 4 = (t1 : Int) := by omega
  have etw : IntKind.i64.wrap ((X : Int) - (Y : Int) + 4) = (t1 : Int) := by rw [et, IntWalk.i64_in _ (by omega)]
  have etx : IntKind.i64.wrap ((X : Int) - (Y : Int)) = (X : Int) - (Y : Int) := IntWalk.i64_in _ (by omega)
  go_wp2_with (go_at_call 61; refine (l1In_c _ _ _ _).mono ?_; rintro e w' ⟨rfl, rfl⟩)
  refine (HBO.out w1 (HN.out w1 HB.out)).mono ?_
  rintro e w2 ⟨bx, by2, rfl, ho, hb⟩
  have P2 := P1.below hb (Nat.le_refl _)
  have HB2 : Hid (Below w.heap.size w w2) := Lib.hid (HB.out.trans (hb.mono HB.out.size))
  obtain ⟨g, rfl, hg1, hg2, _⟩ := ho.at_ (i := 0) (by rw [borderL_len]; omega)
  have HO := Lib.hid ho
  clear hb ho P1 HB q0 q1 q2 q3 q4
  obtain ⟨_, q0, q1, q2, q3, q4⟩ := P2
  obtain ⟨i0, hi0⟩ : ∃ t, t = X + Y := ⟨_, rfl⟩
  obtain ⟨j1, hj1⟩ : ∃ t, t = X + Y + 1 := ⟨_, rfl⟩
  obtain ⟨j2, hj2⟩ : ∃ t, t = X + Y + 2 := ⟨_, rfl⟩
  obtain ⟨i1, hi1⟩ : ∃ t, t = min (X + Y + 1) 7 := ⟨_, rfl⟩
  obtain ⟨i2, hi2⟩ : ∃ t, t = min (X + Y + 2) 7 := ⟨_, rfl⟩
  rw [← hi1, ← hi2, ← hi0] at HPV
  have c0 := HC1.out w2 HB2.out i0 (by omega)
  have B0 := HT1.out i0 (by omega)
  have c1 := HC1.out w2 HB2.out i1 (by omega)
  have B1 := HT1.out i1 (by omega)
  have c2 := HC1.out w2 HB2.out i2 (by omega)
  have B2 := HT1.out i2 (by omega)
  have w0s : IntKind.i64.wrap ((X : Int) + (Y : Int)) = (i0 : Int) := by rw [IntWalk.i64_in _ (by omega)]; omega
  have w1s : IntKind.i64.wrap ((i0 : Int) + 1) = (j1 : Int) := by rw [IntWalk.i64_in _ (by omega)]; omega
  have w2s : IntKind.i64.wrap ((i0 : Int) + 2) = (j2 : Int) := by rw [IntWalk.i64_in _ (by omega)]; omega
  have m1 : min (j1 : Int) 7 = (i1 : Int) := by omega
  have m2 : min (j2 : Int) 7 = (i2 : Int) := by omega
  have m1' : min 7 (j1 : Int) = (i1 : Int) := by omega
  have m2' : min 7 (j2 : Int) = (i2 : Int) := by omega
  have hmin := min_if
  have z0 : (i0 : Int) < 8 := by omega
  have z1 : (i1 : Int) < 8 := by omega
  have z2 : (i2 : Int) < 8 := by omega
  generalize l.getD i0 0 = x0 at *
  generalize l.getD i1 0 = x1 at *
  generalize l.getD i2 0 = x2 at *
  clear hi0 hj1 hj2 hi1 hi2
  go_wp2_with fail
  go_quiet ((go_at_call 60; exact quiet_eq (spec.l15Soft_c _ _ _ _ B0 B1 B2)))
  go_wp2
  go_ret
  exact ⟨ret_int HPV.out.symm, below_drewN' HB2.out _⟩
set_option maxHeartbeats 4000000 in
set_option maxRecDepth 100000 in
theorem spec.PredAt_4_5 (a : Option Addr) (c : Nat) (l : List Int) (b : Option Addr) (d : Nat) (m : List Int) (C : Int) (T L : Bool) (X Y : Nat) (w : World) (hN : NbAll w a l b m 4) (hok : nbB l m C 4 = true) (hcl : l.length ≤ c) (hX : X < 4) (hY : Y < 4) :
    Calls Try.prog 64 #[.int .i64 (5), nbv a l.length c b m.length d C T L, .int .i64 4, .int .i64 X, .int .i64 Y] w fun e w' => e = .returned (.int .i64 (predV l m C T L 4 5 X Y)) ∧ Below w.heap.size w w' := by
  have HPV : Hid (predV l m C T L 4 5 X Y = softF ((borderL l m C 4).getD (X + 4 - Y - 1) 0) ((borderL l m C 4).getD (X + 4 - Y) 0) ((borderL l m C 4).getD (X + 4 - Y + 1) 0)) := Lib.hid rfl
  have hCb := (nbB_true hok).2.2.2.2.2
  obtain ⟨hC0, hC1⟩ := hCb
  have HN : Hid (∀ w0, Below w.heap.size w w0 → NbAll w0 a l b m 4) := Lib.hid (fun w0 h => ⟨hN.hl, hN.hm, hN.hr.below h (Nat.le_refl _), hN.hs.below h (Nat.le_refl _), hN.tl, hN.tm⟩)
  obtain ⟨hl, hm, hr, hs, htl, htm⟩ := hN
  have hcall := fun (w0 : World) (h : NbAll w0 a l b m 4) => spec.NbOk_4 a c l b d m C T L w0 (by omega) h.hr (by omega) h.hs
  have hmean := fun (w0 : World) (h : NbAll w0 a l b m 4) => spec.Mean_4 a c l b d m C T L w0 h hok hcl
  have hbord := fun (w0 : World) (h : NbAll w0 a l b m 4) => spec.Border_4 a c l b d m C T L w0 h hok hcl
  have HBB : Hid (∀ i, i < 9 → 0 ≤ (borderL l m C 4).getD i 0 ∧ (borderL l m C 4).getD i 0 ≤ 255) := Lib.hid (borderL_bd ⟨hC0, hC1⟩ (fun i hi => htl i (by omega)) htm)
  obtain ⟨p1, o1, rfl, hb1, hc1⟩ := hr.inside (by omega)
  obtain ⟨p2, o2, rfl, hb2, hc2⟩ := hs.inside (by omega)
  have HC1 : Hid (∀ w0, Below w.heap.size w w0 → ∀ i, i < 8 → w0.cell? ⟨p1, o1 + i, none⟩ = some (.int .i64 (l.getD i 0))) := Lib.hid (fun w0 h i hi => (bcell h _ _ hb1).trans (hc1 i (by omega)))
  have HC2 : Hid (∀ w0, Below w.heap.size w w0 → ∀ i, i < 4 → w0.cell? ⟨p2, o2 + i, none⟩ = some (.int .i64 (m.getD i 0))) := Lib.hid (fun w0 h i hi => (bcell h _ _ hb2).trans (hc2 i (by omega)))
  simp only [hok] at hcall
  rw [hl, hm] at hcall hmean hbord ⊢
  rw [hl] at hcl
  have HC := Lib.hid hcall
  have HME := Lib.hid hmean
  have HBO := Lib.hid hbord
  have HT1 := Lib.hid htl
  have HT2 := Lib.hid htm
  clear hcall hmean hbord hr hs hc1 hc2 hl hm htl htm hok
  have hx : inR 0 3 (X : Int) = true := inR_mk (by omega)
  have hy : inR 0 3 (Y : Int) = true := inR_mk (by omega)
  go_enter Try.func64, Try.ntmps64
  go_wp2_with fail
  obtain ⟨W0, hW0⟩ : ∃ WW, WW = w.alloc (.cells #[.slice (some ⟨p1, o1, none⟩) 8 c, .slice (some ⟨p2, o2, none⟩) 4 d, .int .i64 C, .bool T, .bool L] 27) := ⟨_, rfl⟩
  rw [← hW0]
  have P0 : Box5 W0 w.heap.size (.slice (some ⟨p1, o1, none⟩) 8 c) (.slice (some ⟨p2, o2, none⟩) 4 d) (.int .i64 C) (.bool T) (.bool L) := by rw [hW0]; exact Box5.new w _ _ _ _ _ _
  have HB0 : Hid (Below w.heap.size w W0) := Lib.hid (by rw [hW0]; exact (Below.refl w.heap.size w).alloc (Nat.le_refl _) _)
  clear hW0
  refine (HC.out W0 (HN.out W0 HB0.out)).mono ?_
  rintro e w1 ⟨rfl, hb⟩
  have P1 := P0.below hb (Nat.le_refl _)
  have HB : Hid (Below w.heap.size w w1) := Lib.hid (HB0.out.trans (hb.mono HB0.out.size))
  clear hb P0 HB0 HC
  have hP := P1
  obtain ⟨_, q0, q1, q2, q3, q4⟩ := hP
  obtain ⟨t1, ht1⟩ : ∃ t, t = X + 4 - Y := ⟨_, rfl⟩
  have et : (X : Int) - (Y : Int) + 4 = (t1 : Int) := by omega
  have etw : IntKind.i64.wrap ((X : Int) - (Y : Int) + 4) = (t1 : Int) := by rw [et, IntWalk.i64_in _ (by omega)]
  have etx : IntKind.i64.wrap ((X : Int) - (Y : Int)) = (X : Int) - (Y : Int) := IntWalk.i64_in _ (by omega)
  obtain ⟨t0, ht0⟩ : ∃ t, t = X + 4 - Y - 1 := ⟨_, rfl⟩
  obtain ⟨t2, ht2⟩ : ∃ t, t = X + 4 - Y + 1 := ⟨_, rfl⟩
  have ew0 : IntKind.i64.wrap ((t1 : Int) - 1) = (t0 : Int) := by rw [IntWalk.i64_in _ (by omega)]; omega
  have ew2 : IntKind.i64.wrap ((t1 : Int) + 1) = (t2 : Int) := by rw [IntWalk.i64_in _ (by omega)]; omega
  have z0 : (t0 : Int) < 9 := by omega
  have z1 : (t1 : Int) < 9 := by omega
  have z2 : (t2 : Int) < 9 := by omega
  go_wp2_with (go_at_call 61; refine (l1In_c _ _ _ _).mono ?_; rintro e w' ⟨rfl, rfl⟩)
  refine (HBO.out w1 (HN.out w1 HB.out)).mono ?_
  rintro e w2 ⟨bx, by2, rfl, ho, hb⟩
  have P2 := P1.below hb (Nat.le_refl _)
  have HB2 : Hid (Below w.heap.size w w2) := Lib.hid (HB.out.trans (hb.mono HB.out.size))
  obtain ⟨g, rfl, hg1, hg2, _⟩ := ho.at_ (i := 0) (by rw [borderL_len]; omega)
  have HO := Lib.hid ho
  clear hb ho P1 HB q0 q1 q2 q3 q4
  obtain ⟨_, q0, q1, q2, q3, q4⟩ := P2
  rw [← ht1] at HPV
  have e0 : t1 - 1 = t0 := by omega
  have e2 : t1 + 1 = t2 := by omega
  rw [e0, e2] at HPV
  have c0 := HO.out.cellAt (i := t0) (by rw [borderL_len]; omega)
  have B0 := HBB.out t0 (by omega)
  have c1 := HO.out.cellAt (i := t1) (by rw [borderL_len]; omega)
  have B1 := HBB.out t1 (by omega)
  have c2 := HO.out.cellAt (i := t2) (by rw [borderL_len]; omega)
  have B2 := HBB.out t2 (by omega)
  generalize (borderL l m C 4).getD t0 0 = x0 at *
  generalize (borderL l m C 4).getD t1 0 = x1 at *
  generalize (borderL l m C 4).getD t2 0 = x2 at *
  clear e0 e2 ht0 ht1 ht2
  go_wp2_with fail
  go_quiet ((go_at_call 60; exact quiet_eq (spec.l15Soft_c _ _ _ _ B0 B1 B2)))
  go_wp2
  go_ret
  exact ⟨ret_int HPV.out.symm, below_drewN' HB2.out _⟩
set_option maxHeartbeats 4000000 in
set_option maxRecDepth 100000 in
theorem spec.PredAt_4_x (mode : Int) (h0 : mode ≠ 0) (h1 : mode ≠ 1) (h2 : mode ≠ 2) (h3 : mode ≠ 3) (h4 : mode ≠ 4) (h5 : mode ≠ 5) (a : Option Addr) (c : Nat) (l : List Int) (b : Option Addr) (d : Nat) (m : List Int) (C : Int) (T L : Bool) (X Y : Nat) (w : World) (hN : NbAll w a l b m 4) (hok : nbB l m C 4 = true) (hcl : l.length ≤ c) (hX : X < 4) (hY : Y < 4) :
    Calls Try.prog 64 #[.int .i64 (mode), nbv a l.length c b m.length d C T L, .int .i64 4, .int .i64 X, .int .i64 Y] w fun e w' => e = .returned (.int .i64 (predV l m C T L 4 mode X Y)) ∧ Below w.heap.size w w' := by
  have m0 : (mode == 0) = false := by simpa using h0
  have m1 : (mode == 1) = false := by simpa using h1
  have m2 : (mode == 2) = false := by simpa using h2
  have m3 : (mode == 3) = false := by simpa using h3
  have m4 : (mode == 4) = false := by simpa using h4
  have m5 : (mode == 5) = false := by simpa using h5
  have HPV : Hid (predV l m C T L 4 mode X Y = -1) := Lib.hid (by simp [predV, h0, h1, h2, h3, h4, h5])
  clear h0 h1 h2 h3 h4 h5
  have hCb := (nbB_true hok).2.2.2.2.2
  obtain ⟨hC0, hC1⟩ := hCb
  have HN : Hid (∀ w0, Below w.heap.size w w0 → NbAll w0 a l b m 4) := Lib.hid (fun w0 h => ⟨hN.hl, hN.hm, hN.hr.below h (Nat.le_refl _), hN.hs.below h (Nat.le_refl _), hN.tl, hN.tm⟩)
  obtain ⟨hl, hm, hr, hs, htl, htm⟩ := hN
  have hcall := fun (w0 : World) (h : NbAll w0 a l b m 4) => spec.NbOk_4 a c l b d m C T L w0 (by omega) h.hr (by omega) h.hs
  have hmean := fun (w0 : World) (h : NbAll w0 a l b m 4) => spec.Mean_4 a c l b d m C T L w0 h hok hcl
  have hbord := fun (w0 : World) (h : NbAll w0 a l b m 4) => spec.Border_4 a c l b d m C T L w0 h hok hcl
  obtain ⟨p1, o1, rfl, hb1, hc1⟩ := hr.inside (by omega)
  obtain ⟨p2, o2, rfl, hb2, hc2⟩ := hs.inside (by omega)
  have HC1 : Hid (∀ w0, Below w.heap.size w w0 → ∀ i, i < 8 → w0.cell? ⟨p1, o1 + i, none⟩ = some (.int .i64 (l.getD i 0))) := Lib.hid (fun w0 h i hi => (bcell h _ _ hb1).trans (hc1 i (by omega)))
  have HC2 : Hid (∀ w0, Below w.heap.size w w0 → ∀ i, i < 4 → w0.cell? ⟨p2, o2 + i, none⟩ = some (.int .i64 (m.getD i 0))) := Lib.hid (fun w0 h i hi => (bcell h _ _ hb2).trans (hc2 i (by omega)))
  simp only [hok] at hcall
  rw [hl, hm] at hcall hmean hbord ⊢
  rw [hl] at hcl
  have HC := Lib.hid hcall
  have HME := Lib.hid hmean
  have HBO := Lib.hid hbord
  have HT1 := Lib.hid htl
  have HT2 := Lib.hid htm
  clear hcall hmean hbord hr hs hc1 hc2 hl hm htl htm hok
  have hx : inR 0 3 (X : Int) = true := inR_mk (by omega)
  have hy : inR 0 3 (Y : Int) = true := inR_mk (by omega)
  go_enter Try.func64, Try.ntmps64
  go_wp2_with fail
  obtain ⟨W0, hW0⟩ : ∃ WW, WW = w.alloc (.cells #[.slice (some ⟨p1, o1, none⟩) 8 c, .slice (some ⟨p2, o2, none⟩) 4 d, .int .i64 C, .bool T, .bool L] 27) := ⟨_, rfl⟩
  rw [← hW0]
  have P0 : Box5 W0 w.heap.size (.slice (some ⟨p1, o1, none⟩) 8 c) (.slice (some ⟨p2, o2, none⟩) 4 d) (.int .i64 C) (.bool T) (.bool L) := by rw [hW0]; exact Box5.new w _ _ _ _ _ _
  have HB0 : Hid (Below w.heap.size w W0) := Lib.hid (by rw [hW0]; exact (Below.refl w.heap.size w).alloc (Nat.le_refl _) _)
  clear hW0
  refine (HC.out W0 (HN.out W0 HB0.out)).mono ?_
  rintro e w1 ⟨rfl, hb⟩
  have P1 := P0.below hb (Nat.le_refl _)
  have HB : Hid (Below w.heap.size w w1) := Lib.hid (HB0.out.trans (hb.mono HB0.out.size))
  clear hb P0 HB0 HC
  have hP := P1
  obtain ⟨_, q0, q1, q2, q3, q4⟩ := hP
  obtain ⟨t1, ht1⟩ : ∃ t, t = X + 4 - Y := ⟨_, rfl⟩
  have et : (X : Int) - (Y : Int) + 4 = (t1 : Int) := by omega
  have etw : IntKind.i64.wrap ((X : Int) - (Y : Int) + 4) = (t1 : Int) := by rw [et, IntWalk.i64_in _ (by omega)]
  have etx : IntKind.i64.wrap ((X : Int) - (Y : Int)) = (X : Int) - (Y : Int) := IntWalk.i64_in _ (by omega)
  go_wp2_with (go_at_call 61; refine (l1In_c _ _ _ _).mono ?_; rintro e w' ⟨rfl, rfl⟩)
  refine (HBO.out w1 (HN.out w1 HB.out)).mono ?_
  rintro e w2 ⟨bx, by2, rfl, ho, hb⟩
  have P2 := P1.below hb (Nat.le_refl _)
  have HB2 : Hid (Below w.heap.size w w2) := Lib.hid (HB.out.trans (hb.mono HB.out.size))
  obtain ⟨g, rfl, hg1, hg2, _⟩ := ho.at_ (i := 0) (by rw [borderL_len]; omega)
  have HO := Lib.hid ho
  clear hb ho P1 HB q0 q1 q2 q3 q4
  obtain ⟨_, q0, q1, q2, q3, q4⟩ := P2
  go_wp2
  go_ret
  exact ⟨ret_int HPV.out.symm, HB2.out⟩
set_option maxHeartbeats 4000000 in
set_option maxRecDepth 100000 in
theorem spec.PredAt_8_0 (a : Option Addr) (c : Nat) (l : List Int) (b : Option Addr) (d : Nat) (m : List Int) (C : Int) (T L : Bool) (X Y : Nat) (w : World) (hN : NbAll w a l b m 8) (hok : nbB l m C 8 = true) (hcl : l.length ≤ c) (hX : X < 8) (hY : Y < 8) :
    Calls Try.prog 64 #[.int .i64 (0), nbv a l.length c b m.length d C T L, .int .i64 8, .int .i64 X, .int .i64 Y] w fun e w' => e = .returned (.int .i64 (predV l m C T L 8 0 X Y)) ∧ Below w.heap.size w w' := by
  have HPV : Hid (predV l m C T L 8 0 X Y = meanV l m T L 8) := Lib.hid rfl
  have hCb := (nbB_true hok).2.2.2.2.2
  obtain ⟨hC0, hC1⟩ := hCb
  have HN : Hid (∀ w0, Below w.heap.size w w0 → NbAll w0 a l b m 8) := Lib.hid (fun w0 h => ⟨hN.hl, hN.hm, hN.hr.below h (Nat.le_refl _), hN.hs.below h (Nat.le_refl _), hN.tl, hN.tm⟩)
  obtain ⟨hl, hm, hr, hs, htl, htm⟩ := hN
  have hcall := fun (w0 : World) (h : NbAll w0 a l b m 8) => spec.NbOk_8 a c l b d m C T L w0 (by omega) h.hr (by omega) h.hs
  have hmean := fun (w0 : World) (h : NbAll w0 a l b m 8) => spec.Mean_8 a c l b d m C T L w0 h hok hcl
  have hbord := fun (w0 : World) (h : NbAll w0 a l b m 8) => spec.Border_8 a c l b d m C T L w0 h hok hcl
  obtain ⟨p1, o1, rfl, hb1, hc1⟩ := hr.inside (by omega)
  obtain ⟨p2, o2, rfl, hb2, hc2⟩ := hs.inside (by omega)
  have HC1 : Hid (∀ w0, Below w.heap.size w w0 → ∀ i, i < 16 → w0.cell? ⟨p1, o1 + i, none⟩ = some (.int .i64 (l.getD i 0))) := Lib.hid (fun w0 h i hi => (bcell h _ _ hb1).trans (hc1 i (by omega)))
  have HC2 : Hid (∀ w0, Below w.heap.size w w0 → ∀ i, i < 8 → w0.cell? ⟨p2, o2 + i, none⟩ = some (.int .i64 (m.getD i 0))) := Lib.hid (fun w0 h i hi => (bcell h _ _ hb2).trans (hc2 i (by omega)))
  simp only [hok] at hcall
  rw [hl, hm] at hcall hmean hbord ⊢
  rw [hl] at hcl
  have HC := Lib.hid hcall
  have HME := Lib.hid hmean
  have HBO := Lib.hid hbord
  have HT1 := Lib.hid htl
  have HT2 := Lib.hid htm
  clear hcall hmean hbord hr hs hc1 hc2 hl hm htl htm hok
  have hx : inR 0 7 (X : Int) = true := inR_mk (by omega)
  have hy : inR 0 7 (Y : Int) = true := inR_mk (by omega)
  go_enter Try.func64, Try.ntmps64
  go_wp2_with fail
  obtain ⟨W0, hW0⟩ : ∃ WW, WW = w.alloc (.cells #[.slice (some ⟨p1, o1, none⟩) 16 c, .slice (some ⟨p2, o2, none⟩) 8 d, .int .i64 C, .bool T, .bool L] 27) := ⟨_, rfl⟩
  rw [← hW0]
  have P0 : Box5 W0 w.heap.size (.slice (some ⟨p1, o1, none⟩) 16 c) (.slice (some ⟨p2, o2, none⟩) 8 d) (.int .i64 C) (.bool T) (.bool L) := by rw [hW0]; exact Box5.new w _ _ _ _ _ _
  have HB0 : Hid (Below w.heap.size w W0) := Lib.hid (by rw [hW0]; exact (Below.refl w.heap.size w).alloc (Nat.le_refl _) _)
  clear hW0
  refine (HC.out W0 (HN.out W0 HB0.out)).mono ?_
  rintro e w1 ⟨rfl, hb⟩
  have P1 := P0.below hb (Nat.le_refl _)
  have HB : Hid (Below w.heap.size w w1) := Lib.hid (HB0.out.trans (hb.mono HB0.out.size))
  clear hb P0 HB0 HC
  have hP := P1
  obtain ⟨_, q0, q1, q2, q3, q4⟩ := hP
  obtain ⟨t1, ht1⟩ : ∃ t, t = X + 8 - Y := ⟨_, rfl⟩
  have et : (X : Int) - (Y : Int) + 8 = (t1 : Int) := by omega
  have etw : IntKind.i64.wrap ((X : Int) - (Y : Int) + 8) = (t1 : Int) := by rw [et, IntWalk.i64_in _ (by omega)]
  have etx : IntKind.i64.wrap ((X : Int) - (Y : Int)) = (X : Int) - (Y : Int) := IntWalk.i64_in _ (by omega)
  go_wp2_with (go_at_call 61; refine (l1In_c _ _ _ _).mono ?_; rintro e w' ⟨rfl, rfl⟩)
  refine (HBO.out w1 (HN.out w1 HB.out)).mono ?_
  rintro e w2 ⟨bx, by2, rfl, ho, hb⟩
  have P2 := P1.below hb (Nat.le_refl _)
  have HB2 : Hid (Below w.heap.size w w2) := Lib.hid (HB.out.trans (hb.mono HB.out.size))
  obtain ⟨g, rfl, hg1, hg2, _⟩ := ho.at_ (i := 0) (by rw [borderL_len]; omega)
  have HO := Lib.hid ho
  clear hb ho P1 HB q0 q1 q2 q3 q4
  obtain ⟨_, q0, q1, q2, q3, q4⟩ := P2
  go_wp2_with (go_at_call 77; refine (HME.out w2 (HN.out w2 HB2.out)).mono ?_; rintro e w3 ⟨rfl, hb3⟩)
  go_ret
  exact ⟨ret_int HPV.out.symm, HB2.out.trans (hb3.mono HB2.out.size)⟩
set_option maxHeartbeats 4000000 in
set_option maxRecDepth 100000 in
theorem spec.PredAt_8_1 (a : Option Addr) (c : Nat) (l : List Int) (b : Option Addr) (d : Nat) (m : List Int) (C : Int) (T L : Bool) (X Y : Nat) (w : World) (hN : NbAll w a l b m 8) (hok : nbB l m C 8 = true) (hcl : l.length ≤ c) (hX : X < 8) (hY : Y < 8) :
    Calls Try.prog 64 #[.int .i64 (1), nbv a l.length c b m.length d C T L, .int .i64 8, .int .i64 X, .int .i64 Y] w fun e w' => e = .returned (.int .i64 (predV l m C T L 8 1 X Y)) ∧ Below w.heap.size w w' := by
  have HPV : Hid (predV l m C T L 8 1 X Y = l.getD X 0) := Lib.hid rfl
  have hCb := (nbB_true hok).2.2.2.2.2
  obtain ⟨hC0, hC1⟩ := hCb
  have HN : Hid (∀ w0, Below w.heap.size w w0 → NbAll w0 a l b m 8) := Lib.hid (fun w0 h => ⟨hN.hl, hN.hm, hN.hr.below h (Nat.le_refl _), hN.hs.below h (Nat.le_refl _), hN.tl, hN.tm⟩)
  obtain ⟨hl, hm, hr, hs, htl, htm⟩ := hN
  have hcall := fun (w0 : World) (h : NbAll w0 a l b m 8) => spec.NbOk_8 a c l b d m C T L w0 (by omega) h.hr (by omega) h.hs
  have hmean := fun (w0 : World) (h : NbAll w0 a l b m 8) => spec.Mean_8 a c l b d m C T L w0 h hok hcl
  have hbord := fun (w0 : World) (h : NbAll w0 a l b m 8) => spec.Border_8 a c l b d m C T L w0 h hok hcl
  obtain ⟨p1, o1, rfl, hb1, hc1⟩ := hr.inside (by omega)
  obtain ⟨p2, o2, rfl, hb2, hc2⟩ := hs.inside (by omega)
  have HC1 : Hid (∀ w0, Below w.heap.size w w0 → ∀ i, i < 16 → w0.cell? ⟨p1, o1 + i, none⟩ = some (.int .i64 (l.getD i 0))) := Lib.hid (fun w0 h i hi => (bcell h _ _ hb1).trans (hc1 i (by omega)))
  have HC2 : Hid (∀ w0, Below w.heap.size w w0 → ∀ i, i < 8 → w0.cell? ⟨p2, o2 + i, none⟩ = some (.int .i64 (m.getD i 0))) := Lib.hid (fun w0 h i hi => (bcell h _ _ hb2).trans (hc2 i (by omega)))
  simp only [hok] at hcall
  rw [hl, hm] at hcall hmean hbord ⊢
  rw [hl] at hcl
  have HC := Lib.hid hcall
  have HME := Lib.hid hmean
  have HBO := Lib.hid hbord
  have HT1 := Lib.hid htl
  have HT2 := Lib.hid htm
  clear hcall hmean hbord hr hs hc1 hc2 hl hm htl htm hok
  have hx : inR 0 7 (X : Int) = true := inR_mk (by omega)
  have hy : inR 0 7 (Y : Int) = true := inR_mk (by omega)
  go_enter Try.func64, Try.ntmps64
  go_wp2_with fail
  obtain ⟨W0, hW0⟩ : ∃ WW, WW = w.alloc (.cells #[.slice (some ⟨p1, o1, none⟩) 16 c, .slice (some ⟨p2, o2, none⟩) 8 d, .int .i64 C, .bool T, .bool L] 27) := ⟨_, rfl⟩
  rw [← hW0]
  have P0 : Box5 W0 w.heap.size (.slice (some ⟨p1, o1, none⟩) 16 c) (.slice (some ⟨p2, o2, none⟩) 8 d) (.int .i64 C) (.bool T) (.bool L) := by rw [hW0]; exact Box5.new w _ _ _ _ _ _
  have HB0 : Hid (Below w.heap.size w W0) := Lib.hid (by rw [hW0]; exact (Below.refl w.heap.size w).alloc (Nat.le_refl _) _)
  clear hW0
  refine (HC.out W0 (HN.out W0 HB0.out)).mono ?_
  rintro e w1 ⟨rfl, hb⟩
  have P1 := P0.below hb (Nat.le_refl _)
  have HB : Hid (Below w.heap.size w w1) := Lib.hid (HB0.out.trans (hb.mono HB0.out.size))
  clear hb P0 HB0 HC
  have hP := P1
  obtain ⟨_, q0, q1, q2, q3, q4⟩ := hP
  obtain ⟨t1, ht1⟩ : ∃ t, t = X + 8 - Y := ⟨_, rfl⟩
  have et : (X : Int) - (Y : Int) + 8 = (t1 : Int) := by omega
  have etw : IntKind.i64.wrap ((X : Int) - (Y : Int) + 8) = (t1 : Int) := by rw [et, IntWalk.i64_in _ (by omega)]
  have etx : IntKind.i64.wrap ((X : Int) - (Y : Int)) = (X : Int) - (Y : Int) := IntWalk.i64_in _ (by omega)
  go_wp2_with (go_at_call 61; refine (l1In_c _ _ _ _).mono ?_; rintro e w' ⟨rfl, rfl⟩)
  refine (HBO.out w1 (HN.out w1 HB.out)).mono ?_
  rintro e w2 ⟨bx, by2, rfl, ho, hb⟩
  have P2 := P1.below hb (Nat.le_refl _)
  have HB2 : Hid (Below w.heap.size w w2) := Lib.hid (HB.out.trans (hb.mono HB.out.size))
  obtain ⟨g, rfl, hg1, hg2, _⟩ := ho.at_ (i := 0) (by rw [borderL_len]; omega)
  have HO := Lib.hid ho
  clear hb ho P1 HB q0 q1 q2 q3 q4
  obtain ⟨_, q0, q1, q2, q3, q4⟩ := P2
  have hcell := HC1.out w2 HB2.out X (by omega)
  have hi : (X : Int) < 16 := by omega
  generalize l.getD X 0 = v at *
  go_wp2
  go_ret
  exact ⟨ret_int HPV.out.symm, HB2.out⟩
set_option maxHeartbeats 4000000 in
set_option maxRecDepth 100000 in
theorem spec.PredAt_8_2 (a : Option Addr) (c : Nat) (l : List Int) (b : Option Addr) (d : Nat) (m : List Int) (C : Int) (T L : Bool) (X Y : Nat) (w : World) (hN : NbAll w a l b m 8) (hok : nbB l m C 8 = true) (hcl : l.length ≤ c) (hX : X < 8) (hY : Y < 8) :
    Calls Try.prog 64 #[.int .i64 (2), nbv a l.length c b m.length d C T L, .int .i64 8, .int .i64 X, .int .i64 Y] w fun e w' => e = .returned (.int .i64 (predV l m C T L 8 2 X Y)) ∧ Below w.heap.size w w' := by
  have HPV : Hid (predV l m C T L 8 2 X Y = m.getD Y 0) := Lib.hid rfl
  have hCb := (nbB_true hok).2.2.2.2.2
  obtain ⟨hC0, hC1⟩ := hCb
  have HN : Hid (∀ w0, Below w.heap.size w w0 → NbAll w0 a l b m 8) := Lib.hid (fun w0 h => ⟨hN.hl, hN.hm, hN.hr.below h (Nat.le_refl _), hN.hs.below h (Nat.le_refl _), hN.tl, hN.tm⟩)
  obtain ⟨hl, hm, hr, hs, htl, htm⟩ := hN
  have hcall := fun (w0 : World) (h : NbAll w0 a l b m 8) => spec.NbOk_8 a c l b d m C T L w0 (by omega) h.hr (by omega) h.hs
  have hmean := fun (w0 : World) (h : NbAll w0 a l b m 8) => spec.Mean_8 a c l b d m C T L w0 h hok hcl
  have hbord := fun (w0 : World) (h : NbAll w0 a l b m 8) => spec.Border_8 a c l b d m C T L w0 h hok hcl
  obtain ⟨p1, o1, rfl, hb1, hc1⟩ := hr.inside (by omega)
  obtain ⟨p2, o2, rfl, hb2, hc2⟩ := hs.inside (by omega)
  have HC1 : Hid (∀ w0, Below w.heap.size w w0 → ∀ i, i < 16 → w0.cell? ⟨p1, o1 + i, none⟩ = some (.int .i64 (l.getD i 0))) := Lib.hid (fun w0 h i hi => (bcell h _ _ hb1).trans (hc1 i (by omega)))
  have HC2 : Hid (∀ w0, Below w.heap.size w w0 → ∀ i, i < 8 → w0.cell? ⟨p2, o2 + i, none⟩ = some (.int .i64 (m.getD i 0))) := Lib.hid (fun w0 h i hi => (bcell h _ _ hb2).trans (hc2 i (by omega)))
  simp only [hok] at hcall
  rw [hl, hm] at hcall hmean hbord ⊢
  rw [hl] at hcl
  have HC := Lib.hid hcall
  have HME := Lib.hid hmean
  have HBO := Lib.hid hbord
  have HT1 := Lib.hid htl
  have HT2 := Lib.hid htm
  clear hcall hmean hbord hr hs hc1 hc2 hl hm htl htm hok
  have hx : inR 0 7 (X : Int) = true := inR_mk (by omega)
  have hy : inR 0 7 (Y : Int) = true := inR_mk (by omega)
  go_enter Try.func64, Try.ntmps64
  go_wp2_with fail
  obtain ⟨W0, hW0⟩ : ∃ WW, WW = w.alloc (.cells #[.slice (some ⟨p1, o1, none⟩) 16 c, .slice (some ⟨p2, o2, none⟩) 8 d, .int .i64 C, .bool T, .bool L] 27) := ⟨_, rfl⟩
  rw [← hW0]
  have P0 : Box5 W0 w.heap.size (.slice (some ⟨p1, o1, none⟩) 16 c) (.slice (some ⟨p2, o2, none⟩) 8 d) (.int .i64 C) (.bool T) (.bool L) := by rw [hW0]; exact Box5.new w _ _ _ _ _ _
  have HB0 : Hid (Below w.heap.size w W0) := Lib.hid (by rw [hW0]; exact (Below.refl w.heap.size w).alloc (Nat.le_refl _) _)
  clear hW0
  refine (HC.out W0 (HN.out W0 HB0.out)).mono ?_
  rintro e w1 ⟨rfl, hb⟩
  have P1 := P0.below hb (Nat.le_refl _)
  have HB : Hid (Below w.heap.size w w1) := Lib.hid (HB0.out.trans (hb.mono HB0.out.size))
  clear hb P0 HB0 HC
  have hP := P1
  obtain ⟨_, q0, q1, q2, q3, q4⟩ := hP
  obtain ⟨t1, ht1⟩ : ∃ t, t = X + 8 - Y := ⟨_, rfl⟩
  have et : (X : Int) - (Y : Int) + 8 = (t1 : Int) := by omega
  have etw : IntKind.i64.wrap ((X : Int) - (Y : Int) + 8) = (t1 : Int) := by rw [et, IntWalk.i64_in _ (by omega)]
  have etx : IntKind.i64.wrap ((X : Int) - (Y : Int)) = (X : Int) - (Y : Int) := IntWalk.i64_in _ (by omega)
  go_wp2_with (go_at_call 61; refine (l1In_c _ _ _ _).mono ?_; rintro e w' ⟨rfl, rfl⟩)
  refine (HBO.out w1 (HN.out w1 HB.out)).mono ?_
  rintro e w2 ⟨bx, by2, rfl, ho, hb⟩
  have P2 := P1.below hb (Nat.le_refl _)
  have HB2 : Hid (Below w.heap.size w w2) := Lib.hid (HB.out.trans (hb.mono HB.out.size))
  obtain ⟨g, rfl, hg1, hg2, _⟩ := ho.at_ (i := 0) (by rw [borderL_len]; omega)
  have HO := Lib.hid ho
  clear hb ho P1 HB q0 q1 q2 q3 q4
  obtain ⟨_, q0, q1, q2, q3, q4⟩ := P2
  have hcell := HC2.out w2 HB2.out Y (by omega)
  have hi : (Y : Int) < 8 := by omega
  generalize m.getD Y 0 = v at *
  go_wp2
  go_ret
  exact ⟨ret_int HPV.out.symm, HB2.out⟩
set_option maxHeartbeats 4000000 in
set_option maxRecDepth 100000 in
theorem spec.PredAt_8_3 (a : Option Addr) (c : Nat) (l : List Int) (b : Option Addr) (d : Nat) (m : List Int) (C : Int) (T L : Bool) (X Y : Nat) (w : World) (hN : NbAll w a l b m 8) (hok : nbB l m C 8 = true) (hcl : l.length ≤ c) (hX : X < 8) (hY : Y < 8) :
    Calls Try.prog 64 #[.int .i64 (3), nbv a l.length c b m.length d C T L, .int .i64 8, .int .i64 X, .int .i64 Y] w fun e w' => e = .returned (.int .i64 (predV l m C T L 8 3 X Y)) ∧ Below w.heap.size w w' := by
  have HPV : Hid (predV l m C T L 8 3 X Y = clipF 0 255 (m.getD Y 0 + l.getD X 0 - C)) := Lib.hid rfl
  have hCb := (nbB_true hok).2.2.2.2.2
  obtain ⟨hC0, hC1⟩ := hCb
  have HN : Hid (∀ w0, Below w.heap.size w w0 → NbAll w0 a l b m 8) := Lib.hid (fun w0 h => ⟨hN.hl, hN.hm, hN.hr.below h (Nat.le_refl _), hN.hs.below h (Nat.le_refl _), hN.tl, hN.tm⟩)
  obtain ⟨hl, hm, hr, hs, htl, htm⟩ := hN
  have hcall := fun (w0 : World) (h : NbAll w0 a l b m 8) => spec.NbOk_8 a c l b d m C T L w0 (by omega) h.hr (by omega) h.hs
  have hmean := fun (w0 : World) (h : NbAll w0 a l b m 8) => spec.Mean_8 a c l b d m C T L w0 h hok hcl
  have hbord := fun (w0 : World) (h : NbAll w0 a l b m 8) => spec.Border_8 a c l b d m C T L w0 h hok hcl
  obtain ⟨p1, o1, rfl, hb1, hc1⟩ := hr.inside (by omega)
  obtain ⟨p2, o2, rfl, hb2, hc2⟩ := hs.inside (by omega)
  have HC1 : Hid (∀ w0, Below w.heap.size w w0 → ∀ i, i < 16 → w0.cell? ⟨p1, o1 + i, none⟩ = some (.int .i64 (l.getD i 0))) := Lib.hid (fun w0 h i hi => (bcell h _ _ hb1).trans (hc1 i (by omega)))
  have HC2 : Hid (∀ w0, Below w.heap.size w w0 → ∀ i, i < 8 → w0.cell? ⟨p2, o2 + i, none⟩ = some (.int .i64 (m.getD i 0))) := Lib.hid (fun w0 h i hi => (bcell h _ _ hb2).trans (hc2 i (by omega)))
  simp only [hok] at hcall
  rw [hl, hm] at hcall hmean hbord ⊢
  rw [hl] at hcl
  have HC := Lib.hid hcall
  have HME := Lib.hid hmean
  have HBO := Lib.hid hbord
  have HT1 := Lib.hid htl
  have HT2 := Lib.hid htm
  clear hcall hmean hbord hr hs hc1 hc2 hl hm htl htm hok
  have hx : inR 0 7 (X : Int) = true := inR_mk (by omega)
  have hy : inR 0 7 (Y : Int) = true := inR_mk (by omega)
  go_enter Try.func64, Try.ntmps64
  go_wp2_with fail
  obtain ⟨W0, hW0⟩ : ∃ WW, WW = w.alloc (.cells #[.slice (some ⟨p1, o1, none⟩) 16 c, .slice (some ⟨p2, o2, none⟩) 8 d, .int .i64 C, .bool T, .bool L] 27) := ⟨_, rfl⟩
  rw [← hW0]
  have P0 : Box5 W0 w.heap.size (.slice (some ⟨p1, o1, none⟩) 16 c) (.slice (some ⟨p2, o2, none⟩) 8 d) (.int .i64 C) (.bool T) (.bool L) := by rw [hW0]; exact Box5.new w _ _ _ _ _ _
  have HB0 : Hid (Below w.heap.size w W0) := Lib.hid (by rw [hW0]; exact (Below.refl w.heap.size w).alloc (Nat.le_refl _) _)
  clear hW0
  refine (HC.out W0 (HN.out W0 HB0.out)).mono ?_
  rintro e w1 ⟨rfl, hb⟩
  have P1 := P0.below hb (Nat.le_refl _)
  have HB : Hid (Below w.heap.size w w1) := Lib.hid (HB0.out.trans (hb.mono HB0.out.size))
  clear hb P0 HB0 HC
  have hP := P1
  obtain ⟨_, q0, q1, q2, q3, q4⟩ := hP
  obtain ⟨t1, ht1⟩ : ∃ t, t = X + 8 - Y := ⟨_, rfl⟩
  have et : (X : Int) - (Y : Int) + 8 = (t1 : Int) := by omega
  have etw : IntKind.i64.wrap ((X : Int) - (Y : Int) + 8) = (t1 : Int) := by rw [et, IntWalk.i64_in _ (by omega)]
  have etx : IntKind.i64.wrap ((X : Int) - (Y : Int)) = (X : Int) - (Y : Int) := IntWalk.i64_in _ (by omega)
  go_wp2_with (go_at_call 61; refine (l1In_c _ _ _ _).mono ?_; rintro e w' ⟨rfl, rfl⟩)
  refine (HBO.out w1 (HN.out w1 HB.out)).mono ?_
  rintro e w2 ⟨bx, by2, rfl, ho, hb⟩
  have P2 := P1.below hb (Nat.le_refl _)
  have HB2 : Hid (Below w.heap.size w w2) := Lib.hid (HB.out.trans (hb.mono HB.out.size))
  obtain ⟨g, rfl, hg1, hg2, _⟩ := ho.at_ (i := 0) (by rw [borderL_len]; omega)
  have HO := Lib.hid ho
  clear hb ho P1 HB q0 q1 q2 q3 q4
  obtain ⟨_, q0, q1, q2, q3, q4⟩ := P2
  have cl := HC1.out w2 HB2.out X (by omega)
  have cm := HC2.out w2 HB2.out Y (by omega)
  have hi1 : (X : Int) < 16 := by omega
  have hi2 : (Y : Int) < 8 := by omega
  obtain ⟨a0, a1⟩ := HT1.out X (by omega)
  obtain ⟨a2, a3⟩ := HT2.out Y (by omega)
  generalize l.getD X 0 = u at *
  generalize m.getD Y 0 = v at *
  have s1 : IntKind.i64.wrap (v + u) = v + u := IntWalk.i64_in _ (by omega)
  have s2 : IntKind.i64.wrap (v + u - C) = v + u - C := IntWalk.i64_in _ (by omega)
  go_wp2_with fail
  go_quiet ((go_at_call 70; exact quiet_eq (spec.l15Clip_c _ _)))
  go_wp2
  go_ret
  exact ⟨ret_int HPV.out.symm, below_drewN' HB2.out _⟩
set_option maxHeartbeats 4000000 in
set_option maxRecDepth 100000 in
theorem spec.PredAt_8_4 (a : Option Addr) (c : Nat) (l : List Int) (b : Option Addr) (d : Nat) (m : List Int) (C : Int) (T L : Bool) (X Y : Nat) (w : World) (hN : NbAll w a l b m 8) (hok : nbB l m C 8 = true) (hcl : l.length ≤ c) (hX : X < 8) (hY : Y < 8) :
    Calls Try.prog 64 #[.int .i64 (4), nbv a l.length c b m.length d C T L, .int .i64 8, .int .i64 X, .int .i64 Y] w fun e w' => e = .returned (.int .i64 (predV l m C T L 8 4 X Y)) ∧ Below w.heap.size w w' := by
  have HPV : Hid (predV l m C T L 8 4 X Y = softF (l.getD (X + Y) 0) (l.getD (min (X + Y + 1) 15) 0) (l.getD (min (X + Y + 2) 15) 0)) := Lib.hid rfl
  have hCb := (nbB_true hok).2.2.2.2.2
  obtain ⟨hC0, hC1⟩ := hCb
  have HN : Hid (∀ w0, Below w.heap.size w w0 → NbAll w0 a l b m 8) := Lib.hid (fun w0 h => ⟨hN.hl, hN.hm, hN.hr.below h (Nat.le_refl _), hN.hs.below h (Nat.le_refl _), hN.tl, hN.tm⟩)
  obtain ⟨hl, hm, hr, hs, htl, htm⟩ := hN
  have hcall := fun (w0 : World) (h : NbAll w0 a l b m 8) => spec.NbOk_8 a c l b d m C T L w0 (by omega) h.hr (by omega) h.hs
  have hmean := fun (w0 : World) (h : NbAll w0 a l b m 8) => spec.Mean_8 a c l b d m C T L w0 h hok hcl
  have hbord := fun (w0 : World) (h : NbAll w0 a l b m 8) => spec.Border_8 a c l b d m C T L w0 h hok hcl
  obtain ⟨p1, o1, rfl, hb1, hc1⟩ := hr.inside (by omega)
  obtain ⟨p2, o2, rfl, hb2, hc2⟩ := hs.inside (by omega)
  have HC1 : Hid (∀ w0, Below w.heap.size w w0 → ∀ i, i < 16 → w0.cell? ⟨p1, o1 + i, none⟩ = some (.int .i64 (l.getD i 0))) := Lib.hid (fun w0 h i hi => (bcell h _ _ hb1).trans (hc1 i (by omega)))
  have HC2 : Hid (∀ w0, Below w.heap.size w w0 → ∀ i, i < 8 → w0.cell? ⟨p2, o2 + i, none⟩ = some (.int .i64 (m.getD i 0))) := Lib.hid (fun w0 h i hi => (bcell h _ _ hb2).trans (hc2 i (by omega)))
  simp only [hok] at hcall
  rw [hl, hm] at hcall hmean hbord ⊢
  rw [hl] at hcl
  have HC := Lib.hid hcall
  have HME := Lib.hid hmean
  have HBO := Lib.hid hbord
  have HT1 := Lib.hid htl
  have HT2 := Lib.hid htm
  clear hcall hmean hbord hr hs hc1 hc2 hl hm htl htm hok
  have hx : inR 0 7 (X : Int) = true := inR_mk (by omega)
  have hy : inR 0 7 (Y : Int) = true := inR_mk (by omega)
  go_enter Try.func64, Try.ntmps64
  go_wp2_with fail
  obtain ⟨W0, hW0⟩ : ∃ WW, WW = w.alloc (.cells #[.slice (some ⟨p1, o1, none⟩) 16 c, .slice (some ⟨p2, o2, none⟩) 8 d, .int .i64 C, .bool T, .bool L] 27) := ⟨_, rfl⟩
  rw [← hW0]
  have P0 : Box5 W0 w.heap.size (.slice (some ⟨p1, o1, none⟩) 16 c) (.slice (some ⟨p2, o2, none⟩) 8 d) (.int .i64 C) (.bool T) (.bool L) := by rw [hW0]; exact Box5.new w _ _ _ _ _ _
  have HB0 : Hid (Below w.heap.size w W0) := Lib.hid (by rw [hW0]; exact (Below.refl w.heap.size w).alloc (Nat.le_refl _) _)
  clear hW0
  refine (HC.out W0 (HN.out W0 HB0.out)).mono ?_
  rintro e w1 ⟨rfl, hb⟩
  have P1 := P0.below hb (Nat.le_refl _)
  have HB : Hid (Below w.heap.size w w1) := Lib.hid (HB0.out.trans (hb.mono HB0.out.size))
  clear hb P0 HB0 HC
  have hP := P1
  obtain ⟨_, q0, q1, q2, q3, q4⟩ := hP
  obtain ⟨t1, ht1⟩ : ∃ t, t = X + 8 - Y := ⟨_, rfl⟩
  have et : (X : Int) - (Y : Int) + 8 = (t1 : Int) := by omega
  have etw : IntKind.i64.wrap ((X : Int) - (Y : Int) + 8) = (t1 : Int) := by rw [et, IntWalk.i64_in _ (by omega)]
  have etx : IntKind.i64.wrap ((X : Int) - (Y : Int)) = (X : Int) - (Y : Int) := IntWalk.i64_in _ (by omega)
  go_wp2_with (go_at_call 61; refine (l1In_c _ _ _ _).mono ?_; rintro e w' ⟨rfl, rfl⟩)
  refine (HBO.out w1 (HN.out w1 HB.out)).mono ?_
  rintro e w2 ⟨bx, by2, rfl, ho, hb⟩
  have P2 := P1.below hb (Nat.le_refl _)
  have HB2 : Hid (Below w.heap.size w w2) := Lib.hid (HB.out.trans (hb.mono HB.out.size))
  obtain ⟨g, rfl, hg1, hg2, _⟩ := ho.at_ (i := 0) (by rw [borderL_len]; omega)
  have HO := Lib.hid ho
  clear hb ho P1 HB q0 q1 q2 q3 q4
  obtain ⟨_, q0, q1, q2, q3, q4⟩ := P2
  obtain ⟨i0, hi0⟩ : ∃ t, t = X + Y := ⟨_, rfl⟩
  obtain ⟨j1, hj1⟩ : ∃ t, t = X + Y + 1 := ⟨_, rfl⟩
  obtain ⟨j2, hj2⟩ : ∃ t, t = X + Y + 2 := ⟨_, rfl⟩
  obtain ⟨i1, hi1⟩ : ∃ t, t = min (X + Y + 1) 15 := ⟨_, rfl⟩
  obtain ⟨i2, hi2⟩ : ∃ t, t = min (X + Y + 2) 15 := ⟨_, rfl⟩
  rw [← hi1, ← hi2, ← hi0] at HPV
  have c0 := HC1.out w2 HB2.out i0 (by omega)
  have B0 := HT1.out i0 (by omega)
  have c1 := HC1.out w2 HB2.out i1 (by omega)
  have B1 := HT1.out i1 (by omega)
  have c2 := HC1.out w2 HB2.out i2 (by omega)
  have B2 := HT1.out i2 (by omega)
  have w0s : IntKind.i64.wrap ((X : Int) + (Y : Int)) = (i0 : Int) := by rw [IntWalk.i64_in _ (by omega)]; omega
  have w1s : IntKind.i64.wrap ((i0 : Int) + 1) = (j1 : Int) := by rw [IntWalk.i64_in _ (by omega)]; omega
  have w2s : IntKind.i64.wrap ((i0 : Int) + 2) = (j2 : Int) := by rw [IntWalk.i64_in _ (by omega)]; omega
  have m1 : min (j1 : Int) 15 = (i1 : Int) := by omega
  have m2 : min (j2 : Int) 15 = (i2 : Int) := by omega
  have m1' : min 15 (j1 : Int) = (i1 : Int) := by omega
  have m2' : min 15 (j2 : Int) = (i2 : Int) := by omega
  have hmin := min_if
  have z0 : (i0 : Int) < 16 := by omega
  have z1 : (i1 : Int) < 16 := by omega
  have z2 : (i2 : Int) < 16 := by omega
  generalize l.getD i0 0 = x0 at *
  generalize l.getD i1 0 = x1 at *
  generalize l.getD i2 0 = x2 at *
  clear hi0 hj1 hj2 hi1 hi2
  go_wp2_with fail
  go_quiet ((go_at_call 60; exact quiet_eq (spec.l15Soft_c _ _ _ _ B0 B1 B2)))
  go_wp2
  go_ret
  exact ⟨ret_int HPV.out.symm, below_drewN' HB2.out _⟩
set_option maxHeartbeats 4000000 in
set_option maxRecDepth 100000 in
theorem spec.PredAt_8_5 (a : Option Addr) (c : Nat) (l : List Int) (b : Option Addr) (d : Nat) (m : List Int) (C : Int) (T L : Bool) (X Y : Nat) (w : World) (hN : NbAll w a l b m 8) (hok : nbB l m C 8 = true) (hcl : l.length ≤ c) (hX : X < 8) (hY : Y < 8) :
    Calls Try.prog 64 #[.int .i64 (5), nbv a l.length c b m.length d C T L, .int .i64 8, .int .i64 X, .int .i64 Y] w fun e w' => e = .returned (.int .i64 (predV l m C T L 8 5 X Y)) ∧ Below w.heap.size w w' := by
  have HPV : Hid (predV l m C T L 8 5 X Y = softF ((borderL l m C 8).getD (X + 8 - Y - 1) 0) ((borderL l m C 8).getD (X + 8 - Y) 0) ((borderL l m C 8).getD (X + 8 - Y + 1) 0)) := Lib.hid rfl
  have hCb := (nbB_true hok).2.2.2.2.2
  obtain ⟨hC0, hC1⟩ := hCb
  have HN : Hid (∀ w0, Below w.heap.size w w0 → NbAll w0 a l b m 8) := Lib.hid (fun w0 h => ⟨hN.hl, hN.hm, hN.hr.below h (Nat.le_refl _), hN.hs.below h (Nat.le_refl _), hN.tl, hN.tm⟩)
  obtain ⟨hl, hm, hr, hs, htl, htm⟩ := hN
  have hcall := fun (w0 : World) (h : NbAll w0 a l b m 8) => spec.NbOk_8 a c l b d m C T L w0 (by omega) h.hr (by omega) h.hs
  have hmean := fun (w0 : World) (h : NbAll w0 a l b m 8) => spec.Mean_8 a c l b d m C T L w0 h hok hcl
  have hbord := fun (w0 : World) (h : NbAll w0 a l b m 8) => spec.Border_8 a c l b d m C T L w0 h hok hcl
  have HBB : Hid (∀ i, i < 17 → 0 ≤ (borderL l m C 8).getD i 0 ∧ (borderL l m C 8).getD i 0 ≤ 255) := Lib.hid (borderL_bd ⟨hC0, hC1⟩ (fun i hi => htl i (by omega)) htm)
  obtain ⟨p1, o1, rfl, hb1, hc1⟩ := hr.inside (by omega)
  obtain ⟨p2, o2, rfl, hb2, hc2⟩ := hs.inside (by omega)
  have HC1 : Hid (∀ w0, Below w.heap.size w w0 → ∀ i, i < 16 → w0.cell? ⟨p1, o1 + i, none⟩ = some (.int .i64 (l.getD i 0))) := Lib.hid (fun w0 h i hi => (bcell h _ _ hb1).trans (hc1 i (by omega)))
  have HC2 : Hid (∀ w0, Below w.heap.size w w0 → ∀ i, i < 8 → w0.cell? ⟨p2, o2 + i, none⟩ = some (.int .i64 (m.getD i 0))) := Lib.hid (fun w0 h i hi => (bcell h _ _ hb2).trans (hc2 i (by omega)))
  simp only [hok] at hcall
  rw [hl, hm] at hcall hmean hbord ⊢
  rw [hl] at hcl
  have HC := Lib.hid hcall
  have HME := Lib.hid hmean
  have HBO := Lib.hid hbord
  have HT1 := Lib.hid htl
  have HT2 := Lib.hid htm
  clear hcall hmean hbord hr hs hc1 hc2 hl hm htl htm hok
  have hx : inR 0 7 (X : Int) = true := inR_mk (by omega)
  have hy : inR 0 7 (Y : Int) = true := inR_mk (by omega)
  go_enter Try.func64, Try.ntmps64
  go_wp2_with fail
  obtain ⟨W0, hW0⟩ : ∃ WW, WW = w.alloc (.cells #[.slice (some ⟨p1, o1, none⟩) 16 c, .slice (some ⟨p2, o2, none⟩) 8 d, .int .i64 C, .bool T, .bool L] 27) := ⟨_, rfl⟩
  rw [← hW0]
  have P0 : Box5 W0 w.heap.size (.slice (some ⟨p1, o1, none⟩) 16 c) (.slice (some ⟨p2, o2, none⟩) 8 d) (.int .i64 C) (.bool T) (.bool L) := by rw [hW0]; exact Box5.new w _ _ _ _ _ _
  have HB0 : Hid (Below w.heap.size w W0) := Lib.hid (by rw [hW0]; exact (Below.refl w.heap.size w).alloc (Nat.le_refl _) _)
  clear hW0
  refine (HC.out W0 (HN.out W0 HB0.out)).mono ?_
  rintro e w1 ⟨rfl, hb⟩
  have P1 := P0.below hb (Nat.le_refl _)
  have HB : Hid (Below w.heap.size w w1) := Lib.hid (HB0.out.trans (hb.mono HB0.out.size))
  clear hb P0 HB0 HC
  have hP := P1
  obtain ⟨_, q0, q1, q2, q3, q4⟩ := hP
  obtain ⟨t1, ht1⟩ : ∃ t, t = X + 8 - Y := ⟨_, rfl⟩
  have et : (X : Int) - (Y : Int) + 8 = (t1 : Int) := by omega
  have etw : IntKind.i64.wrap ((X : Int) - (Y : Int) + 8) = (t1 : Int) := by rw [et, IntWalk.i64_in _ (by omega)]
  have etx : IntKind.i64.wrap ((X : Int) - (Y : Int)) = (X : Int) - (Y : Int) := IntWalk.i64_in _ (by omega)
  obtain ⟨t0, ht0⟩ : ∃ t, t = X + 8 - Y - 1 := ⟨_, rfl⟩
  obtain ⟨t2, ht2⟩ : ∃ t, t = X + 8 - Y + 1 := ⟨_, rfl⟩
  have ew0 : IntKind.i64.wrap ((t1 : Int) - 1) = (t0 : Int) := by rw [IntWalk.i64_in _ (by omega)]; omega
  have ew2 : IntKind.i64.wrap ((t1 : Int) + 1) = (t2 : Int) := by rw [IntWalk.i64_in _ (by omega)]; omega
  have z0 : (t0 : Int) < 17 := by omega
  have z1 : (t1 : Int) < 17 := by omega
  have z2 : (t2 : Int) < 17 := by omega
  go_wp2_with (go_at_call 61; refine (l1In_c _ _ _ _).mono ?_; rintro e w' ⟨rfl, rfl⟩)
  refine (HBO.out w1 (HN.out w1 HB.out)).mono ?_
  rintro e w2 ⟨bx, by2, rfl, ho, hb⟩
  have P2 := P1.below hb (Nat.le_refl _)
  have HB2 : Hid (Below w.heap.size w w2) := Lib.hid (HB.out.trans (hb.mono HB.out.size))
  obtain ⟨g, rfl, hg1, hg2, _⟩ := ho.at_ (i := 0) (by rw [borderL_len]; omega)
  have HO := Lib.hid ho
  clear hb ho P1 HB q0 q1 q2 q3 q4
  obtain ⟨_, q0, q1, q2, q3, q4⟩ := P2
  rw [← ht1] at HPV
  have e0 : t1 - 1 = t0 := by omega
  have e2 : t1 + 1 = t2 := by omega
  rw [e0, e2] at HPV
  have c0 := HO.out.cellAt (i := t0) (by rw [borderL_len]; omega)
  have B0 := HBB.out t0 (by omega)
  have c1 := HO.out.cellAt (i := t1) (by rw [borderL_len]; omega)
  have B1 := HBB.out t1 (by omega)
  have c2 := HO.out.cellAt (i := t2) (by rw [borderL_len]; omega)
  have B2 := HBB.out t2 (by omega)
  generalize (borderL l m C 8).getD t0 0 = x0 at *
  generalize (borderL l m C 8).getD t1 0 = x1 at *
  generalize (borderL l m C 8).getD t2 0 = x2 at *
  clear e0 e2 ht0 ht1 ht2
  go_wp2_with fail
  go_quiet ((go_at_call 60; exact quiet_eq (spec.l15Soft_c _ _ _ _ B0 B1 B2)))
  go_wp2
  go_ret
  exact ⟨ret_int HPV.out.symm, below_drewN' HB2.out _⟩
set_option maxHeartbeats 4000000 in
set_option maxRecDepth 100000 in
theorem spec.PredAt_8_x (mode : Int) (h0 : mode ≠ 0) (h1 : mode ≠ 1) (h2 : mode ≠ 2) (h3 : mode ≠ 3) (h4 : mode ≠ 4) (h5 : mode ≠ 5) (a : Option Addr) (c : Nat) (l : List Int) (b : Option Addr) (d : Nat) (m : List Int) (C : Int) (T L : Bool) (X Y : Nat) (w : World) (hN : NbAll w a l b m 8) (hok : nbB l m C 8 = true) (hcl : l.length ≤ c) (hX : X < 8) (hY : Y < 8) :
    Calls Try.prog 64 #[.int .i64 (mode), nbv a l.length c b m.length d C T L, .int .i64 8, .int .i64 X, .int .i64 Y] w fun e w' => e = .returned (.int .i64 (predV l m C T L 8 mode X Y)) ∧ Below w.heap.size w w' := by
  have m0 : (mode == 0) = false := by simpa using h0
  have m1 : (mode == 1) = false := by simpa using h1
  have m2 : (mode == 2) = false := by simpa using h2
  have m3 : (mode == 3) = false := by simpa using h3
  have m4 : (mode == 4) = false := by simpa using h4
  have m5 : (mode == 5) = false := by simpa using h5
  have HPV : Hid (predV l m C T L 8 mode X Y = -1) := Lib.hid (by simp [predV, h0, h1, h2, h3, h4, h5])
  clear h0 h1 h2 h3 h4 h5
  have hCb := (nbB_true hok).2.2.2.2.2
  obtain ⟨hC0, hC1⟩ := hCb
  have HN : Hid (∀ w0, Below w.heap.size w w0 → NbAll w0 a l b m 8) := Lib.hid (fun w0 h => ⟨hN.hl, hN.hm, hN.hr.below h (Nat.le_refl _), hN.hs.below h (Nat.le_refl _), hN.tl, hN.tm⟩)
  obtain ⟨hl, hm, hr, hs, htl, htm⟩ := hN
  have hcall := fun (w0 : World) (h : NbAll w0 a l b m 8) => spec.NbOk_8 a c l b d m C T L w0 (by omega) h.hr (by omega) h.hs
  have hmean := fun (w0 : World) (h : NbAll w0 a l b m 8) => spec.Mean_8 a c l b d m C T L w0 h hok hcl
  have hbord := fun (w0 : World) (h : NbAll w0 a l b m 8) => spec.Border_8 a c l b d m C T L w0 h hok hcl
  obtain ⟨p1, o1, rfl, hb1, hc1⟩ := hr.inside (by omega)
  obtain ⟨p2, o2, rfl, hb2, hc2⟩ := hs.inside (by omega)
  have HC1 : Hid (∀ w0, Below w.heap.size w w0 → ∀ i, i < 16 → w0.cell? ⟨p1, o1 + i, none⟩ = some (.int .i64 (l.getD i 0))) := Lib.hid (fun w0 h i hi => (bcell h _ _ hb1).trans (hc1 i (by omega)))
  have HC2 : Hid (∀ w0, Below w.heap.size w w0 → ∀ i, i < 8 → w0.cell? ⟨p2, o2 + i, none⟩ = some (.int .i64 (m.getD i 0))) := Lib.hid (fun w0 h i hi => (bcell h _ _ hb2).trans (hc2 i (by omega)))
  simp only [hok] at hcall
  rw [hl, hm] at hcall hmean hbord ⊢
  rw [hl] at hcl
  have HC := Lib.hid hcall
  have HME := Lib.hid hmean
  have HBO := Lib.hid hbord
  have HT1 := Lib.hid htl
  have HT2 := Lib.hid htm
  clear hcall hmean hbord hr hs hc1 hc2 hl hm htl htm hok
  have hx : inR 0 7 (X : Int) = true := inR_mk (by omega)
  have hy : inR 0 7 (Y : Int) = true := inR_mk (by omega)
  go_enter Try.func64, Try.ntmps64
  go_wp2_with fail
  obtain ⟨W0, hW0⟩ : ∃ WW, WW = w.alloc (.cells #[.slice (some ⟨p1, o1, none⟩) 16 c, .slice (some ⟨p2, o2, none⟩) 8 d, .int .i64 C, .bool T, .bool L] 27) := ⟨_, rfl⟩
  rw [← hW0]
  have P0 : Box5 W0 w.heap.size (.slice (some ⟨p1, o1, none⟩) 16 c) (.slice (some ⟨p2, o2, none⟩) 8 d) (.int .i64 C) (.bool T) (.bool L) := by rw [hW0]; exact Box5.new w _ _ _ _ _ _
  have HB0 : Hid (Below w.heap.size w W0) := Lib.hid (by rw [hW0]; exact (Below.refl w.heap.size w).alloc (Nat.le_refl _) _)
  clear hW0
  refine (HC.out W0 (HN.out W0 HB0.out)).mono ?_
  rintro e w1 ⟨rfl, hb⟩
  have P1 := P0.below hb (Nat.le_refl _)
  have HB : Hid (Below w.heap.size w w1) := Lib.hid (HB0.out.trans (hb.mono HB0.out.size))
  clear hb P0 HB0 HC
  have hP := P1
  obtain ⟨_, q0, q1, q2, q3, q4⟩ := hP
  obtain ⟨t1, ht1⟩ : ∃ t, t = X + 8 - Y := ⟨_, rfl⟩
  have et : (X : Int) - (Y : Int) + 8 = (t1 : Int) := by omega
  have etw : IntKind.i64.wrap ((X : Int) - (Y : Int) + 8) = (t1 : Int) := by rw [et, IntWalk.i64_in _ (by omega)]
  have etx : IntKind.i64.wrap ((X : Int) - (Y : Int)) = (X : Int) - (Y : Int) := IntWalk.i64_in _ (by omega)
  go_wp2_with (go_at_call 61; refine (l1In_c _ _ _ _).mono ?_; rintro e w' ⟨rfl, rfl⟩)
  refine (HBO.out w1 (HN.out w1 HB.out)).mono ?_
  rintro e w2 ⟨bx, by2, rfl, ho, hb⟩
  have P2 := P1.below hb (Nat.le_refl _)
  have HB2 : Hid (Below w.heap.size w w2) := Lib.hid (HB.out.trans (hb.mono HB.out.size))
  obtain ⟨g, rfl, hg1, hg2, _⟩ := ho.at_ (i := 0) (by rw [borderL_len]; omega)
  have HO := Lib.hid ho
  clear hb ho P1 HB q0 q1 q2 q3 q4
  obtain ⟨_, q0, q1, q2, q3, q4⟩ := P2
  go_wp2
  go_ret
  exact ⟨ret_int HPV.out.symm, HB2.out⟩


set_option maxHeartbeats 1000000 in
theorem impl.PredAt_no (mode : Int) (a : Option Addr) (c : Nat) (l : List Int) (b : Option Addr) (d : Nat) (m : List Int) (C : Int) (T L : Bool) (n x y : Int) (w : World) (hl : l.length ≤ 1099511627776) (hr : Row w a l) (hw : ∀ x ∈ l, -9223372036854775808 ≤ x ∧ x ≤ 9223372036854775807) (hm : m.length ≤ 1099511627776) (hs : Row w b m) (hu : ∀ x ∈ m, -9223372036854775808 ≤ x ∧ x ≤ 9223372036854775807) (hC : -9223372036854775808 ≤ C ∧ C ≤ 9223372036854775807) (h : predB l m C n x y = false) :
    Calls Try.prog 27 #[.int .i64 mode, nbv a l.length c b m.length d C T L, .int .i64 n, .int .i64 x, .int .i64 y] w fun e w' => e = .returned (.int .i64 (-1)) ∧ Below w.heap.size w w' := by
  have hcall := fun t => impl.NbOk_c a c l b d m C T L n (w.alloc (.cells #[.slice a l.length c, .slice b m.length d, .int .i64 C, .bool T, .bool L] t)) hl (hr.alloc _) hw hm (hs.alloc _) hu hC
  cases h1 : nbB l m C n
  · simp only [h1] at hcall
    have HC := Lib.hid hcall
    clear hcall h1 hl hr hw hm hs hu hC h
    go_enter Try.func27, Try.ntmps27
    go_wp2_with fail
    refine (HC.out _).mono ?_
    rintro e w1 ⟨rfl, hb⟩
    have HB : Hid (Below w.heap.size w w1) := Lib.hid (((Below.refl w.heap.size w).alloc (Nat.le_refl _) _).trans (hb.mono (by simp)))
    clear hb
    go_wp2
    go_ret
    exact ⟨rfl, HB.out⟩
  · have hn := (nbB_true h1).1
    simp only [h1] at hcall
    have HC := Lib.hid hcall
    rw [predB, h1, Bool.true_and] at h
    clear hcall h1 hl hr hw hm hs hu hC
    rcases hn with rfl | rfl
    · cases hx : inR 0 (4 - 1) x
      · have hx' : inR 0 3 x = false := hx
        clear h hx
        go_enter Try.func27, Try.ntmps27
        go_wp2_with fail
        refine (HC.out _).mono ?_
        rintro e w1 ⟨rfl, hb⟩
        have HB : Hid (Below w.heap.size w w1) := Lib.hid (((Below.refl w.heap.size w).alloc (Nat.le_refl _) _).trans (hb.mono (by simp)))
        clear hb
        go_wp2_with (go_at_call 51; refine (within_c _ _ _ _).mono ?_; rintro e w' ⟨rfl, rfl⟩)
        go_ret
        exact ⟨rfl, HB.out⟩
      · have hx' : inR 0 3 x = true := hx
        have hy' : inR 0 3 y = false := by rw [hx] at h; exact h
        clear h hx
        go_enter Try.func27, Try.ntmps27
        go_wp2_with fail
        refine (HC.out _).mono ?_
        rintro e w1 ⟨rfl, hb⟩
        have HB : Hid (Below w.heap.size w w1) := Lib.hid (((Below.refl w.heap.size w).alloc (Nat.le_refl _) _).trans (hb.mono (by simp)))
        clear hb
        go_wp2_with (go_at_call 51; refine (within_c _ _ _ _).mono ?_; rintro e w' ⟨rfl, rfl⟩)
        go_ret
        exact ⟨rfl, HB.out⟩
    · cases hx : inR 0 (8 - 1) x
      · have hx' : inR 0 7 x = false := hx
        clear h hx
        go_enter Try.func27, Try.ntmps27
        go_wp2_with fail
        refine (HC.out _).mono ?_
        rintro e w1 ⟨rfl, hb⟩
        have HB : Hid (Below w.heap.size w w1) := Lib.hid (((Below.refl w.heap.size w).alloc (Nat.le_refl _) _).trans (hb.mono (by simp)))
        clear hb
        go_wp2_with (go_at_call 51; refine (within_c _ _ _ _).mono ?_; rintro e w' ⟨rfl, rfl⟩)
        go_ret
        exact ⟨rfl, HB.out⟩
      · have hx' : inR 0 7 x = true := hx
        have hy' : inR 0 7 y = false := by rw [hx] at h; exact h
        clear h hx
        go_enter Try.func27, Try.ntmps27
        go_wp2_with fail
        refine (HC.out _).mono ?_
        rintro e w1 ⟨rfl, hb⟩
        have HB : Hid (Below w.heap.size w w1) := Lib.hid (((Below.refl w.heap.size w).alloc (Nat.le_refl _) _).trans (hb.mono (by simp)))
        clear hb
        go_wp2_with (go_at_call 51; refine (within_c _ _ _ _).mono ?_; rintro e w' ⟨rfl, rfl⟩)
        go_ret
        exact ⟨rfl, HB.out⟩
theorem impl.PredAt_4 (mode : Int) (a : Option Addr) (c : Nat) (l : List Int) (b : Option Addr) (d : Nat) (m : List Int) (C : Int) (T L : Bool) (X Y : Nat) (w : World) (hN : NbAll w a l b m 4) (hok : nbB l m C 4 = true) (hcl : l.length ≤ c) (hX : X < 4) (hY : Y < 4) :
    Calls Try.prog 27 #[.int .i64 mode, nbv a l.length c b m.length d C T L, .int .i64 4, .int .i64 X, .int .i64 Y] w fun e w' => e = .returned (.int .i64 (predV l m C T L 4 mode X Y)) ∧ Below w.heap.size w w' := by
  by_cases h0 : mode = 0
  · subst h0; exact impl.PredAt_4_0 a c l b d m C T L X Y w hN hok hcl hX hY
  by_cases h1 : mode = 1
  · subst h1; exact impl.PredAt_4_1 a c l b d m C T L X Y w hN hok hcl hX hY
  by_cases h2 : mode = 2
  · subst h2; exact impl.PredAt_4_2 a c l b d m C T L X Y w hN hok hcl hX hY
  by_cases h3 : mode = 3
  · subst h3; exact impl.PredAt_4_3 a c l b d m C T L X Y w hN hok hcl hX hY
  by_cases h4 : mode = 4
  · subst h4; exact impl.PredAt_4_4 a c l b d m C T L X Y w hN hok hcl hX hY
  by_cases h5 : mode = 5
  · subst h5; exact impl.PredAt_4_5 a c l b d m C T L X Y w hN hok hcl hX hY
  exact impl.PredAt_4_x mode h0 h1 h2 h3 h4 h5 a c l b d m C T L X Y w hN hok hcl hX hY
theorem impl.PredAt_8 (mode : Int) (a : Option Addr) (c : Nat) (l : List Int) (b : Option Addr) (d : Nat) (m : List Int) (C : Int) (T L : Bool) (X Y : Nat) (w : World) (hN : NbAll w a l b m 8) (hok : nbB l m C 8 = true) (hcl : l.length ≤ c) (hX : X < 8) (hY : Y < 8) :
    Calls Try.prog 27 #[.int .i64 mode, nbv a l.length c b m.length d C T L, .int .i64 8, .int .i64 X, .int .i64 Y] w fun e w' => e = .returned (.int .i64 (predV l m C T L 8 mode X Y)) ∧ Below w.heap.size w w' := by
  by_cases h0 : mode = 0
  · subst h0; exact impl.PredAt_8_0 a c l b d m C T L X Y w hN hok hcl hX hY
  by_cases h1 : mode = 1
  · subst h1; exact impl.PredAt_8_1 a c l b d m C T L X Y w hN hok hcl hX hY
  by_cases h2 : mode = 2
  · subst h2; exact impl.PredAt_8_2 a c l b d m C T L X Y w hN hok hcl hX hY
  by_cases h3 : mode = 3
  · subst h3; exact impl.PredAt_8_3 a c l b d m C T L X Y w hN hok hcl hX hY
  by_cases h4 : mode = 4
  · subst h4; exact impl.PredAt_8_4 a c l b d m C T L X Y w hN hok hcl hX hY
  by_cases h5 : mode = 5
  · subst h5; exact impl.PredAt_8_5 a c l b d m C T L X Y w hN hok hcl hX hY
  exact impl.PredAt_8_x mode h0 h1 h2 h3 h4 h5 a c l b d m C T L X Y w hN hok hcl hX hY
theorem impl.PredAt_c (mode : Int) (a : Option Addr) (c : Nat) (l : List Int) (b : Option Addr) (d : Nat) (m : List Int) (C : Int) (T L : Bool) (n x y : Int) (w : World) (hl : l.length ≤ 1099511627776) (hr : Row w a l) (hw : ∀ x ∈ l, -9223372036854775808 ≤ x ∧ x ≤ 9223372036854775807) (hm : m.length ≤ 1099511627776) (hs : Row w b m) (hu : ∀ x ∈ m, -9223372036854775808 ≤ x ∧ x ≤ 9223372036854775807) (hC : -9223372036854775808 ≤ C ∧ C ≤ 9223372036854775807) (hcl : l.length ≤ c) (hcm : m.length ≤ d) :
    Calls Try.prog 27 #[.int .i64 mode, nbv a l.length c b m.length d C T L, .int .i64 n, .int .i64 x, .int .i64 y] w fun e w' => e = .returned (.int .i64 (predF l m C T L mode n x y)) ∧ Below w.heap.size w w' := by
  cases h : predB l m C n x y
  · have hf : predF l m C T L mode n x y = -1 := by simp [predF, h]
    rw [hf]
    exact impl.PredAt_no mode a c l b d m C T L n x y w hl hr hw hm hs hu hC h
  · have hf : predF l m C T L mode n x y = predV l m C T L n.toNat mode x.toNat y.toNat := by simp [predF, h]
    rw [hf]
    simp only [predB, Bool.and_eq_true] at h
    obtain ⟨hok, hx, hy⟩ := h
    have hx := inR_true hx
    have hy := inR_true hy
    obtain ⟨X, rfl⟩ := Int.eq_ofNat_of_zero_le hx.1
    obtain ⟨Y, rfl⟩ := Int.eq_ofNat_of_zero_le hy.1
    rcases (nbB_true hok).1 with rfl | rfl
    · exact impl.PredAt_4 mode a c l b d m C T L X Y w (nb_all hr hs hok) hok hcl (by omega) (by omega)
    · exact impl.PredAt_8 mode a c l b d m C T L X Y w (nb_all hr hs hok) hok hcl (by omega) (by omega)


set_option maxHeartbeats 1000000 in
theorem spec.PredAt_no (mode : Int) (a : Option Addr) (c : Nat) (l : List Int) (b : Option Addr) (d : Nat) (m : List Int) (C : Int) (T L : Bool) (n x y : Int) (w : World) (hl : l.length ≤ 1099511627776) (hr : Row w a l) (hw : ∀ x ∈ l, -9223372036854775808 ≤ x ∧ x ≤ 9223372036854775807) (hm : m.length ≤ 1099511627776) (hs : Row w b m) (hu : ∀ x ∈ m, -9223372036854775808 ≤ x ∧ x ≤ 9223372036854775807) (hC : -9223372036854775808 ≤ C ∧ C ≤ 9223372036854775807) (h : predB l m C n x y = false) :
    Calls Try.prog 64 #[.int .i64 mode, nbv a l.length c b m.length d C T L, .int .i64 n, .int .i64 x, .int .i64 y] w fun e w' => e = .returned (.int .i64 (-1)) ∧ Below w.heap.size w w' := by
  have hcall := fun t => spec.NbOk_c a c l b d m C T L n (w.alloc (.cells #[.slice a l.length c, .slice b m.length d, .int .i64 C, .bool T, .bool L] t)) hl (hr.alloc _) hw hm (hs.alloc _) hu hC
  cases h1 : nbB l m C n
  · simp only [h1] at hcall
    have HC := Lib.hid hcall
    clear hcall h1 hl hr hw hm hs hu hC h
    go_enter Try.func64, Try.ntmps64
    go_wp2_with fail
    refine (HC.out _).mono ?_
    rintro e w1 ⟨rfl, hb⟩
    have HB : Hid (Below w.heap.size w w1) := Lib.hid (((Below.refl w.heap.size w).alloc (Nat.le_refl _) _).trans (hb.mono (by simp)))
    clear hb
    go_wp2
    go_ret
    exact ⟨rfl, HB.out⟩
  · have hn := (nbB_true h1).1
    simp only [h1] at hcall
    have HC := Lib.hid hcall
    rw [predB, h1, Bool.true_and] at h
    clear hcall h1 hl hr hw hm hs hu hC
    rcases hn with rfl | rfl
    · cases hx : inR 0 (4 - 1) x
      · have hx' : inR 0 3 x = false := hx
        clear h hx
        go_enter Try.func64, Try.ntmps64
        go_wp2_with fail
        refine (HC.out _).mono ?_
        rintro e w1 ⟨rfl, hb⟩
        have HB : Hid (Below w.heap.size w w1) := Lib.hid (((Below.refl w.heap.size w).alloc (Nat.le_refl _) _).trans (hb.mono (by simp)))
        clear hb
        go_wp2_with (go_at_call 61; refine (l1In_c _ _ _ _).mono ?_; rintro e w' ⟨rfl, rfl⟩)
        go_ret
        exact ⟨rfl, HB.out⟩
      · have hx' : inR 0 3 x = true := hx
        have hy' : inR 0 3 y = false := by rw [hx] at h; exact h
        clear h hx
        go_enter Try.func64, Try.ntmps64
        go_wp2_with fail
        refine (HC.out _).mono ?_
        rintro e w1 ⟨rfl, hb⟩
        have HB : Hid (Below w.heap.size w w1) := Lib.hid (((Below.refl w.heap.size w).alloc (Nat.le_refl _) _).trans (hb.mono (by simp)))
        clear hb
        go_wp2_with (go_at_call 61; refine (l1In_c _ _ _ _).mono ?_; rintro e w' ⟨rfl, rfl⟩)
        go_ret
        exact ⟨rfl, HB.out⟩
    · cases hx : inR 0 (8 - 1) x
      · have hx' : inR 0 7 x = false := hx
        clear h hx
        go_enter Try.func64, Try.ntmps64
        go_wp2_with fail
        refine (HC.out _).mono ?_
        rintro e w1 ⟨rfl, hb⟩
        have HB : Hid (Below w.heap.size w w1) := Lib.hid (((Below.refl w.heap.size w).alloc (Nat.le_refl _) _).trans (hb.mono (by simp)))
        clear hb
        go_wp2_with (go_at_call 61; refine (l1In_c _ _ _ _).mono ?_; rintro e w' ⟨rfl, rfl⟩)
        go_ret
        exact ⟨rfl, HB.out⟩
      · have hx' : inR 0 7 x = true := hx
        have hy' : inR 0 7 y = false := by rw [hx] at h; exact h
        clear h hx
        go_enter Try.func64, Try.ntmps64
        go_wp2_with fail
        refine (HC.out _).mono ?_
        rintro e w1 ⟨rfl, hb⟩
        have HB : Hid (Below w.heap.size w w1) := Lib.hid (((Below.refl w.heap.size w).alloc (Nat.le_refl _) _).trans (hb.mono (by simp)))
        clear hb
        go_wp2_with (go_at_call 61; refine (l1In_c _ _ _ _).mono ?_; rintro e w' ⟨rfl, rfl⟩)
        go_ret
        exact ⟨rfl, HB.out⟩
theorem spec.PredAt_4 (mode : Int) (a : Option Addr) (c : Nat) (l : List Int) (b : Option Addr) (d : Nat) (m : List Int) (C : Int) (T L : Bool) (X Y : Nat) (w : World) (hN : NbAll w a l b m 4) (hok : nbB l m C 4 = true) (hcl : l.length ≤ c) (hX : X < 4) (hY : Y < 4) :
    Calls Try.prog 64 #[.int .i64 mode, nbv a l.length c b m.length d C T L, .int .i64 4, .int .i64 X, .int .i64 Y] w fun e w' => e = .returned (.int .i64 (predV l m C T L 4 mode X Y)) ∧ Below w.heap.size w w' := by
  by_cases h0 : mode = 0
  · subst h0; exact spec.PredAt_4_0 a c l b d m C T L X Y w hN hok hcl hX hY
  by_cases h1 : mode = 1
  · subst h1; exact spec.PredAt_4_1 a c l b d m C T L X Y w hN hok hcl hX hY
  by_cases h2 : mode = 2
  · subst h2; exact spec.PredAt_4_2 a c l b d m C T L X Y w hN hok hcl hX hY
  by_cases h3 : mode = 3
  · subst h3; exact spec.PredAt_4_3 a c l b d m C T L X Y w hN hok hcl hX hY
  by_cases h4 : mode = 4
  · subst h4; exact spec.PredAt_4_4 a c l b d m C T L X Y w hN hok hcl hX hY
  by_cases h5 : mode = 5
  · subst h5; exact spec.PredAt_4_5 a c l b d m C T L X Y w hN hok hcl hX hY
  exact spec.PredAt_4_x mode h0 h1 h2 h3 h4 h5 a c l b d m C T L X Y w hN hok hcl hX hY
theorem spec.PredAt_8 (mode : Int) (a : Option Addr) (c : Nat) (l : List Int) (b : Option Addr) (d : Nat) (m : List Int) (C : Int) (T L : Bool) (X Y : Nat) (w : World) (hN : NbAll w a l b m 8) (hok : nbB l m C 8 = true) (hcl : l.length ≤ c) (hX : X < 8) (hY : Y < 8) :
    Calls Try.prog 64 #[.int .i64 mode, nbv a l.length c b m.length d C T L, .int .i64 8, .int .i64 X, .int .i64 Y] w fun e w' => e = .returned (.int .i64 (predV l m C T L 8 mode X Y)) ∧ Below w.heap.size w w' := by
  by_cases h0 : mode = 0
  · subst h0; exact spec.PredAt_8_0 a c l b d m C T L X Y w hN hok hcl hX hY
  by_cases h1 : mode = 1
  · subst h1; exact spec.PredAt_8_1 a c l b d m C T L X Y w hN hok hcl hX hY
  by_cases h2 : mode = 2
  · subst h2; exact spec.PredAt_8_2 a c l b d m C T L X Y w hN hok hcl hX hY
  by_cases h3 : mode = 3
  · subst h3; exact spec.PredAt_8_3 a c l b d m C T L X Y w hN hok hcl hX hY
  by_cases h4 : mode = 4
  · subst h4; exact spec.PredAt_8_4 a c l b d m C T L X Y w hN hok hcl hX hY
  by_cases h5 : mode = 5
  · subst h5; exact spec.PredAt_8_5 a c l b d m C T L X Y w hN hok hcl hX hY
  exact spec.PredAt_8_x mode h0 h1 h2 h3 h4 h5 a c l b d m C T L X Y w hN hok hcl hX hY
theorem spec.PredAt_c (mode : Int) (a : Option Addr) (c : Nat) (l : List Int) (b : Option Addr) (d : Nat) (m : List Int) (C : Int) (T L : Bool) (n x y : Int) (w : World) (hl : l.length ≤ 1099511627776) (hr : Row w a l) (hw : ∀ x ∈ l, -9223372036854775808 ≤ x ∧ x ≤ 9223372036854775807) (hm : m.length ≤ 1099511627776) (hs : Row w b m) (hu : ∀ x ∈ m, -9223372036854775808 ≤ x ∧ x ≤ 9223372036854775807) (hC : -9223372036854775808 ≤ C ∧ C ≤ 9223372036854775807) (hcl : l.length ≤ c) (hcm : m.length ≤ d) :
    Calls Try.prog 64 #[.int .i64 mode, nbv a l.length c b m.length d C T L, .int .i64 n, .int .i64 x, .int .i64 y] w fun e w' => e = .returned (.int .i64 (predF l m C T L mode n x y)) ∧ Below w.heap.size w w' := by
  cases h : predB l m C n x y
  · have hf : predF l m C T L mode n x y = -1 := by simp [predF, h]
    rw [hf]
    exact spec.PredAt_no mode a c l b d m C T L n x y w hl hr hw hm hs hu hC h
  · have hf : predF l m C T L mode n x y = predV l m C T L n.toNat mode x.toNat y.toNat := by simp [predF, h]
    rw [hf]
    simp only [predB, Bool.and_eq_true] at h
    obtain ⟨hok, hx, hy⟩ := h
    have hx := inR_true hx
    have hy := inR_true hy
    obtain ⟨X, rfl⟩ := Int.eq_ofNat_of_zero_le hx.1
    obtain ⟨Y, rfl⟩ := Int.eq_ofNat_of_zero_le hy.1
    rcases (nbB_true hok).1 with rfl | rfl
    · exact spec.PredAt_4 mode a c l b d m C T L X Y w (nb_all hr hs hok) hok hcl (by omega) (by omega)
    · exact spec.PredAt_8 mode a c l b d m C T L X Y w (nb_all hr hs hok) hok hcl (by omega) (by omega)

end Go.Proofs.Ytbdggcefgiehkaa
