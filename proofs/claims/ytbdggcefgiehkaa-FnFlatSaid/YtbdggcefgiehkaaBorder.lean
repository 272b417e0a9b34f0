/- Contracts: what lies around a block. -/
import Derived.Test.YtbdggcefgiehkaaMean
import Derived.Test.YtbdggcefgiehkaaRev
namespace Go.Proofs.Ytbdggcefgiehkaa
open Go.RowKit
set_option linter.unusedVariables false

/-- the left from below, the corner, the top -/
def borderL (l m : List Int) (C : Int) (n : Nat) : List Int := (tab (fun i => m.getD (n - 1 - i) 0) n ++ [C]) ++ tab (fun i => l.getD i 0) n
def borderF (l m : List Int) (C n : Int) : List Int := if nbB l m C n = true then borderL l m C n.toNat else []
theorem borderL_len (l m : List Int) (C : Int) (n : Nat) : (borderL l m C n).length = 2 * n + 1 := by
  simp [borderL, tab_len]; omega
theorem borderF_len (l m : List Int) (C n : Int) : (borderF l m C n).length ≤ 1048576 := by
  unfold borderF
  split
  · rename_i h
    rw [borderL_len]
    rcases (nbB_true h).1 with rfl | rfl <;> decide
  · simp
theorem Own.of_eq {B : Nat} {w : World} {a : Option Addr} {c : Nat} {l l' : List Int} (h : Own B w a c l) (e : l = l') : Own B w a c l' := e ▸ h
/-- the first n values of a longer row -/
theorem Row.front {w : World} {p o : Nat} {l : List Int} {n : Nat} (hc : ∀ i, i < n → w.cell? ⟨p, o + i, none⟩ = some (.int .i64 (l.getD i 0))) : Row w (some ⟨p, o, none⟩) (tab (fun i => l.getD i 0) n) := by
  refine .inr ⟨p, o, rfl, fun i hi => ?_⟩
  rw [tab_len] at hi
  rw [tab_getD _ _ _ hi]
  exact hc i hi


set_option maxHeartbeats 2000000 in
theorem impl.Border_4 (a : Option Addr) (c : Nat) (l : List Int) (b : Option Addr) (d : Nat) (m : List Int) (C : Int) (T L : Bool) (w : World) (hN : NbAll w a l b m 4) (hok : nbB l m C 4 = true) (hcl : l.length ≤ c) :
    Calls Try.prog 13 #[nbv a l.length c b m.length d C T L, .int .i64 4] w fun e w' => ∃ x y, e = .returned (.slice x 9 y) ∧ Own w.heap.size w' x y (borderL l m C 4) ∧ Below w.heap.size w w' := by
  obtain ⟨hl, hm, hr, hs, htl, htm⟩ := hN
  have hcall := fun t => impl.NbOk_4 a c l b d m C T L (w.alloc (.cells #[.slice a l.length c, .slice b m.length d, .int .i64 C, .bool T, .bool L] t)) (by omega) (hr.alloc _) (by omega) (hs.alloc _)
  have HS : Hid (∀ o : Obj, Row (w.alloc o) b m) := Lib.hid (fun o => hs.alloc o)
  obtain ⟨p1, o1, rfl, hb1, hc1⟩ := hr.inside (by omega)
  obtain ⟨p2, o2, rfl, hb2, hc2⟩ := hs.inside (by omega)
  have HC1 : Hid (∀ o : Obj, ∀ i, i < 8 → (w.alloc o).cell? ⟨p1, o1 + i, none⟩ = some (.int .i64 (l.getD i 0))) := Lib.hid (fun o i hi => (bcell ((Below.refl _ _).alloc (Nat.le_refl _) o) _ _ hb1).trans (hc1 i (by omega)))
  simp only [hok] at hcall
  have HM : Hid (revL m = tab (fun i => m.getD (4 - 1 - i) 0) 4) := Lib.hid (by unfold revL; rw [hm])
  have HML := Lib.hid hm
  rw [hl, hm] at hcall ⊢
  rw [hl] at hcl
  have HC := Lib.hid hcall
  clear hcall hr hs hc1 hc2 hl hm htl htm hok
  go_enter Try.func13, Try.ntmps13
  go_wp2_with fail
  refine (HC.out _).mono ?_
  rintro e w1 ⟨rfl, hb⟩
  have P1 := (Box5.new w _ _ _ _ _ _).below hb (Nat.le_refl _)
  have HR1 : Hid (∀ i, i < 8 → w1.cell? ⟨p1, o1 + i, none⟩ = some (.int .i64 (l.getD i 0))) := Lib.hid (fun i hi => (bcell hb _ _ (by simp; omega)).trans (HC1.out _ i hi))
  have HS1 : Hid (Row w1 (some ⟨p2, o2, none⟩) m) := Lib.hid ((HS.out _).below hb (Nat.le_refl _))
  have HB : Hid (Below w.heap.size w w1) := Lib.hid (((Below.refl w.heap.size w).alloc (Nat.le_refl _) _).trans (hb.mono (by simp)))
  have hz : w.heap.size + 1 ≤ w1.heap.size := by have := hb.size; simpa using this
  clear hb HC1 HS HC
  have hP := P1
  obtain ⟨_, q0, q1, q2, q3, q4⟩ := hP
  go_wp2_with fail
  have hcl2 := Clone_c (some ⟨p2, o2, none⟩) d m w1 (by rw [HML.out]; omega) HS1.out (fun h => by cases h)
  rw [HML.out] at hcl2
  refine hcl2.mono ?_
  rintro e w2 ⟨x2, y2, rfl, ho2, hb2'⟩
  clear hcl2 q0 q1 q2 q3 q4
  have hrv := Reverse_c w1.heap.size x2 y2 m w2 (by rw [HML.out]; omega) ho2
  rw [HML.out] at hrv
  have HRV := Lib.hid hrv
  have P2 := P1.below hb2' (Nat.le_refl _)
  have HB2 := Lib.hid hb2'
  clear P1 hrv ho2 hb2'
  go_wp2_with (go_at_call 48; refine HRV.out.mono ?_; rintro e w3 ⟨rfl, ho3, hb3⟩)
  have P3 : Box5 w3 w.heap.size _ _ _ _ _ := ⟨Nat.lt_of_lt_of_le hz (Nat.le_trans HB2.out.size hb3.size), (hb3.cell (p := ⟨w.heap.size, 0, none⟩) (by show w.heap.size < _; omega)).trans P2.2.1, (hb3.cell (p := ⟨w.heap.size, 1, none⟩) (by show w.heap.size < _; omega)).trans P2.2.2.1, (hb3.cell (p := ⟨w.heap.size, 2, none⟩) (by show w.heap.size < _; omega)).trans P2.2.2.2.1, (hb3.cell (p := ⟨w.heap.size, 3, none⟩) (by show w.heap.size < _; omega)).trans P2.2.2.2.2.1, (hb3.cell (p := ⟨w.heap.size, 4, none⟩) (by show w.heap.size < _; omega)).trans P2.2.2.2.2.2⟩
  have HB3 : Hid (Below w.heap.size w w3) := Lib.hid ((HB.out.trans (HB2.out.mono (by omega))).trans (hb3.mono (by omega)))
  have HR3 : Hid (∀ i, i < 8 → w3.cell? ⟨p1, o1 + i, none⟩ = some (.int .i64 (l.getD i 0))) := Lib.hid (fun i hi => ((bcell hb3 _ _ (by omega)).trans (bcell HB2.out _ _ (by omega))).trans (HR1.out i hi))
  have HO3 : Hid (Own w1.heap.size w3 x2 y2 (tab (fun i => m.getD (4 - 1 - i) 0) 4)) := Lib.hid (ho3.of_eq HM.out)
  have hz3 : w1.heap.size ≤ w3.heap.size := Nat.le_trans HB2.out.size hb3.size
  clear P2 ho3 hb3 HB2 HR1 HRV
  have hP := P3
  obtain ⟨_, q0, q1, q2, q3, q4⟩ := hP
  have hRow : Row w3 (some ⟨p1, o1, none⟩) (tab (fun i => l.getD i 0) 4) := Row.front (fun i hi => HR3.out i (by omega))
  have hwz : w.heap.size < w1.heap.size := hz
  have hci : (4 : Int) ≤ (c : Int) := by omega
  have hci2 : 4 ≤ c := by omega
  go_wp2_with fail
  go_region_held3 (fun w' => w'.cell? ⟨w.heap.size, 0, none⟩ = some (.slice (some ⟨p1, o1, none⟩) 8 c) ∧ w'.cell? ⟨w.heap.size, 2, none⟩ = some (.int .i64 C)) (first | go_keep)
    ((first
      | (refine step_append_one Try.underlying25 Try.infoInt rfl (.tmp 15) (.tmp 18) rfl w1.heap.size x2 y2 4 (tab (fun i => m.getD (4 - 1 - i) 0) 4) (tab_len _ _) rfl ((HO3.out.alloc _).drew) w3.heap.size C rfl ?_ ?_ ?_ ?_
         · simp
         · omega
         · simp; omega
         intro ad1 cc1 w4 ho4 hb4
         have hcw := bcell hb4
         have hk0 := hcw w.heap.size 0 hwz
         have hk2 := hcw w.heap.size 2 hwz
         have hRow4 := (hRow.alloc _).drew.under hb4 (by intro p hp; cases hp; show p1 < _; omega))
      | (refine step_append_many Try.underlying25 Try.infoInt rfl (.tmp 19) (.tmp 23) rfl w1.heap.size ad1 cc1 (4 + 1) (tab (fun i => m.getD (4 - 1 - i) 0) 4 ++ [C]) (by simp [tab_len]) rfl ho4 (some ⟨p1, o1, none⟩) 4 c (tab (fun i => l.getD i 0) 4) (tab_len _ _) (by omega) rfl hRow4 ?_ ?_ ?_
         · omega
         · have := hb4.size; simp at this; omega
         intro ad2 cc2 w5 ho5 hb5
         have hcw5 := bcell hb5)))
  all_goals
    have HO5 : Hid (Own w1.heap.size w5 ad2 cc2 (borderL l m C 4)) := Lib.hid ho5
    have HB5 : Hid (Below w.heap.size w w5) := Lib.hid ((((HB3.out.alloc HB3.out.size _).drew).trans (hb4.mono (by omega))).trans (hb5.mono (by omega)))
    clear ho5 hb5 hcw5 hRow4 hk0 hk2 hcw ho4 hb4
    go_wp2
    go_ret
    exact ⟨ad2, cc2, rfl, HO5.out.mono (by omega), HB5.out⟩
set_option maxHeartbeats 2000000 in
theorem impl.Border_8 (a : Option Addr) (c : Nat) (l : List Int) (b : Option Addr) (d : Nat) (m : List Int) (C : Int) (T L : Bool) (w : World) (hN : NbAll w a l b m 8) (hok : nbB l m C 8 = true) (hcl : l.length ≤ c) :
    Calls Try.prog 13 #[nbv a l.length c b m.length d C T L, .int .i64 8] w fun e w' => ∃ x y, e = .returned (.slice x 17 y) ∧ Own w.heap.size w' x y (borderL l m C 8) ∧ Below w.heap.size w w' := by
  obtain ⟨hl, hm, hr, hs, htl, htm⟩ := hN
  have hcall := fun t => impl.NbOk_8 a c l b d m C T L (w.alloc (.cells #[.slice a l.length c, .slice b m.length d, .int .i64 C, .bool T, .bool L] t)) (by omega) (hr.alloc _) (by omega) (hs.alloc _)
  have HS : Hid (∀ o : Obj, Row (w.alloc o) b m) := Lib.hid (fun o => hs.alloc o)
  obtain ⟨p1, o1, rfl, hb1, hc1⟩ := hr.inside (by omega)
  obtain ⟨p2, o2, rfl, hb2, hc2⟩ := hs.inside (by omega)
  have HC1 : Hid (∀ o : Obj, ∀ i, i < 16 → (w.alloc o).cell? ⟨p1, o1 + i, none⟩ = some (.int .i64 (l.getD i 0))) := Lib.hid (fun o i hi => (bcell ((Below.refl _ _).alloc (Nat.le_refl _) o) _ _ hb1).trans (hc1 i (by omega)))
  simp only [hok] at hcall
  have HM : Hid (revL m = tab (fun i => m.getD (8 - 1 - i) 0) 8) := Lib.hid (by unfold revL; rw [hm])
  have HML := Lib.hid hm
  rw [hl, hm] at hcall ⊢
  rw [hl] at hcl
  have HC := Lib.hid hcall
  clear hcall hr hs hc1 hc2 hl hm htl htm hok
  go_enter Try.func13, Try.ntmps13
  go_wp2_with fail
  refine (HC.out _).mono ?_
  rintro e w1 ⟨rfl, hb⟩
  have P1 := (Box5.new w _ _ _ _ _ _).below hb (Nat.le_refl _)
  have HR1 : Hid (∀ i, i < 16 → w1.cell? ⟨p1, o1 + i, none⟩ = some (.int .i64 (l.getD i 0))) := Lib.hid (fun i hi => (bcell hb _ _ (by simp; omega)).trans (HC1.out _ i hi))
  have HS1 : Hid (Row w1 (some ⟨p2, o2, none⟩) m) := Lib.hid ((HS.out _).below hb (Nat.le_refl _))
  have HB : Hid (Below w.heap.size w w1) := Lib.hid (((Below.refl w.heap.size w).alloc (Nat.le_refl _) _).trans (hb.mono (by simp)))
  have hz : w.heap.size + 1 ≤ w1.heap.size := by have := hb.size; simpa using this
  clear hb HC1 HS HC
  have hP := P1
  obtain ⟨_, q0, q1, q2, q3, q4⟩ := hP
  go_wp2_with fail
  have hcl2 := Clone_c (some ⟨p2, o2, none⟩) d m w1 (by rw [HML.out]; omega) HS1.out (fun h => by cases h)
  rw [HML.out] at hcl2
  refine hcl2.mono ?_
  rintro e w2 ⟨x2, y2, rfl, ho2, hb2'⟩
  clear hcl2 q0 q1 q2 q3 q4
  have hrv := Reverse_c w1.heap.size x2 y2 m w2 (by rw [HML.out]; omega) ho2
  rw [HML.out] at hrv
  have HRV := Lib.hid hrv
  have P2 := P1.below hb2' (Nat.le_refl _)
  have HB2 := Lib.hid hb2'
  clear P1 hrv ho2 hb2'
  go_wp2_with (go_at_call 48; refine HRV.out.mono ?_; rintro e w3 ⟨rfl, ho3, hb3⟩)
  have P3 : Box5 w3 w.heap.size _ _ _ _ _ := ⟨Nat.lt_of_lt_of_le hz (Nat.le_trans HB2.out.size hb3.size), (hb3.cell (p := ⟨w.heap.size, 0, none⟩) (by show w.heap.size < _; omega)).trans P2.2.1, (hb3.cell (p := ⟨w.heap.size, 1, none⟩) (by show w.heap.size < _; omega)).trans P2.2.2.1, (hb3.cell (p := ⟨w.heap.size, 2, none⟩) (by show w.heap.size < _; omega)).trans P2.2.2.2.1, (hb3.cell (p := ⟨w.heap.size, 3, none⟩) (by show w.heap.size < _; omega)).trans P2.2.2.2.2.1, (hb3.cell (p := ⟨w.heap.size, 4, none⟩) (by show w.heap.size < _; omega)).trans P2.2.2.2.2.2⟩
  have HB3 : Hid (Below w.heap.size w w3) := Lib.hid ((HB.out.trans (HB2.out.mono (by omega))).trans (hb3.mono (by omega)))
  have HR3 : Hid (∀ i, i < 16 → w3.cell? ⟨p1, o1 + i, none⟩ = some (.int .i64 (l.getD i 0))) := Lib.hid (fun i hi => ((bcell hb3 _ _ (by omega)).trans (bcell HB2.out _ _ (by omega))).trans (HR1.out i hi))
  have HO3 : Hid (Own w1.heap.size w3 x2 y2 (tab (fun i => m.getD (8 - 1 - i) 0) 8)) := Lib.hid (ho3.of_eq HM.out)
  have hz3 : w1.heap.size ≤ w3.heap.size := Nat.le_trans HB2.out.size hb3.size
  clear P2 ho3 hb3 HB2 HR1 HRV
  have hP := P3
  obtain ⟨_, q0, q1, q2, q3, q4⟩ := hP
  have hRow : Row w3 (some ⟨p1, o1, none⟩) (tab (fun i => l.getD i 0) 8) := Row.front (fun i hi => HR3.out i (by omega))
  have hwz : w.heap.size < w1.heap.size := hz
  have hci : (8 : Int) ≤ (c : Int) := by omega
  have hci2 : 8 ≤ c := by omega
  go_wp2_with fail
  go_region_held3 (fun w' => w'.cell? ⟨w.heap.size, 0, none⟩ = some (.slice (some ⟨p1, o1, none⟩) 16 c) ∧ w'.cell? ⟨w.heap.size, 2, none⟩ = some (.int .i64 C)) (first | go_keep)
    ((first
      | (refine step_append_one Try.underlying25 Try.infoInt rfl (.tmp 15) (.tmp 18) rfl w1.heap.size x2 y2 8 (tab (fun i => m.getD (8 - 1 - i) 0) 8) (tab_len _ _) rfl ((HO3.out.alloc _).drew) w3.heap.size C rfl ?_ ?_ ?_ ?_
         · simp
         · omega
         · simp; omega
         intro ad1 cc1 w4 ho4 hb4
         have hcw := bcell hb4
         have hk0 := hcw w.heap.size 0 hwz
         have hk2 := hcw w.heap.size 2 hwz
         have hRow4 := (hRow.alloc _).drew.under hb4 (by intro p hp; cases hp; show p1 < _; omega))
      | (refine step_append_many Try.underlying25 Try.infoInt rfl (.tmp 19) (.tmp 23) rfl w1.heap.size ad1 cc1 (8 + 1) (tab (fun i => m.getD (8 - 1 - i) 0) 8 ++ [C]) (by simp [tab_len]) rfl ho4 (some ⟨p1, o1, none⟩) 8 c (tab (fun i => l.getD i 0) 8) (tab_len _ _) (by omega) rfl hRow4 ?_ ?_ ?_
         · omega
         · have := hb4.size; simp at this; omega
         intro ad2 cc2 w5 ho5 hb5
         have hcw5 := bcell hb5)))
  all_goals
    have HO5 : Hid (Own w1.heap.size w5 ad2 cc2 (borderL l m C 8)) := Lib.hid ho5
    have HB5 : Hid (Below w.heap.size w w5) := Lib.hid ((((HB3.out.alloc HB3.out.size _).drew).trans (hb4.mono (by omega))).trans (hb5.mono (by omega)))
    clear ho5 hb5 hcw5 hRow4 hk0 hk2 hcw ho4 hb4
    go_wp2
    go_ret
    exact ⟨ad2, cc2, rfl, HO5.out.mono (by omega), HB5.out⟩


set_option maxHeartbeats 1000000 in
theorem impl.Border_c (a : Option Addr) (c : Nat) (l : List Int) (b : Option Addr) (d : Nat) (m : List Int) (C : Int) (T L : Bool) (n : Int) (w : World) (hl : l.length ≤ 1099511627776) (hr : Row w a l) (hw : ∀ x ∈ l, -9223372036854775808 ≤ x ∧ x ≤ 9223372036854775807) (hm : m.length ≤ 1099511627776) (hs : Row w b m) (hu : ∀ x ∈ m, -9223372036854775808 ≤ x ∧ x ≤ 9223372036854775807) (hC : -9223372036854775808 ≤ C ∧ C ≤ 9223372036854775807) (hcl : l.length ≤ c) (hcm : m.length ≤ d) :
    Calls Try.prog 13 #[nbv a l.length c b m.length d C T L, .int .i64 n] w fun e w' => ∃ x y, e = .returned (.slice x (borderF l m C n).length y) ∧ Own w.heap.size w' x y (borderF l m C n) ∧ Below w.heap.size w w' := by
  cases h : nbB l m C n
  · have hcall := fun t => impl.NbOk_c a c l b d m C T L n (w.alloc (.cells #[.slice a l.length c, .slice b m.length d, .int .i64 C, .bool T, .bool L] t)) hl (hr.alloc _) hw hm (hs.alloc _) hu hC
    simp only [h] at hcall
    have HC := Lib.hid hcall
    have hf : borderF l m C n = [] := by simp [borderF, h]
    rw [hf]
    clear hcall h hl hr hw hm hs hu hC hcl hcm hf
    go_enter Try.func13, Try.ntmps13
    go_wp2_with fail
    refine (HC.out _).mono ?_
    rintro e w1 ⟨rfl, hb⟩
    have HB : Hid (Below w.heap.size w w1) := Lib.hid (((Below.refl w.heap.size w).alloc (Nat.le_refl _) _).trans (hb.mono (by simp)))
    clear hb
    go_wp2
    go_ret
    exact ⟨none, 0, rfl, Own.none_ _ _, HB.out⟩
  · have hf : borderF l m C n = borderL l m C n.toNat := by simp [borderF, h]
    rw [hf, borderL_len]
    rcases (nbB_true h).1 with rfl | rfl
    · exact impl.Border_4 a c l b d m C T L w (nb_all hr hs h) h hcl
    · exact impl.Border_8 a c l b d m C T L w (nb_all hr hs h) h hcl


set_option maxHeartbeats 2000000 in
theorem spec.Border_4 (a : Option Addr) (c : Nat) (l : List Int) (b : Option Addr) (d : Nat) (m : List Int) (C : Int) (T L : Bool) (w : World) (hN : NbAll w a l b m 4) (hok : nbB l m C 4 = true) (hcl : l.length ≤ c) :
    Calls Try.prog 76 #[nbv a l.length c b m.length d C T L, .int .i64 4] w fun e w' => ∃ x y, e = .returned (.slice x 9 y) ∧ Own w.heap.size w' x y (borderL l m C 4) ∧ Below w.heap.size w w' := by
  obtain ⟨hl, hm, hr, hs, htl, htm⟩ := hN
  have hcall := fun (w0 : World) (h1 : Row w0 a l) (h2 : Row w0 b m) => spec.NbOk_4 a c l b d m C T L w0 (by omega) h1 (by omega) h2
  have HS : Hid (∀ w0, Below w.heap.size w w0 → Row w0 a l ∧ Row w0 b m) := Lib.hid (fun w0 h => ⟨hr.below h (Nat.le_refl _), hs.below h (Nat.le_refl _)⟩)
  obtain ⟨p1, o1, rfl, hb1, hc1⟩ := hr.inside (by omega)
  obtain ⟨p2, o2, rfl, hb2, hc2⟩ := hs.inside (by omega)
  have HC1 : Hid (∀ w0, Below w.heap.size w w0 → ∀ i, i < 8 → w0.cell? ⟨p1, o1 + i, none⟩ = some (.int .i64 (l.getD i 0))) := Lib.hid (fun w0 h i hi => (bcell h _ _ hb1).trans (hc1 i (by omega)))
  have HC2 : Hid (∀ w0, Below w.heap.size w w0 → ∀ i, i < 4 → w0.cell? ⟨p2, o2 + i, none⟩ = some (.int .i64 (m.getD i 0))) := Lib.hid (fun w0 h i hi => (bcell h _ _ hb2).trans (hc2 i (by omega)))
  simp only [hok] at hcall
  rw [hl, hm] at hcall ⊢
  rw [hl] at hcl
  have HC := Lib.hid hcall
  clear hcall hr hs hc1 hc2 hl hm htl htm hok
  go_enter Try.func76, Try.ntmps76
  go_wp2_with fail
  obtain ⟨W0, hW0⟩ : ∃ WW, WW = (w.alloc (.cells #[.slice (some ⟨p1, o1, none⟩) 8 c, .slice (some ⟨p2, o2, none⟩) 4 d, .int .i64 C, .bool T, .bool L] 27)).alloc (.cells #[] 3) := ⟨_, rfl⟩
  rw [← hW0]
  have P0 : Box5 W0 w.heap.size (.slice (some ⟨p1, o1, none⟩) 8 c) (.slice (some ⟨p2, o2, none⟩) 4 d) (.int .i64 C) (.bool T) (.bool L) := by
    rw [hW0]; exact (Box5.new w _ _ _ _ _ _).below ((Below.refl _ _).alloc (Nat.le_refl _) _) (Nat.le_refl _)
  have HB0 : Hid (Below w.heap.size w W0) := Lib.hid (by rw [hW0]; exact ((Below.refl w.heap.size w).alloc (Nat.le_refl _) _).alloc (by simp) _)
  have HO0 : Hid (Own (w.heap.size + 1) W0 (some ⟨w.heap.size + 1, 0, none⟩) 0 []) := Lib.hid (by
    have h := Own.lit (B := w.heap.size + 1) (w.alloc (.cells #[.slice (some ⟨p1, o1, none⟩) 8 c, .slice (some ⟨p2, o2, none⟩) 4 d, .int .i64 C, .bool T, .bool L] 27)) #[] [] rfl (by simp) (by simp [maxLen])
    rw [hW0]; simpa using h)
  clear hW0
  refine (HC.out W0 (HS.out W0 HB0.out).1 (HS.out W0 HB0.out).2).mono ?_
  rintro e w1 ⟨rfl, hb⟩
  have P1 := P0.below hb (Nat.le_refl _)
  have HB : Hid (Below w.heap.size w w1) := Lib.hid (HB0.out.trans (hb.mono HB0.out.size))
  have HO1 := Lib.hid (HO0.out.below hb (Nat.le_refl _))
  clear hb P0 HO0 HB0
  go_wp2
  go_loopw [5, 6] (fun o i wr => ∃ (k : Nat) (ad : Option Addr) (cc : Nat), k ≤ 4 ∧ i = .int .i64 (4 - 1 - (k : Int)) ∧ o = .slice ad k cc ∧ Own (w.heap.size + 1) wr ad cc (tab (fun i => m.getD (4 - 1 - i) 0) k) ∧ Below w.heap.size w wr ∧ Box5 wr w.heap.size (.slice (some ⟨p1, o1, none⟩) 8 c) (.slice (some ⟨p2, o2, none⟩) 4 d) (.int .i64 C) (.bool T) (.bool L)) (fun _ i _ => (intOf i + 1).toNat)
  case atStart => exact ⟨0, _, _, Nat.zero_le _, rfl, rfl, HO1.out, HB.out, P1⟩
  case round =>
    clear P1 HO1 HB
    obtain ⟨k, ad, cc, hk, rfl, rfl, hown, hb, P⟩ := hrel
    have hwz : w.heap.size + 1 ≤ wr.heap.size := P.1
    have hP := P
    obtain ⟨_, q0, q1, q2, q3, q4⟩ := hP
    have HP := Lib.hid P
    clear P
    by_cases hlt : k < 4
    · obtain ⟨j, hj⟩ : ∃ j, j = 4 - 1 - k := ⟨_, rfl⟩
      have hjI : (4 - 1 - (k : Int)) = (j : Int) := by omega
      have HJ := Lib.hid hjI
      rw [hjI]
      have hcell := HC2.out wr hb j (by omega)
      have hjl : (j : Int) < 4 := by omega
      have HY : Hid (tab (fun i => m.getD (4 - 1 - i) 0) (k + 1) = tab (fun i => m.getD (4 - 1 - i) 0) k ++ [m.getD j 0]) := Lib.hid (by rw [tab_succ, hj])
      have H1 := Lib.hid hown
      have H2 := Lib.hid hb
      clear hown hb hj hjI
      generalize m.getD j 0 = x at *
      have hkb : k ≤ 1099511627776 := by omega
      go_wp2_with (at_builtin; refine append_one Try.underlying25 Try.infoInt rfl (.tmp 19) (.tmp 25) rfl (w.heap.size + 1) ad cc k (tab (fun i => m.getD (4 - 1 - i) 0) k) (tab_len _ _) rfl (H1.out.alloc _) wr.heap.size x rfl ?_ ?_ ?_ ?_; (simp); (omega); (simp; omega); intro ad1 cc1 w2 ho2 hb2)
      rw [← HY.out] at ho2
      have H3 := Lib.hid ho2
      have H4 : Hid (Below w.heap.size w w2) := Lib.hid ((H2.out.alloc H2.out.size _).trans (hb2.mono (by omega)))
      have H5 : Hid (Box5 w2 w.heap.size (.slice (some ⟨p1, o1, none⟩) 8 c) (.slice (some ⟨p2, o2, none⟩) 4 d) (.int .i64 C) (.bool T) (.bool L)) := Lib.hid (by
        have h := HP.out.below ((Below.refl _ _).alloc (Nat.le_refl _) (Obj.cells #[.int .i64 x] 3)) (Nat.le_refl _)
        obtain ⟨a0, a1, a2, a3, a4, a5⟩ := h
        exact ⟨Nat.lt_of_lt_of_le a0 hb2.size, (bcell hb2 _ _ (by omega)).trans a1, (bcell hb2 _ _ (by omega)).trans a2, (bcell hb2 _ _ (by omega)).trans a3, (bcell hb2 _ _ (by omega)).trans a4, (bcell hb2 _ _ (by omega)).trans a5⟩)
      clear ho2 hb2 q0 q1 q2 q3 q4
      go_wp2
      go_roundw
      case rel => exact ⟨k + 1, ad1, cc1, by omega, by rw [show (4 - 1 - ((k + 1 : Nat) : Int)) = (j : Int) - 1 from by have := HJ.out; omega], rfl, H3.out, H4.out, H5.out⟩
      case measure => simp [intOf]
    · obtain rfl : k = 4 := by omega
      have hRow : Row wr (some ⟨p1, o1, none⟩) (tab (fun i => l.getD i 0) 4) := Row.front (fun i hi => HC1.out wr hb i (by omega))
      have hci : (4 : Int) ≤ (c : Int) := by omega
      have hci2 : 4 ≤ c := by omega
      have H1 := Lib.hid hown
      have H2 := Lib.hid hb
      have HRow := Lib.hid hRow
      clear hown hb hRow
      go_wp2_with (first
        | (at_builtin; refine append_one Try.underlying25 Try.infoInt rfl (.tmp 27) (.tmp 30) rfl (w.heap.size + 1) ad cc 4 (tab (fun i => m.getD (4 - 1 - i) 0) 4) (tab_len _ _) rfl (H1.out.alloc _) wr.heap.size C rfl ?_ ?_ ?_ ?_; (simp); (omega); (simp; omega); intro ad1 cc1 w2 ho2 hb2; have hk0 := (bcell hb2 w.heap.size 0 (by omega)).trans ((bcell ((Below.refl _ _).alloc (Nat.le_refl _) (Obj.cells #[.int .i64 C] 3)) w.heap.size 0 (by omega)).trans q0); have HRow2 := Lib.hid ((HRow.out.alloc (Obj.cells #[.int .i64 C] 3)).under hb2 (by intro p hp; cases hp; show p1 < _; omega)); have HB2 : Hid (Below w.heap.size w w2) := Lib.hid ((H2.out.alloc H2.out.size _).trans (hb2.mono (by omega))); have HO2 := Lib.hid ho2; have hsz2 : w.heap.size + 1 ≤ w2.heap.size := (by have := hb2.size; simp at this; omega); clear ho2 hb2)
        | (at_builtin; go_loud (refine append_many Try.underlying25 Try.infoInt rfl (.tmp 32) (.tmp 36) rfl (w.heap.size + 1) ad1 cc1 (4 + 1) (tab (fun i => m.getD (4 - 1 - i) 0) 4 ++ [C]) (by simp [tab_len]) rfl HO2.out ⟨p1, o1, none⟩ 4 c (tab (fun i => l.getD i 0) 4) (tab_len _ _) rfl HRow2.out ?_ ?_ ?_); (omega); (omega); intro ad2 cc2 w3 ho3 hb3))
      go_ret
      exact ⟨ad2, cc2, rfl, Own.mono (Own.of_eq ho3 rfl) (by omega), HB2.out.trans (hb3.mono (by omega))⟩
set_option maxHeartbeats 2000000 in
theorem spec.Border_8 (a : Option Addr) (c : Nat) (l : List Int) (b : Option Addr) (d : Nat) (m : List Int) (C : Int) (T L : Bool) (w : World) (hN : NbAll w a l b m 8) (hok : nbB l m C 8 = true) (hcl : l.length ≤ c) :
    Calls Try.prog 76 #[nbv a l.length c b m.length d C T L, .int .i64 8] w fun e w' => ∃ x y, e = .returned (.slice x 17 y) ∧ Own w.heap.size w' x y (borderL l m C 8) ∧ Below w.heap.size w w' := by
  obtain ⟨hl, hm, hr, hs, htl, htm⟩ := hN
  have hcall := fun (w0 : World) (h1 : Row w0 a l) (h2 : Row w0 b m) => spec.NbOk_8 a c l b d m C T L w0 (by omega) h1 (by omega) h2
  have HS : Hid (∀ w0, Below w.heap.size w w0 → Row w0 a l ∧ Row w0 b m) := Lib.hid (fun w0 h => ⟨hr.below h (Nat.le_refl _), hs.below h (Nat.le_refl _)⟩)
  obtain ⟨p1, o1, rfl, hb1, hc1⟩ := hr.inside (by omega)
  obtain ⟨p2, o2, rfl, hb2, hc2⟩ := hs.inside (by omega)
  have HC1 : Hid (∀ w0, Below w.heap.size w w0 → ∀ i, i < 16 → w0.cell? ⟨p1, o1 + i, none⟩ = some (.int .i64 (l.getD i 0))) := Lib.hid (fun w0 h i hi => (bcell h _ _ hb1).trans (hc1 i (by omega)))
  have HC2 : Hid (∀ w0, Below w.heap.size w w0 → ∀ i, i < 8 → w0.cell? ⟨p2, o2 + i, none⟩ = some (.int .i64 (m.getD i 0))) := Lib.hid (fun w0 h i hi => (bcell h _ _ hb2).trans (hc2 i (by omega)))
  simp only [hok] at hcall
  rw [hl, hm] at hcall ⊢
  rw [hl] at hcl
  have HC := Lib.hid hcall
  clear hcall hr hs hc1 hc2 hl hm htl htm hok
  go_enter Try.func76, Try.ntmps76
  go_wp2_with fail
  obtain ⟨W0, hW0⟩ : ∃ WW, WW = (w.alloc (.cells #[.slice (some ⟨p1, o1, none⟩) 16 c, .slice (some ⟨p2, o2, none⟩) 8 d, .int .i64 C, .bool T, .bool L] 27)).alloc (.cells #[] 3) := ⟨_, rfl⟩
  rw [← hW0]
  have P0 : Box5 W0 w.heap.size (.slice (some ⟨p1, o1, none⟩) 16 c) (.slice (some ⟨p2, o2, none⟩) 8 d) (.int .i64 C) (.bool T) (.bool L) := by
    rw [hW0]; exact (Box5.new w _ _ _ _ _ _).below ((Below.refl _ _).alloc (Nat.le_refl _) _) (Nat.le_refl _)
  have HB0 : Hid (Below w.heap.size w W0) := Lib.hid (by rw [hW0]; exact ((Below.refl w.heap.size w).alloc (Nat.le_refl _) _).alloc (by simp) _)
  have HO0 : Hid (Own (w.heap.size + 1) W0 (some ⟨w.heap.size + 1, 0, none⟩) 0 []) := Lib.hid (by
    have h := Own.lit (B := w.heap.size + 1) (w.alloc (.cells #[.slice (some ⟨p1, o1, none⟩) 16 c, .slice (some ⟨p2, o2, none⟩) 8 d, .int .i64 C, .bool T, .bool L] 27)) #[] [] rfl (by simp) (by simp [maxLen])
    rw [hW0]; simpa using h)
  clear hW0
  refine (HC.out W0 (HS.out W0 HB0.out).1 (HS.out W0 HB0.out).2).mono ?_
  rintro e w1 ⟨rfl, hb⟩
  have P1 := P0.below hb (Nat.le_refl _)
  have HB : Hid (Below w.heap.size w w1) := Lib.hid (HB0.out.trans (hb.mono HB0.out.size))
  have HO1 := Lib.hid (HO0.out.below hb (Nat.le_refl _))
  clear hb P0 HO0 HB0
  go_wp2
  go_loopw [5, 6] (fun o i wr => ∃ (k : Nat) (ad : Option Addr) (cc : Nat), k ≤ 8 ∧ i = .int .i64 (8 - 1 - (k : Int)) ∧ o = .slice ad k cc ∧ Own (w.heap.size + 1) wr ad cc (tab (fun i => m.getD (8 - 1 - i) 0) k) ∧ Below w.heap.size w wr ∧ Box5 wr w.heap.size (.slice (some ⟨p1, o1, none⟩) 16 c) (.slice (some ⟨p2, o2, none⟩) 8 d) (.int .i64 C) (.bool T) (.bool L)) (fun _ i _ => (intOf i + 1).toNat)
  case atStart => exact ⟨0, _, _, Nat.zero_le _, rfl, rfl, HO1.out, HB.out, P1⟩
  case round =>
    clear P1 HO1 HB
    obtain ⟨k, ad, cc, hk, rfl, rfl, hown, hb, P⟩ := hrel
    have hwz : w.heap.size + 1 ≤ wr.heap.size := P.1
    have hP := P
    obtain ⟨_, q0, q1, q2, q3, q4⟩ := hP
    have HP := Lib.hid P
    clear P
    by_cases hlt : k < 8
    · obtain ⟨j, hj⟩ : ∃ j, j = 8 - 1 - k := ⟨_, rfl⟩
      have hjI : (8 - 1 - (k : Int)) = (j : Int) := by omega
      have HJ := Lib.hid hjI
      rw [hjI]
      have hcell := HC2.out wr hb j (by omega)
      have hjl : (j : Int) < 8 := by omega
      have HY : Hid (tab (fun i => m.getD (8 - 1 - i) 0) (k + 1) = tab (fun i => m.getD (8 - 1 - i) 0) k ++ [m.getD j 0]) := Lib.hid (by rw [tab_succ, hj])
      have H1 := Lib.hid hown
      have H2 := Lib.hid hb
      clear hown hb hj hjI
      generalize m.getD j 0 = x at *
      have hkb : k ≤ 1099511627776 := by omega
      go_wp2_with (at_builtin; refine append_one Try.underlying25 Try.infoInt rfl (.tmp 19) (.tmp 25) rfl (w.heap.size + 1) ad cc k (tab (fun i => m.getD (8 - 1 - i) 0) k) (tab_len _ _) rfl (H1.out.alloc _) wr.heap.size x rfl ?_ ?_ ?_ ?_; (simp); (omega); (simp; omega); intro ad1 cc1 w2 ho2 hb2)
      rw [← HY.out] at ho2
      have H3 := Lib.hid ho2
      have H4 : Hid (Below w.heap.size w w2) := Lib.hid ((H2.out.alloc H2.out.size _).trans (hb2.mono (by omega)))
      have H5 : Hid (Box5 w2 w.heap.size (.slice (some ⟨p1, o1, none⟩) 16 c) (.slice (some ⟨p2, o2, none⟩) 8 d) (.int .i64 C) (.bool T) (.bool L)) := Lib.hid (by
        have h := HP.out.below ((Below.refl _ _).alloc (Nat.le_refl _) (Obj.cells #[.int .i64 x] 3)) (Nat.le_refl _)
        obtain ⟨a0, a1, a2, a3, a4, a5⟩ := h
        exact ⟨Nat.lt_of_lt_of_le a0 hb2.size, (bcell hb2 _ _ (by omega)).trans a1, (bcell hb2 _ _ (by omega)).trans a2, (bcell hb2 _ _ (by omega)).trans a3, (bcell hb2 _ _ (by omega)).trans a4, (bcell hb2 _ _ (by omega)).trans a5⟩)
      clear ho2 hb2 q0 q1 q2 q3 q4
      go_wp2
      go_roundw
      case rel => exact ⟨k + 1, ad1, cc1, by omega, by rw [show (8 - 1 - ((k + 1 : Nat) : Int)) = (j : Int) - 1 from by have := HJ.out; omega], rfl, H3.out, H4.out, H5.out⟩
      case measure => simp [intOf]
    · obtain rfl : k = 8 := by omega
      have hRow : Row wr (some ⟨p1, o1, none⟩) (tab (fun i => l.getD i 0) 8) := Row.front (fun i hi => HC1.out wr hb i (by omega))
      have hci : (8 : Int) ≤ (c : Int) := by omega
      have hci2 : 8 ≤ c := by omega
      have H1 := Lib.hid hown
      have H2 := Lib.hid hb
      have HRow := Lib.hid hRow
      clear hown hb hRow
      go_wp2_with (first
        | (at_builtin; refine append_one Try.underlying25 Try.infoInt rfl (.tmp 27) (.tmp 30) rfl (w.heap.size + 1) ad cc 8 (tab (fun i => m.getD (8 - 1 - i) 0) 8) (tab_len _ _) rfl (H1.out.alloc _) wr.heap.size C rfl ?_ ?_ ?_ ?_; (simp); (omega); (simp; omega); intro ad1 cc1 w2 ho2 hb2; have hk0 := (bcell hb2 w.heap.size 0 (by omega)).trans ((bcell ((Below.refl _ _).alloc (Nat.le_refl _) (Obj.cells #[.int .i64 C] 3)) w.heap.size 0 (by omega)).trans q0); have HRow2 := Lib.hid ((HRow.out.alloc (Obj.cells #[.int .i64 C] 3)).under hb2 (by intro p hp; cases hp; show p1 < _; omega)); have HB2 : Hid (Below w.heap.size w w2) := Lib.hid ((H2.out.alloc H2.out.size _).trans (hb2.mono (by omega))); have HO2 := Lib.hid ho2; have hsz2 : w.heap.size + 1 ≤ w2.heap.size := (by have := hb2.size; simp at this; omega); clear ho2 hb2)
        | (at_builtin; go_loud (refine append_many Try.underlying25 Try.infoInt rfl (.tmp 32) (.tmp 36) rfl (w.heap.size + 1) ad1 cc1 (8 + 1) (tab (fun i => m.getD (8 - 1 - i) 0) 8 ++ [C]) (by simp [tab_len]) rfl HO2.out ⟨p1, o1, none⟩ 8 c (tab (fun i => l.getD i 0) 8) (tab_len _ _) rfl HRow2.out ?_ ?_ ?_); (omega); (omega); intro ad2 cc2 w3 ho3 hb3))
      go_ret
      exact ⟨ad2, cc2, rfl, Own.mono (Own.of_eq ho3 rfl) (by omega), HB2.out.trans (hb3.mono (by omega))⟩
set_option maxHeartbeats 1000000 in
theorem spec.Border_c (a : Option Addr) (c : Nat) (l : List Int) (b : Option Addr) (d : Nat) (m : List Int) (C : Int) (T L : Bool) (n : Int) (w : World) (hl : l.length ≤ 1099511627776) (hr : Row w a l) (hw : ∀ x ∈ l, -9223372036854775808 ≤ x ∧ x ≤ 9223372036854775807) (hm : m.length ≤ 1099511627776) (hs : Row w b m) (hu : ∀ x ∈ m, -9223372036854775808 ≤ x ∧ x ≤ 9223372036854775807) (hC : -9223372036854775808 ≤ C ∧ C ≤ 9223372036854775807) (hcl : l.length ≤ c) (hcm : m.length ≤ d) :
    Calls Try.prog 76 #[nbv a l.length c b m.length d C T L, .int .i64 n] w fun e w' => ∃ x y, e = .returned (.slice x (borderF l m C n).length y) ∧ Own w.heap.size w' x y (borderF l m C n) ∧ Below w.heap.size w w' := by
  cases h : nbB l m C n
  · have hcall := fun t => spec.NbOk_c a c l b d m C T L n ((w.alloc (.cells #[.slice a l.length c, .slice b m.length d, .int .i64 C, .bool T, .bool L] t)).alloc (.cells #[] 3)) hl ((hr.alloc _).alloc _) hw hm ((hs.alloc _).alloc _) hu hC
    simp only [h] at hcall
    have HC := Lib.hid hcall
    have hf : borderF l m C n = [] := by simp [borderF, h]
    rw [hf]
    clear hcall h hl hr hw hm hs hu hC hcl hcm hf
    go_enter Try.func76, Try.ntmps76
    go_wp2_with fail
    refine (HC.out _).mono ?_
    rintro e w1 ⟨rfl, hb⟩
    have HB : Hid (Below w.heap.size w w1) := Lib.hid ((((Below.refl w.heap.size w).alloc (Nat.le_refl _) _).alloc (by simp) _).trans (hb.mono (by simp; omega)))
    have HO : Hid (Own w.heap.size w1 (some ⟨w.heap.size + 1, 0, none⟩) 0 []) := Lib.hid (by
      have h := Own.lit (B := w.heap.size) (w.alloc (.cells #[.slice a l.length c, .slice b m.length d, .int .i64 C, .bool T, .bool L] 27)) #[] [] rfl (by simp) (by simp [maxLen])
      have h2 := h.below hb (Nat.le_refl _)
      simpa using h2)
    clear hb
    go_wp2
    go_ret
    exact ⟨_, _, rfl, HO.out, HB.out⟩
  · have hf : borderF l m C n = borderL l m C n.toNat := by simp [borderF, h]
    rw [hf, borderL_len]
    rcases (nbB_true h).1 with rfl | rfl
    · exact spec.Border_4 a c l b d m C T L w (nb_all hr hs h) h hcl
    · exact spec.Border_8 a c l b d m C T L w (nb_all hr hs h) h hcl

end Go.Proofs.Ytbdggcefgiehkaa
