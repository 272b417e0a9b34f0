/- Contracts: the reference's prediction by rows. -/
import Derived.Test.YtnbkkhaahfnlfaaPredS
import Derived.Test.YtnbkkhaahfnlfaaSlope
import Derived.Test.YtnbkkhaahfnlfaaSoft
namespace Go.Proofs.Ytnbkkhaahfnlfaa
open Go.RowKit
set_option linter.unusedVariables false

def rowV (l m : List Int) (C : Int) (T L : Bool) (n : Nat) (mode : Int) (y : Nat) : List Int := tab (fun x => predV l m C T L n mode x y) n
/-- what was smoothed once for all rows -/
def softOk (l m : List Int) (C : Int) (n : Nat) (mode : Int) (S : List Int) : Prop :=
  S.length = 2 * n - 1 ∧ (mode = 4 → ∀ i, i < 2 * n - 1 → S.getD i 0 = softF (l.getD i 0) (l.getD (min (i + 1) (2 * n - 1)) 0) (l.getD (min (i + 2) (2 * n - 1)) 0)) ∧
  (mode = 5 → ∀ i, i < 2 * n - 1 → S.getD i 0 = softF ((borderL l m C n).getD i 0) ((borderL l m C n).getD (i + 1) 0) ((borderL l m C n).getD (i + 2) 0))
theorem clipF_id {x : Int} (h : 0 ≤ x ∧ x ≤ 255) : clipF 0 255 x = x := by unfold clipF; omega
theorem soft_border {l m : List Int} {C : Int} {n : Nat} {mode : Int} (h4 : mode ≠ 4) (hb : ∀ i, i < 2 * n + 1 → 0 ≤ (borderL l m C n).getD i 0 ∧ (borderL l m C n).getD i 0 ≤ 255) : softOk l m C n mode (softL (borderL l m C n)) := by
  refine ⟨by rw [softL, tab_len, borderL_len]; omega, fun h => absurd h h4, fun _ i hi => ?_⟩
  rw [softL, borderL_len, tab_getD _ _ _ (by omega), softAt, clipF_id (hb i (by omega)), clipF_id (hb (i + 1) (by omega)), clipF_id (hb (i + 2) (by omega))]
theorem snoc_getD (l : List Int) (v : Int) (i : Nat) : (l ++ [v]).getD i 0 = if i < l.length then l.getD i 0 else if i = l.length then v else 0 := by
  simp only [List.getD_eq_getElem?_getD, List.getElem?_append]
  by_cases h : i < l.length
  · rw [if_pos h, if_pos h]
  · rw [if_neg h, if_neg h]
    by_cases h2 : i = l.length
    · subst h2; simp
    · rw [if_neg h2]
      have : [v][i - l.length]? = none := by rw [List.getElem?_eq_none_iff]; simp; omega
      rw [this]; rfl
theorem soft_top {l m : List Int} {C : Int} {n : Nat} (hn : 0 < n) (hl : l.length = 2 * n) (ht : ∀ i, i < 2 * n → 0 ≤ l.getD i 0 ∧ l.getD i 0 ≤ 255) : softOk l m C n 4 (softL (l ++ [l.getD (2 * n - 1) 0])) := by
  refine ⟨by rw [softL, tab_len]; simp; omega, fun _ i hi => ?_, fun h => by cases h⟩
  have e : (l ++ [l.getD (2 * n - 1) 0]).length = 2 * n + 1 := by simp [hl]
  have g : ∀ j, j < 2 * n + 1 → (l ++ [l.getD (2 * n - 1) 0]).getD j 0 = l.getD (min j (2 * n - 1)) 0 := by
    intro j hj
    rw [snoc_getD, hl]
    by_cases h : j < 2 * n
    · rw [if_pos h]; congr 1; omega
    · rw [if_neg h, if_pos (by omega)]; congr 1; omega
  have b : ∀ j, 0 ≤ l.getD (min j (2 * n - 1)) 0 ∧ l.getD (min j (2 * n - 1)) 0 ≤ 255 := fun j => ht _ (by omega)
  rw [softL, e, tab_getD _ _ _ (by omega), softAt, g i (by omega), g (i + 1) (by omega), g (i + 2) (by omega), clipF_id (b _), clipF_id (b _), clipF_id (b _)]
  congr 2
  omega


set_option maxHeartbeats 4000000 in
theorem spec.l17Row_4_0 (a : Option Addr) (c : Nat) (l : List Int) (b : Option Addr) (d : Nat) (m : List Int) (C : Int) (T L : Bool) (Y : Nat) (sg sc : Nat) (S : List Int) (w : World) (hN : NbAll w a l b m 4) (hok : nbB l m C 4 = true) (hcl : l.length ≤ c) (hY : Y < 4) (hS : softOk l m C 4 0 S) (hsc : 7 ≤ sc) (hsr : ∀ i, i < 7 → w.cell? ⟨sg, i, none⟩ = some (.int .i64 (S.getD i 0))) (hsg : sg < w.heap.size) :
    Calls Try.prog 49 #[.int .i64 0, nbv a l.length c b m.length d C T L, .int .i64 4, .int .i64 Y, .slice (some ⟨sg, 0, none⟩) 7 sc] w fun e w' => ∃ p z, e = .returned (.slice (some p) 4 z) ∧ Row w' (some p) (rowV l m C T L 4 0 Y) ∧ Below w.heap.size w w' := by
  have HN : Hid (∀ w0, Below w.heap.size w w0 → NbAll w0 a l b m 4) := Lib.hid (fun w0 h => ⟨hN.hl, hN.hm, hN.hr.below h (Nat.le_refl _), hN.hs.below h (Nat.le_refl _), hN.tl, hN.tm⟩)
  obtain ⟨hl, hm, hr, hs, htl, htm⟩ := hN
  have hmea := fun (w0 : World) (h : NbAll w0 a l b m 4) => spec.Mean_4 a c l b d m C T L w0 h hok hcl
  obtain ⟨p1, o1, rfl, hb1, hc1⟩ := hr.inside (by omega)
  obtain ⟨p2, o2, rfl, hb2, hc2⟩ := hs.inside (by omega)
  have HC1 : Hid (∀ w0, Below w.heap.size w w0 → ∀ i, i < 8 → w0.cell? ⟨p1, o1 + i, none⟩ = some (.int .i64 (l.getD i 0))) := Lib.hid (fun w0 h i hi => (bcell h _ _ hb1).trans (hc1 i (by omega)))
  have HC2 : Hid (∀ w0, Below w.heap.size w w0 → ∀ i, i < 4 → w0.cell? ⟨p2, o2 + i, none⟩ = some (.int .i64 (m.getD i 0))) := Lib.hid (fun w0 h i hi => (bcell h _ _ hb2).trans (hc2 i (by omega)))
  have HT1 := Lib.hid htl
  have HLL := Lib.hid hl
  rw [hl, hm] at hmea ⊢
  rw [hl] at hcl
  simp only [Nat.reduceMul] at hmea ⊢ hcl
  have HMEA := Lib.hid hmea
  clear hmea hr hs hc1 hc2 hl hm htl htm hok
  have HS := Lib.hid hS
  have HSR : Hid (∀ w0, Below w.heap.size w w0 → ∀ i, i < 7 → w0.cell? ⟨sg, i, none⟩ = some (.int .i64 (S.getD i 0))) := Lib.hid (fun w0 h i hi => (bcell h sg i hsg).trans (hsr i hi))
  clear hS hsr
  have HCY := HC2
  obtain ⟨v, hv⟩ : ∃ v, v = m.getD Y 0 := ⟨_, rfl⟩
  have HVY := Lib.hid hv
  clear hv
  have hyi : (Y : Int) < 4 := by omega
  go_enter Try.func49, Try.ntmps49
  have hcy := HC2.out ((w.alloc (.cells #[.slice (some ⟨p1, o1, none⟩) 8 c, .slice (some ⟨p2, o2, none⟩) 4 d, .int .i64 C, .bool T, .bool L] 27)).alloc (.cells #[] 3)) (((Below.refl w.heap.size w).alloc (Nat.le_refl _) _).alloc (by simp) _) Y hY
  rw [← HVY.out] at hcy
  go_wp2_with fail
  clear hcy
  obtain ⟨W0, hW0⟩ : ∃ WW, WW = (w.alloc (.cells #[.slice (some ⟨p1, o1, none⟩) 8 c, .slice (some ⟨p2, o2, none⟩) 4 d, .int .i64 C, .bool T, .bool L] 27)).alloc (.cells #[] 3) := ⟨_, rfl⟩
  rw [← hW0]
  have HB0 : Hid (Below w.heap.size w W0) := Lib.hid (by rw [hW0]; exact ((Below.refl w.heap.size w).alloc (Nat.le_refl _) _).alloc (by simp) _)
  have HO0 : Hid (Own (w.heap.size + 1) W0 (some ⟨w.heap.size + 1, 0, none⟩) 0 []) := Lib.hid (by
    have h := Own.lit (B := w.heap.size + 1) (w.alloc (.cells #[.slice (some ⟨p1, o1, none⟩) 8 c, .slice (some ⟨p2, o2, none⟩) 4 d, .int .i64 C, .bool T, .bool L] 27)) #[] [] rfl (by simp) (by simp [maxLen])
    rw [hW0]; simpa using h)
  clear hW0
  refine (HMEA.out W0 (HN.out W0 HB0.out)).mono ?_
  rintro e w1 ⟨rfl, hb⟩
  have HB : Hid (Below w.heap.size w w1) := Lib.hid (HB0.out.trans (hb.mono HB0.out.size))
  have HO := Lib.hid (HO0.out.below hb (Nat.le_refl _))
  have HZ : Hid (w.heap.size + 1 ≤ w1.heap.size) := Lib.hid (Nat.le_of_lt (HO.out.lt _ rfl).2)
  have HVV : Hid (∀ x, predV l m C T L 4 0 x Y = meanV l m T L 4) := Lib.hid (fun _ => rfl)
  clear hb HO0 HB0
  generalize meanV l m T L 4 = v at *
  go_wp2
  go_loopw [11, 13] (fun o i wr => ∃ (k : Nat) (ad : Option Addr) (cc : Nat), k ≤ 4 ∧ i = .int .i64 k ∧ o = .slice ad k cc ∧ Own (w.heap.size + 1) wr ad cc (tab (fun x => predV l m C T L 4 0 x Y) k) ∧ Below w.heap.size w wr ∧ w.heap.size + 1 ≤ wr.heap.size) (fun _ i _ => 4 - (intOf i).toNat)
  case atStart => exact ⟨0, _, _, Nat.zero_le _, rfl, rfl, HO.out, HB.out, HZ.out⟩
  case round =>
    clear HO HB HZ
    obtain ⟨k, ad, cc, hk, rfl, rfl, hown, hb, hz⟩ := hrel
    have H1 := Lib.hid hown
    have H2 := Lib.hid hb
    clear hown hb
    by_cases hlt : k < 4
    · have hkb : k ≤ 1099511627776 := by omega
      go_wp2_with (at_builtin; refine append_one Try.underlying22 Try.infoInt rfl (.tmp 64) (.tmp 66) rfl (w.heap.size + 1) ad cc k (tab (fun x => predV l m C T L 4 0 x Y) k) (tab_len _ _) rfl (H1.out.alloc _) wr.heap.size v rfl ?_ ?_ ?_ ?_; (simp); (omega); (simp; omega); intro ad1 cc1 w2 ho2 hb2)
      rw [show ([v] : List Int) = [predV l m C T L 4 0 k Y] from by rw [HVV.out], ← tab_succ (fun x => predV l m C T L 4 0 x Y)] at ho2
      have H3 := Lib.hid ho2
      have H4 : Hid (Below w.heap.size w w2) := Lib.hid ((H2.out.alloc H2.out.size _).trans (hb2.mono (by omega)))
      have HZ2 : Hid (w.heap.size + 1 ≤ w2.heap.size) := Lib.hid (by have := hb2.size; simp at this; omega)
      clear ho2 hb2
      go_wp2
      go_roundw
      case rel => exact ⟨k + 1, ad1, cc1, by omega, by go_num, rfl, H3.out, H4.out, HZ2.out⟩
      case measure => simp [intOf]; omega
    · obtain rfl : k = 4 := by omega
      obtain ⟨g, rfl, _⟩ := H1.out.at_ (i := 0) (by rw [tab_len]; omega)
      go_wp2
      go_ret
      exact ⟨_, _, rfl, H1.out.row, H2.out⟩
set_option maxHeartbeats 4000000 in
theorem spec.l17Row_4_1 (a : Option Addr) (c : Nat) (l : List Int) (b : Option Addr) (d : Nat) (m : List Int) (C : Int) (T L : Bool) (Y : Nat) (sg sc : Nat) (S : List Int) (w : World) (hN : NbAll w a l b m 4) (hok : nbB l m C 4 = true) (hcl : l.length ≤ c) (hY : Y < 4) (hS : softOk l m C 4 1 S) (hsc : 7 ≤ sc) (hsr : ∀ i, i < 7 → w.cell? ⟨sg, i, none⟩ = some (.int .i64 (S.getD i 0))) (hsg : sg < w.heap.size) :
    Calls Try.prog 49 #[.int .i64 1, nbv a l.length c b m.length d C T L, .int .i64 4, .int .i64 Y, .slice (some ⟨sg, 0, none⟩) 7 sc] w fun e w' => ∃ p z, e = .returned (.slice (some p) 4 z) ∧ Row w' (some p) (rowV l m C T L 4 1 Y) ∧ Below w.heap.size w w' := by
  have HN : Hid (∀ w0, Below w.heap.size w w0 → NbAll w0 a l b m 4) := Lib.hid (fun w0 h => ⟨hN.hl, hN.hm, hN.hr.below h (Nat.le_refl _), hN.hs.below h (Nat.le_refl _), hN.tl, hN.tm⟩)
  obtain ⟨hl, hm, hr, hs, htl, htm⟩ := hN
  obtain ⟨p1, o1, rfl, hb1, hc1⟩ := hr.inside (by omega)
  obtain ⟨p2, o2, rfl, hb2, hc2⟩ := hs.inside (by omega)
  have HC1 : Hid (∀ w0, Below w.heap.size w w0 → ∀ i, i < 8 → w0.cell? ⟨p1, o1 + i, none⟩ = some (.int .i64 (l.getD i 0))) := Lib.hid (fun w0 h i hi => (bcell h _ _ hb1).trans (hc1 i (by omega)))
  have HC2 : Hid (∀ w0, Below w.heap.size w w0 → ∀ i, i < 4 → w0.cell? ⟨p2, o2 + i, none⟩ = some (.int .i64 (m.getD i 0))) := Lib.hid (fun w0 h i hi => (bcell h _ _ hb2).trans (hc2 i (by omega)))
  have HT1 := Lib.hid htl
  have HLL := Lib.hid hl
  rw [hl, hm] at ⊢
  rw [hl] at hcl
  simp only [Nat.reduceMul] at ⊢ hcl
  clear hr hs hc1 hc2 hl hm htl htm hok
  have HS := Lib.hid hS
  have HSR : Hid (∀ w0, Below w.heap.size w w0 → ∀ i, i < 7 → w0.cell? ⟨sg, i, none⟩ = some (.int .i64 (S.getD i 0))) := Lib.hid (fun w0 h i hi => (bcell h sg i hsg).trans (hsr i hi))
  clear hS hsr
  have hci : (4 : Int) ≤ (c : Int) := by omega
  have hci2 : 4 ≤ c := by omega
  have HB0 : Hid (∀ o1 o2 : Obj, Below w.heap.size w ((w.alloc o1).alloc o2)) := Lib.hid (fun _ _ => ((Below.refl w.heap.size w).alloc (Nat.le_refl _) _).alloc (by simp) _)
  have HR : Hid (∀ w0, Below w.heap.size w w0 → Row w0 (some ⟨p1, o1, none⟩) (rowV l m C T L 4 1 Y)) := Lib.hid (fun w0 h => Row.front (l := l) (fun i hi => HC1.out w0 h i (by omega)))
  go_enter Try.func49, Try.ntmps49
  go_wp2
  go_ret
  exact ⟨_, _, rfl, HR.out _ (HB0.out _ _), HB0.out _ _⟩
set_option maxHeartbeats 4000000 in
theorem spec.l17Row_4_2 (a : Option Addr) (c : Nat) (l : List Int) (b : Option Addr) (d : Nat) (m : List Int) (C : Int) (T L : Bool) (Y : Nat) (sg sc : Nat) (S : List Int) (w : World) (hN : NbAll w a l b m 4) (hok : nbB l m C 4 = true) (hcl : l.length ≤ c) (hY : Y < 4) (hS : softOk l m C 4 2 S) (hsc : 7 ≤ sc) (hsr : ∀ i, i < 7 → w.cell? ⟨sg, i, none⟩ = some (.int .i64 (S.getD i 0))) (hsg : sg < w.heap.size) :
    Calls Try.prog 49 #[.int .i64 2, nbv a l.length c b m.length d C T L, .int .i64 4, .int .i64 Y, .slice (some ⟨sg, 0, none⟩) 7 sc] w fun e w' => ∃ p z, e = .returned (.slice (some p) 4 z) ∧ Row w' (some p) (rowV l m C T L 4 2 Y) ∧ Below w.heap.size w w' := by
  have HN : Hid (∀ w0, Below w.heap.size w w0 → NbAll w0 a l b m 4) := Lib.hid (fun w0 h => ⟨hN.hl, hN.hm, hN.hr.below h (Nat.le_refl _), hN.hs.below h (Nat.le_refl _), hN.tl, hN.tm⟩)
  obtain ⟨hl, hm, hr, hs, htl, htm⟩ := hN
  obtain ⟨p1, o1, rfl, hb1, hc1⟩ := hr.inside (by omega)
  obtain ⟨p2, o2, rfl, hb2, hc2⟩ := hs.inside (by omega)
  have HC1 : Hid (∀ w0, Below w.heap.size w w0 → ∀ i, i < 8 → w0.cell? ⟨p1, o1 + i, none⟩ = some (.int .i64 (l.getD i 0))) := Lib.hid (fun w0 h i hi => (bcell h _ _ hb1).trans (hc1 i (by omega)))
  have HC2 : Hid (∀ w0, Below w.heap.size w w0 → ∀ i, i < 4 → w0.cell? ⟨p2, o2 + i, none⟩ = some (.int .i64 (m.getD i 0))) := Lib.hid (fun w0 h i hi => (bcell h _ _ hb2).trans (hc2 i (by omega)))
  have HT1 := Lib.hid htl
  have HLL := Lib.hid hl
  rw [hl, hm] at ⊢
  rw [hl] at hcl
  simp only [Nat.reduceMul] at ⊢ hcl
  clear hr hs hc1 hc2 hl hm htl htm hok
  have HS := Lib.hid hS
  have HSR : Hid (∀ w0, Below w.heap.size w w0 → ∀ i, i < 7 → w0.cell? ⟨sg, i, none⟩ = some (.int .i64 (S.getD i 0))) := Lib.hid (fun w0 h i hi => (bcell h sg i hsg).trans (hsr i hi))
  clear hS hsr
  have HCY := HC2
  obtain ⟨v, hv⟩ : ∃ v, v = m.getD Y 0 := ⟨_, rfl⟩
  have HVY := Lib.hid hv
  clear hv
  have hyi : (Y : Int) < 4 := by omega
  go_enter Try.func49, Try.ntmps49
  have hcy := HC2.out ((w.alloc (.cells #[.slice (some ⟨p1, o1, none⟩) 8 c, .slice (some ⟨p2, o2, none⟩) 4 d, .int .i64 C, .bool T, .bool L] 27)).alloc (.cells #[] 3)) (((Below.refl w.heap.size w).alloc (Nat.le_refl _) _).alloc (by simp) _) Y hY
  rw [← HVY.out] at hcy
  go_wp2_with fail
  clear hcy
  obtain ⟨w1, hw1⟩ : ∃ WW, WW = (w.alloc (.cells #[.slice (some ⟨p1, o1, none⟩) 8 c, .slice (some ⟨p2, o2, none⟩) 4 d, .int .i64 C, .bool T, .bool L] 27)).alloc (.cells #[] 3) := ⟨_, rfl⟩
  rw [← hw1]
  have HB : Hid (Below w.heap.size w w1) := Lib.hid (by rw [hw1]; exact ((Below.refl w.heap.size w).alloc (Nat.le_refl _) _).alloc (by simp) _)
  have HO : Hid (Own (w.heap.size + 1) w1 (some ⟨w.heap.size + 1, 0, none⟩) 0 []) := Lib.hid (by
    have h := Own.lit (B := w.heap.size + 1) (w.alloc (.cells #[.slice (some ⟨p1, o1, none⟩) 8 c, .slice (some ⟨p2, o2, none⟩) 4 d, .int .i64 C, .bool T, .bool L] 27)) #[] [] rfl (by simp) (by simp [maxLen])
    rw [hw1]; simpa using h)
  have HZ : Hid (w.heap.size + 1 ≤ w1.heap.size) := Lib.hid (Nat.le_of_lt (HO.out.lt _ rfl).2)
  have HVV : Hid (∀ x, predV l m C T L 4 2 x Y = v) := Lib.hid (fun _ => HVY.out.symm)
  clear hw1
  go_loopw [11, 13] (fun o i wr => ∃ (k : Nat) (ad : Option Addr) (cc : Nat), k ≤ 4 ∧ i = .int .i64 k ∧ o = .slice ad k cc ∧ Own (w.heap.size + 1) wr ad cc (tab (fun x => predV l m C T L 4 2 x Y) k) ∧ Below w.heap.size w wr ∧ w.heap.size + 1 ≤ wr.heap.size) (fun _ i _ => 4 - (intOf i).toNat)
  case atStart => exact ⟨0, _, _, Nat.zero_le _, rfl, rfl, HO.out, HB.out, HZ.out⟩
  case round =>
    clear HO HB HZ
    obtain ⟨k, ad, cc, hk, rfl, rfl, hown, hb, hz⟩ := hrel
    have H1 := Lib.hid hown
    have H2 := Lib.hid hb
    clear hown hb
    by_cases hlt : k < 4
    · have hkb : k ≤ 1099511627776 := by omega
      go_wp2_with (at_builtin; refine append_one Try.underlying22 Try.infoInt rfl (.tmp 64) (.tmp 66) rfl (w.heap.size + 1) ad cc k (tab (fun x => predV l m C T L 4 2 x Y) k) (tab_len _ _) rfl (H1.out.alloc _) wr.heap.size v rfl ?_ ?_ ?_ ?_; (simp); (omega); (simp; omega); intro ad1 cc1 w2 ho2 hb2)
      rw [show ([v] : List Int) = [predV l m C T L 4 2 k Y] from by rw [HVV.out], ← tab_succ (fun x => predV l m C T L 4 2 x Y)] at ho2
      have H3 := Lib.hid ho2
      have H4 : Hid (Below w.heap.size w w2) := Lib.hid ((H2.out.alloc H2.out.size _).trans (hb2.mono (by omega)))
      have HZ2 : Hid (w.heap.size + 1 ≤ w2.heap.size) := Lib.hid (by have := hb2.size; simp at this; omega)
      clear ho2 hb2
      go_wp2
      go_roundw
      case rel => exact ⟨k + 1, ad1, cc1, by omega, by go_num, rfl, H3.out, H4.out, HZ2.out⟩
      case measure => simp [intOf]; omega
    · obtain rfl : k = 4 := by omega
      obtain ⟨g, rfl, _⟩ := H1.out.at_ (i := 0) (by rw [tab_len]; omega)
      go_wp2
      go_ret
      exact ⟨_, _, rfl, H1.out.row, H2.out⟩
set_option maxHeartbeats 4000000 in
theorem spec.l17Row_4_3 (a : Option Addr) (c : Nat) (l : List Int) (b : Option Addr) (d : Nat) (m : List Int) (C : Int) (T L : Bool) (Y : Nat) (sg sc : Nat) (S : List Int) (w : World) (hN : NbAll w a l b m 4) (hok : nbB l m C 4 = true) (hcl : l.length ≤ c) (hY : Y < 4) (hS : softOk l m C 4 3 S) (hsc : 7 ≤ sc) (hsr : ∀ i, i < 7 → w.cell? ⟨sg, i, none⟩ = some (.int .i64 (S.getD i 0))) (hsg : sg < w.heap.size) :
    Calls Try.prog 49 #[.int .i64 3, nbv a l.length c b m.length d C T L, .int .i64 4, .int .i64 Y, .slice (some ⟨sg, 0, none⟩) 7 sc] w fun e w' => ∃ p z, e = .returned (.slice (some p) 4 z) ∧ Row w' (some p) (rowV l m C T L 4 3 Y) ∧ Below w.heap.size w w' := by
  have HN : Hid (∀ w0, Below w.heap.size w w0 → NbAll w0 a l b m 4) := Lib.hid (fun w0 h => ⟨hN.hl, hN.hm, hN.hr.below h (Nat.le_refl _), hN.hs.below h (Nat.le_refl _), hN.tl, hN.tm⟩)
  obtain ⟨hl, hm, hr, hs, htl, htm⟩ := hN
  have hslo := fun (w0 : World) (h : NbAll w0 a l b m 4) => spec.SlopeRow_4 a c l b d m C T L Y w0 h hok hcl hY
  obtain ⟨p1, o1, rfl, hb1, hc1⟩ := hr.inside (by omega)
  obtain ⟨p2, o2, rfl, hb2, hc2⟩ := hs.inside (by omega)
  have HC1 : Hid (∀ w0, Below w.heap.size w w0 → ∀ i, i < 8 → w0.cell? ⟨p1, o1 + i, none⟩ = some (.int .i64 (l.getD i 0))) := Lib.hid (fun w0 h i hi => (bcell h _ _ hb1).trans (hc1 i (by omega)))
  have HC2 : Hid (∀ w0, Below w.heap.size w w0 → ∀ i, i < 4 → w0.cell? ⟨p2, o2 + i, none⟩ = some (.int .i64 (m.getD i 0))) := Lib.hid (fun w0 h i hi => (bcell h _ _ hb2).trans (hc2 i (by omega)))
  have HT1 := Lib.hid htl
  have HLL := Lib.hid hl
  rw [hl, hm] at hslo ⊢
  rw [hl] at hcl
  simp only [Nat.reduceMul] at hslo ⊢ hcl
  have HSLO := Lib.hid hslo
  clear hslo hr hs hc1 hc2 hl hm htl htm hok
  have HS := Lib.hid hS
  have HSR : Hid (∀ w0, Below w.heap.size w w0 → ∀ i, i < 7 → w0.cell? ⟨sg, i, none⟩ = some (.int .i64 (S.getD i 0))) := Lib.hid (fun w0 h i hi => (bcell h sg i hsg).trans (hsr i hi))
  clear hS hsr
  go_enter Try.func49, Try.ntmps49
  go_wp2_with fail
  obtain ⟨W0, hW0⟩ : ∃ WW, WW = (w.alloc (.cells #[.slice (some ⟨p1, o1, none⟩) 8 c, .slice (some ⟨p2, o2, none⟩) 4 d, .int .i64 C, .bool T, .bool L] 27)).alloc (.cells #[] 3) := ⟨_, rfl⟩
  rw [← hW0]
  have HB0 : Hid (Below w.heap.size w W0) := Lib.hid (by rw [hW0]; exact ((Below.refl w.heap.size w).alloc (Nat.le_refl _) _).alloc (by simp) _)
  clear hW0
  refine (HSLO.out W0 (HN.out W0 HB0.out)).mono ?_
  rintro e w1 ⟨x, z, rfl, ho, hb⟩
  obtain ⟨g, rfl, _⟩ := ho.at_ (i := 0) (by unfold slopeL; rw [tab_len]; omega)
  have HR : Hid (Row w1 (some ⟨g, 0, none⟩) (rowV l m C T L 4 3 Y)) := Lib.hid (by exact ho.row)
  have HB : Hid (Below w.heap.size w w1) := Lib.hid (HB0.out.trans (hb.mono HB0.out.size))
  clear ho hb
  go_wp2
  go_ret
  exact ⟨_, _, rfl, HR.out, HB.out⟩
set_option maxHeartbeats 4000000 in
theorem spec.l17Row_4_4 (a : Option Addr) (c : Nat) (l : List Int) (b : Option Addr) (d : Nat) (m : List Int) (C : Int) (T L : Bool) (Y : Nat) (sg sc : Nat) (S : List Int) (w : World) (hN : NbAll w a l b m 4) (hok : nbB l m C 4 = true) (hcl : l.length ≤ c) (hY : Y < 4) (hS : softOk l m C 4 4 S) (hsc : 7 ≤ sc) (hsr : ∀ i, i < 7 → w.cell? ⟨sg, i, none⟩ = some (.int .i64 (S.getD i 0))) (hsg : sg < w.heap.size) :
    Calls Try.prog 49 #[.int .i64 4, nbv a l.length c b m.length d C T L, .int .i64 4, .int .i64 Y, .slice (some ⟨sg, 0, none⟩) 7 sc] w fun e w' => ∃ p z, e = .returned (.slice (some p) 4 z) ∧ Row w' (some p) (rowV l m C T L 4 4 Y) ∧ Below w.heap.size w w' := by
  have HN : Hid (∀ w0, Below w.heap.size w w0 → NbAll w0 a l b m 4) := Lib.hid (fun w0 h => ⟨hN.hl, hN.hm, hN.hr.below h (Nat.le_refl _), hN.hs.below h (Nat.le_refl _), hN.tl, hN.tm⟩)
  obtain ⟨hl, hm, hr, hs, htl, htm⟩ := hN
  obtain ⟨p1, o1, rfl, hb1, hc1⟩ := hr.inside (by omega)
  obtain ⟨p2, o2, rfl, hb2, hc2⟩ := hs.inside (by omega)
  have HC1 : Hid (∀ w0, Below w.heap.size w w0 → ∀ i, i < 8 → w0.cell? ⟨p1, o1 + i, none⟩ = some (.int .i64 (l.getD i 0))) := Lib.hid (fun w0 h i hi => (bcell h _ _ hb1).trans (hc1 i (by omega)))
  have HC2 : Hid (∀ w0, Below w.heap.size w w0 → ∀ i, i < 4 → w0.cell? ⟨p2, o2 + i, none⟩ = some (.int .i64 (m.getD i 0))) := Lib.hid (fun w0 h i hi => (bcell h _ _ hb2).trans (hc2 i (by omega)))
  have HT1 := Lib.hid htl
  have HLL := Lib.hid hl
  rw [hl, hm] at ⊢
  rw [hl] at hcl
  simp only [Nat.reduceMul] at ⊢ hcl
  clear hr hs hc1 hc2 hl hm htl htm hok
  have HS := Lib.hid hS
  have HSR : Hid (∀ w0, Below w.heap.size w w0 → ∀ i, i < 7 → w0.cell? ⟨sg, i, none⟩ = some (.int .i64 (S.getD i 0))) := Lib.hid (fun w0 h i hi => (bcell h sg i hsg).trans (hsr i hi))
  clear hS hsr
  obtain ⟨hi, hhi⟩ : ∃ hi, hi = Y + 4 := ⟨_, rfl⟩
  have e2 : (Y : Int) + 4 = (hi : Int) := by omega
  have z0 : (Y : Int) ≤ (hi : Int) := by omega
  have z0n : Y ≤ hi := by omega
  have z1 : (hi : Int) ≤ (sc : Int) := by omega
  have z1n : hi ≤ sc := by omega
  have z2 : ¬ sc = Y := by omega
  have HSUB : Hid (hi - Y = 4) := Lib.hid (by omega)
  have HV : Hid (rowV l m C T L 4 4 Y = tab (fun x => S.getD (Y + x) 0) 4) := Lib.hid (by
    unfold rowV
    apply tab_congr
    intro x hx
    have hq := HS.out.2.1 rfl (Y + x) (by omega)
    rw [hq]
    show softF (l.getD (x + Y) 0) (l.getD (min (x + Y + 1) (2 * 4 - 1)) 0) (l.getD (min (x + Y + 2) (2 * 4 - 1)) 0) = _
    rw [Nat.add_comm x Y])
  have HB0 : Hid (∀ o1 o2 : Obj, Below w.heap.size w ((w.alloc o1).alloc o2)) := Lib.hid (fun _ _ => ((Below.refl w.heap.size w).alloc (Nat.le_refl _) _).alloc (by simp) _)
  have HR : Hid (∀ w0, Below w.heap.size w w0 → Row w0 (some ⟨sg, Y, none⟩) (rowV l m C T L 4 4 Y)) := Lib.hid (fun w0 h => by
    rw [HV.out]
    refine .inr ⟨sg, Y, rfl, fun i hi => ?_⟩
    rw [tab_len] at hi
    rw [tab_getD _ _ _ hi]
    exact HSR.out w0 h (Y + i) (by omega))
  clear hhi
  go_enter Try.func49, Try.ntmps49
  go_wp2
  go_ret
  exact ⟨⟨sg, Y, none⟩, sc - Y, by first | rfl | (congr 2; first | exact HSUB.out | (simp; done) | (simp; exact HSUB.out)), HR.out _ (HB0.out _ _), HB0.out _ _⟩
set_option maxHeartbeats 4000000 in
theorem spec.l17Row_4_5 (a : Option Addr) (c : Nat) (l : List Int) (b : Option Addr) (d : Nat) (m : List Int) (C : Int) (T L : Bool) (Y : Nat) (sg sc : Nat) (S : List Int) (w : World) (hN : NbAll w a l b m 4) (hok : nbB l m C 4 = true) (hcl : l.length ≤ c) (hY : Y < 4) (hS : softOk l m C 4 5 S) (hsc : 7 ≤ sc) (hsr : ∀ i, i < 7 → w.cell? ⟨sg, i, none⟩ = some (.int .i64 (S.getD i 0))) (hsg : sg < w.heap.size) :
    Calls Try.prog 49 #[.int .i64 5, nbv a l.length c b m.length d C T L, .int .i64 4, .int .i64 Y, .slice (some ⟨sg, 0, none⟩) 7 sc] w fun e w' => ∃ p z, e = .returned (.slice (some p) 4 z) ∧ Row w' (some p) (rowV l m C T L 4 5 Y) ∧ Below w.heap.size w w' := by
  have HN : Hid (∀ w0, Below w.heap.size w w0 → NbAll w0 a l b m 4) := Lib.hid (fun w0 h => ⟨hN.hl, hN.hm, hN.hr.below h (Nat.le_refl _), hN.hs.below h (Nat.le_refl _), hN.tl, hN.tm⟩)
  obtain ⟨hl, hm, hr, hs, htl, htm⟩ := hN
  obtain ⟨p1, o1, rfl, hb1, hc1⟩ := hr.inside (by omega)
  obtain ⟨p2, o2, rfl, hb2, hc2⟩ := hs.inside (by omega)
  have HC1 : Hid (∀ w0, Below w.heap.size w w0 → ∀ i, i < 8 → w0.cell? ⟨p1, o1 + i, none⟩ = some (.int .i64 (l.getD i 0))) := Lib.hid (fun w0 h i hi => (bcell h _ _ hb1).trans (hc1 i (by omega)))
  have HC2 : Hid (∀ w0, Below w.heap.size w w0 → ∀ i, i < 4 → w0.cell? ⟨p2, o2 + i, none⟩ = some (.int .i64 (m.getD i 0))) := Lib.hid (fun w0 h i hi => (bcell h _ _ hb2).trans (hc2 i (by omega)))
  have HT1 := Lib.hid htl
  have HLL := Lib.hid hl
  rw [hl, hm] at ⊢
  rw [hl] at hcl
  simp only [Nat.reduceMul] at ⊢ hcl
  clear hr hs hc1 hc2 hl hm htl htm hok
  have HS := Lib.hid hS
  have HSR : Hid (∀ w0, Below w.heap.size w w0 → ∀ i, i < 7 → w0.cell? ⟨sg, i, none⟩ = some (.int .i64 (S.getD i 0))) := Lib.hid (fun w0 h i hi => (bcell h sg i hsg).trans (hsr i hi))
  clear hS hsr
  obtain ⟨lo, hlo⟩ : ∃ lo, lo = 3 - Y := ⟨_, rfl⟩
  have e1 : (3 : Int) - (Y : Int) = (lo : Int) := by omega
  obtain ⟨hi, hhi⟩ : ∃ hi, hi = lo + 4 := ⟨_, rfl⟩
  have e2 : (7 : Int) - (Y : Int) = (hi : Int) := by omega
  have z0 : (lo : Int) ≤ (hi : Int) := by omega
  have z0n : lo ≤ hi := by omega
  have z1 : (hi : Int) ≤ (sc : Int) := by omega
  have z1n : hi ≤ sc := by omega
  have z2 : ¬ sc = lo := by omega
  have HSUB : Hid (hi - lo = 4) := Lib.hid (by omega)
  have HV : Hid (rowV l m C T L 4 5 Y = tab (fun x => S.getD (lo + x) 0) 4) := Lib.hid (by
    unfold rowV
    apply tab_congr
    intro x hx
    have hq := HS.out.2.2 rfl (lo + x) (by omega)
    rw [hq]
    show softF ((borderL l m C 4).getD (x + 4 - Y - 1) 0) ((borderL l m C 4).getD (x + 4 - Y) 0) ((borderL l m C 4).getD (x + 4 - Y + 1) 0) = _
    rw [show x + 4 - Y - 1 = lo + x from by omega, show x + 4 - Y = lo + x + 1 from by omega])
  have HB0 : Hid (∀ o1 o2 : Obj, Below w.heap.size w ((w.alloc o1).alloc o2)) := Lib.hid (fun _ _ => ((Below.refl w.heap.size w).alloc (Nat.le_refl _) _).alloc (by simp) _)
  have HR : Hid (∀ w0, Below w.heap.size w w0 → Row w0 (some ⟨sg, lo, none⟩) (rowV l m C T L 4 5 Y)) := Lib.hid (fun w0 h => by
    rw [HV.out]
    refine .inr ⟨sg, lo, rfl, fun i hi => ?_⟩
    rw [tab_len] at hi
    rw [tab_getD _ _ _ hi]
    exact HSR.out w0 h (lo + i) (by omega))
  clear hhi hlo
  go_enter Try.func49, Try.ntmps49
  go_wp2
  go_ret
  exact ⟨⟨sg, lo, none⟩, sc - lo, by first | rfl | (congr 2; first | exact HSUB.out | (simp; done) | (simp; exact HSUB.out)), HR.out _ (HB0.out _ _), HB0.out _ _⟩
theorem spec.l17Row_4 (mode : Int) (hmo : inR 0 5 mode = true) (a : Option Addr) (c : Nat) (l : List Int) (b : Option Addr) (d : Nat) (m : List Int) (C : Int) (T L : Bool) (Y : Nat) (sg sc : Nat) (S : List Int) (w : World) (hN : NbAll w a l b m 4) (hok : nbB l m C 4 = true) (hcl : l.length ≤ c) (hY : Y < 4) (hS : softOk l m C 4 mode S) (hsc : 7 ≤ sc) (hsr : ∀ i, i < 7 → w.cell? ⟨sg, i, none⟩ = some (.int .i64 (S.getD i 0))) (hsg : sg < w.heap.size) :
    Calls Try.prog 49 #[.int .i64 mode, nbv a l.length c b m.length d C T L, .int .i64 4, .int .i64 Y, .slice (some ⟨sg, 0, none⟩) 7 sc] w fun e w' => ∃ p z, e = .returned (.slice (some p) 4 z) ∧ Row w' (some p) (rowV l m C T L 4 mode Y) ∧ Below w.heap.size w w' := by
  rcases modeWord_in hmo with rfl | rfl | rfl | rfl | rfl | rfl
  · exact spec.l17Row_4_0 a c l b d m C T L Y sg sc S w hN hok hcl hY hS hsc hsr hsg
  · exact spec.l17Row_4_1 a c l b d m C T L Y sg sc S w hN hok hcl hY hS hsc hsr hsg
  · exact spec.l17Row_4_2 a c l b d m C T L Y sg sc S w hN hok hcl hY hS hsc hsr hsg
  · exact spec.l17Row_4_3 a c l b d m C T L Y sg sc S w hN hok hcl hY hS hsc hsr hsg
  · exact spec.l17Row_4_4 a c l b d m C T L Y sg sc S w hN hok hcl hY hS hsc hsr hsg
  · exact spec.l17Row_4_5 a c l b d m C T L Y sg sc S w hN hok hcl hY hS hsc hsr hsg
set_option maxHeartbeats 4000000 in
theorem spec.l17Row_8_0 (a : Option Addr) (c : Nat) (l : List Int) (b : Option Addr) (d : Nat) (m : List Int) (C : Int) (T L : Bool) (Y : Nat) (sg sc : Nat) (S : List Int) (w : World) (hN : NbAll w a l b m 8) (hok : nbB l m C 8 = true) (hcl : l.length ≤ c) (hY : Y < 8) (hS : softOk l m C 8 0 S) (hsc : 15 ≤ sc) (hsr : ∀ i, i < 15 → w.cell? ⟨sg, i, none⟩ = some (.int .i64 (S.getD i 0))) (hsg : sg < w.heap.size) :
    Calls Try.prog 49 #[.int .i64 0, nbv a l.length c b m.length d C T L, .int .i64 8, .int .i64 Y, .slice (some ⟨sg, 0, none⟩) 15 sc] w fun e w' => ∃ p z, e = .returned (.slice (some p) 8 z) ∧ Row w' (some p) (rowV l m C T L 8 0 Y) ∧ Below w.heap.size w w' := by
  have HN : Hid (∀ w0, Below w.heap.size w w0 → NbAll w0 a l b m 8) := Lib.hid (fun w0 h => ⟨hN.hl, hN.hm, hN.hr.below h (Nat.le_refl _), hN.hs.below h (Nat.le_refl _), hN.tl, hN.tm⟩)
  obtain ⟨hl, hm, hr, hs, htl, htm⟩ := hN
  have hmea := fun (w0 : World) (h : NbAll w0 a l b m 8) => spec.Mean_8 a c l b d m C T L w0 h hok hcl
  obtain ⟨p1, o1, rfl, hb1, hc1⟩ := hr.inside (by omega)
  obtain ⟨p2, o2, rfl, hb2, hc2⟩ := hs.inside (by omega)
  have HC1 : Hid (∀ w0, Below w.heap.size w w0 → ∀ i, i < 16 → w0.cell? ⟨p1, o1 + i, none⟩ = some (.int .i64 (l.getD i 0))) := Lib.hid (fun w0 h i hi => (bcell h _ _ hb1).trans (hc1 i (by omega)))
  have HC2 : Hid (∀ w0, Below w.heap.size w w0 → ∀ i, i < 8 → w0.cell? ⟨p2, o2 + i, none⟩ = some (.int .i64 (m.getD i 0))) := Lib.hid (fun w0 h i hi => (bcell h _ _ hb2).trans (hc2 i (by omega)))
  have HT1 := Lib.hid htl
  have HLL := Lib.hid hl
  rw [hl, hm] at hmea ⊢
  rw [hl] at hcl
  simp only [Nat.reduceMul] at hmea ⊢ hcl
  have HMEA := Lib.hid hmea
  clear hmea hr hs hc1 hc2 hl hm htl htm hok
  have HS := Lib.hid hS
  have HSR : Hid (∀ w0, Below w.heap.size w w0 → ∀ i, i < 15 → w0.cell? ⟨sg, i, none⟩ = some (.int .i64 (S.getD i 0))) := Lib.hid (fun w0 h i hi => (bcell h sg i hsg).trans (hsr i hi))
  clear hS hsr
  have HCY := HC2
  obtain ⟨v, hv⟩ : ∃ v, v = m.getD Y 0 := ⟨_, rfl⟩
  have HVY := Lib.hid hv
  clear hv
  have hyi : (Y : Int) < 8 := by omega
  go_enter Try.func49, Try.ntmps49
  have hcy := HC2.out ((w.alloc (.cells #[.slice (some ⟨p1, o1, none⟩) 16 c, .slice (some ⟨p2, o2, none⟩) 8 d, .int .i64 C, .bool T, .bool L] 27)).alloc (.cells #[] 3)) (((Below.refl w.heap.size w).alloc (Nat.le_refl _) _).alloc (by simp) _) Y hY
  rw [← HVY.out] at hcy
  go_wp2_with fail
  clear hcy
  obtain ⟨W0, hW0⟩ : ∃ WW, WW = (w.alloc (.cells #[.slice (some ⟨p1, o1, none⟩) 16 c, .slice (some ⟨p2, o2, none⟩) 8 d, .int .i64 C, .bool T, .bool L] 27)).alloc (.cells #[] 3) := ⟨_, rfl⟩
  rw [← hW0]
  have HB0 : Hid (Below w.heap.size w W0) := Lib.hid (by rw [hW0]; exact ((Below.refl w.heap.size w).alloc (Nat.le_refl _) _).alloc (by simp) _)
  have HO0 : Hid (Own (w.heap.size + 1) W0 (some ⟨w.heap.size + 1, 0, none⟩) 0 []) := Lib.hid (by
    have h := Own.lit (B := w.heap.size + 1) (w.alloc (.cells #[.slice (some ⟨p1, o1, none⟩) 16 c, .slice (some ⟨p2, o2, none⟩) 8 d, .int .i64 C, .bool T, .bool L] 27)) #[] [] rfl (by simp) (by simp [maxLen])
    rw [hW0]; simpa using h)
  clear hW0
  refine (HMEA.out W0 (HN.out W0 HB0.out)).mono ?_
  rintro e w1 ⟨rfl, hb⟩
  have HB : Hid (Below w.heap.size w w1) := Lib.hid (HB0.out.trans (hb.mono HB0.out.size))
  have HO := Lib.hid (HO0.out.below hb (Nat.le_refl _))
  have HZ : Hid (w.heap.size + 1 ≤ w1.heap.size) := Lib.hid (Nat.le_of_lt (HO.out.lt _ rfl).2)
  have HVV : Hid (∀ x, predV l m C T L 8 0 x Y = meanV l m T L 8) := Lib.hid (fun _ => rfl)
  clear hb HO0 HB0
  generalize meanV l m T L 8 = v at *
  go_wp2
  go_loopw [11, 13] (fun o i wr => ∃ (k : Nat) (ad : Option Addr) (cc : Nat), k ≤ 8 ∧ i = .int .i64 k ∧ o = .slice ad k cc ∧ Own (w.heap.size + 1) wr ad cc (tab (fun x => predV l m C T L 8 0 x Y) k) ∧ Below w.heap.size w wr ∧ w.heap.size + 1 ≤ wr.heap.size) (fun _ i _ => 8 - (intOf i).toNat)
  case atStart => exact ⟨0, _, _, Nat.zero_le _, rfl, rfl, HO.out, HB.out, HZ.out⟩
  case round =>
    clear HO HB HZ
    obtain ⟨k, ad, cc, hk, rfl, rfl, hown, hb, hz⟩ := hrel
    have H1 := Lib.hid hown
    have H2 := Lib.hid hb
    clear hown hb
    by_cases hlt : k < 8
    · have hkb : k ≤ 1099511627776 := by omega
      go_wp2_with (at_builtin; refine append_one Try.underlying22 Try.infoInt rfl (.tmp 64) (.tmp 66) rfl (w.heap.size + 1) ad cc k (tab (fun x => predV l m C T L 8 0 x Y) k) (tab_len _ _) rfl (H1.out.alloc _) wr.heap.size v rfl ?_ ?_ ?_ ?_; (simp); (omega); (simp; omega); intro ad1 cc1 w2 ho2 hb2)
      rw [show ([v] : List Int) = [predV l m C T L 8 0 k Y] from by rw [HVV.out], ← tab_succ (fun x => predV l m C T L 8 0 x Y)] at ho2
      have H3 := Lib.hid ho2
      have H4 : Hid (Below w.heap.size w w2) := Lib.hid ((H2.out.alloc H2.out.size _).trans (hb2.mono (by omega)))
      have HZ2 : Hid (w.heap.size + 1 ≤ w2.heap.size) := Lib.hid (by have := hb2.size; simp at this; omega)
      clear ho2 hb2
      go_wp2
      go_roundw
      case rel => exact ⟨k + 1, ad1, cc1, by omega, by go_num, rfl, H3.out, H4.out, HZ2.out⟩
      case measure => simp [intOf]; omega
    · obtain rfl : k = 8 := by omega
      obtain ⟨g, rfl, _⟩ := H1.out.at_ (i := 0) (by rw [tab_len]; omega)
      go_wp2
      go_ret
      exact ⟨_, _, rfl, H1.out.row, H2.out⟩
set_option maxHeartbeats 4000000 in
theorem spec.l17Row_8_1 (a : Option Addr) (c : Nat) (l : List Int) (b : Option Addr) (d : Nat) (m : List Int) (C : Int) (T L : Bool) (Y : Nat) (sg sc : Nat) (S : List Int) (w : World) (hN : NbAll w a l b m 8) (hok : nbB l m C 8 = true) (hcl : l.length ≤ c) (hY : Y < 8) (hS : softOk l m C 8 1 S) (hsc : 15 ≤ sc) (hsr : ∀ i, i < 15 → w.cell? ⟨sg, i, none⟩ = some (.int .i64 (S.getD i 0))) (hsg : sg < w.heap.size) :
    Calls Try.prog 49 #[.int .i64 1, nbv a l.length c b m.length d C T L, .int .i64 8, .int .i64 Y, .slice (some ⟨sg, 0, none⟩) 15 sc] w fun e w' => ∃ p z, e = .returned (.slice (some p) 8 z) ∧ Row w' (some p) (rowV l m C T L 8 1 Y) ∧ Below w.heap.size w w' := by
  have HN : Hid (∀ w0, Below w.heap.size w w0 → NbAll w0 a l b m 8) := Lib.hid (fun w0 h => ⟨hN.hl, hN.hm, hN.hr.below h (Nat.le_refl _), hN.hs.below h (Nat.le_refl _), hN.tl, hN.tm⟩)
  obtain ⟨hl, hm, hr, hs, htl, htm⟩ := hN
  obtain ⟨p1, o1, rfl, hb1, hc1⟩ := hr.inside (by omega)
  obtain ⟨p2, o2, rfl, hb2, hc2⟩ := hs.inside (by omega)
  have HC1 : Hid (∀ w0, Below w.heap.size w w0 → ∀ i, i < 16 → w0.cell? ⟨p1, o1 + i, none⟩ = some (.int .i64 (l.getD i 0))) := Lib.hid (fun w0 h i hi => (bcell h _ _ hb1).trans (hc1 i (by omega)))
  have HC2 : Hid (∀ w0, Below w.heap.size w w0 → ∀ i, i < 8 → w0.cell? ⟨p2, o2 + i, none⟩ = some (.int .i64 (m.getD i 0))) := Lib.hid (fun w0 h i hi => (bcell h _ _ hb2).trans (hc2 i (by omega)))
  have HT1 := Lib.hid htl
  have HLL := Lib.hid hl
  rw [hl, hm] at ⊢
  rw [hl] at hcl
  simp only [Nat.reduceMul] at ⊢ hcl
  clear hr hs hc1 hc2 hl hm htl htm hok
  have HS := Lib.hid hS
  have HSR : Hid (∀ w0, Below w.heap.size w w0 → ∀ i, i < 15 → w0.cell? ⟨sg, i, none⟩ = some (.int .i64 (S.getD i 0))) := Lib.hid (fun w0 h i hi => (bcell h sg i hsg).trans (hsr i hi))
  clear hS hsr
  have hci : (8 : Int) ≤ (c : Int) := by omega
  have hci2 : 8 ≤ c := by omega
  have HB0 : Hid (∀ o1 o2 : Obj, Below w.heap.size w ((w.alloc o1).alloc o2)) := Lib.hid (fun _ _ => ((Below.refl w.heap.size w).alloc (Nat.le_refl _) _).alloc (by simp) _)
  have HR : Hid (∀ w0, Below w.heap.size w w0 → Row w0 (some ⟨p1, o1, none⟩) (rowV l m C T L 8 1 Y)) := Lib.hid (fun w0 h => Row.front (l := l) (fun i hi => HC1.out w0 h i (by omega)))
  go_enter Try.func49, Try.ntmps49
  go_wp2
  go_ret
  exact ⟨_, _, rfl, HR.out _ (HB0.out _ _), HB0.out _ _⟩
set_option maxHeartbeats 4000000 in
theorem spec.l17Row_8_2 (a : Option Addr) (c : Nat) (l : List Int) (b : Option Addr) (d : Nat) (m : List Int) (C : Int) (T L : Bool) (Y : Nat) (sg sc : Nat) (S : List Int) (w : World) (hN : NbAll w a l b m 8) (hok : nbB l m C 8 = true) (hcl : l.length ≤ c) (hY : Y < 8) (hS : softOk l m C 8 2 S) (hsc : 15 ≤ sc) (hsr : ∀ i, i < 15 → w.cell? ⟨sg, i, none⟩ = some (.int .i64 (S.getD i 0))) (hsg : sg < w.heap.size) :
    Calls Try.prog 49 #[.int .i64 2, nbv a l.length c b m.length d C T L, .int .i64 8, .int .i64 Y, .slice (some ⟨sg, 0, none⟩) 15 sc] w fun e w' => ∃ p z, e = .returned (.slice (some p) 8 z) ∧ Row w' (some p) (rowV l m C T L 8 2 Y) ∧ Below w.heap.size w w' := by
  have HN : Hid (∀ w0, Below w.heap.size w w0 → NbAll w0 a l b m 8) := Lib.hid (fun w0 h => ⟨hN.hl, hN.hm, hN.hr.below h (Nat.le_refl _), hN.hs.below h (Nat.le_refl _), hN.tl, hN.tm⟩)
  obtain ⟨hl, hm, hr, hs, htl, htm⟩ := hN
  obtain ⟨p1, o1, rfl, hb1, hc1⟩ := hr.inside (by omega)
  obtain ⟨p2, o2, rfl, hb2, hc2⟩ := hs.inside (by omega)
  have HC1 : Hid (∀ w0, Below w.heap.size w w0 → ∀ i, i < 16 → w0.cell? ⟨p1, o1 + i, none⟩ = some (.int .i64 (l.getD i 0))) := Lib.hid (fun w0 h i hi => (bcell h _ _ hb1).trans (hc1 i (by omega)))
  have HC2 : Hid (∀ w0, Below w.heap.size w w0 → ∀ i, i < 8 → w0.cell? ⟨p2, o2 + i, none⟩ = some (.int .i64 (m.getD i 0))) := Lib.hid (fun w0 h i hi => (bcell h _ _ hb2).trans (hc2 i (by omega)))
  have HT1 := Lib.hid htl
  have HLL := Lib.hid hl
  rw [hl, hm] at ⊢
  rw [hl] at hcl
  simp only [Nat.reduceMul] at ⊢ hcl
  clear hr hs hc1 hc2 hl hm htl htm hok
  have HS := Lib.hid hS
  have HSR : Hid (∀ w0, Below w.heap.size w w0 → ∀ i, i < 15 → w0.cell? ⟨sg, i, none⟩ = some (.int .i64 (S.getD i 0))) := Lib.hid (fun w0 h i hi => (bcell h sg i hsg).trans (hsr i hi))
  clear hS hsr
  have HCY := HC2
  obtain ⟨v, hv⟩ : ∃ v, v = m.getD Y 0 := ⟨_, rfl⟩
  have HVY := Lib.hid hv
  clear hv
  have hyi : (Y : Int) < 8 := by omega
  go_enter Try.func49, Try.ntmps49
  have hcy := HC2.out ((w.alloc (.cells #[.slice (some ⟨p1, o1, none⟩) 16 c, .slice (some ⟨p2, o2, none⟩) 8 d, .int .i64 C, .bool T, .bool L] 27)).alloc (.cells #[] 3)) (((Below.refl w.heap.size w).alloc (Nat.le_refl _) _).alloc (by simp) _) Y hY
  rw [← HVY.out] at hcy
  go_wp2_with fail
  clear hcy
  obtain ⟨w1, hw1⟩ : ∃ WW, WW = (w.alloc (.cells #[.slice (some ⟨p1, o1, none⟩) 16 c, .slice (some ⟨p2, o2, none⟩) 8 d, .int .i64 C, .bool T, .bool L] 27)).alloc (.cells #[] 3) := ⟨_, rfl⟩
  rw [← hw1]
  have HB : Hid (Below w.heap.size w w1) := Lib.hid (by rw [hw1]; exact ((Below.refl w.heap.size w).alloc (Nat.le_refl _) _).alloc (by simp) _)
  have HO : Hid (Own (w.heap.size + 1) w1 (some ⟨w.heap.size + 1, 0, none⟩) 0 []) := Lib.hid (by
    have h := Own.lit (B := w.heap.size + 1) (w.alloc (.cells #[.slice (some ⟨p1, o1, none⟩) 16 c, .slice (some ⟨p2, o2, none⟩) 8 d, .int .i64 C, .bool T, .bool L] 27)) #[] [] rfl (by simp) (by simp [maxLen])
    rw [hw1]; simpa using h)
  have HZ : Hid (w.heap.size + 1 ≤ w1.heap.size) := Lib.hid (Nat.le_of_lt (HO.out.lt _ rfl).2)
  have HVV : Hid (∀ x, predV l m C T L 8 2 x Y = v) := Lib.hid (fun _ => HVY.out.symm)
  clear hw1
  go_loopw [11, 13] (fun o i wr => ∃ (k : Nat) (ad : Option Addr) (cc : Nat), k ≤ 8 ∧ i = .int .i64 k ∧ o = .slice ad k cc ∧ Own (w.heap.size + 1) wr ad cc (tab (fun x => predV l m C T L 8 2 x Y) k) ∧ Below w.heap.size w wr ∧ w.heap.size + 1 ≤ wr.heap.size) (fun _ i _ => 8 - (intOf i).toNat)
  case atStart => exact ⟨0, _, _, Nat.zero_le _, rfl, rfl, HO.out, HB.out, HZ.out⟩
  case round =>
    clear HO HB HZ
    obtain ⟨k, ad, cc, hk, rfl, rfl, hown, hb, hz⟩ := hrel
    have H1 := Lib.hid hown
    have H2 := Lib.hid hb
    clear hown hb
    by_cases hlt : k < 8
    · have hkb : k ≤ 1099511627776 := by omega
      go_wp2_with (at_builtin; refine append_one Try.underlying22 Try.infoInt rfl (.tmp 64) (.tmp 66) rfl (w.heap.size + 1) ad cc k (tab (fun x => predV l m C T L 8 2 x Y) k) (tab_len _ _) rfl (H1.out.alloc _) wr.heap.size v rfl ?_ ?_ ?_ ?_; (simp); (omega); (simp; omega); intro ad1 cc1 w2 ho2 hb2)
      rw [show ([v] : List Int) = [predV l m C T L 8 2 k Y] from by rw [HVV.out], ← tab_succ (fun x => predV l m C T L 8 2 x Y)] at ho2
      have H3 := Lib.hid ho2
      have H4 : Hid (Below w.heap.size w w2) := Lib.hid ((H2.out.alloc H2.out.size _).trans (hb2.mono (by omega)))
      have HZ2 : Hid (w.heap.size + 1 ≤ w2.heap.size) := Lib.hid (by have := hb2.size; simp at this; omega)
      clear ho2 hb2
      go_wp2
      go_roundw
      case rel => exact ⟨k + 1, ad1, cc1, by omega, by go_num, rfl, H3.out, H4.out, HZ2.out⟩
      case measure => simp [intOf]; omega
    · obtain rfl : k = 8 := by omega
      obtain ⟨g, rfl, _⟩ := H1.out.at_ (i := 0) (by rw [tab_len]; omega)
      go_wp2
      go_ret
      exact ⟨_, _, rfl, H1.out.row, H2.out⟩
set_option maxHeartbeats 4000000 in
theorem spec.l17Row_8_3 (a : Option Addr) (c : Nat) (l : List Int) (b : Option Addr) (d : Nat) (m : List Int) (C : Int) (T L : Bool) (Y : Nat) (sg sc : Nat) (S : List Int) (w : World) (hN : NbAll w a l b m 8) (hok : nbB l m C 8 = true) (hcl : l.length ≤ c) (hY : Y < 8) (hS : softOk l m C 8 3 S) (hsc : 15 ≤ sc) (hsr : ∀ i, i < 15 → w.cell? ⟨sg, i, none⟩ = some (.int .i64 (S.getD i 0))) (hsg : sg < w.heap.size) :
    Calls Try.prog 49 #[.int .i64 3, nbv a l.length c b m.length d C T L, .int .i64 8, .int .i64 Y, .slice (some ⟨sg, 0, none⟩) 15 sc] w fun e w' => ∃ p z, e = .returned (.slice (some p) 8 z) ∧ Row w' (some p) (rowV l m C T L 8 3 Y) ∧ Below w.heap.size w w' := by
  have HN : Hid (∀ w0, Below w.heap.size w w0 → NbAll w0 a l b m 8) := Lib.hid (fun w0 h => ⟨hN.hl, hN.hm, hN.hr.below h (Nat.le_refl _), hN.hs.below h (Nat.le_refl _), hN.tl, hN.tm⟩)
  obtain ⟨hl, hm, hr, hs, htl, htm⟩ := hN
  have hslo := fun (w0 : World) (h : NbAll w0 a l b m 8) => spec.SlopeRow_8 a c l b d m C T L Y w0 h hok hcl hY
  obtain ⟨p1, o1, rfl, hb1, hc1⟩ := hr.inside (by omega)
  obtain ⟨p2, o2, rfl, hb2, hc2⟩ := hs.inside (by omega)
  have HC1 : Hid (∀ w0, Below w.heap.size w w0 → ∀ i, i < 16 → w0.cell? ⟨p1, o1 + i, none⟩ = some (.int .i64 (l.getD i 0))) := Lib.hid (fun w0 h i hi => (bcell h _ _ hb1).trans (hc1 i (by omega)))
  have HC2 : Hid (∀ w0, Below w.heap.size w w0 → ∀ i, i < 8 → w0.cell? ⟨p2, o2 + i, none⟩ = some (.int .i64 (m.getD i 0))) := Lib.hid (fun w0 h i hi => (bcell h _ _ hb2).trans (hc2 i (by omega)))
  have HT1 := Lib.hid htl
  have HLL := Lib.hid hl
  rw [hl, hm] at hslo ⊢
  rw [hl] at hcl
  simp only [Nat.reduceMul] at hslo ⊢ hcl
  have HSLO := Lib.hid hslo
  clear hslo hr hs hc1 hc2 hl hm htl htm hok
  have HS := Lib.hid hS
  have HSR : Hid (∀ w0, Below w.heap.size w w0 → ∀ i, i < 15 → w0.cell? ⟨sg, i, none⟩ = some (.int .i64 (S.getD i 0))) := Lib.hid (fun w0 h i hi => (bcell h sg i hsg).trans (hsr i hi))
  clear hS hsr
  go_enter Try.func49, Try.ntmps49
  go_wp2_with fail
  obtain ⟨W0, hW0⟩ : ∃ WW, WW = (w.alloc (.cells #[.slice (some ⟨p1, o1, none⟩) 16 c, .slice (some ⟨p2, o2, none⟩) 8 d, .int .i64 C, .bool T, .bool L] 27)).alloc (.cells #[] 3) := ⟨_, rfl⟩
  rw [← hW0]
  have HB0 : Hid (Below w.heap.size w W0) := Lib.hid (by rw [hW0]; exact ((Below.refl w.heap.size w).alloc (Nat.le_refl _) _).alloc (by simp) _)
  clear hW0
  refine (HSLO.out W0 (HN.out W0 HB0.out)).mono ?_
  rintro e w1 ⟨x, z, rfl, ho, hb⟩
  obtain ⟨g, rfl, _⟩ := ho.at_ (i := 0) (by unfold slopeL; rw [tab_len]; omega)
  have HR : Hid (Row w1 (some ⟨g, 0, none⟩) (rowV l m C T L 8 3 Y)) := Lib.hid (by exact ho.row)
  have HB : Hid (Below w.heap.size w w1) := Lib.hid (HB0.out.trans (hb.mono HB0.out.size))
  clear ho hb
  go_wp2
  go_ret
  exact ⟨_, _, rfl, HR.out, HB.out⟩
set_option maxHeartbeats 4000000 in
theorem spec.l17Row_8_4 (a : Option Addr) (c : Nat) (l : List Int) (b : Option Addr) (d : Nat) (m : List Int) (C : Int) (T L : Bool) (Y : Nat) (sg sc : Nat) (S : List Int) (w : World) (hN : NbAll w a l b m 8) (hok : nbB l m C 8 = true) (hcl : l.length ≤ c) (hY : Y < 8) (hS : softOk l m C 8 4 S) (hsc : 15 ≤ sc) (hsr : ∀ i, i < 15 → w.cell? ⟨sg, i, none⟩ = some (.int .i64 (S.getD i 0))) (hsg : sg < w.heap.size) :
    Calls Try.prog 49 #[.int .i64 4, nbv a l.length c b m.length d C T L, .int .i64 8, .int .i64 Y, .slice (some ⟨sg, 0, none⟩) 15 sc] w fun e w' => ∃ p z, e = .returned (.slice (some p) 8 z) ∧ Row w' (some p) (rowV l m C T L 8 4 Y) ∧ Below w.heap.size w w' := by
  have HN : Hid (∀ w0, Below w.heap.size w w0 → NbAll w0 a l b m 8) := Lib.hid (fun w0 h => ⟨hN.hl, hN.hm, hN.hr.below h (Nat.le_refl _), hN.hs.below h (Nat.le_refl _), hN.tl, hN.tm⟩)
  obtain ⟨hl, hm, hr, hs, htl, htm⟩ := hN
  obtain ⟨p1, o1, rfl, hb1, hc1⟩ := hr.inside (by omega)
  obtain ⟨p2, o2, rfl, hb2, hc2⟩ := hs.inside (by omega)
  have HC1 : Hid (∀ w0, Below w.heap.size w w0 → ∀ i, i < 16 → w0.cell? ⟨p1, o1 + i, none⟩ = some (.int .i64 (l.getD i 0))) := Lib.hid (fun w0 h i hi => (bcell h _ _ hb1).trans (hc1 i (by omega)))
  have HC2 : Hid (∀ w0, Below w.heap.size w w0 → ∀ i, i < 8 → w0.cell? ⟨p2, o2 + i, none⟩ = some (.int .i64 (m.getD i 0))) := Lib.hid (fun w0 h i hi => (bcell h _ _ hb2).trans (hc2 i (by omega)))
  have HT1 := Lib.hid htl
  have HLL := Lib.hid hl
  rw [hl, hm] at ⊢
  rw [hl] at hcl
  simp only [Nat.reduceMul] at ⊢ hcl
  clear hr hs hc1 hc2 hl hm htl htm hok
  have HS := Lib.hid hS
  have HSR : Hid (∀ w0, Below w.heap.size w w0 → ∀ i, i < 15 → w0.cell? ⟨sg, i, none⟩ = some (.int .i64 (S.getD i 0))) := Lib.hid (fun w0 h i hi => (bcell h sg i hsg).trans (hsr i hi))
  clear hS hsr
  obtain ⟨hi, hhi⟩ : ∃ hi, hi = Y + 8 := ⟨_, rfl⟩
  have e2 : (Y : Int) + 8 = (hi : Int) := by omega
  have z0 : (Y : Int) ≤ (hi : Int) := by omega
  have z0n : Y ≤ hi := by omega
  have z1 : (hi : Int) ≤ (sc : Int) := by omega
  have z1n : hi ≤ sc := by omega
  have z2 : ¬ sc = Y := by omega
  have HSUB : Hid (hi - Y = 8) := Lib.hid (by omega)
  have HV : Hid (rowV l m C T L 8 4 Y = tab (fun x => S.getD (Y + x) 0) 8) := Lib.hid (by
    unfold rowV
    apply tab_congr
    intro x hx
    have hq := HS.out.2.1 rfl (Y + x) (by omega)
    rw [hq]
    show softF (l.getD (x + Y) 0) (l.getD (min (x + Y + 1) (2 * 8 - 1)) 0) (l.getD (min (x + Y + 2) (2 * 8 - 1)) 0) = _
    rw [Nat.add_comm x Y])
  have HB0 : Hid (∀ o1 o2 : Obj, Below w.heap.size w ((w.alloc o1).alloc o2)) := Lib.hid (fun _ _ => ((Below.refl w.heap.size w).alloc (Nat.le_refl _) _).alloc (by simp) _)
  have HR : Hid (∀ w0, Below w.heap.size w w0 → Row w0 (some ⟨sg, Y, none⟩) (rowV l m C T L 8 4 Y)) := Lib.hid (fun w0 h => by
    rw [HV.out]
    refine .inr ⟨sg, Y, rfl, fun i hi => ?_⟩
    rw [tab_len] at hi
    rw [tab_getD _ _ _ hi]
    exact HSR.out w0 h (Y + i) (by omega))
  clear hhi
  go_enter Try.func49, Try.ntmps49
  go_wp2
  go_ret
  exact ⟨⟨sg, Y, none⟩, sc - Y, by first | rfl | (congr 2; first | exact HSUB.out | (simp; done) | (simp; exact HSUB.out)), HR.out _ (HB0.out _ _), HB0.out _ _⟩
set_option maxHeartbeats 4000000 in
theorem spec.l17Row_8_5 (a : Option Addr) (c : Nat) (l : List Int) (b : Option Addr) (d : Nat) (m : List Int) (C : Int) (T L : Bool) (Y : Nat) (sg sc : Nat) (S : List Int) (w : World) (hN : NbAll w a l b m 8) (hok : nbB l m C 8 = true) (hcl : l.length ≤ c) (hY : Y < 8) (hS : softOk l m C 8 5 S) (hsc : 15 ≤ sc) (hsr : ∀ i, i < 15 → w.cell? ⟨sg, i, none⟩ = some (.int .i64 (S.getD i 0))) (hsg : sg < w.heap.size) :
    Calls Try.prog 49 #[.int .i64 5, nbv a l.length c b m.length d C T L, .int .i64 8, .int .i64 Y, .slice (some ⟨sg, 0, none⟩) 15 sc] w fun e w' => ∃ p z, e = .returned (.slice (some p) 8 z) ∧ Row w' (some p) (rowV l m C T L 8 5 Y) ∧ Below w.heap.size w w' := by
  have HN : Hid (∀ w0, Below w.heap.size w w0 → NbAll w0 a l b m 8) := Lib.hid (fun w0 h => ⟨hN.hl, hN.hm, hN.hr.below h (Nat.le_refl _), hN.hs.below h (Nat.le_refl _), hN.tl, hN.tm⟩)
  obtain ⟨hl, hm, hr, hs, htl, htm⟩ := hN
  obtain ⟨p1, o1, rfl, hb1, hc1⟩ := hr.inside (by omega)
  obtain ⟨p2, o2, rfl, hb2, hc2⟩ := hs.inside (by omega)
  have HC1 : Hid (∀ w0, Below w.heap.size w w0 → ∀ i, i < 16 → w0.cell? ⟨p1, o1 + i, none⟩ = some (.int .i64 (l.getD i 0))) := Lib.hid (fun w0 h i hi => (bcell h _ _ hb1).trans (hc1 i (by omega)))
  have HC2 : Hid (∀ w0, Below w.heap.size w w0 → ∀ i, i < 8 → w0.cell? ⟨p2, o2 + i, none⟩ = some (.int .i64 (m.getD i 0))) := Lib.hid (fun w0 h i hi => (bcell h _ _ hb2).trans (hc2 i (by omega)))
  have HT1 := Lib.hid htl
  have HLL := Lib.hid hl
  rw [hl, hm] at ⊢
  rw [hl] at hcl
  simp only [Nat.reduceMul] at ⊢ hcl
  clear hr hs hc1 hc2 hl hm htl htm hok
  have HS := Lib.hid hS
  have HSR : Hid (∀ w0, Below w.heap.size w w0 → ∀ i, i < 15 → w0.cell? ⟨sg, i, none⟩ = some (.int .i64 (S.getD i 0))) := Lib.hid (fun w0 h i hi => (bcell h sg i hsg).trans (hsr i hi))
  clear hS hsr
  obtain ⟨lo, hlo⟩ : ∃ lo, lo = 7 - Y := ⟨_, rfl⟩
  have e1 : (7 : Int) - (Y : Int) = (lo : Int) := by omega
  obtain ⟨hi, hhi⟩ : ∃ hi, hi = lo + 8 := ⟨_, rfl⟩
  have e2 : (15 : Int) - (Y : Int) = (hi : Int) := by omega
  have z0 : (lo : Int) ≤ (hi : Int) := by omega
  have z0n : lo ≤ hi := by omega
  have z1 : (hi : Int) ≤ (sc : Int) := by omega
  have z1n : hi ≤ sc := by omega
  have z2 : ¬ sc = lo := by omega
  have HSUB : Hid (hi - lo = 8) := Lib.hid (by omega)
  have HV : Hid (rowV l m C T L 8 5 Y = tab (fun x => S.getD (lo + x) 0) 8) := Lib.hid (by
    unfold rowV
    apply tab_congr
    intro x hx
    have hq := HS.out.2.2 rfl (lo + x) (by omega)
    rw [hq]
    show softF ((borderL l m C 8).getD (x + 8 - Y - 1) 0) ((borderL l m C 8).getD (x + 8 - Y) 0) ((borderL l m C 8).getD (x + 8 - Y + 1) 0) = _
    rw [show x + 8 - Y - 1 = lo + x from by omega, show x + 8 - Y = lo + x + 1 from by omega])
  have HB0 : Hid (∀ o1 o2 : Obj, Below w.heap.size w ((w.alloc o1).alloc o2)) := Lib.hid (fun _ _ => ((Below.refl w.heap.size w).alloc (Nat.le_refl _) _).alloc (by simp) _)
  have HR : Hid (∀ w0, Below w.heap.size w w0 → Row w0 (some ⟨sg, lo, none⟩) (rowV l m C T L 8 5 Y)) := Lib.hid (fun w0 h => by
    rw [HV.out]
    refine .inr ⟨sg, lo, rfl, fun i hi => ?_⟩
    rw [tab_len] at hi
    rw [tab_getD _ _ _ hi]
    exact HSR.out w0 h (lo + i) (by omega))
  clear hhi hlo
  go_enter Try.func49, Try.ntmps49
  go_wp2
  go_ret
  exact ⟨⟨sg, lo, none⟩, sc - lo, by first | rfl | (congr 2; first | exact HSUB.out | (simp; done) | (simp; exact HSUB.out)), HR.out _ (HB0.out _ _), HB0.out _ _⟩
theorem spec.l17Row_8 (mode : Int) (hmo : inR 0 5 mode = true) (a : Option Addr) (c : Nat) (l : List Int) (b : Option Addr) (d : Nat) (m : List Int) (C : Int) (T L : Bool) (Y : Nat) (sg sc : Nat) (S : List Int) (w : World) (hN : NbAll w a l b m 8) (hok : nbB l m C 8 = true) (hcl : l.length ≤ c) (hY : Y < 8) (hS : softOk l m C 8 mode S) (hsc : 15 ≤ sc) (hsr : ∀ i, i < 15 → w.cell? ⟨sg, i, none⟩ = some (.int .i64 (S.getD i 0))) (hsg : sg < w.heap.size) :
    Calls Try.prog 49 #[.int .i64 mode, nbv a l.length c b m.length d C T L, .int .i64 8, .int .i64 Y, .slice (some ⟨sg, 0, none⟩) 15 sc] w fun e w' => ∃ p z, e = .returned (.slice (some p) 8 z) ∧ Row w' (some p) (rowV l m C T L 8 mode Y) ∧ Below w.heap.size w w' := by
  rcases modeWord_in hmo with rfl | rfl | rfl | rfl | rfl | rfl
  · exact spec.l17Row_8_0 a c l b d m C T L Y sg sc S w hN hok hcl hY hS hsc hsr hsg
  · exact spec.l17Row_8_1 a c l b d m C T L Y sg sc S w hN hok hcl hY hS hsc hsr hsg
  · exact spec.l17Row_8_2 a c l b d m C T L Y sg sc S w hN hok hcl hY hS hsc hsr hsg
  · exact spec.l17Row_8_3 a c l b d m C T L Y sg sc S w hN hok hcl hY hS hsc hsr hsg
  · exact spec.l17Row_8_4 a c l b d m C T L Y sg sc S w hN hok hcl hY hS hsc hsr hsg
  · exact spec.l17Row_8_5 a c l b d m C T L Y sg sc S w hN hok hcl hY hS hsc hsr hsg

end Go.Proofs.Ytnbkkhaahfnlfaa
