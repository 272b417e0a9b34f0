/- Contracts: turning a slice of integers round. -/
import Derived.Test.YtbdggcefgiehkaaSlices
import Derived.RegionTactic
namespace Go.Proofs.Ytbdggcefgiehkaa
open Go.RowKit
set_option linter.unusedVariables false

theorem tab_set (f : Nat → Int) (n k : Nat) (v : Int) : (tab f n).set k v = tab (fun i => if i = k then v else f i) n := by
  apply List.ext_getElem
  · simp [tab]
  · intro i h1 h2
    simp only [tab, List.getElem_set, List.getElem_map, List.getElem_range]
    by_cases h : k = i
    · simp [h]
    · rw [if_neg h, if_neg (fun e => h e.symm)]
/-- the first k and the last k exchanged -/
def revK (l : List Int) (k : Nat) : List Int := tab (fun i => if i < k ∨ l.length ≤ i + k then l.getD (l.length - 1 - i) 0 else l.getD i 0) l.length
def revL (l : List Int) : List Int := tab (fun i => l.getD (l.length - 1 - i) 0) l.length
theorem revK_len (l : List Int) (k : Nat) : (revK l k).length = l.length := tab_len _ _
theorem revL_len (l : List Int) : (revL l).length = l.length := tab_len _ _
theorem revK_zero (l : List Int) : revK l 0 = l := by
  conv => rhs; rw [tab_of l l.length rfl]
  apply tab_congr
  intro i hi
  rw [if_neg (by omega)]
theorem revK_all (l : List Int) (k : Nat) (h1 : 2 * k ≤ l.length) (h2 : l.length ≤ 2 * k + 1) : revK l k = revL l := by
  apply tab_congr
  intro i hi
  split
  · rfl
  · have : l.length - 1 - i = i := by omega
    rw [this]
theorem revK_at1 (l : List Int) (k : Nat) (h : 2 * k + 1 < l.length) : (revK l k).getD k 0 = l.getD k 0 := by
  unfold revK
  rw [tab_getD _ _ _ (by omega), if_neg (by omega)]
theorem revK_at2 (l : List Int) (k : Nat) (h : 2 * k + 1 < l.length) : (revK l k).getD (l.length - 1 - k) 0 = l.getD (l.length - 1 - k) 0 := by
  unfold revK
  rw [tab_getD _ _ _ (by omega), if_neg (by omega)]
theorem revK_set (l : List Int) (k : Nat) (h : 2 * k + 1 < l.length) : ((revK l k).set k (l.getD (l.length - 1 - k) 0)).set (l.length - 1 - k) (l.getD k 0) = revK l (k + 1) := by
  unfold revK
  rw [tab_set, tab_set]
  apply tab_congr
  intro i hi
  by_cases h1 : i = l.length - 1 - k
  · rw [if_pos h1, if_pos (by omega)]
    congr 1
    omega
  · rw [if_neg h1]
    by_cases h2 : i = k
    · rw [if_pos h2, if_pos (by omega), h2]
    · rw [if_neg h2]
      by_cases h3 : i < k ∨ l.length ≤ i + k
      · rw [if_pos h3, if_pos (by omega)]
      · rw [if_neg h3, if_neg (by omega)]


set_option maxHeartbeats 1000000 in
theorem Reverse_c (B : Nat) (a : Option Addr) (c : Nat) (l : List Int) (w : World) (hl : l.length ≤ 1099511627776) (ho : Own B w a c l) :
    Calls Try.prog 48 #[.slice a l.length c] w fun e w' => e = .returned (.tuple #[]) ∧ Own B w' a c (revL l) ∧ Below B w w' := by
  have HO := Lib.hid ho
  clear ho
  go_enter Try.func48, Try.ntmps48
  go_wp2
  go_loopw [2, 3] (fun i j wr => ∃ k : Nat, 2 * k ≤ l.length ∧ i = .int .i64 k ∧ j = .int .i64 ((l.length : Int) - 1 - k) ∧ Own B wr a c (revK l k) ∧ Below B w wr) (fun i _ _ => l.length - (intOf i).toNat)
  case atStart => exact ⟨0, by omega, rfl, by simp, by rw [revK_zero]; exact HO.out, Below.refl _ _⟩
  case round =>
    clear HO
    obtain ⟨k, hk, rfl, rfl, hown, hb⟩ := hrel
    by_cases hlt : 2 * k + 1 < l.length
    · have hlen := revK_len l k
      obtain ⟨j, hj⟩ : ∃ j, j = l.length - 1 - k := ⟨_, rfl⟩
      have hjI : (l.length : Int) - 1 - k = (j : Int) := by omega
      rw [hjI]
      obtain ⟨g, rfl, hg1, hg2, c1, f1, _⟩ := hown.at_ (i := k) (by omega)
      have c2 := hown.cellAt (i := j) (by omega)
      have f2 := hown.frozenAt j
      rw [revK_at1 l k hlt] at c1
      rw [hj, revK_at2 l k hlt, ← hj] at c2
      have hkj : k < j := by omega
      have h3 := (hown.stored k (l.getD j 0)).stored j (l.getD k 0)
      have hset := revK_set l k hlt
      rw [← hj] at hset
      rw [hset] at h3
      have H3 := Lib.hid h3
      have H4 : Hid (Below B w ((wr.setCell ⟨g, k, none⟩ (.int .i64 (l.getD j 0))).setCell ⟨g, j, none⟩ (.int .i64 (l.getD k 0)))) := Lib.hid ((hb.setCell (p := ⟨g, k, none⟩) hg1 _).setCell (p := ⟨g, j, none⟩) hg1 _)
      have hjl : (j : Int) < (l.length : Int) := by omega
      have hkl : (k : Int) < (l.length : Int) := by omega
      have HJ := Lib.hid hjI
      clear h3 hset hown hb hlen hj hjI
      generalize l.getD j 0 = y at *
      generalize l.getD k 0 = x at *
      go_wp2_with fail
      go_region
      all_goals
        go_wp2
        go_roundw
        case rel => exact ⟨k + 1, by omega, by go_num, by rw [show ((l.length : Int) - 1 - ((k + 1 : Nat) : Int)) = (j : Int) - 1 from by have := HJ.out; omega], H3.out.drew, below_drewN' H4.out 1⟩
        case measure => simp [intOf]; omega
    · have e := revK_all l k hk (by omega)
      rw [e] at hown
      have hge : ¬ ((k : Int) < (l.length : Int) - 1 - k) := by omega
      have H3 := Lib.hid hown
      have H4 := Lib.hid hb
      clear hown hb e
      go_wp2
      go_end0
      exact ⟨rfl, H3.out, H4.out⟩

end Go.Proofs.Ytbdggcefgiehkaa
