/- Contracts of functions that look at all numbers of a slice. -/
import Derived.Test.YtkfjbnhihjnhnaaInts
namespace Go.Proofs.Ytkfjbnhihjnhnaa
open Go.RowKit
set_option linter.unusedVariables false

def allR (lo hi : Int) (l : List Int) : Bool := l.all (inR lo hi)
theorem allR_at {lo hi : Int} {l : List Int} (h : allR lo hi l = true) {i : Nat} (hi' : i < l.length) : lo ≤ l.getD i 0 ∧ l.getD i 0 ≤ hi := by
  rw [getD_lt hi']
  exact inR_true (List.all_eq_true.1 h _ (List.getElem_mem hi'))
theorem allR_mk {lo hi : Int} {l : List Int} (h : ∀ i, i < l.length → inR lo hi (l.getD i 0) = true) : allR lo hi l = true := by
  unfold allR
  rw [List.all_eq_true]
  intro x hx
  obtain ⟨i, hi, rfl⟩ := List.getElem_of_mem hx
  rw [← getD_lt hi]
  exact h i hi
theorem allR_not {lo hi : Int} {l : List Int} {i : Nat} (hi' : i < l.length) (h : inR lo hi (l.getD i 0) = false) : allR lo hi l = false := by
  cases ha : allR lo hi l
  · rfl
  · rw [inR_mk (allR_at ha hi')] at h; cases h


set_option maxHeartbeats 400000 in
theorem impl.allWithin_c (a : Option Addr) (c : Nat) (l : List Int) (lo hi : Int) (w : World) (hl : l.length ≤ 4611686018427387904) (hr : Row w a l) :
    Calls Try.prog 48 #[.slice a l.length c, .int .i64 lo, .int .i64 hi] w fun e w' => e = .returned (.bool (allR lo hi l)) ∧ w = w' := by
  go_enter Try.func48, Try.ntmps48
  go_wp2
  go_loop [11] (fun i => ∃ k : Nat, k ≤ l.length ∧ i = .int .i64 k ∧ ∀ j, j < k → inR lo hi (l.getD j 0) = true) (fun i => l.length - (intOf i).toNat)
  case atStart => exact ⟨0, Nat.zero_le _, rfl, fun j h => absurd h (by omega)⟩
  case round =>
    obtain ⟨k, hk, rfl, hall⟩ := hrel
    have HA := Lib.hid hall
    clear hall
    by_cases hlt : k < l.length
    · obtain ⟨b, off, rfl, hcell⟩ := hr.at_ hlt
      obtain ⟨x, hx⟩ : ∃ x, x = l.getD k 0 := ⟨_, rfl⟩
      rw [← hx] at hcell
      have HX := Lib.hid hx
      clear hx hr
      cases hin : inR lo hi x
      · go_wp2_with (go_at_call 58; refine (within_c _ _ _ _).mono ?_; rintro e w' ⟨rfl, rfl⟩)
        go_ret
        exact ⟨ret_bool (allR_not hlt (by rw [← HX.out]; exact hin)).symm, rfl⟩
      · go_wp2_with (go_at_call 58; refine (within_c _ _ _ _).mono ?_; rintro e w' ⟨rfl, rfl⟩)
        go_round
        case rel => exact ⟨k + 1, by omega, by go_num, fun j hj => by
          by_cases h : j < k
          · exact HA.out j h
          · obtain rfl : j = k := by omega
            rw [← HX.out]; exact hin⟩
        case measure => simp [intOf]; omega
    · obtain rfl : k = l.length := by omega
      go_wp2
      go_ret
      exact ⟨ret_bool (allR_mk HA.out).symm, rfl⟩


set_option maxHeartbeats 400000 in
theorem spec.l14Pix_c (a : Option Addr) (c : Nat) (l : List Int) (w : World) (hl : l.length ≤ 4611686018427387904) (hr : Row w a l) :
    Calls Try.prog 46 #[.slice a l.length c] w fun e w' => e = .returned (.bool (allR 0 255 l)) ∧ w = w' := by
  go_enter Try.func46, Try.ntmps46
  go_wp2
  go_loop [3] (fun i => ∃ k : Nat, k ≤ l.length ∧ i = .int .i64 k ∧ ∀ j, j < k → inR 0 255 (l.getD j 0) = true) (fun i => l.length - (intOf i).toNat)
  case atStart => exact ⟨0, Nat.zero_le _, rfl, fun j h => absurd h (by omega)⟩
  case round =>
    obtain ⟨k, hk, rfl, hall⟩ := hrel
    have HA := Lib.hid hall
    clear hall
    by_cases hlt : k < l.length
    · obtain ⟨b, off, rfl, hcell⟩ := hr.at_ hlt
      obtain ⟨x, hx⟩ : ∃ x, x = l.getD k 0 := ⟨_, rfl⟩
      rw [← hx] at hcell
      have HX := Lib.hid hx
      clear hx hr
      cases hin : inR 0 255 x
      · go_wp2_with (go_at_call 59; refine (l1In_c _ _ _ _).mono ?_; rintro e w' ⟨rfl, rfl⟩)
        go_ret
        exact ⟨ret_bool (allR_not hlt (by rw [← HX.out]; exact hin)).symm, rfl⟩
      · go_wp2_with (go_at_call 59; refine (l1In_c _ _ _ _).mono ?_; rintro e w' ⟨rfl, rfl⟩)
        go_round
        case rel => exact ⟨k + 1, by omega, by go_num, fun j hj => by
          by_cases h : j < k
          · exact HA.out j h
          · obtain rfl : j = k := by omega
            rw [← HX.out]; exact hin⟩
        case measure => simp [intOf]; omega
    · obtain rfl : k = l.length := by omega
      go_wp2
      go_ret
      exact ⟨ret_bool (allR_mk HA.out).symm, rfl⟩


/-- the side of a square with so many places -/
def sizeF (n : Nat) : Int := if n = 16 then 4 else if n = 64 then 8 else 0
theorem sizeF_cases (n : Nat) : (n = 16 ∧ sizeF n = 4) ∨ (n = 64 ∧ sizeF n = 8) ∨ (n ≠ 16 ∧ n ≠ 64 ∧ sizeF n = 0) := by
  unfold sizeF
  by_cases h : n = 16
  · exact .inl ⟨h, by rw [if_pos h]⟩
  · by_cases h2 : n = 64
    · exact .inr (.inl ⟨h2, by rw [if_neg h, if_pos h2]⟩)
    · exact .inr (.inr ⟨h, h2, by rw [if_neg h, if_neg h2]⟩)

theorem impl.sizeOf_c (n : Nat) (w : World) (hn : n ≤ 1099511627776) :
    Calls Try.prog 66 #[.int .i64 n] w fun e w' => e = .returned (.int .i64 (sizeF n)) ∧ w = w' := by
  rcases sizeF_cases n with ⟨h, he⟩ | ⟨h, he⟩ | ⟨h1, h2, he⟩
  · subst h
    go_enter Try.func66, Try.ntmps66
    go_wp2
    go_ret
    exact ⟨rfl, rfl⟩
  · subst h
    go_enter Try.func66, Try.ntmps66
    go_wp2
    go_ret
    exact ⟨rfl, rfl⟩
  · have e1 : ((n : Int) == 16) = false := by simp; omega
    have e2 : ((n : Int) == 64) = false := by simp; omega
    have HE := Lib.hid he
    clear he h1 h2
    go_enter Try.func66, Try.ntmps66
    go_wp2
    go_ret
    exact ⟨ret_int HE.out.symm, rfl⟩


theorem spec.l9Side_c (a : Option Addr) (c n : Nat) (w : World) (hn : n ≤ 1099511627776) :
    Calls Try.prog 67 #[.slice a n c] w fun e w' => e = .returned (.int .i64 (sizeF n)) ∧ w = w' := by
  rcases sizeF_cases n with ⟨h, he⟩ | ⟨h, he⟩ | ⟨h1, h2, he⟩
  · subst h
    go_enter Try.func67, Try.ntmps67
    go_wp2
    go_ret
    exact ⟨rfl, rfl⟩
  · subst h
    go_enter Try.func67, Try.ntmps67
    go_wp2
    go_ret
    exact ⟨rfl, rfl⟩
  · have e1 : ((n : Int) == 16) = false := by simp; omega
    have e2 : ((n : Int) == 64) = false := by simp; omega
    have HE := Lib.hid he
    clear he h1 h2
    go_enter Try.func67, Try.ntmps67
    go_wp2
    go_ret
    exact ⟨ret_int HE.out.symm, rfl⟩

end Go.Proofs.Ytkfjbnhihjnhnaa
