/- Contracts: the mean of a neighbourhood. -/
import Derived.Test.YtbdggcefgiehkaaNbOk
import Derived.Deep.QuietTactic
import Derived.BigQuiet
namespace Go.Proofs.Ytbdggcefgiehkaa
open Go.RowKit
set_option linter.unusedVariables false

def sumP (l : List Int) : Nat → Int | 0 => 0 | k + 1 => sumP l k + l.getD k 0
theorem sumP_bd (l : List Int) (k : Nat) (h : ∀ i, i < k → 0 ≤ l.getD i 0 ∧ l.getD i 0 ≤ 255) : 0 ≤ sumP l k ∧ sumP l k ≤ 255 * k := by
  induction k with
  | zero => simp [sumP]
  | succ k ih =>
    have h1 := ih (fun i hi => h i (by omega))
    have h2 := h k (by omega)
    simp only [sumP]
    omega
theorem sumP_congr (l m : List Int) (k : Nat) (h : ∀ i, i < k → l.getD i 0 = m.getD i 0) : sumP l k = sumP m k := by
  induction k with
  | zero => rfl
  | succ k ih => rw [sumP, sumP, ih (fun i hi => h i (by omega)), h k (by omega)]
/-- the mean of what is there -/
def meanV (l m : List Int) (T L : Bool) (n : Nat) : Int :=
  if T then (if L then (sumP l n + sumP m n + n) / (2 * n) else (sumP l n + n / 2) / n) else if L then (sumP m n + n / 2) / n else 128
def meanF (l m : List Int) (C : Int) (T L : Bool) (n : Int) : Int := if nbB l m C n = true then meanV l m T L n.toNat else 0

/-- the data of a valid neighbourhood -/
structure NbAll (w : World) (a : Option Addr) (l : List Int) (b : Option Addr) (m : List Int) (n : Nat) : Prop where
  hl : l.length = 2 * n
  hm : m.length = n
  hr : Row w a l
  hs : Row w b m
  tl : ∀ i, i < 2 * n → 0 ≤ l.getD i 0 ∧ l.getD i 0 ≤ 255
  tm : ∀ i, i < n → 0 ≤ m.getD i 0 ∧ m.getD i 0 ≤ 255
theorem nb_all {w : World} {a : Option Addr} {l : List Int} {b : Option Addr} {m : List Int} {C : Int} {n : Nat} (hr : Row w a l) (hs : Row w b m) (h : nbB l m C n = true) : NbAll w a l b m n := by
  obtain ⟨_, h1, h2, h3, h4, _, _⟩ := nbB_true h
  exact ⟨by omega, by omega, hr, hs, fun i hi => allR_at h3 (by omega), fun i hi => allR_at h4 (by omega)⟩

set_option maxHeartbeats 2000000 in
theorem impl.Mean_4_false_false (a : Option Addr) (c : Nat) (l : List Int) (b : Option Addr) (d : Nat) (m : List Int) (C : Int) (w : World) (hN : NbAll w a l b m 4) (hok : nbB l m C 4 = true) (hcl : l.length ≤ c) :
    Calls Try.prog 12 #[nbv a l.length c b m.length d C false false, .int .i64 4] w fun e w' => e = .returned (.int .i64 (meanV l m false false 4)) ∧ Below w.heap.size w w' := by
  obtain ⟨hl, hm, hr, hs, htl, htm⟩ := hN
  have hcall := fun t => impl.NbOk_4 a c l b d m C false false (w.alloc (.cells #[.slice a l.length c, .slice b m.length d, .int .i64 C, .bool false, .bool false] t)) (by omega) (hr.alloc _) (by omega) (hs.alloc _)
  obtain ⟨p1, o1, rfl, hb1, hc1⟩ := hr.inside (by omega)
  obtain ⟨p2, o2, rfl, hb2, hc2⟩ := hs.inside (by omega)
  have HC1 : Hid (∀ o : Obj, ∀ i, i < 8 → (w.alloc o).cell? ⟨p1, o1 + i, none⟩ = some (.int .i64 (l.getD i 0))) := Lib.hid (fun o i hi => (bcell ((Below.refl _ _).alloc (Nat.le_refl _) o) _ _ hb1).trans (hc1 i (by omega)))
  have HC2 : Hid (∀ o : Obj, ∀ i, i < 4 → (w.alloc o).cell? ⟨p2, o2 + i, none⟩ = some (.int .i64 (m.getD i 0))) := Lib.hid (fun o i hi => (bcell ((Below.refl _ _).alloc (Nat.le_refl _) o) _ _ hb2).trans (hc2 i (by omega)))
  simp only [hok] at hcall
  rw [hl, hm] at hcall ⊢
  rw [hl] at hcl
  have HC := Lib.hid hcall
  have HT1 := Lib.hid htl
  have HT2 := Lib.hid htm
  clear hcall hr hs hc1 hc2 hl hm htl htm hok
  go_enter Try.func12, Try.ntmps12
  go_wp2_with fail
  refine (HC.out _).mono ?_
  rintro e w1 ⟨rfl, hb⟩
  obtain ⟨_, q0, q1, q2, q3, q4⟩ := (Box5.new w _ _ _ _ _ _).below hb (Nat.le_refl _)
  have H1 : Hid (∀ i, i < 8 → w1.cell? ⟨p1, o1 + i, none⟩ = some (.int .i64 (l.getD i 0))) := Lib.hid (fun i hi => (bcell hb _ _ (by simp; omega)).trans (HC1.out _ i hi))
  have H2 : Hid (∀ i, i < 4 → w1.cell? ⟨p2, o2 + i, none⟩ = some (.int .i64 (m.getD i 0))) := Lib.hid (fun i hi => (bcell hb _ _ (by simp; omega)).trans (HC2.out _ i hi))
  have HB : Hid (Below w.heap.size w w1) := Lib.hid (((Below.refl w.heap.size w).alloc (Nat.le_refl _) _).trans (hb.mono (by simp)))
  clear hb
  go_wp2
  go_ret
  exact ⟨ret_int (by simp [meanV]; try omega), HB.out⟩
set_option maxHeartbeats 2000000 in
theorem impl.Mean_4_false_true (a : Option Addr) (c : Nat) (l : List Int) (b : Option Addr) (d : Nat) (m : List Int) (C : Int) (w : World) (hN : NbAll w a l b m 4) (hok : nbB l m C 4 = true) (hcl : l.length ≤ c) :
    Calls Try.prog 12 #[nbv a l.length c b m.length d C false true, .int .i64 4] w fun e w' => e = .returned (.int .i64 (meanV l m false true 4)) ∧ Below w.heap.size w w' := by
  obtain ⟨hl, hm, hr, hs, htl, htm⟩ := hN
  have hcall := fun t => impl.NbOk_4 a c l b d m C false true (w.alloc (.cells #[.slice a l.length c, .slice b m.length d, .int .i64 C, .bool false, .bool true] t)) (by omega) (hr.alloc _) (by omega) (hs.alloc _)
  obtain ⟨p1, o1, rfl, hb1, hc1⟩ := hr.inside (by omega)
  obtain ⟨p2, o2, rfl, hb2, hc2⟩ := hs.inside (by omega)
  have HC1 : Hid (∀ o : Obj, ∀ i, i < 8 → (w.alloc o).cell? ⟨p1, o1 + i, none⟩ = some (.int .i64 (l.getD i 0))) := Lib.hid (fun o i hi => (bcell ((Below.refl _ _).alloc (Nat.le_refl _) o) _ _ hb1).trans (hc1 i (by omega)))
  have HC2 : Hid (∀ o : Obj, ∀ i, i < 4 → (w.alloc o).cell? ⟨p2, o2 + i, none⟩ = some (.int .i64 (m.getD i 0))) := Lib.hid (fun o i hi => (bcell ((Below.refl _ _).alloc (Nat.le_refl _) o) _ _ hb2).trans (hc2 i (by omega)))
  simp only [hok] at hcall
  rw [hl, hm] at hcall ⊢
  rw [hl] at hcl
  have HC := Lib.hid hcall
  have HT1 := Lib.hid htl
  have HT2 := Lib.hid htm
  clear hcall hr hs hc1 hc2 hl hm htl htm hok
  go_enter Try.func12, Try.ntmps12
  go_wp2_with fail
  refine (HC.out _).mono ?_
  rintro e w1 ⟨rfl, hb⟩
  obtain ⟨_, q0, q1, q2, q3, q4⟩ := (Box5.new w _ _ _ _ _ _).below hb (Nat.le_refl _)
  have H1 : Hid (∀ i, i < 8 → w1.cell? ⟨p1, o1 + i, none⟩ = some (.int .i64 (l.getD i 0))) := Lib.hid (fun i hi => (bcell hb _ _ (by simp; omega)).trans (HC1.out _ i hi))
  have H2 : Hid (∀ i, i < 4 → w1.cell? ⟨p2, o2 + i, none⟩ = some (.int .i64 (m.getD i 0))) := Lib.hid (fun i hi => (bcell hb _ _ (by simp; omega)).trans (HC2.out _ i hi))
  have HB : Hid (Below w.heap.size w w1) := Lib.hid (((Below.refl w.heap.size w).alloc (Nat.le_refl _) _).trans (hb.mono (by simp)))
  clear hb
  go_wp2
  go_loop [5, 38] (fun s i => ∃ k : Nat, k ≤ 4 ∧ i = .int .i64 k ∧ s = .int .i64 (sumP m k)) (fun _ i => 4 - (intOf i).toNat)
  case atStart => exact ⟨0, Nat.zero_le _, rfl, rfl⟩
  case round =>
    obtain ⟨k, hk, rfl, rfl⟩ := hrel
    obtain ⟨ht0, ht1⟩ := sumP_bd m k (fun i hi => HT2.out i (by omega))
    by_cases hlt : k < 4
    · have hcell := H2.out k (by omega)
      obtain ⟨hx0, hx1⟩ := HT2.out k (by omega)
      have HY : Hid (sumP m (k + 1) = sumP m k + m.getD k 0) := Lib.hid rfl
      generalize m.getD k 0 = x at *
      generalize sumP m k = t at *
      go_wp2
      go_round
      case rel => exact ⟨k + 1, by omega, by go_num, by rw [HY.out]; first | done | go_num⟩
      case measure => simp [intOf]; omega
    · obtain rfl : k = 4 := by omega
      go_wp2
      go_ret
      exact ⟨ret_int (by simp [meanV]; try omega), HB.out⟩
set_option maxHeartbeats 2000000 in
theorem impl.Mean_4_true_false (a : Option Addr) (c : Nat) (l : List Int) (b : Option Addr) (d : Nat) (m : List Int) (C : Int) (w : World) (hN : NbAll w a l b m 4) (hok : nbB l m C 4 = true) (hcl : l.length ≤ c) :
    Calls Try.prog 12 #[nbv a l.length c b m.length d C true false, .int .i64 4] w fun e w' => e = .returned (.int .i64 (meanV l m true false 4)) ∧ Below w.heap.size w w' := by
  obtain ⟨hl, hm, hr, hs, htl, htm⟩ := hN
  have hcall := fun t => impl.NbOk_4 a c l b d m C true false (w.alloc (.cells #[.slice a l.length c, .slice b m.length d, .int .i64 C, .bool true, .bool false] t)) (by omega) (hr.alloc _) (by omega) (hs.alloc _)
  obtain ⟨p1, o1, rfl, hb1, hc1⟩ := hr.inside (by omega)
  obtain ⟨p2, o2, rfl, hb2, hc2⟩ := hs.inside (by omega)
  have HC1 : Hid (∀ o : Obj, ∀ i, i < 8 → (w.alloc o).cell? ⟨p1, o1 + i, none⟩ = some (.int .i64 (l.getD i 0))) := Lib.hid (fun o i hi => (bcell ((Below.refl _ _).alloc (Nat.le_refl _) o) _ _ hb1).trans (hc1 i (by omega)))
  have HC2 : Hid (∀ o : Obj, ∀ i, i < 4 → (w.alloc o).cell? ⟨p2, o2 + i, none⟩ = some (.int .i64 (m.getD i 0))) := Lib.hid (fun o i hi => (bcell ((Below.refl _ _).alloc (Nat.le_refl _) o) _ _ hb2).trans (hc2 i (by omega)))
  simp only [hok] at hcall
  rw [hl, hm] at hcall ⊢
  rw [hl] at hcl
  have HC := Lib.hid hcall
  have HT1 := Lib.hid htl
  have HT2 := Lib.hid htm
  clear hcall hr hs hc1 hc2 hl hm htl htm hok
  go_enter Try.func12, Try.ntmps12
  go_wp2_with fail
  refine (HC.out _).mono ?_
  rintro e w1 ⟨rfl, hb⟩
  obtain ⟨_, q0, q1, q2, q3, q4⟩ := (Box5.new w _ _ _ _ _ _).below hb (Nat.le_refl _)
  have H1 : Hid (∀ i, i < 8 → w1.cell? ⟨p1, o1 + i, none⟩ = some (.int .i64 (l.getD i 0))) := Lib.hid (fun i hi => (bcell hb _ _ (by simp; omega)).trans (HC1.out _ i hi))
  have H2 : Hid (∀ i, i < 4 → w1.cell? ⟨p2, o2 + i, none⟩ = some (.int .i64 (m.getD i 0))) := Lib.hid (fun i hi => (bcell hb _ _ (by simp; omega)).trans (HC2.out _ i hi))
  have HB : Hid (Below w.heap.size w w1) := Lib.hid (((Below.refl w.heap.size w).alloc (Nat.le_refl _) _).trans (hb.mono (by simp)))
  clear hb
  go_wp2
  go_loop [5, 22] (fun s i => ∃ k : Nat, k ≤ 4 ∧ i = .int .i64 k ∧ s = .int .i64 (sumP l k)) (fun _ i => 4 - (intOf i).toNat)
  case atStart => exact ⟨0, Nat.zero_le _, rfl, rfl⟩
  case round =>
    obtain ⟨k, hk, rfl, rfl⟩ := hrel
    obtain ⟨hs0, hs1⟩ := sumP_bd l k (fun i hi => HT1.out i (by omega))
    by_cases hlt : k < 4
    · have hcell := H1.out k (by omega)
      obtain ⟨hx0, hx1⟩ := HT1.out k (by omega)
      have HY : Hid (sumP l (k + 1) = sumP l k + l.getD k 0) := Lib.hid rfl
      generalize l.getD k 0 = x at *
      generalize sumP l k = s at *
      go_wp2
      go_round
      case rel => exact ⟨k + 1, by omega, by go_num, by rw [HY.out]⟩
      case measure => simp [intOf]; omega
    · obtain rfl : k = 4 := by omega
      go_wp2
      go_ret
      exact ⟨ret_int (by simp [meanV]; try omega), HB.out⟩
set_option maxHeartbeats 2000000 in
theorem impl.Mean_4_true_true (a : Option Addr) (c : Nat) (l : List Int) (b : Option Addr) (d : Nat) (m : List Int) (C : Int) (w : World) (hN : NbAll w a l b m 4) (hok : nbB l m C 4 = true) (hcl : l.length ≤ c) :
    Calls Try.prog 12 #[nbv a l.length c b m.length d C true true, .int .i64 4] w fun e w' => e = .returned (.int .i64 (meanV l m true true 4)) ∧ Below w.heap.size w w' := by
  obtain ⟨hl, hm, hr, hs, htl, htm⟩ := hN
  have hcall := fun t => impl.NbOk_4 a c l b d m C true true (w.alloc (.cells #[.slice a l.length c, .slice b m.length d, .int .i64 C, .bool true, .bool true] t)) (by omega) (hr.alloc _) (by omega) (hs.alloc _)
  obtain ⟨p1, o1, rfl, hb1, hc1⟩ := hr.inside (by omega)
  obtain ⟨p2, o2, rfl, hb2, hc2⟩ := hs.inside (by omega)
  have HC1 : Hid (∀ o : Obj, ∀ i, i < 8 → (w.alloc o).cell? ⟨p1, o1 + i, none⟩ = some (.int .i64 (l.getD i 0))) := Lib.hid (fun o i hi => (bcell ((Below.refl _ _).alloc (Nat.le_refl _) o) _ _ hb1).trans (hc1 i (by omega)))
  have HC2 : Hid (∀ o : Obj, ∀ i, i < 4 → (w.alloc o).cell? ⟨p2, o2 + i, none⟩ = some (.int .i64 (m.getD i 0))) := Lib.hid (fun o i hi => (bcell ((Below.refl _ _).alloc (Nat.le_refl _) o) _ _ hb2).trans (hc2 i (by omega)))
  simp only [hok] at hcall
  rw [hl, hm] at hcall ⊢
  rw [hl] at hcl
  have HC := Lib.hid hcall
  have HT1 := Lib.hid htl
  have HT2 := Lib.hid htm
  clear hcall hr hs hc1 hc2 hl hm htl htm hok
  go_enter Try.func12, Try.ntmps12
  go_wp2_with fail
  refine (HC.out _).mono ?_
  rintro e w1 ⟨rfl, hb⟩
  obtain ⟨_, q0, q1, q2, q3, q4⟩ := (Box5.new w _ _ _ _ _ _).below hb (Nat.le_refl _)
  have H1 : Hid (∀ i, i < 8 → w1.cell? ⟨p1, o1 + i, none⟩ = some (.int .i64 (l.getD i 0))) := Lib.hid (fun i hi => (bcell hb _ _ (by simp; omega)).trans (HC1.out _ i hi))
  have H2 : Hid (∀ i, i < 4 → w1.cell? ⟨p2, o2 + i, none⟩ = some (.int .i64 (m.getD i 0))) := Lib.hid (fun i hi => (bcell hb _ _ (by simp; omega)).trans (HC2.out _ i hi))
  have HB : Hid (Below w.heap.size w w1) := Lib.hid (((Below.refl w.heap.size w).alloc (Nat.le_refl _) _).trans (hb.mono (by simp)))
  clear hb
  go_wp2
  go_loop [5, 22] (fun s i => ∃ k : Nat, k ≤ 4 ∧ i = .int .i64 k ∧ s = .int .i64 (sumP l k)) (fun _ i => 4 - (intOf i).toNat)
  case atStart => exact ⟨0, Nat.zero_le _, rfl, rfl⟩
  case round =>
    obtain ⟨k, hk, rfl, rfl⟩ := hrel
    obtain ⟨hs0, hs1⟩ := sumP_bd l k (fun i hi => HT1.out i (by omega))
    by_cases hlt : k < 4
    · have hcell := H1.out k (by omega)
      obtain ⟨hx0, hx1⟩ := HT1.out k (by omega)
      have HY : Hid (sumP l (k + 1) = sumP l k + l.getD k 0) := Lib.hid rfl
      generalize l.getD k 0 = x at *
      generalize sumP l k = s at *
      go_wp2
      go_round
      case rel => exact ⟨k + 1, by omega, by go_num, by rw [HY.out]⟩
      case measure => simp [intOf]; omega
    · obtain rfl : k = 4 := by omega
      go_wp2
      go_loop [5, 38] (fun s i => ∃ k : Nat, k ≤ 4 ∧ i = .int .i64 k ∧ s = .int .i64 (sumP l 4 + sumP m k)) (fun _ i => 4 - (intOf i).toNat)
      case atStart => exact ⟨0, Nat.zero_le _, rfl, by simp [sumP]⟩
      case round =>
        obtain ⟨k, hk, rfl, rfl⟩ := hrel
        obtain ⟨ht0, ht1⟩ := sumP_bd m k (fun i hi => HT2.out i (by omega))
        by_cases hlt : k < 4
        · have hcell := H2.out k (by omega)
          obtain ⟨hx0, hx1⟩ := HT2.out k (by omega)
          have HY : Hid (sumP m (k + 1) = sumP m k + m.getD k 0) := Lib.hid rfl
          generalize m.getD k 0 = x at *
          generalize sumP m k = t at *
          go_wp2
          go_round
          case rel => exact ⟨k + 1, by omega, by go_num, by rw [HY.out]; first | done | go_num⟩
          case measure => simp [intOf]; omega
        · obtain rfl : k = 4 := by omega
          go_wp2
          go_ret
          exact ⟨ret_int (by simp [meanV]; try omega), HB.out⟩
theorem impl.Mean_4 (a : Option Addr) (c : Nat) (l : List Int) (b : Option Addr) (d : Nat) (m : List Int) (C : Int) (T L : Bool) (w : World) (hN : NbAll w a l b m 4) (hok : nbB l m C 4 = true) (hcl : l.length ≤ c) :
    Calls Try.prog 12 #[nbv a l.length c b m.length d C T L, .int .i64 4] w fun e w' => e = .returned (.int .i64 (meanV l m T L 4)) ∧ Below w.heap.size w w' := by
  cases T
  · cases L
    · exact impl.Mean_4_false_false a c l b d m C w hN hok hcl
    · exact impl.Mean_4_false_true a c l b d m C w hN hok hcl
  · cases L
    · exact impl.Mean_4_true_false a c l b d m C w hN hok hcl
    · exact impl.Mean_4_true_true a c l b d m C w hN hok hcl


set_option maxHeartbeats 2000000 in
theorem impl.Mean_8_false_false (a : Option Addr) (c : Nat) (l : List Int) (b : Option Addr) (d : Nat) (m : List Int) (C : Int) (w : World) (hN : NbAll w a l b m 8) (hok : nbB l m C 8 = true) (hcl : l.length ≤ c) :
    Calls Try.prog 12 #[nbv a l.length c b m.length d C false false, .int .i64 8] w fun e w' => e = .returned (.int .i64 (meanV l m false false 8)) ∧ Below w.heap.size w w' := by
  obtain ⟨hl, hm, hr, hs, htl, htm⟩ := hN
  have hcall := fun t => impl.NbOk_8 a c l b d m C false false (w.alloc (.cells #[.slice a l.length c, .slice b m.length d, .int .i64 C, .bool false, .bool false] t)) (by omega) (hr.alloc _) (by omega) (hs.alloc _)
  obtain ⟨p1, o1, rfl, hb1, hc1⟩ := hr.inside (by omega)
  obtain ⟨p2, o2, rfl, hb2, hc2⟩ := hs.inside (by omega)
  have HC1 : Hid (∀ o : Obj, ∀ i, i < 16 → (w.alloc o).cell? ⟨p1, o1 + i, none⟩ = some (.int .i64 (l.getD i 0))) := Lib.hid (fun o i hi => (bcell ((Below.refl _ _).alloc (Nat.le_refl _) o) _ _ hb1).trans (hc1 i (by omega)))
  have HC2 : Hid (∀ o : Obj, ∀ i, i < 8 → (w.alloc o).cell? ⟨p2, o2 + i, none⟩ = some (.int .i64 (m.getD i 0))) := Lib.hid (fun o i hi => (bcell ((Below.refl _ _).alloc (Nat.le_refl _) o) _ _ hb2).trans (hc2 i (by omega)))
  simp only [hok] at hcall
  rw [hl, hm] at hcall ⊢
  rw [hl] at hcl
  have HC := Lib.hid hcall
  have HT1 := Lib.hid htl
  have HT2 := Lib.hid htm
  clear hcall hr hs hc1 hc2 hl hm htl htm hok
  go_enter Try.func12, Try.ntmps12
  go_wp2_with fail
  refine (HC.out _).mono ?_
  rintro e w1 ⟨rfl, hb⟩
  obtain ⟨_, q0, q1, q2, q3, q4⟩ := (Box5.new w _ _ _ _ _ _).below hb (Nat.le_refl _)
  have H1 : Hid (∀ i, i < 16 → w1.cell? ⟨p1, o1 + i, none⟩ = some (.int .i64 (l.getD i 0))) := Lib.hid (fun i hi => (bcell hb _ _ (by simp; omega)).trans (HC1.out _ i hi))
  have H2 : Hid (∀ i, i < 8 → w1.cell? ⟨p2, o2 + i, none⟩ = some (.int .i64 (m.getD i 0))) := Lib.hid (fun i hi => (bcell hb _ _ (by simp; omega)).trans (HC2.out _ i hi))
  have HB : Hid (Below w.heap.size w w1) := Lib.hid (((Below.refl w.heap.size w).alloc (Nat.le_refl _) _).trans (hb.mono (by simp)))
  clear hb
  go_wp2
  go_ret
  exact ⟨ret_int (by simp [meanV]; try omega), HB.out⟩
set_option maxHeartbeats 2000000 in
theorem impl.Mean_8_false_true (a : Option Addr) (c : Nat) (l : List Int) (b : Option Addr) (d : Nat) (m : List Int) (C : Int) (w : World) (hN : NbAll w a l b m 8) (hok : nbB l m C 8 = true) (hcl : l.length ≤ c) :
    Calls Try.prog 12 #[nbv a l.length c b m.length d C false true, .int .i64 8] w fun e w' => e = .returned (.int .i64 (meanV l m false true 8)) ∧ Below w.heap.size w w' := by
  obtain ⟨hl, hm, hr, hs, htl, htm⟩ := hN
  have hcall := fun t => impl.NbOk_8 a c l b d m C false true (w.alloc (.cells #[.slice a l.length c, .slice b m.length d, .int .i64 C, .bool false, .bool true] t)) (by omega) (hr.alloc _) (by omega) (hs.alloc _)
  obtain ⟨p1, o1, rfl, hb1, hc1⟩ := hr.inside (by omega)
  obtain ⟨p2, o2, rfl, hb2, hc2⟩ := hs.inside (by omega)
  have HC1 : Hid (∀ o : Obj, ∀ i, i < 16 → (w.alloc o).cell? ⟨p1, o1 + i, none⟩ = some (.int .i64 (l.getD i 0))) := Lib.hid (fun o i hi => (bcell ((Below.refl _ _).alloc (Nat.le_refl _) o) _ _ hb1).trans (hc1 i (by omega)))
  have HC2 : Hid (∀ o : Obj, ∀ i, i < 8 → (w.alloc o).cell? ⟨p2, o2 + i, none⟩ = some (.int .i64 (m.getD i 0))) := Lib.hid (fun o i hi => (bcell ((Below.refl _ _).alloc (Nat.le_refl _) o) _ _ hb2).trans (hc2 i (by omega)))
  simp only [hok] at hcall
  rw [hl, hm] at hcall ⊢
  rw [hl] at hcl
  have HC := Lib.hid hcall
  have HT1 := Lib.hid htl
  have HT2 := Lib.hid htm
  clear hcall hr hs hc1 hc2 hl hm htl htm hok
  go_enter Try.func12, Try.ntmps12
  go_wp2_with fail
  refine (HC.out _).mono ?_
  rintro e w1 ⟨rfl, hb⟩
  obtain ⟨_, q0, q1, q2, q3, q4⟩ := (Box5.new w _ _ _ _ _ _).below hb (Nat.le_refl _)
  have H1 : Hid (∀ i, i < 16 → w1.cell? ⟨p1, o1 + i, none⟩ = some (.int .i64 (l.getD i 0))) := Lib.hid (fun i hi => (bcell hb _ _ (by simp; omega)).trans (HC1.out _ i hi))
  have H2 : Hid (∀ i, i < 8 → w1.cell? ⟨p2, o2 + i, none⟩ = some (.int .i64 (m.getD i 0))) := Lib.hid (fun i hi => (bcell hb _ _ (by simp; omega)).trans (HC2.out _ i hi))
  have HB : Hid (Below w.heap.size w w1) := Lib.hid (((Below.refl w.heap.size w).alloc (Nat.le_refl _) _).trans (hb.mono (by simp)))
  clear hb
  go_wp2
  go_loop [5, 38] (fun s i => ∃ k : Nat, k ≤ 8 ∧ i = .int .i64 k ∧ s = .int .i64 (sumP m k)) (fun _ i => 8 - (intOf i).toNat)
  case atStart => exact ⟨0, Nat.zero_le _, rfl, rfl⟩
  case round =>
    obtain ⟨k, hk, rfl, rfl⟩ := hrel
    obtain ⟨ht0, ht1⟩ := sumP_bd m k (fun i hi => HT2.out i (by omega))
    by_cases hlt : k < 8
    · have hcell := H2.out k (by omega)
      obtain ⟨hx0, hx1⟩ := HT2.out k (by omega)
      have HY : Hid (sumP m (k + 1) = sumP m k + m.getD k 0) := Lib.hid rfl
      generalize m.getD k 0 = x at *
      generalize sumP m k = t at *
      go_wp2
      go_round
      case rel => exact ⟨k + 1, by omega, by go_num, by rw [HY.out]; first | done | go_num⟩
      case measure => simp [intOf]; omega
    · obtain rfl : k = 8 := by omega
      go_wp2
      go_ret
      exact ⟨ret_int (by simp [meanV]; try omega), HB.out⟩
set_option maxHeartbeats 2000000 in
theorem impl.Mean_8_true_false (a : Option Addr) (c : Nat) (l : List Int) (b : Option Addr) (d : Nat) (m : List Int) (C : Int) (w : World) (hN : NbAll w a l b m 8) (hok : nbB l m C 8 = true) (hcl : l.length ≤ c) :
    Calls Try.prog 12 #[nbv a l.length c b m.length d C true false, .int .i64 8] w fun e w' => e = .returned (.int .i64 (meanV l m true false 8)) ∧ Below w.heap.size w w' := by
  obtain ⟨hl, hm, hr, hs, htl, htm⟩ := hN
  have hcall := fun t => impl.NbOk_8 a c l b d m C true false (w.alloc (.cells #[.slice a l.length c, .slice b m.length d, .int .i64 C, .bool true, .bool false] t)) (by omega) (hr.alloc _) (by omega) (hs.alloc _)
  obtain ⟨p1, o1, rfl, hb1, hc1⟩ := hr.inside (by omega)
  obtain ⟨p2, o2, rfl, hb2, hc2⟩ := hs.inside (by omega)
  have HC1 : Hid (∀ o : Obj, ∀ i, i < 16 → (w.alloc o).cell? ⟨p1, o1 + i, none⟩ = some (.int .i64 (l.getD i 0))) := Lib.hid (fun o i hi => (bcell ((Below.refl _ _).alloc (Nat.le_refl _) o) _ _ hb1).trans (hc1 i (by omega)))
  have HC2 : Hid (∀ o : Obj, ∀ i, i < 8 → (w.alloc o).cell? ⟨p2, o2 + i, none⟩ = some (.int .i64 (m.getD i 0))) := Lib.hid (fun o i hi => (bcell ((Below.refl _ _).alloc (Nat.le_refl _) o) _ _ hb2).trans (hc2 i (by omega)))
  simp only [hok] at hcall
  rw [hl, hm] at hcall ⊢
  rw [hl] at hcl
  have HC := Lib.hid hcall
  have HT1 := Lib.hid htl
  have HT2 := Lib.hid htm
  clear hcall hr hs hc1 hc2 hl hm htl htm hok
  go_enter Try.func12, Try.ntmps12
  go_wp2_with fail
  refine (HC.out _).mono ?_
  rintro e w1 ⟨rfl, hb⟩
  obtain ⟨_, q0, q1, q2, q3, q4⟩ := (Box5.new w _ _ _ _ _ _).below hb (Nat.le_refl _)
  have H1 : Hid (∀ i, i < 16 → w1.cell? ⟨p1, o1 + i, none⟩ = some (.int .i64 (l.getD i 0))) := Lib.hid (fun i hi => (bcell hb _ _ (by simp; omega)).trans (HC1.out _ i hi))
  have H2 : Hid (∀ i, i < 8 → w1.cell? ⟨p2, o2 + i, none⟩ = some (.int .i64 (m.getD i 0))) := Lib.hid (fun i hi => (bcell hb _ _ (by simp; omega)).trans (HC2.out _ i hi))
  have HB : Hid (Below w.heap.size w w1) := Lib.hid (((Below.refl w.heap.size w).alloc (Nat.le_refl _) _).trans (hb.mono (by simp)))
  clear hb
  go_wp2
  go_loop [5, 22] (fun s i => ∃ k : Nat, k ≤ 8 ∧ i = .int .i64 k ∧ s = .int .i64 (sumP l k)) (fun _ i => 8 - (intOf i).toNat)
  case atStart => exact ⟨0, Nat.zero_le _, rfl, rfl⟩
  case round =>
    obtain ⟨k, hk, rfl, rfl⟩ := hrel
    obtain ⟨hs0, hs1⟩ := sumP_bd l k (fun i hi => HT1.out i (by omega))
    by_cases hlt : k < 8
    · have hcell := H1.out k (by omega)
      obtain ⟨hx0, hx1⟩ := HT1.out k (by omega)
      have HY : Hid (sumP l (k + 1) = sumP l k + l.getD k 0) := Lib.hid rfl
      generalize l.getD k 0 = x at *
      generalize sumP l k = s at *
      go_wp2
      go_round
      case rel => exact ⟨k + 1, by omega, by go_num, by rw [HY.out]⟩
      case measure => simp [intOf]; omega
    · obtain rfl : k = 8 := by omega
      go_wp2
      go_ret
      exact ⟨ret_int (by simp [meanV]; try omega), HB.out⟩
set_option maxHeartbeats 2000000 in
theorem impl.Mean_8_true_true (a : Option Addr) (c : Nat) (l : List Int) (b : Option Addr) (d : Nat) (m : List Int) (C : Int) (w : World) (hN : NbAll w a l b m 8) (hok : nbB l m C 8 = true) (hcl : l.length ≤ c) :
    Calls Try.prog 12 #[nbv a l.length c b m.length d C true true, .int .i64 8] w fun e w' => e = .returned (.int .i64 (meanV l m true true 8)) ∧ Below w.heap.size w w' := by
  obtain ⟨hl, hm, hr, hs, htl, htm⟩ := hN
  have hcall := fun t => impl.NbOk_8 a c l b d m C true true (w.alloc (.cells #[.slice a l.length c, .slice b m.length d, .int .i64 C, .bool true, .bool true] t)) (by omega) (hr.alloc _) (by omega) (hs.alloc _)
  obtain ⟨p1, o1, rfl, hb1, hc1⟩ := hr.inside (by omega)
  obtain ⟨p2, o2, rfl, hb2, hc2⟩ := hs.inside (by omega)
  have HC1 : Hid (∀ o : Obj, ∀ i, i < 16 → (w.alloc o).cell? ⟨p1, o1 + i, none⟩ = some (.int .i64 (l.getD i 0))) := Lib.hid (fun o i hi => (bcell ((Below.refl _ _).alloc (Nat.le_refl _) o) _ _ hb1).trans (hc1 i (by omega)))
  have HC2 : Hid (∀ o : Obj, ∀ i, i < 8 → (w.alloc o).cell? ⟨p2, o2 + i, none⟩ = some (.int .i64 (m.getD i 0))) := Lib.hid (fun o i hi => (bcell ((Below.refl _ _).alloc (Nat.le_refl _) o) _ _ hb2).trans (hc2 i (by omega)))
  simp only [hok] at hcall
  rw [hl, hm] at hcall ⊢
  rw [hl] at hcl
  have HC := Lib.hid hcall
  have HT1 := Lib.hid htl
  have HT2 := Lib.hid htm
  clear hcall hr hs hc1 hc2 hl hm htl htm hok
  go_enter Try.func12, Try.ntmps12
  go_wp2_with fail
  refine (HC.out _).mono ?_
  rintro e w1 ⟨rfl, hb⟩
  obtain ⟨_, q0, q1, q2, q3, q4⟩ := (Box5.new w _ _ _ _ _ _).below hb (Nat.le_refl _)
  have H1 : Hid (∀ i, i < 16 → w1.cell? ⟨p1, o1 + i, none⟩ = some (.int .i64 (l.getD i 0))) := Lib.hid (fun i hi => (bcell hb _ _ (by simp; omega)).trans (HC1.out _ i hi))
  have H2 : Hid (∀ i, i < 8 → w1.cell? ⟨p2, o2 + i, none⟩ = some (.int .i64 (m.getD i 0))) := Lib.hid (fun i hi => (bcell hb _ _ (by simp; omega)).trans (HC2.out _ i hi))
  have HB : Hid (Below w.heap.size w w1) := Lib.hid (((Below.refl w.heap.size w).alloc (Nat.le_refl _) _).trans (hb.mono (by simp)))
  clear hb
  go_wp2
  go_loop [5, 22] (fun s i => ∃ k : Nat, k ≤ 8 ∧ i = .int .i64 k ∧ s = .int .i64 (sumP l k)) (fun _ i => 8 - (intOf i).toNat)
  case atStart => exact ⟨0, Nat.zero_le _, rfl, rfl⟩
  case round =>
    obtain ⟨k, hk, rfl, rfl⟩ := hrel
    obtain ⟨hs0, hs1⟩ := sumP_bd l k (fun i hi => HT1.out i (by omega))
    by_cases hlt : k < 8
    · have hcell := H1.out k (by omega)
      obtain ⟨hx0, hx1⟩ := HT1.out k (by omega)
      have HY : Hid (sumP l (k + 1) = sumP l k + l.getD k 0) := Lib.hid rfl
      generalize l.getD k 0 = x at *
      generalize sumP l k = s at *
      go_wp2
      go_round
      case rel => exact ⟨k + 1, by omega, by go_num, by rw [HY.out]⟩
      case measure => simp [intOf]; omega
    · obtain rfl : k = 8 := by omega
      go_wp2
      go_loop [5, 38] (fun s i => ∃ k : Nat, k ≤ 8 ∧ i = .int .i64 k ∧ s = .int .i64 (sumP l 8 + sumP m k)) (fun _ i => 8 - (intOf i).toNat)
      case atStart => exact ⟨0, Nat.zero_le _, rfl, by simp [sumP]⟩
      case round =>
        obtain ⟨k, hk, rfl, rfl⟩ := hrel
        obtain ⟨ht0, ht1⟩ := sumP_bd m k (fun i hi => HT2.out i (by omega))
        by_cases hlt : k < 8
        · have hcell := H2.out k (by omega)
          obtain ⟨hx0, hx1⟩ := HT2.out k (by omega)
          have HY : Hid (sumP m (k + 1) = sumP m k + m.getD k 0) := Lib.hid rfl
          generalize m.getD k 0 = x at *
          generalize sumP m k = t at *
          go_wp2
          go_round
          case rel => exact ⟨k + 1, by omega, by go_num, by rw [HY.out]; first | done | go_num⟩
          case measure => simp [intOf]; omega
        · obtain rfl : k = 8 := by omega
          go_wp2
          go_ret
          exact ⟨ret_int (by simp [meanV]; try omega), HB.out⟩
theorem impl.Mean_8 (a : Option Addr) (c : Nat) (l : List Int) (b : Option Addr) (d : Nat) (m : List Int) (C : Int) (T L : Bool) (w : World) (hN : NbAll w a l b m 8) (hok : nbB l m C 8 = true) (hcl : l.length ≤ c) :
    Calls Try.prog 12 #[nbv a l.length c b m.length d C T L, .int .i64 8] w fun e w' => e = .returned (.int .i64 (meanV l m T L 8)) ∧ Below w.heap.size w w' := by
  cases T
  · cases L
    · exact impl.Mean_8_false_false a c l b d m C w hN hok hcl
    · exact impl.Mean_8_false_true a c l b d m C w hN hok hcl
  · cases L
    · exact impl.Mean_8_true_false a c l b d m C w hN hok hcl
    · exact impl.Mean_8_true_true a c l b d m C w hN hok hcl


set_option maxHeartbeats 400000 in
theorem spec.l14Sum_c (p o n c : Nat) (l : List Int) (w : World) (hc : ∀ i, i < n → w.cell? ⟨p, o + i, none⟩ = some (.int .i64 (l.getD i 0))) (ht : ∀ i, i < n → 0 ≤ l.getD i 0 ∧ l.getD i 0 ≤ 255) (hn : n ≤ 1024) :
    Calls Try.prog 79 #[.slice (some ⟨p, o, none⟩) n c] w fun e w' => e = .returned (.int .i64 (sumP l n)) ∧ w = w' := by
  have HC := Lib.hid hc
  have HT := Lib.hid ht
  clear hc ht
  go_enter Try.func79, Try.ntmps79
  go_wp2
  go_loop [3, 4] (fun s i => ∃ k : Nat, k ≤ n ∧ i = .int .i64 k ∧ s = .int .i64 (sumP l k)) (fun _ i => n - (intOf i).toNat)
  case atStart => exact ⟨0, Nat.zero_le _, rfl, rfl⟩
  case round =>
    obtain ⟨k, hk, rfl, rfl⟩ := hrel
    obtain ⟨hs0, hs1⟩ := sumP_bd l k (fun i hi => HT.out i (by omega))
    by_cases hlt : k < n
    · have hcell := HC.out k hlt
      obtain ⟨hx0, hx1⟩ := HT.out k hlt
      have HY : Hid (sumP l (k + 1) = sumP l k + l.getD k 0) := Lib.hid rfl
      generalize l.getD k 0 = x at *
      generalize sumP l k = s at *
      go_wp2
      go_round
      case rel => exact ⟨k + 1, by omega, by go_num, by rw [HY.out]⟩
      case measure => simp [intOf]; omega
    · obtain rfl : k = n := by omega
      go_wp2
      go_ret
      exact ⟨rfl, rfl⟩


set_option maxHeartbeats 2000000 in
theorem spec.Mean_4_false_false (a : Option Addr) (c : Nat) (l : List Int) (b : Option Addr) (d : Nat) (m : List Int) (C : Int) (w : World) (hN : NbAll w a l b m 4) (hok : nbB l m C 4 = true) (hcl : l.length ≤ c) :
    Calls Try.prog 77 #[nbv a l.length c b m.length d C false false, .int .i64 4] w fun e w' => e = .returned (.int .i64 (meanV l m false false 4)) ∧ Below w.heap.size w w' := by
  obtain ⟨hl, hm, hr, hs, htl, htm⟩ := hN
  have hcall := fun t => spec.NbOk_4 a c l b d m C false false (w.alloc (.cells #[.slice a l.length c, .slice b m.length d, .int .i64 C, .bool false, .bool false] t)) (by omega) (hr.alloc _) (by omega) (hs.alloc _)
  obtain ⟨p1, o1, rfl, hb1, hc1⟩ := hr.inside (by omega)
  obtain ⟨p2, o2, rfl, hb2, hc2⟩ := hs.inside (by omega)
  have HC1 : Hid (∀ o : Obj, ∀ i, i < 8 → (w.alloc o).cell? ⟨p1, o1 + i, none⟩ = some (.int .i64 (l.getD i 0))) := Lib.hid (fun o i hi => (bcell ((Below.refl _ _).alloc (Nat.le_refl _) o) _ _ hb1).trans (hc1 i (by omega)))
  have HC2 : Hid (∀ o : Obj, ∀ i, i < 4 → (w.alloc o).cell? ⟨p2, o2 + i, none⟩ = some (.int .i64 (m.getD i 0))) := Lib.hid (fun o i hi => (bcell ((Below.refl _ _).alloc (Nat.le_refl _) o) _ _ hb2).trans (hc2 i (by omega)))
  simp only [hok] at hcall
  rw [hl, hm] at hcall ⊢
  rw [hl] at hcl
  have HC := Lib.hid hcall
  have HT1 := Lib.hid htl
  have HT2 := Lib.hid htm
  clear hcall hr hs hc1 hc2 hl hm htl htm hok
  go_enter Try.func77, Try.ntmps77
  go_wp2_with fail
  refine (HC.out _).mono ?_
  rintro e w1 ⟨rfl, hb⟩
  obtain ⟨_, q0, q1, q2, q3, q4⟩ := (Box5.new w _ _ _ _ _ _).below hb (Nat.le_refl _)
  have S1 : Calls Try.prog 79 #[.slice (some ⟨p1, o1, none⟩) 4 c] w1 fun e w' => e = .returned (.int .i64 (sumP l 4)) ∧ w1 = w' := spec.l14Sum_c p1 o1 4 c l w1 (fun i hi => (bcell hb _ _ (by simp; omega)).trans (HC1.out _ i (by omega))) (fun i hi => HT1.out i (by omega)) (by omega)
  have S2 : Calls Try.prog 79 #[.slice (some ⟨p2, o2, none⟩) 4 d] w1 fun e w' => e = .returned (.int .i64 (sumP m 4)) ∧ w1 = w' := spec.l14Sum_c p2 o2 4 d m w1 (fun i hi => (bcell hb _ _ (by simp; omega)).trans (HC2.out _ i hi)) (fun i hi => HT2.out i hi) (by omega)
  have HS1 := Lib.hid S1
  have HS2 := Lib.hid S2
  have HQ1 : Hid (∀ n, Calls Try.prog 79 #[.slice (some ⟨p1, o1, none⟩) 4 c] (w1.drewN n) fun e w' => e = .returned (.int .i64 (sumP l 4)) ∧ w1.drewN n = w') := Lib.hid (fun n => spec.l14Sum_c p1 o1 4 c l (w1.drewN n) (fun i hi => (bcell hb _ _ (by simp; omega)).trans (HC1.out _ i (by omega))) (fun i hi => HT1.out i (by omega)) (by omega))
  have HQ2 : Hid (∀ n, Calls Try.prog 79 #[.slice (some ⟨p2, o2, none⟩) 4 d] (w1.drewN n) fun e w' => e = .returned (.int .i64 (sumP m 4)) ∧ w1.drewN n = w') := Lib.hid (fun n => spec.l14Sum_c p2 o2 4 d m (w1.drewN n) (fun i hi => (bcell hb _ _ (by simp; omega)).trans (HC2.out _ i hi)) (fun i hi => HT2.out i hi) (by omega))
  have HB : Hid (Below w.heap.size w w1) := Lib.hid (((Below.refl w.heap.size w).alloc (Nat.le_refl _) _).trans (hb.mono (by simp)))
  obtain ⟨hs0, hs1⟩ := sumP_bd l 4 (fun i hi => HT1.out i (by omega))
  obtain ⟨ht0, ht1⟩ := sumP_bd m 4 (fun i hi => HT2.out i (by omega))
  have HM : Hid (meanV l m false false 4 = 128) := Lib.hid (by simp [meanV])
  generalize sumP l 4 = s at *
  generalize sumP m 4 = u at *
  clear hb S1 S2
  go_wp2
  go_ret
  exact ⟨ret_int (by rw [HM.out]), HB.out⟩
set_option maxHeartbeats 2000000 in
theorem spec.Mean_4_false_true (a : Option Addr) (c : Nat) (l : List Int) (b : Option Addr) (d : Nat) (m : List Int) (C : Int) (w : World) (hN : NbAll w a l b m 4) (hok : nbB l m C 4 = true) (hcl : l.length ≤ c) :
    Calls Try.prog 77 #[nbv a l.length c b m.length d C false true, .int .i64 4] w fun e w' => e = .returned (.int .i64 (meanV l m false true 4)) ∧ Below w.heap.size w w' := by
  obtain ⟨hl, hm, hr, hs, htl, htm⟩ := hN
  have hcall := fun t => spec.NbOk_4 a c l b d m C false true (w.alloc (.cells #[.slice a l.length c, .slice b m.length d, .int .i64 C, .bool false, .bool true] t)) (by omega) (hr.alloc _) (by omega) (hs.alloc _)
  obtain ⟨p1, o1, rfl, hb1, hc1⟩ := hr.inside (by omega)
  obtain ⟨p2, o2, rfl, hb2, hc2⟩ := hs.inside (by omega)
  have HC1 : Hid (∀ o : Obj, ∀ i, i < 8 → (w.alloc o).cell? ⟨p1, o1 + i, none⟩ = some (.int .i64 (l.getD i 0))) := Lib.hid (fun o i hi => (bcell ((Below.refl _ _).alloc (Nat.le_refl _) o) _ _ hb1).trans (hc1 i (by omega)))
  have HC2 : Hid (∀ o : Obj, ∀ i, i < 4 → (w.alloc o).cell? ⟨p2, o2 + i, none⟩ = some (.int .i64 (m.getD i 0))) := Lib.hid (fun o i hi => (bcell ((Below.refl _ _).alloc (Nat.le_refl _) o) _ _ hb2).trans (hc2 i (by omega)))
  simp only [hok] at hcall
  rw [hl, hm] at hcall ⊢
  rw [hl] at hcl
  have HC := Lib.hid hcall
  have HT1 := Lib.hid htl
  have HT2 := Lib.hid htm
  clear hcall hr hs hc1 hc2 hl hm htl htm hok
  go_enter Try.func77, Try.ntmps77
  go_wp2_with fail
  refine (HC.out _).mono ?_
  rintro e w1 ⟨rfl, hb⟩
  obtain ⟨_, q0, q1, q2, q3, q4⟩ := (Box5.new w _ _ _ _ _ _).below hb (Nat.le_refl _)
  have S1 : Calls Try.prog 79 #[.slice (some ⟨p1, o1, none⟩) 4 c] w1 fun e w' => e = .returned (.int .i64 (sumP l 4)) ∧ w1 = w' := spec.l14Sum_c p1 o1 4 c l w1 (fun i hi => (bcell hb _ _ (by simp; omega)).trans (HC1.out _ i (by omega))) (fun i hi => HT1.out i (by omega)) (by omega)
  have S2 : Calls Try.prog 79 #[.slice (some ⟨p2, o2, none⟩) 4 d] w1 fun e w' => e = .returned (.int .i64 (sumP m 4)) ∧ w1 = w' := spec.l14Sum_c p2 o2 4 d m w1 (fun i hi => (bcell hb _ _ (by simp; omega)).trans (HC2.out _ i hi)) (fun i hi => HT2.out i hi) (by omega)
  have HS1 := Lib.hid S1
  have HS2 := Lib.hid S2
  have HQ1 : Hid (∀ n, Calls Try.prog 79 #[.slice (some ⟨p1, o1, none⟩) 4 c] (w1.drewN n) fun e w' => e = .returned (.int .i64 (sumP l 4)) ∧ w1.drewN n = w') := Lib.hid (fun n => spec.l14Sum_c p1 o1 4 c l (w1.drewN n) (fun i hi => (bcell hb _ _ (by simp; omega)).trans (HC1.out _ i (by omega))) (fun i hi => HT1.out i (by omega)) (by omega))
  have HQ2 : Hid (∀ n, Calls Try.prog 79 #[.slice (some ⟨p2, o2, none⟩) 4 d] (w1.drewN n) fun e w' => e = .returned (.int .i64 (sumP m 4)) ∧ w1.drewN n = w') := Lib.hid (fun n => spec.l14Sum_c p2 o2 4 d m (w1.drewN n) (fun i hi => (bcell hb _ _ (by simp; omega)).trans (HC2.out _ i hi)) (fun i hi => HT2.out i hi) (by omega))
  have HB : Hid (Below w.heap.size w w1) := Lib.hid (((Below.refl w.heap.size w).alloc (Nat.le_refl _) _).trans (hb.mono (by simp)))
  obtain ⟨hs0, hs1⟩ := sumP_bd l 4 (fun i hi => HT1.out i (by omega))
  obtain ⟨ht0, ht1⟩ := sumP_bd m 4 (fun i hi => HT2.out i (by omega))
  have HM : Hid (meanV l m false true 4 = (sumP m 4 + 4 / 2) / 4) := Lib.hid (by simp [meanV])
  generalize sumP l 4 = s at *
  generalize sumP m 4 = u at *
  clear hb S1 S2
  go_wp2_with (go_at_call 79; refine (HS2.out).mono ?_; rintro e w' ⟨rfl, rfl⟩)
  go_ret
  exact ⟨ret_int (by rw [HM.out]; first | done | omega), HB.out⟩
set_option maxHeartbeats 2000000 in
theorem spec.Mean_4_true_false (a : Option Addr) (c : Nat) (l : List Int) (b : Option Addr) (d : Nat) (m : List Int) (C : Int) (w : World) (hN : NbAll w a l b m 4) (hok : nbB l m C 4 = true) (hcl : l.length ≤ c) :
    Calls Try.prog 77 #[nbv a l.length c b m.length d C true false, .int .i64 4] w fun e w' => e = .returned (.int .i64 (meanV l m true false 4)) ∧ Below w.heap.size w w' := by
  obtain ⟨hl, hm, hr, hs, htl, htm⟩ := hN
  have hcall := fun t => spec.NbOk_4 a c l b d m C true false (w.alloc (.cells #[.slice a l.length c, .slice b m.length d, .int .i64 C, .bool true, .bool false] t)) (by omega) (hr.alloc _) (by omega) (hs.alloc _)
  obtain ⟨p1, o1, rfl, hb1, hc1⟩ := hr.inside (by omega)
  obtain ⟨p2, o2, rfl, hb2, hc2⟩ := hs.inside (by omega)
  have HC1 : Hid (∀ o : Obj, ∀ i, i < 8 → (w.alloc o).cell? ⟨p1, o1 + i, none⟩ = some (.int .i64 (l.getD i 0))) := Lib.hid (fun o i hi => (bcell ((Below.refl _ _).alloc (Nat.le_refl _) o) _ _ hb1).trans (hc1 i (by omega)))
  have HC2 : Hid (∀ o : Obj, ∀ i, i < 4 → (w.alloc o).cell? ⟨p2, o2 + i, none⟩ = some (.int .i64 (m.getD i 0))) := Lib.hid (fun o i hi => (bcell ((Below.refl _ _).alloc (Nat.le_refl _) o) _ _ hb2).trans (hc2 i (by omega)))
  simp only [hok] at hcall
  rw [hl, hm] at hcall ⊢
  rw [hl] at hcl
  have HC := Lib.hid hcall
  have HT1 := Lib.hid htl
  have HT2 := Lib.hid htm
  clear hcall hr hs hc1 hc2 hl hm htl htm hok
  go_enter Try.func77, Try.ntmps77
  go_wp2_with fail
  refine (HC.out _).mono ?_
  rintro e w1 ⟨rfl, hb⟩
  obtain ⟨_, q0, q1, q2, q3, q4⟩ := (Box5.new w _ _ _ _ _ _).below hb (Nat.le_refl _)
  have S1 : Calls Try.prog 79 #[.slice (some ⟨p1, o1, none⟩) 4 c] w1 fun e w' => e = .returned (.int .i64 (sumP l 4)) ∧ w1 = w' := spec.l14Sum_c p1 o1 4 c l w1 (fun i hi => (bcell hb _ _ (by simp; omega)).trans (HC1.out _ i (by omega))) (fun i hi => HT1.out i (by omega)) (by omega)
  have S2 : Calls Try.prog 79 #[.slice (some ⟨p2, o2, none⟩) 4 d] w1 fun e w' => e = .returned (.int .i64 (sumP m 4)) ∧ w1 = w' := spec.l14Sum_c p2 o2 4 d m w1 (fun i hi => (bcell hb _ _ (by simp; omega)).trans (HC2.out _ i hi)) (fun i hi => HT2.out i hi) (by omega)
  have HS1 := Lib.hid S1
  have HS2 := Lib.hid S2
  have HQ1 : Hid (∀ n, Calls Try.prog 79 #[.slice (some ⟨p1, o1, none⟩) 4 c] (w1.drewN n) fun e w' => e = .returned (.int .i64 (sumP l 4)) ∧ w1.drewN n = w') := Lib.hid (fun n => spec.l14Sum_c p1 o1 4 c l (w1.drewN n) (fun i hi => (bcell hb _ _ (by simp; omega)).trans (HC1.out _ i (by omega))) (fun i hi => HT1.out i (by omega)) (by omega))
  have HQ2 : Hid (∀ n, Calls Try.prog 79 #[.slice (some ⟨p2, o2, none⟩) 4 d] (w1.drewN n) fun e w' => e = .returned (.int .i64 (sumP m 4)) ∧ w1.drewN n = w') := Lib.hid (fun n => spec.l14Sum_c p2 o2 4 d m (w1.drewN n) (fun i hi => (bcell hb _ _ (by simp; omega)).trans (HC2.out _ i hi)) (fun i hi => HT2.out i hi) (by omega))
  have HB : Hid (Below w.heap.size w w1) := Lib.hid (((Below.refl w.heap.size w).alloc (Nat.le_refl _) _).trans (hb.mono (by simp)))
  obtain ⟨hs0, hs1⟩ := sumP_bd l 4 (fun i hi => HT1.out i (by omega))
  obtain ⟨ht0, ht1⟩ := sumP_bd m 4 (fun i hi => HT2.out i (by omega))
  have HM : Hid (meanV l m true false 4 = (sumP l 4 + 4 / 2) / 4) := Lib.hid (by simp [meanV])
  generalize sumP l 4 = s at *
  generalize sumP m 4 = u at *
  clear hb S1 S2
  go_wp2_with (go_at_call 79; refine (HS1.out).mono ?_; rintro e w' ⟨rfl, rfl⟩)
  go_ret
  exact ⟨ret_int (by rw [HM.out]; first | done | omega), HB.out⟩
set_option maxHeartbeats 2000000 in
theorem spec.Mean_4_true_true (a : Option Addr) (c : Nat) (l : List Int) (b : Option Addr) (d : Nat) (m : List Int) (C : Int) (w : World) (hN : NbAll w a l b m 4) (hok : nbB l m C 4 = true) (hcl : l.length ≤ c) :
    Calls Try.prog 77 #[nbv a l.length c b m.length d C true true, .int .i64 4] w fun e w' => e = .returned (.int .i64 (meanV l m true true 4)) ∧ Below w.heap.size w w' := by
  obtain ⟨hl, hm, hr, hs, htl, htm⟩ := hN
  have hcall := fun t => spec.NbOk_4 a c l b d m C true true (w.alloc (.cells #[.slice a l.length c, .slice b m.length d, .int .i64 C, .bool true, .bool true] t)) (by omega) (hr.alloc _) (by omega) (hs.alloc _)
  obtain ⟨p1, o1, rfl, hb1, hc1⟩ := hr.inside (by omega)
  obtain ⟨p2, o2, rfl, hb2, hc2⟩ := hs.inside (by omega)
  have HC1 : Hid (∀ o : Obj, ∀ i, i < 8 → (w.alloc o).cell? ⟨p1, o1 + i, none⟩ = some (.int .i64 (l.getD i 0))) := Lib.hid (fun o i hi => (bcell ((Below.refl _ _).alloc (Nat.le_refl _) o) _ _ hb1).trans (hc1 i (by omega)))
  have HC2 : Hid (∀ o : Obj, ∀ i, i < 4 → (w.alloc o).cell? ⟨p2, o2 + i, none⟩ = some (.int .i64 (m.getD i 0))) := Lib.hid (fun o i hi => (bcell ((Below.refl _ _).alloc (Nat.le_refl _) o) _ _ hb2).trans (hc2 i (by omega)))
  simp only [hok] at hcall
  rw [hl, hm] at hcall ⊢
  rw [hl] at hcl
  have HC := Lib.hid hcall
  have HT1 := Lib.hid htl
  have HT2 := Lib.hid htm
  clear hcall hr hs hc1 hc2 hl hm htl htm hok
  go_enter Try.func77, Try.ntmps77
  go_wp2_with fail
  refine (HC.out _).mono ?_
  rintro e w1 ⟨rfl, hb⟩
  obtain ⟨_, q0, q1, q2, q3, q4⟩ := (Box5.new w _ _ _ _ _ _).below hb (Nat.le_refl _)
  have S1 : Calls Try.prog 79 #[.slice (some ⟨p1, o1, none⟩) 4 c] w1 fun e w' => e = .returned (.int .i64 (sumP l 4)) ∧ w1 = w' := spec.l14Sum_c p1 o1 4 c l w1 (fun i hi => (bcell hb _ _ (by simp; omega)).trans (HC1.out _ i (by omega))) (fun i hi => HT1.out i (by omega)) (by omega)
  have S2 : Calls Try.prog 79 #[.slice (some ⟨p2, o2, none⟩) 4 d] w1 fun e w' => e = .returned (.int .i64 (sumP m 4)) ∧ w1 = w' := spec.l14Sum_c p2 o2 4 d m w1 (fun i hi => (bcell hb _ _ (by simp; omega)).trans (HC2.out _ i hi)) (fun i hi => HT2.out i hi) (by omega)
  have HS1 := Lib.hid S1
  have HS2 := Lib.hid S2
  have HQ1 : Hid (∀ n, Calls Try.prog 79 #[.slice (some ⟨p1, o1, none⟩) 4 c] (w1.drewN n) fun e w' => e = .returned (.int .i64 (sumP l 4)) ∧ w1.drewN n = w') := Lib.hid (fun n => spec.l14Sum_c p1 o1 4 c l (w1.drewN n) (fun i hi => (bcell hb _ _ (by simp; omega)).trans (HC1.out _ i (by omega))) (fun i hi => HT1.out i (by omega)) (by omega))
  have HQ2 : Hid (∀ n, Calls Try.prog 79 #[.slice (some ⟨p2, o2, none⟩) 4 d] (w1.drewN n) fun e w' => e = .returned (.int .i64 (sumP m 4)) ∧ w1.drewN n = w') := Lib.hid (fun n => spec.l14Sum_c p2 o2 4 d m (w1.drewN n) (fun i hi => (bcell hb _ _ (by simp; omega)).trans (HC2.out _ i hi)) (fun i hi => HT2.out i hi) (by omega))
  have HB : Hid (Below w.heap.size w w1) := Lib.hid (((Below.refl w.heap.size w).alloc (Nat.le_refl _) _).trans (hb.mono (by simp)))
  obtain ⟨hs0, hs1⟩ := sumP_bd l 4 (fun i hi => HT1.out i (by omega))
  obtain ⟨ht0, ht1⟩ := sumP_bd m 4 (fun i hi => HT2.out i (by omega))
  have HM : Hid (meanV l m true true 4 = (sumP l 4 + sumP m 4 + 4) / (2 * 4)) := Lib.hid (by simp [meanV])
  generalize sumP l 4 = s at *
  generalize sumP m 4 = u at *
  clear hb S1 S2
  have e1 : IntKind.i64.wrap (s + u) = s + u := IntWalk.i64_in _ (by omega)
  have e2 : IntKind.i64.wrap (s + u + 4) = s + u + 4 := IntWalk.i64_in _ (by omega)
  go_wp2_with fail
  go_quiet ((go_at_call 79; first | (with_reducible exact quiet_eq (HQ1.out _)) | (with_reducible exact quiet_eq (HQ2.out _))))
  go_wp2
  go_ret
  exact ⟨ret_int (by rw [HM.out]; first | done | omega), below_drewN' HB.out _⟩
theorem spec.Mean_4 (a : Option Addr) (c : Nat) (l : List Int) (b : Option Addr) (d : Nat) (m : List Int) (C : Int) (T L : Bool) (w : World) (hN : NbAll w a l b m 4) (hok : nbB l m C 4 = true) (hcl : l.length ≤ c) :
    Calls Try.prog 77 #[nbv a l.length c b m.length d C T L, .int .i64 4] w fun e w' => e = .returned (.int .i64 (meanV l m T L 4)) ∧ Below w.heap.size w w' := by
  cases T
  · cases L
    · exact spec.Mean_4_false_false a c l b d m C w hN hok hcl
    · exact spec.Mean_4_false_true a c l b d m C w hN hok hcl
  · cases L
    · exact spec.Mean_4_true_false a c l b d m C w hN hok hcl
    · exact spec.Mean_4_true_true a c l b d m C w hN hok hcl


set_option maxHeartbeats 2000000 in
theorem spec.Mean_8_false_false (a : Option Addr) (c : Nat) (l : List Int) (b : Option Addr) (d : Nat) (m : List Int) (C : Int) (w : World) (hN : NbAll w a l b m 8) (hok : nbB l m C 8 = true) (hcl : l.length ≤ c) :
    Calls Try.prog 77 #[nbv a l.length c b m.length d C false false, .int .i64 8] w fun e w' => e = .returned (.int .i64 (meanV l m false false 8)) ∧ Below w.heap.size w w' := by
  obtain ⟨hl, hm, hr, hs, htl, htm⟩ := hN
  have hcall := fun t => spec.NbOk_8 a c l b d m C false false (w.alloc (.cells #[.slice a l.length c, .slice b m.length d, .int .i64 C, .bool false, .bool false] t)) (by omega) (hr.alloc _) (by omega) (hs.alloc _)
  obtain ⟨p1, o1, rfl, hb1, hc1⟩ := hr.inside (by omega)
  obtain ⟨p2, o2, rfl, hb2, hc2⟩ := hs.inside (by omega)
  have HC1 : Hid (∀ o : Obj, ∀ i, i < 16 → (w.alloc o).cell? ⟨p1, o1 + i, none⟩ = some (.int .i64 (l.getD i 0))) := Lib.hid (fun o i hi => (bcell ((Below.refl _ _).alloc (Nat.le_refl _) o) _ _ hb1).trans (hc1 i (by omega)))
  have HC2 : Hid (∀ o : Obj, ∀ i, i < 8 → (w.alloc o).cell? ⟨p2, o2 + i, none⟩ = some (.int .i64 (m.getD i 0))) := Lib.hid (fun o i hi => (bcell ((Below.refl _ _).alloc (Nat.le_refl _) o) _ _ hb2).trans (hc2 i (by omega)))
  simp only [hok] at hcall
  rw [hl, hm] at hcall ⊢
  rw [hl] at hcl
  have HC := Lib.hid hcall
  have HT1 := Lib.hid htl
  have HT2 := Lib.hid htm
  clear hcall hr hs hc1 hc2 hl hm htl htm hok
  go_enter Try.func77, Try.ntmps77
  go_wp2_with fail
  refine (HC.out _).mono ?_
  rintro e w1 ⟨rfl, hb⟩
  obtain ⟨_, q0, q1, q2, q3, q4⟩ := (Box5.new w _ _ _ _ _ _).below hb (Nat.le_refl _)
  have S1 : Calls Try.prog 79 #[.slice (some ⟨p1, o1, none⟩) 8 c] w1 fun e w' => e = .returned (.int .i64 (sumP l 8)) ∧ w1 = w' := spec.l14Sum_c p1 o1 8 c l w1 (fun i hi => (bcell hb _ _ (by simp; omega)).trans (HC1.out _ i (by omega))) (fun i hi => HT1.out i (by omega)) (by omega)
  have S2 : Calls Try.prog 79 #[.slice (some ⟨p2, o2, none⟩) 8 d] w1 fun e w' => e = .returned (.int .i64 (sumP m 8)) ∧ w1 = w' := spec.l14Sum_c p2 o2 8 d m w1 (fun i hi => (bcell hb _ _ (by simp; omega)).trans (HC2.out _ i hi)) (fun i hi => HT2.out i hi) (by omega)
  have HS1 := Lib.hid S1
  have HS2 := Lib.hid S2
  have HQ1 : Hid (∀ n, Calls Try.prog 79 #[.slice (some ⟨p1, o1, none⟩) 8 c] (w1.drewN n) fun e w' => e = .returned (.int .i64 (sumP l 8)) ∧ w1.drewN n = w') := Lib.hid (fun n => spec.l14Sum_c p1 o1 8 c l (w1.drewN n) (fun i hi => (bcell hb _ _ (by simp; omega)).trans (HC1.out _ i (by omega))) (fun i hi => HT1.out i (by omega)) (by omega))
  have HQ2 : Hid (∀ n, Calls Try.prog 79 #[.slice (some ⟨p2, o2, none⟩) 8 d] (w1.drewN n) fun e w' => e = .returned (.int .i64 (sumP m 8)) ∧ w1.drewN n = w') := Lib.hid (fun n => spec.l14Sum_c p2 o2 8 d m (w1.drewN n) (fun i hi => (bcell hb _ _ (by simp; omega)).trans (HC2.out _ i hi)) (fun i hi => HT2.out i hi) (by omega))
  have HB : Hid (Below w.heap.size w w1) := Lib.hid (((Below.refl w.heap.size w).alloc (Nat.le_refl _) _).trans (hb.mono (by simp)))
  obtain ⟨hs0, hs1⟩ := sumP_bd l 8 (fun i hi => HT1.out i (by omega))
  obtain ⟨ht0, ht1⟩ := sumP_bd m 8 (fun i hi => HT2.out i (by omega))
  have HM : Hid (meanV l m false false 8 = 128) := Lib.hid (by simp [meanV])
  generalize sumP l 8 = s at *
  generalize sumP m 8 = u at *
  clear hb S1 S2
  go_wp2
  go_ret
  exact ⟨ret_int (by rw [HM.out]), HB.out⟩
set_option maxHeartbeats 2000000 in
theorem spec.Mean_8_false_true (a : Option Addr) (c : Nat) (l : List Int) (b : Option Addr) (d : Nat) (m : List Int) (C : Int) (w : World) (hN : NbAll w a l b m 8) (hok : nbB l m C 8 = true) (hcl : l.length ≤ c) :
    Calls Try.prog 77 #[nbv a l.length c b m.length d C false true, .int .i64 8] w fun e w' => e = .returned (.int .i64 (meanV l m false true 8)) ∧ Below w.heap.size w w' := by
  obtain ⟨hl, hm, hr, hs, htl, htm⟩ := hN
  have hcall := fun t => spec.NbOk_8 a c l b d m C false true (w.alloc (.cells #[.slice a l.length c, .slice b m.length d, .int .i64 C, .bool false, .bool true] t)) (by omega) (hr.alloc _) (by omega) (hs.alloc _)
  obtain ⟨p1, o1, rfl, hb1, hc1⟩ := hr.inside (by omega)
  obtain ⟨p2, o2, rfl, hb2, hc2⟩ := hs.inside (by omega)
  have HC1 : Hid (∀ o : Obj, ∀ i, i < 16 → (w.alloc o).cell? ⟨p1, o1 + i, none⟩ = some (.int .i64 (l.getD i 0))) := Lib.hid (fun o i hi => (bcell ((Below.refl _ _).alloc (Nat.le_refl _) o) _ _ hb1).trans (hc1 i (by omega)))
  have HC2 : Hid (∀ o : Obj, ∀ i, i < 8 → (w.alloc o).cell? ⟨p2, o2 + i, none⟩ = some (.int .i64 (m.getD i 0))) := Lib.hid (fun o i hi => (bcell ((Below.refl _ _).alloc (Nat.le_refl _) o) _ _ hb2).trans (hc2 i (by omega)))
  simp only [hok] at hcall
  rw [hl, hm] at hcall ⊢
  rw [hl] at hcl
  have HC := Lib.hid hcall
  have HT1 := Lib.hid htl
  have HT2 := Lib.hid htm
  clear hcall hr hs hc1 hc2 hl hm htl htm hok
  go_enter Try.func77, Try.ntmps77
  go_wp2_with fail
  refine (HC.out _).mono ?_
  rintro e w1 ⟨rfl, hb⟩
  obtain ⟨_, q0, q1, q2, q3, q4⟩ := (Box5.new w _ _ _ _ _ _).below hb (Nat.le_refl _)
  have S1 : Calls Try.prog 79 #[.slice (some ⟨p1, o1, none⟩) 8 c] w1 fun e w' => e = .returned (.int .i64 (sumP l 8)) ∧ w1 = w' := spec.l14Sum_c p1 o1 8 c l w1 (fun i hi => (bcell hb _ _ (by simp; omega)).trans (HC1.out _ i (by omega))) (fun i hi => HT1.out i (by omega)) (by omega)
  have S2 : Calls Try.prog 79 #[.slice (some ⟨p2, o2, none⟩) 8 d] w1 fun e w' => e = .returned (.int .i64 (sumP m 8)) ∧ w1 = w' := spec.l14Sum_c p2 o2 8 d m w1 (fun i hi => (bcell hb _ _ (by simp; omega)).trans (HC2.out _ i hi)) (fun i hi => HT2.out i hi) (by omega)
  have HS1 := Lib.hid S1
  have HS2 := Lib.hid S2
  have HQ1 : Hid (∀ n, Calls Try.prog 79 #[.slice (some ⟨p1, o1, none⟩) 8 c] (w1.drewN n) fun e w' => e = .returned (.int .i64 (sumP l 8)) ∧ w1.drewN n = w') := Lib.hid (fun n => spec.l14Sum_c p1 o1 8 c l (w1.drewN n) (fun i hi => (bcell hb _ _ (by simp; omega)).trans (HC1.out _ i (by omega))) (fun i hi => HT1.out i (by omega)) (by omega))
  have HQ2 : Hid (∀ n, Calls Try.prog 79 #[.slice (some ⟨p2, o2, none⟩) 8 d] (w1.drewN n) fun e w' => e = .returned (.int .i64 (sumP m 8)) ∧ w1.drewN n = w') := Lib.hid (fun n => spec.l14Sum_c p2 o2 8 d m (w1.drewN n) (fun i hi => (bcell hb _ _ (by simp; omega)).trans (HC2.out _ i hi)) (fun i hi => HT2.out i hi) (by omega))
  have HB : Hid (Below w.heap.size w w1) := Lib.hid (((Below.refl w.heap.size w).alloc (Nat.le_refl _) _).trans (hb.mono (by simp)))
  obtain ⟨hs0, hs1⟩ := sumP_bd l 8 (fun i hi => HT1.out i (by omega))
  obtain ⟨ht0, ht1⟩ := sumP_bd m 8 (fun i hi => HT2.out i (by omega))
  have HM : Hid (meanV l m false true 8 = (sumP m 8 + 8 / 2) / 8) := Lib.hid (by simp [meanV])
  generalize sumP l 8 = s at *
  generalize sumP m 8 = u at *
  clear hb S1 S2
  go_wp2_with (go_at_call 79; refine (HS2.out).mono ?_; rintro e w' ⟨rfl, rfl⟩)
  go_ret
  exact ⟨ret_int (by rw [HM.out]; first | done | omega), HB.out⟩
set_option maxHeartbeats 2000000 in
theorem spec.Mean_8_true_false (a : Option Addr) (c : Nat) (l : List Int) (b : Option Addr) (d : Nat) (m : List Int) (C : Int) (w : World) (hN : NbAll w a l b m 8) (hok : nbB l m C 8 = true) (hcl : l.length ≤ c) :
    Calls Try.prog 77 #[nbv a l.length c b m.length d C true false, .int .i64 8] w fun e w' => e = .returned (.int .i64 (meanV l m true false 8)) ∧ Below w.heap.size w w' := by
  obtain ⟨hl, hm, hr, hs, htl, htm⟩ := hN
  have hcall := fun t => spec.NbOk_8 a c l b d m C true false (w.alloc (.cells #[.slice a l.length c, .slice b m.length d, .int .i64 C, .bool true, .bool false] t)) (by omega) (hr.alloc _) (by omega) (hs.alloc _)
  obtain ⟨p1, o1, rfl, hb1, hc1⟩ := hr.inside (by omega)
  obtain ⟨p2, o2, rfl, hb2, hc2⟩ := hs.inside (by omega)
  have HC1 : Hid (∀ o : Obj, ∀ i, i < 16 → (w.alloc o).cell? ⟨p1, o1 + i, none⟩ = some (.int .i64 (l.getD i 0))) := Lib.hid (fun o i hi => (bcell ((Below.refl _ _).alloc (Nat.le_refl _) o) _ _ hb1).trans (hc1 i (by omega)))
  have HC2 : Hid (∀ o : Obj, ∀ i, i < 8 → (w.alloc o).cell? ⟨p2, o2 + i, none⟩ = some (.int .i64 (m.getD i 0))) := Lib.hid (fun o i hi => (bcell ((Below.refl _ _).alloc (Nat.le_refl _) o) _ _ hb2).trans (hc2 i (by omega)))
  simp only [hok] at hcall
  rw [hl, hm] at hcall ⊢
  rw [hl] at hcl
  have HC := Lib.hid hcall
  have HT1 := Lib.hid htl
  have HT2 := Lib.hid htm
  clear hcall hr hs hc1 hc2 hl hm htl htm hok
  go_enter Try.func77, Try.ntmps77
  go_wp2_with fail
  refine (HC.out _).mono ?_
  rintro e w1 ⟨rfl, hb⟩
  obtain ⟨_, q0, q1, q2, q3, q4⟩ := (Box5.new w _ _ _ _ _ _).below hb (Nat.le_refl _)
  have S1 : Calls Try.prog 79 #[.slice (some ⟨p1, o1, none⟩) 8 c] w1 fun e w' => e = .returned (.int .i64 (sumP l 8)) ∧ w1 = w' := spec.l14Sum_c p1 o1 8 c l w1 (fun i hi => (bcell hb _ _ (by simp; omega)).trans (HC1.out _ i (by omega))) (fun i hi => HT1.out i (by omega)) (by omega)
  have S2 : Calls Try.prog 79 #[.slice (some ⟨p2, o2, none⟩) 8 d] w1 fun e w' => e = .returned (.int .i64 (sumP m 8)) ∧ w1 = w' := spec.l14Sum_c p2 o2 8 d m w1 (fun i hi => (bcell hb _ _ (by simp; omega)).trans (HC2.out _ i hi)) (fun i hi => HT2.out i hi) (by omega)
  have HS1 := Lib.hid S1
  have HS2 := Lib.hid S2
  have HQ1 : Hid (∀ n, Calls Try.prog 79 #[.slice (some ⟨p1, o1, none⟩) 8 c] (w1.drewN n) fun e w' => e = .returned (.int .i64 (sumP l 8)) ∧ w1.drewN n = w') := Lib.hid (fun n => spec.l14Sum_c p1 o1 8 c l (w1.drewN n) (fun i hi => (bcell hb _ _ (by simp; omega)).trans (HC1.out _ i (by omega))) (fun i hi => HT1.out i (by omega)) (by omega))
  have HQ2 : Hid (∀ n, Calls Try.prog 79 #[.slice (some ⟨p2, o2, none⟩) 8 d] (w1.drewN n) fun e w' => e = .returned (.int .i64 (sumP m 8)) ∧ w1.drewN n = w') := Lib.hid (fun n => spec.l14Sum_c p2 o2 8 d m (w1.drewN n) (fun i hi => (bcell hb _ _ (by simp; omega)).trans (HC2.out _ i hi)) (fun i hi => HT2.out i hi) (by omega))
  have HB : Hid (Below w.heap.size w w1) := Lib.hid (((Below.refl w.heap.size w).alloc (Nat.le_refl _) _).trans (hb.mono (by simp)))
  obtain ⟨hs0, hs1⟩ := sumP_bd l 8 (fun i hi => HT1.out i (by omega))
  obtain ⟨ht0, ht1⟩ := sumP_bd m 8 (fun i hi => HT2.out i (by omega))
  have HM : Hid (meanV l m true false 8 = (sumP l 8 + 8 / 2) / 8) := Lib.hid (by simp [meanV])
  generalize sumP l 8 = s at *
  generalize sumP m 8 = u at *
  clear hb S1 S2
  go_wp2_with (go_at_call 79; refine (HS1.out).mono ?_; rintro e w' ⟨rfl, rfl⟩)
  go_ret
  exact ⟨ret_int (by rw [HM.out]; first | done | omega), HB.out⟩
set_option maxHeartbeats 2000000 in
theorem spec.Mean_8_true_true (a : Option Addr) (c : Nat) (l : List Int) (b : Option Addr) (d : Nat) (m : List Int) (C : Int) (w : World) (hN : NbAll w a l b m 8) (hok : nbB l m C 8 = true) (hcl : l.length ≤ c) :
    Calls Try.prog 77 #[nbv a l.length c b m.length d C true true, .int .i64 8] w fun e w' => e = .returned (.int .i64 (meanV l m true true 8)) ∧ Below w.heap.size w w' := by
  obtain ⟨hl, hm, hr, hs, htl, htm⟩ := hN
  have hcall := fun t => spec.NbOk_8 a c l b d m C true true (w.alloc (.cells #[.slice a l.length c, .slice b m.length d, .int .i64 C, .bool true, .bool true] t)) (by omega) (hr.alloc _) (by omega) (hs.alloc _)
  obtain ⟨p1, o1, rfl, hb1, hc1⟩ := hr.inside (by omega)
  obtain ⟨p2, o2, rfl, hb2, hc2⟩ := hs.inside (by omega)
  have HC1 : Hid (∀ o : Obj, ∀ i, i < 16 → (w.alloc o).cell? ⟨p1, o1 + i, none⟩ = some (.int .i64 (l.getD i 0))) := Lib.hid (fun o i hi => (bcell ((Below.refl _ _).alloc (Nat.le_refl _) o) _ _ hb1).trans (hc1 i (by omega)))
  have HC2 : Hid (∀ o : Obj, ∀ i, i < 8 → (w.alloc o).cell? ⟨p2, o2 + i, none⟩ = some (.int .i64 (m.getD i 0))) := Lib.hid (fun o i hi => (bcell ((Below.refl _ _).alloc (Nat.le_refl _) o) _ _ hb2).trans (hc2 i (by omega)))
  simp only [hok] at hcall
  rw [hl, hm] at hcall ⊢
  rw [hl] at hcl
  have HC := Lib.hid hcall
  have HT1 := Lib.hid htl
  have HT2 := Lib.hid htm
  clear hcall hr hs hc1 hc2 hl hm htl htm hok
  go_enter Try.func77, Try.ntmps77
  go_wp2_with fail
  refine (HC.out _).mono ?_
  rintro e w1 ⟨rfl, hb⟩
  obtain ⟨_, q0, q1, q2, q3, q4⟩ := (Box5.new w _ _ _ _ _ _).below hb (Nat.le_refl _)
  have S1 : Calls Try.prog 79 #[.slice (some ⟨p1, o1, none⟩) 8 c] w1 fun e w' => e = .returned (.int .i64 (sumP l 8)) ∧ w1 = w' := spec.l14Sum_c p1 o1 8 c l w1 (fun i hi => (bcell hb _ _ (by simp; omega)).trans (HC1.out _ i (by omega))) (fun i hi => HT1.out i (by omega)) (by omega)
  have S2 : Calls Try.prog 79 #[.slice (some ⟨p2, o2, none⟩) 8 d] w1 fun e w' => e = .returned (.int .i64 (sumP m 8)) ∧ w1 = w' := spec.l14Sum_c p2 o2 8 d m w1 (fun i hi => (bcell hb _ _ (by simp; omega)).trans (HC2.out _ i hi)) (fun i hi => HT2.out i hi) (by omega)
  have HS1 := Lib.hid S1
  have HS2 := Lib.hid S2
  have HQ1 : Hid (∀ n, Calls Try.prog 79 #[.slice (some ⟨p1, o1, none⟩) 8 c] (w1.drewN n) fun e w' => e = .returned (.int .i64 (sumP l 8)) ∧ w1.drewN n = w') := Lib.hid (fun n => spec.l14Sum_c p1 o1 8 c l (w1.drewN n) (fun i hi => (bcell hb _ _ (by simp; omega)).trans (HC1.out _ i (by omega))) (fun i hi => HT1.out i (by omega)) (by omega))
  have HQ2 : Hid (∀ n, Calls Try.prog 79 #[.slice (some ⟨p2, o2, none⟩) 8 d] (w1.drewN n) fun e w' => e = .returned (.int .i64 (sumP m 8)) ∧ w1.drewN n = w') := Lib.hid (fun n => spec.l14Sum_c p2 o2 8 d m (w1.drewN n) (fun i hi => (bcell hb _ _ (by simp; omega)).trans (HC2.out _ i hi)) (fun i hi => HT2.out i hi) (by omega))
  have HB : Hid (Below w.heap.size w w1) := Lib.hid (((Below.refl w.heap.size w).alloc (Nat.le_refl _) _).trans (hb.mono (by simp)))
  obtain ⟨hs0, hs1⟩ := sumP_bd l 8 (fun i hi => HT1.out i (by omega))
  obtain ⟨ht0, ht1⟩ := sumP_bd m 8 (fun i hi => HT2.out i (by omega))
  have HM : Hid (meanV l m true true 8 = (sumP l 8 + sumP m 8 + 8) / (2 * 8)) := Lib.hid (by simp [meanV])
  generalize sumP l 8 = s at *
  generalize sumP m 8 = u at *
  clear hb S1 S2
  have e1 : IntKind.i64.wrap (s + u) = s + u := IntWalk.i64_in _ (by omega)
  have e2 : IntKind.i64.wrap (s + u + 8) = s + u + 8 := IntWalk.i64_in _ (by omega)
  go_wp2_with fail
  go_quiet ((go_at_call 79; first | (with_reducible exact quiet_eq (HQ1.out _)) | (with_reducible exact quiet_eq (HQ2.out _))))
  go_wp2
  go_ret
  exact ⟨ret_int (by rw [HM.out]; first | done | omega), below_drewN' HB.out _⟩
theorem spec.Mean_8 (a : Option Addr) (c : Nat) (l : List Int) (b : Option Addr) (d : Nat) (m : List Int) (C : Int) (T L : Bool) (w : World) (hN : NbAll w a l b m 8) (hok : nbB l m C 8 = true) (hcl : l.length ≤ c) :
    Calls Try.prog 77 #[nbv a l.length c b m.length d C T L, .int .i64 8] w fun e w' => e = .returned (.int .i64 (meanV l m T L 8)) ∧ Below w.heap.size w w' := by
  cases T
  · cases L
    · exact spec.Mean_8_false_false a c l b d m C w hN hok hcl
    · exact spec.Mean_8_false_true a c l b d m C w hN hok hcl
  · cases L
    · exact spec.Mean_8_true_false a c l b d m C w hN hok hcl
    · exact spec.Mean_8_true_true a c l b d m C w hN hok hcl


set_option maxHeartbeats 1000000 in
theorem impl.Mean_c (a : Option Addr) (c : Nat) (l : List Int) (b : Option Addr) (d : Nat) (m : List Int) (C : Int) (T L : Bool) (n : Int) (w : World) (hl : l.length ≤ 1099511627776) (hr : Row w a l) (hw : ∀ x ∈ l, -9223372036854775808 ≤ x ∧ x ≤ 9223372036854775807) (hm : m.length ≤ 1099511627776) (hs : Row w b m) (hu : ∀ x ∈ m, -9223372036854775808 ≤ x ∧ x ≤ 9223372036854775807) (hC : -9223372036854775808 ≤ C ∧ C ≤ 9223372036854775807) (hcl : l.length ≤ c) (hcm : m.length ≤ d) :
    Calls Try.prog 12 #[nbv a l.length c b m.length d C T L, .int .i64 n] w fun e w' => e = .returned (.int .i64 (meanF l m C T L n)) ∧ Below w.heap.size w w' := by
  cases h : nbB l m C n
  · have hcall := fun t => impl.NbOk_c a c l b d m C T L n (w.alloc (.cells #[.slice a l.length c, .slice b m.length d, .int .i64 C, .bool T, .bool L] t)) hl (hr.alloc _) hw hm (hs.alloc _) hu hC
    simp only [h] at hcall
    have HC := Lib.hid hcall
    have HF : Hid (meanF l m C T L n = 0) := Lib.hid (by simp [meanF, h])
    clear hcall h hl hr hw hm hs hu hC hcl hcm
    go_enter Try.func12, Try.ntmps12
    go_wp2_with fail
    refine (HC.out _).mono ?_
    rintro e w1 ⟨rfl, hb⟩
    have HB : Hid (Below w.heap.size w w1) := Lib.hid (((Below.refl w.heap.size w).alloc (Nat.le_refl _) _).trans (hb.mono (by simp)))
    clear hb
    go_wp2
    go_ret
    exact ⟨ret_int HF.out.symm, HB.out⟩
  · have hf : meanF l m C T L n = meanV l m T L n.toNat := by simp [meanF, h]
    rw [hf]
    rcases (nbB_true h).1 with rfl | rfl
    · exact impl.Mean_4 a c l b d m C T L w (nb_all hr hs h) h hcl
    · exact impl.Mean_8 a c l b d m C T L w (nb_all hr hs h) h hcl


set_option maxHeartbeats 1000000 in
theorem spec.Mean_c (a : Option Addr) (c : Nat) (l : List Int) (b : Option Addr) (d : Nat) (m : List Int) (C : Int) (T L : Bool) (n : Int) (w : World) (hl : l.length ≤ 1099511627776) (hr : Row w a l) (hw : ∀ x ∈ l, -9223372036854775808 ≤ x ∧ x ≤ 9223372036854775807) (hm : m.length ≤ 1099511627776) (hs : Row w b m) (hu : ∀ x ∈ m, -9223372036854775808 ≤ x ∧ x ≤ 9223372036854775807) (hC : -9223372036854775808 ≤ C ∧ C ≤ 9223372036854775807) (hcl : l.length ≤ c) (hcm : m.length ≤ d) :
    Calls Try.prog 77 #[nbv a l.length c b m.length d C T L, .int .i64 n] w fun e w' => e = .returned (.int .i64 (meanF l m C T L n)) ∧ Below w.heap.size w w' := by
  cases h : nbB l m C n
  · have hcall := fun t => spec.NbOk_c a c l b d m C T L n (w.alloc (.cells #[.slice a l.length c, .slice b m.length d, .int .i64 C, .bool T, .bool L] t)) hl (hr.alloc _) hw hm (hs.alloc _) hu hC
    simp only [h] at hcall
    have HC := Lib.hid hcall
    have HF : Hid (meanF l m C T L n = 0) := Lib.hid (by simp [meanF, h])
    clear hcall h hl hr hw hm hs hu hC hcl hcm
    go_enter Try.func77, Try.ntmps77
    go_wp2_with fail
    refine (HC.out _).mono ?_
    rintro e w1 ⟨rfl, hb⟩
    have HB : Hid (Below w.heap.size w w1) := Lib.hid (((Below.refl w.heap.size w).alloc (Nat.le_refl _) _).trans (hb.mono (by simp)))
    clear hb
    go_wp2
    go_ret
    exact ⟨ret_int HF.out.symm, HB.out⟩
  · have hf : meanF l m C T L n = meanV l m T L n.toNat := by simp [meanF, h]
    rw [hf]
    rcases (nbB_true h).1 with rfl | rfl
    · exact spec.Mean_4 a c l b d m C T L w (nb_all hr hs h) h hcl
    · exact spec.Mean_8 a c l b d m C T L w (nb_all hr hs h) h hcl

end Go.Proofs.Ytbdggcefgiehkaa
