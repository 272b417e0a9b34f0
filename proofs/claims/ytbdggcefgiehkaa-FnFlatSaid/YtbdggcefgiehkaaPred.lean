/- Contracts: the prediction of a block. -/
import Derived.Test.YtbdggcefgiehkaaPredAt
namespace Go.Proofs.Ytbdggcefgiehkaa
open Go.RowKit
set_option linter.unusedVariables false

def predL (l m : List Int) (C : Int) (T L : Bool) (n : Nat) (mode : Int) : List Int := tab (fun i => predV l m C T L n mode (i % n) (i / n)) (n * n)
def predLB (l m : List Int) (C n mode : Int) : Bool := nbB l m C n && inR 0 5 mode
def predLF (l m : List Int) (C : Int) (T L : Bool) (mode n : Int) : List Int := if predLB l m C n mode = true then predL l m C T L n.toNat mode else []
theorem predLF_len (l m : List Int) (C : Int) (T L : Bool) (mode n : Int) : (predLF l m C T L mode n).length ≤ 1048576 := by
  unfold predLF
  split
  · rename_i h
    simp only [predLB, Bool.and_eq_true] at h
    unfold predL
    rw [tab_len]
    rcases (nbB_true h.1).1 with rfl | rfl <;> decide
  · simp


set_option maxHeartbeats 4000000 in
theorem impl.Pred_4 (mode : Int) (hmo : inR 0 5 mode = true) (a : Option Addr) (c : Nat) (l : List Int) (b : Option Addr) (d : Nat) (m : List Int) (C : Int) (T L : Bool) (w : World) (hN : NbAll w a l b m 4) (hok : nbB l m C 4 = true) (hcl : l.length ≤ c) :
    Calls Try.prog 23 #[.int .i64 mode, nbv a l.length c b m.length d C T L, .int .i64 4] w fun e w' => ∃ x y, e = .returned (.slice x 16 y) ∧ Own w.heap.size w' x y (predL l m C T L 4 mode) ∧ Below w.heap.size w w' := by
  have HN : Hid (∀ w0, Below w.heap.size w w0 → NbAll w0 a l b m 4) := Lib.hid (fun w0 h => ⟨hN.hl, hN.hm, hN.hr.below h (Nat.le_refl _), hN.hs.below h (Nat.le_refl _), hN.tl, hN.tm⟩)
  obtain ⟨hl, hm, hr, hs, htl, htm⟩ := hN
  have hcall := fun (w0 : World) (h : NbAll w0 a l b m 4) => impl.NbOk_4 a c l b d m C T L w0 (by omega) h.hr (by omega) h.hs
  have hpred := fun (w0 : World) (h : NbAll w0 a l b m 4) (X Y : Nat) (hX : X < 4) (hY : Y < 4) => impl.PredAt_4 mode a c l b d m C T L X Y w0 h hok hcl hX hY
  simp only [hok] at hcall
  rw [hl, hm] at hcall hpred ⊢
  have HC := Lib.hid hcall
  have HP := Lib.hid hpred
  clear hcall hpred hr hs hl hm htl htm hok hcl
  go_enter Try.func23, Try.ntmps23
  go_wp2_with fail
  obtain ⟨W0, hW0⟩ : ∃ WW, WW = w.alloc (.cells #[.slice a 8 c, .slice b 4 d, .int .i64 C, .bool T, .bool L] 27) := ⟨_, rfl⟩
  rw [← hW0]
  have P0 : Box5 W0 w.heap.size (.slice a 8 c) (.slice b 4 d) (.int .i64 C) (.bool T) (.bool L) := by rw [hW0]; exact Box5.new w _ _ _ _ _ _
  have HB0 : Hid (Below w.heap.size w W0) := Lib.hid (by rw [hW0]; exact (Below.refl w.heap.size w).alloc (Nat.le_refl _) _)
  clear hW0
  refine (HC.out W0 (HN.out W0 HB0.out)).mono ?_
  rintro e w1 ⟨rfl, hb⟩
  have P1 := P0.below hb (Nat.le_refl _)
  have HB : Hid (Below w.heap.size w w1) := Lib.hid (HB0.out.trans (hb.mono HB0.out.size))
  clear hb P0 HB0 HC
  go_wp2_with (go_at_call 51; refine (within_c _ _ _ _).mono ?_; rintro e w' ⟨rfl, rfl⟩)
  go_loopw [7, 22] (fun o i wr => ∃ (k : Nat) (ad : Option Addr) (cc : Nat), k ≤ 16 ∧ i = .int .i64 k ∧ o = .slice ad k cc ∧ Own (w.heap.size + 1) wr ad cc (tab (fun i => predV l m C T L 4 mode (i % 4) (i / 4)) k) ∧ Below w.heap.size w wr ∧ Box5 wr w.heap.size (.slice a 8 c) (.slice b 4 d) (.int .i64 C) (.bool T) (.bool L)) (fun _ i _ => 16 - (intOf i).toNat)
  case atStart => exact ⟨0, _, _, Nat.zero_le _, rfl, rfl, Own.lit _ _ [] rfl (by have := P1.1; omega) (by simp [maxLen]), HB.out.alloc HB.out.size _, P1.below ((Below.refl _ _).alloc (Nat.le_refl _) _) (Nat.le_refl _)⟩
  case round =>
    clear P1 HB
    obtain ⟨k, ad, cc, hk, rfl, rfl, hown, hb, P⟩ := hrel
    have hwz : w.heap.size < wr.heap.size := P.1
    by_cases hlt : k < 16
    · obtain ⟨p, hp⟩ : ∃ p, p = k % 4 := ⟨_, rfl⟩
      obtain ⟨q, hq⟩ : ∃ q, q = k / 4 := ⟨_, rfl⟩
      have HNr := HN.out wr.drew hb.drew
      have HPr := Lib.hid (HP.out wr.drew HNr p q (by omega) (by omega))
      have e1 : (k : Int).tmod 4 = (p : Int) := by rw [Int.tmod_eq_emod_of_nonneg (by omega)]; omega
      have e3 : IntKind.i64.wrap ((k : Int).tdiv 4) = (q : Int) := by rw [Int.tdiv_eq_ediv_of_nonneg (by omega), IntWalk.i64_in _ (by omega)]; omega
      have e5 : (k : Int) % 4 = (p : Int) := by omega
      have e6 : (k : Int) / 4 = (q : Int) := by omega
      have e7 : IntKind.i64.wrap ((p : Int)) = (p : Int) := IntWalk.i64_in _ (by omega)
      have e8 : IntKind.i64.wrap ((q : Int)) = (q : Int) := IntWalk.i64_in _ (by omega)
      have HY : Hid (predV l m C T L 4 mode (k % 4) (k / 4) = predV l m C T L 4 mode p q) := Lib.hid (by rw [hp, hq])
      have H1 := Lib.hid hown
      have H2 := Lib.hid hb
      have HPB := Lib.hid P
      obtain ⟨_, q0, q1, q2, q3, q4⟩ := P
      generalize predV l m C T L 4 mode p q = v at *
      clear hown hb hp hq HNr
      go_wp2_with fail
      go_region_held3 (fun w' => w'.cell? ⟨w.heap.size, 0, none⟩ = some (.slice a 8 c) ∧ w'.cell? ⟨w.heap.size, 1, none⟩ = some (.slice b 4 d) ∧ w'.cell? ⟨w.heap.size, 2, none⟩ = some (.int .i64 C) ∧ w'.cell? ⟨w.heap.size, 3, none⟩ = some (.bool T) ∧ w'.cell? ⟨w.heap.size, 4, none⟩ = some (.bool L)) (first | go_keep)
        ((first
          | (go_at_call 27; refine HPr.out.mono ?_; rintro e w2 ⟨rfl, hb2⟩; have hk0 := bcell hb2 w.heap.size 0 hwz; have hk1 := bcell hb2 w.heap.size 1 hwz; have hk2 := bcell hb2 w.heap.size 2 hwz; have hk3 := bcell hb2 w.heap.size 3 hwz; have hk4 := bcell hb2 w.heap.size 4 hwz)
          | (refine step_append_one Try.underlying25 Try.infoInt rfl (.tmp 25) (.tmp 36) rfl (w.heap.size + 1) ad cc k (tab (fun i => predV l m C T L 4 mode (i % 4) (i / 4)) k) (tab_len _ _) rfl ((H1.out.drew.below hb2 (Nat.le_refl _)).alloc _) w2.heap.size v rfl ?_ ?_ ?_ ?_
             · simp
             · omega
             · have := hb2.size; simp at this; simp; omega
             intro ad1 cc1 w3 hown1 hb3
             have hcw := bcell hb3
             have hj0 := hcw w.heap.size 0 (by omega)
             have hj1 := hcw w.heap.size 1 (by omega)
             have hj2 := hcw w.heap.size 2 (by omega)
             have hj3 := hcw w.heap.size 3 (by omega)
             have hj4 := hcw w.heap.size 4 (by omega))))
      all_goals
        rw [← HY.out, ← tab_succ] at hown1
        have H3 := Lib.hid hown1
        have hs2 : wr.heap.size ≤ w2.heap.size := hb2.size
        have H4 : Hid (Below w.heap.size w w3) := Lib.hid ((H2.out.drew.trans (hb2.mono (by show w.heap.size ≤ wr.heap.size; omega))).trans (((Below.refl _ _).alloc (by omega) (Obj.cells #[.int .i64 v] 3)).trans (hb3.mono (by omega))))
        have H5 : Hid (Box5 w3 w.heap.size (.slice a 8 c) (.slice b 4 d) (.int .i64 C) (.bool T) (.bool L)) := Lib.hid (by
          have h := (HPB.out.drew.below hb2 (Nat.le_refl _)).below ((Below.refl _ _).alloc (Nat.le_refl _) (Obj.cells #[.int .i64 v] 3)) (Nat.le_refl _)
          exact ⟨Nat.lt_of_lt_of_le h.1 hb3.size, hj0.trans h.2.1, hj1.trans h.2.2.1, hj2.trans h.2.2.2.1, hj3.trans h.2.2.2.2.1, hj4.trans h.2.2.2.2.2⟩)
        clear hown1 hb3 hb2 hj0 hj1 hj2 hj3 hj4 hk0 hk1 hk2 hk3 hk4 hcw e1 e3 e5 e6 e7 e8 q0 q1 q2 q3 q4
        go_wp2
        go_roundw
        case rel => exact ⟨k + 1, ad1, cc1, by omega, by go_num, rfl, H3.out, H4.out, H5.out⟩
        case measure => simp [intOf]; omega
    · obtain rfl : k = 16 := by omega
      have H1 := Lib.hid hown
      have H2 := Lib.hid hb
      clear hown hb P
      go_wp2
      go_ret
      exact ⟨ad, cc, rfl, H1.out.mono (by omega), H2.out⟩
set_option maxHeartbeats 4000000 in
theorem impl.Pred_8 (mode : Int) (hmo : inR 0 5 mode = true) (a : Option Addr) (c : Nat) (l : List Int) (b : Option Addr) (d : Nat) (m : List Int) (C : Int) (T L : Bool) (w : World) (hN : NbAll w a l b m 8) (hok : nbB l m C 8 = true) (hcl : l.length ≤ c) :
    Calls Try.prog 23 #[.int .i64 mode, nbv a l.length c b m.length d C T L, .int .i64 8] w fun e w' => ∃ x y, e = .returned (.slice x 64 y) ∧ Own w.heap.size w' x y (predL l m C T L 8 mode) ∧ Below w.heap.size w w' := by
  have HN : Hid (∀ w0, Below w.heap.size w w0 → NbAll w0 a l b m 8) := Lib.hid (fun w0 h => ⟨hN.hl, hN.hm, hN.hr.below h (Nat.le_refl _), hN.hs.below h (Nat.le_refl _), hN.tl, hN.tm⟩)
  obtain ⟨hl, hm, hr, hs, htl, htm⟩ := hN
  have hcall := fun (w0 : World) (h : NbAll w0 a l b m 8) => impl.NbOk_8 a c l b d m C T L w0 (by omega) h.hr (by omega) h.hs
  have hpred := fun (w0 : World) (h : NbAll w0 a l b m 8) (X Y : Nat) (hX : X < 8) (hY : Y < 8) => impl.PredAt_8 mode a c l b d m C T L X Y w0 h hok hcl hX hY
  simp only [hok] at hcall
  rw [hl, hm] at hcall hpred ⊢
  have HC := Lib.hid hcall
  have HP := Lib.hid hpred
  clear hcall hpred hr hs hl hm htl htm hok hcl
  go_enter Try.func23, Try.ntmps23
  go_wp2_with fail
  obtain ⟨W0, hW0⟩ : ∃ WW, WW = w.alloc (.cells #[.slice a 16 c, .slice b 8 d, .int .i64 C, .bool T, .bool L] 27) := ⟨_, rfl⟩
  rw [← hW0]
  have P0 : Box5 W0 w.heap.size (.slice a 16 c) (.slice b 8 d) (.int .i64 C) (.bool T) (.bool L) := by rw [hW0]; exact Box5.new w _ _ _ _ _ _
  have HB0 : Hid (Below w.heap.size w W0) := Lib.hid (by rw [hW0]; exact (Below.refl w.heap.size w).alloc (Nat.le_refl _) _)
  clear hW0
  refine (HC.out W0 (HN.out W0 HB0.out)).mono ?_
  rintro e w1 ⟨rfl, hb⟩
  have P1 := P0.below hb (Nat.le_refl _)
  have HB : Hid (Below w.heap.size w w1) := Lib.hid (HB0.out.trans (hb.mono HB0.out.size))
  clear hb P0 HB0 HC
  go_wp2_with (go_at_call 51; refine (within_c _ _ _ _).mono ?_; rintro e w' ⟨rfl, rfl⟩)
  go_loopw [7, 22] (fun o i wr => ∃ (k : Nat) (ad : Option Addr) (cc : Nat), k ≤ 64 ∧ i = .int .i64 k ∧ o = .slice ad k cc ∧ Own (w.heap.size + 1) wr ad cc (tab (fun i => predV l m C T L 8 mode (i % 8) (i / 8)) k) ∧ Below w.heap.size w wr ∧ Box5 wr w.heap.size (.slice a 16 c) (.slice b 8 d) (.int .i64 C) (.bool T) (.bool L)) (fun _ i _ => 64 - (intOf i).toNat)
  case atStart => exact ⟨0, _, _, Nat.zero_le _, rfl, rfl, Own.lit _ _ [] rfl (by have := P1.1; omega) (by simp [maxLen]), HB.out.alloc HB.out.size _, P1.below ((Below.refl _ _).alloc (Nat.le_refl _) _) (Nat.le_refl _)⟩
  case round =>
    clear P1 HB
    obtain ⟨k, ad, cc, hk, rfl, rfl, hown, hb, P⟩ := hrel
    have hwz : w.heap.size < wr.heap.size := P.1
    by_cases hlt : k < 64
    · obtain ⟨p, hp⟩ : ∃ p, p = k % 8 := ⟨_, rfl⟩
      obtain ⟨q, hq⟩ : ∃ q, q = k / 8 := ⟨_, rfl⟩
      have HNr := HN.out wr.drew hb.drew
      have HPr := Lib.hid (HP.out wr.drew HNr p q (by omega) (by omega))
      have e1 : (k : Int).tmod 8 = (p : Int) := by rw [Int.tmod_eq_emod_of_nonneg (by omega)]; omega
      have e3 : IntKind.i64.wrap ((k : Int).tdiv 8) = (q : Int) := by rw [Int.tdiv_eq_ediv_of_nonneg (by omega), IntWalk.i64_in _ (by omega)]; omega
      have e5 : (k : Int) % 8 = (p : Int) := by omega
      have e6 : (k : Int) / 8 = (q : Int) := by omega
      have e7 : IntKind.i64.wrap ((p : Int)) = (p : Int) := IntWalk.i64_in _ (by omega)
      have e8 : IntKind.i64.wrap ((q : Int)) = (q : Int) := IntWalk.i64_in _ (by omega)
      have HY : Hid (predV l m C T L 8 mode (k % 8) (k / 8) = predV l m C T L 8 mode p q) := Lib.hid (by rw [hp, hq])
      have H1 := Lib.hid hown
      have H2 := Lib.hid hb
      have HPB := Lib.hid P
      obtain ⟨_, q0, q1, q2, q3, q4⟩ := P
      generalize predV l m C T L 8 mode p q = v at *
      clear hown hb hp hq HNr
      go_wp2_with fail
      go_region_held3 (fun w' => w'.cell? ⟨w.heap.size, 0, none⟩ = some (.slice a 16 c) ∧ w'.cell? ⟨w.heap.size, 1, none⟩ = some (.slice b 8 d) ∧ w'.cell? ⟨w.heap.size, 2, none⟩ = some (.int .i64 C) ∧ w'.cell? ⟨w.heap.size, 3, none⟩ = some (.bool T) ∧ w'.cell? ⟨w.heap.size, 4, none⟩ = some (.bool L)) (first | go_keep)
        ((first
          | (go_at_call 27; refine HPr.out.mono ?_; rintro e w2 ⟨rfl, hb2⟩; have hk0 := bcell hb2 w.heap.size 0 hwz; have hk1 := bcell hb2 w.heap.size 1 hwz; have hk2 := bcell hb2 w.heap.size 2 hwz; have hk3 := bcell hb2 w.heap.size 3 hwz; have hk4 := bcell hb2 w.heap.size 4 hwz)
          | (refine step_append_one Try.underlying25 Try.infoInt rfl (.tmp 25) (.tmp 36) rfl (w.heap.size + 1) ad cc k (tab (fun i => predV l m C T L 8 mode (i % 8) (i / 8)) k) (tab_len _ _) rfl ((H1.out.drew.below hb2 (Nat.le_refl _)).alloc _) w2.heap.size v rfl ?_ ?_ ?_ ?_
             · simp
             · omega
             · have := hb2.size; simp at this; simp; omega
             intro ad1 cc1 w3 hown1 hb3
             have hcw := bcell hb3
             have hj0 := hcw w.heap.size 0 (by omega)
             have hj1 := hcw w.heap.size 1 (by omega)
             have hj2 := hcw w.heap.size 2 (by omega)
             have hj3 := hcw w.heap.size 3 (by omega)
             have hj4 := hcw w.heap.size 4 (by omega))))
      all_goals
        rw [← HY.out, ← tab_succ] at hown1
        have H3 := Lib.hid hown1
        have hs2 : wr.heap.size ≤ w2.heap.size := hb2.size
        have H4 : Hid (Below w.heap.size w w3) := Lib.hid ((H2.out.drew.trans (hb2.mono (by show w.heap.size ≤ wr.heap.size; omega))).trans (((Below.refl _ _).alloc (by omega) (Obj.cells #[.int .i64 v] 3)).trans (hb3.mono (by omega))))
        have H5 : Hid (Box5 w3 w.heap.size (.slice a 16 c) (.slice b 8 d) (.int .i64 C) (.bool T) (.bool L)) := Lib.hid (by
          have h := (HPB.out.drew.below hb2 (Nat.le_refl _)).below ((Below.refl _ _).alloc (Nat.le_refl _) (Obj.cells #[.int .i64 v] 3)) (Nat.le_refl _)
          exact ⟨Nat.lt_of_lt_of_le h.1 hb3.size, hj0.trans h.2.1, hj1.trans h.2.2.1, hj2.trans h.2.2.2.1, hj3.trans h.2.2.2.2.1, hj4.trans h.2.2.2.2.2⟩)
        clear hown1 hb3 hb2 hj0 hj1 hj2 hj3 hj4 hk0 hk1 hk2 hk3 hk4 hcw e1 e3 e5 e6 e7 e8 q0 q1 q2 q3 q4
        go_wp2
        go_roundw
        case rel => exact ⟨k + 1, ad1, cc1, by omega, by go_num, rfl, H3.out, H4.out, H5.out⟩
        case measure => simp [intOf]; omega
    · obtain rfl : k = 64 := by omega
      have H1 := Lib.hid hown
      have H2 := Lib.hid hb
      clear hown hb P
      go_wp2
      go_ret
      exact ⟨ad, cc, rfl, H1.out.mono (by omega), H2.out⟩
set_option maxHeartbeats 1000000 in
theorem impl.Pred_c (mode : Int) (a : Option Addr) (c : Nat) (l : List Int) (b : Option Addr) (d : Nat) (m : List Int) (C : Int) (T L : Bool) (n : Int) (w : World) (hl : l.length ≤ 1099511627776) (hr : Row w a l) (hw : ∀ x ∈ l, -9223372036854775808 ≤ x ∧ x ≤ 9223372036854775807) (hm : m.length ≤ 1099511627776) (hs : Row w b m) (hu : ∀ x ∈ m, -9223372036854775808 ≤ x ∧ x ≤ 9223372036854775807) (hC : -9223372036854775808 ≤ C ∧ C ≤ 9223372036854775807) (hcl : l.length ≤ c) (hcm : m.length ≤ d) :
    Calls Try.prog 23 #[.int .i64 mode, nbv a l.length c b m.length d C T L, .int .i64 n] w fun e w' => ∃ x y, e = .returned (.slice x (predLF l m C T L mode n).length y) ∧ Own w.heap.size w' x y (predLF l m C T L mode n) ∧ Below w.heap.size w w' := by
  cases h : nbB l m C n
  · have hcall := fun t => impl.NbOk_c a c l b d m C T L n (w.alloc (.cells #[.slice a l.length c, .slice b m.length d, .int .i64 C, .bool T, .bool L] t)) hl (hr.alloc _) hw hm (hs.alloc _) hu hC
    simp only [h] at hcall
    have HC := Lib.hid hcall
    have hf : predLF l m C T L mode n = [] := by simp [predLF, predLB, h]
    rw [hf]
    clear hcall h hl hr hw hm hs hu hC hcl hcm hf
    go_enter Try.func23, Try.ntmps23
    go_wp2_with fail
    refine (HC.out _).mono ?_
    rintro e w1 ⟨rfl, hb⟩
    have HB : Hid (Below w.heap.size w w1) := Lib.hid (((Below.refl w.heap.size w).alloc (Nat.le_refl _) _).trans (hb.mono (by simp)))
    clear hb
    go_wp2
    go_ret
    exact ⟨none, 0, rfl, Own.none_ _ _, HB.out⟩
  · cases hmo : inR 0 5 mode
    · have hcall := fun t => impl.NbOk_c a c l b d m C T L n (w.alloc (.cells #[.slice a l.length c, .slice b m.length d, .int .i64 C, .bool T, .bool L] t)) hl (hr.alloc _) hw hm (hs.alloc _) hu hC
      simp only [h] at hcall
      have HC := Lib.hid hcall
      have hf : predLF l m C T L mode n = [] := by simp [predLF, predLB, hmo]
      rw [hf]
      clear hcall h hl hr hw hm hs hu hC hcl hcm hf
      go_enter Try.func23, Try.ntmps23
      go_wp2_with fail
      refine (HC.out _).mono ?_
      rintro e w1 ⟨rfl, hb⟩
      have HB : Hid (Below w.heap.size w w1) := Lib.hid (((Below.refl w.heap.size w).alloc (Nat.le_refl _) _).trans (hb.mono (by simp)))
      clear hb
      go_wp2_with (go_at_call 51; refine (within_c _ _ _ _).mono ?_; rintro e w' ⟨rfl, rfl⟩)
      go_ret
      exact ⟨none, 0, rfl, Own.none_ _ _, HB.out⟩
    · have hf : predLF l m C T L mode n = predL l m C T L n.toNat mode := by simp [predLF, predLB, h, hmo]
      rw [hf]
      rcases (nbB_true h).1 with rfl | rfl
      · exact impl.Pred_4 mode hmo a c l b d m C T L w (nb_all hr hs h) h hcl
      · exact impl.Pred_8 mode hmo a c l b d m C T L w (nb_all hr hs h) h hcl


set_option maxHeartbeats 1000000 in
theorem impl.FastPred_c (mode : Int) (a : Option Addr) (c : Nat) (l : List Int) (b : Option Addr) (d : Nat) (m : List Int) (C : Int) (T L : Bool) (n : Int) (w : World) (hl : l.length ≤ 1099511627776) (hr : Row w a l) (hw : ∀ x ∈ l, -9223372036854775808 ≤ x ∧ x ≤ 9223372036854775807) (hm : m.length ≤ 1099511627776) (hs : Row w b m) (hu : ∀ x ∈ m, -9223372036854775808 ≤ x ∧ x ≤ 9223372036854775807) (hC : -9223372036854775808 ≤ C ∧ C ≤ 9223372036854775807) (hcl : l.length ≤ c) (hcm : m.length ≤ d) :
    Calls Try.prog 11 #[.int .i64 mode, nbv a l.length c b m.length d C T L, .int .i64 n] w fun e w' => ∃ x y, e = .returned (.slice x (predLF l m C T L mode n).length y) ∧ Own w.heap.size w' x y (predLF l m C T L mode n) ∧ Below w.heap.size w w' := by
  have hcall := fun t => impl.Pred_c mode a c l b d m C T L n (w.alloc (.cells #[.slice a l.length c, .slice b m.length d, .int .i64 C, .bool T, .bool L] t)) hl (hr.alloc _) hw hm (hs.alloc _) hu hC hcl hcm
  have HC := Lib.hid hcall
  clear hcall hl hr hw hm hs hu hC hcl hcm
  go_enter Try.func11, Try.ntmps11
  go_wp2_with fail
  refine (HC.out _).mono ?_
  rintro e w1 ⟨x, y, rfl, ho, hb⟩
  have HB : Hid (Below w.heap.size w w1) := Lib.hid (((Below.refl w.heap.size w).alloc (Nat.le_refl _) _).trans (hb.mono (by simp)))
  have HO := Lib.hid ho
  clear hb ho
  go_wp2
  go_ret
  exact ⟨x, y, rfl, HO.out.mono (by simp), HB.out⟩

end Go.Proofs.Ytbdggcefgiehkaa
