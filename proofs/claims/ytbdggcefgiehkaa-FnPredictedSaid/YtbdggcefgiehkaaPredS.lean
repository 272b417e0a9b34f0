/- Contracts: the reference's prediction of a block. -/
import Derived.Test.YtbdggcefgiehkaaPred
import Derived.Test.YtbdggcefgiehkaaNum
import Derived.Test.YtbdggcefgiehkaaMat
namespace Go.Proofs.Ytbdggcefgiehkaa
open Go.RowKit
set_option linter.unusedVariables false

theorem modeWord_in {m : Int} (h : inR 0 5 m = true) : m = 0 ∨ m = 1 ∨ m = 2 ∨ m = 3 ∨ m = 4 ∨ m = 5 := by have := inR_true h; omega
theorem modeWord_out {m : Int} (h : inR 0 5 m = false) : modeWordF m = ⟨#[]⟩ := by
  have h2 := inR_false h
  unfold modeWordF
  rw [if_neg (by omega), if_neg (by omega), if_neg (by omega), if_neg (by omega), if_neg (by omega), if_neg (by omega)]

set_option maxHeartbeats 4000000 in
theorem spec.Pred_4 (mode : Int) (hmo : inR 0 5 mode = true) (a : Option Addr) (c : Nat) (l : List Int) (b : Option Addr) (d : Nat) (m : List Int) (C : Int) (T L : Bool) (w : World) (hN : NbAll w a l b m 4) (hok : nbB l m C 4 = true) (hcl : l.length ≤ c) :
    Calls Try.prog 24 #[.int .i64 mode, nbv a l.length c b m.length d C T L, .int .i64 4] w fun e w' => ∃ x y, e = .returned (.slice x 16 y) ∧ Own w.heap.size w' x y (predL l m C T L 4 mode) ∧ Below w.heap.size w w' := by
  have HN : Hid (∀ w0, Below w.heap.size w w0 → NbAll w0 a l b m 4) := Lib.hid (fun w0 h => ⟨hN.hl, hN.hm, hN.hr.below h (Nat.le_refl _), hN.hs.below h (Nat.le_refl _), hN.tl, hN.tm⟩)
  obtain ⟨hl, hm, hr, hs, htl, htm⟩ := hN
  have hcall := fun (w0 : World) (h : NbAll w0 a l b m 4) => spec.NbOk_4 a c l b d m C T L w0 (by omega) h.hr (by omega) h.hs
  have hpred := fun (w0 : World) (h : NbAll w0 a l b m 4) (X Y : Nat) (hX : X < 4) (hY : Y < 4) => spec.PredAt_4 mode a c l b d m C T L X Y w0 h hok hcl hX hY
  simp only [hok] at hcall
  rw [hl, hm] at hcall hpred ⊢
  simp only [Nat.reduceMul] at hcall hpred ⊢
  have HC := Lib.hid hcall
  have HP := Lib.hid hpred
  have HMO := Lib.hid (modeWord_in hmo)
  clear hcall hpred hr hs hl hm htl htm hok hcl hmo
  go_enter Try.func24, Try.ntmps24
  go_wp2
  go_loopw [7, 8, 9] (fun o i _ wr => ∃ (y : Nat) (ad : Option Addr) (cc : Nat), y ≤ 4 ∧ i = .int .i64 y ∧ o = .slice ad (y * 4) cc ∧ Own (w.heap.size + 1) wr ad cc (tab (fun i => predV l m C T L 4 mode (i % 4) (i / 4)) (y * 4)) ∧ Below w.heap.size w wr ∧ Box5 wr w.heap.size (.slice a 8 c) (.slice b 4 d) (.int .i64 C) (.bool T) (.bool L)) (fun _ i _ _ => 4 - (intOf i).toNat)
  case atStart => exact ⟨0, _, _, Nat.zero_le _, rfl, by simp, Own.lit _ _ [] rfl (by simp) (by simp [maxLen]), ((Below.refl w.heap.size w).alloc (Nat.le_refl _) _).alloc (by simp) _, (Box5.new w _ _ _ _ _ _).below ((Below.refl _ _).alloc (Nat.le_refl _) _) (Nat.le_refl _)⟩
  case round =>
    obtain ⟨y, ad, cc, hy, rfl, rfl, hown, hb, P⟩ := hrel
    have hwz : w.heap.size < wr.heap.size := P.1
    by_cases hlt : y < 4
    · have hltd : decide ((y : Int) < 4) = true := by simp; omega
      have H1 := Lib.hid hown
      have H2 := Lib.hid hb
      have HPB := Lib.hid P
      obtain ⟨_, q0, q1, q2, q3, q4⟩ := P
      clear hown hb
      go_wp2_with fail
      refine (HC.out wr (HN.out wr H2.out)).mono ?_
      rintro e w1 ⟨rfl, hb1⟩
      clear q0 q1 q2 q3 q4
      have H3 := Lib.hid (H1.out.below hb1 (Nat.le_refl _))
      have H4 : Hid (Below w.heap.size w w1) := Lib.hid (H2.out.trans (hb1.mono (by omega)))
      have HPB1 := Lib.hid (HPB.out.below hb1 (Nat.le_refl _))
      have hwz1 : w.heap.size < w1.heap.size := HPB1.out.1
      clear hb1 H1 H2 HPB
      go_wp2_with fail
      refine (spec.ModeWord_c mode w1).mono ?_
      rintro e w2 ⟨rfl, hb2⟩
      have H5 := Lib.hid (H3.out.below hb2 (Nat.le_refl _))
      have H6 : Hid (Below w.heap.size w w2) := Lib.hid (H4.out.trans (hb2.mono (by omega)))
      have HPB2 := Lib.hid (HPB1.out.below hb2 (Nat.le_refl _))
      clear hb2 H3 H4 HPB1
      have hmw : (modeWordF mode).toList.isEmpty = false := by rcases HMO.out with rfl | rfl | rfl | rfl | rfl | rfl <;> decide +kernel
      obtain ⟨yn, hyn⟩ : ∃ yn, yn = y * 4 := ⟨_, rfl⟩
      rw [← hyn] at H5 ⊢
      have HYN := Lib.hid hyn
      clear hyn
      go_wp2
      obtain ⟨wz, hwz2⟩ : ∃ wz : World, wz = w2 := ⟨_, rfl⟩
      rw [← hwz2] at H5 H6 HPB2 ⊢
      clear hwz2
      go_loopw [7, 9] (fun o i wr => ∃ (x : Nat) (ad : Option Addr) (cc : Nat), x ≤ 4 ∧ i = .int .i64 x ∧ o = .slice ad (yn + x) cc ∧ Own (w.heap.size + 1) wr ad cc (tab (fun i => predV l m C T L 4 mode (i % 4) (i / 4)) (yn + x)) ∧ Below w.heap.size w wr ∧ Box5 wr w.heap.size (.slice a 8 c) (.slice b 4 d) (.int .i64 C) (.bool T) (.bool L)) (fun _ i _ => 4 - (intOf i).toNat)
      case atStart => exact ⟨0, _, _, Nat.zero_le _, rfl, rfl, H5.out, H6.out, HPB2.out⟩
      case round =>
        clear H5 H6 HPB2 hmw
        obtain ⟨x, ad, cc, hx, rfl, rfl, hown, hb, P⟩ := hrel
        have hwz : w.heap.size < wr.heap.size := P.1
        by_cases hlx : x < 4
        · have HPr := Lib.hid (HP.out wr (HN.out wr hb) x y hlx hlt)
          have HY : Hid (predV l m C T L 4 mode ((yn + x) % 4) ((yn + x) / 4) = predV l m C T L 4 mode x y) := Lib.hid (by rw [HYN.out, sq_mod hlx, sq_div hlx])
          have H1 := Lib.hid hown
          have H2 := Lib.hid hb
          have HPB := Lib.hid P
          have hynb : yn + x ≤ 4096 := by have := HYN.out; omega
          obtain ⟨_, q0, q1, q2, q3, q4⟩ := P
          generalize predV l m C T L 4 mode x y = v at *
          clear hown hb
          go_wp2_with (first
            | (go_at_call 64; refine HPr.out.mono ?_; rintro e w3 ⟨rfl, hb2⟩)
            | (at_builtin; refine append_one Try.underlying25 Try.infoInt rfl (.tmp 31) (.tmp 38) rfl (w.heap.size + 1) ad cc (yn + x) (tab (fun i => predV l m C T L 4 mode (i % 4) (i / 4)) (yn + x)) (tab_len _ _) rfl ((H1.out.below hb2 (Nat.le_refl _)).alloc _) w3.heap.size v rfl ?_ ?_ ?_ ?_; (simp); (omega); (have := hb2.size; simp; omega); intro ad1 cc1 w4 hown1 hb3))
          rw [← HY.out, ← tab_succ] at hown1
          have H3 := Lib.hid hown1
          have hs2 : wr.heap.size ≤ w3.heap.size := hb2.size
          have H4 : Hid (Below w.heap.size w w4) := Lib.hid ((H2.out.trans (hb2.mono (by omega))).trans (((Below.refl _ _).alloc (by omega) (Obj.cells #[.int .i64 v] 3)).trans (hb3.mono (by omega))))
          have H5 : Hid (Box5 w4 w.heap.size (.slice a 8 c) (.slice b 4 d) (.int .i64 C) (.bool T) (.bool L)) := Lib.hid (by
            have h := (HPB.out.below hb2 (Nat.le_refl _)).below ((Below.refl _ _).alloc (Nat.le_refl _) (Obj.cells #[.int .i64 v] 3)) (Nat.le_refl _)
            exact ⟨Nat.lt_of_lt_of_le h.1 hb3.size, (bcell hb3 _ _ (by omega)).trans h.2.1, (bcell hb3 _ _ (by omega)).trans h.2.2.1, (bcell hb3 _ _ (by omega)).trans h.2.2.2.1, (bcell hb3 _ _ (by omega)).trans h.2.2.2.2.1, (bcell hb3 _ _ (by omega)).trans h.2.2.2.2.2⟩)
          clear hown1 hb3 hb2 q0 q1 q2 q3 q4
          go_wp2
          go_roundw
          case rel => exact ⟨x + 1, ad1, cc1, by omega, by go_num, rfl, H3.out, H4.out, H5.out⟩
          case measure => simp [intOf]; omega
        · obtain rfl : x = 4 := by omega
          have H1 := Lib.hid hown
          have H2 := Lib.hid hb
          have HPB := Lib.hid P
          have he : Hid (yn + 4 = (y + 1) * 4) := Lib.hid (by have := HYN.out; omega)
          clear hown hb P
          go_wp2
          go_roundw
          case rel => exact ⟨y + 1, ad, cc, by omega, by go_num, by rw [he.out], by rw [← he.out]; exact H1.out, H2.out, HPB.out⟩
          case measure => simp [intOf]; omega
    · obtain rfl : y = 4 := by omega
      have H1 := Lib.hid hown
      have H2 := Lib.hid hb
      clear hown hb P
      go_wp2
      go_ret
      exact ⟨ad, cc, rfl, H1.out.mono (by omega), H2.out⟩
set_option maxHeartbeats 4000000 in
theorem spec.Pred_8 (mode : Int) (hmo : inR 0 5 mode = true) (a : Option Addr) (c : Nat) (l : List Int) (b : Option Addr) (d : Nat) (m : List Int) (C : Int) (T L : Bool) (w : World) (hN : NbAll w a l b m 8) (hok : nbB l m C 8 = true) (hcl : l.length ≤ c) :
    Calls Try.prog 24 #[.int .i64 mode, nbv a l.length c b m.length d C T L, .int .i64 8] w fun e w' => ∃ x y, e = .returned (.slice x 64 y) ∧ Own w.heap.size w' x y (predL l m C T L 8 mode) ∧ Below w.heap.size w w' := by
  have HN : Hid (∀ w0, Below w.heap.size w w0 → NbAll w0 a l b m 8) := Lib.hid (fun w0 h => ⟨hN.hl, hN.hm, hN.hr.below h (Nat.le_refl _), hN.hs.below h (Nat.le_refl _), hN.tl, hN.tm⟩)
  obtain ⟨hl, hm, hr, hs, htl, htm⟩ := hN
  have hcall := fun (w0 : World) (h : NbAll w0 a l b m 8) => spec.NbOk_8 a c l b d m C T L w0 (by omega) h.hr (by omega) h.hs
  have hpred := fun (w0 : World) (h : NbAll w0 a l b m 8) (X Y : Nat) (hX : X < 8) (hY : Y < 8) => spec.PredAt_8 mode a c l b d m C T L X Y w0 h hok hcl hX hY
  simp only [hok] at hcall
  rw [hl, hm] at hcall hpred ⊢
  simp only [Nat.reduceMul] at hcall hpred ⊢
  have HC := Lib.hid hcall
  have HP := Lib.hid hpred
  have HMO := Lib.hid (modeWord_in hmo)
  clear hcall hpred hr hs hl hm htl htm hok hcl hmo
  go_enter Try.func24, Try.ntmps24
  go_wp2
  go_loopw [7, 8, 9] (fun o i _ wr => ∃ (y : Nat) (ad : Option Addr) (cc : Nat), y ≤ 8 ∧ i = .int .i64 y ∧ o = .slice ad (y * 8) cc ∧ Own (w.heap.size + 1) wr ad cc (tab (fun i => predV l m C T L 8 mode (i % 8) (i / 8)) (y * 8)) ∧ Below w.heap.size w wr ∧ Box5 wr w.heap.size (.slice a 16 c) (.slice b 8 d) (.int .i64 C) (.bool T) (.bool L)) (fun _ i _ _ => 8 - (intOf i).toNat)
  case atStart => exact ⟨0, _, _, Nat.zero_le _, rfl, by simp, Own.lit _ _ [] rfl (by simp) (by simp [maxLen]), ((Below.refl w.heap.size w).alloc (Nat.le_refl _) _).alloc (by simp) _, (Box5.new w _ _ _ _ _ _).below ((Below.refl _ _).alloc (Nat.le_refl _) _) (Nat.le_refl _)⟩
  case round =>
    obtain ⟨y, ad, cc, hy, rfl, rfl, hown, hb, P⟩ := hrel
    have hwz : w.heap.size < wr.heap.size := P.1
    by_cases hlt : y < 8
    · have hltd : decide ((y : Int) < 8) = true := by simp; omega
      have H1 := Lib.hid hown
      have H2 := Lib.hid hb
      have HPB := Lib.hid P
      obtain ⟨_, q0, q1, q2, q3, q4⟩ := P
      clear hown hb
      go_wp2_with fail
      refine (HC.out wr (HN.out wr H2.out)).mono ?_
      rintro e w1 ⟨rfl, hb1⟩
      clear q0 q1 q2 q3 q4
      have H3 := Lib.hid (H1.out.below hb1 (Nat.le_refl _))
      have H4 : Hid (Below w.heap.size w w1) := Lib.hid (H2.out.trans (hb1.mono (by omega)))
      have HPB1 := Lib.hid (HPB.out.below hb1 (Nat.le_refl _))
      have hwz1 : w.heap.size < w1.heap.size := HPB1.out.1
      clear hb1 H1 H2 HPB
      go_wp2_with fail
      refine (spec.ModeWord_c mode w1).mono ?_
      rintro e w2 ⟨rfl, hb2⟩
      have H5 := Lib.hid (H3.out.below hb2 (Nat.le_refl _))
      have H6 : Hid (Below w.heap.size w w2) := Lib.hid (H4.out.trans (hb2.mono (by omega)))
      have HPB2 := Lib.hid (HPB1.out.below hb2 (Nat.le_refl _))
      clear hb2 H3 H4 HPB1
      have hmw : (modeWordF mode).toList.isEmpty = false := by rcases HMO.out with rfl | rfl | rfl | rfl | rfl | rfl <;> decide +kernel
      obtain ⟨yn, hyn⟩ : ∃ yn, yn = y * 8 := ⟨_, rfl⟩
      rw [← hyn] at H5 ⊢
      have HYN := Lib.hid hyn
      clear hyn
      go_wp2
      obtain ⟨wz, hwz2⟩ : ∃ wz : World, wz = w2 := ⟨_, rfl⟩
      rw [← hwz2] at H5 H6 HPB2 ⊢
      clear hwz2
      go_loopw [7, 9] (fun o i wr => ∃ (x : Nat) (ad : Option Addr) (cc : Nat), x ≤ 8 ∧ i = .int .i64 x ∧ o = .slice ad (yn + x) cc ∧ Own (w.heap.size + 1) wr ad cc (tab (fun i => predV l m C T L 8 mode (i % 8) (i / 8)) (yn + x)) ∧ Below w.heap.size w wr ∧ Box5 wr w.heap.size (.slice a 16 c) (.slice b 8 d) (.int .i64 C) (.bool T) (.bool L)) (fun _ i _ => 8 - (intOf i).toNat)
      case atStart => exact ⟨0, _, _, Nat.zero_le _, rfl, rfl, H5.out, H6.out, HPB2.out⟩
      case round =>
        clear H5 H6 HPB2 hmw
        obtain ⟨x, ad, cc, hx, rfl, rfl, hown, hb, P⟩ := hrel
        have hwz : w.heap.size < wr.heap.size := P.1
        by_cases hlx : x < 8
        · have HPr := Lib.hid (HP.out wr (HN.out wr hb) x y hlx hlt)
          have HY : Hid (predV l m C T L 8 mode ((yn + x) % 8) ((yn + x) / 8) = predV l m C T L 8 mode x y) := Lib.hid (by rw [HYN.out, sq_mod hlx, sq_div hlx])
          have H1 := Lib.hid hown
          have H2 := Lib.hid hb
          have HPB := Lib.hid P
          have hynb : yn + x ≤ 4096 := by have := HYN.out; omega
          obtain ⟨_, q0, q1, q2, q3, q4⟩ := P
          generalize predV l m C T L 8 mode x y = v at *
          clear hown hb
          go_wp2_with (first
            | (go_at_call 64; refine HPr.out.mono ?_; rintro e w3 ⟨rfl, hb2⟩)
            | (at_builtin; refine append_one Try.underlying25 Try.infoInt rfl (.tmp 31) (.tmp 38) rfl (w.heap.size + 1) ad cc (yn + x) (tab (fun i => predV l m C T L 8 mode (i % 8) (i / 8)) (yn + x)) (tab_len _ _) rfl ((H1.out.below hb2 (Nat.le_refl _)).alloc _) w3.heap.size v rfl ?_ ?_ ?_ ?_; (simp); (omega); (have := hb2.size; simp; omega); intro ad1 cc1 w4 hown1 hb3))
          rw [← HY.out, ← tab_succ] at hown1
          have H3 := Lib.hid hown1
          have hs2 : wr.heap.size ≤ w3.heap.size := hb2.size
          have H4 : Hid (Below w.heap.size w w4) := Lib.hid ((H2.out.trans (hb2.mono (by omega))).trans (((Below.refl _ _).alloc (by omega) (Obj.cells #[.int .i64 v] 3)).trans (hb3.mono (by omega))))
          have H5 : Hid (Box5 w4 w.heap.size (.slice a 16 c) (.slice b 8 d) (.int .i64 C) (.bool T) (.bool L)) := Lib.hid (by
            have h := (HPB.out.below hb2 (Nat.le_refl _)).below ((Below.refl _ _).alloc (Nat.le_refl _) (Obj.cells #[.int .i64 v] 3)) (Nat.le_refl _)
            exact ⟨Nat.lt_of_lt_of_le h.1 hb3.size, (bcell hb3 _ _ (by omega)).trans h.2.1, (bcell hb3 _ _ (by omega)).trans h.2.2.1, (bcell hb3 _ _ (by omega)).trans h.2.2.2.1, (bcell hb3 _ _ (by omega)).trans h.2.2.2.2.1, (bcell hb3 _ _ (by omega)).trans h.2.2.2.2.2⟩)
          clear hown1 hb3 hb2 q0 q1 q2 q3 q4
          go_wp2
          go_roundw
          case rel => exact ⟨x + 1, ad1, cc1, by omega, by go_num, rfl, H3.out, H4.out, H5.out⟩
          case measure => simp [intOf]; omega
        · obtain rfl : x = 8 := by omega
          have H1 := Lib.hid hown
          have H2 := Lib.hid hb
          have HPB := Lib.hid P
          have he : Hid (yn + 8 = (y + 1) * 8) := Lib.hid (by have := HYN.out; omega)
          clear hown hb P
          go_wp2
          go_roundw
          case rel => exact ⟨y + 1, ad, cc, by omega, by go_num, by rw [he.out], by rw [← he.out]; exact H1.out, H2.out, HPB.out⟩
          case measure => simp [intOf]; omega
    · obtain rfl : y = 8 := by omega
      have H1 := Lib.hid hown
      have H2 := Lib.hid hb
      clear hown hb P
      go_wp2
      go_ret
      exact ⟨ad, cc, rfl, H1.out.mono (by omega), H2.out⟩
set_option maxHeartbeats 1000000 in
theorem spec.Pred_no (mode : Int) (a : Option Addr) (c : Nat) (l : List Int) (b : Option Addr) (d : Nat) (m : List Int) (C : Int) (T L : Bool) (n : Int) (w : World) (hl : l.length ≤ 1099511627776) (hr : Row w a l) (hw : ∀ x ∈ l, -9223372036854775808 ≤ x ∧ x ≤ 9223372036854775807) (hm : m.length ≤ 1099511627776) (hs : Row w b m) (hu : ∀ x ∈ m, -9223372036854775808 ≤ x ∧ x ≤ 9223372036854775807) (hC : -9223372036854775808 ≤ C ∧ C ≤ 9223372036854775807) (h : predLB l m C n mode = false) :
    Calls Try.prog 24 #[.int .i64 mode, nbv a l.length c b m.length d C T L, .int .i64 n] w fun e w' => ∃ x y, e = .returned (.slice x 0 y) ∧ Own w.heap.size w' x y [] ∧ Below w.heap.size w w' := by
  have hcall := fun (w0 : World) (h1 : Below w.heap.size w w0) => spec.NbOk_c a c l b d m C T L n w0 hl (hr.below h1 (Nat.le_refl _)) hw hm (hs.below h1 (Nat.le_refl _)) hu hC
  have HC := Lib.hid hcall
  have HH := Lib.hid h
  clear hcall hl hr hw hm hs hu hC h
  go_enter Try.func24, Try.ntmps24
  go_wp2
  go_loopw [7, 8] (fun o i wr => ∃ (ad : Option Addr) (cc : Nat), i = .int .i64 0 ∧ o = .slice ad 0 cc ∧ Own w.heap.size wr ad cc [] ∧ Below w.heap.size w wr ∧ Box5 wr w.heap.size (.slice a l.length c) (.slice b m.length d) (.int .i64 C) (.bool T) (.bool L)) (fun _ i _ => 0)
  case atStart => exact ⟨_, _, rfl, by simp, Own.lit _ _ [] rfl (by simp) (by simp [maxLen]), ((Below.refl w.heap.size w).alloc (Nat.le_refl _) _).alloc (by simp) _, (Box5.new w _ _ _ _ _ _).below ((Below.refl _ _).alloc (Nat.le_refl _) _) (Nat.le_refl _)⟩
  case round =>
    obtain ⟨ad, cc, rfl, rfl, hown, hb, P⟩ := hrel
    have hwz : w.heap.size < wr.heap.size := P.1
    have H1 := Lib.hid hown
    have H2 := Lib.hid hb
    obtain ⟨_, q0, q1, q2, q3, q4⟩ := P
    clear hown hb
    by_cases hlt : 0 < n
    · have hltd : decide (0 < n) = true := by simp; omega
      have hc1 := HC.out wr H2.out
      cases hn : nbB l m C n
      · rw [hn] at hc1
        have HC1 := Lib.hid hc1
        clear hc1 hn
        go_wp2_with fail
        refine HC1.out.mono ?_
        rintro e w1 ⟨rfl, hb1⟩
        go_wp2
        go_ret
        exact ⟨ad, cc, rfl, H1.out.below hb1 (Nat.le_refl _), H2.out.trans (hb1.mono (by omega))⟩
      · rw [hn] at hc1
        have hmo : inR 0 5 mode = false := by have := HH.out; simpa [predLB, hn] using this
        have HMW := Lib.hid (modeWord_out hmo)
        have HC1 := Lib.hid hc1
        clear hc1 hn hmo
        go_wp2_with fail
        refine HC1.out.mono ?_
        rintro e w1 ⟨rfl, hb1⟩
        have H3 := Lib.hid (H1.out.below hb1 (Nat.le_refl _))
        have H4 : Hid (Below w.heap.size w w1) := Lib.hid (H2.out.trans (hb1.mono (by omega)))
        clear hb1
        go_wp2_with fail
        refine (spec.ModeWord_c mode w1).mono ?_
        rintro e w2 ⟨rfl, hb2⟩
        have hmw : (modeWordF mode).toList.isEmpty = true := by rw [HMW.out]; decide +kernel
        go_wp2
        go_ret
        exact ⟨ad, cc, rfl, H3.out.below hb2 (Nat.le_refl _), H4.out.trans (hb2.mono H4.out.size)⟩
    · have hltd : decide (0 < n) = false := by simp; omega
      go_wp2
      go_ret
      exact ⟨ad, cc, rfl, H1.out, H2.out⟩
theorem spec.Pred_c (mode : Int) (a : Option Addr) (c : Nat) (l : List Int) (b : Option Addr) (d : Nat) (m : List Int) (C : Int) (T L : Bool) (n : Int) (w : World) (hl : l.length ≤ 1099511627776) (hr : Row w a l) (hw : ∀ x ∈ l, -9223372036854775808 ≤ x ∧ x ≤ 9223372036854775807) (hm : m.length ≤ 1099511627776) (hs : Row w b m) (hu : ∀ x ∈ m, -9223372036854775808 ≤ x ∧ x ≤ 9223372036854775807) (hC : -9223372036854775808 ≤ C ∧ C ≤ 9223372036854775807) (hcl : l.length ≤ c) (hcm : m.length ≤ d) :
    Calls Try.prog 24 #[.int .i64 mode, nbv a l.length c b m.length d C T L, .int .i64 n] w fun e w' => ∃ x y, e = .returned (.slice x (predLF l m C T L mode n).length y) ∧ Own w.heap.size w' x y (predLF l m C T L mode n) ∧ Below w.heap.size w w' := by
  cases h : predLB l m C n mode
  · have hf : predLF l m C T L mode n = [] := by simp [predLF, h]
    rw [hf]
    exact spec.Pred_no mode a c l b d m C T L n w hl hr hw hm hs hu hC h
  · have hf : predLF l m C T L mode n = predL l m C T L n.toNat mode := by simp [predLF, h]
    rw [hf]
    simp only [predLB, Bool.and_eq_true] at h
    obtain ⟨hok, hmo⟩ := h
    rcases (nbB_true hok).1 with rfl | rfl
    · exact spec.Pred_4 mode hmo a c l b d m C T L w (nb_all hr hs hok) hok hcl
    · exact spec.Pred_8 mode hmo a c l b d m C T L w (nb_all hr hs hok) hok hcl

end Go.Proofs.Ytbdggcefgiehkaa
