/- Contracts of the functions on four lanes: unpacking. -/
import Derived.Test.YtbdggcefgiehkaaPack
import Derived.Test.YtbdggcefgiehkaaClip
namespace Go.Proofs.Ytbdggcefgiehkaa
open Go.RowKit
set_option linter.unusedVariables false

def laneF (n : Int) (i : Nat) : Int := n / 65536 ^ i % 65536
def lanes (n : Int) : List Int := tab (laneF n) 4
def unpackF (n : Int) : List Int := if n < 0 then [] else if allR 0 32767 (lanes n) then lanes n else []

theorem and_mask (x : Int) (h0 : 0 ≤ x) (h1 : x ≤ 9223372036854775807) : bits .and .i64 x 65535 = x % 65536 := by
  have h := bits_mask .i64 63 (by decide) wraps_i64 16 (by decide) x h0 (by omega)
  have e1 : (2 : Int) ^ 16 - 1 = 65535 := by decide
  have e2 : (2 : Int) ^ 16 = 65536 := by decide
  rw [e1, e2] at h
  exact h
theorem lane0 (n : Int) : laneF n 0 = n % 65536 := by simp [laneF]
theorem lane1 (n : Int) : laneF n 1 = n / 65536 % 65536 := by simp [laneF]
theorem lane2 (n : Int) : laneF n 2 = n / 4294967296 % 65536 := by simp [laneF]
theorem lane3 (n : Int) : laneF n 3 = n / 281474976710656 % 65536 := by simp [laneF]
theorem lanes_four (n : Int) : lanes n = [laneF n 0, laneF n 1, laneF n 2, laneF n 3] := rfl
theorem lanes_len (n : Int) : (lanes n).length = 4 := rfl


set_option maxHeartbeats 2000000 in
theorem impl.Unpack4_n (n : Int) (w : World) (hn : -9223372036854775808 ≤ n ∧ n ≤ 9223372036854775807) :
    Calls Try.prog 31 #[.int .i64 n] w fun e w' => ∃ b d, e = .returned (.slice b (unpackF n).length d) ∧ Own w.heap.size w' b d (unpackF n) ∧ Below w.heap.size w w' ∧ (unpackF n = [] → b = none) := by
  by_cases h0 : n < 0
  · have hu : unpackF n = [] := by simp [unpackF, h0]
    have HU := Lib.hid hu
    rw [hu]
    clear hu
    go_enter Try.func31, Try.ntmps31
    go_wp2
    go_ret
    exact ⟨_, _, rfl, Own.none_ _ _, Below.refl _ _, fun _ => rfl⟩
  · obtain ⟨hn0, hn1⟩ := hn
    go_enter Try.func31, Try.ntmps31
    go_wp2
    go_loopw [3, 8] (fun o i wr => ∃ (j : Int) (m : Nat) (ad : Option Addr) (cc : Nat), 0 ≤ j ∧ j ≤ 4 ∧ j = m ∧ i = .int .i64 j ∧ o = .slice ad m cc ∧ Own w.heap.size wr ad cc (tab (laneF n) m) ∧ Below w.heap.size w wr) (fun _ i _ => 4 - (intOf i).toNat)
    case atStart => exact ⟨0, 0, _, _, by omega, by omega, rfl, rfl, rfl, Own.lit _ _ [] rfl (Nat.le_refl _) (by simp [maxLen]), (Below.refl _ _).alloc (Nat.le_refl _) _⟩
    case round =>
      obtain ⟨j, m, ad, cc, hj0, hj4, hjm, rfl, rfl, hown, hb⟩ := hrel
      have H1 := Lib.hid hown
      have H2 := Lib.hid hb
      clear hown hb
      have hsz := H2.out.size
      have hz0 : 0 ≤ n := by omega
      by_cases hlt : j < 4
      · have a0 : bits BinOp.and .i64 n 65535 = laneF n 0 := by rw [and_mask _ (by omega) (by omega), lane0]
        have a1 : bits BinOp.and .i64 (n / 65536) 65535 = laneF n 1 := by rw [and_mask _ (by omega) (by omega), lane1]
        have a2 : bits BinOp.and .i64 (n / 4294967296) 65535 = laneF n 2 := by rw [and_mask _ (by omega) (by omega), lane2]
        have a3 : bits BinOp.and .i64 (n / 281474976710656) 65535 = laneF n 3 := by rw [and_mask _ (by omega) (by omega), lane3]
        have hc : (j = 0 ∧ m = 0) ∨ (j = 1 ∧ m = 1) ∨ (j = 2 ∧ m = 2) ∨ (j = 3 ∧ m = 3) := by omega
        clear hjm hj0 hj4 hlt
        rcases hc with ⟨rfl, rfl⟩ | ⟨rfl, rfl⟩ | ⟨rfl, rfl⟩ | ⟨rfl, rfl⟩
        · go_wp2_with (at_builtin; go_loud (refine append_one Try.underlying25 Try.infoInt rfl (.tmp 11) (.tmp 17) rfl w.heap.size ad cc 0 (tab (laneF n) 0) (tab_len _ _) rfl (H1.out.alloc _) wr.heap.size (laneF n 0) rfl ?_ ?_ ?_ ?_); (simp); (omega); (simp; omega); intro ad1 cc1 w1 hown1 hb1)
          rw [← tab_succ] at hown1
          have H3 := Lib.hid hown1
          have H4 : Hid (Below w.heap.size w w1) := (H2.out.alloc H2.out.size _).trans hb1
          clear hown1 hb1
          go_wp2
          go_roundw
          case rel => exact ⟨0 + 1, 0 + 1, ad1, cc1, by omega, by omega, rfl, rfl, rfl, H3.out, H4.out⟩
          case measure => simp [intOf]
        · go_wp2_with (at_builtin; go_loud (refine append_one Try.underlying25 Try.infoInt rfl (.tmp 11) (.tmp 17) rfl w.heap.size ad cc 1 (tab (laneF n) 1) (tab_len _ _) rfl (H1.out.alloc _) wr.heap.size (laneF n 1) rfl ?_ ?_ ?_ ?_); (simp); (omega); (simp; omega); intro ad1 cc1 w1 hown1 hb1)
          rw [← tab_succ] at hown1
          have H3 := Lib.hid hown1
          have H4 : Hid (Below w.heap.size w w1) := (H2.out.alloc H2.out.size _).trans hb1
          clear hown1 hb1
          go_wp2
          go_roundw
          case rel => exact ⟨1 + 1, 1 + 1, ad1, cc1, by omega, by omega, rfl, rfl, rfl, H3.out, H4.out⟩
          case measure => simp [intOf]
        · go_wp2_with (at_builtin; go_loud (refine append_one Try.underlying25 Try.infoInt rfl (.tmp 11) (.tmp 17) rfl w.heap.size ad cc 2 (tab (laneF n) 2) (tab_len _ _) rfl (H1.out.alloc _) wr.heap.size (laneF n 2) rfl ?_ ?_ ?_ ?_); (simp); (omega); (simp; omega); intro ad1 cc1 w1 hown1 hb1)
          rw [← tab_succ] at hown1
          have H3 := Lib.hid hown1
          have H4 : Hid (Below w.heap.size w w1) := (H2.out.alloc H2.out.size _).trans hb1
          clear hown1 hb1
          go_wp2
          go_roundw
          case rel => exact ⟨2 + 1, 2 + 1, ad1, cc1, by omega, by omega, rfl, rfl, rfl, H3.out, H4.out⟩
          case measure => simp [intOf]
        · go_wp2_with (at_builtin; go_loud (refine append_one Try.underlying25 Try.infoInt rfl (.tmp 11) (.tmp 17) rfl w.heap.size ad cc 3 (tab (laneF n) 3) (tab_len _ _) rfl (H1.out.alloc _) wr.heap.size (laneF n 3) rfl ?_ ?_ ?_ ?_); (simp); (omega); (simp; omega); intro ad1 cc1 w1 hown1 hb1)
          rw [← tab_succ] at hown1
          have H3 := Lib.hid hown1
          have H4 : Hid (Below w.heap.size w w1) := (H2.out.alloc H2.out.size _).trans hb1
          clear hown1 hb1
          go_wp2
          go_roundw
          case rel => exact ⟨3 + 1, 3 + 1, ad1, cc1, by omega, by omega, rfl, rfl, rfl, H3.out, H4.out⟩
          case measure => simp [intOf]
      · have hj : j = 4 := by omega
        have hm : m = 4 := by omega
        subst hj hm
        clear hjm hj0 hj4 hlt
        have h4 : (tab (laneF n) 4).length = 4 := rfl
        have hall := impl.allWithin_c ad cc (tab (laneF n) 4) 0 32767 wr (by rw [h4]; omega) H1.out.row
        rw [h4] at hall
        have HA := Lib.hid hall
        clear hall h4
        cases hin : allR 0 32767 (tab (laneF n) 4)
        · have hu : unpackF n = [] := by unfold unpackF; rw [if_neg (by omega), lanes, hin]; rfl
          have HU := Lib.hid hu
          clear hu
          rw [hin] at HA
          go_wp2_with (go_at_call 50; refine HA.out.mono ?_; rintro e w' ⟨rfl, rfl⟩)
          go_ret
          rw [HU.out]
          exact ⟨_, _, rfl, Own.none_ _ _, H2.out, fun _ => rfl⟩
        · have hu : unpackF n = tab (laneF n) 4 := by unfold unpackF; rw [if_neg (by omega), lanes, hin]; rfl
          have HU := Lib.hid hu
          clear hu
          rw [hin] at HA
          go_wp2_with (go_at_call 50; refine HA.out.mono ?_; rintro e w' ⟨rfl, rfl⟩)
          go_ret
          rw [HU.out]
          exact ⟨ad, cc, rfl, H1.out, H2.out, fun h => by simp [tab] at h⟩
theorem impl.Unpack4_c (n : Int) (w : World) (hn : -9223372036854775808 ≤ n ∧ n ≤ 9223372036854775807) :
    Calls Try.prog 31 #[.int .i64 n] w fun e w' => ∃ b d, e = .returned (.slice b (unpackF n).length d) ∧ Own w.heap.size w' b d (unpackF n) ∧ Below w.heap.size w w' :=
  (impl.Unpack4_n n w hn).mono fun _ _ ⟨b, d, h1, h2, h3, _⟩ => ⟨b, d, h1, h2, h3⟩


set_option maxHeartbeats 2000000 in
theorem spec.Unpack4_c (n : Int) (w : World) (hn : -9223372036854775808 ≤ n ∧ n ≤ 9223372036854775807) :
    Calls Try.prog 69 #[.int .i64 n] w fun e w' => ∃ b d, e = .returned (.slice b (unpackF n).length d) ∧ Own w.heap.size w' b d (unpackF n) ∧ Below w.heap.size w w' := by
  by_cases h0 : n < 0
  · have hu : unpackF n = [] := by simp [unpackF, h0]
    rw [hu]
    clear hu
    go_enter Try.func69, Try.ntmps69
    go_wp2
    go_ret
    exact ⟨_, _, rfl, Own.lit _ _ [] rfl (Nat.le_refl _) (by simp [maxLen]), (Below.refl _ _).alloc (Nat.le_refl _) _⟩
  · obtain ⟨hn0, hn1⟩ := hn
    go_enter Try.func69, Try.ntmps69
    go_wp2
    go_loopw [0, 3, 4] (fun v o i wr => ∃ (j : Int) (m : Nat) (ad : Option Addr) (cc : Nat), 0 ≤ j ∧ j ≤ 4 ∧ j = m ∧ i = .int .i64 j ∧ v = .int .i64 (n / 65536 ^ m) ∧ o = .slice ad m cc ∧ Own w.heap.size wr ad cc (tab (laneF n) m) ∧ Below w.heap.size w wr) (fun _ _ i _ => 4 - (intOf i).toNat)
    case atStart => exact ⟨0, 0, _, _, by omega, by omega, rfl, rfl, by simp, rfl, Own.lit _ _ [] rfl (Nat.le_refl _) (by simp [maxLen]), (Below.refl _ _).alloc (Nat.le_refl _) _⟩
    case round =>
      obtain ⟨j, m, ad, cc, hj0, hj4, hjm, rfl, rfl, rfl, hown, hb⟩ := hrel
      have H1 := Lib.hid hown
      have H2 := Lib.hid hb
      clear hown hb
      have hsz := H2.out.size
      have hz0 : 0 ≤ n := by omega
      by_cases hlt : j < 4
      · have b0 : n / 65536 ^ 0 = n := by simp
        have b1 : n / 65536 ^ 1 = n / 65536 := by simp
        have b2 : n / 65536 ^ 2 = n / 4294967296 := by simp
        have b3 : n / 65536 ^ 3 = n / 281474976710656 := by simp
        have a0 := (lane0 n).symm
        have a1 := (lane1 n).symm
        have a2 := (lane2 n).symm
        have a3 := (lane3 n).symm
        have hc : (j = 0 ∧ m = 0) ∨ (j = 1 ∧ m = 1) ∨ (j = 2 ∧ m = 2) ∨ (j = 3 ∧ m = 3) := by omega
        clear hjm hj0 hj4 hlt
        rcases hc with ⟨rfl, rfl⟩ | ⟨rfl, rfl⟩ | ⟨rfl, rfl⟩ | ⟨rfl, rfl⟩
        · rw [b0]
          clear b0 b1 b2 b3
          go_wp2_with (at_builtin; go_loud (refine append_one Try.underlying25 Try.infoInt rfl (.tmp 15) (.tmp 18) rfl w.heap.size ad cc 0 (tab (laneF n) 0) (tab_len _ _) rfl (H1.out.alloc _) wr.heap.size (laneF n 0) rfl ?_ ?_ ?_ ?_); (simp); (omega); (simp; omega); intro ad1 cc1 w1 hown1 hb1)
          rw [← tab_succ] at hown1
          have H3 := Lib.hid hown1
          have H4 : Hid (Below w.heap.size w w1) := (H2.out.alloc H2.out.size _).trans hb1
          clear hown1 hb1
          go_wp2
          go_roundw
          case rel => exact ⟨0 + 1, 0 + 1, ad1, cc1, by omega, by omega, rfl, rfl, congrArg (Value.int .i64) (by simp; try omega), rfl, H3.out, H4.out⟩
          case measure => simp [intOf]
        · rw [b1]
          clear b0 b1 b2 b3
          go_wp2_with (at_builtin; go_loud (refine append_one Try.underlying25 Try.infoInt rfl (.tmp 15) (.tmp 18) rfl w.heap.size ad cc 1 (tab (laneF n) 1) (tab_len _ _) rfl (H1.out.alloc _) wr.heap.size (laneF n 1) rfl ?_ ?_ ?_ ?_); (simp); (omega); (simp; omega); intro ad1 cc1 w1 hown1 hb1)
          rw [← tab_succ] at hown1
          have H3 := Lib.hid hown1
          have H4 : Hid (Below w.heap.size w w1) := (H2.out.alloc H2.out.size _).trans hb1
          clear hown1 hb1
          go_wp2
          go_roundw
          case rel => exact ⟨1 + 1, 1 + 1, ad1, cc1, by omega, by omega, rfl, rfl, congrArg (Value.int .i64) (by simp; try omega), rfl, H3.out, H4.out⟩
          case measure => simp [intOf]
        · rw [b2]
          clear b0 b1 b2 b3
          go_wp2_with (at_builtin; go_loud (refine append_one Try.underlying25 Try.infoInt rfl (.tmp 15) (.tmp 18) rfl w.heap.size ad cc 2 (tab (laneF n) 2) (tab_len _ _) rfl (H1.out.alloc _) wr.heap.size (laneF n 2) rfl ?_ ?_ ?_ ?_); (simp); (omega); (simp; omega); intro ad1 cc1 w1 hown1 hb1)
          rw [← tab_succ] at hown1
          have H3 := Lib.hid hown1
          have H4 : Hid (Below w.heap.size w w1) := (H2.out.alloc H2.out.size _).trans hb1
          clear hown1 hb1
          go_wp2
          go_roundw
          case rel => exact ⟨2 + 1, 2 + 1, ad1, cc1, by omega, by omega, rfl, rfl, congrArg (Value.int .i64) (by simp; try omega), rfl, H3.out, H4.out⟩
          case measure => simp [intOf]
        · rw [b3]
          clear b0 b1 b2 b3
          go_wp2_with (at_builtin; go_loud (refine append_one Try.underlying25 Try.infoInt rfl (.tmp 15) (.tmp 18) rfl w.heap.size ad cc 3 (tab (laneF n) 3) (tab_len _ _) rfl (H1.out.alloc _) wr.heap.size (laneF n 3) rfl ?_ ?_ ?_ ?_); (simp); (omega); (simp; omega); intro ad1 cc1 w1 hown1 hb1)
          rw [← tab_succ] at hown1
          have H3 := Lib.hid hown1
          have H4 : Hid (Below w.heap.size w w1) := (H2.out.alloc H2.out.size _).trans hb1
          clear hown1 hb1
          go_wp2
          go_roundw
          case rel => exact ⟨3 + 1, 3 + 1, ad1, cc1, by omega, by omega, rfl, rfl, congrArg (Value.int .i64) (by simp; try omega), rfl, H3.out, H4.out⟩
          case measure => simp [intOf]
      · have hj : j = 4 := by omega
        have hm : m = 4 := by omega
        subst hj hm
        clear hjm hj0 hj4 hlt
        have h4 : (tab (laneF n) 4).length = 4 := rfl
        have hall := spec.Pack4_c ad cc (tab (laneF n) 4) wr (by rw [h4]; omega) H1.out.row
        rw [h4] at hall
        have hpk : packOk (tab (laneF n) 4) = allR 0 32767 (tab (laneF n) 4) := by simp [packOk, h4]
        rw [hpk] at hall
        generalize packF (tab (laneF n) 4) = pv at hall
        have HA := Lib.hid hall
        clear hall h4 hpk
        cases hin : allR 0 32767 (tab (laneF n) 4)
        · have hu : unpackF n = [] := by unfold unpackF; rw [if_neg (by omega), lanes, hin]; rfl
          have HU := Lib.hid hu
          clear hu
          rw [hin] at HA
          go_wp2_with (go_at_call 30; refine HA.out.mono ?_; rintro e w' ⟨rfl, rfl⟩)
          go_ret
          rw [HU.out]
          exact ⟨_, _, rfl, Own.lit _ _ [] rfl H2.out.size (by simp [maxLen]), H2.out.alloc H2.out.size _⟩
        · have hu : unpackF n = tab (laneF n) 4 := by unfold unpackF; rw [if_neg (by omega), lanes, hin]; rfl
          have HU := Lib.hid hu
          clear hu
          rw [hin] at HA
          go_wp2_with (go_at_call 30; refine HA.out.mono ?_; rintro e w' ⟨rfl, rfl⟩)
          go_ret
          rw [HU.out]
          exact ⟨ad, cc, rfl, H1.out, H2.out⟩

end Go.Proofs.Ytbdggcefgiehkaa
