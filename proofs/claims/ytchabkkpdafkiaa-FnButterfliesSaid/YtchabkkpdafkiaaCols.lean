/- Contracts of turning a square over. -/
import Derived.Test.YtchabkkpdafkiaaList
namespace Go.Proofs.Ytchabkkpdafkiaa
open Go.RowKit
set_option linter.unusedVariables false

def colAt (l : List Int) (n i : Nat) : Int := l.getD (i % n * n + i / n) 0
def sideN (m : Nat) : Nat := if m = 16 then 4 else if m = 64 then 8 else 0
def colF (l : List Int) : List Int := tab (colAt l (sideN l.length)) (sideN l.length * sideN l.length)
theorem colF_len (l : List Int) : (colF l).length ≤ 1048576 := by
  rw [colF, tab_len, sideN]
  split
  · decide
  · split <;> decide
theorem colF_no {l : List Int} (h1 : l.length ≠ 16) (h2 : l.length ≠ 64) : colF l = [] := by
  simp [colF, sideN, h1, h2, tab]


set_option maxHeartbeats 1000000 in
theorem impl.Columns_4 (a : Option Addr) (c : Nat) (l : List Int) (w : World) (hl : l.length = 16) (hr : Row w a l) :
    Calls Try.prog 25 #[.slice a 16 c] w fun e w' => ∃ b d, e = .returned (.slice b 16 d) ∧ Own w.heap.size w' b d (tab (colAt l 4) 16) ∧ Below w.heap.size w w' := by
  have HL := Lib.hid hl
  obtain ⟨b, off, rfl, hbk, hc⟩ := hr.inside (by omega)
  rw [hl] at hc
  have HC := Lib.hid hc
  have HS := impl.sizeOf_c 16 w (by omega)
  rw [show sizeF 16 = 4 from rfl] at HS
  have HSz := Lib.hid HS
  clear hl hr hc HS
  go_enter Try.func25, Try.ntmps25
  go_wp2_with (go_at_call 40; refine HSz.out.mono ?_; rintro e w' ⟨rfl, rfl⟩)
  go_loopw [4, 13] (fun o i wr => ∃ (k : Nat) (ad : Option Addr) (cc : Nat), k ≤ 16 ∧ i = .int .i64 k ∧ o = .slice ad k cc ∧ Own w.heap.size wr ad cc (tab (colAt l 4) k) ∧ Below w.heap.size w wr) (fun _ i _ => 16 - (intOf i).toNat)
  case atStart => exact ⟨0, _, _, Nat.zero_le _, rfl, rfl, Own.lit _ _ [] rfl (Nat.le_refl _) (by simp [maxLen]), (Below.refl _ _).alloc (Nat.le_refl _) _⟩
  case round =>
    obtain ⟨k, ad, cc, hk, rfl, rfl, hown, hb⟩ := hrel
    by_cases hlt : k < 16
    · obtain ⟨p, hp⟩ : ∃ p, p = k % 4 := ⟨_, rfl⟩
      obtain ⟨q, hq⟩ : ∃ q, q = k / 4 := ⟨_, rfl⟩
      obtain ⟨p4, hp4⟩ : ∃ p4, p4 = p * 4 := ⟨_, rfl⟩
      obtain ⟨j, hj⟩ : ∃ j, j = p4 + q := ⟨_, rfl⟩
      have hj16 : j < 16 := by omega
      have e1 : (k : Int).tmod 4 = (p : Int) := by rw [Int.tmod_eq_emod_of_nonneg (by omega)]; omega
      have e2 : IntKind.i64.wrap ((p : Int) * 4) = (p4 : Int) := by rw [IntWalk.i64_in _ (by omega)]; omega
      have e3 : IntKind.i64.wrap ((k : Int).tdiv 4) = (q : Int) := by rw [Int.tdiv_eq_ediv_of_nonneg (by omega), IntWalk.i64_in _ (by omega)]; omega
      have e4 : IntKind.i64.wrap ((p4 : Int) + (q : Int)) = (j : Int) := by rw [IntWalk.i64_in _ (by omega)]; omega
      have z1 : (j : Int) < 16 := by omega
      have e5 : (k : Int) % 4 = (p : Int) := by omega
      have e6 : (k : Int) / 4 = (q : Int) := by omega
      have e7 : IntKind.i64.wrap ((p : Int)) = (p : Int) := IntWalk.i64_in _ (by omega)
      have e8 : IntKind.i64.wrap ((q : Int)) = (q : Int) := IntWalk.i64_in _ (by omega)
      have c0 := (bcell hb b (off + j) hbk).trans (HC.out j hj16)
      have HY : Hid (colAt l 4 k = l.getD j 0) := by show colAt l 4 k = _; rw [colAt, hj, hp4, hp, hq]
      generalize l.getD j 0 = x at *
      have H1 := Lib.hid hown
      have H2 := Lib.hid hb
      clear hown hb hp hq hp4 hj
      have hsz := H2.out.size
      go_wp2_with fail
      go_region_held3 (fun w' => w'.cell? ⟨b, off + j, none⟩ = some (.int .i64 x)) (first | go_keep)
        ((first
          | (refine step_append_one Try.underlying22 Try.infoInt rfl (.tmp 16) (.tmp 29) rfl w.heap.size ad cc k (tab (colAt l 4) k) (tab_len _ _) rfl ((H1.out.alloc _).drew) wr.heap.size x rfl ?_ ?_ ?_ ?_
             · simp
             · omega
             · simp; omega
             intro ad1 cc1 w1 hown1 hb1
             have hcw := bcell hb1)))
      all_goals
        rw [← HY.out, ← tab_succ] at hown1
        have H3 := Lib.hid hown1
        have H4 : Hid (Below w.heap.size w w1) := ((H2.out.alloc H2.out.size _).drew).trans hb1
        clear hown1 hb1 hcw e1 e2 e3 e4 e5 e6 e7 e8
        go_wp2
        go_roundw
        case rel => exact ⟨k + 1, ad1, cc1, by omega, by go_num, rfl, H3.out, H4.out⟩
        case measure => simp [intOf]; omega
    · obtain rfl : k = 16 := by omega
      go_wp2
      go_ret
      exact ⟨ad, cc, rfl, hown, hb⟩
set_option maxHeartbeats 1000000 in
theorem impl.Columns_8 (a : Option Addr) (c : Nat) (l : List Int) (w : World) (hl : l.length = 64) (hr : Row w a l) :
    Calls Try.prog 25 #[.slice a 64 c] w fun e w' => ∃ b d, e = .returned (.slice b 64 d) ∧ Own w.heap.size w' b d (tab (colAt l 8) 64) ∧ Below w.heap.size w w' := by
  have HL := Lib.hid hl
  obtain ⟨b, off, rfl, hbk, hc⟩ := hr.inside (by omega)
  rw [hl] at hc
  have HC := Lib.hid hc
  have HS := impl.sizeOf_c 64 w (by omega)
  rw [show sizeF 64 = 8 from rfl] at HS
  have HSz := Lib.hid HS
  clear hl hr hc HS
  go_enter Try.func25, Try.ntmps25
  go_wp2_with (go_at_call 40; refine HSz.out.mono ?_; rintro e w' ⟨rfl, rfl⟩)
  go_loopw [4, 13] (fun o i wr => ∃ (k : Nat) (ad : Option Addr) (cc : Nat), k ≤ 64 ∧ i = .int .i64 k ∧ o = .slice ad k cc ∧ Own w.heap.size wr ad cc (tab (colAt l 8) k) ∧ Below w.heap.size w wr) (fun _ i _ => 64 - (intOf i).toNat)
  case atStart => exact ⟨0, _, _, Nat.zero_le _, rfl, rfl, Own.lit _ _ [] rfl (Nat.le_refl _) (by simp [maxLen]), (Below.refl _ _).alloc (Nat.le_refl _) _⟩
  case round =>
    obtain ⟨k, ad, cc, hk, rfl, rfl, hown, hb⟩ := hrel
    by_cases hlt : k < 64
    · obtain ⟨p, hp⟩ : ∃ p, p = k % 8 := ⟨_, rfl⟩
      obtain ⟨q, hq⟩ : ∃ q, q = k / 8 := ⟨_, rfl⟩
      obtain ⟨p4, hp4⟩ : ∃ p4, p4 = p * 8 := ⟨_, rfl⟩
      obtain ⟨j, hj⟩ : ∃ j, j = p4 + q := ⟨_, rfl⟩
      have hj16 : j < 64 := by omega
      have e1 : (k : Int).tmod 8 = (p : Int) := by rw [Int.tmod_eq_emod_of_nonneg (by omega)]; omega
      have e2 : IntKind.i64.wrap ((p : Int) * 8) = (p4 : Int) := by rw [IntWalk.i64_in _ (by omega)]; omega
      have e3 : IntKind.i64.wrap ((k : Int).tdiv 8) = (q : Int) := by rw [Int.tdiv_eq_ediv_of_nonneg (by omega), IntWalk.i64_in _ (by omega)]; omega
      have e4 : IntKind.i64.wrap ((p4 : Int) + (q : Int)) = (j : Int) := by rw [IntWalk.i64_in _ (by omega)]; omega
      have z1 : (j : Int) < 64 := by omega
      have e5 : (k : Int) % 8 = (p : Int) := by omega
      have e6 : (k : Int) / 8 = (q : Int) := by omega
      have e7 : IntKind.i64.wrap ((p : Int)) = (p : Int) := IntWalk.i64_in _ (by omega)
      have e8 : IntKind.i64.wrap ((q : Int)) = (q : Int) := IntWalk.i64_in _ (by omega)
      have c0 := (bcell hb b (off + j) hbk).trans (HC.out j hj16)
      have HY : Hid (colAt l 8 k = l.getD j 0) := by show colAt l 8 k = _; rw [colAt, hj, hp4, hp, hq]
      generalize l.getD j 0 = x at *
      have H1 := Lib.hid hown
      have H2 := Lib.hid hb
      clear hown hb hp hq hp4 hj
      have hsz := H2.out.size
      go_wp2_with fail
      go_region_held3 (fun w' => w'.cell? ⟨b, off + j, none⟩ = some (.int .i64 x)) (first | go_keep)
        ((first
          | (refine step_append_one Try.underlying22 Try.infoInt rfl (.tmp 16) (.tmp 29) rfl w.heap.size ad cc k (tab (colAt l 8) k) (tab_len _ _) rfl ((H1.out.alloc _).drew) wr.heap.size x rfl ?_ ?_ ?_ ?_
             · simp
             · omega
             · simp; omega
             intro ad1 cc1 w1 hown1 hb1
             have hcw := bcell hb1)))
      all_goals
        rw [← HY.out, ← tab_succ] at hown1
        have H3 := Lib.hid hown1
        have H4 : Hid (Below w.heap.size w w1) := ((H2.out.alloc H2.out.size _).drew).trans hb1
        clear hown1 hb1 hcw e1 e2 e3 e4 e5 e6 e7 e8
        go_wp2
        go_roundw
        case rel => exact ⟨k + 1, ad1, cc1, by omega, by go_num, rfl, H3.out, H4.out⟩
        case measure => simp [intOf]; omega
    · obtain rfl : k = 64 := by omega
      go_wp2
      go_ret
      exact ⟨ad, cc, rfl, hown, hb⟩
theorem impl.Columns_c (a : Option Addr) (c : Nat) (l : List Int) (w : World) (hl : l.length ≤ 1099511627776) (hr : Row w a l) (hw : ∀ x ∈ l, -9223372036854775808 ≤ x ∧ x ≤ 9223372036854775807) :
    Calls Try.prog 25 #[.slice a l.length c] w fun e w' => ∃ b d, e = .returned (.slice b (colF l).length d) ∧ Own w.heap.size w' b d (colF l) ∧ Below w.heap.size w w' := by
  rcases sizeF_cases l.length with ⟨h, he⟩ | ⟨h, he⟩ | ⟨h1, h2, he⟩
  · have e : colF l = tab (colAt l 4) 16 := by simp [colF, sideN, h]
    rw [e, tab_len, h]
    exact impl.Columns_4 a c l w h hr
  · have e : colF l = tab (colAt l 8) 64 := by simp [colF, sideN, h]
    rw [e, tab_len, h]
    exact impl.Columns_8 a c l w h hr
  · rw [colF_no h1 h2]
    have HS := impl.sizeOf_c l.length w hl
    rw [he] at HS
    have HSz := Lib.hid HS
    clear HS he h1 h2 hr hw
    go_enter Try.func25, Try.ntmps25
    go_wp2_with (go_at_call 40; refine HSz.out.mono ?_; rintro e w' ⟨rfl, rfl⟩)
    go_loopw [4, 13] (fun o i wr => ∃ (ad : Option Addr) (cc : Nat), i = .int .i64 0 ∧ o = .slice ad 0 cc ∧ Own w.heap.size wr ad cc [] ∧ Below w.heap.size w wr) (fun _ i _ => 0)
    case atStart => exact ⟨_, _, rfl, rfl, Own.lit _ _ [] rfl (Nat.le_refl _) (by simp [maxLen]), (Below.refl _ _).alloc (Nat.le_refl _) _⟩
    case round =>
      obtain ⟨ad, cc, rfl, rfl, hown, hb⟩ := hrel
      go_wp2
      go_ret
      exact ⟨ad, cc, rfl, hown, hb⟩



set_option maxHeartbeats 1000000 in
theorem spec.Columns_4 (a : Option Addr) (c : Nat) (l : List Int) (w : World) (hl : l.length = 16) (hr : Row w a l) :
    Calls Try.prog 44 #[.slice a 16 c] w fun e w' => ∃ b d, e = .returned (.slice b 16 d) ∧ Own w.heap.size w' b d (tab (colAt l 4) 16) ∧ Below w.heap.size w w' := by
  have HL := Lib.hid hl
  obtain ⟨b, off, rfl, hbk, hc⟩ := hr.inside (by omega)
  rw [hl] at hc
  have HC := Lib.hid hc
  have HS := spec.l9Side_c (some ⟨b, off, none⟩) c 16 w (by omega)
  rw [show sizeF 16 = 4 from rfl] at HS
  have HSz := Lib.hid HS
  clear hl hr hc HS
  go_enter Try.func44, Try.ntmps44
  go_wp2_with (go_at_call 53; refine HSz.out.mono ?_; rintro e w' ⟨rfl, rfl⟩)
  go_loopw [4, 5] (fun o i wr => ∃ (x : Nat) (ad : Option Addr) (cc : Nat), x ≤ 4 ∧ i = .int .i64 x ∧ o = .slice ad (x * 4) cc ∧ Own w.heap.size wr ad cc (tab (colAt l 4) (x * 4)) ∧ Below w.heap.size w wr) (fun _ i _ => 4 - (intOf i).toNat)
  case atStart => exact ⟨0, _, _, Nat.zero_le _, rfl, by simp, Own.lit _ _ [] rfl (Nat.le_refl _) (by simp [maxLen]), (Below.refl _ _).alloc (Nat.le_refl _) _⟩
  case round =>
    obtain ⟨x, ad, cc, hx, rfl, rfl, hown, hb⟩ := hrel
    have H1 := Lib.hid hown
    have H2 := Lib.hid hb
    clear hown hb
    obtain ⟨xn, hxn⟩ : ∃ xn, xn = x * 4 := ⟨_, rfl⟩
    rw [← hxn] at H1 ⊢
    have HXN := Lib.hid hxn
    clear hxn
    by_cases hlt : x < 4
    · have hltd : decide ((x : Int) < 4) = true := by simp; omega
      go_wp2
      obtain ⟨wz, hwz⟩ : ∃ wz : World, wz = wr := ⟨_, rfl⟩
      rw [← hwz] at H1 H2 ⊢
      clear hwz
      go_loopw [4, 6] (fun o i wr => ∃ (y : Nat) (ad : Option Addr) (cc : Nat), y ≤ 4 ∧ i = .int .i64 y ∧ o = .slice ad (xn + y) cc ∧ Own w.heap.size wr ad cc (tab (colAt l 4) (xn + y)) ∧ Below w.heap.size w wr) (fun _ i _ => 4 - (intOf i).toNat)
      case atStart => exact ⟨0, _, _, Nat.zero_le _, rfl, rfl, H1.out, H2.out⟩
      case round =>
        clear H1 H2
        obtain ⟨y, ad1, cc1, hy, rfl, rfl, hown, hb⟩ := hrel
        have H1 := Lib.hid hown
        have H2 := Lib.hid hb
        clear hown hb
        have hsz := H2.out.size
        by_cases hlt2 : y < 4
        · have hj16 : y * 4 + x < 16 := by omega
          have c0 := (bcell H2.out b (off + (y * 4 + x)) hbk).trans (HC.out (y * 4 + x) hj16)
          have HY : Hid (colAt l 4 (xn + y) = l.getD (y * 4 + x) 0) := by
            show colAt l 4 (xn + y) = _
            have h1 : (xn + y) % 4 = y := by rw [HXN.out]; omega
            have h2 : (xn + y) / 4 = x := by rw [HXN.out]; omega
            rw [colAt, h1, h2]
          generalize l.getD (y * 4 + x) 0 = v at *
          have hxnb : xn ≤ 16 := by have := HXN.out; omega
          go_wp2_with (at_builtin; refine append_one Try.underlying22 Try.infoInt rfl (.tmp 20) (.tmp 29) rfl w.heap.size ad1 cc1 (xn + y) (tab (colAt l 4) (xn + y)) (tab_len _ _) rfl (H1.out.alloc _) wr.heap.size v rfl ?_ ?_ ?_ ?_; (simp); (omega); (simp; omega); intro ad2 cc2 w1 hown1 hb1)
          rw [← HY.out, ← tab_succ] at hown1
          have H3 := Lib.hid hown1
          have H4 : Hid (Below w.heap.size w w1) := (H2.out.alloc H2.out.size _).trans hb1
          clear hown1 hb1
          go_wp2
          go_roundw
          case rel => exact ⟨y + 1, ad2, cc2, by omega, by go_num, rfl, H3.out, H4.out⟩
          case measure => simp [intOf]; omega
        · obtain rfl : y = 4 := by omega
          go_wp2
          go_roundw
          case rel => exact ⟨x + 1, ad1, cc1, by omega, by go_num, by rw [show (x + 1) * 4 = xn + 4 from by rw [HXN.out]; omega], by rw [show (x + 1) * 4 = xn + 4 from by rw [HXN.out]; omega]; exact H1.out, H2.out⟩
          case measure => simp [intOf]; omega
    · obtain rfl : x = 4 := by omega
      obtain rfl : xn = 16 := by have := HXN.out; omega
      go_wp2
      go_ret
      exact ⟨ad, cc, rfl, H1.out, H2.out⟩
set_option maxHeartbeats 1000000 in
theorem spec.Columns_8 (a : Option Addr) (c : Nat) (l : List Int) (w : World) (hl : l.length = 64) (hr : Row w a l) :
    Calls Try.prog 44 #[.slice a 64 c] w fun e w' => ∃ b d, e = .returned (.slice b 64 d) ∧ Own w.heap.size w' b d (tab (colAt l 8) 64) ∧ Below w.heap.size w w' := by
  have HL := Lib.hid hl
  obtain ⟨b, off, rfl, hbk, hc⟩ := hr.inside (by omega)
  rw [hl] at hc
  have HC := Lib.hid hc
  have HS := spec.l9Side_c (some ⟨b, off, none⟩) c 64 w (by omega)
  rw [show sizeF 64 = 8 from rfl] at HS
  have HSz := Lib.hid HS
  clear hl hr hc HS
  go_enter Try.func44, Try.ntmps44
  go_wp2_with (go_at_call 53; refine HSz.out.mono ?_; rintro e w' ⟨rfl, rfl⟩)
  go_loopw [4, 5] (fun o i wr => ∃ (x : Nat) (ad : Option Addr) (cc : Nat), x ≤ 8 ∧ i = .int .i64 x ∧ o = .slice ad (x * 8) cc ∧ Own w.heap.size wr ad cc (tab (colAt l 8) (x * 8)) ∧ Below w.heap.size w wr) (fun _ i _ => 8 - (intOf i).toNat)
  case atStart => exact ⟨0, _, _, Nat.zero_le _, rfl, by simp, Own.lit _ _ [] rfl (Nat.le_refl _) (by simp [maxLen]), (Below.refl _ _).alloc (Nat.le_refl _) _⟩
  case round =>
    obtain ⟨x, ad, cc, hx, rfl, rfl, hown, hb⟩ := hrel
    have H1 := Lib.hid hown
    have H2 := Lib.hid hb
    clear hown hb
    obtain ⟨xn, hxn⟩ : ∃ xn, xn = x * 8 := ⟨_, rfl⟩
    rw [← hxn] at H1 ⊢
    have HXN := Lib.hid hxn
    clear hxn
    by_cases hlt : x < 8
    · have hltd : decide ((x : Int) < 8) = true := by simp; omega
      go_wp2
      obtain ⟨wz, hwz⟩ : ∃ wz : World, wz = wr := ⟨_, rfl⟩
      rw [← hwz] at H1 H2 ⊢
      clear hwz
      go_loopw [4, 6] (fun o i wr => ∃ (y : Nat) (ad : Option Addr) (cc : Nat), y ≤ 8 ∧ i = .int .i64 y ∧ o = .slice ad (xn + y) cc ∧ Own w.heap.size wr ad cc (tab (colAt l 8) (xn + y)) ∧ Below w.heap.size w wr) (fun _ i _ => 8 - (intOf i).toNat)
      case atStart => exact ⟨0, _, _, Nat.zero_le _, rfl, rfl, H1.out, H2.out⟩
      case round =>
        clear H1 H2
        obtain ⟨y, ad1, cc1, hy, rfl, rfl, hown, hb⟩ := hrel
        have H1 := Lib.hid hown
        have H2 := Lib.hid hb
        clear hown hb
        have hsz := H2.out.size
        by_cases hlt2 : y < 8
        · have hj16 : y * 8 + x < 64 := by omega
          have c0 := (bcell H2.out b (off + (y * 8 + x)) hbk).trans (HC.out (y * 8 + x) hj16)
          have HY : Hid (colAt l 8 (xn + y) = l.getD (y * 8 + x) 0) := by
            show colAt l 8 (xn + y) = _
            have h1 : (xn + y) % 8 = y := by rw [HXN.out]; omega
            have h2 : (xn + y) / 8 = x := by rw [HXN.out]; omega
            rw [colAt, h1, h2]
          generalize l.getD (y * 8 + x) 0 = v at *
          have hxnb : xn ≤ 64 := by have := HXN.out; omega
          go_wp2_with (at_builtin; refine append_one Try.underlying22 Try.infoInt rfl (.tmp 20) (.tmp 29) rfl w.heap.size ad1 cc1 (xn + y) (tab (colAt l 8) (xn + y)) (tab_len _ _) rfl (H1.out.alloc _) wr.heap.size v rfl ?_ ?_ ?_ ?_; (simp); (omega); (simp; omega); intro ad2 cc2 w1 hown1 hb1)
          rw [← HY.out, ← tab_succ] at hown1
          have H3 := Lib.hid hown1
          have H4 : Hid (Below w.heap.size w w1) := (H2.out.alloc H2.out.size _).trans hb1
          clear hown1 hb1
          go_wp2
          go_roundw
          case rel => exact ⟨y + 1, ad2, cc2, by omega, by go_num, rfl, H3.out, H4.out⟩
          case measure => simp [intOf]; omega
        · obtain rfl : y = 8 := by omega
          go_wp2
          go_roundw
          case rel => exact ⟨x + 1, ad1, cc1, by omega, by go_num, by rw [show (x + 1) * 8 = xn + 8 from by rw [HXN.out]; omega], by rw [show (x + 1) * 8 = xn + 8 from by rw [HXN.out]; omega]; exact H1.out, H2.out⟩
          case measure => simp [intOf]; omega
    · obtain rfl : x = 8 := by omega
      obtain rfl : xn = 64 := by have := HXN.out; omega
      go_wp2
      go_ret
      exact ⟨ad, cc, rfl, H1.out, H2.out⟩
theorem spec.Columns_c (a : Option Addr) (c : Nat) (l : List Int) (w : World) (hl : l.length ≤ 1099511627776) (hr : Row w a l) (hw : ∀ x ∈ l, -9223372036854775808 ≤ x ∧ x ≤ 9223372036854775807) :
    Calls Try.prog 44 #[.slice a l.length c] w fun e w' => ∃ b d, e = .returned (.slice b (colF l).length d) ∧ Own w.heap.size w' b d (colF l) ∧ Below w.heap.size w w' := by
  rcases sizeF_cases l.length with ⟨h, he⟩ | ⟨h, he⟩ | ⟨h1, h2, he⟩
  · have e : colF l = tab (colAt l 4) 16 := by simp [colF, sideN, h]
    rw [e, tab_len, h]
    exact spec.Columns_4 a c l w h hr
  · have e : colF l = tab (colAt l 8) 64 := by simp [colF, sideN, h]
    rw [e, tab_len, h]
    exact spec.Columns_8 a c l w h hr
  · rw [colF_no h1 h2]
    have HS := spec.l9Side_c a c l.length w hl
    rw [he] at HS
    have HSz := Lib.hid HS
    clear HS he h1 h2 hr hw
    go_enter Try.func44, Try.ntmps44
    go_wp2_with (go_at_call 53; refine HSz.out.mono ?_; rintro e w' ⟨rfl, rfl⟩)
    go_loopw [4, 5] (fun o i wr => ∃ (ad : Option Addr) (cc : Nat), i = .int .i64 0 ∧ o = .slice ad 0 cc ∧ Own w.heap.size wr ad cc [] ∧ Below w.heap.size w wr) (fun _ i _ => 0)
    case atStart => exact ⟨_, _, rfl, rfl, Own.lit _ _ [] rfl (Nat.le_refl _) (by simp [maxLen]), (Below.refl _ _).alloc (Nat.le_refl _) _⟩
    case round =>
      obtain ⟨ad, cc, rfl, rfl, hown, hb⟩ := hrel
      go_wp2
      go_ret
      exact ⟨ad, cc, rfl, hown, hb⟩

end Go.Proofs.Ytchabkkpdafkiaa
