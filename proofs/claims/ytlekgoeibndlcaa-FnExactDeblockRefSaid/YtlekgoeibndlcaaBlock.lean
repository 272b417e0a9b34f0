/- Contracts of reading a block out of a frame. -/
import Derived.Test.YtlekgoeibndlcaaFits
namespace Go.Proofs.Ytlekgoeibndlcaa
open Go.RowKit
set_option linter.unusedVariables false

def blkAt (X : Nat) (l : List Int) (u v n i : Nat) : Int := l.getD ((v + i / n) * X + u + i % n) 0
def blkF (x y : Int) (l : List Int) (u v n : Int) : List Int := if fitsB x y l u v n = true then tab (blkAt x.toNat l u.toNat v.toNat n.toNat) (n.toNat * n.toNat) else []
theorem blkF_no {x y : Int} {l : List Int} {u v n : Int} (h : fitsB x y l u v n = false) : blkF x y l u v n = [] := by simp [blkF, h]
theorem blkF_len (x y : Int) (l : List Int) (u v n : Int) : (blkF x y l u v n).length ≤ 64 := by
  rw [blkF]
  split
  · rename_i h
    rw [tab_len]
    rcases (fitsB_true h).2.1 with rfl | rfl <;> decide
  · simp

theorem Row.part {w : World} {b off : Nat} {l : List Int} {t n : Nat} (h : Row w (some ⟨b, off, none⟩) l) (ht : t + n ≤ l.length) (hn : 0 < n) :
    Row w (some ⟨b, off + t, none⟩) (tab (fun i => l.getD (t + i) 0) n) := by
  refine .inr ⟨b, off + t, rfl, fun i hi => ?_⟩
  rw [tab_len] at hi
  rw [tab_getD _ _ _ hi, Nat.add_assoc]
  obtain ⟨b1, off1, e, hc⟩ := h.all (by omega)
  cases e
  exact hc (t + i) (by omega)


set_option maxHeartbeats 2000000 in
theorem impl.BlockAt_4 (X Y U V : Nat) (a : Option Addr) (c : Nat) (l : List Int) (w : World) (hX : X ≤ 32) (hY : Y ≤ 32) (hl : l.length = X * Y) (hU : U + 4 ≤ X) (hV : V + 4 ≤ Y) (hr : Row w a l)
    (hS : ∀ t, Calls Try.prog 46 #[frv X Y a l.length c, .int .i64 U, .int .i64 V, .int .i64 4] (w.alloc (.cells #[.int .i64 X, .int .i64 Y, .slice a l.length c] t)) fun e w' => e = .returned (.bool true) ∧ Below (w.heap.size + 1) (w.alloc (.cells #[.int .i64 X, .int .i64 Y, .slice a l.length c] t)) w') :
    Calls Try.prog 19 #[frv X Y a l.length c, .int .i64 U, .int .i64 V, .int .i64 4] w fun e w' => ∃ b d, e = .returned (.slice b 16 d) ∧ Own w.heap.size w' b d (tab (blkAt X l U V 4) 16) ∧ Below w.heap.size w w' := by
  have hpos : 0 < l.length := by rw [hl]; exact Nat.mul_pos (by omega) (by omega)
  obtain ⟨b, off, rfl, hbk, hc⟩ := hr.inside hpos
  have hbk2 : b < w.heap.size + 1 := by omega
  have hlb : l.length ≤ 1024 := by rw [hl]; exact Nat.mul_le_mul hX hY
  have hrow : ∀ r s, s = r * X → r < Y → s + X ≤ l.length := by
    intro r s hs hlt
    have h1 : (r + 1) * X ≤ Y * X := Nat.mul_le_mul_right X hlt
    rw [Nat.add_mul, Nat.one_mul, Nat.mul_comm Y X, ← hl, ← hs] at h1
    exact h1
  have HRow := Lib.hid hrow
  have HC := Lib.hid hc
  have HSz := Lib.hid hS
  have HFin : Hid (∀ t, ∀ w1, Below (w.heap.size + 1) (w.alloc (.cells #[.int .i64 X, .int .i64 Y, .slice (some ⟨b, off, none⟩) l.length c] t)) w1 → Below w.heap.size w w1 ∧ w.heap.size + 1 ≤ w1.heap.size) := Lib.hid (fun t w1 hb => ⟨((Below.refl w.heap.size w).alloc (Nat.le_refl _) _).trans (hb.mono (by omega)), by have := hb.size; simpa using this⟩)
  clear hl hr hc hS hrow hpos
  go_enter Try.func19, Try.ntmps19
  go_wp2_with fail
  refine (HSz.out _).mono ?_
  rintro e w1 ⟨rfl, hb⟩
  have c0 : w1.cell? ⟨w.heap.size, 0, none⟩ = some (.int .i64 X) := (bcell hb _ _ (by omega)).trans (by simp)
  have c2 : w1.cell? ⟨w.heap.size, 2, none⟩ = some (.slice (some ⟨b, off, none⟩) l.length c) := (bcell hb _ _ (by omega)).trans (by simp)
  obtain ⟨hb0, hsz0⟩ := HFin.out _ _ hb
  have H0 := Lib.hid hb0
  clear hb hb0 HSz
  go_wp2
  go_loopw [9, 21] (fun o i wr => ∃ (k : Nat) (ad : Option Addr) (cc : Nat), k ≤ 16 ∧ i = .int .i64 k ∧ o = .slice ad k cc ∧ Own (w.heap.size + 1) wr ad cc (tab (blkAt X l U V 4) k) ∧ Below w.heap.size w wr ∧ wr.cell? ⟨w.heap.size, 0, none⟩ = some (.int .i64 X) ∧ wr.cell? ⟨w.heap.size, 2, none⟩ = some (.slice (some ⟨b, off, none⟩) l.length c)) (fun _ i _ => 16 - (intOf i).toNat)
  case atStart => exact ⟨0, _, _, Nat.zero_le _, rfl, rfl, Own.lit _ _ [] rfl hsz0 (by simp [maxLen]), H0.out.alloc H0.out.size _, (bcell ((Below.refl w1.heap.size w1).alloc (Nat.le_refl _) _) _ _ hsz0).trans c0, (bcell ((Below.refl w1.heap.size w1).alloc (Nat.le_refl _) _) _ _ hsz0).trans c2⟩
  case round =>
    clear c0 c2 H0
    obtain ⟨k, ad, cc, hk, rfl, rfl, hown, hb, c0, c2⟩ := hrel
    by_cases hlt : k < 16
    · obtain ⟨p, hp⟩ : ∃ p, p = k % 4 := ⟨_, rfl⟩
      obtain ⟨q, hq⟩ : ∃ q, q = k / 4 := ⟨_, rfl⟩
      obtain ⟨r, hr⟩ : ∃ r, r = V + q := ⟨_, rfl⟩
      obtain ⟨s, hs⟩ : ∃ s, s = r * X := ⟨_, rfl⟩
      obtain ⟨t, ht⟩ : ∃ t, t = s + U := ⟨_, rfl⟩
      obtain ⟨j, hj⟩ : ∃ j, j = t + p := ⟨_, rfl⟩
      have hsX := HRow.out r s hs (by omega)
      have hjl : j < l.length := by omega
      have hsI : (r : Int) * (X : Int) = (s : Int) := by rw [hs]; exact (Int.natCast_mul r X).symm
      have e1 : (k : Int).tmod 4 = (p : Int) := by rw [Int.tmod_eq_emod_of_nonneg (by omega)]; omega
      have e3 : IntKind.i64.wrap ((k : Int).tdiv 4) = (q : Int) := by rw [Int.tdiv_eq_ediv_of_nonneg (by omega), IntWalk.i64_in _ (by omega)]; omega
      have e5 : (k : Int) % 4 = (p : Int) := by omega
      have e6 : (k : Int) / 4 = (q : Int) := by omega
      have e7 : IntKind.i64.wrap ((p : Int)) = (p : Int) := IntWalk.i64_in _ (by omega)
      have e8 : IntKind.i64.wrap ((q : Int)) = (q : Int) := IntWalk.i64_in _ (by omega)
      have e9 : IntKind.i64.wrap ((V : Int) + (q : Int)) = (r : Int) := by rw [IntWalk.i64_in _ (by omega)]; omega
      have ea : IntKind.i64.wrap ((r : Int) * (X : Int)) = (s : Int) := by rw [hsI, IntWalk.i64_in _ (by omega)]
      have eb : IntKind.i64.wrap ((s : Int) + (U : Int)) = (t : Int) := by rw [IntWalk.i64_in _ (by omega)]; omega
      have e4 : IntKind.i64.wrap ((t : Int) + (p : Int)) = (j : Int) := by rw [IntWalk.i64_in _ (by omega)]; omega
      have z1 : (j : Int) < (l.length : Int) := by omega
      have cj := (bcell hb b (off + j) hbk).trans (HC.out j hjl)
      have HY : Hid (blkAt X l U V 4 k = l.getD j 0) := by show blkAt X l U V 4 k = _; rw [blkAt, hj, ht, hs, hr, hp, hq]
      generalize l.getD j 0 = x at *
      have H1 := Lib.hid hown
      have H2 := Lib.hid hb
      have hsz : w.heap.size + 1 ≤ wr.heap.size := World.block_lt_of_cell? wr _ c0
      clear hown hb hp hq hr hs ht hj hsX hjl hsI
      go_wp2_with fail
      go_region_held3 (fun w' => w'.cell? ⟨b, off + j, none⟩ = some (.int .i64 x) ∧ w'.cell? ⟨w.heap.size, 0, none⟩ = some (.int .i64 X) ∧ w'.cell? ⟨w.heap.size, 2, none⟩ = some (.slice (some ⟨b, off, none⟩) l.length c)) (first | go_keep)
        ((first
          | (refine step_append_one Try.underlying22 Try.infoInt rfl (.tmp 24) (.tmp 43) rfl (w.heap.size + 1) ad cc k (tab (blkAt X l U V 4) k) (tab_len _ _) rfl ((H1.out.alloc _).drew) wr.heap.size x rfl ?_ ?_ ?_ ?_
             · simp
             · omega
             · simp; omega
             intro ad1 cc1 w1 hown1 hb1
             have hcw := bcell hb1
             have hcj := hcw b (off + j) hbk2)))
      all_goals
        rw [← HY.out, ← tab_succ] at hown1
        have H3 := Lib.hid hown1
        have H4 : Hid (Below w.heap.size w w1) := ((H2.out.alloc H2.out.size _).drew).trans (hb1.mono (by omega))
        have d0 : w1.cell? ⟨w.heap.size, 0, none⟩ = some (.int .i64 X) := (hcw _ _ (by omega)).trans ((bcell ((Below.refl wr.heap.size wr).alloc (Nat.le_refl _) _).drew _ _ hsz).trans c0)
        have d2 : w1.cell? ⟨w.heap.size, 2, none⟩ = some (.slice (some ⟨b, off, none⟩) l.length c) := (hcw _ _ (by omega)).trans ((bcell ((Below.refl wr.heap.size wr).alloc (Nat.le_refl _) _).drew _ _ hsz).trans c2)
        clear hown1 hb1 hcw e1 e3 e4 e5 e6 e7 e8 e9 ea eb
        go_wp2
        go_roundw
        case rel => exact ⟨k + 1, ad1, cc1, by omega, by go_num, rfl, H3.out, H4.out, d0, d2⟩
        case measure => simp [intOf]; omega
    · obtain rfl : k = 16 := by omega
      go_wp2
      go_ret
      exact ⟨ad, cc, rfl, hown.mono (by omega), hb⟩
set_option maxHeartbeats 2000000 in
theorem impl.BlockAt_8 (X Y U V : Nat) (a : Option Addr) (c : Nat) (l : List Int) (w : World) (hX : X ≤ 32) (hY : Y ≤ 32) (hl : l.length = X * Y) (hU : U + 8 ≤ X) (hV : V + 8 ≤ Y) (hr : Row w a l)
    (hS : ∀ t, Calls Try.prog 46 #[frv X Y a l.length c, .int .i64 U, .int .i64 V, .int .i64 8] (w.alloc (.cells #[.int .i64 X, .int .i64 Y, .slice a l.length c] t)) fun e w' => e = .returned (.bool true) ∧ Below (w.heap.size + 1) (w.alloc (.cells #[.int .i64 X, .int .i64 Y, .slice a l.length c] t)) w') :
    Calls Try.prog 19 #[frv X Y a l.length c, .int .i64 U, .int .i64 V, .int .i64 8] w fun e w' => ∃ b d, e = .returned (.slice b 64 d) ∧ Own w.heap.size w' b d (tab (blkAt X l U V 8) 64) ∧ Below w.heap.size w w' := by
  have hpos : 0 < l.length := by rw [hl]; exact Nat.mul_pos (by omega) (by omega)
  obtain ⟨b, off, rfl, hbk, hc⟩ := hr.inside hpos
  have hbk2 : b < w.heap.size + 1 := by omega
  have hlb : l.length ≤ 1024 := by rw [hl]; exact Nat.mul_le_mul hX hY
  have hrow : ∀ r s, s = r * X → r < Y → s + X ≤ l.length := by
    intro r s hs hlt
    have h1 : (r + 1) * X ≤ Y * X := Nat.mul_le_mul_right X hlt
    rw [Nat.add_mul, Nat.one_mul, Nat.mul_comm Y X, ← hl, ← hs] at h1
    exact h1
  have HRow := Lib.hid hrow
  have HC := Lib.hid hc
  have HSz := Lib.hid hS
  have HFin : Hid (∀ t, ∀ w1, Below (w.heap.size + 1) (w.alloc (.cells #[.int .i64 X, .int .i64 Y, .slice (some ⟨b, off, none⟩) l.length c] t)) w1 → Below w.heap.size w w1 ∧ w.heap.size + 1 ≤ w1.heap.size) := Lib.hid (fun t w1 hb => ⟨((Below.refl w.heap.size w).alloc (Nat.le_refl _) _).trans (hb.mono (by omega)), by have := hb.size; simpa using this⟩)
  clear hl hr hc hS hrow hpos
  go_enter Try.func19, Try.ntmps19
  go_wp2_with fail
  refine (HSz.out _).mono ?_
  rintro e w1 ⟨rfl, hb⟩
  have c0 : w1.cell? ⟨w.heap.size, 0, none⟩ = some (.int .i64 X) := (bcell hb _ _ (by omega)).trans (by simp)
  have c2 : w1.cell? ⟨w.heap.size, 2, none⟩ = some (.slice (some ⟨b, off, none⟩) l.length c) := (bcell hb _ _ (by omega)).trans (by simp)
  obtain ⟨hb0, hsz0⟩ := HFin.out _ _ hb
  have H0 := Lib.hid hb0
  clear hb hb0 HSz
  go_wp2
  go_loopw [9, 21] (fun o i wr => ∃ (k : Nat) (ad : Option Addr) (cc : Nat), k ≤ 64 ∧ i = .int .i64 k ∧ o = .slice ad k cc ∧ Own (w.heap.size + 1) wr ad cc (tab (blkAt X l U V 8) k) ∧ Below w.heap.size w wr ∧ wr.cell? ⟨w.heap.size, 0, none⟩ = some (.int .i64 X) ∧ wr.cell? ⟨w.heap.size, 2, none⟩ = some (.slice (some ⟨b, off, none⟩) l.length c)) (fun _ i _ => 64 - (intOf i).toNat)
  case atStart => exact ⟨0, _, _, Nat.zero_le _, rfl, rfl, Own.lit _ _ [] rfl hsz0 (by simp [maxLen]), H0.out.alloc H0.out.size _, (bcell ((Below.refl w1.heap.size w1).alloc (Nat.le_refl _) _) _ _ hsz0).trans c0, (bcell ((Below.refl w1.heap.size w1).alloc (Nat.le_refl _) _) _ _ hsz0).trans c2⟩
  case round =>
    clear c0 c2 H0
    obtain ⟨k, ad, cc, hk, rfl, rfl, hown, hb, c0, c2⟩ := hrel
    by_cases hlt : k < 64
    · obtain ⟨p, hp⟩ : ∃ p, p = k % 8 := ⟨_, rfl⟩
      obtain ⟨q, hq⟩ : ∃ q, q = k / 8 := ⟨_, rfl⟩
      obtain ⟨r, hr⟩ : ∃ r, r = V + q := ⟨_, rfl⟩
      obtain ⟨s, hs⟩ : ∃ s, s = r * X := ⟨_, rfl⟩
      obtain ⟨t, ht⟩ : ∃ t, t = s + U := ⟨_, rfl⟩
      obtain ⟨j, hj⟩ : ∃ j, j = t + p := ⟨_, rfl⟩
      have hsX := HRow.out r s hs (by omega)
      have hjl : j < l.length := by omega
      have hsI : (r : Int) * (X : Int) = (s : Int) := by rw [hs]; exact (Int.natCast_mul r X).symm
      have e1 : (k : Int).tmod 8 = (p : Int) := by rw [Int.tmod_eq_emod_of_nonneg (by omega)]; omega
      have e3 : IntKind.i64.wrap ((k : Int).tdiv 8) = (q : Int) := by rw [Int.tdiv_eq_ediv_of_nonneg (by omega), IntWalk.i64_in _ (by omega)]; omega
      have e5 : (k : Int) % 8 = (p : Int) := by omega
      have e6 : (k : Int) / 8 = (q : Int) := by omega
      have e7 : IntKind.i64.wrap ((p : Int)) = (p : Int) := IntWalk.i64_in _ (by omega)
      have e8 : IntKind.i64.wrap ((q : Int)) = (q : Int) := IntWalk.i64_in _ (by omega)
      have e9 : IntKind.i64.wrap ((V : Int) + (q : Int)) = (r : Int) := by rw [IntWalk.i64_in _ (by omega)]; omega
      have ea : IntKind.i64.wrap ((r : Int) * (X : Int)) = (s : Int) := by rw [hsI, IntWalk.i64_in _ (by omega)]
      have eb : IntKind.i64.wrap ((s : Int) + (U : Int)) = (t : Int) := by rw [IntWalk.i64_in _ (by omega)]; omega
      have e4 : IntKind.i64.wrap ((t : Int) + (p : Int)) = (j : Int) := by rw [IntWalk.i64_in _ (by omega)]; omega
      have z1 : (j : Int) < (l.length : Int) := by omega
      have cj := (bcell hb b (off + j) hbk).trans (HC.out j hjl)
      have HY : Hid (blkAt X l U V 8 k = l.getD j 0) := by show blkAt X l U V 8 k = _; rw [blkAt, hj, ht, hs, hr, hp, hq]
      generalize l.getD j 0 = x at *
      have H1 := Lib.hid hown
      have H2 := Lib.hid hb
      have hsz : w.heap.size + 1 ≤ wr.heap.size := World.block_lt_of_cell? wr _ c0
      clear hown hb hp hq hr hs ht hj hsX hjl hsI
      go_wp2_with fail
      go_region_held3 (fun w' => w'.cell? ⟨b, off + j, none⟩ = some (.int .i64 x) ∧ w'.cell? ⟨w.heap.size, 0, none⟩ = some (.int .i64 X) ∧ w'.cell? ⟨w.heap.size, 2, none⟩ = some (.slice (some ⟨b, off, none⟩) l.length c)) (first | go_keep)
        ((first
          | (refine step_append_one Try.underlying22 Try.infoInt rfl (.tmp 24) (.tmp 43) rfl (w.heap.size + 1) ad cc k (tab (blkAt X l U V 8) k) (tab_len _ _) rfl ((H1.out.alloc _).drew) wr.heap.size x rfl ?_ ?_ ?_ ?_
             · simp
             · omega
             · simp; omega
             intro ad1 cc1 w1 hown1 hb1
             have hcw := bcell hb1
             have hcj := hcw b (off + j) hbk2)))
      all_goals
        rw [← HY.out, ← tab_succ] at hown1
        have H3 := Lib.hid hown1
        have H4 : Hid (Below w.heap.size w w1) := ((H2.out.alloc H2.out.size _).drew).trans (hb1.mono (by omega))
        have d0 : w1.cell? ⟨w.heap.size, 0, none⟩ = some (.int .i64 X) := (hcw _ _ (by omega)).trans ((bcell ((Below.refl wr.heap.size wr).alloc (Nat.le_refl _) _).drew _ _ hsz).trans c0)
        have d2 : w1.cell? ⟨w.heap.size, 2, none⟩ = some (.slice (some ⟨b, off, none⟩) l.length c) := (hcw _ _ (by omega)).trans ((bcell ((Below.refl wr.heap.size wr).alloc (Nat.le_refl _) _).drew _ _ hsz).trans c2)
        clear hown1 hb1 hcw e1 e3 e4 e5 e6 e7 e8 e9 ea eb
        go_wp2
        go_roundw
        case rel => exact ⟨k + 1, ad1, cc1, by omega, by go_num, rfl, H3.out, H4.out, d0, d2⟩
        case measure => simp [intOf]; omega
    · obtain rfl : k = 64 := by omega
      go_wp2
      go_ret
      exact ⟨ad, cc, rfl, hown.mono (by omega), hb⟩



set_option maxHeartbeats 2000000 in
theorem spec.BlockAt_4 (X Y U V : Nat) (a : Option Addr) (c : Nat) (l : List Int) (w : World) (hX : X ≤ 32) (hY : Y ≤ 32) (hl : l.length = X * Y) (hU : U + 4 ≤ X) (hV : V + 4 ≤ Y) (hr : Row w a l) (hcap : l.length ≤ c)
    (hS : ∀ w0, Row w0 a l → Calls Try.prog 45 #[frv X Y a l.length c, .int .i64 U, .int .i64 V, .int .i64 4] w0 fun e w' => e = .returned (.bool true) ∧ Below w0.heap.size w0 w') :
    Calls Try.prog 18 #[frv X Y a l.length c, .int .i64 U, .int .i64 V, .int .i64 4] w fun e w' => ∃ b d, e = .returned (.slice b 16 d) ∧ Own w.heap.size w' b d (tab (blkAt X l U V 4) 16) ∧ Below w.heap.size w w' := by
  have hpos : 0 < l.length := by rw [hl]; exact Nat.mul_pos (by omega) (by omega)
  obtain ⟨b, off, rfl, hbk, hc⟩ := hr.inside hpos
  have hbk2 : b < w.heap.size + 1 := by omega
  have hlb : l.length ≤ 1024 := by rw [hl]; exact Nat.mul_le_mul hX hY
  have hrow : ∀ r s, s = r * X → r < Y → s + X ≤ l.length := by
    intro r s hs hlt
    have h1 : (r + 1) * X ≤ Y * X := Nat.mul_le_mul_right X hlt
    rw [Nat.add_mul, Nat.one_mul, Nat.mul_comm Y X, ← hl, ← hs] at h1
    exact h1
  have HRow := Lib.hid hrow
  have HC := Lib.hid hc
  have HSz := Lib.hid hS
  have HR := Lib.hid hr
  clear hl hr hc hS hrow hpos
  go_enter Try.func18, Try.ntmps18
  go_wp2
  go_loopw [9, 10] (fun o i wr => ∃ (k : Nat) (ad : Option Addr) (cc : Nat), k ≤ 4 ∧ i = .int .i64 k ∧ o = .slice ad (k * 4) cc ∧ Own (w.heap.size + 1) wr ad cc (tab (blkAt X l U V 4) (k * 4)) ∧ Below w.heap.size w wr ∧ wr.cell? ⟨w.heap.size, 0, none⟩ = some (.int .i64 X) ∧ wr.cell? ⟨w.heap.size, 1, none⟩ = some (.int .i64 Y) ∧ wr.cell? ⟨w.heap.size, 2, none⟩ = some (.slice (some ⟨b, off, none⟩) l.length c)) (fun _ i _ => 4 - (intOf i).toNat)
  case atStart => exact ⟨0, _, _, Nat.zero_le _, rfl, by simp, Own.lit _ _ [] rfl (by simp) (by simp [maxLen]), ((Below.refl w.heap.size w).alloc (Nat.le_refl _) _).alloc (by simp) _, by simp [World.cell?_alloc_past], by simp [World.cell?_alloc_past], by simp [World.cell?_alloc_past]⟩
  case round =>
    obtain ⟨k, ad, cc, hk, rfl, rfl, hown, hb, c0, c1, c2⟩ := hrel
    obtain ⟨kn, hkn⟩ : ∃ kn, kn = k * 4 := ⟨_, rfl⟩
    rw [← hkn] at hown ⊢
    by_cases hlt : k < 4
    · have hltd : decide ((k : Int) < 4) = true := by simp; omega
      have hSw := HSz.out wr (HR.out.below hb (Nat.le_refl _))
      obtain ⟨r, hr⟩ : ∃ r, r = V + k := ⟨_, rfl⟩
      obtain ⟨s, hs⟩ : ∃ s, s = r * X := ⟨_, rfl⟩
      obtain ⟨t, ht⟩ : ∃ t, t = s + U := ⟨_, rfl⟩
      have hsX := HRow.out r s hs (by omega)
      have htl : t + 4 ≤ l.length := by omega
      have hsI : (r : Int) * (X : Int) = (s : Int) := by rw [hs]; exact (Int.natCast_mul r X).symm
      have e9 : IntKind.i64.wrap ((V : Int) + (k : Int)) = (r : Int) := by rw [IntWalk.i64_in _ (by omega)]; omega
      have e9' : (V : Int) + (k : Int) = (r : Int) := by omega
      have ea : IntKind.i64.wrap ((r : Int) * (X : Int)) = (s : Int) := by rw [hsI, IntWalk.i64_in _ (by omega)]
      have eb : IntKind.i64.wrap ((s : Int) + (U : Int)) = (t : Int) := by rw [IntWalk.i64_in _ (by omega)]; omega
      have eb' : (s : Int) + (U : Int) = (t : Int) := by omega
      have HY : Hid (tab (fun i => blkAt X l U V 4 (kn + i)) 4 = tab (fun i => l.getD (t + i) 0) 4) := by
        refine tab_congr fun i hi => ?_
        rw [blkAt, show (kn + i) / 4 = k from by omega, show (kn + i) % 4 = i from by omega, ht, hs, hr]
      have H1 := Lib.hid hown
      have H2 := Lib.hid hb
      have hsz : w.heap.size + 1 ≤ wr.heap.size := World.block_lt_of_cell? wr _ c0
      have HSw := Lib.hid hSw
      have HKN := Lib.hid hkn
      clear hown hb hr hs ht hSw hkn
      go_wp2_with fail
      refine HSw.out.mono ?_
      rintro e w1 ⟨rfl, hb1⟩
      have hwz : w.heap.size < wr.heap.size := hsz
      have d0 : w1.cell? ⟨w.heap.size, 0, none⟩ = some (.int .i64 X) := (bcell hb1 _ _ hwz).trans c0
      have d1 : w1.cell? ⟨w.heap.size, 1, none⟩ = some (.int .i64 Y) := (bcell hb1 _ _ hwz).trans c1
      have d2 : w1.cell? ⟨w.heap.size, 2, none⟩ = some (.slice (some ⟨b, off, none⟩) l.length c) := (bcell hb1 _ _ hwz).trans c2
      clear c0 c1 c2
      have H2w : Hid (Below w.heap.size w w1) := H2.out.trans (hb1.mono (by omega))
      have HR1 : Hid (Row w1 (some ⟨b, off, none⟩) l) := HR.out.below H2w.out (Nat.le_refl _)
      have H1w : Hid (Own (w.heap.size + 1) w1 ad cc (tab (blkAt X l U V 4) kn)) := H1.out.below hb1 (Nat.le_refl _)
      have hsz1 : w.heap.size + 1 ≤ w1.heap.size := World.block_lt_of_cell? w1 _ d0
      have htc : t + 4 ≤ c := by omega
      clear H1 H2 hb1
      have HRP : Hid (Row w1 (some ⟨b, off + t, none⟩) (tab (fun i => l.getD (t + i) 0) 4)) := HR1.out.part htl (by omega)
      have hkb : kn ≤ 16 := by have := HKN.out; omega
      go_wp2_with (at_builtin; go_loud (refine append_many Try.underlying22 Try.infoInt rfl (.tmp 24) (.tmp 45) rfl (w.heap.size + 1) ad cc kn (tab (blkAt X l U V 4) kn) (tab_len _ _) rfl H1w.out ⟨b, off + t, none⟩ 4 (c - t) (tab (fun i => l.getD (t + i) 0) 4) (tab_len _ _) ?_ HRP.out ?_ ?_ ?_); (go_loud (first | (show Value.slice (some _) _ _ = _; congr 2 <;> (try simp) <;> omega) | (simp [Act.eval]; done) | (simp [Act.eval]; omega))); (omega); (omega); intro ad2 cc2 w2 hown2 hb2)
      have f0 : w2.cell? ⟨w.heap.size, 0, none⟩ = some (.int .i64 X) := (bcell hb2 _ _ (by omega)).trans d0
      have f1 : w2.cell? ⟨w.heap.size, 1, none⟩ = some (.int .i64 Y) := (bcell hb2 _ _ (by omega)).trans d1
      have f2 : w2.cell? ⟨w.heap.size, 2, none⟩ = some (.slice (some ⟨b, off, none⟩) l.length c) := (bcell hb2 _ _ (by omega)).trans d2
      rw [← HY.out, tab_append] at hown2
      have H3 := Lib.hid hown2
      have H4 : Hid (Below w.heap.size w w2) := H2w.out.trans (hb2.mono (by omega))
      clear hown2 hb2 d0 d1 d2
      go_wp2
      go_roundw
      case rel => exact ⟨k + 1, ad2, cc2, by omega, by go_num, by rw [show (k + 1) * 4 = kn + 4 from by rw [HKN.out]; omega], by rw [show (k + 1) * 4 = kn + 4 from by rw [HKN.out]; omega]; exact H3.out, H4.out, f0, f1, f2⟩
      case measure => simp [intOf]; omega
    · obtain rfl : k = 4 := by omega
      obtain rfl : kn = 16 := by omega
      go_wp2
      go_ret
      exact ⟨ad, cc, rfl, hown.mono (by omega), hb⟩
set_option maxHeartbeats 2000000 in
theorem spec.BlockAt_8 (X Y U V : Nat) (a : Option Addr) (c : Nat) (l : List Int) (w : World) (hX : X ≤ 32) (hY : Y ≤ 32) (hl : l.length = X * Y) (hU : U + 8 ≤ X) (hV : V + 8 ≤ Y) (hr : Row w a l) (hcap : l.length ≤ c)
    (hS : ∀ w0, Row w0 a l → Calls Try.prog 45 #[frv X Y a l.length c, .int .i64 U, .int .i64 V, .int .i64 8] w0 fun e w' => e = .returned (.bool true) ∧ Below w0.heap.size w0 w') :
    Calls Try.prog 18 #[frv X Y a l.length c, .int .i64 U, .int .i64 V, .int .i64 8] w fun e w' => ∃ b d, e = .returned (.slice b 64 d) ∧ Own w.heap.size w' b d (tab (blkAt X l U V 8) 64) ∧ Below w.heap.size w w' := by
  have hpos : 0 < l.length := by rw [hl]; exact Nat.mul_pos (by omega) (by omega)
  obtain ⟨b, off, rfl, hbk, hc⟩ := hr.inside hpos
  have hbk2 : b < w.heap.size + 1 := by omega
  have hlb : l.length ≤ 1024 := by rw [hl]; exact Nat.mul_le_mul hX hY
  have hrow : ∀ r s, s = r * X → r < Y → s + X ≤ l.length := by
    intro r s hs hlt
    have h1 : (r + 1) * X ≤ Y * X := Nat.mul_le_mul_right X hlt
    rw [Nat.add_mul, Nat.one_mul, Nat.mul_comm Y X, ← hl, ← hs] at h1
    exact h1
  have HRow := Lib.hid hrow
  have HC := Lib.hid hc
  have HSz := Lib.hid hS
  have HR := Lib.hid hr
  clear hl hr hc hS hrow hpos
  go_enter Try.func18, Try.ntmps18
  go_wp2
  go_loopw [9, 10] (fun o i wr => ∃ (k : Nat) (ad : Option Addr) (cc : Nat), k ≤ 8 ∧ i = .int .i64 k ∧ o = .slice ad (k * 8) cc ∧ Own (w.heap.size + 1) wr ad cc (tab (blkAt X l U V 8) (k * 8)) ∧ Below w.heap.size w wr ∧ wr.cell? ⟨w.heap.size, 0, none⟩ = some (.int .i64 X) ∧ wr.cell? ⟨w.heap.size, 1, none⟩ = some (.int .i64 Y) ∧ wr.cell? ⟨w.heap.size, 2, none⟩ = some (.slice (some ⟨b, off, none⟩) l.length c)) (fun _ i _ => 8 - (intOf i).toNat)
  case atStart => exact ⟨0, _, _, Nat.zero_le _, rfl, by simp, Own.lit _ _ [] rfl (by simp) (by simp [maxLen]), ((Below.refl w.heap.size w).alloc (Nat.le_refl _) _).alloc (by simp) _, by simp [World.cell?_alloc_past], by simp [World.cell?_alloc_past], by simp [World.cell?_alloc_past]⟩
  case round =>
    obtain ⟨k, ad, cc, hk, rfl, rfl, hown, hb, c0, c1, c2⟩ := hrel
    obtain ⟨kn, hkn⟩ : ∃ kn, kn = k * 8 := ⟨_, rfl⟩
    rw [← hkn] at hown ⊢
    by_cases hlt : k < 8
    · have hltd : decide ((k : Int) < 8) = true := by simp; omega
      have hSw := HSz.out wr (HR.out.below hb (Nat.le_refl _))
      obtain ⟨r, hr⟩ : ∃ r, r = V + k := ⟨_, rfl⟩
      obtain ⟨s, hs⟩ : ∃ s, s = r * X := ⟨_, rfl⟩
      obtain ⟨t, ht⟩ : ∃ t, t = s + U := ⟨_, rfl⟩
      have hsX := HRow.out r s hs (by omega)
      have htl : t + 8 ≤ l.length := by omega
      have hsI : (r : Int) * (X : Int) = (s : Int) := by rw [hs]; exact (Int.natCast_mul r X).symm
      have e9 : IntKind.i64.wrap ((V : Int) + (k : Int)) = (r : Int) := by rw [IntWalk.i64_in _ (by omega)]; omega
      have e9' : (V : Int) + (k : Int) = (r : Int) := by omega
      have ea : IntKind.i64.wrap ((r : Int) * (X : Int)) = (s : Int) := by rw [hsI, IntWalk.i64_in _ (by omega)]
      have eb : IntKind.i64.wrap ((s : Int) + (U : Int)) = (t : Int) := by rw [IntWalk.i64_in _ (by omega)]; omega
      have eb' : (s : Int) + (U : Int) = (t : Int) := by omega
      have HY : Hid (tab (fun i => blkAt X l U V 8 (kn + i)) 8 = tab (fun i => l.getD (t + i) 0) 8) := by
        refine tab_congr fun i hi => ?_
        rw [blkAt, show (kn + i) / 8 = k from by omega, show (kn + i) % 8 = i from by omega, ht, hs, hr]
      have H1 := Lib.hid hown
      have H2 := Lib.hid hb
      have hsz : w.heap.size + 1 ≤ wr.heap.size := World.block_lt_of_cell? wr _ c0
      have HSw := Lib.hid hSw
      have HKN := Lib.hid hkn
      clear hown hb hr hs ht hSw hkn
      go_wp2_with fail
      refine HSw.out.mono ?_
      rintro e w1 ⟨rfl, hb1⟩
      have hwz : w.heap.size < wr.heap.size := hsz
      have d0 : w1.cell? ⟨w.heap.size, 0, none⟩ = some (.int .i64 X) := (bcell hb1 _ _ hwz).trans c0
      have d1 : w1.cell? ⟨w.heap.size, 1, none⟩ = some (.int .i64 Y) := (bcell hb1 _ _ hwz).trans c1
      have d2 : w1.cell? ⟨w.heap.size, 2, none⟩ = some (.slice (some ⟨b, off, none⟩) l.length c) := (bcell hb1 _ _ hwz).trans c2
      clear c0 c1 c2
      have H2w : Hid (Below w.heap.size w w1) := H2.out.trans (hb1.mono (by omega))
      have HR1 : Hid (Row w1 (some ⟨b, off, none⟩) l) := HR.out.below H2w.out (Nat.le_refl _)
      have H1w : Hid (Own (w.heap.size + 1) w1 ad cc (tab (blkAt X l U V 8) kn)) := H1.out.below hb1 (Nat.le_refl _)
      have hsz1 : w.heap.size + 1 ≤ w1.heap.size := World.block_lt_of_cell? w1 _ d0
      have htc : t + 8 ≤ c := by omega
      clear H1 H2 hb1
      have HRP : Hid (Row w1 (some ⟨b, off + t, none⟩) (tab (fun i => l.getD (t + i) 0) 8)) := HR1.out.part htl (by omega)
      have hkb : kn ≤ 64 := by have := HKN.out; omega
      go_wp2_with (at_builtin; go_loud (refine append_many Try.underlying22 Try.infoInt rfl (.tmp 24) (.tmp 45) rfl (w.heap.size + 1) ad cc kn (tab (blkAt X l U V 8) kn) (tab_len _ _) rfl H1w.out ⟨b, off + t, none⟩ 8 (c - t) (tab (fun i => l.getD (t + i) 0) 8) (tab_len _ _) ?_ HRP.out ?_ ?_ ?_); (go_loud (first | (show Value.slice (some _) _ _ = _; congr 2 <;> (try simp) <;> omega) | (simp [Act.eval]; done) | (simp [Act.eval]; omega))); (omega); (omega); intro ad2 cc2 w2 hown2 hb2)
      have f0 : w2.cell? ⟨w.heap.size, 0, none⟩ = some (.int .i64 X) := (bcell hb2 _ _ (by omega)).trans d0
      have f1 : w2.cell? ⟨w.heap.size, 1, none⟩ = some (.int .i64 Y) := (bcell hb2 _ _ (by omega)).trans d1
      have f2 : w2.cell? ⟨w.heap.size, 2, none⟩ = some (.slice (some ⟨b, off, none⟩) l.length c) := (bcell hb2 _ _ (by omega)).trans d2
      rw [← HY.out, tab_append] at hown2
      have H3 := Lib.hid hown2
      have H4 : Hid (Below w.heap.size w w2) := H2w.out.trans (hb2.mono (by omega))
      clear hown2 hb2 d0 d1 d2
      go_wp2
      go_roundw
      case rel => exact ⟨k + 1, ad2, cc2, by omega, by go_num, by rw [show (k + 1) * 8 = kn + 8 from by rw [HKN.out]; omega], by rw [show (k + 1) * 8 = kn + 8 from by rw [HKN.out]; omega]; exact H3.out, H4.out, f0, f1, f2⟩
      case measure => simp [intOf]; omega
    · obtain rfl : k = 8 := by omega
      obtain rfl : kn = 64 := by omega
      go_wp2
      go_ret
      exact ⟨ad, cc, rfl, hown.mono (by omega), hb⟩

end Go.Proofs.Ytlekgoeibndlcaa
