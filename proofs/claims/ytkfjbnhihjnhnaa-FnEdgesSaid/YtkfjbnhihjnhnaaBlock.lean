/- Contracts of reading a block out of a frame. -/
import Derived.Test.YtkfjbnhihjnhnaaFits
namespace Go.Proofs.Ytkfjbnhihjnhnaa
open Go.RowKit
set_option linter.unusedVariables false

def blkAt (X : Nat) (l : List Int) (u v n i : Nat) : Int := l.getD ((v + i / n) * X + u + i % n) 0
def blkF (x y : Int) (l : List Int) (u v n : Int) : List Int := if fitsB x y l u v n = true then tab (blkAt x.toNat l u.toNat v.toNat n.toNat) (n.toNat * n.toNat) else []
theorem blkF_no {x y : Int} {l : List Int} {u v n : Int} (h : fitsB x y l u v n = false) : blkF x y l u v n = [] := by simp [blkF, h]
theorem blkF_len (x y : Int) (l : List Int) (u v n : Int) : (blkF x y l u v n).length ≤ 64 := by
  rw [blkF]
  split
  · rename_i h
    rw [tab_len]
    rcases (fitsB_true h).2.1 with rfl | rfl <;> decide
  · simp

theorem Row.part {w : World} {b off : Nat} {l : List Int} {t n : Nat} (h : Row w (some ⟨b, off, none⟩) l) (ht : t + n ≤ l.length) (hn : 0 < n) :
    Row w (some ⟨b, off + t, none⟩) (tab (fun i => l.getD (t + i) 0) n) := by
  refine .inr ⟨b, off + t, rfl, fun i hi => ?_⟩
  rw [tab_len] at hi
  rw [tab_getD _ _ _ hi, Nat.add_assoc]
  obtain ⟨b1, off1, e, hc⟩ := h.all (by omega)
  cases e
  exact hc (t + i) (by omega)


set_option maxHeartbeats 2000000 in
theorem impl.BlockAt_4 (X Y U V : Nat) (a : Option Addr) (c : Nat) (l : List Int) (w : World) (hX : X ≤ 32) (hY : Y ≤ 32) (hl : l.length = X * Y) (hU : U + 4 ≤ X) (hV : V + 4 ≤ Y) (hr : Row w a l)
    (hS : ∀ t, Calls Try.prog 62 #[frv X Y a l.length c, .int .i64 U, .int .i64 V, .int .i64 4] (w.alloc (.cells #[.int .i64 X, .int .i64 Y, .slice a l.length c] t)) fun e w' => e = .returned (.bool true) ∧ Below (w.heap.size + 1) (w.alloc (.cells #[.int .i64 X, .int .i64 Y, .slice a l.length c] t)) w') :
    Calls Try.prog 33 #[frv X Y a l.length c, .int .i64 U, .int .i64 V, .int .i64 4] w fun e w' => ∃ b d, e = .returned (.slice b 16 d) ∧ Own w.heap.size w' b d (tab (blkAt X l U V 4) 16) ∧ Below w.heap.size w w' := by
  have hpos : 0 < l.length := by rw [hl]; exact Nat.mul_pos (by omega) (by omega)
  obtain ⟨b, off, rfl, hbk, hc⟩ := hr.inside hpos
  have hbk2 : b < w.heap.size + 1 := by omega
  have hlb : l.length ≤ 1024 := by rw [hl]; exact Nat.mul_le_mul hX hY
  have hrow : ∀ r s, s = r * X → r < Y → s + X ≤ l.length := by
    intro r s hs hlt
    have h1 : (r + 1) * X ≤ Y * X := Nat.mul_le_mul_right X hlt
    rw [Nat.add_mul, Nat.one_mul, Nat.mul_comm Y X, ← hl, ← hs] at h1
    exact h1
  have HRow := Lib.hid hrow
  have HC := Lib.hid hc
  have HSz := Lib.hid hS
  have HFin : Hid (∀ t, ∀ w1, Below (w.heap.size + 1) (w.alloc (.cells #[.int .i64 X, .int .i64 Y, .slice (some ⟨b, off, none⟩) l.length c] t)) w1 → Below w.heap.size w w1 ∧ w.heap.size + 1 ≤ w1.heap.size) := Lib.hid (fun t w1 hb => ⟨((Below.refl w.heap.size w).alloc (Nat.le_refl _) _).trans (hb.mono (by omega)), by have := hb.size; simpa using this⟩)
  clear hl hr hc hS hrow hpos
  go_enter Try.func33, Try.ntmps33
  go_wp2_with fail
  refine (HSz.out _).mono ?_
  rintro e w1 ⟨rfl, hb⟩
  have c0 : w1.cell? ⟨w.heap.size, 0, none⟩ = some (.int .i64 X) := (bcell hb _ _ (by omega)).trans (by simp)
  have c2 : w1.cell? ⟨w.heap.size, 2, none⟩ = some (.slice (some ⟨b, off, none⟩) l.length c) := (bcell hb _ _ (by omega)).trans (by simp)
  obtain ⟨hb0, hsz0⟩ := HFin.out _ _ hb
  have H0 := Lib.hid hb0
  clear hb hb0 HSz
  go_wp2
  go_loopw [9, 21] (fun o i wr => ∃ (k : Nat) (ad : Option Addr) (cc : Nat), k ≤ 16 ∧ i = .int .i64 k ∧ o = .slice ad k cc ∧ Own (w.heap.size + 1) wr ad cc (tab (blkAt X l U V 4) k) ∧ Below w.heap.size w wr ∧ wr.cell? ⟨w.heap.size, 0, none⟩ = some (.int .i64 X) ∧ wr.cell? ⟨w.heap.size, 2, none⟩ = some (.slice (some ⟨b, off, none⟩) l.length c)) (fun _ i _ => 16 - (intOf i).toNat)
  case atStart => exact ⟨0, _, _, Nat.zero_le _, rfl, rfl, Own.lit _ _ [] rfl hsz0 (by simp [maxLen]), H0.out.alloc H0.out.size _, (bcell ((Below.refl w1.heap.size w1).alloc (Nat.le_refl _) _) _ _ hsz0).trans c0, (bcell ((Below.refl w1.heap.size w1).alloc (Nat.le_refl _) _) _ _ hsz0).trans c2⟩
  case round =>
    clear c0 c2 H0
    obtain ⟨k, ad, cc, hk, rfl, rfl, hown, hb, c0, c2⟩ := hrel
    by_cases hlt : k < 16
    · obtain ⟨p, hp⟩ : ∃ p, p = k % 4 := ⟨_, rfl⟩
      obtain ⟨q, hq⟩ : ∃ q, q = k / 4 := ⟨_, rfl⟩
      obtain ⟨r, hr⟩ : ∃ r, r = V + q := ⟨_, rfl⟩
      obtain ⟨s, hs⟩ : ∃ s, s = r * X := ⟨_, rfl⟩
      obtain ⟨t, ht⟩ : ∃ t, t = s + U := ⟨_, rfl⟩
      obtain ⟨j, hj⟩ : ∃ j, j = t + p := ⟨_, rfl⟩
      have hsX := HRow.out r s hs (by omega)
      have hjl : j < l.length := by omega
      have hsI : (r : Int) * (X : Int) = (s : Int) := by rw [hs]; exact (Int.natCast_mul r X).symm
      have e1 : (k : Int).tmod 4 = (p : Int) := by rw [Int.tmod_eq_emod_of_nonneg (by omega)]; omega
      have e3 : IntKind.i64.wrap ((k : Int).tdiv 4) = (q : Int) := by rw [Int.tdiv_eq_ediv_of_nonneg (by omega), IntWalk.i64_in _ (by omega)]; omega
      have e5 : (k : Int) % 4 = (p : Int) := by omega
      have e6 : (k : Int) / 4 = (q : Int) := by omega
      have e7 : IntKind.i64.wrap ((p : Int)) = (p : Int) := IntWalk.i64_in _ (by omega)
      have e8 : IntKind.i64.wrap ((q : Int)) = (q : Int) := IntWalk.i64_in _ (by omega)
      have e9 : IntKind.i64.wrap ((V : Int) + (q : Int)) = (r : Int) := by rw [IntWalk.i64_in _ (by omega)]; omega
      have ea : IntKind.i64.wrap ((r : Int) * (X : Int)) = (s : Int) := by rw [hsI, IntWalk.i64_in _ (by omega)]
      have eb : IntKind.i64.wrap ((s : Int) + (U : Int)) = (t : Int) := by rw [IntWalk.i64_in _ (by omega)]; omega
      have e4 : IntKind.i64.wrap ((t : Int) + (p : Int)) = (j : Int) := by rw [IntWalk.i64_in _ (by omega)]; omega
      have z1 : (j : Int) < (l.length : Int) := by omega
      have cj := (bcell hb b (off + j) hbk).trans (HC.out j hjl)
      have HY : Hid (blkAt X l U V 4 k = l.getD j 0) := by show blkAt X l U V 4 k = _; rw [blkAt, hj, ht, hs, hr, hp, hq]
      generalize l.getD j 0 = x at *
      have H1 := Lib.hid hown
      have H2 := Lib.hid hb
      have hsz : w.heap.size + 1 ≤ wr.heap.size := World.block_lt_of_cell? wr _ c0
      clear hown hb hp hq hr hs ht hj hsX hjl hsI
      go_wp2_with fail
      go_region_held3 (fun w' => w'.cell? ⟨b, off + j, none⟩ = some (.int .i64 x) ∧ w'.cell? ⟨w.heap.size, 0, none⟩ = some (.int .i64 X) ∧ w'.cell? ⟨w.heap.size, 2, none⟩ = some (.slice (some ⟨b, off, none⟩) l.length c)) (first | go_keep)
        ((first
          | (refine step_append_one Try.underlying24 Try.infoInt rfl (.tmp 24) (.tmp 43) rfl (w.heap.size + 1) ad cc k (tab (blkAt X l U V 4) k) (tab_len _ _) rfl ((H1.out.alloc _).drew) wr.heap.size x rfl ?_ ?_ ?_ ?_
             · simp
             · omega
             · simp; omega
             intro ad1 cc1 w1 hown1 hb1
             have hcw := bcell hb1
             have hcj := hcw b (off + j) hbk2)))
      all_goals
        rw [← HY.out, ← tab_succ] at hown1
        have H3 := Lib.hid hown1
        have H4 : Hid (Below w.heap.size w w1) := ((H2.out.alloc H2.out.size _).drew).trans (hb1.mono (by omega))
        have d0 : w1.cell? ⟨w.heap.size, 0, none⟩ = some (.int .i64 X) := (hcw _ _ (by omega)).trans ((bcell ((Below.refl wr.heap.size wr).alloc (Nat.le_refl _) _).drew _ _ hsz).trans c0)
        have d2 : w1.cell? ⟨w.heap.size, 2, none⟩ = some (.slice (some ⟨b, off, none⟩) l.length c) := (hcw _ _ (by omega)).trans ((bcell ((Below.refl wr.heap.size wr).alloc (Nat.le_refl _) _).drew _ _ hsz).trans c2)
        clear hown1 hb1 hcw e1 e3 e4 e5 e6 e7 e8 e9 ea eb
        go_wp2
        go_roundw
        case rel => exact ⟨k + 1, ad1, cc1, by omega, by go_num, rfl, H3.out, H4.out, d0, d2⟩
        case measure => simp [intOf]; omega
    · obtain rfl : k = 16 := by omega
      go_wp2
      go_ret
      exact ⟨ad, cc, rfl, hown.mono (by omega), hb⟩
set_option maxHeartbeats 2000000 in
theorem impl.BlockAt_8 (X Y U V : Nat) (a : Option Addr) (c : Nat) (l : List Int) (w : World) (hX : X ≤ 32) (hY : Y ≤ 32) (hl : l.length = X * Y) (hU : U + 8 ≤ X) (hV : V + 8 ≤ Y) (hr : Row w a l)
    (hS : ∀ t, Calls Try.prog 62 #[frv X Y a l.length c, .int .i64 U, .int .i64 V, .int .i64 8] (w.alloc (.cells #[.int .i64 X, .int .i64 Y, .slice a l.length c] t)) fun e w' => e = .returned (.bool true) ∧ Below (w.heap.size + 1) (w.alloc (.cells #[.int .i64 X, .int .i64 Y, .slice a l.length c] t)) w') :
    Calls Try.prog 33 #[frv X Y a l.length c, .int .i64 U, .int .i64 V, .int .i64 8] w fun e w' => ∃ b d, e = .returned (.slice b 64 d) ∧ Own w.heap.size w' b d (tab (blkAt X l U V 8) 64) ∧ Below w.heap.size w w' := by
  have hpos : 0 < l.length := by rw [hl]; exact Nat.mul_pos (by omega) (by omega)
  obtain ⟨b, off, rfl, hbk, hc⟩ := hr.inside hpos
  have hbk2 : b < w.heap.size + 1 := by omega
  have hlb : l.length ≤ 1024 := by rw [hl]; exact Nat.mul_le_mul hX hY
  have hrow : ∀ r s, s = r * X → r < Y → s + X ≤ l.length := by
    intro r s hs hlt
    have h1 : (r + 1) * X ≤ Y * X := Nat.mul_le_mul_right X hlt
    rw [Nat.add_mul, Nat.one_mul, Nat.mul_comm Y X, ← hl, ← hs] at h1
    exact h1
  have HRow := Lib.hid hrow
  have HC := Lib.hid hc
  have HSz := Lib.hid hS
  have HFin : Hid (∀ t, ∀ w1, Below (w.heap.size + 1) (w.alloc (.cells #[.int .i64 X, .int .i64 Y, .slice (some ⟨b, off, none⟩) l.length c] t)) w1 → Below w.heap.size w w1 ∧ w.heap.size + 1 ≤ w1.heap.size) := Lib.hid (fun t w1 hb => ⟨((Below.refl w.heap.size w).alloc (Nat.le_refl _) _).trans (hb.mono (by omega)), by have := hb.size; simpa using this⟩)
  clear hl hr hc hS hrow hpos
  go_enter Try.func33, Try.ntmps33
  go_wp2_with fail
  refine (HSz.out _).mono ?_
  rintro e w1 ⟨rfl, hb⟩
  have c0 : w1.cell? ⟨w.heap.size, 0, none⟩ = some (.int .i64 X) := (bcell hb _ _ (by omega)).trans (by simp)
  have c2 : w1.cell? ⟨w.heap.size, 2, none⟩ = some (.slice (some ⟨b, off, none⟩) l.length c) := (bcell hb _ _ (by omega)).trans (by simp)
  obtain ⟨hb0, hsz0⟩ := HFin.out _ _ hb
  have H0 := Lib.hid hb0
  clear hb hb0 HSz
  go_wp2
  go_loopw [9, 21] (fun o i wr => ∃ (k : Nat) (ad : Option Addr) (cc : Nat), k ≤ 64 ∧ i = .int .i64 k ∧ o = .slice ad k cc ∧ Own (w.heap.size + 1) wr ad cc (tab (blkAt X l U V 8) k) ∧ Below w.heap.size w wr ∧ wr.cell? ⟨w.heap.size, 0, none⟩ = some (.int .i64 X) ∧ wr.cell? ⟨w.heap.size, 2, none⟩ = some (.slice (some ⟨b, off, none⟩) l.length c)) (fun _ i _ => 64 - (intOf i).toNat)
  case atStart => exact ⟨0, _, _, Nat.zero_le _, rfl, rfl, Own.lit _ _ [] rfl hsz0 (by simp [maxLen]), H0.out.alloc H0.out.size _, (bcell ((Below.refl w1.heap.size w1).alloc (Nat.le_refl _) _) _ _ hsz0).trans c0, (bcell ((Below.refl w1.heap.size w1).alloc (Nat.le_refl _) _) _ _ hsz0).trans c2⟩
  case round =>
    clear c0 c2 H0
    obtain ⟨k, ad, cc, hk, rfl, rfl, hown, hb, c0, c2⟩ := hrel
    by_cases hlt : k < 64
    · obtain ⟨p, hp⟩ : ∃ p, p = k % 8 := ⟨_, rfl⟩
      obtain ⟨q, hq⟩ : ∃ q, q = k / 8 := ⟨_, rfl⟩
      obtain ⟨r, hr⟩ : ∃ r, r = V + q := ⟨_, rfl⟩
      obtain ⟨s, hs⟩ : ∃ s, s = r * X := ⟨_, rfl⟩
      obtain ⟨t, ht⟩ : ∃ t, t = s + U := ⟨_, rfl⟩
      obtain ⟨j, hj⟩ : ∃ j, j = t + p := ⟨_, rfl⟩
      have hsX := HRow.out r s hs (by omega)
      have hjl : j < l.length := by omega
      have hsI : (r : Int) * (X : Int) = (s : Int) := by rw [hs]; exact (Int.natCast_mul r X).symm
      have e1 : (k : Int).tmod 8 = (p : Int) := by rw [Int.tmod_eq_emod_of_nonneg (by omega)]; omega
      have e3 : IntKind.i64.wrap ((k : Int).tdiv 8) = (q : Int) := by rw [Int.tdiv_eq_ediv_of_nonneg (by omega), IntWalk.i64_in _ (by omega)]; omega
      have e5 : (k : Int) % 8 = (p : Int) := by omega
      have e6 : (k : Int) / 8 = (q : Int) := by omega
      have e7 : IntKind.i64.wrap ((p : Int)) = (p : Int) := IntWalk.i64_in _ (by omega)
      have e8 : IntKind.i64.wrap ((q : Int)) = (q : Int) := IntWalk.i64_in _ (by omega)
      have e9 : IntKind.i64.wrap ((V : Int) + (q : Int)) = (r : Int) := by rw [IntWalk.i64_in _ (by omega)]; omega
      have ea : IntKind.i64.wrap ((r : Int) * (X : Int)) = (s : Int) := by rw [hsI, IntWalk.i64_in _ (by omega)]
      have eb : IntKind.i64.wrap ((s : Int) + (U : Int)) = (t : Int) := by rw [IntWalk.i64_in _ (by omega)]; omega
      have e4 : IntKind.i64.wrap ((t : Int) + (p : Int)) = (j : Int) := by rw [IntWalk.i64_in _ (by omega)]; omega
      have z1 : (j : Int) < (l.length : Int) := by omega
      have cj := (bcell hb b (off + j) hbk).trans (HC.out j hjl)
      have HY : Hid (blkAt X l U V 8 k = l.getD j 0) := by show blkAt X l U V 8 k = _; rw [blkAt, hj, ht, hs, hr, hp, hq]
      generalize l.getD j 0 = x at *
      have H1 := Lib.hid hown
      have H2 := Lib.hid hb
      have hsz : w.heap.size + 1 ≤ wr.heap.size := World.block_lt_of_cell? wr _ c0
      clear hown hb hp hq hr hs ht hj hsX hjl hsI
      go_wp2_with fail
      go_region_held3 (fun w' => w'.cell? ⟨b, off + j, none⟩ = some (.int .i64 x) ∧ w'.cell? ⟨w.heap.size, 0, none⟩ = some (.int .i64 X) ∧ w'.cell? ⟨w.heap.size, 2, none⟩ = some (.slice (some ⟨b, off, none⟩) l.length c)) (first | go_keep)
        ((first
          | (refine step_append_one Try.underlying24 Try.infoInt rfl (.tmp 24) (.tmp 43) rfl (w.heap.size + 1) ad cc k (tab (blkAt X l U V 8) k) (tab_len _ _) rfl ((H1.out.alloc _).drew) wr.heap.size x rfl ?_ ?_ ?_ ?_
             · simp
             · omega
             · simp; omega
             intro ad1 cc1 w1 hown1 hb1
             have hcw := bcell hb1
             have hcj := hcw b (off + j) hbk2)))
      all_goals
        rw [← HY.out, ← tab_succ] at hown1
        have H3 := Lib.hid hown1
        have H4 : Hid (Below w.heap.size w w1) := ((H2.out.alloc H2.out.size _).drew).trans (hb1.mono (by omega))
        have d0 : w1.cell? ⟨w.heap.size, 0, none⟩ = some (.int .i64 X) := (hcw _ _ (by omega)).trans ((bcell ((Below.refl wr.heap.size wr).alloc (Nat.le_refl _) _).drew _ _ hsz).trans c0)
        have d2 : w1.cell? ⟨w.heap.size, 2, none⟩ = some (.slice (some ⟨b, off, none⟩) l.length c) := (hcw _ _ (by omega)).trans ((bcell ((Below.refl wr.heap.size wr).alloc (Nat.le_refl _) _).drew _ _ hsz).trans c2)
        clear hown1 hb1 hcw e1 e3 e4 e5 e6 e7 e8 e9 ea eb
        go_wp2
        go_roundw
        case rel => exact ⟨k + 1, ad1, cc1, by omega, by go_num, rfl, H3.out, H4.out, d0, d2⟩
        case measure => simp [intOf]; omega
    · obtain rfl : k = 64 := by omega
      go_wp2
      go_ret
      exact ⟨ad, cc, rfl, hown.mono (by omega), hb⟩








































































































































































end Go.Proofs.Ytkfjbnhihjnhnaa
