/- Contracts: the transforms by sums and differences. -/
import Derived.Test.YtchabkkpdafkiaaMat2
namespace Go.Proofs.Ytchabkkpdafkiaa
open Go.RowKit
set_option linter.unusedVariables false

theorem Row.part {w : World} {b off : Nat} {l : List Int} {t n : Nat} (h : Row w (some ⟨b, off, none⟩) l) (ht : t + n ≤ l.length) (hn : 0 < n) :
    Row w (some ⟨b, off + t, none⟩) (tab (fun i => l.getD (t + i) 0) n) := by
  refine .inr ⟨b, off + t, rfl, fun i hi => ?_⟩
  rw [tab_len] at hi
  rw [tab_getD _ _ _ hi, Nat.add_assoc]
  obtain ⟨b1, off1, e, hc⟩ := h.all (by omega)
  cases e
  exact hc (t + i) (by omega)
theorem rowsL_step {R : List (List Int)} {l : List Int} {n y t : Nat} (ht : t = y * n) (g : Nat → Int) (hg : g = fun j => rowAt (ent R) l n (j / n) (j % n)) :
    liftR R n (tab (fun i => l.getD (t + i) 0) n) = tab (fun i => g (t + i)) n := by
  unfold liftR
  apply tab_congr
  intro k hk
  rw [hg]
  show _ = rowAt (ent R) l n ((t + k) / n) ((t + k) % n)
  rw [ht, sq_div hk, sq_mod hk]
  unfold rowAt
  apply sumN_congr
  intro j hj
  rw [Nat.zero_mul, Nat.zero_add, tab_getD _ _ _ hj]
theorem tab_mem {f : Nat → Int} {n : Nat} {x : Int} (h : x ∈ tab f n) : ∃ i, i < n ∧ x = f i := by
  simp [tab] at h
  obtain ⟨i, h1, h2⟩ := h
  exact ⟨i, h1, h2.symm⟩

set_option maxHeartbeats 1000000 in
theorem spec.l12Fits_c (n : Nat) (a : Option Addr) (c : Nat) (l : List Int) (w : World) (hn : n ≤ 8) (hl : l.length ≤ 1099511627776) (hr : Row w a l) :
    Calls Try.prog 43 #[.slice a l.length c, .int .i64 n] w fun e w' => e = .returned (.bool (fitsM n l)) ∧ w = w' := by
  have hnn : n * n ≤ 64 := Nat.mul_le_mul hn hn
  obtain ⟨m, hm⟩ : ∃ m, m = n * n := ⟨_, rfl⟩
  have hmm : IntKind.i64.wrap ((n : Int) * (n : Int)) = (m : Int) := by rw [hm, IntWalk.i64_in _ (by rw [← Int.natCast_mul]; omega)]; exact (Int.natCast_mul n n).symm
  have HM := Lib.hid hm
  clear hm hnn
  go_enter Try.func43, Try.ntmps43
  go_wp2
  go_loop [5] (fun i => ∃ k : Nat, k ≤ l.length ∧ i = .int .i64 k ∧ ∀ j, j < k → inR (-1000000000) 1000000000 (l.getD j 0) = true) (fun i => l.length - (intOf i).toNat)
  case atStart => exact ⟨0, Nat.zero_le _, rfl, fun j h => absurd h (by omega)⟩
  case round =>
    obtain ⟨k, hk, rfl, hall⟩ := hrel
    have HA := Lib.hid hall
    clear hall
    by_cases hlt : k < l.length
    · obtain ⟨b, off, rfl, hcell⟩ := hr.at_ hlt
      obtain ⟨x, hx⟩ : ∃ x, x = l.getD k 0 := ⟨_, rfl⟩
      rw [← hx] at hcell
      have HX := Lib.hid hx
      clear hx hr
      cases hin : inR (-1000000000) 1000000000 x
      · go_wp2_with (go_at_call 52; refine (l1In_c _ _ _ _).mono ?_; rintro e w' ⟨rfl, rfl⟩)
        go_ret
        exact ⟨ret_bool (by rw [fitsM, allR_not hlt (by rw [← HX.out]; exact hin)]; simp), rfl⟩
      · go_wp2_with (go_at_call 52; refine (l1In_c _ _ _ _).mono ?_; rintro e w' ⟨rfl, rfl⟩)
        go_round
        case rel => exact ⟨k + 1, by omega, by go_num, fun j hj => by
          by_cases h : j < k
          · exact HA.out j h
          · obtain rfl : j = k := by omega
            rw [← HX.out]; exact hin⟩
        case measure => simp [intOf]; omega
    · obtain rfl : k = l.length := by omega
      have he : ((l.length : Int) == (m : Int)) = decide (l.length = n * n) := by
        rw [← HM.out]
        by_cases h : l.length = m
        · simp [h]
        · have h2 : ¬ ((l.length : Int) = (m : Int)) := by omega
          simp [h, h2]
      have HE := Lib.hid he
      clear he
      go_wp2
      go_ret
      exact ⟨ret_bool (by rw [HE.out, fitsM, allR_mk HA.out, Bool.and_true]), rfl⟩


set_option maxHeartbeats 1000000 in
theorem spec.l13Rows_4 (a : Option Addr) (c : Nat) (l : List Int) (w : World) (hl : l.length = 16) (hcap : 16 ≤ c) (hr : Row w a l) (hb : ∀ i, i < 16 → -1000000000000 ≤ l.getD i 0 ∧ l.getD i 0 ≤ 1000000000000) :
    Calls Try.prog 45 #[.slice a 16 c, .int .i64 4] w fun e w' => ∃ b d, e = .returned (.slice b 16 d) ∧ Own w.heap.size w' b d (rowsL (ent rowsA) l 4) ∧ Below w.heap.size w w' := by
  obtain ⟨b, off, rfl, hbk, _⟩ := hr.inside (by omega)
  obtain ⟨g, hg⟩ : ∃ g : Nat → Int, g = fun j => rowAt (ent rowsA) l 4 (j / 4) (j % 4) := ⟨_, rfl⟩
  have HEND : Hid (rowsL (ent rowsA) l 4 = tab g 16) := Lib.hid (by rw [hg]; rfl)
  have HLC : Hid (∀ (y t c1 : Nat) w0, t = y * 4 → y < 4 → Below w.heap.size w w0 → Calls Try.prog 54 #[.slice (some ⟨b, off + t, none⟩) 4 c1] w0 fun e w' => ∃ b d, e = .returned (.slice b 4 d) ∧ Own w0.heap.size w' b d (tab (fun i => g (t + i)) 4) ∧ Below w0.heap.size w0 w') := Lib.hid (fun y t c1 w0 ht hy hbw => by
    have hrow : Row w0 (some ⟨b, off + t, none⟩) (tab (fun i => l.getD (t + i) 0) 4) := (hr.below hbw (Nat.le_refl _)).part (by omega) (by omega)
    have hbd : ∀ i, i < 4 → -1000000000000 ≤ (tab (fun i => l.getD (t + i) 0) 4).getD i 0 ∧ (tab (fun i => l.getD (t + i) 0) 4).getD i 0 ≤ 1000000000000 := fun i hi => by rw [tab_getD _ _ _ hi]; exact hb _ (by omega)
    have h := spec.Lift4_c (some ⟨b, off + t, none⟩) c1 (tab (fun i => l.getD (t + i) 0) 4) w0 (by rw [tab_len]; omega) hrow (fun x hx => by
      obtain ⟨i, hi, rfl⟩ := tab_mem hx
      have := hb (t + i) (by omega)
      omega)
    rw [lift4_row (tab_len _ _) hbd, rowsL_step ht g hg, tab_len, tab_len] at h
    exact h)
  rw [HEND.out]
  clear HEND hg hr hb hl
  go_enter Try.func45, Try.ntmps45
  go_wp2
  go_loopw [5, 6] (fun o i wr => ∃ (y t : Nat) (ad : Option Addr) (cc : Nat), y ≤ 4 ∧ t = y * 4 ∧ i = .int .i64 y ∧ o = .slice ad t cc ∧ Own w.heap.size wr ad cc (tab g t) ∧ Below w.heap.size w wr) (fun _ i _ => 4 - (intOf i).toNat)
  case atStart => exact ⟨0, 0, _, _, Nat.zero_le _, rfl, rfl, rfl, Own.lit _ _ [] rfl (Nat.le_refl _) (by simp [maxLen]), (Below.refl _ _).alloc (Nat.le_refl _) _⟩
  case round =>
    obtain ⟨y, t, ad, cc, hy, ht, rfl, rfl, ho, hbw⟩ := hrel
    have HO := Lib.hid ho
    have HB := Lib.hid hbw
    clear ho hbw
    by_cases hlt : y < 4
    · have e1 : IntKind.i64.wrap ((y : Int) * 4) = (t : Int) := by rw [IntWalk.i64_in _ (by omega)]; omega
      obtain ⟨u, hu⟩ : ∃ u, u = t + 4 := ⟨_, rfl⟩
      have e2 : IntKind.i64.wrap ((t : Int) + 4) = (u : Int) := by rw [IntWalk.i64_in _ (by omega)]; omega
      have z1 : (u : Int) ≤ (c : Int) := by omega
      have z2 : (t : Int) ≤ (u : Int) := by omega
      have z3 : u - t = 4 := by omega
      have HT := Lib.hid ht
      have htM : t + 4 ≤ 16 := by omega
      clear ht
      go_wp2_with fail
      refine (HLC.out y t (c - t) wr HT.out hlt HB.out).mono ?_
      rintro e w1 ⟨bq, dq, rfl, hoq, hbq⟩
      obtain ⟨gq, rfl, _⟩ := hoq.at_ (i := 0) (by rw [tab_len]; omega)
      have HO1 := Lib.hid (HO.out.below hbq (Nat.le_refl _))
      have HB1 : Hid (Below w.heap.size w w1) := Lib.hid (HB.out.trans (hbq.mono HB.out.size))
      have HQ := Lib.hid hoq.row
      clear hoq hbq
      go_wp2_with (at_builtin; refine append_many Try.underlying22 Try.infoInt rfl (.tmp 15) (.tmp 26) rfl w.heap.size ad cc t (tab g t) (tab_len _ _) rfl HO1.out ⟨gq, 0, none⟩ 4 dq (tab (fun i => g (t + i)) 4) (tab_len _ _) rfl HQ.out ?_ ?_ ?_; (omega); (exact HB1.out.size); intro ad1 cc1 w2 ho2 hb2)
      rw [tab_append] at ho2
      have HO2 := Lib.hid ho2
      have HB2 : Hid (Below w.heap.size w w2) := Lib.hid (HB1.out.trans hb2)
      clear ho2 hb2
      go_wp2
      go_roundw
      case rel => exact ⟨y + 1, t + 4, ad1, cc1, by omega, by rw [HT.out]; omega, by go_num, rfl, HO2.out, HB2.out⟩
      case measure => simp [intOf]; omega
    · obtain rfl : y = 4 := by omega
      obtain rfl : t = 16 := by omega
      go_wp2
      go_ret
      exact ⟨ad, cc, rfl, HO.out, HB.out⟩
set_option maxHeartbeats 1000000 in
theorem spec.l13Rows_8 (a : Option Addr) (c : Nat) (l : List Int) (w : World) (hl : l.length = 64) (hcap : 64 ≤ c) (hr : Row w a l) (hb : ∀ i, i < 64 → -1000000000000 ≤ l.getD i 0 ∧ l.getD i 0 ≤ 1000000000000) :
    Calls Try.prog 45 #[.slice a 64 c, .int .i64 8] w fun e w' => ∃ b d, e = .returned (.slice b 64 d) ∧ Own w.heap.size w' b d (rowsL (ent rowsH) l 8) ∧ Below w.heap.size w w' := by
  obtain ⟨b, off, rfl, hbk, _⟩ := hr.inside (by omega)
  obtain ⟨g, hg⟩ : ∃ g : Nat → Int, g = fun j => rowAt (ent rowsH) l 8 (j / 8) (j % 8) := ⟨_, rfl⟩
  have HEND : Hid (rowsL (ent rowsH) l 8 = tab g 64) := Lib.hid (by rw [hg]; rfl)
  have HLC : Hid (∀ (y t c1 : Nat) w0, t = y * 8 → y < 8 → Below w.heap.size w w0 → Calls Try.prog 55 #[.slice (some ⟨b, off + t, none⟩) 8 c1] w0 fun e w' => ∃ b d, e = .returned (.slice b 8 d) ∧ Own w0.heap.size w' b d (tab (fun i => g (t + i)) 8) ∧ Below w0.heap.size w0 w') := Lib.hid (fun y t c1 w0 ht hy hbw => by
    have hrow : Row w0 (some ⟨b, off + t, none⟩) (tab (fun i => l.getD (t + i) 0) 8) := (hr.below hbw (Nat.le_refl _)).part (by omega) (by omega)
    have hbd : ∀ i, i < 8 → -1000000000000 ≤ (tab (fun i => l.getD (t + i) 0) 8).getD i 0 ∧ (tab (fun i => l.getD (t + i) 0) 8).getD i 0 ≤ 1000000000000 := fun i hi => by rw [tab_getD _ _ _ hi]; exact hb _ (by omega)
    have h := spec.Lift8_c (some ⟨b, off + t, none⟩) c1 (tab (fun i => l.getD (t + i) 0) 8) w0 (by rw [tab_len]; omega) hrow (fun x hx => by
      obtain ⟨i, hi, rfl⟩ := tab_mem hx
      have := hb (t + i) (by omega)
      omega)
    rw [lift8_row (tab_len _ _) hbd, rowsL_step ht g hg, tab_len, tab_len] at h
    exact h)
  rw [HEND.out]
  clear HEND hg hr hb hl
  go_enter Try.func45, Try.ntmps45
  go_wp2
  go_loopw [5, 6] (fun o i wr => ∃ (y t : Nat) (ad : Option Addr) (cc : Nat), y ≤ 8 ∧ t = y * 8 ∧ i = .int .i64 y ∧ o = .slice ad t cc ∧ Own w.heap.size wr ad cc (tab g t) ∧ Below w.heap.size w wr) (fun _ i _ => 8 - (intOf i).toNat)
  case atStart => exact ⟨0, 0, _, _, Nat.zero_le _, rfl, rfl, rfl, Own.lit _ _ [] rfl (Nat.le_refl _) (by simp [maxLen]), (Below.refl _ _).alloc (Nat.le_refl _) _⟩
  case round =>
    obtain ⟨y, t, ad, cc, hy, ht, rfl, rfl, ho, hbw⟩ := hrel
    have HO := Lib.hid ho
    have HB := Lib.hid hbw
    clear ho hbw
    by_cases hlt : y < 8
    · have e1 : IntKind.i64.wrap ((y : Int) * 8) = (t : Int) := by rw [IntWalk.i64_in _ (by omega)]; omega
      obtain ⟨u, hu⟩ : ∃ u, u = t + 8 := ⟨_, rfl⟩
      have e2 : IntKind.i64.wrap ((t : Int) + 8) = (u : Int) := by rw [IntWalk.i64_in _ (by omega)]; omega
      have z1 : (u : Int) ≤ (c : Int) := by omega
      have z2 : (t : Int) ≤ (u : Int) := by omega
      have z3 : u - t = 8 := by omega
      have HT := Lib.hid ht
      have htM : t + 8 ≤ 64 := by omega
      clear ht
      go_wp2_with fail
      refine (HLC.out y t (c - t) wr HT.out hlt HB.out).mono ?_
      rintro e w1 ⟨bq, dq, rfl, hoq, hbq⟩
      obtain ⟨gq, rfl, _⟩ := hoq.at_ (i := 0) (by rw [tab_len]; omega)
      have HO1 := Lib.hid (HO.out.below hbq (Nat.le_refl _))
      have HB1 : Hid (Below w.heap.size w w1) := Lib.hid (HB.out.trans (hbq.mono HB.out.size))
      have HQ := Lib.hid hoq.row
      clear hoq hbq
      go_wp2_with (at_builtin; refine append_many Try.underlying22 Try.infoInt rfl (.tmp 28) (.tmp 39) rfl w.heap.size ad cc t (tab g t) (tab_len _ _) rfl HO1.out ⟨gq, 0, none⟩ 8 dq (tab (fun i => g (t + i)) 8) (tab_len _ _) rfl HQ.out ?_ ?_ ?_; (omega); (exact HB1.out.size); intro ad1 cc1 w2 ho2 hb2)
      rw [tab_append] at ho2
      have HO2 := Lib.hid ho2
      have HB2 : Hid (Below w.heap.size w w2) := Lib.hid (HB1.out.trans hb2)
      clear ho2 hb2
      go_wp2
      go_roundw
      case rel => exact ⟨y + 1, t + 8, ad1, cc1, by omega, by rw [HT.out]; omega, by go_num, rfl, HO2.out, HB2.out⟩
      case measure => simp [intOf]; omega
    · obtain rfl : y = 8 := by omega
      obtain rfl : t = 64 := by omega
      go_wp2
      go_ret
      exact ⟨ad, cc, rfl, HO.out, HB.out⟩

end Go.Proofs.Ytchabkkpdafkiaa
