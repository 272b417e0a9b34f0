/- Contracts of the sums of a prediction and a residual. -/
import Derived.Test.YtbdggcefgiehkaaClip
import Derived.Test.YtbdggcefgiehkaaList
namespace Go.Proofs.Ytbdggcefgiehkaa
open Go.RowKit
set_option linter.unusedVariables false

theorem clip_if_m (m : Int) (hm : 0 ≤ m) : ∀ v : Int, max (-m) (min m v) = clipF (-m) m v := by intro v; unfold clipF; omega
def cadAt (p r : List Int) (i : Nat) : Int := clipF 0 255 (p.getD i 0 + clipF (-1023) 1023 (r.getD i 0))
def cadOk (p r : List Int) : Bool := decide (p.length = 4) && (decide (r.length = 4) && allR 0 255 p)
def cadF (p r : List Int) : List Int := if cadOk p r then tab (cadAt p r) 4 else []
theorem cadF_len (p r : List Int) : (cadF p r).length ≤ 1048576 := by
  unfold cadF
  split
  · rw [tab_len]; omega
  · simp


set_option maxHeartbeats 1000000 in
theorem impl.ClipAdd4_c (a : Option Addr) (c : Nat) (p : List Int) (a2 : Option Addr) (c2 : Nat) (r : List Int) (w : World) (hp : p.length ≤ 1099511627776) (hrp : Row w a p) (hwp : ∀ x ∈ p, -9223372036854775808 ≤ x ∧ x ≤ 9223372036854775807)
    (hr : r.length ≤ 1099511627776) (hrr : Row w a2 r) (hwr : ∀ x ∈ r, -9223372036854775808 ≤ x ∧ x ≤ 9223372036854775807) :
    Calls Try.prog 38 #[.slice a p.length c, .slice a2 r.length c2] w fun e w' => ∃ b d, e = .returned (.slice b (cadF p r).length d) ∧ Own w.heap.size w' b d (cadF p r) ∧ Below w.heap.size w w' := by
  clear hwp hwr
  by_cases h4 : p.length = 4
  · by_cases h5 : r.length = 4
    · have hcall := impl.allWithin_c a c p 0 255 w (by omega) hrp
      cases hall : allR 0 255 p
      · have hf : cadF p r = [] := by simp [cadF, cadOk, hall]
        rw [hf]
        rw [hall] at hcall
        rw [h4] at hcall ⊢
        rw [h5]
        have HC := Lib.hid hcall
        clear hcall hf h4 h5 hp hr
        go_enter Try.func38, Try.ntmps38
        go_wp2_with (go_at_call 50; refine HC.out.mono ?_; rintro e w' ⟨rfl, rfl⟩)
        go_ret
        exact ⟨_, _, rfl, Own.none_ _ _, Below.refl _ _⟩
      · have hf : cadF p r = tab (cadAt p r) 4 := by simp [cadF, cadOk, hall, h4, h5]
        obtain ⟨b, off, rfl, hbk, hc⟩ := hrp.inside (by omega)
        obtain ⟨b2, off2, rfl, hbk2, hc2⟩ := hrr.inside (by omega)
        rw [h4] at hc
        rw [h5] at hc2
        have HP : Hid (∀ i, i < 4 → 0 ≤ p.getD i 0 ∧ p.getD i 0 ≤ 255) := fun i hi => allR_at hall (by omega)
        have HCe := Lib.hid hc
        have HCe2 := Lib.hid hc2
        rw [hall] at hcall
        rw [h4] at hcall ⊢
        rw [h5]
        have HC := Lib.hid hcall
        have HF := Lib.hid hf
        clear hcall hf h4 h5 hp hr hrp hrr hall hc hc2
        go_enter Try.func38, Try.ntmps38
        go_wp2_with (go_at_call 50; refine HC.out.mono ?_; rintro e w' ⟨rfl, rfl⟩)
        clear HC
        go_loopw [5, 24] (fun o i wr => ∃ (k : Nat) (ad : Option Addr) (cc : Nat), k ≤ 4 ∧ i = .int .i64 k ∧ o = .slice ad k cc ∧ Own w.heap.size wr ad cc (tab (cadAt p r) k) ∧ Below w.heap.size w wr) (fun _ i _ => 4 - (intOf i).toNat)
        case atStart => exact ⟨0, _, _, Nat.zero_le _, rfl, rfl, Own.lit _ _ [] rfl (Nat.le_refl _) (by simp [maxLen]), (Below.refl _ _).alloc (Nat.le_refl _) _⟩
        case round =>
          obtain ⟨k, ad, cc, hk, rfl, rfl, hown, hb⟩ := hrel
          by_cases hlt : k < 4
          · have c0 := (bcell hb b (off + k) hbk).trans (HCe.out k hlt)
            have c1 := (bcell hb b2 (off2 + k) hbk2).trans (HCe2.out k hlt)
            have hp0 := HP.out k hlt
            have HY : Hid (cadAt p r k = clipF 0 255 (p.getD k 0 + clipF (-1023) 1023 (r.getD k 0))) := rfl
            generalize p.getD k 0 = x at *
            generalize r.getD k 0 = y at *
            have hcy := clipF_bd (-1023) 1023 y (by omega)
            have H1 := Lib.hid hown
            have H2 := Lib.hid hb
            clear hown hb
            have hsz := H2.out.size
            obtain ⟨hp0a, hp0b⟩ := hp0
            obtain ⟨hcya, hcyb⟩ := hcy
            go_wp2_with (first
              | (go_at_call 58; refine (impl.limited_c _ _ _ _).mono ?_; rintro e w' ⟨rfl, rfl⟩)
              | (at_builtin; refine append_one Try.underlying25 Try.infoInt rfl (.tmp 29) (.tmp 38) rfl w.heap.size ad cc k (tab (cadAt p r) k) (tab_len _ _) rfl (H1.out.alloc _) wr.heap.size (clipF 0 255 (x + clipF (-1023) 1023 y)) rfl ?_ ?_ ?_ ?_; (simp); (omega); (simp; omega); intro ad1 cc1 w1 hown1 hb1))
            rw [← HY.out, ← tab_succ] at hown1
            have H3 := Lib.hid hown1
            have H4 : Hid (Below w.heap.size w w1) := (H2.out.alloc H2.out.size _).trans hb1
            clear hown1 hb1
            go_wp2
            go_roundw
            case rel => exact ⟨k + 1, ad1, cc1, by omega, by go_num, rfl, H3.out, H4.out⟩
            case measure => simp [intOf]; omega
          · obtain rfl : k = 4 := by omega
            go_wp2
            go_ret
            rw [HF.out]
            exact ⟨ad, cc, rfl, hown, hb⟩
    · have hf : cadF p r = [] := by simp [cadF, cadOk, h5]
      rw [hf, h4]
      have hne : ((r.length : Int) != 4) = true := by simp; omega
      clear hf h5 h4
      go_enter Try.func38, Try.ntmps38
      go_wp2
      go_ret
      exact ⟨_, _, rfl, Own.none_ _ _, Below.refl _ _⟩
  · have hf : cadF p r = [] := by simp [cadF, cadOk, h4]
    rw [hf]
    have hne : ((p.length : Int) != 4) = true := by simp; omega
    clear hf h4
    go_enter Try.func38, Try.ntmps38
    go_wp2
    go_ret
    exact ⟨_, _, rfl, Own.none_ _ _, Below.refl _ _⟩


set_option maxHeartbeats 1000000 in
theorem spec.ClipAdd4_c (a : Option Addr) (c : Nat) (p : List Int) (a2 : Option Addr) (c2 : Nat) (r : List Int) (w : World) (hp : p.length ≤ 1099511627776) (hrp : Row w a p) (hwp : ∀ x ∈ p, -9223372036854775808 ≤ x ∧ x ≤ 9223372036854775807)
    (hr : r.length ≤ 1099511627776) (hrr : Row w a2 r) (hwr : ∀ x ∈ r, -9223372036854775808 ≤ x ∧ x ≤ 9223372036854775807) :
    Calls Try.prog 39 #[.slice a p.length c, .slice a2 r.length c2] w fun e w' => ∃ b d, e = .returned (.slice b (cadF p r).length d) ∧ Own w.heap.size w' b d (cadF p r) ∧ Below w.heap.size w w' := by
  clear hwp hwr
  by_cases h4 : p.length = 4
  · by_cases h5 : r.length = 4
    · have hcall := spec.l14Pix_c a c p w (by omega) hrp
      cases hall : allR 0 255 p
      · have hf : cadF p r = [] := by simp [cadF, cadOk, hall]
        rw [hf]
        rw [hall] at hcall
        rw [h4] at hcall ⊢
        rw [h5]
        have HC := Lib.hid hcall
        clear hcall hf h4 h5 hp hr
        go_enter Try.func39, Try.ntmps39
        go_wp2_with (go_at_call 66; refine HC.out.mono ?_; rintro e w' ⟨rfl, rfl⟩)
        go_ret
        exact ⟨_, _, rfl, Own.lit _ _ [] rfl (Nat.le_refl _) (by simp [maxLen]), (Below.refl _ _).alloc (Nat.le_refl _) _⟩
      · have hf : cadF p r = tab (cadAt p r) 4 := by simp [cadF, cadOk, hall, h4, h5]
        obtain ⟨b, off, rfl, hbk, hc⟩ := hrp.inside (by omega)
        obtain ⟨b2, off2, rfl, hbk2, hc2⟩ := hrr.inside (by omega)
        rw [h4] at hc
        rw [h5] at hc2
        have HP : Hid (∀ i, i < 4 → 0 ≤ p.getD i 0 ∧ p.getD i 0 ≤ 255) := fun i hi => allR_at hall (by omega)
        have HCe := Lib.hid hc
        have HCe2 := Lib.hid hc2
        rw [hall] at hcall
        rw [h4] at hcall ⊢
        rw [h5]
        have HC := Lib.hid hcall
        have HF := Lib.hid hf
        clear hcall hf h4 h5 hp hr hrp hrr hall hc hc2
        go_enter Try.func39, Try.ntmps39
        go_wp2_with (go_at_call 66; refine HC.out.mono ?_; rintro e w' ⟨rfl, rfl⟩)
        clear HC
        go_loopw [5, 6] (fun o i wr => ∃ (k : Nat) (ad : Option Addr) (cc : Nat), k ≤ 4 ∧ i = .int .i64 k ∧ o = .slice ad k cc ∧ Own w.heap.size wr ad cc (tab (cadAt p r) k) ∧ Below w.heap.size w wr) (fun _ i _ => 4 - (intOf i).toNat)
        case atStart => exact ⟨0, _, _, Nat.zero_le _, rfl, rfl, Own.lit _ _ [] rfl (Nat.le_refl _) (by simp [maxLen]), (Below.refl _ _).alloc (Nat.le_refl _) _⟩
        case round =>
          obtain ⟨k, ad, cc, hk, rfl, rfl, hown, hb⟩ := hrel
          by_cases hlt : k < 4
          · have c0 := (bcell hb b (off + k) hbk).trans (HCe.out k hlt)
            have c1 := (bcell hb b2 (off2 + k) hbk2).trans (HCe2.out k hlt)
            have hp0 := HP.out k hlt
            have HY : Hid (cadAt p r k = clipF 0 255 (p.getD k 0 + clipF (-1023) 1023 (r.getD k 0))) := rfl
            generalize p.getD k 0 = x at *
            generalize r.getD k 0 = y at *
            have hcy := clipF_bd (-1023) 1023 y (by omega)
            have H1 := Lib.hid hown
            have H2 := Lib.hid hb
            clear hown hb
            have hsz := H2.out.size
            obtain ⟨hp0a, hp0b⟩ := hp0
            obtain ⟨hcya, hcyb⟩ := hcy
            have z1 : (k : Int) < 4 := by omega
            have z2 : IntKind.i64.wrap (x + clipF (-1023) 1023 y) = x + clipF (-1023) 1023 y := IntWalk.i64_in _ (by omega)
            have hmin := min_if
            have hmax := max_if
            have hclip := clip_if_m 1023 (by omega)
            go_wp2
            go_region_held3 (fun w' => w'.cell? ⟨b, off + k, none⟩ = some (.int .i64 x) ∧ w'.cell? ⟨b2, off2 + k, none⟩ = some (.int .i64 y)) (first | go_keep)
              ((first
                | (go_at_call 70; refine (spec.l15Clip_c _ _).mono ?_; rintro e w' ⟨rfl, rfl⟩)
                | (refine step_append_one Try.underlying25 Try.infoInt rfl (.tmp 26) (.tmp 39) rfl w.heap.size ad cc k (tab (cadAt p r) k) (tab_len _ _) rfl ((H1.out.alloc _).drew) wr.heap.size (clipF 0 255 (x + clipF (-1023) 1023 y)) rfl ?_ ?_ ?_ ?_
                   · simp
                   · omega
                   · simp; omega
                   intro ad1 cc1 w1 hown1 hb1
                   have hcw := bcell hb1)))
            all_goals
              rw [← HY.out, ← tab_succ] at hown1
              have H3 := Lib.hid hown1
              have H4 : Hid (Below w.heap.size w w1) := ((H2.out.alloc H2.out.size _).drew).trans hb1
              clear hown1 hb1 hcw
              go_wp2
              go_roundw
              case rel => exact ⟨k + 1, ad1, cc1, by omega, by go_num, rfl, H3.out, H4.out⟩
              case measure => simp [intOf]; omega
          · obtain rfl : k = 4 := by omega
            go_wp2
            go_ret
            rw [HF.out]
            exact ⟨ad, cc, rfl, hown, hb⟩
    · have hf : cadF p r = [] := by simp [cadF, cadOk, h5]
      rw [hf, h4]
      have hne : ((r.length : Int) != 4) = true := by simp; omega
      clear hf h5 h4
      go_enter Try.func39, Try.ntmps39
      go_wp2
      go_ret
      exact ⟨_, _, rfl, Own.lit _ _ [] rfl (Nat.le_refl _) (by simp [maxLen]), (Below.refl _ _).alloc (Nat.le_refl _) _⟩
  · have hf : cadF p r = [] := by simp [cadF, cadOk, h4]
    rw [hf]
    have hne : ((p.length : Int) != 4) = true := by simp; omega
    clear hf h4
    go_enter Try.func39, Try.ntmps39
    go_wp2
    go_ret
    exact ⟨_, _, rfl, Own.lit _ _ [] rfl (Nat.le_refl _) (by simp [maxLen]), (Below.refl _ _).alloc (Nat.le_refl _) _⟩

end Go.Proofs.Ytbdggcefgiehkaa
