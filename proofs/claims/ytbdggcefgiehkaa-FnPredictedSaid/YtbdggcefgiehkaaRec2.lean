/- Contracts of the reconstruction and the residual of a whole square. -/
import Derived.Test.YtbdggcefgiehkaaRecon
namespace Go.Proofs.Ytbdggcefgiehkaa
open Go.RowKit
set_option linter.unusedVariables false

def recAt (p r : List Int) (i : Nat) : Int := clipF 0 255 (p.getD i 0 + clipF (-1000000) 1000000 (r.getD i 0))
def twoB (p r : List Int) : Bool := decide (0 < sizeF p.length) && (decide (p.length = r.length) && allR 0 255 p)
def recF (p r : List Int) : List Int := if twoB p r then tab (recAt p r) p.length else []
theorem recF_len (p r : List Int) : (recF p r).length ≤ p.length := by
  unfold recF
  split
  · rw [tab_len]; exact Nat.le_refl _
  · simp
theorem twoB_true {p r : List Int} (h : twoB p r = true) : 0 < sizeF p.length ∧ p.length = r.length ∧ allR 0 255 p = true := by
  simpa [twoB] using h
theorem sizeF_pos {n : Nat} (h : 0 < sizeF n) : n = 16 ∨ n = 64 := by
  rcases sizeF_cases n with ⟨h1, _⟩ | ⟨h1, _⟩ | ⟨_, _, h1⟩ <;> omega


theorem spec.l19Two_c (a : Option Addr) (c : Nat) (p : List Int) (a2 : Option Addr) (c2 : Nat) (r : List Int) (w : World) (hp : p.length ≤ 1099511627776) (hrp : Row w a p) (hr : r.length ≤ 1099511627776) :
    Calls Try.prog 73 #[.slice a p.length c, .slice a2 r.length c2] w fun e w' => e = .returned (.bool (twoB p r)) ∧ w = w' := by
  cases h1 : decide (0 < sizeF p.length)
  · have hf : twoB p r = false := by rw [twoB, h1]; rfl
    have HF := Lib.hid hf
    clear hf
    go_enter Try.func73, Try.ntmps73
    go_wp2_with (go_at_call 78; refine (spec.l9Side_c _ _ _ _ hp).mono ?_; rintro e w' ⟨rfl, rfl⟩)
    go_ret
    exact ⟨ret_bool HF.out.symm, rfl⟩
  · cases h2 : decide (p.length = r.length)
    · have hf : twoB p r = false := by rw [twoB, h2]; simp
      have h3 : ((p.length : Int) == (r.length : Int)) = false := by simp at h2 ⊢; omega
      have HF := Lib.hid hf
      clear hf h2
      go_enter Try.func73, Try.ntmps73
      go_wp2_with (go_at_call 78; refine (spec.l9Side_c _ _ _ _ hp).mono ?_; rintro e w' ⟨rfl, rfl⟩)
      go_ret
      exact ⟨ret_bool HF.out.symm, rfl⟩
    · have hf : twoB p r = allR 0 255 p := by rw [twoB, h1, h2]; simp
      have h3 : ((p.length : Int) == (r.length : Int)) = true := by simp at h2 ⊢; omega
      have HF := Lib.hid hf
      clear hf h2
      go_enter Try.func73, Try.ntmps73
      go_wp2_with (first
        | (go_at_call 78; refine (spec.l9Side_c _ _ _ _ hp).mono ?_; rintro e w' ⟨rfl, rfl⟩)
        | (go_at_call 66; refine (spec.l14Pix_c _ _ _ _ (by omega) hrp).mono ?_; rintro e w' ⟨rfl, rfl⟩))
      go_ret
      exact ⟨ret_bool HF.out.symm, rfl⟩



set_option maxHeartbeats 1000000 in
theorem impl.Recon_c (a : Option Addr) (c : Nat) (p : List Int) (a2 : Option Addr) (c2 : Nat) (r : List Int) (w : World) (hp : p.length ≤ 1099511627776) (hrp : Row w a p) (hwp : ∀ x ∈ p, -9223372036854775808 ≤ x ∧ x ≤ 9223372036854775807)
    (hr : r.length ≤ 1099511627776) (hrr : Row w a2 r) (hwr : ∀ x ∈ r, -9223372036854775808 ≤ x ∧ x ≤ 9223372036854775807) :
    Calls Try.prog 41 #[.slice a p.length c, .slice a2 r.length c2] w fun e w' => ∃ b d, e = .returned (.slice b (recF p r).length d) ∧ Own w.heap.size w' b d (recF p r) ∧ Below w.heap.size w w' := by
  clear hwp hwr
  rcases sizeF_cases p.length with ⟨h4, hs⟩ | ⟨h4, hs⟩ | ⟨_, _, hs⟩
  case inr.inr =>
    have hf : recF p r = [] := by simp [recF, twoB, hs]
    rw [hf]
    have h0 : (sizeF p.length == 0) = true := by rw [hs]; rfl
    clear hf hs
    go_enter Try.func41, Try.ntmps41
    go_wp2_with (go_at_call 72; refine (impl.sizeOf_c _ _ hp).mono ?_; rintro e w' ⟨rfl, rfl⟩)
    go_ret
    exact ⟨_, _, rfl, Own.none_ _ _, Below.refl _ _⟩
  all_goals
    have h0 : (sizeF p.length == 0) = false := by rw [hs]; rfl
    have hpos : 0 < sizeF p.length := by omega
    clear hs
    by_cases h5 : r.length = p.length
    · have hne : ((r.length : Int) != (p.length : Int)) = false := by simp [h5]
      have hcall := impl.allWithin_c a c p 0 255 w (by omega) hrp
      cases hall : allR 0 255 p
      · have hf : recF p r = [] := by simp [recF, twoB, hall]
        rw [hf]
        rw [hall] at hcall
        have HC := Lib.hid hcall
        clear hcall hf h4 h5 hpos
        go_enter Try.func41, Try.ntmps41
        go_wp2_with (first
          | (go_at_call 72; refine (impl.sizeOf_c _ _ hp).mono ?_; rintro e w' ⟨rfl, rfl⟩)
          | (go_at_call 50; refine HC.out.mono ?_; rintro e w' ⟨rfl, rfl⟩))
        go_ret
        exact ⟨_, _, rfl, Own.none_ _ _, Below.refl _ _⟩
      · have hf : recF p r = tab (recAt p r) p.length := by
          have : twoB p r = true := by simp [twoB, hall, hpos, h5]
          rw [recF, this]; rfl
        obtain ⟨b, off, rfl, hbk, hc⟩ := hrp.inside (by omega)
        obtain ⟨b2, off2, rfl, hbk2, hc2⟩ := hrr.inside (by omega)
        have HP : Hid (∀ i, i < p.length → 0 ≤ p.getD i 0 ∧ p.getD i 0 ≤ 255) := fun i hi => allR_at hall hi
        have HCe := Lib.hid hc
        have HCe2 := Lib.hid hc2
        rw [hall] at hcall
        have HC := Lib.hid hcall
        have HF := Lib.hid hf
        have H5 := Lib.hid h5
        have h64 : p.length ≤ 64 := by omega
        have hr64 : r.length ≤ 64 := by omega
        have hr64' : p.length ≤ r.length := by omega
        clear hcall hf h4 h5 hpos hrp hrr hall hc hc2
        go_enter Try.func41, Try.ntmps41
        go_wp2_with (first
          | (go_at_call 72; refine (impl.sizeOf_c _ _ hp).mono ?_; rintro e w' ⟨rfl, rfl⟩)
          | (go_at_call 50; refine HC.out.mono ?_; rintro e w' ⟨rfl, rfl⟩))
        clear HC h0 hne
        go_loopw [5, 27] (fun o i wr => ∃ (k : Nat) (ad : Option Addr) (cc : Nat), k ≤ p.length ∧ i = .int .i64 k ∧ o = .slice ad k cc ∧ Own w.heap.size wr ad cc (tab (recAt p r) k) ∧ Below w.heap.size w wr) (fun _ i _ => p.length - (intOf i).toNat)
        case atStart => exact ⟨0, _, _, Nat.zero_le _, rfl, rfl, Own.lit _ _ [] rfl (Nat.le_refl _) (by simp [maxLen]), (Below.refl _ _).alloc (Nat.le_refl _) _⟩
        case round =>
          obtain ⟨k, ad, cc, hk, rfl, rfl, hown, hb⟩ := hrel
          by_cases hlt : k < p.length
          · have c0 := (bcell hb b (off + k) hbk).trans (HCe.out k hlt)
            have c1 := (bcell hb b2 (off2 + k) hbk2).trans (HCe2.out k (by omega))
            have hp0 := HP.out k hlt
            have HY : Hid (recAt p r k = clipF 0 255 (p.getD k 0 + clipF (-1000000) 1000000 (r.getD k 0))) := rfl
            generalize p.getD k 0 = x at *
            generalize r.getD k 0 = y at *
            have hcy := clipF_bd (-1000000) 1000000 y (by omega)
            have H1 := Lib.hid hown
            have H2 := Lib.hid hb
            clear hown hb
            have hsz := H2.out.size
            obtain ⟨hp0a, hp0b⟩ := hp0
            obtain ⟨hcya, hcyb⟩ := hcy
            go_wp2_with (first
              | (go_at_call 58; refine (impl.limited_c _ _ _ _).mono ?_; rintro e w' ⟨rfl, rfl⟩)
              | (at_builtin; refine append_one Try.underlying25 Try.infoInt rfl (.tmp 32) (.tmp 41) rfl w.heap.size ad cc k (tab (recAt p r) k) (tab_len _ _) rfl (H1.out.alloc _) wr.heap.size (clipF 0 255 (x + clipF (-1000000) 1000000 y)) rfl ?_ ?_ ?_ ?_; (simp); (omega); (simp; omega); intro ad1 cc1 w1 hown1 hb1))
            rw [← HY.out, ← tab_succ] at hown1
            have H3 := Lib.hid hown1
            have H4 : Hid (Below w.heap.size w w1) := (H2.out.alloc H2.out.size _).trans hb1
            clear hown1 hb1
            go_wp2
            go_roundw
            case rel => exact ⟨k + 1, ad1, cc1, by omega, by go_num, rfl, H3.out, H4.out⟩
            case measure => simp [intOf]; omega
          · have hkp : k = p.length := by omega
            have HK := Lib.hid hkp
            clear hkp
            go_wp2
            go_ret
            rw [HF.out]
            rw [HK.out] at hown
            exact ⟨ad, cc, ret_slice (by rw [tab_len]; exact HK.out), hown, hb⟩
    · have hf : recF p r = [] := by simp [recF, twoB, Ne.symm h5]
      rw [hf]
      have hne : ((r.length : Int) != (p.length : Int)) = true := by simp; omega
      clear hf h5 h4 hpos
      go_enter Try.func41, Try.ntmps41
      go_wp2_with (go_at_call 72; refine (impl.sizeOf_c _ _ hp).mono ?_; rintro e w' ⟨rfl, rfl⟩)
      go_ret
      exact ⟨_, _, rfl, Own.none_ _ _, Below.refl _ _⟩



theorem impl.FastRecon_c (a : Option Addr) (c : Nat) (p : List Int) (a2 : Option Addr) (c2 : Nat) (r : List Int) (w : World) (hp : p.length ≤ 1099511627776) (hrp : Row w a p) (hwp : ∀ x ∈ p, -9223372036854775808 ≤ x ∧ x ≤ 9223372036854775807)
    (hr : r.length ≤ 1099511627776) (hrr : Row w a2 r) (hwr : ∀ x ∈ r, -9223372036854775808 ≤ x ∧ x ≤ 9223372036854775807) :
    Calls Try.prog 42 #[.slice a p.length c, .slice a2 r.length c2] w fun e w' => ∃ b d, e = .returned (.slice b (recF p r).length d) ∧ Own w.heap.size w' b d (recF p r) ∧ Below w.heap.size w w' := by
  go_enter Try.func42, Try.ntmps42
  go_wp2_with fail
  refine (impl.Recon_c a c p a2 c2 r w hp hrp hwp hr hrr hwr).mono ?_
  rintro e w1 ⟨b, d, rfl, ho, hb⟩
  go_wp2
  go_ret
  exact ⟨b, d, rfl, ho, hb⟩



set_option maxHeartbeats 1000000 in
theorem spec.Recon_c (a : Option Addr) (c : Nat) (p : List Int) (a2 : Option Addr) (c2 : Nat) (r : List Int) (w : World) (hp : p.length ≤ 1099511627776) (hrp : Row w a p) (hwp : ∀ x ∈ p, -9223372036854775808 ≤ x ∧ x ≤ 9223372036854775807)
    (hr : r.length ≤ 1099511627776) (hrr : Row w a2 r) (hwr : ∀ x ∈ r, -9223372036854775808 ≤ x ∧ x ≤ 9223372036854775807) :
    Calls Try.prog 43 #[.slice a p.length c, .slice a2 r.length c2] w fun e w' => ∃ b d, e = .returned (.slice b (recF p r).length d) ∧ Own w.heap.size w' b d (recF p r) ∧ Below w.heap.size w w' := by
  clear hwp hwr
  cases h2 : twoB p r
  · have hf : recF p r = [] := by rw [recF, h2]; rfl
    have HF := Lib.hid hf
    clear hf
    go_enter Try.func43, Try.ntmps43
    go_wp2
    go_loopw [5, 6] (fun o i wr => ∃ (ad : Option Addr) (cc : Nat), i = .int .i64 0 ∧ o = .slice ad 0 cc ∧ Own w.heap.size wr ad cc [] ∧ Below w.heap.size w wr) (fun _ i _ => p.length - (intOf i).toNat)
    case atStart => exact ⟨_, _, rfl, rfl, Own.lit _ _ [] rfl (Nat.le_refl _) (by simp [maxLen]), (Below.refl _ _).alloc (Nat.le_refl _) _⟩
    case round =>
      obtain ⟨ad, cc, rfl, rfl, hown, hb⟩ := hrel
      have HC := Lib.hid (spec.l19Two_c a c p a2 c2 r wr hp (hrp.below hb (Nat.le_refl _)) hr)
      rw [h2] at HC
      by_cases hlt : 0 < p.length
      all_goals
        go_wp2_with (go_at_call 73; refine HC.out.mono ?_; rintro e w' ⟨rfl, rfl⟩)
        go_ret
        rw [HF.out]
        exact ⟨ad, cc, rfl, hown, hb⟩
  · obtain ⟨hpos, h5, hall⟩ := twoB_true h2
    have hf : recF p r = tab (recAt p r) p.length := by rw [recF, h2]; rfl
    have hs := sizeF_pos hpos
    obtain ⟨b, off, rfl, hbk, hc⟩ := hrp.inside (by omega)
    obtain ⟨b2, off2, rfl, hbk2, hc2⟩ := hrr.inside (by omega)
    have HP : Hid (∀ i, i < p.length → 0 ≤ p.getD i 0 ∧ p.getD i 0 ≤ 255) := fun i hi => allR_at hall hi
    have HCe := Lib.hid hc
    have HCe2 := Lib.hid hc2
    have HF := Lib.hid hf
    have HR := Lib.hid hrp
    have h64 : p.length ≤ 64 := by omega
    have hr64 : r.length ≤ 64 := by omega
    have hr64' : p.length ≤ r.length := by omega
    clear hf hpos h5 hall hs hrp hrr hc hc2
    go_enter Try.func43, Try.ntmps43
    go_wp2
    go_loopw [5, 6] (fun o i wr => ∃ (k : Nat) (ad : Option Addr) (cc : Nat), k ≤ p.length ∧ i = .int .i64 k ∧ o = .slice ad k cc ∧ Own w.heap.size wr ad cc (tab (recAt p r) k) ∧ Below w.heap.size w wr) (fun _ i _ => p.length - (intOf i).toNat)
    case atStart => exact ⟨0, _, _, Nat.zero_le _, rfl, rfl, Own.lit _ _ [] rfl (Nat.le_refl _) (by simp [maxLen]), (Below.refl _ _).alloc (Nat.le_refl _) _⟩
    case round =>
      obtain ⟨k, ad, cc, hk, rfl, rfl, hown, hb⟩ := hrel
      have hC0 := spec.l19Two_c (some ⟨b, off, none⟩) c p (some ⟨b2, off2, none⟩) c2 r wr hp (HR.out.below hb (Nat.le_refl _)) hr
      rw [h2] at hC0
      have HC := Lib.hid hC0
      clear hC0
      by_cases hlt : k < p.length
      · have c0 := (bcell hb b (off + k) hbk).trans (HCe.out k hlt)
        have c1 := (bcell hb b2 (off2 + k) hbk2).trans (HCe2.out k (by omega))
        have hp0 := HP.out k hlt
        have HY : Hid (recAt p r k = clipF 0 255 (p.getD k 0 + clipF (-1000000) 1000000 (r.getD k 0))) := rfl
        generalize p.getD k 0 = x at *
        generalize r.getD k 0 = y at *
        have hcy := clipF_bd (-1000000) 1000000 y (by omega)
        have H1 := Lib.hid hown
        have H2 := Lib.hid hb
        clear hown hb
        have hsz := H2.out.size
        obtain ⟨hp0a, hp0b⟩ := hp0
        obtain ⟨hcya, hcyb⟩ := hcy
        have z1 : (k : Int) < (p.length : Int) := by omega
        have z3 : (k : Int) < (r.length : Int) := by omega
        have z2 : IntKind.i64.wrap (x + clipF (-1000000) 1000000 y) = x + clipF (-1000000) 1000000 y := IntWalk.i64_in _ (by omega)
        have hmin := min_if
        have hmax := max_if
        have hclip := clip_if_m 1000000 (by omega)
        go_wp2_with (go_at_call 73; refine HC.out.mono ?_; rintro e w' ⟨rfl, rfl⟩)
        go_region_held3 (fun w' => w'.cell? ⟨b, off + k, none⟩ = some (.int .i64 x) ∧ w'.cell? ⟨b2, off2 + k, none⟩ = some (.int .i64 y)) (first | go_keep)
          ((first
            | (go_at_call 70; refine (spec.l15Clip_c _ _).mono ?_; rintro e w' ⟨rfl, rfl⟩)
            | (refine step_append_one Try.underlying25 Try.infoInt rfl (.tmp 19) (.tmp 32) rfl w.heap.size ad cc k (tab (recAt p r) k) (tab_len _ _) rfl ((H1.out.alloc _).drew) wr.heap.size (clipF 0 255 (x + clipF (-1000000) 1000000 y)) rfl ?_ ?_ ?_ ?_
               · simp
               · omega
               · simp; omega
               intro ad1 cc1 w1 hown1 hb1
               have hcw := bcell hb1)))
        all_goals
          rw [← HY.out, ← tab_succ] at hown1
          have H3 := Lib.hid hown1
          have H4 : Hid (Below w.heap.size w w1) := ((H2.out.alloc H2.out.size _).drew).trans hb1
          clear hown1 hb1 hcw
          go_wp2
          go_roundw
          case rel => exact ⟨k + 1, ad1, cc1, by omega, by go_num, rfl, H3.out, H4.out⟩
          case measure => simp [intOf]; omega
      · have hkp : k = p.length := by omega
        have HK := Lib.hid hkp
        clear hkp
        go_wp2
        go_ret
        rw [HF.out]
        rw [HK.out] at hown
        exact ⟨ad, cc, ret_slice (by rw [tab_len]; exact HK.out), hown, hb⟩


/-- four of l from place k on -/
def cut4 (l : List Int) (k : Nat) : List Int := (l.drop k).take 4
theorem cut4_len {l : List Int} {k : Nat} (h : k + 4 ≤ l.length) : (cut4 l k).length = 4 := by simp [cut4]; omega
theorem cut4_at {l : List Int} {k i : Nat} (hi : i < 4) : (cut4 l k).getD i 0 = l.getD (k + i) 0 := by
  simp [cut4, List.getD, hi]
theorem cut4_row {w : World} {b off : Nat} {l : List Int} {k : Nat} (hc : ∀ i, i < l.length → w.cell? ⟨b, off + i, none⟩ = some (.int .i64 (l.getD i 0))) (h : k + 4 ≤ l.length) : Row w (some ⟨b, off + k, none⟩) (cut4 l k) := by
  refine .inr ⟨b, off + k, rfl, fun i hi => ?_⟩
  rw [cut4_len h] at hi
  rw [cut4_at hi, Nat.add_assoc, hc (k + i) (by omega)]
theorem cut4_mem {l : List Int} {k : Nat} {x : Int} (h : x ∈ cut4 l k) : x ∈ l := List.mem_of_mem_drop (List.mem_of_mem_take h)
theorem cad_rec {p r : List Int} {k : Nat} (hp : k + 4 ≤ p.length) (hr : k + 4 ≤ r.length) (hall : allR 0 255 p = true) : cadF (cut4 p k) (cut4 r k) = tab (fun i => recAt p r (k + i)) 4 := by
  have h1 : cadOk (cut4 p k) (cut4 r k) = true := by
    have ha : allR 0 255 (cut4 p k) = true := allR_mk fun i hi => by
      rw [cut4_len hp] at hi
      rw [cut4_at hi]
      exact inR_mk (allR_at hall (by omega))
    rw [cadOk, cut4_len hp, cut4_len hr, ha]; rfl
  rw [cadF, h1, if_pos rfl]
  refine tab_congr fun i hi => ?_
  have hb := allR_at hall (i := k + i) (by omega)
  unfold cadAt recAt
  rw [cut4_at hi, cut4_at hi]
  unfold clipF
  omega





































































































def resAt (f p : List Int) (i : Nat) : Int := f.getD i 0 - p.getD i 0
def resB (f p : List Int) : Bool := twoB p f && allR 0 255 f
def resF (f p : List Int) : List Int := if resB f p then tab (resAt f p) p.length else []
theorem resF_len (f p : List Int) : (resF f p).length ≤ p.length := by
  unfold resF
  split
  · rw [tab_len]; exact Nat.le_refl _
  · simp


set_option maxHeartbeats 1000000 in
theorem impl.Residual_c (a2 : Option Addr) (c2 : Nat) (f : List Int) (a : Option Addr) (c : Nat) (p : List Int) (w : World) (hr : f.length ≤ 1099511627776) (hrr : Row w a2 f) (hwr : ∀ x ∈ f, -9223372036854775808 ≤ x ∧ x ≤ 9223372036854775807)
    (hp : p.length ≤ 1099511627776) (hrp : Row w a p) (hwp : ∀ x ∈ p, -9223372036854775808 ≤ x ∧ x ≤ 9223372036854775807) :
    Calls Try.prog 45 #[.slice a2 f.length c2, .slice a p.length c] w fun e w' => ∃ b d, e = .returned (.slice b (resF f p).length d) ∧ Own w.heap.size w' b d (resF f p) ∧ Below w.heap.size w w' := by
  clear hwp hwr
  rcases sizeF_cases f.length with ⟨h4, hs⟩ | ⟨h4, hs⟩ | ⟨g1, g2, hs⟩
  case inr.inr =>
    have hf : resF f p = [] := by
      by_cases h5 : p.length = f.length
      · rw [← h5] at hs; simp [resF, resB, twoB, hs]
      · simp [resF, resB, twoB, h5]
    rw [hf]
    have h0 : (sizeF f.length == 0) = true := by rw [hs]; rfl
    clear hf hs g1 g2
    go_enter Try.func45, Try.ntmps45
    go_wp2_with (go_at_call 72; refine (impl.sizeOf_c _ _ hr).mono ?_; rintro e w' ⟨rfl, rfl⟩)
    go_ret
    exact ⟨_, _, rfl, Own.none_ _ _, Below.refl _ _⟩
  all_goals
    have h0 : (sizeF f.length == 0) = false := by rw [hs]; rfl
    have hpos : 0 < sizeF f.length := by omega
    clear hs
    by_cases h5 : p.length = f.length
    · have hne : ((p.length : Int) != (f.length : Int)) = false := by simp [h5]
      have hcall1 := impl.allWithin_c a2 c2 f 0 255 w (by omega) hrr
      have hcall2 := impl.allWithin_c a c p 0 255 w (by omega) hrp
      cases hall1 : allR 0 255 f
      · have hf : resF f p = [] := by simp [resF, resB, hall1]
        rw [hf]
        rw [hall1] at hcall1
        have HC := Lib.hid hcall1
        clear hcall1 hcall2 hf h4 h5 hpos
        go_enter Try.func45, Try.ntmps45
        go_wp2_with (first
          | (go_at_call 72; refine (impl.sizeOf_c _ _ hr).mono ?_; rintro e w' ⟨rfl, rfl⟩)
          | (go_at_call 50; refine HC.out.mono ?_; rintro e w' ⟨rfl, rfl⟩))
        go_ret
        exact ⟨_, _, rfl, Own.none_ _ _, Below.refl _ _⟩
      · cases hall2 : allR 0 255 p
        · have hf : resF f p = [] := by simp [resF, resB, twoB, hall2]
          rw [hf]
          rw [hall1] at hcall1
          rw [hall2] at hcall2
          have HC1 := Lib.hid hcall1
          have HC2 := Lib.hid hcall2
          clear hcall1 hcall2 hf h4 h5 hpos
          go_enter Try.func45, Try.ntmps45
          go_wp2_with fail
          refine (impl.sizeOf_c _ _ hr).mono ?_
          rintro e w' ⟨rfl, rfl⟩
          go_wp2_with fail
          refine HC1.out.mono ?_
          rintro e w' ⟨rfl, rfl⟩
          go_wp2_with fail
          refine HC2.out.mono ?_
          rintro e w' ⟨rfl, rfl⟩
          go_wp2
          go_ret
          exact ⟨_, _, rfl, Own.none_ _ _, Below.refl _ _⟩
        · have hf : resF f p = tab (resAt f p) p.length := by
            have : resB f p = true := by rw [resB, twoB, h5, hall1, hall2]; simp [hpos]
            rw [resF, this]; rfl
          obtain ⟨b, off, rfl, hbk, hc⟩ := hrp.inside (by omega)
          obtain ⟨b2, off2, rfl, hbk2, hc2⟩ := hrr.inside (by omega)
          have HP : Hid (∀ i, i < p.length → 0 ≤ p.getD i 0 ∧ p.getD i 0 ≤ 255) := fun i hi => allR_at hall2 hi
          have HQ : Hid (∀ i, i < f.length → 0 ≤ f.getD i 0 ∧ f.getD i 0 ≤ 255) := fun i hi => allR_at hall1 hi
          have HCe := Lib.hid hc
          have HCe2 := Lib.hid hc2
          rw [hall1] at hcall1
          rw [hall2] at hcall2
          have HC1 := Lib.hid hcall1
          have HC2 := Lib.hid hcall2
          have HF := Lib.hid hf
          have H5 := Lib.hid h5
          have h64 : p.length ≤ 64 := by omega
          have hr64 : f.length ≤ 64 := by omega
          have hr64' : f.length ≤ p.length := by omega
          clear hcall1 hcall2 hf h4 h5 hpos hrp hrr hall1 hall2 hc hc2
          go_enter Try.func45, Try.ntmps45
          go_wp2_with fail
          refine (impl.sizeOf_c _ _ hr).mono ?_
          rintro e w' ⟨rfl, rfl⟩
          go_wp2_with fail
          refine HC1.out.mono ?_
          rintro e w' ⟨rfl, rfl⟩
          go_wp2_with fail
          refine HC2.out.mono ?_
          rintro e w' ⟨rfl, rfl⟩
          clear HC1 HC2
          go_wp2
          go_loopw [5, 32] (fun o i wr => ∃ (k : Nat) (ad : Option Addr) (cc : Nat), k ≤ f.length ∧ i = .int .i64 k ∧ o = .slice ad k cc ∧ Own w.heap.size wr ad cc (tab (resAt f p) k) ∧ Below w.heap.size w wr) (fun _ i _ => f.length - (intOf i).toNat)
          case atStart => exact ⟨0, _, _, Nat.zero_le _, rfl, rfl, Own.lit _ _ [] rfl (Nat.le_refl _) (by simp [maxLen]), (Below.refl _ _).alloc (Nat.le_refl _) _⟩
          case round =>
            obtain ⟨k, ad, cc, hk, rfl, rfl, hown, hb⟩ := hrel
            by_cases hlt : k < f.length
            · have c0 := (bcell hb b (off + k) hbk).trans (HCe.out k (by omega))
              have c1 := (bcell hb b2 (off2 + k) hbk2).trans (HCe2.out k hlt)
              have hp0 := HP.out k (by omega)
              have hq0 := HQ.out k hlt
              have HY : Hid (resAt f p k = f.getD k 0 - p.getD k 0) := rfl
              generalize p.getD k 0 = x at *
              generalize f.getD k 0 = y at *
              have H1 := Lib.hid hown
              have H2 := Lib.hid hb
              clear hown hb
              have hsz := H2.out.size
              obtain ⟨hp0a, hp0b⟩ := hp0
              obtain ⟨hq0a, hq0b⟩ := hq0
              go_wp2_with (at_builtin; refine append_one Try.underlying25 Try.infoInt rfl (.tmp 37) (.tmp 44) rfl w.heap.size ad cc k (tab (resAt f p) k) (tab_len _ _) rfl (H1.out.alloc _) wr.heap.size (y - x) rfl ?_ ?_ ?_ ?_; (simp); (omega); (simp; omega); intro ad1 cc1 w1 hown1 hb1)
              rw [← HY.out, ← tab_succ] at hown1
              have H3 := Lib.hid hown1
              have H4 : Hid (Below w.heap.size w w1) := (H2.out.alloc H2.out.size _).trans hb1
              clear hown1 hb1
              go_wp2
              go_roundw
              case rel => exact ⟨k + 1, ad1, cc1, by omega, by go_num, rfl, H3.out, H4.out⟩
              case measure => simp [intOf]; omega
            · have hkp : k = p.length := by have := H5.out; omega
              have HK := Lib.hid hkp
              clear hkp
              go_wp2
              go_ret
              rw [HF.out]
              rw [HK.out] at hown
              exact ⟨ad, cc, ret_slice (by rw [tab_len]; exact HK.out), hown, hb⟩
    · have hf : resF f p = [] := by simp [resF, resB, twoB, h5]
      rw [hf]
      have hne : ((p.length : Int) != (f.length : Int)) = true := by simp; omega
      clear hf h5 h4 hpos
      go_enter Try.func45, Try.ntmps45
      go_wp2_with (go_at_call 72; refine (impl.sizeOf_c _ _ hr).mono ?_; rintro e w' ⟨rfl, rfl⟩)
      go_ret
      exact ⟨_, _, rfl, Own.none_ _ _, Below.refl _ _⟩



set_option maxHeartbeats 1000000 in
theorem spec.Residual_c (a2 : Option Addr) (c2 : Nat) (f : List Int) (a : Option Addr) (c : Nat) (p : List Int) (w : World) (hr : f.length ≤ 1099511627776) (hrr : Row w a2 f) (hwr : ∀ x ∈ f, -9223372036854775808 ≤ x ∧ x ≤ 9223372036854775807)
    (hp : p.length ≤ 1099511627776) (hrp : Row w a p) (hwp : ∀ x ∈ p, -9223372036854775808 ≤ x ∧ x ≤ 9223372036854775807) :
    Calls Try.prog 46 #[.slice a2 f.length c2, .slice a p.length c] w fun e w' => ∃ b d, e = .returned (.slice b (resF f p).length d) ∧ Own w.heap.size w' b d (resF f p) ∧ Below w.heap.size w w' := by
  clear hwp hwr
  cases h2 : resB f p
  · have hf : resF f p = [] := by rw [resF, h2]; rfl
    have HF := Lib.hid hf
    have hcs : Hid (twoB p f = false ∨ (twoB p f = true ∧ allR 0 255 f = false)) := by
      show _ ∨ _
      cases h3 : twoB p f
      · exact .inl rfl
      · rw [resB, h3] at h2; exact .inr ⟨rfl, by simpa using h2⟩
    clear hf h2
    go_enter Try.func46, Try.ntmps46
    go_wp2
    go_loopw [5, 6] (fun o i wr => ∃ (ad : Option Addr) (cc : Nat), i = .int .i64 0 ∧ o = .slice ad 0 cc ∧ Own w.heap.size wr ad cc [] ∧ Below w.heap.size w wr) (fun _ i _ => p.length - (intOf i).toNat)
    case atStart => exact ⟨_, _, rfl, rfl, Own.lit _ _ [] rfl (Nat.le_refl _) (by simp [maxLen]), (Below.refl _ _).alloc (Nat.le_refl _) _⟩
    case round =>
      obtain ⟨ad, cc, rfl, rfl, hown, hb⟩ := hrel
      have hC := spec.l19Two_c a c p a2 c2 f wr hp (hrp.below hb (Nat.le_refl _)) hr
      have hC2 := spec.l14Pix_c a2 c2 f wr (by omega) (hrr.below hb (Nat.le_refl _))
      rcases hcs.out with h3 | ⟨h3, h4⟩
      · rw [h3] at hC
        have HC := Lib.hid hC
        clear hC hC2 h3
        by_cases hlt : 0 < p.length
        all_goals
          go_wp2_with (go_at_call 73; refine HC.out.mono ?_; rintro e w' ⟨rfl, rfl⟩)
          go_ret
          rw [HF.out]
          exact ⟨ad, cc, rfl, hown, hb⟩
      · rw [h3] at hC
        rw [h4] at hC2
        have HC := Lib.hid hC
        have HC2 := Lib.hid hC2
        clear hC hC2 h3 h4
        by_cases hlt : 0 < p.length
        all_goals
          go_wp2_with (first
            | (go_at_call 73; refine HC.out.mono ?_; rintro e w' ⟨rfl, rfl⟩)
            | (go_at_call 66; refine HC2.out.mono ?_; rintro e w' ⟨rfl, rfl⟩))
          go_ret
          rw [HF.out]
          exact ⟨ad, cc, rfl, hown, hb⟩
  · have h2' := h2
    rw [resB, Bool.and_eq_true] at h2'
    obtain ⟨h3, hall1⟩ := h2'
    obtain ⟨hpos, h5, hall⟩ := twoB_true h3
    have hf : resF f p = tab (resAt f p) p.length := by rw [resF, h2]; rfl
    have hs := sizeF_pos hpos
    have hR1 := Lib.hid hrp
    have hR2 := Lib.hid hrr
    obtain ⟨b, off, rfl, hbk, hc⟩ := hrp.inside (by omega)
    obtain ⟨b2, off2, rfl, hbk2, hc2⟩ := hrr.inside (by omega)
    have HP : Hid (∀ i, i < p.length → 0 ≤ p.getD i 0 ∧ p.getD i 0 ≤ 255) := fun i hi => allR_at hall hi
    have HQ : Hid (∀ i, i < f.length → 0 ≤ f.getD i 0 ∧ f.getD i 0 ≤ 255) := fun i hi => allR_at hall1 hi
    have HCe := Lib.hid hc
    have HCe2 := Lib.hid hc2
    have HF := Lib.hid hf
    have h64 : p.length ≤ 64 := by omega
    have hr64 : f.length ≤ 64 := by omega
    have hr64' : p.length ≤ f.length := by omega
    have E3 := Lib.hid h3
    have E4 := Lib.hid hall1
    clear hf hpos h5 hall hs hrp hrr hc hc2 h2 h3 hall1
    go_enter Try.func46, Try.ntmps46
    go_wp2
    go_loopw [5, 6] (fun o i wr => ∃ (k : Nat) (ad : Option Addr) (cc : Nat), k ≤ p.length ∧ i = .int .i64 k ∧ o = .slice ad k cc ∧ Own w.heap.size wr ad cc (tab (resAt f p) k) ∧ Below w.heap.size w wr) (fun _ i _ => p.length - (intOf i).toNat)
    case atStart => exact ⟨0, _, _, Nat.zero_le _, rfl, rfl, Own.lit _ _ [] rfl (Nat.le_refl _) (by simp [maxLen]), (Below.refl _ _).alloc (Nat.le_refl _) _⟩
    case round =>
      obtain ⟨k, ad, cc, hk, rfl, rfl, hown, hb⟩ := hrel
      have hC0 := spec.l19Two_c (some ⟨b, off, none⟩) c p (some ⟨b2, off2, none⟩) c2 f wr hp (hR1.out.below hb (Nat.le_refl _)) hr
      have hC2 := spec.l14Pix_c (some ⟨b2, off2, none⟩) c2 f wr (by omega) (hR2.out.below hb (Nat.le_refl _))
      rw [E3.out] at hC0
      rw [E4.out] at hC2
      have HC := Lib.hid hC0
      have HC2 := Lib.hid hC2
      clear hC0 hC2
      by_cases hlt : k < p.length
      · have c0 := (bcell hb b (off + k) hbk).trans (HCe.out k hlt)
        have c1 := (bcell hb b2 (off2 + k) hbk2).trans (HCe2.out k (by omega))
        have hp0 := HP.out k hlt
        have hq0 := HQ.out k (by omega)
        have HY : Hid (resAt f p k = f.getD k 0 - p.getD k 0) := rfl
        generalize p.getD k 0 = x at *
        generalize f.getD k 0 = y at *
        have H1 := Lib.hid hown
        have H2 := Lib.hid hb
        clear hown hb
        have hsz := H2.out.size
        obtain ⟨hp0a, hp0b⟩ := hp0
        obtain ⟨hq0a, hq0b⟩ := hq0
        have z1 : (k : Int) < (p.length : Int) := by omega
        have z3 : (k : Int) < (f.length : Int) := by omega
        have z2 : IntKind.i64.wrap (y - x) = y - x := IntWalk.i64_in _ (by omega)
        go_wp2_with (first
          | (go_at_call 73; refine HC.out.mono ?_; rintro e w' ⟨rfl, rfl⟩)
          | (go_at_call 66; refine HC2.out.mono ?_; rintro e w' ⟨rfl, rfl⟩))
        go_region_held3 (fun w' => w'.cell? ⟨b, off + k, none⟩ = some (.int .i64 x) ∧ w'.cell? ⟨b2, off2 + k, none⟩ = some (.int .i64 y)) (first | go_keep)
          ((first
            | (refine step_append_one Try.underlying25 Try.infoInt rfl (.tmp 23) (.tmp 33) rfl w.heap.size ad cc k (tab (resAt f p) k) (tab_len _ _) rfl ((H1.out.alloc _).drew) wr.heap.size (y - x) rfl ?_ ?_ ?_ ?_
               · simp
               · omega
               · simp; omega
               intro ad1 cc1 w1 hown1 hb1
               have hcw := bcell hb1)))
        all_goals
          rw [← HY.out, ← tab_succ] at hown1
          have H3 := Lib.hid hown1
          have H4 : Hid (Below w.heap.size w w1) := ((H2.out.alloc H2.out.size _).drew).trans hb1
          clear hown1 hb1 hcw
          go_wp2
          go_roundw
          case rel => exact ⟨k + 1, ad1, cc1, by omega, by go_num, rfl, H3.out, H4.out⟩
          case measure => simp [intOf]; omega
      · have hkp : k = p.length := by omega
        have HK := Lib.hid hkp
        clear hkp
        go_wp2
        go_ret
        rw [HF.out]
        rw [HK.out] at hown
        exact ⟨ad, cc, ret_slice (by rw [tab_len]; exact HK.out), hown, hb⟩

end Go.Proofs.Ytbdggcefgiehkaa
