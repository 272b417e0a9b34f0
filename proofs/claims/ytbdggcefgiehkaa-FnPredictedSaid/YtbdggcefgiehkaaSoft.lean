/- Contracts of smoothing a line. -/
import Derived.Test.YtbdggcefgiehkaaClip
namespace Go.Proofs.Ytbdggcefgiehkaa
open Go.RowKit
set_option linter.unusedVariables false

def softAt (l : List Int) (i : Nat) : Int := softF (clipF 0 255 (l.getD i 0)) (clipF 0 255 (l.getD (i + 1) 0)) (clipF 0 255 (l.getD (i + 2) 0))
def softL (l : List Int) : List Int := tab (softAt l) (l.length - 2)
theorem softL_len (l : List Int) : (softL l).length ≤ l.length := by simp [softL, tab_len]


set_option maxHeartbeats 1000000 in
theorem impl.Softened_c (a : Option Addr) (c : Nat) (l : List Int) (w : World) (hl : l.length ≤ 1099511627776) (hr : Row w a l) (hw : ∀ x ∈ l, -9223372036854775808 ≤ x ∧ x ≤ 9223372036854775807) :
    Calls Try.prog 16 #[.slice a l.length c] w fun e w' => ∃ b d, e = .returned (.slice b (softL l).length d) ∧ Own w.heap.size w' b d (softL l) ∧ Below w.heap.size w w' := by
  clear hw
  go_enter Try.func16, Try.ntmps16
  go_wp2
  go_loopw [3, 4] (fun o i wr => ∃ (k : Nat) (ad : Option Addr) (cc : Nat), k ≤ l.length - 2 ∧ i = .int .i64 ((k : Int) + 2) ∧ o = .slice ad k cc ∧ Own w.heap.size wr ad cc (tab (softAt l) k) ∧ Below w.heap.size w wr) (fun _ i _ => l.length + 2 - (intOf i).toNat)
  case atStart => exact ⟨0, _, _, Nat.zero_le _, rfl, rfl, Own.lit _ _ [] rfl (Nat.le_refl _) (by simp [maxLen]), (Below.refl _ _).alloc (Nat.le_refl _) _⟩
  case round =>
    obtain ⟨k, ad, cc, hk, rfl, rfl, hown, hb⟩ := hrel
    by_cases hlt : k + 2 < l.length
    · obtain ⟨b, off, rfl, hbk, hc⟩ := hr.inside (by omega)
      have c0 := (bcell hb b (off + k) hbk).trans (hc k (by omega))
      have c1 := (bcell hb b (off + (k + 1)) hbk).trans (hc (k + 1) (by omega))
      have c2 := (bcell hb b (off + (k + 2)) hbk).trans (hc (k + 2) (by omega))
      have HY : Hid (softAt l k = softF (clipF 0 255 (l.getD k 0)) (clipF 0 255 (l.getD (k + 1) 0)) (clipF 0 255 (l.getD (k + 2) 0))) := rfl
      generalize l.getD k 0 = x0 at *
      generalize l.getD (k + 1) 0 = x1 at *
      generalize l.getD (k + 2) 0 = x2 at *
      clear hc hr
      have H1 := Lib.hid hown
      have H2 := Lib.hid hb
      clear hown hb
      have hsz := H2.out.size
      have B0 := clipF_bd 0 255 x0 (by omega)
      have B1 := clipF_bd 0 255 x1 (by omega)
      have B2 := clipF_bd 0 255 x2 (by omega)
      go_wp2
      have e0 : IntKind.i64.wrap (k : Int) = k := IntWalk.i64_in _ (by omega)
      have e1 : IntKind.i64.wrap ((k : Int) + 2 - 1) = (k : Int) + 1 := (IntWalk.i64_in _ (by omega)).trans (by omega)
      have t1 : ((k : Int) + 1).toNat = k + 1 := by omega
      have t2 : ((k : Int) + 2).toNat = k + 2 := by omega
      have z0 : (0 : Int) ≤ (k : Int) + 1 := by omega
      have z1 : (k : Int) + 1 < (l.length : Int) := by omega
      have z2 : (k : Int) < (l.length : Int) := by omega
      have z3 : (0 : Int) ≤ (k : Int) + 2 := by omega
      go_region_held3 (fun w' => w'.cell? ⟨b, off + k, none⟩ = some (.int .i64 x0) ∧ w'.cell? ⟨b, off + (k + 1), none⟩ = some (.int .i64 x1) ∧ w'.cell? ⟨b, off + (k + 2), none⟩ = some (.int .i64 x2)) (first | go_keep)
        ((first
          | (go_at_call 58; refine (impl.limited_c _ _ _ _).mono ?_; rintro e w' ⟨rfl, rfl⟩)
          | (go_at_call 57; refine (impl.smoothed_c _ _ _ _ B0 B1 B2).mono ?_; rintro e w' ⟨rfl, rfl⟩)
          | (refine step_append_one Try.underlying25 Try.infoInt rfl (.tmp 12) (.tmp 31) rfl w.heap.size ad cc k (tab (softAt l) k) (tab_len _ _) rfl ((H1.out.alloc _).drew) wr.heap.size (softF (clipF 0 255 x0) (clipF 0 255 x1) (clipF 0 255 x2)) rfl ?_ ?_ ?_ ?_
             · simp
             · omega
             · simp; omega
             intro ad1 cc1 w1 hown1 hb1
             have hcw := bcell hb1)))
      rw [← HY.out, ← tab_succ] at hown1
      have H3 := Lib.hid hown1
      have H4 : Hid (Below w.heap.size w w1) := ((H2.out.alloc H2.out.size _).drew).trans hb1
      clear hown1 hb1 hcw
      go_wp2
      go_roundw
      case rel => exact ⟨k + 1, ad1, cc1, by omega, by go_num, rfl, H3.out, H4.out⟩
      case measure => simp [intOf]; omega
    · go_wp2
      go_ret
      have e : k = l.length - 2 := by omega
      subst e
      exact ⟨ad, cc, ret_slice (by rw [softL, tab_len]), hown, hb⟩


set_option maxHeartbeats 1000000 in
theorem spec.Softened_c (a : Option Addr) (c : Nat) (l : List Int) (w : World) (hl : l.length ≤ 1099511627776) (hr : Row w a l) (hw : ∀ x ∈ l, -9223372036854775808 ≤ x ∧ x ≤ 9223372036854775807) :
    Calls Try.prog 19 #[.slice a l.length c] w fun e w' => ∃ b d, e = .returned (.slice b (softL l).length d) ∧ Own w.heap.size w' b d (softL l) ∧ Below w.heap.size w w' := by
  clear hw
  go_enter Try.func19, Try.ntmps19
  go_wp2
  go_loopw [3, 4] (fun o i wr => ∃ (k : Nat) (ad : Option Addr) (cc : Nat), k ≤ l.length - 2 ∧ i = .int .i64 ((k : Int) + 1) ∧ o = .slice ad k cc ∧ Own w.heap.size wr ad cc (tab (softAt l) k) ∧ Below w.heap.size w wr) (fun _ i _ => l.length + 2 - (intOf i).toNat)
  case atStart => exact ⟨0, _, _, Nat.zero_le _, rfl, rfl, Own.lit _ _ [] rfl (Nat.le_refl _) (by simp [maxLen]), (Below.refl _ _).alloc (Nat.le_refl _) _⟩
  case round =>
    obtain ⟨k, ad, cc, hk, rfl, rfl, hown, hb⟩ := hrel
    by_cases hlt : k + 2 < l.length
    · obtain ⟨b, off, rfl, hbk, hc⟩ := hr.inside (by omega)
      have c0 := (bcell hb b (off + k) hbk).trans (hc k (by omega))
      have c1 := (bcell hb b (off + (k + 1)) hbk).trans (hc (k + 1) (by omega))
      have c2 := (bcell hb b (off + (k + 2)) hbk).trans (hc (k + 2) (by omega))
      have HY : Hid (softAt l k = softF (clipF 0 255 (l.getD k 0)) (clipF 0 255 (l.getD (k + 1) 0)) (clipF 0 255 (l.getD (k + 2) 0))) := rfl
      generalize l.getD k 0 = x0 at *
      generalize l.getD (k + 1) 0 = x1 at *
      generalize l.getD (k + 2) 0 = x2 at *
      clear hc hr
      have H1 := Lib.hid hown
      have H2 := Lib.hid hb
      clear hown hb
      have hsz := H2.out.size
      have B0 := clipF_bd 0 255 x0 (by omega)
      have B1 := clipF_bd 0 255 x1 (by omega)
      have B2 := clipF_bd 0 255 x2 (by omega)
      have hmin := min_if
      have hmax := max_if
      have hclip := clip_if
      go_wp2
      have e0 : IntKind.i64.wrap (k : Int) = k := IntWalk.i64_in _ (by omega)
      have e1 : IntKind.i64.wrap ((k : Int) + 1 + 1) = (k : Int) + 2 := (IntWalk.i64_in _ (by omega)).trans (by omega)
      have z4 : (k : Int) + 2 < (l.length : Int) := by omega
      have t1 : ((k : Int) + 1).toNat = k + 1 := by omega
      have t2 : ((k : Int) + 2).toNat = k + 2 := by omega
      have z0 : (0 : Int) ≤ (k : Int) + 1 := by omega
      have z1 : (k : Int) + 1 < (l.length : Int) := by omega
      have z2 : (k : Int) < (l.length : Int) := by omega
      have z3 : (0 : Int) ≤ (k : Int) + 2 := by omega
      go_region_held3 (fun w' => w'.cell? ⟨b, off + k, none⟩ = some (.int .i64 x0) ∧ w'.cell? ⟨b, off + (k + 1), none⟩ = some (.int .i64 x1) ∧ w'.cell? ⟨b, off + (k + 2), none⟩ = some (.int .i64 x2)) (first | go_keep)
        ((first
          | (go_at_call 60; refine (spec.l15Soft_c _ _ _ _ B0 B1 B2).mono ?_; rintro e w' ⟨rfl, rfl⟩)
          | (refine step_append_one Try.underlying25 Try.infoInt rfl (.tmp 20) (.tmp 37) rfl w.heap.size ad cc k (tab (softAt l) k) (tab_len _ _) rfl ((H1.out.alloc _).drew) wr.heap.size (softF (clipF 0 255 x0) (clipF 0 255 x1) (clipF 0 255 x2)) rfl ?_ ?_ ?_ ?_
             · simp
             · omega
             · simp; omega
             intro ad1 cc1 w1 hown1 hb1
             have hcw := bcell hb1)))
      all_goals
        rw [← HY.out, ← tab_succ] at hown1
        have H3 := Lib.hid hown1
        have H4 : Hid (Below w.heap.size w w1) := ((H2.out.alloc H2.out.size _).drew).trans hb1
        clear hown1 hb1 hcw
        go_wp2
        go_roundw
        case rel => exact ⟨k + 1, ad1, cc1, by omega, by go_num, rfl, H3.out, H4.out⟩
        case measure => simp [intOf]; omega
    · go_wp2
      go_ret
      have e : k = l.length - 2 := by omega
      subst e
      exact ⟨ad, cc, ret_slice (by rw [softL, tab_len]), hown, hb⟩

end Go.Proofs.Ytbdggcefgiehkaa
