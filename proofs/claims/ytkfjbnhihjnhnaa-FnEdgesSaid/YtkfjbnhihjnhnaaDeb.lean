/- Contracts: the two passes of the filter, in place. -/
import Derived.Test.YtkfjbnhihjnhnaaSmooth
namespace Go.Proofs.Ytkfjbnhihjnhnaa
open Go.RowKit
set_option linter.unusedVariables false

def vR (W : Nat) (q : Int) (y : Nat) (l : List Int) : Nat → List Int | 0 => l | j + 1 => smL (vR W q y l j) (y * W + 8 * (j + 1)) 1 q
def vA (W : Nat) (q : Int) (y0 : Nat) (l : List Int) : Nat → List Int | 0 => l | k + 1 => vR W q (y0 + k) (vA W q y0 l k) (W / 8 - 1)
def hR (W : Nat) (q : Int) (y : Nat) (l : List Int) : Nat → List Int | 0 => l | x + 1 => smL (hR W q y l x) (y * W + x) W q
def hA (W : Nat) (q : Int) (l : List Int) : Nat → List Int | 0 => l | j + 1 => hR W q (8 * (j + 1)) (hA W q l j) W
theorem vR_len (W : Nat) (q : Int) (y : Nat) (l : List Int) (j : Nat) : (vR W q y l j).length = l.length := by
  induction j with
  | zero => rfl
  | succ j ih => rw [vR, smL_len, ih]
theorem vA_len (W : Nat) (q : Int) (y0 : Nat) (l : List Int) (k : Nat) : (vA W q y0 l k).length = l.length := by
  induction k with
  | zero => rfl
  | succ k ih => rw [vA, vR_len, ih]
theorem hR_len (W : Nat) (q : Int) (y : Nat) (l : List Int) (j : Nat) : (hR W q y l j).length = l.length := by
  induction j with
  | zero => rfl
  | succ j ih => rw [hR, smL_len, ih]
theorem hA_len (W : Nat) (q : Int) (l : List Int) (k : Nat) : (hA W q l k).length = l.length := by
  induction k with
  | zero => rfl
  | succ k ih => rw [hA, hR_len, ih]
theorem row_in {X Y n r s : Nat} (hl : n = X * Y) (hs : s = r * X) (h : r < Y) : s + X ≤ n := by
  have h1 : (r + 1) * X ≤ Y * X := Nat.mul_le_mul_right X h
  rw [Nat.add_mul, Nat.one_mul, Nat.mul_comm Y X, ← hl, ← hs] at h1
  exact h1


set_option maxHeartbeats 4000000 in
theorem vertical_c (X Y y0 y1 : Nat) (q : Int) (g c B : Nat) (l : List Int) (w : World) (hX : 8 ≤ X ∧ X ≤ 32 ∧ X % 8 = 0) (hY : Y ≤ 32) (hl : l.length = X * Y) (h01 : y0 ≤ y1) (h1 : y1 ≤ Y) (ho : Own B w (some ⟨g, 0, none⟩) c l) :
    Calls Try.prog 39 #[frv X Y (some ⟨g, 0, none⟩) l.length c, .int .i64 y0, .int .i64 y1, .int .i64 q] w fun e w' => e = .returned (.tuple #[]) ∧ Own B w' (some ⟨g, 0, none⟩) c (vA X q y0 l (y1 - y0)) ∧ w.grownBy w' (some g) := by
  obtain ⟨hX0, hX1, hX2⟩ := hX
  have hlb : l.length ≤ 1024 := by rw [hl]; exact Nat.mul_le_mul hX1 hY
  have hg2 : g < w.heap.size := (ho.lt _ rfl).2
  have HL := Lib.hid hl
  have HO := Lib.hid ho
  have HX2 := Lib.hid hX2
  clear hl ho hX2
  go_enter Try.func39, Try.ntmps39
  go_wp2
  go_loopw [8, 9] (fun i _ wr => ∃ k yy : Nat, k ≤ y1 - y0 ∧ yy = y0 + k ∧ i = .int .i64 yy ∧ Own B wr (some ⟨g, 0, none⟩) c (vA X q y0 l k) ∧ w.grownBy wr (some g) ∧ Box3 wr w.heap.size (.int .i64 X) (.int .i64 Y) (.slice (some ⟨g, 0, none⟩) l.length c)) (fun i _ _ => (y1 - (intOf i)).toNat)
  case atStart => exact ⟨0, y0, Nat.zero_le _, rfl, rfl, HO.out.alloc _, World.grownBy_alloc _ _ _, Box3.new _ _ _ _ _⟩
  case round =>
    obtain ⟨k, yy, hk, hyy, rfl, hown, hg, P⟩ := hrel
    have HYY := Lib.hid hyy
    by_cases hlt : yy < y1
    · have hltd : decide ((yy : Int) < (y1 : Int)) = true := by simp; omega
      have hyl : yy < Y := by omega
      have hk2 : k < y1 - y0 := by omega
      obtain ⟨s, hs⟩ : ∃ s, s = yy * X := ⟨_, rfl⟩
      have hsX := row_in HL.out hs hyl
      have hsI : (yy : Int) * (X : Int) = (s : Int) := by rw [hs]; exact (Int.natCast_mul yy X).symm
      have ea : IntKind.i64.wrap ((yy : Int) * (X : Int)) = (s : Int) := by rw [hsI, IntWalk.i64_in _ (by omega)]
      have HS := Lib.hid hs
      have H1 := Lib.hid hown
      have H2 := Lib.hid hg
      have HP := Lib.hid P
      clear hown hg P hyy hs
      go_wp2
      obtain ⟨wz, hwz⟩ : ∃ wz : World, wz = wr := ⟨_, rfl⟩
      rw [← hwz] at H1 H2 HP ⊢
      clear hwz
      go_loopw [9] (fun i wr => ∃ j xx : Nat, j ≤ X / 8 - 1 ∧ xx = 8 * (j + 1) ∧ i = .int .i64 xx ∧ Own B wr (some ⟨g, 0, none⟩) c (vR X q yy (vA X q y0 l k) j) ∧ w.grownBy wr (some g) ∧ Box3 wr w.heap.size (.int .i64 X) (.int .i64 Y) (.slice (some ⟨g, 0, none⟩) l.length c)) (fun i _ => (X + 8 - (intOf i)).toNat)
      case atStart => exact ⟨0, 8, Nat.zero_le _, rfl, rfl, H1.out, H2.out, HP.out⟩
      case round =>
        clear H1 H2 HP
        obtain ⟨j, xx, hj, hxx, rfl, hown, hg, P⟩ := hrel
        have HXX := Lib.hid hxx
        by_cases hlx : xx < X
        · have hlxd : decide ((xx : Int) < (X : Int)) = true := by simp; omega
          have hj2 : j < X / 8 - 1 := by have := HX2.out; omega
          have hxx8 : xx + 8 ≤ X := by have := HX2.out; omega
          obtain ⟨at_, hat⟩ : ∃ t, t = s + xx := ⟨_, rfl⟩
          have eb : IntKind.i64.wrap ((s : Int) + (xx : Int)) = (at_ : Int) := by rw [IntWalk.i64_in _ (by omega)]; omega
          have eb' : (s : Int) + (xx : Int) = (at_ : Int) := by omega
          have hsm := smoothEdge_c (X : Int) (Y : Int) g c (vR X q yy (vA X q y0 l k) j) at_ 1 q B wr hown (by omega) (by rw [vR_len, vA_len]; omega) (by omega) (by rw [vR_len, vA_len]; omega)
          rw [vR_len, vA_len] at hsm
          have HSM := Lib.hid hsm
          have HY : Hid (vR X q yy (vA X q y0 l k) (j + 1) = smL (vR X q yy (vA X q y0 l k) j) at_ 1 q) := Lib.hid (by rw [vR, hat, HS.out, HXX.out])
          have H2 := Lib.hid hg
          have HP := Lib.hid P
          obtain ⟨_, b0, b1, b2⟩ := P
          clear hown hg hsm hxx hat
          go_wp2_with (go_at_call 70; refine HSM.out.mono ?_; rintro e w2 ⟨rfl, ho2, hg2'⟩)
          rw [← HY.out] at ho2
          have H3 := Lib.hid ho2
          have H4 := Lib.hid (grown_trans H2.out hg2')
          have H5 : Hid (Box3 w2 w.heap.size (.int .i64 X) (.int .i64 Y) (.slice (some ⟨g, 0, none⟩) l.length c)) := Lib.hid (HP.out.grown (a := some ⟨g, 0, none⟩) hg2' (fun p hp => by cases hp; show g ≠ _; omega))
          obtain ⟨_, d0, d1, d2⟩ := H5.out
          clear ho2 hg2' b0 b1 b2
          go_wp2
          go_roundw
          case rel => exact ⟨j + 1, xx + 8, by omega, by rw [HXX.out]; omega, by go_num, H3.out, H4.out, H5.out⟩
          case measure => simp [intOf]; omega
        · have hlxd : decide ((xx : Int) < (X : Int)) = false := by simp; omega
          have hje : Hid (vR X q yy (vA X q y0 l k) j = vA X q y0 l (k + 1)) := Lib.hid (by rw [vA, ← HYY.out, show j = X / 8 - 1 from by have := HX2.out; omega])
          have H3 := Lib.hid hown
          have H4 := Lib.hid hg
          have HP := Lib.hid P
          obtain ⟨_, b0, b1, b2⟩ := P
          rw [hje.out] at H3
          clear hown hg hxx
          go_wp2
          go_roundw
          case rel => exact ⟨k + 1, yy + 1, by omega, by rw [HYY.out]; omega, by go_num, H3.out, H4.out, HP.out⟩
          case measure => simp [intOf]; omega
    · have hltd : decide ((yy : Int) < (y1 : Int)) = false := by simp; omega
      have hke : Hid (k = y1 - y0) := Lib.hid (by omega)
      have H3 := Lib.hid hown
      have H4 := Lib.hid hg
      clear hown hg P hyy
      go_wp2
      go_end0
      exact ⟨rfl, by rw [← hke.out]; exact H3.out, H4.out⟩


set_option maxHeartbeats 4000000 in
theorem horizontal_c (X Y y : Nat) (q : Int) (g c B : Nat) (l : List Int) (w : World) (hX : 8 ≤ X ∧ X ≤ 32) (hY : Y ≤ 32) (hl : l.length = X * Y) (h0 : 2 ≤ y) (h1 : y + 1 < Y) (ho : Own B w (some ⟨g, 0, none⟩) c l) :
    Calls Try.prog 40 #[frv X Y (some ⟨g, 0, none⟩) l.length c, .int .i64 y, .int .i64 q] w fun e w' => e = .returned (.tuple #[]) ∧ Own B w' (some ⟨g, 0, none⟩) c (hR X q y l X) ∧ w.grownBy w' (some g) := by
  obtain ⟨hX0, hX1⟩ := hX
  have hlb : l.length ≤ 1024 := by rw [hl]; exact Nat.mul_le_mul hX1 hY
  have hg2 : g < w.heap.size := (ho.lt _ rfl).2
  obtain ⟨s, hs⟩ : ∃ s, s = y * X := ⟨_, rfl⟩
  have hs2 : 2 * X ≤ s := by rw [hs]; exact Nat.mul_le_mul_right X h0
  have hs3 : s + 2 * X ≤ l.length := by
    have := row_in hl (s := (y + 1) * X) rfl h1
    rw [Nat.add_mul, Nat.one_mul, ← hs] at this
    omega
  have hsI : (y : Int) * (X : Int) = (s : Int) := by rw [hs]; exact (Int.natCast_mul y X).symm
  have ea : IntKind.i64.wrap ((y : Int) * (X : Int)) = (s : Int) := by rw [hsI, IntWalk.i64_in _ (by omega)]
  have HS := Lib.hid hs
  have HO := Lib.hid ho
  clear hl ho hs
  go_enter Try.func40, Try.ntmps40
  go_wp2
  go_loopw [9] (fun i wr => ∃ x : Nat, x ≤ X ∧ i = .int .i64 x ∧ Own B wr (some ⟨g, 0, none⟩) c (hR X q y l x) ∧ w.grownBy wr (some g) ∧ Box3 wr w.heap.size (.int .i64 X) (.int .i64 Y) (.slice (some ⟨g, 0, none⟩) l.length c)) (fun i _ => (X - (intOf i)).toNat)
  case atStart => exact ⟨0, Nat.zero_le _, rfl, HO.out.alloc _, World.grownBy_alloc _ _ _, Box3.new _ _ _ _ _⟩
  case round =>
    obtain ⟨x, hx, rfl, hown, hg, P⟩ := hrel
    by_cases hlt : x < X
    · have hltd : decide ((x : Int) < (X : Int)) = true := by simp; omega
      obtain ⟨at_, hat⟩ : ∃ t, t = s + x := ⟨_, rfl⟩
      have eb : IntKind.i64.wrap ((s : Int) + (x : Int)) = (at_ : Int) := by rw [IntWalk.i64_in _ (by omega)]; omega
      have eb' : (s : Int) + (x : Int) = (at_ : Int) := by omega
      have hsm := smoothEdge_c (X : Int) (Y : Int) g c (hR X q y l x) at_ X q B wr hown (by omega) (by rw [hR_len]; omega) (by omega) (by rw [hR_len]; omega)
      rw [hR_len] at hsm
      have HSM := Lib.hid hsm
      have HY : Hid (hR X q y l (x + 1) = smL (hR X q y l x) at_ X q) := Lib.hid (by rw [hR, hat, HS.out])
      have H2 := Lib.hid hg
      have HP := Lib.hid P
      obtain ⟨_, b0, b1, b2⟩ := P
      clear hown hg hsm hat
      go_wp2_with (go_at_call 70; refine HSM.out.mono ?_; rintro e w2 ⟨rfl, ho2, hg2'⟩)
      rw [← HY.out] at ho2
      have H3 := Lib.hid ho2
      have H4 := Lib.hid (grown_trans H2.out hg2')
      have H5 : Hid (Box3 w2 w.heap.size (.int .i64 X) (.int .i64 Y) (.slice (some ⟨g, 0, none⟩) l.length c)) := Lib.hid (HP.out.grown (a := some ⟨g, 0, none⟩) hg2' (fun p hp => by cases hp; show g ≠ _; omega))
      clear ho2 hg2' b0 b1 b2
      go_wp2
      go_roundw
      case rel => exact ⟨x + 1, by omega, by go_num, H3.out, H4.out, H5.out⟩
      case measure => simp [intOf]; omega
    · obtain rfl : x = X := by omega
      have H3 := Lib.hid hown
      have H4 := Lib.hid hg
      clear hown hg P
      go_wp2
      go_end0
      exact ⟨rfl, H3.out, H4.out⟩

def filtB (x y : Int) (l : List Int) (q : Int) : Bool := frameB x y l && inR 0 51 q

set_option maxHeartbeats 1000000 in
theorem isFiltered_c (x y : Int) (a : Option Addr) (c : Nat) (l : List Int) (q : Int) (w : World) (hx : -9223372036854775808 ≤ x ∧ x ≤ 9223372036854775807) (hy : -9223372036854775808 ≤ y ∧ y ≤ 9223372036854775807) (hl : l.length ≤ 1099511627776) (hr : Row w a l) (hw : ∀ x ∈ l, -9223372036854775808 ≤ x ∧ x ≤ 9223372036854775807) :
    Calls Try.prog 38 #[frv x y a l.length c, .int .i64 q] w fun e w' => e = .returned (.bool (filtB x y l q)) ∧ Below w.heap.size w w' := by
  have hcall := fun t => impl.FrameOk_c x y a c l (w.alloc (.cells #[.int .i64 x, .int .i64 y, .slice a l.length c] t)) hx hy hl (hr.alloc _) hw
  cases h : frameB x y l
  · simp only [h] at hcall
    have HC := Lib.hid hcall
    have HF : Hid (filtB x y l q = false) := Lib.hid (by simp [filtB, h])
    clear hcall h hx hy hl hr hw
    go_enter Try.func38, Try.ntmps38
    go_wp2_with fail
    refine (HC.out _).mono ?_
    rintro e w1 ⟨rfl, hb⟩
    go_wp2
    go_ret
    exact ⟨ret_bool HF.out.symm, ((Below.refl w.heap.size w).alloc (Nat.le_refl _) _).trans (hb.mono (by simp))⟩
  · simp only [h] at hcall
    have HC := Lib.hid hcall
    have HF : Hid (filtB x y l q = inR 0 51 q) := Lib.hid (by simp [filtB, h])
    clear hcall h hx hy hl hr hw
    go_enter Try.func38, Try.ntmps38
    go_wp2_with fail
    refine (HC.out _).mono ?_
    rintro e w1 ⟨rfl, hb⟩
    go_wp2_with (go_at_call 58; refine (within_c _ _ _ _).mono ?_; rintro e w' ⟨rfl, rfl⟩)
    go_ret
    exact ⟨ret_bool HF.out.symm, ((Below.refl w.heap.size w).alloc (Nat.le_refl _) _).trans (hb.mono (by simp))⟩

end Go.Proofs.Ytkfjbnhihjnhnaa
