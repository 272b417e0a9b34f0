/- Contracts: a row of the matrices, of the reference. -/
import Derived.Test.YtchabkkpdafkiaaMatH
namespace Go.Proofs.Ytchabkkpdafkiaa
open Go.RowKit
set_option linter.unusedVariables false

/-- the sign of a number under 8: is the count of its bits odd? -/
def sgN (x : Nat) : Int := [1, -1, -1, 1, -1, 1, 1, -1].getD x 0
theorem sgN_ent : ∀ r, r < 8 → ∀ k, k < 8 → sgN (r &&& k) = ent rowsH r k := by decide
theorem sgN_pm : ∀ x, x < 8 → sgN x = 1 ∨ sgN x = -1 := by decide
theorem sgN_step : ∀ x, x < 8 → sgN x = (if x % 2 = 1 then -1 else 1) * sgN (x / 2) := by decide

set_option maxHeartbeats 1000000 in
theorem l12Row_4_0 (w : World) :
    Calls Try.prog 60 #[.int .i64 4, .int .i64 0] w fun e w' => ∃ q c, e = .returned (.slice q 4 c) ∧ Row w' q (rowsA0.getD 0 []) ∧ (∀ p, q = some p → w.heap.size ≤ p.block) ∧ Below w.heap.size w w' := by
  go_enter Try.func60, Try.ntmps60
  go_wp2
  go_ret
  refine ⟨_, _, rfl, .inr ⟨_, _, rfl, fun i hi => ?_⟩, fun p hp => by cases hp; simp [go_sem]; try omega, ?_⟩
  · have h4 : i = 0 ∨ i = 1 ∨ i = 2 ∨ i = 3 := by
      have : i < 4 := hi
      omega
    rcases h4 with rfl | rfl | rfl | rfl <;> simp [go_sem, rowsA0]
  · exact (((((Below.refl w.heap.size w).alloc (Nat.le_refl _) _).alloc (by simp) _).alloc (by simp; omega) _).alloc (by simp; omega) _).alloc (by simp; omega) _
set_option maxHeartbeats 1000000 in
theorem l12Row_4_1 (w : World) :
    Calls Try.prog 60 #[.int .i64 4, .int .i64 1] w fun e w' => ∃ q c, e = .returned (.slice q 4 c) ∧ Row w' q (rowsA0.getD 1 []) ∧ (∀ p, q = some p → w.heap.size ≤ p.block) ∧ Below w.heap.size w w' := by
  go_enter Try.func60, Try.ntmps60
  go_wp2
  go_ret
  refine ⟨_, _, rfl, .inr ⟨_, _, rfl, fun i hi => ?_⟩, fun p hp => by cases hp; simp [go_sem]; try omega, ?_⟩
  · have h4 : i = 0 ∨ i = 1 ∨ i = 2 ∨ i = 3 := by
      have : i < 4 := hi
      omega
    rcases h4 with rfl | rfl | rfl | rfl <;> simp [go_sem, rowsA0]
  · exact (((((Below.refl w.heap.size w).alloc (Nat.le_refl _) _).alloc (by simp) _).alloc (by simp; omega) _).alloc (by simp; omega) _).alloc (by simp; omega) _
set_option maxHeartbeats 1000000 in
theorem l12Row_4_2 (w : World) :
    Calls Try.prog 60 #[.int .i64 4, .int .i64 2] w fun e w' => ∃ q c, e = .returned (.slice q 4 c) ∧ Row w' q (rowsA0.getD 2 []) ∧ (∀ p, q = some p → w.heap.size ≤ p.block) ∧ Below w.heap.size w w' := by
  go_enter Try.func60, Try.ntmps60
  go_wp2
  go_ret
  refine ⟨_, _, rfl, .inr ⟨_, _, rfl, fun i hi => ?_⟩, fun p hp => by cases hp; simp [go_sem]; try omega, ?_⟩
  · have h4 : i = 0 ∨ i = 1 ∨ i = 2 ∨ i = 3 := by
      have : i < 4 := hi
      omega
    rcases h4 with rfl | rfl | rfl | rfl <;> simp [go_sem, rowsA0]
  · exact (((((Below.refl w.heap.size w).alloc (Nat.le_refl _) _).alloc (by simp) _).alloc (by simp; omega) _).alloc (by simp; omega) _).alloc (by simp; omega) _
set_option maxHeartbeats 1000000 in
theorem l12Row_4_3 (w : World) :
    Calls Try.prog 60 #[.int .i64 4, .int .i64 3] w fun e w' => ∃ q c, e = .returned (.slice q 4 c) ∧ Row w' q (rowsA0.getD 3 []) ∧ (∀ p, q = some p → w.heap.size ≤ p.block) ∧ Below w.heap.size w w' := by
  go_enter Try.func60, Try.ntmps60
  go_wp2
  go_ret
  refine ⟨_, _, rfl, .inr ⟨_, _, rfl, fun i hi => ?_⟩, fun p hp => by cases hp; simp [go_sem]; try omega, ?_⟩
  · have h4 : i = 0 ∨ i = 1 ∨ i = 2 ∨ i = 3 := by
      have : i < 4 := hi
      omega
    rcases h4 with rfl | rfl | rfl | rfl <;> simp [go_sem, rowsA0]
  · exact (((((Below.refl w.heap.size w).alloc (Nat.le_refl _) _).alloc (by simp) _).alloc (by simp; omega) _).alloc (by simp; omega) _).alloc (by simp; omega) _
theorem l12Row_4 (r : Nat) (hr : r < 4) (w : World) :
    Calls Try.prog 60 #[.int .i64 4, .int .i64 r] w fun e w' => ∃ q c, e = .returned (.slice q 4 c) ∧ Row w' q (rowsA0.getD r []) ∧ (∀ p, q = some p → w.heap.size ≤ p.block) ∧ Below w.heap.size w w' := by
  have h4 : r = 0 ∨ r = 1 ∨ r = 2 ∨ r = 3 := by omega
  rcases h4 with rfl | rfl | rfl | rfl
  · exact l12Row_4_0 w
  · exact l12Row_4_1 w
  · exact l12Row_4_2 w
  · exact l12Row_4_3 w
set_option maxHeartbeats 4000000 in
theorem l12Row_8 (r : Nat) (hr : r < 8) (w : World) :
    Calls Try.prog 60 #[.int .i64 8, .int .i64 r] w fun e w' => ∃ q c, e = .returned (.slice q 8 c) ∧ Row w' q (rowsH.getD r []) ∧ (∀ p, q = some p → w.heap.size ≤ p.block) ∧ Below w.heap.size w w' := by
  have HRT := Lib.hid (rowsH_tab r hr)
  have HB0 : Hid (Below w.heap.size w w) := Lib.hid (Below.refl _ _)
  go_enter Try.func60, Try.ntmps60
  go_wp2
  go_loopw [5, 6] (fun o i wr => ∃ (k : Nat) (ad : Option Addr) (cc : Nat), k ≤ 8 ∧ i = .int .i64 k ∧ o = .slice ad k cc ∧ Own w.heap.size wr ad cc (tab (fun k => ent rowsH r k) k) ∧ Below w.heap.size w wr) (fun _ i _ => 8 - (intOf i).toNat)
  case atStart => exact ⟨0, _, _, by omega, rfl, rfl, Own.lit _ _ [] rfl (Nat.le_refl _) (by simp [maxLen]), HB0.out.alloc (Nat.le_refl _) _⟩
  case round =>
    obtain ⟨k, ad, cc, hk, rfl, rfl, ho, hb⟩ := hrel
    by_cases hlt : k < 8
    · have hltd : decide ((k : Int) < 8) = true := by simp; omega
      obtain ⟨z, hz⟩ : ∃ z, z = r &&& k := ⟨_, rfl⟩
      have hz8 : z < 8 := by rw [hz]; exact and8 r hr k hlt
      have hbt : bits BinOp.and .i64 (r : Int) (k : Int) = (z : Int) := by rw [hz]; exact (bits_pair r k hr hlt).1
      have HX : Hid (sgN z = ent rowsH r k) := Lib.hid (by rw [hz]; exact sgN_ent r hr k hlt)
      have HO := Lib.hid ho
      have HBB := Lib.hid hb
      have hsz := hb.size
      clear hz ho hb
      go_wp2
      obtain ⟨wz, hwz⟩ : ∃ wz : World, wz = wr := ⟨_, rfl⟩
      rw [← hwz] at HO HBB hsz ⊢
      clear hwz
      go_loopw [7, 8] (fun s b wx => ∃ (y : Nat) (v : Int), y < 8 ∧ s = .int .i64 v ∧ b = .int .i64 y ∧ (v = 1 ∨ v = -1) ∧ v * sgN y = sgN z ∧ wx = wz) (fun _ b _ => (intOf b).toNat)
      case atStart => exact ⟨z, 1, hz8, rfl, rfl, .inl rfl, Int.one_mul _, rfl⟩
      case round =>
        obtain ⟨y, v, hy, rfl, rfl, hv, hvs, hww⟩ := hrel
        by_cases hy0 : y = 0
        · subst hy0
          have HVS : Hid (v = sgN z) := Lib.hid (by rw [← hvs]; show v = v * 1; omega)
          obtain ⟨wt, hwt⟩ : ∃ wt : World, wt = wr := ⟨_, rfl⟩
          rw [← hww] at HO HBB hsz
          clear hww hvs hv hwt
          go_wp2_with (at_builtin; refine append_one Try.underlying22 Try.infoInt rfl (.tmp 36) (.tmp 38) rfl w.heap.size ad cc k (tab (fun k => ent rowsH r k) k) (tab_len _ _) rfl (HO.out.alloc _) wr.heap.size v rfl ?_ ?_ ?_ ?_; (simp); (omega); (simp; omega); intro ad1 cc1 w9 ho9 hb9)
          rw [HVS.out, HX.out, ← tab_succ] at ho9
          have H9 := Lib.hid ho9
          have H8 : Hid (Below w.heap.size w w9) := Lib.hid ((HBB.out.alloc HBB.out.size _).trans hb9)
          clear ho9 hb9
          go_wp2
          go_roundw
          case rel => exact ⟨k + 1, ad1, cc1, by omega, by go_num, rfl, H9.out, H8.out⟩
          case measure => simp [intOf]; omega
        · have hst := sgN_step y hy
          have hneg : IntKind.i64.wrap (-v) = -v := IntWalk.i64_in _ (by omega)
          have h7 : y = 1 ∨ y = 2 ∨ y = 3 ∨ y = 4 ∨ y = 5 ∨ y = 6 ∨ y = 7 := by omega
          have HV := Lib.hid hv
          clear hv
          have HVS := Lib.hid hvs
          clear hst hvs
          rcases h7 with rfl | rfl | rfl | rfl | rfl | rfl | rfl
          · go_wp2
            go_roundw
            case rel => exact ⟨0, -v, by omega, rfl, rfl, by rcases HV.out with h | h <;> subst h <;> simp, by rcases HV.out with h | h <;> subst h <;> exact HVS.out, trivial⟩
            case measure => simp [intOf]
          · go_wp2
            go_roundw
            case rel => exact ⟨1, v, by omega, rfl, rfl, by rcases HV.out with h | h <;> subst h <;> simp, by rcases HV.out with h | h <;> subst h <;> exact HVS.out, trivial⟩
            case measure => simp [intOf]
          · go_wp2
            go_roundw
            case rel => exact ⟨1, -v, by omega, rfl, rfl, by rcases HV.out with h | h <;> subst h <;> simp, by rcases HV.out with h | h <;> subst h <;> exact HVS.out, trivial⟩
            case measure => simp [intOf]
          · go_wp2
            go_roundw
            case rel => exact ⟨2, v, by omega, rfl, rfl, by rcases HV.out with h | h <;> subst h <;> simp, by rcases HV.out with h | h <;> subst h <;> exact HVS.out, trivial⟩
            case measure => simp [intOf]
          · go_wp2
            go_roundw
            case rel => exact ⟨2, -v, by omega, rfl, rfl, by rcases HV.out with h | h <;> subst h <;> simp, by rcases HV.out with h | h <;> subst h <;> exact HVS.out, trivial⟩
            case measure => simp [intOf]
          · go_wp2
            go_roundw
            case rel => exact ⟨3, v, by omega, rfl, rfl, by rcases HV.out with h | h <;> subst h <;> simp, by rcases HV.out with h | h <;> subst h <;> exact HVS.out, trivial⟩
            case measure => simp [intOf]
          · go_wp2
            go_roundw
            case rel => exact ⟨3, -v, by omega, rfl, rfl, by rcases HV.out with h | h <;> subst h <;> simp, by rcases HV.out with h | h <;> subst h <;> exact HVS.out, trivial⟩
            case measure => simp [intOf]
    · obtain rfl : k = 8 := by omega
      have H1 := Lib.hid ho
      have H2 := Lib.hid hb
      clear ho hb
      go_wp2
      go_ret
      exact ⟨ad, cc, rfl, by rw [HRT.out]; exact H1.out.row, fun p hp => (H1.out.lt p hp).1, H2.out⟩

end Go.Proofs.Ytchabkkpdafkiaa
