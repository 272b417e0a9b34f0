/- Contracts of lifting eight numbers. -/
import Derived.Test.YtchabkkpdafkiaaSlices
import Derived.Test.YtchabkkpdafkiaaList
namespace Go.Proofs.Ytchabkkpdafkiaa
open Go.RowKit
set_option linter.unusedVariables false

/-- one sum and one difference, in place -/
def stF (v i : Nat) (x : List Int) : List Int :=
  if i &&& v = 0 then (x.set i (wrap64 (x.getD i 0 + x.getD (i + v) 0))).set (i + v) (wrap64 (x.getD i 0 - x.getD (i + v) 0)) else x
def stgF (v : Nat) : Nat → List Int → List Int | 0, x => x | k + 1, x => stF v k (stgF v k x)
def liftS : Nat → List Int → List Int | 0, x => x | s + 1, x => stgF (2 ^ s) 8 (liftS s x)
def lift8F (l : List Int) : List Int := if l.length = 8 then liftS 3 l else []
theorem stF_len (v i : Nat) (x : List Int) : (stF v i x).length = x.length := by unfold stF; split <;> simp
theorem stgF_len (v k : Nat) (x : List Int) : (stgF v k x).length = x.length := by
  induction k with
  | zero => rfl
  | succ k ih => rw [stgF, stF_len, ih]
theorem liftS_len (s : Nat) (x : List Int) : (liftS s x).length = x.length := by
  induction s with
  | zero => rfl
  | succ s ih => rw [liftS, stgF_len, ih]
theorem lift8F_len (l : List Int) : (lift8F l).length ≤ 1048576 := by
  unfold lift8F
  split
  · rw [liftS_len]; omega
  · simp
theorem wraps_63 (n : Int) (h₀ : 0 ≤ n) (h₁ : n < 2 ^ 63) : IntKind.i64.wrap n = n := by rw [IntKind.wrap_i64]; omega
theorem bits_pair (k v : Nat) (hk : k < 8) (hv : v < 8) : bits .and .i64 (k : Int) (v : Int) = ((k &&& v : Nat) : Int) ∧ bits .or .i64 (k : Int) (v : Int) = ((k ||| v : Nat) : Int) :=
  bits_nat .i64 63 (by decide) wraps_63 k v (by omega) (by omega)
theorem or_sum : ∀ k, k < 8 → ∀ v, v = 1 ∨ v = 2 ∨ v = 4 → k &&& v = 0 → k ||| v = k + v ∧ k + v < 8 := by
  intro k hk v hv
  rcases hv with rfl | rfl | rfl
  · revert k; decide
  · revert k; decide
  · revert k; decide


set_option maxHeartbeats 2000000 in
theorem impl.Lift8_c (a : Option Addr) (c : Nat) (l : List Int) (w : World) (hl : l.length ≤ 1099511627776) (hr : Row w a l) (hw : ∀ x ∈ l, -9223372036854775808 ≤ x ∧ x ≤ 9223372036854775807) :
    Calls Try.prog 23 #[.slice a l.length c] w fun e w' => ∃ b d, e = .returned (.slice b (lift8F l).length d) ∧ Own w.heap.size w' b d (lift8F l) ∧ Below w.heap.size w w' := by
  clear hw
  by_cases h8 : l.length = 8
  · have hcl := Clone_c a c l w hl hr (fun h => by rcases hr with h1 | ⟨b, off, h1, _⟩ <;> simp_all)
    have hf : lift8F l = liftS 3 l := by rw [lift8F, if_pos h8]
    have HF := Lib.hid hf
    have H8 := Lib.hid h8
    rw [h8] at hcl ⊢
    have HC := Lib.hid hcl
    clear hcl hf h8 hl hr
    go_enter Try.func23, Try.ntmps23
    go_wp2_with (go_at_call 38; refine HC.out.mono ?_; rintro e w1 ⟨b, d, rfl, ho, hb⟩)
    clear HC
    have hlt1 : 0 < l.length := by rw [H8.out]; omega
    obtain ⟨g, rfl, hg1, hg2, _⟩ := ho.at_ hlt1
    clear hlt1
    have H1 : Hid (Own w.heap.size w1 (some ⟨g, 0, none⟩) d (liftS 0 l)) := ho
    have H2 := Lib.hid hb
    have HG := Lib.hid hg1
    clear ho hb hg1 hg2
    go_loopw [4] (fun v wr => ∃ s n : Nat, s ≤ 3 ∧ n = 2 ^ s ∧ v = .int .i64 n ∧ Own w.heap.size wr (some ⟨g, 0, none⟩) d (liftS s l) ∧ Below w.heap.size w wr) (fun v _ => 8 - (intOf v).toNat)
    case atStart => exact ⟨0, 1, by omega, rfl, rfl, H1.out, H2.out⟩
    case round =>
      clear H1 H2
      obtain ⟨s, v, hs, hv, rfl, ho, hb⟩ := hrel
      have H1 := Lib.hid ho
      have H2 := Lib.hid hb
      have HV := Lib.hid hv
      clear ho hb hv
      by_cases hlt : s < 3
      · have hv3 : v = 1 ∨ v = 2 ∨ v = 4 := by
          have := HV.out
          have : s = 0 ∨ s = 1 ∨ s = 2 := by omega
          rcases this with rfl | rfl | rfl <;> simp_all
        have HV3 := Lib.hid hv3
        have hv4 : v ≤ 4 := by omega
        have hv1 : 1 ≤ v := by omega
        have hvd : decide ((v : Int) ≤ 4) = true := by simp; omega
        clear hv3
        go_wp2
        obtain ⟨wz, hwz⟩ : ∃ wz : World, wz = wr := ⟨_, rfl⟩
        rw [← hwz] at H1 H2 ⊢
        clear hwz
        go_loopw [5, 6, 7, 19] (fun _ _ _ i wr => ∃ k : Nat, k ≤ 8 ∧ i = .int .i64 k ∧ Own w.heap.size wr (some ⟨g, 0, none⟩) d (stgF v k (liftS s l)) ∧ Below w.heap.size w wr) (fun _ _ _ i _ => 8 - (intOf i).toNat)
        case atStart => exact ⟨0, Nat.zero_le _, rfl, H1.out, H2.out⟩
        case round =>
          clear H1 H2
          obtain ⟨k, hk, rfl, ho, hb⟩ := hrel
          by_cases hlt2 : k < 8
          · have hlen : (stgF v k (liftS s l)).length = 8 := by rw [stgF_len, liftS_len, H8.out]
            have hbp := bits_pair k v hlt2 (by omega)
            by_cases hm : k &&& v = 0
            · obtain ⟨hor, hkv⟩ := or_sum k hlt2 v HV3.out hm
              have hand : bits BinOp.and .i64 (k : Int) (v : Int) = 0 := by rw [hbp.1, hm]; rfl
              obtain ⟨j, hj⟩ : ∃ j, j = k + v := ⟨_, rfl⟩
              have horb : bits BinOp.or .i64 (k : Int) (v : Int) = (j : Int) := by rw [hbp.2, hor, hj]
              have hj8 : j < 8 := by omega
              have HST : Hid (stgF v (k + 1) (liftS s l) = ((stgF v k (liftS s l)).set k (wrap64 ((stgF v k (liftS s l)).getD k 0 + (stgF v k (liftS s l)).getD j 0))).set j (wrap64 ((stgF v k (liftS s l)).getD k 0 - (stgF v k (liftS s l)).getD j 0))) := by
                show stgF v (k + 1) (liftS s l) = _
                rw [stgF, stF, if_pos hm, ← hj]
              have hkj : k ≠ j := by omega
              clear hm hor hbp hj
              generalize stgF v k (liftS s l) = X at *
              have c0 := ho.cellAt (i := k) (by omega)
              have c1 := ho.cellAt (i := j) (by omega)
              have f0 := ho.frozenAt k
              have f1 := ho.frozenAt j
              have o2 := (ho.stored k (wrap64 (X.getD k 0 + X.getD j 0))).stored j (wrap64 (X.getD k 0 - X.getD j 0))
              rw [← HST.out] at o2
              have b2 := (hb.setCell (p := ⟨g, k, none⟩) HG.out (.int .i64 (wrap64 (X.getD k 0 + X.getD j 0)))).setCell (p := ⟨g, j, none⟩) HG.out (.int .i64 (wrap64 (X.getD k 0 - X.getD j 0)))
              have c1' : (wr.setCell ⟨g, k, none⟩ (.int .i64 (wrap64 (X.getD k 0 + X.getD j 0)))).cell? ⟨g, j, none⟩ = some (.int .i64 (X.getD j 0)) := (World.cell?_setCell_other _ _ _ _ (by simp; try omega)).trans c1
              have H3 := Lib.hid o2
              have H4 := Lib.hid b2
              clear o2 b2 ho hb
              generalize X.getD k 0 = p at *
              generalize X.getD j 0 = q at *
              have z1 : (j : Int) < 8 := by omega
              have z2 : (k : Int) < 8 := by omega
              go_wp2
              go_quiet (fail)
              go_wp2
              go_roundw
              case rel => exact ⟨k + 1, by omega, by go_num, H3.out.drewN _, below_drewN' H4.out _⟩
              case measure => simp [intOf]; omega
            · have hand : bits BinOp.and .i64 (k : Int) (v : Int) = ((k &&& v : Nat) : Int) := hbp.1
              obtain ⟨m, hm2⟩ : ∃ m, m = k &&& v := ⟨_, rfl⟩
              rw [← hm2] at hand hm
              have hmb : ((m : Int) == 0) = false := by simp; omega
              have HST : Hid (stgF v (k + 1) (liftS s l) = stgF v k (liftS s l)) := by
                show stgF v (k + 1) (liftS s l) = _
                rw [stgF, stF, if_neg (by omega)]
              have H3 := Lib.hid ho
              have H4 := Lib.hid hb
              clear ho hb hm hm2 hbp hlen
              go_wp2
              go_roundw
              case rel => exact ⟨k + 1, by omega, by go_num, by rw [HST.out]; exact H3.out, H4.out⟩
              case measure => simp [intOf]; omega
          · obtain rfl : k = 8 := by omega
            have HE : Hid (stgF v 8 (liftS s l) = liftS (s + 1) l) := by show _ = _; rw [liftS, HV.out]
            rw [HE.out] at ho
            have H3 := Lib.hid ho
            have H4 := Lib.hid hb
            clear ho hb
            go_wp2
            go_roundw
            case rel => exact ⟨s + 1, v * 2, by omega, by rw [Nat.pow_succ, HV.out], by go_num, H3.out, H4.out⟩
            case measure => simp [intOf]; omega
      · obtain rfl : s = 3 := by omega
        obtain rfl : v = 8 := HV.out
        go_wp2
        go_ret
        rw [HF.out]
        exact ⟨_, _, ret_slice (by rw [liftS_len, H8.out]), H1.out, H2.out⟩
  · have hf : lift8F l = [] := by rw [lift8F, if_neg h8]
    rw [hf]
    have hne : ((l.length : Int) != 8) = true := by simp; omega
    clear hf h8
    go_enter Try.func23, Try.ntmps23
    go_wp2
    go_ret
    exact ⟨_, _, rfl, Own.none_ _ _, Below.refl _ _⟩


set_option maxHeartbeats 2000000 in
theorem spec.Lift8_c (a : Option Addr) (c : Nat) (l : List Int) (w : World) (hl : l.length ≤ 1099511627776) (hr : Row w a l) (hw : ∀ x ∈ l, -9223372036854775808 ≤ x ∧ x ≤ 9223372036854775807) :
    Calls Try.prog 55 #[.slice a l.length c] w fun e w' => ∃ b d, e = .returned (.slice b (lift8F l).length d) ∧ Own w.heap.size w' b d (lift8F l) ∧ Below w.heap.size w w' := by
  clear hw
  by_cases h8 : l.length = 8
  · have hf : lift8F l = liftS 3 l := by rw [lift8F, if_pos h8]
    have HF := Lib.hid hf
    have H8 := Lib.hid h8
    have HR := Lib.hid hr
    obtain ⟨bq, offq, rfl, _⟩ := hr.all (by omega)
    rw [h8]
    clear hf h8 hl hr
    go_enter Try.func55, Try.ntmps55
    go_wp2_with (at_builtin; refine append_many Try.underlying22 Try.infoInt rfl (.tmp 12) (.tmp 13) rfl w.heap.size _ _ 0 [] rfl rfl (Own.lit w #[] [] rfl (Nat.le_refl _) (by simp [maxLen])) ⟨bq, offq, none⟩ 8 c l H8.out rfl (HR.out.alloc _) ?_ ?_ ?_; (omega); (simp); intro b d w1 ho hb1)
    have hb := ((Below.refl w.heap.size w).alloc (Nat.le_refl _) (.cells #[] 3)).trans hb1
    clear hb1 HR
    simp only [List.nil_append] at ho
    have hlt1 : 0 < l.length := by rw [H8.out]; omega
    obtain ⟨g, rfl, hg1, hg2, _⟩ := ho.at_ hlt1
    clear hlt1
    have H1 : Hid (Own w.heap.size w1 (some ⟨g, 0, none⟩) d (liftS 0 l)) := ho
    have H2 := Lib.hid hb
    have HG := Lib.hid hg1
    clear ho hb hg1 hg2
    go_wp2
    go_loopw [4] (fun v wr => ∃ s n : Nat, s ≤ 3 ∧ n = 2 ^ s ∧ v = .int .i64 n ∧ Own w.heap.size wr (some ⟨g, 0, none⟩) d (liftS s l) ∧ Below w.heap.size w wr) (fun v _ => 8 - (intOf v).toNat)
    case atStart => exact ⟨0, 1, by omega, rfl, rfl, H1.out, H2.out⟩
    case round =>
      clear H1 H2
      obtain ⟨s, v, hs, hv, rfl, ho, hb⟩ := hrel
      have H1 := Lib.hid ho
      have H2 := Lib.hid hb
      have HV := Lib.hid hv
      clear ho hb hv
      by_cases hlt : s < 3
      · have hv3 : v = 1 ∨ v = 2 ∨ v = 4 := by
          have := HV.out
          have : s = 0 ∨ s = 1 ∨ s = 2 := by omega
          rcases this with rfl | rfl | rfl <;> simp_all
        have HV3 := Lib.hid hv3
        have hv4 : v ≤ 4 := by omega
        have hv1 : 1 ≤ v := by omega
        have hvd : decide ((v : Int) < 8) = true := by simp; omega
        clear hv3
        go_wp2
        obtain ⟨wz, hwz⟩ : ∃ wz : World, wz = wr := ⟨_, rfl⟩
        rw [← hwz] at H1 H2 ⊢
        clear hwz
        go_loopw [5, 6, 7] (fun i _ _ wr => ∃ k : Nat, k ≤ 8 ∧ i = .int .i64 k ∧ Own w.heap.size wr (some ⟨g, 0, none⟩) d (stgF v k (liftS s l)) ∧ Below w.heap.size w wr) (fun i _ _ _ => 8 - (intOf i).toNat)
        case atStart => exact ⟨0, Nat.zero_le _, rfl, H1.out, H2.out⟩
        case round =>
          clear H1 H2
          obtain ⟨k, hk, rfl, ho, hb⟩ := hrel
          by_cases hlt2 : k < 8
          · have hlen : (stgF v k (liftS s l)).length = 8 := by rw [stgF_len, liftS_len, H8.out]
            have hbp := bits_pair k v hlt2 (by omega)
            by_cases hm : k &&& v = 0
            · obtain ⟨hor, hkv⟩ := or_sum k hlt2 v HV3.out hm
              have hand : bits BinOp.and .i64 (k : Int) (v : Int) = 0 := by rw [hbp.1, hm]; rfl
              obtain ⟨j, hj⟩ : ∃ j, j = k + v := ⟨_, rfl⟩
              have hsum : (k : Int) + (v : Int) = (j : Int) := by omega
              have hj8 : j < 8 := by omega
              have HST : Hid (stgF v (k + 1) (liftS s l) = ((stgF v k (liftS s l)).set k (wrap64 ((stgF v k (liftS s l)).getD k 0 + (stgF v k (liftS s l)).getD j 0))).set j (wrap64 ((stgF v k (liftS s l)).getD k 0 - (stgF v k (liftS s l)).getD j 0))) := by
                show stgF v (k + 1) (liftS s l) = _
                rw [stgF, stF, if_pos hm, ← hj]
              have hkj : k ≠ j := by omega
              clear hm hor hbp hj
              generalize stgF v k (liftS s l) = X at *
              have c0 := ho.cellAt (i := k) (by omega)
              have c1 := ho.cellAt (i := j) (by omega)
              have f0 := ho.frozenAt k
              have f1 := ho.frozenAt j
              have o2 := (ho.stored k (wrap64 (X.getD k 0 + X.getD j 0))).stored j (wrap64 (X.getD k 0 - X.getD j 0))
              rw [← HST.out] at o2
              have b2 := (hb.setCell (p := ⟨g, k, none⟩) HG.out (.int .i64 (wrap64 (X.getD k 0 + X.getD j 0)))).setCell (p := ⟨g, j, none⟩) HG.out (.int .i64 (wrap64 (X.getD k 0 - X.getD j 0)))
              have c1' : (wr.setCell ⟨g, k, none⟩ (.int .i64 (wrap64 (X.getD k 0 + X.getD j 0)))).cell? ⟨g, j, none⟩ = some (.int .i64 (X.getD j 0)) := (World.cell?_setCell_other _ _ _ _ (by simp; try omega)).trans c1
              have H3 := Lib.hid o2
              have H4 := Lib.hid b2
              clear o2 b2 ho hb
              generalize X.getD k 0 = p at *
              generalize X.getD j 0 = q at *
              have z1 : (j : Int) < 8 := by omega
              have z2 : (k : Int) < 8 := by omega
              go_wp2
              go_roundw
              case rel => exact ⟨k + 1, by omega, by go_num, H3.out, H4.out⟩
              case measure => simp [intOf]; omega
            · have hand : bits BinOp.and .i64 (k : Int) (v : Int) = ((k &&& v : Nat) : Int) := hbp.1
              obtain ⟨m, hm2⟩ : ∃ m, m = k &&& v := ⟨_, rfl⟩
              rw [← hm2] at hand hm
              have hmb : ((m : Int) == 0) = false := by simp; omega
              have HST : Hid (stgF v (k + 1) (liftS s l) = stgF v k (liftS s l)) := by
                show stgF v (k + 1) (liftS s l) = _
                rw [stgF, stF, if_neg (by omega)]
              have H3 := Lib.hid ho
              have H4 := Lib.hid hb
              clear ho hb hm hm2 hbp hlen
              go_wp2
              go_roundw
              case rel => exact ⟨k + 1, by omega, by go_num, by rw [HST.out]; exact H3.out, H4.out⟩
              case measure => simp [intOf]; omega
          · obtain rfl : k = 8 := by omega
            have HE : Hid (stgF v 8 (liftS s l) = liftS (s + 1) l) := by show _ = _; rw [liftS, HV.out]
            rw [HE.out] at ho
            have H3 := Lib.hid ho
            have H4 := Lib.hid hb
            clear ho hb
            go_wp2
            go_roundw
            case rel => exact ⟨s + 1, v * 2, by omega, by rw [Nat.pow_succ, HV.out], by go_num, H3.out, H4.out⟩
            case measure => simp [intOf]; omega
      · obtain rfl : s = 3 := by omega
        obtain rfl : v = 8 := HV.out
        go_wp2
        go_ret
        rw [HF.out]
        exact ⟨_, _, ret_slice (by rw [liftS_len, H8.out]), H1.out, H2.out⟩
  · have hf : lift8F l = [] := by rw [lift8F, if_neg h8]
    rw [hf]
    have hne : ((l.length : Int) != 8) = true := by simp; omega
    clear hf h8
    go_enter Try.func55, Try.ntmps55
    go_wp2
    go_ret
    exact ⟨_, _, rfl, Own.lit _ _ [] rfl (Nat.le_refl _) (by simp [maxLen]), (Below.refl _ _).alloc (Nat.le_refl _) _⟩

end Go.Proofs.Ytchabkkpdafkiaa
