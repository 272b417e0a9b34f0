/- For every input the law FnFlat returns true and leaves its arguments as they were; no condition. -/
import Derived.Test.YtbdggcefgiehkaaMem
import Derived.Test.YtbdggcefgiehkaaFrm
import Derived.Test.YtbdggcefgiehkaaNbG
import Derived.Test.YtbdggcefgiehkaaPred
import Derived.Test.YtbdggcefgiehkaaDraw
import Derived.Test.YtbdggcefgiehkaaDrawR
namespace Go.Proofs.Ytbdggcefgiehkaa.fnFlat
open Go.ChangeShapes Go.WideShapes Go.ChangeAt Go.RowKit Go.Joins
set_option linter.unusedVariables false
-- DEEP
def rep (v : Int) (k : Nat) : List Int := tab (fun _ => v) k
theorem rep_len (v : Int) (k : Nat) : (rep v k).length = k := tab_len _ _
theorem rep_at (v : Int) {k i : Nat} (h : i < k) : (rep v k).getD i 0 = v := tab_getD _ _ _ h
theorem rep_succ (v : Int) (k : Nat) : rep v (k + 1) = rep v k ++ [v] := tab_succ _ _
theorem rep_mem {v x : Int} {k : Nat} (h : x ∈ rep v k) : x = v := by
  simp [rep, tab] at h
  exact h.2.symm
theorem sumP_rep (v : Int) (k : Nat) : ∀ n, n ≤ k → sumP (rep v k) n = n * v
  | 0, _ => by simp [sumP]
  | n + 1, h => by
    rw [sumP, sumP_rep v k n (by omega), rep_at v (by omega)]
    push_cast
    rw [Int.add_mul, Int.one_mul]
theorem allR_rep {v : Int} (h : 0 ≤ v ∧ v ≤ 255) (k : Nat) : allR 0 255 (rep v k) = true := by
  unfold allR
  rw [List.all_eq_true]
  intro x hx
  rw [rep_mem hx]
  exact inR_mk h
theorem nbB_rep {v : Int} (h : 0 ≤ v ∧ v ≤ 255) {n : Nat} (hn : n = 4 ∨ n = 8) : nbB (rep v (2 * n)) (rep v n) v n = true := by
  have h1 : inR 0 255 v = true := inR_mk h
  rw [nbB, allR_rep h, allR_rep h, h1, rep_len, rep_len]
  rcases hn with rfl | rfl <;> rfl
theorem meanV_rep (v : Int) {n : Nat} (hn : n = 4 ∨ n = 8) : meanV (rep v (2 * n)) (rep v n) true true n = v := by
  simp only [meanV, if_true]
  rw [sumP_rep v _ _ (by omega), sumP_rep v _ _ (by omega)]
  rcases hn with rfl | rfl <;> (push_cast; omega)
theorem soft_same (v : Int) : softF v v v = v := by unfold softF; omega
theorem border_rep (v : Int) {n i : Nat} (h : i < 2 * n + 1) : (borderL (rep v (2 * n)) (rep v n) v n).getD i 0 = v := by
  have hmem : ∀ x ∈ borderL (rep v (2 * n)) (rep v n) v n, x = v := by
    intro x hx
    simp only [borderL, tab, List.mem_append, List.mem_map, List.mem_range, List.mem_singleton] at hx
    rcases hx with (⟨j, hj, rfl⟩ | rfl) | ⟨j, hj, rfl⟩
    · exact rep_at v (by omega)
    · rfl
    · exact rep_at v (by omega)
  rw [getD_lt (by rw [borderL_len]; exact h)]
  exact hmem _ (List.getElem_mem _)
theorem predV_rep {v : Int} (h : 0 ≤ v ∧ v ≤ 255) {n : Nat} (hn : n = 4 ∨ n = 8) {m : Int} (hm : 0 ≤ m ∧ m ≤ 5) {x y : Nat} (hx : x < n) (hy : y < n) : predV (rep v (2 * n)) (rep v n) v true true n m x y = v := by
  unfold predV
  split
  · exact meanV_rep v hn
  · split
    · exact rep_at v (by omega)
    · split
      · exact rep_at v hy
      · split
        · rw [rep_at v hy, rep_at v (by omega)]
          unfold clipF
          omega
        · split
          · rw [rep_at v (by omega), rep_at v (by omega), rep_at v (by omega), soft_same]
          · split
            · rw [border_rep v (by omega), border_rep v (by omega), border_rep v (by omega), soft_same]
            · omega
theorem predL_rep {v : Int} (h : 0 ≤ v ∧ v ≤ 255) {n : Nat} (hn : n = 4 ∨ n = 8) {m : Int} (hm : 0 ≤ m ∧ m ≤ 5) : predLF (rep v (2 * n)) (rep v n) v true true m n = rep v (n * n) := by
  have h1 : inR 0 5 m = true := inR_mk hm
  have h2 : predLB (rep v (2 * n)) (rep v n) v n m = true := by rw [predLB, nbB_rep h hn, h1]; rfl
  rw [predLF, if_pos h2]
  show tab _ ((n : Int).toNat * (n : Int).toNat) = rep v (n * n)
  rw [Int.toNat_natCast]
  refine tab_congr fun i hi => ?_
  have hn0 : 0 < n := by omega
  exact predV_rep h hn hm (Nat.mod_lt _ hn0) (Nat.div_lt_of_lt_mul hi)

set_option maxRecDepth 100000 in
set_option maxHeartbeats 4000000 in
theorem walk (w : World) (a0 : Option Addr) (c0 : Nat) (l0 : List Int) (r0 : RowB w a0 l0) (w0 : ∀ x ∈ l0, 0 ≤ x ∧ x ≤ 255) :
    Calls Try.prog 3 #[.slice a0 l0.length c0] w fun e w' => e = .returned (.bool true) ∧ Below w.heap.size w w' := by
  by_cases hbig : 1048576 < l0.length
  · have HB := Lib.hid (big_c a0 c0 l0.length w)
    rw [decide_eq_true hbig] at HB
    clear hbig r0 w0
    go_enter Try.func3, Try.ntmps3
    go_wp2_with (go_at_call 9; refine HB.out.mono ?_; rintro e w' ⟨rfl, rfl⟩)
    go_ret
    exact ⟨rfl, Below.refl _ _⟩
  · have HB := Lib.hid (big_c a0 c0 l0.length w)
    rw [decide_eq_false hbig] at HB
    have hv := atF_bd w0 0
    have hu := atF_bd w0 1
    have H1 : Hid (Calls Try.prog 10 #[.slice a0 l0.length c0, .int .i64 0] w fun e w' => e = .returned (.int .i64 (atF l0 0)) ∧ w = w') := Lib.hid (at_c a0 c0 l0 0 w (by omega) (by omega) r0 w0)
    have H2 : Hid (Calls Try.prog 10 #[.slice a0 l0.length c0, .int .i64 1] w fun e w' => e = .returned (.int .i64 (atF l0 1)) ∧ w = w') := Lib.hid (at_c a0 c0 l0 1 w (by omega) (by omega) r0 w0)
    generalize atF l0 0 = v at *
    generalize atF l0 1 = u at *
    obtain ⟨hv0, hv1⟩ := hv
    have hv63 : IntKind.i64.wrap v = v := IntWalk.i64_in _ (by omega)
    have HK : Hid (Below w.heap.size w w) := Lib.hid (Below.refl _ _)
    have hu2 : u.tmod 2 = u % 2 := Int.tmod_eq_emod_of_nonneg hu.1
    have hu3 : u % 2 = 0 ∨ u % 2 = 1 := by omega
    clear hbig r0 w0 hu
    rcases hu3 with q3 | q3
    · have q1 : u.tmod 2 = 0 := by omega
      have HPL : Hid (∀ m : Int, 0 ≤ m ∧ m ≤ 5 → predLF (rep v 8) (rep v 4) v true true m 4 = rep v 16) := Lib.hid (fun m hm => predL_rep (n := 4) ⟨hv0, hv1⟩ (by omega) hm)
      have HNB : Hid (nbB (rep v 8) (rep v 4) v 4 = true) := Lib.hid (nbB_rep (n := 4) ⟨hv0, hv1⟩ (by omega))
      have HME : Hid (meanF (rep v 8) (rep v 4) v true true 4 = v) := Lib.hid (by rw [meanF, if_pos HNB.out]; exact meanV_rep (n := 4) v (by omega))
      have HBL : Hid ((borderF (rep v 8) (rep v 4) v 4).length = 9) := Lib.hid (by rw [borderF, if_pos HNB.out]; exact borderL_len _ _ _ _)
      have HLM : Hid ((rep v 8).length = 8 ∧ (rep v 4).length = 4 ∧ (rep v 16).length = 16) := Lib.hid ⟨rep_len _ _, rep_len _ _, rep_len _ _⟩
      have HWI : Hid (∀ k, ∀ x ∈ rep v k, -9223372036854775808 ≤ x ∧ x ≤ 9223372036854775807) := Lib.hid (fun k x hx => by rw [rep_mem hx]; omega)
      go_enter Try.func3, Try.ntmps3
      go_wp2_with (go_at_call 9; refine HB.out.mono ?_; rintro e w' ⟨rfl, rfl⟩)
      refine H1.out.mono ?_
      rintro e w' ⟨rfl, rfl⟩
      go_wp2_with fail
      refine H2.out.mono ?_
      rintro e w' ⟨rfl, rfl⟩
      go_wp2
      have HN0 := Lib.hid (NbR.new w w 27 v true true (Below.refl _ _))
      obtain ⟨kb, hkb⟩ : ∃ kb, kb = w.heap.size := ⟨_, rfl⟩
      obtain ⟨w1, hw1⟩ : ∃ w1, w1 = w.alloc (.cells #[.slice none 0 0, .slice none 0 0, .int .i64 v, .bool true, .bool true] 27) := ⟨_, rfl⟩
      rw [← hkb, ← hw1] at HN0
      rw [← hkb, ← hw1]
      clear hkb hw1 HB H1 H2 hu2
      go_loopw [6] (fun o wr => ∃ (i : Nat) (xa : Option Addr) (p : Nat) (ya : Option Addr) (q : Nat), i ≤ 8 ∧ o = .int .i64 i ∧ NbR w kb xa p (rep v i) ya q (rep v (min i 4)) v true true wr) (fun o _ => 8 - (intOf o).toNat)
      case atStart => exact ⟨0, none, 0, none, 0, by omega, rfl, HN0.out⟩
      case round =>
        obtain ⟨i, xa, p, ya, q, hi, rfl, hR⟩ := hrel
        by_cases hlt : i < 8
        · by_cases hlN : i < 4
          · rw [Nat.min_eq_left (Nat.le_of_lt hlN)] at hR
            have HR := Lib.hid hR
            obtain ⟨c0, c1, c2, c3, c4⟩ := hR.cells
            have f0 := hR.frz 0
            have HLE := Lib.hid hR.le
            have HRA : Hid ((rep v i).length = i) := Lib.hid (rep_len _ _)
            have HTO := Lib.hid hR.top_
            rw [HRA.out] at c0 c1
            clear hR
            go_wp2_with (first
              | (at_builtin; refine append_one_l Try.underlying25 Try.infoInt rfl (.tmp 28) (.tmp 30) rfl (kb + 1) xa p i (rep v i) HRA.out rfl (HTO.out.alloc _) wr.heap.size v rfl ?_ ?_ ?_ ?_; (simp); (omega); (have := HLE.out; simp; omega); intro g1 cc1 w9 ho9 hg9 hat9; obtain ⟨⟨hk9, e0, e1, e2, e3, e4⟩, hF9⟩ := (HR.out.alloc _).mid hg9 (.inl rfl); have f90 := hF9 0; have f91 := hF9 1; rw [HRA.out] at e0 e1; have HT1 : Hid (NbR w kb (some ⟨g1, 0, none⟩) cc1 (rep v (i + 1)) ya q (rep v i) v true true (w9.setCell ⟨kb, 0, none⟩ (.slice (some ⟨g1, 0, none⟩) (i + 1) cc1))) := Lib.hid (by have h := (HR.out.alloc _).top ho9 hg9 hat9; rw [HRA.out] at h; rw [rep_succ]; exact h); have HS9 := Lib.hid HT1.out.le; clear ho9 hg9 hat9 hF9)
              | (at_builtin; refine append_one_l Try.underlying25 Try.infoInt rfl (.tmp 37) (.tmp 39) rfl (kb + 1) ya q i (rep v i) HRA.out rfl (HT1.out.left_.alloc _) (w9.setCell ⟨kb, 0, none⟩ (.slice (some ⟨g1, 0, none⟩) (i + 1) cc1)).heap.size v ?_ ?_ ?_ ?_ ?_; (simp [go_sem]); (simp [go_sem]); (omega); (have := HS9.out; simp at this ⊢; omega); intro g2 cc2 w10 ho10 hg10 hat10; obtain ⟨⟨hk10, i0, i1, i2, i3, i4⟩, hF10⟩ := (HT1.out.alloc _).mid hg10 (.inr rfl); have f101 := hF10 1; rw [HRA.out] at i1; have HT2 : Hid (NbR w kb (some ⟨g1, 0, none⟩) cc1 (rep v (i + 1)) (some ⟨g2, 0, none⟩) cc2 (rep v (i + 1)) v true true (w10.setCell ⟨kb, 1, none⟩ (.slice (some ⟨g2, 0, none⟩) (i + 1) cc2))) := Lib.hid (by have h := (HT1.out.alloc _).left ho10 hg10 hat10; rw [HRA.out] at h; rw [rep_succ v i] at h ⊢; exact h); clear ho10 hg10 hat10 hF10))
            go_roundw
            case rel => exact ⟨i + 1, _, _, _, _, by omega, by go_num, by rw [Nat.min_eq_left (by omega)]; exact HT2.out⟩
            case measure => simp [intOf]; omega
          · have em : min i 4 = 4 := by omega
            have em' : min (i + 1) 4 = 4 := by omega
            rw [em] at hR
            have HR := Lib.hid hR
            obtain ⟨c0, c1, c2, c3, c4⟩ := hR.cells
            have f0 := hR.frz 0
            have HLE := Lib.hid hR.le
            have HRA : Hid ((rep v i).length = i) := Lib.hid (rep_len _ _)
            have HRB : Hid ((rep v 4).length = 4) := Lib.hid (rep_len _ _)
            have HTO := Lib.hid hR.top_
            have HEM := Lib.hid em'
            rw [HRA.out] at c0
            rw [HRB.out] at c1
            clear hR em em'
            go_wp2_with (at_builtin; refine append_one_l Try.underlying25 Try.infoInt rfl (.tmp 28) (.tmp 30) rfl (kb + 1) xa p i (rep v i) HRA.out rfl (HTO.out.alloc _) wr.heap.size v rfl ?_ ?_ ?_ ?_; (simp); (omega); (have := HLE.out; simp; omega); intro g1 cc1 w9 ho9 hg9 hat9; obtain ⟨⟨hk9, e0, e1, e2, e3, e4⟩, hF9⟩ := (HR.out.alloc _).mid hg9 (.inl rfl); have f90 := hF9 0; rw [HRA.out] at e0; have HT1 : Hid (NbR w kb (some ⟨g1, 0, none⟩) cc1 (rep v (i + 1)) ya q (rep v 4) v true true (w9.setCell ⟨kb, 0, none⟩ (.slice (some ⟨g1, 0, none⟩) (i + 1) cc1))) := Lib.hid (by have h := (HR.out.alloc _).top ho9 hg9 hat9; rw [HRA.out] at h; rw [rep_succ]; exact h); clear ho9 hg9 hat9 hF9)
            go_roundw
            case rel => exact ⟨i + 1, _, _, _, _, by omega, by go_num, by rw [HEM.out]; exact HT1.out⟩
            case measure => simp [intOf]; omega
        · have hiM : i = 8 := by omega
          have hiZ : (i : Int) = 8 := by omega
          rw [hiM, Nat.min_eq_right (by omega)] at hR
          rw [hiZ]
          clear hi hlt hiM hiZ
          have HR : Hid (NbR w kb xa p (rep v 8) ya q (rep v 4) v true true wr) := Lib.hid hR
          obtain ⟨w2, hw2⟩ : ∃ w2, w2 = wr := ⟨_, rfl⟩
          have HX : Hid (∀ x, Below w2.heap.size w2 x → Row x xa (rep v 8) ∧ Row x ya (rep v 4) ∧ Box5 x kb (.slice xa 8 p) (.slice ya 4 q) (.int .i64 v) (.bool true) (.bool true) ∧ Below w.heap.size w x) := Lib.hid (fun x hx => by
            rw [hw2] at hx
            have h := HR.out.below hx
            have hc := h.1
            rw [rep_len, rep_len] at hc
            exact ⟨h.top_.row, h.left_.row, hc, h.bel⟩)
          have hcp : 8 ≤ p ∧ 4 ≤ q := by have h1 := hR.top_.cap; have h2 := hR.left_.cap; rw [rep_len] at h1 h2; exact ⟨h1, h2⟩
          have HPR : Hid (∀ (m : Int) x, 0 ≤ m ∧ m ≤ 5 → Below w2.heap.size w2 x → Calls Try.prog 11 #[.int .i64 m, nbv xa 8 p ya 4 q v true true, .int .i64 4] x fun e w' => ∃ b d, e = .returned (.slice b 16 d) ∧ Own x.heap.size w' b d (rep v 16) ∧ Below x.heap.size x w') := Lib.hid (fun m x hm hx => by
            have h := impl.FastPred_c m xa p (rep v 8) ya q (rep v 4) v true true 4 x (by rw [rep_len]; omega) (HX.out x hx).1 (HWI.out _) (by rw [rep_len]; omega) (HX.out x hx).2.1 (HWI.out _) (by omega) (by rw [rep_len]; omega) (by rw [rep_len]; omega)
            rw [HPL.out m hm, rep_len, rep_len, rep_len] at h
            exact h)
          have HMN : Hid (∀ x, Below w2.heap.size w2 x → Calls Try.prog 12 #[nbv xa 8 p ya 4 q v true true, .int .i64 4] x fun e w' => e = .returned (.int .i64 v) ∧ Below x.heap.size x w') := Lib.hid (fun x hx => by
            have h := impl.Mean_c xa p (rep v 8) ya q (rep v 4) v true true 4 x (by rw [rep_len]; omega) (HX.out x hx).1 (HWI.out _) (by rw [rep_len]; omega) (HX.out x hx).2.1 (HWI.out _) (by omega) (by rw [rep_len]; omega) (by rw [rep_len]; omega)
            rw [HME.out, rep_len, rep_len] at h
            exact h)
          have HBO : Hid (∀ x, Below w2.heap.size w2 x → Calls Try.prog 13 #[nbv xa 8 p ya 4 q v true true, .int .i64 4] x fun e w' => ∃ b d, e = .returned (.slice b 9 d) ∧ Below x.heap.size x w') := Lib.hid (fun x hx => by
            have h := impl.Border_c xa p (rep v 8) ya q (rep v 4) v true true 4 x (by rw [rep_len]; omega) (HX.out x hx).1 (HWI.out _) (by rw [rep_len]; omega) (HX.out x hx).2.1 (HWI.out _) (by omega) (by rw [rep_len]; omega) (by rw [rep_len]; omega)
            rw [HBL.out, rep_len, rep_len] at h
            exact h.mono fun e w' ⟨b, d, h1, _, h3⟩ => ⟨b, d, h1, h3⟩)
          have HOK : Hid (∀ x, Below w2.heap.size w2 x → Calls Try.prog 14 #[nbv xa 8 p ya 4 q v true true, .int .i64 4] x fun e w' => e = .returned (.bool true) ∧ Below x.heap.size x w') := Lib.hid (fun x hx => by
            have h := impl.NbOk_c xa p (rep v 8) ya q (rep v 4) v true true 4 x (by rw [rep_len]; omega) (HX.out x hx).1 (HWI.out _) (by rw [rep_len]; omega) (HX.out x hx).2.1 (HWI.out _) (by omega)
            rw [HNB.out, rep_len, rep_len] at h
            exact h)
          clear HPL HNB HME HBL HWI hR HR HK HLM hcp
          rw [← hw2]
          clear hw2
          go_wp2
          go_loopw [7] (fun o wx => ∃ m : Nat, m ≤ 6 ∧ o = .int .i64 m ∧ Below w2.heap.size w2 wx) (fun o _ => 6 - (intOf o).toNat)
          case atStart => exact ⟨0, by omega, rfl, Below.refl _ _⟩
          case round =>
            obtain ⟨m, hm, rfl, kx⟩ := hrel
            have HKX := Lib.hid kx
            obtain ⟨hkl, c0, c1, c2, c3, c4⟩ := (HX.out _ kx).2.2.1
            clear kx
            by_cases hlt : m < 6
            · have hltd : decide ((m : Int) < 6) = true := by simp; omega
              go_wp2_with fail
              refine (HPR.out m wr (by omega) HKX.out).mono ?_
              rintro e w3 ⟨b, d, rfl, o3, k3⟩
              have HR3 := Lib.hid o3.row
              have HB3 := Lib.hid (below_next HKX.out k3)
              clear o3 k3
              go_wp2
              go_loopw [9] (fun o wx => ∃ j : Nat, j ≤ 16 ∧ o = .int .i64 j ∧ Below w3.heap.size w3 wx) (fun o _ => 16 - (intOf o).toNat)
              case atStart => exact ⟨0, by omega, rfl, Below.refl _ _⟩
              case round =>
                obtain ⟨j, hj, rfl, ky⟩ := hrel
                by_cases hlj : j < 16
                · have hltd2 : decide ((j : Int) < 16) = true := by simp; omega
                  obtain ⟨gp, fp, rfl, hcp⟩ := (HR3.out.below ky (Nat.le_refl _)).at_ (i := j) (by rw [rep_len]; exact hlj)
                  rw [rep_at v hlj] at hcp
                  have HKY := Lib.hid ky
                  have hne : ∀ b : Int, (b != b) = false := by intro b; simp
                  clear ky
                  go_wp2
                  go_roundw
                  case rel => exact ⟨j + 1, by omega, by go_num, by first | exact HKY.out | exact HKY.out.drew⟩
                  case measure => simp [intOf]; omega
                · obtain rfl : j = 16 := by omega
                  have HKZ := Lib.hid (below_next HB3.out ky)
                  clear ky
                  go_wp2
                  go_roundw
                  case rel => exact ⟨m + 1, by omega, by go_num, HKZ.out⟩
                  case measure => simp [intOf]; omega
            · obtain rfl : m = 6 := by omega
              go_wp2_with fail
              refine (HMN.out wr HKX.out).mono ?_
              rintro e w3 ⟨rfl, k3⟩
              have k3 := below_next HKX.out k3
              obtain ⟨hkl3, d0, d1, d2, d3, d4⟩ := (HX.out _ k3).2.2.1
              go_wp2_with fail
              refine (HBO.out w3 k3).mono ?_
              rintro e w4 ⟨b4, d4', rfl, k4⟩
              have k4 := below_next k3 k4
              obtain ⟨hkl4, e0, e1, e2, e3, e4⟩ := (HX.out _ k4).2.2.1
              go_wp2_with fail
              refine (HOK.out w4 k4).mono ?_
              rintro e w5 ⟨rfl, k5⟩
              have k5 := below_next k4 k5
              have HF := Lib.hid (HX.out _ k5).2.2.2
              clear k3 k4 k5
              go_wp2
              go_ret
              exact ⟨ret_bool (by first | rfl | simp), HF.out⟩
    · have q1 : u.tmod 2 = 1 := by omega
      have HPL : Hid (∀ m : Int, 0 ≤ m ∧ m ≤ 5 → predLF (rep v 16) (rep v 8) v true true m 8 = rep v 64) := Lib.hid (fun m hm => predL_rep (n := 8) ⟨hv0, hv1⟩ (by omega) hm)
      have HNB : Hid (nbB (rep v 16) (rep v 8) v 8 = true) := Lib.hid (nbB_rep (n := 8) ⟨hv0, hv1⟩ (by omega))
      have HME : Hid (meanF (rep v 16) (rep v 8) v true true 8 = v) := Lib.hid (by rw [meanF, if_pos HNB.out]; exact meanV_rep (n := 8) v (by omega))
      have HBL : Hid ((borderF (rep v 16) (rep v 8) v 8).length = 17) := Lib.hid (by rw [borderF, if_pos HNB.out]; exact borderL_len _ _ _ _)
      have HLM : Hid ((rep v 16).length = 16 ∧ (rep v 8).length = 8 ∧ (rep v 64).length = 64) := Lib.hid ⟨rep_len _ _, rep_len _ _, rep_len _ _⟩
      have HWI : Hid (∀ k, ∀ x ∈ rep v k, -9223372036854775808 ≤ x ∧ x ≤ 9223372036854775807) := Lib.hid (fun k x hx => by rw [rep_mem hx]; omega)
      go_enter Try.func3, Try.ntmps3
      go_wp2_with (go_at_call 9; refine HB.out.mono ?_; rintro e w' ⟨rfl, rfl⟩)
      refine H1.out.mono ?_
      rintro e w' ⟨rfl, rfl⟩
      go_wp2_with fail
      refine H2.out.mono ?_
      rintro e w' ⟨rfl, rfl⟩
      go_wp2
      have HN0 := Lib.hid (NbR.new w w 27 v true true (Below.refl _ _))
      obtain ⟨kb, hkb⟩ : ∃ kb, kb = w.heap.size := ⟨_, rfl⟩
      obtain ⟨w1, hw1⟩ : ∃ w1, w1 = w.alloc (.cells #[.slice none 0 0, .slice none 0 0, .int .i64 v, .bool true, .bool true] 27) := ⟨_, rfl⟩
      rw [← hkb, ← hw1] at HN0
      rw [← hkb, ← hw1]
      clear hkb hw1 HB H1 H2 hu2
      go_loopw [6] (fun o wr => ∃ (i : Nat) (xa : Option Addr) (p : Nat) (ya : Option Addr) (q : Nat), i ≤ 16 ∧ o = .int .i64 i ∧ NbR w kb xa p (rep v i) ya q (rep v (min i 8)) v true true wr) (fun o _ => 16 - (intOf o).toNat)
      case atStart => exact ⟨0, none, 0, none, 0, by omega, rfl, HN0.out⟩
      case round =>
        obtain ⟨i, xa, p, ya, q, hi, rfl, hR⟩ := hrel
        by_cases hlt : i < 16
        · by_cases hlN : i < 8
          · rw [Nat.min_eq_left (Nat.le_of_lt hlN)] at hR
            have HR := Lib.hid hR
            obtain ⟨c0, c1, c2, c3, c4⟩ := hR.cells
            have f0 := hR.frz 0
            have HLE := Lib.hid hR.le
            have HRA : Hid ((rep v i).length = i) := Lib.hid (rep_len _ _)
            have HTO := Lib.hid hR.top_
            rw [HRA.out] at c0 c1
            clear hR
            go_wp2_with (first
              | (at_builtin; refine append_one_l Try.underlying25 Try.infoInt rfl (.tmp 28) (.tmp 30) rfl (kb + 1) xa p i (rep v i) HRA.out rfl (HTO.out.alloc _) wr.heap.size v rfl ?_ ?_ ?_ ?_; (simp); (omega); (have := HLE.out; simp; omega); intro g1 cc1 w9 ho9 hg9 hat9; obtain ⟨⟨hk9, e0, e1, e2, e3, e4⟩, hF9⟩ := (HR.out.alloc _).mid hg9 (.inl rfl); have f90 := hF9 0; have f91 := hF9 1; rw [HRA.out] at e0 e1; have HT1 : Hid (NbR w kb (some ⟨g1, 0, none⟩) cc1 (rep v (i + 1)) ya q (rep v i) v true true (w9.setCell ⟨kb, 0, none⟩ (.slice (some ⟨g1, 0, none⟩) (i + 1) cc1))) := Lib.hid (by have h := (HR.out.alloc _).top ho9 hg9 hat9; rw [HRA.out] at h; rw [rep_succ]; exact h); have HS9 := Lib.hid HT1.out.le; clear ho9 hg9 hat9 hF9)
              | (at_builtin; refine append_one_l Try.underlying25 Try.infoInt rfl (.tmp 37) (.tmp 39) rfl (kb + 1) ya q i (rep v i) HRA.out rfl (HT1.out.left_.alloc _) (w9.setCell ⟨kb, 0, none⟩ (.slice (some ⟨g1, 0, none⟩) (i + 1) cc1)).heap.size v ?_ ?_ ?_ ?_ ?_; (simp [go_sem]); (simp [go_sem]); (omega); (have := HS9.out; simp at this ⊢; omega); intro g2 cc2 w10 ho10 hg10 hat10; obtain ⟨⟨hk10, i0, i1, i2, i3, i4⟩, hF10⟩ := (HT1.out.alloc _).mid hg10 (.inr rfl); have f101 := hF10 1; rw [HRA.out] at i1; have HT2 : Hid (NbR w kb (some ⟨g1, 0, none⟩) cc1 (rep v (i + 1)) (some ⟨g2, 0, none⟩) cc2 (rep v (i + 1)) v true true (w10.setCell ⟨kb, 1, none⟩ (.slice (some ⟨g2, 0, none⟩) (i + 1) cc2))) := Lib.hid (by have h := (HT1.out.alloc _).left ho10 hg10 hat10; rw [HRA.out] at h; rw [rep_succ v i] at h ⊢; exact h); clear ho10 hg10 hat10 hF10))
            go_roundw
            case rel => exact ⟨i + 1, _, _, _, _, by omega, by go_num, by rw [Nat.min_eq_left (by omega)]; exact HT2.out⟩
            case measure => simp [intOf]; omega
          · have em : min i 8 = 8 := by omega
            have em' : min (i + 1) 8 = 8 := by omega
            rw [em] at hR
            have HR := Lib.hid hR
            obtain ⟨c0, c1, c2, c3, c4⟩ := hR.cells
            have f0 := hR.frz 0
            have HLE := Lib.hid hR.le
            have HRA : Hid ((rep v i).length = i) := Lib.hid (rep_len _ _)
            have HRB : Hid ((rep v 8).length = 8) := Lib.hid (rep_len _ _)
            have HTO := Lib.hid hR.top_
            have HEM := Lib.hid em'
            rw [HRA.out] at c0
            rw [HRB.out] at c1
            clear hR em em'
            go_wp2_with (at_builtin; refine append_one_l Try.underlying25 Try.infoInt rfl (.tmp 28) (.tmp 30) rfl (kb + 1) xa p i (rep v i) HRA.out rfl (HTO.out.alloc _) wr.heap.size v rfl ?_ ?_ ?_ ?_; (simp); (omega); (have := HLE.out; simp; omega); intro g1 cc1 w9 ho9 hg9 hat9; obtain ⟨⟨hk9, e0, e1, e2, e3, e4⟩, hF9⟩ := (HR.out.alloc _).mid hg9 (.inl rfl); have f90 := hF9 0; rw [HRA.out] at e0; have HT1 : Hid (NbR w kb (some ⟨g1, 0, none⟩) cc1 (rep v (i + 1)) ya q (rep v 8) v true true (w9.setCell ⟨kb, 0, none⟩ (.slice (some ⟨g1, 0, none⟩) (i + 1) cc1))) := Lib.hid (by have h := (HR.out.alloc _).top ho9 hg9 hat9; rw [HRA.out] at h; rw [rep_succ]; exact h); clear ho9 hg9 hat9 hF9)
            go_roundw
            case rel => exact ⟨i + 1, _, _, _, _, by omega, by go_num, by rw [HEM.out]; exact HT1.out⟩
            case measure => simp [intOf]; omega
        · have hiM : i = 16 := by omega
          have hiZ : (i : Int) = 16 := by omega
          rw [hiM, Nat.min_eq_right (by omega)] at hR
          rw [hiZ]
          clear hi hlt hiM hiZ
          have HR : Hid (NbR w kb xa p (rep v 16) ya q (rep v 8) v true true wr) := Lib.hid hR
          obtain ⟨w2, hw2⟩ : ∃ w2, w2 = wr := ⟨_, rfl⟩
          have HX : Hid (∀ x, Below w2.heap.size w2 x → Row x xa (rep v 16) ∧ Row x ya (rep v 8) ∧ Box5 x kb (.slice xa 16 p) (.slice ya 8 q) (.int .i64 v) (.bool true) (.bool true) ∧ Below w.heap.size w x) := Lib.hid (fun x hx => by
            rw [hw2] at hx
            have h := HR.out.below hx
            have hc := h.1
            rw [rep_len, rep_len] at hc
            exact ⟨h.top_.row, h.left_.row, hc, h.bel⟩)
          have hcp : 16 ≤ p ∧ 8 ≤ q := by have h1 := hR.top_.cap; have h2 := hR.left_.cap; rw [rep_len] at h1 h2; exact ⟨h1, h2⟩
          have HPR : Hid (∀ (m : Int) x, 0 ≤ m ∧ m ≤ 5 → Below w2.heap.size w2 x → Calls Try.prog 11 #[.int .i64 m, nbv xa 16 p ya 8 q v true true, .int .i64 8] x fun e w' => ∃ b d, e = .returned (.slice b 64 d) ∧ Own x.heap.size w' b d (rep v 64) ∧ Below x.heap.size x w') := Lib.hid (fun m x hm hx => by
            have h := impl.FastPred_c m xa p (rep v 16) ya q (rep v 8) v true true 8 x (by rw [rep_len]; omega) (HX.out x hx).1 (HWI.out _) (by rw [rep_len]; omega) (HX.out x hx).2.1 (HWI.out _) (by omega) (by rw [rep_len]; omega) (by rw [rep_len]; omega)
            rw [HPL.out m hm, rep_len, rep_len, rep_len] at h
            exact h)
          have HMN : Hid (∀ x, Below w2.heap.size w2 x → Calls Try.prog 12 #[nbv xa 16 p ya 8 q v true true, .int .i64 8] x fun e w' => e = .returned (.int .i64 v) ∧ Below x.heap.size x w') := Lib.hid (fun x hx => by
            have h := impl.Mean_c xa p (rep v 16) ya q (rep v 8) v true true 8 x (by rw [rep_len]; omega) (HX.out x hx).1 (HWI.out _) (by rw [rep_len]; omega) (HX.out x hx).2.1 (HWI.out _) (by omega) (by rw [rep_len]; omega) (by rw [rep_len]; omega)
            rw [HME.out, rep_len, rep_len] at h
            exact h)
          have HBO : Hid (∀ x, Below w2.heap.size w2 x → Calls Try.prog 13 #[nbv xa 16 p ya 8 q v true true, .int .i64 8] x fun e w' => ∃ b d, e = .returned (.slice b 17 d) ∧ Below x.heap.size x w') := Lib.hid (fun x hx => by
            have h := impl.Border_c xa p (rep v 16) ya q (rep v 8) v true true 8 x (by rw [rep_len]; omega) (HX.out x hx).1 (HWI.out _) (by rw [rep_len]; omega) (HX.out x hx).2.1 (HWI.out _) (by omega) (by rw [rep_len]; omega) (by rw [rep_len]; omega)
            rw [HBL.out, rep_len, rep_len] at h
            exact h.mono fun e w' ⟨b, d, h1, _, h3⟩ => ⟨b, d, h1, h3⟩)
          have HOK : Hid (∀ x, Below w2.heap.size w2 x → Calls Try.prog 14 #[nbv xa 16 p ya 8 q v true true, .int .i64 8] x fun e w' => e = .returned (.bool true) ∧ Below x.heap.size x w') := Lib.hid (fun x hx => by
            have h := impl.NbOk_c xa p (rep v 16) ya q (rep v 8) v true true 8 x (by rw [rep_len]; omega) (HX.out x hx).1 (HWI.out _) (by rw [rep_len]; omega) (HX.out x hx).2.1 (HWI.out _) (by omega)
            rw [HNB.out, rep_len, rep_len] at h
            exact h)
          clear HPL HNB HME HBL HWI hR HR HK HLM hcp
          rw [← hw2]
          clear hw2
          go_wp2
          go_loopw [7] (fun o wx => ∃ m : Nat, m ≤ 6 ∧ o = .int .i64 m ∧ Below w2.heap.size w2 wx) (fun o _ => 6 - (intOf o).toNat)
          case atStart => exact ⟨0, by omega, rfl, Below.refl _ _⟩
          case round =>
            obtain ⟨m, hm, rfl, kx⟩ := hrel
            have HKX := Lib.hid kx
            obtain ⟨hkl, c0, c1, c2, c3, c4⟩ := (HX.out _ kx).2.2.1
            clear kx
            by_cases hlt : m < 6
            · have hltd : decide ((m : Int) < 6) = true := by simp; omega
              go_wp2_with fail
              refine (HPR.out m wr (by omega) HKX.out).mono ?_
              rintro e w3 ⟨b, d, rfl, o3, k3⟩
              have HR3 := Lib.hid o3.row
              have HB3 := Lib.hid (below_next HKX.out k3)
              clear o3 k3
              go_wp2
              go_loopw [9] (fun o wx => ∃ j : Nat, j ≤ 64 ∧ o = .int .i64 j ∧ Below w3.heap.size w3 wx) (fun o _ => 64 - (intOf o).toNat)
              case atStart => exact ⟨0, by omega, rfl, Below.refl _ _⟩
              case round =>
                obtain ⟨j, hj, rfl, ky⟩ := hrel
                by_cases hlj : j < 64
                · have hltd2 : decide ((j : Int) < 64) = true := by simp; omega
                  obtain ⟨gp, fp, rfl, hcp⟩ := (HR3.out.below ky (Nat.le_refl _)).at_ (i := j) (by rw [rep_len]; exact hlj)
                  rw [rep_at v hlj] at hcp
                  have HKY := Lib.hid ky
                  have hne : ∀ b : Int, (b != b) = false := by intro b; simp
                  clear ky
                  go_wp2
                  go_roundw
                  case rel => exact ⟨j + 1, by omega, by go_num, by first | exact HKY.out | exact HKY.out.drew⟩
                  case measure => simp [intOf]; omega
                · obtain rfl : j = 64 := by omega
                  have HKZ := Lib.hid (below_next HB3.out ky)
                  clear ky
                  go_wp2
                  go_roundw
                  case rel => exact ⟨m + 1, by omega, by go_num, HKZ.out⟩
                  case measure => simp [intOf]; omega
            · obtain rfl : m = 6 := by omega
              go_wp2_with fail
              refine (HMN.out wr HKX.out).mono ?_
              rintro e w3 ⟨rfl, k3⟩
              have k3 := below_next HKX.out k3
              obtain ⟨hkl3, d0, d1, d2, d3, d4⟩ := (HX.out _ k3).2.2.1
              go_wp2_with fail
              refine (HBO.out w3 k3).mono ?_
              rintro e w4 ⟨b4, d4', rfl, k4⟩
              have k4 := below_next k3 k4
              obtain ⟨hkl4, e0, e1, e2, e3, e4⟩ := (HX.out _ k4).2.2.1
              go_wp2_with fail
              refine (HOK.out w4 k4).mono ?_
              rintro e w5 ⟨rfl, k5⟩
              have k5 := below_next k4 k5
              have HF := Lib.hid (HX.out _ k5).2.2.2
              clear k3 k4 k5
              go_wp2
              go_ret
              exact ⟨ret_bool (by first | rfl | simp), HF.out⟩

theorem own : ownKnob Try.prog.godebug = none := by kernel_rfl
theorem laidOut : laidOutB Try.prog = true := by kernel_rfl
set_option maxRecDepth 100000 in
theorem lifted (os : Os) (started : os.Started) (H : Type) (enc : TypeId × Value → H) :
    ReturnsInHanded {} Try.checked os 3 .any (Rows.fnFlatSpec.pre6 enc Try.prog Try.f3 Rows.fnFlatRow.domain false) (Rows.fnFlatSpec.post enc Try.prog Try.f3 false true false false) := by
  refine returnsInHanded_of_change (C := Try.checked) own started (by kernel_rfl) Try.func3
    (ChangeSpec.witness6 (enc := enc) (C := Try.checked) false ⟨#[], #[.slice none 0 0], []⟩ 8 (by kernel_rfl) (by kernel_rfl) (by kernel_rfl) (by kernel_rfl)) ?_
  intro W base args ds gs before hval0 hW hcnd _
  have hval : ∀ (j : Nat) t v, Try.f3.params[j]? = some t → args[j]? = some v → Value.okWide Try.prog W .any base t v := hval0
  have hW' := hW
  obtain ⟨p, q, hA0, hV, rfl, hfz, hnd⟩ := hW
  have hA : DataW.TrodAll enc Try.prog W 0 (fun _ => true) true Try.f3.params.toList args.toList ds p := hA0
  rw [Try.params3] at hA hval
  obtain ⟨v0, vs0, d0, ds0, p0, q0, hargs, rfl, rfl, h0, tr0⟩ := trodAll_cons hA
  obtain ⟨rfl, rfl, rfl⟩ := trodAll_nil tr0
  obtain rfl : args = #[v0] := by cases args; simp_all
  obtain ⟨rfl, rfl⟩ := trodVars_none hV
  have k0 := h0
  have lt0 : ∀ x ∈ p0, x.block < W.heap.size := by obtain ⟨m, hm⟩ := k0; exact DataW.trod_lt m _ _ _ hm
  obtain ⟨a0, len0, c0, rfl⟩ := okWide_slice Try.underlying22 (hval 0 22 v0 rfl rfl)
  obtain ⟨l0, hl0, r0, w0⟩ : ∃ l : List Int, l.length = len0 ∧ RowB W a0 l ∧ ∀ x ∈ l, 0 ≤ x ∧ x ≤ 255 := by
    obtain ⟨fuel, hf⟩ := k0
    rcases open_ints Try.underlying22 Try.underlying5 (by kernel_rfl) hf with ⟨hcs, _⟩ | ⟨x, l, c, zs, hcs, _, hl, hm, hz, _, hcell, hwz⟩
    · simp [Value.cells] at hcs
      obtain ⟨rfl, rfl, rfl⟩ := hcs
      exact ⟨[], rfl, .inl rfl, by simp⟩
    · simp [Value.cells] at hcs
      obtain ⟨rfl, rfl, rfl⟩ := hcs
      exact RowB.of_cells hl (by simpa using hz) hcell (fun n hn => wf_u8 (hwz n hn))
  subst hl0
  clear hA0 hval0
  refine (walk W a0 c0 l0 r0 w0).mono fun e W' ⟨he, bel⟩ => ?_
  subst he
  exact ⟨_, rfl, _, _, _, [], _, [], hW', trodAll_mk1 (shut_bool Try.underlying4 _), (trodAll_cons_mk (Below.trod laidOut (by kernel_rfl) (of_decide_eq_true (by kernel_rfl)) k0 bel lt0) trodAll_mk0), rfl, bel.frame _, fun h => by cases h⟩

theorem over : Rows.fnFlatRow.holds Try.pinned (OpenSpec.ofChange Rows.fnFlatSpec) :=
  OpenClaim.holds_of_wide 3 Try.f3 rfl rfl rfl rfl rfl rfl rfl ⟨rfl, rfl, rfl, rfl, rfl⟩ rfl rfl rfl rfl rfl (by kernel_rfl) Try.func3 (by kernel_rfl)
    (of_decide_eq_true (by kernel_rfl)) (by unfold Func.isWrapper; first | (rw [if_pos (by decide +kernel)]; kernel_rfl) | (rw [if_neg (by decide +kernel)]; exact ⟨rfl, rfl⟩))
    (fun os started H enc _ => lifted os started H enc)

/-- the statement -/
theorem proved : Rows.FnFlatSaid := over
#print axioms proved
end Go.Proofs.Ytbdggcefgiehkaa.fnFlat
