/- For every input the law FnLinear returns true and leaves its arguments as they were; no condition. -/
import Derived.Test.YtchabkkpdafkiaaMem
import Derived.Test.YtchabkkpdafkiaaFrm
import Derived.Test.YtchabkkpdafkiaaMatF
import Derived.Test.YtchabkkpdafkiaaDraw
import Derived.Test.YtchabkkpdafkiaaApp1
namespace Go.Proofs.Ytchabkkpdafkiaa.fnLinear
open Go.ChangeShapes Go.WideShapes Go.ChangeAt Go.RowKit Go.Joins
set_option linter.unusedVariables false
theorem fits_of {n : Nat} {L : List Int} (h : L.length = n * n) (hb : ∀ i, i < n * n → -10000 ≤ L.getD i 0 ∧ L.getD i 0 ≤ 10000) : fitsM n L = true := by
  have h1 : allR (-1000000000) 1000000000 L = true := allR_mk (fun i hi => inR_mk (by have := hb i (by omega); omega))
  simp [fitsM, h, h1]
theorem prod_bd {R : List (List Int)} {L : List Int} {n : Nat} (hn : n ≤ 8) (hR : ∀ r, r < n → ∀ k, k < n → -2 ≤ ent R r k ∧ ent R r k ≤ 2) (hb : ∀ i, i < n * n → -10000 ≤ L.getD i 0 ∧ L.getD i 0 ≤ 10000) (i : Nat) (hi : i < n * n) :
    -10000000 ≤ (prodL (ent R) L n).getD i 0 ∧ (prodL (ent R) L n).getD i 0 ≤ 10000000 := by
  have h0 : 0 < n := by
    cases n with
    | zero => simp at hi
    | succ n => omega
  unfold prodL
  rw [tab_getD _ _ _ hi]
  have h1 : i / n < n := Nat.div_lt_of_lt_mul hi
  have h2 : i % n < n := Nat.mod_lt _ h0
  have hh : ∀ j, j < n → -160000 ≤ halfAt (ent R) L n (i / n) j ∧ halfAt (ent R) L n (i / n) j ≤ 160000 := fun j hj => by
    have h3 := halfAt_bd (B := 10000) (fun m hm => hR _ h1 m hm) (fun m hm => hb _ (sq_lt hm hj)) n (Nat.le_refl _) (k := j) (l := L)
    have h4 : (n : Int) * (2 * 10000) ≤ 160000 := by omega
    unfold halfAt
    omega
  have hs := sumN_bd (f := fun j => halfAt (ent R) L n (i / n) j * ent R (i % n) j) (n := n) (B := 2 * 160000) (fun j hj => by have h5 := mul_bd2 (hR (i % n) h2 j hj) (hh j hj); rw [Int.mul_comm (ent R (i % n) j)] at h5; exact h5)
  have h6 : (n : Int) * (2 * 160000) ≤ 2560000 := by omega
  unfold prodAt
  omega
-- DEEP

set_option maxRecDepth 100000 in
set_option maxHeartbeats 4000000 in
theorem walk (w : World) (a0 : Option Addr) (c0 : Nat) (l0 : List Int) (r0 : RowB w a0 l0) (w0 : ∀ x ∈ l0, 0 ≤ x ∧ x ≤ 255) :
    Calls Try.prog 6 #[.slice a0 l0.length c0] w fun e w' => e = .returned (.bool true) ∧ Below w.heap.size w w' := by
  by_cases hbig : 1048576 < l0.length
  · have HB := Lib.hid (big_c a0 c0 l0.length w)
    rw [decide_eq_true hbig] at HB
    clear hbig r0 w0
    go_enter Try.func6, Try.ntmps6
    go_wp2_with (go_at_call 17; refine HB.out.mono ?_; rintro e w' ⟨rfl, rfl⟩)
    go_ret
    exact ⟨rfl, Below.refl _ _⟩
  · have HB := Lib.hid (big_c a0 c0 l0.length w)
    rw [decide_eq_false hbig] at HB
    have HAB : Hid (∀ i, 0 ≤ atF l0 i ∧ atF l0 i ≤ 255) := Lib.hid (fun i => atF_bd w0 i)
    have HAT : Hid (∀ (i : Nat) w0, i ≤ 1048576 → Below w.heap.size w w0 → Calls Try.prog 18 #[.slice a0 l0.length c0, .int .i64 i] w0 fun e w' => e = .returned (.int .i64 (atF l0 i)) ∧ w0 = w') := Lib.hid (fun i w1 hi hb => at_c a0 c0 l0 i w1 (by omega) hi (r0.below hb (Nat.le_refl _)) w0)
    obtain ⟨f, hf⟩ : ∃ f : Nat → Int, f = fun i => atF l0 i - 128 := ⟨_, rfl⟩
    obtain ⟨h, hh⟩ : ∃ h : Nat → Int, h = fun i => 3 * atF l0 (i + 64) - 300 := ⟨_, rfl⟩
    obtain ⟨u, hu⟩ : ∃ u : Nat → Int, u = fun i => f i + h i := ⟨_, rfl⟩
    have HF : Hid (∀ i, f i = atF l0 i - 128) := Lib.hid (fun i => by rw [hf])
    have HH : Hid (∀ i, h i = 3 * atF l0 (i + 64) - 300) := Lib.hid (fun i => by rw [hh])
    have HU : Hid (∀ i, u i = f i + h i) := Lib.hid (fun i => by rw [hu])
    have HFB : Hid (∀ i, -128 ≤ f i ∧ f i ≤ 127) := Lib.hid (fun i => by rw [HF.out]; have := HAB.out i; omega)
    have HHB : Hid (∀ i, -300 ≤ h i ∧ h i ≤ 465) := Lib.hid (fun i => by rw [HH.out]; have := HAB.out (i + 64); omega)
    have HSB : Hid (∀ k, k ≤ 64 → -8192 ≤ sumN f k ∧ sumN f k ≤ 8192) := Lib.hid (fun k hk => by
      have := sumN_bd (f := f) (n := k) (B := 128) (fun i _ => by have := HFB.out i; omega)
      omega)
    obtain ⟨A, hA⟩ : ∃ A, A = tab f 64 := ⟨_, rfl⟩
    obtain ⟨B, hB⟩ : ∃ B, B = tab h 64 := ⟨_, rfl⟩
    obtain ⟨C, hC⟩ : ∃ C, C = tab u 64 := ⟨_, rfl⟩
    obtain ⟨A4, hA4⟩ : ∃ A, A = tab f 16 := ⟨_, rfl⟩
    obtain ⟨B4, hB4⟩ : ∃ B, B = tab h 16 := ⟨_, rfl⟩
    obtain ⟨C4, hC4⟩ : ∃ C, C = tab u 16 := ⟨_, rfl⟩
    have bA : ∀ i, i < 64 → A.getD i 0 = f i := fun i hi => by rw [hA, tab_getD _ _ _ hi]
    have bB : ∀ i, i < 64 → B.getD i 0 = h i := fun i hi => by rw [hB, tab_getD _ _ _ hi]
    have bC : ∀ i, i < 64 → C.getD i 0 = u i := fun i hi => by rw [hC, tab_getD _ _ _ hi]
    have bA4 : ∀ i, i < 16 → A4.getD i 0 = f i := fun i hi => by rw [hA4, tab_getD _ _ _ hi]
    have bB4 : ∀ i, i < 16 → B4.getD i 0 = h i := fun i hi => by rw [hB4, tab_getD _ _ _ hi]
    have bC4 : ∀ i, i < 16 → C4.getD i 0 = u i := fun i hi => by rw [hC4, tab_getD _ _ _ hi]
    have rA : ∀ i, i < 64 → -10000 ≤ A.getD i 0 ∧ A.getD i 0 ≤ 10000 := fun i hi => by rw [bA i hi]; have := HFB.out i; omega
    have rB : ∀ i, i < 64 → -10000 ≤ B.getD i 0 ∧ B.getD i 0 ≤ 10000 := fun i hi => by rw [bB i hi]; have := HHB.out i; omega
    have rC : ∀ i, i < 64 → -10000 ≤ C.getD i 0 ∧ C.getD i 0 ≤ 10000 := fun i hi => by rw [bC i hi, HU.out]; have := HFB.out i; have := HHB.out i; omega
    have rA4 : ∀ i, i < 16 → -10000 ≤ A4.getD i 0 ∧ A4.getD i 0 ≤ 10000 := fun i hi => by rw [bA4 i hi]; have := HFB.out i; omega
    have rB4 : ∀ i, i < 16 → -10000 ≤ B4.getD i 0 ∧ B4.getD i 0 ≤ 10000 := fun i hi => by rw [bB4 i hi]; have := HHB.out i; omega
    have rC4 : ∀ i, i < 16 → -10000 ≤ C4.getD i 0 ∧ C4.getD i 0 ≤ 10000 := fun i hi => by rw [bC4 i hi, HU.out]; have := HFB.out i; have := HHB.out i; omega
    have call : ∀ (n : Nat) (R : List (List Int)) (L : List Int) (m : Nat) (F : FuncId), n ≤ 8 → m = n * n → L.length = m → (∀ i, i < n * n → -10000 ≤ L.getD i 0 ∧ L.getD i 0 ≤ 10000) →
        (∀ (b : Option Addr) (d : Nat) w0, Row w0 b L → (∀ x ∈ L, -9223372036854775808 ≤ x ∧ x ≤ 9223372036854775807) → Calls Try.prog F #[.slice b L.length d] w0 fun e w' => ∃ b d, e = .returned (.slice b (prodF R n L).length d) ∧ Own w0.heap.size w' b d (prodF R n L) ∧ Below w0.heap.size w0 w') →
        (∀ (b : Option Addr) (d : Nat) w0, Row w0 b L → Calls Try.prog F #[.slice b m d] w0 fun e w' => ∃ b d, e = .returned (.slice b m d) ∧ Own w0.heap.size w' b d (prodL (ent R) L n) ∧ Below w0.heap.size w0 w') := by
      intro n R L m F hn hm hL hb hc b d w0 hr
      have h1 := hc b d w0 hr (fun x hx => by
        obtain ⟨i, hi, rfl⟩ := List.getElem_of_mem hx
        rw [← getD_lt hi]
        have := hb i (by omega)
        omega)
      rw [show prodF R n L = prodL (ent R) L n from by rw [prodF, if_pos (fits_of (by omega) hb)], prodL_len, hL, ← hm] at h1
      exact h1
    obtain ⟨X, hX⟩ : ∃ X, X = prodL (ent rowsH) A 8 := ⟨_, rfl⟩
    obtain ⟨Y, hY⟩ : ∃ X, X = prodL (ent rowsH) B 8 := ⟨_, rfl⟩
    obtain ⟨Z, hZ⟩ : ∃ X, X = prodL (ent rowsH) C 8 := ⟨_, rfl⟩
    obtain ⟨P, hP⟩ : ∃ X, X = prodL (ent rowsA) A4 4 := ⟨_, rfl⟩
    obtain ⟨Q, hQ⟩ : ∃ X, X = prodL (ent rowsA) B4 4 := ⟨_, rfl⟩
    obtain ⟨R, hR⟩ : ∃ X, X = prodL (ent rowsA) C4 4 := ⟨_, rfl⟩
    have HXC := Lib.hid (call 8 rowsH A 64 19 (by omega) rfl (by rw [hA, tab_len]) rA (fun b d w0 h1 h2 => impl.Inverse8_c b d A w0 (by rw [hA, tab_len]; omega) h1 h2))
    have HYC := Lib.hid (call 8 rowsH B 64 16 (by omega) rfl (by rw [hB, tab_len]) rB (fun b d w0 h1 h2 => impl.Fast8_c b d B w0 (by rw [hB, tab_len]; omega) h1 h2))
    have HZC := Lib.hid (call 8 rowsH C 64 20 (by omega) rfl (by rw [hC, tab_len]) rC (fun b d w0 h1 h2 => impl.Forward8_c b d C w0 (by rw [hC, tab_len]; omega) h1 h2))
    have HPC := Lib.hid (call 4 rowsA A4 16 11 (by omega) rfl (by rw [hA4, tab_len]) rA4 (fun b d w0 h1 h2 => impl.Fast4_c b d A4 w0 (by rw [hA4, tab_len]; omega) h1 h2))
    have HQC := Lib.hid (call 4 rowsA B4 16 21 (by omega) rfl (by rw [hB4, tab_len]) rB4 (fun b d w0 h1 h2 => impl.Inverse4_c b d B4 w0 (by rw [hB4, tab_len]; omega) h1 h2))
    have HRC := Lib.hid (call 4 rowsA C4 16 11 (by omega) rfl (by rw [hC4, tab_len]) rC4 (fun b d w0 h1 h2 => impl.Fast4_c b d C4 w0 (by rw [hC4, tab_len]; omega) h1 h2))
    rw [← hX] at HXC
    rw [← hY] at HYC
    rw [← hZ] at HZC
    rw [← hP] at HPC
    rw [← hQ] at HQC
    rw [← hR] at HRC
    have HLX : Hid (X.length = 64 ∧ Y.length = 64 ∧ Z.length = 64 ∧ P.length = 16 ∧ Q.length = 16 ∧ R.length = 16) := Lib.hid ⟨by rw [hX, prodL_len], by rw [hY, prodL_len], by rw [hZ, prodL_len], by rw [hP, prodL_len], by rw [hQ, prodL_len], by rw [hR, prodL_len]⟩
    have HXB : Hid (∀ i, i < 64 → -10000000 ≤ X.getD i 0 ∧ X.getD i 0 ≤ 10000000) := Lib.hid (by rw [hX]; exact prod_bd (n := 8) (by omega) ent_bd8 rA)
    have HYB : Hid (∀ i, i < 64 → -10000000 ≤ Y.getD i 0 ∧ Y.getD i 0 ≤ 10000000) := Lib.hid (by rw [hY]; exact prod_bd (n := 8) (by omega) ent_bd8 rB)
    have HPB : Hid (∀ i, i < 16 → -10000000 ≤ P.getD i 0 ∧ P.getD i 0 ≤ 10000000) := Lib.hid (by rw [hP]; exact prod_bd (n := 4) (by omega) ent_bd4 rA4)
    have HQB : Hid (∀ i, i < 16 → -10000000 ≤ Q.getD i 0 ∧ Q.getD i 0 ≤ 10000000) := Lib.hid (by rw [hQ]; exact prod_bd (n := 4) (by omega) ent_bd4 rB4)
    have HXYZ : Hid (∀ i, i < 64 → Z.getD i 0 = X.getD i 0 + Y.getD i 0) := Lib.hid (fun i hi => by rw [hX, hY, hZ]; exact prodL_add _ A B C 8 (fun i hi => by rw [bA i hi, bB i hi, bC i hi, HU.out]) i hi)
    have HPQR : Hid (∀ i, i < 16 → R.getD i 0 = P.getD i 0 + Q.getD i 0) := Lib.hid (fun i hi => by rw [hP, hQ, hR]; exact prodL_add _ A4 B4 C4 4 (fun i hi => by rw [bA4 i hi, bB4 i hi, bC4 i hi, HU.out]) i hi)
    have HX0 : Hid (X.getD 0 0 = sumN f 64) := Lib.hid (by rw [hX, prod_first]; exact sumN_congr (fun i hi => bA i hi))
    have HTA : Hid (tab f 64 = A) := Lib.hid hA.symm
    have HTB : Hid (tab h 64 = B) := Lib.hid hB.symm
    have HTC : Hid (tab u 64 = C) := Lib.hid hC.symm
    have HRW : Hid (∀ (w0 : World) (g : Nat) (F : Nat → Int), Row w0 (some ⟨g, 0, none⟩) (tab F 64) → Row w0 (some ⟨g, 0, none⟩) (tab F 16)) := Lib.hid (fun w0 g F hr => by
      refine .inr ⟨g, 0, rfl, fun i hi => ?_⟩
      rw [tab_len] at hi
      obtain ⟨_, _, e, hc⟩ := hr.all (by rw [tab_len]; omega)
      cases e
      rw [hc i (by rw [tab_len]; omega), tab_getD _ _ _ (by omega), tab_getD _ _ _ hi])
    have HT4 : Hid (tab f 16 = A4 ∧ tab h 16 = B4 ∧ tab u 16 = C4) := Lib.hid ⟨hA4.symm, hB4.symm, hC4.symm⟩
    clear hbig r0 w0 hf hh hu hA hB hC hA4 hB4 hC4 bA bB bC bA4 bB4 bC4 rA rB rC rA4 rB4 rC4 call hX hY hZ hP hQ hR
    go_enter Try.func6, Try.ntmps6
    go_wp2_with (go_at_call 17; refine HB.out.mono ?_; rintro e w' ⟨rfl, rfl⟩)
    go_loopw [3, 4, 5, 6, 7] (fun oa ob oc s i wr => ∃ (k ga ca gb cb gc cc : Nat), k ≤ 64 ∧ i = .int .i64 k ∧ oa = .slice (some ⟨ga, 0, none⟩) k ca ∧ ob = .slice (some ⟨gb, 0, none⟩) k cb ∧ oc = .slice (some ⟨gc, 0, none⟩) k cc ∧ s = .int .i64 (sumN f k) ∧ Tri w ga ca (tab f k) gb cb (tab h k) gc cc (tab u k) wr) (fun _ _ _ _ i _ => 64 - (intOf i).toNat)
    case atStart => exact ⟨0, _, _, _, _, _, _, Nat.zero_le _, rfl, rfl, rfl, rfl, rfl, Tri.start w⟩
    case round =>
      obtain ⟨k, ga, ca, gb, cb, gc, cc, hk, rfl, rfl, rfl, rfl, rfl, T⟩ := hrel
      have HT := Lib.hid T
      clear T
      by_cases hlt : k < 64
      · obtain ⟨v, hv⟩ : ∃ v, v = atF l0 k := ⟨_, rfl⟩
        obtain ⟨v2, hv2⟩ : ∃ v, v = atF l0 (k + 64) := ⟨_, rfl⟩
        obtain ⟨x, hx⟩ : ∃ x, x = f k := ⟨_, rfl⟩
        obtain ⟨y, hy⟩ : ∃ x, x = h k := ⟨_, rfl⟩
        obtain ⟨s, hs⟩ : ∃ s, s = sumN f k := ⟨_, rfl⟩
        have hvx : v - 128 = x := by rw [hv, hx, HF.out]
        have hvy : 3 * v2 - 300 = y := by rw [hv2, hy, HH.out]
        have hvb := HAB.out k
        have hvb2 := HAB.out (k + 64)
        rw [← hv] at hvb
        rw [← hv2] at hvb2
        obtain ⟨hva, hvb⟩ := hvb
        obtain ⟨hva2, hvb2⟩ := hvb2
        have hsb := HSB.out k hk
        rw [← hs] at hsb
        have e1 : IntKind.i64.wrap (v - 128) = x := by rw [hvx]; exact IntWalk.i64_in _ (by omega)
        have e2 : IntKind.i64.wrap (3 * v2) = 3 * v2 := IntWalk.i64_in _ (by omega)
        have e3 : IntKind.i64.wrap (3 * v2 - 300) = y := by rw [hvy]; exact IntWalk.i64_in _ (by omega)
        have e4 : IntKind.i64.wrap (x + y) = x + y := IntWalk.i64_in _ (by omega)
        have e5 : IntKind.i64.wrap (s + x) = s + x := IntWalk.i64_in _ (by omega)
        have HX := Lib.hid hx
        have HY := Lib.hid hy
        have HS : Hid (sumN f (k + 1) = s + x) := Lib.hid (by rw [sumN, ← hs, ← hx])
        have HUK : Hid (x + y = u k) := Lib.hid (by rw [HU.out, hx, hy])
        have HA1 := Lib.hid (HAT.out k)
        have HA2 : Hid (∀ w0, Below w.heap.size w w0 → Calls Try.prog 18 #[.slice a0 l0.length c0, .int .i64 ((k : Int) + 64)] w0 fun e w' => e = .returned (.int .i64 (atF l0 (k + 64))) ∧ w0 = w') := Lib.hid (fun w0 hb => by have h9 := HAT.out (k + 64) w0 (by omega) hb; rw [Int.natCast_add] at h9; exact h9)
        rw [← hv] at HA1
        rw [← hv2] at HA2
        rw [← hs]
        clear hv hv2 hx hy hs
        go_wp2_with fail
        refine (HA1.out wr (by omega) HT.out.2.2.2.2).mono ?_
        rintro e w' ⟨rfl, rfl⟩
        go_wp2_with (at_builtin; go_loud (refine append_one_at Try.underlying22 Try.infoInt rfl (.tmp 24) (.tmp 29) rfl w.heap.size ga ca k (tab f k) (tab_len _ _) rfl (HT.out.alloc _).2.1 wr.heap.size x rfl ?_ ?_ ?_ ?_); (go_loud (simp)); (go_loud (omega)); (have hz9 := HT.out.2.2.2.2.size; go_loud (simp; omega)); intro ga1 ca1 w1 ho1 hg1 hat1)
        rw [HX.out, ← tab_succ] at ho1
        have HT1 := Lib.hid ((HT.out.alloc _).app1 ho1 hg1 hat1)
        clear ho1 hg1 hat1 HT
        go_wp2_with fail
        refine (HA2.out w1 HT1.out.2.2.2.2).mono ?_
        rintro e w' ⟨rfl, rfl⟩
        go_wp2_with (at_builtin; refine append_one_at Try.underlying22 Try.infoInt rfl (.tmp 31) (.tmp 38) rfl w.heap.size gb cb k (tab h k) (tab_len _ _) rfl (HT1.out.alloc _).2.2.1 w1.heap.size y rfl ?_ ?_ ?_ ?_; (simp); (omega); (have := HT1.out.2.2.2.2.size; simp; omega); intro gb1 cb1 w2 ho2 hg2 hat2)
        rw [HY.out, ← tab_succ] at ho2
        have HT2 := Lib.hid ((HT1.out.alloc _).app2 ho2 hg2 hat2)
        clear ho2 hg2 hat2 HT1
        have cA := HT2.out.2.1.cellAt (i := k) (by rw [tab_len]; omega)
        have cB := HT2.out.2.2.1.cellAt (i := k) (by rw [tab_len]; omega)
        rw [tab_getD _ _ _ (by omega), ← HX.out] at cA
        rw [tab_getD _ _ _ (by omega), ← HY.out] at cB
        have lA := (HT2.out.2.1.lt _ rfl).2
        have lB := (HT2.out.2.2.1.lt _ rfl).2
        have z1 : (k : Int) < (k : Int) + 1 := by omega
        go_wp2_with fail
        go_region_held3 (fun w' => w'.cell? ⟨ga1, k, none⟩ = some (.int .i64 x) ∧ w'.cell? ⟨gb1, k, none⟩ = some (.int .i64 y)) (first | go_keep)
          ((first
            | (refine step_append_one_at Try.underlying22 Try.infoInt rfl (.tmp 40) (.tmp 50) rfl w.heap.size gc cc k (tab u k) (tab_len _ _) rfl ((HT2.out.alloc _).drew).2.2.2.1 w2.heap.size (x + y) rfl ?_ ?_ ?_ ?_
               · simp
               · omega
               · have := HT2.out.2.2.2.2.size; simp; omega
               intro gc1 cc1 w3 ho3 hg3 hat3
               have cA3 : w3.cell? ⟨ga1, k, none⟩ = some (.int .i64 x) := by
                 have h9 := (((HT2.out.alloc _).drew).app3 ho3 hg3 hat3).2.1.cellAt (i := k) (by rw [tab_len]; omega)
                 rw [tab_getD _ _ _ (by omega), ← HX.out] at h9
                 exact h9
               have cB3 : w3.cell? ⟨gb1, k, none⟩ = some (.int .i64 y) := by
                 have h9 := (((HT2.out.alloc _).drew).app3 ho3 hg3 hat3).2.2.1.cellAt (i := k) (by rw [tab_len]; omega)
                 rw [tab_getD _ _ _ (by omega), ← HY.out] at h9
                 exact h9)))
        all_goals
          rw [HUK.out, ← tab_succ] at ho3
          have HT3 := Lib.hid (((HT2.out.alloc _).drew).app3 ho3 hg3 hat3)
          clear ho3 hg3 hat3 HT2 cB3
          go_wp2
          go_roundw
          case rel => exact ⟨k + 1, ga1, ca1, gb1, cb1, gc1, cc1, by omega, by go_num, rfl, rfl, rfl, by rw [HS.out], HT3.out⟩
          case measure => simp [intOf]; omega
      · obtain rfl : k = 64 := by omega
        have T := HT.out
        have hcapA := T.2.1.cap
        have hcapB := T.2.2.1.cap
        have hcapC := T.2.2.2.1.cap
        rw [tab_len] at hcapA hcapB hcapC
        have HWB := Lib.hid T.2.2.2.2
        have HA4 : Hid (∀ v, Below wr.heap.size wr v → Row v (some ⟨ga, 0, none⟩) A4) := Lib.hid (fun v h9 => by have := HRW.out v ga f (T.2.1.row.below h9 (Nat.le_refl _)); rw [HT4.out.1] at this; exact this)
        have HB4 : Hid (∀ v, Below wr.heap.size wr v → Row v (some ⟨gb, 0, none⟩) B4) := Lib.hid (fun v h9 => by have := HRW.out v gb h (T.2.2.1.row.below h9 (Nat.le_refl _)); rw [HT4.out.2.1] at this; exact this)
        have HC4 : Hid (∀ v, Below wr.heap.size wr v → Row v (some ⟨gc, 0, none⟩) C4) := Lib.hid (fun v h9 => by have := HRW.out v gc u (T.2.2.2.1.row.below h9 (Nat.le_refl _)); rw [HT4.out.2.2] at this; exact this)
        have HA8 : Hid (∀ v, Below wr.heap.size wr v → Row v (some ⟨ga, 0, none⟩) A) := Lib.hid (fun v h9 => by have := T.2.1.row.below h9 (Nat.le_refl _); rw [HTA.out] at this; exact this)
        have HB8 : Hid (∀ v, Below wr.heap.size wr v → Row v (some ⟨gb, 0, none⟩) B) := Lib.hid (fun v h9 => by have := T.2.2.1.row.below h9 (Nat.le_refl _); rw [HTB.out] at this; exact this)
        have HC8 : Hid (∀ v, Below wr.heap.size wr v → Row v (some ⟨gc, 0, none⟩) C) := Lib.hid (fun v h9 => by have := T.2.2.2.1.row.below h9 (Nat.le_refl _); rw [HTC.out] at this; exact this)
        obtain ⟨s, hs⟩ : ∃ s, s = sumN f 64 := ⟨_, rfl⟩
        rw [← hs] at HX0 ⊢
        have q1 : (16 : Int) ≤ (ca : Int) := by omega
        have q2 : (16 : Int) ≤ (cb : Int) := by omega
        have q3 : (16 : Int) ≤ (cc : Int) := by omega
        clear T HT hs
        go_wp2_with fail
        refine (HXC.out _ ca wr (HA8.out _ (Below.refl _ _))).mono ?_
        rintro e w1 ⟨b1, d1, rfl, o1, k1⟩
        go_wp2_with fail
        refine (HYC.out _ cb w1 (HB8.out _ k1)).mono ?_
        rintro e w2 ⟨b2, d2, rfl, o2, k2⟩
        have k12 := k1.trans (k2.mono k1.size)
        go_wp2_with fail
        refine (HZC.out _ cc w2 (HC8.out _ k12)).mono ?_
        rintro e w3 ⟨b3, d3, rfl, o3, k3⟩
        have k13 := k12.trans (k3.mono k12.size)
        go_wp2_with fail
        refine (HPC.out _ ca w3 (HA4.out _ k13)).mono ?_
        rintro e w4 ⟨b4, d4, rfl, o4, k4⟩
        have k14 := k13.trans (k4.mono k13.size)
        go_wp2_with fail
        refine (HQC.out _ cb w4 (HB4.out _ k14)).mono ?_
        rintro e w5 ⟨b5, d5, rfl, o5, k5⟩
        have k15 := k14.trans (k5.mono k14.size)
        go_wp2_with fail
        refine (HRC.out _ cc w5 (HC4.out _ k15)).mono ?_
        rintro e w6 ⟨b6, d6, rfl, o6, k6⟩
        have HW6 := Lib.hid (HWB.out.trans ((k15.trans (k6.mono k15.size)).mono HWB.out.size))
        have R1 := Lib.hid (((((o1.row.below k2 (Nat.le_refl _)).below k3 (Nat.le_refl _)).below k4 (Nat.le_refl _)).below k5 (Nat.le_refl _)).below k6 (Nat.le_refl _))
        have R2 := Lib.hid ((((o2.row.below k3 (Nat.le_refl _)).below k4 (Nat.le_refl _)).below k5 (Nat.le_refl _)).below k6 (Nat.le_refl _))
        have R3 := Lib.hid (((o3.row.below k4 (Nat.le_refl _)).below k5 (Nat.le_refl _)).below k6 (Nat.le_refl _))
        have R4 := Lib.hid ((o4.row.below k5 (Nat.le_refl _)).below k6 (Nat.le_refl _))
        have R5 := Lib.hid (o5.row.below k6 (Nat.le_refl _))
        have R6 := Lib.hid o6.row
        clear o1 o2 o3 o4 o5 o6 k1 k2 k3 k4 k5 k6 k12 k13 k14 k15
        obtain ⟨_, f1, rfl, hc1⟩ := R1.out.at_ (i := 0) (by rw [HLX.out.1]; omega)
        rw [HX0.out, Nat.add_zero] at hc1
        have hne : ∀ b : Int, (b != b) = false := by intro b; simp
        go_wp2
        go_loopw [14] (fun i wx => ∃ (j n : Nat), j ≤ 64 ∧ i = .int .i64 j ∧ wx = w6.drewN n) (fun i _ => 64 - (intOf i).toNat)
        case atStart => exact ⟨0, 0, by omega, rfl, rfl⟩
        case round =>
          obtain ⟨j, n, hj, rfl, rfl⟩ := hrel
          by_cases hlt2 : j < 64
          · obtain ⟨_, _, e, c1⟩ := R1.out.at_ (i := j) (by rw [HLX.out.1]; exact hlt2)
            cases e
            obtain ⟨g2, f2, rfl, c2⟩ := R2.out.at_ (i := j) (by rw [HLX.out.2.1]; exact hlt2)
            obtain ⟨g3, f3, rfl, c3⟩ := R3.out.at_ (i := j) (by rw [HLX.out.2.2.1]; exact hlt2)
            have hz := HXYZ.out j hlt2
            have hx := HXB.out j hlt2
            have hy := HYB.out j hlt2
            rw [hz] at c3
            generalize X.getD j 0 = xx at *
            generalize Y.getD j 0 = yy at *
            obtain ⟨hx0, hx1⟩ := hx
            obtain ⟨hy0, hy1⟩ := hy
            have z1 : (j : Int) < 64 := by omega
            by_cases h16 : j < 16
            · obtain ⟨g4, f4, rfl, c4⟩ := R4.out.at_ (i := j) (by rw [HLX.out.2.2.2.1]; exact h16)
              obtain ⟨g5, f5, rfl, c5⟩ := R5.out.at_ (i := j) (by rw [HLX.out.2.2.2.2.1]; exact h16)
              obtain ⟨g6, f6, rfl, c6⟩ := R6.out.at_ (i := j) (by rw [HLX.out.2.2.2.2.2]; exact h16)
              have hr := HPQR.out j h16
              have hp := HPB.out j h16
              have hq := HQB.out j h16
              rw [hr] at c6
              generalize P.getD j 0 = pp at *
              generalize Q.getD j 0 = qq at *
              obtain ⟨hp0, hp1⟩ := hp
              obtain ⟨hq0, hq1⟩ := hq
              have z2 : (j : Int) < 16 := by omega
              clear hz hr
              go_wp2
              go_quiet (fail)
              go_wp2
              go_roundw
              case rel => exact ⟨j + 1, _, by omega, by go_num, by first | rfl | exact World.drewN_drewN _ _ _⟩
              case measure => simp [intOf]; omega
            · have z2 : (16 : Int) ≤ (j : Int) := by omega
              have zd : decide ((j : Int) < 16) = false := decide_eq_false (by omega)
              clear hz
              go_wp2
              go_quiet (fail)
              go_wp2
              go_roundw
              case rel => exact ⟨j + 1, _, by omega, by go_num, by first | rfl | exact World.drewN_drewN _ _ _⟩
              case measure => simp [intOf]; omega
          · have z1 : (64 : Int) ≤ (j : Int) := by omega
            go_wp2
            go_ret
            exact ⟨rfl, below_drewN' HW6.out _⟩

theorem own : ownKnob Try.prog.godebug = none := by kernel_rfl
theorem laidOut : laidOutB Try.prog = true := by kernel_rfl
set_option maxRecDepth 100000 in
theorem lifted (os : Os) (started : os.Started) (H : Type) (enc : TypeId × Value → H) :
    ReturnsInHanded {} Try.checked os 6 .any (Rows.fnLinearSpec.pre6 enc Try.prog Try.f6 Rows.fnLinearRow.domain false) (Rows.fnLinearSpec.post enc Try.prog Try.f6 false true false false) := by
  refine returnsInHanded_of_change (C := Try.checked) own started (by kernel_rfl) Try.func6
    (ChangeSpec.witness6 (enc := enc) (C := Try.checked) false ⟨#[], #[.slice none 0 0], []⟩ 8 (by kernel_rfl) (by kernel_rfl) (by kernel_rfl) (by kernel_rfl)) ?_
  intro W base args ds gs before hval0 hW hcnd _
  have hval : ∀ (j : Nat) t v, Try.f6.params[j]? = some t → args[j]? = some v → Value.okWide Try.prog W .any base t v := hval0
  have hW' := hW
  obtain ⟨p, q, hA0, hV, rfl, hfz, hnd⟩ := hW
  have hA : DataW.TrodAll enc Try.prog W 0 (fun _ => true) true Try.f6.params.toList args.toList ds p := hA0
  rw [Try.params6] at hA hval
  obtain ⟨v0, vs0, d0, ds0, p0, q0, hargs, rfl, rfl, h0, tr0⟩ := trodAll_cons hA
  obtain ⟨rfl, rfl, rfl⟩ := trodAll_nil tr0
  obtain rfl : args = #[v0] := by cases args; simp_all
  obtain ⟨rfl, rfl⟩ := trodVars_none hV
  have k0 := h0
  have lt0 : ∀ x ∈ p0, x.block < W.heap.size := by obtain ⟨m, hm⟩ := k0; exact DataW.trod_lt m _ _ _ hm
  obtain ⟨a0, len0, c0, rfl⟩ := okWide_slice Try.underlying27 (hval 0 27 v0 rfl rfl)
  obtain ⟨l0, hl0, r0, w0⟩ : ∃ l : List Int, l.length = len0 ∧ RowB W a0 l ∧ ∀ x ∈ l, 0 ≤ x ∧ x ≤ 255 := by
    obtain ⟨fuel, hf⟩ := k0
    rcases open_ints Try.underlying27 Try.underlying5 (by kernel_rfl) hf with ⟨hcs, _⟩ | ⟨x, l, c, zs, hcs, _, hl, hm, hz, _, hcell, hwz⟩
    · simp [Value.cells] at hcs
      obtain ⟨rfl, rfl, rfl⟩ := hcs
      exact ⟨[], rfl, .inl rfl, by simp⟩
    · simp [Value.cells] at hcs
      obtain ⟨rfl, rfl, rfl⟩ := hcs
      exact RowB.of_cells hl (by simpa using hz) hcell (fun n hn => wf_u8 (hwz n hn))
  subst hl0
  clear hA0 hval0
  refine (walk W a0 c0 l0 r0 w0).mono fun e W' ⟨he, bel⟩ => ?_
  subst he
  exact ⟨_, rfl, _, _, _, [], _, [], hW', trodAll_mk1 (shut_bool Try.underlying4 _), (trodAll_cons_mk (Below.trod laidOut (by kernel_rfl) (of_decide_eq_true (by kernel_rfl)) k0 bel lt0) trodAll_mk0), rfl, bel.frame _, fun h => by cases h⟩

theorem over : Rows.fnLinearRow.holds Try.pinned (OpenSpec.ofChange Rows.fnLinearSpec) :=
  OpenClaim.holds_of_wide 6 Try.f6 rfl rfl rfl rfl rfl rfl rfl ⟨rfl, rfl, rfl, rfl, rfl⟩ rfl rfl rfl rfl rfl (by kernel_rfl) Try.func6 (by kernel_rfl)
    (of_decide_eq_true (by kernel_rfl)) (by unfold Func.isWrapper; first | (rw [if_pos (by decide +kernel)]; kernel_rfl) | (rw [if_neg (by decide +kernel)]; exact ⟨rfl, rfl⟩))
    (fun os started H enc _ => lifted os started H enc)

/-- the statement -/
theorem proved : Rows.FnLinearSaid := over
#print axioms proved
end Go.Proofs.Ytchabkkpdafkiaa.fnLinear
