/- For every input the law FnBlocksIn returns true and leaves its arguments as they were; no condition. -/
import Derived.Test.YtkfjbnhihjnhnaaMem
import Derived.Test.YtkfjbnhihjnhnaaFrm
import Derived.Test.YtkfjbnhihjnhnaaDrawI
import Derived.Test.YtkfjbnhihjnhnaaSetB
import Derived.Test.YtkfjbnhihjnhnaaBlk2
import Derived.Test.YtkfjbnhihjnhnaaDrawR
namespace Go.Proofs.Ytkfjbnhihjnhnaa.fnBlocksIn
open Go.ChangeShapes Go.WideShapes Go.ChangeAt Go.RowKit Go.Joins
set_option linter.unusedVariables false
-- DEEP
theorem ix_div {X r q : Nat} (hr : r < X) : (q * X + r) / X = q := by rw [Nat.mul_comm, Nat.mul_add_div (by omega), Nat.div_eq_of_lt hr, Nat.add_zero]
theorem ix_mod {X r q : Nat} (hr : r < X) : (q * X + r) % X = r := by rw [Nat.mul_comm, Nat.mul_add_mod, Nat.mod_eq_of_lt hr]
theorem getD_setN (l : List Int) (m i : Nat) (x : Int) : (l.set m x).getD i 0 = if m = i ∧ i < l.length then x else l.getD i 0 := by
  by_cases hi : i < l.length
  · rw [getD_lt (by rw [List.length_set]; exact hi), List.getElem_set, getD_lt hi]
    simp [hi]
  · rw [if_neg (by omega)]
    have h1 : (l.set m x)[i]? = none := by simp; omega
    have h2 : l[i]? = none := by simp; omega
    simp [List.getD, h1, h2]
theorem setBL_out {X u v n : Nat} {s : List Int} (hn : 0 < n) (hu : u + n ≤ X) (l : List Int) (i : Nat) (hi : i % X < u ∨ u + n ≤ i % X ∨ i / X < v ∨ v + n ≤ i / X) : ∀ k, k ≤ n * n → (setBL X l u v n s k).getD i 0 = l.getD i 0 := by
  intro k
  induction k with
  | zero => intro _; rfl
  | succ k ih =>
    intro hk
    have h1 : k / n < n := Nat.div_lt_of_lt_mul (by omega)
    have h2 : k % n < n := Nat.mod_lt _ hn
    rw [setBL, getD_setN, if_neg, ih (by omega)]
    rintro ⟨e, _⟩
    rw [Nat.add_assoc] at e
    have h3 := ix_div (q := v + k / n) (show u + k % n < X by omega)
    have h4 := ix_mod (q := v + k / n) (show u + k % n < X by omega)
    rw [e] at h3 h4
    generalize k / n = kq at *
    generalize k % n = kr at *
    generalize i / X = iq at *
    generalize i % X = ir at *
    clear e ih hk
    subst h3 h4
    rcases hi with h | h | h | h <;> omega
theorem setBL_in {X u v n : Nat} {s : List Int} (hn : 0 < n) (hu : u + n ≤ X) (l : List Int) (hl : (v + n) * X ≤ l.length) (j : Nat) : ∀ k, k ≤ n * n → j < k → (setBL X l u v n s k).getD ((v + j / n) * X + u + j % n) 0 = s.getD j 0 := by
  intro k
  induction k with
  | zero => intro _ h; omega
  | succ k ih =>
    intro hk hj
    have h1 : k / n < n := Nat.div_lt_of_lt_mul (by omega)
    have h2 : k % n < n := Nat.mod_lt _ hn
    have h5 : j / n < n := Nat.div_lt_of_lt_mul (by omega)
    have h6 : j % n < n := Nat.mod_lt _ hn
    rw [setBL, getD_setN, setBL_len]
    by_cases e : j = k
    · subst e
      have h7 : (v + j / n + 1) * X ≤ (v + n) * X := Nat.mul_le_mul_right X (by omega)
      rw [Nat.add_mul, Nat.one_mul] at h7
      rw [if_pos ⟨rfl, by omega⟩]
    · rw [if_neg, ih (by omega) (by omega)]
      rintro ⟨e2, _⟩
      rw [Nat.add_assoc, Nat.add_assoc] at e2
      have h3 := ix_div (q := v + k / n) (show u + k % n < X by omega)
      have h4 := ix_mod (q := v + k / n) (show u + k % n < X by omega)
      rw [e2, ix_div (by omega)] at h3
      rw [e2, ix_mod (by omega)] at h4
      have h8 := Nat.div_add_mod k n
      have h9 := Nat.div_add_mod j n
      have h10 : k / n = j / n := by omega
      have h11 : k % n = j % n := by omega
      rw [h10, h11] at h8
      omega
theorem setBL_rng {X u v n : Nat} {s : List Int} (l : List Int) (hl : ∀ i, 0 ≤ l.getD i 0 ∧ l.getD i 0 ≤ 255) (hs : ∀ i, 0 ≤ s.getD i 0 ∧ s.getD i 0 ≤ 255) (i : Nat) : ∀ k, 0 ≤ (setBL X l u v n s k).getD i 0 ∧ (setBL X l u v n s k).getD i 0 ≤ 255 := by
  intro k
  induction k with
  | zero => exact hl i
  | succ k ih =>
    rw [setBL, getD_setN]
    split
    · exact hs k
    · exact ih
theorem getD_rng {l : List Int} (h : allR 0 255 l = true) (i : Nat) : 0 ≤ l.getD i 0 ∧ l.getD i 0 ≤ 255 := by
  by_cases hi : i < l.length
  · exact allR_at h hi
  · have h1 : l.getD i 0 = 0 := by
      have h2 : l[i]? = none := by simp; omega
      simp [List.getD, h2]
    omega
theorem tab_getD_self (l : List Int) : tab (fun i => l.getD i 0) l.length = l := by
  apply List.ext_getElem
  · rw [tab_len]
  · intro i h1 h2
    have h3 := tab_getD (fun i => l.getD i 0) l.length i h2
    rw [getD_lt (by rw [tab_len]; exact h2)] at h3
    rw [h3, getD_lt h2]
/-- what the law asks of a frame with a block in it -/
theorem set_law {x y : Int} {L : List Int} {u v : Int} {M : List Int} (h : setOk x y L u v M = true) :
    ∃ X Y U V N : Nat, x = X ∧ y = Y ∧ u = U ∧ v = V ∧ sizeF M.length = N ∧ ((M.length = 16 ∧ N = 4) ∨ (M.length = 64 ∧ N = 8)) ∧ X ≤ 32 ∧ Y ≤ 32 ∧ 8 ≤ X ∧ U ≤ 32 ∧ V ≤ 32 ∧ L.length = X * Y ∧
      (∀ i, i % X < U ∨ U + N ≤ i % X ∨ i / X < V ∨ V + N ≤ i / X → (setV x y L u v M).getD i 0 = L.getD i 0) ∧
      frameB x y (setV x y L u v M) = true ∧ blkF x y (setV x y L u v M) u v (sizeF M.length) = M := by
  have h' := h
  simp only [setOk, Bool.and_eq_true] at h'
  obtain ⟨hf, hM⟩ := h'
  obtain ⟨X, Y, U, V, rfl, rfl, rfl, rfl, hX, hY, hlen, hn⟩ := blk_split hf
  obtain ⟨hfr, _, _, _, _, _⟩ := fitsB_true hf
  obtain ⟨hs, hl2, ha⟩ := frameB_true hfr
  have hsd := sidesB_true hs
  have hV : setV X Y L U V M = setBL X L U V (sizeF M.length).toNat M M.length := by rw [setV, if_pos h]; simp
  have hfV : frameB X Y (setV X Y L U V M) = true := by
    have h1 : allR 0 255 (setV X Y L U V M) = true := allR_mk (fun i _ => by
      rw [hV]
      have := setBL_rng (X := X) (u := U) (v := V) (n := (sizeF M.length).toNat) L (getD_rng ha) (getD_rng hM) i M.length
      exact inR_mk this)
    simp [frameB, hs, setV_len, hl2, h1]
  have main : ∀ N : Nat, sizeF M.length = N → 0 < N → M.length = N * N → U + N ≤ X → V + N ≤ Y →
      (∀ i, i % X < U ∨ U + N ≤ i % X ∨ i / X < V ∨ V + N ≤ i / X → (setV X Y L U V M).getD i 0 = L.getD i 0) ∧ blkF X Y (setV X Y L U V M) U V N = M := by
    intro N hN hN0 hMN hUN hVN
    have hNn : (sizeF M.length).toNat = N := by rw [hN]; simp
    rw [hNn] at hV
    refine ⟨fun i hi => ?_, ?_⟩
    · rw [hV]
      exact setBL_out hN0 hUN L i hi _ (by omega)
    · have hft : fitsB X Y (setV X Y L U V M) U V N = true := by
        rw [← hN]
        rw [fitsB] at hf ⊢
        rw [hfV]
        rw [hfr] at hf
        exact hf
      rw [blkF, if_pos hft]
      simp only [Int.toNat_natCast]
      rw [← hMN]
      rw [show tab (blkAt X (setV X Y L U V M) U V N) M.length = tab (fun i => M.getD i 0) M.length from tab_congr (fun j hj => by
        show blkAt _ _ _ _ _ _ = _
        rw [blkAt, hV]
        exact setBL_in hN0 hUN L (by rw [hlen, Nat.mul_comm X Y]; exact Nat.mul_le_mul_right X hVN) j M.length (by omega) hj)]
      exact tab_getD_self M
  rcases sizeF_cases M.length with ⟨hm, he⟩ | ⟨hm, he⟩ | ⟨_, _, he⟩
  · rcases hn with ⟨_, h1, h2⟩ | ⟨h0, _, _⟩
    · obtain ⟨m1, m2⟩ := main 4 he (by decide) (by omega) h1 h2
      exact ⟨X, Y, U, V, 4, rfl, rfl, rfl, rfl, he, .inl ⟨hm, rfl⟩, hX, hY, by omega, by omega, by omega, hlen, m1, hfV, by rw [he]; exact m2⟩
    · omega
  · rcases hn with ⟨h0, _, _⟩ | ⟨_, h1, h2⟩
    · omega
    · obtain ⟨m1, m2⟩ := main 8 he (by decide) (by omega) h1 h2
      exact ⟨X, Y, U, V, 8, rfl, rfl, rfl, rfl, he, .inr ⟨hm, rfl⟩, hX, hY, by omega, by omega, by omega, hlen, m1, hfV, by rw [he]; exact m2⟩
  · omega

set_option maxRecDepth 100000 in
set_option maxHeartbeats 4000000 in
theorem walk (w : World) (a0 : Option Addr) (c0 : Nat) (l0 : List Int) (r0 : RowB w a0 l0) (w0 : ∀ x ∈ l0, 0 ≤ x ∧ x ≤ 255) :
    Calls Try.prog 7 #[.slice a0 l0.length c0] w fun e w' => e = .returned (.bool true) ∧ Below w.heap.size w w' := by
  by_cases hbig : 1048576 < l0.length
  · have HB := Lib.hid (big_c a0 c0 l0.length w)
    rw [decide_eq_true hbig] at HB
    clear hbig r0 w0
    go_enter Try.func7, Try.ntmps7
    go_wp2_with (go_at_call 8; refine HB.out.mono ?_; rintro e w' ⟨rfl, rfl⟩)
    go_ret
    exact ⟨rfl, Below.refl _ _⟩
  · have HB := Lib.hid (big_c a0 c0 l0.length w)
    rw [decide_eq_false hbig] at HB
    have HD := Lib.hid (DrawSetBlock_c a0 c0 l0 w (by omega) r0 w0)
    clear hbig r0 w0
    go_enter Try.func7, Try.ntmps7
    go_wp2_with (go_at_call 8; refine HB.out.mono ?_; rintro e w' ⟨rfl, rfl⟩)
    refine HD.out.mono ?_
    rintro e w4 ⟨X, Y, x, d, L, u, v, y, q, M, rfl, hX, hY, huv, hLl, hLd, hLb, hMl, hMq, hMb, hrL, hrM, k4⟩
    have hLw : ∀ z ∈ L, -9223372036854775808 ≤ z ∧ z ≤ 9223372036854775807 := fun z hz => by have := hLb z hz; omega
    have hMw : ∀ z ∈ M, -9223372036854775808 ≤ z ∧ z ≤ 9223372036854775807 := fun z hz => by have := hMb z hz; omega
    obtain ⟨px, fx, rfl, _, _⟩ := hrL.inside hLl.1
    obtain ⟨S, hS⟩ : ∃ S, S = setV X Y L u v M := ⟨_, rfl⟩
    obtain ⟨o, ho⟩ : ∃ o, o = setOk X Y L u v M := ⟨_, rfl⟩
    have hSl : S.length = L.length := by rw [hS]; exact setV_len _ _ _ _ _ _
    have hSw : ∀ z ∈ S, -9223372036854775808 ≤ z ∧ z ≤ 9223372036854775807 := by
      rw [hS, setV]
      split
      · intro z hz
        rw [List.mem_iff_getElem] at hz
        obtain ⟨i, hi, rfl⟩ := hz
        have hk := ‹setOk X Y L u v M = true›
        simp only [setOk, Bool.and_eq_true] at hk
        have := setBL_rng (X := (X : Int).toNat) (u := u.toNat) (v := v.toNat) (n := (sizeF M.length).toNat) L (getD_rng (frameB_true (fitsB_true hk.1).1).2.2) (getD_rng hk.2) i M.length
        rw [getD_lt hi] at this
        omega
      · exact hLw
    have HI0 : Hid (∀ t, Row t (some ⟨px, fx, none⟩) L → Row t y M → Calls Try.prog 31 #[frv X Y (some ⟨px, fx, none⟩) L.length d, .int .i64 u, .int .i64 v, .slice y M.length q] t fun e w' => ∃ b d', e = .returned (.tuple #[frv X Y b S.length d', .bool o]) ∧ Own t.heap.size w' b d' S ∧ Below t.heap.size t w') := Lib.hid (fun t h1 h2 => by
      rw [hS, ho]
      exact impl.SetBlock_c X Y _ d L u v y q M t (by omega) (by omega) (by omega) h1 hLw (by omega) h2 hMw)
    have HS0 : Hid (∀ t, Row t (some ⟨px, fx, none⟩) L → Row t y M → Calls Try.prog 32 #[frv X Y (some ⟨px, fx, none⟩) L.length d, .int .i64 u, .int .i64 v, .slice y M.length q] t fun e w' => ∃ b d', e = .returned (.tuple #[frv X Y b S.length d', .bool o]) ∧ Own t.heap.size w' b d' S ∧ Below t.heap.size t w') := Lib.hid (fun t h1 h2 => by
      rw [hS, ho]
      exact spec.SetBlock_c X Y _ d L u v y q M t (by omega) (by omega) (by omega) h1 hLw (by omega) h2 hMw (.inr ⟨_, rfl⟩))
    have HSAME : Hid (∀ b c' t, Row t (some ⟨px, fx, none⟩) L → Row t b L → Calls Try.prog 12 #[frv X Y (some ⟨px, fx, none⟩) L.length d, frv X Y b L.length c'] t fun e w' => e = .returned (.bool true) ∧ Below t.heap.size t w') := Lib.hid (fun b c' t h1 h2 => by
      have h := spec.SameFrame_c X Y _ d L X Y b c' L t (by omega) (by omega) (by omega) h1 hLw (by omega) (by omega) (by omega) h2 hLw
      rw [show sameB X Y L X Y L = true from by simp [sameB]] at h
      exact h)
    have HSA2 : Hid (∀ b c' t, Row t b S → Calls Try.prog 24 #[frv X Y b S.length c', frv X Y b S.length c'] t fun e w' => e = .returned (.bool true) ∧ Below t.heap.size t w') := Lib.hid (fun b c' t h2 => by
      have h := impl.SameFrame_c X Y b c' S X Y b c' S t (by omega) (by omega) (by omega) h2 hSw (by omega) (by omega) (by omega) h2 hSw
      rw [show sameB X Y S X Y S = true from by simp [sameB]] at h
      exact h)
    have HFO : Hid (∀ b c' t, Row t b S → Calls Try.prog 15 #[frv X Y b S.length c'] t fun e w' => e = .returned (.bool (frameB X Y S)) ∧ Below t.heap.size t w') := Lib.hid (fun b c' t h2 => impl.FrameOk_c X Y b c' S t (by omega) (by omega) (by omega) h2 hSw)
    have HBK : Hid (∀ b c' t, Row t b S → Calls Try.prog 33 #[frv X Y b S.length c', .int .i64 u, .int .i64 v, .int .i64 (sizeF M.length)] t fun e w' => ∃ b' d', e = .returned (.slice b' (blkF X Y S u v (sizeF M.length)).length d') ∧ Own t.heap.size w' b' d' (blkF X Y S u v (sizeF M.length)) ∧ Below t.heap.size t w') := Lib.hid (fun b c' t h2 => impl.BlockAt_c X Y b c' S u v (sizeF M.length) t (by omega) (by omega) (by omega) h2 hSw)
    have HSM : Hid (∀ b c' t, Row t b M → Row t y M → Calls Try.prog 28 #[.slice b M.length c', .slice y M.length q] t fun e w' => e = .returned (.bool true) ∧ Below t.heap.size t w') := Lib.hid (fun b c' t h1 h2 => sameInts_t b y c' q M t (by omega) h1 h2)
    have HLAW : Hid (o = true → _) := Lib.hid (fun hh => set_law (ho.symm.trans hh))
    have HSN : Hid (o = false → S = L) := Lib.hid (fun hh => by rw [hS, setV, ← ho, hh]; simp)
    have HSV := Lib.hid hS
    obtain ⟨nL, hnL⟩ : ∃ n, L.length = n := ⟨_, rfl⟩
    obtain ⟨mL, hmL⟩ : ∃ n, M.length = n := ⟨_, rfl⟩
    have HNL := Lib.hid hnL
    have HML := Lib.hid hmL
    have HSL := Lib.hid (hSl.trans hnL)
    rw [HSL.out] at HSA2 HFO HBK
    rw [hnL, hmL, HSL.out] at HI0 HS0
    rw [hnL] at HSAME ⊢
    rw [hmL] at HSM ⊢
    have hnl : nL ≤ 384 := by omega
    have hml : mL ≤ 256 := by omega
    have HR : Hid (∀ t, Below w4.heap.size w4 t → Row t (some ⟨px, fx, none⟩) L ∧ Row t y M) := Lib.hid (fun t h => ⟨hrL.below h (Nat.le_refl _), hrM.below h (Nat.le_refl _)⟩)
    have HK4 := Lib.hid k4
    obtain ⟨w5, hw5⟩ : ∃ w5, w5 = w4.alloc (.cells #[.int .i64 X, .int .i64 Y, .slice (some ⟨px, fx, none⟩) nL d] 26) := ⟨_, rfl⟩
    have k45 : Below w4.heap.size w4 w5 := by rw [hw5]; exact (Below.refl _ _).alloc (Nat.le_refl _) _
    have HF0 : Hid (Box3 w5 w4.heap.size (.int .i64 X) (.int .i64 Y) (.slice (some ⟨px, fx, none⟩) nL d)) := Lib.hid (by rw [hw5]; exact Box3.new _ _ _ _ _)
    obtain ⟨kf, hkf⟩ : ∃ k, k = w4.heap.size := ⟨_, rfl⟩
    rw [← hkf] at HF0
    clear hLb hMb hLw hMw hSw hLl hLd hMl hMq hS ho hSl hnL hmL HD hrL hrM k4
    go_wp2_with fail
    rw [← hkf, ← hw5]
    obtain ⟨_, f0, f1, f2⟩ := HF0.out
    clear hw5 hkf
    refine (HI0.out w5 (HR.out _ k45).1 (HR.out _ k45).2).mono ?_
    rintro e w6 ⟨b1, d1, rfl, o1, k56⟩
    have k46 := below_next k45 k56
    obtain ⟨w7, hw7⟩ : ∃ w7, w7 = w6.alloc (.cells #[.int .i64 X, .int .i64 Y, .slice b1 nL d1] 26) := ⟨_, rfl⟩
    have k67 : Below w6.heap.size w6 w7 := by rw [hw7]; exact (Below.refl _ _).alloc (Nat.le_refl _) _
    have HG0 : Hid (Box3 w7 w6.heap.size (.int .i64 X) (.int .i64 Y) (.slice b1 nL d1)) := Lib.hid (by rw [hw7]; exact Box3.new _ _ _ _ _)
    have HR1 : Hid (∀ t, Below w7.heap.size w7 t → Row t b1 S) := Lib.hid (fun t h => o1.row.below (below_next k67 h) (Nat.le_refl _))
    have k47 := below_next k46 k67
    have HFG := Lib.hid (HF0.out.below (below_next k56 k67) (Nat.le_refl _))
    obtain ⟨kg, hkg⟩ : ∃ k, k = w6.heap.size := ⟨_, rfl⟩
    obtain ⟨_, f0, f1, f2⟩ := HF0.out.below k56 (Nat.le_refl _)
    rw [← hkg] at HG0
    have hkfg : kf < kg := by rw [hkg]; exact Nat.lt_of_lt_of_le HF0.out.1 k56.size
    have hkn1 : ¬ (kf = kg) := by omega
    have hkn2 : ¬ (kg = kf) := by omega
    clear o1 k56 k45
    go_wp2_with fail
    rw [← hkg, ← hw7]
    clear hw7 hkg k46 k67
    obtain ⟨_, f0, f1, f2⟩ := HFG.out
    refine (HS0.out w7 (HR.out _ k47).1 (HR.out _ k47).2).mono ?_
    rintro e w8 ⟨b2, d2, rfl, o2, k78⟩
    obtain ⟨w9, hw9⟩ : ∃ w9, w9 = w8.alloc (.cells #[.int .i64 X, .int .i64 Y, .slice b2 nL d2] 26) := ⟨_, rfl⟩
    have k89 : Below w8.heap.size w8 w9 := by rw [hw9]; exact (Below.refl _ _).alloc (Nat.le_refl _) _
    have k79 := below_next k78 k89
    have HK := Lib.hid (below_next (below_next HK4.out k47) k79)
    have HRL := Lib.hid (HR.out _ (below_next k47 k79)).1
    have HRM : Hid (∀ t, Below w9.heap.size w9 t → Row t y M ∧ Row t b1 S) := Lib.hid (fun t h => ⟨(HR.out _ (below_next (below_next k47 k79) h)).2, HR1.out _ (below_next k79 h)⟩)
    have HF9 := Lib.hid (HFG.out.below k79 (Nat.le_refl _))
    have HG9 := Lib.hid (HG0.out.below k79 (Nat.le_refl _))
    obtain ⟨_, f0, f1, f2⟩ := HFG.out.below k78 (Nat.le_refl _)
    obtain ⟨_, g0, g1, g2⟩ := HG0.out.below k78 (Nat.le_refl _)
    obtain ⟨kh, hkh⟩ : ∃ k, k = w8.heap.size := ⟨_, rfl⟩
    have hk8 : kg < w8.heap.size := Nat.lt_of_lt_of_le HG0.out.1 k78.size
    have hkn3 : ¬ (kf = kh) := by omega
    have hkn4 : ¬ (kh = kf) := by omega
    have hkn5 : ¬ (kg = kh) := by omega
    have hkn6 : ¬ (kh = kg) := by omega
    clear o2 k78 k47 HFG HG0 HF0 HR HR1 HI0 HS0 HK4 huv
    have hneb : ∀ b : Bool, (b != b) = false := by intro b; cases b <;> rfl
    cases o
    · have hSN := HSN.out rfl
      subst hSN
      rw [hkh] at hkn3 hkn4 hkn5 hkn6
      go_wp2_with fail
      rw [← hw9]
      refine (HSAME.out b1 d1 w9 HRL.out (HRM.out _ (Below.refl _ _)).2).mono ?_
      rintro e w10 ⟨rfl, k10⟩
      have HF := Lib.hid (below_next HK.out k10)
      clear k10 k89 k79 hw9
      go_wp2
      go_ret
      exact ⟨rfl, HF.out⟩
    · obtain ⟨X', Y', U, V, N, hX', hY', hU', hV', hN, hMN, hX32, hY32, hX8, hU32, hV32, hlen, hout, hfr, hbk⟩ := HLAW.out rfl
      obtain rfl : X = X' := by omega
      obtain rfl : Y = Y' := by omega
      subst hU' hV'
      rw [← HSV.out] at hout hfr hbk
      rw [hfr] at HFO
      rw [hbk, hN] at HBK
      rw [HML.out] at hMN HBK
      have HOUT := Lib.hid hout
      clear hout hfr hbk hX' hY' hlen HLAW HSN HSAME HSV hN
      rw [hkh] at hkn3 hkn4 hkn5 hkn6
      rcases hMN with ⟨hm16, hN4⟩ | ⟨hm16, hN4⟩
      · subst hm16 hN4
        go_wp2_with fail
        rw [← hw9]
        clear hw9 k89 k79 hkh hkn3 hkn4 hkn5 hkn6 f0 f1 f2 g0 g1 g2
        obtain ⟨U4, hU4⟩ : ∃ z, z = U + 4 := ⟨_, rfl⟩
        obtain ⟨V4, hV4⟩ : ∃ z, z = V + 4 := ⟨_, rfl⟩
        have iU : (U : Int) + 4 = (U4 : Int) := by omega
        have iUw : IntKind.i64.wrap ((U : Int) + 4) = (U4 : Int) := by rw [iU]; exact IntWalk.i64_in _ (by omega)
        have iV : (V : Int) + 4 = (V4 : Int) := by omega
        have iVw : IntKind.i64.wrap ((V : Int) + 4) = (V4 : Int) := by rw [iV]; exact IntWalk.i64_in _ (by omega)
        have hU9 : U4 ≤ 64 := by omega
        have hV9 : V4 ≤ 64 := by omega
        have HUV : Hid (U4 = U + 4 ∧ V4 = V + 4) := Lib.hid ⟨hU4, hV4⟩
        clear hU4 hV4
        go_loopw [12] (fun i wr => ∃ (j m : Nat), j ≤ nL ∧ i = .int .i64 j ∧ wr = w9.drewN m) (fun i _ => nL - (intOf i).toNat)
        case atStart => exact ⟨0, 0, Nat.zero_le _, rfl, rfl⟩
        case round =>
          obtain ⟨j, m, hj, rfl, rfl⟩ := hrel
          obtain ⟨_, f0, f1, f2⟩ := HF9.out
          obtain ⟨_, g0, g1, g2⟩ := HG9.out
          by_cases hlt : j < nL
          · have hltd : decide ((j : Int) < (nL : Int)) = true := decide_eq_true (by omega)
            have hltn : decide (j < nL) = true := decide_eq_true hlt
            have hjn : (j : Int) < (nL : Int) := by omega
            obtain ⟨_, _, e, cL⟩ := HRL.out.at_ (i := j) (by rw [HNL.out]; exact hlt)
            cases e
            obtain ⟨gS, fS, rfl, cS⟩ := (HRM.out _ (Below.refl _ _)).2.at_ (i := j) (by rw [HSL.out]; exact hlt)
            obtain ⟨am, ham⟩ : ∃ t, t = j % X := ⟨_, rfl⟩
            obtain ⟨bm, hbm⟩ : ∃ t, t = j / X := ⟨_, rfl⟩
            have hbj : bm ≤ j := by rw [hbm]; exact Nat.div_le_self _ _
            have haj : am < X := by rw [ham]; exact Nat.mod_lt _ (by omega)
            have q1 : (j : Int).tmod (X : Int) = (am : Int) := by rw [Int.tmod_eq_emod_of_nonneg (by omega), ham]; rfl
            have q3 : (j : Int) % (X : Int) = (am : Int) := by rw [ham]; rfl
            have q5 : (j : Int).tdiv (X : Int) = (bm : Int) := by rw [Int.tdiv_eq_ediv_of_nonneg (by omega), hbm]; rfl
            have q2 : IntKind.i64.wrap ((j : Int).tdiv (X : Int)) = (bm : Int) := by rw [q5]; exact IntWalk.i64_in _ (by omega)
            have q4 : (j : Int) / (X : Int) = (bm : Int) := by rw [hbm]; rfl
            have hxz : ((X : Int) == 0) = false := by simp; omega
            have hxz2 : ¬ ((X : Int) = 0) := by omega
            have hxz3 : ¬ (X = 0) := by omega
            have hq1 := Lib.hid ham
            have hq2 := Lib.hid hbm
            clear ham hbm
            by_cases c1 : am < U
            · have t1 : decide ((am : Int) < (U : Int)) = true := decide_eq_true (by omega)
              have t1n : decide (am < U) = true := decide_eq_true c1
              have hv := HOUT.out j (.inl (by rw [← hq1.out]; exact c1))
              rw [hv] at cS
              generalize L.getD j 0 = pv at *
              clear hv hq1 hq2
              go_wp2
              go_quiet (fail)
              go_wp2
              go_roundw
              case rel => exact ⟨j + 1, _, by omega, by go_num, by first | rfl | exact World.drewN_drewN _ _ _⟩
              case measure => simp [intOf]; omega
            · have t1 : decide ((am : Int) < (U : Int)) = false := decide_eq_false (by omega)
              have t1n : decide (am < U) = false := decide_eq_false c1
              by_cases c2 : U4 ≤ am
              · have t2 : decide ((U4 : Int) ≤ (am : Int)) = true := decide_eq_true (by omega)
                have t2n : decide (U4 ≤ am) = true := decide_eq_true c2
                have hv := HOUT.out j (.inr (.inl (by rw [← hq1.out]; have := HUV.out; omega)))
                rw [hv] at cS
                generalize L.getD j 0 = pv at *
                clear hv hq1 hq2
                go_wp2
                go_quiet (fail)
                go_wp2
                go_roundw
                case rel => exact ⟨j + 1, _, by omega, by go_num, by first | rfl | exact World.drewN_drewN _ _ _⟩
                case measure => simp [intOf]; omega
              · have t2 : decide ((U4 : Int) ≤ (am : Int)) = false := decide_eq_false (by omega)
                have t2n : decide (U4 ≤ am) = false := decide_eq_false c2
                by_cases c3 : bm < V
                · have t3 : decide ((bm : Int) < (V : Int)) = true := decide_eq_true (by omega)
                  have t3n : decide (bm < V) = true := decide_eq_true c3
                  have hv := HOUT.out j (.inr (.inr (.inl (by rw [← hq2.out]; exact c3))))
                  rw [hv] at cS
                  generalize L.getD j 0 = pv at *
                  clear hv hq1 hq2
                  go_wp2
                  go_quiet (fail)
                  go_wp2
                  go_roundw
                  case rel => exact ⟨j + 1, _, by omega, by go_num, by first | rfl | exact World.drewN_drewN _ _ _⟩
                  case measure => simp [intOf]; omega
                · have t3 : decide ((bm : Int) < (V : Int)) = false := decide_eq_false (by omega)
                  have t3n : decide (bm < V) = false := decide_eq_false c3
                  by_cases c4 : V4 ≤ bm
                  · have t4 : decide ((V4 : Int) ≤ (bm : Int)) = true := decide_eq_true (by omega)
                    have t4n : decide (V4 ≤ bm) = true := decide_eq_true c4
                    have hv := HOUT.out j (.inr (.inr (.inr (by rw [← hq2.out]; have := HUV.out; omega))))
                    rw [hv] at cS
                    generalize L.getD j 0 = pv at *
                    clear hv hq1 hq2
                    go_wp2
                    go_quiet (fail)
                    go_wp2
                    go_roundw
                    case rel => exact ⟨j + 1, _, by omega, by go_num, by first | rfl | exact World.drewN_drewN _ _ _⟩
                    case measure => simp [intOf]; omega
                  · have t4 : decide ((V4 : Int) ≤ (bm : Int)) = false := decide_eq_false (by omega)
                    have t4n : decide (V4 ≤ bm) = false := decide_eq_false c4
                    clear hq1 hq2 cL cS
                    go_wp2
                    go_quiet (fail)
                    go_wp2
                    go_roundw
                    case rel => exact ⟨j + 1, _, by omega, by go_num, by first | rfl | exact World.drewN_drewN _ _ _⟩
                    case measure => simp [intOf]; omega
          · have hltd : decide ((j : Int) < (nL : Int)) = false := decide_eq_false (by omega)
            have hltn : decide (j < nL) = false := decide_eq_false hlt
            have HKD := Lib.hid (below_drewN' HK.out m)
            have HX : Hid (∀ t, Below (w9.drewN m).heap.size (w9.drewN m) t → Row t y M ∧ Row t b1 S ∧ Box3 t kg (.int .i64 X) (.int .i64 Y) (.slice b1 nL d1) ∧ Box3 t kf (.int .i64 X) (.int .i64 Y) (.slice (some ⟨px, fx, none⟩) nL d)) := Lib.hid (fun t h => by
              have h9 : Below w9.heap.size w9 t := below_next (below_drewN' (Below.refl _ _) m) h
              exact ⟨(HRM.out t h9).1, (HRM.out t h9).2, HG9.out.below h9 (Nat.le_refl _), HF9.out.below h9 (Nat.le_refl _)⟩)
            obtain ⟨wz, hwz⟩ : ∃ z, z = w9.drewN m := ⟨_, rfl⟩
            rw [← hwz] at HKD HX ⊢
            clear hwz f0 f1 f2 g0 g1 g2
            obtain ⟨_, g0, g1, g2⟩ := (HX.out _ (Below.refl _ _)).2.2.1
            obtain ⟨_, f0, f1, f2⟩ := (HX.out _ (Below.refl _ _)).2.2.2
            go_wp2_with fail
            refine (HBK.out b1 d1 wz (HX.out _ (Below.refl _ _)).2.1).mono ?_
            rintro e w10 ⟨b3, d3, rfl, o3, k10⟩
            go_wp2_with fail
            refine (HSM.out b3 d3 w10 o3.row (HX.out _ k10).1).mono ?_
            rintro e w11 ⟨rfl, k11⟩
            have k11 := below_next k10 k11
            obtain ⟨_, g0, g1, g2⟩ := (HX.out _ k11).2.2.1
            clear o3 k10
            go_wp2_with fail
            refine (HFO.out b1 d1 w11 (HX.out _ k11).2.1).mono ?_
            rintro e w12 ⟨rfl, k12⟩
            have k12 := below_next k11 k12
            obtain ⟨_, g0, g1, g2⟩ := (HX.out _ k12).2.2.1
            clear k11
            go_wp2_with fail
            refine (HSA2.out b1 d1 w12 (HX.out _ k12).2.1).mono ?_
            rintro e w13 ⟨rfl, k13⟩
            have HF := Lib.hid (below_next (below_next HKD.out k12) k13)
            clear k12 k13
            go_wp2
            go_ret
            exact ⟨rfl, HF.out⟩
      · subst hm16 hN4
        go_wp2_with fail
        rw [← hw9]
        clear hw9 k89 k79 hkh hkn3 hkn4 hkn5 hkn6 f0 f1 f2 g0 g1 g2
        obtain ⟨U4, hU4⟩ : ∃ z, z = U + 8 := ⟨_, rfl⟩
        obtain ⟨V4, hV4⟩ : ∃ z, z = V + 8 := ⟨_, rfl⟩
        have iU : (U : Int) + 8 = (U4 : Int) := by omega
        have iUw : IntKind.i64.wrap ((U : Int) + 8) = (U4 : Int) := by rw [iU]; exact IntWalk.i64_in _ (by omega)
        have iV : (V : Int) + 8 = (V4 : Int) := by omega
        have iVw : IntKind.i64.wrap ((V : Int) + 8) = (V4 : Int) := by rw [iV]; exact IntWalk.i64_in _ (by omega)
        have hU9 : U4 ≤ 64 := by omega
        have hV9 : V4 ≤ 64 := by omega
        have HUV : Hid (U4 = U + 8 ∧ V4 = V + 8) := Lib.hid ⟨hU4, hV4⟩
        clear hU4 hV4
        go_loopw [12] (fun i wr => ∃ (j m : Nat), j ≤ nL ∧ i = .int .i64 j ∧ wr = w9.drewN m) (fun i _ => nL - (intOf i).toNat)
        case atStart => exact ⟨0, 0, Nat.zero_le _, rfl, rfl⟩
        case round =>
          obtain ⟨j, m, hj, rfl, rfl⟩ := hrel
          obtain ⟨_, f0, f1, f2⟩ := HF9.out
          obtain ⟨_, g0, g1, g2⟩ := HG9.out
          by_cases hlt : j < nL
          · have hltd : decide ((j : Int) < (nL : Int)) = true := decide_eq_true (by omega)
            have hltn : decide (j < nL) = true := decide_eq_true hlt
            have hjn : (j : Int) < (nL : Int) := by omega
            obtain ⟨_, _, e, cL⟩ := HRL.out.at_ (i := j) (by rw [HNL.out]; exact hlt)
            cases e
            obtain ⟨gS, fS, rfl, cS⟩ := (HRM.out _ (Below.refl _ _)).2.at_ (i := j) (by rw [HSL.out]; exact hlt)
            obtain ⟨am, ham⟩ : ∃ t, t = j % X := ⟨_, rfl⟩
            obtain ⟨bm, hbm⟩ : ∃ t, t = j / X := ⟨_, rfl⟩
            have hbj : bm ≤ j := by rw [hbm]; exact Nat.div_le_self _ _
            have haj : am < X := by rw [ham]; exact Nat.mod_lt _ (by omega)
            have q1 : (j : Int).tmod (X : Int) = (am : Int) := by rw [Int.tmod_eq_emod_of_nonneg (by omega), ham]; rfl
            have q3 : (j : Int) % (X : Int) = (am : Int) := by rw [ham]; rfl
            have q5 : (j : Int).tdiv (X : Int) = (bm : Int) := by rw [Int.tdiv_eq_ediv_of_nonneg (by omega), hbm]; rfl
            have q2 : IntKind.i64.wrap ((j : Int).tdiv (X : Int)) = (bm : Int) := by rw [q5]; exact IntWalk.i64_in _ (by omega)
            have q4 : (j : Int) / (X : Int) = (bm : Int) := by rw [hbm]; rfl
            have hxz : ((X : Int) == 0) = false := by simp; omega
            have hxz2 : ¬ ((X : Int) = 0) := by omega
            have hxz3 : ¬ (X = 0) := by omega
            have hq1 := Lib.hid ham
            have hq2 := Lib.hid hbm
            clear ham hbm
            by_cases c1 : am < U
            · have t1 : decide ((am : Int) < (U : Int)) = true := decide_eq_true (by omega)
              have t1n : decide (am < U) = true := decide_eq_true c1
              have hv := HOUT.out j (.inl (by rw [← hq1.out]; exact c1))
              rw [hv] at cS
              generalize L.getD j 0 = pv at *
              clear hv hq1 hq2
              go_wp2
              go_quiet (fail)
              go_wp2
              go_roundw
              case rel => exact ⟨j + 1, _, by omega, by go_num, by first | rfl | exact World.drewN_drewN _ _ _⟩
              case measure => simp [intOf]; omega
            · have t1 : decide ((am : Int) < (U : Int)) = false := decide_eq_false (by omega)
              have t1n : decide (am < U) = false := decide_eq_false c1
              by_cases c2 : U4 ≤ am
              · have t2 : decide ((U4 : Int) ≤ (am : Int)) = true := decide_eq_true (by omega)
                have t2n : decide (U4 ≤ am) = true := decide_eq_true c2
                have hv := HOUT.out j (.inr (.inl (by rw [← hq1.out]; have := HUV.out; omega)))
                rw [hv] at cS
                generalize L.getD j 0 = pv at *
                clear hv hq1 hq2
                go_wp2
                go_quiet (fail)
                go_wp2
                go_roundw
                case rel => exact ⟨j + 1, _, by omega, by go_num, by first | rfl | exact World.drewN_drewN _ _ _⟩
                case measure => simp [intOf]; omega
              · have t2 : decide ((U4 : Int) ≤ (am : Int)) = false := decide_eq_false (by omega)
                have t2n : decide (U4 ≤ am) = false := decide_eq_false c2
                by_cases c3 : bm < V
                · have t3 : decide ((bm : Int) < (V : Int)) = true := decide_eq_true (by omega)
                  have t3n : decide (bm < V) = true := decide_eq_true c3
                  have hv := HOUT.out j (.inr (.inr (.inl (by rw [← hq2.out]; exact c3))))
                  rw [hv] at cS
                  generalize L.getD j 0 = pv at *
                  clear hv hq1 hq2
                  go_wp2
                  go_quiet (fail)
                  go_wp2
                  go_roundw
                  case rel => exact ⟨j + 1, _, by omega, by go_num, by first | rfl | exact World.drewN_drewN _ _ _⟩
                  case measure => simp [intOf]; omega
                · have t3 : decide ((bm : Int) < (V : Int)) = false := decide_eq_false (by omega)
                  have t3n : decide (bm < V) = false := decide_eq_false c3
                  by_cases c4 : V4 ≤ bm
                  · have t4 : decide ((V4 : Int) ≤ (bm : Int)) = true := decide_eq_true (by omega)
                    have t4n : decide (V4 ≤ bm) = true := decide_eq_true c4
                    have hv := HOUT.out j (.inr (.inr (.inr (by rw [← hq2.out]; have := HUV.out; omega))))
                    rw [hv] at cS
                    generalize L.getD j 0 = pv at *
                    clear hv hq1 hq2
                    go_wp2
                    go_quiet (fail)
                    go_wp2
                    go_roundw
                    case rel => exact ⟨j + 1, _, by omega, by go_num, by first | rfl | exact World.drewN_drewN _ _ _⟩
                    case measure => simp [intOf]; omega
                  · have t4 : decide ((V4 : Int) ≤ (bm : Int)) = false := decide_eq_false (by omega)
                    have t4n : decide (V4 ≤ bm) = false := decide_eq_false c4
                    clear hq1 hq2 cL cS
                    go_wp2
                    go_quiet (fail)
                    go_wp2
                    go_roundw
                    case rel => exact ⟨j + 1, _, by omega, by go_num, by first | rfl | exact World.drewN_drewN _ _ _⟩
                    case measure => simp [intOf]; omega
          · have hltd : decide ((j : Int) < (nL : Int)) = false := decide_eq_false (by omega)
            have hltn : decide (j < nL) = false := decide_eq_false hlt
            have HKD := Lib.hid (below_drewN' HK.out m)
            have HX : Hid (∀ t, Below (w9.drewN m).heap.size (w9.drewN m) t → Row t y M ∧ Row t b1 S ∧ Box3 t kg (.int .i64 X) (.int .i64 Y) (.slice b1 nL d1) ∧ Box3 t kf (.int .i64 X) (.int .i64 Y) (.slice (some ⟨px, fx, none⟩) nL d)) := Lib.hid (fun t h => by
              have h9 : Below w9.heap.size w9 t := below_next (below_drewN' (Below.refl _ _) m) h
              exact ⟨(HRM.out t h9).1, (HRM.out t h9).2, HG9.out.below h9 (Nat.le_refl _), HF9.out.below h9 (Nat.le_refl _)⟩)
            obtain ⟨wz, hwz⟩ : ∃ z, z = w9.drewN m := ⟨_, rfl⟩
            rw [← hwz] at HKD HX ⊢
            clear hwz f0 f1 f2 g0 g1 g2
            obtain ⟨_, g0, g1, g2⟩ := (HX.out _ (Below.refl _ _)).2.2.1
            obtain ⟨_, f0, f1, f2⟩ := (HX.out _ (Below.refl _ _)).2.2.2
            go_wp2_with fail
            refine (HBK.out b1 d1 wz (HX.out _ (Below.refl _ _)).2.1).mono ?_
            rintro e w10 ⟨b3, d3, rfl, o3, k10⟩
            go_wp2_with fail
            refine (HSM.out b3 d3 w10 o3.row (HX.out _ k10).1).mono ?_
            rintro e w11 ⟨rfl, k11⟩
            have k11 := below_next k10 k11
            obtain ⟨_, g0, g1, g2⟩ := (HX.out _ k11).2.2.1
            clear o3 k10
            go_wp2_with fail
            refine (HFO.out b1 d1 w11 (HX.out _ k11).2.1).mono ?_
            rintro e w12 ⟨rfl, k12⟩
            have k12 := below_next k11 k12
            obtain ⟨_, g0, g1, g2⟩ := (HX.out _ k12).2.2.1
            clear k11
            go_wp2_with fail
            refine (HSA2.out b1 d1 w12 (HX.out _ k12).2.1).mono ?_
            rintro e w13 ⟨rfl, k13⟩
            have HF := Lib.hid (below_next (below_next HKD.out k12) k13)
            clear k12 k13
            go_wp2
            go_ret
            exact ⟨rfl, HF.out⟩

theorem own : ownKnob Try.prog.godebug = none := by kernel_rfl
theorem laidOut : laidOutB Try.prog = true := by kernel_rfl
set_option maxRecDepth 100000 in
theorem lifted (os : Os) (started : os.Started) (H : Type) (enc : TypeId × Value → H) :
    ReturnsInHanded {} Try.checked os 7 .any (Rows.fnBlocksInSpec.pre6 enc Try.prog Try.f7 Rows.fnBlocksInRow.domain false) (Rows.fnBlocksInSpec.post enc Try.prog Try.f7 false true false false) := by
  refine returnsInHanded_of_change (C := Try.checked) own started (by kernel_rfl) Try.func7
    (ChangeSpec.witness6 (enc := enc) (C := Try.checked) false ⟨#[], #[.slice none 0 0], []⟩ 8 (by kernel_rfl) (by kernel_rfl) (by kernel_rfl) (by kernel_rfl)) ?_
  intro W base args ds gs before hval0 hW hcnd _
  have hval : ∀ (j : Nat) t v, Try.f7.params[j]? = some t → args[j]? = some v → Value.okWide Try.prog W .any base t v := hval0
  have hW' := hW
  obtain ⟨p, q, hA0, hV, rfl, hfz, hnd⟩ := hW
  have hA : DataW.TrodAll enc Try.prog W 0 (fun _ => true) true Try.f7.params.toList args.toList ds p := hA0
  rw [Try.params7] at hA hval
  obtain ⟨v0, vs0, d0, ds0, p0, q0, hargs, rfl, rfl, h0, tr0⟩ := trodAll_cons hA
  obtain ⟨rfl, rfl, rfl⟩ := trodAll_nil tr0
  obtain rfl : args = #[v0] := by cases args; simp_all
  obtain ⟨rfl, rfl⟩ := trodVars_none hV
  have k0 := h0
  have lt0 : ∀ x ∈ p0, x.block < W.heap.size := by obtain ⟨m, hm⟩ := k0; exact DataW.trod_lt m _ _ _ hm
  obtain ⟨a0, len0, c0, rfl⟩ := okWide_slice Try.underlying22 (hval 0 22 v0 rfl rfl)
  obtain ⟨l0, hl0, r0, w0⟩ : ∃ l : List Int, l.length = len0 ∧ RowB W a0 l ∧ ∀ x ∈ l, 0 ≤ x ∧ x ≤ 255 := by
    obtain ⟨fuel, hf⟩ := k0
    rcases open_ints Try.underlying22 Try.underlying5 (by kernel_rfl) hf with ⟨hcs, _⟩ | ⟨x, l, c, zs, hcs, _, hl, hm, hz, _, hcell, hwz⟩
    · simp [Value.cells] at hcs
      obtain ⟨rfl, rfl, rfl⟩ := hcs
      exact ⟨[], rfl, .inl rfl, by simp⟩
    · simp [Value.cells] at hcs
      obtain ⟨rfl, rfl, rfl⟩ := hcs
      exact RowB.of_cells hl (by simpa using hz) hcell (fun n hn => wf_u8 (hwz n hn))
  subst hl0
  clear hA0 hval0
  refine (walk W a0 c0 l0 r0 w0).mono fun e W' ⟨he, bel⟩ => ?_
  subst he
  exact ⟨_, rfl, _, _, _, [], _, [], hW', trodAll_mk1 (shut_bool Try.underlying4 _), (trodAll_cons_mk (Below.trod laidOut (by kernel_rfl) (of_decide_eq_true (by kernel_rfl)) k0 bel lt0) trodAll_mk0), rfl, bel.frame _, fun h => by cases h⟩

theorem over : Rows.fnBlocksInRow.holds Try.pinned (OpenSpec.ofChange Rows.fnBlocksInSpec) :=
  OpenClaim.holds_of_wide 7 Try.f7 rfl rfl rfl rfl rfl rfl rfl ⟨rfl, rfl, rfl, rfl, rfl⟩ rfl rfl rfl rfl rfl (by kernel_rfl) Try.func7 (by kernel_rfl)
    (of_decide_eq_true (by kernel_rfl)) (by unfold Func.isWrapper; first | (rw [if_pos (by decide +kernel)]; kernel_rfl) | (rw [if_neg (by decide +kernel)]; exact ⟨rfl, rfl⟩))
    (fun os started H enc _ => lifted os started H enc)

/-- the statement -/
theorem proved : Rows.FnBlocksInSaid := over
#print axioms proved
end Go.Proofs.Ytkfjbnhihjnhnaa.fnBlocksIn
