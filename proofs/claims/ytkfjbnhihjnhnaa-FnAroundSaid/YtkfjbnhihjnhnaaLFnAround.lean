/- For every input the law FnAround returns true and leaves its arguments as they were; no condition. -/
import Derived.Test.YtkfjbnhihjnhnaaMem
import Derived.Test.YtkfjbnhihjnhnaaFrm
import Derived.Test.YtkfjbnhihjnhnaaDrawI
import Derived.Test.YtkfjbnhihjnhnaaNbAt
import Derived.Test.YtkfjbnhihjnhnaaNbOk
import Derived.Test.YtkfjbnhihjnhnaaDrawR
import Derived.StillTailTactics
import Derived.Deep.RegionHeld3
namespace Go.Proofs.Ytkfjbnhihjnhnaa.fnAround
open Go.ChangeShapes Go.WideShapes Go.ChangeAt Go.RowKit Go.Joins
set_option linter.unusedVariables false
-- DEEP
-- KIT Derived.StillTailTactics
-- KIT Derived.Deep.RegionHeld3
theorem ix_div {X r q : Nat} (hr : r < X) : (q * X + r) / X = q := by rw [Nat.mul_comm, Nat.mul_add_div (by omega), Nat.div_eq_of_lt hr, Nat.add_zero]
theorem ix_mod {X r q : Nat} (hr : r < X) : (q * X + r) % X = r := by rw [Nat.mul_comm, Nat.mul_add_mod, Nat.mod_eq_of_lt hr]
theorem getD_setN (l : List Int) (m i : Nat) (x : Int) : (l.set m x).getD i 0 = if m = i ∧ i < l.length then x else l.getD i 0 := by
  by_cases hi : i < l.length
  · rw [getD_lt (by rw [List.length_set]; exact hi), List.getElem_set, getD_lt hi]
    simp [hi]
  · rw [if_neg (by omega)]
    have h1 : (l.set m x)[i]? = none := by simp; omega
    have h2 : l[i]? = none := by simp; omega
    simp [List.getD, h1, h2]
theorem getD_far {l : List Int} {i : Nat} (h : ¬ i < l.length) : l.getD i 0 = 0 := by
  have h2 : l[i]? = none := by simp; omega
  simp [List.getD, h2]
theorem getD_rng {l : List Int} (h : allR 0 255 l = true) (i : Nat) : 0 ≤ l.getD i 0 ∧ l.getD i 0 ≤ 255 := by
  by_cases hi : i < l.length
  · exact allR_at h hi
  · rw [getD_far hi]; omega
/-- the other frame, its first k numbers written -/
def hideB (X U V N i : Nat) : Bool := decide (V ≤ i / X) && decide (U ≤ i % X) || decide (V + N ≤ i / X)
def otherL (l L : List Int) (X U V N n : Nat) : Nat → List Int | 0 => zeros n | k + 1 => (otherL l L X U V N n k).set k (if hideB X U V N k = true then atF l k else L.getD k 0)
theorem otherL_len (l L : List Int) (X U V N n k : Nat) : (otherL l L X U V N n k).length = n := by
  induction k with
  | zero => exact zeros_len n
  | succ k ih => rw [otherL, List.length_set, ih]
theorem otherL_get (l L : List Int) (X U V N n i : Nat) : ∀ k, k ≤ n → i < k → (otherL l L X U V N n k).getD i 0 = if hideB X U V N i = true then atF l i else L.getD i 0 := by
  intro k
  induction k with
  | zero => intro _ h; omega
  | succ k ih =>
    intro hk hi
    rw [otherL, getD_setN, otherL_len]
    by_cases e : k = i
    · subst e
      rw [if_pos ⟨rfl, by omega⟩]
    · rw [if_neg (by omega), ih (by omega) (by omega)]
theorem around_law {X Y U V N n : Nat} {l L : List Int} (hl : ∀ x ∈ l, 0 ≤ x ∧ x ≤ 255) (hN : N = 4 ∨ N = 8) (hn : L.length = n) (hU : U + N ≤ X) (hf : fitsB X Y L U V N = true) :
    nbTop X Y (otherL l L X U V N n n) U V N = nbTop X Y L U V N ∧ nbLeft X Y (otherL l L X U V N n n) U V N = nbLeft X Y L U V N ∧ nbCor X Y (otherL l L X U V N n n) U V N = nbCor X Y L U V N ∧ frameB X Y (otherL l L X U V N n n) = true := by
  obtain ⟨hfr, _, _, _, _, _⟩ := fitsB_true hf
  obtain ⟨hs, hl2, ha⟩ := frameB_true hfr
  have hg : ∀ i, hideB X U V N i = false → (otherL l L X U V N n n).getD i 0 = L.getD i 0 := by
    intro i hi
    by_cases h : i < n
    · rw [otherL_get l L X U V N n i n (Nat.le_refl _) h, hi]; simp
    · rw [getD_far (by rw [otherL_len]; exact h), getD_far (by rw [hn]; exact h)]
  have hfG : frameB X Y (otherL l L X U V N n n) = true := by
    have h1 : allR 0 255 (otherL l L X U V N n n) = true := allR_mk (fun i hi => by
      rw [otherL_len] at hi
      rw [otherL_get l L X U V N n i n (Nat.le_refl _) hi]
      split
      · exact inR_mk (atF_bd hl i)
      · exact inR_mk (getD_rng ha i))
    have h2 : ((otherL l L X U V N n n).length : Int) = (X : Int) * (Y : Int) := by rw [otherL_len, ← hn]; exact hl2
    simp [frameB, hs, h2, h1]
  have hft : fitsB X Y (otherL l L X U V N n n) U V N = true := by
    rw [fitsB] at hf ⊢
    rw [hfG]
    rw [hfr] at hf
    exact hf
  have hup : ∀ r, r < X → 0 < V → (otherL l L X U V N n n).getD ((V - 1) * X + r) 0 = L.getD ((V - 1) * X + r) 0 := by
    intro r hr hV
    apply hg
    simp only [hideB]
    rw [ix_div hr, ix_mod hr]
    have h1 : decide (V ≤ V - 1) = false := decide_eq_false (by omega)
    have h2 : decide (V + N ≤ V - 1) = false := decide_eq_false (by omega)
    rw [h1, h2]; rfl
  have ht : ∀ j, topAt X (otherL l L X U V N n n) U V N j = topAt X L U V N j := by
    intro j
    induction j with
    | zero =>
      by_cases hV : V = 0
      · rw [topAt_z _ _ _ _ _ _ hV, topAt_z _ _ _ _ _ _ hV]
      · rw [topAt_p _ _ _ _ _ _ (by omega) (.inl (by omega)), topAt_p _ _ _ _ _ _ (by omega) (.inl (by omega))]
        exact hup U (by omega) (by omega)
    | succ j ih =>
      by_cases hV : V = 0
      · rw [topAt_z _ _ _ _ _ _ hV, topAt_z _ _ _ _ _ _ hV]
      · by_cases hj : j + 1 < N ∨ (V % 8 = 0 ∧ U + (j + 1) < X)
        · rw [topAt_p _ _ _ _ _ _ (by omega) hj, topAt_p _ _ _ _ _ _ (by omega) hj, Nat.add_assoc]
          exact hup (U + (j + 1)) (by rcases hj with h | h <;> omega) (by omega)
        · rw [topAt_s _ _ _ _ _ _ (by omega) hj, topAt_s _ _ _ _ _ _ (by omega) hj]
          exact ih
  have hlf : ∀ j, j < N → leftAt X (otherL l L X U V N n n) U V j = leftAt X L U V j := by
    intro j hj
    unfold leftAt
    split
    · rfl
    · rename_i hU0
      rw [Nat.add_sub_assoc (by omega)]
      apply hg
      simp only [hideB]
      rw [ix_div (show U - 1 < X by omega), ix_mod (show U - 1 < X by omega)]
      have h1 : decide (U ≤ U - 1) = false := decide_eq_false (by omega)
      have h2 : decide (V + N ≤ V + j) = false := decide_eq_false (by omega)
      rw [h1, h2]; simp
  have hco : corAt X (otherL l L X U V N n n) U V = corAt X L U V := by
    unfold corAt
    split
    · rename_i h
      rw [Nat.add_sub_assoc (by omega)]
      exact hup (U - 1) (by omega) h.2
    · rfl
  refine ⟨?_, ?_, ?_, hfG⟩
  · rw [nbTop, nbTop, if_pos hft, if_pos hf]
    simp only [Int.toNat_natCast]
    exact tab_congr (fun j _ => ht j)
  · rw [nbLeft, nbLeft, if_pos hft, if_pos hf]
    simp only [Int.toNat_natCast]
    exact tab_congr hlf
  · rw [nbCor, nbCor, if_pos hft, if_pos hf]
    simp only [Int.toNat_natCast]
    exact hco
theorem nbB_law {X Y U V N : Nat} {L : List Int} (hN : N = 4 ∨ N = 8) (hf : fitsB X Y L U V N = true) : nbB (nbTop X Y L U V N) (nbLeft X Y L U V N) (nbCor X Y L U V N) N = true ∧ (nbTop X Y L U V N).length = 2 * N ∧ (nbLeft X Y L U V N).length = N := by
  obtain ⟨hfr, _, _, _, _, _⟩ := fitsB_true hf
  obtain ⟨hs, hl2, ha⟩ := frameB_true hfr
  have h0 := getD_rng ha
  have ht : ∀ j, 0 ≤ topAt X L U V N j ∧ topAt X L U V N j ≤ 255 := by
    intro j
    induction j with
    | zero =>
      unfold topAt
      split
      · omega
      · exact h0 _
    | succ j ih =>
      unfold topAt
      split
      · omega
      · split
        · exact h0 _
        · exact ih
  have hlf : ∀ j, 0 ≤ leftAt X L U V j ∧ leftAt X L U V j ≤ 255 := by
    intro j
    unfold leftAt
    split
    · omega
    · exact h0 _
  have hco : 0 ≤ corAt X L U V ∧ corAt X L U V ≤ 255 := by
    unfold corAt
    split
    · exact h0 _
    · omega
  have e1 : nbTop X Y L U V N = tab (topAt X L U V N) (2 * N) := by rw [nbTop, if_pos hf]; simp only [Int.toNat_natCast]
  have e2 : nbLeft X Y L U V N = tab (leftAt X L U V) N := by rw [nbLeft, if_pos hf]; simp only [Int.toNat_natCast]
  have e3 : nbCor X Y L U V N = corAt X L U V := by rw [nbCor, if_pos hf]; simp only [Int.toNat_natCast]
  have a1 : allR 0 255 (tab (topAt X L U V N) (2 * N)) = true := allR_mk (fun i hi => by rw [tab_len] at hi; rw [tab_getD _ _ _ hi]; exact inR_mk (ht i))
  have a2 : allR 0 255 (tab (leftAt X L U V) N) = true := allR_mk (fun i hi => by rw [tab_len] at hi; rw [tab_getD _ _ _ hi]; exact inR_mk (hlf i))
  have a3 : inR 0 255 (corAt X L U V) = true := inR_mk hco
  have a4 : sizeB N = true := by rcases hN with rfl | rfl <;> rfl
  rw [e1, e2, e3]
  refine ⟨?_, tab_len _ _, tab_len _ _⟩
  simp [nbB, a1, a2, a3, a4, tab_len]
theorem nbB_nil (C n : Int) : nbB [] [] C n = false := by
  cases h : nbB [] [] C n
  · rfl
  · have := nbB_true h
    simp at this
    omega
theorem nbCor_bd {x y : Int} {l : List Int} {u v n : Int} : 0 ≤ nbCor x y l u v n ∧ nbCor x y l u v n ≤ 255 := by
  unfold nbCor
  split
  · rename_i hf
    have h0 := getD_rng (frameB_true (fitsB_true hf).1).2.2
    unfold corAt
    split
    · exact h0 _
    · omega
  · omega
theorem nbTop_bd {x y : Int} {l : List Int} {u v n : Int} : ∀ z ∈ nbTop x y l u v n, 0 ≤ z ∧ z ≤ 255 := by
  intro z hz
  cases hf : fitsB x y l u v n
  · rw [nbTop_no hf] at hz; cases hz
  · obtain ⟨X, Y, U, V, rfl, rfl, rfl, rfl, _, _, _, hn⟩ := blk_split hf
    rcases hn with ⟨rfl, _, _⟩ | ⟨rfl, _, _⟩
    · obtain ⟨_, _, _, h1, _, _⟩ := nbB_true (nbB_law (N := 4) (.inl rfl) hf).1
      exact inR_true (List.all_eq_true.1 h1 z hz)
    · obtain ⟨_, _, _, h1, _, _⟩ := nbB_true (nbB_law (N := 8) (.inr rfl) hf).1
      exact inR_true (List.all_eq_true.1 h1 z hz)
theorem nbLeft_bd {x y : Int} {l : List Int} {u v n : Int} : ∀ z ∈ nbLeft x y l u v n, 0 ≤ z ∧ z ≤ 255 := by
  intro z hz
  cases hf : fitsB x y l u v n
  · rw [nbLeft_no hf] at hz; cases hz
  · obtain ⟨X, Y, U, V, rfl, rfl, rfl, rfl, _, _, _, hn⟩ := blk_split hf
    rcases hn with ⟨rfl, _, _⟩ | ⟨rfl, _, _⟩
    · obtain ⟨_, _, _, _, h1, _⟩ := nbB_true (nbB_law (N := 4) (.inl rfl) hf).1
      exact inR_true (List.all_eq_true.1 h1 z hz)
    · obtain ⟨_, _, _, _, h1, _⟩ := nbB_true (nbB_law (N := 8) (.inr rfl) hf).1
      exact inR_true (List.all_eq_true.1 h1 z hz)
theorem own_store {B : Nat} {w : World} {g c : Nat} {l : List Int} {i : Nat} (h : Own B w (some ⟨g, 0, none⟩) c l) (hi : i < l.length) (x : Int) :
    w.cell? ⟨g, i, none⟩ = some (.int .i64 (l.getD i 0)) ∧ w.frozen? ⟨g, i, none⟩ = false ∧ Own B (w.setCell ⟨g, i, none⟩ (.int .i64 x)) (some ⟨g, 0, none⟩) c (l.set i x) ∧ w.grownBy (w.setCell ⟨g, i, none⟩ (.int .i64 x)) (some g) := by
  obtain ⟨g', e, _, _, h1, h2, h3⟩ := h.at_ hi
  cases e
  exact ⟨h1, h2, (h3 x).1, (h3 x).2⟩

set_option maxRecDepth 100000 in
set_option maxHeartbeats 4000000 in
theorem walk (w : World) (a0 : Option Addr) (c0 : Nat) (l0 : List Int) (r0 : RowB w a0 l0) (w0 : ∀ x ∈ l0, 0 ≤ x ∧ x ≤ 255) :
    Calls Try.prog 6 #[.slice a0 l0.length c0] w fun e w' => e = .returned (.bool true) ∧ Below w.heap.size w w' := by
  by_cases hbig : 1048576 < l0.length
  · have HB := Lib.hid (big_c a0 c0 l0.length w)
    rw [decide_eq_true hbig] at HB
    clear hbig r0 w0
    go_enter Try.func6, Try.ntmps6
    go_wp2_with (go_at_call 8; refine HB.out.mono ?_; rintro e w' ⟨rfl, rfl⟩)
    go_ret
    exact ⟨rfl, Below.refl _ _⟩
  · have HB := Lib.hid (big_c a0 c0 l0.length w)
    rw [decide_eq_false hbig] at HB
    have HD := Lib.hid (DrawNbAt_c a0 c0 l0 w (by omega) r0 w0)
    have HAT : Hid (∀ j t, j ≤ 1048576 → Below w.heap.size w t → Calls Try.prog 23 #[.slice a0 l0.length c0, .int .i64 (j : Nat)] t fun e w' => e = .returned (.int .i64 (atF l0 j)) ∧ t = w') := Lib.hid (fun j t hj ht => at_c a0 c0 l0 j t (by omega) hj (r0.below ht (Nat.le_refl _)) w0)
    have HW0 := Lib.hid w0
    clear hbig r0 w0
    go_enter Try.func6, Try.ntmps6
    go_wp2_with (go_at_call 8; refine HB.out.mono ?_; rintro e w' ⟨rfl, rfl⟩)
    refine HD.out.mono ?_
    rintro e w4 ⟨X, Y, x, d, L, u, v, t, rfl, hX, hY, huv, hLl, hLd, hLb, hrL, k4⟩
    have hLw : ∀ z ∈ L, -9223372036854775808 ≤ z ∧ z ≤ 9223372036854775807 := fun z hz => by have := hLb z hz; omega
    obtain ⟨px, fx, rfl, _, _⟩ := hrL.inside hLl.1
    obtain ⟨TP, hTP⟩ : ∃ S, S = nbTop X Y L u v t := ⟨_, rfl⟩
    obtain ⟨LF, hLF⟩ : ∃ S, S = nbLeft X Y L u v t := ⟨_, rfl⟩
    obtain ⟨CO, hCO⟩ : ∃ S, S = nbCor X Y L u v t := ⟨_, rfl⟩
    obtain ⟨HT, hHT⟩ : ∃ S, S = nbHT X Y L u v t := ⟨_, rfl⟩
    obtain ⟨HL, hHL⟩ : ∃ S, S = nbHL X Y L u v t := ⟨_, rfl⟩
    have hTPl : TP.length ≤ 16 := by rw [hTP]; exact nbTop_len _ _ _ _ _ _
    have hLFl : LF.length ≤ 8 := by rw [hLF]; exact nbLeft_len _ _ _ _ _ _
    have HI0 : Hid (∀ s, Row s (some ⟨px, fx, none⟩) L → Calls Try.prog 26 #[frv X Y (some ⟨px, fx, none⟩) L.length d, .int .i64 u, .int .i64 v, .int .i64 t] s fun e w' => ∃ xx yy zz vv, e = .returned (nbv xx TP.length yy zz LF.length vv CO HT HL) ∧ Own s.heap.size w' xx yy TP ∧ Own s.heap.size w' zz vv LF ∧ (∀ p q, xx = some p → zz = some q → p.block ≠ q.block) ∧ Below s.heap.size s w') := Lib.hid (fun s h => by
      rw [hTP, hLF, hCO, hHT, hHL]
      exact impl.NbAt_c X Y _ d L u v t s (by omega) (by omega) (by omega) h hLw)
    have HS0 : Hid (∀ s, Row s (some ⟨px, fx, none⟩) L → Calls Try.prog 27 #[frv X Y (some ⟨px, fx, none⟩) L.length d, .int .i64 u, .int .i64 v, .int .i64 t] s fun e w' => ∃ xx yy zz vv, e = .returned (nbv xx TP.length yy zz LF.length vv CO HT HL) ∧ Own s.heap.size w' xx yy TP ∧ Own s.heap.size w' zz vv LF ∧ (∀ p q, xx = some p → zz = some q → p.block ≠ q.block) ∧ Below s.heap.size s w') := Lib.hid (fun s h => by
      rw [hTP, hLF, hCO, hHT, hHL]
      exact spec.NbAt_c X Y _ d L u v t s (by omega) (by omega) (by omega) h hLw)
    have HI2 : Hid (∀ G gG cG s, G.length = L.length → (∀ z ∈ G, -9223372036854775808 ≤ z ∧ z ≤ 9223372036854775807) → Row s gG G → nbTop X Y G u v t = TP → nbLeft X Y G u v t = LF → nbCor X Y G u v t = CO → Calls Try.prog 26 #[frv X Y gG L.length cG, .int .i64 u, .int .i64 v, .int .i64 t] s fun e w' => ∃ xx yy zz vv T' H', e = .returned (nbv xx TP.length yy zz LF.length vv CO T' H') ∧ Own s.heap.size w' xx yy TP ∧ Own s.heap.size w' zz vv LF ∧ Below s.heap.size s w') := Lib.hid (fun G gG cG s hl hw h e1 e2 e3 => by
      have h := impl.NbAt_c X Y gG cG G u v t s (by omega) (by omega) (by omega) h hw
      rw [e1, e2, e3, hl] at h
      exact h.mono (fun e w' ⟨a, b, c, d, h1, h2, h3, _, h5⟩ => ⟨a, b, c, d, _, _, h1, h2, h3, h5⟩))
    have hTb := nbTop_bd (x := X) (y := Y) (l := L) (u := u) (v := v) (n := t)
    have hLb2 := nbLeft_bd (x := X) (y := Y) (l := L) (u := u) (v := v) (n := t)
    have hCb := nbCor_bd (x := X) (y := Y) (l := L) (u := u) (v := v) (n := t)
    rw [← hTP] at hTb
    rw [← hLF] at hLb2
    rw [← hCO] at hCb
    have HOK : Hid (∀ b p b2 p2 s, Row s b TP → Row s b2 LF → Calls Try.prog 29 #[nbv b TP.length p b2 LF.length p2 CO HT HL, .int .i64 t] s fun e w' => e = .returned (.bool (nbB TP LF CO t)) ∧ Below s.heap.size s w') := Lib.hid (fun b p b2 p2 s h1 h2 => impl.NbOk_c b p TP b2 p2 LF CO HT HL t s (by omega) h1 (fun z hz => by have := hTb z hz; omega) (by omega) h2 (fun z hz => by have := hLb2 z hz; omega) (by omega))
    have HSM1 : Hid (∀ b c' b2 c2 s, Row s b TP → Row s b2 TP → Calls Try.prog 28 #[.slice b TP.length c', .slice b2 TP.length c2] s fun e w' => e = .returned (.bool true) ∧ Below s.heap.size s w') := Lib.hid (fun b c' b2 c2 s h1 h2 => sameInts_t b b2 c' c2 TP s (by omega) h1 h2)
    have HSM2 : Hid (∀ b c' b2 c2 s, Row s b LF → Row s b2 LF → Calls Try.prog 28 #[.slice b LF.length c', .slice b2 LF.length c2] s fun e w' => e = .returned (.bool true) ∧ Below s.heap.size s w') := Lib.hid (fun b c' b2 c2 s h1 h2 => sameInts_t b b2 c' c2 LF s (by omega) h1 h2)
    have HVAL := Lib.hid (And.intro hTP (And.intro hLF (And.intro hCO (And.intro hHT hHL))))
    obtain ⟨nL, hnL⟩ : ∃ n, L.length = n := ⟨_, rfl⟩
    obtain ⟨nT, hnT⟩ : ∃ n, TP.length = n := ⟨_, rfl⟩
    obtain ⟨nF, hnF⟩ : ∃ n, LF.length = n := ⟨_, rfl⟩
    have HNL := Lib.hid hnL
    have HNT := Lib.hid hnT
    have HNF := Lib.hid hnF
    rw [hnL, hnT, hnF] at HI0 HS0 HI2
    rw [hnT, hnF] at HOK
    rw [hnT] at HSM1 hTPl
    rw [hnF] at HSM2 hLFl
    rw [hnL] at hLl hLd ⊢
    have hnl : nL ≤ 384 := hLl.2
    have HR : Hid (∀ s, Below w4.heap.size w4 s → Row s (some ⟨px, fx, none⟩) L) := Lib.hid (fun s h => hrL.below h (Nat.le_refl _))
    have HPX : Hid (px < w4.heap.size) := Lib.hid (by obtain ⟨_, _, e, h, _⟩ := hrL.inside (by omega); cases e; exact h)
    have HK4 := Lib.hid k4
    obtain ⟨w5, hw5⟩ : ∃ w5, w5 = w4.alloc (.cells #[.int .i64 X, .int .i64 Y, .slice (some ⟨px, fx, none⟩) nL d] 26) := ⟨_, rfl⟩
    have k45 : Below w4.heap.size w4 w5 := by rw [hw5]; exact (Below.refl _ _).alloc (Nat.le_refl _) _
    have HF0 : Hid (Box3 w5 w4.heap.size (.int .i64 X) (.int .i64 Y) (.slice (some ⟨px, fx, none⟩) nL d)) := Lib.hid (by rw [hw5]; exact Box3.new _ _ _ _ _)
    obtain ⟨kf, hkf⟩ : ∃ k, k = w4.heap.size := ⟨_, rfl⟩
    rw [← hkf] at HF0 HPX
    clear hLb hLw hLd hTP hLF hCO hHT hHL hTb hLb2 hCb hnL hnT hnF HD hrL k4
    go_wp2_with fail
    rw [← hkf, ← hw5]
    clear hw5
    obtain ⟨_, f0, f1, f2⟩ := HF0.out
    refine (HI0.out w5 (HR.out _ k45)).mono ?_
    rintro e w6 ⟨b1, p1, b2, p2, rfl, o1, o2, hne12, k56⟩
    have k46 := below_next k45 k56
    obtain ⟨w7, hw7⟩ : ∃ w7, w7 = w6.alloc (.cells #[.slice b1 nT p1, .slice b2 nF p2, .int .i64 CO, .bool HT, .bool HL] 42) := ⟨_, rfl⟩
    have k67 : Below w6.heap.size w6 w7 := by rw [hw7]; exact (Below.refl _ _).alloc (Nat.le_refl _) _
    have HG0 : Hid (Box5 w7 w6.heap.size (.slice b1 nT p1) (.slice b2 nF p2) (.int .i64 CO) (.bool HT) (.bool HL)) := Lib.hid (by rw [hw7]; exact Box5.new _ _ _ _ _ _ _)
    have HR1 : Hid (∀ s, Below w7.heap.size w7 s → Row s b1 TP ∧ Row s b2 LF) := Lib.hid (fun s h => ⟨o1.row.below (below_next k67 h) (Nat.le_refl _), o2.row.below (below_next k67 h) (Nat.le_refl _)⟩)
    have HRB : Hid ((∀ p, b1 = some p → p.block < w6.heap.size) ∧ (∀ p, b2 = some p → p.block < w6.heap.size)) := Lib.hid ⟨fun p hp => (o1.lt p hp).2, fun p hp => (o2.lt p hp).2⟩
    have k47 := below_next k46 k67
    have HFG := Lib.hid (HF0.out.below (below_next k56 k67) (Nat.le_refl _))
    obtain ⟨kg, hkg⟩ : ∃ k, k = w6.heap.size := ⟨_, rfl⟩
    obtain ⟨_, f0, f1, f2⟩ := HF0.out.below k56 (Nat.le_refl _)
    rw [← hkg] at HG0 HRB
    have hkfg : kf < kg := by rw [hkg]; exact Nat.lt_of_lt_of_le HF0.out.1 k56.size
    have hkn1 : ¬ (kf = kg) := by omega
    have hkn2 : ¬ (kg = kf) := by omega
    clear o1 o2 hne12 k56 k45 hkf
    go_wp2_with fail
    rw [← hkg, ← hw7]
    clear hw7 hkg k46 k67
    obtain ⟨_, f0, f1, f2⟩ := HFG.out
    refine (HS0.out w7 (HR.out _ k47)).mono ?_
    rintro e w8 ⟨b3, p3, b4, p4, rfl, o3, o4, _, k78⟩
    obtain ⟨w9, hw9⟩ : ∃ w9, w9 = w8.alloc (.cells #[.slice b3 nT p3, .slice b4 nF p4, .int .i64 CO, .bool HT, .bool HL] 42) := ⟨_, rfl⟩
    have k89 : Below w8.heap.size w8 w9 := by rw [hw9]; exact (Below.refl _ _).alloc (Nat.le_refl _) _
    have HH9 : Hid (Box5 w9 w8.heap.size (.slice b3 nT p3) (.slice b4 nF p4) (.int .i64 CO) (.bool HT) (.bool HL)) := Lib.hid (by rw [hw9]; exact Box5.new _ _ _ _ _ _ _)
    have k79 := below_next k78 k89
    have HK := Lib.hid (below_next (below_next HK4.out k47) k79)
    have HRM : Hid (∀ s, Below w9.heap.size w9 s → Row s (some ⟨px, fx, none⟩) L ∧ Row s b1 TP ∧ Row s b2 LF ∧ Row s b3 TP ∧ Row s b4 LF) := Lib.hid (fun s h => ⟨HR.out _ (below_next (below_next k47 k79) h), (HR1.out _ (below_next k79 h)).1, (HR1.out _ (below_next k79 h)).2, o3.row.below (below_next k89 h) (Nat.le_refl _), o4.row.below (below_next k89 h) (Nat.le_refl _)⟩)
    have HF9 := Lib.hid (HFG.out.below k79 (Nat.le_refl _))
    have HG9 := Lib.hid (HG0.out.below k79 (Nat.le_refl _))
    obtain ⟨_, f0, f1, f2⟩ := HFG.out.below k78 (Nat.le_refl _)
    obtain ⟨_, g0, g1, g2, g3, g4⟩ := HG0.out.below k78 (Nat.le_refl _)
    obtain ⟨kh, hkh⟩ : ∃ k, k = w8.heap.size := ⟨_, rfl⟩
    have hk8 : kg < w8.heap.size := Nat.lt_of_lt_of_le HG0.out.1 k78.size
    have hkn3 : ¬ (kf = kh) := by omega
    have hkn4 : ¬ (kh = kf) := by omega
    have hkn5 : ¬ (kg = kh) := by omega
    have hkn6 : ¬ (kh = kg) := by omega
    have HKL : Hid (kf < w9.heap.size ∧ kg < w9.heap.size) := Lib.hid (by have := k89.size; omega)
    rw [← hkh] at HH9
    clear o3 o4 k78 k47 k89 k79 HFG HG0 HF0 HR HR1 HI0 HS0 HK4 hk8
    have hneb : ∀ b : Bool, (b != b) = false := by intro b; cases b <;> rfl
    have hneI : ∀ b : Int, (b != b) = false := by intro b; simp
    rw [hkh] at hkn3 hkn4 hkn5 hkn6
    go_wp2_with fail
    rw [← hw9, ← hkh]
    rw [← hkh] at hkn3 hkn4 hkn5 hkn6
    clear hw9 hkh f0 f1 f2 g0 g1 g2 g3 g4
    refine (HSM1.out b1 p1 b3 p3 w9 (HRM.out _ (Below.refl _ _)).2.1 (HRM.out _ (Below.refl _ _)).2.2.2.1).mono ?_
    rintro e w10 ⟨rfl, k10⟩
    obtain ⟨_, g0, g1, g2, g3, g4⟩ := HG9.out.below k10 (Nat.le_refl _)
    obtain ⟨_, h0, h1, h2, h3, h4⟩ := HH9.out.below k10 (Nat.le_refl _)
    go_wp2_with fail
    refine (HSM2.out b2 p2 b4 p4 w10 (HRM.out _ k10).2.2.1 (HRM.out _ k10).2.2.2.2).mono ?_
    rintro e w11 ⟨rfl, k11⟩
    have k11 := below_next k10 k11
    have HK11 := Lib.hid k11
    obtain ⟨_, f0, f1, f2⟩ := HF9.out.below k11 (Nat.le_refl _)
    obtain ⟨_, g0, g1, g2, g3, g4⟩ := HG9.out.below k11 (Nat.le_refl _)
    obtain ⟨_, h0, h1, h2, h3, h4⟩ := HH9.out.below k11 (Nat.le_refl _)
    clear k10
    cases hfit : fitsB X Y L u v t
    · have hT0 : TP = [] := by rw [HVAL.out.1]; exact nbTop_no hfit
      have hF0 : LF = [] := by rw [HVAL.out.2.1]; exact nbLeft_no hfit
      have hb0 : nbB TP LF CO t = false := by rw [hT0, hF0]; exact nbB_nil _ _
      obtain rfl : nT = 0 := by rw [← HNT.out, hT0]; rfl
      rw [hb0] at HOK
      clear hT0 hF0 hb0 k11
      go_wp2_with fail
      refine (HOK.out b1 p1 b2 p2 w11 (HRM.out _ HK11.out).2.1 (HRM.out _ HK11.out).2.2.1).mono ?_
      rintro e w12 ⟨rfl, k12⟩
      have HF := Lib.hid (below_next HK.out (below_next HK11.out k12))
      clear k12
      go_wp2
      go_ret
      exact ⟨rfl, HF.out⟩
    · obtain ⟨X', Y', U, V, hX', hY', hU', hV', hX32, hY32, hlen, hn⟩ := blk_split hfit
      obtain rfl : X = X' := by omega
      obtain rfl : Y = Y' := by omega
      subst hU' hV'
      obtain ⟨hsd, _⟩ := frameB_true (fitsB_true hfit).1
      have hX8 : 8 ≤ X := by have := sidesB_true hsd; omega
      have HNEW : Hid (∀ s, Calls Try.prog 22 #[.int .i64 X, .int .i64 Y] s fun e w' => ∃ a c, e = .returned (frv X Y a nL c) ∧ Own s.heap.size w' a c (zeros nL) ∧ Below s.heap.size s w') := Lib.hid (fun s => by
        have h := spec.FrameNew_c X Y s
        rw [show newS (X : Int) Y X = X from by simp [newS, hsd], show newS (X : Int) Y Y = Y from by simp [newS, hsd], show newL (X : Int) Y = zeros nL from by rw [newL, if_pos hsd, ← HNL.out, hlen]; congr 1] at h
        rw [zeros_len] at h
        exact h)
      have HHT : Hid (HT = decide (0 < V)) := Lib.hid (by rw [HVAL.out.2.2.2.1, nbHT, hfit]; simp)
      have HHL : Hid (HL = decide (0 < U)) := Lib.hid (by rw [HVAL.out.2.2.2.2, nbHL, hfit]; simp)
      have HFIT := Lib.hid hfit
      have hnl0 : 0 < nL := hLl.1
      clear hX' hY' hsd hfit hlen k11
      rcases hn with ⟨rfl, hUN, hVN⟩ | ⟨rfl, hUN, hVN⟩
      · have HLAW := Lib.hid (around_law (Y := Y) HW0.out (.inl rfl) HNL.out hUN HFIT.out)
        have HNB := Lib.hid (nbB_law (.inl rfl) HFIT.out)
        obtain rfl : nT = 8 := by rw [← HNT.out, HVAL.out.1]; exact HNB.out.2.1
        obtain rfl : nF = 4 := by rw [← HNF.out, HVAL.out.2.1]; exact HNB.out.2.2
        obtain ⟨V4, hV4⟩ : ∃ z, z = V + 4 := ⟨_, rfl⟩
        have iV : (V : Int) + 4 = (V4 : Int) := by omega
        have iVw : IntKind.i64.wrap ((V : Int) + 4) = (V4 : Int) := by rw [iV]; exact IntWalk.i64_in _ (by omega)
        have HV4 := Lib.hid hV4
        have hV9 : V4 ≤ 64 := by omega
        clear hV4
        go_wp2_with fail
        refine (HNEW.out w11).mono ?_
        rintro e w12 ⟨bG, cG, rfl, oG, k12⟩
        obtain ⟨gG, rfl, hgG, hgG2, _⟩ := oG.at_ (i := 0) (by rw [zeros_len]; omega)
        have HCG : Hid (nL ≤ cG) := Lib.hid (by have := oG.cap; rw [zeros_len] at this; exact this)
        have k912 := below_next HK11.out k12
        obtain ⟨kn, hkn⟩ : ∃ z, z = w12.heap.size := ⟨_, rfl⟩
        obtain ⟨w13, hw13⟩ : ∃ z, z = w12.alloc (.cells #[.int .i64 X, .int .i64 Y, .slice (some ⟨gG, 0, none⟩) nL cG] 26) := ⟨_, rfl⟩
        have k1213 : Below w12.heap.size w12 w13 := by rw [hw13]; exact (Below.refl _ _).alloc (Nat.le_refl _) _
        have HN13 : Hid (Box3 w13 kn (.int .i64 X) (.int .i64 Y) (.slice (some ⟨gG, 0, none⟩) nL cG)) := Lib.hid (by rw [hw13, hkn]; exact Box3.new _ _ _ _ _)
        have HO13 : Hid (Own w9.heap.size w13 (some ⟨gG, 0, none⟩) cG (zeros nL)) := Lib.hid (by rw [hw13]; exact (oG.mono HK11.out.size).alloc _)
        have k13 := below_next k912 k1213
        have HF13 := Lib.hid (HF9.out.below k13 (Nat.le_refl _))
        have HG13 := Lib.hid (HG9.out.below k13 (Nat.le_refl _))
        have HK13 := Lib.hid (below_next HK.out k13)
        have HR13 := Lib.hid (HRM.out _ k13)
        have hgn : gG < kn := by rw [hkn]; exact hgG2
        have hs9 : w9.heap.size ≤ gG := Nat.le_trans HK11.out.size hgG
        have HNE : Hid (gG ≠ kf ∧ gG ≠ kg ∧ gG ≠ kn ∧ px ≠ gG ∧ (∀ p, b1 = some p → p.block ≠ gG) ∧ (∀ p, b2 = some p → p.block ≠ gG) ∧ w.heap.size ≤ gG) := Lib.hid (by
          have h1 := HKL.out
          have h2 := HPX.out
          refine ⟨by omega, by omega, by omega, by omega, fun p hp => ?_, fun p hp => ?_, Nat.le_trans HK.out.size hs9⟩
          · have := HRB.out.1 p hp; omega
          · have := HRB.out.2 p hp; omega)
        clear oG k12 k912 k1213 k13
        go_wp2_with fail
        rw [← hkn, ← hw13]
        clear hw13 hkn f0 f1 f2 g0 g1 g2 g3 g4 h0 h1 h2 h3 h4 hgG hgG2 hgn hs9 hkn1 hkn2 hkn3 hkn4 hkn5 hkn6
        go_loopw [10] (fun i wr => ∃ (j : Nat), j ≤ nL ∧ i = .int .i64 j ∧ w13.grownBy wr (some gG) ∧ Own w9.heap.size wr (some ⟨gG, 0, none⟩) cG (otherL l0 L X U V 4 nL j)) (fun i _ => nL - (intOf i).toNat)
        case atStart => exact ⟨0, Nat.zero_le _, rfl, World.grownBy.refl _ _, HO13.out⟩
        case round =>
          obtain ⟨j, hj, rfl, hgr, hown⟩ := hrel
          have HGR := Lib.hid hgr
          have HOW := Lib.hid hown
          obtain ⟨_, f0, f1, f2⟩ := HF13.out.grown (a := some ⟨gG, 0, none⟩) hgr (fun p hp => by cases hp; exact HNE.out.1)
          obtain ⟨_, n0, n1, n2⟩ := HN13.out.grown (a := some ⟨gG, 0, none⟩) hgr (fun p hp => by cases hp; exact HNE.out.2.2.1)
          by_cases hlt : j < nL
          · have hltd : decide ((j : Int) < (nL : Int)) = true := decide_eq_true (by omega)
            have hltn : decide (j < nL) = true := decide_eq_true hlt
            have hjn : (j : Int) < (nL : Int) := by omega
            have hrL := HR13.out.1.cur hgr (fun p hp => by cases hp; exact HNE.out.2.2.2.1)
            obtain ⟨_, _, e, cL⟩ := hrL.at_ (i := j) (by rw [HNL.out]; exact hlt)
            cases e
            obtain ⟨cG0, fG, _, _⟩ := own_store hown (by rw [otherL_len]; exact hlt) 0
            have hgk1 : ¬ (gG = kf) := HNE.out.1
            have hgk2 : ¬ (kf = gG) := fun e => HNE.out.1 e.symm
            have hgk3 : ¬ (gG = kn) := HNE.out.2.2.1
            have hgk4 : ¬ (kn = gG) := fun e => HNE.out.2.2.1 e.symm
            obtain ⟨am, ham⟩ : ∃ t, t = j % X := ⟨_, rfl⟩
            obtain ⟨bm, hbm⟩ : ∃ t, t = j / X := ⟨_, rfl⟩
            have hbj : bm ≤ j := by rw [hbm]; exact Nat.div_le_self _ _
            have haj : am < X := by rw [ham]; exact Nat.mod_lt _ (by omega)
            have q1 : (j : Int).tmod (X : Int) = (am : Int) := by rw [Int.tmod_eq_emod_of_nonneg (by omega), ham]; rfl
            have q3 : (j : Int) % (X : Int) = (am : Int) := by rw [ham]; rfl
            have q5 : (j : Int).tdiv (X : Int) = (bm : Int) := by rw [Int.tdiv_eq_ediv_of_nonneg (by omega), hbm]; rfl
            have q2 : IntKind.i64.wrap ((j : Int).tdiv (X : Int)) = (bm : Int) := by rw [q5]; exact IntWalk.i64_in _ (by omega)
            have q4 : (j : Int) / (X : Int) = (bm : Int) := by rw [hbm]; rfl
            have hxz : ((X : Int) == 0) = false := by simp; omega
            have hxz2 : ¬ ((X : Int) = 0) := by omega
            have hxz3 : ¬ (X = 0) := by omega
            have hHB : hideB X U V 4 j = (decide (V ≤ bm) && decide (U ≤ am) || decide (V4 ≤ bm)) := by rw [hideB, ← ham, ← hbm, ← HV4.out]
            obtain ⟨pv, hpv⟩ : ∃ z, z = L.getD j 0 := ⟨_, rfl⟩
            obtain ⟨qv, hqv⟩ : ∃ z, z = atF l0 j := ⟨_, rfl⟩
            have HB1 : Hid (hideB X U V 4 j = (decide (V ≤ bm) && decide (U ≤ am) || decide (V4 ≤ bm))) := Lib.hid hHB
            have HPV := Lib.hid hpv
            have HQV := Lib.hid hqv
            have HAJ := Lib.hid (HAT.out j)
            rw [← hqv] at HAJ
            rw [← hpv] at cL
            clear ham hbm hHB hpv hqv hgr hown hrL
            have HS1 := Lib.hid (own_store HOW.out.drew (by rw [otherL_len]; exact hlt) pv)
            by_cases c1 : V ≤ bm
            · have t1 : decide ((V : Int) ≤ (bm : Int)) = true := decide_eq_true (by omega)
              have t1n : decide (V ≤ bm) = true := decide_eq_true c1
              by_cases c2 : U ≤ am
              · have t2 : decide ((U : Int) ≤ (am : Int)) = true := decide_eq_true (by omega)
                have t2n : decide (U ≤ am) = true := decide_eq_true c2
                have HHB : Hid (hideB X U V 4 j = true) := Lib.hid (by rw [HB1.out, t1n, t2n]; rfl)
                have HS3 := own_store HOW.out (by rw [otherL_len]; exact hlt) pv
                have HGR2 := Lib.hid (D.drew (D.trans HGR.out HS3.2.2.2))
                have HO2 := Lib.hid HS3.2.2.1.drew
                obtain ⟨w2, hw2⟩ : ∃ z, z = (wr.setCell ⟨gG, j, none⟩ (.int .i64 pv)).drew := ⟨_, rfl⟩
                rw [← hw2] at HGR2 HO2
                have HS2 := Lib.hid (own_store HO2.out.drew (by rw [List.length_set, otherL_len]; exact hlt) qv)
                clear HS3
                go_wp2_with fail
                go_still_tail 9, (by kernel_rfl)
                change wpList _ _ _ _ _ wr.drew
                go_wp2_with fail
                rw [← hw2]
                clear hw2 f0 f1 f2 n0 n1 n2 cL cG0 fG HS1
                obtain ⟨_, n0, n1, n2⟩ := HN13.out.grown (a := some ⟨gG, 0, none⟩) HGR2.out (fun p hp => by cases hp; exact HNE.out.2.2.1)
                obtain ⟨cG0, fG, _, _⟩ := own_store HO2.out (by rw [List.length_set, otherL_len]; exact hlt) 0
                have HBW2 := Lib.hid (D.below HK13.out HGR2.out HK13.out.size HNE.out.2.2.2.2.2.2)
                go_region_held3 (fun w' => w'.cell? ⟨kn, 2, none⟩ = some (.slice (some ⟨gG, 0, none⟩) nL cG)) (first | go_keep | exact (World.cell?_setCell_far _ _ _ _ hgk3).trans n2)
                  ((first
                    | (go_at_call 23; refine (HAJ.out _ (by omega) (by first | exact HBW2.out | exact below_drewN' HBW2.out 1 | exact HBW2.out.drew)).mono ?_; rintro e w' ⟨rfl, rfl⟩)))
                all_goals
                  go_wp2
                  go_roundw
                  case rel => exact ⟨j + 1, by omega, by go_num, D.trans (D.drew HGR2.out) HS2.out.2.2.2, by rw [otherL, if_pos HHB.out, ← HQV.out]; have h := HS2.out.2.2.1; rw [List.set_set] at h; exact h⟩
                  case measure => simp [intOf]; omega
              · have t2 : decide ((U : Int) ≤ (am : Int)) = false := decide_eq_false (by omega)
                have t2n : decide (U ≤ am) = false := decide_eq_false c2
                by_cases c3 : V4 ≤ bm
                · have t3 : decide ((V4 : Int) ≤ (bm : Int)) = true := decide_eq_true (by omega)
                  have t3n : decide (V4 ≤ bm) = true := decide_eq_true c3
                  have HHB : Hid (hideB X U V 4 j = true) := Lib.hid (by rw [HB1.out, t1n, t2n, t3n]; rfl)
                  have HS3 := own_store HOW.out (by rw [otherL_len]; exact hlt) pv
                  have HGR2 := Lib.hid (D.drew (D.trans HGR.out HS3.2.2.2))
                  have HO2 := Lib.hid HS3.2.2.1.drew
                  obtain ⟨w2, hw2⟩ : ∃ z, z = (wr.setCell ⟨gG, j, none⟩ (.int .i64 pv)).drew := ⟨_, rfl⟩
                  rw [← hw2] at HGR2 HO2
                  have HS2 := Lib.hid (own_store HO2.out.drew (by rw [List.length_set, otherL_len]; exact hlt) qv)
                  clear HS3
                  go_wp2_with fail
                  go_still_tail 9, (by kernel_rfl)
                  change wpList _ _ _ _ _ wr.drew
                  go_wp2_with fail
                  rw [← hw2]
                  clear hw2 f0 f1 f2 n0 n1 n2 cL cG0 fG HS1
                  obtain ⟨_, n0, n1, n2⟩ := HN13.out.grown (a := some ⟨gG, 0, none⟩) HGR2.out (fun p hp => by cases hp; exact HNE.out.2.2.1)
                  obtain ⟨cG0, fG, _, _⟩ := own_store HO2.out (by rw [List.length_set, otherL_len]; exact hlt) 0
                  have HBW2 := Lib.hid (D.below HK13.out HGR2.out HK13.out.size HNE.out.2.2.2.2.2.2)
                  go_region_held3 (fun w' => w'.cell? ⟨kn, 2, none⟩ = some (.slice (some ⟨gG, 0, none⟩) nL cG)) (first | go_keep | exact (World.cell?_setCell_far _ _ _ _ hgk3).trans n2)
                    ((first
                      | (go_at_call 23; refine (HAJ.out _ (by omega) (by first | exact HBW2.out | exact below_drewN' HBW2.out 1 | exact HBW2.out.drew)).mono ?_; rintro e w' ⟨rfl, rfl⟩)))
                  all_goals
                    go_wp2
                    go_roundw
                    case rel => exact ⟨j + 1, by omega, by go_num, D.trans (D.drew HGR2.out) HS2.out.2.2.2, by rw [otherL, if_pos HHB.out, ← HQV.out]; have h := HS2.out.2.2.1; rw [List.set_set] at h; exact h⟩
                    case measure => simp [intOf]; omega
                · have t3 : decide ((V4 : Int) ≤ (bm : Int)) = false := decide_eq_false (by omega)
                  have t3n : decide (V4 ≤ bm) = false := decide_eq_false c3
                  have HHB : Hid (hideB X U V 4 j = false) := Lib.hid (by rw [HB1.out, t1n, t2n, t3n]; rfl)
                  go_wp2_with fail
                  go_still_tail 9, (by kernel_rfl)
                  change wpList _ _ _ _ _ wr.drew
                  go_wp2
                  go_roundw
                  case rel => exact ⟨j + 1, by omega, by go_num, D.trans (D.drew HGR.out) HS1.out.2.2.2, by rw [otherL, HHB.out, if_neg (by simp), ← HPV.out]; exact HS1.out.2.2.1⟩
                  case measure => simp [intOf]; omega
            · have t1 : decide ((V : Int) ≤ (bm : Int)) = false := decide_eq_false (by omega)
              have t1n : decide (V ≤ bm) = false := decide_eq_false c1
              have t3 : decide ((V4 : Int) ≤ (bm : Int)) = false := decide_eq_false (by have := HV4.out; omega)
              have t3n : decide (V4 ≤ bm) = false := decide_eq_false (by have := HV4.out; omega)
              have HHB : Hid (hideB X U V 4 j = false) := Lib.hid (by rw [HB1.out, t1n, t3n]; rfl)
              go_wp2_with fail
              go_still_tail 9, (by kernel_rfl)
              change wpList _ _ _ _ _ wr.drew
              go_wp2
              go_roundw
              case rel => exact ⟨j + 1, by omega, by go_num, D.trans (D.drew HGR.out) HS1.out.2.2.2, by rw [otherL, HHB.out, if_neg (by simp), ← HPV.out]; exact HS1.out.2.2.1⟩
              case measure => simp [intOf]; omega
          · obtain rfl : j = nL := by omega
            have HGG := Lib.hid hown
            have HRW : Hid (∀ s, Below wr.heap.size wr s → Row s b1 TP ∧ Row s b2 LF ∧ Box5 s kg (.slice b1 8 p1) (.slice b2 4 p2) (.int .i64 CO) (.bool HT) (.bool HL)) := Lib.hid (fun s h => ⟨(HR13.out.2.1.cur hgr HNE.out.2.2.2.2.1).below h (Nat.le_refl _), (HR13.out.2.2.1.cur hgr HNE.out.2.2.2.2.2.1).below h (Nat.le_refl _), (HG13.out.grown (a := some ⟨gG, 0, none⟩) hgr (fun p hp => by cases hp; exact HNE.out.2.1)).below h (Nat.le_refl _)⟩)
            have HKR := Lib.hid (D.below HK13.out hgr HK13.out.size HNE.out.2.2.2.2.2.2)
            have hb : nbB TP LF CO 4 = true := by rw [HVAL.out.1, HVAL.out.2.1, HVAL.out.2.2.1]; exact HNB.out.1
            rw [hb] at HOK
            have hGb : ∀ z ∈ otherL l0 L X U V 4 j j, -9223372036854775808 ≤ z ∧ z ≤ 9223372036854775807 := fun z hz => by
              have h1 := (frameB_true HLAW.out.2.2.2).2.2
              have := inR_true (List.all_eq_true.1 h1 z hz)
              omega
            have HC2 := Lib.hid (HI2.out (otherL l0 L X U V 4 j j) (some ⟨gG, 0, none⟩) cG wr (by rw [otherL_len]) hGb hown.row (HLAW.out.1.trans HVAL.out.1.symm) (HLAW.out.2.1.trans HVAL.out.2.1.symm) (HLAW.out.2.2.1.trans HVAL.out.2.2.1.symm))
            have hltd : decide ((j : Int) < (j : Int)) = false := decide_eq_false (by omega)
            clear hb hGb hown hgr
            go_wp2_with fail
            refine HC2.out.mono ?_
            rintro e w14 ⟨b5, p5, b6, p6, T', H', rfl, o5, o6, k14⟩
            obtain ⟨kd, hkd⟩ : ∃ z, z = w14.heap.size := ⟨_, rfl⟩
            obtain ⟨w15, hw15⟩ : ∃ z, z = w14.alloc (.cells #[.slice b5 8 p5, .slice b6 4 p6, .int .i64 CO, .bool T', .bool H'] 42) := ⟨_, rfl⟩
            have k15 : Below w14.heap.size w14 w15 := by rw [hw15]; exact (Below.refl _ _).alloc (Nat.le_refl _) _
            have HD15 : Hid (Box5 w15 kd (.slice b5 8 p5) (.slice b6 4 p6) (.int .i64 CO) (.bool T') (.bool H')) := Lib.hid (by rw [hw15, hkd]; exact Box5.new _ _ _ _ _ _ _)
            have HR15 : Hid (∀ s, Below w15.heap.size w15 s → Row s b5 TP ∧ Row s b6 LF ∧ Box5 s kd (.slice b5 8 p5) (.slice b6 4 p6) (.int .i64 CO) (.bool T') (.bool H') ∧ Row s b1 TP ∧ Row s b2 LF ∧ Box5 s kg (.slice b1 8 p1) (.slice b2 4 p2) (.int .i64 CO) (.bool HT) (.bool HL)) := Lib.hid (fun s h => ⟨o5.row.below (below_next k15 h) (Nat.le_refl _), o6.row.below (below_next k15 h) (Nat.le_refl _), HD15.out.below h (Nat.le_refl _), (HRW.out s (below_next k14 (below_next k15 h)))⟩)
            have HK15 := Lib.hid (below_next HKR.out (below_next k14 k15))
            have hkgd : kg < kd := by rw [hkd]; exact Nat.lt_of_lt_of_le (HRW.out _ (Below.refl _ _)).2.2.1 k14.size
            obtain ⟨_, g0, g1, g2, g3, g4⟩ := (HRW.out _ k14).2.2
            have hkgd2 : kg < w14.heap.size := by omega
            have hkd1 : ¬ (kg = w14.heap.size) := by omega
            have hkd2 : ¬ (w14.heap.size = kg) := by omega
            clear f0 f1 f2 n0 n1 n2 o5 o6 k14 k15
            go_wp2_with fail
            rw [← hw15, ← hkd]
            clear hw15 hkd g0 g1 g2 g3 g4 hkgd2 hkd1 hkd2
            refine (HSM1.out b1 p1 b5 p5 w15 (HR15.out _ (Below.refl _ _)).2.2.2.1 (HR15.out _ (Below.refl _ _)).1).mono ?_
            rintro e w16 ⟨rfl, k16⟩
            obtain ⟨h1, h2, ⟨_, d0, d1, d2, d3, d4⟩, h3, h4, ⟨_, g0, g1, g2, g3, g4⟩⟩ := HR15.out _ k16
            clear h1 h3
            go_wp2_with fail
            refine (HSM2.out b2 p2 b6 p6 w16 h4 h2).mono ?_
            rintro e w17 ⟨rfl, k17⟩
            have k17 := below_next k16 k17
            obtain ⟨h1, h2, ⟨_, d0, d1, d2, d3, d4⟩, h3, h4, ⟨_, g0, g1, g2, g3, g4⟩⟩ := HR15.out _ k17
            clear k16
            go_wp2_with fail
            refine (HOK.out b1 p1 b2 p2 w17 h3 h4).mono ?_
            rintro e w18 ⟨rfl, k18⟩
            have k18 := below_next k17 k18
            obtain ⟨h1, h2, ⟨_, d0, d1, d2, d3, d4⟩, h3, h4, ⟨_, g0, g1, g2, g3, g4⟩⟩ := HR15.out _ k18
            have HF := Lib.hid (below_next HK15.out k18)
            have hT1 : decide ((0 : Int) < (V : Int)) = HT := by rw [HHT.out]; simp
            have hT2 : decide (0 < V) = HT := HHT.out.symm
            have hL1 : decide ((0 : Int) < (U : Int)) = HL := by rw [HHL.out]; simp
            have hL2 : decide (0 < U) = HL := HHL.out.symm
            have hbT : (HT == HT) = true := by simp
            have hbL : (HL == HL) = true := by simp
            clear k17 k18 h1 h2 h3 h4
            go_wp2
            go_ret
            exact ⟨rfl, HF.out⟩
      · have HLAW := Lib.hid (around_law (Y := Y) HW0.out (.inr rfl) HNL.out hUN HFIT.out)
        have HNB := Lib.hid (nbB_law (.inr rfl) HFIT.out)
        obtain rfl : nT = 16 := by rw [← HNT.out, HVAL.out.1]; exact HNB.out.2.1
        obtain rfl : nF = 8 := by rw [← HNF.out, HVAL.out.2.1]; exact HNB.out.2.2
        obtain ⟨V4, hV4⟩ : ∃ z, z = V + 8 := ⟨_, rfl⟩
        have iV : (V : Int) + 8 = (V4 : Int) := by omega
        have iVw : IntKind.i64.wrap ((V : Int) + 8) = (V4 : Int) := by rw [iV]; exact IntWalk.i64_in _ (by omega)
        have HV4 := Lib.hid hV4
        have hV9 : V4 ≤ 64 := by omega
        clear hV4
        go_wp2_with fail
        refine (HNEW.out w11).mono ?_
        rintro e w12 ⟨bG, cG, rfl, oG, k12⟩
        obtain ⟨gG, rfl, hgG, hgG2, _⟩ := oG.at_ (i := 0) (by rw [zeros_len]; omega)
        have HCG : Hid (nL ≤ cG) := Lib.hid (by have := oG.cap; rw [zeros_len] at this; exact this)
        have k912 := below_next HK11.out k12
        obtain ⟨kn, hkn⟩ : ∃ z, z = w12.heap.size := ⟨_, rfl⟩
        obtain ⟨w13, hw13⟩ : ∃ z, z = w12.alloc (.cells #[.int .i64 X, .int .i64 Y, .slice (some ⟨gG, 0, none⟩) nL cG] 26) := ⟨_, rfl⟩
        have k1213 : Below w12.heap.size w12 w13 := by rw [hw13]; exact (Below.refl _ _).alloc (Nat.le_refl _) _
        have HN13 : Hid (Box3 w13 kn (.int .i64 X) (.int .i64 Y) (.slice (some ⟨gG, 0, none⟩) nL cG)) := Lib.hid (by rw [hw13, hkn]; exact Box3.new _ _ _ _ _)
        have HO13 : Hid (Own w9.heap.size w13 (some ⟨gG, 0, none⟩) cG (zeros nL)) := Lib.hid (by rw [hw13]; exact (oG.mono HK11.out.size).alloc _)
        have k13 := below_next k912 k1213
        have HF13 := Lib.hid (HF9.out.below k13 (Nat.le_refl _))
        have HG13 := Lib.hid (HG9.out.below k13 (Nat.le_refl _))
        have HK13 := Lib.hid (below_next HK.out k13)
        have HR13 := Lib.hid (HRM.out _ k13)
        have hgn : gG < kn := by rw [hkn]; exact hgG2
        have hs9 : w9.heap.size ≤ gG := Nat.le_trans HK11.out.size hgG
        have HNE : Hid (gG ≠ kf ∧ gG ≠ kg ∧ gG ≠ kn ∧ px ≠ gG ∧ (∀ p, b1 = some p → p.block ≠ gG) ∧ (∀ p, b2 = some p → p.block ≠ gG) ∧ w.heap.size ≤ gG) := Lib.hid (by
          have h1 := HKL.out
          have h2 := HPX.out
          refine ⟨by omega, by omega, by omega, by omega, fun p hp => ?_, fun p hp => ?_, Nat.le_trans HK.out.size hs9⟩
          · have := HRB.out.1 p hp; omega
          · have := HRB.out.2 p hp; omega)
        clear oG k12 k912 k1213 k13
        go_wp2_with fail
        rw [← hkn, ← hw13]
        clear hw13 hkn f0 f1 f2 g0 g1 g2 g3 g4 h0 h1 h2 h3 h4 hgG hgG2 hgn hs9 hkn1 hkn2 hkn3 hkn4 hkn5 hkn6
        go_loopw [10] (fun i wr => ∃ (j : Nat), j ≤ nL ∧ i = .int .i64 j ∧ w13.grownBy wr (some gG) ∧ Own w9.heap.size wr (some ⟨gG, 0, none⟩) cG (otherL l0 L X U V 8 nL j)) (fun i _ => nL - (intOf i).toNat)
        case atStart => exact ⟨0, Nat.zero_le _, rfl, World.grownBy.refl _ _, HO13.out⟩
        case round =>
          obtain ⟨j, hj, rfl, hgr, hown⟩ := hrel
          have HGR := Lib.hid hgr
          have HOW := Lib.hid hown
          obtain ⟨_, f0, f1, f2⟩ := HF13.out.grown (a := some ⟨gG, 0, none⟩) hgr (fun p hp => by cases hp; exact HNE.out.1)
          obtain ⟨_, n0, n1, n2⟩ := HN13.out.grown (a := some ⟨gG, 0, none⟩) hgr (fun p hp => by cases hp; exact HNE.out.2.2.1)
          by_cases hlt : j < nL
          · have hltd : decide ((j : Int) < (nL : Int)) = true := decide_eq_true (by omega)
            have hltn : decide (j < nL) = true := decide_eq_true hlt
            have hjn : (j : Int) < (nL : Int) := by omega
            have hrL := HR13.out.1.cur hgr (fun p hp => by cases hp; exact HNE.out.2.2.2.1)
            obtain ⟨_, _, e, cL⟩ := hrL.at_ (i := j) (by rw [HNL.out]; exact hlt)
            cases e
            obtain ⟨cG0, fG, _, _⟩ := own_store hown (by rw [otherL_len]; exact hlt) 0
            have hgk1 : ¬ (gG = kf) := HNE.out.1
            have hgk2 : ¬ (kf = gG) := fun e => HNE.out.1 e.symm
            have hgk3 : ¬ (gG = kn) := HNE.out.2.2.1
            have hgk4 : ¬ (kn = gG) := fun e => HNE.out.2.2.1 e.symm
            obtain ⟨am, ham⟩ : ∃ t, t = j % X := ⟨_, rfl⟩
            obtain ⟨bm, hbm⟩ : ∃ t, t = j / X := ⟨_, rfl⟩
            have hbj : bm ≤ j := by rw [hbm]; exact Nat.div_le_self _ _
            have haj : am < X := by rw [ham]; exact Nat.mod_lt _ (by omega)
            have q1 : (j : Int).tmod (X : Int) = (am : Int) := by rw [Int.tmod_eq_emod_of_nonneg (by omega), ham]; rfl
            have q3 : (j : Int) % (X : Int) = (am : Int) := by rw [ham]; rfl
            have q5 : (j : Int).tdiv (X : Int) = (bm : Int) := by rw [Int.tdiv_eq_ediv_of_nonneg (by omega), hbm]; rfl
            have q2 : IntKind.i64.wrap ((j : Int).tdiv (X : Int)) = (bm : Int) := by rw [q5]; exact IntWalk.i64_in _ (by omega)
            have q4 : (j : Int) / (X : Int) = (bm : Int) := by rw [hbm]; rfl
            have hxz : ((X : Int) == 0) = false := by simp; omega
            have hxz2 : ¬ ((X : Int) = 0) := by omega
            have hxz3 : ¬ (X = 0) := by omega
            have hHB : hideB X U V 8 j = (decide (V ≤ bm) && decide (U ≤ am) || decide (V4 ≤ bm)) := by rw [hideB, ← ham, ← hbm, ← HV4.out]
            obtain ⟨pv, hpv⟩ : ∃ z, z = L.getD j 0 := ⟨_, rfl⟩
            obtain ⟨qv, hqv⟩ : ∃ z, z = atF l0 j := ⟨_, rfl⟩
            have HB1 : Hid (hideB X U V 8 j = (decide (V ≤ bm) && decide (U ≤ am) || decide (V4 ≤ bm))) := Lib.hid hHB
            have HPV := Lib.hid hpv
            have HQV := Lib.hid hqv
            have HAJ := Lib.hid (HAT.out j)
            rw [← hqv] at HAJ
            rw [← hpv] at cL
            clear ham hbm hHB hpv hqv hgr hown hrL
            have HS1 := Lib.hid (own_store HOW.out.drew (by rw [otherL_len]; exact hlt) pv)
            by_cases c1 : V ≤ bm
            · have t1 : decide ((V : Int) ≤ (bm : Int)) = true := decide_eq_true (by omega)
              have t1n : decide (V ≤ bm) = true := decide_eq_true c1
              by_cases c2 : U ≤ am
              · have t2 : decide ((U : Int) ≤ (am : Int)) = true := decide_eq_true (by omega)
                have t2n : decide (U ≤ am) = true := decide_eq_true c2
                have HHB : Hid (hideB X U V 8 j = true) := Lib.hid (by rw [HB1.out, t1n, t2n]; rfl)
                have HS3 := own_store HOW.out (by rw [otherL_len]; exact hlt) pv
                have HGR2 := Lib.hid (D.drew (D.trans HGR.out HS3.2.2.2))
                have HO2 := Lib.hid HS3.2.2.1.drew
                obtain ⟨w2, hw2⟩ : ∃ z, z = (wr.setCell ⟨gG, j, none⟩ (.int .i64 pv)).drew := ⟨_, rfl⟩
                rw [← hw2] at HGR2 HO2
                have HS2 := Lib.hid (own_store HO2.out.drew (by rw [List.length_set, otherL_len]; exact hlt) qv)
                clear HS3
                go_wp2_with fail
                go_still_tail 9, (by kernel_rfl)
                change wpList _ _ _ _ _ wr.drew
                go_wp2_with fail
                rw [← hw2]
                clear hw2 f0 f1 f2 n0 n1 n2 cL cG0 fG HS1
                obtain ⟨_, n0, n1, n2⟩ := HN13.out.grown (a := some ⟨gG, 0, none⟩) HGR2.out (fun p hp => by cases hp; exact HNE.out.2.2.1)
                obtain ⟨cG0, fG, _, _⟩ := own_store HO2.out (by rw [List.length_set, otherL_len]; exact hlt) 0
                have HBW2 := Lib.hid (D.below HK13.out HGR2.out HK13.out.size HNE.out.2.2.2.2.2.2)
                go_region_held3 (fun w' => w'.cell? ⟨kn, 2, none⟩ = some (.slice (some ⟨gG, 0, none⟩) nL cG)) (first | go_keep | exact (World.cell?_setCell_far _ _ _ _ hgk3).trans n2)
                  ((first
                    | (go_at_call 23; refine (HAJ.out _ (by omega) (by first | exact HBW2.out | exact below_drewN' HBW2.out 1 | exact HBW2.out.drew)).mono ?_; rintro e w' ⟨rfl, rfl⟩)))
                all_goals
                  go_wp2
                  go_roundw
                  case rel => exact ⟨j + 1, by omega, by go_num, D.trans (D.drew HGR2.out) HS2.out.2.2.2, by rw [otherL, if_pos HHB.out, ← HQV.out]; have h := HS2.out.2.2.1; rw [List.set_set] at h; exact h⟩
                  case measure => simp [intOf]; omega
              · have t2 : decide ((U : Int) ≤ (am : Int)) = false := decide_eq_false (by omega)
                have t2n : decide (U ≤ am) = false := decide_eq_false c2
                by_cases c3 : V4 ≤ bm
                · have t3 : decide ((V4 : Int) ≤ (bm : Int)) = true := decide_eq_true (by omega)
                  have t3n : decide (V4 ≤ bm) = true := decide_eq_true c3
                  have HHB : Hid (hideB X U V 8 j = true) := Lib.hid (by rw [HB1.out, t1n, t2n, t3n]; rfl)
                  have HS3 := own_store HOW.out (by rw [otherL_len]; exact hlt) pv
                  have HGR2 := Lib.hid (D.drew (D.trans HGR.out HS3.2.2.2))
                  have HO2 := Lib.hid HS3.2.2.1.drew
                  obtain ⟨w2, hw2⟩ : ∃ z, z = (wr.setCell ⟨gG, j, none⟩ (.int .i64 pv)).drew := ⟨_, rfl⟩
                  rw [← hw2] at HGR2 HO2
                  have HS2 := Lib.hid (own_store HO2.out.drew (by rw [List.length_set, otherL_len]; exact hlt) qv)
                  clear HS3
                  go_wp2_with fail
                  go_still_tail 9, (by kernel_rfl)
                  change wpList _ _ _ _ _ wr.drew
                  go_wp2_with fail
                  rw [← hw2]
                  clear hw2 f0 f1 f2 n0 n1 n2 cL cG0 fG HS1
                  obtain ⟨_, n0, n1, n2⟩ := HN13.out.grown (a := some ⟨gG, 0, none⟩) HGR2.out (fun p hp => by cases hp; exact HNE.out.2.2.1)
                  obtain ⟨cG0, fG, _, _⟩ := own_store HO2.out (by rw [List.length_set, otherL_len]; exact hlt) 0
                  have HBW2 := Lib.hid (D.below HK13.out HGR2.out HK13.out.size HNE.out.2.2.2.2.2.2)
                  go_region_held3 (fun w' => w'.cell? ⟨kn, 2, none⟩ = some (.slice (some ⟨gG, 0, none⟩) nL cG)) (first | go_keep | exact (World.cell?_setCell_far _ _ _ _ hgk3).trans n2)
                    ((first
                      | (go_at_call 23; refine (HAJ.out _ (by omega) (by first | exact HBW2.out | exact below_drewN' HBW2.out 1 | exact HBW2.out.drew)).mono ?_; rintro e w' ⟨rfl, rfl⟩)))
                  all_goals
                    go_wp2
                    go_roundw
                    case rel => exact ⟨j + 1, by omega, by go_num, D.trans (D.drew HGR2.out) HS2.out.2.2.2, by rw [otherL, if_pos HHB.out, ← HQV.out]; have h := HS2.out.2.2.1; rw [List.set_set] at h; exact h⟩
                    case measure => simp [intOf]; omega
                · have t3 : decide ((V4 : Int) ≤ (bm : Int)) = false := decide_eq_false (by omega)
                  have t3n : decide (V4 ≤ bm) = false := decide_eq_false c3
                  have HHB : Hid (hideB X U V 8 j = false) := Lib.hid (by rw [HB1.out, t1n, t2n, t3n]; rfl)
                  go_wp2_with fail
                  go_still_tail 9, (by kernel_rfl)
                  change wpList _ _ _ _ _ wr.drew
                  go_wp2
                  go_roundw
                  case rel => exact ⟨j + 1, by omega, by go_num, D.trans (D.drew HGR.out) HS1.out.2.2.2, by rw [otherL, HHB.out, if_neg (by simp), ← HPV.out]; exact HS1.out.2.2.1⟩
                  case measure => simp [intOf]; omega
            · have t1 : decide ((V : Int) ≤ (bm : Int)) = false := decide_eq_false (by omega)
              have t1n : decide (V ≤ bm) = false := decide_eq_false c1
              have t3 : decide ((V4 : Int) ≤ (bm : Int)) = false := decide_eq_false (by have := HV4.out; omega)
              have t3n : decide (V4 ≤ bm) = false := decide_eq_false (by have := HV4.out; omega)
              have HHB : Hid (hideB X U V 8 j = false) := Lib.hid (by rw [HB1.out, t1n, t3n]; rfl)
              go_wp2_with fail
              go_still_tail 9, (by kernel_rfl)
              change wpList _ _ _ _ _ wr.drew
              go_wp2
              go_roundw
              case rel => exact ⟨j + 1, by omega, by go_num, D.trans (D.drew HGR.out) HS1.out.2.2.2, by rw [otherL, HHB.out, if_neg (by simp), ← HPV.out]; exact HS1.out.2.2.1⟩
              case measure => simp [intOf]; omega
          · obtain rfl : j = nL := by omega
            have HGG := Lib.hid hown
            have HRW : Hid (∀ s, Below wr.heap.size wr s → Row s b1 TP ∧ Row s b2 LF ∧ Box5 s kg (.slice b1 16 p1) (.slice b2 8 p2) (.int .i64 CO) (.bool HT) (.bool HL)) := Lib.hid (fun s h => ⟨(HR13.out.2.1.cur hgr HNE.out.2.2.2.2.1).below h (Nat.le_refl _), (HR13.out.2.2.1.cur hgr HNE.out.2.2.2.2.2.1).below h (Nat.le_refl _), (HG13.out.grown (a := some ⟨gG, 0, none⟩) hgr (fun p hp => by cases hp; exact HNE.out.2.1)).below h (Nat.le_refl _)⟩)
            have HKR := Lib.hid (D.below HK13.out hgr HK13.out.size HNE.out.2.2.2.2.2.2)
            have hb : nbB TP LF CO 8 = true := by rw [HVAL.out.1, HVAL.out.2.1, HVAL.out.2.2.1]; exact HNB.out.1
            rw [hb] at HOK
            have hGb : ∀ z ∈ otherL l0 L X U V 8 j j, -9223372036854775808 ≤ z ∧ z ≤ 9223372036854775807 := fun z hz => by
              have h1 := (frameB_true HLAW.out.2.2.2).2.2
              have := inR_true (List.all_eq_true.1 h1 z hz)
              omega
            have HC2 := Lib.hid (HI2.out (otherL l0 L X U V 8 j j) (some ⟨gG, 0, none⟩) cG wr (by rw [otherL_len]) hGb hown.row (HLAW.out.1.trans HVAL.out.1.symm) (HLAW.out.2.1.trans HVAL.out.2.1.symm) (HLAW.out.2.2.1.trans HVAL.out.2.2.1.symm))
            have hltd : decide ((j : Int) < (j : Int)) = false := decide_eq_false (by omega)
            clear hb hGb hown hgr
            go_wp2_with fail
            refine HC2.out.mono ?_
            rintro e w14 ⟨b5, p5, b6, p6, T', H', rfl, o5, o6, k14⟩
            obtain ⟨kd, hkd⟩ : ∃ z, z = w14.heap.size := ⟨_, rfl⟩
            obtain ⟨w15, hw15⟩ : ∃ z, z = w14.alloc (.cells #[.slice b5 16 p5, .slice b6 8 p6, .int .i64 CO, .bool T', .bool H'] 42) := ⟨_, rfl⟩
            have k15 : Below w14.heap.size w14 w15 := by rw [hw15]; exact (Below.refl _ _).alloc (Nat.le_refl _) _
            have HD15 : Hid (Box5 w15 kd (.slice b5 16 p5) (.slice b6 8 p6) (.int .i64 CO) (.bool T') (.bool H')) := Lib.hid (by rw [hw15, hkd]; exact Box5.new _ _ _ _ _ _ _)
            have HR15 : Hid (∀ s, Below w15.heap.size w15 s → Row s b5 TP ∧ Row s b6 LF ∧ Box5 s kd (.slice b5 16 p5) (.slice b6 8 p6) (.int .i64 CO) (.bool T') (.bool H') ∧ Row s b1 TP ∧ Row s b2 LF ∧ Box5 s kg (.slice b1 16 p1) (.slice b2 8 p2) (.int .i64 CO) (.bool HT) (.bool HL)) := Lib.hid (fun s h => ⟨o5.row.below (below_next k15 h) (Nat.le_refl _), o6.row.below (below_next k15 h) (Nat.le_refl _), HD15.out.below h (Nat.le_refl _), (HRW.out s (below_next k14 (below_next k15 h)))⟩)
            have HK15 := Lib.hid (below_next HKR.out (below_next k14 k15))
            have hkgd : kg < kd := by rw [hkd]; exact Nat.lt_of_lt_of_le (HRW.out _ (Below.refl _ _)).2.2.1 k14.size
            obtain ⟨_, g0, g1, g2, g3, g4⟩ := (HRW.out _ k14).2.2
            have hkgd2 : kg < w14.heap.size := by omega
            have hkd1 : ¬ (kg = w14.heap.size) := by omega
            have hkd2 : ¬ (w14.heap.size = kg) := by omega
            clear f0 f1 f2 n0 n1 n2 o5 o6 k14 k15
            go_wp2_with fail
            rw [← hw15, ← hkd]
            clear hw15 hkd g0 g1 g2 g3 g4 hkgd2 hkd1 hkd2
            refine (HSM1.out b1 p1 b5 p5 w15 (HR15.out _ (Below.refl _ _)).2.2.2.1 (HR15.out _ (Below.refl _ _)).1).mono ?_
            rintro e w16 ⟨rfl, k16⟩
            obtain ⟨h1, h2, ⟨_, d0, d1, d2, d3, d4⟩, h3, h4, ⟨_, g0, g1, g2, g3, g4⟩⟩ := HR15.out _ k16
            clear h1 h3
            go_wp2_with fail
            refine (HSM2.out b2 p2 b6 p6 w16 h4 h2).mono ?_
            rintro e w17 ⟨rfl, k17⟩
            have k17 := below_next k16 k17
            obtain ⟨h1, h2, ⟨_, d0, d1, d2, d3, d4⟩, h3, h4, ⟨_, g0, g1, g2, g3, g4⟩⟩ := HR15.out _ k17
            clear k16
            go_wp2_with fail
            refine (HOK.out b1 p1 b2 p2 w17 h3 h4).mono ?_
            rintro e w18 ⟨rfl, k18⟩
            have k18 := below_next k17 k18
            obtain ⟨h1, h2, ⟨_, d0, d1, d2, d3, d4⟩, h3, h4, ⟨_, g0, g1, g2, g3, g4⟩⟩ := HR15.out _ k18
            have HF := Lib.hid (below_next HK15.out k18)
            have hT1 : decide ((0 : Int) < (V : Int)) = HT := by rw [HHT.out]; simp
            have hT2 : decide (0 < V) = HT := HHT.out.symm
            have hL1 : decide ((0 : Int) < (U : Int)) = HL := by rw [HHL.out]; simp
            have hL2 : decide (0 < U) = HL := HHL.out.symm
            have hbT : (HT == HT) = true := by simp
            have hbL : (HL == HL) = true := by simp
            clear k17 k18 h1 h2 h3 h4
            go_wp2
            go_ret
            exact ⟨rfl, HF.out⟩

theorem own : ownKnob Try.prog.godebug = none := by kernel_rfl
theorem laidOut : laidOutB Try.prog = true := by kernel_rfl
set_option maxRecDepth 100000 in
theorem lifted (os : Os) (started : os.Started) (H : Type) (enc : TypeId × Value → H) :
    ReturnsInHanded {} Try.checked os 6 .any (Rows.fnAroundSpec.pre6 enc Try.prog Try.f6 Rows.fnAroundRow.domain false) (Rows.fnAroundSpec.post enc Try.prog Try.f6 false true false false) := by
  refine returnsInHanded_of_change (C := Try.checked) own started (by kernel_rfl) Try.func6
    (ChangeSpec.witness6 (enc := enc) (C := Try.checked) false ⟨#[], #[.slice none 0 0], []⟩ 8 (by kernel_rfl) (by kernel_rfl) (by kernel_rfl) (by kernel_rfl)) ?_
  intro W base args ds gs before hval0 hW hcnd _
  have hval : ∀ (j : Nat) t v, Try.f6.params[j]? = some t → args[j]? = some v → Value.okWide Try.prog W .any base t v := hval0
  have hW' := hW
  obtain ⟨p, q, hA0, hV, rfl, hfz, hnd⟩ := hW
  have hA : DataW.TrodAll enc Try.prog W 0 (fun _ => true) true Try.f6.params.toList args.toList ds p := hA0
  rw [Try.params6] at hA hval
  obtain ⟨v0, vs0, d0, ds0, p0, q0, hargs, rfl, rfl, h0, tr0⟩ := trodAll_cons hA
  obtain ⟨rfl, rfl, rfl⟩ := trodAll_nil tr0
  obtain rfl : args = #[v0] := by cases args; simp_all
  obtain ⟨rfl, rfl⟩ := trodVars_none hV
  have k0 := h0
  have lt0 : ∀ x ∈ p0, x.block < W.heap.size := by obtain ⟨m, hm⟩ := k0; exact DataW.trod_lt m _ _ _ hm
  obtain ⟨a0, len0, c0, rfl⟩ := okWide_slice Try.underlying22 (hval 0 22 v0 rfl rfl)
  obtain ⟨l0, hl0, r0, w0⟩ : ∃ l : List Int, l.length = len0 ∧ RowB W a0 l ∧ ∀ x ∈ l, 0 ≤ x ∧ x ≤ 255 := by
    obtain ⟨fuel, hf⟩ := k0
    rcases open_ints Try.underlying22 Try.underlying5 (by kernel_rfl) hf with ⟨hcs, _⟩ | ⟨x, l, c, zs, hcs, _, hl, hm, hz, _, hcell, hwz⟩
    · simp [Value.cells] at hcs
      obtain ⟨rfl, rfl, rfl⟩ := hcs
      exact ⟨[], rfl, .inl rfl, by simp⟩
    · simp [Value.cells] at hcs
      obtain ⟨rfl, rfl, rfl⟩ := hcs
      exact RowB.of_cells hl (by simpa using hz) hcell (fun n hn => wf_u8 (hwz n hn))
  subst hl0
  clear hA0 hval0
  refine (walk W a0 c0 l0 r0 w0).mono fun e W' ⟨he, bel⟩ => ?_
  subst he
  exact ⟨_, rfl, _, _, _, [], _, [], hW', trodAll_mk1 (shut_bool Try.underlying4 _), (trodAll_cons_mk (Below.trod laidOut (by kernel_rfl) (of_decide_eq_true (by kernel_rfl)) k0 bel lt0) trodAll_mk0), rfl, bel.frame _, fun h => by cases h⟩

theorem over : Rows.fnAroundRow.holds Try.pinned (OpenSpec.ofChange Rows.fnAroundSpec) :=
  OpenClaim.holds_of_wide 6 Try.f6 rfl rfl rfl rfl rfl rfl rfl ⟨rfl, rfl, rfl, rfl, rfl⟩ rfl rfl rfl rfl rfl (by kernel_rfl) Try.func6 (by kernel_rfl)
    (of_decide_eq_true (by kernel_rfl)) (by unfold Func.isWrapper; first | (rw [if_pos (by decide +kernel)]; kernel_rfl) | (rw [if_neg (by decide +kernel)]; exact ⟨rfl, rfl⟩))
    (fun os started H enc _ => lifted os started H enc)

/-- the statement -/
theorem proved : Rows.FnAroundSaid := over
#print axioms proved
end Go.Proofs.Ytkfjbnhihjnhnaa.fnAround
