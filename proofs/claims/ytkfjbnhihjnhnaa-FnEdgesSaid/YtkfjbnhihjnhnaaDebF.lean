/- The filter of a frame by its other name; what it leaves as it was. -/
import Derived.Test.YtkfjbnhihjnhnaaDebC
namespace Go.Proofs.Ytkfjbnhihjnhnaa
open Go.RowKit
set_option linter.unusedVariables false


set_option maxHeartbeats 2000000 in
theorem impl.DeblockFast_c (x y : Int) (a : Option Addr) (c : Nat) (l : List Int) (q : Int) (w : World) (hx : -9223372036854775808 ≤ x ∧ x ≤ 9223372036854775807) (hy : -9223372036854775808 ≤ y ∧ y ≤ 9223372036854775807) (hl : l.length ≤ 1099511627776) (hr : Row w a l) (hw : ∀ x ∈ l, -9223372036854775808 ≤ x ∧ x ≤ 9223372036854775807) :
    Calls Try.prog 11 #[frv x y a l.length c, .int .i64 q] w fun e w' => ∃ b d, e = .returned (frv x y b (debV x y l q).length d) ∧ Own w.heap.size w' b d (debV x y l q) ∧ Below w.heap.size w w' := by
  have HD := Lib.hid (fun w0 (h : Row w0 a l) => impl.DeblockRef_c x y a c l q w0 hx hy hl h hw)
  have HRR : Hid (∀ w0, Below w.heap.size w w0 → Row w0 a l) := Lib.hid (fun w0 h => hr.below h (Nat.le_refl _))
  obtain ⟨D, hD⟩ : ∃ D, D = debV x y l q := ⟨_, rfl⟩
  rw [← hD] at HD ⊢
  clear hx hy hw hr hD
  go_enter Try.func11, Try.ntmps11
  go_wp2_with fail
  obtain ⟨W0, hW0⟩ : ∃ WW, WW = (w.alloc (.cells #[.int .i64 x, .int .i64 y, .slice a l.length c] 26)).alloc (.cells #[.int .i64 0, .int .i64 0, .slice none 0 0] 26) := ⟨_, rfl⟩
  rw [← hW0]
  have hP0 : Pre2 w x y a c l.length W0 := by rw [hW0]; exact Pre2.start _
  clear hW0
  refine (HD.out W0 (HRR.out _ hP0.2.2.2)).mono ?_
  rintro e w2 ⟨b, d, rfl, ho, hb⟩
  have hP2 := hP0.below hb
  have HOO := Lib.hid (ho.mono (B' := w.heap.size + 2) hP0.2.1.1)
  have HP2 := Lib.hid hP2
  clear ho hb hP0
  obtain ⟨_, ⟨_, r0, r1, r2⟩, F, _⟩ := hP2
  have f0 := F 0
  have f1 := F 1
  have f2 := F 2
  clear F
  go_wp2
  have hT := three_set (.int .i64 x) (.int .i64 y) (.slice b D.length d) r0 r1 r2
  refine bodyPost_ret (v := frv x y b D.length d) (by simp [results, Try.results11, go_sem, hT]) rfl ⟨b, d, rfl, ?_, ?_⟩
  · exact (((HOO.out.far (p := ⟨w.heap.size + 1, 0, none⟩) (by show w.heap.size + 1 < w.heap.size + 2; omega) _).far (p := ⟨w.heap.size + 1, 1, none⟩) (by show w.heap.size + 1 < w.heap.size + 2; omega) _).far (p := ⟨w.heap.size + 1, 2, none⟩) (by show w.heap.size + 1 < w.heap.size + 2; omega) _).mono (by omega)
  · exact ((HP2.out.2.2.2.setCell (p := ⟨w.heap.size + 1, 0, none⟩) (by show _ ≤ w.heap.size + 1; omega) _).setCell (p := ⟨w.heap.size + 1, 1, none⟩) (by show _ ≤ w.heap.size + 1; omega) _).setCell (p := ⟨w.heap.size + 1, 2, none⟩) (by show _ ≤ w.heap.size + 1; omega) _

/- plain: what the filter leaves -/
theorem ix_divF {X r q : Nat} (hr : r < X) : (q * X + r) / X = q := by rw [Nat.mul_comm, Nat.mul_add_div (by omega), Nat.div_eq_of_lt hr, Nat.add_zero]
theorem ix_modF {X r q : Nat} (hr : r < X) : (q * X + r) % X = r := by rw [Nat.mul_comm, Nat.mul_add_mod, Nat.mod_eq_of_lt hr]
theorem getD_setF (l : List Int) (m i : Nat) (x : Int) : (l.set m x).getD i 0 = if m = i ∧ i < l.length then x else l.getD i 0 := by
  by_cases hi : i < l.length
  · rw [getD_lt (by rw [List.length_set]; exact hi), List.getElem_set, getD_lt hi]
    simp [hi]
  · rw [if_neg (by omega)]
    have h1 : (l.set m x)[i]? = none := by simp; omega
    have h2 : l[i]? = none := by simp; omega
    simp [List.getD, h1, h2]
theorem edge_rng {p1 p0 q0 q1 q : Int} (h0 : 0 ≤ p0 ∧ p0 ≤ 255) (h1 : 0 ≤ q0 ∧ q0 ≤ 255) : (0 ≤ edgeP p1 p0 q0 q1 q ∧ edgeP p1 p0 q0 q1 q ≤ 255) ∧ (0 ≤ edgeQ p1 p0 q0 q1 q ∧ edgeQ p1 p0 q0 q1 q ≤ 255) := by
  unfold edgeP edgeQ
  split
  · exact ⟨clipF_bd 0 255 _ (by omega), clipF_bd 0 255 _ (by omega)⟩
  · exact ⟨h0, h1⟩
def RngL (l : List Int) : Prop := ∀ i, 0 ≤ l.getD i 0 ∧ l.getD i 0 ≤ 255
theorem smL_rng {l : List Int} (h : RngL l) (at_ st : Nat) (q : Int) : RngL (smL l at_ st q) := by
  intro i
  unfold smL
  rw [getD_setF]
  split
  · first | exact (edge_rng (h _) (h _)).2 | exact (edge_rng (h _) (h _)).1
  · rw [getD_setF]
    split
    · first | exact (edge_rng (h _) (h _)).1 | exact (edge_rng (h _) (h _)).2
    · exact h i
theorem vR_rng {l : List Int} (h : RngL l) (W : Nat) (q : Int) (y : Nat) : ∀ j, RngL (vR W q y l j) := by
  intro j
  induction j with
  | zero => exact h
  | succ j ih => exact smL_rng ih _ _ _
theorem vA_rng {l : List Int} (h : RngL l) (W : Nat) (q : Int) (y : Nat) : ∀ j, RngL (vA W q y l j) := by
  intro j
  induction j with
  | zero => exact h
  | succ j ih => exact vR_rng ih _ _ _ _
theorem hR_rng {l : List Int} (h : RngL l) (W : Nat) (q : Int) (y : Nat) : ∀ j, RngL (hR W q y l j) := by
  intro j
  induction j with
  | zero => exact h
  | succ j ih => exact smL_rng ih _ _ _
theorem hA_rng {l : List Int} (h : RngL l) (W : Nat) (q : Int) : ∀ j, RngL (hA W q l j) := by
  intro j
  induction j with
  | zero => exact h
  | succ j ih => exact hR_rng ih _ _ _ _
theorem rng_of {l : List Int} (h : allR 0 255 l = true) : RngL l := by
  intro i
  by_cases hi : i < l.length
  · exact allR_at h hi
  · have h1 : l.getD i 0 = 0 := by
      have h2 : l[i]? = none := by simp; omega
      simp [List.getD, h2]
    omega
theorem debV_ok {x y : Int} {l : List Int} {q : Int} (h : frameB x y l = true) : frameB x y (debV x y l q) = true := by
  obtain ⟨hs, hl, ha⟩ := frameB_true h
  have h1 : allR 0 255 (debV x y l q) = true := allR_mk (fun i _ => inR_mk (by
    unfold debV
    split
    · exact hA_rng (vA_rng (rng_of ha) _ _ _ _) _ _ _ i
    · exact rng_of ha i))
  simp [frameB, hs, debV_len, hl, h1]
theorem vR_in {W : Nat} (hW : W % 8 = 0) (l : List Int) (q : Int) (y p : Nat) (h : 0 < p % W % 8 ∧ p % W % 8 < 7) : ∀ j, j ≤ W / 8 - 1 → (vR W q y l j).getD p 0 = l.getD p 0 := by
  intro j
  induction j with
  | zero => intro _; rfl
  | succ j ih =>
    intro hj
    have h8 : 8 * (j + 1) < W := by omega
    rw [vR, smL_far, ih (by omega)]
    · intro e
      have h2 := ix_modF (q := y) h8
      rw [← e] at h2
      omega
    · intro e
      have h2 := ix_modF (X := W) (q := y) (r := 8 * (j + 1) - 1) (by omega)
      have e2 : y * W + 8 * (j + 1) - 1 = y * W + (8 * (j + 1) - 1) := by omega
      rw [e2] at e
      rw [← e] at h2
      omega
theorem vA_in {W : Nat} (hW : W % 8 = 0) (l : List Int) (q : Int) (y0 p : Nat) (h : 0 < p % W % 8 ∧ p % W % 8 < 7) : ∀ k, (vA W q y0 l k).getD p 0 = l.getD p 0 := by
  intro k
  induction k with
  | zero => rfl
  | succ k ih => rw [vA, vR_in hW _ _ _ _ h _ (Nat.le_refl _), ih]
theorem hR_in {W : Nat} (l : List Int) (q : Int) (y p : Nat) (hy : 0 < y) (h1 : p / W ≠ y) (h2 : p / W ≠ y - 1) : ∀ j, j ≤ W → (hR W q y l j).getD p 0 = l.getD p 0 := by
  intro j
  induction j with
  | zero => intro _; rfl
  | succ j ih =>
    intro hj
    rw [hR, smL_far, ih (by omega)]
    · intro e
      have h3 := ix_divF (X := W) (q := y) (r := j) (by omega)
      rw [← e] at h3
      exact h1 h3
    · intro e
      have h3 := ix_divF (X := W) (q := y - 1) (r := j) (by omega)
      have h4 : y * W = (y - 1) * W + W := by
        obtain ⟨z, rfl⟩ : ∃ z, y = z + 1 := ⟨y - 1, by omega⟩
        rw [Nat.add_mul, Nat.one_mul]
        simp
      have e2 : y * W + j - W = (y - 1) * W + j := by omega
      rw [e2] at e
      rw [← e] at h3
      exact h2 h3
theorem hA_in {W : Nat} (l : List Int) (q : Int) (p : Nat) (h : 0 < p / W % 8 ∧ p / W % 8 < 7) : ∀ k, (hA W q l k).getD p 0 = l.getD p 0 := by
  intro k
  induction k with
  | zero => rfl
  | succ k ih => rw [hA, hR_in _ _ _ _ (by omega) (by omega) (by omega) _ (Nat.le_refl _), ih]
theorem debV_in {X : Nat} {y : Int} {l : List Int} {q : Int} (hX : X % 8 = 0) (p : Nat) (h1 : 0 < p % X % 8 ∧ p % X % 8 < 7) (h2 : 0 < p / X % 8 ∧ p / X % 8 < 7) : (debV X y l q).getD p 0 = l.getD p 0 := by
  unfold debV
  split
  · simp only [Int.toNat_natCast]
    rw [hA_in _ _ _ h2, vA_in hX _ _ _ _ h1]
  · rfl
theorem debV_out {x y : Int} {l : List Int} {q : Int} (h : frameB x y l = false) : debV x y l q = l := by simp [debV, filtB, h]
/- one number everywhere -/
theorem edge_still {v q : Int} (hv : 0 ≤ v ∧ v ≤ 255) (hq : 0 ≤ q) : edgeP v v v v q = v ∧ edgeQ v v v v q = v := by
  have hd : edgeD v v v v q = 0 := by
    unfold edgeD clipF
    omega
  unfold edgeP edgeQ
  rw [hd]
  split
  · unfold clipF
    omega
  · exact ⟨rfl, rfl⟩
theorem set_repl (n i : Nat) (v : Int) : (List.replicate n v).set i v = List.replicate n v := by
  apply List.ext_getElem
  · simp
  · intro j h1 h2
    simp
theorem getD_repl {n i : Nat} (v : Int) (h : i < n) : (List.replicate n v).getD i 0 = v := by rw [getD_lt (by simp; exact h)]; simp
theorem smL_still {n at_ st : Nat} {v q : Int} (hv : 0 ≤ v ∧ v ≤ 255) (hq : 0 ≤ q) (h2 : at_ + st < n) : smL (List.replicate n v) at_ st q = List.replicate n v := by
  unfold smL
  have e0 := getD_repl v (show at_ - 2 * st < n by omega)
  have e1 := getD_repl v (show at_ - st < n by omega)
  have e2 := getD_repl v (show at_ < n by omega)
  have e3 := getD_repl v (show at_ + st < n by omega)
  simp only [e0, e1, e2, e3, (edge_still hv hq).1, (edge_still hv hq).2, set_repl]
theorem debV_still {v q : Int} (hv : 0 ≤ v ∧ v ≤ 255) (hq : 0 ≤ q) : debV 16 16 (List.replicate 256 v) q = List.replicate 256 v := by
  unfold debV
  split
  · have hv1 : ∀ y j, y < 16 → j ≤ 1 → vR 16 q y (List.replicate 256 v) j = List.replicate 256 v := by
      intro y j hy hj
      match j, hj with
      | 0, _ => rfl
      | 1, _ =>
        show smL (List.replicate 256 v) (y * 16 + 8 * (0 + 1)) 1 q = _
        exact smL_still hv hq (by omega)
    have hv2 : ∀ k, k ≤ 16 → vA 16 q 0 (List.replicate 256 v) k = List.replicate 256 v := by
      intro k
      induction k with
      | zero => intro _; rfl
      | succ k ih =>
        intro hk
        show vR 16 q (0 + k) (vA 16 q 0 (List.replicate 256 v) k) (16 / 8 - 1) = _
        rw [ih (by omega)]
        exact hv1 _ _ (by omega) (by decide)
    have hh : ∀ x, x ≤ 16 → hR 16 q 8 (List.replicate 256 v) x = List.replicate 256 v := by
      intro x
      induction x with
      | zero => intro _; rfl
      | succ x ih =>
        intro hx
        show smL (hR 16 q 8 (List.replicate 256 v) x) (8 * 16 + x) 16 q = _
        rw [ih (by omega)]
        exact smL_still hv hq (by omega)
    show hA 16 q (vA 16 q 0 (List.replicate 256 v) 16) 1 = _
    rw [hv2 16 (Nat.le_refl _)]
    exact hh 16 (Nat.le_refl _)
  · rfl
end Go.Proofs.Ytkfjbnhihjnhnaa
