/- Plain laws: lifting is a row of the matrix; the product is linear and multiplies the energy. -/
import Derived.Test.YtchabkkpdafkiaaMat
import Derived.Test.YtchabkkpdafkiaaLift
import Derived.Test.YtchabkkpdafkiaaLift8
import Derived.Test.YtchabkkpdafkiaaCols
namespace Go.Proofs.Ytchabkkpdafkiaa
open Go.RowKit
set_option linter.unusedVariables false

theorem w64 {n : Int} (h : -4611686018427387904 ≤ n ∧ n ≤ 4611686018427387904) : wrap64 n = n := by unfold wrap64; omega
/-- the values of one row, lifted -/
def liftR (R : List (List Int)) (n : Nat) (l : List Int) : List Int := tab (fun k => rowAt (ent R) l n 0 k) n
theorem lift4_row {l : List Int} (h4 : l.length = 4) (hb : ∀ i, i < 4 → -1000000000000 ≤ l.getD i 0 ∧ l.getD i 0 ≤ 1000000000000) : lift4F l = liftR rowsA 4 l := by
  obtain ⟨x0, x1, x2, x3, rfl⟩ := four_of h4
  have b0 : -1000000000000 ≤ x0 ∧ x0 ≤ 1000000000000 := hb 0 (by omega)
  have b1 : -1000000000000 ≤ x1 ∧ x1 ≤ 1000000000000 := hb 1 (by omega)
  have b2 : -1000000000000 ≤ x2 ∧ x2 ≤ 1000000000000 := hb 2 (by omega)
  have b3 : -1000000000000 ≤ x3 ∧ x3 ≤ 1000000000000 := hb 3 (by omega)
  clear hb h4
  have e1 : wrap64 (x0 + x2) = x0 + x2 := w64 (by omega)
  have e2 : wrap64 (x0 - x2) = x0 - x2 := w64 (by omega)
  have e3 : wrap64 (2 * x1) = 2 * x1 := w64 (by omega)
  have e4 : wrap64 (2 * x1 + x3) = 2 * x1 + x3 := w64 (by omega)
  have e5 : wrap64 (2 * x3) = 2 * x3 := w64 (by omega)
  have e6 : wrap64 (x1 - 2 * x3) = x1 - 2 * x3 := w64 (by omega)
  have e7 : wrap64 (x0 + x2 + (2 * x1 + x3)) = x0 + x2 + (2 * x1 + x3) := w64 (by omega)
  have e8 : wrap64 (x0 - x2 + (x1 - 2 * x3)) = x0 - x2 + (x1 - 2 * x3) := w64 (by omega)
  have e9 : wrap64 (x0 - x2 - (x1 - 2 * x3)) = x0 - x2 - (x1 - 2 * x3) := w64 (by omega)
  have e10 : wrap64 (x0 + x2 - (2 * x1 + x3)) = x0 + x2 - (2 * x1 + x3) := w64 (by omega)
  simp only [lift4F, e1, e2, e3, e4, e5, e6, e7, e8, e9, e10]
  show _ = [0 + 1 * x0 + 2 * x1 + 1 * x2 + 1 * x3, 0 + 1 * x0 + 1 * x1 + (-1) * x2 + (-2) * x3, 0 + 1 * x0 + (-1) * x1 + (-1) * x2 + 2 * x3, 0 + 1 * x0 + (-2) * x1 + 1 * x2 + (-1) * x3]
  congr 1
  · omega
  congr 1
  · omega
  congr 1
  · omega
  congr 1
  omega
theorem stg1 (a b c d e f g h : Int) : stgF 1 8 [a, b, c, d, e, f, g, h] = [wrap64 (a + b), wrap64 (a - b), wrap64 (c + d), wrap64 (c - d), wrap64 (e + f), wrap64 (e - f), wrap64 (g + h), wrap64 (g - h)] := rfl
theorem stg2 (a b c d e f g h : Int) : stgF 2 8 [a, b, c, d, e, f, g, h] = [wrap64 (a + c), wrap64 (b + d), wrap64 (a - c), wrap64 (b - d), wrap64 (e + g), wrap64 (f + h), wrap64 (e - g), wrap64 (f - h)] := rfl
theorem stg4 (a b c d e f g h : Int) : stgF 4 8 [a, b, c, d, e, f, g, h] = [wrap64 (a + e), wrap64 (b + f), wrap64 (c + g), wrap64 (d + h), wrap64 (a - e), wrap64 (b - f), wrap64 (c - g), wrap64 (d - h)] := rfl
theorem eight_of {l : List Int} (h : l.length = 8) : ∃ a b c d e f g k, l = [a, b, c, d, e, f, g, k] := by
  match l, h with
  | [a, b, c, d, e, f, g, k], _ => exact ⟨a, b, c, d, e, f, g, k, rfl⟩
def in12 (x : Int) : Prop := -1000000000000 ≤ x ∧ x ≤ 1000000000000
def in13 (x : Int) : Prop := -2000000000000 ≤ x ∧ x ≤ 2000000000000
def in14 (x : Int) : Prop := -4000000000000 ≤ x ∧ x ≤ 4000000000000
theorem w12 {x y : Int} (h : in12 x) (k : in12 y) : (wrap64 (x + y) = x + y ∧ in13 (x + y)) ∧ (wrap64 (x - y) = x - y ∧ in13 (x - y)) := by
  unfold in12 at h k
  unfold in13
  exact ⟨⟨w64 (by omega), by omega⟩, ⟨w64 (by omega), by omega⟩⟩
theorem w13 {x y : Int} (h : in13 x) (k : in13 y) : (wrap64 (x + y) = x + y ∧ in14 (x + y)) ∧ (wrap64 (x - y) = x - y ∧ in14 (x - y)) := by
  unfold in13 at h k
  unfold in14
  exact ⟨⟨w64 (by omega), by omega⟩, ⟨w64 (by omega), by omega⟩⟩
theorem w14 {x y : Int} (h : in14 x) (k : in14 y) : wrap64 (x + y) = x + y ∧ wrap64 (x - y) = x - y := by
  unfold in14 at h k
  exact ⟨w64 (by omega), w64 (by omega)⟩
theorem st1_of {a b c d e f g h : Int} (ha : in12 a) (hb : in12 b) (hc : in12 c) (hd : in12 d) (he : in12 e) (hf : in12 f) (hg : in12 g) (hh : in12 h) :
    stgF 1 8 [a, b, c, d, e, f, g, h] = [a + b, a - b, c + d, c - d, e + f, e - f, g + h, g - h] := by
  rw [stg1, (w12 ha hb).1.1, (w12 ha hb).2.1, (w12 hc hd).1.1, (w12 hc hd).2.1, (w12 he hf).1.1, (w12 he hf).2.1, (w12 hg hh).1.1, (w12 hg hh).2.1]
theorem st2_of {a b c d e f g h : Int} (ha : in13 a) (hb : in13 b) (hc : in13 c) (hd : in13 d) (he : in13 e) (hf : in13 f) (hg : in13 g) (hh : in13 h) :
    stgF 2 8 [a, b, c, d, e, f, g, h] = [a + c, b + d, a - c, b - d, e + g, f + h, e - g, f - h] := by
  rw [stg2, (w13 ha hc).1.1, (w13 hb hd).1.1, (w13 ha hc).2.1, (w13 hb hd).2.1, (w13 he hg).1.1, (w13 hf hh).1.1, (w13 he hg).2.1, (w13 hf hh).2.1]
theorem st4_of {a b c d e f g h : Int} (ha : in14 a) (hb : in14 b) (hc : in14 c) (hd : in14 d) (he : in14 e) (hf : in14 f) (hg : in14 g) (hh : in14 h) :
    stgF 4 8 [a, b, c, d, e, f, g, h] = [a + e, b + f, c + g, d + h, a - e, b - f, c - g, d - h] := by
  rw [stg4, (w14 ha he).1, (w14 hb hf).1, (w14 hc hg).1, (w14 hd hh).1, (w14 ha he).2, (w14 hb hf).2, (w14 hc hg).2, (w14 hd hh).2]
theorem lift8_row {l : List Int} (h8 : l.length = 8) (hb : ∀ i, i < 8 → -1000000000000 ≤ l.getD i 0 ∧ l.getD i 0 ≤ 1000000000000) : lift8F l = liftR rowsH 8 l := by
  obtain ⟨a, b, c, d, e, f, g, h, rfl⟩ := eight_of h8
  have ha : in12 a := hb 0 (by omega)
  have hbb : in12 b := hb 1 (by omega)
  have hc : in12 c := hb 2 (by omega)
  have hd : in12 d := hb 3 (by omega)
  have he : in12 e := hb 4 (by omega)
  have hf : in12 f := hb 5 (by omega)
  have hg : in12 g := hb 6 (by omega)
  have hh : in12 h := hb 7 (by omega)
  clear hb
  have e3 : lift8F [a, b, c, d, e, f, g, h] = stgF 4 8 (stgF 2 8 (stgF 1 8 [a, b, c, d, e, f, g, h])) := by rw [lift8F, if_pos h8]; rfl
  have p1 := (w12 ha hbb).1.2
  have p2 := (w12 ha hbb).2.2
  have p3 := (w12 hc hd).1.2
  have p4 := (w12 hc hd).2.2
  have p5 := (w12 he hf).1.2
  have p6 := (w12 he hf).2.2
  have p7 := (w12 hg hh).1.2
  have p8 := (w12 hg hh).2.2
  rw [e3, st1_of ha hbb hc hd he hf hg hh, st2_of p1 p2 p3 p4 p5 p6 p7 p8, st4_of (w13 p1 p3).1.2 (w13 p2 p4).1.2 (w13 p1 p3).2.2 (w13 p2 p4).2.2 (w13 p5 p7).1.2 (w13 p6 p8).1.2 (w13 p5 p7).2.2 (w13 p6 p8).2.2]
  clear p1 p2 p3 p4 p5 p6 p7 p8 e3 ha hbb hc hd he hf hg hh h8
  show _ = [0 + 1 * a + 1 * b + 1 * c + 1 * d + 1 * e + 1 * f + 1 * g + 1 * h, 0 + 1 * a + (-1) * b + 1 * c + (-1) * d + 1 * e + (-1) * f + 1 * g + (-1) * h,
    0 + 1 * a + 1 * b + (-1) * c + (-1) * d + 1 * e + 1 * f + (-1) * g + (-1) * h, 0 + 1 * a + (-1) * b + (-1) * c + 1 * d + 1 * e + (-1) * f + (-1) * g + 1 * h,
    0 + 1 * a + 1 * b + 1 * c + 1 * d + (-1) * e + (-1) * f + (-1) * g + (-1) * h, 0 + 1 * a + (-1) * b + 1 * c + (-1) * d + (-1) * e + 1 * f + (-1) * g + 1 * h,
    0 + 1 * a + 1 * b + (-1) * c + (-1) * d + (-1) * e + (-1) * f + 1 * g + 1 * h, 0 + 1 * a + (-1) * b + (-1) * c + 1 * d + (-1) * e + 1 * f + 1 * g + (-1) * h]
  congr 1
  · omega
  congr 1
  · omega
  congr 1
  · omega
  congr 1
  · omega
  congr 1
  · omega
  congr 1
  · omega
  congr 1
  · omega
  congr 1
  omega

theorem sumN_plus (f : Nat → Int) (n k : Nat) : sumN f (n + k) = sumN f n + sumN (fun i => f (n + i)) k := by
  induction k with
  | zero => simp [sumN]
  | succ k ih => rw [← Nat.add_assoc, sumN, ih, sumN]; omega
theorem sumN_split (f : Nat → Int) (n m : Nat) : sumN f (n * m) = sumN (fun r => sumN (fun k => f (r * m + k)) m) n := by
  induction n with
  | zero => simp [sumN]
  | succ n ih => rw [Nat.add_mul, Nat.one_mul, sumN_plus, ih, sumN]
theorem sq_sum (f : Nat → Int) (n : Nat) : sumN f n * sumN f n = sumN (fun i => sumN (fun j => f i * f j) n) n := by
  rw [← sumN_mulr]
  apply sumN_congr
  intro i _
  rw [sumN_mul]
theorem sumN_pick (f : Nat → Int) (n i : Nat) (hi : i < n) : sumN (fun j => if i = j then f j else 0) n = f i := by
  induction n with
  | zero => omega
  | succ n ih =>
    rw [sumN]
    by_cases h : i = n
    · subst h
      have e : sumN (fun j => if i = j then f j else 0) i = 0 := (sumN_congr (g := fun _ => 0) (fun j hj => by rw [if_neg (by omega)])).trans (sumN_zero i)
      rw [e, if_pos rfl]; omega
    · rw [ih (by omega), if_neg h]; omega
theorem energy_row (M : Nat → Nat → Int) (n : Nat) (hM : ∀ i, i < n → ∀ j, j < n → sumN (fun k => M k i * M k j) n = if i = j then (n : Int) else 0) (a : Nat → Int) :
    sumN (fun k => sumN (fun i => a i * M k i) n * sumN (fun i => a i * M k i) n) n = sumN (fun i => a i * a i) n * n := by
  have e1 : (fun k => sumN (fun i => a i * M k i) n * sumN (fun i => a i * M k i) n) = fun k => sumN (fun i => sumN (fun j => (a i * M k i) * (a j * M k j)) n) n := by
    funext k; rw [sq_sum]
  rw [e1, sumN_swap, ← sumN_mulr]
  apply sumN_congr
  intro i hi
  rw [sumN_swap]
  refine Eq.trans (sumN_congr (g := fun j => if i = j then a i * a j * n else 0) fun j hj => ?_) (sumN_pick (fun j => a i * a j * n) n i hi)
  have e2 : (fun k => (a i * M k i) * (a j * M k j)) = fun k => (a i * a j) * (M k i * M k j) := by
    funext k
    rw [Int.mul_assoc, Int.mul_assoc, Int.mul_left_comm (M k i)]
  rw [e2, sumN_mul, hM i hi j hj]
  by_cases h : i = j
  · rw [if_pos h, if_pos h]
  · rw [if_neg h, if_neg h, Int.mul_zero]
theorem rowsH_orth : ∀ i, i < 8 → ∀ j, j < 8 → sumN (fun k => ent rowsH k i * ent rowsH k j) 8 = if i = j then ((8 : Nat) : Int) else 0 := by decide
theorem energy_prod (l : List Int) : sumN (fun t => (prodL (ent rowsH) l 8).getD t 0 * (prodL (ent rowsH) l 8).getD t 0) (8 * 8) = 64 * sumN (fun t => l.getD t 0 * l.getD t 0) (8 * 8) := by
  rw [sumN_split, sumN_split]
  have e1 : ∀ r, r < 8 → sumN (fun k => (prodL (ent rowsH) l 8).getD (r * 8 + k) 0 * (prodL (ent rowsH) l 8).getD (r * 8 + k) 0) 8 = sumN (fun i => halfAt (ent rowsH) l 8 r i * halfAt (ent rowsH) l 8 r i) 8 * (8 : Nat) := by
    intro r hr
    rw [← energy_row (ent rowsH) 8 rowsH_orth]
    apply sumN_congr
    intro k hk
    have e : (prodL (ent rowsH) l 8).getD (r * 8 + k) 0 = sumN (fun i => halfAt (ent rowsH) l 8 r i * ent rowsH k i) 8 := by
      unfold prodL
      rw [tab_getD _ _ _ (by omega), show (r * 8 + k) / 8 = r by omega, show (r * 8 + k) % 8 = k by omega]
      rfl
    rw [e]
  rw [sumN_congr e1, sumN_mulr, sumN_swap]
  have e2 : ∀ i, i < 8 → sumN (fun r => halfAt (ent rowsH) l 8 r i * halfAt (ent rowsH) l 8 r i) 8 = sumN (fun j => l.getD (j * 8 + i) 0 * l.getD (j * 8 + i) 0) 8 * (8 : Nat) := by
    intro i hi
    rw [← energy_row (ent rowsH) 8 rowsH_orth]
    apply sumN_congr
    intro r hr
    have e : halfAt (ent rowsH) l 8 r i = sumN (fun j => l.getD (j * 8 + i) 0 * ent rowsH r j) 8 := by
      unfold halfAt
      apply sumN_congr
      intro j _
      rw [Int.mul_comm]
    rw [e]
  rw [sumN_congr e2, sumN_mulr, sumN_swap]
  omega
theorem prodAt_add (M : Nat → Nat → Int) (a b c : List Int) (n r k : Nat) (hk : k < n) (h : ∀ i, i < n * n → c.getD i 0 = a.getD i 0 + b.getD i 0) :
    prodAt M c n r k = prodAt M a n r k + prodAt M b n r k := by
  have e : ∀ i, i < n → halfAt M c n r i = halfAt M a n r i + halfAt M b n r i := by
    intro i hi
    unfold halfAt
    rw [← sumN_add]
    apply sumN_congr
    intro j hj
    rw [h _ (sq_lt hj hi), Int.mul_add]
  unfold prodAt
  rw [← sumN_add]
  apply sumN_congr
  intro i hi
  rw [e i hi, Int.add_mul]
theorem prodL_add (M : Nat → Nat → Int) (a b c : List Int) (n : Nat) (h : ∀ i, i < n * n → c.getD i 0 = a.getD i 0 + b.getD i 0) (t : Nat) (ht : t < n * n) :
    (prodL M c n).getD t 0 = (prodL M a n).getD t 0 + (prodL M b n).getD t 0 := by
  unfold prodL
  have hn : 0 < n := by
    cases n with
    | zero => simp at ht
    | succ n => omega
  rw [tab_getD _ _ _ ht, tab_getD _ _ _ ht, tab_getD _ _ _ ht]
  exact prodAt_add M a b c n _ _ (Nat.mod_lt _ hn) h
theorem rowsH_one : ∀ j, j < 8 → ent rowsH 0 j = 1 := by decide
theorem prod_first (l : List Int) : (prodL (ent rowsH) l 8).getD 0 0 = sumN (fun t => l.getD t 0) (8 * 8) := by
  have e0 : (prodL (ent rowsH) l 8).getD 0 0 = prodAt (ent rowsH) l 8 0 0 := by
    unfold prodL
    rw [tab_getD _ _ _ (by omega)]
  have e1 : ∀ i, i < 8 → halfAt (ent rowsH) l 8 0 i * ent rowsH 0 i = sumN (fun j => l.getD (j * 8 + i) 0) 8 := by
    intro i hi
    rw [rowsH_one i hi, Int.mul_one]
    unfold halfAt
    apply sumN_congr
    intro j hj
    rw [rowsH_one j hj, Int.one_mul]
  rw [e0]
  unfold prodAt
  rw [sumN_congr e1, sumN_swap, sumN_split]
theorem halfAt_bd {M : Nat → Nat → Int} {l : List Int} {n r k : Nat} {B : Int} (hM : ∀ j, j < n → -2 ≤ M r j ∧ M r j ≤ 2) (hl : ∀ j, j < n → -B ≤ l.getD (j * n + k) 0 ∧ l.getD (j * n + k) 0 ≤ B) (m : Nat) (hm : m ≤ n) :
    -(m * (2 * B)) ≤ sumN (fun i => M r i * l.getD (i * n + k) 0) m ∧ sumN (fun i => M r i * l.getD (i * n + k) 0) m ≤ m * (2 * B) := sumN_bd (fun i hi => mul_bd2 (hM i (by omega)) (hl i (by omega)))
theorem prodL_len (M : Nat → Nat → Int) (l : List Int) (n : Nat) : (prodL M l n).length = n * n := by rw [prodL, tab_len]
def fitsM (n : Nat) (l : List Int) : Bool := decide (l.length = n * n) && allR (-1000000000) 1000000000 l
def prodF (R : List (List Int)) (n : Nat) (l : List Int) : List Int := if fitsM n l = true then prodL (ent R) l n else []
theorem prodF_len (R : List (List Int)) (n : Nat) (l : List Int) (hn : n ≤ 8) : (prodF R n l).length ≤ 64 := by
  unfold prodF
  split
  · rw [prodL_len]; exact Nat.mul_le_mul hn hn
  · simp
end Go.Proofs.Ytchabkkpdafkiaa
