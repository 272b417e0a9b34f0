/- Contract: a matrix times a square times the matrix turned, in memory. -/
import Derived.Test.YtchabkkpdafkiaaMat2
import Derived.StillTailTactics
import Derived.BigRegion
import Derived.Deep.DeepCutAuto
namespace Go.Proofs.Ytchabkkpdafkiaa
open Go.RowKit
set_option linter.unusedVariables false

/-- block p holds the rows of a matrix -/
def MatAt (w : World) (p : Nat) (R : List (List Int)) : Prop :=
  p < w.heap.size ∧ ∀ r, r < R.length → ∃ (q : Option Addr) (c : Nat), w.cell? ⟨p, r, none⟩ = some (.slice q (R.getD r []).length c) ∧ Row w q (R.getD r [])
theorem MatAt.below {w w' : World} {p B : Nat} {R : List (List Int)} (h : MatAt w p R) (hb : Below B w w') (hB : w.heap.size ≤ B) : MatAt w' p R := by
  refine ⟨Nat.lt_of_lt_of_le h.1 hb.size, fun r hr => ?_⟩
  obtain ⟨q, c, h1, h2⟩ := h.2 r hr
  exact ⟨q, c, (hb.cell (p := ⟨p, r, none⟩) (Nat.lt_of_lt_of_le h.1 hB)).trans h1, h2.below hb hB⟩
theorem MatAt.get {w : World} {p n : Nat} {R : List (List Int)} (h : MatAt w p R) (hn : ∀ r, r < R.length → (R.getD r []).length = n) (r i : Nat) (hr : r < R.length) (hi : i < n) :
    ∃ b o c, w.cell? ⟨p, r, none⟩ = some (.slice (some ⟨b, o, none⟩) n c) ∧ b < w.heap.size ∧ w.cell? ⟨b, o + i, none⟩ = some (.int .i64 (ent R r i)) := by
  obtain ⟨q, c, h1, h2⟩ := h.2 r hr
  have hnr := hn r hr
  rw [hnr] at h1
  obtain ⟨b, o, rfl, hb, hc⟩ := h2.inside (by omega)
  exact ⟨b, o, c, h1, hb, hc i (by omega)⟩

/-- the first t places hold f's values, place t holds v, zeros behind -/
def st (f : Nat → Int) (M t : Nat) (v : Int) : List Int := (upd f (List.replicate M 0) t).set t v
def stu (f : Nat → Int) (M t : Nat) : List Int := upd f (List.replicate M 0) t
theorem stu_len (f : Nat → Int) {M t : Nat} (h : t ≤ M) : (stu f M t).length = M := by rw [stu, upd_len _ _ _ (by simpa using h)]; simp
theorem st_len (f : Nat → Int) {M t : Nat} (h : t ≤ M) (v : Int) : (st f M t v).length = M := by rw [st, List.length_set, upd_len _ _ _ (by simpa using h)]; simp
theorem st_zero (f : Nat → Int) {M t : Nat} (h : t < M) : st f M t 0 = stu f M t := by
  unfold st stu
  apply eq_of_take (by simp)
  intro i hi
  simp only [List.getD_eq_getElem?_getD, List.getElem?_set]
  by_cases e : t = i
  · subst e
    have h2 : (upd f (List.replicate M 0) t).getD t 0 = 0 := by rw [upd_getD _ _ _ (by simpa using h)]; simp [List.getD, h]
    simp only [List.getD_eq_getElem?_getD] at h2
    rw [if_pos rfl, if_pos (by simpa using hi), h2]
    rfl
  · rw [if_neg e]
theorem st_done (f : Nat → Int) {M t : Nat} (h : t < M) : st f M t (f t) = stu f M (t + 1) := by
  unfold st stu
  exact upd_set f _ t (by simpa using h)
theorem st_set (f : Nat → Int) (M t : Nat) (v v' : Int) : (st f M t v).set t v' = st f M t v' := by
  unfold st
  rw [List.set_set]
theorem st_get (f : Nat → Int) {M t : Nat} (h : t < M) (v : Int) : (st f M t v).getD t 0 = v := by
  have := st_len f (Nat.le_of_lt h) v
  unfold st at this ⊢
  rw [List.length_set] at this
  simp [List.getD, this, h]
theorem stu_all (f : Nat → Int) (M : Nat) : stu f M M = tab f M := by
  have := upd_all f (List.replicate M 0)
  simpa [stu] using this
theorem stu_zero (f : Nat → Int) (M : Nat) : stu f M 0 = List.replicate M 0 := upd_zero _ _

/-- both squares of a product in the making -/
def Two (w : World) (h o M : Nat) (x y : List Int) (wr : World) : Prop :=
  h ≠ o ∧ Own w.heap.size wr (some ⟨h, 0, none⟩) M x ∧ Own w.heap.size wr (some ⟨o, 0, none⟩) M y ∧ Below w.heap.size w wr
theorem Two.drew {w wr : World} {h o M : Nat} {x y : List Int} (T : Two w h o M x y wr) : Two w h o M x y wr.drew := ⟨T.1, T.2.1.drew, T.2.2.1.drew, T.2.2.2.drew⟩
theorem Two.set1 {w wr : World} {h o M : Nat} {x y : List Int} (T : Two w h o M x y wr) (i : Nat) (v : Int) : Two w h o M (x.set i v) y (wr.setCell ⟨h, i, none⟩ (.int .i64 v)) := by
  obtain ⟨T1, T2, T3, T4⟩ := T
  refine ⟨T1, T2.stored i v, T3.grown (World.ownsRow.stored T2 i _).2 (fun p q hp hq => by cases hp; cases hq; exact fun e => T1 e.symm), T4.setCell (p := ⟨h, i, none⟩) ?_ _⟩
  have := (T2.lt _ rfl).1
  exact this
theorem Two.set2 {w wr : World} {h o M : Nat} {x y : List Int} (T : Two w h o M x y wr) (i : Nat) (v : Int) : Two w h o M x (y.set i v) (wr.setCell ⟨o, i, none⟩ (.int .i64 v)) := by
  obtain ⟨T1, T2, T3, T4⟩ := T
  refine ⟨T1, T2.grown (World.ownsRow.stored T3 i _).2 (fun p q hp hq => by cases hp; cases hq; exact fun e => T1 e), T3.stored i v, T4.setCell (p := ⟨o, i, none⟩) ?_ _⟩
  have := (T3.lt _ rfl).1
  exact this
theorem Own.zeros {B : Nat} (w : World) (n : Nat) (hB : B ≤ w.heap.size) (hn : n ≤ 1024) : Own B (w.alloc (.cells (madeCells (Value.int .i64 0).cells n) 3)) (some ⟨w.heap.size, 0, none⟩) n (List.replicate n 0) := by
  have e := map_madeCells n
  rw [Nat.mul_one] at e
  have h := Own.lit (B := B) w (madeCells (Value.int .i64 0).cells n) (List.replicate n 0) e hB (by simp [maxLen]; omega)
  rw [List.length_replicate] at h
  exact h

theorem Two.start1 (w : World) (n : Nat) (hn : n ≤ 1024) : Two w w.heap.size (w.heap.size + 1) n (List.replicate n 0) (List.replicate n 0) ((w.alloc (.cells (madeCells (Value.int .i64 0).cells n) 3)).alloc (.cells (madeCells (Value.int .i64 0).cells n) 3)).drew := by
  refine ⟨by omega, ((Own.zeros w n (Nat.le_refl _) hn).alloc _).drew, ?_, (((Below.refl w.heap.size w).alloc (Nat.le_refl _) _).alloc (by simp) _).drew⟩
  have h := Own.zeros (B := w.heap.size) (w.alloc (.cells (madeCells (Value.int .i64 0).cells n) 3)) n (by simp) hn
  have e : (w.alloc (.cells (madeCells (Value.int .i64 0).cells n) 3)).heap.size = w.heap.size + 1 := by simp
  rw [e] at h
  exact h.drew
theorem Two.start2 (w : World) (n : Nat) (hn : n ≤ 1024) : Two w (w.heap.size + 1) w.heap.size n (List.replicate n 0) (List.replicate n 0) ((w.alloc (.cells (madeCells (Value.int .i64 0).cells n) 3)).alloc (.cells (madeCells (Value.int .i64 0).cells n) 3)).drew := by
  obtain ⟨h1, h2, h3, h4⟩ := Two.start1 w n hn
  exact ⟨fun e => h1 e.symm, h3, h2, h4⟩


set_option maxRecDepth 100000 in
set_option maxHeartbeats 4000000 in
theorem impl.product_4 (R : List (List Int)) (p c : Nat) (a : Option Addr) (c2 : Nat) (l : List Int) (w : World) (hR : R.length = 4) (hrow : ∀ r, r < R.length → (R.getD r []).length = 4) (hent : ∀ r, r < 4 → ∀ k, k < 4 → -2 ≤ ent R r k ∧ ent R r k ≤ 2)
    (hl : l.length = 16) (hall : allR (-1000000000) 1000000000 l = true) (hr : Row w a l) (hM : MatAt w p R) :
    Calls Try.prog 32 #[.slice (some ⟨p, 0, none⟩) 4 c, .slice a 16 c2] w fun e w' => ∃ b d, e = .returned (.slice b 16 d) ∧ Own w.heap.size w' b d (prodL (ent R) l 4) ∧ Below w.heap.size w w' := by
  have hmk : ∀ w : World, (Instr.makeSlice 22 (.int .i64 16) (.int .i64 16)).run Try.prog w = .ok (.slice (some ⟨w.heap.size, 0, none⟩) 16 16) (w.alloc (.cells (madeCells (Value.int .i64 0).cells 16) 3)) := fun _ => by kernel_rfl
  have HLB : Hid (∀ i, i < l.length → -1000000000 ≤ l.getD i 0 ∧ l.getD i 0 ≤ 1000000000) := Lib.hid (fun i h => allR_at hall h)
  have hAW := impl.allWithin_c a c2 l (-1000000000) 1000000000 w (by omega) hr
  rw [hall, hl] at hAW
  have HAW := Lib.hid hAW
  obtain ⟨b, off, rfl, hbk, hc⟩ := hr.inside (by omega)
  rw [hl] at hc HLB
  have HC := Lib.hid hc
  have HE := Lib.hid hent
  have HMG : Hid (∀ r i, r < 4 → i < 4 → ∃ b o c, w.cell? ⟨p, r, none⟩ = some (.slice (some ⟨b, o, none⟩) 4 c) ∧ b < w.heap.size ∧ w.cell? ⟨b, o + i, none⟩ = some (.int .i64 (ent R r i))) := Lib.hid (fun r i h1 h2 => hM.get hrow r i (by omega) h2)
  have hpw := hM.1
  obtain ⟨f, hf⟩ : ∃ f : Nat → Int, f = fun j => halfAt (ent R) l 4 (j / 4) (j % 4) := ⟨_, rfl⟩
  have HF : Hid (∀ r k, k < 4 → f (r * 4 + k) = sumN (fun i => ent R r i * l.getD (i * 4 + k) 0) 4) := Lib.hid (fun r k h => by rw [hf]; show halfAt (ent R) l 4 ((r * 4 + k) / 4) ((r * 4 + k) % 4) = _; rw [show (r * 4 + k) / 4 = r by omega, show (r * 4 + k) % 4 = k by omega]; rfl)
  obtain ⟨f2, hf2⟩ : ∃ f2 : Nat → Int, f2 = fun j => prodAt (ent R) l 4 (j / 4) (j % 4) := ⟨_, rfl⟩
  have HF2 : Hid (∀ r k, k < 4 → f2 (r * 4 + k) = sumN (fun i => f (r * 4 + i) * ent R k i) 4) := Lib.hid (fun r k h => by
    rw [hf2]
    show prodAt (ent R) l 4 ((r * 4 + k) / 4) ((r * 4 + k) % 4) = _
    rw [show (r * 4 + k) / 4 = r by omega, show (r * 4 + k) % 4 = k by omega]
    unfold prodAt
    apply sumN_congr
    intro i hi
    rw [HF.out r i hi]
    rfl)
  have HEND : Hid (prodL (ent R) l 4 = tab f2 16) := Lib.hid (by rw [hf2]; rfl)
  have HB : Hid (∀ r k, r < 4 → k < 4 → ∀ m, m ≤ 4 → -(m * (2 * 1000000000)) ≤ sumN (fun i => ent R r i * l.getD (i * 4 + k) 0) m ∧ sumN (fun i => ent R r i * l.getD (i * 4 + k) 0) m ≤ m * (2 * 1000000000)) := Lib.hid (fun r k h1 h2 m hm => halfAt_bd (n := 4) (fun j hj => hent r h1 j hj) (fun j hj => HLB.out _ (by omega)) m hm)
  have HB1 : Hid (∀ r i, r < 4 → i < 4 → -16000000000 ≤ f (r * 4 + i) ∧ f (r * 4 + i) ≤ 16000000000) := Lib.hid (fun r i h1 h2 => by rw [HF.out r i h2]; have := HB.out r i h1 h2 4 (Nat.le_refl _); omega)
  have HB2 : Hid (∀ r k, r < 4 → k < 4 → ∀ m, m ≤ 4 → -(m * (2 * 16000000000)) ≤ sumN (fun i => f (r * 4 + i) * ent R k i) m ∧ sumN (fun i => f (r * 4 + i) * ent R k i) m ≤ m * (2 * 16000000000)) := Lib.hid (fun r k h1 h2 m hm => sumN_bd (fun i hi => by rw [Int.mul_comm (f (r * 4 + i))]; exact mul_bd2 (hent k h2 i (by omega)) (HB1.out r i h1 (by omega))))
  rw [HEND.out]
  clear hr hall hAW hc hent hM hrow hf hf2 HEND
  go_enter Try.func32, Try.ntmps32
  go_wp2_with (go_at_call 46; refine HAW.out.mono ?_; rintro e w' ⟨rfl, rfl⟩)
  clear HAW
  go_cut [6, 7] (fun s6 s7 wx => ∃ h o : Nat, s6 = .slice (some ⟨h, 0, none⟩) 16 16 ∧ s7 = .slice (some ⟨o, 0, none⟩) 16 16 ∧ Two w h o 16 (stu f 16 0) (stu f2 16 0) wx)
  case first =>
    clear HLB HC HE HMG HF HF2 HB HB1 HB2
    go_region
    all_goals
      go_wp2_with fail
      go_meet
      rw [stu_zero, stu_zero]
      first
        | exact ⟨_, _, rfl, rfl, Two.start1 w 16 (by omega)⟩
        | exact ⟨_, _, rfl, rfl, Two.start2 w 16 (by omega)⟩
  case rest =>
    obtain ⟨h, o, rfl, rfl, T0⟩ := hcut
    clear hmk
    have HT := Lib.hid T0
    clear T0
    go_wp2_with fail
    go_loopw [36] (fun i wr => ∃ r : Nat, r ≤ 4 ∧ i = .int .i64 r ∧ Two w h o 16 (stu f 16 (r * 4)) (stu f2 16 0) wr) (fun i _ => 4 - (intOf i).toNat)
    case atStart => exact ⟨0, Nat.zero_le _, rfl, HT.out⟩
    case round =>
      clear HT
      obtain ⟨r, hr, rfl, T⟩ := hrel
      have HT := Lib.hid T
      clear T
      by_cases hlt : r < 4
      · have hltd : decide ((r : Int) < 4) = true := by simp; omega
        obtain ⟨rn, hrn⟩ : ∃ rn, rn = r * 4 := ⟨_, rfl⟩
        have e1 : IntKind.i64.wrap ((r : Int) * 4) = (rn : Int) := by rw [IntWalk.i64_in _ (by omega)]; omega
        have HRN := Lib.hid hrn
        rw [← hrn] at HT
        have hrb : rn + 4 ≤ 16 := by omega
        clear hrn
        go_wp2_with fail
        obtain ⟨wz, hwz⟩ : ∃ wz : World, wz = wr := ⟨_, rfl⟩
        rw [← hwz] at HT ⊢
        clear hwz
        go_loopw [40] (fun i wr => ∃ k : Nat, k ≤ 4 ∧ i = .int .i64 k ∧ Two w h o 16 (stu f 16 (rn + k)) (stu f2 16 0) wr) (fun i _ => 4 - (intOf i).toNat)
        case atStart => exact ⟨0, Nat.zero_le _, rfl, HT.out⟩
        case round =>
          clear HT
          obtain ⟨k, hk, rfl, T⟩ := hrel
          have HT := Lib.hid T
          clear T
          by_cases hlt2 : k < 4
          · have hltd2 : decide ((k : Int) < 4) = true := by simp; omega
            obtain ⟨t, ht⟩ : ∃ t, t = rn + k := ⟨_, rfl⟩
            have e2 : IntKind.i64.wrap ((rn : Int) + (k : Int)) = (t : Int) := by rw [IntWalk.i64_in _ (by omega)]; omega
            rw [← ht, ← st_zero f (t := t) (by omega)] at HT
            have HTT := Lib.hid ht
            have htM : t < 16 := by omega
            clear ht
            go_wp2_with fail
            obtain ⟨wz, hwz⟩ : ∃ wz : World, wz = wr := ⟨_, rfl⟩
            rw [← hwz] at HT ⊢
            clear hwz
            go_loopw [44] (fun i wr => ∃ j : Nat, j ≤ 4 ∧ i = .int .i64 j ∧ Two w h o 16 (st f 16 t (sumN (fun i => ent R r i * l.getD (i * 4 + k) 0) j)) (stu f2 16 0) wr) (fun i _ => 4 - (intOf i).toNat)
            case atStart => exact ⟨0, Nat.zero_le _, rfl, HT.out⟩
            case round =>
              clear HT
              obtain ⟨i, hi, rfl, T⟩ := hrel
              by_cases hlt3 : i < 4
              · obtain ⟨mb, mo, mc, m1, m2, m3⟩ := HMG.out r i hlt hlt3
                have m1' := (bcell T.2.2.2 p r hpw).trans m1
                have m3' := (bcell T.2.2.2 mb (mo + i) m2).trans m3
                obtain ⟨s, hs⟩ : ∃ s, s = i * 4 := ⟨_, rfl⟩
                obtain ⟨j, hj⟩ : ∃ j, j = s + k := ⟨_, rfl⟩
                have e3 : IntKind.i64.wrap ((i : Int) * 4) = (s : Int) := by rw [IntWalk.i64_in _ (by omega)]; omega
                have e4 : IntKind.i64.wrap ((s : Int) + (k : Int)) = (j : Int) := by rw [IntWalk.i64_in _ (by omega)]; omega
                have hjM : j < 16 := by omega
                have c1 := (bcell T.2.2.2 b (off + j) hbk).trans (HC.out j hjM)
                have c2 := T.2.1.cellAt (i := t) (by rw [st_len _ (by omega)]; omega)
                rw [st_get _ htM] at c2
                have fz := T.2.1.frozenAt t
                obtain ⟨x, hx⟩ : ∃ x, x = ent R r i := ⟨_, rfl⟩
                obtain ⟨y, hy⟩ : ∃ y, y = l.getD j 0 := ⟨_, rfl⟩
                obtain ⟨v, hv⟩ : ∃ v, v = sumN (fun i => ent R r i * l.getD (i * 4 + k) 0) i := ⟨_, rfl⟩
                have bx := HE.out r hlt i hlt3
                have bY := HLB.out j (by omega)
                have bv := HB.out r k hlt hlt2 i (by omega)
                rw [← hx] at m3' bx
                rw [← hy] at c1 bY
                rw [← hv] at c2 bv
                have bz := mul_bd2 bx bY
                have HS : Hid (sumN (fun i => ent R r i * l.getD (i * 4 + k) 0) (i + 1) = v + x * y) := Lib.hid (by rw [sumN, ← hv, ← hx, ← hs, ← hj, ← hy])
                obtain ⟨z, hz⟩ : ∃ z, z = x * y := ⟨_, rfl⟩
                rw [← hz] at HS bz
                have e5 : IntKind.i64.wrap (x * y) = z := by rw [← hz]; exact IntWalk.i64_in _ (by omega)
                have e6 : IntKind.i64.wrap (v + z) = v + z := IntWalk.i64_in _ (by omega)
                have T2 := T.set1 t (v + z)
                rw [st_set, ← HS.out] at T2
                rw [HS.out] at T2
                have HN := Lib.hid T2
                have z1 : (t : Int) < 16 := by omega
                have z2 : (j : Int) < 16 := by omega
                have z3 : (i : Int) < 4 := by omega
                have z4 : (r : Int) < 4 := by omega
                have z5 : (k : Int) < 4 := by omega
                clear T T2 m1 m3 hs hj hx hy hv hz bx bY bv bz
                go_wp2_with fail
                go_still_tail 26, (by kernel_rfl)
                change wpList _ _ _ _ _ wr.drew
                go_wp2
                go_roundw
                case rel => exact ⟨i + 1, by omega, by go_num, by rw [HS.out]; exact HN.out.drew⟩
                case measure => simp [intOf]; omega
              · obtain rfl : i = 4 := by omega
                have HE2 : Hid (sumN (fun i => ent R r i * l.getD (i * 4 + k) 0) 4 = f t) := Lib.hid (by rw [HTT.out, HRN.out, HF.out r k hlt2])
                rw [HE2.out, st_done _ htM] at T
                have HT := Lib.hid T
                clear T
                go_wp2_with fail
                go_roundw
                case rel => exact ⟨k + 1, by omega, by go_num, by rw [← Nat.add_assoc, ← HTT.out]; exact HT.out⟩
                case measure => simp [intOf]; omega
          · obtain rfl : k = 4 := by omega
            go_wp2_with fail
            go_roundw
            case rel => exact ⟨r + 1, by omega, by go_num, by rw [show (r + 1) * 4 = rn + 4 from by rw [HRN.out]; omega]; exact HT.out⟩
            case measure => simp [intOf]; omega
      · have hrN : r = 4 := by omega
        have hltd : decide ((r : Int) < 4) = false := by simp; omega
        rw [hrN, show 4 * 4 = 16 from rfl] at HT
        clear hr hlt
        clear hrN
        go_wp2_with fail
        obtain ⟨wz, hwz⟩ : ∃ wz : World, wz = wr := ⟨_, rfl⟩
        rw [← hwz] at HT ⊢
        clear hwz
        go_loopw [77] (fun i wr => ∃ r : Nat, r ≤ 4 ∧ i = .int .i64 r ∧ Two w h o 16 (stu f 16 16) (stu f2 16 (r * 4)) wr) (fun i _ => 4 - (intOf i).toNat)
        case atStart => exact ⟨0, Nat.zero_le _, rfl, HT.out⟩
        case round =>
          clear HT
          obtain ⟨r, hr, rfl, T⟩ := hrel
          have HT := Lib.hid T
          clear T
          by_cases hlt : r < 4
          · have hltd : decide ((r : Int) < 4) = true := by simp; omega
            obtain ⟨rn, hrn⟩ : ∃ rn, rn = r * 4 := ⟨_, rfl⟩
            have e1 : IntKind.i64.wrap ((r : Int) * 4) = (rn : Int) := by rw [IntWalk.i64_in _ (by omega)]; omega
            have HRN := Lib.hid hrn
            rw [← hrn] at HT
            have hrb : rn + 4 ≤ 16 := by omega
            clear hrn
            go_wp2_with fail
            obtain ⟨wz, hwz⟩ : ∃ wz : World, wz = wr := ⟨_, rfl⟩
            rw [← hwz] at HT ⊢
            clear hwz
            go_loopw [81] (fun i wr => ∃ k : Nat, k ≤ 4 ∧ i = .int .i64 k ∧ Two w h o 16 (stu f 16 16) (stu f2 16 (rn + k)) wr) (fun i _ => 4 - (intOf i).toNat)
            case atStart => exact ⟨0, Nat.zero_le _, rfl, HT.out⟩
            case round =>
              clear HT
              obtain ⟨k, hk, rfl, T⟩ := hrel
              have HT := Lib.hid T
              clear T
              by_cases hlt2 : k < 4
              · have hltd2 : decide ((k : Int) < 4) = true := by simp; omega
                obtain ⟨t, ht⟩ : ∃ t, t = rn + k := ⟨_, rfl⟩
                have e2 : IntKind.i64.wrap ((rn : Int) + (k : Int)) = (t : Int) := by rw [IntWalk.i64_in _ (by omega)]; omega
                rw [← ht, ← st_zero f2 (t := t) (by omega)] at HT
                have HTT := Lib.hid ht
                have htM : t < 16 := by omega
                clear ht
                go_wp2_with fail
                obtain ⟨wz, hwz⟩ : ∃ wz : World, wz = wr := ⟨_, rfl⟩
                rw [← hwz] at HT ⊢
                clear hwz
                go_loopw [85] (fun i wr => ∃ j : Nat, j ≤ 4 ∧ i = .int .i64 j ∧ Two w h o 16 (stu f 16 16) (st f2 16 t (sumN (fun i => f (r * 4 + i) * ent R k i) j)) wr) (fun i _ => 4 - (intOf i).toNat)
                case atStart => exact ⟨0, Nat.zero_le _, rfl, HT.out⟩
                case round =>
                  clear HT
                  obtain ⟨i, hi, rfl, T⟩ := hrel
                  by_cases hlt3 : i < 4
                  · obtain ⟨mb, mo, mc, m1, m2, m3⟩ := HMG.out k i hlt2 hlt3
                    have m1' := (bcell T.2.2.2 p k hpw).trans m1
                    have m3' := (bcell T.2.2.2 mb (mo + i) m2).trans m3
                    obtain ⟨j, hj⟩ : ∃ j, j = rn + i := ⟨_, rfl⟩
                    have e4 : IntKind.i64.wrap ((rn : Int) + (i : Int)) = (j : Int) := by rw [IntWalk.i64_in _ (by omega)]; omega
                    have hjM : j < 16 := by omega
                    have c1 := T.2.1.cellAt (i := j) (by rw [stu_len _ (by omega)]; omega)
                    rw [stu_all, tab_getD _ _ _ hjM] at c1
                    have c2 := T.2.2.1.cellAt (i := t) (by rw [st_len _ (by omega)]; omega)
                    rw [st_get _ htM] at c2
                    have fz := T.2.2.1.frozenAt t
                    obtain ⟨x, hx⟩ : ∃ x, x = ent R k i := ⟨_, rfl⟩
                    obtain ⟨y, hy⟩ : ∃ y, y = f j := ⟨_, rfl⟩
                    obtain ⟨v, hv⟩ : ∃ v, v = sumN (fun i => f (r * 4 + i) * ent R k i) i := ⟨_, rfl⟩
                    have bx := HE.out k hlt2 i hlt3
                    have bY := HB1.out r i hlt hlt3
                    rw [← HRN.out, ← hj] at bY
                    have bv := HB2.out r k hlt hlt2 i (by omega)
                    rw [← hx] at m3' bx
                    rw [← hy] at c1 bY
                    rw [← hv] at c2 bv
                    have bz := mul_bd2 bx bY
                    rw [Int.mul_comm x y] at bz
                    have HS : Hid (sumN (fun i => f (r * 4 + i) * ent R k i) (i + 1) = v + y * x) := Lib.hid (by rw [sumN, ← hv, ← hx, ← HRN.out, ← hj, ← hy])
                    obtain ⟨z, hz⟩ : ∃ z, z = y * x := ⟨_, rfl⟩
                    rw [← hz] at HS bz
                    have e5 : IntKind.i64.wrap (y * x) = z := by rw [← hz]; exact IntWalk.i64_in _ (by omega)
                    have e6 : IntKind.i64.wrap (v + z) = v + z := IntWalk.i64_in _ (by omega)
                    have T2 := T.set2 t (v + z)
                    rw [st_set] at T2
                    have HN := Lib.hid T2
                    have z1 : (t : Int) < 16 := by omega
                    have z2 : (j : Int) < 16 := by omega
                    have z3 : (i : Int) < 4 := by omega
                    have z4 : (r : Int) < 4 := by omega
                    have z5 : (k : Int) < 4 := by omega
                    clear T T2 m1 m3 hj hx hy hv hz bx bY bv bz
                    go_wp2_with fail
                    go_still_tail 26, (by kernel_rfl)
                    change wpList _ _ _ _ _ wr.drew
                    go_wp2
                    go_roundw
                    case rel => exact ⟨i + 1, by omega, by go_num, by rw [HS.out]; exact HN.out.drew⟩
                    case measure => simp [intOf]; omega
                  · obtain rfl : i = 4 := by omega
                    have HE2 : Hid (sumN (fun i => f (r * 4 + i) * ent R k i) 4 = f2 t) := Lib.hid (by rw [HTT.out, HRN.out, HF2.out r k hlt2])
                    rw [HE2.out, st_done _ htM] at T
                    have HT := Lib.hid T
                    clear T
                    go_wp2_with fail
                    go_roundw
                    case rel => exact ⟨k + 1, by omega, by go_num, by rw [← Nat.add_assoc, ← HTT.out]; exact HT.out⟩
                    case measure => simp [intOf]; omega
              · obtain rfl : k = 4 := by omega
                go_wp2_with fail
                go_roundw
                case rel => exact ⟨r + 1, by omega, by go_num, by rw [show (r + 1) * 4 = rn + 4 from by rw [HRN.out]; omega]; exact HT.out⟩
                case measure => simp [intOf]; omega
          · have hrN : r = 4 := by omega
            have hltd : decide ((r : Int) < 4) = false := by simp; omega
            rw [hrN, show 4 * 4 = 16 from rfl] at HT
            clear hr hlt
            rw [stu_all f2] at HT
            go_wp2
            go_ret
            exact ⟨_, _, rfl, HT.out.2.2.1, HT.out.2.2.2⟩
set_option maxRecDepth 100000 in
set_option maxHeartbeats 4000000 in
theorem impl.product_8 (R : List (List Int)) (p c : Nat) (a : Option Addr) (c2 : Nat) (l : List Int) (w : World) (hR : R.length = 8) (hrow : ∀ r, r < R.length → (R.getD r []).length = 8) (hent : ∀ r, r < 8 → ∀ k, k < 8 → -2 ≤ ent R r k ∧ ent R r k ≤ 2)
    (hl : l.length = 64) (hall : allR (-1000000000) 1000000000 l = true) (hr : Row w a l) (hM : MatAt w p R) :
    Calls Try.prog 32 #[.slice (some ⟨p, 0, none⟩) 8 c, .slice a 64 c2] w fun e w' => ∃ b d, e = .returned (.slice b 64 d) ∧ Own w.heap.size w' b d (prodL (ent R) l 8) ∧ Below w.heap.size w w' := by
  have hmk : ∀ w : World, (Instr.makeSlice 22 (.int .i64 64) (.int .i64 64)).run Try.prog w = .ok (.slice (some ⟨w.heap.size, 0, none⟩) 64 64) (w.alloc (.cells (madeCells (Value.int .i64 0).cells 64) 3)) := fun _ => by kernel_rfl
  have HLB : Hid (∀ i, i < l.length → -1000000000 ≤ l.getD i 0 ∧ l.getD i 0 ≤ 1000000000) := Lib.hid (fun i h => allR_at hall h)
  have hAW := impl.allWithin_c a c2 l (-1000000000) 1000000000 w (by omega) hr
  rw [hall, hl] at hAW
  have HAW := Lib.hid hAW
  obtain ⟨b, off, rfl, hbk, hc⟩ := hr.inside (by omega)
  rw [hl] at hc HLB
  have HC := Lib.hid hc
  have HE := Lib.hid hent
  have HMG : Hid (∀ r i, r < 8 → i < 8 → ∃ b o c, w.cell? ⟨p, r, none⟩ = some (.slice (some ⟨b, o, none⟩) 8 c) ∧ b < w.heap.size ∧ w.cell? ⟨b, o + i, none⟩ = some (.int .i64 (ent R r i))) := Lib.hid (fun r i h1 h2 => hM.get hrow r i (by omega) h2)
  have hpw := hM.1
  obtain ⟨f, hf⟩ : ∃ f : Nat → Int, f = fun j => halfAt (ent R) l 8 (j / 8) (j % 8) := ⟨_, rfl⟩
  have HF : Hid (∀ r k, k < 8 → f (r * 8 + k) = sumN (fun i => ent R r i * l.getD (i * 8 + k) 0) 8) := Lib.hid (fun r k h => by rw [hf]; show halfAt (ent R) l 8 ((r * 8 + k) / 8) ((r * 8 + k) % 8) = _; rw [show (r * 8 + k) / 8 = r by omega, show (r * 8 + k) % 8 = k by omega]; rfl)
  obtain ⟨f2, hf2⟩ : ∃ f2 : Nat → Int, f2 = fun j => prodAt (ent R) l 8 (j / 8) (j % 8) := ⟨_, rfl⟩
  have HF2 : Hid (∀ r k, k < 8 → f2 (r * 8 + k) = sumN (fun i => f (r * 8 + i) * ent R k i) 8) := Lib.hid (fun r k h => by
    rw [hf2]
    show prodAt (ent R) l 8 ((r * 8 + k) / 8) ((r * 8 + k) % 8) = _
    rw [show (r * 8 + k) / 8 = r by omega, show (r * 8 + k) % 8 = k by omega]
    unfold prodAt
    apply sumN_congr
    intro i hi
    rw [HF.out r i hi]
    rfl)
  have HEND : Hid (prodL (ent R) l 8 = tab f2 64) := Lib.hid (by rw [hf2]; rfl)
  have HB : Hid (∀ r k, r < 8 → k < 8 → ∀ m, m ≤ 8 → -(m * (2 * 1000000000)) ≤ sumN (fun i => ent R r i * l.getD (i * 8 + k) 0) m ∧ sumN (fun i => ent R r i * l.getD (i * 8 + k) 0) m ≤ m * (2 * 1000000000)) := Lib.hid (fun r k h1 h2 m hm => halfAt_bd (n := 8) (fun j hj => hent r h1 j hj) (fun j hj => HLB.out _ (by omega)) m hm)
  have HB1 : Hid (∀ r i, r < 8 → i < 8 → -16000000000 ≤ f (r * 8 + i) ∧ f (r * 8 + i) ≤ 16000000000) := Lib.hid (fun r i h1 h2 => by rw [HF.out r i h2]; have := HB.out r i h1 h2 8 (Nat.le_refl _); omega)
  have HB2 : Hid (∀ r k, r < 8 → k < 8 → ∀ m, m ≤ 8 → -(m * (2 * 16000000000)) ≤ sumN (fun i => f (r * 8 + i) * ent R k i) m ∧ sumN (fun i => f (r * 8 + i) * ent R k i) m ≤ m * (2 * 16000000000)) := Lib.hid (fun r k h1 h2 m hm => sumN_bd (fun i hi => by rw [Int.mul_comm (f (r * 8 + i))]; exact mul_bd2 (hent k h2 i (by omega)) (HB1.out r i h1 (by omega))))
  rw [HEND.out]
  clear hr hall hAW hc hent hM hrow hf hf2 HEND
  go_enter Try.func32, Try.ntmps32
  go_wp2_with (go_at_call 46; refine HAW.out.mono ?_; rintro e w' ⟨rfl, rfl⟩)
  clear HAW
  go_cut [6, 7] (fun s6 s7 wx => ∃ h o : Nat, s6 = .slice (some ⟨h, 0, none⟩) 64 64 ∧ s7 = .slice (some ⟨o, 0, none⟩) 64 64 ∧ Two w h o 64 (stu f 64 0) (stu f2 64 0) wx)
  case first =>
    clear HLB HC HE HMG HF HF2 HB HB1 HB2
    go_region
    all_goals
      go_wp2_with fail
      go_meet
      rw [stu_zero, stu_zero]
      first
        | exact ⟨_, _, rfl, rfl, Two.start1 w 64 (by omega)⟩
        | exact ⟨_, _, rfl, rfl, Two.start2 w 64 (by omega)⟩
  case rest =>
    obtain ⟨h, o, rfl, rfl, T0⟩ := hcut
    clear hmk
    have HT := Lib.hid T0
    clear T0
    go_wp2_with fail
    go_loopw [36] (fun i wr => ∃ r : Nat, r ≤ 8 ∧ i = .int .i64 r ∧ Two w h o 64 (stu f 64 (r * 8)) (stu f2 64 0) wr) (fun i _ => 8 - (intOf i).toNat)
    case atStart => exact ⟨0, Nat.zero_le _, rfl, HT.out⟩
    case round =>
      clear HT
      obtain ⟨r, hr, rfl, T⟩ := hrel
      have HT := Lib.hid T
      clear T
      by_cases hlt : r < 8
      · have hltd : decide ((r : Int) < 8) = true := by simp; omega
        obtain ⟨rn, hrn⟩ : ∃ rn, rn = r * 8 := ⟨_, rfl⟩
        have e1 : IntKind.i64.wrap ((r : Int) * 8) = (rn : Int) := by rw [IntWalk.i64_in _ (by omega)]; omega
        have HRN := Lib.hid hrn
        rw [← hrn] at HT
        have hrb : rn + 8 ≤ 64 := by omega
        clear hrn
        go_wp2_with fail
        obtain ⟨wz, hwz⟩ : ∃ wz : World, wz = wr := ⟨_, rfl⟩
        rw [← hwz] at HT ⊢
        clear hwz
        go_loopw [40] (fun i wr => ∃ k : Nat, k ≤ 8 ∧ i = .int .i64 k ∧ Two w h o 64 (stu f 64 (rn + k)) (stu f2 64 0) wr) (fun i _ => 8 - (intOf i).toNat)
        case atStart => exact ⟨0, Nat.zero_le _, rfl, HT.out⟩
        case round =>
          clear HT
          obtain ⟨k, hk, rfl, T⟩ := hrel
          have HT := Lib.hid T
          clear T
          by_cases hlt2 : k < 8
          · have hltd2 : decide ((k : Int) < 8) = true := by simp; omega
            obtain ⟨t, ht⟩ : ∃ t, t = rn + k := ⟨_, rfl⟩
            have e2 : IntKind.i64.wrap ((rn : Int) + (k : Int)) = (t : Int) := by rw [IntWalk.i64_in _ (by omega)]; omega
            rw [← ht, ← st_zero f (t := t) (by omega)] at HT
            have HTT := Lib.hid ht
            have htM : t < 64 := by omega
            clear ht
            go_wp2_with fail
            obtain ⟨wz, hwz⟩ : ∃ wz : World, wz = wr := ⟨_, rfl⟩
            rw [← hwz] at HT ⊢
            clear hwz
            go_loopw [44] (fun i wr => ∃ j : Nat, j ≤ 8 ∧ i = .int .i64 j ∧ Two w h o 64 (st f 64 t (sumN (fun i => ent R r i * l.getD (i * 8 + k) 0) j)) (stu f2 64 0) wr) (fun i _ => 8 - (intOf i).toNat)
            case atStart => exact ⟨0, Nat.zero_le _, rfl, HT.out⟩
            case round =>
              clear HT
              obtain ⟨i, hi, rfl, T⟩ := hrel
              by_cases hlt3 : i < 8
              · obtain ⟨mb, mo, mc, m1, m2, m3⟩ := HMG.out r i hlt hlt3
                have m1' := (bcell T.2.2.2 p r hpw).trans m1
                have m3' := (bcell T.2.2.2 mb (mo + i) m2).trans m3
                obtain ⟨s, hs⟩ : ∃ s, s = i * 8 := ⟨_, rfl⟩
                obtain ⟨j, hj⟩ : ∃ j, j = s + k := ⟨_, rfl⟩
                have e3 : IntKind.i64.wrap ((i : Int) * 8) = (s : Int) := by rw [IntWalk.i64_in _ (by omega)]; omega
                have e4 : IntKind.i64.wrap ((s : Int) + (k : Int)) = (j : Int) := by rw [IntWalk.i64_in _ (by omega)]; omega
                have hjM : j < 64 := by omega
                have c1 := (bcell T.2.2.2 b (off + j) hbk).trans (HC.out j hjM)
                have c2 := T.2.1.cellAt (i := t) (by rw [st_len _ (by omega)]; omega)
                rw [st_get _ htM] at c2
                have fz := T.2.1.frozenAt t
                obtain ⟨x, hx⟩ : ∃ x, x = ent R r i := ⟨_, rfl⟩
                obtain ⟨y, hy⟩ : ∃ y, y = l.getD j 0 := ⟨_, rfl⟩
                obtain ⟨v, hv⟩ : ∃ v, v = sumN (fun i => ent R r i * l.getD (i * 8 + k) 0) i := ⟨_, rfl⟩
                have bx := HE.out r hlt i hlt3
                have bY := HLB.out j (by omega)
                have bv := HB.out r k hlt hlt2 i (by omega)
                rw [← hx] at m3' bx
                rw [← hy] at c1 bY
                rw [← hv] at c2 bv
                have bz := mul_bd2 bx bY
                have HS : Hid (sumN (fun i => ent R r i * l.getD (i * 8 + k) 0) (i + 1) = v + x * y) := Lib.hid (by rw [sumN, ← hv, ← hx, ← hs, ← hj, ← hy])
                obtain ⟨z, hz⟩ : ∃ z, z = x * y := ⟨_, rfl⟩
                rw [← hz] at HS bz
                have e5 : IntKind.i64.wrap (x * y) = z := by rw [← hz]; exact IntWalk.i64_in _ (by omega)
                have e6 : IntKind.i64.wrap (v + z) = v + z := IntWalk.i64_in _ (by omega)
                have T2 := T.set1 t (v + z)
                rw [st_set, ← HS.out] at T2
                rw [HS.out] at T2
                have HN := Lib.hid T2
                have z1 : (t : Int) < 64 := by omega
                have z2 : (j : Int) < 64 := by omega
                have z3 : (i : Int) < 8 := by omega
                have z4 : (r : Int) < 8 := by omega
                have z5 : (k : Int) < 8 := by omega
                clear T T2 m1 m3 hs hj hx hy hv hz bx bY bv bz
                go_wp2_with fail
                go_still_tail 26, (by kernel_rfl)
                change wpList _ _ _ _ _ wr.drew
                go_wp2
                go_roundw
                case rel => exact ⟨i + 1, by omega, by go_num, by rw [HS.out]; exact HN.out.drew⟩
                case measure => simp [intOf]; omega
              · obtain rfl : i = 8 := by omega
                have HE2 : Hid (sumN (fun i => ent R r i * l.getD (i * 8 + k) 0) 8 = f t) := Lib.hid (by rw [HTT.out, HRN.out, HF.out r k hlt2])
                rw [HE2.out, st_done _ htM] at T
                have HT := Lib.hid T
                clear T
                go_wp2_with fail
                go_roundw
                case rel => exact ⟨k + 1, by omega, by go_num, by rw [← Nat.add_assoc, ← HTT.out]; exact HT.out⟩
                case measure => simp [intOf]; omega
          · obtain rfl : k = 8 := by omega
            go_wp2_with fail
            go_roundw
            case rel => exact ⟨r + 1, by omega, by go_num, by rw [show (r + 1) * 8 = rn + 8 from by rw [HRN.out]; omega]; exact HT.out⟩
            case measure => simp [intOf]; omega
      · have hrN : r = 8 := by omega
        have hltd : decide ((r : Int) < 8) = false := by simp; omega
        rw [hrN, show 8 * 8 = 64 from rfl] at HT
        clear hr hlt
        clear hrN
        go_wp2_with fail
        obtain ⟨wz, hwz⟩ : ∃ wz : World, wz = wr := ⟨_, rfl⟩
        rw [← hwz] at HT ⊢
        clear hwz
        go_loopw [77] (fun i wr => ∃ r : Nat, r ≤ 8 ∧ i = .int .i64 r ∧ Two w h o 64 (stu f 64 64) (stu f2 64 (r * 8)) wr) (fun i _ => 8 - (intOf i).toNat)
        case atStart => exact ⟨0, Nat.zero_le _, rfl, HT.out⟩
        case round =>
          clear HT
          obtain ⟨r, hr, rfl, T⟩ := hrel
          have HT := Lib.hid T
          clear T
          by_cases hlt : r < 8
          · have hltd : decide ((r : Int) < 8) = true := by simp; omega
            obtain ⟨rn, hrn⟩ : ∃ rn, rn = r * 8 := ⟨_, rfl⟩
            have e1 : IntKind.i64.wrap ((r : Int) * 8) = (rn : Int) := by rw [IntWalk.i64_in _ (by omega)]; omega
            have HRN := Lib.hid hrn
            rw [← hrn] at HT
            have hrb : rn + 8 ≤ 64 := by omega
            clear hrn
            go_wp2_with fail
            obtain ⟨wz, hwz⟩ : ∃ wz : World, wz = wr := ⟨_, rfl⟩
            rw [← hwz] at HT ⊢
            clear hwz
            go_loopw [81] (fun i wr => ∃ k : Nat, k ≤ 8 ∧ i = .int .i64 k ∧ Two w h o 64 (stu f 64 64) (stu f2 64 (rn + k)) wr) (fun i _ => 8 - (intOf i).toNat)
            case atStart => exact ⟨0, Nat.zero_le _, rfl, HT.out⟩
            case round =>
              clear HT
              obtain ⟨k, hk, rfl, T⟩ := hrel
              have HT := Lib.hid T
              clear T
              by_cases hlt2 : k < 8
              · have hltd2 : decide ((k : Int) < 8) = true := by simp; omega
                obtain ⟨t, ht⟩ : ∃ t, t = rn + k := ⟨_, rfl⟩
                have e2 : IntKind.i64.wrap ((rn : Int) + (k : Int)) = (t : Int) := by rw [IntWalk.i64_in _ (by omega)]; omega
                rw [← ht, ← st_zero f2 (t := t) (by omega)] at HT
                have HTT := Lib.hid ht
                have htM : t < 64 := by omega
                clear ht
                go_wp2_with fail
                obtain ⟨wz, hwz⟩ : ∃ wz : World, wz = wr := ⟨_, rfl⟩
                rw [← hwz] at HT ⊢
                clear hwz
                go_loopw [85] (fun i wr => ∃ j : Nat, j ≤ 8 ∧ i = .int .i64 j ∧ Two w h o 64 (stu f 64 64) (st f2 64 t (sumN (fun i => f (r * 8 + i) * ent R k i) j)) wr) (fun i _ => 8 - (intOf i).toNat)
                case atStart => exact ⟨0, Nat.zero_le _, rfl, HT.out⟩
                case round =>
                  clear HT
                  obtain ⟨i, hi, rfl, T⟩ := hrel
                  by_cases hlt3 : i < 8
                  · obtain ⟨mb, mo, mc, m1, m2, m3⟩ := HMG.out k i hlt2 hlt3
                    have m1' := (bcell T.2.2.2 p k hpw).trans m1
                    have m3' := (bcell T.2.2.2 mb (mo + i) m2).trans m3
                    obtain ⟨j, hj⟩ : ∃ j, j = rn + i := ⟨_, rfl⟩
                    have e4 : IntKind.i64.wrap ((rn : Int) + (i : Int)) = (j : Int) := by rw [IntWalk.i64_in _ (by omega)]; omega
                    have hjM : j < 64 := by omega
                    have c1 := T.2.1.cellAt (i := j) (by rw [stu_len _ (by omega)]; omega)
                    rw [stu_all, tab_getD _ _ _ hjM] at c1
                    have c2 := T.2.2.1.cellAt (i := t) (by rw [st_len _ (by omega)]; omega)
                    rw [st_get _ htM] at c2
                    have fz := T.2.2.1.frozenAt t
                    obtain ⟨x, hx⟩ : ∃ x, x = ent R k i := ⟨_, rfl⟩
                    obtain ⟨y, hy⟩ : ∃ y, y = f j := ⟨_, rfl⟩
                    obtain ⟨v, hv⟩ : ∃ v, v = sumN (fun i => f (r * 8 + i) * ent R k i) i := ⟨_, rfl⟩
                    have bx := HE.out k hlt2 i hlt3
                    have bY := HB1.out r i hlt hlt3
                    rw [← HRN.out, ← hj] at bY
                    have bv := HB2.out r k hlt hlt2 i (by omega)
                    rw [← hx] at m3' bx
                    rw [← hy] at c1 bY
                    rw [← hv] at c2 bv
                    have bz := mul_bd2 bx bY
                    rw [Int.mul_comm x y] at bz
                    have HS : Hid (sumN (fun i => f (r * 8 + i) * ent R k i) (i + 1) = v + y * x) := Lib.hid (by rw [sumN, ← hv, ← hx, ← HRN.out, ← hj, ← hy])
                    obtain ⟨z, hz⟩ : ∃ z, z = y * x := ⟨_, rfl⟩
                    rw [← hz] at HS bz
                    have e5 : IntKind.i64.wrap (y * x) = z := by rw [← hz]; exact IntWalk.i64_in _ (by omega)
                    have e6 : IntKind.i64.wrap (v + z) = v + z := IntWalk.i64_in _ (by omega)
                    have T2 := T.set2 t (v + z)
                    rw [st_set] at T2
                    have HN := Lib.hid T2
                    have z1 : (t : Int) < 64 := by omega
                    have z2 : (j : Int) < 64 := by omega
                    have z3 : (i : Int) < 8 := by omega
                    have z4 : (r : Int) < 8 := by omega
                    have z5 : (k : Int) < 8 := by omega
                    clear T T2 m1 m3 hj hx hy hv hz bx bY bv bz
                    go_wp2_with fail
                    go_still_tail 26, (by kernel_rfl)
                    change wpList _ _ _ _ _ wr.drew
                    go_wp2
                    go_roundw
                    case rel => exact ⟨i + 1, by omega, by go_num, by rw [HS.out]; exact HN.out.drew⟩
                    case measure => simp [intOf]; omega
                  · obtain rfl : i = 8 := by omega
                    have HE2 : Hid (sumN (fun i => f (r * 8 + i) * ent R k i) 8 = f2 t) := Lib.hid (by rw [HTT.out, HRN.out, HF2.out r k hlt2])
                    rw [HE2.out, st_done _ htM] at T
                    have HT := Lib.hid T
                    clear T
                    go_wp2_with fail
                    go_roundw
                    case rel => exact ⟨k + 1, by omega, by go_num, by rw [← Nat.add_assoc, ← HTT.out]; exact HT.out⟩
                    case measure => simp [intOf]; omega
              · obtain rfl : k = 8 := by omega
                go_wp2_with fail
                go_roundw
                case rel => exact ⟨r + 1, by omega, by go_num, by rw [show (r + 1) * 8 = rn + 8 from by rw [HRN.out]; omega]; exact HT.out⟩
                case measure => simp [intOf]; omega
          · have hrN : r = 8 := by omega
            have hltd : decide ((r : Int) < 8) = false := by simp; omega
            rw [hrN, show 8 * 8 = 64 from rfl] at HT
            clear hr hlt
            rw [stu_all f2] at HT
            go_wp2
            go_ret
            exact ⟨_, _, rfl, HT.out.2.2.1, HT.out.2.2.2⟩

end Go.Proofs.Ytchabkkpdafkiaa
