/- Contracts of the draws' cursor: a number from a code's bytes. -/
import Derived.Test.YtkfjbnhihjnhnaaInts
import Derived.Test.YtkfjbnhihjnhnaaFrm
namespace Go.Proofs.Ytkfjbnhihjnhnaa
open Go.RowKit
set_option linter.unusedVariables false

theorem and_low (x m : Int) (h0 : 0 ≤ m) (hm : m < 4611686018427387904) : 0 ≤ bits .and .i64 x m ∧ bits .and .i64 x m ≤ m := by
  obtain ⟨k, rfl⟩ := Int.eq_ofNat_of_zero_le h0
  have h : ((BitVec.ofInt 64 x) &&& (BitVec.ofInt 64 (k : Int))).toNat ≤ k := by
    rw [BitVec.toNat_and]
    refine Nat.le_trans Nat.and_le_right ?_
    rw [BitVec.ofInt_natCast, BitVec.toNat_ofNat]
    exact Nat.mod_le _ _
  have e : bits .and .i64 x (k : Int) = IntKind.i64.wrap (((BitVec.ofInt 64 x) &&& (BitVec.ofInt 64 (k : Int))).toNat : Int) := rfl
  rw [e, IntWalk.i64_in _ (by omega)]
  omega
theorem RowB.keep {w w' : World} {a : Option Addr} {l : List Int} (h : RowB w a l) (hk : ∀ p : Addr, some p.block = a.map (·.block) → (∃ v, w.cell? p = some v) → w'.cell? p = w.cell? p) : RowB w' a l := by
  rcases h with rfl | ⟨b, off, rfl, hc⟩
  · exact .inl rfl
  · exact .inr ⟨b, off, rfl, fun i hi => (hk ⟨b, off + i, none⟩ rfl ⟨_, hc i hi⟩).trans (hc i hi)⟩
theorem RowB.below {B : Nat} {w w' : World} {a : Option Addr} {l : List Int} (h : RowB w a l) (hb : Below B w w') (hB : w.heap.size ≤ B) : RowB w' a l :=
  h.keep fun p _ ⟨_, hv⟩ => hb.cell (p := p) (Nat.lt_of_lt_of_le (World.block_lt_of_cell? w p hv) hB)
theorem RowB.grown {w w' : World} {row : Option Nat} {a : Option Addr} {l : List Int} (h : RowB w a l) (hg : w.grownBy w' row) (hne : l ≠ [] → ∀ p g, a = some p → row = some g → p.block ≠ g) : RowB w' a l := by
  rcases h with rfl | ⟨b, off, rfl, hc⟩
  · exact .inl rfl
  · by_cases hl : l = []
    · exact .inl hl
    · refine RowB.keep (.inr ⟨b, off, rfl, hc⟩) fun p hp ⟨v, hv⟩ => ?_
      refine (hg.cell hv ?_).trans hv.symm
      intro e
      simp at hp
      exact hne hl ⟨b, off, none⟩ p.block rfl e.symm hp.symm
theorem RowB.at_ {w : World} {a : Option Addr} {l : List Int} (h : RowB w a l) {i : Nat} (hi : i < l.length) :
    ∃ b off, a = some ⟨b, off, none⟩ ∧ w.cell? ⟨b, off + i, none⟩ = some (.int .u8 (l.getD i 0)) := by
  rcases h with rfl | ⟨b, off, rfl, hc⟩
  · simp at hi
  · exact ⟨b, off, rfl, hc i hi⟩

/-- a cursor at block g over the bytes l -/
def Cur (w : World) (g : Nat) (a : Option Addr) (c : Nat) (l : List Int) : Prop :=
  g < w.heap.size ∧ l.length ≤ 1099511627776 ∧ RowB w a l ∧ (∀ x ∈ l, 0 ≤ x ∧ x ≤ 255) ∧ (l ≠ [] → ∀ p, a = some p → p.block ≠ g) ∧ (∀ i, w.frozen? ⟨g, i, none⟩ = false) ∧
  w.cell? ⟨g, 0, none⟩ = some (.slice a l.length c) ∧ (∃ i : Nat, i ≤ l.length ∧ w.cell? ⟨g, 1, none⟩ = some (.int .i64 i)) ∧ ∃ h : Int, w.cell? ⟨g, 2, none⟩ = some (.int .i64 h)
theorem Cur.keep {w w' : World} {g : Nat} {a : Option Addr} {c : Nat} {l : List Int} (h : Cur w g a c l) (hs : w.heap.size ≤ w'.heap.size) (hr : RowB w' a l) (hc : ∀ i v, w.cell? ⟨g, i, none⟩ = some v → w'.cell? ⟨g, i, none⟩ = some v) (hf : ∀ i, w'.frozen? ⟨g, i, none⟩ = w.frozen? ⟨g, i, none⟩) : Cur w' g a c l := by
  obtain ⟨h1, h2, h3, h4, h5, h6, h7, ⟨i, hi, h8⟩, h, h9⟩ := h
  exact ⟨Nat.lt_of_lt_of_le h1 hs, h2, hr, h4, h5, fun i => (hf i).trans (h6 i), hc _ _ h7, ⟨i, hi, hc _ _ h8⟩, h, hc _ _ h9⟩
theorem Cur.below {B : Nat} {w w' : World} {g : Nat} {a : Option Addr} {c : Nat} {l : List Int} (h : Cur w g a c l) (hb : Below B w w') (hB : w.heap.size ≤ B) : Cur w' g a c l :=
  h.keep hb.size (h.2.2.1.below hb hB) (fun i v hv => (hb.cell (p := ⟨g, i, none⟩) (Nat.lt_of_lt_of_le h.1 hB)).trans hv) (fun i => hb.frozen (p := ⟨g, i, none⟩) (Nat.lt_of_lt_of_le h.1 hB))
theorem Cur.drew {w : World} {g : Nat} {a : Option Addr} {c : Nat} {l : List Int} (h : Cur w g a c l) : Cur w.drew g a c l := h
theorem Cur.drewN {w : World} {g : Nat} {a : Option Addr} {c : Nat} {l : List Int} (h : Cur w g a c l) (n : Nat) : Cur (w.drewN n) g a c l := h
theorem Cur.alloc {w : World} {g : Nat} {a : Option Addr} {c : Nat} {l : List Int} (h : Cur w g a c l) (o : Obj) : Cur (w.alloc o) g a c l := h.below ((Below.refl _ _).alloc (Nat.le_refl _) o) (Nat.le_refl _)
theorem own_grow {w : World} {g i : Nat} {v : Value} : w.grownBy (w.setCell ⟨g, i, none⟩ v) (some g) := by
  have hb : Below g w (w.setCell ⟨g, i, none⟩ v) := (Below.refl _ _).setCell (p := ⟨g, i, none⟩) (Nat.le_refl _) _
  refine ⟨hb.os, hb.tape, hb.output, hb.size, fun k hk hne => ?_⟩
  have hkg : k ≠ g := fun e => hne (by rw [e])
  exact heap_setCell_other _ _ _ _ hkg
theorem Cur.set1 {w : World} {g : Nat} {a : Option Addr} {c : Nat} {l : List Int} (h : Cur w g a c l) (j : Nat) (hj : j ≤ l.length) : Cur (w.setCell ⟨g, 1, none⟩ (.int .i64 j)) g a c l := by
  obtain ⟨h1, h2, h3, h4, h5, h6, h7, ⟨i, hi, h8⟩, h, h9⟩ := h
  exact ⟨by simpa using h1, h2, h3.grown own_grow (fun hl p q hp hq => by cases hq; exact h5 hl p hp), h4, h5, fun i => by simp [h6 i], (World.cell?_setCell_other _ _ _ _ (by simp)).trans h7, ⟨j, hj, World.cell?_setCell_same _ _ _ h8⟩, h, (World.cell?_setCell_other _ _ _ _ (by simp)).trans h9⟩
theorem Cur.set2 {w : World} {g : Nat} {a : Option Addr} {c : Nat} {l : List Int} (h : Cur w g a c l) (j : Int) : Cur (w.setCell ⟨g, 2, none⟩ (.int .i64 j)) g a c l := by
  obtain ⟨h1, h2, h3, h4, h5, h6, h7, ⟨i, hi, h8⟩, h, h9⟩ := h
  exact ⟨by simpa using h1, h2, h3.grown own_grow (fun hl p q hp hq => by cases hq; exact h5 hl p hp), h4, h5, fun i => by simp [h6 i], (World.cell?_setCell_other _ _ _ _ (by simp)).trans h7, ⟨i, hi, (World.cell?_setCell_other _ _ _ _ (by simp)).trans h8⟩, j, World.cell?_setCell_same _ _ _ h9⟩
theorem D.refl (w : World) (g : Nat) : w.grownBy w (some g) := World.grownBy.refl _ _
theorem D.trans {w w1 w2 : World} {g : Nat} (h : w.grownBy w1 (some g)) (k : w1.grownBy w2 (some g)) : w.grownBy w2 (some g) :=
  ⟨k.os.trans h.os, k.tape.trans h.tape, k.output.trans h.output, Nat.le_trans h.size k.size, fun i hi hne => (k.block i (Nat.lt_of_lt_of_le hi h.size) hne).trans (h.block i hi hne)⟩
theorem D.drew {w w1 : World} {g : Nat} (h : w.grownBy w1 (some g)) : w.grownBy w1.drew (some g) := ⟨h.os, h.tape, h.output, h.size, h.block⟩
theorem D.drewN {w w1 : World} {g : Nat} (h : w.grownBy w1 (some g)) (n : Nat) : w.grownBy (w1.drewN n) (some g) := ⟨h.os, h.tape, h.output, h.size, h.block⟩
/-- what touches only blocks from B on -/
theorem D.under {w w1 w2 : World} {g B : Nat} (h : w.grownBy w1 (some g)) (k : Below B w1 w2) (hB : w.heap.size ≤ B) : w.grownBy w2 (some g) :=
  ⟨k.os.trans h.os, k.tape.trans h.tape, k.output.trans h.output, Nat.le_trans h.size k.size, fun i hi hne => (k.block i (by omega)).trans (h.block i hi hne)⟩
theorem D.below {w w0 w1 : World} {g B : Nat} (h0 : Below B w w0) (h : w0.grownBy w1 (some g)) (hB : B ≤ w0.heap.size) (hg : B ≤ g) : Below B w w1 :=
  h0.grown h hB (fun k hk => by injection hk with hk; omega)


set_option maxRecDepth 1000000 in
set_option maxHeartbeats 1000000 in
theorem l1New_c (a : Option Addr) (c : Nat) (l : List Int) (w : World) (hl : l.length ≤ 1048576) (hr : RowB w a l) (hw : ∀ x ∈ l, 0 ≤ x ∧ x ≤ 255) :
    Calls Try.prog 34 #[.slice a l.length c] w fun e w' => ∃ g, e = .returned (.pointer (some ⟨g, 0, none⟩)) ∧ Cur w' g a c l ∧ w.heap.size ≤ g ∧ Below w.heap.size w w' := by
  have HR := Lib.hid hr
  have HW := Lib.hid hw
  clear hr hw
  go_enter Try.func34, Try.ntmps34
  go_wp2
  go_loop [3, 4] (fun h i => ∃ (k : Nat) (x : Int), k ≤ l.length ∧ i = .int .i64 k ∧ h = .int .i64 x ∧ 0 ≤ x ∧ x ≤ 2000000000) (fun _ i => l.length - (intOf i).toNat)
  case atStart => exact ⟨0, _, Nat.zero_le _, rfl, rfl, by omega, by omega⟩
  case round =>
    obtain ⟨k, x, hk, rfl, rfl, hx0, hx1⟩ := hrel
    by_cases hlt : k < l.length
    · by_cases h4 : k < 4000
      · obtain ⟨b, off, rfl, hcell⟩ := HR.out.at_ hlt
        obtain ⟨y, hy⟩ : ∃ y, y = l.getD k 0 := ⟨_, rfl⟩
        have hyb : 0 ≤ y ∧ y ≤ 255 := by rw [hy, getD_lt hlt]; exact HW.out _ (List.getElem_mem hlt)
        rw [← hy] at hcell
        obtain ⟨hy0, hy1⟩ := hyb
        obtain ⟨z, hz⟩ : ∃ z, z = bits .and .i64 (x * 131 + y + 7) 1073741823 := ⟨_, rfl⟩
        have hzb := and_low (x * 131 + y + 7) 1073741823 (by omega) (by omega)
        rw [← hz] at hzb
        obtain ⟨hz0, hz1⟩ := hzb
        have e1 := hz.symm
        clear hy hz
        go_wp2
        go_round
        case rel => exact ⟨k + 1, z, by omega, by go_num, by first | rfl | simp [e1], by omega, by omega⟩
        case measure => simp [intOf]; omega
      · go_wp2
        go_ret
        refine ⟨w.heap.size, rfl, ⟨by simp, by omega, HR.out.below ((Below.refl w.heap.size w).alloc (Nat.le_refl _) _) (Nat.le_refl _), HW.out, ?_, fun i => by simp [go_sem], by simp, ⟨0, Nat.zero_le _, by simp⟩, x, by simp⟩, Nat.le_refl _, (Below.refl _ _).alloc (Nat.le_refl _) _⟩
        intro hne p hp
        obtain ⟨b, off, e, hc⟩ := HR.out.at_ (i := 0) (by cases l with | nil => exact absurd rfl hne | cons => simp)
        rw [hp] at e
        cases e
        exact Nat.ne_of_lt (World.block_lt_of_cell? w _ hc)
    · go_wp2
      go_ret
      refine ⟨w.heap.size, rfl, ⟨by simp, by omega, HR.out.below ((Below.refl w.heap.size w).alloc (Nat.le_refl _) _) (Nat.le_refl _), HW.out, ?_, fun i => by simp [go_sem], by simp, ⟨0, Nat.zero_le _, by simp⟩, x, by simp⟩, Nat.le_refl _, (Below.refl _ _).alloc (Nat.le_refl _) _⟩
      intro hne p hp
      obtain ⟨b, off, e, hc⟩ := HR.out.at_ (i := 0) (by cases l with | nil => exact absurd rfl hne | cons => simp)
      rw [hp] at e
      cases e
      exact Nat.ne_of_lt (World.block_lt_of_cell? w _ hc)


set_option maxHeartbeats 2000000 in
theorem l1Byte_c (g : Nat) (a : Option Addr) (c : Nat) (l : List Int) (w : World) (h : Cur w g a c l) :
    Calls Try.prog 71 #[.pointer (some ⟨g, 0, none⟩)] w fun e w' => ∃ x : Int, e = .returned (.int .i64 x) ∧ (0 ≤ x ∧ x ≤ 255) ∧ Cur w' g a c l ∧ w.grownBy w' (some g) := by
  have H := Lib.hid h
  obtain ⟨h1, h2, h3, h4, h5, h6, h7, ⟨i, hi, h8⟩, hh, h9⟩ := h
  have f1 := h6 1
  have f2 := h6 2
  have HR := Lib.hid h3
  have HW := Lib.hid h4
  have hand : ∀ x : Int, 0 ≤ bits .and .i64 x 255 ∧ bits .and .i64 x 255 ≤ 255 := fun x => and_low x 255 (by omega) (by omega)
  have HA := Lib.hid hand
  clear h3 h4 h5 h6 hand
  go_enter Try.func71, Try.ntmps71
  go_wp2
  go_quiet (fail)
  generalize wrap64 (wrap64 (hh * 6364136223846793005) + 1442695040888963407) = h2
  have hb := HA.out (bits .xor .i64 (h2 / 8589934592) (h2 / 35184372088832))
  generalize bits .and .i64 (bits .xor .i64 (h2 / 8589934592) (h2 / 35184372088832)) 255 = x at *
  obtain ⟨x0, x1⟩ := hb
  obtain ⟨w2, hw2⟩ : ∃ w2, w2 = (w.setCell ⟨g, 2, none⟩ (.int .i64 h2)).drewN nq := ⟨_, rfl⟩
  have H2 : Cur w2 g a c l := by rw [hw2]; exact H.out.set2 h2
  have HD : Hid (w.grownBy w2 (some g)) := Lib.hid (by rw [hw2]; exact D.drewN (g := g) own_grow nq)
  rw [← hw2]
  clear hw2 h7 h8 h9 hi f1 f2 H
  have H := Lib.hid H2
  obtain ⟨_, _, h3, _, _, h6, h7, ⟨j, hj, h8⟩, _, _⟩ := H2
  have f1 := h6 1
  clear h6
  by_cases hlt : j < l.length
  · obtain ⟨b, off, rfl, hcell⟩ := h3.at_ hlt
    obtain ⟨y, hy⟩ : ∃ y, y = l.getD j 0 := ⟨_, rfl⟩
    have hyb : 0 ≤ y ∧ y ≤ 255 := by rw [hy, getD_lt hlt]; exact HW.out _ (List.getElem_mem hlt)
    rw [← hy] at hcell
    obtain ⟨hy0, hy1⟩ := hyb
    have hltd : decide ((j : Int) < (l.length : Int)) = true := by simp; omega
    have hltd2 : (j : Int) < (l.length : Int) := by omega
    clear hy h3
    go_wp2
    go_quiet (fail)
    go_wp2
    go_quiet (fail)
    go_wp2
    have hb := HA.out (x + y)
    generalize bits .and .i64 (x + y) 255 = z at *
    go_ret
    exact ⟨z, rfl, hb, (H.out.drewN _).set1 (j + 1) (by omega), D.trans (D.drewN HD.out _) own_grow⟩
  · have hltd : decide ((j : Int) < (l.length : Int)) = false := by simp; omega
    clear h3
    go_wp2
    go_quiet (fail)
    go_wp2
    go_ret
    exact ⟨x, rfl, ⟨x0, x1⟩, H.out.drewN _, D.drewN HD.out _⟩


set_option maxHeartbeats 2000000 in
theorem l1Below_c (g : Nat) (a : Option Addr) (c : Nat) (l : List Int) (n : Int) (w : World) (hn : -9223372036854775808 ≤ n ∧ n ≤ 9223372036854775807) (h : Cur w g a c l) :
    Calls Try.prog 49 #[.pointer (some ⟨g, 0, none⟩), .int .i64 n] w fun e w' => ∃ x : Int, e = .returned (.int .i64 x) ∧ ((n ≤ 0 → x = 0) ∧ (0 < n → 0 ≤ x ∧ x < n)) ∧ Cur w' g a c l ∧ w.grownBy w' (some g) := by
  obtain ⟨hn0, hn1⟩ := hn
  by_cases h0 : n ≤ 0
  · go_enter Try.func49, Try.ntmps49
    go_wp2
    go_ret
    exact ⟨0, rfl, ⟨fun _ => rfl, fun h => by omega⟩, h, D.refl _ _⟩
  · by_cases h2 : n ≤ 256
    · have HC := Lib.hid (l1Byte_c g a c l w h)
      have hne : (n == 0) = false := by simp; omega
      have hne2 : ¬ (n = 0) := by omega
      clear h
      go_enter Try.func49, Try.ntmps49
      go_wp2_with (go_at_call 71; refine HC.out.mono ?_; rintro e w1 ⟨x, rfl, ⟨hx0, hx1⟩, hcu, hd⟩)
      go_ret
      refine ⟨_, rfl, ⟨fun h => by omega, fun _ => ?_⟩, hcu, hd⟩
      first
        | exact ⟨Int.tmod_nonneg _ hx0, Int.tmod_lt_of_pos _ (by omega)⟩
        | exact ⟨Int.emod_nonneg _ hne2, Int.emod_lt_of_pos _ (by omega)⟩
    · have HC : Hid (∀ w0, Cur w0 g a c l → Calls Try.prog 71 #[.pointer (some ⟨g, 0, none⟩)] w0 fun e w' => ∃ x : Int, e = .returned (.int .i64 x) ∧ (0 ≤ x ∧ x ≤ 255) ∧ Cur w' g a c l ∧ w0.grownBy w' (some g)) := Lib.hid (fun w0 h => l1Byte_c g a c l w0 h)
      have H := Lib.hid h
      have hne : (n == 0) = false := by simp; omega
      have hne2 : ¬ (n = 0) := by omega
      clear h
      go_enter Try.func49, Try.ntmps49
      go_wp2_with fail
      refine (HC.out w H.out).mono ?_
      rintro e w1 ⟨x, rfl, ⟨hx0, hx1⟩, hcu1, hd1⟩
      go_wp2_with fail
      refine (HC.out w1 hcu1).mono ?_
      rintro e w2 ⟨y, rfl, ⟨hy0, hy1⟩, hcu2, hd2⟩
      go_wp2_with fail
      refine (HC.out w2 hcu2).mono ?_
      rintro e w3 ⟨z, rfl, ⟨hz0, hz1⟩, hcu3, hd3⟩
      go_wp2_with fail
      refine (HC.out w3 hcu3).mono ?_
      rintro e w4 ⟨u, rfl, ⟨hu0, hu1⟩, hcu4, hd4⟩
      have HEND : Hid (Cur w4 g a c l ∧ w.grownBy w4 (some g)) := Lib.hid ⟨hcu4, D.trans (D.trans (D.trans hd1 hd2) hd3) hd4⟩
      clear hcu1 hcu2 hcu3 hcu4 hd1 hd2 hd3 hd4 HC H
      go_wp2
      go_ret
      refine ⟨_, rfl, ⟨fun h => by omega, fun _ => ?_⟩, HEND.out.1, HEND.out.2⟩
      first
        | exact ⟨Int.tmod_nonneg _ (by omega), Int.tmod_lt_of_pos _ (by omega)⟩
        | exact ⟨Int.emod_nonneg _ hne2, Int.emod_lt_of_pos _ (by omega)⟩


theorem l1Once_c (g : Nat) (a : Option Addr) (c : Nat) (l : List Int) (n : Int) (w : World) (hn : -9223372036854775808 ≤ n ∧ n ≤ 9223372036854775807) (h : Cur w g a c l) :
    Calls Try.prog 50 #[.pointer (some ⟨g, 0, none⟩), .int .i64 n] w fun e w' => ∃ x : Bool, e = .returned (.bool x) ∧ Cur w' g a c l ∧ w.grownBy w' (some g) := by
  have HC := Lib.hid (l1Below_c g a c l n w hn h)
  clear h
  go_enter Try.func50, Try.ntmps50
  go_wp2_with (go_at_call 49; refine HC.out.mono ?_; rintro e w1 ⟨x, rfl, _, hcu, hd⟩)
  go_ret
  exact ⟨_, rfl, hcu, hd⟩


set_option maxHeartbeats 1000000 in
theorem l1PickInt_c (g : Nat) (a : Option Addr) (c : Nat) (l : List Int) (b : Option Addr) (d : Nat) (m : List Int) (w : World) (hm : m.length ≤ 1048576) (hm0 : 0 < m.length) (hr : Row w b m) (hne : ∀ p, b = some p → p.block ≠ g) (h : Cur w g a c l) :
    Calls Try.prog 51 #[.pointer (some ⟨g, 0, none⟩), .slice b m.length d] w fun e w' => ∃ x : Int, e = .returned (.int .i64 x) ∧ x ∈ m ∧ Cur w' g a c l ∧ w.grownBy w' (some g) := by
  have HC := Lib.hid (l1Below_c g a c l m.length w (by omega) h)
  have HR : Hid (∀ w1, w.grownBy w1 (some g) → Row w1 b m) := Lib.hid (fun w1 hd => hr.grown hd (fun p q hp hq => by cases hq; exact hne p hp))
  clear h hr hne
  go_enter Try.func51, Try.ntmps51
  go_wp2_with fail
  refine HC.out.mono ?_
  rintro e w1 ⟨x, rfl, ⟨_, hx⟩, hcu, hd⟩
  obtain ⟨hx0, hx1⟩ := hx (by omega)
  obtain ⟨i, rfl⟩ := Int.eq_ofNat_of_zero_le hx0
  have hi : i < m.length := by omega
  obtain ⟨bb, off, rfl, hcell⟩ := (HR.out w1 hd).at_ hi
  have HCU := Lib.hid hcu
  have HD := Lib.hid hd
  clear hcu hd hx HC
  go_wp2
  go_ret
  exact ⟨_, rfl, by first | exact List.getElem_mem hi | (rw [getD_lt hi]; exact List.getElem_mem hi), HCU.out, HD.out⟩


theorem big_c (a : Option Addr) (c n : Nat) (w : World) : Calls Try.prog 8 #[.slice a n c] w fun e w' => e = .returned (.bool (decide (1048576 < n))) ∧ w = w' := by
  go_enter Try.func8, Try.ntmps8
  go_wp2
  go_ret
  refine ⟨ret_bool ?_, rfl⟩
  by_cases h : 1048576 < n
  · have h2 : (1048576 : Int) < (n : Int) := by omega
    simp [h, h2]
  · have h2 : ¬ (1048576 : Int) < (n : Int) := by omega
    simp [h, h2]

def atF (l : List Int) (i : Nat) : Int := if i < l.length then l.getD i 0 else ((i : Int) * 37 + (l.length : Int) * 11) % 256
theorem atF_bd {l : List Int} (hw : ∀ x ∈ l, 0 ≤ x ∧ x ≤ 255) (i : Nat) : 0 ≤ atF l i ∧ atF l i ≤ 255 := by
  unfold atF
  split
  · rename_i h; rw [getD_lt h]; exact hw _ (List.getElem_mem h)
  · omega

theorem at_c (a : Option Addr) (c : Nat) (l : List Int) (i : Nat) (w : World) (hl : l.length ≤ 1048576) (hi : i ≤ 1048576) (hr : RowB w a l) (hw : ∀ x ∈ l, 0 ≤ x ∧ x ≤ 255) :
    Calls Try.prog 23 #[.slice a l.length c, .int .i64 i] w fun e w' => e = .returned (.int .i64 (atF l i)) ∧ w = w' := by
  by_cases h : i < l.length
  · obtain ⟨b, off, rfl, hcell⟩ := hr.at_ h
    obtain ⟨y, hy⟩ : ∃ y, y = l.getD i 0 := ⟨_, rfl⟩
    have hyb : 0 ≤ y ∧ y ≤ 255 := by rw [hy, getD_lt h]; exact hw _ (List.getElem_mem h)
    rw [← hy] at hcell
    have HF : Hid (atF l i = y) := Lib.hid (by rw [atF, if_pos h, hy])
    obtain ⟨hy0, hy1⟩ := hyb
    rw [HF.out]
    clear hy hr hw
    go_enter Try.func23, Try.ntmps23
    go_wp2
    go_ret
    exact ⟨rfl, rfl⟩
  · have HF : Hid (atF l i = ((i : Int) * 37 + (l.length : Int) * 11) % 256) := Lib.hid (by rw [atF, if_neg h])
    rw [HF.out]
    clear hr hw
    go_enter Try.func23, Try.ntmps23
    go_wp2
    go_ret
    exact ⟨ret_int (by first | rfl | omega), rfl⟩


set_option maxHeartbeats 1000000 in
theorem sameInts_c (a b : Option Addr) (c d : Nat) (l m : List Int) (w : World) (hl : l.length ≤ 4611686018427387904) (hm : m.length ≤ 4611686018427387904) (hra : Row w a l) (hrb : Row w b m) :
    Calls Try.prog 28 #[.slice a l.length c, .slice b m.length d] w fun e w' => e = .returned (.bool (decide (l = m))) ∧ ∃ n, w' = w.drewN n := by
  by_cases hlen : l.length = m.length
  · have hne : ((l.length : Int) != (m.length : Int)) = false := by simp [hlen]
    have HL := Lib.hid hlen
    clear hlen
    go_enter Try.func28, Try.ntmps28
    go_wp2
    go_loopw [5] (fun i wr => ∃ k : Nat, k ≤ l.length ∧ i = .int .i64 k ∧ (∀ i, i < k → l.getD i 0 = m.getD i 0) ∧ ∃ n, wr = w.drewN n) (fun i _ => l.length - (intOf i).toNat)
    case atStart => exact ⟨0, Nat.zero_le _, rfl, fun i h => absurd h (by omega), 0, rfl⟩
    case round =>
      obtain ⟨k, hk, rfl, heq, n, rfl⟩ := hrel
      have HE := Lib.hid heq
      clear heq
      by_cases hlt : k < l.length
      · have hlt2 : k < m.length := by rw [← HL.out]; exact hlt
        obtain ⟨ba, oa, rfl, hca⟩ := hra.at_ hlt
        obtain ⟨bb, ob, rfl, hcb⟩ := hrb.at_ hlt2
        obtain ⟨x, hx⟩ : ∃ x, x = l.getD k 0 := ⟨_, rfl⟩
        obtain ⟨y, hy⟩ : ∃ y, y = m.getD k 0 := ⟨_, rfl⟩
        rw [← hx] at hca
        rw [← hy] at hcb
        have HX := Lib.hid hx
        have HY := Lib.hid hy
        clear hx hy hra hrb hne
        have hi1 : (k : Int) < (l.length : Int) := by omega
        have hi2 : (k : Int) < (m.length : Int) := by omega
        go_wp2
        go_quiet (fail)
        by_cases hxy : x = y
        · have hb : (x != y) = false := by simp [hxy]
          have HXY := Lib.hid hxy
          clear hxy
          go_wp2
          go_roundw
          case rel => exact ⟨k + 1, by omega, by go_num, fun i hi => by
            by_cases h : i < k
            · exact HE.out i h
            · obtain rfl : i = k := by omega
              rw [← HX.out, ← HY.out]; exact HXY.out, by first | exact ⟨_, rfl⟩ | exact drewN_ex _ _⟩
          case measure => simp [intOf]; omega
        · have hb : (x != y) = true := by simp [hxy]
          have HXY := Lib.hid hxy
          clear hxy
          go_wp2
          go_ret
          refine ⟨ret_bool ?_, by first | exact ⟨_, rfl⟩ | exact drewN_ex _ _⟩
          rw [decide_eq_false]
          intro e
          exact HXY.out (by rw [HX.out, HY.out, e])
      · have hend : k = l.length := by omega
        clear hra hrb hne
        go_wp2
        go_ret
        refine ⟨ret_bool ?_, _, rfl⟩
        rw [decide_eq_true]
        exact eq_of_take HL.out (fun i hi => HE.out i (by omega))
  · have hne : ((l.length : Int) != (m.length : Int)) = true := by simp; omega
    have HL := Lib.hid hlen
    clear hlen
    go_enter Try.func28, Try.ntmps28
    go_wp2
    go_ret
    refine ⟨ret_bool ?_, 0, rfl⟩
    rw [decide_eq_false]
    intro e
    exact HL.out (by rw [e])

end Go.Proofs.Ytkfjbnhihjnhnaa
