/- Contracts: the reference's product of a matrix, a square and the matrix turned. -/
import Derived.Test.YtchabkkpdafkiaaRowS
import Derived.StillTailTactics
import Derived.BigRegion
namespace Go.Proofs.Ytchabkkpdafkiaa
open Go.RowKit
set_option linter.unusedVariables false

/-- the places up to row r and number i are filled -/
def Fil (S : List (List Int)) (P : Nat → Nat → Nat) (N r i : Nat) (L : List Int) : Prop :=
  ∀ r' i', r' < N → i' < N → (r' < r ∨ (r' = r ∧ i' < i)) → L.getD (P r' i') 0 = ent S r' i'
theorem Fil.start (S : List (List Int)) (P : Nat → Nat → Nat) (N : Nat) (L : List Int) : Fil S P N 0 0 L := fun r i _ _ h => by omega
theorem Fil.next {S : List (List Int)} {P : Nat → Nat → Nat} {N r : Nat} {L : List Int} (h : Fil S P N r N L) : Fil S P N (r + 1) 0 L := fun r' i' h1 h2 h3 => h r' i' h1 h2 (by omega)
theorem Fil.step {S : List (List Int)} {P : Nat → Nat → Nat} {N r i : Nat} {L : List Int} (h : Fil S P N r i L) (hP : ∀ r' i', r' < N → i' < N → P r' i' = P r i → r' = r ∧ i' = i) (hl : P r i < L.length) : Fil S P N r (i + 1) (L.set (P r i) (ent S r i)) := by
  intro r' i' h1 h2 h3
  by_cases e : P r' i' = P r i
  · obtain ⟨rfl, rfl⟩ := hP r' i' h1 h2 e
    simp [List.getD, hl]
  · have h4 := h r' i' h1 h2 (by
      rcases h3 with h3 | ⟨rfl, h3⟩
      · exact .inl h3
      · refine .inr ⟨rfl, ?_⟩
        have hne : i' ≠ i := fun e2 => e (by rw [e2])
        omega)
    rw [← h4]
    simp [List.getD, Ne.symm e]
def Thr (w : World) (hm h o M : Nat) (mm x y : List Int) (wr : World) : Prop :=
  Two w h o M x y wr ∧ Own w.heap.size wr (some ⟨hm, 0, none⟩) M mm ∧ hm ≠ h ∧ hm ≠ o
section
variable {w wr : World} {hm h o M : Nat} {mm x y : List Int}
theorem Thr.bel (T : Thr w hm h o M mm x y wr) : Below w.heap.size w wr := T.1.2.2.2
theorem Thr.one (T : Thr w hm h o M mm x y wr) : Own w.heap.size wr (some ⟨h, 0, none⟩) M x := T.1.2.1
theorem Thr.two (T : Thr w hm h o M mm x y wr) : Own w.heap.size wr (some ⟨o, 0, none⟩) M y := T.1.2.2.1
theorem Thr.mat (T : Thr w hm h o M mm x y wr) : Own w.heap.size wr (some ⟨hm, 0, none⟩) M mm := T.2.1
theorem Thr.drew (T : Thr w hm h o M mm x y wr) : Thr w hm h o M mm x y wr.drew := ⟨T.1.drew, T.2.1.drew, T.2.2⟩
theorem Thr.set1 (T : Thr w hm h o M mm x y wr) (i : Nat) (v : Int) : Thr w hm h o M mm (x.set i v) y (wr.setCell ⟨h, i, none⟩ (.int .i64 v)) :=
  ⟨T.1.set1 i v, T.2.1.grown (World.ownsRow.stored T.one i _).2 (fun p q hp hq => by cases hp; cases hq; exact T.2.2.1), T.2.2⟩
theorem Thr.set2 (T : Thr w hm h o M mm x y wr) (i : Nat) (v : Int) : Thr w hm h o M mm x (y.set i v) (wr.setCell ⟨o, i, none⟩ (.int .i64 v)) :=
  ⟨T.1.set2 i v, T.2.1.grown (World.ownsRow.stored T.two i _).2 (fun p q hp hq => by cases hp; cases hq; exact T.2.2.2), T.2.2⟩
theorem Thr.start (w wr : World) (hm n : Nat) (mm : List Int) (hn : n ≤ 1024) (hb : Below w.heap.size w wr) (ho : Own w.heap.size wr (some ⟨hm, 0, none⟩) n mm) :
    Thr w hm wr.heap.size (wr.heap.size + 1) n mm (List.replicate n 0) (List.replicate n 0) ((wr.alloc (.cells (madeCells (Value.int .i64 0).cells n) 3)).alloc (.cells (madeCells (Value.int .i64 0).cells n) 3)) := by
  have hlt : hm < wr.heap.size := (ho.lt _ rfl).2
  have h2 := Own.zeros (B := w.heap.size) (wr.alloc (.cells (madeCells (Value.int .i64 0).cells n) 3)) n (by simp; have := hb.size; omega) hn
  have e : (wr.alloc (.cells (madeCells (Value.int .i64 0).cells n) 3)).heap.size = wr.heap.size + 1 := by simp
  rw [e] at h2
  exact ⟨⟨by omega, (Own.zeros wr n hb.size hn).alloc _, h2, (hb.alloc hb.size _).alloc (by simp; have := hb.size; omega) _⟩, (ho.alloc _).alloc _, by omega, by omega⟩
end
theorem Row.farB {w : World} {qb qo : Nat} {l : List Int} (h : Row w (some ⟨qb, qo, none⟩) l) {p : Addr} (hp : p.block ≠ qb) (v : Value) : Row (w.setCell p v) (some ⟨qb, qo, none⟩) l := by
  refine h.keep fun q hq _ => World.cell?_setCell_far _ _ _ _ ?_
  intro e
  simp at hq
  exact hp (by rw [e, hq])


set_option maxRecDepth 100000 in
set_option maxHeartbeats 8000000 in
theorem l12Mul_4 (a : Option Addr) (c2 : Nat) (l : List Int) (w : World) (hl : l.length = 16) (hall : allR (-1000000000) 1000000000 l = true) (hr : Row w a l) :
    Calls Try.prog 51 #[.slice a 16 c2, .int .i64 4, .bool true] w fun e w' => ∃ b d, e = .returned (.slice b 16 d) ∧ Own w.heap.size w' b d (prodL (ent rowsA) l 4) ∧ Below w.heap.size w w' := by
  have hmk : ∀ w : World, (Instr.makeSlice 22 (.int .i64 16) (.int .i64 16)).run Try.prog w = .ok (.slice (some ⟨w.heap.size, 0, none⟩) 16 16) (w.alloc (.cells (madeCells (Value.int .i64 0).cells 16) 3)) := fun _ => by kernel_rfl
  have hent := ent_bd4
  have HLB : Hid (∀ i, i < l.length → -1000000000 ≤ l.getD i 0 ∧ l.getD i 0 ≤ 1000000000) := Lib.hid (fun i h => allR_at hall h)
  obtain ⟨b, off, rfl, hbk, hc⟩ := hr.inside (by omega)
  rw [hl] at hc HLB
  have HC := Lib.hid hc
  have HE := Lib.hid hent
  obtain ⟨g, hg⟩ : ∃ g : Nat → Int, g = fun j => ent rowsA (j / 4) (j % 4) := ⟨_, rfl⟩
  have HG : Hid (∀ r k, k < 4 → g (r * 4 + k) = ent rowsA r k) := Lib.hid (fun r k h => by rw [hg]; show ent rowsA ((r * 4 + k) / 4) ((r * 4 + k) % 4) = _; rw [show (r * 4 + k) / 4 = r by omega, show (r * 4 + k) % 4 = k by omega])
  have HGT : Hid (∀ L : List Int, L.length = 16 → Fil rowsA0 (fun r i => i * 4 + r) 4 4 0 L → L = tab g 16) := Lib.hid (fun L h1 h2 => by
    rw [tab_of L 16 h1]
    refine tab_congr fun i hi => ?_
    rw [hg]
    show L.getD i 0 = ent rowsA (i / 4) (i % 4)
    have h3 := h2 (i % 4) (i / 4) (by omega) (by omega) (.inl (by omega))
    rw [rowsA_ent _ (by omega) _ (by omega), ← h3]
    show _ = L.getD (i / 4 * 4 + i % 4) 0
    rw [show i / 4 * 4 + i % 4 = i by omega])
  obtain ⟨f, hf⟩ : ∃ f : Nat → Int, f = fun j => halfAt (ent rowsA) l 4 (j / 4) (j % 4) := ⟨_, rfl⟩
  have HF : Hid (∀ r k, k < 4 → f (r * 4 + k) = sumN (fun i => ent rowsA r i * l.getD (i * 4 + k) 0) 4) := Lib.hid (fun r k h => by rw [hf]; show halfAt (ent rowsA) l 4 ((r * 4 + k) / 4) ((r * 4 + k) % 4) = _; rw [show (r * 4 + k) / 4 = r by omega, show (r * 4 + k) % 4 = k by omega]; rfl)
  obtain ⟨f2, hf2⟩ : ∃ f2 : Nat → Int, f2 = fun j => prodAt (ent rowsA) l 4 (j / 4) (j % 4) := ⟨_, rfl⟩
  have HF2 : Hid (∀ r k, k < 4 → f2 (r * 4 + k) = sumN (fun i => f (r * 4 + i) * ent rowsA k i) 4) := Lib.hid (fun r k h => by
    rw [hf2]
    show prodAt (ent rowsA) l 4 ((r * 4 + k) / 4) ((r * 4 + k) % 4) = _
    rw [show (r * 4 + k) / 4 = r by omega, show (r * 4 + k) % 4 = k by omega]
    unfold prodAt
    apply sumN_congr
    intro i hi
    rw [HF.out r i hi]
    rfl)
  have HEND : Hid (prodL (ent rowsA) l 4 = tab f2 16) := Lib.hid (by rw [hf2]; rfl)
  have HB : Hid (∀ r k, r < 4 → k < 4 → ∀ m, m ≤ 4 → -(m * (2 * 1000000000)) ≤ sumN (fun i => ent rowsA r i * l.getD (i * 4 + k) 0) m ∧ sumN (fun i => ent rowsA r i * l.getD (i * 4 + k) 0) m ≤ m * (2 * 1000000000)) := Lib.hid (fun r k h1 h2 m hm => halfAt_bd (n := 4) (fun j hj => hent r h1 j hj) (fun j hj => HLB.out _ (by omega)) m hm)
  have HB1 : Hid (∀ r i, r < 4 → i < 4 → -16000000000 ≤ f (r * 4 + i) ∧ f (r * 4 + i) ≤ 16000000000) := Lib.hid (fun r i h1 h2 => by rw [HF.out r i h2]; have := HB.out r i h1 h2 4 (Nat.le_refl _); omega)
  have HB2 : Hid (∀ r k, r < 4 → k < 4 → ∀ m, m ≤ 4 → -(m * (2 * 16000000000)) ≤ sumN (fun i => f (r * 4 + i) * ent rowsA k i) m ∧ sumN (fun i => f (r * 4 + i) * ent rowsA k i) m ≤ m * (2 * 16000000000)) := Lib.hid (fun r k h1 h2 m hm => sumN_bd (fun i hi => by rw [Int.mul_comm (f (r * 4 + i))]; exact mul_bd2 (hent k h2 i (by omega)) (HB1.out r i h1 (by omega))))
  have HSL : Hid (∀ r, r < 4 → (rowsA0.getD r []).length = 4) := Lib.hid (by decide)
  have HK0 : Hid (Below w.heap.size w (w.alloc (.cells (madeCells (Value.int .i64 0).cells 16) 3)) ∧ Own w.heap.size (w.alloc (.cells (madeCells (Value.int .i64 0).cells 16) 3)) (some ⟨w.heap.size, 0, none⟩) 16 (List.replicate 16 0)) := Lib.hid ⟨(Below.refl _ _).alloc (Nat.le_refl _) _, Own.zeros w 16 (Nat.le_refl _) (by omega)⟩
  have HLR := Lib.hid l12Row_4
  rw [HEND.out]
  clear hr hall hc hent hf hf2 hg HEND
  go_enter Try.func51, Try.ntmps51
  go_wp2
  go_loopw [8] (fun i wr => ∃ (r : Nat) (L : List Int), r ≤ 4 ∧ i = .int .i64 r ∧ L.length = 16 ∧ Fil rowsA0 (fun r i => i * 4 + r) 4 r 0 L ∧ Own w.heap.size wr (some ⟨w.heap.size, 0, none⟩) 16 L ∧ Below w.heap.size w wr) (fun i _ => 4 - (intOf i).toNat)
  case atStart => exact ⟨0, List.replicate 16 0, Nat.zero_le _, rfl, by simp, Fil.start _ _ _ _, HK0.out.2, HK0.out.1⟩
  case round =>
    clear HK0
    obtain ⟨r, L, hr, rfl, hLl, hfi, ho, hb⟩ := hrel
    have HFI := Lib.hid hfi
    have HO := Lib.hid ho
    have HBB := Lib.hid hb
    have hwz : w.heap.size < wr.heap.size := (ho.lt _ rfl).2
    have HLL := Lib.hid hLl
    clear hfi ho hb hLl
    by_cases hlt : r < 4
    · have hltd : decide ((r : Int) < 4) = true := by simp; omega
      go_wp2_with fail
      refine (HLR.out r hlt wr).mono ?_
      rintro e w2 ⟨q, c3, rfl, hrow, hqb, hb2⟩
      obtain ⟨qb, qo, rfl, _, _⟩ := hrow.inside (by rw [HSL.out r hlt]; omega)
      have hqb : w.heap.size < qb := Nat.lt_of_lt_of_le hwz (hqb _ rfl)
      have HO2 := Lib.hid (HO.out.below hb2 (Nat.le_refl _))
      have HB3 := Lib.hid (HBB.out.trans (hb2.mono HBB.out.size))
      have HRW := Lib.hid hrow
      clear hrow hb2
      go_wp2_with fail
      go_loopw [10] (fun i wx => ∃ (k : Nat) (L : List Int), k ≤ 4 ∧ i = .int .i64 k ∧ L.length = 16 ∧ Fil rowsA0 (fun r i => i * 4 + r) 4 r k L ∧ Own w.heap.size wx (some ⟨w.heap.size, 0, none⟩) 16 L ∧ Below w.heap.size w wx ∧ Row wx (some ⟨qb, qo, none⟩) (rowsA0.getD r [])) (fun i _ => 4 - (intOf i).toNat)
      case atStart => exact ⟨0, L, Nat.zero_le _, rfl, HLL.out, HFI.out, HO2.out, HB3.out, HRW.out⟩
      case round =>
        clear HO2 HB3 HRW HFI HLL HBB HO
        obtain ⟨k, L, hk, rfl, hLl, hfi, ho, hb, hrow⟩ := hrel
        by_cases hlt2 : k < 4
        · have hltd2 : decide ((k : Int) < 4) = true := by simp; omega
          obtain ⟨s, hs⟩ : ∃ s, s = k * 4 := ⟨_, rfl⟩
          obtain ⟨j, hj⟩ : ∃ j, j = s + r := ⟨_, rfl⟩
          have e1 : IntKind.i64.wrap ((k : Int) * 4) = (s : Int) := by rw [IntWalk.i64_in _ (by omega)]; omega
          have e2 : IntKind.i64.wrap ((s : Int) + (r : Int)) = (j : Int) := by rw [IntWalk.i64_in _ (by omega)]; omega
          have hjM : j < 16 := by omega
          have HJ : Hid (j = k * 4 + r) := Lib.hid (by omega)
          have c1 := ho.cellAt (i := j) (by omega)
          have fz := ho.frozenAt j
          have c2 : wr.cell? ⟨qb, qo + k, none⟩ = some (.int .i64 (ent rowsA0 r k)) := by
            obtain ⟨_, _, e9, h9⟩ := hrow.at_ (i := k) (by rw [HSL.out r hlt]; exact hlt2)
            cases e9
            exact h9
          have hF0 := hfi.step (i := k) (r := r) (fun r' i' h1 h2 h3 => by first | omega | (simp only at h3; omega)) (by show k * 4 + r < L.length; omega)
          have hF : Fil rowsA0 (fun r i => i * 4 + r) 4 r (k + 1) (L.set j (ent rowsA0 r k)) := by rw [HJ.out]; exact hF0
          clear hF0
          have hO := ho.stored j (ent rowsA0 r k)
          have hBn := hb.setCell (p := ⟨w.heap.size, j, none⟩) (Nat.le_refl _) (.int .i64 (ent rowsA0 r k))
          have hRn := hrow.farB (p := ⟨w.heap.size, j, none⟩) (Nat.ne_of_lt hqb) (.int .i64 (ent rowsA0 r k))
          have HLn : Hid ((L.set j (ent rowsA0 r k)).length = 16) := Lib.hid (by rw [List.length_set]; exact hLl)
          generalize L.set j (ent rowsA0 r k) = L2 at *
          generalize ent rowsA0 r k = x at *
          have H1 := Lib.hid hF
          have H2 := Lib.hid hO
          have H3 := Lib.hid hBn
          have H4 := Lib.hid hRn
          have z1 : (j : Int) < 16 := by omega
          have z3 : (k : Int) < 4 := by omega
          clear hF hO hBn hRn hfi ho hb hrow hs hj hLl
          go_wp2
          go_roundw
          case rel => exact ⟨k + 1, L2, by omega, by go_num, HLn.out, H1.out, H2.out, H3.out, H4.out⟩
          case measure => simp [intOf]; omega
        · have hkN : k = 4 := by omega
          subst hkN
          have H1 := Lib.hid hfi.next
          have H2 := Lib.hid ho
          have H3 := Lib.hid hb
          have H4 := Lib.hid hLl
          clear hfi ho hb hrow hLl
          go_wp2
          go_roundw
          case rel => exact ⟨r + 1, L, by omega, by go_num, H4.out, H1.out, H2.out, H3.out⟩
          case measure => simp [intOf]; omega
    · have hrN : r = 4 := by omega
      have hltd : decide ((r : Int) < 4) = false := by simp; omega
      rw [hrN] at HFI
      have HLg := HGT.out L HLL.out HFI.out
      rw [HLg] at HO
      have HT0 : Hid (Thr w w.heap.size wr.heap.size (wr.heap.size + 1) 16 (tab g 16) (List.replicate 16 0) (List.replicate 16 0) ((wr.alloc (.cells (madeCells #[Value.int .i64 0] 16) 3)).alloc (.cells (madeCells #[Value.int .i64 0] 16) 3))) := Lib.hid (Thr.start w wr w.heap.size 16 (tab g 16) (by omega) HBB.out HO.out)
      clear HFI HLL HBB HO HLg hr hlt HGT hrN
      go_wp2_with fail
      obtain ⟨wz, hwz2⟩ : ∃ wz : World, wz = (wr.alloc (.cells (madeCells #[Value.int .i64 0] 16) 3)).alloc (.cells (madeCells #[Value.int .i64 0] 16) 3) := ⟨_, rfl⟩
      obtain ⟨h, hh⟩ : ∃ h, h = wr.heap.size := ⟨_, rfl⟩
      obtain ⟨o, hoo⟩ : ∃ o, o = h + 1 := ⟨_, rfl⟩
      rw [← hwz2, ← hh, ← hoo, ← stu_zero f 16] at HT0
      have HT : Hid (Thr w w.heap.size h o 16 (tab g 16) (stu f 16 0) (stu f2 16 0) wz) := Lib.hid (by rw [stu_zero f2, ← stu_zero f]; exact HT0.out)
      rw [← hwz2, ← hh, ← hoo]
      clear hwz2 hh hoo HT0 hmk hwz
      go_loopw [13] (fun i wr => ∃ r : Nat, r ≤ 4 ∧ i = .int .i64 r ∧ Thr w w.heap.size h o 16 (tab g 16) (stu f 16 (r * 4)) (stu f2 16 0) wr) (fun i _ => 4 - (intOf i).toNat)
      case atStart => exact ⟨0, Nat.zero_le _, rfl, HT.out⟩
      case round =>
        clear HT
        obtain ⟨r, hr, rfl, T⟩ := hrel
        have HT := Lib.hid T
        clear T
        by_cases hlt : r < 4
        · have hltd : decide ((r : Int) < 4) = true := by simp; omega
          obtain ⟨rn, hrn⟩ : ∃ rn, rn = r * 4 := ⟨_, rfl⟩
          have e1 : IntKind.i64.wrap ((r : Int) * 4) = (rn : Int) := by rw [IntWalk.i64_in _ (by omega)]; omega
          have HRN := Lib.hid hrn
          rw [← hrn] at HT
          have hrb : rn + 4 ≤ 16 := by omega
          clear hrn
          go_wp2_with fail
          obtain ⟨wz, hwz⟩ : ∃ wz : World, wz = wr := ⟨_, rfl⟩
          rw [← hwz] at HT ⊢
          clear hwz
          go_loopw [14] (fun i wr => ∃ k : Nat, k ≤ 4 ∧ i = .int .i64 k ∧ Thr w w.heap.size h o 16 (tab g 16) (stu f 16 (rn + k)) (stu f2 16 0) wr) (fun i _ => 4 - (intOf i).toNat)
          case atStart => exact ⟨0, Nat.zero_le _, rfl, HT.out⟩
          case round =>
            clear HT
            obtain ⟨k, hk, rfl, T⟩ := hrel
            have HT := Lib.hid T
            clear T
            by_cases hlt2 : k < 4
            · have hltd2 : decide ((k : Int) < 4) = true := by simp; omega
              obtain ⟨t, ht⟩ : ∃ t, t = rn + k := ⟨_, rfl⟩
              have e2 : IntKind.i64.wrap ((rn : Int) + (k : Int)) = (t : Int) := by rw [IntWalk.i64_in _ (by omega)]; omega
              rw [← ht, ← st_zero f (t := t) (by omega)] at HT
              have HTT := Lib.hid ht
              have htM : t < 16 := by omega
              clear ht
              go_wp2_with fail
              obtain ⟨wz, hwz⟩ : ∃ wz : World, wz = wr := ⟨_, rfl⟩
              rw [← hwz] at HT ⊢
              clear hwz
              go_loopw [15] (fun i wr => ∃ j : Nat, j ≤ 4 ∧ i = .int .i64 j ∧ Thr w w.heap.size h o 16 (tab g 16) (st f 16 t (sumN (fun i => ent rowsA r i * l.getD (i * 4 + k) 0) j)) (stu f2 16 0) wr) (fun i _ => 4 - (intOf i).toNat)
              case atStart => exact ⟨0, Nat.zero_le _, rfl, HT.out⟩
              case round =>
                clear HT
                obtain ⟨i, hi, rfl, T⟩ := hrel
                by_cases hlt3 : i < 4
                · obtain ⟨jm, hjm⟩ : ∃ jm, jm = rn + i := ⟨_, rfl⟩
                  have e7 : IntKind.i64.wrap ((rn : Int) + (i : Int)) = (jm : Int) := by rw [IntWalk.i64_in _ (by omega)]; omega
                  have hjmM : jm < 16 := by omega
                  have m3' := T.mat.cellAt (i := jm) (by rw [tab_len]; omega)
                  rw [tab_getD _ _ _ hjmM] at m3'
                  obtain ⟨s, hs⟩ : ∃ s, s = i * 4 := ⟨_, rfl⟩
                  obtain ⟨j, hj⟩ : ∃ j, j = s + k := ⟨_, rfl⟩
                  have e3 : IntKind.i64.wrap ((i : Int) * 4) = (s : Int) := by rw [IntWalk.i64_in _ (by omega)]; omega
                  have e4 : IntKind.i64.wrap ((s : Int) + (k : Int)) = (j : Int) := by rw [IntWalk.i64_in _ (by omega)]; omega
                  have hjM : j < 16 := by omega
                  have c1 := (bcell T.bel b (off + j) hbk).trans (HC.out j hjM)
                  have c2 := T.one.cellAt (i := t) (by rw [st_len _ (by omega)]; omega)
                  rw [st_get _ htM] at c2
                  have fz := T.one.frozenAt t
                  obtain ⟨x, hx⟩ : ∃ x, x = ent rowsA r i := ⟨_, rfl⟩
                  have hgx : g jm = x := by rw [hjm, HRN.out, HG.out r i hlt3, hx]
                  rw [hgx] at m3'
                  obtain ⟨y, hy⟩ : ∃ y, y = l.getD j 0 := ⟨_, rfl⟩
                  obtain ⟨v, hv⟩ : ∃ v, v = sumN (fun i => ent rowsA r i * l.getD (i * 4 + k) 0) i := ⟨_, rfl⟩
                  have bx := HE.out r hlt i hlt3
                  have bY := HLB.out j (by omega)
                  have bv := HB.out r k hlt hlt2 i (by omega)
                  rw [← hx] at bx
                  rw [← hy] at c1 bY
                  rw [← hv] at c2 bv
                  have bz := mul_bd2 bx bY
                  have HS : Hid (sumN (fun i => ent rowsA r i * l.getD (i * 4 + k) 0) (i + 1) = v + x * y) := Lib.hid (by rw [sumN, ← hv, ← hx, ← hs, ← hj, ← hy])
                  obtain ⟨z, hz⟩ : ∃ z, z = x * y := ⟨_, rfl⟩
                  rw [← hz] at HS bz
                  have e5 : IntKind.i64.wrap (x * y) = z := by rw [← hz]; exact IntWalk.i64_in _ (by omega)
                  have e6 : IntKind.i64.wrap (v + z) = v + z := IntWalk.i64_in _ (by omega)
                  have T2 := T.set1 t (v + z)
                  rw [st_set] at T2
                  have HN := Lib.hid T2
                  have z0 : (jm : Int) < 16 := by omega
                  have z1 : (t : Int) < 16 := by omega
                  have z2 : (j : Int) < 16 := by omega
                  have z3 : (i : Int) < 4 := by omega
                  have z4 : (r : Int) < 4 := by omega
                  have z5 : (k : Int) < 4 := by omega
                  clear T T2 hs hj hx hy hv hz bx bY bv bz hjm hgx
                  go_wp2_with fail
                  go_still_tail 33, (by kernel_rfl)
                  change wpList _ _ _ _ _ wr.drew
                  go_wp2
                  go_roundw
                  case rel => exact ⟨i + 1, by omega, by go_num, by rw [HS.out]; exact HN.out.drew⟩
                  case measure => simp [intOf]; omega
                · obtain rfl : i = 4 := by omega
                  have HE2 : Hid (sumN (fun i => ent rowsA r i * l.getD (i * 4 + k) 0) 4 = f t) := Lib.hid (by rw [HTT.out, HRN.out, HF.out r k hlt2])
                  rw [HE2.out, st_done _ htM] at T
                  have HT := Lib.hid T
                  clear T
                  go_wp2_with fail
                  go_roundw
                  case rel => exact ⟨k + 1, by omega, by go_num, by rw [← Nat.add_assoc, ← HTT.out]; exact HT.out⟩
                  case measure => simp [intOf]; omega
            · obtain rfl : k = 4 := by omega
              go_wp2_with fail
              go_roundw
              case rel => exact ⟨r + 1, by omega, by go_num, by rw [show (r + 1) * 4 = rn + 4 from by rw [HRN.out]; omega]; exact HT.out⟩
              case measure => simp [intOf]; omega
        · have hrN : r = 4 := by omega
          have hltd : decide ((r : Int) < 4) = false := by simp; omega
          rw [hrN, show 4 * 4 = 16 from rfl] at HT
          clear hr hlt
          clear hrN
          go_wp2_with fail
          obtain ⟨wz, hwz⟩ : ∃ wz : World, wz = wr := ⟨_, rfl⟩
          rw [← hwz] at HT ⊢
          clear hwz
          go_loopw [16] (fun i wr => ∃ r : Nat, r ≤ 4 ∧ i = .int .i64 r ∧ Thr w w.heap.size h o 16 (tab g 16) (stu f 16 16) (stu f2 16 (r * 4)) wr) (fun i _ => 4 - (intOf i).toNat)
          case atStart => exact ⟨0, Nat.zero_le _, rfl, HT.out⟩
          case round =>
            clear HT
            obtain ⟨r, hr, rfl, T⟩ := hrel
            have HT := Lib.hid T
            clear T
            by_cases hlt : r < 4
            · have hltd : decide ((r : Int) < 4) = true := by simp; omega
              obtain ⟨rn, hrn⟩ : ∃ rn, rn = r * 4 := ⟨_, rfl⟩
              have e1 : IntKind.i64.wrap ((r : Int) * 4) = (rn : Int) := by rw [IntWalk.i64_in _ (by omega)]; omega
              have HRN := Lib.hid hrn
              rw [← hrn] at HT
              have hrb : rn + 4 ≤ 16 := by omega
              clear hrn
              go_wp2_with fail
              obtain ⟨wz, hwz⟩ : ∃ wz : World, wz = wr := ⟨_, rfl⟩
              rw [← hwz] at HT ⊢
              clear hwz
              go_loopw [17] (fun i wr => ∃ k : Nat, k ≤ 4 ∧ i = .int .i64 k ∧ Thr w w.heap.size h o 16 (tab g 16) (stu f 16 16) (stu f2 16 (rn + k)) wr) (fun i _ => 4 - (intOf i).toNat)
              case atStart => exact ⟨0, Nat.zero_le _, rfl, HT.out⟩
              case round =>
                clear HT
                obtain ⟨k, hk, rfl, T⟩ := hrel
                have HT := Lib.hid T
                clear T
                by_cases hlt2 : k < 4
                · have hltd2 : decide ((k : Int) < 4) = true := by simp; omega
                  obtain ⟨t, ht⟩ : ∃ t, t = rn + k := ⟨_, rfl⟩
                  have e2 : IntKind.i64.wrap ((rn : Int) + (k : Int)) = (t : Int) := by rw [IntWalk.i64_in _ (by omega)]; omega
                  rw [← ht, ← st_zero f2 (t := t) (by omega)] at HT
                  have HTT := Lib.hid ht
                  have htM : t < 16 := by omega
                  clear ht
                  go_wp2_with fail
                  obtain ⟨wz, hwz⟩ : ∃ wz : World, wz = wr := ⟨_, rfl⟩
                  rw [← hwz] at HT ⊢
                  clear hwz
                  go_loopw [18] (fun i wr => ∃ j : Nat, j ≤ 4 ∧ i = .int .i64 j ∧ Thr w w.heap.size h o 16 (tab g 16) (stu f 16 16) (st f2 16 t (sumN (fun i => f (r * 4 + i) * ent rowsA k i) j)) wr) (fun i _ => 4 - (intOf i).toNat)
                  case atStart => exact ⟨0, Nat.zero_le _, rfl, HT.out⟩
                  case round =>
                    clear HT
                    obtain ⟨i, hi, rfl, T⟩ := hrel
                    by_cases hlt3 : i < 4
                    · obtain ⟨xs, hxs⟩ : ∃ xs, xs = k * 4 := ⟨_, rfl⟩
                      obtain ⟨jm, hjm⟩ : ∃ jm, jm = xs + i := ⟨_, rfl⟩
                      have e8 : IntKind.i64.wrap ((k : Int) * 4) = (xs : Int) := by rw [IntWalk.i64_in _ (by omega)]; omega
                      have e7 : IntKind.i64.wrap ((xs : Int) + (i : Int)) = (jm : Int) := by rw [IntWalk.i64_in _ (by omega)]; omega
                      have hjmM : jm < 16 := by omega
                      have m3' := T.mat.cellAt (i := jm) (by rw [tab_len]; omega)
                      rw [tab_getD _ _ _ hjmM] at m3'
                      obtain ⟨j, hj⟩ : ∃ j, j = rn + i := ⟨_, rfl⟩
                      have e4 : IntKind.i64.wrap ((rn : Int) + (i : Int)) = (j : Int) := by rw [IntWalk.i64_in _ (by omega)]; omega
                      have hjM : j < 16 := by omega
                      have c1 := T.one.cellAt (i := j) (by rw [stu_len _ (by omega)]; omega)
                      rw [stu_all, tab_getD _ _ _ hjM] at c1
                      have c2 := T.two.cellAt (i := t) (by rw [st_len _ (by omega)]; omega)
                      rw [st_get _ htM] at c2
                      have fz := T.two.frozenAt t
                      obtain ⟨x, hx⟩ : ∃ x, x = ent rowsA k i := ⟨_, rfl⟩
                      have hgx : g jm = x := by rw [hjm, hxs, HG.out k i hlt3, hx]
                      rw [hgx] at m3'
                      obtain ⟨y, hy⟩ : ∃ y, y = f j := ⟨_, rfl⟩
                      obtain ⟨v, hv⟩ : ∃ v, v = sumN (fun i => f (r * 4 + i) * ent rowsA k i) i := ⟨_, rfl⟩
                      have bx := HE.out k hlt2 i hlt3
                      have bY := HB1.out r i hlt hlt3
                      rw [← HRN.out, ← hj] at bY
                      have bv := HB2.out r k hlt hlt2 i (by omega)
                      rw [← hx] at bx
                      rw [← hy] at c1 bY
                      rw [← hv] at c2 bv
                      have bz := mul_bd2 bx bY
                      rw [Int.mul_comm x y] at bz
                      have HS : Hid (sumN (fun i => f (r * 4 + i) * ent rowsA k i) (i + 1) = v + y * x) := Lib.hid (by rw [sumN, ← hv, ← hx, ← HRN.out, ← hj, ← hy])
                      obtain ⟨z, hz⟩ : ∃ z, z = y * x := ⟨_, rfl⟩
                      rw [← hz] at HS bz
                      have e5 : IntKind.i64.wrap (y * x) = z := by rw [← hz]; exact IntWalk.i64_in _ (by omega)
                      have e6 : IntKind.i64.wrap (v + z) = v + z := IntWalk.i64_in _ (by omega)
                      have T2 := T.set2 t (v + z)
                      rw [st_set] at T2
                      have HN := Lib.hid T2
                      have z0 : (jm : Int) < 16 := by omega
                      have z1 : (t : Int) < 16 := by omega
                      have z2 : (j : Int) < 16 := by omega
                      have z3 : (i : Int) < 4 := by omega
                      have z4 : (r : Int) < 4 := by omega
                      have z5 : (k : Int) < 4 := by omega
                      clear T T2 hj hx hy hv hz bx bY bv bz hjm hxs hgx
                      go_wp2_with fail
                      go_still_tail 33, (by kernel_rfl)
                      change wpList _ _ _ _ _ wr.drew
                      go_wp2
                      go_roundw
                      case rel => exact ⟨i + 1, by omega, by go_num, by rw [HS.out]; exact HN.out.drew⟩
                      case measure => simp [intOf]; omega
                    · obtain rfl : i = 4 := by omega
                      have HE2 : Hid (sumN (fun i => f (r * 4 + i) * ent rowsA k i) 4 = f2 t) := Lib.hid (by rw [HTT.out, HRN.out, HF2.out r k hlt2])
                      rw [HE2.out, st_done _ htM] at T
                      have HT := Lib.hid T
                      clear T
                      go_wp2_with fail
                      go_roundw
                      case rel => exact ⟨k + 1, by omega, by go_num, by rw [← Nat.add_assoc, ← HTT.out]; exact HT.out⟩
                      case measure => simp [intOf]; omega
                · obtain rfl : k = 4 := by omega
                  go_wp2_with fail
                  go_roundw
                  case rel => exact ⟨r + 1, by omega, by go_num, by rw [show (r + 1) * 4 = rn + 4 from by rw [HRN.out]; omega]; exact HT.out⟩
                  case measure => simp [intOf]; omega
            · have hrN : r = 4 := by omega
              have hltd : decide ((r : Int) < 4) = false := by simp; omega
              rw [hrN, show 4 * 4 = 16 from rfl] at HT
              clear hr hlt
              rw [stu_all f2] at HT
              go_wp2
              go_ret
              exact ⟨_, _, rfl, HT.out.two, HT.out.bel⟩
set_option maxRecDepth 100000 in
set_option maxHeartbeats 8000000 in
theorem l12Mul_8 (a : Option Addr) (c2 : Nat) (l : List Int) (w : World) (hl : l.length = 64) (hall : allR (-1000000000) 1000000000 l = true) (hr : Row w a l) :
    Calls Try.prog 51 #[.slice a 64 c2, .int .i64 8, .bool false] w fun e w' => ∃ b d, e = .returned (.slice b 64 d) ∧ Own w.heap.size w' b d (prodL (ent rowsH) l 8) ∧ Below w.heap.size w w' := by
  have hmk : ∀ w : World, (Instr.makeSlice 22 (.int .i64 64) (.int .i64 64)).run Try.prog w = .ok (.slice (some ⟨w.heap.size, 0, none⟩) 64 64) (w.alloc (.cells (madeCells (Value.int .i64 0).cells 64) 3)) := fun _ => by kernel_rfl
  have hent := ent_bd8
  have HLB : Hid (∀ i, i < l.length → -1000000000 ≤ l.getD i 0 ∧ l.getD i 0 ≤ 1000000000) := Lib.hid (fun i h => allR_at hall h)
  obtain ⟨b, off, rfl, hbk, hc⟩ := hr.inside (by omega)
  rw [hl] at hc HLB
  have HC := Lib.hid hc
  have HE := Lib.hid hent
  obtain ⟨g, hg⟩ : ∃ g : Nat → Int, g = fun j => ent rowsH (j / 8) (j % 8) := ⟨_, rfl⟩
  have HG : Hid (∀ r k, k < 8 → g (r * 8 + k) = ent rowsH r k) := Lib.hid (fun r k h => by rw [hg]; show ent rowsH ((r * 8 + k) / 8) ((r * 8 + k) % 8) = _; rw [show (r * 8 + k) / 8 = r by omega, show (r * 8 + k) % 8 = k by omega])
  have HGT : Hid (∀ L : List Int, L.length = 64 → Fil rowsH (fun r i => r * 8 + i) 8 8 0 L → L = tab g 64) := Lib.hid (fun L h1 h2 => by
    rw [tab_of L 64 h1]
    refine tab_congr fun i hi => ?_
    rw [hg]
    show L.getD i 0 = ent rowsH (i / 8) (i % 8)
    have h3 := h2 (i / 8) (i % 8) (by omega) (by omega) (.inl (by omega))
    rw [← h3]
    show _ = L.getD (i / 8 * 8 + i % 8) 0
    rw [show i / 8 * 8 + i % 8 = i by omega])
  obtain ⟨f, hf⟩ : ∃ f : Nat → Int, f = fun j => halfAt (ent rowsH) l 8 (j / 8) (j % 8) := ⟨_, rfl⟩
  have HF : Hid (∀ r k, k < 8 → f (r * 8 + k) = sumN (fun i => ent rowsH r i * l.getD (i * 8 + k) 0) 8) := Lib.hid (fun r k h => by rw [hf]; show halfAt (ent rowsH) l 8 ((r * 8 + k) / 8) ((r * 8 + k) % 8) = _; rw [show (r * 8 + k) / 8 = r by omega, show (r * 8 + k) % 8 = k by omega]; rfl)
  obtain ⟨f2, hf2⟩ : ∃ f2 : Nat → Int, f2 = fun j => prodAt (ent rowsH) l 8 (j / 8) (j % 8) := ⟨_, rfl⟩
  have HF2 : Hid (∀ r k, k < 8 → f2 (r * 8 + k) = sumN (fun i => f (r * 8 + i) * ent rowsH k i) 8) := Lib.hid (fun r k h => by
    rw [hf2]
    show prodAt (ent rowsH) l 8 ((r * 8 + k) / 8) ((r * 8 + k) % 8) = _
    rw [show (r * 8 + k) / 8 = r by omega, show (r * 8 + k) % 8 = k by omega]
    unfold prodAt
    apply sumN_congr
    intro i hi
    rw [HF.out r i hi]
    rfl)
  have HEND : Hid (prodL (ent rowsH) l 8 = tab f2 64) := Lib.hid (by rw [hf2]; rfl)
  have HB : Hid (∀ r k, r < 8 → k < 8 → ∀ m, m ≤ 8 → -(m * (2 * 1000000000)) ≤ sumN (fun i => ent rowsH r i * l.getD (i * 8 + k) 0) m ∧ sumN (fun i => ent rowsH r i * l.getD (i * 8 + k) 0) m ≤ m * (2 * 1000000000)) := Lib.hid (fun r k h1 h2 m hm => halfAt_bd (n := 8) (fun j hj => hent r h1 j hj) (fun j hj => HLB.out _ (by omega)) m hm)
  have HB1 : Hid (∀ r i, r < 8 → i < 8 → -16000000000 ≤ f (r * 8 + i) ∧ f (r * 8 + i) ≤ 16000000000) := Lib.hid (fun r i h1 h2 => by rw [HF.out r i h2]; have := HB.out r i h1 h2 8 (Nat.le_refl _); omega)
  have HB2 : Hid (∀ r k, r < 8 → k < 8 → ∀ m, m ≤ 8 → -(m * (2 * 16000000000)) ≤ sumN (fun i => f (r * 8 + i) * ent rowsH k i) m ∧ sumN (fun i => f (r * 8 + i) * ent rowsH k i) m ≤ m * (2 * 16000000000)) := Lib.hid (fun r k h1 h2 m hm => sumN_bd (fun i hi => by rw [Int.mul_comm (f (r * 8 + i))]; exact mul_bd2 (hent k h2 i (by omega)) (HB1.out r i h1 (by omega))))
  have HSL : Hid (∀ r, r < 8 → (rowsH.getD r []).length = 8) := Lib.hid (by decide)
  have HK0 : Hid (Below w.heap.size w (w.alloc (.cells (madeCells (Value.int .i64 0).cells 64) 3)) ∧ Own w.heap.size (w.alloc (.cells (madeCells (Value.int .i64 0).cells 64) 3)) (some ⟨w.heap.size, 0, none⟩) 64 (List.replicate 64 0)) := Lib.hid ⟨(Below.refl _ _).alloc (Nat.le_refl _) _, Own.zeros w 64 (Nat.le_refl _) (by omega)⟩
  have HLR := Lib.hid l12Row_8
  rw [HEND.out]
  clear hr hall hc hent hf hf2 hg HEND
  go_enter Try.func51, Try.ntmps51
  go_wp2
  go_loopw [8] (fun i wr => ∃ (r : Nat) (L : List Int), r ≤ 8 ∧ i = .int .i64 r ∧ L.length = 64 ∧ Fil rowsH (fun r i => r * 8 + i) 8 r 0 L ∧ Own w.heap.size wr (some ⟨w.heap.size, 0, none⟩) 64 L ∧ Below w.heap.size w wr) (fun i _ => 8 - (intOf i).toNat)
  case atStart => exact ⟨0, List.replicate 64 0, Nat.zero_le _, rfl, by simp, Fil.start _ _ _ _, HK0.out.2, HK0.out.1⟩
  case round =>
    clear HK0
    obtain ⟨r, L, hr, rfl, hLl, hfi, ho, hb⟩ := hrel
    have HFI := Lib.hid hfi
    have HO := Lib.hid ho
    have HBB := Lib.hid hb
    have hwz : w.heap.size < wr.heap.size := (ho.lt _ rfl).2
    have HLL := Lib.hid hLl
    clear hfi ho hb hLl
    by_cases hlt : r < 8
    · have hltd : decide ((r : Int) < 8) = true := by simp; omega
      go_wp2_with fail
      refine (HLR.out r hlt wr).mono ?_
      rintro e w2 ⟨q, c3, rfl, hrow, hqb, hb2⟩
      obtain ⟨qb, qo, rfl, _, _⟩ := hrow.inside (by rw [HSL.out r hlt]; omega)
      have hqb : w.heap.size < qb := Nat.lt_of_lt_of_le hwz (hqb _ rfl)
      have HO2 := Lib.hid (HO.out.below hb2 (Nat.le_refl _))
      have HB3 := Lib.hid (HBB.out.trans (hb2.mono HBB.out.size))
      have HRW := Lib.hid hrow
      clear hrow hb2
      go_wp2_with fail
      go_loopw [10] (fun i wx => ∃ (k : Nat) (L : List Int), k ≤ 8 ∧ i = .int .i64 k ∧ L.length = 64 ∧ Fil rowsH (fun r i => r * 8 + i) 8 r k L ∧ Own w.heap.size wx (some ⟨w.heap.size, 0, none⟩) 64 L ∧ Below w.heap.size w wx ∧ Row wx (some ⟨qb, qo, none⟩) (rowsH.getD r [])) (fun i _ => 8 - (intOf i).toNat)
      case atStart => exact ⟨0, L, Nat.zero_le _, rfl, HLL.out, HFI.out, HO2.out, HB3.out, HRW.out⟩
      case round =>
        clear HO2 HB3 HRW HFI HLL HBB HO
        obtain ⟨k, L, hk, rfl, hLl, hfi, ho, hb, hrow⟩ := hrel
        by_cases hlt2 : k < 8
        · have hltd2 : decide ((k : Int) < 8) = true := by simp; omega
          obtain ⟨s, hs⟩ : ∃ s, s = r * 8 := ⟨_, rfl⟩
          obtain ⟨j, hj⟩ : ∃ j, j = s + k := ⟨_, rfl⟩
          have e1 : IntKind.i64.wrap ((r : Int) * 8) = (s : Int) := by rw [IntWalk.i64_in _ (by omega)]; omega
          have e2 : IntKind.i64.wrap ((s : Int) + (k : Int)) = (j : Int) := by rw [IntWalk.i64_in _ (by omega)]; omega
          have hjM : j < 64 := by omega
          have HJ : Hid (j = r * 8 + k) := Lib.hid (by omega)
          have c1 := ho.cellAt (i := j) (by omega)
          have fz := ho.frozenAt j
          have c2 : wr.cell? ⟨qb, qo + k, none⟩ = some (.int .i64 (ent rowsH r k)) := by
            obtain ⟨_, _, e9, h9⟩ := hrow.at_ (i := k) (by rw [HSL.out r hlt]; exact hlt2)
            cases e9
            exact h9
          have hF0 := hfi.step (i := k) (r := r) (fun r' i' h1 h2 h3 => by first | omega | (simp only at h3; omega)) (by show r * 8 + k < L.length; omega)
          have hF : Fil rowsH (fun r i => r * 8 + i) 8 r (k + 1) (L.set j (ent rowsH r k)) := by rw [HJ.out]; exact hF0
          clear hF0
          have hO := ho.stored j (ent rowsH r k)
          have hBn := hb.setCell (p := ⟨w.heap.size, j, none⟩) (Nat.le_refl _) (.int .i64 (ent rowsH r k))
          have hRn := hrow.farB (p := ⟨w.heap.size, j, none⟩) (Nat.ne_of_lt hqb) (.int .i64 (ent rowsH r k))
          have HLn : Hid ((L.set j (ent rowsH r k)).length = 64) := Lib.hid (by rw [List.length_set]; exact hLl)
          generalize L.set j (ent rowsH r k) = L2 at *
          generalize ent rowsH r k = x at *
          have H1 := Lib.hid hF
          have H2 := Lib.hid hO
          have H3 := Lib.hid hBn
          have H4 := Lib.hid hRn
          have z1 : (j : Int) < 64 := by omega
          have z3 : (k : Int) < 8 := by omega
          clear hF hO hBn hRn hfi ho hb hrow hs hj hLl
          go_wp2
          go_roundw
          case rel => exact ⟨k + 1, L2, by omega, by go_num, HLn.out, H1.out, H2.out, H3.out, H4.out⟩
          case measure => simp [intOf]; omega
        · have hkN : k = 8 := by omega
          subst hkN
          have H1 := Lib.hid hfi.next
          have H2 := Lib.hid ho
          have H3 := Lib.hid hb
          have H4 := Lib.hid hLl
          clear hfi ho hb hrow hLl
          go_wp2
          go_roundw
          case rel => exact ⟨r + 1, L, by omega, by go_num, H4.out, H1.out, H2.out, H3.out⟩
          case measure => simp [intOf]; omega
    · have hrN : r = 8 := by omega
      have hltd : decide ((r : Int) < 8) = false := by simp; omega
      rw [hrN] at HFI
      have HLg := HGT.out L HLL.out HFI.out
      rw [HLg] at HO
      have HT0 : Hid (Thr w w.heap.size wr.heap.size (wr.heap.size + 1) 64 (tab g 64) (List.replicate 64 0) (List.replicate 64 0) ((wr.alloc (.cells (madeCells #[Value.int .i64 0] 64) 3)).alloc (.cells (madeCells #[Value.int .i64 0] 64) 3))) := Lib.hid (Thr.start w wr w.heap.size 64 (tab g 64) (by omega) HBB.out HO.out)
      clear HFI HLL HBB HO HLg hr hlt HGT hrN
      go_wp2_with fail
      obtain ⟨wz, hwz2⟩ : ∃ wz : World, wz = (wr.alloc (.cells (madeCells #[Value.int .i64 0] 64) 3)).alloc (.cells (madeCells #[Value.int .i64 0] 64) 3) := ⟨_, rfl⟩
      obtain ⟨h, hh⟩ : ∃ h, h = wr.heap.size := ⟨_, rfl⟩
      obtain ⟨o, hoo⟩ : ∃ o, o = h + 1 := ⟨_, rfl⟩
      rw [← hwz2, ← hh, ← hoo, ← stu_zero f 64] at HT0
      have HT : Hid (Thr w w.heap.size h o 64 (tab g 64) (stu f 64 0) (stu f2 64 0) wz) := Lib.hid (by rw [stu_zero f2, ← stu_zero f]; exact HT0.out)
      rw [← hwz2, ← hh, ← hoo]
      clear hwz2 hh hoo HT0 hmk hwz
      go_loopw [13] (fun i wr => ∃ r : Nat, r ≤ 8 ∧ i = .int .i64 r ∧ Thr w w.heap.size h o 64 (tab g 64) (stu f 64 (r * 8)) (stu f2 64 0) wr) (fun i _ => 8 - (intOf i).toNat)
      case atStart => exact ⟨0, Nat.zero_le _, rfl, HT.out⟩
      case round =>
        clear HT
        obtain ⟨r, hr, rfl, T⟩ := hrel
        have HT := Lib.hid T
        clear T
        by_cases hlt : r < 8
        · have hltd : decide ((r : Int) < 8) = true := by simp; omega
          obtain ⟨rn, hrn⟩ : ∃ rn, rn = r * 8 := ⟨_, rfl⟩
          have e1 : IntKind.i64.wrap ((r : Int) * 8) = (rn : Int) := by rw [IntWalk.i64_in _ (by omega)]; omega
          have HRN := Lib.hid hrn
          rw [← hrn] at HT
          have hrb : rn + 8 ≤ 64 := by omega
          clear hrn
          go_wp2_with fail
          obtain ⟨wz, hwz⟩ : ∃ wz : World, wz = wr := ⟨_, rfl⟩
          rw [← hwz] at HT ⊢
          clear hwz
          go_loopw [14] (fun i wr => ∃ k : Nat, k ≤ 8 ∧ i = .int .i64 k ∧ Thr w w.heap.size h o 64 (tab g 64) (stu f 64 (rn + k)) (stu f2 64 0) wr) (fun i _ => 8 - (intOf i).toNat)
          case atStart => exact ⟨0, Nat.zero_le _, rfl, HT.out⟩
          case round =>
            clear HT
            obtain ⟨k, hk, rfl, T⟩ := hrel
            have HT := Lib.hid T
            clear T
            by_cases hlt2 : k < 8
            · have hltd2 : decide ((k : Int) < 8) = true := by simp; omega
              obtain ⟨t, ht⟩ : ∃ t, t = rn + k := ⟨_, rfl⟩
              have e2 : IntKind.i64.wrap ((rn : Int) + (k : Int)) = (t : Int) := by rw [IntWalk.i64_in _ (by omega)]; omega
              rw [← ht, ← st_zero f (t := t) (by omega)] at HT
              have HTT := Lib.hid ht
              have htM : t < 64 := by omega
              clear ht
              go_wp2_with fail
              obtain ⟨wz, hwz⟩ : ∃ wz : World, wz = wr := ⟨_, rfl⟩
              rw [← hwz] at HT ⊢
              clear hwz
              go_loopw [15] (fun i wr => ∃ j : Nat, j ≤ 8 ∧ i = .int .i64 j ∧ Thr w w.heap.size h o 64 (tab g 64) (st f 64 t (sumN (fun i => ent rowsH r i * l.getD (i * 8 + k) 0) j)) (stu f2 64 0) wr) (fun i _ => 8 - (intOf i).toNat)
              case atStart => exact ⟨0, Nat.zero_le _, rfl, HT.out⟩
              case round =>
                clear HT
                obtain ⟨i, hi, rfl, T⟩ := hrel
                by_cases hlt3 : i < 8
                · obtain ⟨jm, hjm⟩ : ∃ jm, jm = rn + i := ⟨_, rfl⟩
                  have e7 : IntKind.i64.wrap ((rn : Int) + (i : Int)) = (jm : Int) := by rw [IntWalk.i64_in _ (by omega)]; omega
                  have hjmM : jm < 64 := by omega
                  have m3' := T.mat.cellAt (i := jm) (by rw [tab_len]; omega)
                  rw [tab_getD _ _ _ hjmM] at m3'
                  obtain ⟨s, hs⟩ : ∃ s, s = i * 8 := ⟨_, rfl⟩
                  obtain ⟨j, hj⟩ : ∃ j, j = s + k := ⟨_, rfl⟩
                  have e3 : IntKind.i64.wrap ((i : Int) * 8) = (s : Int) := by rw [IntWalk.i64_in _ (by omega)]; omega
                  have e4 : IntKind.i64.wrap ((s : Int) + (k : Int)) = (j : Int) := by rw [IntWalk.i64_in _ (by omega)]; omega
                  have hjM : j < 64 := by omega
                  have c1 := (bcell T.bel b (off + j) hbk).trans (HC.out j hjM)
                  have c2 := T.one.cellAt (i := t) (by rw [st_len _ (by omega)]; omega)
                  rw [st_get _ htM] at c2
                  have fz := T.one.frozenAt t
                  obtain ⟨x, hx⟩ : ∃ x, x = ent rowsH r i := ⟨_, rfl⟩
                  have hgx : g jm = x := by rw [hjm, HRN.out, HG.out r i hlt3, hx]
                  rw [hgx] at m3'
                  obtain ⟨y, hy⟩ : ∃ y, y = l.getD j 0 := ⟨_, rfl⟩
                  obtain ⟨v, hv⟩ : ∃ v, v = sumN (fun i => ent rowsH r i * l.getD (i * 8 + k) 0) i := ⟨_, rfl⟩
                  have bx := HE.out r hlt i hlt3
                  have bY := HLB.out j (by omega)
                  have bv := HB.out r k hlt hlt2 i (by omega)
                  rw [← hx] at bx
                  rw [← hy] at c1 bY
                  rw [← hv] at c2 bv
                  have bz := mul_bd2 bx bY
                  have HS : Hid (sumN (fun i => ent rowsH r i * l.getD (i * 8 + k) 0) (i + 1) = v + x * y) := Lib.hid (by rw [sumN, ← hv, ← hx, ← hs, ← hj, ← hy])
                  obtain ⟨z, hz⟩ : ∃ z, z = x * y := ⟨_, rfl⟩
                  rw [← hz] at HS bz
                  have e5 : IntKind.i64.wrap (x * y) = z := by rw [← hz]; exact IntWalk.i64_in _ (by omega)
                  have e6 : IntKind.i64.wrap (v + z) = v + z := IntWalk.i64_in _ (by omega)
                  have T2 := T.set1 t (v + z)
                  rw [st_set] at T2
                  have HN := Lib.hid T2
                  have z0 : (jm : Int) < 64 := by omega
                  have z1 : (t : Int) < 64 := by omega
                  have z2 : (j : Int) < 64 := by omega
                  have z3 : (i : Int) < 8 := by omega
                  have z4 : (r : Int) < 8 := by omega
                  have z5 : (k : Int) < 8 := by omega
                  clear T T2 hs hj hx hy hv hz bx bY bv bz hjm hgx
                  go_wp2_with fail
                  go_still_tail 33, (by kernel_rfl)
                  change wpList _ _ _ _ _ wr.drew
                  go_wp2
                  go_roundw
                  case rel => exact ⟨i + 1, by omega, by go_num, by rw [HS.out]; exact HN.out.drew⟩
                  case measure => simp [intOf]; omega
                · obtain rfl : i = 8 := by omega
                  have HE2 : Hid (sumN (fun i => ent rowsH r i * l.getD (i * 8 + k) 0) 8 = f t) := Lib.hid (by rw [HTT.out, HRN.out, HF.out r k hlt2])
                  rw [HE2.out, st_done _ htM] at T
                  have HT := Lib.hid T
                  clear T
                  go_wp2_with fail
                  go_roundw
                  case rel => exact ⟨k + 1, by omega, by go_num, by rw [← Nat.add_assoc, ← HTT.out]; exact HT.out⟩
                  case measure => simp [intOf]; omega
            · obtain rfl : k = 8 := by omega
              go_wp2_with fail
              go_roundw
              case rel => exact ⟨r + 1, by omega, by go_num, by rw [show (r + 1) * 8 = rn + 8 from by rw [HRN.out]; omega]; exact HT.out⟩
              case measure => simp [intOf]; omega
        · have hrN : r = 8 := by omega
          have hltd : decide ((r : Int) < 8) = false := by simp; omega
          rw [hrN, show 8 * 8 = 64 from rfl] at HT
          clear hr hlt
          clear hrN
          go_wp2_with fail
          obtain ⟨wz, hwz⟩ : ∃ wz : World, wz = wr := ⟨_, rfl⟩
          rw [← hwz] at HT ⊢
          clear hwz
          go_loopw [16] (fun i wr => ∃ r : Nat, r ≤ 8 ∧ i = .int .i64 r ∧ Thr w w.heap.size h o 64 (tab g 64) (stu f 64 64) (stu f2 64 (r * 8)) wr) (fun i _ => 8 - (intOf i).toNat)
          case atStart => exact ⟨0, Nat.zero_le _, rfl, HT.out⟩
          case round =>
            clear HT
            obtain ⟨r, hr, rfl, T⟩ := hrel
            have HT := Lib.hid T
            clear T
            by_cases hlt : r < 8
            · have hltd : decide ((r : Int) < 8) = true := by simp; omega
              obtain ⟨rn, hrn⟩ : ∃ rn, rn = r * 8 := ⟨_, rfl⟩
              have e1 : IntKind.i64.wrap ((r : Int) * 8) = (rn : Int) := by rw [IntWalk.i64_in _ (by omega)]; omega
              have HRN := Lib.hid hrn
              rw [← hrn] at HT
              have hrb : rn + 8 ≤ 64 := by omega
              clear hrn
              go_wp2_with fail
              obtain ⟨wz, hwz⟩ : ∃ wz : World, wz = wr := ⟨_, rfl⟩
              rw [← hwz] at HT ⊢
              clear hwz
              go_loopw [17] (fun i wr => ∃ k : Nat, k ≤ 8 ∧ i = .int .i64 k ∧ Thr w w.heap.size h o 64 (tab g 64) (stu f 64 64) (stu f2 64 (rn + k)) wr) (fun i _ => 8 - (intOf i).toNat)
              case atStart => exact ⟨0, Nat.zero_le _, rfl, HT.out⟩
              case round =>
                clear HT
                obtain ⟨k, hk, rfl, T⟩ := hrel
                have HT := Lib.hid T
                clear T
                by_cases hlt2 : k < 8
                · have hltd2 : decide ((k : Int) < 8) = true := by simp; omega
                  obtain ⟨t, ht⟩ : ∃ t, t = rn + k := ⟨_, rfl⟩
                  have e2 : IntKind.i64.wrap ((rn : Int) + (k : Int)) = (t : Int) := by rw [IntWalk.i64_in _ (by omega)]; omega
                  rw [← ht, ← st_zero f2 (t := t) (by omega)] at HT
                  have HTT := Lib.hid ht
                  have htM : t < 64 := by omega
                  clear ht
                  go_wp2_with fail
                  obtain ⟨wz, hwz⟩ : ∃ wz : World, wz = wr := ⟨_, rfl⟩
                  rw [← hwz] at HT ⊢
                  clear hwz
                  go_loopw [18] (fun i wr => ∃ j : Nat, j ≤ 8 ∧ i = .int .i64 j ∧ Thr w w.heap.size h o 64 (tab g 64) (stu f 64 64) (st f2 64 t (sumN (fun i => f (r * 8 + i) * ent rowsH k i) j)) wr) (fun i _ => 8 - (intOf i).toNat)
                  case atStart => exact ⟨0, Nat.zero_le _, rfl, HT.out⟩
                  case round =>
                    clear HT
                    obtain ⟨i, hi, rfl, T⟩ := hrel
                    by_cases hlt3 : i < 8
                    · obtain ⟨xs, hxs⟩ : ∃ xs, xs = k * 8 := ⟨_, rfl⟩
                      obtain ⟨jm, hjm⟩ : ∃ jm, jm = xs + i := ⟨_, rfl⟩
                      have e8 : IntKind.i64.wrap ((k : Int) * 8) = (xs : Int) := by rw [IntWalk.i64_in _ (by omega)]; omega
                      have e7 : IntKind.i64.wrap ((xs : Int) + (i : Int)) = (jm : Int) := by rw [IntWalk.i64_in _ (by omega)]; omega
                      have hjmM : jm < 64 := by omega
                      have m3' := T.mat.cellAt (i := jm) (by rw [tab_len]; omega)
                      rw [tab_getD _ _ _ hjmM] at m3'
                      obtain ⟨j, hj⟩ : ∃ j, j = rn + i := ⟨_, rfl⟩
                      have e4 : IntKind.i64.wrap ((rn : Int) + (i : Int)) = (j : Int) := by rw [IntWalk.i64_in _ (by omega)]; omega
                      have hjM : j < 64 := by omega
                      have c1 := T.one.cellAt (i := j) (by rw [stu_len _ (by omega)]; omega)
                      rw [stu_all, tab_getD _ _ _ hjM] at c1
                      have c2 := T.two.cellAt (i := t) (by rw [st_len _ (by omega)]; omega)
                      rw [st_get _ htM] at c2
                      have fz := T.two.frozenAt t
                      obtain ⟨x, hx⟩ : ∃ x, x = ent rowsH k i := ⟨_, rfl⟩
                      have hgx : g jm = x := by rw [hjm, hxs, HG.out k i hlt3, hx]
                      rw [hgx] at m3'
                      obtain ⟨y, hy⟩ : ∃ y, y = f j := ⟨_, rfl⟩
                      obtain ⟨v, hv⟩ : ∃ v, v = sumN (fun i => f (r * 8 + i) * ent rowsH k i) i := ⟨_, rfl⟩
                      have bx := HE.out k hlt2 i hlt3
                      have bY := HB1.out r i hlt hlt3
                      rw [← HRN.out, ← hj] at bY
                      have bv := HB2.out r k hlt hlt2 i (by omega)
                      rw [← hx] at bx
                      rw [← hy] at c1 bY
                      rw [← hv] at c2 bv
                      have bz := mul_bd2 bx bY
                      rw [Int.mul_comm x y] at bz
                      have HS : Hid (sumN (fun i => f (r * 8 + i) * ent rowsH k i) (i + 1) = v + y * x) := Lib.hid (by rw [sumN, ← hv, ← hx, ← HRN.out, ← hj, ← hy])
                      obtain ⟨z, hz⟩ : ∃ z, z = y * x := ⟨_, rfl⟩
                      rw [← hz] at HS bz
                      have e5 : IntKind.i64.wrap (y * x) = z := by rw [← hz]; exact IntWalk.i64_in _ (by omega)
                      have e6 : IntKind.i64.wrap (v + z) = v + z := IntWalk.i64_in _ (by omega)
                      have T2 := T.set2 t (v + z)
                      rw [st_set] at T2
                      have HN := Lib.hid T2
                      have z0 : (jm : Int) < 64 := by omega
                      have z1 : (t : Int) < 64 := by omega
                      have z2 : (j : Int) < 64 := by omega
                      have z3 : (i : Int) < 8 := by omega
                      have z4 : (r : Int) < 8 := by omega
                      have z5 : (k : Int) < 8 := by omega
                      clear T T2 hj hx hy hv hz bx bY bv bz hjm hxs hgx
                      go_wp2_with fail
                      go_still_tail 33, (by kernel_rfl)
                      change wpList _ _ _ _ _ wr.drew
                      go_wp2
                      go_roundw
                      case rel => exact ⟨i + 1, by omega, by go_num, by rw [HS.out]; exact HN.out.drew⟩
                      case measure => simp [intOf]; omega
                    · obtain rfl : i = 8 := by omega
                      have HE2 : Hid (sumN (fun i => f (r * 8 + i) * ent rowsH k i) 8 = f2 t) := Lib.hid (by rw [HTT.out, HRN.out, HF2.out r k hlt2])
                      rw [HE2.out, st_done _ htM] at T
                      have HT := Lib.hid T
                      clear T
                      go_wp2_with fail
                      go_roundw
                      case rel => exact ⟨k + 1, by omega, by go_num, by rw [← Nat.add_assoc, ← HTT.out]; exact HT.out⟩
                      case measure => simp [intOf]; omega
                · obtain rfl : k = 8 := by omega
                  go_wp2_with fail
                  go_roundw
                  case rel => exact ⟨r + 1, by omega, by go_num, by rw [show (r + 1) * 8 = rn + 8 from by rw [HRN.out]; omega]; exact HT.out⟩
                  case measure => simp [intOf]; omega
            · have hrN : r = 8 := by omega
              have hltd : decide ((r : Int) < 8) = false := by simp; omega
              rw [hrN, show 8 * 8 = 64 from rfl] at HT
              clear hr hlt
              rw [stu_all f2] at HT
              go_wp2
              go_ret
              exact ⟨_, _, rfl, HT.out.two, HT.out.bel⟩

end Go.Proofs.Ytchabkkpdafkiaa
