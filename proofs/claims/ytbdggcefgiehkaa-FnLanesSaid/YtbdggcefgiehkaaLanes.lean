/- Contracts of the functions on four lanes: sums and clipping. -/
import Derived.Test.YtbdggcefgiehkaaUnpack
import Derived.WalkSpells
namespace Go.Proofs.Ytbdggcefgiehkaa
open Go.RowKit
set_option linter.unusedVariables false

theorem unpackF_cases (n : Int) : unpackF n = [] ∨ (unpackF n).length = 4 := by
  unfold unpackF
  split
  · exact .inl rfl
  · split
    · exact .inr rfl
    · exact .inl rfl
theorem unpackF_len (n : Int) : (unpackF n).length ≤ 1048576 := by
  rcases unpackF_cases n with h | h
  · rw [h]; simp
  · rw [h]; omega
theorem unpackF_at {n : Int} {i : Nat} (h : i < (unpackF n).length) : 0 ≤ (unpackF n).getD i 0 ∧ (unpackF n).getD i 0 ≤ 32767 := by
  revert h
  unfold unpackF
  split
  · intro h; simp at h
  · split
    · intro h; exact allR_at (by assumption) h
    · intro h; simp at h

def clipLanesL (n : Int) : List Int := tab (fun i => clipF 0 255 ((unpackF n).getD i 0 - 1024)) (unpackF n).length
def clipLanesF (n : Int) : Int := packF (clipLanesL n)


set_option maxHeartbeats 1000000 in
theorem impl.ClipLanes_c (n : Int) (w : World) (hn : -9223372036854775808 ≤ n ∧ n ≤ 9223372036854775807) :
    Calls Try.prog 36 #[.int .i64 n] w fun e w' => e = .returned (.int .i64 (clipLanesF n)) ∧ Below w.heap.size w w' := by
  have hlen := unpackF_len n
  go_enter Try.func36, Try.ntmps36
  go_wp2_with fail
  refine (impl.Unpack4_c n _ hn).mono ?_
  rintro e w1 ⟨ad, cc, rfl, hown, hb⟩
  have H1 := Lib.hid hown
  have H2 := Lib.hid hb
  clear hown hb
  have hsz := H2.out.size
  go_wp2
  go_loopw [11] (fun i wr => ∃ k : Nat, k ≤ (unpackF n).length ∧ i = .int .i64 k ∧ Own w.heap.size wr ad cc (upd (fun i => clipF 0 255 ((unpackF n).getD i 0 - 1024)) (unpackF n) k) ∧ Below w.heap.size w wr) (fun i _ => (unpackF n).length - (intOf i).toNat)
  case atStart => exact ⟨0, Nat.zero_le _, rfl, by rw [upd_zero]; exact H1.out, H2.out⟩
  case round =>
    clear H1 H2 hsz
    obtain ⟨k, hk, rfl, hown, hb⟩ := hrel
    by_cases hlt : k < (unpackF n).length
    · have hx := unpackF_at hlt
      have hul := upd_len (fun i => clipF 0 255 ((unpackF n).getD i 0 - 1024)) (unpackF n) k hk
      obtain ⟨g, rfl, hg1, hg2, hcell, hfz, hst⟩ := hown.at_ (i := k) (by omega)
      rw [upd_getD _ _ _ hlt] at hcell
      have h3 := (hst (clipF 0 255 ((unpackF n).getD k 0 - 1024))).1
      rw [upd_set (fun i => clipF 0 255 ((unpackF n).getD i 0 - 1024)) _ _ hlt] at h3
      have H3 := Lib.hid h3
      have H4 : Hid (Below w.heap.size w (wr.setCell ⟨g, k, none⟩ (.int .i64 (clipF 0 255 ((unpackF n).getD k 0 - 1024))))) := hb.setCell (p := ⟨g, k, none⟩) hg1 _
      clear h3 hst hown hb hul
      generalize (unpackF n).getD k 0 = x at *
      obtain ⟨hx0, hx1⟩ := hx
      go_wp2_with (go_at_call 58; refine (impl.limited_c _ _ _ _).mono ?_; rintro e w' ⟨rfl, rfl⟩)
      go_roundw
      case rel => exact ⟨k + 1, by omega, by go_num, H3.out, H4.out⟩
      case measure => simp [intOf]; omega
    · obtain rfl : k = (unpackF n).length := by omega
      rw [upd_all] at hown
      have hl2 : (tab (fun i => clipF 0 255 ((unpackF n).getD i 0 - 1024)) (unpackF n).length).length = (unpackF n).length := tab_len _ _
      have hp := impl.Pack4_c ad cc (tab (fun i => clipF 0 255 ((unpackF n).getD i 0 - 1024)) (unpackF n).length) wr (by rw [hl2]; omega) hown.row
      rw [hl2] at hp
      have HP := Lib.hid hp
      have HB := Lib.hid hb
      clear hp hb hown hl2
      go_wp2_with (go_at_call 29; refine HP.out.mono ?_; rintro e w' ⟨rfl,n2,rfl⟩)
      go_ret
      exact ⟨rfl, by first | exact HB.out | exact below_drewN' HB.out _⟩

















































def addL (a b : Int) : List Int := tab (fun i => (unpackF a).getD i 0 + (unpackF b).getD i 0) 4
def addOk (a b : Int) : Bool := decide (unpackF a ≠ []) && (decide (unpackF b ≠ []) && packOk (addL a b))
def addV (a b : Int) : Int := if decide (unpackF a ≠ []) && decide (unpackF b ≠ []) then packF (addL a b) else 0
theorem ret_ib {a a' : Int} {b b' : Bool} (h : a = a') (k : b = b') : Ending.returned (.tuple #[.int .i64 a, .bool b]) = .returned (.tuple #[.int .i64 a', .bool b']) := by rw [h, k]
theorem Own.nil_none {B : Nat} {w : World} {c : Nat} {l : List Int} (h : Own B w none c l) : c = 0 ∧ l = [] := by
  rcases h.form with ⟨_, h1, h2⟩ | ⟨g, h1, _⟩
  · exact ⟨h1, h2⟩
  · cases h1
theorem packF_not {l : List Int} (h : packOk l = false) : packF l = 0 := by simp [packF, h]


set_option maxHeartbeats 2000000 in
theorem impl.AddLanes_c (a b : Int) (w : World) (ha : -9223372036854775808 ≤ a ∧ a ≤ 9223372036854775807) (hb : -9223372036854775808 ≤ b ∧ b ≤ 9223372036854775807) :
    Calls Try.prog 33 #[.int .i64 a, .int .i64 b] w fun e w' => e = .returned (.tuple #[.int .i64 (addV a b), .bool (addOk a b)]) ∧ Below w.heap.size w w' := by
  have hq := fun (w : World) (a : Option Addr) (n c : Nat) => Lib.run_eql_slice_nil (P := Try.prog) w 25 3 a n c 0 0 Try.underlying25
  go_enter Try.func33, Try.ntmps33
  go_wp2_with fail
  refine (impl.Unpack4_n a _ ha).mono ?_
  rintro e w1 ⟨xa, xc, rfl, o1, b1, n1⟩
  have O1 := Lib.hid o1
  have B1 := Lib.hid b1
  have N1 := Lib.hid n1
  clear o1 b1 n1
  go_wp2_with fail
  refine (impl.Unpack4_n b _ hb).mono ?_
  rintro e w2 ⟨ya, yc, rfl, o2, b2, n2⟩
  have O2 := Lib.hid o2
  have B2 : Hid (Below w.heap.size w w2) := B1.out.trans (b2.mono B1.out.size)
  have O1' : Hid (Own w.heap.size w2 xa xc (unpackF a)) := O1.out.below b2 (Nat.le_refl _)
  have s2 : Hid (∀ p, xa = some p → p.block < w1.heap.size) := fun p hp => (O1.out.lt p hp).2
  have s1 : Hid (w.heap.size ≤ w1.heap.size) := B1.out.size
  have N2 := Lib.hid n2
  clear o2 b2 n2 O1 B1
  rcases unpackF_cases a with hea | hea
  · have e1 : addV a b = 0 := by simp [addV, hea]
    have e2 : addOk a b = false := by simp [addOk, hea]
    have E1 := Lib.hid e1
    have E2 := Lib.hid e2
    clear e1 e2
    obtain rfl := N1.out hea
    obtain ⟨rfl, _⟩ := O1'.out.nil_none
    rw [hea]
    clear hea
    go_wp2
    go_ret2
    exact ⟨ret_ib E1.out.symm E2.out.symm, B2.out⟩
  · rcases O1'.out.form with ⟨_, _, h0⟩ | ⟨g, rfl, hg1, hg2⟩
    · rw [h0] at hea; simp at hea
    · rcases unpackF_cases b with heb | heb
      · have e1 : addV a b = 0 := by simp [addV, heb]
        have e2 : addOk a b = false := by simp [addOk, heb]
        have E1 := Lib.hid e1
        have E2 := Lib.hid e2
        clear e1 e2
        obtain rfl := N2.out heb
        obtain ⟨rfl, _⟩ := O2.out.nil_none
        rw [heb, hea]
        clear heb hea
        go_wp2
        go_ret2
        exact ⟨ret_ib E1.out.symm E2.out.symm, B2.out⟩
      · rcases O2.out.form with ⟨_, _, h0⟩ | ⟨g2, rfl, hk1, hk2⟩
        · rw [h0] at heb; simp at heb
        · have HEA := Lib.hid hea
          have HEB := Lib.hid heb
          have gne : Hid (g ≠ g2) := by have := s2.out _ rfl; show g ≠ g2; simp at this; omega
          rw [hea, heb]
          clear hea heb hg2 hk2
          have hgg : Hid (w.heap.size ≤ g) := hg1
          clear hg1 hk1
          go_wp2
          go_loopw [21] (fun i wr => ∃ k : Nat, k ≤ 4 ∧ i = .int .i64 k ∧ Own w.heap.size wr (some ⟨g, 0, none⟩) xc (upd (fun i => (unpackF a).getD i 0 + (unpackF b).getD i 0) (unpackF a) k) ∧ Own w1.heap.size wr (some ⟨g2, 0, none⟩) yc (unpackF b) ∧ Below w.heap.size w wr) (fun i _ => 4 - (intOf i).toNat)
          case atStart => exact ⟨0, Nat.zero_le _, rfl, by rw [upd_zero]; exact O1'.out, O2.out, B2.out⟩
          case round =>
            clear O1' O2 B2 N1 N2
            obtain ⟨k, hk, rfl, ox, oy, bw⟩ := hrel
            by_cases hlt : k < 4
            · have hka : k < (unpackF a).length := by rw [HEA.out]; exact hlt
              have hkb : k < (unpackF b).length := by rw [HEB.out]; exact hlt
              have hx := unpackF_at hka
              have hy := unpackF_at hkb
              have hul := upd_len (fun i => (unpackF a).getD i 0 + (unpackF b).getD i 0) (unpackF a) k (by omega)
              have cx := ox.cellAt (i := k) (by omega)
              rw [upd_getD _ _ _ hka] at cx
              have cy := oy.cellAt hkb
              have fz := ox.frozenAt k
              have h3 := ox.stored k ((unpackF a).getD k 0 + (unpackF b).getD k 0)
              rw [upd_set (fun i => (unpackF a).getD i 0 + (unpackF b).getD i 0) _ _ hka] at h3
              have h4 : w.heap.size ≤ g := hgg.out
              have H3 := Lib.hid h3
              have H4 : Hid (Own w1.heap.size (wr.setCell ⟨g, k, none⟩ (.int .i64 ((unpackF a).getD k 0 + (unpackF b).getD k 0))) (some ⟨g2, 0, none⟩) yc (unpackF b)) :=
                oy.grown (World.ownsRow.stored ox k _).2 (fun p q hp hq => by cases hp; cases hq; exact fun e => gne.out e.symm)
              have H5 : Hid (Below w.heap.size w (wr.setCell ⟨g, k, none⟩ (.int .i64 ((unpackF a).getD k 0 + (unpackF b).getD k 0)))) := bw.setCell (p := ⟨g, k, none⟩) h4 _
              clear h3 h4 ox oy bw hul hka hkb
              generalize (unpackF a).getD k 0 = x at *
              generalize (unpackF b).getD k 0 = y at *
              obtain ⟨hx0, hx1⟩ := hx
              obtain ⟨hy0, hy1⟩ := hy
              have z1 : (k : Int) < 4 := by omega
              have z2 : IntKind.i64.wrap (x + y) = x + y := IntWalk.i64_in _ (by omega)
              go_wp2
              go_still_tail 10, (by kernel_rfl)
              change wpList _ _ _ _ _ wr.drew
              go_wp2
              go_roundw
              case rel => exact ⟨k + 1, by omega, by go_num, H3.out.drew, H4.out.drew, H5.out.drew⟩
              case measure => simp [intOf]; omega
            · obtain rfl : k = 4 := by omega
              have hu : upd (fun i => (unpackF a).getD i 0 + (unpackF b).getD i 0) (unpackF a) 4 = addL a b := by
                have := upd_all (fun i => (unpackF a).getD i 0 + (unpackF b).getD i 0) (unpackF a)
                rw [HEA.out] at this
                exact this
              rw [hu] at ox
              have hl2 : (addL a b).length = 4 := rfl
              have hp := impl.Pack4_c (some ⟨g, 0, none⟩) xc (addL a b) wr (by rw [hl2]; omega) ox.row
              rw [hl2] at hp
              have na : unpackF a ≠ [] := fun h => by have := HEA.out; rw [h] at this; simp at this
              have nb : unpackF b ≠ [] := fun h => by have := HEB.out; rw [h] at this; simp at this
              have e1 : addV a b = packF (addL a b) := by simp [addV, na, nb]
              have e2 : addOk a b = packOk (addL a b) := by simp [addOk, na, nb]
              have E1 := Lib.hid e1
              have E2 := Lib.hid e2
              have HP := Lib.hid hp
              have HB := Lib.hid bw
              clear hp bw ox oy hl2 hu na nb e1 e2
              go_wp2_with (go_at_call 29; refine HP.out.mono ?_; rintro e w' ⟨rfl, n2, rfl⟩)
              go_ret2
              exact ⟨ret_ib E1.out.symm E2.out.symm, below_drewN' HB.out _⟩


set_option maxHeartbeats 2000000 in
theorem spec.AddLanes_c (a b : Int) (w : World) (ha : -9223372036854775808 ≤ a ∧ a ≤ 9223372036854775807) (hb : -9223372036854775808 ≤ b ∧ b ≤ 9223372036854775807) :
    Calls Try.prog 34 #[.int .i64 a, .int .i64 b] w fun e w' => e = .returned (.tuple #[.int .i64 (addV a b), .bool (addOk a b)]) ∧ Below w.heap.size w w' := by
  go_enter Try.func34, Try.ntmps34
  go_wp2_with fail
  refine (spec.Unpack4_c a _ ha).mono ?_
  rintro e w1 ⟨xa, xc, rfl, o1, b1⟩
  have O1 := Lib.hid o1
  have B1 := Lib.hid b1
  clear o1 b1
  go_wp2_with fail
  refine (spec.Unpack4_c b _ hb).mono ?_
  rintro e w2 ⟨ya, yc, rfl, o2, b2⟩
  have O2 := Lib.hid o2
  have B2 : Hid (Below w.heap.size w w2) := B1.out.trans (b2.mono B1.out.size)
  have O1' : Hid (Own w.heap.size w2 xa xc (unpackF a)) := O1.out.below b2 (Nat.le_refl _)
  have s2 : Hid (∀ p, xa = some p → p.block < w1.heap.size) := fun p hp => (O1.out.lt p hp).2
  have s1 : Hid (w.heap.size ≤ w1.heap.size) := B1.out.size
  clear o2 b2 O1 B1
  rcases unpackF_cases a with hea | hea
  · have e1 : addV a b = 0 := by simp [addV, hea]
    have e2 : addOk a b = false := by simp [addOk, hea]
    have E1 := Lib.hid e1
    have E2 := Lib.hid e2
    clear e1 e2
    rw [hea]
    clear hea
    go_wp2
    go_ret2
    exact ⟨ret_ib E1.out.symm E2.out.symm, B2.out⟩
  · rcases O1'.out.form with ⟨_, _, h0⟩ | ⟨g, rfl, hg1, hg2⟩
    · rw [h0] at hea; simp at hea
    · rcases unpackF_cases b with heb | heb
      · have e1 : addV a b = 0 := by simp [addV, heb]
        have e2 : addOk a b = false := by simp [addOk, heb]
        have E1 := Lib.hid e1
        have E2 := Lib.hid e2
        clear e1 e2
        rw [heb, hea]
        clear heb hea
        go_wp2
        go_ret2
        exact ⟨ret_ib E1.out.symm E2.out.symm, B2.out⟩
      · rcases O2.out.form with ⟨_, _, h0⟩ | ⟨g2, rfl, hk1, hk2⟩
        · rw [h0] at heb; simp at heb
        · have HEA := Lib.hid hea
          have HEB := Lib.hid heb
          have gne : Hid (g ≠ g2) := by have := s2.out _ rfl; show g ≠ g2; simp at this; omega
          rw [hea, heb]
          clear hea heb hg2 hk2
          have hgg : Hid (w.heap.size ≤ g) := hg1
          clear hg1 hk1
          go_wp2
          go_loopw [8] (fun i wr => ∃ k : Nat, k ≤ 4 ∧ i = .int .i64 k ∧ Own w.heap.size wr (some ⟨g, 0, none⟩) xc (upd (fun i => (unpackF a).getD i 0 + (unpackF b).getD i 0) (unpackF a) k) ∧ Own w1.heap.size wr (some ⟨g2, 0, none⟩) yc (unpackF b) ∧ Below w.heap.size w wr) (fun i _ => 4 - (intOf i).toNat)
          case atStart => exact ⟨0, Nat.zero_le _, rfl, by rw [upd_zero]; exact O1'.out, O2.out, B2.out⟩
          case round =>
            clear O1' O2 B2
            obtain ⟨k, hk, rfl, ox, oy, bw⟩ := hrel
            by_cases hlt : k < 4
            · have hka : k < (unpackF a).length := by rw [HEA.out]; exact hlt
              have hkb : k < (unpackF b).length := by rw [HEB.out]; exact hlt
              have hx := unpackF_at hka
              have hy := unpackF_at hkb
              have hul := upd_len (fun i => (unpackF a).getD i 0 + (unpackF b).getD i 0) (unpackF a) k (by omega)
              have cx := ox.cellAt (i := k) (by omega)
              rw [upd_getD _ _ _ hka] at cx
              have cy := oy.cellAt hkb
              have fz := ox.frozenAt k
              have h3 := ox.stored k ((unpackF a).getD k 0 + (unpackF b).getD k 0)
              rw [upd_set (fun i => (unpackF a).getD i 0 + (unpackF b).getD i 0) _ _ hka] at h3
              have h4 : w.heap.size ≤ g := hgg.out
              have H3 := Lib.hid h3
              have H4 : Hid (Own w1.heap.size (wr.setCell ⟨g, k, none⟩ (.int .i64 ((unpackF a).getD k 0 + (unpackF b).getD k 0))) (some ⟨g2, 0, none⟩) yc (unpackF b)) :=
                oy.grown (World.ownsRow.stored ox k _).2 (fun p q hp hq => by cases hp; cases hq; exact fun e => gne.out e.symm)
              have H5 : Hid (Below w.heap.size w (wr.setCell ⟨g, k, none⟩ (.int .i64 ((unpackF a).getD k 0 + (unpackF b).getD k 0)))) := bw.setCell (p := ⟨g, k, none⟩) h4 _
              clear h3 h4 ox oy bw hul hka hkb
              generalize (unpackF a).getD k 0 = x at *
              generalize (unpackF b).getD k 0 = y at *
              obtain ⟨hx0, hx1⟩ := hx
              obtain ⟨hy0, hy1⟩ := hy
              have z1 : (k : Int) < 4 := by omega
              have z2 : IntKind.i64.wrap (x + y) = x + y := IntWalk.i64_in _ (by omega)
              go_wp2
              go_still_tail 12, (by kernel_rfl)
              change wpList _ _ _ _ _ wr.drew
              go_wp2
              go_roundw
              case rel => exact ⟨k + 1, by omega, by go_num, H3.out.drew, H4.out.drew, H5.out.drew⟩
              case measure => simp [intOf]; omega
            · obtain rfl : k = 4 := by omega
              have hu : upd (fun i => (unpackF a).getD i 0 + (unpackF b).getD i 0) (unpackF a) 4 = addL a b := by
                have := upd_all (fun i => (unpackF a).getD i 0 + (unpackF b).getD i 0) (unpackF a)
                rw [HEA.out] at this
                exact this
              rw [hu] at ox
              have hl2 : (addL a b).length = 4 := rfl
              have hp := spec.Pack4_c (some ⟨g, 0, none⟩) xc (addL a b) wr (by rw [hl2]; omega) ox.row
              rw [hl2] at hp
              have na : unpackF a ≠ [] := fun h => by have := HEA.out; rw [h] at this; simp at this
              have nb : unpackF b ≠ [] := fun h => by have := HEB.out; rw [h] at this; simp at this
              have e1 : addV a b = packF (addL a b) := by simp [addV, na, nb]
              have e2 : addOk a b = packOk (addL a b) := by simp [addOk, na, nb]
              have E1 := Lib.hid e1
              have E2 := Lib.hid e2
              have HP := Lib.hid hp
              have HB := Lib.hid bw
              clear hp bw ox oy hl2 hu na nb e1 e2
              go_wp2_with (go_at_call 30; refine HP.out.mono ?_; rintro e w' ⟨rfl, rfl⟩)
              go_ret2
              exact ⟨ret_ib E1.out.symm E2.out.symm, HB.out⟩

end Go.Proofs.Ytbdggcefgiehkaa
