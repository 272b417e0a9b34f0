/- Contracts of the draws of lanes, of squares and of lines. -/
import Derived.Test.YtbdggcefgiehkaaDraw2
import Derived.Test.YtbdggcefgiehkaaPack
namespace Go.Proofs.Ytbdggcefgiehkaa
open Go.RowKit
set_option linter.unusedVariables false

/-- a row in blocks from B on, which may be written -/
def Frs (B : Nat) (w : World) (b : Option Addr) (L : List Int) : Prop := Row w b L ∧ ∀ p, b = some p → B ≤ p.block ∧ p.block < w.heap.size ∧ ∀ i, w.frozen? ⟨p.block, i, none⟩ = false
theorem Own.frs {B : Nat} {w : World} {b : Option Addr} {d : Nat} {L : List Int} (h : Own B w b d L) : Frs B w b L := by
  refine ⟨h.row, fun p hp => ?_⟩
  rcases h.form with ⟨rfl, _, _⟩ | ⟨g, rfl, h1, h2⟩
  · cases hp
  · cases hp; exact ⟨h1, h2, fun i => h.frozenAt i⟩
theorem Frs.cur {B : Nat} {w w' : World} {b : Option Addr} {L : List Int} {g : Nat} (h : Frs B w b L) (hd : w.grownBy w' (some g)) (hg : g < B) : Frs B w' b L := by
  refine ⟨h.1.cur hd (fun p hp => by have := (h.2 p hp).1; omega), fun p hp => ?_⟩
  obtain ⟨h1, h2, h3⟩ := h.2 p hp
  refine ⟨h1, Nat.lt_of_lt_of_le h2 hd.size, fun i => ?_⟩
  rw [World.frozen?_of_block (a := ⟨p.block, i, none⟩) (hd.block _ h2 (by intro e; injection e with e; have e2 : p.block = g := e; omega))]
  exact h3 i
theorem Frs.below {B K : Nat} {w w' : World} {b : Option Addr} {L : List Int} (h : Frs B w b L) (hb : Below K w w') (hK : ∀ p, b = some p → p.block < K) : Frs B w' b L :=
  ⟨h.1.under hb hK, fun p hp => ⟨(h.2 p hp).1, Nat.lt_of_lt_of_le (h.2 p hp).2.1 hb.size, fun i => (hb.frozen (p := ⟨p.block, i, none⟩) (hK p hp)).trans ((h.2 p hp).2.2 i)⟩⟩
theorem Frs.lt {B : Nat} {w : World} {b : Option Addr} {L : List Int} (h : Frs B w b L) : ∀ p, b = some p → p.block < w.heap.size := fun p hp => (h.2 p hp).2.1
theorem Frs.mono {B B' : Nat} {w : World} {b : Option Addr} {L : List Int} (h : Frs B w b L) (hB : B' ≤ B) : Frs B' w b L := ⟨h.1, fun p hp => ⟨Nat.le_trans hB (h.2 p hp).1, (h.2 p hp).2⟩⟩
/-- one value written -/
theorem Frs.stored {B : Nat} {w : World} {b off : Nat} {L : List Int} (h : Frs B w (some ⟨b, off, none⟩) L) (j : Nat) (x : Int) : Frs B (w.setCell ⟨b, off + j, none⟩ (.int .i64 x)) (some ⟨b, off, none⟩) (L.set j x) := by
  obtain ⟨h1, h2, h3⟩ := h.2 _ rfl
  refine ⟨?_, fun p hp => by cases hp; exact ⟨h1, by simpa using h2, fun i => by simp [h3 i]⟩⟩
  rcases h.1 with rfl | ⟨b', o', e, hc⟩
  · exact .inl (by simp)
  · cases e
    refine .inr ⟨b, off, rfl, fun i hi => ?_⟩
    rw [List.length_set] at hi
    by_cases e : j = i
    · subst e
      rw [World.cell?_setCell_same _ _ _ (hc j hi)]
      simp [List.getD, hi]
    · rw [World.cell?_setCell_other _ _ _ _ (by intro h; injection h; omega), hc i hi]
      simp [List.getD, e]
theorem Row.part' {w : World} {b off : Nat} {l : List Int} {t n : Nat} (h : Row w (some ⟨b, off, none⟩) l) (ht : t + n ≤ l.length) (hn : 0 < n) :
    Row w (some ⟨b, off + t, none⟩) (tab (fun i => l.getD (t + i) 0) n) := by
  refine .inr ⟨b, off + t, rfl, fun i hi => ?_⟩
  rw [tab_len] at hi
  rw [tab_getD _ _ _ hi, Nat.add_assoc]
  obtain ⟨b1, off1, e, hc⟩ := h.all (by omega)
  cases e
  exact hc (t + i) (by omega)
/-- all but the first -/
theorem Frs.tail {B : Nat} {w : World} {b : Nat} {l : List Int} {n : Nat} (h : Frs B w (some ⟨b, 0, none⟩) l) (hl : l.length = n + 1) (hn : 0 < n) : Frs B w (some ⟨b, 1, none⟩) (tab (fun i => l.getD (1 + i) 0) n) := by
  have h1 := h.1.part' (t := 1) (n := n) (by omega) hn
  rw [Nat.zero_add] at h1
  exact ⟨h1, fun p hp => by cases hp; exact h.2 ⟨b, 0, none⟩ rfl⟩
theorem tab_mem' {f : Nat → Int} {n : Nat} {x : Int} (h : x ∈ tab f n) : ∃ i, i < n ∧ x = f i := by
  simp [tab] at h
  obtain ⟨i, h1, h2⟩ := h
  exact ⟨i, h1, h2.symm⟩
theorem Low.mono2 {a : Option Addr} {l : List Int} {g B B' : Nat} (h : Low a l g B) (hB : B ≤ B') : Low a l g B' := h.mono hB
theorem Own.farD {B : Nat} {w : World} {a : Option Addr} {c : Nat} {l : List Int} (h : Own B w a c l) {p : Addr} (hp : p.block < B) (u : Value) : Own B (w.setCell p u) a c l := ownsRow_setCell_below h hp u
theorem mem_set {l : List Int} {i : Nat} {v x : Int} (h : x ∈ l.set i v) : x ∈ l ∨ x = v := by
  rcases List.mem_or_eq_of_mem_set h with h | h
  · exact .inl h
  · exact .inr h


set_option maxHeartbeats 4000000 in
theorem l16Four_d (W : World) (g : Nat) (a : Option Addr) (c : Nat) (l : List Int) (m : Int) (w : World) (hm : 0 ≤ m ∧ m ≤ 32767) (h : Dr W g a c l w) :
    Calls Try.prog 67 #[.pointer (some ⟨g, 0, none⟩), .int .i64 m] w fun e w' => ∃ (b : Option Addr) (d : Nat) (L : List Int), e = .returned (.slice b L.length d) ∧ L.length ≤ 4 ∧ L.length ≤ d ∧ (∀ x ∈ L, -1 ≤ x ∧ x ≤ 32768) ∧ Frs w.heap.size w' b L ∧ Dr W g a c l w' ∧ w.grownBy w' (some g) := by
  have hL := Lib.hid h.low
  have HH := Lib.hid h
  have H0 := Lib.hid ((Dr.start h.1).alloc (.cells #[] 3))
  obtain ⟨hm0, hm1⟩ := hm
  clear h
  go_enter Try.func67, Try.ntmps67
  go_wp2
  go_loopw [5, 6] (fun o i wr => ∃ (k : Nat) (L : List Int) (ad : Option Addr) (cc : Nat), k ≤ 4 ∧ L.length = k ∧ i = .int .i64 k ∧ o = .slice ad k cc ∧ (∀ y ∈ L, 0 ≤ y ∧ y ≤ 32767) ∧ Own w.heap.size wr ad cc L ∧ Dr w g a c l wr) (fun _ i _ => 4 - (intOf i).toNat)
  case atStart => exact ⟨0, [], _, _, by omega, rfl, rfl, rfl, by simp, Own.lit _ _ [] rfl (Nat.le_refl _) (by simp [maxLen]), H0.out⟩
  case round =>
    clear H0
    obtain ⟨k, L, ad, cc, hk, hLk, rfl, rfl, hLb, ho, hdr⟩ := hrel
    have HLB := Lib.hid hLb
    have HLK := Lib.hid hLk
    clear hLb hLk
    by_cases hlt : k < 4
    · go_wp2_with fail
      refine (l1Below_p w g a c l (m + 1) wr (by omega) hdr).mono ?_
      rintro e w1 ⟨y, rfl, hy0, hy1, hdr1, hd1⟩
      go_wp2_with fail
      refine (l1Below_p w g a c l 256 w1 (by omega) hdr1).mono ?_
      rintro e w2 ⟨z, rfl, hz0, hz1, hdr2, hd2⟩
      go_wp2_with fail
      refine (l1PickInt_d w g a c l [_, _, _, _] _ 4 w2 (by simp) (by rfl) rfl hdr2).mono ?_
      rintro e w3 ⟨u, rfl, hu, hdr3, hd3⟩
      have hub : 0 ≤ u ∧ u ≤ 32767 := by simp at hu; omega
      have HO1 := Lib.hid (((ho.cur hd1 hL.out.1).cur hd2 hL.out.1).cur hd3 hL.out.1)
      have HD1 := Lib.hid hdr3
      clear ho hdr hdr1 hdr2 hdr3 hd1 hd2 hd3 hu
      go_wp2_with (at_builtin; refine append_one Try.underlying25 Try.infoInt rfl (.tmp 12) (.tmp 23) rfl w.heap.size ad cc k L HLK.out rfl (HO1.out.alloc _) w3.heap.size u rfl ?_ ?_ ?_ ?_; (simp); (omega); (have := HD1.out.2.size; simp; omega); intro ad1 cc1 w9 ho9 hb9)
      have HO9 := Lib.hid ho9
      have HD9 := Lib.hid ((HD1.out.alloc _).owned hb9 (Nat.le_refl w.heap.size) hL.out)
      have HL9 : Hid (∀ y ∈ L ++ [u], 0 ≤ y ∧ y ≤ 32767) := Lib.hid (fun y hy => by
        rcases List.mem_append.1 hy with h | h
        · exact HLB.out y h
        · simp at h; omega)
      clear ho9 hb9
      go_wp2
      go_roundw
      case rel => exact ⟨k + 1, L ++ [u], ad1, cc1, by omega, by simp [HLK.out], by go_num, rfl, HL9.out, HO9.out, HD9.out⟩
      case measure => simp [intOf]; omega
    · obtain rfl : k = 4 := by omega
      obtain ⟨gl, rfl, _, _, _⟩ := ho.at_ (i := 0) (by rw [HLK.out]; omega)
      go_wp2_with fail
      refine (l1Below_p w g a c l 14 wr (by omega) hdr).mono ?_
      rintro e w1 ⟨y, rfl, hy0, hy1, hdr1, hd1⟩
      have HO1 := Lib.hid (ho.cur hd1 hL.out.1)
      have HD1 := Lib.hid hdr1
      clear ho hdr hdr1 hd1
      by_cases hy : y = 0
      · subst hy
        go_wp2_with fail
        refine (l1Below_p w g a c l 4 w1 (by omega) HD1.out).mono ?_
        rintro e w2 ⟨i, rfl, hi0, hi1, hdr2, hd2⟩
        obtain ⟨j, rfl⟩ := Int.eq_ofNat_of_zero_le hi0
        go_wp2_with fail
        refine (l1PickInt_d w g a c l [_, _] _ 2 w2 (by simp) (by rfl) rfl hdr2).mono ?_
        rintro e w3 ⟨u, rfl, hu, hdr3, hd3⟩
        have hub : -1 ≤ u ∧ u ≤ 32768 := by simp at hu; omega
        have ho3 := (HO1.out.cur hd2 hL.out.1).cur hd3 hL.out.1
        have hcell := ho3.cellAt (i := j) (by rw [HLK.out]; omega)
        have hfz := ho3.frozenAt j
        have hge := (ho3.lt _ rfl).1
        have HO4 := Lib.hid (ho3.stored j u)
        have HD4 := Lib.hid (hdr3.owned ((Below.refl w.heap.size w3).setCell (p := ⟨gl, j, none⟩) hge (.int .i64 u)) (Nat.le_refl _) hL.out)
        have hjl : (j : Int) < 4 := by omega
        generalize L.getD j 0 = old at *
        clear ho3 hdr2 hdr3 hd2 hd3 hu HO1 HD1 hge
        go_wp2
        go_ret
        refine ⟨_, cc, L.set j u, ret_slice (by rw [List.length_set, HLK.out]), by rw [List.length_set, HLK.out]; omega, by have := HO4.out.cap; exact this, fun x hx => ?_, HO4.out.frs, HH.out.next HD4.out.1 HD4.out.2, HD4.out.2⟩
        rcases mem_set hx with h | h
        · have := HLB.out x h; omega
        · omega
      · by_cases hy1' : y = 1
        · subst hy1'
          have hcap := HO1.out.cap
          rw [HLK.out] at hcap
          go_wp2
          go_ret
          have hf := HO1.out.frs.tail (n := 3) (by rw [HLK.out]) (by omega)
          refine ⟨_, _, tab (fun i => L.getD (1 + i) 0) 3, ret_slice (by rw [tab_len]), by rw [tab_len]; omega, by rw [tab_len]; omega, fun x hx => ?_, hf, HH.out.next HD1.out.1 HD1.out.2, HD1.out.2⟩
          obtain ⟨i, hi, rfl⟩ := tab_mem' hx
          have hi4 : 1 + i < L.length := by rw [HLK.out]; omega
          have := HLB.out (L.getD (1 + i) 0) (by rw [getD_lt hi4]; exact List.getElem_mem hi4)
          omega
        · have hb0 : (y == 0) = false := by simp [hy]
          have hb1 : (y == 1) = false := by simp [hy1']
          go_wp2
          go_ret
          exact ⟨_, _, L, ret_slice HLK.out.symm, by rw [HLK.out]; omega, HO1.out.cap, fun x hx => by have := HLB.out x hx; omega, HO1.out.frs, HH.out.next HD1.out.1 HD1.out.2, HD1.out.2⟩

theorem packV_four (x0 x1 x2 x3 : Int) : packV [x0, x1, x2, x3] = ((x3 * 65536 + x2) * 65536 + x1) * 65536 + x0 := by simp [packV]
theorem packF_bd (l : List Int) : 0 ≤ packF l ∧ packF l ≤ 9223372036854775807 := by
  unfold packF
  split
  · rename_i h
    have h2 : l.length = 4 ∧ allR 0 32767 l = true := by simpa [packOk] using h
    obtain ⟨x0, x1, x2, x3, rfl⟩ := four_of h2.1
    have b0 : 0 ≤ x0 ∧ x0 ≤ 32767 := allR_at h2.2 (i := 0) (by simp)
    have b1 : 0 ≤ x1 ∧ x1 ≤ 32767 := allR_at h2.2 (i := 1) (by simp)
    have b2 : 0 ≤ x2 ∧ x2 ≤ 32767 := allR_at h2.2 (i := 2) (by simp)
    have b3 : 0 ≤ x3 ∧ x3 ≤ 32767 := allR_at h2.2 (i := 3) (by simp)
    rw [packV_four]
    omega
  · omega

set_option maxHeartbeats 2000000 in
theorem l16Num_d (W : World) (g : Nat) (a : Option Addr) (c : Nat) (l : List Int) (m : Int) (w : World) (hm : 0 ≤ m ∧ m ≤ 32767) (h : Dr W g a c l w) :
    Calls Try.prog 68 #[.pointer (some ⟨g, 0, none⟩), .int .i64 m] w fun e w' => ∃ x : Int, e = .returned (.int .i64 x) ∧ (-9223372036854775808 ≤ x ∧ x ≤ 9223372036854775807) ∧ Dr W g a c l w' ∧ w.grownBy w' (some g) := by
  have HH := Lib.hid h
  have HF := Lib.hid (l16Four_d w g a c l m w hm (Dr.start h.1))
  clear h
  go_enter Try.func68, Try.ntmps68
  go_wp2_with fail
  refine HF.out.mono ?_
  rintro e w1 ⟨b, d, L, rfl, hl4, hcap, hLb, hfr, hdr1, hd1⟩
  go_wp2_with fail
  refine (spec.Pack4_c b d L w1 (by omega) hfr.1).mono ?_
  rintro e w2 ⟨rfl, rfl⟩
  have hpb := packF_bd L
  generalize packF L = pk at *
  generalize packOk L = pb at *
  go_wp2_with fail
  refine (l1Once_d w g a c l 8 w1 (by omega) hdr1).mono ?_
  rintro e w3 ⟨bb, rfl, hdr2, hd2⟩
  cases bb
  · have HD := Lib.hid hdr2
    clear hdr1 hdr2 hd1 hd2 hfr hLb
    go_wp2
    go_ret
    exact ⟨pk, rfl, by omega, HH.out.next HD.out.1 HD.out.2, HD.out.2⟩
  · go_wp2_with fail
    refine (l1PickInt_d w g a c l [_, _, _, _, _] _ 5 w3 (by simp) (by rfl) rfl hdr2).mono ?_
    rintro e w4 ⟨u, rfl, hu, hdr3, hd3⟩
    have hub : -9223372036854775808 ≤ u ∧ u ≤ 9223372036854775807 := by simp at hu; omega
    have HD := Lib.hid hdr3
    clear hdr1 hdr2 hdr3 hd1 hd2 hd3 hfr hLb hu
    go_wp2
    go_ret
    exact ⟨u, rfl, hub, HH.out.next HD.out.1 HD.out.2, HD.out.2⟩


theorem DrawPack4_c (a : Option Addr) (c : Nat) (l : List Int) (w : World) (hl : l.length ≤ 1048576) (hr : RowB w a l) (hw : ∀ x ∈ l, 0 ≤ x ∧ x ≤ 255) :
    Calls Try.prog 28 #[.slice a l.length c] w fun e w' => ∃ (b : Option Addr) (d : Nat) (L : List Int), e = .returned (.slice b L.length d) ∧ L.length ≤ 4 ∧ (∀ x ∈ L, -1 ≤ x ∧ x ≤ 32768) ∧ Row w' b L ∧ Below w.heap.size w w' := by
  have HN := Lib.hid (l1New_c a c l w hl hr hw)
  clear hr hw
  go_enter Try.func28, Try.ntmps28
  go_wp2_with fail
  refine HN.out.mono ?_
  rintro e w0 ⟨g, rfl, hcu, hgw, hb0⟩
  go_wp2_with fail
  refine (l16Four_d w0 g a c l 32767 w0 (by omega) (Dr.start hcu)).mono ?_
  rintro e w1 ⟨b, d, L, rfl, hl4, hcap, hLb, hfr, hdr1, hd1⟩
  have HB := Lib.hid (D.below hb0 hd1 hb0.size hgw)
  have HR := Lib.hid hfr.1
  have HLB := Lib.hid hLb
  clear hcu hgw hb0 hfr hdr1 hd1 hLb
  go_wp2
  go_ret
  exact ⟨b, d, L, rfl, hl4, HLB.out, HR.out, HB.out⟩


theorem DrawAddLanes_c (a : Option Addr) (c : Nat) (l : List Int) (w : World) (hl : l.length ≤ 1048576) (hr : RowB w a l) (hw : ∀ x ∈ l, 0 ≤ x ∧ x ≤ 255) :
    Calls Try.prog 32 #[.slice a l.length c] w fun e w' => ∃ x y : Int, e = .returned (.tuple #[.int .i64 x, .int .i64 y]) ∧ (-9223372036854775808 ≤ x ∧ x ≤ 9223372036854775807) ∧ (-9223372036854775808 ≤ y ∧ y ≤ 9223372036854775807) ∧ Below w.heap.size w w' := by
  have HN := Lib.hid (l1New_c a c l w hl hr hw)
  clear hr hw
  go_enter Try.func32, Try.ntmps32
  go_wp2_with fail
  refine HN.out.mono ?_
  rintro e w0 ⟨g, rfl, hcu, hgw, hb0⟩
  go_wp2_with fail
  refine (l16Num_d w0 g a c l 20000 w0 (by omega) (Dr.start hcu)).mono ?_
  rintro e w1 ⟨x, rfl, hx, hdr1, hd1⟩
  go_wp2_with fail
  refine (l16Num_d w0 g a c l 20000 w1 (by omega) hdr1).mono ?_
  rintro e w2 ⟨y, rfl, hy, hdr2, hd2⟩
  have HB := Lib.hid (D.below hb0 hdr2.2 hb0.size hgw)
  clear hcu hgw hb0 hdr1 hd1 hdr2 hd2
  go_wp2
  go_ret2
  exact ⟨x, y, rfl, hx, hy, HB.out⟩


theorem DrawClipLanes_c (a : Option Addr) (c : Nat) (l : List Int) (w : World) (hl : l.length ≤ 1048576) (hr : RowB w a l) (hw : ∀ x ∈ l, 0 ≤ x ∧ x ≤ 255) :
    Calls Try.prog 35 #[.slice a l.length c] w fun e w' => ∃ x : Int, e = .returned (.int .i64 x) ∧ (-9223372036854775808 ≤ x ∧ x ≤ 9223372036854775807) ∧ Below w.heap.size w w' := by
  have HN := Lib.hid (l1New_c a c l w hl hr hw)
  clear hr hw
  go_enter Try.func35, Try.ntmps35
  go_wp2_with fail
  refine HN.out.mono ?_
  rintro e w0 ⟨g, rfl, hcu, hgw, hb0⟩
  go_wp2_with fail
  refine (l16Num_d w0 g a c l 2400 w0 (by omega) (Dr.start hcu)).mono ?_
  rintro e w1 ⟨x, rfl, hx, hdr1, hd1⟩
  have HB := Lib.hid (D.below hb0 hd1 hb0.size hgw)
  clear hcu hgw hb0 hdr1 hd1
  go_wp2
  go_ret
  exact ⟨x, rfl, hx, HB.out⟩


set_option maxHeartbeats 4000000 in
theorem DrawClipAdd4_c (a : Option Addr) (c : Nat) (l : List Int) (w : World) (hl : l.length ≤ 1048576) (hr : RowB w a l) (hw : ∀ x ∈ l, 0 ≤ x ∧ x ≤ 255) :
    Calls Try.prog 37 #[.slice a l.length c] w fun e w' => ∃ (b : Option Addr) (d : Nat) (L : List Int) (b2 : Option Addr) (d2 : Nat) (M : List Int), e = .returned (.tuple #[.slice b L.length d, .slice b2 M.length d2]) ∧ (L.length ≤ 4 ∧ M.length ≤ 4) ∧ (∀ x ∈ L, -1 ≤ x ∧ x ≤ 32768) ∧ (∀ x ∈ M, -100000000 ≤ x ∧ x ≤ 100000000) ∧ Row w' b L ∧ Row w' b2 M ∧ Below w.heap.size w w' := by
  have HN := Lib.hid (l1New_c a c l w hl hr hw)
  clear hr hw
  go_enter Try.func37, Try.ntmps37
  go_wp2_with fail
  refine HN.out.mono ?_
  rintro e w0 ⟨g, rfl, hcu, hgw, hb0⟩
  have HB0 := Lib.hid hb0
  have HG := Lib.hid hgw
  go_wp2_with fail
  refine (l16Four_d w0 g a c l 255 w0 (by omega) (Dr.start hcu)).mono ?_
  rintro e w1 ⟨b, d, L, rfl, hl4, hcap, hLb, hfr, hdr1, hd1⟩
  go_wp2_with fail
  refine (l16Four_d w0 g a c l 300 w1 (by omega) hdr1).mono ?_
  rintro e w2 ⟨b2, d2, M0, rfl, hm4, hcap2, hMb, hfr2, hdr2, hd2⟩
  have hs0 : w0.heap.size ≤ w1.heap.size := hd1.size
  have hg1 : g < w0.heap.size := hcu.1
  have HLW : Hid (Low a l g w1.heap.size) := Lib.hid ((Dr.start hcu).low.mono hs0)
  have HFL := Lib.hid (hfr.cur hd2 hg1)
  have HL1 : Hid (∀ p, b = some p → p.block < w1.heap.size) := Lib.hid hfr.lt
  have HFM := Lib.hid hfr2
  have HD := Lib.hid hdr2
  have HLB := Lib.hid hLb
  have HMB := Lib.hid hMb
  obtain ⟨n, hn⟩ : ∃ n, n = M0.length := ⟨_, rfl⟩
  have HNL : Hid (M0.length = n) := Lib.hid hn.symm
  rw [← hn]
  have hn4 : n ≤ 4 := by omega
  clear hcu hgw hb0 hdr1 hd1 hdr2 hd2 hfr hfr2 hMb hLb HN hn hm4
  go_wp2
  go_loopw [7] (fun i wr => ∃ (k : Nat) (M : List Int), k ≤ n ∧ M.length = n ∧ i = .int .i64 k ∧ (∀ y ∈ M, -100000000 ≤ y ∧ y ≤ 100000000) ∧ Frs w1.heap.size wr b2 M ∧ Frs w0.heap.size wr b L ∧ Dr w0 g a c l wr) (fun i _ => n - (intOf i).toNat)
  case atStart => exact ⟨0, M0, Nat.zero_le _, HNL.out, rfl, fun y hy => by have := HMB.out y hy; omega, HFM.out, HFL.out, HD.out⟩
  case round =>
    clear HFM HFL HD HMB HNL
    obtain ⟨k, M, hk, hMn, rfl, hMb, hfm, hfl, hdr⟩ := hrel
    have HMB := Lib.hid hMb
    have HMN := Lib.hid hMn
    clear hMb hMn
    by_cases hlt : k < n
    · obtain ⟨bb, off, rfl, hbk, _⟩ := hfm.1.inside (by rw [HMN.out]; omega)
      have hltd : decide ((k : Int) < (n : Int)) = true := by simp; omega
      go_wp2_with fail
      refine (l1Once_d w0 g a c l 2 wr (by omega) hdr).mono ?_
      rintro e wA ⟨bo, rfl, hdrA, hdA⟩
      have hg2 : g < w1.heap.size := by omega
      cases bo
      · have HM := Lib.hid (hfm.cur hdA hg2)
        have HLL := Lib.hid (hfl.cur hdA hg1)
        have HDA := Lib.hid hdrA
        clear hfm hfl hdr hdrA hdA
        go_wp2
        go_roundw
        case rel => exact ⟨k + 1, M, by omega, HMN.out, by go_num, HMB.out, HM.out, HLL.out, HDA.out⟩
        case measure => simp [intOf]; omega
      · have hfA := hfm.cur hdA hg2
        obtain ⟨_, _, e, hcell⟩ := hfA.1.at_ (i := k) (by rw [HMN.out]; omega)
        cases e
        obtain ⟨x, hx⟩ : ∃ x, x = M.getD k 0 := ⟨_, rfl⟩
        have hxb : -100000000 ≤ x ∧ x ≤ 100000000 := by rw [hx, getD_lt (by rw [HMN.out]; omega)]; exact HMB.out _ (List.getElem_mem _)
        rw [← hx] at hcell
        obtain ⟨hx0, hx1⟩ := hxb
        have hi1 : (k : Int) < (n : Int) := by omega
        clear hx
        go_wp2_with fail
        refine (l1PickInt_d w0 g a c l [_, _, _, _, _, _, _] _ 7 wA (by simp) (by rfl) rfl hdrA).mono ?_
        rintro e wB ⟨u, rfl, hu, hdrB, hdB⟩
        have hub : -100000000 ≤ u ∧ u ≤ 100000000 := by simp at hu; omega
        have hfB := hfA.cur hdB hg2
        obtain ⟨_, _, e, hcell2⟩ := hfB.1.at_ (i := k) (by rw [HMN.out]; omega)
        cases e
        have hfz := (hfB.2 _ rfl).2.2 (off + k)
        have hge := (hfB.2 _ rfl).1
        have hbel : Below w1.heap.size wB (wB.setCell ⟨bb, off + k, none⟩ (.int .i64 u)) := (Below.refl w1.heap.size wB).setCell (p := ⟨bb, off + k, none⟩) hge _
        have HM := Lib.hid (hfB.stored k u)
        have HLL := Lib.hid (((hfl.cur hdA hg1).cur hdB hg1).below hbel HL1.out)
        have HDB := Lib.hid (hdrB.owned hbel hs0 HLW.out)
        generalize M.getD k 0 = old at *
        clear hfm hfl hdr hdrA hdA hfA hfB hdrB hdB hu hge hbel
        go_wp2
        go_roundw
        case rel => exact ⟨k + 1, M.set k u, by omega, by rw [List.length_set]; exact HMN.out, by go_num, fun y hy => by
          rcases mem_set hy with h | h
          · exact HMB.out y h
          · omega, HM.out, HLL.out, HDB.out⟩
        case measure => simp [intOf]; omega
    · obtain rfl : k = n := by omega
      have hltd : decide ((k : Int) < (k : Int)) = false := by simp
      have HR1 := Lib.hid hfl.1
      have HR2 := Lib.hid hfm.1
      have HBB := Lib.hid (D.below HB0.out hdr.2 HB0.out.size HG.out)
      clear hfm hfl hdr
      go_wp2
      go_ret2
      exact ⟨b, d, L, b2, d2, M, by rw [HMN.out]; rfl, ⟨hl4, by rw [HMN.out]; omega⟩, HLB.out, HMB.out, HR1.out, HR2.out, HBB.out⟩


set_option maxHeartbeats 4000000 in
theorem l19Draw_d (W : World) (g : Nat) (a : Option Addr) (c : Nat) (l : List Int) (w : World) (h : Dr W g a c l w) :
    Calls Try.prog 71 #[.pointer (some ⟨g, 0, none⟩)] w fun e w' => ∃ (b : Option Addr) (d : Nat) (L : List Int) (b2 : Option Addr) (d2 : Nat) (M : List Int), e = .returned (.tuple #[.slice b L.length d, .slice b2 M.length d2]) ∧ (L.length ≤ 64 ∧ M.length ≤ 64) ∧ (∀ x ∈ L, -1 ≤ x ∧ x ≤ 256) ∧ (∀ x ∈ M, -5000 ≤ x ∧ x ≤ 5000) ∧ Frs w.heap.size w' b L ∧ Frs w.heap.size w' b2 M ∧ Dr W g a c l w' ∧ w.grownBy w' (some g) := by
  have hL := Lib.hid h.low
  have HH := Lib.hid h
  have H0 := Lib.hid (Dr.start h.1)
  clear h
  go_enter Try.func71, Try.ntmps71
  go_wp2_with fail
  refine (l1PickInt_d w g a c l [_, _, _] _ 3 w (by simp) (by rfl) rfl H0.out).mono ?_
  rintro e w1 ⟨n, rfl, hn, hdr1, hd1⟩
  have hn2 : n = 16 ∨ n = 64 := by simp at hn; omega
  clear hn
  go_wp2_with fail
  refine (l14Line_d w g a c l n w1 (by omega) hdr1).mono ?_
  rintro e w2 ⟨b, d, L, rfl, hLn, hLb, hoL, hdr2, hd2⟩
  have hs1 := hd1.size
  have hs2 : w.heap.size ≤ w2.heap.size := Nat.le_trans hd1.size hd2.size
  have HOL := Lib.hid (hoL.mono (B' := w.heap.size) hs1)
  have HLB := Lib.hid hLb
  have HLN := Lib.hid hLn
  have HD2 := Lib.hid hdr2
  obtain ⟨gL, rfl, _, hgL, _⟩ := HOL.out.at_ (i := 0) (by omega)
  have hL3 : 3 < L.length := by omega
  clear hLb hLn hoL hdr1 hdr2 hd1 hd2 H0
  go_wp2_with fail
  go_loopw [6] (fun o wr => ∃ (M : List Int) (ad : Option Addr) (cc : Nat), M.length ≤ n.toNat ∧ o = .slice ad M.length cc ∧ (∀ y ∈ M, -5000 ≤ y ∧ y ≤ 5000) ∧ Own w2.heap.size wr ad cc M ∧ Own w.heap.size wr (some ⟨gL, 0, none⟩) d L ∧ Dr w g a c l wr ∧ w2.heap.size ≤ wr.heap.size) (fun o _ => n.toNat - (lenOf o))
  case atStart => exact ⟨[], _, _, by simp, rfl, by simp, Own.lit _ _ [] rfl (Nat.le_refl _) (by simp [maxLen]), HOL.out.alloc _, HD2.out.alloc _, by simp⟩
  case round =>
    obtain ⟨M, ad, cc, hMn, rfl, hMb, hoM, hoL, hdr, hsz⟩ := hrel
    have HMB := Lib.hid hMb
    have HNM := Lib.hid hMn
    have HLow := Lib.hid (hL.out.mono hs2)
    clear hMb hMn HOL HD2
    by_cases hlt : (M.length : Int) < n
    · have hltd : decide ((M.length : Int) < n) = true := by simp; omega
      go_wp2_with fail
      refine (l1Below_p w g a c l 600 wr (by omega) hdr).mono ?_
      rintro e wA ⟨y, rfl, hy0, hy1, hdrA, hdA⟩
      go_wp2_with fail
      refine (l1PickInt_d w g a c l [_, _, _, _, _] _ 5 wA (by simp) (by rfl) rfl hdrA).mono ?_
      rintro e wB ⟨u, rfl, hu, hdrB, hdB⟩
      have hub : -5000 ≤ u ∧ u ≤ 5000 := by simp at hu; omega
      have HO1 := Lib.hid ((hoM.cur hdA HLow.out.1).cur hdB HLow.out.1)
      have HL1 := Lib.hid ((hoL.cur hdA hL.out.1).cur hdB hL.out.1)
      have HD1 := Lib.hid hdrB
      have hszB : w2.heap.size ≤ wB.heap.size := by have := hdA.size; have := hdB.size; omega
      clear hoM hoL hdr hdrA hdA hdrB hdB hu
      go_wp2_with (at_builtin; refine append_one Try.underlying25 Try.infoInt rfl (.tmp 18) (.tmp 25) rfl w2.heap.size ad cc M.length M rfl rfl (HO1.out.alloc _) wB.heap.size u rfl ?_ ?_ ?_ ?_; (simp); (omega); (simp; omega); intro ad1 cc1 w9 ho9 hb9)
      have HO9 := Lib.hid ho9
      have HL9 := Lib.hid ((HL1.out.alloc _).under hb9 (fun p hp => by cases hp; exact hgL))
      have HD9 := Lib.hid ((HD1.out.alloc _).owned hb9 hs2 HLow.out)
      have HZ9 : Hid (w2.heap.size ≤ w9.heap.size) := Lib.hid (by have := hb9.size; simp at this; omega)
      have HM9 : Hid (∀ y ∈ M ++ [u], -5000 ≤ y ∧ y ≤ 5000) := Lib.hid (fun y hy => by
        rcases List.mem_append.1 hy with h | h
        · exact HMB.out y h
        · simp at h; omega)
      clear ho9 hb9
      go_wp2
      go_roundw
      case rel => exact ⟨M ++ [u], ad1, cc1, by simp; omega, by simp, HM9.out, HO9.out, HL9.out, HD9.out, HZ9.out⟩
      case measure => simp [lenOf]; omega
    · have hltd : decide ((M.length : Int) < n) = false := by simp; omega
      have hMl : Hid (M.length = n.toNat) := Lib.hid (by have := HNM.out; omega)
      have hM0 : 16 ≤ M.length ∧ M.length ≤ 64 := by have := hMl.out; omega
      obtain ⟨gM, rfl, hgM, hgM2, _⟩ := hoM.at_ (i := 0) (by omega)
      have hMcap := hoM.cap
      go_wp2_with fail
      refine (l1Below_p w g a c l 14 wr (by omega) hdr).mono ?_
      rintro e wA ⟨y, rfl, hy0, hy1, hdrA, hdA⟩
      have HOM := Lib.hid (hoM.cur hdA HLow.out.1)
      have HOL := Lib.hid (hoL.cur hdA hL.out.1)
      have HDA := Lib.hid hdrA
      clear hoM hoL hdr hdrA hdA
      by_cases hy : y = 0
      · subst hy
        go_wp2_with fail
        refine (l1PickInt_d w g a c l [_, _] _ 2 wA (by simp) (by rfl) rfl HDA.out).mono ?_
        rintro e wB ⟨u, rfl, hu, hdrB, hdB⟩
        have hub : -1 ≤ u ∧ u ≤ 256 := by simp at hu; omega
        have hoL := HOL.out.cur hdB hL.out.1
        have hcell := hoL.cellAt (i := 3) hL3
        have hfz := hoL.frozenAt 3
        have hge := (hoL.lt _ rfl).1
        have hLl : (3 : Int) < (L.length : Int) := by omega
        have HL1 := Lib.hid (hoL.stored 3 u)
        have HM1 := Lib.hid ((HOM.out.cur hdB HLow.out.1).farD (p := ⟨gL, 3, none⟩) hgL (.int .i64 u))
        have HD1 := Lib.hid (hdrB.owned ((Below.refl w.heap.size wB).setCell (p := ⟨gL, 3, none⟩) hge (.int .i64 u)) (Nat.le_refl _) hL.out)
        generalize L.getD 3 0 = old at *
        clear hoL hdrB hdB hu HOM HOL HDA hge
        go_wp2
        go_ret2
        refine ⟨_, d, L.set 3 u, _, cc, M, by rw [List.length_set]; rfl, ⟨by rw [List.length_set]; have := HLN.out; omega, hM0.2⟩, fun x hx => ?_, HMB.out, HL1.out.frs, (HM1.out.mono hs2).frs, HH.out.next HD1.out.1 HD1.out.2, HD1.out.2⟩
        rcases mem_set hx with h | h
        · have := HLB.out x h; omega
        · omega
      · by_cases hy1' : y = 1
        · subst hy1'
          obtain ⟨n1, hn1⟩ : ∃ n1, M.length = n1 + 1 := ⟨M.length - 1, by omega⟩
          have hN1 := Lib.hid hn1
          rw [hn1] at hM0 hMcap
          have hf := (HOM.out.mono hs2).frs.tail (n := n1) hn1 (by omega)
          have HF := Lib.hid hf
          clear hf
          rw [hn1]
          go_wp2
          go_ret2
          refine ⟨_, d, L, _, _, tab (fun i => M.getD (1 + i) 0) n1, by rw [tab_len]; rfl, ⟨by have := HLN.out; omega, by rw [tab_len]; omega⟩, fun x hx => by have := HLB.out x hx; omega, fun x hx => ?_, HOL.out.frs, HF.out, HH.out.next HDA.out.1 HDA.out.2, HDA.out.2⟩
          obtain ⟨i, hi, rfl⟩ := tab_mem' hx
          have hi4 : 1 + i < M.length := by rw [hN1.out]; omega
          exact HMB.out (M.getD (1 + i) 0) (by rw [getD_lt hi4]; exact List.getElem_mem hi4)
        · have hb0 : (y == 0) = false := by simp [hy]
          have hb1 : (y == 1) = false := by simp [hy1']
          go_wp2
          go_ret2
          exact ⟨_, d, L, _, cc, M, rfl, ⟨by have := HLN.out; omega, hM0.2⟩, fun x hx => by have := HLB.out x hx; omega, HMB.out, HOL.out.frs, (HOM.out.mono hs2).frs, HH.out.next HDA.out.1 HDA.out.2, HDA.out.2⟩

end Go.Proofs.Ytbdggcefgiehkaa
