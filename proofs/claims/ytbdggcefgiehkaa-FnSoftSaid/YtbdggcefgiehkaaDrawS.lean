/- Contract of the draw of a line to smooth. -/
import Derived.Test.YtbdggcefgiehkaaDrawL
namespace Go.Proofs.Ytbdggcefgiehkaa
open Go.RowKit
set_option linter.unusedVariables false


set_option maxHeartbeats 4000000 in
theorem DrawSoftened_c (a : Option Addr) (c : Nat) (l : List Int) (w : World) (hl : l.length ≤ 1048576) (hr : RowB w a l) (hw : ∀ x ∈ l, 0 ≤ x ∧ x ≤ 255) :
    Calls Try.prog 15 #[.slice a l.length c] w fun e w' => ∃ (b : Option Addr) (d : Nat) (L : List Int), e = .returned (.slice b L.length d) ∧ L.length ≤ 16 ∧ (∀ x ∈ L, -5 ≤ x ∧ x ≤ 300) ∧ Row w' b L ∧ Below w.heap.size w w' := by
  have HN := Lib.hid (l1New_c a c l w hl hr hw)
  clear hr hw
  go_enter Try.func15, Try.ntmps15
  go_wp2_with fail
  refine HN.out.mono ?_
  rintro e w0 ⟨g, rfl, hcu, hgw, hb0⟩
  have HB0 := Lib.hid hb0
  have HG := Lib.hid hgw
  have hgl := hcu.1
  have hLow := Lib.hid (Dr.start hcu).low
  go_wp2_with fail
  refine (l1Below_p w0 g a c l 12 w0 (by omega) (Dr.start hcu)).mono ?_
  rintro e w1 ⟨n, rfl, hn0, hn1, hdr1, hd1⟩
  go_wp2_with fail
  refine (l14Line_d w0 g a c l n w1 (by omega) hdr1).mono ?_
  rintro e w2 ⟨b, d, L, rfl, hLn, hLb, hoL, hdr2, hd2⟩
  have hs1 := hd1.size
  have HLN : Hid (L.length ≤ 12) := Lib.hid (by omega)
  have HLB := Lib.hid hLb
  have HO := Lib.hid (hoL.mono (B' := w0.heap.size) hs1)
  have HD := Lib.hid hdr2
  clear hcu hgw hb0 hdr1 hd1 hLn hLb hoL hdr2 hd2 HN
  by_cases hpos : 0 < L.length
  · obtain ⟨gl, rfl, _, _, _⟩ := HO.out.at_ (i := 0) hpos
    have hp1 : (0 : Int) < (L.length : Int) := by omega
    go_wp2_with fail
    refine (l1Once_d w0 g a c l 6 w2 (by omega) HD.out).mono ?_
    rintro e w3 ⟨bo, rfl, hdr3, hd3⟩
    have HO3 := Lib.hid (HO.out.cur hd3 hgl)
    have HD3 := Lib.hid hdr3
    clear HO HD hdr3 hd3
    cases bo
    · have HB := Lib.hid (D.below HB0.out HD3.out.2 HB0.out.size HG.out)
      go_wp2
      go_ret
      exact ⟨_, d, L, rfl, by have := HLN.out; omega, fun x hx => by have := HLB.out x hx; omega, HO3.out.row, HB.out⟩
    · have hll : (L.length : Int) ≤ 12 := by have := HLN.out; omega
      go_wp2_with fail
      refine (l1Below_p w0 g a c l L.length w3 (by omega) HD3.out).mono ?_
      rintro e w4 ⟨i, rfl, hi0, hi1, hdr4, hd4⟩
      obtain ⟨j, rfl⟩ := Int.eq_ofNat_of_zero_le hi0
      go_wp2_with fail
      refine (l1PickInt_d w0 g a c l [_, _] _ 2 w4 (by simp) (by rfl) rfl hdr4).mono ?_
      rintro e w5 ⟨u, rfl, hu, hdr5, hd5⟩
      have hub : -5 ≤ u ∧ u ≤ 300 := by simp at hu; omega
      have ho5 := (HO3.out.cur hd4 hgl).cur hd5 hgl
      have hjl : j < L.length := by omega
      have hcell := ho5.cellAt (i := j) hjl
      have hfz := ho5.frozenAt j
      have hge := (ho5.lt _ rfl).1
      have HO6 := Lib.hid (ho5.stored j u)
      have hdr6 := hdr5.owned ((Below.refl w0.heap.size w5).setCell (p := ⟨gl, j, none⟩) hge (.int .i64 u)) (Nat.le_refl _) hLow.out
      have HB := Lib.hid (D.below HB0.out hdr6.2 HB0.out.size HG.out)
      generalize L.getD j 0 = old at *
      clear ho5 hdr4 hdr5 hdr6 hd4 hd5 hu HO3 HD3 hge
      go_wp2
      go_ret
      refine ⟨_, d, L.set j u, ret_slice (by rw [List.length_set]), by rw [List.length_set]; have := HLN.out; omega, fun x hx => ?_, HO6.out.row, HB.out⟩
      rcases mem_set hx with h | h
      · have := HLB.out x h; omega
      · omega
  · have hp1 : (L.length : Int) ≤ 0 := by omega
    have HB := Lib.hid (D.below HB0.out HD.out.2 HB0.out.size HG.out)
    go_wp2
    go_ret
    exact ⟨b, d, L, rfl, by omega, fun x hx => by have := HLB.out x hx; omega, HO.out.row, HB.out⟩

end Go.Proofs.Ytbdggcefgiehkaa
