/- Contracts of the draws of samples at an edge and of a quality. -/
import Derived.Test.YtkfjbnhihjnhnaaDraw2
namespace Go.Proofs.Ytkfjbnhihjnhnaa
open Go.RowKit
set_option linter.unusedVariables false


set_option maxHeartbeats 1000000 in
theorem l20Q_d (W : World) (g : Nat) (a : Option Addr) (c : Nat) (l : List Int) (w : World) (h : Dr W g a c l w) :
    Calls Try.prog 36 #[.pointer (some ⟨g, 0, none⟩)] w fun e w' => ∃ x : Int, e = .returned (.int .i64 x) ∧ (-1 ≤ x ∧ x ≤ 52) ∧ Dr W g a c l w' ∧ w.grownBy w' (some g) := by
  have H := Lib.hid h
  have H0 := Lib.hid (Dr.start h.1)
  clear h
  go_enter Try.func36, Try.ntmps36
  go_wp2_with fail
  refine (l1Below_p w g a c l 52 w (by omega) H0.out).mono ?_
  rintro e w1 ⟨y, rfl, hy0, hy1, hdr1, hd1⟩
  go_wp2_with fail
  refine (l1PickInt_d w g a c l [_, _, _, _, _, _, _, _] _ 8 w1 (by simp) (by rfl) rfl hdr1).mono ?_
  rintro e w2 ⟨z, rfl, hz, hdr2, hd2⟩
  have hzb : -1 ≤ z ∧ z ≤ 52 := by simp at hz; omega
  have HD := Lib.hid hdr2
  clear hdr1 hd1 hdr2 hd2 hz
  go_wp2
  go_ret
  exact ⟨z, rfl, hzb, H.out.next HD.out.1 HD.out.2, HD.out.2⟩


set_option maxHeartbeats 4000000 in
theorem DrawEdgeOf_c (a : Option Addr) (c : Nat) (l : List Int) (w : World) (hl : l.length ≤ 1048576) (hr : RowB w a l) (hw : ∀ x ∈ l, 0 ≤ x ∧ x ≤ 255) :
    Calls Try.prog 16 #[.slice a l.length c] w fun e w' => ∃ p1 p0 q0 q1 q : Int, e = .returned (.tuple #[.int .i64 p1, .int .i64 p0, .int .i64 q0, .int .i64 q1, .int .i64 q]) ∧ (-1 ≤ p1 ∧ p1 ≤ 256) ∧ (0 ≤ p0 ∧ p0 ≤ 255) ∧ (0 ≤ q0 ∧ q0 ≤ 255) ∧ (0 ≤ q1 ∧ q1 ≤ 255) ∧ (-1 ≤ q ∧ q ≤ 52) ∧ Below w.heap.size w w' := by
  have HN := Lib.hid (l1New_c a c l w hl hr hw)
  have hmin := min_if
  have hmax := max_if
  clear hr hw
  go_enter Try.func16, Try.ntmps16
  go_wp2_with fail
  refine HN.out.mono ?_
  rintro e w0 ⟨g, rfl, hcu, hgw, hb0⟩
  have HB0 := Lib.hid hb0
  have HG := Lib.hid hgw
  have hdr0 := Dr.start hcu
  clear hcu hgw hb0 HN
  go_wp2_with fail
  refine (l1Below_p w0 g a c l 256 w0 (by omega) hdr0).mono ?_
  rintro e w1 ⟨p0, rfl, hp0, hp1, hdr1, _⟩
  go_wp2_with fail
  refine (l1Below_p w0 g a c l 9 w1 (by omega) hdr1).mono ?_
  rintro e w2 ⟨x, rfl, hx0, hx1, hdr2, _⟩
  obtain ⟨P1, hP1⟩ : ∃ P, P = max 0 (min 255 (p0 + x - 4)) := ⟨_, rfl⟩
  have hP1b : 0 ≤ P1 ∧ P1 ≤ 255 := by omega
  have eP1 := hP1.symm
  clear hP1
  go_wp2_with fail
  refine (l1Below_p w0 g a c l 41 w2 (by omega) hdr2).mono ?_
  rintro e w3 ⟨y, rfl, hy0, hy1, hdr3, _⟩
  obtain ⟨Q0, hQ0⟩ : ∃ P, P = max 0 (min 255 (p0 + y - 20)) := ⟨_, rfl⟩
  have hQ0b : 0 ≤ Q0 ∧ Q0 ≤ 255 := by omega
  have eQ0 := hQ0.symm
  clear hQ0
  go_wp2_with fail
  refine (l1Below_p w0 g a c l 9 w3 (by omega) hdr3).mono ?_
  rintro e w4 ⟨z, rfl, hz0, hz1, hdr4, _⟩
  obtain ⟨Q1, hQ1⟩ : ∃ P, P = max 0 (min 255 (Q0 + z - 4)) := ⟨_, rfl⟩
  have hQ1b : 0 ≤ Q1 ∧ Q1 ≤ 255 := by omega
  have eQ1 := hQ1.symm
  clear hQ1
  go_wp2_with fail
  refine (l1Once_d w0 g a c l 12 w4 (by omega) hdr4).mono ?_
  rintro e w5 ⟨bb, rfl, hdr5, _⟩
  clear hdr0 hdr1 hdr2 hdr3 hdr4
  cases bb
  · go_wp2_with fail
    refine (l20Q_d w0 g a c l w5 hdr5).mono ?_
    rintro e w6 ⟨q, rfl, hq, hdr6, _⟩
    have HD := Lib.hid hdr6
    clear hdr5 hdr6
    go_wp2
    refine bodyPost_ret (v := .tuple #[.int .i64 P1, .int .i64 p0, .int .i64 Q0, .int .i64 Q1, .int .i64 q]) (by simp [results, Try.results16, go_sem]) rfl ?_
    exact ⟨_, _, _, _, _, rfl, by omega, by omega, by omega, by omega, hq, D.below HB0.out HD.out.2 HB0.out.size HG.out⟩
  · go_wp2_with fail
    refine (l1PickInt_d w0 g a c l [_, _, _] _ 3 w5 (by simp) (by rfl) rfl hdr5).mono ?_
    rintro e w6 ⟨u, rfl, hu, hdr6, _⟩
    have hub : -1 ≤ u ∧ u ≤ 256 := by simp at hu; omega
    clear hdr5 hu
    go_wp2_with fail
    refine (l20Q_d w0 g a c l w6 hdr6).mono ?_
    rintro e w7 ⟨q, rfl, hq, hdr7, _⟩
    have HD := Lib.hid hdr7
    clear hdr6 hdr7
    go_wp2
    refine bodyPost_ret (v := .tuple #[.int .i64 u, .int .i64 p0, .int .i64 Q0, .int .i64 Q1, .int .i64 q]) (by simp [results, Try.results16, go_sem]) rfl ?_
    exact ⟨_, _, _, _, _, rfl, hub, by omega, by omega, by omega, hq, D.below HB0.out HD.out.2 HB0.out.size HG.out⟩

end Go.Proofs.Ytkfjbnhihjnhnaa
