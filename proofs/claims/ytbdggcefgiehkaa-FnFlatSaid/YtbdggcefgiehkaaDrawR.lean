/- Contracts of the draws of a prediction and a residual. -/
import Derived.Test.YtbdggcefgiehkaaDrawL
namespace Go.Proofs.Ytbdggcefgiehkaa
open Go.RowKit
set_option linter.unusedVariables false

theorem below_next {w w1 w2 : World} (h : Below w.heap.size w w1) (k : Below w1.heap.size w1 w2) : Below w.heap.size w w2 := h.trans (k.mono h.size)

theorem sameInts_b (a b : Option Addr) (c d : Nat) (l m : List Int) (w : World) (hl : l.length ≤ 4611686018427387904) (hm : m.length ≤ 4611686018427387904) (hra : Row w a l) (hrb : Row w b m) :
    Calls Try.prog 18 #[.slice a l.length c, .slice b m.length d] w fun e w' => e = .returned (.bool (decide (l = m))) ∧ Below w.heap.size w w' :=
  (sameInts_c a b c d l m w hl hm hra hrb).mono fun _ _ ⟨he, n, hw⟩ => ⟨he, by rw [hw]; exact below_drewN' (Below.refl _ _) n⟩
theorem sameInts_t (a b : Option Addr) (c d : Nat) (l : List Int) (w : World) (hl : l.length ≤ 4611686018427387904) (hra : Row w a l) (hrb : Row w b l) :
    Calls Try.prog 18 #[.slice a l.length c, .slice b l.length d] w fun e w' => e = .returned (.bool true) ∧ Below w.heap.size w w' :=
  (sameInts_b a b c d l l w hl hl hra hrb).mono fun _ _ ⟨he, hw⟩ => ⟨by rw [he]; simp, hw⟩


theorem DrawRecon_c (a : Option Addr) (c : Nat) (l : List Int) (w : World) (hl : l.length ≤ 1048576) (hr : RowB w a l) (hw : ∀ x ∈ l, 0 ≤ x ∧ x ≤ 255) :
    Calls Try.prog 40 #[.slice a l.length c] w fun e w' => ∃ (b : Option Addr) (d : Nat) (L : List Int) (b2 : Option Addr) (d2 : Nat) (M : List Int), e = .returned (.tuple #[.slice b L.length d, .slice b2 M.length d2]) ∧ (L.length ≤ 64 ∧ M.length ≤ 64) ∧ (∀ x ∈ L, -1 ≤ x ∧ x ≤ 256) ∧ (∀ x ∈ M, -5000 ≤ x ∧ x ≤ 5000) ∧ Row w' b L ∧ Row w' b2 M ∧ Below w.heap.size w w' := by
  have HN := Lib.hid (l1New_c a c l w hl hr hw)
  clear hr hw
  go_enter Try.func40, Try.ntmps40
  go_wp2_with fail
  refine HN.out.mono ?_
  rintro e w0 ⟨g, rfl, hcu, hgw, hb0⟩
  go_wp2_with fail
  refine (l19Draw_d w0 g a c l w0 (Dr.start hcu)).mono ?_
  rintro e w1 ⟨b, d, L, b2, d2, M, rfl, hlen, hLb, hMb, hfl, hfm, hdr1, hd1⟩
  have HB := Lib.hid (D.below hb0 hd1 hb0.size hgw)
  have HR := Lib.hid hfl.1
  have HR2 := Lib.hid hfm.1
  have HLB := Lib.hid hLb
  have HMB := Lib.hid hMb
  clear hcu hgw hb0 hfl hfm hdr1 hd1 hLb hMb
  go_wp2
  go_ret2
  exact ⟨b, d, L, b2, d2, M, rfl, hlen, HLB.out, HMB.out, HR.out, HR2.out, HB.out⟩


theorem DrawResidual_c (a : Option Addr) (c : Nat) (l : List Int) (w : World) (hl : l.length ≤ 1048576) (hr : RowB w a l) (hw : ∀ x ∈ l, 0 ≤ x ∧ x ≤ 255) :
    Calls Try.prog 44 #[.slice a l.length c] w fun e w' => ∃ (b : Option Addr) (d : Nat) (L : List Int) (b2 : Option Addr) (d2 : Nat) (M : List Int), e = .returned (.tuple #[.slice b L.length d, .slice b2 M.length d2]) ∧ (L.length ≤ 64 ∧ M.length ≤ 64) ∧ (∀ x ∈ L, 0 ≤ x ∧ x ≤ 255) ∧ (∀ x ∈ M, -1 ≤ x ∧ x ≤ 256) ∧ Row w' b L ∧ Row w' b2 M ∧ Below w.heap.size w w' := by
  have HN := Lib.hid (l1New_c a c l w hl hr hw)
  clear hr hw
  go_enter Try.func44, Try.ntmps44
  go_wp2_with fail
  refine HN.out.mono ?_
  rintro e w0 ⟨g, rfl, hcu, hgw, hb0⟩
  go_wp2_with fail
  refine (l19Draw_d w0 g a c l w0 (Dr.start hcu)).mono ?_
  rintro e w1 ⟨b, d, L, b2, d2, M, rfl, hlen, hLb, hMb, hfl, hfm, hdr1, hd1⟩
  go_wp2_with fail
  refine (l14Line_d w0 g a c l L.length w1 (by omega) hdr1).mono ?_
  rintro e w2 ⟨b3, d3, N, rfl, hNl, hNb, hoN, hdr2, hd2⟩
  have hgg : g < w0.heap.size := hcu.1
  have HB := Lib.hid (D.below hb0 hdr2.2 hb0.size hgw)
  have HR := Lib.hid (hfl.cur hd2 hgg).1
  have HR2 := Lib.hid hoN.row
  have HLB := Lib.hid hLb
  have HNB := Lib.hid hNb
  have HNL := Lib.hid hNl
  clear hcu hgw hb0 hfl hfm hdr1 hd1 hLb hMb hNl hNb hoN hdr2 hd2
  go_wp2
  go_ret2
  exact ⟨b3, d3, N, b, d, L, rfl, ⟨by have := HNL.out; omega, hlen.1⟩, HNB.out, HLB.out, HR2.out, HR.out, HB.out⟩

end Go.Proofs.Ytbdggcefgiehkaa
