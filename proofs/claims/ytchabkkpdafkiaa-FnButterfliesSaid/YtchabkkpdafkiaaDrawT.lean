/- Contracts of the draws of squares to transform. -/
import Derived.Test.YtchabkkpdafkiaaDrawL
namespace Go.Proofs.Ytchabkkpdafkiaa
open Go.RowKit
set_option linter.unusedVariables false


set_option maxHeartbeats 4000000 in
theorem l12Square_4 (W : World) (g : Nat) (a : Option Addr) (c : Nat) (l : List Int) (w : World) (h : Dr W g a c l w) :
    Calls Try.prog 41 #[.pointer (some ⟨g, 0, none⟩), .int .i64 4] w fun e w' => ∃ (b : Option Addr) (d : Nat) (L : List Int), e = .returned (.slice b L.length d) ∧ L.length ≤ 64 ∧ L.length ≤ d ∧ (∀ x ∈ L, -1000000001 ≤ x ∧ x ≤ 1000000001) ∧ Frs w.heap.size w' b L ∧ Dr W g a c l w' ∧ w.grownBy w' (some g) := by
  have hL := Lib.hid h.low
  have HH := Lib.hid h
  have HD := Lib.hid (Dr.start h.1)
  clear h
  go_enter Try.func41, Try.ntmps41
  go_wp2_with fail
  go_loopw [5] (fun o wr => ∃ (L : List Int) (ad : Option Addr) (cc : Nat), L.length ≤ 16 ∧ o = .slice ad L.length cc ∧ (∀ y ∈ L, -10000 ≤ y ∧ y ≤ 10000) ∧ Own w.heap.size wr ad cc L ∧ Dr w g a c l wr) (fun o _ => 16 - (lenOf o))
  case atStart => exact ⟨[], _, _, by simp, rfl, by simp, Own.lit _ _ [] rfl HD.out.2.size (by simp [maxLen]), HD.out.alloc _⟩
  case round =>
    clear HD
    obtain ⟨L, ad, cc, hLn, rfl, hLb, ho, hdr⟩ := hrel
    have HLB := Lib.hid hLb
    clear hLb
    by_cases hlt : (L.length : Int) < 16
    · go_wp2_with fail
      refine (l1Below_p w g a c l 511 wr (by omega) hdr).mono ?_
      rintro e wA ⟨u, rfl, hu0, hu1, hdrA, hdA⟩
      go_wp2_with fail
      refine (l1Below_p w g a c l 20000 wA (by omega) hdrA).mono ?_
      rintro e wB ⟨v, rfl, hv0, hv1, hdrB, hdB⟩
      go_wp2_with fail
      refine (l1PickInt_d w g a c l [_, _, _, _, _, _] _ 6 wB (by simp) (by rfl) rfl hdrB).mono ?_
      rintro e wC ⟨x, rfl, hx, hdrC, hdC⟩
      have hxb : -10000 ≤ x ∧ x ≤ 10000 := by simp at hx; omega
      have HO1 := Lib.hid (((ho.cur hdA hL.out.1).cur hdB hL.out.1).cur hdC hL.out.1)
      have HD1 := Lib.hid hdrC
      clear ho hdr hdrA hdA hdrB hdB hdrC hdC hx
      go_wp2_with (at_builtin; refine append_one Try.underlying22 Try.infoInt rfl (.tmp 13) (.tmp 23) rfl w.heap.size ad cc L.length L rfl rfl (HO1.out.alloc _) wC.heap.size x rfl ?_ ?_ ?_ ?_; (simp); (omega); (have := HD1.out.2.size; simp; omega); intro ad1 cc1 w9 ho9 hb9)
      have HO9 := Lib.hid ho9
      have HD9 := Lib.hid ((HD1.out.alloc _).owned hb9 (Nat.le_refl w.heap.size) hL.out)
      have HL9 : Hid (∀ y ∈ L ++ [x], -10000 ≤ y ∧ y ≤ 10000) := Lib.hid (fun y hy => by
        rcases List.mem_append.1 hy with h | h
        · exact HLB.out y h
        · simp at h; omega)
      clear ho9 hb9
      go_wp2
      go_roundw
      case rel => exact ⟨L ++ [x], ad1, cc1, by simp; omega, by simp, HL9.out, HO9.out, HD9.out⟩
      case measure => simp [lenOf]; omega
    · have HLN : Hid (L.length = 16) := Lib.hid (by omega)
      have HCP := Lib.hid ho.cap
      obtain ⟨gL, rfl, _, _, _⟩ := ho.at_ (i := 0) (by have := HLN.out; omega)
      have HO0 := Lib.hid ho
      go_wp2_with fail
      refine (l1Below_p w g a c l 14 wr (by omega) hdr).mono ?_
      rintro e w1 ⟨s, rfl, hs0, hs1, hdr1, hd1⟩
      have HO1 := Lib.hid (HO0.out.cur hd1 hL.out.1)
      clear ho HO0 hdr hd1
      by_cases h0 : s = 0
      · subst h0
        have HD1 := Lib.hid hdr1
        have hcap : 16 ≤ cc := by have h1 := HLN.out; have h2 := HCP.out; omega
        have hlen : (L.length : Int) = 16 := by have := HLN.out; omega
        have hlen2 : L.length = 16 := HLN.out
        rw [hlen2]
        clear hdr1 hLn hlt hlen hlen2
        go_wp2
        go_ret
        exact ⟨some ⟨gL, 1, none⟩, cc - 1, tab (fun i => L.getD (1 + i) 0) 15, by rw [tab_len]; rfl, by rw [tab_len]; omega, by rw [tab_len]; omega, fun z hz => by obtain ⟨i, hi, rfl⟩ := tab_mem' hz; have h4 : 1 + i < L.length := (by rw [HLN.out]; omega); have := HLB.out (L.getD (1 + i) 0) (by rw [getD_lt h4]; exact List.getElem_mem h4); omega, HO1.out.frs.tail HLN.out (by omega), HH.out.next HD1.out.1 HD1.out.2, HD1.out.2⟩
      · have e0 : (s == 0) = false := by simp [h0]
        by_cases h1 : s = 1
        · subst h1
          have hLe : (L.length : Int) = 16 := by have := HLN.out; omega
          go_wp2_with fail
          refine (l1Below_p w g a c l 16 w1 (by omega) hdr1).mono ?_
          rintro e w2 ⟨i, rfl, hi0, hi1, hdr2, hd2⟩
          obtain ⟨j, rfl⟩ := Int.eq_ofNat_of_zero_le hi0
          go_wp2_with fail
          refine (l1PickInt_d w g a c l [_, _, _] _ 3 w2 (by simp) (by rfl) rfl hdr2).mono ?_
          rintro e w3 ⟨x, rfl, hx, hdr3, hd3⟩
          have hxb : -1000000001 ≤ x ∧ x ≤ 1000000001 := by simp at hx; omega
          have ho3 := (HO1.out.cur hd2 hL.out.1).cur hd3 hL.out.1
          have hjL : j < L.length := by have := HLN.out; omega
          have c3 := ho3.cellAt (i := j) hjL
          have f3 := ho3.frozenAt j
          have hst := ho3.frs.stored j x
          rw [Nat.zero_add] at hst
          have HST := Lib.hid hst
          have HDD := Lib.hid (hdr3.owned ((Below.refl w.heap.size w3).setCell (p := ⟨gL, j, none⟩) (ho3.lt _ rfl).1 (.int .i64 x)) (Nat.le_refl _) hL.out)
          have HLE := Lib.hid hLe
          have hjz : (j : Int) < (L.length : Int) := by omega
          clear ho3 hdr3 hd3 hdr2 hd2 hdr1 hx hst hLe hLn hlt
          go_wp2
          go_ret
          exact ⟨some ⟨gL, 0, none⟩, cc, L.set j x, by rw [List.length_set]; rfl, by rw [List.length_set, HLN.out]; omega, by rw [List.length_set]; exact HCP.out, fun z hz => (mem_set hz).elim (fun h => by have := HLB.out z h; omega) (fun h => by omega), HST.out, HH.out.next HDD.out.1 HDD.out.2, HDD.out.2⟩
        · have e1 : (s == 1) = false := by simp [h1]
          have HD1 := Lib.hid hdr1
          clear hdr1 hLn hlt
          go_wp2
          go_ret
          exact ⟨_, _, L, rfl, by rw [HLN.out]; omega, HCP.out, fun z hz => by have := HLB.out z hz; omega, HO1.out.frs, HH.out.next HD1.out.1 HD1.out.2, HD1.out.2⟩
set_option maxHeartbeats 4000000 in
theorem l12Square_8 (W : World) (g : Nat) (a : Option Addr) (c : Nat) (l : List Int) (w : World) (h : Dr W g a c l w) :
    Calls Try.prog 41 #[.pointer (some ⟨g, 0, none⟩), .int .i64 8] w fun e w' => ∃ (b : Option Addr) (d : Nat) (L : List Int), e = .returned (.slice b L.length d) ∧ L.length ≤ 64 ∧ L.length ≤ d ∧ (∀ x ∈ L, -1000000001 ≤ x ∧ x ≤ 1000000001) ∧ Frs w.heap.size w' b L ∧ Dr W g a c l w' ∧ w.grownBy w' (some g) := by
  have hL := Lib.hid h.low
  have HH := Lib.hid h
  have HD := Lib.hid (Dr.start h.1)
  clear h
  go_enter Try.func41, Try.ntmps41
  go_wp2_with fail
  go_loopw [5] (fun o wr => ∃ (L : List Int) (ad : Option Addr) (cc : Nat), L.length ≤ 64 ∧ o = .slice ad L.length cc ∧ (∀ y ∈ L, -10000 ≤ y ∧ y ≤ 10000) ∧ Own w.heap.size wr ad cc L ∧ Dr w g a c l wr) (fun o _ => 64 - (lenOf o))
  case atStart => exact ⟨[], _, _, by simp, rfl, by simp, Own.lit _ _ [] rfl HD.out.2.size (by simp [maxLen]), HD.out.alloc _⟩
  case round =>
    clear HD
    obtain ⟨L, ad, cc, hLn, rfl, hLb, ho, hdr⟩ := hrel
    have HLB := Lib.hid hLb
    clear hLb
    by_cases hlt : (L.length : Int) < 64
    · go_wp2_with fail
      refine (l1Below_p w g a c l 511 wr (by omega) hdr).mono ?_
      rintro e wA ⟨u, rfl, hu0, hu1, hdrA, hdA⟩
      go_wp2_with fail
      refine (l1Below_p w g a c l 20000 wA (by omega) hdrA).mono ?_
      rintro e wB ⟨v, rfl, hv0, hv1, hdrB, hdB⟩
      go_wp2_with fail
      refine (l1PickInt_d w g a c l [_, _, _, _, _, _] _ 6 wB (by simp) (by rfl) rfl hdrB).mono ?_
      rintro e wC ⟨x, rfl, hx, hdrC, hdC⟩
      have hxb : -10000 ≤ x ∧ x ≤ 10000 := by simp at hx; omega
      have HO1 := Lib.hid (((ho.cur hdA hL.out.1).cur hdB hL.out.1).cur hdC hL.out.1)
      have HD1 := Lib.hid hdrC
      clear ho hdr hdrA hdA hdrB hdB hdrC hdC hx
      go_wp2_with (at_builtin; refine append_one Try.underlying22 Try.infoInt rfl (.tmp 13) (.tmp 23) rfl w.heap.size ad cc L.length L rfl rfl (HO1.out.alloc _) wC.heap.size x rfl ?_ ?_ ?_ ?_; (simp); (omega); (have := HD1.out.2.size; simp; omega); intro ad1 cc1 w9 ho9 hb9)
      have HO9 := Lib.hid ho9
      have HD9 := Lib.hid ((HD1.out.alloc _).owned hb9 (Nat.le_refl w.heap.size) hL.out)
      have HL9 : Hid (∀ y ∈ L ++ [x], -10000 ≤ y ∧ y ≤ 10000) := Lib.hid (fun y hy => by
        rcases List.mem_append.1 hy with h | h
        · exact HLB.out y h
        · simp at h; omega)
      clear ho9 hb9
      go_wp2
      go_roundw
      case rel => exact ⟨L ++ [x], ad1, cc1, by simp; omega, by simp, HL9.out, HO9.out, HD9.out⟩
      case measure => simp [lenOf]; omega
    · have HLN : Hid (L.length = 64) := Lib.hid (by omega)
      have HCP := Lib.hid ho.cap
      obtain ⟨gL, rfl, _, _, _⟩ := ho.at_ (i := 0) (by have := HLN.out; omega)
      have HO0 := Lib.hid ho
      go_wp2_with fail
      refine (l1Below_p w g a c l 14 wr (by omega) hdr).mono ?_
      rintro e w1 ⟨s, rfl, hs0, hs1, hdr1, hd1⟩
      have HO1 := Lib.hid (HO0.out.cur hd1 hL.out.1)
      clear ho HO0 hdr hd1
      by_cases h0 : s = 0
      · subst h0
        have HD1 := Lib.hid hdr1
        have hcap : 64 ≤ cc := by have h1 := HLN.out; have h2 := HCP.out; omega
        have hlen : (L.length : Int) = 64 := by have := HLN.out; omega
        have hlen2 : L.length = 64 := HLN.out
        rw [hlen2]
        clear hdr1 hLn hlt hlen hlen2
        go_wp2
        go_ret
        exact ⟨some ⟨gL, 1, none⟩, cc - 1, tab (fun i => L.getD (1 + i) 0) 63, by rw [tab_len]; rfl, by rw [tab_len]; omega, by rw [tab_len]; omega, fun z hz => by obtain ⟨i, hi, rfl⟩ := tab_mem' hz; have h4 : 1 + i < L.length := (by rw [HLN.out]; omega); have := HLB.out (L.getD (1 + i) 0) (by rw [getD_lt h4]; exact List.getElem_mem h4); omega, HO1.out.frs.tail HLN.out (by omega), HH.out.next HD1.out.1 HD1.out.2, HD1.out.2⟩
      · have e0 : (s == 0) = false := by simp [h0]
        by_cases h1 : s = 1
        · subst h1
          have hLe : (L.length : Int) = 64 := by have := HLN.out; omega
          go_wp2_with fail
          refine (l1Below_p w g a c l 64 w1 (by omega) hdr1).mono ?_
          rintro e w2 ⟨i, rfl, hi0, hi1, hdr2, hd2⟩
          obtain ⟨j, rfl⟩ := Int.eq_ofNat_of_zero_le hi0
          go_wp2_with fail
          refine (l1PickInt_d w g a c l [_, _, _] _ 3 w2 (by simp) (by rfl) rfl hdr2).mono ?_
          rintro e w3 ⟨x, rfl, hx, hdr3, hd3⟩
          have hxb : -1000000001 ≤ x ∧ x ≤ 1000000001 := by simp at hx; omega
          have ho3 := (HO1.out.cur hd2 hL.out.1).cur hd3 hL.out.1
          have hjL : j < L.length := by have := HLN.out; omega
          have c3 := ho3.cellAt (i := j) hjL
          have f3 := ho3.frozenAt j
          have hst := ho3.frs.stored j x
          rw [Nat.zero_add] at hst
          have HST := Lib.hid hst
          have HDD := Lib.hid (hdr3.owned ((Below.refl w.heap.size w3).setCell (p := ⟨gL, j, none⟩) (ho3.lt _ rfl).1 (.int .i64 x)) (Nat.le_refl _) hL.out)
          have HLE := Lib.hid hLe
          have hjz : (j : Int) < (L.length : Int) := by omega
          clear ho3 hdr3 hd3 hdr2 hd2 hdr1 hx hst hLe hLn hlt
          go_wp2
          go_ret
          exact ⟨some ⟨gL, 0, none⟩, cc, L.set j x, by rw [List.length_set]; rfl, by rw [List.length_set, HLN.out]; omega, by rw [List.length_set]; exact HCP.out, fun z hz => (mem_set hz).elim (fun h => by have := HLB.out z h; omega) (fun h => by omega), HST.out, HH.out.next HDD.out.1 HDD.out.2, HDD.out.2⟩
        · have e1 : (s == 1) = false := by simp [h1]
          have HD1 := Lib.hid hdr1
          clear hdr1 hLn hlt
          go_wp2
          go_ret
          exact ⟨_, _, L, rfl, by rw [HLN.out]; omega, HCP.out, fun z hz => by have := HLB.out z hz; omega, HO1.out.frs, HH.out.next HD1.out.1 HD1.out.2, HD1.out.2⟩


theorem spec.DrawInverse4_c (a : Option Addr) (c : Nat) (l : List Int) (w : World) (hl : l.length ≤ 1048576) (hr : RowB w a l) (hw : ∀ x ∈ l, 0 ≤ x ∧ x ≤ 255) :
    Calls Try.prog 27 #[.slice a l.length c] w fun e w' => ∃ (b : Option Addr) (d : Nat) (L : List Int), e = .returned (.slice b L.length d) ∧ L.length ≤ 64 ∧ L.length ≤ d ∧ (∀ x ∈ L, -1000000001 ≤ x ∧ x ≤ 1000000001) ∧ Row w' b L ∧ Below w.heap.size w w' := by
  have HN := Lib.hid (l1New_c a c l w hl hr hw)
  clear hr hw
  go_enter Try.func27, Try.ntmps27
  go_wp2_with fail
  refine HN.out.mono ?_
  rintro e w0 ⟨g, rfl, hcu, hgw, hb0⟩
  go_wp2_with fail
  refine (l12Square_4 w0 g a c l w0 (Dr.start hcu)).mono ?_
  rintro e w1 ⟨b, d, L, rfl, hl4, hld, hLb, hfr, hdr1, hd1⟩
  have HB := Lib.hid (D.below hb0 hd1 hb0.size hgw)
  have HR := Lib.hid hfr.1
  have HLB := Lib.hid hLb
  clear hcu hgw hb0 hfr hdr1 hd1 hLb
  go_wp2
  go_ret
  exact ⟨b, d, L, rfl, hl4, hld, HLB.out, HR.out, HB.out⟩


theorem spec.DrawInverse8_c (a : Option Addr) (c : Nat) (l : List Int) (w : World) (hl : l.length ≤ 1048576) (hr : RowB w a l) (hw : ∀ x ∈ l, 0 ≤ x ∧ x ≤ 255) :
    Calls Try.prog 28 #[.slice a l.length c] w fun e w' => ∃ (b : Option Addr) (d : Nat) (L : List Int), e = .returned (.slice b L.length d) ∧ L.length ≤ 64 ∧ L.length ≤ d ∧ (∀ x ∈ L, -1000000001 ≤ x ∧ x ≤ 1000000001) ∧ Row w' b L ∧ Below w.heap.size w w' := by
  have HN := Lib.hid (l1New_c a c l w hl hr hw)
  clear hr hw
  go_enter Try.func28, Try.ntmps28
  go_wp2_with fail
  refine HN.out.mono ?_
  rintro e w0 ⟨g, rfl, hcu, hgw, hb0⟩
  go_wp2_with fail
  refine (l12Square_8 w0 g a c l w0 (Dr.start hcu)).mono ?_
  rintro e w1 ⟨b, d, L, rfl, hl4, hld, hLb, hfr, hdr1, hd1⟩
  have HB := Lib.hid (D.below hb0 hd1 hb0.size hgw)
  have HR := Lib.hid hfr.1
  have HLB := Lib.hid hLb
  clear hcu hgw hb0 hfr hdr1 hd1 hLb
  go_wp2
  go_ret
  exact ⟨b, d, L, rfl, hl4, hld, HLB.out, HR.out, HB.out⟩

end Go.Proofs.Ytchabkkpdafkiaa
