/- Contracts of the draws of rows to lift and of squares. -/
import Derived.Test.YtchabkkpdafkiaaDrawL
namespace Go.Proofs.Ytchabkkpdafkiaa
open Go.RowKit
set_option linter.unusedVariables false


set_option maxHeartbeats 4000000 in
theorem l9Square_d (W : World) (g : Nat) (a : Option Addr) (c : Nat) (l : List Int) (w : World) (h : Dr W g a c l w) :
    Calls Try.prog 39 #[.pointer (some ⟨g, 0, none⟩), .int .i64 90] w fun e w' => ∃ (b : Option Addr) (d : Nat) (L : List Int), e = .returned (.slice b L.length d) ∧ L.length ≤ 64 ∧ (∀ x ∈ L, -90 ≤ x ∧ x ≤ 90) ∧ Frs w.heap.size w' b L ∧ Dr W g a c l w' ∧ w.grownBy w' (some g) := by
  have hL := Lib.hid h.low
  have HH := Lib.hid h
  have H0 := Lib.hid (Dr.start h.1)
  clear h
  go_enter Try.func39, Try.ntmps39
  go_wp2_with fail
  refine (l1Once_d w g a c l 3 w (by omega) H0.out).mono ?_
  rintro e w1 ⟨b1, rfl, hdr1, hd1⟩
  clear H0
  cases b1
  · go_wp2_with fail
    refine (l1Once_d w g a c l 14 w1 (by omega) hdr1).mono ?_
    rintro e w2 ⟨b2, rfl, hdr2, hd2⟩
    cases b2
    · have HD := Lib.hid hdr2
      clear hdr1 hd1 hdr2 hd2
      go_wp2_with fail
      go_loopw [6, 7] (fun o v wr => ∃ (L : List Int) (ad : Option Addr) (cc : Nat), L.length ≤ (16 : Int).toNat ∧ o = .slice ad L.length cc ∧ (∀ y ∈ L, -90 ≤ y ∧ y ≤ 90) ∧ Own w.heap.size wr ad cc L ∧ Dr w g a c l wr) (fun o _ _ => (16 : Int).toNat - (lenOf o))
      case atStart => exact ⟨[], _, _, by simp, rfl, by simp, Own.lit _ _ [] rfl HD.out.2.size (by simp [maxLen]), HD.out.alloc _⟩
      case round =>
        clear HD
        obtain ⟨L, ad, cc, hLn, rfl, hLb, ho, hdr⟩ := hrel
        have HLB := Lib.hid hLb
        clear hLb
        by_cases hlt : (L.length : Int) < 16
        · go_wp2_with fail
          refine (l1Once_d w g a c l 2 wr (by omega) hdr).mono ?_
          rintro e wA ⟨bo, rfl, hdrA, hdA⟩
          cases bo
          · have HO1 := Lib.hid (ho.cur hdA hL.out.1)
            have HD1 := Lib.hid hdrA
            clear ho hdr hdrA hdA
            go_wp2_with (at_builtin; refine append_one Try.underlying22 Try.infoInt rfl (.tmp 29) (.tmp 31) rfl w.heap.size ad cc L.length L rfl rfl (HO1.out.alloc _) wA.heap.size 0 rfl ?_ ?_ ?_ ?_; (simp); (omega); (have := HD1.out.2.size; simp; omega); intro ad1 cc1 w9 ho9 hb9)
            have HO9 := Lib.hid ho9
            have HD9 := Lib.hid ((HD1.out.alloc _).owned hb9 (Nat.le_refl w.heap.size) hL.out)
            have HL9 : Hid (∀ y ∈ L ++ [0], -90 ≤ y ∧ y ≤ 90) := Lib.hid (fun y hy => by
              rcases List.mem_append.1 hy with h | h
              · exact HLB.out y h
              · simp at h; omega)
            clear ho9 hb9
            go_wp2
            go_roundw
            case rel => exact ⟨L ++ [0], ad1, cc1, by simp; omega, by simp, HL9.out, HO9.out, HD9.out⟩
            case measure => simp [lenOf]; omega
          · go_wp2_with fail
            refine (l1Below_p w g a c l 181 wA (by omega) hdrA).mono ?_
            rintro e wB ⟨u, rfl, hu0, hu1, hdrB, hdB⟩
            have HO1 := Lib.hid ((ho.cur hdA hL.out.1).cur hdB hL.out.1)
            have HD1 := Lib.hid hdrB
            clear ho hdr hdrA hdA hdrB hdB
            go_wp2_with (at_builtin; refine append_one Try.underlying22 Try.infoInt rfl (.tmp 29) (.tmp 31) rfl w.heap.size ad cc L.length L rfl rfl (HO1.out.alloc _) wB.heap.size (u - 90) rfl ?_ ?_ ?_ ?_; (simp); (omega); (have := HD1.out.2.size; simp; omega); intro ad1 cc1 w9 ho9 hb9)
            have HO9 := Lib.hid ho9
            have HD9 := Lib.hid ((HD1.out.alloc _).owned hb9 (Nat.le_refl w.heap.size) hL.out)
            have HL9 : Hid (∀ y ∈ L ++ [(u - 90)], -90 ≤ y ∧ y ≤ 90) := Lib.hid (fun y hy => by
              rcases List.mem_append.1 hy with h | h
              · exact HLB.out y h
              · simp at h; omega)
            clear ho9 hb9
            go_wp2
            go_roundw
            case rel => exact ⟨L ++ [(u - 90)], ad1, cc1, by simp; omega, by simp, HL9.out, HO9.out, HD9.out⟩
            case measure => simp [lenOf]; omega
        · have he : Hid (L.length ≤ 64) := Lib.hid (by omega)
          have HO9 := Lib.hid ho
          have HD9 := Lib.hid hdr
          clear ho hdr
          go_wp2
          go_ret
          exact ⟨ad, cc, L, rfl, he.out, HLB.out, HO9.out.frs, HH.out.next HD9.out.1 HD9.out.2, HD9.out.2⟩
    · go_wp2_with fail
      refine (l1PickInt_d w g a c l [_, _, _] _ 3 w2 (by simp) (by rfl) rfl hdr2).mono ?_
      rintro e w3 ⟨n, rfl, hn, hdr3, hd3⟩
      have hnb : 0 ≤ n ∧ n ≤ 64 := by simp at hn; omega
      obtain ⟨hn0, hn1⟩ := hnb
      have HD := Lib.hid hdr3
      clear hdr1 hd1 hdr2 hd2 hdr3 hd3 hn
      go_wp2_with fail
      go_loopw [6, 7] (fun o v wr => ∃ (L : List Int) (ad : Option Addr) (cc : Nat), L.length ≤ (n : Int).toNat ∧ o = .slice ad L.length cc ∧ (∀ y ∈ L, -90 ≤ y ∧ y ≤ 90) ∧ Own w.heap.size wr ad cc L ∧ Dr w g a c l wr) (fun o _ _ => (n : Int).toNat - (lenOf o))
      case atStart => exact ⟨[], _, _, by simp, rfl, by simp, Own.lit _ _ [] rfl HD.out.2.size (by simp [maxLen]), HD.out.alloc _⟩
      case round =>
        clear HD
        obtain ⟨L, ad, cc, hLn, rfl, hLb, ho, hdr⟩ := hrel
        have HLB := Lib.hid hLb
        clear hLb
        by_cases hlt : (L.length : Int) < n
        · go_wp2_with fail
          refine (l1Once_d w g a c l 2 wr (by omega) hdr).mono ?_
          rintro e wA ⟨bo, rfl, hdrA, hdA⟩
          cases bo
          · have HO1 := Lib.hid (ho.cur hdA hL.out.1)
            have HD1 := Lib.hid hdrA
            clear ho hdr hdrA hdA
            go_wp2_with (at_builtin; refine append_one Try.underlying22 Try.infoInt rfl (.tmp 29) (.tmp 31) rfl w.heap.size ad cc L.length L rfl rfl (HO1.out.alloc _) wA.heap.size 0 rfl ?_ ?_ ?_ ?_; (simp); (omega); (have := HD1.out.2.size; simp; omega); intro ad1 cc1 w9 ho9 hb9)
            have HO9 := Lib.hid ho9
            have HD9 := Lib.hid ((HD1.out.alloc _).owned hb9 (Nat.le_refl w.heap.size) hL.out)
            have HL9 : Hid (∀ y ∈ L ++ [0], -90 ≤ y ∧ y ≤ 90) := Lib.hid (fun y hy => by
              rcases List.mem_append.1 hy with h | h
              · exact HLB.out y h
              · simp at h; omega)
            clear ho9 hb9
            go_wp2
            go_roundw
            case rel => exact ⟨L ++ [0], ad1, cc1, by simp; omega, by simp, HL9.out, HO9.out, HD9.out⟩
            case measure => simp [lenOf]; omega
          · go_wp2_with fail
            refine (l1Below_p w g a c l 181 wA (by omega) hdrA).mono ?_
            rintro e wB ⟨u, rfl, hu0, hu1, hdrB, hdB⟩
            have HO1 := Lib.hid ((ho.cur hdA hL.out.1).cur hdB hL.out.1)
            have HD1 := Lib.hid hdrB
            clear ho hdr hdrA hdA hdrB hdB
            go_wp2_with (at_builtin; refine append_one Try.underlying22 Try.infoInt rfl (.tmp 29) (.tmp 31) rfl w.heap.size ad cc L.length L rfl rfl (HO1.out.alloc _) wB.heap.size (u - 90) rfl ?_ ?_ ?_ ?_; (simp); (omega); (have := HD1.out.2.size; simp; omega); intro ad1 cc1 w9 ho9 hb9)
            have HO9 := Lib.hid ho9
            have HD9 := Lib.hid ((HD1.out.alloc _).owned hb9 (Nat.le_refl w.heap.size) hL.out)
            have HL9 : Hid (∀ y ∈ L ++ [(u - 90)], -90 ≤ y ∧ y ≤ 90) := Lib.hid (fun y hy => by
              rcases List.mem_append.1 hy with h | h
              · exact HLB.out y h
              · simp at h; omega)
            clear ho9 hb9
            go_wp2
            go_roundw
            case rel => exact ⟨L ++ [(u - 90)], ad1, cc1, by simp; omega, by simp, HL9.out, HO9.out, HD9.out⟩
            case measure => simp [lenOf]; omega
        · have he : Hid (L.length ≤ 64) := Lib.hid (by omega)
          have HO9 := Lib.hid ho
          have HD9 := Lib.hid hdr
          clear ho hdr
          go_wp2
          go_ret
          exact ⟨ad, cc, L, rfl, he.out, HLB.out, HO9.out.frs, HH.out.next HD9.out.1 HD9.out.2, HD9.out.2⟩
  · go_wp2_with fail
    refine (l1Once_d w g a c l 14 w1 (by omega) hdr1).mono ?_
    rintro e w2 ⟨b2, rfl, hdr2, hd2⟩
    cases b2
    · have HD := Lib.hid hdr2
      clear hdr1 hd1 hdr2 hd2
      go_wp2_with fail
      go_loopw [6, 7] (fun o v wr => ∃ (L : List Int) (ad : Option Addr) (cc : Nat), L.length ≤ (64 : Int).toNat ∧ o = .slice ad L.length cc ∧ (∀ y ∈ L, -90 ≤ y ∧ y ≤ 90) ∧ Own w.heap.size wr ad cc L ∧ Dr w g a c l wr) (fun o _ _ => (64 : Int).toNat - (lenOf o))
      case atStart => exact ⟨[], _, _, by simp, rfl, by simp, Own.lit _ _ [] rfl HD.out.2.size (by simp [maxLen]), HD.out.alloc _⟩
      case round =>
        clear HD
        obtain ⟨L, ad, cc, hLn, rfl, hLb, ho, hdr⟩ := hrel
        have HLB := Lib.hid hLb
        clear hLb
        by_cases hlt : (L.length : Int) < 64
        · go_wp2_with fail
          refine (l1Once_d w g a c l 2 wr (by omega) hdr).mono ?_
          rintro e wA ⟨bo, rfl, hdrA, hdA⟩
          cases bo
          · have HO1 := Lib.hid (ho.cur hdA hL.out.1)
            have HD1 := Lib.hid hdrA
            clear ho hdr hdrA hdA
            go_wp2_with (at_builtin; refine append_one Try.underlying22 Try.infoInt rfl (.tmp 29) (.tmp 31) rfl w.heap.size ad cc L.length L rfl rfl (HO1.out.alloc _) wA.heap.size 0 rfl ?_ ?_ ?_ ?_; (simp); (omega); (have := HD1.out.2.size; simp; omega); intro ad1 cc1 w9 ho9 hb9)
            have HO9 := Lib.hid ho9
            have HD9 := Lib.hid ((HD1.out.alloc _).owned hb9 (Nat.le_refl w.heap.size) hL.out)
            have HL9 : Hid (∀ y ∈ L ++ [0], -90 ≤ y ∧ y ≤ 90) := Lib.hid (fun y hy => by
              rcases List.mem_append.1 hy with h | h
              · exact HLB.out y h
              · simp at h; omega)
            clear ho9 hb9
            go_wp2
            go_roundw
            case rel => exact ⟨L ++ [0], ad1, cc1, by simp; omega, by simp, HL9.out, HO9.out, HD9.out⟩
            case measure => simp [lenOf]; omega
          · go_wp2_with fail
            refine (l1Below_p w g a c l 181 wA (by omega) hdrA).mono ?_
            rintro e wB ⟨u, rfl, hu0, hu1, hdrB, hdB⟩
            have HO1 := Lib.hid ((ho.cur hdA hL.out.1).cur hdB hL.out.1)
            have HD1 := Lib.hid hdrB
            clear ho hdr hdrA hdA hdrB hdB
            go_wp2_with (at_builtin; refine append_one Try.underlying22 Try.infoInt rfl (.tmp 29) (.tmp 31) rfl w.heap.size ad cc L.length L rfl rfl (HO1.out.alloc _) wB.heap.size (u - 90) rfl ?_ ?_ ?_ ?_; (simp); (omega); (have := HD1.out.2.size; simp; omega); intro ad1 cc1 w9 ho9 hb9)
            have HO9 := Lib.hid ho9
            have HD9 := Lib.hid ((HD1.out.alloc _).owned hb9 (Nat.le_refl w.heap.size) hL.out)
            have HL9 : Hid (∀ y ∈ L ++ [(u - 90)], -90 ≤ y ∧ y ≤ 90) := Lib.hid (fun y hy => by
              rcases List.mem_append.1 hy with h | h
              · exact HLB.out y h
              · simp at h; omega)
            clear ho9 hb9
            go_wp2
            go_roundw
            case rel => exact ⟨L ++ [(u - 90)], ad1, cc1, by simp; omega, by simp, HL9.out, HO9.out, HD9.out⟩
            case measure => simp [lenOf]; omega
        · have he : Hid (L.length ≤ 64) := Lib.hid (by omega)
          have HO9 := Lib.hid ho
          have HD9 := Lib.hid hdr
          clear ho hdr
          go_wp2
          go_ret
          exact ⟨ad, cc, L, rfl, he.out, HLB.out, HO9.out.frs, HH.out.next HD9.out.1 HD9.out.2, HD9.out.2⟩
    · go_wp2_with fail
      refine (l1PickInt_d w g a c l [_, _, _] _ 3 w2 (by simp) (by rfl) rfl hdr2).mono ?_
      rintro e w3 ⟨n, rfl, hn, hdr3, hd3⟩
      have hnb : 0 ≤ n ∧ n ≤ 64 := by simp at hn; omega
      obtain ⟨hn0, hn1⟩ := hnb
      have HD := Lib.hid hdr3
      clear hdr1 hd1 hdr2 hd2 hdr3 hd3 hn
      go_wp2_with fail
      go_loopw [6, 7] (fun o v wr => ∃ (L : List Int) (ad : Option Addr) (cc : Nat), L.length ≤ (n : Int).toNat ∧ o = .slice ad L.length cc ∧ (∀ y ∈ L, -90 ≤ y ∧ y ≤ 90) ∧ Own w.heap.size wr ad cc L ∧ Dr w g a c l wr) (fun o _ _ => (n : Int).toNat - (lenOf o))
      case atStart => exact ⟨[], _, _, by simp, rfl, by simp, Own.lit _ _ [] rfl HD.out.2.size (by simp [maxLen]), HD.out.alloc _⟩
      case round =>
        clear HD
        obtain ⟨L, ad, cc, hLn, rfl, hLb, ho, hdr⟩ := hrel
        have HLB := Lib.hid hLb
        clear hLb
        by_cases hlt : (L.length : Int) < n
        · go_wp2_with fail
          refine (l1Once_d w g a c l 2 wr (by omega) hdr).mono ?_
          rintro e wA ⟨bo, rfl, hdrA, hdA⟩
          cases bo
          · have HO1 := Lib.hid (ho.cur hdA hL.out.1)
            have HD1 := Lib.hid hdrA
            clear ho hdr hdrA hdA
            go_wp2_with (at_builtin; refine append_one Try.underlying22 Try.infoInt rfl (.tmp 29) (.tmp 31) rfl w.heap.size ad cc L.length L rfl rfl (HO1.out.alloc _) wA.heap.size 0 rfl ?_ ?_ ?_ ?_; (simp); (omega); (have := HD1.out.2.size; simp; omega); intro ad1 cc1 w9 ho9 hb9)
            have HO9 := Lib.hid ho9
            have HD9 := Lib.hid ((HD1.out.alloc _).owned hb9 (Nat.le_refl w.heap.size) hL.out)
            have HL9 : Hid (∀ y ∈ L ++ [0], -90 ≤ y ∧ y ≤ 90) := Lib.hid (fun y hy => by
              rcases List.mem_append.1 hy with h | h
              · exact HLB.out y h
              · simp at h; omega)
            clear ho9 hb9
            go_wp2
            go_roundw
            case rel => exact ⟨L ++ [0], ad1, cc1, by simp; omega, by simp, HL9.out, HO9.out, HD9.out⟩
            case measure => simp [lenOf]; omega
          · go_wp2_with fail
            refine (l1Below_p w g a c l 181 wA (by omega) hdrA).mono ?_
            rintro e wB ⟨u, rfl, hu0, hu1, hdrB, hdB⟩
            have HO1 := Lib.hid ((ho.cur hdA hL.out.1).cur hdB hL.out.1)
            have HD1 := Lib.hid hdrB
            clear ho hdr hdrA hdA hdrB hdB
            go_wp2_with (at_builtin; refine append_one Try.underlying22 Try.infoInt rfl (.tmp 29) (.tmp 31) rfl w.heap.size ad cc L.length L rfl rfl (HO1.out.alloc _) wB.heap.size (u - 90) rfl ?_ ?_ ?_ ?_; (simp); (omega); (have := HD1.out.2.size; simp; omega); intro ad1 cc1 w9 ho9 hb9)
            have HO9 := Lib.hid ho9
            have HD9 := Lib.hid ((HD1.out.alloc _).owned hb9 (Nat.le_refl w.heap.size) hL.out)
            have HL9 : Hid (∀ y ∈ L ++ [(u - 90)], -90 ≤ y ∧ y ≤ 90) := Lib.hid (fun y hy => by
              rcases List.mem_append.1 hy with h | h
              · exact HLB.out y h
              · simp at h; omega)
            clear ho9 hb9
            go_wp2
            go_roundw
            case rel => exact ⟨L ++ [(u - 90)], ad1, cc1, by simp; omega, by simp, HL9.out, HO9.out, HD9.out⟩
            case measure => simp [lenOf]; omega
        · have he : Hid (L.length ≤ 64) := Lib.hid (by omega)
          have HO9 := Lib.hid ho
          have HD9 := Lib.hid hdr
          clear ho hdr
          go_wp2
          go_ret
          exact ⟨ad, cc, L, rfl, he.out, HLB.out, HO9.out.frs, HH.out.next HD9.out.1 HD9.out.2, HD9.out.2⟩


set_option maxHeartbeats 4000000 in
theorem l13Row_d (W : World) (g : Nat) (a : Option Addr) (c : Nat) (l : List Int) (w : World) (h : Dr W g a c l w) :
    Calls Try.prog 36 #[.pointer (some ⟨g, 0, none⟩), .int .i64 8] w fun e w' => ∃ (b : Option Addr) (d : Nat) (L : List Int), e = .returned (.slice b L.length d) ∧ L.length ≤ 8 ∧ (∀ x ∈ L, -1000 ≤ x ∧ x ≤ 1000) ∧ Frs w.heap.size w' b L ∧ Dr W g a c l w' ∧ w.grownBy w' (some g) := by
  have hL := Lib.hid h.low
  have HH := Lib.hid h
  have H0 := Lib.hid ((Dr.start h.1).alloc (.cells #[] 3))
  clear h
  go_enter Try.func36, Try.ntmps36
  go_wp2_with fail
  go_loopw [5] (fun o wr => ∃ (L : List Int) (ad : Option Addr) (cc : Nat), L.length ≤ 8 ∧ o = .slice ad L.length cc ∧ (∀ y ∈ L, -1000 ≤ y ∧ y ≤ 1000) ∧ Own w.heap.size wr ad cc L ∧ Dr w g a c l wr) (fun o _ => 8 - (lenOf o))
  case atStart => exact ⟨[], _, _, by simp, rfl, by simp, Own.lit _ _ [] rfl (Nat.le_refl _) (by simp [maxLen]), H0.out⟩
  case round =>
    clear H0
    obtain ⟨L, ad, cc, hLn, rfl, hLb, ho, hdr⟩ := hrel
    have HLB := Lib.hid hLb
    clear hLb
    by_cases hlt : (L.length : Int) < 8
    · go_wp2_with fail
      refine (l1Below_p w g a c l 2001 wr (by omega) hdr).mono ?_
      rintro e wB ⟨u, rfl, hu0, hu1, hdrB, hdB⟩
      have HO1 := Lib.hid (ho.cur hdB hL.out.1)
      have HD1 := Lib.hid hdrB
      clear ho hdr hdrB hdB
      go_wp2_with (at_builtin; refine append_one Try.underlying22 Try.infoInt rfl (.tmp 11) (.tmp 15) rfl w.heap.size ad cc L.length L rfl rfl (HO1.out.alloc _) wB.heap.size (u - 1000) rfl ?_ ?_ ?_ ?_; (simp); (omega); (have := HD1.out.2.size; simp; omega); intro ad1 cc1 w9 ho9 hb9)
      have HO9 := Lib.hid ho9
      have HD9 := Lib.hid ((HD1.out.alloc _).owned hb9 (Nat.le_refl w.heap.size) hL.out)
      have HL9 : Hid (∀ y ∈ L ++ [u - 1000], -1000 ≤ y ∧ y ≤ 1000) := Lib.hid (fun y hy => by
        rcases List.mem_append.1 hy with h | h
        · exact HLB.out y h
        · simp at h; omega)
      clear ho9 hb9
      go_wp2
      go_roundw
      case rel => exact ⟨L ++ [u - 1000], ad1, cc1, by simp; omega, by simp, HL9.out, HO9.out, HD9.out⟩
      case measure => simp [lenOf]; omega
    · have he : Hid (L.length = 8) := Lib.hid (by omega)
      obtain ⟨gl, rfl, _, _, _⟩ := ho.at_ (i := 0) (by omega)
      go_wp2_with fail
      refine (l1Once_d w g a c l 12 wr (by omega) hdr).mono ?_
      rintro e wA ⟨bo, rfl, hdrA, hdA⟩
      have HO1 := Lib.hid (ho.cur hdA hL.out.1)
      have HD1 := Lib.hid hdrA
      have hcap := HO1.out.cap
      clear ho hdr hdrA hdA
      cases bo
      · go_wp2
        go_ret
        exact ⟨_, cc, L, rfl, hLn, HLB.out, HO1.out.frs, HH.out.next HD1.out.1 HD1.out.2, HD1.out.2⟩
      · have hf := HO1.out.frs.tail (n := 7) he.out (by omega)
        have HF := Lib.hid hf
        have h1 : (1 : Int) ≤ (L.length : Int) := by have := he.out; omega
        have e8 : L.length - 1 = 7 := by have := he.out; omega
        clear hf
        go_wp2
        go_ret
        refine ⟨_, _, tab (fun i => L.getD (1 + i) 0) 7, ret_slice (by rw [tab_len]), by rw [tab_len]; omega, fun x hx => ?_, HF.out, HH.out.next HD1.out.1 HD1.out.2, HD1.out.2⟩
        obtain ⟨i, hi, rfl⟩ := tab_mem' hx
        have hi4 : 1 + i < L.length := by rw [he.out]; omega
        exact HLB.out (L.getD (1 + i) 0) (by rw [getD_lt hi4]; exact List.getElem_mem hi4)


theorem DrawLift8_c (a : Option Addr) (c : Nat) (l : List Int) (w : World) (hl : l.length ≤ 1048576) (hr : RowB w a l) (hw : ∀ x ∈ l, 0 ≤ x ∧ x ≤ 255) :
    Calls Try.prog 22 #[.slice a l.length c] w fun e w' => ∃ (b : Option Addr) (d : Nat) (L : List Int), e = .returned (.slice b L.length d) ∧ L.length ≤ 8 ∧ (∀ x ∈ L, -1000 ≤ x ∧ x ≤ 1000) ∧ Row w' b L ∧ Below w.heap.size w w' := by
  have HN := Lib.hid (l1New_c a c l w hl hr hw)
  clear hr hw
  go_enter Try.func22, Try.ntmps22
  go_wp2_with fail
  refine HN.out.mono ?_
  rintro e w0 ⟨g, rfl, hcu, hgw, hb0⟩
  go_wp2_with fail
  refine (l13Row_d w0 g a c l w0 (Dr.start hcu)).mono ?_
  rintro e w1 ⟨b, d, L, rfl, hl4, hLb, hfr, hdr1, hd1⟩
  have HB := Lib.hid (D.below hb0 hd1 hb0.size hgw)
  have HR := Lib.hid hfr.1
  have HLB := Lib.hid hLb
  clear hcu hgw hb0 hfr hdr1 hd1 hLb
  go_wp2
  go_ret
  exact ⟨b, d, L, rfl, hl4, HLB.out, HR.out, HB.out⟩


theorem DrawColumns_c (a : Option Addr) (c : Nat) (l : List Int) (w : World) (hl : l.length ≤ 1048576) (hr : RowB w a l) (hw : ∀ x ∈ l, 0 ≤ x ∧ x ≤ 255) :
    Calls Try.prog 24 #[.slice a l.length c] w fun e w' => ∃ (b : Option Addr) (d : Nat) (L : List Int), e = .returned (.slice b L.length d) ∧ L.length ≤ 64 ∧ (∀ x ∈ L, -90 ≤ x ∧ x ≤ 90) ∧ Row w' b L ∧ Below w.heap.size w w' := by
  have HN := Lib.hid (l1New_c a c l w hl hr hw)
  clear hr hw
  go_enter Try.func24, Try.ntmps24
  go_wp2_with fail
  refine HN.out.mono ?_
  rintro e w0 ⟨g, rfl, hcu, hgw, hb0⟩
  go_wp2_with fail
  refine (l9Square_d w0 g a c l w0 (Dr.start hcu)).mono ?_
  rintro e w1 ⟨b, d, L, rfl, hl4, hLb, hfr, hdr1, hd1⟩
  have HB := Lib.hid (D.below hb0 hd1 hb0.size hgw)
  have HR := Lib.hid hfr.1
  have HLB := Lib.hid hLb
  clear hcu hgw hb0 hfr hdr1 hd1 hLb
  go_wp2
  go_ret
  exact ⟨b, d, L, rfl, hl4, HLB.out, HR.out, HB.out⟩

end Go.Proofs.Ytchabkkpdafkiaa
