/- Contracts: is a neighbourhood valid? -/
import Derived.Test.YtkfjbnhihjnhnaaNb
import Derived.Test.YtkfjbnhihjnhnaaFits
namespace Go.Proofs.Ytkfjbnhihjnhnaa
open Go.RowKit
set_option linter.unusedVariables false

def nbB (l m : List Int) (C n : Int) : Bool := sizeB n && (decide ((l.length : Int) = 2 * n) && (decide ((m.length : Int) = n) && (allR 0 255 l && (allR 0 255 m && inR 0 255 C))))
theorem nbB_true {l m : List Int} {C n : Int} (h : nbB l m C n = true) : (n = 4 ∨ n = 8) ∧ (l.length : Int) = 2 * n ∧ (m.length : Int) = n ∧ allR 0 255 l = true ∧ allR 0 255 m = true ∧ 0 ≤ C ∧ C ≤ 255 := by
  simp only [nbB, Bool.and_eq_true, decide_eq_true_eq] at h
  obtain ⟨h1, h2, h3, h4, h5, h6⟩ := h
  have := inR_true h6
  exact ⟨sizeB_true h1, h2, h3, h4, h5, this.1, this.2⟩


set_option maxHeartbeats 1000000 in
theorem impl.NbOk_4 (a : Option Addr) (c : Nat) (l : List Int) (b : Option Addr) (d : Nat) (m : List Int) (C : Int) (T L : Bool) (w : World) (hl : l.length ≤ 1099511627776) (hr : Row w a l) (hm : m.length ≤ 1099511627776) (hs : Row w b m) :
    Calls Try.prog 29 #[nbv a l.length c b m.length d C T L, .int .i64 4] w fun e w' => e = .returned (.bool (nbB l m C 4)) ∧ Below w.heap.size w w' := by
  have HR := Lib.hid hr
  have HS := Lib.hid hs
  clear hr hs
  have hb : sizeB 4 = true := rfl
  by_cases h2 : (l.length : Int) = 8
  · have e2 : ((l.length : Int) == 8) = true := by simpa using h2
    by_cases h3 : (m.length : Int) = 4
    · have e3 : ((m.length : Int) == 4) = true := by simpa using h3
      cases h4 : allR 0 255 l
      · have HF : Hid (nbB l m C 4 = false) := Lib.hid (by simp [nbB, h4])
        clear h2 h3
        go_enter Try.func29, Try.ntmps29
        go_wp2_with fail
        refine (impl.SizeOk_c _ _).mono ?_
        rintro e w' ⟨rfl, rfl⟩
        go_wp2_with fail
        refine (impl.allWithin_c _ _ l _ _ _ (by omega) (HR.out.alloc _)).mono ?_
        rintro e w' ⟨rfl, rfl⟩
        go_wp2
        go_ret
        exact ⟨ret_bool HF.out.symm, (Below.refl w.heap.size w).alloc (Nat.le_refl _) _⟩
      · cases h5 : allR 0 255 m
        · have HF : Hid (nbB l m C 4 = false) := Lib.hid (by simp [nbB, h5])
          clear h2 h3
          go_enter Try.func29, Try.ntmps29
          go_wp2_with fail
          refine (impl.SizeOk_c _ _).mono ?_
          rintro e w' ⟨rfl, rfl⟩
          go_wp2_with fail
          refine (impl.allWithin_c _ _ l _ _ _ (by omega) (HR.out.alloc _)).mono ?_
          rintro e w' ⟨rfl, rfl⟩
          go_wp2_with fail
          refine (impl.allWithin_c _ _ m _ _ _ (by omega) (HS.out.alloc _)).mono ?_
          rintro e w' ⟨rfl, rfl⟩
          go_wp2
          go_ret
          exact ⟨ret_bool HF.out.symm, (Below.refl w.heap.size w).alloc (Nat.le_refl _) _⟩
        · have HF : Hid (nbB l m C 4 = inR 0 255 C) := Lib.hid (by simp [nbB, h2, h3, h4, h5, hb])
          clear h2 h3
          go_enter Try.func29, Try.ntmps29
          go_wp2_with fail
          refine (impl.SizeOk_c _ _).mono ?_
          rintro e w' ⟨rfl, rfl⟩
          go_wp2_with fail
          refine (impl.allWithin_c _ _ l _ _ _ (by omega) (HR.out.alloc _)).mono ?_
          rintro e w' ⟨rfl, rfl⟩
          go_wp2_with fail
          refine (impl.allWithin_c _ _ m _ _ _ (by omega) (HS.out.alloc _)).mono ?_
          rintro e w' ⟨rfl, rfl⟩
          go_wp2_with fail
          refine (within_c _ _ _ _).mono ?_
          rintro e w' ⟨rfl, rfl⟩
          go_wp2
          go_ret
          exact ⟨ret_bool HF.out.symm, (Below.refl w.heap.size w).alloc (Nat.le_refl _) _⟩
    · have e3 : ((m.length : Int) == 4) = false := by simpa using h3
      have HF : Hid (nbB l m C 4 = false) := Lib.hid (by simp [nbB, h3])
      clear h2 h3
      go_enter Try.func29, Try.ntmps29
      go_wp2_with fail
      refine (impl.SizeOk_c _ _).mono ?_
      rintro e w' ⟨rfl, rfl⟩
      go_wp2
      go_ret
      exact ⟨ret_bool HF.out.symm, (Below.refl w.heap.size w).alloc (Nat.le_refl _) _⟩
  · have e2 : ((l.length : Int) == 8) = false := by simpa using h2
    have HF : Hid (nbB l m C 4 = false) := Lib.hid (by simp [nbB, h2])
    clear h2
    go_enter Try.func29, Try.ntmps29
    go_wp2_with fail
    refine (impl.SizeOk_c _ _).mono ?_
    rintro e w' ⟨rfl, rfl⟩
    go_wp2
    go_ret
    exact ⟨ret_bool HF.out.symm, (Below.refl w.heap.size w).alloc (Nat.le_refl _) _⟩


set_option maxHeartbeats 1000000 in
theorem impl.NbOk_8 (a : Option Addr) (c : Nat) (l : List Int) (b : Option Addr) (d : Nat) (m : List Int) (C : Int) (T L : Bool) (w : World) (hl : l.length ≤ 1099511627776) (hr : Row w a l) (hm : m.length ≤ 1099511627776) (hs : Row w b m) :
    Calls Try.prog 29 #[nbv a l.length c b m.length d C T L, .int .i64 8] w fun e w' => e = .returned (.bool (nbB l m C 8)) ∧ Below w.heap.size w w' := by
  have HR := Lib.hid hr
  have HS := Lib.hid hs
  clear hr hs
  have hb : sizeB 8 = true := rfl
  by_cases h2 : (l.length : Int) = 16
  · have e2 : ((l.length : Int) == 16) = true := by simpa using h2
    by_cases h3 : (m.length : Int) = 8
    · have e3 : ((m.length : Int) == 8) = true := by simpa using h3
      cases h4 : allR 0 255 l
      · have HF : Hid (nbB l m C 8 = false) := Lib.hid (by simp [nbB, h4])
        clear h2 h3
        go_enter Try.func29, Try.ntmps29
        go_wp2_with fail
        refine (impl.SizeOk_c _ _).mono ?_
        rintro e w' ⟨rfl, rfl⟩
        go_wp2_with fail
        refine (impl.allWithin_c _ _ l _ _ _ (by omega) (HR.out.alloc _)).mono ?_
        rintro e w' ⟨rfl, rfl⟩
        go_wp2
        go_ret
        exact ⟨ret_bool HF.out.symm, (Below.refl w.heap.size w).alloc (Nat.le_refl _) _⟩
      · cases h5 : allR 0 255 m
        · have HF : Hid (nbB l m C 8 = false) := Lib.hid (by simp [nbB, h5])
          clear h2 h3
          go_enter Try.func29, Try.ntmps29
          go_wp2_with fail
          refine (impl.SizeOk_c _ _).mono ?_
          rintro e w' ⟨rfl, rfl⟩
          go_wp2_with fail
          refine (impl.allWithin_c _ _ l _ _ _ (by omega) (HR.out.alloc _)).mono ?_
          rintro e w' ⟨rfl, rfl⟩
          go_wp2_with fail
          refine (impl.allWithin_c _ _ m _ _ _ (by omega) (HS.out.alloc _)).mono ?_
          rintro e w' ⟨rfl, rfl⟩
          go_wp2
          go_ret
          exact ⟨ret_bool HF.out.symm, (Below.refl w.heap.size w).alloc (Nat.le_refl _) _⟩
        · have HF : Hid (nbB l m C 8 = inR 0 255 C) := Lib.hid (by simp [nbB, h2, h3, h4, h5, hb])
          clear h2 h3
          go_enter Try.func29, Try.ntmps29
          go_wp2_with fail
          refine (impl.SizeOk_c _ _).mono ?_
          rintro e w' ⟨rfl, rfl⟩
          go_wp2_with fail
          refine (impl.allWithin_c _ _ l _ _ _ (by omega) (HR.out.alloc _)).mono ?_
          rintro e w' ⟨rfl, rfl⟩
          go_wp2_with fail
          refine (impl.allWithin_c _ _ m _ _ _ (by omega) (HS.out.alloc _)).mono ?_
          rintro e w' ⟨rfl, rfl⟩
          go_wp2_with fail
          refine (within_c _ _ _ _).mono ?_
          rintro e w' ⟨rfl, rfl⟩
          go_wp2
          go_ret
          exact ⟨ret_bool HF.out.symm, (Below.refl w.heap.size w).alloc (Nat.le_refl _) _⟩
    · have e3 : ((m.length : Int) == 8) = false := by simpa using h3
      have HF : Hid (nbB l m C 8 = false) := Lib.hid (by simp [nbB, h3])
      clear h2 h3
      go_enter Try.func29, Try.ntmps29
      go_wp2_with fail
      refine (impl.SizeOk_c _ _).mono ?_
      rintro e w' ⟨rfl, rfl⟩
      go_wp2
      go_ret
      exact ⟨ret_bool HF.out.symm, (Below.refl w.heap.size w).alloc (Nat.le_refl _) _⟩
  · have e2 : ((l.length : Int) == 16) = false := by simpa using h2
    have HF : Hid (nbB l m C 8 = false) := Lib.hid (by simp [nbB, h2])
    clear h2
    go_enter Try.func29, Try.ntmps29
    go_wp2_with fail
    refine (impl.SizeOk_c _ _).mono ?_
    rintro e w' ⟨rfl, rfl⟩
    go_wp2
    go_ret
    exact ⟨ret_bool HF.out.symm, (Below.refl w.heap.size w).alloc (Nat.le_refl _) _⟩


































































































































































set_option maxHeartbeats 1000000 in
theorem impl.NbOk_c (a : Option Addr) (c : Nat) (l : List Int) (b : Option Addr) (d : Nat) (m : List Int) (C : Int) (T L : Bool) (n : Int) (w : World) (hl : l.length ≤ 1099511627776) (hr : Row w a l) (hw : ∀ x ∈ l, -9223372036854775808 ≤ x ∧ x ≤ 9223372036854775807) (hm : m.length ≤ 1099511627776) (hs : Row w b m) (hu : ∀ x ∈ m, -9223372036854775808 ≤ x ∧ x ≤ 9223372036854775807) (hC : -9223372036854775808 ≤ C ∧ C ≤ 9223372036854775807) :
    Calls Try.prog 29 #[nbv a l.length c b m.length d C T L, .int .i64 n] w fun e w' => e = .returned (.bool (nbB l m C n)) ∧ Below w.heap.size w w' := by
  cases h1 : sizeB n
  · have HF : Hid (nbB l m C n = false) := Lib.hid (by simp [nbB, h1])
    clear hw hu hC hr hs
    go_enter Try.func29, Try.ntmps29
    go_wp2_with fail
    refine (impl.SizeOk_c _ _).mono ?_
    rintro e w' ⟨rfl, rfl⟩
    go_wp2
    go_ret
    exact ⟨ret_bool HF.out.symm, (Below.refl w.heap.size w).alloc (Nat.le_refl _) _⟩
  · rcases sizeB_true h1 with rfl | rfl
    · exact impl.NbOk_4 a c l b d m C T L w hl hr hm hs
    · exact impl.NbOk_8 a c l b d m C T L w hl hr hm hs



















end Go.Proofs.Ytkfjbnhihjnhnaa
