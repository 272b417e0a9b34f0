/- Contracts of the statements' helpers on frames: sizes and copies; of the frame's validity and equality. -/
import Derived.Test.YtkfjbnhihjnhnaaFrame
import Derived.Test.YtkfjbnhihjnhnaaSlices
namespace Go.Proofs.Ytkfjbnhihjnhnaa
open Go.RowKit
set_option linter.unusedVariables false









































































def frameB (x y : Int) (l : List Int) : Bool := sidesB x y && (decide ((l.length : Int) = x * y) && allR 0 255 l)
theorem frameB_true {x y : Int} {l : List Int} (h : frameB x y l = true) : sidesB x y = true ∧ (l.length : Int) = x * y ∧ allR 0 255 l = true := by
  simpa [frameB] using h

set_option maxHeartbeats 1000000 in
theorem impl.FrameOk_c (x y : Int) (a : Option Addr) (c : Nat) (l : List Int) (w : World) (hx : -9223372036854775808 ≤ x ∧ x ≤ 9223372036854775807) (hy : -9223372036854775808 ≤ y ∧ y ≤ 9223372036854775807) (hl : l.length ≤ 1099511627776) (hr : Row w a l) (hw : ∀ x ∈ l, -9223372036854775808 ≤ x ∧ x ≤ 9223372036854775807) :
    Calls Try.prog 15 #[frv x y a l.length c] w fun e w' => e = .returned (.bool (frameB x y l)) ∧ Below w.heap.size w w' := by
  clear hx hy hw
  have HR := Lib.hid hr
  clear hr
  cases h1 : sidesB x y
  · have hf : frameB x y l = false := by rw [frameB, h1]; rfl
    have HF := Lib.hid hf
    clear hf
    go_enter Try.func15, Try.ntmps15
    go_wp2_with (go_at_call 47; refine (impl.SidesOk_c _ _ _).mono ?_; rintro e w' ⟨rfl, rfl⟩)
    go_ret
    exact ⟨ret_bool HF.out.symm, (Below.refl w.heap.size w).alloc (Nat.le_refl _) _⟩
  · obtain ⟨hab0, hab1⟩ := area_bd h1
    by_cases h2 : (l.length : Int) = x * y
    · have h2' : ((l.length : Int) == IntKind.i64.wrap (x * y)) = true := by rw [IntWalk.i64_in _ (by omega)]; simp [h2]
      have h2'' : ((l.length : Int) == x * y) = true := by simp [h2]
      have hf : frameB x y l = allR 0 255 l := by rw [frameB, h1, h2]; simp
      have HF := Lib.hid hf
      clear hf h2
      go_enter Try.func15, Try.ntmps15
      go_wp2_with fail
      refine (impl.SidesOk_c _ _ _).mono ?_
      rintro e w' ⟨rfl, rfl⟩
      go_wp2_with fail
      refine (impl.allWithin_c _ _ l _ _ _ (by omega) (HR.out.alloc _)).mono ?_
      rintro e w' ⟨rfl, rfl⟩
      go_wp2
      go_ret
      exact ⟨ret_bool HF.out.symm, (Below.refl w.heap.size w).alloc (Nat.le_refl _) _⟩
    · have h2' : ((l.length : Int) == IntKind.i64.wrap (x * y)) = false := by rw [IntWalk.i64_in _ (by omega)]; simp [h2]
      have h2'' : ((l.length : Int) == x * y) = false := by simp [h2]
      have hf : frameB x y l = false := by rw [frameB, h1]; simp [h2]
      have HF := Lib.hid hf
      clear hf h2
      go_enter Try.func15, Try.ntmps15
      go_wp2_with fail
      refine (impl.SidesOk_c _ _ _).mono ?_
      rintro e w' ⟨rfl, rfl⟩
      go_wp2
      go_ret
      exact ⟨ret_bool HF.out.symm, (Below.refl w.heap.size w).alloc (Nat.le_refl _) _⟩


set_option maxHeartbeats 1000000 in
theorem spec.FrameOk_c (x y : Int) (a : Option Addr) (c : Nat) (l : List Int) (w : World) (hx : -9223372036854775808 ≤ x ∧ x ≤ 9223372036854775807) (hy : -9223372036854775808 ≤ y ∧ y ≤ 9223372036854775807) (hl : l.length ≤ 1099511627776) (hr : Row w a l) (hw : ∀ x ∈ l, -9223372036854775808 ≤ x ∧ x ≤ 9223372036854775807) :
    Calls Try.prog 14 #[frv x y a l.length c] w fun e w' => e = .returned (.bool (frameB x y l)) ∧ Below w.heap.size w w' := by
  clear hx hy hw
  have HR := Lib.hid hr
  clear hr
  cases h1 : sidesB x y
  · have hf : frameB x y l = false := by rw [frameB, h1]; rfl
    have HF := Lib.hid hf
    clear hf
    go_enter Try.func14, Try.ntmps14
    go_wp2_with (go_at_call 45; refine (spec.SidesOk_c _ _ _).mono ?_; rintro e w' ⟨rfl, rfl⟩)
    go_ret
    exact ⟨ret_bool HF.out.symm, (Below.refl w.heap.size w).alloc (Nat.le_refl _) _⟩
  · obtain ⟨hab0, hab1⟩ := area_bd h1
    by_cases h2 : (l.length : Int) = x * y
    · have h2' : ((l.length : Int) == IntKind.i64.wrap (x * y)) = true := by rw [IntWalk.i64_in _ (by omega)]; simp [h2]
      have h2'' : ((l.length : Int) == x * y) = true := by simp [h2]
      have hf : frameB x y l = allR 0 255 l := by rw [frameB, h1, h2]; simp
      have HF := Lib.hid hf
      clear hf h2
      go_enter Try.func14, Try.ntmps14
      go_wp2_with fail
      refine (spec.SidesOk_c _ _ _).mono ?_
      rintro e w' ⟨rfl, rfl⟩
      go_wp2_with fail
      refine (spec.l14Pix_c _ _ l _ (by omega) (HR.out.alloc _)).mono ?_
      rintro e w' ⟨rfl, rfl⟩
      go_wp2
      go_ret
      exact ⟨ret_bool HF.out.symm, (Below.refl w.heap.size w).alloc (Nat.le_refl _) _⟩
    · have h2' : ((l.length : Int) == IntKind.i64.wrap (x * y)) = false := by rw [IntWalk.i64_in _ (by omega)]; simp [h2]
      have h2'' : ((l.length : Int) == x * y) = false := by simp [h2]
      have hf : frameB x y l = false := by rw [frameB, h1]; simp [h2]
      have HF := Lib.hid hf
      clear hf h2
      go_enter Try.func14, Try.ntmps14
      go_wp2_with fail
      refine (spec.SidesOk_c _ _ _).mono ?_
      rintro e w' ⟨rfl, rfl⟩
      go_wp2
      go_ret
      exact ⟨ret_bool HF.out.symm, (Below.refl w.heap.size w).alloc (Nat.le_refl _) _⟩



set_option maxHeartbeats 400000 in
theorem Equal_c (a b : Option Addr) (c d : Nat) (l m : List Int) (w : World) (hl : l.length ≤ 1099511627776) (hm : m.length ≤ 1099511627776) (hra : Row w a l) (hrb : Row w b m) :
    Calls Try.prog 60 #[.slice a l.length c, .slice b m.length d] w fun e w' => e = .returned (.bool (decide (l = m))) ∧ ∃ n, w' = w.drewN n := by
  by_cases hlen : l.length = m.length
  · have hne : ((l.length : Int) != (m.length : Int)) = false := by simp [hlen]
    have HL := Lib.hid hlen
    clear hlen
    go_enter Try.func60, Try.ntmps60
    go_wp2
    go_loopw [5, 13] (fun _ i wr => ∃ k : Nat, k ≤ l.length ∧ i = .int .i64 k ∧ (∀ i, i < k → l.getD i 0 = m.getD i 0) ∧ ∃ n, wr = w.drewN n) (fun _ i _ => l.length - (intOf i).toNat)
    case atStart => exact ⟨0, Nat.zero_le _, rfl, fun i h => absurd h (by omega), 0, rfl⟩
    case round =>
      obtain ⟨k, hk, rfl, heq, n, rfl⟩ := hrel
      have HE := Lib.hid heq
      clear heq
      by_cases hlt : k < l.length
      · have hlt2 : k < m.length := by rw [← HL.out]; exact hlt
        obtain ⟨ba, oa, rfl, hca⟩ := hra.at_ hlt
        obtain ⟨bb, ob, rfl, hcb⟩ := hrb.at_ hlt2
        obtain ⟨x, hx⟩ : ∃ x, x = l.getD k 0 := ⟨_, rfl⟩
        obtain ⟨y, hy⟩ : ∃ y, y = m.getD k 0 := ⟨_, rfl⟩
        rw [← hx] at hca
        rw [← hy] at hcb
        have HX := Lib.hid hx
        have HY := Lib.hid hy
        clear hx hy hra hrb hne
        have hi1 : (k : Int) < (l.length : Int) := by omega
        have hi2 : (k : Int) < (m.length : Int) := by omega
        go_wp2
        go_quiet (fail)
        by_cases hxy : x = y
        · have hb : (x != y) = false := by simp [hxy]
          have HXY := Lib.hid hxy
          clear hxy
          go_wp2
          go_roundw
          case rel => exact ⟨k + 1, by omega, by go_num, fun i hi => by
            by_cases h : i < k
            · exact HE.out i h
            · obtain rfl : i = k := by omega
              rw [← HX.out, ← HY.out]; exact HXY.out, by first | exact ⟨_, rfl⟩ | exact drewN_ex _ _⟩
          case measure => simp [intOf]; omega
        · have hb : (x != y) = true := by simp [hxy]
          have HXY := Lib.hid hxy
          clear hxy
          go_wp2
          go_ret
          refine ⟨ret_bool ?_, by first | exact ⟨_, rfl⟩ | exact drewN_ex _ _⟩
          rw [decide_eq_false]
          intro e
          exact HXY.out (by rw [HX.out, HY.out, e])
      · have hend : k = l.length := by omega
        clear hra hrb hne
        go_wp2
        go_ret
        refine ⟨ret_bool ?_, _, rfl⟩
        rw [decide_eq_true]
        exact eq_of_take HL.out (fun i hi => HE.out i (by omega))
  · have hne : ((l.length : Int) != (m.length : Int)) = true := by simp; omega
    have HL := Lib.hid hlen
    clear hlen
    go_enter Try.func60, Try.ntmps60
    go_wp2
    go_ret
    refine ⟨ret_bool ?_, 0, rfl⟩
    rw [decide_eq_false]
    intro e
    exact HL.out (by rw [e])


def sameB (x y : Int) (l : List Int) (x2 y2 : Int) (l2 : List Int) : Bool := decide (x = x2) && (decide (y = y2) && decide (l = l2))

set_option maxHeartbeats 1000000 in
theorem impl.SameFrame_c (x y : Int) (a : Option Addr) (c : Nat) (l : List Int) (x2 y2 : Int) (a2 : Option Addr) (c2 : Nat) (l2 : List Int) (w : World) (hx : -9223372036854775808 ≤ x ∧ x ≤ 9223372036854775807) (hy : -9223372036854775808 ≤ y ∧ y ≤ 9223372036854775807) (hl : l.length ≤ 1099511627776) (hr : Row w a l) (hw : ∀ x ∈ l, -9223372036854775808 ≤ x ∧ x ≤ 9223372036854775807)
    (hx2 : -9223372036854775808 ≤ x2 ∧ x2 ≤ 9223372036854775807) (hy2 : -9223372036854775808 ≤ y2 ∧ y2 ≤ 9223372036854775807) (hl2 : l2.length ≤ 1099511627776) (hr2 : Row w a2 l2) (hw2 : ∀ x ∈ l2, -9223372036854775808 ≤ x ∧ x ≤ 9223372036854775807) :
    Calls Try.prog 24 #[frv x y a l.length c, frv x2 y2 a2 l2.length c2] w fun e w' => e = .returned (.bool (sameB x y l x2 y2 l2)) ∧ Below w.heap.size w w' := by
  clear hx hy hw hx2 hy2 hw2
  have HR := Lib.hid hr
  have HR2 := Lib.hid hr2
  clear hr hr2
  by_cases h1 : x = x2
  · by_cases h2 : y = y2
    · have hf : sameB x y l x2 y2 l2 = decide (l = l2) := by simp [sameB, h1, h2]
      have e1 : (x == x2) = true := by simp [h1]
      have e2 : (y == y2) = true := by simp [h2]
      have HF := Lib.hid hf
      clear hf h1 h2
      go_enter Try.func24, Try.ntmps24
      go_wp2_with fail
      refine (Equal_c _ _ _ _ l l2 _ hl hl2 ((HR.out.alloc _).alloc _) ((HR2.out.alloc _).alloc _)).mono ?_
      rintro e w' ⟨rfl, n, rfl⟩
      go_wp2
      go_ret
      exact ⟨ret_bool HF.out.symm, below_drewN' (((Below.refl w.heap.size w).alloc (Nat.le_refl _) _).alloc (by simp) _) _⟩
    · have hf : sameB x y l x2 y2 l2 = false := by simp [sameB, h2]
      have e1 : (x == x2) = true := by simp [h1]
      have e2 : (y == y2) = false := by simp [h2]
      have HF := Lib.hid hf
      clear hf h1 h2
      go_enter Try.func24, Try.ntmps24
      go_wp2
      go_ret
      exact ⟨ret_bool HF.out.symm, ((Below.refl w.heap.size w).alloc (Nat.le_refl _) _).alloc (by simp) _⟩
  · have hf : sameB x y l x2 y2 l2 = false := by simp [sameB, h1]
    have e1 : (x == x2) = false := by simp [h1]
    have HF := Lib.hid hf
    clear hf h1
    go_enter Try.func24, Try.ntmps24
    go_wp2
    go_ret
    exact ⟨ret_bool HF.out.symm, ((Below.refl w.heap.size w).alloc (Nat.le_refl _) _).alloc (by simp) _⟩


set_option maxHeartbeats 2000000 in
theorem spec.SameFrame_c (x y : Int) (a : Option Addr) (c : Nat) (l : List Int) (x2 y2 : Int) (a2 : Option Addr) (c2 : Nat) (l2 : List Int) (w : World) (hx : -9223372036854775808 ≤ x ∧ x ≤ 9223372036854775807) (hy : -9223372036854775808 ≤ y ∧ y ≤ 9223372036854775807) (hl : l.length ≤ 1099511627776) (hr : Row w a l) (hw : ∀ x ∈ l, -9223372036854775808 ≤ x ∧ x ≤ 9223372036854775807)
    (hx2 : -9223372036854775808 ≤ x2 ∧ x2 ≤ 9223372036854775807) (hy2 : -9223372036854775808 ≤ y2 ∧ y2 ≤ 9223372036854775807) (hl2 : l2.length ≤ 1099511627776) (hr2 : Row w a2 l2) (hw2 : ∀ x ∈ l2, -9223372036854775808 ≤ x ∧ x ≤ 9223372036854775807) :
    Calls Try.prog 12 #[frv x y a l.length c, frv x2 y2 a2 l2.length c2] w fun e w' => e = .returned (.bool (sameB x y l x2 y2 l2)) ∧ Below w.heap.size w w' := by
  clear hx hy hw hx2 hy2 hw2
  by_cases h1 : x = x2
  · have e1 : (x != x2) = false := by simp [h1]
    by_cases h2 : y = y2
    · have e2 : (y != y2) = false := by simp [h2]
      by_cases h3 : l.length = l2.length
      · have e3 : ((l.length : Int) != (l2.length : Int)) = false := by simp [h3]
        have hf : sameB x y l x2 y2 l2 = decide (l = l2) := by simp [sameB, h1, h2]
        have HF := Lib.hid hf
        have H3 := Lib.hid h3
        clear hf h1 h2 h3
        go_enter Try.func12, Try.ntmps12
        go_wp2
        obtain ⟨W0, hW0⟩ : ∃ W0, W0 = (w.alloc (.cells #[.int .i64 x, .int .i64 y, .slice a l.length c] 26)).alloc (.cells #[.int .i64 x2, .int .i64 y2, .slice a2 l2.length c2] 26) := ⟨_, rfl⟩
        rw [← hW0]
        have p0 : W0.cell? ⟨w.heap.size, 2, none⟩ = some (.slice a l.length c) := by rw [hW0]; simp
        have p1 : W0.cell? ⟨w.heap.size + 1, 2, none⟩ = some (.slice a2 l2.length c2) := by rw [hW0]; simp
        have HB : Hid (Below w.heap.size w W0) := by show Below _ _ _; rw [hW0]; exact ((Below.refl w.heap.size w).alloc (Nat.le_refl _) _).alloc (by simp) _
        have ra := hr.below HB.out (Nat.le_refl _)
        have rb := hr2.below HB.out (Nat.le_refl _)
        clear hW0 hr hr2
        go_loopw [5] (fun i wr => ∃ k : Nat, k ≤ l.length ∧ i = .int .i64 k ∧ (∀ i, i < k → l.getD i 0 = l2.getD i 0) ∧ ∃ n, wr = W0.drewN n) (fun i _ => l.length - (intOf i).toNat)
        case atStart => exact ⟨0, Nat.zero_le _, rfl, fun i h => absurd h (by omega), 0, rfl⟩
        case round =>
          obtain ⟨k, hk, rfl, heq, n, rfl⟩ := hrel
          have HE := Lib.hid heq
          clear heq
          by_cases hlt : k < l.length
          · have hlt2 : k < l2.length := by rw [← H3.out]; exact hlt
            obtain ⟨ba, oa, rfl, hca⟩ := ra.at_ hlt
            obtain ⟨bb, ob, rfl, hcb⟩ := rb.at_ hlt2
            obtain ⟨u, hu⟩ : ∃ x, x = l.getD k 0 := ⟨_, rfl⟩
            obtain ⟨v, hv⟩ : ∃ y, y = l2.getD k 0 := ⟨_, rfl⟩
            rw [← hu] at hca
            rw [← hv] at hcb
            have HX := Lib.hid hu
            have HY := Lib.hid hv
            clear hu hv ra rb e1 e2 e3
            have hi1 : (k : Int) < (l.length : Int) := by omega
            have hi2 : (k : Int) < (l2.length : Int) := by omega
            go_wp2
            go_quiet (fail)
            by_cases hxy : u = v
            · have hb : (u != v) = false := by simp [hxy]
              have HXY := Lib.hid hxy
              clear hxy
              go_wp2
              go_roundw
              case rel => exact ⟨k + 1, by omega, by go_num, fun i hi => by
                by_cases h : i < k
                · exact HE.out i h
                · obtain rfl : i = k := by omega
                  rw [← HX.out, ← HY.out]; exact HXY.out, by first | exact ⟨_, rfl⟩ | exact drewN_ex _ _⟩
              case measure => simp [intOf]; omega
            · have hb : (u != v) = true := by simp [hxy]
              have HXY := Lib.hid hxy
              clear hxy
              go_wp2
              go_ret
              refine ⟨ret_bool ?_, by first | exact below_drewN' HB.out _ | exact below_drewN' (below_drewN' HB.out _) _⟩
              rw [HF.out, decide_eq_false]
              intro e
              exact HXY.out (by rw [HX.out, HY.out, e])
          · have hend : k = l.length := by omega
            clear ra rb e1 e2 e3
            go_wp2
            go_ret
            refine ⟨ret_bool ?_, below_drewN' HB.out _⟩
            rw [HF.out, decide_eq_true]
            exact eq_of_take H3.out (fun i hi => HE.out i (by omega))
      · have e3 : ((l.length : Int) != (l2.length : Int)) = true := by simp; omega
        have hf : sameB x y l x2 y2 l2 = false := by
          have : l ≠ l2 := fun e => h3 (by rw [e])
          simp [sameB, this]
        have HF := Lib.hid hf
        clear hf h1 h2 h3
        go_enter Try.func12, Try.ntmps12
        go_wp2
        go_ret
        exact ⟨ret_bool HF.out.symm, ((Below.refl w.heap.size w).alloc (Nat.le_refl _) _).alloc (by simp) _⟩
    · have e2 : (y != y2) = true := by simp [h2]
      have hf : sameB x y l x2 y2 l2 = false := by simp [sameB, h2]
      have HF := Lib.hid hf
      clear hf h1 h2
      go_enter Try.func12, Try.ntmps12
      go_wp2
      go_ret
      exact ⟨ret_bool HF.out.symm, ((Below.refl w.heap.size w).alloc (Nat.le_refl _) _).alloc (by simp) _⟩
  · have e1 : (x != x2) = true := by simp [h1]
    have hf : sameB x y l x2 y2 l2 = false := by simp [sameB, h1]
    have HF := Lib.hid hf
    clear hf h1
    go_enter Try.func12, Try.ntmps12
    go_wp2
    go_ret
    exact ⟨ret_bool HF.out.symm, ((Below.refl w.heap.size w).alloc (Nat.le_refl _) _).alloc (by simp) _⟩

end Go.Proofs.Ytkfjbnhihjnhnaa
