/- Contracts of the functions on four lanes: packing. -/
import Derived.Test.YtbdggcefgiehkaaList
import Derived.Handy
namespace Go.Proofs.Ytbdggcefgiehkaa
open Go.RowKit
set_option linter.unusedVariables false

theorem Row.four {w : World} {a : Option Addr} {x0 x1 x2 x3 : Int} (h : Row w a [x0, x1, x2, x3]) :
    ∃ b off, a = some ⟨b, off, none⟩ ∧ w.cell? ⟨b, off, none⟩ = some (.int .i64 x0) ∧ w.cell? ⟨b, off + 1, none⟩ = some (.int .i64 x1) ∧ w.cell? ⟨b, off + 2, none⟩ = some (.int .i64 x2) ∧ w.cell? ⟨b, off + 3, none⟩ = some (.int .i64 x3) := by
  obtain ⟨b, off, rfl, hc⟩ := h.all (by simp)
  exact ⟨b, off, rfl, by simpa using hc 0 (by simp), by simpa using hc 1 (by simp), by simpa using hc 2 (by simp), by simpa using hc 3 (by simp)⟩
theorem four_of {l : List Int} (h : l.length = 4) : ∃ x0 x1 x2 x3, l = [x0, x1, x2, x3] := by
  match l, h with
  | [a, b, c, d], _ => exact ⟨a, b, c, d, rfl⟩

theorem wraps_i64 (n : Int) (h₀ : 0 ≤ n) (h₁ : n < 2 ^ 63) : IntKind.i64.wrap n = n := by rw [IntKind.wrap_i64]; omega
theorem bits_or_comm (k : IntKind) (x y : Int) : bits .or k x y = bits .or k y x := by
  simp only [bits]; rw [BitVec.or_comm]
theorem i64_or_low (i : Nat) (x y : Int) (hx₀ : 0 ≤ x) (hx : x < 2 ^ i) (hx₁ : x < 2 ^ 63) (hy₀ : 0 ≤ y) (hy : y % 2 ^ i = 0) (hy₁ : y < 2 ^ 63) : bits .or .i64 x y = x + y := by
  rw [bits_or_comm, bits_join .i64 63 (by decide) wraps_i64 i y x hy₀ hy hy₁ hx₀ hx hx₁, Int.add_comm]
theorem pack_or (x0 x1 x2 x3 : Int) (b0 : 0 ≤ x0) (B0 : x0 ≤ 32767) (b1 : 0 ≤ x1) (B1 : x1 ≤ 32767) (b2 : 0 ≤ x2) (B2 : x2 ≤ 32767) (b3 : 0 ≤ x3) (B3 : x3 ≤ 32767) :
    bits .or .i64 (bits .or .i64 (bits .or .i64 x0 (x1 * 65536)) (x2 * 4294967296)) (x3 * 281474976710656) = ((x3 * 65536 + x2) * 65536 + x1) * 65536 + x0 := by
  rw [i64_or_low 16 x0 (x1 * 65536) (by omega) (by omega) (by omega) (by omega) (by omega) (by omega),
    i64_or_low 32 (x0 + x1 * 65536) (x2 * 4294967296) (by omega) (by omega) (by omega) (by omega) (by omega) (by omega),
    i64_or_low 48 (x0 + x1 * 65536 + x2 * 4294967296) (x3 * 281474976710656) (by omega) (by omega) (by omega) (by omega) (by omega) (by omega)]
  omega

def packOk (l : List Int) : Bool := decide (l.length = 4) && allR 0 32767 l
def packV : List Int → Int | [] => 0 | x :: r => packV r * 65536 + x
def packF (l : List Int) : Int := if packOk l then packV l else 0


theorem spec.Pack4_none (a : Option Addr) (c : Nat) (l : List Int) (w : World) (hl : l.length ≤ 4611686018427387904) (h4 : l.length ≠ 4) :
    Calls Try.prog 30 #[.slice a l.length c] w fun e w' => e = .returned (.tuple #[.int .i64 0, .bool false]) ∧ w = w' := by
  have hne : ((l.length : Int) == 4) = false := by simp; omega
  clear h4
  go_enter Try.func30, Try.ntmps30
  go_wp2
  go_rounds 1
  go_ret2
  exact ⟨rfl, rfl⟩
set_option maxHeartbeats 1000000 in
theorem spec.Pack4_c (a : Option Addr) (c : Nat) (l : List Int) (w : World) (hl : l.length ≤ 4611686018427387904) (hr : Row w a l) :
    Calls Try.prog 30 #[.slice a l.length c] w fun e w' => e = .returned (.tuple #[.int .i64 (packF l), .bool (packOk l)]) ∧ w = w' := by
  by_cases h4 : l.length = 4
  · obtain ⟨x0, x1, x2, x3, rfl⟩ := four_of h4
    clear h4 hl
    obtain ⟨b, off, rfl, c0, c1, c2, c3⟩ := hr.four
    clear hr
    cases h3 : inR 0 32767 x3
    · have hf : packOk [x0, x1, x2, x3] = false := by simp [packOk, allR, h3]
      rw [packF, hf]
      clear hf
      simp only [List.length_cons, List.length_nil, Nat.zero_add, Nat.reduceAdd]
      go_enter Try.func30, Try.ntmps30
      go_wp2
      refine wp_loop_rounds 1 ?_
      repeat any_goals (rw [rounds_succ]; go_wp2_with (go_at_call 61; refine (l1In_c _ _ _ _).mono ?_; rintro e w' ⟨rfl, rfl⟩))
      go_ret2
      exact ⟨rfl, rfl⟩
    · obtain ⟨b3, B3⟩ := inR_true h3
      cases h2 : inR 0 32767 x2
      · have hf : packOk [x0, x1, x2, x3] = false := by simp [packOk, allR, h2]
        rw [packF, hf]
        clear hf
        simp only [List.length_cons, List.length_nil, Nat.zero_add, Nat.reduceAdd]
        go_enter Try.func30, Try.ntmps30
        go_wp2
        refine wp_loop_rounds 2 ?_
        repeat any_goals (rw [rounds_succ]; go_wp2_with (go_at_call 61; refine (l1In_c _ _ _ _).mono ?_; rintro e w' ⟨rfl, rfl⟩))
        go_ret2
        exact ⟨rfl, rfl⟩
      · obtain ⟨b2, B2⟩ := inR_true h2
        cases h1 : inR 0 32767 x1
        · have hf : packOk [x0, x1, x2, x3] = false := by simp [packOk, allR, h1]
          rw [packF, hf]
          clear hf
          simp only [List.length_cons, List.length_nil, Nat.zero_add, Nat.reduceAdd]
          go_enter Try.func30, Try.ntmps30
          go_wp2
          refine wp_loop_rounds 3 ?_
          repeat any_goals (rw [rounds_succ]; go_wp2_with (go_at_call 61; refine (l1In_c _ _ _ _).mono ?_; rintro e w' ⟨rfl, rfl⟩))
          go_ret2
          exact ⟨rfl, rfl⟩
        · obtain ⟨b1, B1⟩ := inR_true h1
          cases h0 : inR 0 32767 x0
          · have hf : packOk [x0, x1, x2, x3] = false := by simp [packOk, allR, h0]
            rw [packF, hf]
            clear hf
            simp only [List.length_cons, List.length_nil, Nat.zero_add, Nat.reduceAdd]
            go_enter Try.func30, Try.ntmps30
            go_wp2
            refine wp_loop_rounds 4 ?_
            repeat any_goals (rw [rounds_succ]; go_wp2_with (go_at_call 61; refine (l1In_c _ _ _ _).mono ?_; rintro e w' ⟨rfl, rfl⟩))
            go_ret2
            exact ⟨rfl, rfl⟩
          · obtain ⟨b0, B0⟩ := inR_true h0
            have hf : packOk [x0, x1, x2, x3] = true := by simp [packOk, allR, h0, h1, h2, h3]
            have HV : Hid (packF [x0, x1, x2, x3] = ((x3 * 65536 + x2) * 65536 + x1) * 65536 + x0) := by
              show packF _ = _
              rw [packF, hf]; simp [packV]
            rw [hf]
            clear hf
            simp only [List.length_cons, List.length_nil, Nat.zero_add, Nat.reduceAdd]
            go_enter Try.func30, Try.ntmps30
            go_wp2
            refine wp_loop_rounds 5 ?_
            repeat any_goals (rw [rounds_succ]; go_wp2_with (go_at_call 61; refine (l1In_c _ _ _ _).mono ?_; rintro e w' ⟨rfl, rfl⟩))
            go_ret2
            rw [HV.out]
            exact ⟨rfl, rfl⟩
  · have hf : packOk l = false := by simp [packOk, h4]
    rw [packF, hf]
    exact spec.Pack4_none a c l w hl h4



set_option maxHeartbeats 1000000 in
theorem impl.Pack4_c (a : Option Addr) (c : Nat) (l : List Int) (w : World) (hl : l.length ≤ 4611686018427387904) (hr : Row w a l) :
    Calls Try.prog 29 #[.slice a l.length c] w fun e w' => e = .returned (.tuple #[.int .i64 (packF l), .bool (packOk l)]) ∧ ∃ n, w' = w.drewN n := by
  by_cases h4 : l.length = 4
  · cases hall : allR 0 32767 l
    · have hf : packOk l = false := by simp [packOk, hall]
      rw [packF, hf]
      clear hf
      have hne : ((l.length : Int) != 4) = false := by simp [h4]
      clear h4
      go_enter Try.func29, Try.ntmps29
      go_wp2_with (go_at_call 50; refine (impl.allWithin_c _ _ _ _ _ _ hl hr).mono ?_; rintro e w' ⟨rfl, rfl⟩)
      go_ret2
      exact ⟨rfl, 0, rfl⟩
    · obtain ⟨x0, x1, x2, x3, rfl⟩ := four_of h4
      clear h4
      have hf : packOk [x0, x1, x2, x3] = true := by simp [packOk, hall]
      have HV : Hid (packF [x0, x1, x2, x3] = ((x3 * 65536 + x2) * 65536 + x1) * 65536 + x0) := by
        show packF _ = _
        rw [packF, hf]; simp [packV]
      rw [hf]
      clear hf
      have hb := hall
      simp only [allR, List.all_cons, List.all_nil, Bool.and_true, Bool.and_eq_true] at hb
      obtain ⟨h0, h1, h2, h3⟩ := hb
      obtain ⟨b0, B0⟩ := inR_true h0
      obtain ⟨b1, B1⟩ := inR_true h1
      obtain ⟨b2, B2⟩ := inR_true h2
      obtain ⟨b3, B3⟩ := inR_true h3
      clear h0 h1 h2 h3
      have hcall := impl.allWithin_c a c [x0, x1, x2, x3] 0 32767 w hl hr
      rw [hall] at hcall
      have HC := Lib.hid hcall
      clear hcall
      obtain ⟨b, off, rfl, c0, c1, c2, c3⟩ := hr.four
      clear hr hl hall
      simp only [List.length_cons, List.length_nil, Nat.zero_add, Nat.reduceAdd] at HC ⊢
      go_enter Try.func29, Try.ntmps29
      go_wp2_with (go_at_call 50; refine HC.out.mono ?_; rintro e w' ⟨rfl, rfl⟩)
      clear HC
      go_quiet (fail)
      have HO := Lib.hid (pack_or x0 x1 x2 x3 b0 B0 b1 B1 b2 B2 b3 B3)
      go_wp2
      go_ret2
      rw [HV.out, ← HO.out]
      exact ⟨rfl, _, rfl⟩
  · have hf : packOk l = false := by simp [packOk, h4]
    rw [packF, hf]
    have hne : ((l.length : Int) != 4) = true := by simp; omega
    clear h4
    go_enter Try.func29, Try.ntmps29
    go_wp2
    go_ret2
    exact ⟨rfl, 0, rfl⟩

end Go.Proofs.Ytbdggcefgiehkaa
