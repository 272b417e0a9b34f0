/- Contracts of the functions on four lanes: packing. -/
import Derived.Test.YtkfjbnhihjnhnaaList
import Derived.Handy
namespace Go.Proofs.Ytkfjbnhihjnhnaa
open Go.RowKit
set_option linter.unusedVariables false

theorem Row.four {w : World} {a : Option Addr} {x0 x1 x2 x3 : Int} (h : Row w a [x0, x1, x2, x3]) :
    ∃ b off, a = some ⟨b, off, none⟩ ∧ w.cell? ⟨b, off, none⟩ = some (.int .i64 x0) ∧ w.cell? ⟨b, off + 1, none⟩ = some (.int .i64 x1) ∧ w.cell? ⟨b, off + 2, none⟩ = some (.int .i64 x2) ∧ w.cell? ⟨b, off + 3, none⟩ = some (.int .i64 x3) := by
  obtain ⟨b, off, rfl, hc⟩ := h.all (by simp)
  exact ⟨b, off, rfl, by simpa using hc 0 (by simp), by simpa using hc 1 (by simp), by simpa using hc 2 (by simp), by simpa using hc 3 (by simp)⟩
theorem four_of {l : List Int} (h : l.length = 4) : ∃ x0 x1 x2 x3, l = [x0, x1, x2, x3] := by
  match l, h with
  | [a, b, c, d], _ => exact ⟨a, b, c, d, rfl⟩

theorem wraps_i64 (n : Int) (h₀ : 0 ≤ n) (h₁ : n < 2 ^ 63) : IntKind.i64.wrap n = n := by rw [IntKind.wrap_i64]; omega
theorem bits_or_comm (k : IntKind) (x y : Int) : bits .or k x y = bits .or k y x := by
  simp only [bits]; rw [BitVec.or_comm]
theorem i64_or_low (i : Nat) (x y : Int) (hx₀ : 0 ≤ x) (hx : x < 2 ^ i) (hx₁ : x < 2 ^ 63) (hy₀ : 0 ≤ y) (hy : y % 2 ^ i = 0) (hy₁ : y < 2 ^ 63) : bits .or .i64 x y = x + y := by
  rw [bits_or_comm, bits_join .i64 63 (by decide) wraps_i64 i y x hy₀ hy hy₁ hx₀ hx hx₁, Int.add_comm]
theorem pack_or (x0 x1 x2 x3 : Int) (b0 : 0 ≤ x0) (B0 : x0 ≤ 32767) (b1 : 0 ≤ x1) (B1 : x1 ≤ 32767) (b2 : 0 ≤ x2) (B2 : x2 ≤ 32767) (b3 : 0 ≤ x3) (B3 : x3 ≤ 32767) :
    bits .or .i64 (bits .or .i64 (bits .or .i64 x0 (x1 * 65536)) (x2 * 4294967296)) (x3 * 281474976710656) = ((x3 * 65536 + x2) * 65536 + x1) * 65536 + x0 := by
  rw [i64_or_low 16 x0 (x1 * 65536) (by omega) (by omega) (by omega) (by omega) (by omega) (by omega),
    i64_or_low 32 (x0 + x1 * 65536) (x2 * 4294967296) (by omega) (by omega) (by omega) (by omega) (by omega) (by omega),
    i64_or_low 48 (x0 + x1 * 65536 + x2 * 4294967296) (x3 * 281474976710656) (by omega) (by omega) (by omega) (by omega) (by omega) (by omega)]
  omega

def packOk (l : List Int) : Bool := decide (l.length = 4) && allR 0 32767 l
def packV : List Int → Int | [] => 0 | x :: r => packV r * 65536 + x
def packF (l : List Int) : Int := if packOk l then packV l else 0














































































































































end Go.Proofs.Ytkfjbnhihjnhnaa
