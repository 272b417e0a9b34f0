/- Contracts of reading a block out of a frame: whatever the input. -/
import Derived.Test.YtkfjbnhihjnhnaaBlock
namespace Go.Proofs.Ytkfjbnhihjnhnaa
open Go.RowKit
set_option linter.unusedVariables false

theorem blk_split {x y : Int} {l : List Int} {u v n : Int} (h : fitsB x y l u v n = true) :
    ∃ X Y U V : Nat, x = X ∧ y = Y ∧ u = U ∧ v = V ∧ X ≤ 32 ∧ Y ≤ 32 ∧ l.length = X * Y ∧ ((n = 4 ∧ U + 4 ≤ X ∧ V + 4 ≤ Y) ∨ (n = 8 ∧ U + 8 ≤ X ∧ V + 8 ≤ Y)) := by
  obtain ⟨hf, hn, hu, hv, _, _⟩ := fitsB_true h
  obtain ⟨hs, hlen, _⟩ := frameB_true hf
  obtain ⟨s1, s2, s3, s4, _, _⟩ := sidesB_true hs
  obtain ⟨X, rfl⟩ := Int.eq_ofNat_of_zero_le (show 0 ≤ x by omega)
  obtain ⟨Y, rfl⟩ := Int.eq_ofNat_of_zero_le (show 0 ≤ y by omega)
  obtain ⟨U, rfl⟩ := Int.eq_ofNat_of_zero_le hu.1
  obtain ⟨V, rfl⟩ := Int.eq_ofNat_of_zero_le hv.1
  refine ⟨X, Y, U, V, rfl, rfl, rfl, rfl, by omega, by omega, ?_, ?_⟩
  · rw [← Int.natCast_mul] at hlen
    exact Int.ofNat.inj hlen
  · rcases hn with rfl | rfl
    · exact .inl ⟨rfl, by omega, by omega⟩
    · exact .inr ⟨rfl, by omega, by omega⟩


set_option maxHeartbeats 1000000 in
theorem impl.BlockAt_c (x y : Int) (a : Option Addr) (c : Nat) (l : List Int) (u v n : Int) (w : World) (hx : -9223372036854775808 ≤ x ∧ x ≤ 9223372036854775807) (hy : -9223372036854775808 ≤ y ∧ y ≤ 9223372036854775807) (hl : l.length ≤ 1099511627776) (hr : Row w a l) (hw : ∀ x ∈ l, -9223372036854775808 ≤ x ∧ x ≤ 9223372036854775807) :
    Calls Try.prog 33 #[frv x y a l.length c, .int .i64 u, .int .i64 v, .int .i64 n] w fun e w' => ∃ b d, e = .returned (.slice b (blkF x y l u v n).length d) ∧ Own w.heap.size w' b d (blkF x y l u v n) ∧ Below w.heap.size w w' := by
  have hs := fun t => impl.fits_c x y a c l u v n (w.alloc (.cells #[.int .i64 x, .int .i64 y, .slice a l.length c] t)) hx hy hl (hr.alloc _) hw
  cases h : fitsB x y l u v n
  · rw [blkF_no h]
    rw [h] at hs
    have HS := Lib.hid hs
    have fin : ∀ t, ∀ w1, Below (w.alloc (.cells #[.int .i64 x, .int .i64 y, .slice a l.length c] t)).heap.size (w.alloc (.cells #[.int .i64 x, .int .i64 y, .slice a l.length c] t)) w1 → Below w.heap.size w w1 := fun t w1 hb => ((Below.refl w.heap.size w).alloc (Nat.le_refl _) _).trans (hb.mono (by simp))
    have HFin := Lib.hid fin
    clear hs h hx hy hl hr hw fin
    go_enter Try.func33, Try.ntmps33
    go_wp2_with fail
    refine (HS.out _).mono ?_
    rintro e w1 ⟨rfl, hb⟩
    go_wp2
    go_ret
    exact ⟨none, 0, rfl, Own.none_ _ _, HFin.out _ _ hb⟩
  · obtain ⟨X, Y, U, V, rfl, rfl, rfl, rfl, hX, hY, hlen, hn⟩ := blk_split h
    rw [h] at hs
    rcases hn with ⟨rfl, hU, hV⟩ | ⟨rfl, hU, hV⟩
    · have e : blkF X Y l U V 4 = tab (blkAt X l U V 4) 16 := by rw [blkF, if_pos h]; simp
      rw [e, tab_len]
      exact impl.BlockAt_4 X Y U V a c l w hX hY hlen hU hV hr (fun t => (hs t).mono (fun e w1 hh => ⟨hh.1, by simpa using hh.2⟩))
    · have e : blkF X Y l U V 8 = tab (blkAt X l U V 8) 64 := by rw [blkF, if_pos h]; simp
      rw [e, tab_len]
      exact impl.BlockAt_8 X Y U V a c l w hX hY hlen hU hV hr (fun t => (hs t).mono (fun e w1 hh => ⟨hh.1, by simpa using hh.2⟩))











































