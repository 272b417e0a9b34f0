/- Contracts of the frame's small functions and of the statements' helpers on frames. -/
import Derived.Test.YtkfjbnhihjnhnaaNum
import Derived.Test.YtkfjbnhihjnhnaaList
namespace Go.Proofs.Ytkfjbnhihjnhnaa
open Go.RowKit
set_option linter.unusedVariables false

/-- a frame as a value -/
abbrev frv (x y : Int) (a : Option Addr) (n c : Nat) : Value := .agg #[.int .i64 x, .int .i64 y, .slice a n c]
theorem three_set {w0 : World} {B : Nat} {x0 x1 x2 : Value} (a b c : Value) (h0 : w0.cell? ⟨B, 0, none⟩ = some x0) (h1 : w0.cell? ⟨B, 1, none⟩ = some x1) (h2 : w0.cell? ⟨B, 2, none⟩ = some x2) :
    (((w0.setCell ⟨B, 0, none⟩ a).setCell ⟨B, 1, none⟩ b).setCell ⟨B, 2, none⟩ c).cell? ⟨B, 0, none⟩ = some a ∧ (((w0.setCell ⟨B, 0, none⟩ a).setCell ⟨B, 1, none⟩ b).setCell ⟨B, 2, none⟩ c).cell? ⟨B, 1, none⟩ = some b ∧ (((w0.setCell ⟨B, 0, none⟩ a).setCell ⟨B, 1, none⟩ b).setCell ⟨B, 2, none⟩ c).cell? ⟨B, 2, none⟩ = some c := by
  refine ⟨?_, ?_, ?_⟩
  · rw [World.cell?_setCell_other _ _ _ _ (by simp), World.cell?_setCell_other _ _ _ _ (by simp), World.cell?_setCell_same _ _ _ h0]
  · rw [World.cell?_setCell_other _ _ _ _ (by simp)]
    exact World.cell?_setCell_same _ _ _ ((World.cell?_setCell_other _ _ _ _ (by simp)).trans h1)
  · exact World.cell?_setCell_same _ _ _ ((World.cell?_setCell_other _ _ _ _ (by simp)).trans ((World.cell?_setCell_other _ _ _ _ (by simp)).trans h2))
theorem Own.far {B : Nat} {w : World} {a : Option Addr} {c : Nat} {l : List Int} (h : Own B w a c l) {p : Addr} (hp : p.block < B) (u : Value) : Own B (w.setCell p u) a c l := ownsRow_setCell_below h hp u
def zeros (n : Nat) : List Int := List.replicate n 0
theorem zeros_len (n : Nat) : (zeros n).length = n := by simp [zeros]
def newL (x y : Int) : List Int := if sidesB x y then zeros (x * y).toNat else []
def newS (x y z : Int) : Int := if sidesB x y then z else 0
theorem area_bd {x y : Int} (h : sidesB x y = true) : 64 ≤ x * y ∧ x * y ≤ 1024 := by
  obtain ⟨h1, h2, h3, h4, _, _⟩ := sidesB_true h
  constructor
  · have := Int.mul_le_mul h1 h3 (by omega) (by omega); omega
  · have := Int.mul_le_mul h2 h4 (by omega) (by omega); omega
theorem newL_len (x y : Int) : (newL x y).length ≤ 1048576 := by
  unfold newL
  split
  · rename_i h; rw [zeros_len]; have := area_bd h; omega
  · simp































































set_option maxHeartbeats 1000000 in
theorem spec.FrameNew_c (x y : Int) (w : World) :
    Calls Try.prog 22 #[.int .i64 x, .int .i64 y] w fun e w' => ∃ a c, e = .returned (frv (newS x y x) (newS x y y) a (newL x y).length c) ∧ Own w.heap.size w' a c (newL x y) ∧ Below w.heap.size w w' := by
  cases h : sidesB x y
  · have e1 : newS x y x = 0 := by simp [newS, h]
    have e2 : newS x y y = 0 := by simp [newS, h]
    have e3 : newL x y = [] := by simp [newL, h]
    rw [e1, e2, e3]
    clear e1 e2 e3
    go_enter Try.func22, Try.ntmps22
    go_wp2_with (go_at_call 45; refine (spec.SidesOk_c _ _ _).mono ?_; rintro e w' ⟨rfl, rfl⟩)
    exact bodyPost_ret (v := frv 0 0 none 0 0) (by simp [results, Try.results22, go_sem]) rfl ⟨none, 0, rfl, Own.none_ _ _, (Below.refl _ _).alloc (Nat.le_refl _) _⟩
  · have hab := area_bd h
    have e1 : newS x y x = x := by simp [newS, h]
    have e2 : newS x y y = y := by simp [newS, h]
    have e3 : newL x y = zeros (x * y).toNat := by simp [newL, h]
    rw [e1, e2, e3]
    clear e1 e2 e3
    obtain ⟨n, hn⟩ : ∃ n : Nat, x * y = n := ⟨(x * y).toNat, by omega⟩
    have HN := Lib.hid hn
    obtain ⟨hab0, hab1⟩ := hab
    have hw : IntKind.i64.wrap (x * y) = (n : Int) := by rw [IntWalk.i64_in _ (by omega)]; exact hn
    clear hn
    obtain ⟨i0, hi, hz0, hz1, hz2⟩ := info_parts Try.infoInt
    go_enter Try.func22, Try.ntmps22
    go_wp2_with (first
      | (go_at_call 45; refine (spec.SidesOk_c _ _ _).mono ?_; rintro e w' ⟨rfl, rfl⟩)
      | (at_make; refine wpList_make_full _ rfl _ _ 24 rfl (w.heap.size + 1) 3 i0 (.int .i64 0) 1 Try.underlying24 hi hz0 hz1 _ _ _ _ n rfl rfl rfl rfl ?b2 ?b3 (by simp) ?_))
    case b2 => have := HN.out; rw [hz2]; omega
    case b3 => have := HN.out; unfold maxLen; omega
    intro w0 hown0 hgrow0
    have hc0 : w0.cell? ⟨w.heap.size, 0, none⟩ = some (.int .i64 0) := hgrow0.cell (by simp) (by simp)
    have hc1 : w0.cell? ⟨w.heap.size, 1, none⟩ = some (.int .i64 0) := hgrow0.cell (by simp) (by simp)
    have hc2 : w0.cell? ⟨w.heap.size, 2, none⟩ = some (.slice none 0 0) := hgrow0.cell (by simp) (by simp)
    have hf : ∀ i, w0.frozen? ⟨w.heap.size, i, none⟩ = false := fun i => by
      rw [World.frozen?_of_block (w := w.alloc _) (hgrow0.block w.heap.size (by simp) (by simp))]
      simp
    have HO := Lib.hid hown0
    have HB : Hid (Below w.heap.size w w0) := ((Below.refl _ _).alloc (Nat.le_refl _) _).grown hgrow0 (by simp) (fun k h => by cases h)
    clear hown0 hgrow0
    have hf0 := hf 0
    have hf1 := hf 1
    have hf2 := hf 2
    clear hf
    go_wp2
    have hT := three_set (.int .i64 x) (.int .i64 y) (.slice (some ⟨w.heap.size + 1, 0, none⟩) n n) hc0 hc1 hc2
    have hOw : Own (w.heap.size + 1) w0 (some ⟨w.heap.size + 1, 0, none⟩) n (zeros n) := by
      have e := map_madeCells n
      simp only [Nat.mul_one] at e
      unfold Own zeros
      rw [← e, List.length_replicate]
      exact HO.out
    have hxn : (x * y).toNat = n := by have := HN.out; omega
    clear hc0 hc1 hc2 hf0 hf1 hf2
    refine bodyPost_ret (v := frv x y (some ⟨w.heap.size + 1, 0, none⟩) n n) (by simp [results, Try.results22, go_sem, hT]) rfl ⟨some ⟨w.heap.size + 1, 0, none⟩, n, ?_, ?_, ?_⟩
    · rw [hxn, zeros_len]
    · rw [hxn]
      exact (((hOw.far (p := ⟨w.heap.size, 0, none⟩) (Nat.lt_succ_self _) _).far (p := ⟨w.heap.size, 1, none⟩) (Nat.lt_succ_self _) _).far (p := ⟨w.heap.size, 2, none⟩) (Nat.lt_succ_self _) _).mono (Nat.le_succ _)
    · exact ((HB.out.setCell (p := ⟨w.heap.size, 0, none⟩) (Nat.le_refl _) _).setCell (p := ⟨w.heap.size, 1, none⟩) (Nat.le_refl _) _).setCell (p := ⟨w.heap.size, 2, none⟩) (Nat.le_refl _) _










































end Go.Proofs.Ytkfjbnhihjnhnaa
