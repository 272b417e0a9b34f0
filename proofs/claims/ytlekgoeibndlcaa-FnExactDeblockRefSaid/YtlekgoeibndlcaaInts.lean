/- Contracts of the statements' helpers on slices of integers: a copy, an equality test, a marking, a look at the marks. -/
import Derived.Test.YtlekgoeibndlcaaMem
namespace Go.Proofs.Ytlekgoeibndlcaa
open Go.RowKit
set_option linter.unusedVariables false

theorem getD_lt {l : List Int} {k : Nat} (h : k < l.length) : l.getD k 0 = l[k] := by simp [List.getD, h]
theorem take_snoc {l : List Int} {k : Nat} (h : k < l.length) : l.take (k + 1) = l.take k ++ [l.getD k 0] := by
  rw [List.take_add_one, List.getElem?_eq_getElem h, getD_lt h]; rfl

/-- the first k of l, zeros behind -/
def copied (l : List Int) (k : Nat) : List Int := l.take k ++ List.replicate (l.length - k) 0
theorem copied_len (l : List Int) (k : Nat) (h : k ≤ l.length) : (copied l k).length = l.length := by simp [copied]; omega
theorem copied_all (l : List Int) : copied l l.length = l := by simp [copied]
theorem copied_zero (l : List Int) : copied l 0 = List.replicate l.length 0 := by simp [copied]
theorem copied_set (l : List Int) (k : Nat) (h : k < l.length) : (copied l k).set k (l.getD k 0) = copied l (k + 1) := by
  unfold copied
  rw [take_snoc h, List.set_append_right _ _ (by simp; omega)]
  have e : k - (List.take k l).length = 0 := by simp; omega
  rw [e]
  have e2 : l.length - k = (l.length - (k + 1)) + 1 := by omega
  rw [e2, List.replicate_succ]
  simp


set_option maxHeartbeats 400000 in
theorem toIntS_c (a : Option Addr) (c : Nat) (l : List Int) (w : World) (hl : l.length ≤ 1048576) (hr : Row w a l) :
    Calls Try.prog 25 #[.slice a l.length c] w fun e w' => ∃ g, e = .returned (.slice (some ⟨g, 0, none⟩) l.length l.length) ∧ g = w.heap.size ∧ Own w.heap.size w' (some ⟨g, 0, none⟩) l.length l ∧ Below w.heap.size w w' := by
  obtain ⟨i0, hi, hz0, hz1, hz2⟩ := info_parts Try.infoInt
  go_enter Try.func25, Try.ntmps25
  go_wp2_with (at_make; refine wpList_make_full _ rfl _ _ 22 rfl w.heap.size 3 i0 (.int .i64 0) 1 Try.underlying22 hi hz0 hz1 _ _ _ _ l.length rfl rfl rfl rfl ?b2 ?b3 (Nat.le_refl _) ?_)
  case b2 => rw [hz2]; omega
  case b3 => unfold maxLen; omega
  intro w0 hown0 hgrow0
  have hown : Own w.heap.size w0 (some ⟨w.heap.size, 0, none⟩) l.length (copied l 0) := by
    unfold Own
    have e := map_madeCells l.length
    simp only [Nat.mul_one, copied_zero] at e ⊢
    rw [← e, List.length_replicate]
    exact hown0
  have hb0 : Below w.heap.size w w0 := (Below.refl _ _).grown hgrow0 (Nat.le_refl _) (fun k h => by cases h)
  clear hown0 hgrow0
  go_wp2
  go_loopw [4] (fun i wr => ∃ k : Nat, k ≤ l.length ∧ i = .int .i64 k ∧ Own w.heap.size wr (some ⟨w.heap.size, 0, none⟩) l.length (copied l k) ∧ Below w.heap.size w wr) (fun i _ => l.length - (intOf i).toNat)
  case atStart => exact ⟨0, Nat.zero_le _, rfl, hown, hb0⟩
  case round =>
    clear hown hb0
    obtain ⟨k, hk, rfl, hown, hb⟩ := hrel
    by_cases hlt : k < l.length
    · obtain ⟨b, off, rfl, hc⟩ := hr.at_ hlt
      have hcell : wr.cell? ⟨b, off + k, none⟩ = some (.int .i64 (l.getD k 0)) := (hb.cell (p := ⟨b, off + k, none⟩) (World.block_lt_of_cell? w _ hc)).trans hc
      obtain ⟨x, hx⟩ : ∃ x, x = l.getD k 0 := ⟨_, rfl⟩
      rw [← hx] at hcell
      have hlc := copied_len l k hk
      have hold := hown.cellAt (i := k) (by omega)
      obtain ⟨y, hy⟩ : ∃ y, y = (copied l k).getD k 0 := ⟨_, rfl⟩
      rw [← hy] at hold
      have hfz := hown.frozenAt k
      have hown' := hown.stored k x
      rw [hx, copied_set l k hlt, ← hx] at hown'
      have hb' := hb.setCell (p := ⟨w.heap.size, k, none⟩) (Nat.le_refl _) (.int .i64 x)
      clear hx hy hlc hc
      have H1 := Lib.hid hown'
      have H2 := Lib.hid hb'
      clear hown' hb' hown hb
      go_wp2
      go_roundw
      case rel => exact ⟨k + 1, by omega, by go_num, H1.out, H2.out⟩
      case measure => simp [intOf]; omega
    · obtain rfl : k = l.length := by omega
      rw [copied_all] at hown
      go_wp2
      go_ret
      exact ⟨_, rfl, rfl, hown, hb⟩


theorem eq_of_take {l m : List Int} (h : l.length = m.length) (ht : ∀ i, i < l.length → l.getD i 0 = m.getD i 0) : l = m := by
  apply List.ext_getElem h
  intro i h1 h2
  have := ht i h1
  rwa [getD_lt h1, getD_lt h2] at this


set_option maxHeartbeats 400000 in
theorem eqIntS_c (a b : Option Addr) (c d : Nat) (l m : List Int) (w : World) (hl : l.length ≤ 4611686018427387904) (hm : m.length ≤ 4611686018427387904) (hra : Row w a l) (hrb : Row w b m) :
    Calls Try.prog 20 #[.slice a l.length c, .slice b m.length d] w fun e w' => e = .returned (.bool (decide (l = m))) ∧ ∃ n, w' = w.drewN n := by
  by_cases hlen : l.length = m.length
  · have hne : ((l.length : Int) != (m.length : Int)) = false := by simp [hlen]
    have HL := Lib.hid hlen
    clear hlen
    go_enter Try.func20, Try.ntmps20
    go_wp2
    go_loopw [5] (fun i wr => ∃ k : Nat, k ≤ l.length ∧ i = .int .i64 k ∧ (∀ i, i < k → l.getD i 0 = m.getD i 0) ∧ ∃ n, wr = w.drewN n) (fun i _ => l.length - (intOf i).toNat)
    case atStart => exact ⟨0, Nat.zero_le _, rfl, fun i h => absurd h (by omega), 0, rfl⟩
    case round =>
      obtain ⟨k, hk, rfl, heq, n, rfl⟩ := hrel
      have HE := Lib.hid heq
      clear heq
      by_cases hlt : k < l.length
      · have hlt2 : k < m.length := by rw [← HL.out]; exact hlt
        obtain ⟨ba, oa, rfl, hca⟩ := hra.at_ hlt
        obtain ⟨bb, ob, rfl, hcb⟩ := hrb.at_ hlt2
        obtain ⟨x, hx⟩ : ∃ x, x = l.getD k 0 := ⟨_, rfl⟩
        obtain ⟨y, hy⟩ : ∃ y, y = m.getD k 0 := ⟨_, rfl⟩
        rw [← hx] at hca
        rw [← hy] at hcb
        have HX := Lib.hid hx
        have HY := Lib.hid hy
        clear hx hy hra hrb hne
        have hi1 : (k : Int) < (l.length : Int) := by omega
        have hi2 : (k : Int) < (m.length : Int) := by omega
        go_wp2
        go_quiet (fail)
        by_cases hxy : x = y
        · have hb : (x != y) = false := by simp [hxy]
          have HXY := Lib.hid hxy
          clear hxy
          go_wp2
          go_roundw
          case rel => exact ⟨k + 1, by omega, by go_num, fun i hi => by
            by_cases h : i < k
            · exact HE.out i h
            · obtain rfl : i = k := by omega
              rw [← HX.out, ← HY.out]; exact HXY.out, by first | exact ⟨_, rfl⟩ | exact drewN_ex _ _⟩
          case measure => simp [intOf]; omega
        · have hb : (x != y) = true := by simp [hxy]
          have HXY := Lib.hid hxy
          clear hxy
          go_wp2
          go_ret
          refine ⟨ret_bool ?_, by first | exact ⟨_, rfl⟩ | exact drewN_ex _ _⟩
          rw [decide_eq_false]
          intro e
          exact HXY.out (by rw [HX.out, HY.out, e])
      · have hend : k = l.length := by omega
        clear hra hrb hne
        go_wp2
        go_ret
        refine ⟨ret_bool ?_, _, rfl⟩
        rw [decide_eq_true]
        exact eq_of_take HL.out (fun i hi => HE.out i (by omega))
  · have hne : ((l.length : Int) != (m.length : Int)) = true := by simp; omega
    have HL := Lib.hid hlen
    clear hlen
    go_enter Try.func20, Try.ntmps20
    go_wp2
    go_ret
    refine ⟨ret_bool ?_, 0, rfl⟩
    rw [decide_eq_false]
    intro e
    exact HL.out (by rw [e])


/-- the numbers k, k+1, .. -/
def marks (k : Int) (n : Nat) : List Int := (List.range n).map (fun i : Nat => k + (i : Int))
theorem marks_len (k : Int) (n : Nat) : (marks k n).length = n := by simp [marks]
theorem marks_getD (k : Int) (n i : Nat) (h : i < n) : (marks k n).getD i 0 = k + i := by simp [marks, List.getD, h]
/-- the first i of l are marked -/
def marked (l : List Int) (k : Int) (i : Nat) : List Int := marks k i ++ l.drop i
theorem marked_len (l : List Int) (k : Int) (i : Nat) (h : i ≤ l.length) : (marked l k i).length = l.length := by simp [marked, marks_len]; omega
theorem marked_set (l : List Int) (k : Int) (i : Nat) (h : i < l.length) : (marked l k i).set i (k + i) = marked l k (i + 1) := by
  unfold marked
  rw [List.set_append_right _ _ (by rw [marks_len]; exact Nat.le_refl _), marks_len, Nat.sub_self, List.drop_eq_getElem_cons h, List.set_cons_zero]
  simp [marks, List.range_succ]


set_option maxHeartbeats 400000 in
theorem markIntS_c (B : Nat) (a : Option Addr) (c : Nat) (l : List Int) (k : Int) (w : World) (hl : l.length ≤ 4611686018427387904) (h0 : 0 ≤ k) (h1 : k ≤ 4611686018427387) (ho : Own B w a c l) :
    Calls Try.prog 22 #[.slice a l.length c, .int .i64 k] w fun e w' => e = .returned (.int .i64 (k + l.length)) ∧ Own B w' a c (marks k l.length) ∧ w.grownBy w' (a.map (·.block)) := by
  go_enter Try.func22, Try.ntmps22
  go_wp2
  go_loopw [1, 5] (fun kk i wr => ∃ j : Nat, j ≤ l.length ∧ i = .int .i64 j ∧ kk = .int .i64 (k + j) ∧ Own B wr a c (marked l k j) ∧ w.grownBy wr (a.map (·.block))) (fun _ i _ => l.length - (intOf i).toNat)
  case atStart => exact ⟨0, Nat.zero_le _, rfl, by simp, by simpa [marked, marks] using ho, World.grownBy.refl _ _⟩
  case round =>
    clear ho
    obtain ⟨j, hj, rfl, rfl, hown, hg⟩ := hrel
    have hlen := marked_len l k j hj
    by_cases hlt : j < l.length
    · obtain ⟨g, rfl, hg1, hg2, hcell, hfz, hst⟩ := hown.at_ (i := j) (by omega)
      obtain ⟨hown', hgr⟩ := hst (k + j)
      rw [marked_set l k j hlt] at hown'
      obtain ⟨y, hy⟩ : ∃ y, y = (marked l k j).getD j 0 := ⟨_, rfl⟩
      rw [← hy] at hcell
      have H1 := Lib.hid hown'
      have H2 : Hid (w.grownBy (wr.setCell ⟨g, j, none⟩ (.int .i64 (k + j))) (some g)) := ⟨hgr.os.trans hg.os, hgr.tape.trans hg.tape, hgr.output.trans hg.output, Nat.le_trans hg.size hgr.size, fun i hi hne => (hgr.block i (Nat.lt_of_lt_of_le hi hg.size) hne).trans (hg.block i hi hne)⟩
      clear hy hown' hst hown hg hgr hlen
      go_wp2
      go_roundw
      case rel => exact ⟨j + 1, by omega, by go_num, by go_num, H1.out, H2.out⟩
      case measure => simp [intOf]; omega
    · obtain rfl : j = l.length := by omega
      have e : marked l k l.length = marks k l.length := by simp [marked]
      rw [e] at hown
      clear hlen e
      go_wp2
      go_ret
      exact ⟨rfl, hown, hg⟩



set_option maxHeartbeats 400000 in
/-- held: what was marked is there -/
theorem heldIntS_c (a : Option Addr) (c n : Nat) (k : Int) (w : World) (hl : n ≤ 4611686018427387904) (h0 : 0 ≤ k) (h1 : k ≤ 4611686018427387) (hr : Row w a (marks k n)) :
    Calls Try.prog 23 #[.slice a n c, .int .i64 k] w fun e w' => e = .returned (.int .i64 (k + n)) ∧ w = w' := by
  go_enter Try.func23, Try.ntmps23
  go_wp2
  go_loop [1, 5] (fun kk i => ∃ j : Nat, j ≤ n ∧ i = .int .i64 j ∧ kk = .int .i64 (k + j)) (fun _ i => n - (intOf i).toNat)
  case atStart => exact ⟨0, Nat.zero_le _, rfl, by simp⟩
  case round =>
    obtain ⟨j, hj, rfl, rfl⟩ := hrel
    by_cases hlt : j < n
    · obtain ⟨b, off, rfl, hcell⟩ := hr.at_ (i := j) (by rw [marks_len]; exact hlt)
      rw [marks_getD k n j hlt] at hcell
      clear hr
      go_wp2
      go_round
      case rel => exact ⟨j + 1, by omega, by go_num, by go_num⟩
      case measure => simp [intOf]; omega
    · obtain rfl : j = n := by omega
      go_wp2
      go_ret
      exact ⟨rfl, rfl⟩


/-! The same contracts with the world told by 'Below' alone. -/

theorem eqIntS_b (a b : Option Addr) (c d : Nat) (l m : List Int) (w : World) (hl : l.length ≤ 4611686018427387904) (hm : m.length ≤ 4611686018427387904) (hra : Row w a l) (hrb : Row w b m) :
    Calls Try.prog 20 #[.slice a l.length c, .slice b m.length d] w fun e w' => e = .returned (.bool (decide (l = m))) ∧ Below w.heap.size w w' :=
  (eqIntS_c a b c d l m w hl hm hra hrb).mono fun _ _ ⟨he, n, hw⟩ => ⟨he, by rw [hw]; exact below_drewN' (Below.refl _ _) n⟩
theorem eqIntS_t (a b : Option Addr) (c d : Nat) (l : List Int) (w : World) (hl : l.length ≤ 4611686018427387904) (hra : Row w a l) (hrb : Row w b l) :
    Calls Try.prog 20 #[.slice a l.length c, .slice b l.length d] w fun e w' => e = .returned (.bool true) ∧ Below w.heap.size w w' :=
  (eqIntS_b a b c d l l w hl hl hra hrb).mono fun _ _ ⟨he, hw⟩ => ⟨by rw [he]; simp, hw⟩


theorem heldIntS_b (a : Option Addr) (c n : Nat) (k : Int) (w : World) (hl : n ≤ 4611686018427387904) (h0 : 0 ≤ k) (h1 : k ≤ 4611686018427387) (hr : Row w a (marks k n)) :
    Calls Try.prog 23 #[.slice a n c, .int .i64 k] w fun e w' => e = .returned (.int .i64 (k + n)) ∧ Below w.heap.size w w' :=
  (heldIntS_c a c n k w hl h0 h1 hr).mono fun _ _ ⟨he, hw⟩ => ⟨he, by rw [hw]; exact Below.refl _ _⟩

theorem ne_up {aS aR : Option Addr} {N : Nat} (hS : ∀ p, aS = some p → p.block < N) (hR : ∀ p, aR = some p → N ≤ p.block) : ∀ p g, aS = some p → aR.map (·.block) = some g → p.block ≠ g := by
  intro p g h1 h2
  cases aR with
  | none => cases h2
  | some q => simp at h2; have := hS p h1; have := hR q rfl; omega
theorem ne_down {aS aR : Option Addr} {N : Nat} (hS : ∀ p, aS = some p → N ≤ p.block) (hR : ∀ p, aR = some p → p.block < N) : ∀ p g, aS = some p → aR.map (·.block) = some g → p.block ≠ g := by
  intro p g h1 h2
  cases aR with
  | none => cases h2
  | some q => simp at h2; have := hS p h1; have := hR q rfl; omega
theorem Own.ge {B K : Nat} {w : World} {a : Option Addr} {c : Nat} {l : List Int} (h : Own B w a c l) (hK : K ≤ B) : ∀ p, a = some p → K ≤ p.block := fun p hp => Nat.le_trans hK (h.lt p hp).1
theorem below_mark {B : Nat} {a w w' : World} {x : Option Addr} (h : Below B a w) (hg : w.grownBy w' (x.map (·.block))) (hB : B ≤ w.heap.size) (hx : ∀ p, x = some p → B ≤ p.block) : Below B a w' :=
  h.grown hg hB fun k hk => by
    cases x with
    | none => cases hk
    | some q => simp at hk; have := hx q rfl; omega
end Go.Proofs.Ytlekgoeibndlcaa
