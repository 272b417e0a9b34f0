/- Contracts of the draws of small numbers and lines of numbers, the cursor and the world told together. -/
import Derived.Test.YtkfjbnhihjnhnaaDraw
import Derived.Test.YtkfjbnhihjnhnaaClip
namespace Go.Proofs.Ytkfjbnhihjnhnaa
open Go.RowKit
set_option linter.unusedVariables false

/-- from world W on only the cursor at g and new blocks have turned -/
def Dr (W : World) (g : Nat) (a : Option Addr) (c : Nat) (l : List Int) (w : World) : Prop := Cur w g a c l ∧ W.grownBy w (some g)
theorem Dr.start {w : World} {g : Nat} {a : Option Addr} {c : Nat} {l : List Int} (h : Cur w g a c l) : Dr w g a c l w := ⟨h, D.refl _ _⟩
theorem Dr.next {W w w' : World} {g : Nat} {a : Option Addr} {c : Nat} {l : List Int} (h : Dr W g a c l w) (hc : Cur w' g a c l) (hd : w.grownBy w' (some g)) : Dr W g a c l w' := ⟨hc, D.trans h.2 hd⟩
theorem Dr.alloc {W w : World} {g : Nat} {a : Option Addr} {c : Nat} {l : List Int} (h : Dr W g a c l w) (o : Obj) : Dr W g a c l (w.alloc o) := ⟨h.1.alloc o, D.under h.2 ((Below.refl _ _).alloc (Nat.le_refl _) o) h.2.size⟩
theorem Dr.drew {W w : World} {g : Nat} {a : Option Addr} {c : Nat} {l : List Int} (h : Dr W g a c l w) : Dr W g a c l w.drew := ⟨h.1.drew, D.drew h.2⟩
theorem Dr.drewN {W w : World} {g : Nat} {a : Option Addr} {c : Nat} {l : List Int} (h : Dr W g a c l w) (n : Nat) : Dr W g a c l (w.drewN n) := ⟨h.1.drewN n, D.drewN h.2 n⟩
theorem Dr.lt {W w : World} {g : Nat} {a : Option Addr} {c : Nat} {l : List Int} (h : Dr W g a c l w) : g < w.heap.size := h.1.1
theorem Dr.size {W w : World} {g : Nat} {a : Option Addr} {c : Nat} {l : List Int} (h : Dr W g a c l w) : W.heap.size ≤ w.heap.size := h.2.size
/-- a change of a block of its own, made behind W and behind the cursor -/
theorem Dr.own {W w w' : World} {g : Nat} {a : Option Addr} {c : Nat} {l : List Int} (h : Dr W g a c l w) (B : Nat) (hb : Below B w w') (hB : W.heap.size ≤ B) (hgB : g < B) (haB : l ≠ [] → ∀ p, a = some p → p.block < B) : Dr W g a c l w' := by
  refine ⟨h.1.keep hb.size ?_ (fun i v hv => (hb.cell (p := ⟨g, i, none⟩) hgB).trans hv) (fun i => hb.frozen (p := ⟨g, i, none⟩) hgB), D.under h.2 hb hB⟩
  by_cases hl : l = []
  · exact .inl hl
  · exact h.1.2.2.1.keep fun p hp _ => hb.cell (p := p) (by
      cases a with
      | none => simp at hp
      | some q => simp at hp; rw [hp]; exact haB hl q rfl)
/-- the bytes lie under B -/
def Low (a : Option Addr) (l : List Int) (g B : Nat) : Prop := g < B ∧ (l ≠ [] → ∀ p, a = some p → p.block < B)
theorem Dr.low {W w : World} {g : Nat} {a : Option Addr} {c : Nat} {l : List Int} (h : Dr W g a c l w) : Low a l g w.heap.size := by
  refine ⟨h.1.1, fun hl p hp => ?_⟩
  obtain ⟨b, off, e, hc⟩ := h.1.2.2.1.at_ (i := 0) (by cases l with | nil => exact absurd rfl hl | cons => simp)
  rw [hp] at e
  cases e
  exact World.block_lt_of_cell? w _ hc
theorem Low.mono {a : Option Addr} {l : List Int} {g B B' : Nat} (h : Low a l g B) (hB : B ≤ B') : Low a l g B' := ⟨Nat.lt_of_lt_of_le h.1 hB, fun hl p hp => Nat.lt_of_lt_of_le (h.2 hl p hp) hB⟩
theorem Dr.owned {W w w' : World} {g : Nat} {a : Option Addr} {c : Nat} {l : List Int} (h : Dr W g a c l w) {B : Nat} (hb : Below B w w') (hB : W.heap.size ≤ B) (hL : Low a l g B) : Dr W g a c l w' := h.own B hb hB hL.1 hL.2
/-- a row of the draw's own stays while the cursor goes on -/
theorem Own.cur {B : Nat} {w w' : World} {b : Option Addr} {d : Nat} {L : List Int} {g : Nat} (h : Own B w b d L) (hd : w.grownBy w' (some g)) (hg : g < B) : Own B w' b d L :=
  h.grown hd (fun p q hp hq => by cases hq; have := (h.lt p hp).1; omega)
theorem Row.cur {w w' : World} {b : Option Addr} {L : List Int} {g : Nat} (h : Row w b L) (hd : w.grownBy w' (some g)) (hg : ∀ p, b = some p → p.block ≠ g) : Row w' b L :=
  h.grown hd (fun p q hp hq => by cases hq; exact hg p hp)

/-- the length of a slice -/
def lenOf : Value → Nat | .slice _ n _ => n | _ => 0

theorem l1Below_d (W : World) (g : Nat) (a : Option Addr) (c : Nat) (l : List Int) (n : Int) (w : World) (hn : -9223372036854775808 ≤ n ∧ n ≤ 9223372036854775807) (h : Dr W g a c l w) :
    Calls Try.prog 49 #[.pointer (some ⟨g, 0, none⟩), .int .i64 n] w fun e w' => ∃ x : Int, e = .returned (.int .i64 x) ∧ ((n ≤ 0 → x = 0) ∧ (0 < n → 0 ≤ x ∧ x < n)) ∧ Dr W g a c l w' ∧ w.grownBy w' (some g) :=
  (l1Below_c g a c l n w hn h.1).mono fun e w' ⟨x, he, hx, hc, hd⟩ => ⟨x, he, hx, h.next hc hd, hd⟩
/-- below a number above 0 -/
theorem l1Below_p (W : World) (g : Nat) (a : Option Addr) (c : Nat) (l : List Int) (n : Int) (w : World) (hn : 0 < n ∧ n ≤ 9223372036854775807) (h : Dr W g a c l w) :
    Calls Try.prog 49 #[.pointer (some ⟨g, 0, none⟩), .int .i64 n] w fun e w' => ∃ x : Int, e = .returned (.int .i64 x) ∧ 0 ≤ x ∧ x < n ∧ Dr W g a c l w' ∧ w.grownBy w' (some g) :=
  (l1Below_d W g a c l n w (by omega) h).mono fun e w' ⟨x, he, hx, hc, hd⟩ => ⟨x, he, (hx.2 hn.1).1, (hx.2 hn.1).2, hc, hd⟩


theorem l1Once_d (W : World) (g : Nat) (a : Option Addr) (c : Nat) (l : List Int) (n : Int) (w : World) (hn : -9223372036854775808 ≤ n ∧ n ≤ 9223372036854775807) (h : Dr W g a c l w) :
    Calls Try.prog 50 #[.pointer (some ⟨g, 0, none⟩), .int .i64 n] w fun e w' => ∃ x : Bool, e = .returned (.bool x) ∧ Dr W g a c l w' ∧ w.grownBy w' (some g) :=
  (l1Once_c g a c l n w hn h.1).mono fun e w' ⟨x, he, hc, hd⟩ => ⟨x, he, h.next hc hd, hd⟩


theorem l1PickInt_d (W : World) (g : Nat) (a : Option Addr) (c : Nat) (l : List Int) (m : List Int) (cs : Array Value) (n : Nat) (w : World) (hm0 : 0 < m.length ∧ m.length ≤ 1024) (hcs : cs.toList = m.map (Value.int .i64)) (hn : n = m.length) (h : Dr W g a c l w) :
    Calls Try.prog 51 #[.pointer (some ⟨g, 0, none⟩), .slice (some ⟨w.heap.size, 0, none⟩) n n] (w.alloc (.cells cs 3)) fun e w' => ∃ x : Int, e = .returned (.int .i64 x) ∧ x ∈ m ∧ Dr W g a c l w' ∧ w.grownBy w' (some g) := by
  subst hn
  have hr : Row (w.alloc (.cells cs 3)) (some ⟨w.heap.size, 0, none⟩) m := (Own.lit (B := 0) w cs m hcs (Nat.zero_le _) (by unfold maxLen; omega)).row
  have hal : w.grownBy (w.alloc (.cells cs 3)) (some g) := D.under (D.refl w g) ((Below.refl _ _).alloc (Nat.le_refl _) _) (Nat.le_refl _)
  exact (l1PickInt_c g a c l (some ⟨w.heap.size, 0, none⟩) m.length m _ (by omega) hm0.1 hr (fun p hp => by cases hp; exact Nat.ne_of_gt h.1.1) (h.alloc _).1).mono fun e w' ⟨x, he, hx, hc, hd⟩ => ⟨x, he, hx, (h.alloc _).next hc hd, D.trans hal hd⟩


set_option maxHeartbeats 2000000 in
theorem l14Line_d (W : World) (g : Nat) (a : Option Addr) (c : Nat) (l : List Int) (n : Int) (w : World) (hn : -9223372036854775808 ≤ n ∧ n ≤ 1048576) (h : Dr W g a c l w) :
    Calls Try.prog 65 #[.pointer (some ⟨g, 0, none⟩), .int .i64 n] w fun e w' => ∃ (b : Option Addr) (d : Nat) (L : List Int), e = .returned (.slice b L.length d) ∧ L.length = n.toNat ∧ (∀ x ∈ L, 0 ≤ x ∧ x ≤ 255) ∧ Own w.heap.size w' b d L ∧ Dr W g a c l w' ∧ w.grownBy w' (some g) := by
  have hsW := h.2.size
  have hL := Lib.hid h.low
  have h0 : Dr w g a c l (w.alloc (.cells #[] 3)) := (Dr.start h.1).alloc _
  have H0 := Lib.hid h0
  have HH := Lib.hid h
  clear h h0
  go_enter Try.func65, Try.ntmps65
  go_wp2_with fail
  refine (l1Below_p w g a c l 256 _ (by omega) H0.out).mono ?_
  rintro e w1 ⟨v, rfl, hv0, hv1, hdr, hd⟩
  have HO : Hid (Own w.heap.size w1 (some ⟨w.heap.size, 0, none⟩) 0 []) := Lib.hid ((Own.lit w #[] [] rfl (Nat.le_refl _) (by simp [maxLen])).cur hd hL.out.1)
  have HD := Lib.hid hdr
  clear H0 hdr hd
  go_wp2_with fail
  go_loopw [5, 6] (fun o s wr => ∃ (L : List Int) (ad : Option Addr) (cc : Nat) (x : Int), L.length ≤ n.toNat ∧ s = .int .i64 x ∧ (0 ≤ x ∧ x ≤ 255) ∧ o = .slice ad L.length cc ∧ (∀ y ∈ L, 0 ≤ y ∧ y ≤ 255) ∧ Own w.heap.size wr ad cc L ∧ Dr w g a c l wr) (fun o _ _ => n.toNat - (lenOf o))
  case atStart => exact ⟨[], _, _, v, by simp, rfl, by omega, rfl, by simp, HO.out, HD.out⟩
  case round =>
    clear HO HD
    obtain ⟨L, ad, cc, x, hLn, rfl, ⟨hx0, hx1⟩, rfl, hLb, ho, hdr⟩ := hrel
    have HLB := Lib.hid hLb
    have hmin := min_if
    clear hLb
    by_cases hlt : (L.length : Int) < n
    · go_wp2_with fail
      refine (l1Once_d w g a c l 2 wr (by omega) hdr).mono ?_
      rintro e w1 ⟨bb, rfl, hdr1, hd1⟩
      cases bb
      · have HO1 := Lib.hid (ho.cur hd1 hL.out.1)
        have HD1 := Lib.hid hdr1
        clear ho hdr hdr1 hd1
        go_wp2_with (at_builtin; refine append_one Try.underlying24 Try.infoInt rfl (.tmp 24) (.tmp 26) rfl w.heap.size ad cc L.length L rfl rfl (HO1.out.alloc _) w1.heap.size x rfl ?_ ?_ ?_ ?_; (simp); (omega); (have := HD1.out.2.size; simp; omega); intro ad1 cc1 w9 ho9 hb9)
        have HO9 := Lib.hid ho9
        have HD9 := Lib.hid ((HD1.out.alloc _).owned hb9 (Nat.le_refl w.heap.size) hL.out)
        have HL9 : Hid (∀ y ∈ L ++ [x], 0 ≤ y ∧ y ≤ 255) := Lib.hid (fun y hy => by
          rcases List.mem_append.1 hy with h | h
          · exact HLB.out y h
          · simp at h; omega)
        clear ho9 hb9
        go_wp2
        go_roundw
        case rel => exact ⟨L ++ [x], ad1, cc1, x, by simp; omega, rfl, by omega, by simp, HL9.out, HO9.out, HD9.out⟩
        case measure => simp [lenOf]; omega
      · go_wp2_with fail
        refine (l1Below_p w g a c l 256 w1 (by omega) hdr1).mono ?_
        rintro e w2 ⟨y, rfl, hy0, hy1, hdr2, hd2⟩
        go_wp2_with fail
        refine (l1PickInt_d w g a c l [_, _, _, _] _ 4 w2 (by simp) (by rfl) rfl hdr2).mono ?_
        rintro e w3 ⟨z, rfl, hz, hdr3, hd3⟩
        have hzb : 0 ≤ z ∧ z ≤ 255 := by simp at hz; omega
        obtain ⟨hz0, hz1⟩ := hzb
        have HO1 := Lib.hid (((ho.cur hd1 hL.out.1).cur hd2 hL.out.1).cur hd3 hL.out.1)
        have HD1 := Lib.hid hdr3
        clear ho hdr hdr1 hdr2 hdr3 hd1 hd2 hd3 hz
        go_wp2_with (at_builtin; refine append_one Try.underlying24 Try.infoInt rfl (.tmp 24) (.tmp 26) rfl w.heap.size ad cc L.length L rfl rfl (HO1.out.alloc _) w3.heap.size z rfl ?_ ?_ ?_ ?_; (simp); (omega); (have := HD1.out.2.size; simp; omega); intro ad1 cc1 w9 ho9 hb9)
        have HO9 := Lib.hid ho9
        have HD9 := Lib.hid ((HD1.out.alloc _).owned hb9 (Nat.le_refl w.heap.size) hL.out)
        have HL9 : Hid (∀ y ∈ L ++ [z], 0 ≤ y ∧ y ≤ 255) := Lib.hid (fun y hy => by
          rcases List.mem_append.1 hy with h | h
          · exact HLB.out y h
          · simp at h; omega)
        clear ho9 hb9
        go_wp2
        go_roundw
        case rel => exact ⟨L ++ [z], ad1, cc1, z, by simp; omega, rfl, by omega, by simp, HL9.out, HO9.out, HD9.out⟩
        case measure => simp [lenOf]; omega
    · have he : Hid (L.length = n.toNat) := Lib.hid (by omega)
      have HO9 := Lib.hid ho
      have HD9 := Lib.hid hdr
      clear ho hdr
      go_wp2
      go_ret
      exact ⟨ad, cc, L, rfl, he.out, HLB.out, HO9.out, HH.out.next HD9.out.1 HD9.out.2, HD9.out.2⟩

end Go.Proofs.Ytkfjbnhihjnhnaa
