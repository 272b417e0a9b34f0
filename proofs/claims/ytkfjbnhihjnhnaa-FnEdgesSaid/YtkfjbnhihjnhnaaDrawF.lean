/- Contracts of the draws of frames. -/
import Derived.Test.YtkfjbnhihjnhnaaDrawL
import Derived.Test.YtkfjbnhihjnhnaaFrame
import Derived.Test.YtkfjbnhihjnhnaaClip
import Derived.StillTailTactics
import Derived.Deep.RegionHeld3
namespace Go.Proofs.Ytkfjbnhihjnhnaa
open Go.RowKit
set_option linter.unusedVariables false

theorem wrap_is (n : Int) : IntKind.i64.wrap n = wrap64 n := by rw [IntKind.wrap_i64]; unfold wrap64; omega
theorem Box3.farF {w : World} {b : Nat} {v0 v1 v2 : Value} (h : Box3 w b v0 v1 v2) {p : Addr} (hp : p.block ≠ b) (x : Value) : Box3 (w.setCell p x) b v0 v1 v2 := by
  obtain ⟨hl, h0, h1, h2⟩ := h
  have ne : ∀ i, (⟨b, i, none⟩ : Addr) ≠ p := fun i e => hp (by rw [← e])
  refine ⟨by simpa using hl, ?_, ?_, ?_⟩
  · rw [World.cell?_setCell_other _ _ _ _ (by first | exact ne _ | exact (ne _).symm)]; exact h0
  · rw [World.cell?_setCell_other _ _ _ _ (by first | exact ne _ | exact (ne _).symm)]; exact h1
  · rw [World.cell?_setCell_other _ _ _ _ (by first | exact ne _ | exact (ne _).symm)]; exact h2
theorem Box3.t0 {w : World} {b : Nat} {v0 v1 v2 : Value} (h : Box3 w b v0 v1 v2) (x : Value) : Box3 (w.setCell ⟨b, 0, none⟩ x) b x v1 v2 :=
  ⟨by simpa using h.1, World.cell?_setCell_same _ _ _ h.2.1, by rw [World.cell?_setCell_other _ _ _ _ (by simp)]; exact h.2.2.1, by rw [World.cell?_setCell_other _ _ _ _ (by simp)]; exact h.2.2.2⟩
theorem Box3.t1 {w : World} {b : Nat} {v0 v1 v2 : Value} (h : Box3 w b v0 v1 v2) (x : Value) : Box3 (w.setCell ⟨b, 1, none⟩ x) b v0 x v2 :=
  ⟨by simpa using h.1, by rw [World.cell?_setCell_other _ _ _ _ (by simp)]; exact h.2.1, World.cell?_setCell_same _ _ _ h.2.2.1, by rw [World.cell?_setCell_other _ _ _ _ (by simp)]; exact h.2.2.2⟩
theorem Box3.t2 {w : World} {b : Nat} {v0 v1 v2 : Value} (h : Box3 w b v0 v1 v2) (x : Value) : Box3 (w.setCell ⟨b, 2, none⟩ x) b v0 v1 x :=
  ⟨by simpa using h.1, by rw [World.cell?_setCell_other _ _ _ _ (by simp)]; exact h.2.1, by rw [World.cell?_setCell_other _ _ _ _ (by simp)]; exact h.2.2.1, World.cell?_setCell_same _ _ _ h.2.2.2⟩
theorem three_below (w : World) (r B : Nat) (u0 u1 u2 : Value) (h : B ≤ r) : Below B w (((w.setCell ⟨r, 0, none⟩ u0).setCell ⟨r, 1, none⟩ u1).setCell ⟨r, 2, none⟩ u2) :=
  (((Below.refl B w).setCell (p := ⟨r, 0, none⟩) h _).setCell (p := ⟨r, 1, none⟩) h _).setCell (p := ⟨r, 2, none⟩) h _
theorem Frs.farF {B : Nat} {w : World} {b : Option Addr} {L : List Int} (h : Frs B w b L) {p : Addr} (hp : ∀ q, b = some q → q.block ≠ p.block) (v : Value) : Frs B (w.setCell p v) b L := by
  refine ⟨h.1.keep fun q hq _ => World.cell?_setCell_far _ _ _ _ ?_, fun q hq => ⟨(h.2 q hq).1, by simpa using (h.2 q hq).2.1, fun i => by simp [(h.2 q hq).2.2 i]⟩⟩
  intro e
  cases b with
  | none => simp at hq
  | some s => simp at hq; exact hp s rfl (by rw [← hq, e])
theorem Frs.three {B : Nat} {w : World} {b : Option Addr} {L : List Int} (h : Frs B w b L) (r : Nat) (hp : ∀ q, b = some q → q.block ≠ r) (u0 u1 u2 : Value) : Frs B (((w.setCell ⟨r, 0, none⟩ u0).setCell ⟨r, 1, none⟩ u1).setCell ⟨r, 2, none⟩ u2) b L :=
  ((h.farF (p := ⟨r, 0, none⟩) hp u0).farF (p := ⟨r, 1, none⟩) hp u1).farF (p := ⟨r, 2, none⟩) hp u2
theorem frozen_curF {w w' : World} {g b : Nat} (hd : w.grownBy w' (some g)) (hb : b < w.heap.size) (hg : g ≠ b) (h : ∀ i, w.frozen? ⟨b, i, none⟩ = false) : ∀ i, w'.frozen? ⟨b, i, none⟩ = false := fun i => by
  rw [World.frozen?_of_block (a := ⟨b, i, none⟩) (hd.block _ hb (by intro e; injection e with e; exact hg e.symm))]
  exact h i
theorem Dr.setwF {w : World} {g : Nat} {a : Option Addr} {c : Nat} {l : List Int} {wz : World} (h : Dr w g a c l wz) {p : Addr} (hp : w.heap.size ≤ p.block) (hL : Low a l g w.heap.size) (v : Value) : Dr w g a c l (wz.setCell p v) := h.owned ((Below.refl w.heap.size wz).setCell hp v) (Nat.le_refl _) hL
/-- two boxes, a row, the cursor: between the draws -/
def Frd (w : World) (g : Nat) (a : Option Addr) (c : Nat) (l : List Int) (k : Nat) (v0 v1 v2 : Value) (x : Option Addr) (L : List Int) (wz : World) : Prop :=
  Box3 wz w.heap.size (.int .i64 0) (.int .i64 0) (.slice none 0 0) ∧ (∀ i, wz.frozen? ⟨w.heap.size, i, none⟩ = false) ∧ Box3 wz k v0 v1 v2 ∧ (∀ i, wz.frozen? ⟨k, i, none⟩ = false) ∧
  Frs (w.heap.size + 1) wz x L ∧ Dr w g a c l wz ∧ g < w.heap.size ∧ w.heap.size < k ∧ (∀ q, x = some q → q.block ≠ k)
section
variable {w : World} {g : Nat} {a : Option Addr} {c : Nat} {l : List Int} {k : Nat} {v0 v1 v2 : Value} {x : Option Addr} {L : List Int} {wz : World}
theorem Frd.dr (h : Frd w g a c l k v0 v1 v2 x L wz) : Dr w g a c l wz := h.2.2.2.2.2.1
theorem Frd.frs (h : Frd w g a c l k v0 v1 v2 x L wz) : Frs (w.heap.size + 1) wz x L := h.2.2.2.2.1
theorem Frd.box (h : Frd w g a c l k v0 v1 v2 x L wz) : Box3 wz k v0 v1 v2 := h.2.2.1
theorem Frd.res (h : Frd w g a c l k v0 v1 v2 x L wz) : Box3 wz w.heap.size (.int .i64 0) (.int .i64 0) (.slice none 0 0) := h.1
theorem Frd.lt (h : Frd w g a c l k v0 v1 v2 x L wz) : w.heap.size < k := h.2.2.2.2.2.2.2.1
theorem Frd.glt (h : Frd w g a c l k v0 v1 v2 x L wz) : g < w.heap.size := h.2.2.2.2.2.2.1
theorem Frd.ne (h : Frd w g a c l k v0 v1 v2 x L wz) : ∀ q, x = some q → q.block ≠ k := h.2.2.2.2.2.2.2.2
theorem Frd.cur {w' : World} (h : Frd w g a c l k v0 v1 v2 x L wz) (hdr : Dr w g a c l w') (hd : wz.grownBy w' (some g)) : Frd w g a c l k v0 v1 v2 x L w' := by
  obtain ⟨h1, h2, h3, h4, h5, h7, h8, h9, h10⟩ := h
  exact ⟨h1.grown (a := some ⟨g, 0, none⟩) hd (fun p hp => by cases hp; exact Nat.ne_of_lt h8), frozen_curF hd h1.1 (Nat.ne_of_lt h8) h2, h3.grown (a := some ⟨g, 0, none⟩) hd (fun p hp => by cases hp; exact Nat.ne_of_lt (Nat.lt_trans h8 h9)), frozen_curF hd h3.1 (Nat.ne_of_lt (Nat.lt_trans h8 h9)) h4, h5.cur hd (by omega), hdr, h8, h9, h10⟩
theorem Frd.drew (h : Frd w g a c l k v0 v1 v2 x L wz) : Frd w g a c l k v0 v1 v2 x L wz.drew := by
  obtain ⟨h1, h2, h3, h4, h5, h7, h8, h9, h10⟩ := h
  exact ⟨h1, h2, h3, h4, h5, h7.drew, h8, h9, h10⟩
theorem Frd.alloc (h : Frd w g a c l k v0 v1 v2 x L wz) (o : Obj) : Frd w g a c l k v0 v1 v2 x L (wz.alloc o) := by
  obtain ⟨h1, h2, h3, h4, h5, h7, h8, h9, h10⟩ := h
  have al : Below wz.heap.size wz (wz.alloc o) := (Below.refl _ _).alloc (Nat.le_refl _) _
  exact ⟨h1.below al (Nat.le_refl _), fun i => (al.frozen (p := ⟨w.heap.size, i, none⟩) h1.1).trans (h2 i), h3.below al (Nat.le_refl _), fun i => (al.frozen (p := ⟨k, i, none⟩) h3.1).trans (h4 i), h5.below al h5.lt, h7.alloc o, h8, h9, h10⟩
theorem Frd.s0 (h : Frd w g a c l k v0 v1 v2 x L wz) (hL : Low a l g w.heap.size) (u : Value) : Frd w g a c l k u v1 v2 x L (wz.setCell ⟨k, 0, none⟩ u) := by
  obtain ⟨h1, h2, h3, h4, h5, h7, h8, h9, h10⟩ := h
  exact ⟨h1.farF (p := ⟨k, 0, none⟩) (Nat.ne_of_gt h9) u, fun i => by simp [h2 i], h3.t0 u, fun i => by simp [h4 i], h5.farF (p := ⟨k, 0, none⟩) h10 u, h7.setwF (p := ⟨k, 0, none⟩) (Nat.le_of_lt h9) hL u, h8, h9, h10⟩
theorem Frd.s2 {x' : Option Addr} {L' : List Int} (h : Frd w g a c l k v0 v1 v2 x L wz) (hL : Low a l g w.heap.size) (u : Value) (hf : Frs (w.heap.size + 1) wz x' L') (hy : ∀ q, x' = some q → q.block ≠ k) : Frd w g a c l k v0 v1 u x' L' (wz.setCell ⟨k, 2, none⟩ u) := by
  obtain ⟨h1, h2, h3, h4, h5, h7, h8, h9, h10⟩ := h
  exact ⟨h1.farF (p := ⟨k, 2, none⟩) (Nat.ne_of_gt h9) u, fun i => by simp [h2 i], h3.t2 u, fun i => by simp [h4 i], hf.farF (p := ⟨k, 2, none⟩) hy u, h7.setwF (p := ⟨k, 2, none⟩) (Nat.le_of_lt h9) hL u, h8, h9, hy⟩
theorem Frd.sx {gx : Nat} (h : Frd w g a c l k v0 v1 v2 (some ⟨gx, 0, none⟩) L wz) (hL : Low a l g w.heap.size) (j : Nat) (u : Int) : Frd w g a c l k v0 v1 v2 (some ⟨gx, 0, none⟩) (L.set j u) (wz.setCell ⟨gx, j, none⟩ (.int .i64 u)) := by
  obtain ⟨h1, h2, h3, h4, h5, h7, h8, h9, h10⟩ := h
  have hx := (h5.2 _ rfl).1
  have hst := h5.stored j u
  rw [Nat.zero_add] at hst
  exact ⟨h1.farF (p := ⟨gx, j, none⟩) (Nat.ne_of_gt hx) _, fun i => by simp [h2 i], h3.farF (p := ⟨gx, j, none⟩) (h10 ⟨gx, 0, none⟩ rfl) _, fun i => by simp [h4 i], hst, h7.setwF (p := ⟨gx, j, none⟩) (Nat.le_of_lt hx) hL _, h8, h9, h10⟩
/-- the frame handed back -/
theorem Frd.done {W : World} (h : Frd w g a c l k v0 v1 v2 x L wz) (HH : Dr W g a c l w) (hL : Low a l g w.heap.size) (u0 u1 u2 : Value) :
    Frs w.heap.size (((wz.setCell ⟨w.heap.size, 0, none⟩ u0).setCell ⟨w.heap.size, 1, none⟩ u1).setCell ⟨w.heap.size, 2, none⟩ u2) x L ∧ Dr W g a c l (((wz.setCell ⟨w.heap.size, 0, none⟩ u0).setCell ⟨w.heap.size, 1, none⟩ u1).setCell ⟨w.heap.size, 2, none⟩ u2) ∧ w.grownBy (((wz.setCell ⟨w.heap.size, 0, none⟩ u0).setCell ⟨w.heap.size, 1, none⟩ u1).setCell ⟨w.heap.size, 2, none⟩ u2) (some g) := by
  have hfin := h.dr.owned (three_below wz w.heap.size w.heap.size u0 u1 u2 (Nat.le_refl _)) (Nat.le_refl _) hL
  exact ⟨(h.frs.mono (Nat.le_succ _)).three _ (fun r hr => by have := (h.frs.2 r hr).1; omega) _ _ _, HH.next hfin.1 hfin.2, hfin.2⟩
end
theorem l1PickInt_rF (W : World) (g : Nat) (a : Option Addr) (c : Nat) (l : List Int) (m : List Int) (b n : Nat) (w : World) (hm0 : 0 < m.length ∧ m.length ≤ 1024) (hr : Row w (some ⟨b, 0, none⟩) m) (hb : b ≠ g) (hn : n = m.length) (h : Dr W g a c l w) :
    Calls Try.prog 51 #[.pointer (some ⟨g, 0, none⟩), .slice (some ⟨b, 0, none⟩) n n] w fun e w' => ∃ x : Int, e = .returned (.int .i64 x) ∧ x ∈ m ∧ Dr W g a c l w' ∧ w.grownBy w' (some g) := by
  subst hn
  exact (l1PickInt_c g a c l (some ⟨b, 0, none⟩) m.length m w (by omega) hm0.1 hr (fun p hp => by cases hp; exact hb) h.1).mono fun e w' ⟨x, he, hx, hc, hd⟩ => ⟨x, he, hx, h.next hc hd, hd⟩

attribute [local irreducible] Calls World.alloc in
set_option maxHeartbeats 4000000 in
theorem l18Frame_d (W : World) (g : Nat) (a : Option Addr) (c : Nat) (l : List Int) (w : World) (h : Dr W g a c l w) :
    Calls Try.prog 68 #[.pointer (some ⟨g, 0, none⟩)] w fun e w' => ∃ (X Y b d : Nat) (L : List Int), e = .returned (frv X Y (some ⟨b, 0, none⟩) L.length d) ∧ (8 ≤ X ∧ X ≤ 24 ∧ X % 8 = 0) ∧ (8 ≤ Y ∧ Y ≤ 16 ∧ Y % 8 = 0) ∧ L.length = X * Y ∧ L.length ≤ d ∧ (∀ z ∈ L, 0 ≤ z ∧ z ≤ 255) ∧ Frs w.heap.size w' (some ⟨b, 0, none⟩) L ∧ Dr W g a c l w' ∧ w.grownBy w' (some g) := by
  have hL := Lib.hid h.low
  have HH := Lib.hid h
  have HZ := Lib.hid (Box3.new w 26 (.int .i64 0) (.int .i64 0) (.slice none 0 0))
  have HZF : Hid (∀ i, (w.alloc (.cells #[.int .i64 0, .int .i64 0, .slice none 0 0] 26)).frozen? ⟨w.heap.size, i, none⟩ = false) := Lib.hid (fun i => by simp [go_sem])
  have H0 := Lib.hid ((Dr.start h.1).alloc (.cells #[.int .i64 0, .int .i64 0, .slice none 0 0] 26))
  have hgw := h.1.1
  clear h
  go_enter Try.func68, Try.ntmps68
  go_wp2_with fail
  refine (l1Below_p w g a c l 3 _ (by omega) H0.out).mono ?_
  rintro e w1 ⟨u, rfl, hu0, hu1, hdr1, hd1⟩
  go_wp2_with fail
  refine (l1Below_p w g a c l 2 w1 (by omega) hdr1).mono ?_
  rintro e w2 ⟨v, rfl, hv0, hv1, hdr2, hd2⟩
  go_wp2_with fail
  obtain ⟨X, hX⟩ : ∃ X : Nat, 8 * (1 + u) = (X : Int) := ⟨(8 * (1 + u)).toNat, by omega⟩
  obtain ⟨Y, hY⟩ : ∃ Y : Nat, 8 * (1 + v) = (Y : Int) := ⟨(8 * (1 + v)).toNat, by omega⟩
  have hXb : 8 ≤ X ∧ X ≤ 24 ∧ X % 8 = 0 := by omega
  have hYb : 8 ≤ Y ∧ Y ≤ 16 ∧ Y % 8 = 0 := by omega
  obtain ⟨n, hn⟩ : ∃ n, n = X * Y := ⟨_, rfl⟩
  have hn1 : n ≤ 24 * 16 := by rw [hn]; exact Nat.mul_le_mul hXb.2.1 hYb.2.1
  have hn0 : 8 * 8 ≤ n := by rw [hn]; exact Nat.mul_le_mul hXb.1 hYb.1
  have hsb : sidesB X Y = true := by
    have h1 : inR 8 32 (X : Int) = true := inR_mk (by omega)
    have h2 : inR 8 32 (Y : Int) = true := inR_mk (by omega)
    simp [sidesB, h1, h2]
    omega
  have HNEW : Hid (Calls Try.prog 22 #[.int .i64 X, .int .i64 Y] w2 fun e w' => ∃ a c, e = .returned (frv X Y a n c) ∧ Own w2.heap.size w' a c (zeros n) ∧ Below w2.heap.size w2 w') := Lib.hid (by
    have h := spec.FrameNew_c X Y w2
    rw [show newS (X : Int) Y X = X from by simp [newS, hsb], show newS (X : Int) Y Y = Y from by simp [newS, hsb], show newL (X : Int) Y = zeros n from by rw [newL, if_pos hsb, hn]; congr 1] at h
    rw [zeros_len] at h
    exact h)
  rw [hX, hY]
  have HXB := Lib.hid hXb
  have HYB := Lib.hid hYb
  have HNN := Lib.hid hn
  have hX0 : 8 ≤ X := hXb.1
  have hX9 : X ≤ 24 := hXb.2.1
  have hY0 : 8 ≤ Y := hYb.1
  have hY9 : Y ≤ 16 := hYb.2.1
  have hXY : IntKind.i64.wrap ((X : Int) * (Y : Int)) = (n : Int) := by rw [hn, IntWalk.i64_in _ (by rw [← Int.natCast_mul, ← hn]; omega)]; exact (Int.natCast_mul X Y).symm
  clear hX hY hn hsb hXb hYb
  refine HNEW.out.mono ?_
  rintro e w3 ⟨b, d, rfl, ho, hb3⟩
  obtain ⟨gb, rfl, _, _, _⟩ := ho.at_ (i := 0) (by rw [zeros_len]; omega)
  have HCP : Hid (n ≤ d) := Lib.hid (by have := ho.cap; rw [zeros_len] at this; exact this)
  have hs : (w.alloc (.cells #[.int .i64 0, .int .i64 0, .slice none 0 0] 26)).heap.size = w.heap.size + 1 := by simp
  have hs1 : w.heap.size + 1 ≤ w1.heap.size := by have := hd1.size; omega
  have hs2 : w.heap.size + 1 ≤ w2.heap.size := by have := hd2.size; omega
  have hs3 : w.heap.size + 1 ≤ w3.heap.size := by have := hb3.size; omega
  have hdA := D.trans hd1 hd2
  have hr2 := HZ.out.grown (a := some ⟨g, 0, none⟩) hdA (fun p hp => by cases hp; exact Nat.ne_of_lt hgw)
  have hf2 := frozen_curF hdA (by simp) (Nat.ne_of_lt hgw) HZF.out
  have hdr3 := hdr2.owned hb3 (by omega) (hL.out.mono (by omega))
  have hN : Frd w g a c l w3.heap.size (.int .i64 X) (.int .i64 Y) (.slice (some ⟨gb, 0, none⟩) n d) (some ⟨gb, 0, none⟩) (zeros n) (w3.alloc (.cells #[.int .i64 X, .int .i64 Y, .slice (some ⟨gb, 0, none⟩) n d] 26)) := by
    have al : Below w3.heap.size w3 (w3.alloc (.cells #[.int .i64 X, .int .i64 Y, .slice (some ⟨gb, 0, none⟩) n d] 26)) := (Below.refl _ _).alloc (Nat.le_refl _) _
    exact ⟨(hr2.below hb3 (Nat.le_refl _)).below al (Nat.le_refl _), fun i => (al.frozen (p := ⟨w.heap.size, i, none⟩) hs3).trans ((hb3.frozen (p := ⟨w.heap.size, i, none⟩) hs2).trans (hf2 i)), Box3.new _ _ _ _ _, fun i => by simp [go_sem], ((ho.mono hs2).alloc _).frs, hdr3.alloc _, hgw, hs3, fun q hq => Nat.ne_of_lt (ho.lt q hq).2⟩
  have HN := Lib.hid hN
  obtain ⟨k, hk⟩ : ∃ k, k = w3.heap.size := ⟨_, rfl⟩
  clear hN ho hb3 hs hs1 hs2 hs3 hdA hr2 hf2 hdr3 hdr1 hdr2 hd1 hd2 HZ HZF H0 HNEW
  go_wp2_with fail
  rw [← hk] at HN ⊢
  clear hk
  obtain ⟨wB, hwB⟩ : ∃ wB, wB = w3.alloc (.cells #[.int .i64 X, .int .i64 Y, .slice (some ⟨gb, 0, none⟩) n d] 26) := ⟨_, rfl⟩
  rw [← hwB] at HN ⊢
  clear hwB
  refine (l1Below_p w g a c l 256 wB (by omega) HN.out.dr).mono ?_
  rintro e w4 ⟨bs, rfl, hb0, hb1, hdr4, hd4⟩
  go_wp2_with fail
  refine (l1Below_p w g a c l 9 w4 (by omega) hdr4).mono ?_
  rintro e w5 ⟨p, rfl, hp0, hp1, hdr5, hd5⟩
  go_wp2_with fail
  refine (l1Below_p w g a c l 9 w5 (by omega) hdr5).mono ?_
  rintro e w6 ⟨q, rfl, hq0, hq1, hdr6, hd6⟩
  go_wp2_with fail
  refine (l1PickInt_d w g a c l [_, _, _, _, _] _ 5 w6 (by simp) (by rfl) rfl hdr6).mono ?_
  rintro e w7 ⟨nz, rfl, hnz, hdr7, hd7⟩
  have hnzb : 0 < nz ∧ nz ≤ 256 := by simp at hnz; omega
  obtain ⟨hz0, hz1⟩ := hnzb
  have hN7 := (((HN.out.cur hdr4 hd4).cur hdr5 hd5).cur hdr6 hd6).cur hdr7 hd7
  have HN := Lib.hid hN7
  clear hN7 hdr4 hd4 hdr5 hd5 hdr6 hd6 hdr7 hd7 hnz
  obtain ⟨dx, hdx⟩ : ∃ dx, p - 4 = dx := ⟨_, rfl⟩
  obtain ⟨dy, hdy⟩ : ∃ dy, q - 4 = dy := ⟨_, rfl⟩
  go_wp2_with fail
  go_loopw [10] (fun i wr => ∃ (j : Nat) (L : List Int), j ≤ n ∧ i = .int .i64 j ∧ L.length = n ∧ (∀ z ∈ L, 0 ≤ z ∧ z ≤ 255) ∧ Frd w g a c l k (.int .i64 X) (.int .i64 Y) (.slice (some ⟨gb, 0, none⟩) n d) (some ⟨gb, 0, none⟩) L wr) (fun i _ => n - (intOf i).toNat)
  case atStart => exact ⟨0, zeros n, by omega, rfl, zeros_len n, fun z hz => by simp [zeros] at hz; omega, HN.out⟩
  case round =>
    clear HN
    obtain ⟨j, L, hj, rfl, hLl, hLb, hN⟩ := hrel
    have HN := Lib.hid hN
    have HLL := Lib.hid hLl
    have HLB := Lib.hid hLb
    clear hLl hLb
    by_cases hlt : j < n
    · have hltd : decide ((j : Int) < (n : Int)) = true := by simp; omega
      have s0 := hN.box.2.2.2
      obtain ⟨m, hm⟩ : ∃ m, m = j % X := ⟨_, rfl⟩
      obtain ⟨t, ht⟩ : ∃ t, t = j / X := ⟨_, rfl⟩
      have htj : t ≤ j := by rw [ht]; exact Nat.div_le_self _ _
      have q1 : (j : Int).tmod (X : Int) = (m : Int) := by rw [Int.tmod_eq_emod_of_nonneg (by omega), hm]; rfl
      have q3 : (j : Int) % (X : Int) = (m : Int) := by rw [hm]; rfl
      have q2 : IntKind.i64.wrap ((j : Int).tdiv (X : Int)) = (t : Int) := by
        have e : (j : Int).tdiv (X : Int) = (t : Int) := by rw [Int.tdiv_eq_ediv_of_nonneg (by omega), ht]; rfl
        rw [e]; exact IntWalk.i64_in _ (by omega)
      obtain ⟨t48, h48⟩ : ∃ z, IntKind.i64.wrap (dx * (m : Int)) = z := ⟨_, rfl⟩
      obtain ⟨t49, h49⟩ : ∃ z, IntKind.i64.wrap (bs + t48) = z := ⟨_, rfl⟩
      obtain ⟨t54, h54⟩ : ∃ z, IntKind.i64.wrap (dy * (t : Int)) = z := ⟨_, rfl⟩
      obtain ⟨t55, h55⟩ : ∃ z, IntKind.i64.wrap (t49 + t54) = z := ⟨_, rfl⟩
      have q4 : (j : Int) / (X : Int) = (t : Int) := by
        rw [← Int.tdiv_eq_ediv_of_nonneg (by omega)]
        have h := q2
        rw [IntWalk.i64_in _ (by rw [Int.tdiv_eq_ediv_of_nonneg (by omega)]; have h1 := Int.ediv_nonneg (a := (j : Int)) (b := (X : Int)) (by omega) (by omega); have h2 := Int.ediv_le_self (a := (j : Int)) (X : Int) (by omega); omega)] at h
        exact h
      have p2 : wrap64 (t : Int) = (t : Int) := by rw [← wrap_is]; exact IntWalk.i64_in _ (by omega)
      have p48 : wrap64 (dx * (m : Int)) = t48 := by rw [← wrap_is]; exact h48
      have p49 : wrap64 (bs + t48) = t49 := by rw [← wrap_is]; exact h49
      have p54 : wrap64 (dy * (t : Int)) = t54 := by rw [← wrap_is]; exact h54
      have p55 : wrap64 (t49 + t54) = t55 := by rw [← wrap_is]; exact h55
      have hxz : ((X : Int) == 0) = false := by simp; omega
      have hxz2 : ¬ ((X : Int) = 0) := by omega
      have hxz3 : ¬ (X = 0) := by omega
      have hjn : (j : Int) < (n : Int) := by omega
      clear hN hm ht
      go_wp2_with fail
      go_region_held3 (fun w' => w'.cell? ⟨k, 2, none⟩ = some (.slice (some ⟨gb, 0, none⟩) n d)) (first | go_keep | exact (World.cell?_setCell_far _ _ _ _ hgk).trans s7)
        ((first
          | (go_at_call 49; refine (l1Below_p w g a c l nz _ (by omega) HN.out.dr.drew).mono ?_; rintro e w7 ⟨u7, rfl, hi0, hi1, hdr7, hd7⟩; have hN7 : Frd w g a c l k (.int .i64 X) (.int .i64 Y) (.slice (some ⟨gb, 0, none⟩) n d) (some ⟨gb, 0, none⟩) L w7 := HN.out.drew.cur hdr7 hd7; have s7 := hN7.box.2.2.2; have hgk : gb ≠ k := hN7.ne ⟨gb, 0, none⟩ rfl; have c8 : ∃ v, w7.cell? ⟨gb, j, none⟩ = some v := (by obtain ⟨_, _, e9, h9⟩ := hN7.frs.1.at_ (i := j) (by have := HLL.out; omega); cases e9; rw [Nat.zero_add] at h9; exact ⟨_, h9⟩); obtain ⟨old, c8⟩ := c8; have f8 := (hN7.frs.2 _ rfl).2.2 j; obtain ⟨t59, h59⟩ : ∃ z, IntKind.i64.wrap (t55 + u7) = z := ⟨_, rfl⟩; have p59 : wrap64 (t55 + u7) = t59 := (by rw [← wrap_is]; exact h59))
          | (go_at_call 57; refine (spec.l15Clip_c _ _).mono ?_; rintro e w' ⟨rfl, rfl⟩)))
      all_goals
        have HNN : Hid (∀ z, Frd w g a c l k (.int .i64 X) (.int .i64 Y) (.slice (some ⟨gb, 0, none⟩) n d) (some ⟨gb, 0, none⟩) (L.set j (clipF 0 255 z)) (w7.setCell ⟨gb, j, none⟩ (.int .i64 (clipF 0 255 z)))) := Lib.hid (fun z => hN7.sx hL.out j (clipF 0 255 z))
        clear hN7 hdr7 hd7 s7
        go_wp2
        go_roundw
        case rel =>
          refine ⟨j + 1, _, by omega, by go_num, ?_, ?_, HNN.out _⟩
          · rw [List.length_set]; exact HLL.out
          · intro z hz
            rcases mem_set hz with h | h
            · exact HLB.out z h
            · rw [h]; exact clipF_bd 0 255 _ (by omega)
        case measure => simp [intOf]; omega
    · obtain rfl : j = n := by omega
      obtain ⟨_, z0, z1, z2⟩ := hN.box
      obtain ⟨_, r0, r1, r2⟩ := hN.res
      have f0 := hN.2.1 0
      have f1 := hN.2.1 1
      have f2 := hN.2.1 2
      clear hN
      go_wp2
      have hT := three_set (.int .i64 X) (.int .i64 Y) (.slice (some ⟨gb, 0, none⟩) j d) r0 r1 r2
      refine bodyPost_ret (v := frv X Y (some ⟨gb, 0, none⟩) j d) (by simp [results, Try.results68, go_sem, hT]) rfl ?_
      obtain ⟨y1, y2, y3⟩ := HN.out.done HH.out hL.out (.int .i64 X) (.int .i64 Y) (.slice (some ⟨gb, 0, none⟩) j d)
      exact ⟨X, Y, gb, d, L, by rw [HLL.out], HXB.out, HYB.out, by rw [HLL.out]; exact HNN.out, by rw [HLL.out]; exact HCP.out, HLB.out, y1, y2, y3⟩

end Go.Proofs.Ytkfjbnhihjnhnaa
