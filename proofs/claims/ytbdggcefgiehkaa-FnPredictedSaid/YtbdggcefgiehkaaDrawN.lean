/- Contracts of the draws of neighbourhoods. -/
import Derived.Test.YtbdggcefgiehkaaDrawL
import Derived.Test.YtbdggcefgiehkaaNb
import Derived.StillTailTactics
import Derived.Deep.RegionHeld3
namespace Go.Proofs.Ytbdggcefgiehkaa
open Go.RowKit
set_option linter.unusedVariables false

theorem five_below (w : World) (r B : Nat) (u0 u1 u2 u3 u4 : Value) (h : B ≤ r) : Below B w (((((w.setCell ⟨r, 0, none⟩ u0).setCell ⟨r, 1, none⟩ u1).setCell ⟨r, 2, none⟩ u2).setCell ⟨r, 3, none⟩ u3).setCell ⟨r, 4, none⟩ u4) :=
  (((((Below.refl B w).setCell (p := ⟨r, 0, none⟩) h _).setCell (p := ⟨r, 1, none⟩) h _).setCell (p := ⟨r, 2, none⟩) h _).setCell (p := ⟨r, 3, none⟩) h _).setCell (p := ⟨r, 4, none⟩) h _
theorem Frs.far {B : Nat} {w : World} {b : Option Addr} {L : List Int} (h : Frs B w b L) {p : Addr} (hp : ∀ q, b = some q → q.block ≠ p.block) (v : Value) : Frs B (w.setCell p v) b L := by
  refine ⟨h.1.keep fun q hq _ => World.cell?_setCell_far _ _ _ _ ?_, fun q hq => ⟨(h.2 q hq).1, by simpa using (h.2 q hq).2.1, fun i => by simp [(h.2 q hq).2.2 i]⟩⟩
  intro e
  cases b with
  | none => simp at hq
  | some s => simp at hq; exact hp s rfl (by rw [← hq, e])
theorem Frs.five {B : Nat} {w : World} {b : Option Addr} {L : List Int} (h : Frs B w b L) (r : Nat) (hp : ∀ q, b = some q → q.block ≠ r) (u0 u1 u2 u3 u4 : Value) : Frs B (((((w.setCell ⟨r, 0, none⟩ u0).setCell ⟨r, 1, none⟩ u1).setCell ⟨r, 2, none⟩ u2).setCell ⟨r, 3, none⟩ u3).setCell ⟨r, 4, none⟩ u4) b L :=
  ((((h.far (p := ⟨r, 0, none⟩) hp u0).far (p := ⟨r, 1, none⟩) hp u1).far (p := ⟨r, 2, none⟩) hp u2).far (p := ⟨r, 3, none⟩) hp u3).far (p := ⟨r, 4, none⟩) hp u4
/-- two boxes, two rows, the cursor: between the draws -/
def Nbs (w : World) (g : Nat) (a : Option Addr) (c : Nat) (l : List Int) (k : Nat) (v0 v1 v2 v3 v4 : Value) (x : Option Addr) (L : List Int) (y : Option Addr) (M : List Int) (wz : World) : Prop :=
  Box5 wz w.heap.size (.slice none 0 0) (.slice none 0 0) (.int .i64 0) (.bool false) (.bool false) ∧ (∀ i, wz.frozen? ⟨w.heap.size, i, none⟩ = false) ∧ Box5 wz k v0 v1 v2 v3 v4 ∧ (∀ i, wz.frozen? ⟨k, i, none⟩ = false) ∧
  Frs (w.heap.size + 1) wz x L ∧ Frs (w.heap.size + 1) wz y M ∧ Dr w g a c l wz ∧ g < w.heap.size ∧ w.heap.size < k ∧ (∀ q, x = some q → q.block ≠ k) ∧ (∀ q, y = some q → q.block ≠ k)
theorem frozen_cur {w w' : World} {g b : Nat} (hd : w.grownBy w' (some g)) (hb : b < w.heap.size) (hg : g ≠ b) (h : ∀ i, w.frozen? ⟨b, i, none⟩ = false) : ∀ i, w'.frozen? ⟨b, i, none⟩ = false := fun i => by
  rw [World.frozen?_of_block (a := ⟨b, i, none⟩) (hd.block _ hb (by intro e; injection e with e; exact hg e.symm))]
  exact h i
theorem Nbs.cur {w : World} {g : Nat} {a : Option Addr} {c : Nat} {l : List Int} {k : Nat} {v0 v1 v2 v3 v4 : Value} {x : Option Addr} {L : List Int} {y : Option Addr} {M : List Int} {wz w' : World} (h : Nbs w g a c l k v0 v1 v2 v3 v4 x L y M wz) (hdr : Dr w g a c l w') (hd : wz.grownBy w' (some g)) : Nbs w g a c l k v0 v1 v2 v3 v4 x L y M w' := by
  obtain ⟨h1, h2, h3, h4, h5, h6, h7, h8, h9, h10, h11⟩ := h
  exact ⟨h1.grown (a := some ⟨g, 0, none⟩) hd (fun p hp => by cases hp; exact Nat.ne_of_lt h8), frozen_cur hd h1.1 (Nat.ne_of_lt h8) h2, h3.grown (a := some ⟨g, 0, none⟩) hd (fun p hp => by cases hp; exact Nat.ne_of_lt (Nat.lt_trans h8 h9)), frozen_cur hd h3.1 (Nat.ne_of_lt (Nat.lt_trans h8 h9)) h4, h5.cur hd (by omega), h6.cur hd (by omega), hdr, h8, h9, h10, h11⟩

theorem Dr.setw {w : World} {g : Nat} {a : Option Addr} {c : Nat} {l : List Int} {wz : World} (h : Dr w g a c l wz) {p : Addr} (hp : w.heap.size ≤ p.block) (hL : Low a l g w.heap.size) (v : Value) : Dr w g a c l (wz.setCell p v) := h.owned ((Below.refl w.heap.size wz).setCell hp v) (Nat.le_refl _) hL
theorem Nbs.s2 {w : World} {g : Nat} {a : Option Addr} {c : Nat} {l : List Int} {k : Nat} {v0 v1 v2 v3 v4 : Value} {x : Option Addr} {L : List Int} {y : Option Addr} {M : List Int} {wz : World} (h : Nbs w g a c l k v0 v1 v2 v3 v4 x L y M wz) (hL : Low a l g w.heap.size) (u : Value) : Nbs w g a c l k v0 v1 u v3 v4 x L y M (wz.setCell ⟨k, 2, none⟩ u) := by
  obtain ⟨h1, h2, h3, h4, h5, h6, h7, h8, h9, h10, h11⟩ := h
  exact ⟨h1.far (p := ⟨k, 2, none⟩) (Nat.ne_of_gt h9) u, fun i => by simp [h2 i], h3.s2 u, fun i => by simp [h4 i], h5.far (p := ⟨k, 2, none⟩) h10 u, h6.far (p := ⟨k, 2, none⟩) h11 u, h7.setw (p := ⟨k, 2, none⟩) (Nat.le_of_lt h9) hL u, h8, h9, h10, h11⟩
theorem Nbs.s1 {w : World} {g : Nat} {a : Option Addr} {c : Nat} {l : List Int} {k : Nat} {v0 v1 v2 v3 v4 : Value} {x : Option Addr} {L : List Int} {y y' : Option Addr} {M M' : List Int} {wz : World} (h : Nbs w g a c l k v0 v1 v2 v3 v4 x L y M wz) (hL : Low a l g w.heap.size) (u : Value) (hf : Frs (w.heap.size + 1) wz y' M') (hy : ∀ q, y' = some q → q.block ≠ k) : Nbs w g a c l k v0 u v2 v3 v4 x L y' M' (wz.setCell ⟨k, 1, none⟩ u) := by
  obtain ⟨h1, h2, h3, h4, h5, h6, h7, h8, h9, h10, h11⟩ := h
  exact ⟨h1.far (p := ⟨k, 1, none⟩) (Nat.ne_of_gt h9) u, fun i => by simp [h2 i], h3.s1 u, fun i => by simp [h4 i], h5.far (p := ⟨k, 1, none⟩) h10 u, hf.far (p := ⟨k, 1, none⟩) hy u, h7.setw (p := ⟨k, 1, none⟩) (Nat.le_of_lt h9) hL u, h8, h9, h10, hy⟩
/-- a value of the first row written -/
theorem Nbs.sx {w : World} {g : Nat} {a : Option Addr} {c : Nat} {l : List Int} {k : Nat} {v0 v1 v2 v3 v4 : Value} {gx : Nat} {L : List Int} {y : Option Addr} {M : List Int} {wz : World} (h : Nbs w g a c l k v0 v1 v2 v3 v4 (some ⟨gx, 0, none⟩) L y M wz) (hL : Low a l g w.heap.size) (hxy : ∀ q, y = some q → q.block ≠ gx) (j : Nat) (u : Int) : Nbs w g a c l k v0 v1 v2 v3 v4 (some ⟨gx, 0, none⟩) (L.set j u) y M (wz.setCell ⟨gx, j, none⟩ (.int .i64 u)) := by
  obtain ⟨h1, h2, h3, h4, h5, h6, h7, h8, h9, h10, h11⟩ := h
  have hx := (h5.2 _ rfl).1
  have hst := h5.stored j u
  rw [Nat.zero_add] at hst
  exact ⟨h1.far (p := ⟨gx, j, none⟩) (Nat.ne_of_gt hx) _, fun i => by simp [h2 i], h3.far (p := ⟨gx, j, none⟩) (h10 ⟨gx, 0, none⟩ rfl) _, fun i => by simp [h4 i], hst, h6.far (p := ⟨gx, j, none⟩) hxy _, h7.setw (p := ⟨gx, j, none⟩) (Nat.le_of_lt hx) hL _, h8, h9, h10, h11⟩
theorem Nbs.drew {w : World} {g : Nat} {a : Option Addr} {c : Nat} {l : List Int} {k : Nat} {v0 v1 v2 v3 v4 : Value} {x : Option Addr} {L : List Int} {y : Option Addr} {M : List Int} {wz : World} (h : Nbs w g a c l k v0 v1 v2 v3 v4 x L y M wz) : Nbs w g a c l k v0 v1 v2 v3 v4 x L y M wz.drew := by
  obtain ⟨h1, h2, h3, h4, h5, h6, h7, h8, h9, h10, h11⟩ := h
  exact ⟨h1, h2, h3, h4, h5, h6, h7.drew, h8, h9, h10, h11⟩
theorem Nbs.alloc {w : World} {g : Nat} {a : Option Addr} {c : Nat} {l : List Int} {k : Nat} {v0 v1 v2 v3 v4 : Value} {x : Option Addr} {L : List Int} {y : Option Addr} {M : List Int} {wz : World} (h : Nbs w g a c l k v0 v1 v2 v3 v4 x L y M wz) (o : Obj) : Nbs w g a c l k v0 v1 v2 v3 v4 x L y M (wz.alloc o) := by
  obtain ⟨h1, h2, h3, h4, h5, h6, h7, h8, h9, h10, h11⟩ := h
  have al : Below wz.heap.size wz (wz.alloc o) := (Below.refl _ _).alloc (Nat.le_refl _) _
  exact ⟨h1.below al (Nat.le_refl _), fun i => (al.frozen (p := ⟨w.heap.size, i, none⟩) h1.1).trans (h2 i), h3.below al (Nat.le_refl _), fun i => (al.frozen (p := ⟨k, i, none⟩) h3.1).trans (h4 i), h5.below al h5.lt, h6.below al h6.lt, h7.alloc o, h8, h9, h10, h11⟩
theorem l1PickInt_r (W : World) (g : Nat) (a : Option Addr) (c : Nat) (l : List Int) (m : List Int) (b n : Nat) (w : World) (hm0 : 0 < m.length ∧ m.length ≤ 1024) (hr : Row w (some ⟨b, 0, none⟩) m) (hb : b ≠ g) (hn : n = m.length) (h : Dr W g a c l w) :
    Calls Try.prog 56 #[.pointer (some ⟨g, 0, none⟩), .slice (some ⟨b, 0, none⟩) n n] w fun e w' => ∃ x : Int, e = .returned (.int .i64 x) ∧ x ∈ m ∧ Dr W g a c l w' ∧ w.grownBy w' (some g) := by
  subst hn
  exact (l1PickInt_c g a c l (some ⟨b, 0, none⟩) m.length m w (by omega) hm0.1 hr (fun p hp => by cases hp; exact hb) h.1).mono fun e w' ⟨x, he, hx, hc, hd⟩ => ⟨x, he, hx, h.next hc hd, hd⟩

attribute [local irreducible] Calls World.alloc in
set_option maxHeartbeats 4000000 in
theorem l14Nb_d (W : World) (g : Nat) (a : Option Addr) (c : Nat) (l : List Int) (n : Nat) (w : World) (hn : n = 4 ∨ n = 8) (h : Dr W g a c l w) :
    Calls Try.prog 75 #[.pointer (some ⟨g, 0, none⟩), .int .i64 n] w fun e w' => ∃ (x : Option Addr) (p : Nat) (L : List Int) (y : Option Addr) (q : Nat) (M : List Int) (C : Int) (T H : Bool), e = .returned (nbv x L.length p y M.length q C T H) ∧
      (L.length ≤ 16 ∧ L.length ≤ p ∧ M.length ≤ 8 ∧ M.length ≤ q) ∧ (∀ z ∈ L, -1 ≤ z ∧ z ≤ 256) ∧ (∀ z ∈ M, -1 ≤ z ∧ z ≤ 256) ∧ (-1 ≤ C ∧ C ≤ 256) ∧ Frs w.heap.size w' x L ∧ Frs w.heap.size w' y M ∧ Dr W g a c l w' ∧ w.grownBy w' (some g) := by
  have hL := Lib.hid h.low
  have HH := Lib.hid h
  have HZ := Lib.hid (Box5.new w 27 (.slice none 0 0) (.slice none 0 0) (.int .i64 0) (.bool false) (.bool false))
  have HZF : Hid (∀ i, (w.alloc (.cells #[.slice none 0 0, .slice none 0 0, .int .i64 0, .bool false, .bool false] 27)).frozen? ⟨w.heap.size, i, none⟩ = false) := Lib.hid (fun i => by simp [go_sem])
  have H0 := Lib.hid ((Dr.start h.1).alloc (.cells #[.slice none 0 0, .slice none 0 0, .int .i64 0, .bool false, .bool false] 27))
  have hn8 : n ≤ 8 := by omega
  have hn4 : 4 ≤ n := by omega
  have hgw := h.1.1
  clear h
  go_enter Try.func75, Try.ntmps75
  go_wp2_with fail
  refine (l14Line_d w g a c l (2 * n) _ (by omega) H0.out).mono ?_
  rintro e w1 ⟨x, p, L, rfl, hLl, hLb, hoL, hdr1, hd1⟩
  have HLL : Hid (L.length = 2 * n) := Lib.hid (by omega)
  clear hLl
  go_wp2_with fail
  refine (l14Line_d w g a c l n w1 (by omega) hdr1).mono ?_
  rintro e w2 ⟨y, q, M, rfl, hMl, hMb, hoM, hdr2, hd2⟩
  have HML : Hid (M.length = n) := Lib.hid (by omega)
  clear hMl
  go_wp2_with fail
  refine (l1Below_p w g a c l 256 w2 (by omega) hdr2).mono ?_
  rintro e w3 ⟨C, rfl, hC0, hC1, hdr3, hd3⟩
  go_wp2_with fail
  refine (l1Once_d w g a c l 4 w3 (by omega) hdr3).mono ?_
  rintro e w4 ⟨T, rfl, hdr4, hd4⟩
  go_wp2_with fail
  refine (l1Once_d w g a c l 4 w4 (by omega) hdr4).mono ?_
  rintro e w5 ⟨H, rfl, hdr5, hd5⟩
  have hdA := D.trans (D.trans (D.trans (D.trans hd1 hd2) hd3) hd4) hd5
  have hdB := D.trans (D.trans hd3 hd4) hd5
  have hs : (w.alloc (.cells #[.slice none 0 0, .slice none 0 0, .int .i64 0, .bool false, .bool false] 27)).heap.size = w.heap.size + 1 := by simp
  have hs5 : w.heap.size + 1 ≤ w5.heap.size := by have := hdA.size; omega
  have hs1 : w.heap.size + 1 ≤ w1.heap.size := by have := hd1.size; omega
  rw [hs] at hoL
  have hoL5 : Own (w.heap.size + 1) w5 x p L := hoL.cur (D.trans (D.trans (D.trans hd2 hd3) hd4) hd5) (by omega)
  have hoM5 : Own (w.heap.size + 1) w5 y q M := (hoM.mono hs1).cur hdB (by omega)
  have HCP : Hid (L.length ≤ p ∧ M.length ≤ q) := Lib.hid ⟨hoL.cap, hoM.cap⟩
  have hr5 := HZ.out.grown (a := some ⟨g, 0, none⟩) hdA (fun p hp => by cases hp; exact Nat.ne_of_lt hgw)
  have hf5 := frozen_cur hdA (by simp) (Nat.ne_of_lt hgw) HZF.out
  have hN : Nbs w g a c l w5.heap.size (.slice x L.length p) (.slice y M.length q) (.int .i64 C) (.bool (!T)) (.bool (!H)) x L y M (w5.alloc (.cells #[.slice x L.length p, .slice y M.length q, .int .i64 C, .bool (!T), .bool (!H)] 27)) := by
    have al : Below w5.heap.size w5 (w5.alloc (.cells #[.slice x L.length p, .slice y M.length q, .int .i64 C, .bool (!T), .bool (!H)] 27)) := (Below.refl _ _).alloc (Nat.le_refl _) _
    exact ⟨hr5.below al (Nat.le_refl _), fun i => (al.frozen (p := ⟨w.heap.size, i, none⟩) hs5).trans (hf5 i), Box5.new _ _ _ _ _ _ _, fun i => by simp [go_sem], (hoL5.alloc _).frs, (hoM5.alloc _).frs, hdr5.alloc _, hgw, hs5, fun q hq => Nat.ne_of_lt (hoL5.lt q hq).2, fun q hq => Nat.ne_of_lt (hoM5.lt q hq).2⟩
  have HN := Lib.hid hN
  have HLB := Lib.hid hLb
  have HMB := Lib.hid hMb
  obtain ⟨gL, rfl, _, _, _⟩ := hoL5.at_ (i := 0) (by have := HLL.out; omega)
  obtain ⟨gM, rfl, _, _, _⟩ := hoM5.at_ (i := 0) (by have := HML.out; omega)
  have HLM : Hid (gM ≠ gL) := Lib.hid (by have h1 := (hoL.lt _ rfl).2; have h2 := (hoM.lt _ rfl).1; have h1 : gL < w1.heap.size := h1; have h2 : w1.heap.size ≤ gM := h2; omega)
  obtain ⟨k, hk⟩ : ∃ k, k = w5.heap.size := ⟨_, rfl⟩
  clear hN hLb hMb hoL hoM hoL5 hoM5 hdr1 hdr2 hdr3 hdr4 hdr5 hd1 hd2 hd3 hd4 hd5 hdA hdB hs hs5 hs1 hr5 hf5 HZ HZF H0
  go_wp2_with fail
  rw [← hk] at HN ⊢
  clear hk
  obtain ⟨wB, hwB⟩ : ∃ wB, wB = w5.alloc (.cells #[.slice (some ⟨gL, 0, none⟩) L.length p, .slice (some ⟨gM, 0, none⟩) M.length q, .int .i64 C, .bool (!T), .bool (!H)] 27) := ⟨_, rfl⟩
  rw [← hwB] at HN ⊢
  clear hwB
  refine (l1Below_p w g a c l 18 wB (by omega) HN.out.2.2.2.2.2.2.1).mono ?_
  rintro e w6 ⟨s, rfl, hs0, hs1, hdr6, hd6⟩
  have hN := HN.out.cur hdr6 hd6
  clear HN hdr6 hd6
  have HN := Lib.hid hN
  have hkr : ¬ (k = w.heap.size) := by have := HN.out.2.2.2.2.2.2.2.2.1; omega
  have hkr' : ¬ (w.heap.size = k) := by omega
  by_cases h0 : s = 0
  · subst h0
    have k0 := HN.out.2.2.1.2.1
    have hg6 := HN.out.2.2.2.2.2.2.1.lt
    have hn0 : 0 < (n : Int) := by omega
    have hLe : (n : Int) ≤ (L.length : Int) := by have := HLL.out; omega
    go_wp2_with fail
    go_region_held3 (fun w' => w'.cell? ⟨k, 0, none⟩ = some (.slice (some ⟨gL, 0, none⟩) L.length p)) (first | go_keep | exact (World.cell?_setCell_far _ _ _ _ hgk).trans s8)
      ((first
        | (go_at_call 54; refine (l1Below_p w g a c l n _ (by omega) (by first | exact HN.out.2.2.2.2.2.2.1.drew | exact (HN.out.2.2.2.2.2.2.1.alloc _).drew)).mono ?_; rintro e w7 ⟨i, rfl, hi0, hi1, hdr7, hd7⟩; obtain ⟨j, rfl⟩ := Int.eq_ofNat_of_zero_le hi0; have hN7 : Nbs w g a c l k (.slice (some ⟨gL, 0, none⟩) L.length p) (.slice (some ⟨gM, 0, none⟩) M.length q) (.int .i64 C) (.bool (!T)) (.bool (!H)) (some ⟨gL, 0, none⟩) L (some ⟨gM, 0, none⟩) M w7 := (by first | exact HN.out.drew.cur hdr7 hd7 | exact (HN.out.alloc _).drew.cur hdr7 hd7); have s7 := hN7.2.2.1.2.1; have hjL : (j : Int) < (L.length : Int) := (by omega))
        | (go_at_call 56; (first | (refine (l1PickInt_d w g a c l [_, _] _ 2 w7 (by simp) (by rfl) rfl hdr7).mono ?_; rintro e w8 ⟨u, rfl, hu, hdr8, hd8⟩) | (refine (l1PickInt_r w g a c l [-1, 256] w6.heap.size 2 w7 (by simp) (((Own.lit (B := 0) w6 #[.int .i64 (-1), .int .i64 256] [-1, 256] rfl (Nat.zero_le _) (by simp [maxLen])).row.drew).cur hd7 (fun p hp => by cases hp; exact Nat.ne_of_gt hg6)) (Nat.ne_of_gt hg6) rfl hdr7).mono ?_; rintro e w8 ⟨u, rfl, hu, hdr8, hd8⟩)); have hN8 : Nbs w g a c l k (.slice (some ⟨gL, 0, none⟩) L.length p) (.slice (some ⟨gM, 0, none⟩) M.length q) (.int .i64 C) (.bool (!T)) (.bool (!H)) (some ⟨gL, 0, none⟩) L (some ⟨gM, 0, none⟩) M w8 := hN7.cur hdr8 hd8; have s8 := hN8.2.2.1.2.1; have c8 : ∃ v, w8.cell? ⟨gL, j, none⟩ = some v := (by obtain ⟨_, _, e9, h9⟩ := hN8.2.2.2.2.1.1.at_ (i := j) (by omega); cases e9; rw [Nat.zero_add] at h9; exact ⟨_, h9⟩); obtain ⟨old, c8⟩ := c8; have f8 := (hN8.2.2.2.2.1.2 _ rfl).2.2 j; have hgk : gL ≠ k := hN8.2.2.2.2.2.2.2.2.2.1 ⟨gL, 0, none⟩ rfl)))
    all_goals
      have hub : -1 ≤ u ∧ u ≤ 256 := by simp at hu; omega
      have hgr : gL ≠ w.heap.size := by have := (hN8.2.2.2.2.1.2 _ rfl).1; have : w.heap.size + 1 ≤ gL := this; omega
      have hgk1 : ¬ (gL = k) := hgk
      have hgk2 : ¬ (k = gL) := fun e => hgk e.symm
      have hgr1 : ¬ (gL = w.heap.size) := hgr
      have hgr2 : ¬ (w.heap.size = gL) := fun e => hgr e.symm
      have HNN := Lib.hid (hN8.sx hL.out (fun r hr => by cases hr; exact HLM.out) j u)
      obtain ⟨_, r0, r1, r2, r3, r4⟩ := hN8.1
      obtain ⟨_, k0, k1, k2, k3, k4⟩ := hN8.2.2.1
      have q0 := hN8.2.1 0
      have q1 := hN8.2.1 1
      have q2 := hN8.2.1 2
      have q3 := hN8.2.1 3
      have q4 := hN8.2.1 4
      clear hN8 hN7 HN hdr7 hd7 hdr8 hd8 hu s7 hgk hgr
      have HN := HNN
      clear HNN
      go_wp2
      obtain ⟨hrb, hrf, hkb, hkf, hfL, hfM, hdr, _, hwk, hxk, hyk⟩ := HN.out
      have hF5 := ((((hrb.s0 (.slice (some ⟨gL, 0, none⟩) L.length p)).s1 (.slice (some ⟨gM, 0, none⟩) M.length q)).s2 (.int .i64 C)).s3 (.bool (!T))).s4 (.bool (!H))
      obtain ⟨_, z0, z1, z2, z3, z4⟩ := hF5
      refine bodyPost_ret (v := .agg #[(.slice (some ⟨gL, 0, none⟩) L.length p), (.slice (some ⟨gM, 0, none⟩) M.length q), .int .i64 C, .bool (!T), .bool (!H)]) (by simp [results, Try.results75, go_sem, z0, z1, z2, z3, z4]) rfl ?_
      have hfin := hdr.owned (five_below (w8.setCell ⟨gL, j, none⟩ (.int .i64 u)) w.heap.size w.heap.size (.slice (some ⟨gL, 0, none⟩) L.length p) (.slice (some ⟨gM, 0, none⟩) M.length q) (.int .i64 C) (.bool (!T)) (.bool (!H)) (Nat.le_refl _)) (Nat.le_refl _) hL.out
      exact ⟨_, _, (L.set j u), _, _, M, C, !T, !H, by rw [List.length_set], ⟨by rw [List.length_set]; have := HLL.out; omega, by rw [List.length_set]; exact HCP.out.1, by have := HML.out; omega, HCP.out.2⟩, fun z hz => (mem_set hz).elim (fun h => by have := HLB.out z h; omega) (fun h => by omega), fun z hz => by have := HMB.out z hz; omega, ⟨by omega, by omega⟩, (hfL.mono (Nat.le_succ _)).five _ (fun r hr => by have := (hfL.2 r hr).1; omega) _ _ _ _ _, (hfM.mono (Nat.le_succ _)).five _ (fun r hr => by have := (hfM.2 r hr).1; omega) _ _ _ _ _, HH.out.next hfin.1 hfin.2, hfin.2⟩
  · have e0 : (s == 0) = false := by simp [h0]
    by_cases h1 : s = 1
    · subst h1
      obtain ⟨m1, hm1⟩ : ∃ m1, M.length = m1 + 1 := ⟨M.length - 1, by have := HML.out; omega⟩
      have hm8 : 3 ≤ m1 ∧ m1 ≤ 7 := by have := HML.out; omega
      have hN := HN.out.s1 hL.out (.slice (some ⟨gM, 1, none⟩) m1 (q - 1)) (HN.out.2.2.2.2.2.1.tail hm1 (by omega)) (fun r hr => by cases hr; exact HN.out.2.2.2.2.2.2.2.2.2.2 ⟨gM, 0, none⟩ rfl)
      obtain ⟨_, r0, r1, r2, r3, r4⟩ := HN.out.1
      obtain ⟨_, k0, k1, k2, k3, k4⟩ := HN.out.2.2.1
      have q0 := HN.out.2.1 0
      have q1 := HN.out.2.1 1
      have q2 := HN.out.2.1 2
      have q3 := HN.out.2.1 3
      have q4 := HN.out.2.1 4
      have p1 := HN.out.2.2.2.1 1
      have hcap : m1 + 1 ≤ q := by have := HCP.out.2; omega
      rw [hm1] at k1
      have HN := Lib.hid hN
      have HM1 := Lib.hid hm1
      rw [hm1]
      clear hN hm1
      go_wp2
      obtain ⟨hrb, hrf, hkb, hkf, hfL, hfM, hdr, _, hwk, hxk, hyk⟩ := HN.out
      have hF5 := ((((hrb.s0 (.slice (some ⟨gL, 0, none⟩) L.length p)).s1 (.slice (some ⟨gM, 1, none⟩) m1 (q - 1))).s2 (.int .i64 C)).s3 (.bool (!T))).s4 (.bool (!H))
      obtain ⟨_, z0, z1, z2, z3, z4⟩ := hF5
      refine bodyPost_ret (v := .agg #[(.slice (some ⟨gL, 0, none⟩) L.length p), (.slice (some ⟨gM, 1, none⟩) m1 (q - 1)), .int .i64 C, .bool (!T), .bool (!H)]) (by simp [results, Try.results75, go_sem, z0, z1, z2, z3, z4]) rfl ?_
      have hfin := hdr.owned (five_below (w6.setCell ⟨k, 1, none⟩ (.slice (some ⟨gM, 1, none⟩) m1 (q - 1))) w.heap.size w.heap.size (.slice (some ⟨gL, 0, none⟩) L.length p) (.slice (some ⟨gM, 1, none⟩) m1 (q - 1)) (.int .i64 C) (.bool (!T)) (.bool (!H)) (Nat.le_refl _)) (Nat.le_refl _) hL.out
      exact ⟨_, _, L, _, _, (tab (fun i => M.getD (1 + i) 0) m1), C, !T, !H, by rw [tab_len], ⟨by have := HLL.out; omega, HCP.out.1, by rw [tab_len]; omega, by rw [tab_len]; omega⟩, fun z hz => by have := HLB.out z hz; omega, fun z hz => by obtain ⟨i, hi, rfl⟩ := tab_mem' hz; have h4 : 1 + i < M.length := (by rw [HM1.out]; omega); have := HMB.out (M.getD (1 + i) 0) (by rw [getD_lt h4]; exact List.getElem_mem h4); omega, ⟨by omega, by omega⟩, (hfL.mono (Nat.le_succ _)).five _ (fun r hr => by have := (hfL.2 r hr).1; omega) _ _ _ _ _, (hfM.mono (Nat.le_succ _)).five _ (fun r hr => by have := (hfM.2 r hr).1; omega) _ _ _ _ _, HH.out.next hfin.1 hfin.2, hfin.2⟩
    · have e1 : (s == 1) = false := by simp [h1]
      by_cases h2 : s = 2
      · subst h2
        go_wp2_with fail
        refine (l1PickInt_d w g a c l [_, _] _ 2 w6 (by simp) (by rfl) rfl HN.out.2.2.2.2.2.2.1).mono ?_
        rintro e w7 ⟨u, rfl, hu, hdr7, hd7⟩
        have hub : -1 ≤ u ∧ u ≤ 256 := by simp at hu; omega
        have hN7 := HN.out.cur hdr7 hd7
        obtain ⟨_, r0, r1, r2, r3, r4⟩ := hN7.1
        obtain ⟨_, k0, k1, k2, k3, k4⟩ := hN7.2.2.1
        have q0 := hN7.2.1 0
        have q1 := hN7.2.1 1
        have q2 := hN7.2.1 2
        have q3 := hN7.2.1 3
        have q4 := hN7.2.1 4
        have p2 := hN7.2.2.2.1 2
        have HN := Lib.hid (hN7.s2 hL.out (.int .i64 u))
        clear hN7 hdr7 hd7 hu
        go_wp2
        obtain ⟨hrb, hrf, hkb, hkf, hfL, hfM, hdr, _, hwk, hxk, hyk⟩ := HN.out
        have hF5 := ((((hrb.s0 (.slice (some ⟨gL, 0, none⟩) L.length p)).s1 (.slice (some ⟨gM, 0, none⟩) M.length q)).s2 (.int .i64 u)).s3 (.bool (!T))).s4 (.bool (!H))
        obtain ⟨_, z0, z1, z2, z3, z4⟩ := hF5
        refine bodyPost_ret (v := .agg #[(.slice (some ⟨gL, 0, none⟩) L.length p), (.slice (some ⟨gM, 0, none⟩) M.length q), .int .i64 u, .bool (!T), .bool (!H)]) (by simp [results, Try.results75, go_sem, z0, z1, z2, z3, z4]) rfl ?_
        have hfin := hdr.owned (five_below (w7.setCell ⟨k, 2, none⟩ (.int .i64 u)) w.heap.size w.heap.size (.slice (some ⟨gL, 0, none⟩) L.length p) (.slice (some ⟨gM, 0, none⟩) M.length q) (.int .i64 u) (.bool (!T)) (.bool (!H)) (Nat.le_refl _)) (Nat.le_refl _) hL.out
        exact ⟨_, _, L, _, _, M, u, !T, !H, rfl, ⟨by have := HLL.out; omega, HCP.out.1, by have := HML.out; omega, HCP.out.2⟩, fun z hz => by have := HLB.out z hz; omega, fun z hz => by have := HMB.out z hz; omega, hub, (hfL.mono (Nat.le_succ _)).five _ (fun r hr => by have := (hfL.2 r hr).1; omega) _ _ _ _ _, (hfM.mono (Nat.le_succ _)).five _ (fun r hr => by have := (hfM.2 r hr).1; omega) _ _ _ _ _, HH.out.next hfin.1 hfin.2, hfin.2⟩
      · have e2 : (s == 2) = false := by simp [h2]
        obtain ⟨_, r0, r1, r2, r3, r4⟩ := HN.out.1
        obtain ⟨_, k0, k1, k2, k3, k4⟩ := HN.out.2.2.1
        have q0 := HN.out.2.1 0
        have q1 := HN.out.2.1 1
        have q2 := HN.out.2.1 2
        have q3 := HN.out.2.1 3
        have q4 := HN.out.2.1 4
        go_wp2
        obtain ⟨hrb, hrf, hkb, hkf, hfL, hfM, hdr, _, hwk, hxk, hyk⟩ := HN.out
        have hF5 := ((((hrb.s0 (.slice (some ⟨gL, 0, none⟩) L.length p)).s1 (.slice (some ⟨gM, 0, none⟩) M.length q)).s2 (.int .i64 C)).s3 (.bool (!T))).s4 (.bool (!H))
        obtain ⟨_, z0, z1, z2, z3, z4⟩ := hF5
        refine bodyPost_ret (v := .agg #[(.slice (some ⟨gL, 0, none⟩) L.length p), (.slice (some ⟨gM, 0, none⟩) M.length q), .int .i64 C, .bool (!T), .bool (!H)]) (by simp [results, Try.results75, go_sem, z0, z1, z2, z3, z4]) rfl ?_
        have hfin := hdr.owned (five_below w6 w.heap.size w.heap.size (.slice (some ⟨gL, 0, none⟩) L.length p) (.slice (some ⟨gM, 0, none⟩) M.length q) (.int .i64 C) (.bool (!T)) (.bool (!H)) (Nat.le_refl _)) (Nat.le_refl _) hL.out
        exact ⟨_, _, L, _, _, M, C, !T, !H, rfl, ⟨by have := HLL.out; omega, HCP.out.1, by have := HML.out; omega, HCP.out.2⟩, fun z hz => by have := HLB.out z hz; omega, fun z hz => by have := HMB.out z hz; omega, ⟨by omega, by omega⟩, (hfL.mono (Nat.le_succ _)).five _ (fun r hr => by have := (hfL.2 r hr).1; omega) _ _ _ _ _, (hfM.mono (Nat.le_succ _)).five _ (fun r hr => by have := (hfM.2 r hr).1; omega) _ _ _ _ _, HH.out.next hfin.1 hfin.2, hfin.2⟩

end Go.Proofs.Ytbdggcefgiehkaa
