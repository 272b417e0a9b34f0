/- Contracts: the reference's filter of a frame. -/
import Derived.Test.YtkfjbnhihjnhnaaDebP
namespace Go.Proofs.Ytkfjbnhihjnhnaa
open Go.RowKit
set_option linter.unusedVariables false

/-- ahead of the copies: the argument's block, the result's block still empty -/
def Pre2 (w : World) (x y : Int) (a : Option Addr) (c n : Nat) (wx : World) : Prop :=
  Box3 wx w.heap.size (.int .i64 x) (.int .i64 y) (.slice a n c) ∧ Box3 wx (w.heap.size + 1) (.int .i64 0) (.int .i64 0) (.slice none 0 0) ∧ (∀ i, wx.frozen? ⟨w.heap.size + 1, i, none⟩ = false) ∧ Below w.heap.size w wx
theorem Pre2.start {w : World} {x y : Int} {a : Option Addr} {c n : Nat} (t : TypeId) : Pre2 w x y a c n ((w.alloc (.cells #[.int .i64 x, .int .i64 y, .slice a n c] t)).alloc (.cells #[.int .i64 0, .int .i64 0, .slice none 0 0] t)) := by
  refine ⟨(Box3.new w _ _ _ _).below ((Below.refl _ _).alloc (Nat.le_refl _) _) (Nat.le_refl _), ?_, fun i => by simp [go_sem], ((Below.refl w.heap.size w).alloc (Nat.le_refl _) _).alloc (by simp) _⟩
  have h := Box3.new (w.alloc (.cells #[.int .i64 x, .int .i64 y, .slice a n c] t)) t (.int .i64 0) (.int .i64 0) (.slice none 0 0)
  simpa using h
theorem Pre2.below {w wx w' : World} {x y : Int} {a : Option Addr} {c n : Nat} (h : Pre2 w x y a c n wx) (hb : Below wx.heap.size wx w') : Pre2 w x y a c n w' :=
  ⟨h.1.below hb (Nat.le_refl _), h.2.1.below hb (Nat.le_refl _), fun i => (bfrozen hb _ _ h.2.1.1).trans (h.2.2.1 i), h.2.2.2.trans (hb.mono h.2.2.2.size)⟩
theorem Pre2.grown {w wx w' : World} {x y : Int} {a : Option Addr} {c n g : Nat} (h : Pre2 w x y a c n wx) (hg : wx.grownBy w' (some g)) (hgB : w.heap.size + 2 ≤ g) : Pre2 w x y a c n w' := by
  refine ⟨h.1.grown (a := some ⟨g, 0, none⟩) hg (fun p hp => by cases hp; show g ≠ _; omega), h.2.1.grown (a := some ⟨g, 0, none⟩) hg (fun p hp => by cases hp; show g ≠ _; omega), fun i => ?_, h.2.2.2.grown hg h.2.2.2.size (fun k hk => by injection hk with hk; omega)⟩
  rw [World.frozen?_of_block (w := wx) (hg.block _ h.2.1.1 (by intro e; injection e with e; have e2 : w.heap.size + 1 = g := e; omega))]
  exact h.2.2.1 i
theorem Pre2.far {w wx : World} {x y : Int} {a : Option Addr} {c n : Nat} (h : Pre2 w x y a c n wx) {o i : Nat} (ho : w.heap.size + 2 ≤ o) (v : Value) : Pre2 w x y a c n (wx.setCell ⟨o, i, none⟩ v) :=
  ⟨h.1.far (by show o ≠ _; omega) _, h.2.1.far (by show o ≠ _; omega) _, fun j => by simp [go_sem, h.2.2.1 j], h.2.2.2.setCell (p := ⟨o, i, none⟩) (by show w.heap.size ≤ o; omega) _⟩
theorem deb_cutA {w w2 : World} {x y : Int} {a : Option Addr} {c d g : Nat} {l m : List Int} (t : TypeId) (P : Pre2 w x y a c l.length w2) (ho : Own (w.heap.size + 2) w2 (some ⟨g, 0, none⟩) d m) :
    OwnFacts w x y a c l w2.heap.size (some ⟨g, 0, none⟩) d m (w2.alloc (.cells #[.int .i64 x, .int .i64 y, .slice (some ⟨g, 0, none⟩) l.length d] t)) := by
  have al : Below w2.heap.size w2 (w2.alloc (.cells #[.int .i64 x, .int .i64 y, .slice (some ⟨g, 0, none⟩) l.length d] t)) := (Below.refl _ _).alloc (Nat.le_refl _) _
  have Q := P.below al
  have hg := (ho.lt _ rfl).2
  exact ⟨Box3.new _ _ _ _ _, ho.alloc _, Q.2.2.2, Q.1, Q.2.1, Q.2.2.1, fun p hp => by cases hp; exact Nat.ne_of_lt hg, P.2.1.1⟩
theorem deb_cutB {w w2 : World} {x y : Int} {a : Option Addr} {c d g o : Nat} {l m : List Int} (P : Pre2 w x y a c l.length w2) (ho : Own (w.heap.size + 2) w2 (some ⟨g, 0, none⟩) d m) (O : Box3 w2 o (.int .i64 0) (.int .i64 0) (.slice none 0 0)) (hoB : w.heap.size + 2 ≤ o) (hne : g ≠ o) :
    OwnFacts w x y a c l o (some ⟨g, 0, none⟩) d m (((w2.setCell ⟨o, 0, none⟩ (.int .i64 x)).setCell ⟨o, 1, none⟩ (.int .i64 y)).setCell ⟨o, 2, none⟩ (.slice (some ⟨g, 0, none⟩) l.length d)) := by
  have hT := three_set (.int .i64 x) (.int .i64 y) (.slice (some ⟨g, 0, none⟩) l.length d) O.2.1 O.2.2.1 O.2.2.2
  have Q := ((P.far (i := 0) hoB (.int .i64 x)).far (i := 1) hoB (.int .i64 y)).far (i := 2) hoB (.slice (some ⟨g, 0, none⟩) l.length d)
  have og : ∀ {wz : World} (i : Nat) (v : Value), wz.grownBy (wz.setCell ⟨o, i, none⟩ v) (some o) := fun {wz} i v => by
    have hb : Below o wz (wz.setCell ⟨o, i, none⟩ v) := (Below.refl _ _).setCell (p := ⟨o, i, none⟩) (Nat.le_refl _) _
    refine ⟨hb.os, hb.tape, hb.output, hb.size, fun k hk hne2 => ?_⟩
    have hko : k ≠ o := fun e => hne2 (by rw [e])
    exact heap_setCell_other _ _ _ _ hko
  have hg : ∀ {wz : World} (i : Nat) (v : Value), Own (w.heap.size + 2) wz (some ⟨g, 0, none⟩) d m → Own (w.heap.size + 2) (wz.setCell ⟨o, i, none⟩ v) (some ⟨g, 0, none⟩) d m := fun {wz} i v h =>
    h.grown (og i v) (fun p q hp hq => by cases hp; injection hq with hq; rw [← hq]; exact hne)
  exact ⟨⟨by simpa using O.1, hT⟩, hg 2 _ (hg 1 _ (hg 0 _ ho)), Q.2.2.2, Q.1, Q.2.1, Q.2.2.1, fun p hp => by cases hp; exact hne, hoB⟩

def DebCut (w : World) (x y : Int) (a : Option Addr) (c : Nat) (l m : List Int) (s5 : Value) (wx : World) : Prop :=
  ∃ (o g d : Nat), s5 = .pointer (some ⟨o, 0, none⟩) ∧ OwnFacts w x y a c l o (some ⟨g, 0, none⟩) d m wx
theorem DebCut.mk {w wx : World} {x y : Int} {a : Option Addr} {c o g d : Nat} {l m : List Int} (h : OwnFacts w x y a c l o (some ⟨g, 0, none⟩) d m wx) : DebCut w x y a c l m (.pointer (some ⟨o, 0, none⟩)) wx := ⟨o, g, d, rfl, h⟩
/-- behind the second copy: two copies, their boxes o and k, the rows g and r -/
def Deb2 (w : World) (X Y : Int) (a : Option Addr) (c n : Nat) (o g d k r e : Nat) (m s : List Int) (wx : World) : Prop :=
  Box3 wx w.heap.size (.int .i64 X) (.int .i64 Y) (.slice a n c) ∧ Box3 wx (w.heap.size + 1) (.int .i64 0) (.int .i64 0) (.slice none 0 0) ∧ (∀ i, wx.frozen? ⟨w.heap.size + 1, i, none⟩ = false) ∧
  Box3 wx o (.int .i64 X) (.int .i64 Y) (.slice (some ⟨g, 0, none⟩) n d) ∧ Box3 wx k (.int .i64 X) (.int .i64 Y) (.slice (some ⟨r, 0, none⟩) n e) ∧ (∀ i, wx.frozen? ⟨k, i, none⟩ = false) ∧
  Row wx (some ⟨g, 0, none⟩) m ∧ Own (w.heap.size + 2) wx (some ⟨r, 0, none⟩) e s ∧ Below w.heap.size w wx ∧ g ≠ r ∧ (r ≠ o ∧ r ≠ k ∧ k ≠ o ∧ g ≠ k ∧ w.heap.size + 2 ≤ k ∧ w.heap.size + 2 ≤ r)
theorem Deb2.start {w wc w2 : World} {X Y : Int} {a : Option Addr} {c d o g r e : Nat} {l m : List Int} (t : TypeId) (h : OwnFacts w X Y a c l o (some ⟨g, 0, none⟩) d m wc) (ho : Own wc.heap.size w2 (some ⟨r, 0, none⟩) e m) (hb : Below wc.heap.size wc w2) :
    Deb2 w X Y a c l.length o g d w2.heap.size r e m m (w2.alloc (.cells #[.int .i64 X, .int .i64 Y, .slice (some ⟨r, 0, none⟩) l.length e] t)) := by
  have al : Below w2.heap.size w2 (w2.alloc (.cells #[.int .i64 X, .int .i64 Y, .slice (some ⟨r, 0, none⟩) l.length e] t)) := (Below.refl _ _).alloc (Nat.le_refl _) _
  obtain ⟨h1, h2, h3, h4, h5, h6, h7, h8⟩ := h.below hb
  have hoc := h.1.1
  have hg := (h.2.1.lt _ rfl).2
  have hg : g < wc.heap.size := hg
  have hr := ho.lt _ rfl
  have hr1 : wc.heap.size ≤ r := hr.1
  have hr2 : r < w2.heap.size := hr.2
  have hs := hb.size
  exact ⟨h4.below al (Nat.le_refl _), h5.below al (Nat.le_refl _), fun i => (bfrozen al _ _ h5.1).trans (h6 i), h1.below al (Nat.le_refl _), Box3.new _ _ _ _ _, fun i => by simp [go_sem], h2.row.below al (Nat.le_refl _), (ho.mono (by have := h.2.2.2.2.1.1; omega)).alloc _, h3.trans (al.mono h3.size), by omega, by omega, by omega, by omega, by omega, by have := h.2.2.2.2.1.1; omega, by have := h.2.2.2.2.1.1; omega⟩
theorem Deb2.grown {w wx w' : World} {X Y : Int} {a : Option Addr} {c n o g d k r e : Nat} {m s s' : List Int} (h : Deb2 w X Y a c n o g d k r e m s wx) (hg : wx.grownBy w' (some r)) (ho : Own (w.heap.size + 2) w' (some ⟨r, 0, none⟩) e s') : Deb2 w X Y a c n o g d k r e m s' w' := by
  obtain ⟨h1, h2, h3, h4, h5, h6, h7, _, h9, hgr, g1, g2, g3, g4, g5, g6⟩ := h
  have fz : ∀ b, b < wx.heap.size → b ≠ r → (∀ i, wx.frozen? ⟨b, i, none⟩ = false) → ∀ i, w'.frozen? ⟨b, i, none⟩ = false := fun b hb hne hf i => by
    rw [World.frozen?_of_block (w := wx) (a := ⟨b, i, none⟩) (hg.block b hb (by intro e; injection e with e; exact hne e))]
    exact hf i
  exact ⟨h1.grown (a := some ⟨r, 0, none⟩) hg (fun p hp => by cases hp; show r ≠ _; omega), h2.grown (a := some ⟨r, 0, none⟩) hg (fun p hp => by cases hp; show r ≠ _; omega), fz _ h2.1 (by omega) h3, h4.grown (a := some ⟨r, 0, none⟩) hg (fun p hp => by cases hp; exact g1), h5.grown (a := some ⟨r, 0, none⟩) hg (fun p hp => by cases hp; exact g2), fz _ h5.1 (fun e => g2 e.symm) h6, h7.grown hg (fun p q hp hq => by cases hp; cases hq; exact hgr), ho, h9.grown hg h9.size (fun b hb => by injection hb with hb; omega), hgr, g1, g2, g3, g4, g5, g6⟩
theorem Deb2.one {w wx : World} {X Y : Int} {a : Option Addr} {c n o g d k r e : Nat} {m s : List Int} (h : Deb2 w X Y a c n o g d k r e m s wx) (i : Nat) (v : Value) (hB : Box3 (wx.setCell ⟨k, i, none⟩ v) k (.int .i64 X) (.int .i64 Y) (.slice (some ⟨r, 0, none⟩) n e)) : Deb2 w X Y a c n o g d k r e m s (wx.setCell ⟨k, i, none⟩ v) := by
  obtain ⟨h1, h2, h3, h4, h5, h6, h7, h8, h9, hgr, g1, g2, g3, g4, g5, g6⟩ := h
  have og : wx.grownBy (wx.setCell ⟨k, i, none⟩ v) (some k) := by
    have hb : Below k wx (wx.setCell ⟨k, i, none⟩ v) := (Below.refl _ _).setCell (p := ⟨k, i, none⟩) (Nat.le_refl _) _
    refine ⟨hb.os, hb.tape, hb.output, hb.size, fun b hk hne2 => ?_⟩
    have hko : b ≠ k := fun e => hne2 (by rw [e])
    exact heap_setCell_other _ _ _ _ hko
  exact ⟨h1.far (by show k ≠ _; omega) _, h2.far (by show k ≠ _; omega) _, fun j => by simp [go_sem, h3 j], h4.far (by show k ≠ o; exact g3) _, hB, fun j => by simp [go_sem, h6 j], h7.grown og (fun p q hp hq => by cases hp; cases hq; exact g4), h8.grown og (fun p q hp hq => by cases hp; cases hq; exact g2), h9.setCell (p := ⟨k, i, none⟩) (by show w.heap.size ≤ k; omega) _, hgr, g1, g2, g3, g4, g5, g6⟩
theorem Deb2.put {w wx : World} {X Y : Int} {a : Option Addr} {c n o g d k r e : Nat} {m s : List Int} (h : Deb2 w X Y a c n o g d k r e m s wx) :
    Deb2 w X Y a c n o g d k r e m s (((wx.setCell ⟨k, 0, none⟩ (.int .i64 X)).setCell ⟨k, 1, none⟩ (.int .i64 Y)).setCell ⟨k, 2, none⟩ (.slice (some ⟨r, 0, none⟩) n e)) := by
  have b0 := h.2.2.2.2.1
  have b1 : Box3 (wx.setCell ⟨k, 0, none⟩ (.int .i64 X)) k (.int .i64 X) (.int .i64 Y) (.slice (some ⟨r, 0, none⟩) n e) :=
    ⟨by simpa using b0.1, World.cell?_setCell_same _ _ _ b0.2.1, by rw [World.cell?_setCell_other _ _ _ _ (by simp)]; exact b0.2.2.1, by rw [World.cell?_setCell_other _ _ _ _ (by simp)]; exact b0.2.2.2⟩
  have b2 : Box3 ((wx.setCell ⟨k, 0, none⟩ (.int .i64 X)).setCell ⟨k, 1, none⟩ (.int .i64 Y)) k (.int .i64 X) (.int .i64 Y) (.slice (some ⟨r, 0, none⟩) n e) :=
    ⟨by simpa using b1.1, by rw [World.cell?_setCell_other _ _ _ _ (by simp)]; exact b1.2.1, World.cell?_setCell_same _ _ _ b1.2.2.1, by rw [World.cell?_setCell_other _ _ _ _ (by simp)]; exact b1.2.2.2⟩
  have b3 : Box3 (((wx.setCell ⟨k, 0, none⟩ (.int .i64 X)).setCell ⟨k, 1, none⟩ (.int .i64 Y)).setCell ⟨k, 2, none⟩ (.slice (some ⟨r, 0, none⟩) n e)) k (.int .i64 X) (.int .i64 Y) (.slice (some ⟨r, 0, none⟩) n e) :=
    ⟨by simpa using b2.1, by rw [World.cell?_setCell_other _ _ _ _ (by simp)]; exact b2.2.1, by rw [World.cell?_setCell_other _ _ _ _ (by simp)]; exact b2.2.2.1, World.cell?_setCell_same _ _ _ b2.2.2.2⟩
  exact ((h.one 0 _ b1).one 1 _ b2).one 2 _ b3
theorem Deb2.le2 {w wx : World} {X Y : Int} {a : Option Addr} {c n o g d k r e : Nat} {m s : List Int} (h : Deb2 w X Y a c n o g d k r e m s wx) : w.heap.size + 2 ≤ k := h.2.2.2.2.2.2.2.2.2.2.2.2.2.2.1
theorem Deb2.fin1 {w wx : World} {X Y : Int} {a : Option Addr} {c n o g d k r e : Nat} {m s : List Int} (h : Deb2 w X Y a c n o g d k r e m s wx) {u0 u1 u2 : Value} :
    Own w.heap.size (((wx.setCell ⟨w.heap.size + 1, 0, none⟩ u0).setCell ⟨w.heap.size + 1, 1, none⟩ u1).setCell ⟨w.heap.size + 1, 2, none⟩ u2) (some ⟨r, 0, none⟩) e s :=
  (((h.2.2.2.2.2.2.2.1.far (p := ⟨w.heap.size + 1, 0, none⟩) (by show w.heap.size + 1 < w.heap.size + 2; omega) _).far (p := ⟨w.heap.size + 1, 1, none⟩) (by show w.heap.size + 1 < w.heap.size + 2; omega) _).far (p := ⟨w.heap.size + 1, 2, none⟩) (by show w.heap.size + 1 < w.heap.size + 2; omega) _).mono (by omega)
theorem Deb2.fin2 {w wx : World} {X Y : Int} {a : Option Addr} {c n o g d k r e : Nat} {m s : List Int} (h : Deb2 w X Y a c n o g d k r e m s wx) {u0 u1 u2 : Value} :
    Below w.heap.size w (((wx.setCell ⟨w.heap.size + 1, 0, none⟩ u0).setCell ⟨w.heap.size + 1, 1, none⟩ u1).setCell ⟨w.heap.size + 1, 2, none⟩ u2) :=
  ((h.2.2.2.2.2.2.2.2.1.setCell (p := ⟨w.heap.size + 1, 0, none⟩) (by show _ ≤ w.heap.size + 1; omega) _).setCell (p := ⟨w.heap.size + 1, 1, none⟩) (by show _ ≤ w.heap.size + 1; omega) _).setCell (p := ⟨w.heap.size + 1, 2, none⟩) (by show _ ≤ w.heap.size + 1; omega) _


set_option maxHeartbeats 4000000 in
theorem spec.DeblockRef_no1 (x y : Int) (a : Option Addr) (c : Nat) (l : List Int) (q : Int) (w : World) (hx : -9223372036854775808 ≤ x ∧ x ≤ 9223372036854775807) (hy : -9223372036854775808 ≤ y ∧ y ≤ 9223372036854775807) (hl : l.length ≤ 1099511627776) (hr : Row w a l) (hw : ∀ x ∈ l, -9223372036854775808 ≤ x ∧ x ≤ 9223372036854775807) (hsh : Shape a c l) (h : frameB x y l = false) :
    Calls Try.prog 13 #[frv x y a l.length c, .int .i64 q] w fun e w' => ∃ b d, e = .returned (frv x y b l.length d) ∧ Own w.heap.size w' b d l ∧ Below w.heap.size w w' := by
  have hfi := fun w0 (h : Row w0 a l) => spec.FrameOk_c x y a c l w0 hx hy hl h hw
  simp only [h] at hfi
  have HFI := Lib.hid hfi
  have hown := fun w0 (h : Row w0 a l) => l18Copy_c x y a c l w0 hl h hsh
  have HO := Lib.hid hown
  have HRR : Hid (∀ w0, Below w.heap.size w w0 → Row w0 a l) := Lib.hid (fun w0 h => hr.below h (Nat.le_refl _))
  clear hfi hx hy hw h hown hr
  go_enter Try.func13, Try.ntmps13
  go_wp2_with fail
  obtain ⟨W0, hW0⟩ : ∃ WW, WW = (w.alloc (.cells #[.int .i64 x, .int .i64 y, .slice a l.length c] 26)).alloc (.cells #[.int .i64 0, .int .i64 0, .slice none 0 0] 26) := ⟨_, rfl⟩
  rw [← hW0]
  have hP0 : Pre2 w x y a c l.length W0 := by rw [hW0]; exact Pre2.start _
  clear hW0
  refine (HFI.out W0 (HRR.out _ hP0.2.2.2)).mono ?_
  rintro e w1 ⟨rfl, hb⟩
  have hP1 := hP0.below hb
  clear hb hP0
  have HP1 := Lib.hid hP1
  obtain ⟨⟨_, b0, b1, b2⟩, _, _, _⟩ := hP1
  go_wp2_with fail
  refine (HO.out w1 (HRR.out _ HP1.out.2.2.2)).mono ?_
  rintro e w2 ⟨b, d, rfl, ho, hb⟩
  have hP2 := HP1.out.below hb
  have HOO := Lib.hid (ho.mono (B' := w.heap.size + 2) HP1.out.2.1.1)
  have HP2 := Lib.hid hP2
  clear ho hb b0 b1 b2
  obtain ⟨_, ⟨_, r0, r1, r2⟩, F, _⟩ := hP2
  have f0 := F 0
  have f1 := F 1
  have f2 := F 2
  clear F
  go_wp2
  have hT := three_set (.int .i64 x) (.int .i64 y) (.slice b l.length d) r0 r1 r2
  refine bodyPost_ret (v := frv x y b l.length d) (by simp [results, Try.results13, go_sem, hT]) rfl ⟨b, d, rfl, ?_, ?_⟩
  · exact (((HOO.out.far (p := ⟨w.heap.size + 1, 0, none⟩) (by show w.heap.size + 1 < w.heap.size + 2; omega) _).far (p := ⟨w.heap.size + 1, 1, none⟩) (by show w.heap.size + 1 < w.heap.size + 2; omega) _).far (p := ⟨w.heap.size + 1, 2, none⟩) (by show w.heap.size + 1 < w.heap.size + 2; omega) _).mono (by omega)
  · exact ((HP2.out.2.2.2.setCell (p := ⟨w.heap.size + 1, 0, none⟩) (by show _ ≤ w.heap.size + 1; omega) _).setCell (p := ⟨w.heap.size + 1, 1, none⟩) (by show _ ≤ w.heap.size + 1; omega) _).setCell (p := ⟨w.heap.size + 1, 2, none⟩) (by show _ ≤ w.heap.size + 1; omega) _
set_option maxHeartbeats 4000000 in
theorem spec.DeblockRef_no2 (x y : Int) (a : Option Addr) (c : Nat) (l : List Int) (q : Int) (w : World) (hx : -9223372036854775808 ≤ x ∧ x ≤ 9223372036854775807) (hy : -9223372036854775808 ≤ y ∧ y ≤ 9223372036854775807) (hl : l.length ≤ 1099511627776) (hr : Row w a l) (hw : ∀ x ∈ l, -9223372036854775808 ≤ x ∧ x ≤ 9223372036854775807) (hsh : Shape a c l) (h : frameB x y l = true) (h2 : inR 0 51 q = false) :
    Calls Try.prog 13 #[frv x y a l.length c, .int .i64 q] w fun e w' => ∃ b d, e = .returned (frv x y b l.length d) ∧ Own w.heap.size w' b d l ∧ Below w.heap.size w w' := by
  have hfi := fun w0 (h : Row w0 a l) => spec.FrameOk_c x y a c l w0 hx hy hl h hw
  simp only [h] at hfi
  have HFI := Lib.hid hfi
  have hown := fun w0 (h : Row w0 a l) => l18Copy_c x y a c l w0 hl h hsh
  have HO := Lib.hid hown
  have HRR : Hid (∀ w0, Below w.heap.size w w0 → Row w0 a l) := Lib.hid (fun w0 h => hr.below h (Nat.le_refl _))
  have ha : (alphaF q == 0) = true := by simp [alphaF, h2]
  clear h2
  clear hfi hx hy hw h hown hr
  go_enter Try.func13, Try.ntmps13
  go_wp2_with fail
  obtain ⟨W0, hW0⟩ : ∃ WW, WW = (w.alloc (.cells #[.int .i64 x, .int .i64 y, .slice a l.length c] 26)).alloc (.cells #[.int .i64 0, .int .i64 0, .slice none 0 0] 26) := ⟨_, rfl⟩
  rw [← hW0]
  have hP0 : Pre2 w x y a c l.length W0 := by rw [hW0]; exact Pre2.start _
  clear hW0
  refine (HFI.out W0 (HRR.out _ hP0.2.2.2)).mono ?_
  rintro e w1 ⟨rfl, hb⟩
  have hP1 := hP0.below hb
  clear hb hP0
  have HP1 := Lib.hid hP1
  obtain ⟨⟨_, b0, b1, b2⟩, _, _, _⟩ := hP1
  go_wp2_with (go_at_call 41; refine (spec.AlphaOf_c _ _).mono ?_; rintro e w' ⟨rfl, rfl⟩)
  refine (HO.out w1 (HRR.out _ HP1.out.2.2.2)).mono ?_
  rintro e w2 ⟨b, d, rfl, ho, hb⟩
  have hP2 := HP1.out.below hb
  have HOO := Lib.hid (ho.mono (B' := w.heap.size + 2) HP1.out.2.1.1)
  have HP2 := Lib.hid hP2
  clear ho hb b0 b1 b2
  obtain ⟨_, ⟨_, r0, r1, r2⟩, F, _⟩ := hP2
  have f0 := F 0
  have f1 := F 1
  have f2 := F 2
  clear F
  go_wp2
  have hT := three_set (.int .i64 x) (.int .i64 y) (.slice b l.length d) r0 r1 r2
  refine bodyPost_ret (v := frv x y b l.length d) (by simp [results, Try.results13, go_sem, hT]) rfl ⟨b, d, rfl, ?_, ?_⟩
  · exact (((HOO.out.far (p := ⟨w.heap.size + 1, 0, none⟩) (by show w.heap.size + 1 < w.heap.size + 2; omega) _).far (p := ⟨w.heap.size + 1, 1, none⟩) (by show w.heap.size + 1 < w.heap.size + 2; omega) _).far (p := ⟨w.heap.size + 1, 2, none⟩) (by show w.heap.size + 1 < w.heap.size + 2; omega) _).mono (by omega)
  · exact ((HP2.out.2.2.2.setCell (p := ⟨w.heap.size + 1, 0, none⟩) (by show _ ≤ w.heap.size + 1; omega) _).setCell (p := ⟨w.heap.size + 1, 1, none⟩) (by show _ ≤ w.heap.size + 1; omega) _).setCell (p := ⟨w.heap.size + 1, 2, none⟩) (by show _ ≤ w.heap.size + 1; omega) _
set_option maxHeartbeats 8000000 in
theorem spec.DeblockRef_on (X Y : Nat) (a : Option Addr) (c : Nat) (l : List Int) (q : Int) (w : World) (hx : -9223372036854775808 ≤ (X : Int) ∧ (X : Int) ≤ 9223372036854775807) (hy : -9223372036854775808 ≤ (Y : Int) ∧ (Y : Int) ≤ 9223372036854775807) (hl : l.length ≤ 1099511627776) (hr : Row w a l) (hw : ∀ x ∈ l, -9223372036854775808 ≤ x ∧ x ≤ 9223372036854775807) (hsh : Shape a c l) (hX : 8 ≤ X ∧ X ≤ 32 ∧ X % 8 = 0) (hY : 8 ≤ Y ∧ Y ≤ 32 ∧ Y % 8 = 0) (hlen : l.length = X * Y) (h : frameB X Y l = true) (h2 : inR 0 51 q = true) :
    Calls Try.prog 13 #[frv X Y a l.length c, .int .i64 q] w fun e w' => ∃ b d, e = .returned (frv X Y b l.length d) ∧ Own w.heap.size w' b d (hA X q (vA X q 0 l Y) (Y / 8 - 1)) ∧ Below w.heap.size w w' := by
  have hfi := fun w0 (h : Row w0 a l) => spec.FrameOk_c X Y a c l w0 hx hy hl h hw
  simp only [h] at hfi
  have HFI := Lib.hid hfi
  have hown := fun w0 (h : Row w0 a l) => l18Copy_c X Y a c l w0 hl h hsh
  have HO := Lib.hid hown
  have HRR : Hid (∀ w0, Below w.heap.size w w0 → Row w0 a l) := Lib.hid (fun w0 h => hr.below h (Nat.le_refl _))
  have ha : (alphaF q == 0) = false := by have := inR_true h2; simp [alphaF, h2]; omega
  have hpos : 0 < l.length := by rw [hlen]; exact Nat.mul_pos (by omega) (by omega)
  have HLP := Lib.hid hpos
  obtain ⟨p, off, rfl, hpw, _⟩ := hr.inside hpos
  have hac := fun (g d c1 : Nat) w0 (ho : Own (w.heap.size + 2) w0 (some ⟨g, 0, none⟩) d l) (hrr : Row w0 (some ⟨p, off, none⟩) l) (hpg : p ≠ g) => spec.l20Across_copy X Y 0 Y q p off c1 l g d (w.heap.size + 2) l w0 hX hY.2.1 hlen (Nat.zero_le _) (Nat.le_refl _) ho rfl hrr hpg
  have HAC : Hid (∀ (g d c1 : Nat) w0, Own (w.heap.size + 2) w0 (some ⟨g, 0, none⟩) d l → Row w0 (some ⟨p, off, none⟩) l → p ≠ g → Calls Try.prog 43 #[frv X Y (some ⟨p, off, none⟩) l.length c1, frv X Y (some ⟨g, 0, none⟩) l.length d, .int .i64 q, .int .i64 0, .int .i64 Y] w0 fun e w' => e = .returned (frv X Y (some ⟨g, 0, none⟩) l.length d) ∧ Own (w.heap.size + 2) w' (some ⟨g, 0, none⟩) d (vA X q 0 l Y) ∧ w0.grownBy w' (some g)) := Lib.hid (fun g d c1 w0 h1 h2 h3 => by
    have h := hac g d c1 w0 h1 h2 h3
    rw [Nat.sub_zero, vAC_eq X q 0 l hX.1] at h
    exact h)
  obtain ⟨m, hm⟩ : ∃ m, m = vA X q 0 l Y := ⟨_, rfl⟩
  rw [← hm] at HAC ⊢
  have hml : m.length = l.length := by rw [hm, vA_len]
  have HML := Lib.hid hml
  have hcp2 := fun (g d : Nat) w0 (h : Own (w.heap.size + 2) w0 (some ⟨g, 0, none⟩) d m) => l18Copy_c X Y (some ⟨g, 0, none⟩) d m w0 (by omega) h.row h.shape
  rw [hml] at hcp2
  have HC2 := Lib.hid hcp2
  have hdn := fun (g d g2 d2 j : Nat) w0 (hj : 8 * (j + 1) + 8 ≤ Y) (ho : Own (w.heap.size + 2) w0 (some ⟨g2, 0, none⟩) d2 (hA X q m j)) (hrr : Row w0 (some ⟨g, 0, none⟩) m) (hpg : g ≠ g2) => spec.l20Down_copy X Y (8 * (j + 1)) q g 0 d m g2 d2 (w.heap.size + 2) (hA X q m j) w0 ⟨hX.1, hX.2.1⟩ hY.2.1 (by rw [hA_len, hml]; exact hlen) (by omega) (by omega) ho (by rw [hA_len]) hrr hpg
  simp only [hA_len, hml] at hdn
  have HDN : Hid (∀ (g d g2 d2 j yy : Nat) w0, yy = 8 * (j + 1) → yy + 8 ≤ Y → Own (w.heap.size + 2) w0 (some ⟨g2, 0, none⟩) d2 (hA X q m j) → Row w0 (some ⟨g, 0, none⟩) m → g ≠ g2 → Calls Try.prog 44 #[frv X Y (some ⟨g, 0, none⟩) l.length d, frv X Y (some ⟨g2, 0, none⟩) l.length d2, .int .i64 q, .int .i64 yy] w0 fun e w' => e = .returned (frv X Y (some ⟨g2, 0, none⟩) l.length d2) ∧ Own (w.heap.size + 2) w' (some ⟨g2, 0, none⟩) d2 (hA X q m (j + 1)) ∧ w0.grownBy w' (some g2)) := Lib.hid (fun g d g2 d2 j yy w0 hyy h1 h2 h3 h4 => by
    subst hyy
    have h := hdn g d g2 d2 j w0 h1 h2 h3 h4
    have e : hRC X q (8 * (j + 1)) m (hA X q m j) X = hA X q m (j + 1) := by
      have e1 := hAC_eq X q m (by omega) (j + 1)
      rw [hAC, hAC_eq X q m (by omega) j] at e1
      exact e1
    rw [e] at h
    exact h)
  have hX1 := hX.2.1
  have hY1 := hY.2.1
  have hY0 := hY.1
  have HY2 := Lib.hid hY.2.2
  clear hfi hx hy hw h hown hr h2 hpos hac hm hml hcp2 hdn hlen hX hY
  go_enter Try.func13, Try.ntmps13
  go_wp2_with fail
  obtain ⟨W0, hW0⟩ : ∃ WW, WW = (w.alloc (.cells #[.int .i64 X, .int .i64 Y, .slice (some ⟨p, off, none⟩) l.length c] 26)).alloc (.cells #[.int .i64 0, .int .i64 0, .slice none 0 0] 26) := ⟨_, rfl⟩
  rw [← hW0]
  have hP0 : Pre2 w X Y (some ⟨p, off, none⟩) c l.length W0 := by rw [hW0]; exact Pre2.start _
  clear hW0
  refine (HFI.out W0 (HRR.out _ hP0.2.2.2)).mono ?_
  rintro e wf ⟨rfl, hb⟩
  have hP1 := hP0.below hb
  clear hb hP0
  have HP1 := Lib.hid hP1
  obtain ⟨⟨_, b0, b1, b2⟩, _, _, _⟩ := hP1
  go_wp2_with (go_at_call 41; refine (spec.AlphaOf_c _ _).mono ?_; rintro e w' ⟨rfl, rfl⟩)
  have hwf : w.heap.size + 2 ≤ wf.heap.size := HP1.out.2.1.1
  go_cut [5] (fun s5 wx => DebCut w X Y (some ⟨p, off, none⟩) c l m s5 wx)
  case first =>
    go_region_held3 (fun w' => w'.cell? ⟨w.heap.size, 0, none⟩ = some (.int .i64 X) ∧ w'.cell? ⟨w.heap.size, 1, none⟩ = some (.int .i64 Y) ∧ w'.cell? ⟨w.heap.size, 2, none⟩ = some (.slice (some ⟨p, off, none⟩) l.length c)) (first | go_keep)
      ((first
        | (go_at_call 42; refine (HO.out _ (by first | exact (HRR.out _ HP1.out.2.2.2).drew | exact (HRR.out _ HP1.out.2.2.2).drew.alloc _)).mono ?_; rintro e w1 ⟨b, d, rfl, ho, hb⟩; obtain ⟨g, rfl, _⟩ := ho.at_ (i := 0) HLP.out; have hgl := (ho.lt _ rfl).1; have hgh := (ho.lt _ rfl).2; have hgl : _ ≤ g := hgl; have hgh : g < w1.heap.size := hgh; have hgf : wf.heap.size ≤ g := (by simp at hgl; omega); have k0 := bcell hb w.heap.size 0 (by simp; omega); have k1 := bcell hb w.heap.size 1 (by simp; omega); have k2 := bcell hb w.heap.size 2 (by simp; omega); have hcw := bcell hb; have hfw := bfrozen hb; have hsz1 : wf.heap.size < w1.heap.size := (by omega); have na : ¬ (w.heap.size = w1.heap.size) := (by omega); have na' : ¬ (w1.heap.size = w.heap.size) := (by omega); have nb : ¬ (w.heap.size = wf.heap.size) := (by omega); have nb' : ¬ (wf.heap.size = w.heap.size) := (by omega))
        | (go_at_call 43; refine (HAC.out g d c _ (by first | exact ho.mono (by simp; omega) | exact (ho.mono (by simp; omega)).alloc _) (by first | exact ((HRR.out _ HP1.out.2.2.2).drew).below hb (Nat.le_refl _) | exact (((HRR.out _ HP1.out.2.2.2).drew).below hb (Nat.le_refl _)).alloc _ | exact ((HRR.out _ HP1.out.2.2.2).drew.alloc _).below hb (Nat.le_refl _)) (by omega)).mono ?_; rintro e w2 ⟨rfl, ho2, hg2⟩; have hcg : ∀ b o, b < _ → ¬ (b = g) → w2.cell? ⟨b, o, none⟩ = _ := (fun b o h1 h2 => World.cell?_of_block (a := ⟨b, o, none⟩) (hg2.block b h1 (by intro e; injection e with e; exact h2 e))); have hfg : ∀ b o, b < _ → ¬ (b = g) → w2.frozen? ⟨b, o, none⟩ = _ := (fun b o h1 h2 => World.frozen?_of_block (a := ⟨b, o, none⟩) (hg2.block b h1 (by intro e; injection e with e; exact h2 e))); have j0 := hcg w.heap.size 0 (by first | omega | (simp; omega)) (by omega); have j1 := hcg w.heap.size 1 (by first | omega | (simp; omega)) (by omega); have j2 := hcg w.heap.size 2 (by first | omega | (simp; omega)) (by omega); have hsz2 := hg2.size; have nc : ¬ (w.heap.size = w2.heap.size) := (by first | omega | (simp at hsz2; omega)); have nc' : ¬ (w2.heap.size = w.heap.size) := (by first | omega | (simp at hsz2; omega)); have nd : ¬ (w1.heap.size = g) := (by omega); (first | (have ne : ¬ (wf.heap.size = g) := by (simp at hgl; omega)) | skip))))
    all_goals
      go_wp2_with fail
      go_meet
      first
        | exact DebCut.mk (deb_cutA _ ((HP1.out.below ((Below.refl wf.heap.size wf).drew.trans hb)).grown hg2 (by omega)) ho2)
        | exact DebCut.mk (deb_cutB (((HP1.out.below ((Below.refl wf.heap.size wf).drew.trans hb)).below ((Below.refl _ _).alloc (Nat.le_refl _) _)).grown hg2 (by omega)) ho2 ((Box3.new w1 _ _ _ _).grown (a := some ⟨g, 0, none⟩) hg2 (fun p hp => by cases hp; exact Nat.ne_of_lt hgh)) (by omega) (Nat.ne_of_lt hgh))
        | (have hgw : wf.heap.size < g := (by simp at hgl; omega); exact DebCut.mk (deb_cutB ((HP1.out.below (((Below.refl wf.heap.size wf).drew.alloc (Nat.le_refl _) _).trans (hb.mono (by simp)))).grown hg2 (by omega)) ho2 (((Box3.new wf.drew _ _ _ _).below hb (Nat.le_refl _)).grown (a := some ⟨g, 0, none⟩) hg2 (fun p hp => by cases hp; exact Nat.ne_of_gt hgw)) (by omega) (Nat.ne_of_gt hgw)))
        | (have hgw : wf.heap.size < g := (by simp at hgl; omega); exact DebCut.mk (deb_cutB ((HP1.out.below (((Below.refl wf.heap.size wf).alloc (Nat.le_refl _) _).drew.trans (hb.mono (by simp)))).grown hg2 (by omega)) ho2 (((Box3.new wf _ _ _ _).drew.below hb (Nat.le_refl _)).grown (a := some ⟨g, 0, none⟩) hg2 (fun p hp => by cases hp; exact Nat.ne_of_gt hgw)) (by omega) (Nat.ne_of_gt hgw)))
  case rest =>
    obtain ⟨o, g, d, rfl, hF⟩ := hcut
    clear HP1 HAC HO HFI HRR b0 b1 b2 hwf
    have HF := Lib.hid hF
    obtain ⟨_, k0, k1, k2⟩ := hF.1
    have hoh := hF.1.1
    have hown := hF.2.1
    have hgo := hF.2.2.2.2.2.2.1 ⟨g, 0, none⟩ rfl
    clear hF
    go_wp2_with fail
    refine (HC2.out g d wc hown).mono ?_
    rintro e w2 ⟨b2, d2, rfl, o2, k12⟩
    obtain ⟨g2, rfl, hg2, hg2h, _⟩ := o2.at_ (i := 0) (by rw [HML.out]; exact HLP.out)
    have hD := Deb2.start 26 HF.out o2 k12
    obtain ⟨oo, hoo⟩ : ∃ z, z = w2.heap.size := ⟨_, rfl⟩
    rw [← hoo] at hD
    have HD := Lib.hid hD
    clear hD hown k12 o2 k0 k1 k2 hoh hgo hg2 hg2h HF
    go_wp2_with fail
    rw [← hoo]
    clear hoo
    go_loopw [7] (fun i wr => ∃ (j yy : Nat), yy = 8 * (j + 1) ∧ yy ≤ Y ∧ i = .int .i64 yy ∧ Deb2 w X Y (some ⟨p, off, none⟩) c l.length o g d oo g2 d2 m (hA X q m j) wr) (fun i _ => Y - (intOf i).toNat)
    case atStart => exact ⟨0, 8, rfl, hY0, rfl, HD.out⟩
    case round =>
      clear HD
      obtain ⟨j, yy, hyy, hyY, rfl, hD⟩ := hrel
      have HD := Lib.hid hD
      have HYY := Lib.hid hyy
      obtain ⟨⟨_, a0, a1, a2⟩, _, _, ⟨_, k0, k1, k2⟩, ⟨_, n0, n1, n2⟩, _, hrow, hown, _, hgg, _⟩ := hD
      by_cases hlt : yy < Y
      · have hltd : decide ((yy : Int) < (Y : Int)) = true := decide_eq_true (by omega)
        have hltn : decide (yy < Y) = true := decide_eq_true hlt
        have hy8 : yy + 8 ≤ Y := by have := HY2.out; omega
        have HCL := Lib.hid (HDN.out g d g2 d2 j yy wr hyy hy8 hown hrow hgg)
        clear hrow hown hgg hyy
        go_wp2_with fail
        refine HCL.out.mono ?_
        rintro e w3 ⟨rfl, ho3, hg3⟩
        have HD3 := Lib.hid (HD.out.grown hg3 ho3)
        clear ho3 hg3 a0 a1 a2 k0 k1 k2 n0 n1 n2 HCL
        obtain ⟨_, _, _, _, ⟨_, n0, n1, n2⟩, FZ, _⟩ := HD3.out
        have f0 := FZ 0
        have f1 := FZ 1
        have f2 := FZ 2
        clear FZ
        have e8 : IntKind.i64.wrap ((yy : Int) + 8) = ((yy + 8 : Nat) : Int) := by rw [IntWalk.i64_in _ (by omega), Int.natCast_add]; rfl
        have HD4 := Lib.hid HD3.out.put
        clear HD HD3
        go_wp2
        go_roundw
        case rel => exact ⟨j + 1, yy + 8, by have := HYY.out; omega, hy8, by go_num, HD4.out⟩
        case measure => simp [intOf]; omega
      · obtain rfl : yy = Y := by omega
        have hj : j = yy / 8 - 1 := by omega
        have hltd : decide ((yy : Int) < (yy : Int)) = false := decide_eq_false (by omega)
        subst hj
        clear hyy
        obtain ⟨_, ⟨_, r0, r1, r2⟩, FR, _⟩ := HD.out
        have f0 := FR 0
        have f1 := FR 1
        have f2 := FR 2
        have h9 := HD.out.le2
        have hn9 : ¬ (oo = w.heap.size + 1) := by omega
        have hn8 : ¬ (w.heap.size + 1 = oo) := by omega
        clear FR hrow hown hgg
        go_wp2
        have hT := three_set (.int .i64 X) (.int .i64 yy) (.slice (some ⟨g2, 0, none⟩) l.length d2) r0 r1 r2
        refine bodyPost_ret (v := frv X yy (some ⟨g2, 0, none⟩) l.length d2) (by simp [results, Try.results13, go_sem, hT]) rfl ⟨_, d2, rfl, ?_, ?_⟩
        · exact HD.out.fin1
        · exact HD.out.fin2
theorem spec.DeblockRef_c (x y : Int) (a : Option Addr) (c : Nat) (l : List Int) (q : Int) (w : World) (hx : -9223372036854775808 ≤ x ∧ x ≤ 9223372036854775807) (hy : -9223372036854775808 ≤ y ∧ y ≤ 9223372036854775807) (hl : l.length ≤ 1099511627776) (hr : Row w a l) (hw : ∀ x ∈ l, -9223372036854775808 ≤ x ∧ x ≤ 9223372036854775807) (hsh : Shape a c l) :
    Calls Try.prog 13 #[frv x y a l.length c, .int .i64 q] w fun e w' => ∃ b d, e = .returned (frv x y b (debV x y l q).length d) ∧ Own w.heap.size w' b d (debV x y l q) ∧ Below w.heap.size w w' := by
  rw [debV_len]
  cases h : frameB x y l
  · have e2 : debV x y l q = l := by simp [debV, filtB, h]
    rw [e2]
    exact spec.DeblockRef_no1 x y a c l q w hx hy hl hr hw hsh h
  · cases h2 : inR 0 51 q
    · have e2 : debV x y l q = l := by simp [debV, filtB, h, h2]
      rw [e2]
      exact spec.DeblockRef_no2 x y a c l q w hx hy hl hr hw hsh h h2
    · have hf : filtB x y l q = true := by simp [filtB, h, h2]
      have e2 : debV x y l q = hA x.toNat q (vA x.toNat q 0 l y.toNat) (y.toNat / 8 - 1) := by simp [debV, hf]
      rw [e2]
      obtain ⟨X, Y, rfl, rfl, hX, hY, hlen⟩ := filt_split hf
      exact spec.DeblockRef_on X Y a c l q w hx hy hl hr hw hsh hX hY hlen h h2

end Go.Proofs.Ytkfjbnhihjnhnaa
