/- Contracts: a block written into a frame. -/
import Derived.Test.YtkfjbnhihjnhnaaOwn
import Derived.Test.YtkfjbnhihjnhnaaBlk2
import Derived.StillTailTactics
import Derived.Deep.DeepCutAuto
namespace Go.Proofs.Ytkfjbnhihjnhnaa
open Go.RowKit
set_option linter.unusedVariables false

/-- the first k numbers of a block written into a frame -/
def setBL (X : Nat) (l : List Int) (u v n : Nat) (s : List Int) : Nat → List Int | 0 => l | k + 1 => (setBL X l u v n s k).set ((v + k / n) * X + u + k % n) (s.getD k 0)
theorem setBL_len (X : Nat) (l : List Int) (u v n : Nat) (s : List Int) (k : Nat) : (setBL X l u v n s k).length = l.length := by
  induction k with
  | zero => rfl
  | succ k ih => rw [setBL, List.length_set, ih]
def setOk (x y : Int) (l : List Int) (u v : Int) (s : List Int) : Bool := fitsB x y l u v (sizeF s.length) && allR 0 255 s
def setV (x y : Int) (l : List Int) (u v : Int) (s : List Int) : List Int := if setOk x y l u v s = true then setBL x.toNat l u.toNat v.toNat (sizeF s.length).toNat s s.length else l
theorem setV_len (x y : Int) (l : List Int) (u v : Int) (s : List Int) : (setV x y l u v s).length = l.length := by
  unfold setV
  split
  · exact setBL_len _ _ _ _ _ _ _
  · rfl
theorem Box3.far {w : World} {b : Nat} {v0 v1 v2 : Value} (h : Box3 w b v0 v1 v2) {p : Addr} (hp : p.block ≠ b) (x : Value) : Box3 (w.setCell p x) b v0 v1 v2 := by
  obtain ⟨hl, h0, h1, h2⟩ := h
  have ne : ∀ i, (⟨b, i, none⟩ : Addr) ≠ p := fun i e => hp (by rw [← e])
  refine ⟨by simpa using hl, ?_, ?_, ?_⟩
  · rw [World.cell?_setCell_other _ _ _ _ (by first | exact ne _ | exact (ne _).symm)]; exact h0
  · rw [World.cell?_setCell_other _ _ _ _ (by first | exact ne _ | exact (ne _).symm)]; exact h1
  · rw [World.cell?_setCell_other _ _ _ _ (by first | exact ne _ | exact (ne _).symm)]; exact h2
theorem bfrozen {B : Nat} {W w1 : World} (hb : Below B W w1) : ∀ b o, b < B → w1.frozen? ⟨b, o, none⟩ = W.frozen? ⟨b, o, none⟩ := fun b o h => hb.frozen (p := ⟨b, o, none⟩) h
/-- what stands behind the copy: the copy's block o, its row, the result's block still empty -/
def OwnFacts (w : World) (x y : Int) (a : Option Addr) (c : Nat) (l : List Int) (o : Nat) (b : Option Addr) (d : Nat) (l2 : List Int) (wx : World) : Prop :=
  Box3 wx o (.int .i64 x) (.int .i64 y) (.slice b l.length d) ∧ Own (w.heap.size + 2) wx b d l2 ∧ Below w.heap.size w wx ∧
    Box3 wx w.heap.size (.int .i64 x) (.int .i64 y) (.slice a l.length c) ∧ Box3 wx (w.heap.size + 1) (.int .i64 0) (.int .i64 0) (.slice none 0 0) ∧ (∀ i, wx.frozen? ⟨w.heap.size + 1, i, none⟩ = false) ∧ (∀ p, b = some p → p.block ≠ o) ∧ w.heap.size + 2 ≤ o
def OwnCut (w : World) (x y : Int) (a : Option Addr) (c : Nat) (l : List Int) (n : Int) (s10 s11 : Value) (wx : World) : Prop :=
  ∃ (o : Nat) (b : Option Addr) (d : Nat), s10 = .int .i64 n ∧ s11 = .pointer (some ⟨o, 0, none⟩) ∧ OwnFacts w x y a c l o b d l wx
theorem own_cut1 {w W0 w1 : World} {x y : Int} {a b : Option Addr} {c d : Nat} {l : List Int} {n : Int} (t : TypeId) (HB0 : Below w.heap.size w W0) (HZ : W0.heap.size = w.heap.size + 1 + 1) (P : Box3 W0 w.heap.size (.int .i64 x) (.int .i64 y) (.slice a l.length c))
    (RA : Box3 W0 (w.heap.size + 1) (.int .i64 0) (.int .i64 0) (.slice none 0 0)) (RF : ∀ i, W0.frozen? ⟨w.heap.size + 1, i, none⟩ = false) (ho : Own W0.heap.size w1 b d l) (hb : Below W0.heap.size W0 w1) :
    OwnCut w x y a c l n (.int .i64 n) (.pointer (some ⟨w1.heap.size, 0, none⟩)) (w1.alloc (.cells #[.int .i64 x, .int .i64 y, .slice b l.length d] t)) := by
  have hz := hb.size
  have al : Below w1.heap.size w1 (w1.alloc (.cells #[.int .i64 x, .int .i64 y, .slice b l.length d] t)) := (Below.refl _ _).alloc (Nat.le_refl _) _
  refine ⟨w1.heap.size, b, d, rfl, rfl, Box3.new _ _ _ _ _, (ho.mono (by omega)).alloc _, (HB0.trans (hb.mono (by omega))).trans (al.mono (by omega)), (P.below hb (Nat.le_refl _)).below al (Nat.le_refl _), (RA.below hb (Nat.le_refl _)).below al (Nat.le_refl _), fun i => ?_, fun p hp => ?_, by omega⟩
  · rw [bfrozen al _ _ (by omega), bfrozen hb _ _ (by omega)]; exact RF i
  · have := (ho.lt p hp).2; omega
theorem own_cut2 {w W0 w1 : World} {x y : Int} {a b : Option Addr} {c d : Nat} {l : List Int} {n : Int} (HB0 : Below w.heap.size w W0) (HZ : W0.heap.size = w.heap.size + 1 + 1) (P : Box3 W0 w.heap.size (.int .i64 x) (.int .i64 y) (.slice a l.length c))
    (RA : Box3 W0 (w.heap.size + 1) (.int .i64 0) (.int .i64 0) (.slice none 0 0)) (RF : ∀ i, W0.frozen? ⟨w.heap.size + 1, i, none⟩ = false) (ho : Own (W0.heap.size + 1) w1 b d l) (hb : Below W0.heap.size W0 w1) (O : Box3 w1 W0.heap.size (.int .i64 0) (.int .i64 0) (.slice none 0 0)) :
    OwnCut w x y a c l n (.int .i64 n) (.pointer (some ⟨W0.heap.size, 0, none⟩)) (((w1.setCell ⟨W0.heap.size, 0, none⟩ (.int .i64 x)).setCell ⟨W0.heap.size, 1, none⟩ (.int .i64 y)).setCell ⟨W0.heap.size, 2, none⟩ (.slice b l.length d)) := by
  have hz := hb.size
  have hT := three_set (.int .i64 x) (.int .i64 y) (.slice b l.length d) O.2.1 O.2.2.1 O.2.2.2
  refine ⟨W0.heap.size, b, d, rfl, rfl, ⟨by simpa using O.1, hT⟩, ?_, ?_, ?_, ?_, fun i => ?_, fun p hp => ?_, by omega⟩
  · exact (((ho.far (p := ⟨W0.heap.size, 0, none⟩) (Nat.lt_succ_self _) _).far (p := ⟨W0.heap.size, 1, none⟩) (Nat.lt_succ_self _) _).far (p := ⟨W0.heap.size, 2, none⟩) (Nat.lt_succ_self _) _).mono (by omega)
  · exact (((HB0.trans (hb.mono (by omega))).setCell (p := ⟨W0.heap.size, 0, none⟩) (by show w.heap.size ≤ W0.heap.size; omega) _).setCell (p := ⟨W0.heap.size, 1, none⟩) (by show w.heap.size ≤ W0.heap.size; omega) _).setCell (p := ⟨W0.heap.size, 2, none⟩) (by show w.heap.size ≤ W0.heap.size; omega) _
  · exact (((P.below hb (Nat.le_refl _)).far (p := ⟨W0.heap.size, 0, none⟩) (by show W0.heap.size ≠ _; omega) _).far (p := ⟨W0.heap.size, 1, none⟩) (by show W0.heap.size ≠ _; omega) _).far (p := ⟨W0.heap.size, 2, none⟩) (by show W0.heap.size ≠ _; omega) _
  · exact (((RA.below hb (Nat.le_refl _)).far (p := ⟨W0.heap.size, 0, none⟩) (by show W0.heap.size ≠ _; omega) _).far (p := ⟨W0.heap.size, 1, none⟩) (by show W0.heap.size ≠ _; omega) _).far (p := ⟨W0.heap.size, 2, none⟩) (by show W0.heap.size ≠ _; omega) _
  · have := (bfrozen hb (w.heap.size + 1) i (by omega)).trans (RF i)
    simp [go_sem, this]
  · have := (ho.lt p hp).1; omega
/-- the result's block is filled: the end of a function that hands a frame back -/
theorem OwnFacts.done {w wx : World} {x y : Int} {a b : Option Addr} {c d o : Nat} {l l2 : List Int} (h : OwnFacts w x y a c l o b d l2 wx) :
    (((((wx.setCell ⟨w.heap.size + 1, 0, none⟩ (.int .i64 x)).setCell ⟨w.heap.size + 1, 1, none⟩ (.int .i64 y)).setCell ⟨w.heap.size + 1, 2, none⟩ (.slice b l.length d)).cell? ⟨w.heap.size + 1, 0, none⟩ = some (.int .i64 x)) ∧
    ((((wx.setCell ⟨w.heap.size + 1, 0, none⟩ (.int .i64 x)).setCell ⟨w.heap.size + 1, 1, none⟩ (.int .i64 y)).setCell ⟨w.heap.size + 1, 2, none⟩ (.slice b l.length d)).cell? ⟨w.heap.size + 1, 1, none⟩ = some (.int .i64 y)) ∧
    ((((wx.setCell ⟨w.heap.size + 1, 0, none⟩ (.int .i64 x)).setCell ⟨w.heap.size + 1, 1, none⟩ (.int .i64 y)).setCell ⟨w.heap.size + 1, 2, none⟩ (.slice b l.length d)).cell? ⟨w.heap.size + 1, 2, none⟩ = some (.slice b l.length d))) ∧
    Own w.heap.size (((wx.setCell ⟨w.heap.size + 1, 0, none⟩ (.int .i64 x)).setCell ⟨w.heap.size + 1, 1, none⟩ (.int .i64 y)).setCell ⟨w.heap.size + 1, 2, none⟩ (.slice b l.length d)) b d l2 ∧
    Below w.heap.size w (((wx.setCell ⟨w.heap.size + 1, 0, none⟩ (.int .i64 x)).setCell ⟨w.heap.size + 1, 1, none⟩ (.int .i64 y)).setCell ⟨w.heap.size + 1, 2, none⟩ (.slice b l.length d)) := by
  obtain ⟨_, ho, hb, _, R, _, _, _⟩ := h
  refine ⟨three_set _ _ _ R.2.1 R.2.2.1 R.2.2.2, ?_, ?_⟩
  · exact (((ho.far (p := ⟨w.heap.size + 1, 0, none⟩) (by show w.heap.size + 1 < w.heap.size + 2; omega) _).far (p := ⟨w.heap.size + 1, 1, none⟩) (by show w.heap.size + 1 < w.heap.size + 2; omega) _).far (p := ⟨w.heap.size + 1, 2, none⟩) (by show w.heap.size + 1 < w.heap.size + 2; omega) _).mono (by omega)
  · exact ((hb.setCell (p := ⟨w.heap.size + 1, 0, none⟩) (by show _ ≤ w.heap.size + 1; omega) _).setCell (p := ⟨w.heap.size + 1, 1, none⟩) (by show _ ≤ w.heap.size + 1; omega) _).setCell (p := ⟨w.heap.size + 1, 2, none⟩) (by show _ ≤ w.heap.size + 1; omega) _
theorem OwnFacts.below {w wx w' : World} {x y : Int} {a b : Option Addr} {c d o : Nat} {l l2 : List Int} (h : OwnFacts w x y a c l o b d l2 wx) (hb : Below wx.heap.size wx w') : OwnFacts w x y a c l o b d l2 w' := by
  obtain ⟨h1, h2, h3, h4, h5, h6, h7, h8⟩ := h
  exact ⟨h1.below hb (Nat.le_refl _), h2.below hb (Nat.le_refl _), h3.trans (hb.mono h3.size), h4.below hb (Nat.le_refl _), h5.below hb (Nat.le_refl _), fun i => (bfrozen hb _ _ h5.1).trans (h6 i), h7, h8⟩
theorem OwnFacts.drew {w wx : World} {x y : Int} {a b : Option Addr} {c d o : Nat} {l l2 : List Int} (h : OwnFacts w x y a c l o b d l2 wx) : OwnFacts w x y a c l o b d l2 wx.drew := h.below (Below.refl _ _).drew
/-- one number of the copy's row is set -/
theorem OwnFacts.stored {w wx : World} {x y : Int} {a : Option Addr} {c d o g : Nat} {l l2 : List Int} (h : OwnFacts w x y a c l o (some ⟨g, 0, none⟩) d l2 wx) (i : Nat) (v : Int) : OwnFacts w x y a c l o (some ⟨g, 0, none⟩) d (l2.set i v) (wx.setCell ⟨g, i, none⟩ (.int .i64 v)) := by
  obtain ⟨h1, h2, h3, h4, h5, h6, h7, h8⟩ := h
  have hg : w.heap.size + 2 ≤ g := (h2.lt _ rfl).1
  have ho : g ≠ o := h7 _ rfl
  exact ⟨h1.far ho _, h2.stored i v, h3.setCell (p := ⟨g, i, none⟩) (by show w.heap.size ≤ g; omega) _, h4.far (by show g ≠ _; omega) _, h5.far (by show g ≠ _; omega) _, fun j => by simp [go_sem, h6 j], h7, h8⟩


set_option maxHeartbeats 4000000 in
theorem impl.SetBlock_no (x y : Int) (a : Option Addr) (c : Nat) (l : List Int) (u v : Int) (a2 : Option Addr) (c2 : Nat) (s : List Int) (w : World) (hl : l.length ≤ 1099511627776) (hr : Row w a l) (hl2 : s.length ≤ 1099511627776) (hr2 : Row w a2 s) (hx : -9223372036854775808 ≤ x ∧ x ≤ 9223372036854775807) (hy : -9223372036854775808 ≤ y ∧ y ≤ 9223372036854775807) (hw : ∀ x ∈ l, -9223372036854775808 ≤ x ∧ x ≤ 9223372036854775807) (h : fitsB x y l u v (sizeF s.length) = false) :
    Calls Try.prog 31 #[frv x y a l.length c, .int .i64 u, .int .i64 v, .slice a2 s.length c2] w fun e w' => ∃ b d, e = .returned (.tuple #[frv x y b l.length d, .bool false]) ∧ Own w.heap.size w' b d (l) ∧ Below w.heap.size w w' := by
  have hfi := fun w0 (h : Row w0 a l) => impl.fits_c x y a c l u v (sizeF s.length) w0 hx hy hl h hw
  simp only [h] at hfi
  have HFI := Lib.hid hfi
  have HRR : Hid (∀ w0, Below w.heap.size w w0 → Row w0 a l ∧ Row w0 a2 s) := Lib.hid (fun w0 h => ⟨hr.below h (Nat.le_refl _), hr2.below h (Nat.le_refl _)⟩)
  have HSZ : Hid (∀ w0 : World, Calls Try.prog 66 #[.int .i64 s.length] w0 fun e w' => e = .returned (.int .i64 (sizeF s.length)) ∧ w0 = w') := Lib.hid (fun w0 => impl.sizeOf_c _ _ hl2)
  clear hfi hx hy hw h hr2
  have hown := fun w0 (h : Row w0 a l) => own_c x y a c l w0 hl h
  have HO := Lib.hid hown
  have HRW := Lib.hid hr
  clear hown
  go_enter Try.func31, Try.ntmps31
  go_upto_region 1 with fail
  obtain ⟨W0, hW0⟩ : ∃ WW, WW = (w.alloc (.cells #[.int .i64 x, .int .i64 y, .slice a l.length c] 26)).alloc (.cells #[.int .i64 0, .int .i64 0, .slice none 0 0] 26) := ⟨_, rfl⟩
  rw [← hW0]
  have c0 : W0.cell? ⟨w.heap.size, 0, none⟩ = some (.int .i64 x) := by rw [hW0]; simp
  have c1 : W0.cell? ⟨w.heap.size, 1, none⟩ = some (.int .i64 y) := by rw [hW0]; simp
  have c2' : W0.cell? ⟨w.heap.size, 2, none⟩ = some (.slice a l.length c) := by rw [hW0]; simp
  have PA : Hid (Box3 W0 w.heap.size (.int .i64 x) (.int .i64 y) (.slice a l.length c)) := Lib.hid (by rw [hW0]; exact (Box3.new w _ _ _ _).below ((Below.refl _ _).alloc (Nat.le_refl _) _) (Nat.le_refl _))
  have RA : Hid (Box3 W0 (w.heap.size + 1) (.int .i64 0) (.int .i64 0) (.slice none 0 0)) := Lib.hid (by rw [hW0]; exact ⟨by simp, by simp, by simp, by simp⟩)
  have RF : Hid (∀ i, W0.frozen? ⟨w.heap.size + 1, i, none⟩ = false) := Lib.hid (fun i => by rw [hW0]; simp [go_sem])
  have HB0 : Hid (Below w.heap.size w W0) := Lib.hid (by rw [hW0]; exact ((Below.refl w.heap.size w).alloc (Nat.le_refl _) _).alloc (by simp) _)
  have HZ : Hid (W0.heap.size = w.heap.size + 1 + 1) := Lib.hid (by rw [hW0]; simp)
  have HRd := Lib.hid ((HRW.out.below HB0.out (Nat.le_refl _)).drew)
  clear hW0
  go_cut [10, 11] (fun s10 s11 wx => OwnCut w x y a c l (sizeF s.length) s10 s11 wx)
  case first =>
    go_region_held3 (fun w' => w'.cell? ⟨w.heap.size, 0, none⟩ = some (.int .i64 x) ∧ w'.cell? ⟨w.heap.size, 1, none⟩ = some (.int .i64 y) ∧ w'.cell? ⟨w.heap.size, 2, none⟩ = some (.slice a l.length c)) (first | go_keep)
      ((first
        | (go_at_call 66; refine (HSZ.out _).mono ?_; rintro e w' ⟨rfl, rfl⟩)
        | (go_at_call 37; refine (HO.out _ (by first | exact HRd.out | exact HRd.out.alloc _)).mono ?_; rintro e w1 ⟨b, d, rfl, ho, hb⟩; have hz : W0.heap.size = w.heap.size + 1 + 1 := HZ.out; have k0 := bcell hb w.heap.size 0 (by simp; omega); have k1 := bcell hb w.heap.size 1 (by simp; omega); have k2 := bcell hb w.heap.size 2 (by simp; omega); have hcw := bcell hb; have hfw := bfrozen hb; have hs1 : W0.heap.size ≤ w1.heap.size := (by have := hb.size; simp at this; omega); have n1 : ¬ (w.heap.size = w1.heap.size) := (by omega); have n1' : ¬ (w1.heap.size = w.heap.size) := (by omega); have n2 : ¬ (w.heap.size = W0.heap.size) := (by omega); have n2' : ¬ (W0.heap.size = w.heap.size) := (by omega); clear hz)))
    all_goals
      clear k0 k1 k2 hcw hfw n1 n1' n2 n2'
      go_wp2_with fail
      go_meet
      first
        | exact own_cut1 _ HB0.out HZ.out PA.out RA.out RF.out ho ((Below.refl W0.heap.size W0).drew.trans hb)
        | exact own_cut2 HB0.out HZ.out PA.out RA.out RF.out (ho.mono (by simp)) (((Below.refl W0.heap.size W0).drew.alloc (by simp) _).trans (hb.mono (by simp))) ((Box3.new W0.drew _ _ _ _).below hb (Nat.le_refl _))
        | exact own_cut2 HB0.out HZ.out PA.out RA.out RF.out (ho.mono (by simp)) (((Below.refl W0.heap.size W0).alloc (by simp) _).drew.trans (hb.mono (by simp))) ((Box3.new W0 _ _ _ _).drew.below hb (Nat.le_refl _))
  case rest =>
    obtain ⟨o, b, d, rfl, rfl, hF⟩ := hcut
    clear HZ RA RF HB0 PA HRd c0 c1 c2'
    have hFH := Lib.hid hF
    obtain ⟨B1, _, _, B4, _, _, _, _⟩ := hF
    obtain ⟨_, b40, b41, b42⟩ := B4
    obtain ⟨_, b10, b11, b12⟩ := B1
    clear HRW HO
    go_wp2_with fail
    refine (HFI.out _ (HRR.out _ hFH.out.2.2.1).1).mono ?_
    rintro e wf ⟨rfl, hb⟩
    have hG := hFH.out.below hb
    clear hb hFH b40 b41 b42 b10 b11 b12
    have HG := Lib.hid hG
    obtain ⟨B1, _, _, B4, B5, FZ, _, _⟩ := hG
    obtain ⟨_, b40, b41, b42⟩ := B4
    obtain ⟨_, b10, b11, b12⟩ := B1
    obtain ⟨_, b50, b51, b52⟩ := B5
    have f0 := FZ 0
    have f1 := FZ 1
    have f2 := FZ 2
    clear FZ
    go_wp2
    have hD := HG.out.done
    refine bodyPost_ret (v := .tuple #[frv x y b l.length d, .bool false]) (by simp [results, Try.results31, go_sem, hD.1]) rfl ⟨b, d, rfl, hD.2.1, hD.2.2⟩
set_option maxHeartbeats 4000000 in
theorem impl.SetBlock_bad (x y : Int) (a : Option Addr) (c : Nat) (l : List Int) (u v : Int) (a2 : Option Addr) (c2 : Nat) (s : List Int) (w : World) (hl : l.length ≤ 1099511627776) (hr : Row w a l) (hl2 : s.length ≤ 1099511627776) (hr2 : Row w a2 s) (hx : -9223372036854775808 ≤ x ∧ x ≤ 9223372036854775807) (hy : -9223372036854775808 ≤ y ∧ y ≤ 9223372036854775807) (hw : ∀ x ∈ l, -9223372036854775808 ≤ x ∧ x ≤ 9223372036854775807) (h : fitsB x y l u v (sizeF s.length) = true) (h2 : allR 0 255 s = false) :
    Calls Try.prog 31 #[frv x y a l.length c, .int .i64 u, .int .i64 v, .slice a2 s.length c2] w fun e w' => ∃ b d, e = .returned (.tuple #[frv x y b l.length d, .bool false]) ∧ Own w.heap.size w' b d (l) ∧ Below w.heap.size w w' := by
  have hfi := fun w0 (h : Row w0 a l) => impl.fits_c x y a c l u v (sizeF s.length) w0 hx hy hl h hw
  simp only [h] at hfi
  have HFI := Lib.hid hfi
  have HRR : Hid (∀ w0, Below w.heap.size w w0 → Row w0 a l ∧ Row w0 a2 s) := Lib.hid (fun w0 h => ⟨hr.below h (Nat.le_refl _), hr2.below h (Nat.le_refl _)⟩)
  have HSZ : Hid (∀ w0 : World, Calls Try.prog 66 #[.int .i64 s.length] w0 fun e w' => e = .returned (.int .i64 (sizeF s.length)) ∧ w0 = w') := Lib.hid (fun w0 => impl.sizeOf_c _ _ hl2)
  have hal := fun w0 (h : Row w0 a2 s) => (impl.allWithin_c a2 c2 s 0 255 w0 (by omega) h)
  simp only [h2] at hal
  have HAL := Lib.hid hal
  clear hfi hal hx hy hw h h2 hr2
  have hown := fun w0 (h : Row w0 a l) => own_c x y a c l w0 hl h
  have HO := Lib.hid hown
  have HRW := Lib.hid hr
  clear hown
  go_enter Try.func31, Try.ntmps31
  go_upto_region 1 with fail
  obtain ⟨W0, hW0⟩ : ∃ WW, WW = (w.alloc (.cells #[.int .i64 x, .int .i64 y, .slice a l.length c] 26)).alloc (.cells #[.int .i64 0, .int .i64 0, .slice none 0 0] 26) := ⟨_, rfl⟩
  rw [← hW0]
  have c0 : W0.cell? ⟨w.heap.size, 0, none⟩ = some (.int .i64 x) := by rw [hW0]; simp
  have c1 : W0.cell? ⟨w.heap.size, 1, none⟩ = some (.int .i64 y) := by rw [hW0]; simp
  have c2' : W0.cell? ⟨w.heap.size, 2, none⟩ = some (.slice a l.length c) := by rw [hW0]; simp
  have PA : Hid (Box3 W0 w.heap.size (.int .i64 x) (.int .i64 y) (.slice a l.length c)) := Lib.hid (by rw [hW0]; exact (Box3.new w _ _ _ _).below ((Below.refl _ _).alloc (Nat.le_refl _) _) (Nat.le_refl _))
  have RA : Hid (Box3 W0 (w.heap.size + 1) (.int .i64 0) (.int .i64 0) (.slice none 0 0)) := Lib.hid (by rw [hW0]; exact ⟨by simp, by simp, by simp, by simp⟩)
  have RF : Hid (∀ i, W0.frozen? ⟨w.heap.size + 1, i, none⟩ = false) := Lib.hid (fun i => by rw [hW0]; simp [go_sem])
  have HB0 : Hid (Below w.heap.size w W0) := Lib.hid (by rw [hW0]; exact ((Below.refl w.heap.size w).alloc (Nat.le_refl _) _).alloc (by simp) _)
  have HZ : Hid (W0.heap.size = w.heap.size + 1 + 1) := Lib.hid (by rw [hW0]; simp)
  have HRd := Lib.hid ((HRW.out.below HB0.out (Nat.le_refl _)).drew)
  clear hW0
  go_cut [10, 11] (fun s10 s11 wx => OwnCut w x y a c l (sizeF s.length) s10 s11 wx)
  case first =>
    go_region_held3 (fun w' => w'.cell? ⟨w.heap.size, 0, none⟩ = some (.int .i64 x) ∧ w'.cell? ⟨w.heap.size, 1, none⟩ = some (.int .i64 y) ∧ w'.cell? ⟨w.heap.size, 2, none⟩ = some (.slice a l.length c)) (first | go_keep)
      ((first
        | (go_at_call 66; refine (HSZ.out _).mono ?_; rintro e w' ⟨rfl, rfl⟩)
        | (go_at_call 37; refine (HO.out _ (by first | exact HRd.out | exact HRd.out.alloc _)).mono ?_; rintro e w1 ⟨b, d, rfl, ho, hb⟩; have hz : W0.heap.size = w.heap.size + 1 + 1 := HZ.out; have k0 := bcell hb w.heap.size 0 (by simp; omega); have k1 := bcell hb w.heap.size 1 (by simp; omega); have k2 := bcell hb w.heap.size 2 (by simp; omega); have hcw := bcell hb; have hfw := bfrozen hb; have hs1 : W0.heap.size ≤ w1.heap.size := (by have := hb.size; simp at this; omega); have n1 : ¬ (w.heap.size = w1.heap.size) := (by omega); have n1' : ¬ (w1.heap.size = w.heap.size) := (by omega); have n2 : ¬ (w.heap.size = W0.heap.size) := (by omega); have n2' : ¬ (W0.heap.size = w.heap.size) := (by omega); clear hz)))
    all_goals
      clear k0 k1 k2 hcw hfw n1 n1' n2 n2'
      go_wp2_with fail
      go_meet
      first
        | exact own_cut1 _ HB0.out HZ.out PA.out RA.out RF.out ho ((Below.refl W0.heap.size W0).drew.trans hb)
        | exact own_cut2 HB0.out HZ.out PA.out RA.out RF.out (ho.mono (by simp)) (((Below.refl W0.heap.size W0).drew.alloc (by simp) _).trans (hb.mono (by simp))) ((Box3.new W0.drew _ _ _ _).below hb (Nat.le_refl _))
        | exact own_cut2 HB0.out HZ.out PA.out RA.out RF.out (ho.mono (by simp)) (((Below.refl W0.heap.size W0).alloc (by simp) _).drew.trans (hb.mono (by simp))) ((Box3.new W0 _ _ _ _).drew.below hb (Nat.le_refl _))
  case rest =>
    obtain ⟨o, b, d, rfl, rfl, hF⟩ := hcut
    clear HZ RA RF HB0 PA HRd c0 c1 c2'
    have hFH := Lib.hid hF
    obtain ⟨B1, _, _, B4, _, _, _, _⟩ := hF
    obtain ⟨_, b40, b41, b42⟩ := B4
    obtain ⟨_, b10, b11, b12⟩ := B1
    clear HRW HO
    go_wp2_with fail
    refine (HFI.out _ (HRR.out _ hFH.out.2.2.1).1).mono ?_
    rintro e wf ⟨rfl, hb⟩
    have hG := hFH.out.below hb
    clear hb hFH b40 b41 b42 b10 b11 b12
    have HG := Lib.hid hG
    obtain ⟨B1, _, _, B4, B5, FZ, _, _⟩ := hG
    obtain ⟨_, b40, b41, b42⟩ := B4
    obtain ⟨_, b10, b11, b12⟩ := B1
    obtain ⟨_, b50, b51, b52⟩ := B5
    have f0 := FZ 0
    have f1 := FZ 1
    have f2 := FZ 2
    clear FZ
    have HRF := Lib.hid (HRR.out _ HG.out.2.2.1).2
    go_wp2_with (go_at_call 48; refine (HAL.out _ HRF.out).mono ?_; rintro e w' ⟨rfl, rfl⟩)
    have hD := HG.out.done
    refine bodyPost_ret (v := .tuple #[frv x y b l.length d, .bool false]) (by simp [results, Try.results31, go_sem, hD.1]) rfl ⟨b, d, rfl, hD.2.1, hD.2.2⟩
set_option maxHeartbeats 4000000 in
theorem impl.SetBlock_4 (x y : Int) (a : Option Addr) (c : Nat) (l : List Int) (u v : Int) (a2 : Option Addr) (c2 : Nat) (s : List Int) (w : World) (hl : l.length ≤ 1099511627776) (hr : Row w a l) (hl2 : s.length ≤ 1099511627776) (hr2 : Row w a2 s) (hx : -9223372036854775808 ≤ x ∧ x ≤ 9223372036854775807) (hy : -9223372036854775808 ≤ y ∧ y ≤ 9223372036854775807) (hw : ∀ x ∈ l, -9223372036854775808 ≤ x ∧ x ≤ 9223372036854775807) (X Y U V : Nat) (ex : x = X) (ey : y = Y) (eu : u = U) (ev : v = V) (hX : X ≤ 32) (hY : Y ≤ 32) (hlen : l.length = X * Y) (hU : U + 4 ≤ X) (hV : V + 4 ≤ Y) (hs : s.length = 16) (h : fitsB x y l u v 4 = true) (h2 : allR 0 255 s = true) :
    Calls Try.prog 31 #[frv x y a l.length c, .int .i64 u, .int .i64 v, .slice a2 s.length c2] w fun e w' => ∃ b d, e = .returned (.tuple #[frv x y b l.length d, .bool true]) ∧ Own w.heap.size w' b d (setBL X l U V 4 s 16) ∧ Below w.heap.size w w' := by
  have hfi := fun w0 (h : Row w0 a l) => impl.fits_c x y a c l u v 4 w0 hx hy hl h hw
  simp only [h] at hfi
  have HFI := Lib.hid hfi
  have HRR : Hid (∀ w0, Below w.heap.size w w0 → Row w0 a l ∧ Row w0 a2 s) := Lib.hid (fun w0 h => ⟨hr.below h (Nat.le_refl _), hr2.below h (Nat.le_refl _)⟩)
  have HSZ : Hid (∀ w0 : World, Calls Try.prog 66 #[.int .i64 s.length] w0 fun e w' => e = .returned (.int .i64 4) ∧ w0 = w') := Lib.hid (fun w0 => by have h := impl.sizeOf_c s.length w0 hl2; rw [show sizeF s.length = 4 from by rw [hs]; rfl] at h; exact h)
  have hal := fun w0 (h : Row w0 a2 s) => (impl.allWithin_c a2 c2 s 0 255 w0 (by omega) h)
  simp only [h2] at hal
  have HAL := Lib.hid hal
  have hrow : ∀ r t, t = r * X → r < Y → t + X ≤ l.length := by
    intro r t ht hlt
    have h1 : (r + 1) * X ≤ Y * X := Nat.mul_le_mul_right X hlt
    rw [Nat.add_mul, Nat.one_mul, Nat.mul_comm Y X, ← hlen, ← ht] at h1
    exact h1
  have HRow := Lib.hid hrow
  obtain ⟨b2, off2, rfl, hbk2, hc2⟩ := hr2.inside (by omega)
  rw [hs] at hc2
  have HC2 : Hid (∀ w0, Below w.heap.size w w0 → ∀ i, i < 16 → w0.cell? ⟨b2, off2 + i, none⟩ = some (.int .i64 (s.getD i 0))) := Lib.hid (fun w0 h i hi => (bcell h _ _ hbk2).trans (hc2 i hi))
  have hlb : l.length ≤ 1024 := by rw [hlen]; exact Nat.mul_le_mul hX hY
  have HLP : Hid (0 < l.length) := Lib.hid (by rw [hlen]; exact Nat.mul_pos (by omega) (by omega))
  subst ex ey eu ev
  rw [hs] at HSZ HAL ⊢
  clear hfi hal hx hy hw h h2 hr2 hrow hlen hc2 hs
  have hown := fun w0 (h : Row w0 a l) => own_c X Y a c l w0 hl h
  have HO := Lib.hid hown
  have HRW := Lib.hid hr
  clear hown
  go_enter Try.func31, Try.ntmps31
  go_upto_region 1 with fail
  obtain ⟨W0, hW0⟩ : ∃ WW, WW = (w.alloc (.cells #[.int .i64 X, .int .i64 Y, .slice a l.length c] 26)).alloc (.cells #[.int .i64 0, .int .i64 0, .slice none 0 0] 26) := ⟨_, rfl⟩
  rw [← hW0]
  have c0 : W0.cell? ⟨w.heap.size, 0, none⟩ = some (.int .i64 X) := by rw [hW0]; simp
  have c1 : W0.cell? ⟨w.heap.size, 1, none⟩ = some (.int .i64 Y) := by rw [hW0]; simp
  have c2' : W0.cell? ⟨w.heap.size, 2, none⟩ = some (.slice a l.length c) := by rw [hW0]; simp
  have PA : Hid (Box3 W0 w.heap.size (.int .i64 X) (.int .i64 Y) (.slice a l.length c)) := Lib.hid (by rw [hW0]; exact (Box3.new w _ _ _ _).below ((Below.refl _ _).alloc (Nat.le_refl _) _) (Nat.le_refl _))
  have RA : Hid (Box3 W0 (w.heap.size + 1) (.int .i64 0) (.int .i64 0) (.slice none 0 0)) := Lib.hid (by rw [hW0]; exact ⟨by simp, by simp, by simp, by simp⟩)
  have RF : Hid (∀ i, W0.frozen? ⟨w.heap.size + 1, i, none⟩ = false) := Lib.hid (fun i => by rw [hW0]; simp [go_sem])
  have HB0 : Hid (Below w.heap.size w W0) := Lib.hid (by rw [hW0]; exact ((Below.refl w.heap.size w).alloc (Nat.le_refl _) _).alloc (by simp) _)
  have HZ : Hid (W0.heap.size = w.heap.size + 1 + 1) := Lib.hid (by rw [hW0]; simp)
  have HRd := Lib.hid ((HRW.out.below HB0.out (Nat.le_refl _)).drew)
  clear hW0
  go_cut [10, 11] (fun s10 s11 wx => OwnCut w X Y a c l 4 s10 s11 wx)
  case first =>
    go_region_held3 (fun w' => w'.cell? ⟨w.heap.size, 0, none⟩ = some (.int .i64 X) ∧ w'.cell? ⟨w.heap.size, 1, none⟩ = some (.int .i64 Y) ∧ w'.cell? ⟨w.heap.size, 2, none⟩ = some (.slice a l.length c)) (first | go_keep)
      ((first
        | (go_at_call 66; refine (HSZ.out _).mono ?_; rintro e w' ⟨rfl, rfl⟩)
        | (go_at_call 37; refine (HO.out _ (by first | exact HRd.out | exact HRd.out.alloc _)).mono ?_; rintro e w1 ⟨b, d, rfl, ho, hb⟩; have hz : W0.heap.size = w.heap.size + 1 + 1 := HZ.out; have k0 := bcell hb w.heap.size 0 (by simp; omega); have k1 := bcell hb w.heap.size 1 (by simp; omega); have k2 := bcell hb w.heap.size 2 (by simp; omega); have hcw := bcell hb; have hfw := bfrozen hb; have hs1 : W0.heap.size ≤ w1.heap.size := (by have := hb.size; simp at this; omega); have n1 : ¬ (w.heap.size = w1.heap.size) := (by omega); have n1' : ¬ (w1.heap.size = w.heap.size) := (by omega); have n2 : ¬ (w.heap.size = W0.heap.size) := (by omega); have n2' : ¬ (W0.heap.size = w.heap.size) := (by omega); clear hz)))
    all_goals
      clear k0 k1 k2 hcw hfw n1 n1' n2 n2'
      go_wp2_with fail
      go_meet
      first
        | exact own_cut1 _ HB0.out HZ.out PA.out RA.out RF.out ho ((Below.refl W0.heap.size W0).drew.trans hb)
        | exact own_cut2 HB0.out HZ.out PA.out RA.out RF.out (ho.mono (by simp)) (((Below.refl W0.heap.size W0).drew.alloc (by simp) _).trans (hb.mono (by simp))) ((Box3.new W0.drew _ _ _ _).below hb (Nat.le_refl _))
        | exact own_cut2 HB0.out HZ.out PA.out RA.out RF.out (ho.mono (by simp)) (((Below.refl W0.heap.size W0).alloc (by simp) _).drew.trans (hb.mono (by simp))) ((Box3.new W0 _ _ _ _).drew.below hb (Nat.le_refl _))
  case rest =>
    obtain ⟨o, b, d, rfl, rfl, hF⟩ := hcut
    clear HZ RA RF HB0 PA HRd c0 c1 c2'
    have hFH := Lib.hid hF
    obtain ⟨B1, _, _, B4, _, _, _, _⟩ := hF
    obtain ⟨_, b40, b41, b42⟩ := B4
    obtain ⟨_, b10, b11, b12⟩ := B1
    clear HRW HO
    go_wp2_with fail
    refine (HFI.out _ (HRR.out _ hFH.out.2.2.1).1).mono ?_
    rintro e wf ⟨rfl, hb⟩
    have hG := hFH.out.below hb
    clear hb hFH b40 b41 b42 b10 b11 b12
    have HG := Lib.hid hG
    have HRF := Lib.hid (HRR.out _ HG.out.2.2.1).2
    clear hG
    go_wp2_with (go_at_call 48; refine (HAL.out _ HRF.out).mono ?_; rintro e w' ⟨rfl, rfl⟩)
    obtain ⟨g, rfl, _⟩ := HG.out.2.1.at_ (i := 0) (by have := HLP.out; omega)
    go_loopw [33] (fun i wr => ∃ k : Nat, k ≤ 16 ∧ i = .int .i64 k ∧ OwnFacts w X Y a c l o (some ⟨g, 0, none⟩) d (setBL X l U V 4 s k) wr) (fun i _ => 16 - (intOf i).toNat)
    case atStart => exact ⟨0, Nat.zero_le _, rfl, HG.out⟩
    case round =>
      clear HG HRF HAL HFI
      obtain ⟨k, hk, rfl, hG⟩ := hrel
      by_cases hlt : k < 16
      · obtain ⟨p, hp⟩ : ∃ p, p = k % 4 := ⟨_, rfl⟩
        obtain ⟨q, hq⟩ : ∃ q, q = k / 4 := ⟨_, rfl⟩
        obtain ⟨r, hr⟩ : ∃ r, r = V + q := ⟨_, rfl⟩
        obtain ⟨m, hm⟩ : ∃ m, m = r * X := ⟨_, rfl⟩
        obtain ⟨t, ht⟩ : ∃ t, t = m + U := ⟨_, rfl⟩
        obtain ⟨j, hj⟩ : ∃ j, j = t + p := ⟨_, rfl⟩
        have hsX := HRow.out r m hm (by omega)
        have hjl : j < l.length := by omega
        have hsI : (r : Int) * (X : Int) = (m : Int) := by rw [hm]; exact (Int.natCast_mul r X).symm
        have e1 : (k : Int).tmod 4 = (p : Int) := by rw [Int.tmod_eq_emod_of_nonneg (by omega)]; omega
        have e3 : IntKind.i64.wrap ((k : Int).tdiv 4) = (q : Int) := by rw [Int.tdiv_eq_ediv_of_nonneg (by omega), IntWalk.i64_in _ (by omega)]; omega
        have e5 : (k : Int) % 4 = (p : Int) := by omega
        have e6 : (k : Int) / 4 = (q : Int) := by omega
        have e7 : IntKind.i64.wrap ((p : Int)) = (p : Int) := IntWalk.i64_in _ (by omega)
        have e8 : IntKind.i64.wrap ((q : Int)) = (q : Int) := IntWalk.i64_in _ (by omega)
        have e9 : IntKind.i64.wrap ((V : Int) + (q : Int)) = (r : Int) := by rw [IntWalk.i64_in _ (by omega)]; omega
        have ea : IntKind.i64.wrap ((r : Int) * (X : Int)) = (m : Int) := by rw [hsI, IntWalk.i64_in _ (by omega)]
        have eb : IntKind.i64.wrap ((m : Int) + (U : Int)) = (t : Int) := by rw [IntWalk.i64_in _ (by omega)]; omega
        have e4 : IntKind.i64.wrap ((t : Int) + (p : Int)) = (j : Int) := by rw [IntWalk.i64_in _ (by omega)]; omega
        have z1 : (j : Int) < (l.length : Int) := by omega
        have z2 : (k : Int) < 16 := by omega
        have hcs := HC2.out wr hG.2.2.1 k hlt
        have HY : Hid (setBL X l U V 4 s (k + 1) = (setBL X l U V 4 s k).set j (s.getD k 0)) := Lib.hid (by rw [setBL, hj, ht, hm, hr, hp, hq])
        have hcj := hG.2.1.cellAt (i := j) (by rw [setBL_len]; exact hjl)
        have hfj := hG.2.1.frozenAt j
        have HN := Lib.hid (hG.stored j (s.getD k 0))
        generalize s.getD k 0 = z at *
        generalize (setBL X l U V 4 s k).getD j 0 = z0 at *
        rw [← HY.out] at HN
        obtain ⟨B1, _, _, B4, _, _, _, _⟩ := hG
        obtain ⟨_, b40, b41, b42⟩ := B4
        obtain ⟨_, b10, b11, b12⟩ := B1
        clear hp hq hr hm ht hj hsX hjl hsI
        go_wp2_with fail
        go_still_tail 18, (by kernel_rfl)
        change wpList _ _ _ _ _ wr.drew
        go_wp2
        go_roundw
        case rel => exact ⟨k + 1, by omega, by go_num, HN.out.drew⟩
        case measure => simp [intOf]; omega
      · obtain rfl : k = 16 := by omega
        have HG := Lib.hid hG
        obtain ⟨B1, _, _, B4, B5, FZ, _, _⟩ := hG
        obtain ⟨_, b40, b41, b42⟩ := B4
        obtain ⟨_, b10, b11, b12⟩ := B1
        obtain ⟨_, b50, b51, b52⟩ := B5
        have f0 := FZ 0
        have f1 := FZ 1
        have f2 := FZ 2
        clear FZ
        go_wp2
        have hD := HG.out.done
        refine bodyPost_ret (v := .tuple #[frv X Y (some ⟨g, 0, none⟩) l.length d, .bool true]) (by simp [results, Try.results31, go_sem, hD.1]) rfl ⟨_, d, rfl, hD.2.1, hD.2.2⟩
set_option maxHeartbeats 4000000 in
theorem impl.SetBlock_8 (x y : Int) (a : Option Addr) (c : Nat) (l : List Int) (u v : Int) (a2 : Option Addr) (c2 : Nat) (s : List Int) (w : World) (hl : l.length ≤ 1099511627776) (hr : Row w a l) (hl2 : s.length ≤ 1099511627776) (hr2 : Row w a2 s) (hx : -9223372036854775808 ≤ x ∧ x ≤ 9223372036854775807) (hy : -9223372036854775808 ≤ y ∧ y ≤ 9223372036854775807) (hw : ∀ x ∈ l, -9223372036854775808 ≤ x ∧ x ≤ 9223372036854775807) (X Y U V : Nat) (ex : x = X) (ey : y = Y) (eu : u = U) (ev : v = V) (hX : X ≤ 32) (hY : Y ≤ 32) (hlen : l.length = X * Y) (hU : U + 8 ≤ X) (hV : V + 8 ≤ Y) (hs : s.length = 64) (h : fitsB x y l u v 8 = true) (h2 : allR 0 255 s = true) :
    Calls Try.prog 31 #[frv x y a l.length c, .int .i64 u, .int .i64 v, .slice a2 s.length c2] w fun e w' => ∃ b d, e = .returned (.tuple #[frv x y b l.length d, .bool true]) ∧ Own w.heap.size w' b d (setBL X l U V 8 s 64) ∧ Below w.heap.size w w' := by
  have hfi := fun w0 (h : Row w0 a l) => impl.fits_c x y a c l u v 8 w0 hx hy hl h hw
  simp only [h] at hfi
  have HFI := Lib.hid hfi
  have HRR : Hid (∀ w0, Below w.heap.size w w0 → Row w0 a l ∧ Row w0 a2 s) := Lib.hid (fun w0 h => ⟨hr.below h (Nat.le_refl _), hr2.below h (Nat.le_refl _)⟩)
  have HSZ : Hid (∀ w0 : World, Calls Try.prog 66 #[.int .i64 s.length] w0 fun e w' => e = .returned (.int .i64 8) ∧ w0 = w') := Lib.hid (fun w0 => by have h := impl.sizeOf_c s.length w0 hl2; rw [show sizeF s.length = 8 from by rw [hs]; rfl] at h; exact h)
  have hal := fun w0 (h : Row w0 a2 s) => (impl.allWithin_c a2 c2 s 0 255 w0 (by omega) h)
  simp only [h2] at hal
  have HAL := Lib.hid hal
  have hrow : ∀ r t, t = r * X → r < Y → t + X ≤ l.length := by
    intro r t ht hlt
    have h1 : (r + 1) * X ≤ Y * X := Nat.mul_le_mul_right X hlt
    rw [Nat.add_mul, Nat.one_mul, Nat.mul_comm Y X, ← hlen, ← ht] at h1
    exact h1
  have HRow := Lib.hid hrow
  obtain ⟨b2, off2, rfl, hbk2, hc2⟩ := hr2.inside (by omega)
  rw [hs] at hc2
  have HC2 : Hid (∀ w0, Below w.heap.size w w0 → ∀ i, i < 64 → w0.cell? ⟨b2, off2 + i, none⟩ = some (.int .i64 (s.getD i 0))) := Lib.hid (fun w0 h i hi => (bcell h _ _ hbk2).trans (hc2 i hi))
  have hlb : l.length ≤ 1024 := by rw [hlen]; exact Nat.mul_le_mul hX hY
  have HLP : Hid (0 < l.length) := Lib.hid (by rw [hlen]; exact Nat.mul_pos (by omega) (by omega))
  subst ex ey eu ev
  rw [hs] at HSZ HAL ⊢
  clear hfi hal hx hy hw h h2 hr2 hrow hlen hc2 hs
  have hown := fun w0 (h : Row w0 a l) => own_c X Y a c l w0 hl h
  have HO := Lib.hid hown
  have HRW := Lib.hid hr
  clear hown
  go_enter Try.func31, Try.ntmps31
  go_upto_region 1 with fail
  obtain ⟨W0, hW0⟩ : ∃ WW, WW = (w.alloc (.cells #[.int .i64 X, .int .i64 Y, .slice a l.length c] 26)).alloc (.cells #[.int .i64 0, .int .i64 0, .slice none 0 0] 26) := ⟨_, rfl⟩
  rw [← hW0]
  have c0 : W0.cell? ⟨w.heap.size, 0, none⟩ = some (.int .i64 X) := by rw [hW0]; simp
  have c1 : W0.cell? ⟨w.heap.size, 1, none⟩ = some (.int .i64 Y) := by rw [hW0]; simp
  have c2' : W0.cell? ⟨w.heap.size, 2, none⟩ = some (.slice a l.length c) := by rw [hW0]; simp
  have PA : Hid (Box3 W0 w.heap.size (.int .i64 X) (.int .i64 Y) (.slice a l.length c)) := Lib.hid (by rw [hW0]; exact (Box3.new w _ _ _ _).below ((Below.refl _ _).alloc (Nat.le_refl _) _) (Nat.le_refl _))
  have RA : Hid (Box3 W0 (w.heap.size + 1) (.int .i64 0) (.int .i64 0) (.slice none 0 0)) := Lib.hid (by rw [hW0]; exact ⟨by simp, by simp, by simp, by simp⟩)
  have RF : Hid (∀ i, W0.frozen? ⟨w.heap.size + 1, i, none⟩ = false) := Lib.hid (fun i => by rw [hW0]; simp [go_sem])
  have HB0 : Hid (Below w.heap.size w W0) := Lib.hid (by rw [hW0]; exact ((Below.refl w.heap.size w).alloc (Nat.le_refl _) _).alloc (by simp) _)
  have HZ : Hid (W0.heap.size = w.heap.size + 1 + 1) := Lib.hid (by rw [hW0]; simp)
  have HRd := Lib.hid ((HRW.out.below HB0.out (Nat.le_refl _)).drew)
  clear hW0
  go_cut [10, 11] (fun s10 s11 wx => OwnCut w X Y a c l 8 s10 s11 wx)
  case first =>
    go_region_held3 (fun w' => w'.cell? ⟨w.heap.size, 0, none⟩ = some (.int .i64 X) ∧ w'.cell? ⟨w.heap.size, 1, none⟩ = some (.int .i64 Y) ∧ w'.cell? ⟨w.heap.size, 2, none⟩ = some (.slice a l.length c)) (first | go_keep)
      ((first
        | (go_at_call 66; refine (HSZ.out _).mono ?_; rintro e w' ⟨rfl, rfl⟩)
        | (go_at_call 37; refine (HO.out _ (by first | exact HRd.out | exact HRd.out.alloc _)).mono ?_; rintro e w1 ⟨b, d, rfl, ho, hb⟩; have hz : W0.heap.size = w.heap.size + 1 + 1 := HZ.out; have k0 := bcell hb w.heap.size 0 (by simp; omega); have k1 := bcell hb w.heap.size 1 (by simp; omega); have k2 := bcell hb w.heap.size 2 (by simp; omega); have hcw := bcell hb; have hfw := bfrozen hb; have hs1 : W0.heap.size ≤ w1.heap.size := (by have := hb.size; simp at this; omega); have n1 : ¬ (w.heap.size = w1.heap.size) := (by omega); have n1' : ¬ (w1.heap.size = w.heap.size) := (by omega); have n2 : ¬ (w.heap.size = W0.heap.size) := (by omega); have n2' : ¬ (W0.heap.size = w.heap.size) := (by omega); clear hz)))
    all_goals
      clear k0 k1 k2 hcw hfw n1 n1' n2 n2'
      go_wp2_with fail
      go_meet
      first
        | exact own_cut1 _ HB0.out HZ.out PA.out RA.out RF.out ho ((Below.refl W0.heap.size W0).drew.trans hb)
        | exact own_cut2 HB0.out HZ.out PA.out RA.out RF.out (ho.mono (by simp)) (((Below.refl W0.heap.size W0).drew.alloc (by simp) _).trans (hb.mono (by simp))) ((Box3.new W0.drew _ _ _ _).below hb (Nat.le_refl _))
        | exact own_cut2 HB0.out HZ.out PA.out RA.out RF.out (ho.mono (by simp)) (((Below.refl W0.heap.size W0).alloc (by simp) _).drew.trans (hb.mono (by simp))) ((Box3.new W0 _ _ _ _).drew.below hb (Nat.le_refl _))
  case rest =>
    obtain ⟨o, b, d, rfl, rfl, hF⟩ := hcut
    clear HZ RA RF HB0 PA HRd c0 c1 c2'
    have hFH := Lib.hid hF
    obtain ⟨B1, _, _, B4, _, _, _, _⟩ := hF
    obtain ⟨_, b40, b41, b42⟩ := B4
    obtain ⟨_, b10, b11, b12⟩ := B1
    clear HRW HO
    go_wp2_with fail
    refine (HFI.out _ (HRR.out _ hFH.out.2.2.1).1).mono ?_
    rintro e wf ⟨rfl, hb⟩
    have hG := hFH.out.below hb
    clear hb hFH b40 b41 b42 b10 b11 b12
    have HG := Lib.hid hG
    have HRF := Lib.hid (HRR.out _ HG.out.2.2.1).2
    clear hG
    go_wp2_with (go_at_call 48; refine (HAL.out _ HRF.out).mono ?_; rintro e w' ⟨rfl, rfl⟩)
    obtain ⟨g, rfl, _⟩ := HG.out.2.1.at_ (i := 0) (by have := HLP.out; omega)
    go_loopw [33] (fun i wr => ∃ k : Nat, k ≤ 64 ∧ i = .int .i64 k ∧ OwnFacts w X Y a c l o (some ⟨g, 0, none⟩) d (setBL X l U V 8 s k) wr) (fun i _ => 64 - (intOf i).toNat)
    case atStart => exact ⟨0, Nat.zero_le _, rfl, HG.out⟩
    case round =>
      clear HG HRF HAL HFI
      obtain ⟨k, hk, rfl, hG⟩ := hrel
      by_cases hlt : k < 64
      · obtain ⟨p, hp⟩ : ∃ p, p = k % 8 := ⟨_, rfl⟩
        obtain ⟨q, hq⟩ : ∃ q, q = k / 8 := ⟨_, rfl⟩
        obtain ⟨r, hr⟩ : ∃ r, r = V + q := ⟨_, rfl⟩
        obtain ⟨m, hm⟩ : ∃ m, m = r * X := ⟨_, rfl⟩
        obtain ⟨t, ht⟩ : ∃ t, t = m + U := ⟨_, rfl⟩
        obtain ⟨j, hj⟩ : ∃ j, j = t + p := ⟨_, rfl⟩
        have hsX := HRow.out r m hm (by omega)
        have hjl : j < l.length := by omega
        have hsI : (r : Int) * (X : Int) = (m : Int) := by rw [hm]; exact (Int.natCast_mul r X).symm
        have e1 : (k : Int).tmod 8 = (p : Int) := by rw [Int.tmod_eq_emod_of_nonneg (by omega)]; omega
        have e3 : IntKind.i64.wrap ((k : Int).tdiv 8) = (q : Int) := by rw [Int.tdiv_eq_ediv_of_nonneg (by omega), IntWalk.i64_in _ (by omega)]; omega
        have e5 : (k : Int) % 8 = (p : Int) := by omega
        have e6 : (k : Int) / 8 = (q : Int) := by omega
        have e7 : IntKind.i64.wrap ((p : Int)) = (p : Int) := IntWalk.i64_in _ (by omega)
        have e8 : IntKind.i64.wrap ((q : Int)) = (q : Int) := IntWalk.i64_in _ (by omega)
        have e9 : IntKind.i64.wrap ((V : Int) + (q : Int)) = (r : Int) := by rw [IntWalk.i64_in _ (by omega)]; omega
        have ea : IntKind.i64.wrap ((r : Int) * (X : Int)) = (m : Int) := by rw [hsI, IntWalk.i64_in _ (by omega)]
        have eb : IntKind.i64.wrap ((m : Int) + (U : Int)) = (t : Int) := by rw [IntWalk.i64_in _ (by omega)]; omega
        have e4 : IntKind.i64.wrap ((t : Int) + (p : Int)) = (j : Int) := by rw [IntWalk.i64_in _ (by omega)]; omega
        have z1 : (j : Int) < (l.length : Int) := by omega
        have z2 : (k : Int) < 64 := by omega
        have hcs := HC2.out wr hG.2.2.1 k hlt
        have HY : Hid (setBL X l U V 8 s (k + 1) = (setBL X l U V 8 s k).set j (s.getD k 0)) := Lib.hid (by rw [setBL, hj, ht, hm, hr, hp, hq])
        have hcj := hG.2.1.cellAt (i := j) (by rw [setBL_len]; exact hjl)
        have hfj := hG.2.1.frozenAt j
        have HN := Lib.hid (hG.stored j (s.getD k 0))
        generalize s.getD k 0 = z at *
        generalize (setBL X l U V 8 s k).getD j 0 = z0 at *
        rw [← HY.out] at HN
        obtain ⟨B1, _, _, B4, _, _, _, _⟩ := hG
        obtain ⟨_, b40, b41, b42⟩ := B4
        obtain ⟨_, b10, b11, b12⟩ := B1
        clear hp hq hr hm ht hj hsX hjl hsI
        go_wp2_with fail
        go_still_tail 18, (by kernel_rfl)
        change wpList _ _ _ _ _ wr.drew
        go_wp2
        go_roundw
        case rel => exact ⟨k + 1, by omega, by go_num, HN.out.drew⟩
        case measure => simp [intOf]; omega
      · obtain rfl : k = 64 := by omega
        have HG := Lib.hid hG
        obtain ⟨B1, _, _, B4, B5, FZ, _, _⟩ := hG
        obtain ⟨_, b40, b41, b42⟩ := B4
        obtain ⟨_, b10, b11, b12⟩ := B1
        obtain ⟨_, b50, b51, b52⟩ := B5
        have f0 := FZ 0
        have f1 := FZ 1
        have f2 := FZ 2
        clear FZ
        go_wp2
        have hD := HG.out.done
        refine bodyPost_ret (v := .tuple #[frv X Y (some ⟨g, 0, none⟩) l.length d, .bool true]) (by simp [results, Try.results31, go_sem, hD.1]) rfl ⟨_, d, rfl, hD.2.1, hD.2.2⟩
theorem impl.SetBlock_c (x y : Int) (a : Option Addr) (c : Nat) (l : List Int) (u v : Int) (a2 : Option Addr) (c2 : Nat) (s : List Int) (w : World) (hx : -9223372036854775808 ≤ x ∧ x ≤ 9223372036854775807) (hy : -9223372036854775808 ≤ y ∧ y ≤ 9223372036854775807) (hl : l.length ≤ 1099511627776) (hr : Row w a l) (hw : ∀ x ∈ l, -9223372036854775808 ≤ x ∧ x ≤ 9223372036854775807) (hl2 : s.length ≤ 1099511627776) (hr2 : Row w a2 s) (hw2 : ∀ x ∈ s, -9223372036854775808 ≤ x ∧ x ≤ 9223372036854775807) :
    Calls Try.prog 31 #[frv x y a l.length c, .int .i64 u, .int .i64 v, .slice a2 s.length c2] w fun e w' => ∃ b d, e = .returned (.tuple #[frv x y b (setV x y l u v s).length d, .bool (setOk x y l u v s)]) ∧ Own w.heap.size w' b d (setV x y l u v s) ∧ Below w.heap.size w w' := by
  rw [setV_len]
  cases h : fitsB x y l u v (sizeF s.length)
  · have e1 : setOk x y l u v s = false := by simp [setOk, h]
    have e2 : setV x y l u v s = l := by simp [setV, e1]
    rw [e1, e2]
    exact impl.SetBlock_no x y a c l u v a2 c2 s w hl hr hl2 hr2 hx hy hw h
  · cases h2 : allR 0 255 s
    · have e1 : setOk x y l u v s = false := by simp [setOk, h2]
      have e2 : setV x y l u v s = l := by simp [setV, e1]
      rw [e1, e2]
      exact impl.SetBlock_bad x y a c l u v a2 c2 s w hl hr hl2 hr2 hx hy hw h h2
    · have e1 : setOk x y l u v s = true := by simp [setOk, h, h2]
      have e2 : setV x y l u v s = setBL x.toNat l u.toNat v.toNat (sizeF s.length).toNat s s.length := by simp [setV, e1]
      rw [e1, e2]
      rcases sizeF_cases s.length with ⟨hs, he⟩ | ⟨hs, he⟩ | ⟨_, _, he⟩
      · rw [he] at h ⊢
        obtain ⟨X, Y, U, V, rfl, rfl, rfl, rfl, hX, hY, hlen, hn⟩ := blk_split h
        have hUV : U + 4 ≤ X ∧ V + 4 ≤ Y := by rcases hn with ⟨_, h1, h2⟩ | ⟨h0, _, _⟩ <;> first | exact ⟨h1, h2⟩ | cases h0
        rw [hs]
        have hh := impl.SetBlock_4 X Y a c l U V a2 c2 s w hl hr hl2 hr2 hx hy hw X Y U V rfl rfl rfl rfl hX hY hlen hUV.1 hUV.2 hs h h2
        rw [hs] at hh
        exact hh
      · rw [he] at h ⊢
        obtain ⟨X, Y, U, V, rfl, rfl, rfl, rfl, hX, hY, hlen, hn⟩ := blk_split h
        have hUV : U + 8 ≤ X ∧ V + 8 ≤ Y := by rcases hn with ⟨h0, _, _⟩ | ⟨_, h1, h2⟩ <;> first | exact ⟨h1, h2⟩ | cases h0
        rw [hs]
        have hh := impl.SetBlock_8 X Y a c l U V a2 c2 s w hl hr hl2 hr2 hx hy hw X Y U V rfl rfl rfl rfl hX hY hlen hUV.1 hUV.2 hs h h2
        rw [hs] at hh
        exact hh
      · rw [he] at h
        have := (fitsB_true h).2.1
        omega


set_option maxHeartbeats 4000000 in
theorem spec.SetBlock_no (x y : Int) (a : Option Addr) (c : Nat) (l : List Int) (u v : Int) (a2 : Option Addr) (c2 : Nat) (s : List Int) (w : World) (hl : l.length ≤ 1099511627776) (hr : Row w a l) (hl2 : s.length ≤ 1099511627776) (hr2 : Row w a2 s) (hx : -9223372036854775808 ≤ x ∧ x ≤ 9223372036854775807) (hy : -9223372036854775808 ≤ y ∧ y ≤ 9223372036854775807) (hw : ∀ x ∈ l, -9223372036854775808 ≤ x ∧ x ≤ 9223372036854775807) (hsh : Shape a c l) (h : fitsB x y l u v (sizeF s.length) = false) :
    Calls Try.prog 32 #[frv x y a l.length c, .int .i64 u, .int .i64 v, .slice a2 s.length c2] w fun e w' => ∃ b d, e = .returned (.tuple #[frv x y b l.length d, .bool false]) ∧ Own w.heap.size w' b d (l) ∧ Below w.heap.size w w' := by
  have hfi := fun w0 (h : Row w0 a l) => spec.l18In_c x y a c l u v (sizeF s.length) w0 hx hy hl h hw
  simp only [h] at hfi
  have HFI := Lib.hid hfi
  have HRR : Hid (∀ w0, Below w.heap.size w w0 → Row w0 a l ∧ Row w0 a2 s) := Lib.hid (fun w0 h => ⟨hr.below h (Nat.le_refl _), hr2.below h (Nat.le_refl _)⟩)
  have HSZ : Hid (∀ w0 : World, Calls Try.prog 67 #[.slice a2 s.length c2] w0 fun e w' => e = .returned (.int .i64 (sizeF s.length)) ∧ w0 = w') := Lib.hid (fun w0 => spec.l9Side_c _ _ _ _ hl2)
  clear hfi hx hy hw h hr2
  have hown := fun w0 (h : Row w0 a l) => l18Copy_c x y a c l w0 hl h hsh
  have HO := Lib.hid hown
  have HRW := Lib.hid hr
  clear hown
  go_enter Try.func32, Try.ntmps32
  go_wp2_with (go_at_call 67; refine (HSZ.out _).mono ?_; rintro e w' ⟨rfl, rfl⟩)
  obtain ⟨W0, hW0⟩ : ∃ WW, WW = (w.alloc (.cells #[.int .i64 x, .int .i64 y, .slice a l.length c] 26)).alloc (.cells #[.int .i64 0, .int .i64 0, .slice none 0 0] 26) := ⟨_, rfl⟩
  rw [← hW0]
  have c0 : W0.cell? ⟨w.heap.size, 0, none⟩ = some (.int .i64 x) := by rw [hW0]; simp
  have c1 : W0.cell? ⟨w.heap.size, 1, none⟩ = some (.int .i64 y) := by rw [hW0]; simp
  have c2' : W0.cell? ⟨w.heap.size, 2, none⟩ = some (.slice a l.length c) := by rw [hW0]; simp
  have PA : Hid (Box3 W0 w.heap.size (.int .i64 x) (.int .i64 y) (.slice a l.length c)) := Lib.hid (by rw [hW0]; exact (Box3.new w _ _ _ _).below ((Below.refl _ _).alloc (Nat.le_refl _) _) (Nat.le_refl _))
  have RA : Hid (Box3 W0 (w.heap.size + 1) (.int .i64 0) (.int .i64 0) (.slice none 0 0)) := Lib.hid (by rw [hW0]; exact ⟨by simp, by simp, by simp, by simp⟩)
  have RF : Hid (∀ i, W0.frozen? ⟨w.heap.size + 1, i, none⟩ = false) := Lib.hid (fun i => by rw [hW0]; simp [go_sem])
  have HB0 : Hid (Below w.heap.size w W0) := Lib.hid (by rw [hW0]; exact ((Below.refl w.heap.size w).alloc (Nat.le_refl _) _).alloc (by simp) _)
  have HZ : Hid (W0.heap.size = w.heap.size + 1 + 1) := Lib.hid (by rw [hW0]; simp)
  have HRd := Lib.hid ((HRW.out.below HB0.out (Nat.le_refl _)).drew)
  clear hW0
  refine (HO.out W0 (HRW.out.below HB0.out (Nat.le_refl _))).mono ?_
  rintro e w1 ⟨b, d, rfl, ho, hb⟩
  have hcut := own_cut1 (n := 0) 26 HB0.out HZ.out PA.out RA.out RF.out ho hb
  clear ho hb c0 c1 c2'
  have HCUT := Lib.hid hcut
  clear hcut
  go_upto_region 3 with fail
  obtain ⟨wc, hwc⟩ : ∃ WW, WW = w1.alloc (.cells #[.int .i64 x, .int .i64 y, .slice b l.length d] 26) := ⟨_, rfl⟩
  rw [← hwc]
  obtain ⟨o, ho⟩ : ∃ o, o = w1.heap.size := ⟨_, rfl⟩
  rw [← ho]
  have hF : OwnFacts w x y a c l o b d l wc := by
    have h := HCUT.out
    rw [← hwc, ← ho] at h
    obtain ⟨o2, b2, d2, _, h2, h3⟩ := h
    injection h2 with h2
    injection h2 with h2
    injection h2 with h2
    subst h2
    have hbb := h3.1.2.2.2
    have hb0 : wc.cell? ⟨o, 2, none⟩ = some (.slice b l.length d) := by rw [hwc, ho]; simp
    rw [hb0] at hbb
    injection hbb with hbb
    injection hbb with e1 e2 e3
    subst e1 e3
    exact h3
  clear hwc ho HCUT HZ RA RF HB0 PA HRd
  have hFH := Lib.hid hF
  obtain ⟨B1, _, _, B4, _, _, _, _⟩ := hF
  obtain ⟨_, b40, b41, b42⟩ := B4
  obtain ⟨_, b10, b11, b12⟩ := B1
  clear HRW HO
  go_wp2_with fail
  refine (HFI.out _ (HRR.out _ hFH.out.2.2.1).1).mono ?_
  rintro e wf ⟨rfl, hb⟩
  have hG := hFH.out.below hb
  clear hb hFH b40 b41 b42 b10 b11 b12
  have HG := Lib.hid hG
  obtain ⟨B1, _, _, B4, B5, FZ, _, _⟩ := hG
  obtain ⟨_, b40, b41, b42⟩ := B4
  obtain ⟨_, b10, b11, b12⟩ := B1
  obtain ⟨_, b50, b51, b52⟩ := B5
  have f0 := FZ 0
  have f1 := FZ 1
  have f2 := FZ 2
  clear FZ
  go_wp2
  have hD := HG.out.done
  refine bodyPost_ret (v := .tuple #[frv x y b l.length d, .bool false]) (by simp [results, Try.results32, go_sem, hD.1]) rfl ⟨b, d, rfl, hD.2.1, hD.2.2⟩
set_option maxHeartbeats 4000000 in
theorem spec.SetBlock_bad (x y : Int) (a : Option Addr) (c : Nat) (l : List Int) (u v : Int) (a2 : Option Addr) (c2 : Nat) (s : List Int) (w : World) (hl : l.length ≤ 1099511627776) (hr : Row w a l) (hl2 : s.length ≤ 1099511627776) (hr2 : Row w a2 s) (hx : -9223372036854775808 ≤ x ∧ x ≤ 9223372036854775807) (hy : -9223372036854775808 ≤ y ∧ y ≤ 9223372036854775807) (hw : ∀ x ∈ l, -9223372036854775808 ≤ x ∧ x ≤ 9223372036854775807) (hsh : Shape a c l) (h : fitsB x y l u v (sizeF s.length) = true) (h2 : allR 0 255 s = false) :
    Calls Try.prog 32 #[frv x y a l.length c, .int .i64 u, .int .i64 v, .slice a2 s.length c2] w fun e w' => ∃ b d, e = .returned (.tuple #[frv x y b l.length d, .bool false]) ∧ Own w.heap.size w' b d (l) ∧ Below w.heap.size w w' := by
  have hfi := fun w0 (h : Row w0 a l) => spec.l18In_c x y a c l u v (sizeF s.length) w0 hx hy hl h hw
  simp only [h] at hfi
  have HFI := Lib.hid hfi
  have HRR : Hid (∀ w0, Below w.heap.size w w0 → Row w0 a l ∧ Row w0 a2 s) := Lib.hid (fun w0 h => ⟨hr.below h (Nat.le_refl _), hr2.below h (Nat.le_refl _)⟩)
  have HSZ : Hid (∀ w0 : World, Calls Try.prog 67 #[.slice a2 s.length c2] w0 fun e w' => e = .returned (.int .i64 (sizeF s.length)) ∧ w0 = w') := Lib.hid (fun w0 => spec.l9Side_c _ _ _ _ hl2)
  have hal := fun w0 (h : Row w0 a2 s) => (spec.l14Pix_c a2 c2 s w0 (by omega) h)
  simp only [h2] at hal
  have HAL := Lib.hid hal
  clear hfi hal hx hy hw h h2 hr2
  have hown := fun w0 (h : Row w0 a l) => l18Copy_c x y a c l w0 hl h hsh
  have HO := Lib.hid hown
  have HRW := Lib.hid hr
  clear hown
  go_enter Try.func32, Try.ntmps32
  go_wp2_with (go_at_call 67; refine (HSZ.out _).mono ?_; rintro e w' ⟨rfl, rfl⟩)
  obtain ⟨W0, hW0⟩ : ∃ WW, WW = (w.alloc (.cells #[.int .i64 x, .int .i64 y, .slice a l.length c] 26)).alloc (.cells #[.int .i64 0, .int .i64 0, .slice none 0 0] 26) := ⟨_, rfl⟩
  rw [← hW0]
  have c0 : W0.cell? ⟨w.heap.size, 0, none⟩ = some (.int .i64 x) := by rw [hW0]; simp
  have c1 : W0.cell? ⟨w.heap.size, 1, none⟩ = some (.int .i64 y) := by rw [hW0]; simp
  have c2' : W0.cell? ⟨w.heap.size, 2, none⟩ = some (.slice a l.length c) := by rw [hW0]; simp
  have PA : Hid (Box3 W0 w.heap.size (.int .i64 x) (.int .i64 y) (.slice a l.length c)) := Lib.hid (by rw [hW0]; exact (Box3.new w _ _ _ _).below ((Below.refl _ _).alloc (Nat.le_refl _) _) (Nat.le_refl _))
  have RA : Hid (Box3 W0 (w.heap.size + 1) (.int .i64 0) (.int .i64 0) (.slice none 0 0)) := Lib.hid (by rw [hW0]; exact ⟨by simp, by simp, by simp, by simp⟩)
  have RF : Hid (∀ i, W0.frozen? ⟨w.heap.size + 1, i, none⟩ = false) := Lib.hid (fun i => by rw [hW0]; simp [go_sem])
  have HB0 : Hid (Below w.heap.size w W0) := Lib.hid (by rw [hW0]; exact ((Below.refl w.heap.size w).alloc (Nat.le_refl _) _).alloc (by simp) _)
  have HZ : Hid (W0.heap.size = w.heap.size + 1 + 1) := Lib.hid (by rw [hW0]; simp)
  have HRd := Lib.hid ((HRW.out.below HB0.out (Nat.le_refl _)).drew)
  clear hW0
  refine (HO.out W0 (HRW.out.below HB0.out (Nat.le_refl _))).mono ?_
  rintro e w1 ⟨b, d, rfl, ho, hb⟩
  have hcut := own_cut1 (n := 0) 26 HB0.out HZ.out PA.out RA.out RF.out ho hb
  clear ho hb c0 c1 c2'
  have HCUT := Lib.hid hcut
  clear hcut
  go_upto_region 3 with fail
  obtain ⟨wc, hwc⟩ : ∃ WW, WW = w1.alloc (.cells #[.int .i64 x, .int .i64 y, .slice b l.length d] 26) := ⟨_, rfl⟩
  rw [← hwc]
  obtain ⟨o, ho⟩ : ∃ o, o = w1.heap.size := ⟨_, rfl⟩
  rw [← ho]
  have hF : OwnFacts w x y a c l o b d l wc := by
    have h := HCUT.out
    rw [← hwc, ← ho] at h
    obtain ⟨o2, b2, d2, _, h2, h3⟩ := h
    injection h2 with h2
    injection h2 with h2
    injection h2 with h2
    subst h2
    have hbb := h3.1.2.2.2
    have hb0 : wc.cell? ⟨o, 2, none⟩ = some (.slice b l.length d) := by rw [hwc, ho]; simp
    rw [hb0] at hbb
    injection hbb with hbb
    injection hbb with e1 e2 e3
    subst e1 e3
    exact h3
  clear hwc ho HCUT HZ RA RF HB0 PA HRd
  have hFH := Lib.hid hF
  obtain ⟨B1, _, _, B4, _, _, _, _⟩ := hF
  obtain ⟨_, b40, b41, b42⟩ := B4
  obtain ⟨_, b10, b11, b12⟩ := B1
  clear HRW HO
  go_wp2_with fail
  refine (HFI.out _ (HRR.out _ hFH.out.2.2.1).1).mono ?_
  rintro e wf ⟨rfl, hb⟩
  have hG := hFH.out.below hb
  clear hb hFH b40 b41 b42 b10 b11 b12
  have HG := Lib.hid hG
  obtain ⟨B1, _, _, B4, B5, FZ, _, _⟩ := hG
  obtain ⟨_, b40, b41, b42⟩ := B4
  obtain ⟨_, b10, b11, b12⟩ := B1
  obtain ⟨_, b50, b51, b52⟩ := B5
  have f0 := FZ 0
  have f1 := FZ 1
  have f2 := FZ 2
  clear FZ
  have HRF := Lib.hid (HRR.out _ HG.out.2.2.1).2
  go_wp2_with (go_at_call 46; refine (HAL.out _ HRF.out).mono ?_; rintro e w' ⟨rfl, rfl⟩)
  have hD := HG.out.done
  refine bodyPost_ret (v := .tuple #[frv x y b l.length d, .bool false]) (by simp [results, Try.results32, go_sem, hD.1]) rfl ⟨b, d, rfl, hD.2.1, hD.2.2⟩
set_option maxHeartbeats 4000000 in
theorem spec.SetBlock_4 (x y : Int) (a : Option Addr) (c : Nat) (l : List Int) (u v : Int) (a2 : Option Addr) (c2 : Nat) (s : List Int) (w : World) (hl : l.length ≤ 1099511627776) (hr : Row w a l) (hl2 : s.length ≤ 1099511627776) (hr2 : Row w a2 s) (hx : -9223372036854775808 ≤ x ∧ x ≤ 9223372036854775807) (hy : -9223372036854775808 ≤ y ∧ y ≤ 9223372036854775807) (hw : ∀ x ∈ l, -9223372036854775808 ≤ x ∧ x ≤ 9223372036854775807) (hsh : Shape a c l) (X Y U V : Nat) (ex : x = X) (ey : y = Y) (eu : u = U) (ev : v = V) (hX : X ≤ 32) (hY : Y ≤ 32) (hlen : l.length = X * Y) (hU : U + 4 ≤ X) (hV : V + 4 ≤ Y) (hs : s.length = 16) (h : fitsB x y l u v 4 = true) (h2 : allR 0 255 s = true) :
    Calls Try.prog 32 #[frv x y a l.length c, .int .i64 u, .int .i64 v, .slice a2 s.length c2] w fun e w' => ∃ b d, e = .returned (.tuple #[frv x y b l.length d, .bool true]) ∧ Own w.heap.size w' b d (setBL X l U V 4 s 16) ∧ Below w.heap.size w w' := by
  have hfi := fun w0 (h : Row w0 a l) => spec.l18In_c x y a c l u v 4 w0 hx hy hl h hw
  simp only [h] at hfi
  have HFI := Lib.hid hfi
  have HRR : Hid (∀ w0, Below w.heap.size w w0 → Row w0 a l ∧ Row w0 a2 s) := Lib.hid (fun w0 h => ⟨hr.below h (Nat.le_refl _), hr2.below h (Nat.le_refl _)⟩)
  have HSZ : Hid (∀ w0 : World, Calls Try.prog 67 #[.slice a2 s.length c2] w0 fun e w' => e = .returned (.int .i64 4) ∧ w0 = w') := Lib.hid (fun w0 => by have h := spec.l9Side_c a2 c2 s.length w0 hl2; rw [show sizeF s.length = 4 from by rw [hs]; rfl] at h; exact h)
  have hal := fun w0 (h : Row w0 a2 s) => (spec.l14Pix_c a2 c2 s w0 (by omega) h)
  simp only [h2] at hal
  have HAL := Lib.hid hal
  have hrow : ∀ r t, t = r * X → r < Y → t + X ≤ l.length := by
    intro r t ht hlt
    have h1 : (r + 1) * X ≤ Y * X := Nat.mul_le_mul_right X hlt
    rw [Nat.add_mul, Nat.one_mul, Nat.mul_comm Y X, ← hlen, ← ht] at h1
    exact h1
  have HRow := Lib.hid hrow
  obtain ⟨b2, off2, rfl, hbk2, hc2⟩ := hr2.inside (by omega)
  rw [hs] at hc2
  have HC2 : Hid (∀ w0, Below w.heap.size w w0 → ∀ i, i < 16 → w0.cell? ⟨b2, off2 + i, none⟩ = some (.int .i64 (s.getD i 0))) := Lib.hid (fun w0 h i hi => (bcell h _ _ hbk2).trans (hc2 i hi))
  have hlb : l.length ≤ 1024 := by rw [hlen]; exact Nat.mul_le_mul hX hY
  have HLP : Hid (0 < l.length) := Lib.hid (by rw [hlen]; exact Nat.mul_pos (by omega) (by omega))
  subst ex ey eu ev
  rw [hs] at HSZ HAL ⊢
  clear hfi hal hx hy hw h h2 hr2 hrow hlen hc2 hs
  have hown := fun w0 (h : Row w0 a l) => l18Copy_c X Y a c l w0 hl h hsh
  have HO := Lib.hid hown
  have HRW := Lib.hid hr
  clear hown
  go_enter Try.func32, Try.ntmps32
  go_wp2_with (go_at_call 67; refine (HSZ.out _).mono ?_; rintro e w' ⟨rfl, rfl⟩)
  obtain ⟨W0, hW0⟩ : ∃ WW, WW = (w.alloc (.cells #[.int .i64 X, .int .i64 Y, .slice a l.length c] 26)).alloc (.cells #[.int .i64 0, .int .i64 0, .slice none 0 0] 26) := ⟨_, rfl⟩
  rw [← hW0]
  have c0 : W0.cell? ⟨w.heap.size, 0, none⟩ = some (.int .i64 X) := by rw [hW0]; simp
  have c1 : W0.cell? ⟨w.heap.size, 1, none⟩ = some (.int .i64 Y) := by rw [hW0]; simp
  have c2' : W0.cell? ⟨w.heap.size, 2, none⟩ = some (.slice a l.length c) := by rw [hW0]; simp
  have PA : Hid (Box3 W0 w.heap.size (.int .i64 X) (.int .i64 Y) (.slice a l.length c)) := Lib.hid (by rw [hW0]; exact (Box3.new w _ _ _ _).below ((Below.refl _ _).alloc (Nat.le_refl _) _) (Nat.le_refl _))
  have RA : Hid (Box3 W0 (w.heap.size + 1) (.int .i64 0) (.int .i64 0) (.slice none 0 0)) := Lib.hid (by rw [hW0]; exact ⟨by simp, by simp, by simp, by simp⟩)
  have RF : Hid (∀ i, W0.frozen? ⟨w.heap.size + 1, i, none⟩ = false) := Lib.hid (fun i => by rw [hW0]; simp [go_sem])
  have HB0 : Hid (Below w.heap.size w W0) := Lib.hid (by rw [hW0]; exact ((Below.refl w.heap.size w).alloc (Nat.le_refl _) _).alloc (by simp) _)
  have HZ : Hid (W0.heap.size = w.heap.size + 1 + 1) := Lib.hid (by rw [hW0]; simp)
  have HRd := Lib.hid ((HRW.out.below HB0.out (Nat.le_refl _)).drew)
  clear hW0
  refine (HO.out W0 (HRW.out.below HB0.out (Nat.le_refl _))).mono ?_
  rintro e w1 ⟨b, d, rfl, ho, hb⟩
  have hcut := own_cut1 (n := 0) 26 HB0.out HZ.out PA.out RA.out RF.out ho hb
  clear ho hb c0 c1 c2'
  have HCUT := Lib.hid hcut
  clear hcut
  go_upto_region 3 with fail
  obtain ⟨wc, hwc⟩ : ∃ WW, WW = w1.alloc (.cells #[.int .i64 X, .int .i64 Y, .slice b l.length d] 26) := ⟨_, rfl⟩
  rw [← hwc]
  obtain ⟨o, ho⟩ : ∃ o, o = w1.heap.size := ⟨_, rfl⟩
  rw [← ho]
  have hF : OwnFacts w X Y a c l o b d l wc := by
    have h := HCUT.out
    rw [← hwc, ← ho] at h
    obtain ⟨o2, b2, d2, _, h2, h3⟩ := h
    injection h2 with h2
    injection h2 with h2
    injection h2 with h2
    subst h2
    have hbb := h3.1.2.2.2
    have hb0 : wc.cell? ⟨o, 2, none⟩ = some (.slice b l.length d) := by rw [hwc, ho]; simp
    rw [hb0] at hbb
    injection hbb with hbb
    injection hbb with e1 e2 e3
    subst e1 e3
    exact h3
  clear hwc ho HCUT HZ RA RF HB0 PA HRd
  have hFH := Lib.hid hF
  obtain ⟨B1, _, _, B4, _, _, _, _⟩ := hF
  obtain ⟨_, b40, b41, b42⟩ := B4
  obtain ⟨_, b10, b11, b12⟩ := B1
  clear HRW HO
  go_wp2_with fail
  refine (HFI.out _ (HRR.out _ hFH.out.2.2.1).1).mono ?_
  rintro e wf ⟨rfl, hb⟩
  have hG := hFH.out.below hb
  clear hb hFH b40 b41 b42 b10 b11 b12
  have HG := Lib.hid hG
  have HRF := Lib.hid (HRR.out _ HG.out.2.2.1).2
  clear hG
  go_wp2_with (go_at_call 46; refine (HAL.out _ HRF.out).mono ?_; rintro e w' ⟨rfl, rfl⟩)
  obtain ⟨g, rfl, _⟩ := HG.out.2.1.at_ (i := 0) (by have := HLP.out; omega)
  go_loopw [12] (fun i wr => ∃ k : Nat, k ≤ 16 ∧ i = .int .i64 k ∧ OwnFacts w X Y a c l o (some ⟨g, 0, none⟩) d (setBL X l U V 4 s k) wr) (fun i _ => 16 - (intOf i).toNat)
  case atStart => exact ⟨0, Nat.zero_le _, rfl, HG.out⟩
  case round =>
    clear HG HRF HAL HFI
    obtain ⟨k, hk, rfl, hG⟩ := hrel
    by_cases hlt : k < 16
    · obtain ⟨p, hp⟩ : ∃ p, p = k % 4 := ⟨_, rfl⟩
      obtain ⟨q, hq⟩ : ∃ q, q = k / 4 := ⟨_, rfl⟩
      obtain ⟨r, hr⟩ : ∃ r, r = V + q := ⟨_, rfl⟩
      obtain ⟨m, hm⟩ : ∃ m, m = r * X := ⟨_, rfl⟩
      obtain ⟨t, ht⟩ : ∃ t, t = m + U := ⟨_, rfl⟩
      obtain ⟨j, hj⟩ : ∃ j, j = t + p := ⟨_, rfl⟩
      have hsX := HRow.out r m hm (by omega)
      have hjl : j < l.length := by omega
      have hsI : (r : Int) * (X : Int) = (m : Int) := by rw [hm]; exact (Int.natCast_mul r X).symm
      have e1 : (k : Int).tmod 4 = (p : Int) := by rw [Int.tmod_eq_emod_of_nonneg (by omega)]; omega
      have e3 : IntKind.i64.wrap ((k : Int).tdiv 4) = (q : Int) := by rw [Int.tdiv_eq_ediv_of_nonneg (by omega), IntWalk.i64_in _ (by omega)]; omega
      have e5 : (k : Int) % 4 = (p : Int) := by omega
      have e6 : (k : Int) / 4 = (q : Int) := by omega
      have e7 : IntKind.i64.wrap ((p : Int)) = (p : Int) := IntWalk.i64_in _ (by omega)
      have e8 : IntKind.i64.wrap ((q : Int)) = (q : Int) := IntWalk.i64_in _ (by omega)
      have e9 : IntKind.i64.wrap ((V : Int) + (q : Int)) = (r : Int) := by rw [IntWalk.i64_in _ (by omega)]; omega
      have ea : IntKind.i64.wrap ((r : Int) * (X : Int)) = (m : Int) := by rw [hsI, IntWalk.i64_in _ (by omega)]
      have eb : IntKind.i64.wrap ((m : Int) + (U : Int)) = (t : Int) := by rw [IntWalk.i64_in _ (by omega)]; omega
      have e4 : IntKind.i64.wrap ((t : Int) + (p : Int)) = (j : Int) := by rw [IntWalk.i64_in _ (by omega)]; omega
      have z1 : (j : Int) < (l.length : Int) := by omega
      have z2 : (k : Int) < 16 := by omega
      have hcs := HC2.out wr hG.2.2.1 k hlt
      have HY : Hid (setBL X l U V 4 s (k + 1) = (setBL X l U V 4 s k).set j (s.getD k 0)) := Lib.hid (by rw [setBL, hj, ht, hm, hr, hp, hq])
      have hcj := hG.2.1.cellAt (i := j) (by rw [setBL_len]; exact hjl)
      have hfj := hG.2.1.frozenAt j
      have HN := Lib.hid (hG.stored j (s.getD k 0))
      generalize s.getD k 0 = z at *
      generalize (setBL X l U V 4 s k).getD j 0 = z0 at *
      rw [← HY.out] at HN
      obtain ⟨B1, _, _, B4, _, _, _, _⟩ := hG
      obtain ⟨_, b40, b41, b42⟩ := B4
      obtain ⟨_, b10, b11, b12⟩ := B1
      clear hp hq hr hm ht hj hsX hjl hsI
      go_wp2_with fail
      go_still_tail 20, (by kernel_rfl)
      change wpList _ _ _ _ _ wr.drew
      go_wp2
      go_roundw
      case rel => exact ⟨k + 1, by omega, by go_num, HN.out.drew⟩
      case measure => simp [intOf]; omega
    · obtain rfl : k = 16 := by omega
      have HG := Lib.hid hG
      obtain ⟨B1, _, _, B4, B5, FZ, _, _⟩ := hG
      obtain ⟨_, b40, b41, b42⟩ := B4
      obtain ⟨_, b10, b11, b12⟩ := B1
      obtain ⟨_, b50, b51, b52⟩ := B5
      have f0 := FZ 0
      have f1 := FZ 1
      have f2 := FZ 2
      clear FZ
      go_wp2
      have hD := HG.out.done
      refine bodyPost_ret (v := .tuple #[frv X Y (some ⟨g, 0, none⟩) l.length d, .bool true]) (by simp [results, Try.results32, go_sem, hD.1]) rfl ⟨_, d, rfl, hD.2.1, hD.2.2⟩
set_option maxHeartbeats 4000000 in
theorem spec.SetBlock_8 (x y : Int) (a : Option Addr) (c : Nat) (l : List Int) (u v : Int) (a2 : Option Addr) (c2 : Nat) (s : List Int) (w : World) (hl : l.length ≤ 1099511627776) (hr : Row w a l) (hl2 : s.length ≤ 1099511627776) (hr2 : Row w a2 s) (hx : -9223372036854775808 ≤ x ∧ x ≤ 9223372036854775807) (hy : -9223372036854775808 ≤ y ∧ y ≤ 9223372036854775807) (hw : ∀ x ∈ l, -9223372036854775808 ≤ x ∧ x ≤ 9223372036854775807) (hsh : Shape a c l) (X Y U V : Nat) (ex : x = X) (ey : y = Y) (eu : u = U) (ev : v = V) (hX : X ≤ 32) (hY : Y ≤ 32) (hlen : l.length = X * Y) (hU : U + 8 ≤ X) (hV : V + 8 ≤ Y) (hs : s.length = 64) (h : fitsB x y l u v 8 = true) (h2 : allR 0 255 s = true) :
    Calls Try.prog 32 #[frv x y a l.length c, .int .i64 u, .int .i64 v, .slice a2 s.length c2] w fun e w' => ∃ b d, e = .returned (.tuple #[frv x y b l.length d, .bool true]) ∧ Own w.heap.size w' b d (setBL X l U V 8 s 64) ∧ Below w.heap.size w w' := by
  have hfi := fun w0 (h : Row w0 a l) => spec.l18In_c x y a c l u v 8 w0 hx hy hl h hw
  simp only [h] at hfi
  have HFI := Lib.hid hfi
  have HRR : Hid (∀ w0, Below w.heap.size w w0 → Row w0 a l ∧ Row w0 a2 s) := Lib.hid (fun w0 h => ⟨hr.below h (Nat.le_refl _), hr2.below h (Nat.le_refl _)⟩)
  have HSZ : Hid (∀ w0 : World, Calls Try.prog 67 #[.slice a2 s.length c2] w0 fun e w' => e = .returned (.int .i64 8) ∧ w0 = w') := Lib.hid (fun w0 => by have h := spec.l9Side_c a2 c2 s.length w0 hl2; rw [show sizeF s.length = 8 from by rw [hs]; rfl] at h; exact h)
  have hal := fun w0 (h : Row w0 a2 s) => (spec.l14Pix_c a2 c2 s w0 (by omega) h)
  simp only [h2] at hal
  have HAL := Lib.hid hal
  have hrow : ∀ r t, t = r * X → r < Y → t + X ≤ l.length := by
    intro r t ht hlt
    have h1 : (r + 1) * X ≤ Y * X := Nat.mul_le_mul_right X hlt
    rw [Nat.add_mul, Nat.one_mul, Nat.mul_comm Y X, ← hlen, ← ht] at h1
    exact h1
  have HRow := Lib.hid hrow
  obtain ⟨b2, off2, rfl, hbk2, hc2⟩ := hr2.inside (by omega)
  rw [hs] at hc2
  have HC2 : Hid (∀ w0, Below w.heap.size w w0 → ∀ i, i < 64 → w0.cell? ⟨b2, off2 + i, none⟩ = some (.int .i64 (s.getD i 0))) := Lib.hid (fun w0 h i hi => (bcell h _ _ hbk2).trans (hc2 i hi))
  have hlb : l.length ≤ 1024 := by rw [hlen]; exact Nat.mul_le_mul hX hY
  have HLP : Hid (0 < l.length) := Lib.hid (by rw [hlen]; exact Nat.mul_pos (by omega) (by omega))
  subst ex ey eu ev
  rw [hs] at HSZ HAL ⊢
  clear hfi hal hx hy hw h h2 hr2 hrow hlen hc2 hs
  have hown := fun w0 (h : Row w0 a l) => l18Copy_c X Y a c l w0 hl h hsh
  have HO := Lib.hid hown
  have HRW := Lib.hid hr
  clear hown
  go_enter Try.func32, Try.ntmps32
  go_wp2_with (go_at_call 67; refine (HSZ.out _).mono ?_; rintro e w' ⟨rfl, rfl⟩)
  obtain ⟨W0, hW0⟩ : ∃ WW, WW = (w.alloc (.cells #[.int .i64 X, .int .i64 Y, .slice a l.length c] 26)).alloc (.cells #[.int .i64 0, .int .i64 0, .slice none 0 0] 26) := ⟨_, rfl⟩
  rw [← hW0]
  have c0 : W0.cell? ⟨w.heap.size, 0, none⟩ = some (.int .i64 X) := by rw [hW0]; simp
  have c1 : W0.cell? ⟨w.heap.size, 1, none⟩ = some (.int .i64 Y) := by rw [hW0]; simp
  have c2' : W0.cell? ⟨w.heap.size, 2, none⟩ = some (.slice a l.length c) := by rw [hW0]; simp
  have PA : Hid (Box3 W0 w.heap.size (.int .i64 X) (.int .i64 Y) (.slice a l.length c)) := Lib.hid (by rw [hW0]; exact (Box3.new w _ _ _ _).below ((Below.refl _ _).alloc (Nat.le_refl _) _) (Nat.le_refl _))
  have RA : Hid (Box3 W0 (w.heap.size + 1) (.int .i64 0) (.int .i64 0) (.slice none 0 0)) := Lib.hid (by rw [hW0]; exact ⟨by simp, by simp, by simp, by simp⟩)
  have RF : Hid (∀ i, W0.frozen? ⟨w.heap.size + 1, i, none⟩ = false) := Lib.hid (fun i => by rw [hW0]; simp [go_sem])
  have HB0 : Hid (Below w.heap.size w W0) := Lib.hid (by rw [hW0]; exact ((Below.refl w.heap.size w).alloc (Nat.le_refl _) _).alloc (by simp) _)
  have HZ : Hid (W0.heap.size = w.heap.size + 1 + 1) := Lib.hid (by rw [hW0]; simp)
  have HRd := Lib.hid ((HRW.out.below HB0.out (Nat.le_refl _)).drew)
  clear hW0
  refine (HO.out W0 (HRW.out.below HB0.out (Nat.le_refl _))).mono ?_
  rintro e w1 ⟨b, d, rfl, ho, hb⟩
  have hcut := own_cut1 (n := 0) 26 HB0.out HZ.out PA.out RA.out RF.out ho hb
  clear ho hb c0 c1 c2'
  have HCUT := Lib.hid hcut
  clear hcut
  go_upto_region 3 with fail
  obtain ⟨wc, hwc⟩ : ∃ WW, WW = w1.alloc (.cells #[.int .i64 X, .int .i64 Y, .slice b l.length d] 26) := ⟨_, rfl⟩
  rw [← hwc]
  obtain ⟨o, ho⟩ : ∃ o, o = w1.heap.size := ⟨_, rfl⟩
  rw [← ho]
  have hF : OwnFacts w X Y a c l o b d l wc := by
    have h := HCUT.out
    rw [← hwc, ← ho] at h
    obtain ⟨o2, b2, d2, _, h2, h3⟩ := h
    injection h2 with h2
    injection h2 with h2
    injection h2 with h2
    subst h2
    have hbb := h3.1.2.2.2
    have hb0 : wc.cell? ⟨o, 2, none⟩ = some (.slice b l.length d) := by rw [hwc, ho]; simp
    rw [hb0] at hbb
    injection hbb with hbb
    injection hbb with e1 e2 e3
    subst e1 e3
    exact h3
  clear hwc ho HCUT HZ RA RF HB0 PA HRd
  have hFH := Lib.hid hF
  obtain ⟨B1, _, _, B4, _, _, _, _⟩ := hF
  obtain ⟨_, b40, b41, b42⟩ := B4
  obtain ⟨_, b10, b11, b12⟩ := B1
  clear HRW HO
  go_wp2_with fail
  refine (HFI.out _ (HRR.out _ hFH.out.2.2.1).1).mono ?_
  rintro e wf ⟨rfl, hb⟩
  have hG := hFH.out.below hb
  clear hb hFH b40 b41 b42 b10 b11 b12
  have HG := Lib.hid hG
  have HRF := Lib.hid (HRR.out _ HG.out.2.2.1).2
  clear hG
  go_wp2_with (go_at_call 46; refine (HAL.out _ HRF.out).mono ?_; rintro e w' ⟨rfl, rfl⟩)
  obtain ⟨g, rfl, _⟩ := HG.out.2.1.at_ (i := 0) (by have := HLP.out; omega)
  go_loopw [12] (fun i wr => ∃ k : Nat, k ≤ 64 ∧ i = .int .i64 k ∧ OwnFacts w X Y a c l o (some ⟨g, 0, none⟩) d (setBL X l U V 8 s k) wr) (fun i _ => 64 - (intOf i).toNat)
  case atStart => exact ⟨0, Nat.zero_le _, rfl, HG.out⟩
  case round =>
    clear HG HRF HAL HFI
    obtain ⟨k, hk, rfl, hG⟩ := hrel
    by_cases hlt : k < 64
    · obtain ⟨p, hp⟩ : ∃ p, p = k % 8 := ⟨_, rfl⟩
      obtain ⟨q, hq⟩ : ∃ q, q = k / 8 := ⟨_, rfl⟩
      obtain ⟨r, hr⟩ : ∃ r, r = V + q := ⟨_, rfl⟩
      obtain ⟨m, hm⟩ : ∃ m, m = r * X := ⟨_, rfl⟩
      obtain ⟨t, ht⟩ : ∃ t, t = m + U := ⟨_, rfl⟩
      obtain ⟨j, hj⟩ : ∃ j, j = t + p := ⟨_, rfl⟩
      have hsX := HRow.out r m hm (by omega)
      have hjl : j < l.length := by omega
      have hsI : (r : Int) * (X : Int) = (m : Int) := by rw [hm]; exact (Int.natCast_mul r X).symm
      have e1 : (k : Int).tmod 8 = (p : Int) := by rw [Int.tmod_eq_emod_of_nonneg (by omega)]; omega
      have e3 : IntKind.i64.wrap ((k : Int).tdiv 8) = (q : Int) := by rw [Int.tdiv_eq_ediv_of_nonneg (by omega), IntWalk.i64_in _ (by omega)]; omega
      have e5 : (k : Int) % 8 = (p : Int) := by omega
      have e6 : (k : Int) / 8 = (q : Int) := by omega
      have e7 : IntKind.i64.wrap ((p : Int)) = (p : Int) := IntWalk.i64_in _ (by omega)
      have e8 : IntKind.i64.wrap ((q : Int)) = (q : Int) := IntWalk.i64_in _ (by omega)
      have e9 : IntKind.i64.wrap ((V : Int) + (q : Int)) = (r : Int) := by rw [IntWalk.i64_in _ (by omega)]; omega
      have ea : IntKind.i64.wrap ((r : Int) * (X : Int)) = (m : Int) := by rw [hsI, IntWalk.i64_in _ (by omega)]
      have eb : IntKind.i64.wrap ((m : Int) + (U : Int)) = (t : Int) := by rw [IntWalk.i64_in _ (by omega)]; omega
      have e4 : IntKind.i64.wrap ((t : Int) + (p : Int)) = (j : Int) := by rw [IntWalk.i64_in _ (by omega)]; omega
      have z1 : (j : Int) < (l.length : Int) := by omega
      have z2 : (k : Int) < 64 := by omega
      have hcs := HC2.out wr hG.2.2.1 k hlt
      have HY : Hid (setBL X l U V 8 s (k + 1) = (setBL X l U V 8 s k).set j (s.getD k 0)) := Lib.hid (by rw [setBL, hj, ht, hm, hr, hp, hq])
      have hcj := hG.2.1.cellAt (i := j) (by rw [setBL_len]; exact hjl)
      have hfj := hG.2.1.frozenAt j
      have HN := Lib.hid (hG.stored j (s.getD k 0))
      generalize s.getD k 0 = z at *
      generalize (setBL X l U V 8 s k).getD j 0 = z0 at *
      rw [← HY.out] at HN
      obtain ⟨B1, _, _, B4, _, _, _, _⟩ := hG
      obtain ⟨_, b40, b41, b42⟩ := B4
      obtain ⟨_, b10, b11, b12⟩ := B1
      clear hp hq hr hm ht hj hsX hjl hsI
      go_wp2_with fail
      go_still_tail 20, (by kernel_rfl)
      change wpList _ _ _ _ _ wr.drew
      go_wp2
      go_roundw
      case rel => exact ⟨k + 1, by omega, by go_num, HN.out.drew⟩
      case measure => simp [intOf]; omega
    · obtain rfl : k = 64 := by omega
      have HG := Lib.hid hG
      obtain ⟨B1, _, _, B4, B5, FZ, _, _⟩ := hG
      obtain ⟨_, b40, b41, b42⟩ := B4
      obtain ⟨_, b10, b11, b12⟩ := B1
      obtain ⟨_, b50, b51, b52⟩ := B5
      have f0 := FZ 0
      have f1 := FZ 1
      have f2 := FZ 2
      clear FZ
      go_wp2
      have hD := HG.out.done
      refine bodyPost_ret (v := .tuple #[frv X Y (some ⟨g, 0, none⟩) l.length d, .bool true]) (by simp [results, Try.results32, go_sem, hD.1]) rfl ⟨_, d, rfl, hD.2.1, hD.2.2⟩
theorem spec.SetBlock_c (x y : Int) (a : Option Addr) (c : Nat) (l : List Int) (u v : Int) (a2 : Option Addr) (c2 : Nat) (s : List Int) (w : World) (hx : -9223372036854775808 ≤ x ∧ x ≤ 9223372036854775807) (hy : -9223372036854775808 ≤ y ∧ y ≤ 9223372036854775807) (hl : l.length ≤ 1099511627776) (hr : Row w a l) (hw : ∀ x ∈ l, -9223372036854775808 ≤ x ∧ x ≤ 9223372036854775807) (hl2 : s.length ≤ 1099511627776) (hr2 : Row w a2 s) (hw2 : ∀ x ∈ s, -9223372036854775808 ≤ x ∧ x ≤ 9223372036854775807) (hsh : Shape a c l) :
    Calls Try.prog 32 #[frv x y a l.length c, .int .i64 u, .int .i64 v, .slice a2 s.length c2] w fun e w' => ∃ b d, e = .returned (.tuple #[frv x y b (setV x y l u v s).length d, .bool (setOk x y l u v s)]) ∧ Own w.heap.size w' b d (setV x y l u v s) ∧ Below w.heap.size w w' := by
  rw [setV_len]
  cases h : fitsB x y l u v (sizeF s.length)
  · have e1 : setOk x y l u v s = false := by simp [setOk, h]
    have e2 : setV x y l u v s = l := by simp [setV, e1]
    rw [e1, e2]
    exact spec.SetBlock_no x y a c l u v a2 c2 s w hl hr hl2 hr2 hx hy hw hsh h
  · cases h2 : allR 0 255 s
    · have e1 : setOk x y l u v s = false := by simp [setOk, h2]
      have e2 : setV x y l u v s = l := by simp [setV, e1]
      rw [e1, e2]
      exact spec.SetBlock_bad x y a c l u v a2 c2 s w hl hr hl2 hr2 hx hy hw hsh h h2
    · have e1 : setOk x y l u v s = true := by simp [setOk, h, h2]
      have e2 : setV x y l u v s = setBL x.toNat l u.toNat v.toNat (sizeF s.length).toNat s s.length := by simp [setV, e1]
      rw [e1, e2]
      rcases sizeF_cases s.length with ⟨hs, he⟩ | ⟨hs, he⟩ | ⟨_, _, he⟩
      · rw [he] at h ⊢
        obtain ⟨X, Y, U, V, rfl, rfl, rfl, rfl, hX, hY, hlen, hn⟩ := blk_split h
        have hUV : U + 4 ≤ X ∧ V + 4 ≤ Y := by rcases hn with ⟨_, h1, h2⟩ | ⟨h0, _, _⟩ <;> first | exact ⟨h1, h2⟩ | cases h0
        rw [hs]
        have hh := spec.SetBlock_4 X Y a c l U V a2 c2 s w hl hr hl2 hr2 hx hy hw hsh X Y U V rfl rfl rfl rfl hX hY hlen hUV.1 hUV.2 hs h h2
        rw [hs] at hh
        exact hh
      · rw [he] at h ⊢
        obtain ⟨X, Y, U, V, rfl, rfl, rfl, rfl, hX, hY, hlen, hn⟩ := blk_split h
        have hUV : U + 8 ≤ X ∧ V + 8 ≤ Y := by rcases hn with ⟨h0, _, _⟩ | ⟨_, h1, h2⟩ <;> first | exact ⟨h1, h2⟩ | cases h0
        rw [hs]
        have hh := spec.SetBlock_8 X Y a c l U V a2 c2 s w hl hr hl2 hr2 hx hy hw hsh X Y U V rfl rfl rfl rfl hX hY hlen hUV.1 hUV.2 hs h h2
        rw [hs] at hh
        exact hh
      · rw [he] at h
        have := (fitsB_true h).2.1
        omega

end Go.Proofs.Ytkfjbnhihjnhnaa
