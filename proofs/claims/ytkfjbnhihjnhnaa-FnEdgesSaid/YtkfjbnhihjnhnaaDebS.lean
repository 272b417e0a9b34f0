/- Contracts: the reference's two passes of the filter. -/
import Derived.Test.YtkfjbnhihjnhnaaDebI
namespace Go.Proofs.Ytkfjbnhihjnhnaa
open Go.RowKit
set_option linter.unusedVariables false

/-- the two samples at an edge filtered, out of one row into another one -/
def smC (f l : List Int) (at_ st : Nat) (q : Int) : List Int :=
  (l.set (at_ - st) (edgeP (f.getD (at_ - 2 * st) 0) (f.getD (at_ - st) 0) (f.getD at_ 0) (f.getD (at_ + st) 0) q)).set at_ (edgeQ (f.getD (at_ - 2 * st) 0) (f.getD (at_ - st) 0) (f.getD at_ 0) (f.getD (at_ + st) 0) q)
theorem smC_len (f l : List Int) (at_ st : Nat) (q : Int) : (smC f l at_ st q).length = l.length := by simp [smC]
def vRC (W : Nat) (q : Int) (y : Nat) (f l : List Int) : Nat → List Int | 0 => l | j + 1 => smC f (vRC W q y f l j) (y * W + 8 * (j + 1)) 1 q
def vAC (W : Nat) (q : Int) (y0 : Nat) (f l : List Int) : Nat → List Int | 0 => l | k + 1 => vRC W q (y0 + k) f (vAC W q y0 f l k) (W / 8 - 1)
def hRC (W : Nat) (q : Int) (y : Nat) (f l : List Int) : Nat → List Int | 0 => l | x + 1 => smC f (hRC W q y f l x) (y * W + x) W q
def hAC (W : Nat) (q : Int) (f l : List Int) : Nat → List Int | 0 => l | j + 1 => hRC W q (8 * (j + 1)) f (hAC W q f l j) W
theorem vRC_len (W : Nat) (q : Int) (y : Nat) (f l : List Int) (j : Nat) : (vRC W q y f l j).length = l.length := by
  induction j with
  | zero => rfl
  | succ j ih => rw [vRC, smC_len, ih]
theorem vAC_len (W : Nat) (q : Int) (y0 : Nat) (f l : List Int) (k : Nat) : (vAC W q y0 f l k).length = l.length := by
  induction k with
  | zero => rfl
  | succ k ih => rw [vAC, vRC_len, ih]
theorem hRC_len (W : Nat) (q : Int) (y : Nat) (f l : List Int) (j : Nat) : (hRC W q y f l j).length = l.length := by
  induction j with
  | zero => rfl
  | succ j ih => rw [hRC, smC_len, ih]
theorem hAC_len (W : Nat) (q : Int) (f l : List Int) (k : Nat) : (hAC W q f l k).length = l.length := by
  induction k with
  | zero => rfl
  | succ k ih => rw [hAC, hRC_len, ih]

/-- what stands in a pass: both frames' blocks, the result's block still empty, the row that is written -/
def PassF (w : World) (x y : Int) (a1 : Option Addr) (c1 n : Nat) (g c B : Nat) (l2 : List Int) (wr : World) : Prop :=
  Box3 wr w.heap.size (.int .i64 x) (.int .i64 y) (.slice a1 n c1) ∧ Box3 wr (w.heap.size + 1) (.int .i64 x) (.int .i64 y) (.slice (some ⟨g, 0, none⟩) n c) ∧ Box3 wr (w.heap.size + 1 + 1) (.int .i64 0) (.int .i64 0) (.slice none 0 0) ∧
  (∀ i, wr.frozen? ⟨w.heap.size + 1 + 1, i, none⟩ = false) ∧ Own B wr (some ⟨g, 0, none⟩) c l2 ∧ w.grownBy wr (some g)
theorem PassF.start {w : World} {x y : Int} {a1 : Option Addr} {c1 n g c B : Nat} {l : List Int} (t : TypeId) (ho : Own B w (some ⟨g, 0, none⟩) c l) :
    PassF w x y a1 c1 n g c B l (((w.alloc (.cells #[.int .i64 x, .int .i64 y, .slice a1 n c1] t)).alloc (.cells #[.int .i64 x, .int .i64 y, .slice (some ⟨g, 0, none⟩) n c] t)).alloc (.cells #[.int .i64 0, .int .i64 0, .slice none 0 0] t)) := by
  refine ⟨?_, ?_, ?_, fun i => by simp [go_sem], ((ho.alloc _).alloc _).alloc _, grown_trans (grown_trans (World.grownBy_alloc _ _ _) (World.grownBy_alloc _ _ _)) (World.grownBy_alloc _ _ _)⟩
  · exact ((Box3.new w _ _ _ _).below ((Below.refl _ _).alloc (Nat.le_refl _) _) (Nat.le_refl _)).below ((Below.refl _ _).alloc (Nat.le_refl _) _) (Nat.le_refl _)
  · have h := (Box3.new (w.alloc (.cells #[.int .i64 x, .int .i64 y, .slice a1 n c1] t)) t (.int .i64 x) (.int .i64 y) (.slice (some ⟨g, 0, none⟩) n c)).below ((Below.refl _ _).alloc (Nat.le_refl _) (.cells #[.int .i64 0, .int .i64 0, .slice none 0 0] t)) (Nat.le_refl _)
    simpa using h
  · have h := Box3.new ((w.alloc (.cells #[.int .i64 x, .int .i64 y, .slice a1 n c1] t)).alloc (.cells #[.int .i64 x, .int .i64 y, .slice (some ⟨g, 0, none⟩) n c] t)) t (.int .i64 0) (.int .i64 0) (.slice none 0 0)
    simpa using h
theorem PassF.below {w wr w' : World} {x y : Int} {a1 : Option Addr} {c1 n g c B : Nat} {l2 : List Int} (h : PassF w x y a1 c1 n g c B l2 wr) (hb : Below wr.heap.size wr w') : PassF w x y a1 c1 n g c B l2 w' := by
  obtain ⟨h1, h2, h3, h4, h5, h6⟩ := h
  exact ⟨h1.below hb (Nat.le_refl _), h2.below hb (Nat.le_refl _), h3.below hb (Nat.le_refl _), fun i => (bfrozen hb _ _ h3.1).trans (h4 i), h5.below hb (Nat.le_refl _), grown_trans h6 (below_grows hb _)⟩
theorem PassF.stored {w wr : World} {x y : Int} {a1 : Option Addr} {c1 n g c B : Nat} {l2 : List Int} (h : PassF w x y a1 c1 n g c B l2 wr) (hg : g < w.heap.size) (i : Nat) (v : Int) : PassF w x y a1 c1 n g c B (l2.set i v) (wr.setCell ⟨g, i, none⟩ (.int .i64 v)) := by
  obtain ⟨h1, h2, h3, h4, h5, h6⟩ := h
  exact ⟨h1.far (by show g ≠ _; omega) _, h2.far (by show g ≠ _; omega) _, h3.far (by show g ≠ _; omega) _, fun j => by simp [go_sem, h4 j], h5.stored i v, grown_trans h6 (grown_set h5 i v)⟩
theorem PassF.done {w wr : World} {x y : Int} {a1 : Option Addr} {c1 n g c B : Nat} {l2 : List Int} (h : PassF w x y a1 c1 n g c B l2 wr) (hg : g < w.heap.size) (hB : B ≤ g) :
    (((((wr.setCell ⟨w.heap.size + 1 + 1, 0, none⟩ (.int .i64 x)).setCell ⟨w.heap.size + 1 + 1, 1, none⟩ (.int .i64 y)).setCell ⟨w.heap.size + 1 + 1, 2, none⟩ (.slice (some ⟨g, 0, none⟩) n c)).cell? ⟨w.heap.size + 1 + 1, 0, none⟩ = some (.int .i64 x)) ∧
    ((((wr.setCell ⟨w.heap.size + 1 + 1, 0, none⟩ (.int .i64 x)).setCell ⟨w.heap.size + 1 + 1, 1, none⟩ (.int .i64 y)).setCell ⟨w.heap.size + 1 + 1, 2, none⟩ (.slice (some ⟨g, 0, none⟩) n c)).cell? ⟨w.heap.size + 1 + 1, 1, none⟩ = some (.int .i64 y)) ∧
    ((((wr.setCell ⟨w.heap.size + 1 + 1, 0, none⟩ (.int .i64 x)).setCell ⟨w.heap.size + 1 + 1, 1, none⟩ (.int .i64 y)).setCell ⟨w.heap.size + 1 + 1, 2, none⟩ (.slice (some ⟨g, 0, none⟩) n c)).cell? ⟨w.heap.size + 1 + 1, 2, none⟩ = some (.slice (some ⟨g, 0, none⟩) n c))) ∧
    Own B (((wr.setCell ⟨w.heap.size + 1 + 1, 0, none⟩ (.int .i64 x)).setCell ⟨w.heap.size + 1 + 1, 1, none⟩ (.int .i64 y)).setCell ⟨w.heap.size + 1 + 1, 2, none⟩ (.slice (some ⟨g, 0, none⟩) n c)) (some ⟨g, 0, none⟩) c l2 ∧
    w.grownBy (((wr.setCell ⟨w.heap.size + 1 + 1, 0, none⟩ (.int .i64 x)).setCell ⟨w.heap.size + 1 + 1, 1, none⟩ (.int .i64 y)).setCell ⟨w.heap.size + 1 + 1, 2, none⟩ (.slice (some ⟨g, 0, none⟩) n c)) (some g) := by
  obtain ⟨h1, h2, h3, h4, h5, h6⟩ := h
  have hz := h6.size
  have hb : Below (w.heap.size + 1 + 1) wr (((wr.setCell ⟨w.heap.size + 1 + 1, 0, none⟩ (.int .i64 x)).setCell ⟨w.heap.size + 1 + 1, 1, none⟩ (.int .i64 y)).setCell ⟨w.heap.size + 1 + 1, 2, none⟩ (.slice (some ⟨g, 0, none⟩) n c)) :=
    (((Below.refl _ _).setCell (p := ⟨w.heap.size + 1 + 1, 0, none⟩) (Nat.le_refl _) _).setCell (p := ⟨w.heap.size + 1 + 1, 1, none⟩) (Nat.le_refl _) _).setCell (p := ⟨w.heap.size + 1 + 1, 2, none⟩) (Nat.le_refl _) _
  refine ⟨three_set _ _ _ h3.2.1 h3.2.2.1 h3.2.2.2, h5.under hb (fun p hp => by cases hp; show g < _; omega), ?_⟩
  exact ⟨hb.os.trans h6.os, hb.tape.trans h6.tape, hb.output.trans h6.output, Nat.le_trans h6.size hb.size, fun i hi hne => (hb.block i (by omega)).trans (h6.block i hi hne)⟩
def okB (x y : Int) (l : List Int) (q : Int) : Bool := frameB x y l && decide (0 < alphaF q)
theorem alpha_in (q : Int) : decide (0 < alphaF q) = inR 0 51 q := by
  unfold alphaF
  cases h : inR 0 51 q
  · simp
  · have := inR_true h; simp; omega
theorem okB_eq (x y : Int) (l : List Int) (q : Int) : okB x y l q = filtB x y l q := by rw [okB, filtB, alpha_in]


set_option maxHeartbeats 8000000 in
theorem spec.l20Across_same (X Y : Nat) (y0 y1 : Nat) (q : Int) (g c B : Nat) (l : List Int) (w : World) (hX : 8 ≤ X ∧ X ≤ 32 ∧ X % 8 = 0) (hY : Y ≤ 32) (hl : l.length = X * Y) (h01 : y0 ≤ y1) (h1 : y1 ≤ Y) (ho : Own B w (some ⟨g, 0, none⟩) c l) :
    Calls Try.prog 43 #[frv X Y (some ⟨g, 0, none⟩) l.length c, frv X Y (some ⟨g, 0, none⟩) l.length c, .int .i64 q, .int .i64 y0, .int .i64 y1] w fun e w' => e = .returned (frv X Y (some ⟨g, 0, none⟩) l.length c) ∧ Own B w' (some ⟨g, 0, none⟩) c (vA X q y0 l (y1 - y0)) ∧ w.grownBy w' (some g) := by
  obtain ⟨hX0, hX1, hX2⟩ := hX
  have hlb : l.length ≤ 1024 := by rw [hl]; exact Nat.mul_le_mul hX1 hY
  have hg2 : g < w.heap.size := (ho.lt _ rfl).2
  have hgB : B ≤ g := (ho.lt _ rfl).1
  have HLP : Hid (0 < l.length → True) := Lib.hid (fun _ => trivial)
  have HL := Lib.hid hl
  have HO := Lib.hid ho
  have HX2 := Lib.hid hX2
  clear hl ho hX2
  go_enter Try.func43, Try.ntmps43
  go_wp2
  go_loopw [11, 12] (fun i _ wr => ∃ k yy : Nat, k ≤ y1 - y0 ∧ yy = y0 + k ∧ i = .int .i64 yy ∧ PassF w X Y (some ⟨g, 0, none⟩) c l.length g c B (vA X q y0 l k) wr) (fun i _ _ => (y1 - (intOf i)).toNat)
  case atStart => exact ⟨0, y0, Nat.zero_le _, rfl, rfl, PassF.start _ HO.out⟩
  case round =>
    obtain ⟨k, yy, hk, hyy, rfl, hP⟩ := hrel
    have HYY := Lib.hid hyy
    by_cases hlt : yy < y1
    · have hltd : decide ((yy : Int) < (y1 : Int)) = true := by simp; omega
      have hyl : yy < Y := by omega
      have hk2 : k < y1 - y0 := by omega
      obtain ⟨s, hs⟩ : ∃ s, s = yy * X := ⟨_, rfl⟩
      have hsX := row_in HL.out hs hyl
      have hsI : (yy : Int) * (X : Int) = (s : Int) := by rw [hs]; exact (Int.natCast_mul yy X).symm
      have ea : IntKind.i64.wrap ((yy : Int) * (X : Int)) = (s : Int) := by rw [hsI, IntWalk.i64_in _ (by omega)]
      have HS := Lib.hid hs
      have HP := Lib.hid hP
      clear hP hyy hs
      go_wp2
      obtain ⟨wz, hwz⟩ : ∃ wz : World, wz = wr := ⟨_, rfl⟩
      rw [← hwz] at HP ⊢
      clear hwz
      go_loopw [12] (fun i wr => ∃ j xx : Nat, j ≤ X / 8 - 1 ∧ xx = 8 * (j + 1) ∧ i = .int .i64 xx ∧ PassF w X Y (some ⟨g, 0, none⟩) c l.length g c B (vR X q yy (vA X q y0 l k) j) wr) (fun i _ => (X + 8 - (intOf i)).toNat)
      case atStart => exact ⟨0, 8, Nat.zero_le _, rfl, rfl, HP.out⟩
      case round =>
        clear HP
        obtain ⟨j, xx, hj, hxx, rfl, hP⟩ := hrel
        have HXX := Lib.hid hxx
        by_cases hlx : xx < X
        · have hlxd : decide ((xx : Int) < (X : Int)) = true := by simp; omega
          have hj2 : j < X / 8 - 1 := by have := HX2.out; omega
          have hxx8 : xx + 8 ≤ X := by have := HX2.out; omega
          obtain ⟨at_, hat⟩ : ∃ t, t = s + xx := ⟨_, rfl⟩
          have eb : IntKind.i64.wrap ((s : Int) + (xx : Int)) = (at_ : Int) := by rw [IntWalk.i64_in _ (by omega)]; omega
          have eb' : (s : Int) + (xx : Int) = (at_ : Int) := by omega
          obtain ⟨i0, hi0⟩ : ∃ t, t = at_ - 2 * 1 := ⟨_, rfl⟩
          obtain ⟨i1, hi1⟩ : ∃ t, t = at_ - 1 := ⟨_, rfl⟩
          obtain ⟨i3, hi3⟩ : ∃ t, t = at_ + 1 := ⟨_, rfl⟩
          have i0l : i0 < l.length := by omega
          have i1l : i1 < l.length := by omega
          have i2l : at_ < l.length := by omega
          have i3l : i3 < l.length := by omega
          have w0t : IntKind.i64.wrap ((at_ : Int) - 2) = (i0 : Int) := by rw [IntWalk.i64_in _ (by omega)]; omega
          have w1s : IntKind.i64.wrap ((at_ : Int) - 1) = (i1 : Int) := by rw [IntWalk.i64_in _ (by omega)]; omega
          have w1e : (at_ : Int) - 1 = (i1 : Int) := by omega
          have w1w : IntKind.i64.wrap (i1 : Int) = (i1 : Int) := IntWalk.i64_in _ (by omega)
          have w3s : IntKind.i64.wrap ((at_ : Int) + 1) = (i3 : Int) := by rw [IntWalk.i64_in _ (by omega)]; omega
          have z0 : (i0 : Int) < (l.length : Int) := by omega
          have z1 : (i1 : Int) < (l.length : Int) := by omega
          have z2 : (at_ : Int) < (l.length : Int) := by omega
          have z3 : (i3 : Int) < (l.length : Int) := by omega
          have hblt : g < wr.heap.size := by have := hP.2.2.2.2.2.size; omega
          have px0 := hP.2.2.2.2.1.cellAt (i := i0) (by rw [vR_len, vA_len]; omega)
          have px1 := hP.2.2.2.2.1.cellAt (i := i1) (by rw [vR_len, vA_len]; omega)
          have px2 := hP.2.2.2.2.1.cellAt (i := at_) (by rw [vR_len, vA_len]; omega)
          have px3 := hP.2.2.2.2.1.cellAt (i := i3) (by rw [vR_len, vA_len]; omega)
          have HY : Hid (smL (vR X q yy (vA X q y0 l k) j) at_ 1 q = ((vR X q yy (vA X q y0 l k) j).set i1 (edgeP ((vR X q yy (vA X q y0 l k) j).getD i0 0) ((vR X q yy (vA X q y0 l k) j).getD i1 0) ((vR X q yy (vA X q y0 l k) j).getD at_ 0) ((vR X q yy (vA X q y0 l k) j).getD i3 0) q)).set at_ (edgeQ ((vR X q yy (vA X q y0 l k) j).getD i0 0) ((vR X q yy (vA X q y0 l k) j).getD i1 0) ((vR X q yy (vA X q y0 l k) j).getD at_ 0) ((vR X q yy (vA X q y0 l k) j).getD i3 0) q)) := Lib.hid (by rw [smL, hi0, hi1, hi3])
          have HLn : Hid ((vR X q yy (vA X q y0 l k) j).length = l.length) := Lib.hid (by rw [vR_len, vA_len])
          clear hi0 hi1 hi3
          generalize (vR X q yy (vA X q y0 l k) j).getD i0 0 = p1 at *
          generalize (vR X q yy (vA X q y0 l k) j).getD i1 0 = p0 at *
          generalize (vR X q yy (vA X q y0 l k) j).getD at_ 0 = q0 at *
          generalize (vR X q yy (vA X q y0 l k) j).getD i3 0 = q1 at *
          have HP := Lib.hid hP
          obtain ⟨P1, P2, _, _, _, _⟩ := hP
          have hwz : w.heap.size < wr.heap.size := P1.1
          have hwz1 : w.heap.size + 1 < wr.heap.size := P2.1
          obtain ⟨_, b10, b11, b12⟩ := P1
          obtain ⟨_, b20, b21, b22⟩ := P2
          have HN : Hid (smL (vR X q yy (vA X q y0 l k) j) at_ 1 q = vR X q yy (vA X q y0 l k) (j + 1)) := Lib.hid (by rw [vR, hat, HS.out, HXX.out])
          clear hat hxx
          go_wp2_with fail
          go_region_held3 (fun w' => w'.cell? ⟨w.heap.size, 2, none⟩ = some (.slice (some ⟨g, 0, none⟩) l.length c) ∧ w'.cell? ⟨g, i0, none⟩ = some (.int .i64 p1) ∧ w'.cell? ⟨g, i1, none⟩ = some (.int .i64 p0) ∧ w'.cell? ⟨g, at_, none⟩ = some (.int .i64 q0) ∧ w'.cell? ⟨g, i3, none⟩ = some (.int .i64 q1)) (first | go_keep)
            ((first
              | (go_at_call 18; refine (spec.EdgeOf_c p1 p0 q0 q1 q _).mono ?_; rintro e w2 ⟨rfl, hb⟩; have k0 := bcell hb w.heap.size 2 hwz; have k1 := bcell hb g (i0) hblt; have k2 := bcell hb g (i1) hblt; have k3 := bcell hb g (at_) hblt; have k4 := bcell hb g (i3) hblt)))
          have hb2 : Below wr.heap.size wr w2 := (Below.refl wr.heap.size wr).drew.trans hb
          have HP2 := Lib.hid (HP.out.below hb2)
          have HP3 := Lib.hid (HP2.out.stored hg2 i1 (edgeP p1 p0 q0 q1 q))
          have HP4 := Lib.hid (HP3.out.stored hg2 at_ (edgeQ p1 p0 q0 q1 q))
          rw [← HY.out] at HP4
          clear k0 k1 k2 k3 k4 hb hb2 b10 b11 b12 b20 b21 b22 px0 px1 px2 px3 HP
          obtain ⟨P1, P2, _, _, P5, _⟩ := HP2.out
          obtain ⟨_, b10, b11, b12⟩ := P1
          obtain ⟨_, b20, b21, b22⟩ := P2
          have cx := P5.cellAt (i := i1) (by rw [HLn.out]; exact i1l)
          have cf := P5.frozenAt i1
          obtain ⟨Q1, Q2, _, _, Q5, _⟩ := HP3.out
          obtain ⟨_, d10, d11, d12⟩ := Q1
          obtain ⟨_, d20, d21, d22⟩ := Q2
          have cy := Q5.cellAt (i := at_) (by rw [List.length_set, HLn.out]; exact i2l)
          have cg := Q5.frozenAt at_
          obtain ⟨T1, T2, _, _, _, _⟩ := HP4.out
          obtain ⟨_, t10, t11, t12⟩ := T1
          obtain ⟨_, t20, t21, t22⟩ := T2
          go_wp2
          clear cx cf cy cg d10 d11 d12 d20 d21 d22 b10 b11 b12 b20 b21 b22 t10 t11 t12 t20 t21 t22
          rw [HN.out] at HP4
          go_roundw
          case rel => exact ⟨j + 1, xx + 8, by omega, by rw [HXX.out]; omega, by go_num, HP4.out⟩
          case measure => simp [intOf]; omega
        · have hlxd : decide ((xx : Int) < (X : Int)) = false := by simp; omega
          have hje : Hid (vR X q yy (vA X q y0 l k) j = vA X q y0 l (k + 1)) := Lib.hid (by rw [vA, ← HYY.out, show j = X / 8 - 1 from by have := HX2.out; omega])
          rw [hje.out] at hP
          have HP := Lib.hid hP
          obtain ⟨P1, P2, _, _, _, _⟩ := hP
          obtain ⟨_, b10, b11, b12⟩ := P1
          obtain ⟨_, b20, b21, b22⟩ := P2
          clear hxx
          go_wp2
          go_roundw
          case rel => exact ⟨k + 1, yy + 1, by omega, by rw [HYY.out]; omega, by go_num, HP.out⟩
          case measure => simp [intOf]; omega
    · have hltd : decide ((yy : Int) < (y1 : Int)) = false := by simp; omega
      have hke : Hid (k = y1 - y0) := Lib.hid (by omega)
      rw [hke.out] at hP
      clear hyy
      have HQ := Lib.hid hP
      obtain ⟨P1, P2, P3, FZ, _, _⟩ := hP
      obtain ⟨_, b10, b11, b12⟩ := P1
      obtain ⟨_, b20, b21, b22⟩ := P2
      obtain ⟨_, b30, b31, b32⟩ := P3
      have f0 := FZ 0
      have f1 := FZ 1
      have f2 := FZ 2
      clear FZ
      go_wp2
      have hD := HQ.out.done hg2 hgB
      refine bodyPost_ret (v := frv X Y (some ⟨g, 0, none⟩) l.length c) (by simp [results, Try.results43, go_sem, hD.1]) rfl ⟨rfl, hD.2.1, hD.2.2⟩
set_option maxHeartbeats 8000000 in
theorem spec.l20Across_copy (X Y : Nat) (y0 y1 : Nat) (q : Int) (p off c1 : Nat) (f : List Int) (g c B : Nat) (l : List Int) (w : World) (hX : 8 ≤ X ∧ X ≤ 32 ∧ X % 8 = 0) (hY : Y ≤ 32) (hl : l.length = X * Y) (h01 : y0 ≤ y1) (h1 : y1 ≤ Y) (ho : Own B w (some ⟨g, 0, none⟩) c l) (hf : f.length = l.length) (hfr : Row w (some ⟨p, off, none⟩) f) (hpg : p ≠ g) :
    Calls Try.prog 43 #[frv X Y (some ⟨p, off, none⟩) l.length c1, frv X Y (some ⟨g, 0, none⟩) l.length c, .int .i64 q, .int .i64 y0, .int .i64 y1] w fun e w' => e = .returned (frv X Y (some ⟨g, 0, none⟩) l.length c) ∧ Own B w' (some ⟨g, 0, none⟩) c (vAC X q y0 f l (y1 - y0)) ∧ w.grownBy w' (some g) := by
  obtain ⟨hX0, hX1, hX2⟩ := hX
  have hlb : l.length ≤ 1024 := by rw [hl]; exact Nat.mul_le_mul hX1 hY
  have hg2 : g < w.heap.size := (ho.lt _ rfl).2
  have hgB : B ≤ g := (ho.lt _ rfl).1
  have HLP : Hid (0 < l.length → True) := Lib.hid (fun _ => trivial)
  have HFR : Hid (∀ w0, w.grownBy w0 (some g) → ∀ i, i < l.length → w0.cell? ⟨p, off + i, none⟩ = some (.int .i64 (f.getD i 0))) := Lib.hid (fun w0 hg i hi => by
    obtain ⟨b9, o9, e9, hc⟩ := hfr.all (by omega)
    cases e9
    exact hg.cell (hc i (by omega)) (by show some p ≠ some g; intro e; injection e with e; exact hpg e))
  have hpw : l.length = 0 ∨ p < w.heap.size := by
    by_cases h0 : l.length = 0
    · exact .inl h0
    · obtain ⟨b9, o9, e9, hb9, _⟩ := hfr.inside (by omega)
      cases e9
      exact .inr hb9
  have HL := Lib.hid hl
  have HO := Lib.hid ho
  have HX2 := Lib.hid hX2
  clear hl ho hX2 hfr
  have HF2 := Lib.hid hf
  clear hf
  go_enter Try.func43, Try.ntmps43
  go_wp2
  go_loopw [11, 12] (fun i _ wr => ∃ k yy : Nat, k ≤ y1 - y0 ∧ yy = y0 + k ∧ i = .int .i64 yy ∧ PassF w X Y (some ⟨p, off, none⟩) c1 l.length g c B (vAC X q y0 f l k) wr) (fun i _ _ => (y1 - (intOf i)).toNat)
  case atStart => exact ⟨0, y0, Nat.zero_le _, rfl, rfl, PassF.start _ HO.out⟩
  case round =>
    obtain ⟨k, yy, hk, hyy, rfl, hP⟩ := hrel
    have HYY := Lib.hid hyy
    by_cases hlt : yy < y1
    · have hltd : decide ((yy : Int) < (y1 : Int)) = true := by simp; omega
      have hyl : yy < Y := by omega
      have hk2 : k < y1 - y0 := by omega
      obtain ⟨s, hs⟩ : ∃ s, s = yy * X := ⟨_, rfl⟩
      have hsX := row_in HL.out hs hyl
      have hsI : (yy : Int) * (X : Int) = (s : Int) := by rw [hs]; exact (Int.natCast_mul yy X).symm
      have ea : IntKind.i64.wrap ((yy : Int) * (X : Int)) = (s : Int) := by rw [hsI, IntWalk.i64_in _ (by omega)]
      have HS := Lib.hid hs
      have HP := Lib.hid hP
      clear hP hyy hs
      go_wp2
      obtain ⟨wz, hwz⟩ : ∃ wz : World, wz = wr := ⟨_, rfl⟩
      rw [← hwz] at HP ⊢
      clear hwz
      go_loopw [12] (fun i wr => ∃ j xx : Nat, j ≤ X / 8 - 1 ∧ xx = 8 * (j + 1) ∧ i = .int .i64 xx ∧ PassF w X Y (some ⟨p, off, none⟩) c1 l.length g c B (vRC X q yy f (vAC X q y0 f l k) j) wr) (fun i _ => (X + 8 - (intOf i)).toNat)
      case atStart => exact ⟨0, 8, Nat.zero_le _, rfl, rfl, HP.out⟩
      case round =>
        clear HP
        obtain ⟨j, xx, hj, hxx, rfl, hP⟩ := hrel
        have HXX := Lib.hid hxx
        by_cases hlx : xx < X
        · have hlxd : decide ((xx : Int) < (X : Int)) = true := by simp; omega
          have hj2 : j < X / 8 - 1 := by have := HX2.out; omega
          have hxx8 : xx + 8 ≤ X := by have := HX2.out; omega
          obtain ⟨at_, hat⟩ : ∃ t, t = s + xx := ⟨_, rfl⟩
          have eb : IntKind.i64.wrap ((s : Int) + (xx : Int)) = (at_ : Int) := by rw [IntWalk.i64_in _ (by omega)]; omega
          have eb' : (s : Int) + (xx : Int) = (at_ : Int) := by omega
          obtain ⟨i0, hi0⟩ : ∃ t, t = at_ - 2 * 1 := ⟨_, rfl⟩
          obtain ⟨i1, hi1⟩ : ∃ t, t = at_ - 1 := ⟨_, rfl⟩
          obtain ⟨i3, hi3⟩ : ∃ t, t = at_ + 1 := ⟨_, rfl⟩
          have i0l : i0 < l.length := by omega
          have i1l : i1 < l.length := by omega
          have i2l : at_ < l.length := by omega
          have i3l : i3 < l.length := by omega
          have w0t : IntKind.i64.wrap ((at_ : Int) - 2) = (i0 : Int) := by rw [IntWalk.i64_in _ (by omega)]; omega
          have w1s : IntKind.i64.wrap ((at_ : Int) - 1) = (i1 : Int) := by rw [IntWalk.i64_in _ (by omega)]; omega
          have w1e : (at_ : Int) - 1 = (i1 : Int) := by omega
          have w1w : IntKind.i64.wrap (i1 : Int) = (i1 : Int) := IntWalk.i64_in _ (by omega)
          have w3s : IntKind.i64.wrap ((at_ : Int) + 1) = (i3 : Int) := by rw [IntWalk.i64_in _ (by omega)]; omega
          have z0 : (i0 : Int) < (l.length : Int) := by omega
          have z1 : (i1 : Int) < (l.length : Int) := by omega
          have z2 : (at_ : Int) < (l.length : Int) := by omega
          have z3 : (i3 : Int) < (l.length : Int) := by omega
          have hblt : p < wr.heap.size := by have := hP.2.2.2.2.2.size; omega
          have px0 := HFR.out wr hP.2.2.2.2.2 i0 i0l
          have px1 := HFR.out wr hP.2.2.2.2.2 i1 i1l
          have px2 := HFR.out wr hP.2.2.2.2.2 at_ i2l
          have px3 := HFR.out wr hP.2.2.2.2.2 i3 i3l
          have HY : Hid (smC f (vRC X q yy f (vAC X q y0 f l k) j) at_ 1 q = ((vRC X q yy f (vAC X q y0 f l k) j).set i1 (edgeP ((f).getD i0 0) ((f).getD i1 0) ((f).getD at_ 0) ((f).getD i3 0) q)).set at_ (edgeQ ((f).getD i0 0) ((f).getD i1 0) ((f).getD at_ 0) ((f).getD i3 0) q)) := Lib.hid (by rw [smC, hi0, hi1, hi3])
          have HLn : Hid ((vRC X q yy f (vAC X q y0 f l k) j).length = l.length) := Lib.hid (by rw [vRC_len, vAC_len])
          clear hi0 hi1 hi3
          generalize (f).getD i0 0 = p1 at *
          generalize (f).getD i1 0 = p0 at *
          generalize (f).getD at_ 0 = q0 at *
          generalize (f).getD i3 0 = q1 at *
          have HP := Lib.hid hP
          obtain ⟨P1, P2, _, _, _, _⟩ := hP
          have hwz : w.heap.size < wr.heap.size := P1.1
          have hwz1 : w.heap.size + 1 < wr.heap.size := P2.1
          obtain ⟨_, b10, b11, b12⟩ := P1
          obtain ⟨_, b20, b21, b22⟩ := P2
          have HN : Hid (smC f (vRC X q yy f (vAC X q y0 f l k) j) at_ 1 q = vRC X q yy f (vAC X q y0 f l k) (j + 1)) := Lib.hid (by rw [vRC, hat, HS.out, HXX.out])
          clear hat hxx
          go_wp2_with fail
          go_region_held3 (fun w' => w'.cell? ⟨w.heap.size, 2, none⟩ = some (.slice (some ⟨p, off, none⟩) l.length c1) ∧ w'.cell? ⟨p, off + i0, none⟩ = some (.int .i64 p1) ∧ w'.cell? ⟨p, off + i1, none⟩ = some (.int .i64 p0) ∧ w'.cell? ⟨p, off + at_, none⟩ = some (.int .i64 q0) ∧ w'.cell? ⟨p, off + i3, none⟩ = some (.int .i64 q1)) (first | go_keep)
            ((first
              | (go_at_call 18; refine (spec.EdgeOf_c p1 p0 q0 q1 q _).mono ?_; rintro e w2 ⟨rfl, hb⟩; have k0 := bcell hb w.heap.size 2 hwz; have k1 := bcell hb p (off + i0) hblt; have k2 := bcell hb p (off + i1) hblt; have k3 := bcell hb p (off + at_) hblt; have k4 := bcell hb p (off + i3) hblt)))
          have hb2 : Below wr.heap.size wr w2 := (Below.refl wr.heap.size wr).drew.trans hb
          have HP2 := Lib.hid (HP.out.below hb2)
          have HP3 := Lib.hid (HP2.out.stored hg2 i1 (edgeP p1 p0 q0 q1 q))
          have HP4 := Lib.hid (HP3.out.stored hg2 at_ (edgeQ p1 p0 q0 q1 q))
          rw [← HY.out] at HP4
          clear k0 k1 k2 k3 k4 hb hb2 b10 b11 b12 b20 b21 b22 px0 px1 px2 px3 HP
          obtain ⟨P1, P2, _, _, P5, _⟩ := HP2.out
          obtain ⟨_, b10, b11, b12⟩ := P1
          obtain ⟨_, b20, b21, b22⟩ := P2
          have cx := P5.cellAt (i := i1) (by rw [HLn.out]; exact i1l)
          have cf := P5.frozenAt i1
          obtain ⟨Q1, Q2, _, _, Q5, _⟩ := HP3.out
          obtain ⟨_, d10, d11, d12⟩ := Q1
          obtain ⟨_, d20, d21, d22⟩ := Q2
          have cy := Q5.cellAt (i := at_) (by rw [List.length_set, HLn.out]; exact i2l)
          have cg := Q5.frozenAt at_
          obtain ⟨T1, T2, _, _, _, _⟩ := HP4.out
          obtain ⟨_, t10, t11, t12⟩ := T1
          obtain ⟨_, t20, t21, t22⟩ := T2
          go_wp2
          clear cx cf cy cg d10 d11 d12 d20 d21 d22 b10 b11 b12 b20 b21 b22 t10 t11 t12 t20 t21 t22
          rw [HN.out] at HP4
          go_roundw
          case rel => exact ⟨j + 1, xx + 8, by omega, by rw [HXX.out]; omega, by go_num, HP4.out⟩
          case measure => simp [intOf]; omega
        · have hlxd : decide ((xx : Int) < (X : Int)) = false := by simp; omega
          have hje : Hid (vRC X q yy f (vAC X q y0 f l k) j = vAC X q y0 f l (k + 1)) := Lib.hid (by rw [vAC, ← HYY.out, show j = X / 8 - 1 from by have := HX2.out; omega])
          rw [hje.out] at hP
          have HP := Lib.hid hP
          obtain ⟨P1, P2, _, _, _, _⟩ := hP
          obtain ⟨_, b10, b11, b12⟩ := P1
          obtain ⟨_, b20, b21, b22⟩ := P2
          clear hxx
          go_wp2
          go_roundw
          case rel => exact ⟨k + 1, yy + 1, by omega, by rw [HYY.out]; omega, by go_num, HP.out⟩
          case measure => simp [intOf]; omega
    · have hltd : decide ((yy : Int) < (y1 : Int)) = false := by simp; omega
      have hke : Hid (k = y1 - y0) := Lib.hid (by omega)
      rw [hke.out] at hP
      clear hyy
      have HQ := Lib.hid hP
      obtain ⟨P1, P2, P3, FZ, _, _⟩ := hP
      obtain ⟨_, b10, b11, b12⟩ := P1
      obtain ⟨_, b20, b21, b22⟩ := P2
      obtain ⟨_, b30, b31, b32⟩ := P3
      have f0 := FZ 0
      have f1 := FZ 1
      have f2 := FZ 2
      clear FZ
      go_wp2
      have hD := HQ.out.done hg2 hgB
      refine bodyPost_ret (v := frv X Y (some ⟨g, 0, none⟩) l.length c) (by simp [results, Try.results43, go_sem, hD.1]) rfl ⟨rfl, hD.2.1, hD.2.2⟩


set_option maxHeartbeats 8000000 in
theorem spec.l20Down_same (X Y : Nat) (y : Nat) (q : Int) (g c B : Nat) (l : List Int) (w : World) (hX : 8 ≤ X ∧ X ≤ 32) (hY : Y ≤ 32) (hl : l.length = X * Y) (h0 : 2 ≤ y) (h1 : y + 1 < Y) (ho : Own B w (some ⟨g, 0, none⟩) c l) :
    Calls Try.prog 44 #[frv X Y (some ⟨g, 0, none⟩) l.length c, frv X Y (some ⟨g, 0, none⟩) l.length c, .int .i64 q, .int .i64 y] w fun e w' => e = .returned (frv X Y (some ⟨g, 0, none⟩) l.length c) ∧ Own B w' (some ⟨g, 0, none⟩) c (hR X q y l X) ∧ w.grownBy w' (some g) := by
  obtain ⟨hX0, hX1⟩ := hX
  have hlb : l.length ≤ 1024 := by rw [hl]; exact Nat.mul_le_mul hX1 hY
  have hg2 : g < w.heap.size := (ho.lt _ rfl).2
  have hgB : B ≤ g := (ho.lt _ rfl).1
  have HLP : Hid (0 < l.length → True) := Lib.hid (fun _ => trivial)
  obtain ⟨s, hs⟩ : ∃ s, s = y * X := ⟨_, rfl⟩
  have hs2 : 2 * X ≤ s := by rw [hs]; exact Nat.mul_le_mul_right X h0
  have hs3 : s + 2 * X ≤ l.length := by
    have := row_in hl (s := (y + 1) * X) rfl h1
    rw [Nat.add_mul, Nat.one_mul, ← hs] at this
    omega
  have hsI : (y : Int) * (X : Int) = (s : Int) := by rw [hs]; exact (Int.natCast_mul y X).symm
  have ea : IntKind.i64.wrap ((y : Int) * (X : Int)) = (s : Int) := by rw [hsI, IntWalk.i64_in _ (by omega)]
  have HS := Lib.hid hs
  have HL := Lib.hid hl
  have HO := Lib.hid ho
  clear hl ho hs
  go_enter Try.func44, Try.ntmps44
  go_wp2
  go_loopw [10] (fun i wr => ∃ x : Nat, x ≤ X ∧ i = .int .i64 x ∧ PassF w X Y (some ⟨g, 0, none⟩) c l.length g c B (hR X q y l x) wr) (fun i _ => (X - (intOf i)).toNat)
  case atStart => exact ⟨0, Nat.zero_le _, rfl, PassF.start _ HO.out⟩
  case round =>
    obtain ⟨x, hx, rfl, hP⟩ := hrel
    by_cases hlt : x < X
    · have hltd : decide ((x : Int) < (X : Int)) = true := by simp; omega
      obtain ⟨at_, hat⟩ : ∃ t, t = s + x := ⟨_, rfl⟩
      have eb : IntKind.i64.wrap ((s : Int) + (x : Int)) = (at_ : Int) := by rw [IntWalk.i64_in _ (by omega)]; omega
      have eb' : (s : Int) + (x : Int) = (at_ : Int) := by omega
      obtain ⟨i0, hi0⟩ : ∃ t, t = at_ - 2 * X := ⟨_, rfl⟩
      obtain ⟨i1, hi1⟩ : ∃ t, t = at_ - X := ⟨_, rfl⟩
      obtain ⟨i3, hi3⟩ : ∃ t, t = at_ + X := ⟨_, rfl⟩
      have i0l : i0 < l.length := by omega
      have i1l : i1 < l.length := by omega
      have i2l : at_ < l.length := by omega
      have i3l : i3 < l.length := by omega
      have w0s : IntKind.i64.wrap (2 * (X : Int)) = 2 * (X : Int) := IntWalk.i64_in _ (by omega)
      have w0t : IntKind.i64.wrap ((at_ : Int) - 2 * (X : Int)) = (i0 : Int) := by rw [IntWalk.i64_in _ (by omega)]; omega
      have w1s : IntKind.i64.wrap ((at_ : Int) - (X : Int)) = (i1 : Int) := by rw [IntWalk.i64_in _ (by omega)]; omega
      have w1e : (at_ : Int) - (X : Int) = (i1 : Int) := by omega
      have w1w : IntKind.i64.wrap (i1 : Int) = (i1 : Int) := IntWalk.i64_in _ (by omega)
      have w3s : IntKind.i64.wrap ((at_ : Int) + (X : Int)) = (i3 : Int) := by rw [IntWalk.i64_in _ (by omega)]; omega
      have z0 : (i0 : Int) < (l.length : Int) := by omega
      have z1 : (i1 : Int) < (l.length : Int) := by omega
      have z2 : (at_ : Int) < (l.length : Int) := by omega
      have z3 : (i3 : Int) < (l.length : Int) := by omega
      have hblt : g < wr.heap.size := by have := hP.2.2.2.2.2.size; omega
      have px0 := hP.2.2.2.2.1.cellAt (i := i0) (by rw [hR_len]; omega)
      have px1 := hP.2.2.2.2.1.cellAt (i := i1) (by rw [hR_len]; omega)
      have px2 := hP.2.2.2.2.1.cellAt (i := at_) (by rw [hR_len]; omega)
      have px3 := hP.2.2.2.2.1.cellAt (i := i3) (by rw [hR_len]; omega)
      have HY : Hid (smL (hR X q y l x) at_ X q = ((hR X q y l x).set i1 (edgeP ((hR X q y l x).getD i0 0) ((hR X q y l x).getD i1 0) ((hR X q y l x).getD at_ 0) ((hR X q y l x).getD i3 0) q)).set at_ (edgeQ ((hR X q y l x).getD i0 0) ((hR X q y l x).getD i1 0) ((hR X q y l x).getD at_ 0) ((hR X q y l x).getD i3 0) q)) := Lib.hid (by rw [smL, hi0, hi1, hi3])
      have HLn : Hid ((hR X q y l x).length = l.length) := Lib.hid (by rw [hR_len])
      clear hi0 hi1 hi3
      generalize (hR X q y l x).getD i0 0 = p1 at *
      generalize (hR X q y l x).getD i1 0 = p0 at *
      generalize (hR X q y l x).getD at_ 0 = q0 at *
      generalize (hR X q y l x).getD i3 0 = q1 at *
      have HP := Lib.hid hP
      obtain ⟨P1, P2, _, _, _, _⟩ := hP
      have hwz : w.heap.size < wr.heap.size := P1.1
      have hwz1 : w.heap.size + 1 < wr.heap.size := P2.1
      obtain ⟨_, b10, b11, b12⟩ := P1
      obtain ⟨_, b20, b21, b22⟩ := P2
      have HN : Hid (smL (hR X q y l x) at_ X q = hR X q y l (x + 1)) := Lib.hid (by rw [hR, hat, HS.out])
      clear hat
      go_wp2_with fail
      go_region_held3 (fun w' => w'.cell? ⟨w.heap.size, 2, none⟩ = some (.slice (some ⟨g, 0, none⟩) l.length c) ∧ w'.cell? ⟨g, i0, none⟩ = some (.int .i64 p1) ∧ w'.cell? ⟨g, i1, none⟩ = some (.int .i64 p0) ∧ w'.cell? ⟨g, at_, none⟩ = some (.int .i64 q0) ∧ w'.cell? ⟨g, i3, none⟩ = some (.int .i64 q1)) (first | go_keep)
        ((first
          | (go_at_call 18; refine (spec.EdgeOf_c p1 p0 q0 q1 q _).mono ?_; rintro e w2 ⟨rfl, hb⟩; have k0 := bcell hb w.heap.size 2 hwz; have k1 := bcell hb g (i0) hblt; have k2 := bcell hb g (i1) hblt; have k3 := bcell hb g (at_) hblt; have k4 := bcell hb g (i3) hblt)))
      have hb2 : Below wr.heap.size wr w2 := (Below.refl wr.heap.size wr).drew.trans hb
      have HP2 := Lib.hid (HP.out.below hb2)
      have HP3 := Lib.hid (HP2.out.stored hg2 i1 (edgeP p1 p0 q0 q1 q))
      have HP4 := Lib.hid (HP3.out.stored hg2 at_ (edgeQ p1 p0 q0 q1 q))
      rw [← HY.out] at HP4
      clear k0 k1 k2 k3 k4 hb hb2 b10 b11 b12 b20 b21 b22 px0 px1 px2 px3 HP
      obtain ⟨P1, P2, _, _, P5, _⟩ := HP2.out
      obtain ⟨_, b10, b11, b12⟩ := P1
      obtain ⟨_, b20, b21, b22⟩ := P2
      have cx := P5.cellAt (i := i1) (by rw [HLn.out]; exact i1l)
      have cf := P5.frozenAt i1
      obtain ⟨Q1, Q2, _, _, Q5, _⟩ := HP3.out
      obtain ⟨_, d10, d11, d12⟩ := Q1
      obtain ⟨_, d20, d21, d22⟩ := Q2
      have cy := Q5.cellAt (i := at_) (by rw [List.length_set, HLn.out]; exact i2l)
      have cg := Q5.frozenAt at_
      obtain ⟨T1, T2, _, _, _, _⟩ := HP4.out
      obtain ⟨_, t10, t11, t12⟩ := T1
      obtain ⟨_, t20, t21, t22⟩ := T2
      go_wp2
      clear cx cf cy cg d10 d11 d12 d20 d21 d22 b10 b11 b12 b20 b21 b22 t10 t11 t12 t20 t21 t22
      rw [HN.out] at HP4
      go_roundw
      case rel => exact ⟨x + 1, by omega, by go_num, HP4.out⟩
      case measure => simp [intOf]; omega
    · obtain rfl : X = x := by omega
      have HQ := Lib.hid hP
      obtain ⟨P1, P2, P3, FZ, _, _⟩ := hP
      obtain ⟨_, b10, b11, b12⟩ := P1
      obtain ⟨_, b20, b21, b22⟩ := P2
      obtain ⟨_, b30, b31, b32⟩ := P3
      have f0 := FZ 0
      have f1 := FZ 1
      have f2 := FZ 2
      clear FZ
      go_wp2
      have hD := HQ.out.done hg2 hgB
      refine bodyPost_ret (v := frv X Y (some ⟨g, 0, none⟩) l.length c) (by simp [results, Try.results44, go_sem, hD.1]) rfl ⟨rfl, hD.2.1, hD.2.2⟩
set_option maxHeartbeats 8000000 in
theorem spec.l20Down_copy (X Y : Nat) (y : Nat) (q : Int) (p off c1 : Nat) (f : List Int) (g c B : Nat) (l : List Int) (w : World) (hX : 8 ≤ X ∧ X ≤ 32) (hY : Y ≤ 32) (hl : l.length = X * Y) (h0 : 2 ≤ y) (h1 : y + 1 < Y) (ho : Own B w (some ⟨g, 0, none⟩) c l) (hf : f.length = l.length) (hfr : Row w (some ⟨p, off, none⟩) f) (hpg : p ≠ g) :
    Calls Try.prog 44 #[frv X Y (some ⟨p, off, none⟩) l.length c1, frv X Y (some ⟨g, 0, none⟩) l.length c, .int .i64 q, .int .i64 y] w fun e w' => e = .returned (frv X Y (some ⟨g, 0, none⟩) l.length c) ∧ Own B w' (some ⟨g, 0, none⟩) c (hRC X q y f l X) ∧ w.grownBy w' (some g) := by
  obtain ⟨hX0, hX1⟩ := hX
  have hlb : l.length ≤ 1024 := by rw [hl]; exact Nat.mul_le_mul hX1 hY
  have hg2 : g < w.heap.size := (ho.lt _ rfl).2
  have hgB : B ≤ g := (ho.lt _ rfl).1
  have HLP : Hid (0 < l.length → True) := Lib.hid (fun _ => trivial)
  have HFR : Hid (∀ w0, w.grownBy w0 (some g) → ∀ i, i < l.length → w0.cell? ⟨p, off + i, none⟩ = some (.int .i64 (f.getD i 0))) := Lib.hid (fun w0 hg i hi => by
    obtain ⟨b9, o9, e9, hc⟩ := hfr.all (by omega)
    cases e9
    exact hg.cell (hc i (by omega)) (by show some p ≠ some g; intro e; injection e with e; exact hpg e))
  have hpw : l.length = 0 ∨ p < w.heap.size := by
    by_cases h0 : l.length = 0
    · exact .inl h0
    · obtain ⟨b9, o9, e9, hb9, _⟩ := hfr.inside (by omega)
      cases e9
      exact .inr hb9
  obtain ⟨s, hs⟩ : ∃ s, s = y * X := ⟨_, rfl⟩
  have hs2 : 2 * X ≤ s := by rw [hs]; exact Nat.mul_le_mul_right X h0
  have hs3 : s + 2 * X ≤ l.length := by
    have := row_in hl (s := (y + 1) * X) rfl h1
    rw [Nat.add_mul, Nat.one_mul, ← hs] at this
    omega
  have hsI : (y : Int) * (X : Int) = (s : Int) := by rw [hs]; exact (Int.natCast_mul y X).symm
  have ea : IntKind.i64.wrap ((y : Int) * (X : Int)) = (s : Int) := by rw [hsI, IntWalk.i64_in _ (by omega)]
  have HS := Lib.hid hs
  have HL := Lib.hid hl
  have HO := Lib.hid ho
  clear hl ho hs hfr
  have HF2 := Lib.hid hf
  clear hf
  go_enter Try.func44, Try.ntmps44
  go_wp2
  go_loopw [10] (fun i wr => ∃ x : Nat, x ≤ X ∧ i = .int .i64 x ∧ PassF w X Y (some ⟨p, off, none⟩) c1 l.length g c B (hRC X q y f l x) wr) (fun i _ => (X - (intOf i)).toNat)
  case atStart => exact ⟨0, Nat.zero_le _, rfl, PassF.start _ HO.out⟩
  case round =>
    obtain ⟨x, hx, rfl, hP⟩ := hrel
    by_cases hlt : x < X
    · have hltd : decide ((x : Int) < (X : Int)) = true := by simp; omega
      obtain ⟨at_, hat⟩ : ∃ t, t = s + x := ⟨_, rfl⟩
      have eb : IntKind.i64.wrap ((s : Int) + (x : Int)) = (at_ : Int) := by rw [IntWalk.i64_in _ (by omega)]; omega
      have eb' : (s : Int) + (x : Int) = (at_ : Int) := by omega
      obtain ⟨i0, hi0⟩ : ∃ t, t = at_ - 2 * X := ⟨_, rfl⟩
      obtain ⟨i1, hi1⟩ : ∃ t, t = at_ - X := ⟨_, rfl⟩
      obtain ⟨i3, hi3⟩ : ∃ t, t = at_ + X := ⟨_, rfl⟩
      have i0l : i0 < l.length := by omega
      have i1l : i1 < l.length := by omega
      have i2l : at_ < l.length := by omega
      have i3l : i3 < l.length := by omega
      have w0s : IntKind.i64.wrap (2 * (X : Int)) = 2 * (X : Int) := IntWalk.i64_in _ (by omega)
      have w0t : IntKind.i64.wrap ((at_ : Int) - 2 * (X : Int)) = (i0 : Int) := by rw [IntWalk.i64_in _ (by omega)]; omega
      have w1s : IntKind.i64.wrap ((at_ : Int) - (X : Int)) = (i1 : Int) := by rw [IntWalk.i64_in _ (by omega)]; omega
      have w1e : (at_ : Int) - (X : Int) = (i1 : Int) := by omega
      have w1w : IntKind.i64.wrap (i1 : Int) = (i1 : Int) := IntWalk.i64_in _ (by omega)
      have w3s : IntKind.i64.wrap ((at_ : Int) + (X : Int)) = (i3 : Int) := by rw [IntWalk.i64_in _ (by omega)]; omega
      have z0 : (i0 : Int) < (l.length : Int) := by omega
      have z1 : (i1 : Int) < (l.length : Int) := by omega
      have z2 : (at_ : Int) < (l.length : Int) := by omega
      have z3 : (i3 : Int) < (l.length : Int) := by omega
      have hblt : p < wr.heap.size := by have := hP.2.2.2.2.2.size; omega
      have px0 := HFR.out wr hP.2.2.2.2.2 i0 i0l
      have px1 := HFR.out wr hP.2.2.2.2.2 i1 i1l
      have px2 := HFR.out wr hP.2.2.2.2.2 at_ i2l
      have px3 := HFR.out wr hP.2.2.2.2.2 i3 i3l
      have HY : Hid (smC f (hRC X q y f l x) at_ X q = ((hRC X q y f l x).set i1 (edgeP ((f).getD i0 0) ((f).getD i1 0) ((f).getD at_ 0) ((f).getD i3 0) q)).set at_ (edgeQ ((f).getD i0 0) ((f).getD i1 0) ((f).getD at_ 0) ((f).getD i3 0) q)) := Lib.hid (by rw [smC, hi0, hi1, hi3])
      have HLn : Hid ((hRC X q y f l x).length = l.length) := Lib.hid (by rw [hRC_len])
      clear hi0 hi1 hi3
      generalize (f).getD i0 0 = p1 at *
      generalize (f).getD i1 0 = p0 at *
      generalize (f).getD at_ 0 = q0 at *
      generalize (f).getD i3 0 = q1 at *
      have HP := Lib.hid hP
      obtain ⟨P1, P2, _, _, _, _⟩ := hP
      have hwz : w.heap.size < wr.heap.size := P1.1
      have hwz1 : w.heap.size + 1 < wr.heap.size := P2.1
      obtain ⟨_, b10, b11, b12⟩ := P1
      obtain ⟨_, b20, b21, b22⟩ := P2
      have HN : Hid (smC f (hRC X q y f l x) at_ X q = hRC X q y f l (x + 1)) := Lib.hid (by rw [hRC, hat, HS.out])
      clear hat
      go_wp2_with fail
      go_region_held3 (fun w' => w'.cell? ⟨w.heap.size, 2, none⟩ = some (.slice (some ⟨p, off, none⟩) l.length c1) ∧ w'.cell? ⟨p, off + i0, none⟩ = some (.int .i64 p1) ∧ w'.cell? ⟨p, off + i1, none⟩ = some (.int .i64 p0) ∧ w'.cell? ⟨p, off + at_, none⟩ = some (.int .i64 q0) ∧ w'.cell? ⟨p, off + i3, none⟩ = some (.int .i64 q1)) (first | go_keep)
        ((first
          | (go_at_call 18; refine (spec.EdgeOf_c p1 p0 q0 q1 q _).mono ?_; rintro e w2 ⟨rfl, hb⟩; have k0 := bcell hb w.heap.size 2 hwz; have k1 := bcell hb p (off + i0) hblt; have k2 := bcell hb p (off + i1) hblt; have k3 := bcell hb p (off + at_) hblt; have k4 := bcell hb p (off + i3) hblt)))
      have hb2 : Below wr.heap.size wr w2 := (Below.refl wr.heap.size wr).drew.trans hb
      have HP2 := Lib.hid (HP.out.below hb2)
      have HP3 := Lib.hid (HP2.out.stored hg2 i1 (edgeP p1 p0 q0 q1 q))
      have HP4 := Lib.hid (HP3.out.stored hg2 at_ (edgeQ p1 p0 q0 q1 q))
      rw [← HY.out] at HP4
      clear k0 k1 k2 k3 k4 hb hb2 b10 b11 b12 b20 b21 b22 px0 px1 px2 px3 HP
      obtain ⟨P1, P2, _, _, P5, _⟩ := HP2.out
      obtain ⟨_, b10, b11, b12⟩ := P1
      obtain ⟨_, b20, b21, b22⟩ := P2
      have cx := P5.cellAt (i := i1) (by rw [HLn.out]; exact i1l)
      have cf := P5.frozenAt i1
      obtain ⟨Q1, Q2, _, _, Q5, _⟩ := HP3.out
      obtain ⟨_, d10, d11, d12⟩ := Q1
      obtain ⟨_, d20, d21, d22⟩ := Q2
      have cy := Q5.cellAt (i := at_) (by rw [List.length_set, HLn.out]; exact i2l)
      have cg := Q5.frozenAt at_
      obtain ⟨T1, T2, _, _, _, _⟩ := HP4.out
      obtain ⟨_, t10, t11, t12⟩ := T1
      obtain ⟨_, t20, t21, t22⟩ := T2
      go_wp2
      clear cx cf cy cg d10 d11 d12 d20 d21 d22 b10 b11 b12 b20 b21 b22 t10 t11 t12 t20 t21 t22
      rw [HN.out] at HP4
      go_roundw
      case rel => exact ⟨x + 1, by omega, by go_num, HP4.out⟩
      case measure => simp [intOf]; omega
    · obtain rfl : X = x := by omega
      have HQ := Lib.hid hP
      obtain ⟨P1, P2, P3, FZ, _, _⟩ := hP
      obtain ⟨_, b10, b11, b12⟩ := P1
      obtain ⟨_, b20, b21, b22⟩ := P2
      obtain ⟨_, b30, b31, b32⟩ := P3
      have f0 := FZ 0
      have f1 := FZ 1
      have f2 := FZ 2
      clear FZ
      go_wp2
      have hD := HQ.out.done hg2 hgB
      refine bodyPost_ret (v := frv X Y (some ⟨g, 0, none⟩) l.length c) (by simp [results, Try.results44, go_sem, hD.1]) rfl ⟨rfl, hD.2.1, hD.2.2⟩

end Go.Proofs.Ytkfjbnhihjnhnaa
