/- For every input the law FnStill returns true and leaves its arguments as they were; no condition. -/
import Derived.Test.YtkfjbnhihjnhnaaMem
import Derived.Test.YtkfjbnhihjnhnaaFrm
import Derived.Test.YtkfjbnhihjnhnaaDebF
import Derived.Test.YtkfjbnhihjnhnaaDrawR
import Derived.Test.YtkfjbnhihjnhnaaFrame
import Derived.StillTailTactics
import Derived.Deep.RegionHeld3
namespace Go.Proofs.Ytkfjbnhihjnhnaa.fnStill
open Go.ChangeShapes Go.WideShapes Go.ChangeAt Go.RowKit Go.Joins
set_option linter.unusedVariables false
-- DEEP
-- KIT Derived.StillTailTactics
-- KIT Derived.Deep.RegionHeld3
def fillL (v : Int) : Nat → List Int | 0 => zeros 256 | k + 1 => (fillL v k).set k v
theorem fillL_len (v : Int) (k : Nat) : (fillL v k).length = 256 := by
  induction k with
  | zero => exact zeros_len 256
  | succ k ih => rw [fillL, List.length_set, ih]
theorem fillL_get (v : Int) (i : Nat) : ∀ k, k ≤ 256 → i < k → (fillL v k).getD i 0 = v := by
  intro k
  induction k with
  | zero => intro _ h; omega
  | succ k ih =>
    intro hk hi
    rw [fillL, getD_setF, fillL_len]
    by_cases e : k = i
    · rw [if_pos ⟨e, by omega⟩]
    · rw [if_neg (by omega), ih (by omega) (by omega)]
theorem fillL_all (v : Int) : fillL v 256 = List.replicate 256 v := by
  apply List.ext_getElem
  · rw [fillL_len, List.length_replicate]
  · intro i h1 h2
    have h3 := fillL_get v i 256 (Nat.le_refl _) (by rw [fillL_len] at h1; exact h1)
    rw [getD_lt h1] at h3
    rw [h3, List.getElem_replicate]
theorem own_store {B : Nat} {w : World} {g c : Nat} {l : List Int} {i : Nat} (h : Own B w (some ⟨g, 0, none⟩) c l) (hi : i < l.length) (x : Int) :
    w.cell? ⟨g, i, none⟩ = some (.int .i64 (l.getD i 0)) ∧ w.frozen? ⟨g, i, none⟩ = false ∧ Own B (w.setCell ⟨g, i, none⟩ (.int .i64 x)) (some ⟨g, 0, none⟩) c (l.set i x) ∧ w.grownBy (w.setCell ⟨g, i, none⟩ (.int .i64 x)) (some g) := by
  obtain ⟨g', e, _, _, h1, h2, h3⟩ := h.at_ hi
  cases e
  exact ⟨h1, h2, (h3 x).1, (h3 x).2⟩
theorem dtrans {w w1 w2 : World} {g : Nat} (h : w.grownBy w1 (some g)) (k : w1.grownBy w2 (some g)) : w.grownBy w2 (some g) := D.trans h k

set_option maxRecDepth 100000 in
set_option maxHeartbeats 4000000 in
theorem walk (w : World) (a0 : Option Addr) (c0 : Nat) (l0 : List Int) (r0 : RowB w a0 l0) (w0 : ∀ x ∈ l0, 0 ≤ x ∧ x ≤ 255) :
    Calls Try.prog 5 #[.slice a0 l0.length c0] w fun e w' => e = .returned (.bool true) ∧ Below w.heap.size w w' := by
  by_cases hbig : 1048576 < l0.length
  · have HB := Lib.hid (big_c a0 c0 l0.length w)
    rw [decide_eq_true hbig] at HB
    clear hbig r0 w0
    go_enter Try.func5, Try.ntmps5
    go_wp2_with (go_at_call 8; refine HB.out.mono ?_; rintro e w' ⟨rfl, rfl⟩)
    go_ret
    exact ⟨rfl, Below.refl _ _⟩
  · have HB := Lib.hid (big_c a0 c0 l0.length w)
    rw [decide_eq_false hbig] at HB
    obtain ⟨v, hv⟩ : ∃ v, v = atF l0 0 := ⟨_, rfl⟩
    obtain ⟨z, hz⟩ : ∃ v, v = atF l0 1 := ⟨_, rfl⟩
    have hvb : 0 ≤ v ∧ v ≤ 255 := by rw [hv]; exact atF_bd w0 0
    have hzb : 0 ≤ z ∧ z ≤ 255 := by rw [hz]; exact atF_bd w0 1
    have HA0 : Hid (∀ t, Below w.heap.size w t → Calls Try.prog 23 #[.slice a0 l0.length c0, .int .i64 0] t fun e w' => e = .returned (.int .i64 v) ∧ t = w') := Lib.hid (fun t ht => by rw [hv]; exact at_c a0 c0 l0 0 t (by omega) (by omega) (r0.below ht (Nat.le_refl _)) w0)
    have HA1 : Hid (∀ t, Below w.heap.size w t → Calls Try.prog 23 #[.slice a0 l0.length c0, .int .i64 1] t fun e w' => e = .returned (.int .i64 z) ∧ t = w') := Lib.hid (fun t ht => by rw [hz]; exact at_c a0 c0 l0 1 t (by omega) (by omega) (r0.below ht (Nat.le_refl _)) w0)
    have HNEW : Hid (∀ s, Calls Try.prog 22 #[.int .i64 16, .int .i64 16] s fun e w' => ∃ a c, e = .returned (frv 16 16 a 256 c) ∧ Own s.heap.size w' a c (zeros 256) ∧ Below s.heap.size s w') := Lib.hid (fun s => by
      have h := spec.FrameNew_c 16 16 s
      have e : newL 16 16 = zeros 256 := by rw [newL, if_pos (by decide)]; rfl
      rw [show newS (16 : Int) 16 16 = 16 from by decide, e, zeros_len] at h
      exact h)
    obtain ⟨q, hq⟩ : ∃ q, q = z % 52 := ⟨_, rfl⟩
    have hqb : 0 ≤ q ∧ q ≤ 51 := by omega
    have q1 : z.tmod 52 = q := by rw [Int.tmod_eq_emod_of_nonneg hzb.1]; exact hq.symm
    have q2 : z % 52 = q := hq.symm
    obtain ⟨al, hal⟩ : ∃ al, al = alphaF q := ⟨_, rfl⟩
    have halp : 0 < al := by rw [hal]; unfold alphaF; rw [inR_mk hqb]; simp; omega
    have HALP := Lib.hid hal
    have HVB := Lib.hid hvb
    have HQB := Lib.hid hqb
    have hq51 : q ≤ 51 := hqb.2
    have hq0 : 0 ≤ q := hqb.1
    have hald : decide (0 < al) = true := decide_eq_true halp
    clear hbig r0 w0 hv hz hq hal hvb hqb
    go_enter Try.func5, Try.ntmps5
    go_wp2_with (go_at_call 8; refine HB.out.mono ?_; rintro e w' ⟨rfl, rfl⟩)
    refine (HNEW.out w).mono ?_
    rintro e w1 ⟨bG, cG, rfl, oG, k1⟩
    obtain ⟨gG, rfl, hgG, hgG2, _⟩ := oG.at_ (i := 0) (by rw [zeros_len]; omega)
    have HCG : Hid (256 ≤ cG) := Lib.hid (by have := oG.cap; rw [zeros_len] at this; exact this)
    obtain ⟨kn, hkn⟩ : ∃ z, z = w1.heap.size := ⟨_, rfl⟩
    obtain ⟨w2, hw2⟩ : ∃ z, z = w1.alloc (.cells #[.int .i64 16, .int .i64 16, .slice (some ⟨gG, 0, none⟩) 256 cG] 26) := ⟨_, rfl⟩
    have k12 : Below w1.heap.size w1 w2 := by rw [hw2]; exact (Below.refl _ _).alloc (Nat.le_refl _) _
    have HN2 : Hid (Box3 w2 kn (.int .i64 16) (.int .i64 16) (.slice (some ⟨gG, 0, none⟩) 256 cG)) := Lib.hid (by rw [hw2, hkn]; exact Box3.new _ _ _ _ _)
    have HO2 : Hid (Own w.heap.size w2 (some ⟨gG, 0, none⟩) cG (zeros 256)) := Lib.hid (by rw [hw2]; exact oG.alloc _)
    have HK2 := Lib.hid (below_next k1 k12)
    have HNE : Hid (gG ≠ kn ∧ w.heap.size ≤ gG) := Lib.hid ⟨by rw [hkn]; exact Nat.ne_of_lt hgG2, hgG⟩
    clear oG k1 k12 hgG hgG2 HNEW
    go_wp2_with fail
    rw [← hkn, ← hw2]
    clear hw2 hkn
    go_loopw [4] (fun i wr => ∃ (j : Nat), j ≤ 256 ∧ i = .int .i64 j ∧ w2.grownBy wr (some gG) ∧ Own w.heap.size wr (some ⟨gG, 0, none⟩) cG (fillL v j)) (fun i _ => 256 - (intOf i).toNat)
    case atStart => exact ⟨0, Nat.zero_le _, rfl, World.grownBy.refl _ _, HO2.out⟩
    case round =>
      obtain ⟨j, hj, rfl, hgr, hown⟩ := hrel
      have HGR := Lib.hid hgr
      have HOW := Lib.hid hown
      obtain ⟨_, n0, n1, n2⟩ := HN2.out.grown (a := some ⟨gG, 0, none⟩) hgr (fun p hp => by cases hp; exact HNE.out.1)
      have HKR := Lib.hid (D.below HK2.out hgr HK2.out.size HNE.out.2)
      by_cases hlt : j < 256
      · have hltd : decide ((j : Int) < 256) = true := decide_eq_true (by omega)
        have hltn : decide (j < 256) = true := decide_eq_true hlt
        have hjn : (j : Int) < 256 := by omega
        obtain ⟨cG0, fG, _, _⟩ := own_store hown (by rw [fillL_len]; exact hlt) 0
        have hgk3 : ¬ (gG = kn) := HNE.out.1
        have hgk4 : ¬ (kn = gG) := fun e => HNE.out.1 e.symm
        have HS1 := Lib.hid (own_store HOW.out.drew (by rw [fillL_len]; exact hlt) v)
        clear hgr hown
        go_wp2_with fail
        go_region_held3 (fun w' => w'.cell? ⟨kn, 2, none⟩ = some (.slice (some ⟨gG, 0, none⟩) 256 cG)) (first | go_keep | exact (World.cell?_setCell_far _ _ _ _ hgk3).trans n2)
          ((first
            | (go_at_call 23; refine (HA0.out _ (by first | exact HKR.out | exact below_drewN' HKR.out 1 | exact HKR.out.drew)).mono ?_; rintro e w' ⟨rfl, rfl⟩)))
        all_goals
          go_wp2
          go_roundw
          case rel => exact ⟨j + 1, by omega, by go_num, D.trans (D.drew HGR.out) HS1.out.2.2.2, HS1.out.2.2.1⟩
          case measure => simp [intOf]; omega
      · have hj256 : j = 256 := by omega
        subst hj256
        have hltd : decide (((256 : Nat) : Int) < 256) = false := decide_eq_false (by omega)
        rw [fillL_all] at hown
        obtain ⟨F, hF⟩ : ∃ F, F = List.replicate 256 v := ⟨_, rfl⟩
        rw [← hF] at hown
        have hFl : F.length = 256 := by rw [hF, List.length_replicate]
        have hFb : ∀ x ∈ F, -9223372036854775808 ≤ x ∧ x ≤ 9223372036854775807 := fun x hx => by
          rw [hF] at hx
          have h1 := List.eq_of_mem_replicate hx
          have := HVB.out
          omega
        have hFD : debV 16 16 F q = F := by rw [hF]; exact debV_still HVB.out HQB.out.1
        obtain ⟨wz, hwz⟩ : ∃ y, y = wr := ⟨_, rfl⟩
        have HRF : Hid (∀ t, Below wz.heap.size wz t → Row t (some ⟨gG, 0, none⟩) F) := Lib.hid (fun t ht => by rw [hwz] at ht; exact hown.row.below ht (Nat.le_refl _))
        have HBX : Hid (∀ t, Below wz.heap.size wz t → t.cell? ⟨kn, 0, none⟩ = some (.int .i64 16) ∧ t.cell? ⟨kn, 1, none⟩ = some (.int .i64 16) ∧ t.cell? ⟨kn, 2, none⟩ = some (.slice (some ⟨gG, 0, none⟩) 256 cG)) := Lib.hid (fun t ht => by
          rw [hwz] at ht
          exact ((HN2.out.grown (a := some ⟨gG, 0, none⟩) hgr (fun p hp => by cases hp; exact HNE.out.1)).below ht (Nat.le_refl _)).2)
        have HDR : Hid (∀ t, Below wz.heap.size wz t → Calls Try.prog 10 #[frv 16 16 (some ⟨gG, 0, none⟩) 256 cG, .int .i64 q] t fun e w' => ∃ b d, e = .returned (frv 16 16 b 256 d) ∧ Own t.heap.size w' b d F ∧ Below t.heap.size t w') := Lib.hid (fun t ht => by
          have h := impl.DeblockRef_c 16 16 (some ⟨gG, 0, none⟩) cG F q t (by omega) (by omega) (by omega) (HRF.out t ht) hFb
          rw [hFD, hFl] at h
          exact h)
        have HDF : Hid (∀ t, Below wz.heap.size wz t → Calls Try.prog 11 #[frv 16 16 (some ⟨gG, 0, none⟩) 256 cG, .int .i64 q] t fun e w' => ∃ b d, e = .returned (frv 16 16 b 256 d) ∧ Own t.heap.size w' b d F ∧ Below t.heap.size t w') := Lib.hid (fun t ht => by
          have h := impl.DeblockFast_c 16 16 (some ⟨gG, 0, none⟩) cG F q t (by omega) (by omega) (by omega) (HRF.out t ht) hFb
          rw [hFD, hFl] at h
          exact h)
        have HSI : Hid (∀ b d t, Row t b F → Below wz.heap.size wz t → Calls Try.prog 24 #[frv 16 16 b 256 d, frv 16 16 (some ⟨gG, 0, none⟩) 256 cG] t fun e w' => e = .returned (.bool true) ∧ Below t.heap.size t w') := Lib.hid (fun b d t hb ht => by
          have h := impl.SameFrame_c 16 16 b d F 16 16 (some ⟨gG, 0, none⟩) cG F t (by omega) (by omega) (by omega) hb hFb (by omega) (by omega) (by omega) (HRF.out t ht) hFb
          rw [show sameB 16 16 F 16 16 F = true from by simp [sameB], hFl] at h
          exact h)
        have HSS : Hid (∀ b d t, Row t b F → Below wz.heap.size wz t → Calls Try.prog 12 #[frv 16 16 b 256 d, frv 16 16 (some ⟨gG, 0, none⟩) 256 cG] t fun e w' => e = .returned (.bool true) ∧ Below t.heap.size t w') := Lib.hid (fun b d t hb ht => by
          have h := spec.SameFrame_c 16 16 b d F 16 16 (some ⟨gG, 0, none⟩) cG F t (by omega) (by omega) (by omega) hb hFb (by omega) (by omega) (by omega) (HRF.out t ht) hFb
          rw [show sameB 16 16 F 16 16 F = true from by simp [sameB], hFl] at h
          exact h)
        have HAL : Hid (∀ t, Calls Try.prog 19 #[.int .i64 q] t fun e w' => e = .returned (.int .i64 al) ∧ t = w') := Lib.hid (fun t => by
          have h := impl.AlphaOf_c q t
          rw [← HALP.out] at h
          exact h)
        have HKZ : Hid (Below w.heap.size w wz) := Lib.hid (by rw [hwz]; exact HKR.out)
        rw [← hwz] at n0 n1 n2 ⊢
        clear hwz hF hFl hFb hFD hown hgr HGR HOW HN2 HO2 HKR HK2
        go_wp2_with (go_at_call 23; refine (HA1.out _ HKZ.out).mono ?_; rintro e w' ⟨rfl, rfl⟩)
        have kc : Below wz.heap.size wz wz.drew := (Below.refl _ _).drew
        have hq := HBX.out _ (Below.refl _ _)
        go_region_held3 (fun w' => w'.cell? ⟨kn, 0, none⟩ = some (.int .i64 16) ∧ w'.cell? ⟨kn, 1, none⟩ = some (.int .i64 16) ∧ w'.cell? ⟨kn, 2, none⟩ = some (.slice (some ⟨gG, 0, none⟩) 256 cG)) (first | exact hq | go_keep)
          ((first
            | (go_at_call 10; with_reducible refine (HDR.out _ kc).mono ?_; rintro e wn ⟨b, d, rfl, ho, hb⟩; have kc := below_next kc hb; have hr := ho.row; have hq := HBX.out _ kc; clear hb ho)
            | (go_at_call 11; with_reducible refine (HDF.out _ kc).mono ?_; rintro e wn ⟨b, d, rfl, ho, hb⟩; have kc := below_next kc hb; have hr := ho.row; have hq := HBX.out _ kc; clear hb ho)
            | (go_at_call 24; with_reducible refine (HSI.out b d _ hr kc).mono ?_; rintro e wn ⟨rfl, hb⟩; have kc := below_next kc hb; have hq := HBX.out _ kc; clear hb)
            | (go_at_call 12; with_reducible refine (HSS.out b d _ hr kc).mono ?_; rintro e wn ⟨rfl, hb⟩; have kc := below_next kc hb; have hq := HBX.out _ kc; clear hb)
            | (go_at_call 19; with_reducible refine (HAL.out _).mono ?_; rintro e w' ⟨rfl, rfl⟩)))
        all_goals
          have HF := Lib.hid (below_next HKZ.out kc)
          clear kc
          go_wp2
          go_ret
          exact ⟨rfl, HF.out⟩

theorem own : ownKnob Try.prog.godebug = none := by kernel_rfl
theorem laidOut : laidOutB Try.prog = true := by kernel_rfl
set_option maxRecDepth 100000 in
theorem lifted (os : Os) (started : os.Started) (H : Type) (enc : TypeId × Value → H) :
    ReturnsInHanded {} Try.checked os 5 .any (Rows.fnStillSpec.pre6 enc Try.prog Try.f5 Rows.fnStillRow.domain false) (Rows.fnStillSpec.post enc Try.prog Try.f5 false true false false) := by
  refine returnsInHanded_of_change (C := Try.checked) own started (by kernel_rfl) Try.func5
    (ChangeSpec.witness6 (enc := enc) (C := Try.checked) false ⟨#[], #[.slice none 0 0], []⟩ 8 (by kernel_rfl) (by kernel_rfl) (by kernel_rfl) (by kernel_rfl)) ?_
  intro W base args ds gs before hval0 hW hcnd _
  have hval : ∀ (j : Nat) t v, Try.f5.params[j]? = some t → args[j]? = some v → Value.okWide Try.prog W .any base t v := hval0
  have hW' := hW
  obtain ⟨p, q, hA0, hV, rfl, hfz, hnd⟩ := hW
  have hA : DataW.TrodAll enc Try.prog W 0 (fun _ => true) true Try.f5.params.toList args.toList ds p := hA0
  rw [Try.params5] at hA hval
  obtain ⟨v0, vs0, d0, ds0, p0, q0, hargs, rfl, rfl, h0, tr0⟩ := trodAll_cons hA
  obtain ⟨rfl, rfl, rfl⟩ := trodAll_nil tr0
  obtain rfl : args = #[v0] := by cases args; simp_all
  obtain ⟨rfl, rfl⟩ := trodVars_none hV
  have k0 := h0
  have lt0 : ∀ x ∈ p0, x.block < W.heap.size := by obtain ⟨m, hm⟩ := k0; exact DataW.trod_lt m _ _ _ hm
  obtain ⟨a0, len0, c0, rfl⟩ := okWide_slice Try.underlying22 (hval 0 22 v0 rfl rfl)
  obtain ⟨l0, hl0, r0, w0⟩ : ∃ l : List Int, l.length = len0 ∧ RowB W a0 l ∧ ∀ x ∈ l, 0 ≤ x ∧ x ≤ 255 := by
    obtain ⟨fuel, hf⟩ := k0
    rcases open_ints Try.underlying22 Try.underlying5 (by kernel_rfl) hf with ⟨hcs, _⟩ | ⟨x, l, c, zs, hcs, _, hl, hm, hz, _, hcell, hwz⟩
    · simp [Value.cells] at hcs
      obtain ⟨rfl, rfl, rfl⟩ := hcs
      exact ⟨[], rfl, .inl rfl, by simp⟩
    · simp [Value.cells] at hcs
      obtain ⟨rfl, rfl, rfl⟩ := hcs
      exact RowB.of_cells hl (by simpa using hz) hcell (fun n hn => wf_u8 (hwz n hn))
  subst hl0
  clear hA0 hval0
  refine (walk W a0 c0 l0 r0 w0).mono fun e W' ⟨he, bel⟩ => ?_
  subst he
  exact ⟨_, rfl, _, _, _, [], _, [], hW', trodAll_mk1 (shut_bool Try.underlying4 _), (trodAll_cons_mk (Below.trod laidOut (by kernel_rfl) (of_decide_eq_true (by kernel_rfl)) k0 bel lt0) trodAll_mk0), rfl, bel.frame _, fun h => by cases h⟩

theorem over : Rows.fnStillRow.holds Try.pinned (OpenSpec.ofChange Rows.fnStillSpec) :=
  OpenClaim.holds_of_wide 5 Try.f5 rfl rfl rfl rfl rfl rfl rfl ⟨rfl, rfl, rfl, rfl, rfl⟩ rfl rfl rfl rfl rfl (by kernel_rfl) Try.func5 (by kernel_rfl)
    (of_decide_eq_true (by kernel_rfl)) (by unfold Func.isWrapper; first | (rw [if_pos (by decide +kernel)]; kernel_rfl) | (rw [if_neg (by decide +kernel)]; exact ⟨rfl, rfl⟩))
    (fun os started H enc _ => lifted os started H enc)

/-- the statement -/
theorem proved : Rows.FnStillSaid := over
#print axioms proved
end Go.Proofs.Ytkfjbnhihjnhnaa.fnStill
