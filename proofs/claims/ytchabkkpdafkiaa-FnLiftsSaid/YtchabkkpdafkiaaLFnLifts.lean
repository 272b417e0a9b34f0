/- For every input the law FnLifts returns true and leaves its arguments as they were; no condition. -/
import Derived.Test.YtchabkkpdafkiaaMem
import Derived.Test.YtchabkkpdafkiaaFrm
import Derived.Test.YtchabkkpdafkiaaBoth2
import Derived.Test.YtchabkkpdafkiaaDrawV
import Derived.Test.YtchabkkpdafkiaaDrawR
namespace Go.Proofs.Ytchabkkpdafkiaa.fnLifts
open Go.ChangeShapes Go.WideShapes Go.ChangeAt Go.RowKit Go.Joins
set_option linter.unusedVariables false
theorem liftR_at (R : List (List Int)) (n : Nat) (l : List Int) (k : Nat) (hk : k < n) : (liftR R n l).getD k 0 = sumN (fun j => ent R k j * l.getD j 0) n := by
  unfold liftR
  rw [tab_getD _ _ _ hk]
  unfold rowAt
  exact sumN_congr (fun j _ => by rw [Nat.zero_mul, Nat.zero_add])
theorem lift_twice {l : List Int} (h8 : l.length = 8) (hb : ∀ i, i < 8 → -1000 ≤ l.getD i 0 ∧ l.getD i 0 ≤ 1000) : (lift8F (lift8F l)).length = 8 ∧ ∀ i, i < 8 → (lift8F (lift8F l)).getD i 0 = 8 * l.getD i 0 := by
  have e1 := lift8_row h8 (fun i hi => by have := hb i hi; omega)
  have l1 : (liftR rowsH 8 l).length = 8 := by unfold liftR; rw [tab_len]
  have b1 : ∀ i, i < 8 → -16000 ≤ (liftR rowsH 8 l).getD i 0 ∧ (liftR rowsH 8 l).getD i 0 ≤ 16000 := fun i hi => by
    rw [liftR_at _ _ _ _ hi]
    have := sumN_bd (f := fun j => ent rowsH i j * l.getD j 0) (n := 8) (B := 2 * 1000) (fun j hj => mul_bd2 (ent_bd8 i hi j hj) (hb j hj))
    omega
  have e2 := lift8_row l1 (fun i hi => by have := b1 i hi; omega)
  rw [e1, e2]
  refine ⟨by unfold liftR; rw [tab_len], fun k hk => ?_⟩
  rw [liftR_at _ _ _ _ hk]
  have e3 : ∀ j, j < 8 → ent rowsH k j * (liftR rowsH 8 l).getD j 0 = sumN (fun i => ent rowsH j k * ent rowsH j i * l.getD i 0) 8 := fun j hj => by
    rw [liftR_at _ _ _ _ hj, ← sumN_mul, rowsH_sym k hk j hj]
    exact sumN_congr (fun i _ => by rw [Int.mul_assoc])
  rw [sumN_congr e3, sumN_swap]
  have e4 : ∀ i, i < 8 → sumN (fun j => ent rowsH j k * ent rowsH j i * l.getD i 0) 8 = if k = i then 8 * l.getD i 0 else 0 := fun i hi => by
    rw [sumN_mulr, rowsH_orth k hk i hi]
    by_cases h : k = i
    · rw [if_pos h, if_pos h]; rfl
    · rw [if_neg h, if_neg h, Int.zero_mul]
  rw [sumN_congr e4]
  exact sumN_pick (fun i => 8 * l.getD i 0) 8 k hk
theorem lift_none {l : List Int} (h8 : l.length ≠ 8) : lift8F (lift8F l) = [] := by
  have e : lift8F l = [] := by rw [lift8F, if_neg h8]
  rw [e]; rfl
theorem col_twice (n : Nat) {l : List Int} (hl : l.length = n * n) (hn : n = 4 ∨ n = 8) : colF (colF l) = l := by
  have hn0 : 0 < n := by omega
  have h1 := turn_col l n hl hn
  have l1 : (turnL l n).length = n * n := by unfold turnL; rw [tab_len]
  rw [h1, turn_col _ n l1 hn]
  conv => lhs; unfold turnL
  refine (tab_congr (g := fun i => l.getD i 0) fun i hi => ?_).trans (tab_of l (n * n) hl).symm
  have a1 : i / n < n := Nat.div_lt_of_lt_mul hi
  have a2 : i % n < n := Nat.mod_lt _ hn0
  show (turnL l n).getD (i % n * n + i / n) 0 = l.getD i 0
  unfold turnL
  rw [tab_getD _ _ _ (sq_lt a2 a1), sq_div a1, sq_mod a1, Nat.mul_comm, Nat.div_add_mod]
theorem col_none {l : List Int} (h1 : l.length ≠ 16) (h2 : l.length ≠ 64) : colF (colF l) = [] := by
  rw [colF_no h1 h2]; rfl

set_option maxHeartbeats 4000000 in
theorem walk (w : World) (a0 : Option Addr) (c0 : Nat) (l0 : List Int) (r0 : RowB w a0 l0) (w0 : ∀ x ∈ l0, 0 ≤ x ∧ x ≤ 255) :
    Calls Try.prog 7 #[.slice a0 l0.length c0] w fun e w' => e = .returned (.bool true) ∧ Below w.heap.size w w' := by
  by_cases hbig : 1048576 < l0.length
  · have HB := Lib.hid (big_c a0 c0 l0.length w)
    rw [decide_eq_true hbig] at HB
    clear hbig r0 w0
    go_enter Try.func7, Try.ntmps7
    go_wp2_with (go_at_call 17; refine HB.out.mono ?_; rintro e w' ⟨rfl, rfl⟩)
    go_ret
    exact ⟨rfl, Below.refl _ _⟩
  · have HB := Lib.hid (big_c a0 c0 l0.length w)
    rw [decide_eq_false hbig] at HB
    have HD := Lib.hid (DrawLift8_c a0 c0 l0 w (by omega) r0 w0)
    have HDC : Hid (∀ v, Below w.heap.size w v → Calls Try.prog 24 #[.slice a0 l0.length c0] v fun e w' => ∃ (b : Option Addr) (d : Nat) (L : List Int), e = .returned (.slice b L.length d) ∧ L.length ≤ 64 ∧ (∀ x ∈ L, -90 ≤ x ∧ x ≤ 90) ∧ Row w' b L ∧ Below v.heap.size v w') := Lib.hid (fun v h => DrawColumns_c a0 c0 l0 v (by omega) (r0.below h (Nat.le_refl _)) w0)
    clear hbig r0 w0
    go_enter Try.func7, Try.ntmps7
    go_wp2_with (go_at_call 17; refine HB.out.mono ?_; rintro e w' ⟨rfl, rfl⟩)
    refine HD.out.mono ?_
    rintro e w1 ⟨b, d, L, rfl, hl8, hLb, hrL, hb1⟩
    have hLb' : ∀ x ∈ L, -9223372036854775808 ≤ x ∧ x ≤ 9223372036854775807 := fun x hx => by have := hLb x hx; omega
    obtain ⟨L1, hL1⟩ : ∃ L1, L1 = lift8F L := ⟨_, rfl⟩
    obtain ⟨L2, hL2⟩ : ∃ L1, L1 = lift8F (lift8F L) := ⟨_, rfl⟩
    have hl1 : L1.length ≤ 1048576 := by rw [hL1]; exact lift8F_len L
    have hl2 : L2.length ≤ 1048576 := by rw [hL2]; exact lift8F_len _
    have hwl1 : ∀ x ∈ L1, -9223372036854775808 ≤ x ∧ x ≤ 9223372036854775807 := by
      rw [hL1]
      by_cases h8 : L.length = 8
      · intro x hx
        rw [lift8_row h8 (fun i hi => by have := hLb (L.getD i 0) (by rw [getD_lt (by omega)]; exact List.getElem_mem _); omega)] at hx
        obtain ⟨i, hi, rfl⟩ := tab_mem' hx
        have h9 := rowAt_bd (M := ent rowsH) (l := L) (n := 8) (y := 0) (k := i) (B := 1000) (fun j hj => ent_bd8 i hi j hj) (fun j hj => by
          rw [Nat.zero_mul, Nat.zero_add, getD_lt (by omega)]
          exact hLb _ (List.getElem_mem _))
        omega
      · rw [show lift8F L = [] from by rw [lift8F, if_neg h8]]
        simp
    have HC1 := Lib.hid (impl.Lift8_c b d L w1 (by omega) hrL hLb')
    have HC2 : Hid (∀ (b : Option Addr) (d : Nat) w0, Row w0 b L1 → Calls Try.prog 23 #[.slice b L1.length d] w0 fun e w' => ∃ b d, e = .returned (.slice b L2.length d) ∧ Own w0.heap.size w' b d L2 ∧ Below w0.heap.size w0 w') := Lib.hid (fun b d w0 h => by
      have h9 := impl.Lift8_c b d L1 w0 (by omega) h hwl1
      rw [hL1, ← hL2, ← hL1] at h9
      exact h9)
    rw [← hL1] at HC1
    have HT : Hid (L.length = 8 → L2.length = 8 ∧ ∀ i, i < 8 → L2.getD i 0 = 8 * L.getD i 0) := Lib.hid (fun h8 => by rw [hL2]; exact lift_twice h8 (fun i hi => by rw [getD_lt (by omega)]; exact hLb _ (List.getElem_mem _)))
    have HN : Hid (L.length ≠ 8 → L2 = []) := Lib.hid (fun h8 => by rw [hL2]; exact lift_none h8)
    have HRL : Hid (∀ v, Below w1.heap.size w1 v → Row v b L) := Lib.hid (fun v h => hrL.below h (Nat.le_refl _))
    have HLB := Lib.hid hLb
    have HB1 := Lib.hid hb1
    clear hL1 hL2 hwl1 hLb hLb' hrL hb1 HD
    go_wp2_with fail
    refine HC1.out.mono ?_
    rintro e w2 ⟨b2, d2, rfl, o2, k2⟩
    go_wp2_with fail
    refine (HC2.out b2 d2 w2 o2.row).mono ?_
    rintro e w3 ⟨b3, d3, rfl, o3, k3⟩
    have HK3 := Lib.hid (below_next k2 k3)
    have HB3 := Lib.hid (below_next HB1.out HK3.out)
    have HR3 : Hid (∀ v, Below w3.heap.size w3 v → Row v b3 L2) := Lib.hid (fun v h => o3.row.below h (Nat.le_refl _))
    clear o2 o3 k2 k3 HC1 HC2
    go_wp2_with fail
    refine (HDC.out w3 HB3.out).mono ?_
    rintro e w4 ⟨b4, d4, C, rfl, hc64, hCb, hrC, k4⟩
    have hCb' : ∀ x ∈ C, -9223372036854775808 ≤ x ∧ x ≤ 9223372036854775807 := fun x hx => by have := hCb x hx; omega
    obtain ⟨C1, hC1⟩ : ∃ C1, C1 = colF C := ⟨_, rfl⟩
    obtain ⟨C2, hC2⟩ : ∃ C1, C1 = colF (colF C) := ⟨_, rfl⟩
    have hcl1 : C1.length ≤ 1048576 := by rw [hC1]; exact colF_len C
    have hcl2 : C2.length ≤ 1048576 := by rw [hC2]; exact colF_len _
    have hwc1 : ∀ x ∈ C1, -9223372036854775808 ≤ x ∧ x ≤ 9223372036854775807 := by
      rw [hC1]
      intro x hx
      obtain ⟨i, hi, rfl⟩ := tab_mem' hx
      unfold colAt
      by_cases hlt : i % sideN C.length * sideN C.length + i / sideN C.length < C.length
      · rw [getD_lt hlt]; exact hCb' _ (List.getElem_mem _)
      · have : C.getD (i % sideN C.length * sideN C.length + i / sideN C.length) 0 = 0 := by simp [List.getD, List.getElem?_eq_none (Nat.le_of_not_lt hlt)]
        rw [this]; omega
    have HC1 := Lib.hid (impl.Columns_c b4 d4 C w4 (by omega) hrC hCb')
    have HC2 : Hid (∀ (b : Option Addr) (d : Nat) w0, Row w0 b C1 → Calls Try.prog 25 #[.slice b C1.length d] w0 fun e w' => ∃ b d, e = .returned (.slice b C2.length d) ∧ Own w0.heap.size w' b d C2 ∧ Below w0.heap.size w0 w') := Lib.hid (fun b d w0 h => by
      have h9 := impl.Columns_c b d C1 w0 (by omega) h hwc1
      rw [hC1, ← hC2, ← hC1] at h9
      exact h9)
    rw [← hC1] at HC1
    have HCT : Hid (C.length = 16 ∨ C.length = 64 → C2 = C) := Lib.hid (fun h => by
      rw [hC2]
      rcases h with h | h
      · exact col_twice 4 h (.inl rfl)
      · exact col_twice 8 h (.inr rfl))
    have HCN : Hid (C.length ≠ 16 → C.length ≠ 64 → C2 = []) := Lib.hid (fun h1 h2 => by rw [hC2]; exact col_none h1 h2)
    have HRC : Hid (∀ v, Below w4.heap.size w4 v → Row v b4 C) := Lib.hid (fun v h => hrC.below h (Nat.le_refl _))
    have HB4 := Lib.hid (below_next HB3.out k4)
    have HK4 := Lib.hid k4
    clear hC1 hC2 hwc1 hCb hCb' hrC k4 HDC
    go_wp2_with fail
    refine HC1.out.mono ?_
    rintro e w5 ⟨b5, d5, rfl, o5, k5⟩
    go_wp2_with fail
    refine (HC2.out b5 d5 w5 o5.row).mono ?_
    rintro e w6 ⟨b6, d6, rfl, o6, k6⟩
    have HK6 := Lib.hid (below_next k5 k6)
    have HB6 := Lib.hid (below_next HB4.out HK6.out)
    have HR6 := Lib.hid (HR3.out _ (below_next HK4.out HK6.out))
    have HRL6 := Lib.hid (HRL.out _ (below_next (below_next HK3.out HK4.out) HK6.out))
    have HRC6 := Lib.hid (HRC.out _ HK6.out)
    have HR2 := Lib.hid o6.row
    clear o5 o6 k5 k6 HC1 HC2 HR3 HRL HRC
    by_cases h8 : L.length = 8
    · obtain ⟨h28, hat⟩ := HT.out h8
      have HAT := Lib.hid hat
      have HL8 := Lib.hid h8
      have H28 := Lib.hid h28
      have n8 : ((L.length : Int) != 8) = false := by simp; omega
      have n82 : ((L2.length : Int) != 8) = false := by simp; omega
      have hne : ∀ b : Int, (b != b) = false := by intro b; simp
      clear h8 h28 hat HT HN
      go_wp2
      go_loopw [7] (fun i wx => ∃ (j n : Nat), j ≤ 8 ∧ i = .int .i64 j ∧ wx = w6.drewN n) (fun i _ => 8 - (intOf i).toNat)
      case atStart => exact ⟨0, 0, by omega, rfl, rfl⟩
      case round =>
        obtain ⟨j, n, hj, rfl, rfl⟩ := hrel
        by_cases hlt2 : j < 8
        · obtain ⟨g1, f1, rfl, c1⟩ := HR6.out.at_ (i := j) (by rw [H28.out]; exact hlt2)
          obtain ⟨g2, f2, rfl, c2⟩ := HRL6.out.at_ (i := j) (by rw [HL8.out]; exact hlt2)
          have ha := HAT.out j hlt2
          rw [ha] at c1
          have hx := HLB.out (L.getD j 0) (by rw [getD_lt (by rw [HL8.out]; exact hlt2)]; exact List.getElem_mem _)
          generalize L.getD j 0 = x at *
          obtain ⟨hx0, hx1⟩ := hx
          have z1 : (j : Int) < (L.length : Int) := by have := HL8.out; omega
          have z2 : (j : Int) < (L2.length : Int) := by have := H28.out; omega
          clear ha
          go_wp2
          go_quiet (fail)
          go_wp2
          go_roundw
          case rel => exact ⟨j + 1, _, by omega, by go_num, by first | rfl | exact World.drewN_drewN _ _ _⟩
          case measure => simp [intOf]; omega
        · have z1 : (8 : Int) ≤ (j : Int) := by omega
          have HB7 := Lib.hid (below_drewN' HB6.out n)
          have HR7 := Lib.hid (HR2.out.drewN n)
          have HC7 := Lib.hid (HRC6.out.drewN n)
          generalize w6.drewN n = w7 at *
          by_cases h16 : C.length = 16 ∨ C.length = 64
          · have hcc := HCT.out h16
            subst hcc
            have HS := Lib.hid (sameInts_t b6 b4 d6 d4 C2 w7 (by omega) HR7.out HC7.out)
            rcases h16 with h16 | h16
            · have m1 : ((C2.length : Int) != 16) = false := by simp; omega
              clear h16
              go_wp2_with fail
              refine HS.out.mono ?_
              rintro e w8 ⟨rfl, k8⟩
              have HB8 := Lib.hid (below_next HB7.out k8)
              clear k8
              go_wp2
              go_ret
              exact ⟨rfl, HB8.out⟩
            · have m1 : ((C2.length : Int) != 16) = true := by simp; omega
              have m2 : ((C2.length : Int) != 64) = false := by simp; omega
              clear h16
              go_wp2_with fail
              refine HS.out.mono ?_
              rintro e w8 ⟨rfl, k8⟩
              have HB8 := Lib.hid (below_next HB7.out k8)
              clear k8
              go_wp2
              go_ret
              exact ⟨rfl, HB8.out⟩
          · have hcn := HCN.out (fun h => h16 (.inl h)) (fun h => h16 (.inr h))
            subst hcn
            have m1 : ((C.length : Int) != 16) = true := by simp; omega
            have m2 : ((C.length : Int) != 64) = true := by simp; omega
            clear h16
            go_wp2
            go_ret
            exact ⟨by first | rfl | simp, HB7.out⟩
    · have hn := HN.out h8
      subst hn
      have n8 : ((L.length : Int) != 8) = true := by simp; omega
      clear h8 HT HN
      go_wp2
      go_ret
      exact ⟨by first | rfl | simp, HB6.out⟩

theorem own : ownKnob Try.prog.godebug = none := by kernel_rfl
theorem laidOut : laidOutB Try.prog = true := by kernel_rfl
set_option maxRecDepth 100000 in
theorem lifted (os : Os) (started : os.Started) (H : Type) (enc : TypeId × Value → H) :
    ReturnsInHanded {} Try.checked os 7 .any (Rows.fnLiftsSpec.pre6 enc Try.prog Try.f7 Rows.fnLiftsRow.domain false) (Rows.fnLiftsSpec.post enc Try.prog Try.f7 false true false false) := by
  refine returnsInHanded_of_change (C := Try.checked) own started (by kernel_rfl) Try.func7
    (ChangeSpec.witness6 (enc := enc) (C := Try.checked) false ⟨#[], #[.slice none 0 0], []⟩ 8 (by kernel_rfl) (by kernel_rfl) (by kernel_rfl) (by kernel_rfl)) ?_
  intro W base args ds gs before hval0 hW hcnd _
  have hval : ∀ (j : Nat) t v, Try.f7.params[j]? = some t → args[j]? = some v → Value.okWide Try.prog W .any base t v := hval0
  have hW' := hW
  obtain ⟨p, q, hA0, hV, rfl, hfz, hnd⟩ := hW
  have hA : DataW.TrodAll enc Try.prog W 0 (fun _ => true) true Try.f7.params.toList args.toList ds p := hA0
  rw [Try.params7] at hA hval
  obtain ⟨v0, vs0, d0, ds0, p0, q0, hargs, rfl, rfl, h0, tr0⟩ := trodAll_cons hA
  obtain ⟨rfl, rfl, rfl⟩ := trodAll_nil tr0
  obtain rfl : args = #[v0] := by cases args; simp_all
  obtain ⟨rfl, rfl⟩ := trodVars_none hV
  have k0 := h0
  have lt0 : ∀ x ∈ p0, x.block < W.heap.size := by obtain ⟨m, hm⟩ := k0; exact DataW.trod_lt m _ _ _ hm
  obtain ⟨a0, len0, c0, rfl⟩ := okWide_slice Try.underlying27 (hval 0 27 v0 rfl rfl)
  obtain ⟨l0, hl0, r0, w0⟩ : ∃ l : List Int, l.length = len0 ∧ RowB W a0 l ∧ ∀ x ∈ l, 0 ≤ x ∧ x ≤ 255 := by
    obtain ⟨fuel, hf⟩ := k0
    rcases open_ints Try.underlying27 Try.underlying5 (by kernel_rfl) hf with ⟨hcs, _⟩ | ⟨x, l, c, zs, hcs, _, hl, hm, hz, _, hcell, hwz⟩
    · simp [Value.cells] at hcs
      obtain ⟨rfl, rfl, rfl⟩ := hcs
      exact ⟨[], rfl, .inl rfl, by simp⟩
    · simp [Value.cells] at hcs
      obtain ⟨rfl, rfl, rfl⟩ := hcs
      exact RowB.of_cells hl (by simpa using hz) hcell (fun n hn => wf_u8 (hwz n hn))
  subst hl0
  clear hA0 hval0
  refine (walk W a0 c0 l0 r0 w0).mono fun e W' ⟨he, bel⟩ => ?_
  subst he
  exact ⟨_, rfl, _, _, _, [], _, [], hW', trodAll_mk1 (shut_bool Try.underlying4 _), (trodAll_cons_mk (Below.trod laidOut (by kernel_rfl) (of_decide_eq_true (by kernel_rfl)) k0 bel lt0) trodAll_mk0), rfl, bel.frame _, fun h => by cases h⟩

theorem over : Rows.fnLiftsRow.holds Try.pinned (OpenSpec.ofChange Rows.fnLiftsSpec) :=
  OpenClaim.holds_of_wide 7 Try.f7 rfl rfl rfl rfl rfl rfl rfl ⟨rfl, rfl, rfl, rfl, rfl⟩ rfl rfl rfl rfl rfl (by kernel_rfl) Try.func7 (by kernel_rfl)
    (of_decide_eq_true (by kernel_rfl)) (by unfold Func.isWrapper; first | (rw [if_pos (by decide +kernel)]; kernel_rfl) | (rw [if_neg (by decide +kernel)]; exact ⟨rfl, rfl⟩))
    (fun os started H enc _ => lifted os started H enc)

/-- the statement -/
theorem proved : Rows.FnLiftsSaid := over
#print axioms proved
end Go.Proofs.Ytchabkkpdafkiaa.fnLifts
