/- For every input the law FnEnergy returns true and leaves its arguments as they were; no condition. -/
import Derived.Test.YtchabkkpdafkiaaMem
import Derived.Test.YtchabkkpdafkiaaFrm
import Derived.Test.YtchabkkpdafkiaaMatF
import Derived.Test.YtchabkkpdafkiaaDraw
namespace Go.Proofs.Ytchabkkpdafkiaa.fnEnergy
open Go.ChangeShapes Go.WideShapes Go.ChangeAt Go.RowKit Go.Joins
set_option linter.unusedVariables false
theorem sq_bd {y B : Int} (h : -B ≤ y ∧ y ≤ B) : 0 ≤ y * y ∧ y * y ≤ B * B := by
  by_cases h0 : 0 ≤ y
  · exact ⟨Int.mul_nonneg h0 h0, Int.mul_le_mul h.2 h.2 h0 (by omega)⟩
  · have e : y * y = (-y) * (-y) := by rw [Int.neg_mul_neg]
    rw [e]
    exact ⟨Int.mul_nonneg (by omega) (by omega), Int.mul_le_mul (by omega) (by omega) (by omega) (by omega)⟩
theorem sq_sum_bd {f : Nat → Int} {B : Int} {k : Nat} (h : ∀ i, i < k → -B ≤ f i ∧ f i ≤ B) : 0 ≤ sumN (fun i => f i * f i) k ∧ sumN (fun i => f i * f i) k ≤ k * (B * B) := by
  have h1 : ∀ i, i < k → 0 ≤ f i * f i ∧ f i * f i ≤ B * B := fun i hi => sq_bd (h i hi)
  constructor
  · clear h
    induction k with
    | zero => simp [sumN]
    | succ k ih => rw [sumN]; have := ih (fun i hi => h1 i (by omega)); have := (h1 k (by omega)).1; omega
  · exact (sumN_bd (fun i hi => ⟨by have := h1 i hi; omega, (h1 i hi).2⟩)).2

set_option maxHeartbeats 4000000 in
theorem walk (w : World) (a0 : Option Addr) (c0 : Nat) (l0 : List Int) (r0 : RowB w a0 l0) (w0 : ∀ x ∈ l0, 0 ≤ x ∧ x ≤ 255) :
    Calls Try.prog 5 #[.slice a0 l0.length c0] w fun e w' => e = .returned (.bool true) ∧ Below w.heap.size w w' := by
  by_cases hbig : 1048576 < l0.length
  · have HB := Lib.hid (big_c a0 c0 l0.length w)
    rw [decide_eq_true hbig] at HB
    clear hbig r0 w0
    go_enter Try.func5, Try.ntmps5
    go_wp2_with (go_at_call 17; refine HB.out.mono ?_; rintro e w' ⟨rfl, rfl⟩)
    go_ret
    exact ⟨rfl, Below.refl _ _⟩
  · have HB := Lib.hid (big_c a0 c0 l0.length w)
    rw [decide_eq_false hbig] at HB
    obtain ⟨f, hf⟩ : ∃ f : Nat → Int, f = fun i => atF l0 i - 100 := ⟨_, rfl⟩
    have HF : Hid (∀ i, f i = atF l0 i - 100) := Lib.hid (fun i => by rw [hf])
    have HFB : Hid (∀ i, -155 ≤ f i ∧ f i ≤ 155) := Lib.hid (fun i => by rw [hf]; have := atF_bd w0 i; show -155 ≤ atF l0 i - 100 ∧ atF l0 i - 100 ≤ 155; omega)
    have HAT : Hid (∀ (i : Nat) w0, i ≤ 1048576 → Below w.heap.size w w0 → Calls Try.prog 18 #[.slice a0 l0.length c0, .int .i64 i] w0 fun e w' => e = .returned (.int .i64 (atF l0 i)) ∧ w0 = w') := Lib.hid (fun i w1 hi hb => at_c a0 c0 l0 i w1 (by omega) hi (r0.below hb (Nat.le_refl _)) w0)
    obtain ⟨L, hL⟩ : ∃ L, L = tab f 64 := ⟨_, rfl⟩
    have hLL : L.length = 64 := by rw [hL, tab_len]
    have hLg : ∀ i, i < 64 → L.getD i 0 = f i := fun i hi => by rw [hL, tab_getD _ _ _ hi]
    have hfit : fitsM 8 L = true := by
      have h1 : allR (-1000000000) 1000000000 L = true := allR_mk (fun i hi => inR_mk (by rw [hLg i (by omega)]; have := HFB.out i; omega))
      simp [fitsM, hLL, h1]
    obtain ⟨X, hX⟩ : ∃ X, X = prodL (ent rowsH) L 8 := ⟨_, rfl⟩
    have hXL : X.length = 64 := by rw [hX, prodL_len]
    have hXb : ∀ i, i < 64 → -39680 ≤ X.getD i 0 ∧ X.getD i 0 ≤ 39680 := fun i hi => by
      rw [hX]
      unfold prodL
      rw [tab_getD _ _ _ (by omega)]
      have hh : ∀ j, j < 8 → -2480 ≤ halfAt (ent rowsH) L 8 (i / 8) j ∧ halfAt (ent rowsH) L 8 (i / 8) j ≤ 2480 := fun j hj =>
        halfAt_bd (B := 155) (fun m hm => ent_bd8 _ (by omega) m hm) (fun m hm => by rw [hLg _ (by omega)]; exact HFB.out _) 8 (Nat.le_refl _)
      have hs := sumN_bd (f := fun j => halfAt (ent rowsH) L 8 (i / 8) j * ent rowsH (i % 8) j) (n := 8) (B := 2 * 2480) (fun j hj => by have h1 := mul_bd2 (ent_bd8 (i % 8) (by omega) j hj) (hh j hj); rw [Int.mul_comm (ent rowsH (i % 8) j)] at h1; exact h1)
      exact ⟨by have := hs.1; unfold prodAt; omega, by have := hs.2; unfold prodAt; omega⟩
    have HEN : Hid (sumN (fun i => X.getD i 0 * X.getD i 0) 64 = 64 * sumN (fun i => f i * f i) 64) := Lib.hid (by
      rw [hX]
      refine (energy_prod L).trans ?_
      congr 1
      exact sumN_congr (fun i hi => by rw [hLg i hi]))
    have HFA : Hid (∀ (b : Option Addr) (d : Nat) w0, Row w0 b L → Calls Try.prog 16 #[.slice b 64 d] w0 fun e w' => ∃ b d, e = .returned (.slice b 64 d) ∧ Own w0.heap.size w' b d X ∧ Below w0.heap.size w0 w') := Lib.hid (fun b d w0 h => by
      have hc := impl.Fast8_c b d L w0 (by omega) h (fun x hx => by
        obtain ⟨i, hi, rfl⟩ := List.getElem_of_mem hx
        rw [← getD_lt hi, hLg i (by omega)]
        have := HFB.out i
        omega)
      rw [show prodF rowsH 8 L = X from by rw [prodF, if_pos hfit, hX], hXL, hLL] at hc
      exact hc)
    have HLT : Hid (tab f 64 = L) := Lib.hid hL.symm
    have HXL := Lib.hid hXL
    have HXB := Lib.hid hXb
    have HSB : Hid (∀ k, k ≤ 64 → 0 ≤ sumN (fun i => f i * f i) k ∧ sumN (fun i => f i * f i) k ≤ k * 24025) := Lib.hid (fun k _ => sq_sum_bd (B := 155) (fun i _ => HFB.out i))
    have HXS : Hid (∀ k, k ≤ 64 → 0 ≤ sumN (fun i => X.getD i 0 * X.getD i 0) k ∧ sumN (fun i => X.getD i 0 * X.getD i 0) k ≤ k * 1574502400) := Lib.hid (fun k hk => sq_sum_bd (B := 39680) (fun i hi => HXB.out i (by omega)))
    clear hbig r0 w0 hf hL hLL hLg hfit hX hXL hXb
    go_enter Try.func5, Try.ntmps5
    go_wp2_with (go_at_call 17; refine HB.out.mono ?_; rintro e w' ⟨rfl, rfl⟩)
    go_loopw [3, 4, 5] (fun o s i wr => ∃ (k : Nat) (ad : Option Addr) (cc : Nat), k ≤ 64 ∧ i = .int .i64 k ∧ o = .slice ad k cc ∧ s = .int .i64 (sumN (fun i => f i * f i) k) ∧ Own w.heap.size wr ad cc (tab f k) ∧ Below w.heap.size w wr) (fun _ _ i _ => 64 - (intOf i).toNat)
    case atStart => exact ⟨0, _, _, Nat.zero_le _, rfl, rfl, rfl, Own.lit _ _ [] rfl (Nat.le_refl _) (by simp [maxLen]), (Below.refl _ _).alloc (Nat.le_refl _) _⟩
    case round =>
      obtain ⟨k, ad, cc, hk, rfl, rfl, rfl, ho, hb⟩ := hrel
      have HO := Lib.hid ho
      have HBB := Lib.hid hb
      clear ho hb
      by_cases hlt : k < 64
      · obtain ⟨v, hv⟩ : ∃ v, v = atF l0 k := ⟨_, rfl⟩
        obtain ⟨s, hs⟩ : ∃ s, s = sumN (fun i => f i * f i) k := ⟨_, rfl⟩
        obtain ⟨x, hx⟩ : ∃ x, x = f k := ⟨_, rfl⟩
        have hvx : v - 100 = x := by rw [hv, hx, HF.out]
        have hxb := HFB.out k
        have hsb := HSB.out k hk
        rw [← hx] at hxb
        rw [← hs] at hsb
        have hqb := sq_bd (B := 155) hxb
        obtain ⟨q, hq⟩ : ∃ q, q = x * x := ⟨_, rfl⟩
        rw [← hq] at hqb
        have e1 : IntKind.i64.wrap (x * x) = q := by rw [← hq]; exact IntWalk.i64_in _ (by omega)
        have e2 : IntKind.i64.wrap (s + q) = s + q := IntWalk.i64_in _ (by omega)
        have e3 : IntKind.i64.wrap (v - 100) = x := by rw [hvx]; exact IntWalk.i64_in _ (by omega)
        have HS : Hid (sumN (fun i => f i * f i) (k + 1) = s + q) := Lib.hid (by rw [sumN, ← hs, ← hx, ← hq])
        have HAK := Lib.hid (HAT.out k wr (by omega) HBB.out)
        rw [← hv] at HAK
        have HX := Lib.hid hx
        rw [← hs]
        clear hv hs hx hq
        go_wp2_with (first
          | (go_at_call 18; refine HAK.out.mono ?_; rintro e w' ⟨rfl, rfl⟩)
          | (at_builtin; go_loud (refine append_one Try.underlying22 Try.infoInt rfl (.tmp 16) (.tmp 21) rfl w.heap.size ad cc k (tab f k) (tab_len _ _) rfl (HO.out.alloc _) wr.heap.size x rfl ?_ ?_ ?_ ?_); (go_loud (simp)); (omega); (have := HBB.out.size; simp; omega); intro ad1 cc1 w1 ho1 hb1))
        rw [HX.out, ← tab_succ] at ho1
        have HO1 := Lib.hid ho1
        have HB1 : Hid (Below w.heap.size w w1) := Lib.hid ((HBB.out.alloc HBB.out.size _).trans hb1)
        obtain ⟨g, rfl, _, _, hcell, _, _⟩ := ho1.at_ (i := k) (by rw [tab_len]; omega)
        rw [tab_getD _ _ _ (by omega), ← HX.out] at hcell
        have z1 : (k : Int) < (k : Int) + 1 := by omega
        clear ho1 hb1
        go_wp2
        go_quiet (fail)
        go_wp2
        go_roundw
        case rel => exact ⟨k + 1, _, cc1, by omega, by go_num, rfl, by rw [HS.out], HO1.out.drewN _, below_drewN' HB1.out _⟩
        case measure => simp [intOf]; omega
      · obtain rfl : k = 64 := by omega
        rw [HLT.out] at HO
        obtain ⟨S, hS⟩ : ∃ S, S = sumN (fun i => f i * f i) 64 := ⟨_, rfl⟩
        have hSb := HSB.out 64 (Nat.le_refl _)
        rw [← hS] at HEN hSb ⊢
        clear hS
        go_wp2_with fail
        refine (HFA.out ad cc wr HO.out.row).mono ?_
        rintro e w1 ⟨b1, d1, rfl, ho1, hb1⟩
        have HO1 := Lib.hid ho1
        have HB1 : Hid (Below w.heap.size w w1) := Lib.hid (HBB.out.trans (hb1.mono HBB.out.size))
        obtain ⟨g, rfl, _, _, _⟩ := ho1.at_ (i := 0) (by rw [HXL.out]; omega)
        clear ho1 hb1
        go_wp2_with fail
        go_loopw [7, 8] (fun s i wr => ∃ k : Nat, k ≤ 64 ∧ i = .int .i64 k ∧ s = .int .i64 (sumN (fun i => X.getD i 0 * X.getD i 0) k) ∧ ∃ n, wr = w1.drewN n) (fun _ i _ => 64 - (intOf i).toNat)
        case atStart => exact ⟨0, Nat.zero_le _, rfl, rfl, 0, rfl⟩
        case round =>
          obtain ⟨k, hk, rfl, rfl, n, rfl⟩ := hrel
          by_cases hlt2 : k < 64
          · have hcell := HO1.out.cellAt (i := k) (by rw [HXL.out]; omega)
            obtain ⟨s, hs⟩ : ∃ s, s = sumN (fun i => X.getD i 0 * X.getD i 0) k := ⟨_, rfl⟩
            obtain ⟨x, hx⟩ : ∃ x, x = X.getD k 0 := ⟨_, rfl⟩
            have hxb := HXB.out k hlt2
            have hsb := HXS.out k hk
            rw [← hx] at hxb hcell
            rw [← hs] at hsb
            have hqb := sq_bd (B := 39680) hxb
            obtain ⟨q, hq⟩ : ∃ q, q = x * x := ⟨_, rfl⟩
            rw [← hq] at hqb
            have e1 : IntKind.i64.wrap (x * x) = q := by rw [← hq]; exact IntWalk.i64_in _ (by omega)
            have e2 : IntKind.i64.wrap (s + q) = s + q := IntWalk.i64_in _ (by omega)
            have HS : Hid (sumN (fun i => X.getD i 0 * X.getD i 0) (k + 1) = s + q) := Lib.hid (by rw [sumN, ← hs, ← hx, ← hq])
            have z1 : (k : Int) < 64 := by omega
            rw [← hs]
            clear hs hx hq
            go_wp2
            go_quiet (fail)
            go_wp2
            go_roundw
            case rel => exact ⟨k + 1, by omega, by go_num, by rw [HS.out], by first | exact ⟨_, rfl⟩ | exact drewN_ex _ _⟩
            case measure => simp [intOf]; omega
          · obtain rfl : k = 64 := by omega
            obtain ⟨Z, hZ⟩ : ∃ Z, Z = sumN (fun i => X.getD i 0 * X.getD i 0) 64 := ⟨_, rfl⟩
            rw [← hZ] at HEN ⊢
            have hZS : Z = 64 * S := HEN.out
            have hm : IntKind.i64.wrap (64 * S) = Z := by rw [hZS]; exact IntWalk.i64_in _ (by omega)
            clear hZ
            go_wp2
            go_ret
            exact ⟨ret_bool (by simp), below_drewN' HB1.out _⟩

theorem own : ownKnob Try.prog.godebug = none := by kernel_rfl
theorem laidOut : laidOutB Try.prog = true := by kernel_rfl
set_option maxRecDepth 100000 in
theorem lifted (os : Os) (started : os.Started) (H : Type) (enc : TypeId × Value → H) :
    ReturnsInHanded {} Try.checked os 5 .any (Rows.fnEnergySpec.pre6 enc Try.prog Try.f5 Rows.fnEnergyRow.domain false) (Rows.fnEnergySpec.post enc Try.prog Try.f5 false true false false) := by
  refine returnsInHanded_of_change (C := Try.checked) own started (by kernel_rfl) Try.func5
    (ChangeSpec.witness6 (enc := enc) (C := Try.checked) false ⟨#[], #[.slice none 0 0], []⟩ 8 (by kernel_rfl) (by kernel_rfl) (by kernel_rfl) (by kernel_rfl)) ?_
  intro W base args ds gs before hval0 hW hcnd _
  have hval : ∀ (j : Nat) t v, Try.f5.params[j]? = some t → args[j]? = some v → Value.okWide Try.prog W .any base t v := hval0
  have hW' := hW
  obtain ⟨p, q, hA0, hV, rfl, hfz, hnd⟩ := hW
  have hA : DataW.TrodAll enc Try.prog W 0 (fun _ => true) true Try.f5.params.toList args.toList ds p := hA0
  rw [Try.params5] at hA hval
  obtain ⟨v0, vs0, d0, ds0, p0, q0, hargs, rfl, rfl, h0, tr0⟩ := trodAll_cons hA
  obtain ⟨rfl, rfl, rfl⟩ := trodAll_nil tr0
  obtain rfl : args = #[v0] := by cases args; simp_all
  obtain ⟨rfl, rfl⟩ := trodVars_none hV
  have k0 := h0
  have lt0 : ∀ x ∈ p0, x.block < W.heap.size := by obtain ⟨m, hm⟩ := k0; exact DataW.trod_lt m _ _ _ hm
  obtain ⟨a0, len0, c0, rfl⟩ := okWide_slice Try.underlying27 (hval 0 27 v0 rfl rfl)
  obtain ⟨l0, hl0, r0, w0⟩ : ∃ l : List Int, l.length = len0 ∧ RowB W a0 l ∧ ∀ x ∈ l, 0 ≤ x ∧ x ≤ 255 := by
    obtain ⟨fuel, hf⟩ := k0
    rcases open_ints Try.underlying27 Try.underlying5 (by kernel_rfl) hf with ⟨hcs, _⟩ | ⟨x, l, c, zs, hcs, _, hl, hm, hz, _, hcell, hwz⟩
    · simp [Value.cells] at hcs
      obtain ⟨rfl, rfl, rfl⟩ := hcs
      exact ⟨[], rfl, .inl rfl, by simp⟩
    · simp [Value.cells] at hcs
      obtain ⟨rfl, rfl, rfl⟩ := hcs
      exact RowB.of_cells hl (by simpa using hz) hcell (fun n hn => wf_u8 (hwz n hn))
  subst hl0
  clear hA0 hval0
  refine (walk W a0 c0 l0 r0 w0).mono fun e W' ⟨he, bel⟩ => ?_
  subst he
  exact ⟨_, rfl, _, _, _, [], _, [], hW', trodAll_mk1 (shut_bool Try.underlying4 _), (trodAll_cons_mk (Below.trod laidOut (by kernel_rfl) (of_decide_eq_true (by kernel_rfl)) k0 bel lt0) trodAll_mk0), rfl, bel.frame _, fun h => by cases h⟩

theorem over : Rows.fnEnergyRow.holds Try.pinned (OpenSpec.ofChange Rows.fnEnergySpec) :=
  OpenClaim.holds_of_wide 5 Try.f5 rfl rfl rfl rfl rfl rfl rfl ⟨rfl, rfl, rfl, rfl, rfl⟩ rfl rfl rfl rfl rfl (by kernel_rfl) Try.func5 (by kernel_rfl)
    (of_decide_eq_true (by kernel_rfl)) (by unfold Func.isWrapper; first | (rw [if_pos (by decide +kernel)]; kernel_rfl) | (rw [if_neg (by decide +kernel)]; exact ⟨rfl, rfl⟩))
    (fun os started H enc _ => lifted os started H enc)

/-- the statement -/
theorem proved : Rows.FnEnergySaid := over
#print axioms proved
end Go.Proofs.Ytchabkkpdafkiaa.fnEnergy
