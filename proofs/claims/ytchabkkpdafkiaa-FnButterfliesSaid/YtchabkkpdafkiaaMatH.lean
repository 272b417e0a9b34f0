/- Contract: the matrix of signs as the program builds it. -/
import Derived.Test.YtchabkkpdafkiaaMatI
namespace Go.Proofs.Ytchabkkpdafkiaa
open Go.RowKit
set_option linter.unusedVariables false

/-- how many bits are set in a number under 8 -/
def pcN (x : Nat) : Int := [0, 1, 1, 2, 1, 2, 2, 3].getD x 0
theorem pcN_bd : ∀ x, x < 8 → 0 ≤ pcN x ∧ pcN x ≤ 3 := by decide
theorem and8 : ∀ r, r < 8 → ∀ k, k < 8 → r &&& k < 8 := by decide
theorem entH_pc : ∀ r, r < 8 → ∀ k, k < 8 → 1 - 2 * ((pcN (r &&& k)).tmod 2) = ent rowsH r k := by decide
theorem rowsH_tab : ∀ r, r < 8 → rowsH.getD r [] = tab (fun k => ent rowsH r k) 8 := by decide

theorem OnesCount64_c (x : Nat) (hx : x < 8) (w : World) : Calls Try.prog 58 #[.int .u64 x] w fun e w' => e = .returned (.int .i64 (pcN x)) ∧ w = w' := by
  have h8 : x = 0 ∨ x = 1 ∨ x = 2 ∨ x = 3 ∨ x = 4 ∨ x = 5 ∨ x = 6 ∨ x = 7 := by omega
  rcases h8 with rfl | rfl | rfl | rfl | rfl | rfl | rfl | rfl
  all_goals
    go_enter Try.func58, Try.ntmps58
    go_wp2
    go_ret
    refine ⟨ret_int ?_, rfl⟩
    decide +kernel
theorem OnesCount_c (x : Nat) (hx : x < 8) (w : World) : Calls Try.prog 47 #[.int .u64 x] w fun e w' => e = .returned (.int .i64 (pcN x)) ∧ w = w' := by
  have hc := OnesCount64_c x hx w
  have HC := Lib.hid hc
  have hcv : IntKind.u64.wrap (x : Int) = (x : Int) := IntWalk.u64_in _ (by omega)
  clear hc
  go_enter Try.func47, Try.ntmps47
  go_wp2_with (go_at_call 58; refine HC.out.mono ?_; rintro e w' ⟨rfl, rfl⟩)
  go_ret
  exact ⟨rfl, rfl⟩


set_option maxRecDepth 100000 in
set_option maxHeartbeats 4000000 in
theorem impl.matrixH_c (w : World) :
    Calls Try.prog 33 #[] w fun e w' => ∃ p2 c2, e = .returned (.slice (some ⟨p2, 0, none⟩) 8 c2) ∧ MatAt w' p2 rowsH ∧ Below w.heap.size w w' := by
  have hmk : ∀ w : World, (Instr.makeSlice 33 (.int .i64 8) (.int .i64 8)).run Try.prog w = .ok (.slice (some ⟨w.heap.size, 0, none⟩) 8 8) (w.alloc (.cells #[.slice none 0 0, .slice none 0 0, .slice none 0 0, .slice none 0 0, .slice none 0 0, .slice none 0 0, .slice none 0 0, .slice none 0 0] 22)) := fun _ => by kernel_rfl
  obtain ⟨F, hF⟩ : ∃ F : Nat → List Int, F = fun r => tab (fun k => ent rowsH r k) 8 := ⟨_, rfl⟩
  have HFL : Hid (∀ r, (F r).length = 8) := Lib.hid (fun r => by rw [hF]; exact tab_len _ _)
  have HF := Lib.hid hF
  clear hF
  go_enter Try.func33, Try.ntmps33
  go_wp2
  clear hmk
  go_loopw [5] (fun i wr => ∃ r : Nat, r ≤ 8 ∧ i = .int .i64 r ∧ RowsTo w.heap.size 8 F r r wr.heap.size wr ∧ Below w.heap.size w wr) (fun i _ => 8 - (intOf i).toNat)
  case atStart =>
    refine ⟨0, Nat.zero_le _, rfl, ⟨by simp, Nat.le_refl _, fun i => by simp [go_sem], fun j hj => by omega, fun j _ hj => ?_⟩, (Below.refl _ _).alloc (Nat.le_refl _) _⟩
    have hj8 : j = 0 ∨ j = 1 ∨ j = 2 ∨ j = 3 ∨ j = 4 ∨ j = 5 ∨ j = 6 ∨ j = 7 := by omega
    rcases hj8 with rfl | rfl | rfl | rfl | rfl | rfl | rfl | rfl <;> simp
  case round =>
    obtain ⟨r, hr, rfl, T, hb⟩ := hrel
    by_cases hlt : r < 8
    · have hltd : decide ((r : Int) < 8) = true := by simp; omega
      have hcr := T.2.2.2.2 r (Nat.le_refl _) hlt
      have HT := Lib.hid T.loose
      have HBB := Lib.hid hb
      have hgw := T.1
      obtain ⟨B, hB⟩ : ∃ B, B = wr.heap.size := ⟨_, rfl⟩
      rw [← hB] at HT hgw
      have HBZ : Hid (B ≤ wr.heap.size) := Lib.hid (by omega)
      clear T hb hB
      go_wp2_with fail
      obtain ⟨wz, hwz⟩ : ∃ wz : World, wz = wr := ⟨_, rfl⟩
      rw [← hwz] at HT HBB HBZ hcr ⊢
      clear hwz
      go_loopw [8] (fun i wr => ∃ (k : Nat) (ad : Option Addr) (cc : Nat), k ≤ 8 ∧ i = .int .i64 k ∧ RowsTo w.heap.size 8 F r (r + 1) B wr ∧ Below w.heap.size w wr ∧ wr.cell? ⟨w.heap.size, r, none⟩ = some (.slice ad k cc) ∧ Own B wr ad cc (tab (fun k => ent rowsH r k) k)) (fun i _ => 8 - (intOf i).toNat)
      case atStart => exact ⟨0, none, 0, Nat.zero_le _, rfl, HT.out, HBB.out, hcr, Own.none_ _ _⟩
      case round =>
        clear HT HBB HBZ hcr
        obtain ⟨k, ad, cc, hk, rfl, T, hb, hcr, ho⟩ := hrel
        have HT := Lib.hid T
        have HBB := Lib.hid hb
        have HO := Lib.hid ho
        have hsz := T.2.1
        have hfz := T.2.2.1 r
        have hbb := hb
        clear T ho hb
        by_cases hlt2 : k < 8
        · have hltd2 : decide ((k : Int) < 8) = true := by simp; omega
          obtain ⟨z, hz⟩ : ∃ z, z = r &&& k := ⟨_, rfl⟩
          have hz8 : z < 8 := by rw [hz]; exact and8 r hlt k hlt2
          have hbt : bits BinOp.and .i64 (r : Int) (k : Int) = (z : Int) := by rw [hz]; exact (bits_pair r k hlt hlt2).1
          have hcv : IntKind.u64.wrap (z : Int) = (z : Int) := IntWalk.u64_in _ (by omega)
          obtain ⟨v, hv⟩ : ∃ v, v = pcN z := ⟨_, rfl⟩
          have HOC : Hid (∀ w, Calls Try.prog 47 #[.int .u64 z] w fun e w' => e = .returned (.int .i64 v) ∧ w = w') := Lib.hid (fun w => by rw [hv]; exact OnesCount_c z hz8 w)
          have hvb : 0 ≤ v ∧ v ≤ 3 := by rw [hv]; exact pcN_bd z hz8
          obtain ⟨m, hm⟩ : ∃ m, m = v.tmod 2 := ⟨_, rfl⟩
          have hmb : 0 ≤ m ∧ m ≤ 1 := by rw [hm, Int.tmod_eq_emod_of_nonneg (by omega)]; omega
          have e1 : v.tmod 2 = m := hm.symm
          have e1' : v % 2 = m := by rw [hm, Int.tmod_eq_emod_of_nonneg (by omega)]
          have e2 : IntKind.i64.wrap (2 * m) = 2 * m := IntWalk.i64_in _ (by omega)
          obtain ⟨x, hx⟩ : ∃ x, x = 1 - 2 * m := ⟨_, rfl⟩
          have e3 : IntKind.i64.wrap (1 - 2 * m) = x := by rw [hx]; exact IntWalk.i64_in _ (by omega)
          have HX : Hid (x = ent rowsH r k) := Lib.hid (by rw [hx, hm, hv, hz]; exact entH_pc r hlt k hlt2)
          have z3 : (k : Int) < 8 := by omega
          have z4 : (r : Int) < 8 := by omega
          have hcr2 : (wr.alloc (.cells #[.int .i64 x] 3)).drew.cell? ⟨w.heap.size, r, none⟩ = some (.slice ad k cc) := (bcell ((Below.refl wr.heap.size wr).alloc (Nat.le_refl _) _).drew _ _ (by omega)).trans hcr
          clear hbb hx hm hv hz
          go_wp2_with fail
          go_region_law
            (first
              | (go_simp; go_at_call 47; refine (HOC.out _).mono ?_; rintro e w' ⟨rfl, rfl⟩; go_wp2_with fail)
              | (refine step_append_one Try.underlying22 Try.infoInt rfl (.tmp 16) (.tmp 25) rfl B ad cc k (tab (fun k => ent rowsH r k) k) (tab_len _ _) rfl ((HO.out.alloc _).drew) wr.heap.size x rfl ?_ ?_ ?_ ?_
                 · simp
                 · omega
                 · simp; omega
                 intro ad1 cc1 w1 hown1 hb1
                 have hcc : w1.cell? ⟨w.heap.size, r, none⟩ = some (.slice ad k cc) := (bcell hb1 _ _ hgw).trans ((bcell ((Below.refl wr.heap.size wr).alloc (Nat.le_refl _) _).drew _ _ (by omega)).trans hcr)
                 have hff : w1.frozen? ⟨w.heap.size, r, none⟩ = false := (bfrozen hb1 _ _ hgw).trans ((bfrozen ((Below.refl wr.heap.size wr).alloc (Nat.le_refl _) _).drew _ _ (by omega)).trans hfz)))
          all_goals
            rw [HX.out, ← tab_succ] at hown1
            have HB1 : Hid (Below B wr w1) := Lib.hid (((Below.refl B wr).alloc hsz _).drew.trans hb1)
            have H3 := Lib.hid (HT.out.step HB1.out r (.slice ad1 (k + 1) cc1) (Nat.le_refl _) (Nat.lt_succ_self _))
            have H4 : Hid (Below w.heap.size w (w1.setCell ⟨w.heap.size, r, none⟩ (.slice ad1 (k + 1) cc1))) := Lib.hid ((HBB.out.trans (HB1.out.mono (by omega))).setCell (p := ⟨w.heap.size, r, none⟩) (Nat.le_refl _) _)
            have H5 := Lib.hid (World.cell?_setCell_same w1 ⟨w.heap.size, r, none⟩ (.slice ad1 (k + 1) cc1) hcc)
            have H6 := Lib.hid (hown1.far (p := ⟨w.heap.size, r, none⟩) hgw (.slice ad1 (k + 1) cc1))
            clear hown1 hb1 hcc hff HB1
            go_wp2
            go_roundw
            case rel => exact ⟨k + 1, ad1, cc1, by omega, by go_num, H3.out, H4.out, H5.out, H6.out⟩
            case measure => simp [intOf]; omega
        · obtain rfl : k = 8 := by omega
          have H2 : Hid (RowsTo w.heap.size 8 F (r + 1) (r + 1) wr.heap.size wr) := Lib.hid (HT.out.next (by omega) (HFL.out r) hcr (by rw [HF.out]; exact HO.out) hgw)
          go_wp2_with fail
          go_roundw
          case rel => exact ⟨r + 1, by omega, by go_num, H2.out, HBB.out⟩
          case measure => simp [intOf]; omega
    · obtain rfl : r = 8 := by omega
      go_wp2
      go_ret
      exact ⟨_, _, rfl, T.mat _ rfl (fun r hr => by rw [HF.out]; exact rowsH_tab r hr) (fun r _ => HFL.out r), hb⟩

end Go.Proofs.Ytchabkkpdafkiaa
