/- Contracts: the matrices as the program builds them, and a matrix turned over. -/
import Derived.Test.YtchabkkpdafkiaaMatP
import Derived.Deep.RegionLaw
import Derived.Laws.AppendOwnNone
namespace Go.Proofs.Ytchabkkpdafkiaa
open Go.RowKit
set_option linter.unusedVariables false

theorem bfrozen {B : Nat} {W w1 : World} (hb : Below B W w1) : ∀ b o, b < B → w1.frozen? ⟨b, o, none⟩ = W.frozen? ⟨b, o, none⟩ := fun b o h => hb.frozen (p := ⟨b, o, none⟩) h
theorem Own.far {B : Nat} {w : World} {a : Option Addr} {c : Nat} {l : List Int} (h : Own B w a c l) {p : Addr} (hp : p.block < B) (u : Value) : Own B (w.setCell p u) a c l := ownsRow_setCell_below h hp u
/-- block g holds r finished rows in blocks under B, and nothing from row s on -/
def RowsTo (g n : Nat) (F : Nat → List Int) (r s B : Nat) (wr : World) : Prop :=
  g < B ∧ B ≤ wr.heap.size ∧ (∀ i, wr.frozen? ⟨g, i, none⟩ = false) ∧
  (∀ j, j < r → ∃ b c, b < B ∧ b ≠ g ∧ wr.cell? ⟨g, j, none⟩ = some (.slice (some ⟨b, 0, none⟩) n c) ∧ Row wr (some ⟨b, 0, none⟩) (F j)) ∧
  (∀ j, s ≤ j → j < n → wr.cell? ⟨g, j, none⟩ = some (.slice none 0 0))
theorem RowsTo.step {g n r s B : Nat} {F : Nat → List Int} {wr w1 : World} (h : RowsTo g n F r s B wr) (hb : Below B wr w1) (k : Nat) (v : Value) (hk : r ≤ k) (hk2 : k < s) : RowsTo g n F r s B (w1.setCell ⟨g, k, none⟩ v) := by
  obtain ⟨h1, h2, h3, h4, h5⟩ := h
  refine ⟨h1, by simpa using Nat.le_trans h2 hb.size, fun i => ?_, fun j hj => ?_, fun j hj hn => ?_⟩
  · have := h3 i
    simp only [World.frozen?_setCell]
    exact (bfrozen hb _ _ h1).trans this
  · obtain ⟨b, c, e1, e2, e3, e4⟩ := h4 j hj
    refine ⟨b, c, e1, e2, ?_, ?_⟩
    · rw [World.cell?_setCell_other _ _ _ _ (by intro e; injection e; omega)]
      exact (bcell hb _ _ h1).trans e3
    · have e5 : Row w1 (some ⟨b, 0, none⟩) (F j) := e4.under hb (fun p hp => by cases hp; exact e1)
      refine e5.keep fun p hp _ => ?_
      have : p.block = b := by injection hp
      rw [World.cell?_setCell_other]
      intro e
      rw [← e] at this
      exact e2 this.symm
  · rw [World.cell?_setCell_other _ _ _ _ (by intro e; injection e; omega)]
    exact (bcell hb _ _ h1).trans (h5 j hj hn)
theorem RowsTo.next {g n r B B' : Nat} {F : Nat → List Int} {wr : World} (h : RowsTo g n F r (r + 1) B wr) {ad : Option Addr} {c : Nat} (hn : 0 < n) (hF : (F r).length = n) (hc : wr.cell? ⟨g, r, none⟩ = some (.slice ad n c)) (ho : Own B' wr ad c (F r)) (hB : g < B') : RowsTo g n F (r + 1) (r + 1) wr.heap.size wr := by
  obtain ⟨h1, h2, h3, h4, h5⟩ := h
  refine ⟨Nat.lt_of_lt_of_le h1 h2, Nat.le_refl _, h3, fun j hj => ?_, h5⟩
  by_cases e : j = r
  · subst e
    obtain ⟨b, rfl, hb1, hb2, _⟩ := ho.at_ (i := 0) (by omega)
    exact ⟨b, c, hb2, by omega, hc, ho.row⟩
  · obtain ⟨b, c, e1, e2, e3, e4⟩ := h4 j (by omega)
    exact ⟨b, c, by omega, e2, e3, e4⟩
theorem RowsTo.loose {g n r B : Nat} {F : Nat → List Int} {wr : World} (h : RowsTo g n F r r B wr) : RowsTo g n F r (r + 1) B wr := ⟨h.1, h.2.1, h.2.2.1, h.2.2.2.1, fun j hj hn => h.2.2.2.2 j (by omega) hn⟩
theorem RowsTo.mat {g n B s : Nat} {F : Nat → List Int} {wr : World} (R : List (List Int)) (h : RowsTo g n F n s B wr) (hR : R.length = n) (hF : ∀ r, r < n → R.getD r [] = F r) (hl : ∀ r, r < n → (F r).length = n) : MatAt wr g R := by
  refine ⟨Nat.lt_of_lt_of_le h.1 h.2.1, fun r hr => ?_⟩
  obtain ⟨b, c, _, _, e3, e4⟩ := h.2.2.2.1 r (by omega)
  rw [hF r (by omega), hl r (by omega)]
  exact ⟨_, c, e3, e4⟩

theorem cell_lit {W : World} {cs : Array Value} {t : TypeId} {n : Nat} (i : Nat) (hn : n = W.heap.size) : (W.alloc (.cells cs t)).cell? ⟨n, i, none⟩ = cs[i]? := by subst hn; simp
theorem Row.lit {W : World} {cs : Array Value} {n : Nat} (l : List Int) (hn : n = W.heap.size) (hcs : cs.toList = l.map (Value.int .i64)) (hm : l.length ≤ 1024) : Row (W.alloc (.cells cs 3)) (some ⟨n, 0, none⟩) l := by
  subst hn
  exact (Own.lit (B := 0) W cs l hcs (Nat.zero_le _) (by unfold maxLen; omega)).row

set_option maxHeartbeats 1000000 in
theorem impl.matrixA_c (w : World) : Calls Try.prog 35 #[] w fun e w' => ∃ p c, e = .returned (.slice (some ⟨p, 0, none⟩) 4 c) ∧ MatAt w' p rowsA0 ∧ Below w.heap.size w w' := by
  go_enter Try.func35, Try.ntmps35
  go_wp2
  go_ret
  refine ⟨_, _, rfl, ⟨by simp, fun r hr => ?_⟩, ?_⟩
  · have hr4 : r = 0 ∨ r = 1 ∨ r = 2 ∨ r = 3 := by have : r < 4 := hr; omega
    rcases hr4 with rfl | rfl | rfl | rfl
    · exact ⟨some ⟨w.heap.size, 0, none⟩, 4, (cell_lit 0 (by simp)).trans rfl, ((((Row.lit [1, 1, 1, 1] rfl rfl (by decide)).alloc _).alloc _).alloc _).alloc _⟩
    · exact ⟨some ⟨w.heap.size + 1, 0, none⟩, 4, (cell_lit 1 (by simp)).trans rfl, (((Row.lit [2, 1, -1, -2] (by simp) rfl (by decide)).alloc _).alloc _).alloc _⟩
    · exact ⟨some ⟨w.heap.size + 1 + 1, 0, none⟩, 4, (cell_lit 2 (by simp)).trans rfl, ((Row.lit [1, -1, -1, 1] (by simp) rfl (by decide)).alloc _).alloc _⟩
    · exact ⟨some ⟨w.heap.size + 1 + 1 + 1, 0, none⟩, 4, (cell_lit 3 (by simp)).trans rfl, (Row.lit [1, -2, 2, -1] (by simp) rfl (by decide)).alloc _⟩
  · exact (((((Below.refl w.heap.size w).alloc (Nat.le_refl _) _).alloc (by simp) _).alloc (by simp; omega) _).alloc (by simp; omega) _).alloc (by simp; omega) _



set_option maxRecDepth 100000 in
set_option maxHeartbeats 2000000 in
theorem impl.turned_c (R : List (List Int)) (p c : Nat) (w : World) (hR : R.length = 4) (hrow : ∀ r, r < R.length → (R.getD r []).length = 4) (hM : MatAt w p R) :
    Calls Try.prog 34 #[.slice (some ⟨p, 0, none⟩) 4 c] w fun e w' => ∃ p2 c2, e = .returned (.slice (some ⟨p2, 0, none⟩) 4 c2) ∧ MatAt w' p2 ((List.range 4).map fun r => tab (fun k => ent R k r) 4) ∧ Below w.heap.size w w' := by
  have hmk : ∀ w : World, (Instr.makeSlice 33 (.int .i64 4) (.int .i64 4)).run Try.prog w = .ok (.slice (some ⟨w.heap.size, 0, none⟩) 4 4) (w.alloc (.cells #[.slice none 0 0, .slice none 0 0, .slice none 0 0, .slice none 0 0] 22)) := fun _ => by kernel_rfl
  have HMG : Hid (∀ r i, r < 4 → i < 4 → ∃ b o c, w.cell? ⟨p, r, none⟩ = some (.slice (some ⟨b, o, none⟩) 4 c) ∧ b < w.heap.size ∧ w.cell? ⟨b, o + i, none⟩ = some (.int .i64 (ent R r i))) := Lib.hid (fun r i h1 h2 => hM.get hrow r i (by omega) h2)
  have hpw := hM.1
  obtain ⟨F, hF⟩ : ∃ F : Nat → List Int, F = fun r => tab (fun k => ent R k r) 4 := ⟨_, rfl⟩
  have HFL : Hid (∀ r, (F r).length = 4) := Lib.hid (fun r => by rw [hF]; exact tab_len _ _)
  have HF := Lib.hid hF
  clear hM hrow hF
  go_enter Try.func34, Try.ntmps34
  go_wp2
  clear hmk
  go_loopw [11] (fun i wr => ∃ r : Nat, r ≤ 4 ∧ i = .int .i64 r ∧ RowsTo w.heap.size 4 F r r wr.heap.size wr ∧ Below w.heap.size w wr) (fun i _ => 4 - (intOf i).toNat)
  case atStart =>
    refine ⟨0, Nat.zero_le _, rfl, ⟨by simp, Nat.le_refl _, fun i => by simp [go_sem], fun j hj => by omega, fun j _ hj => ?_⟩, (Below.refl _ _).alloc (Nat.le_refl _) _⟩
    have hj4 : j = 0 ∨ j = 1 ∨ j = 2 ∨ j = 3 := by omega
    rcases hj4 with rfl | rfl | rfl | rfl <;> simp
  case round =>
    obtain ⟨r, hr, rfl, T, hb⟩ := hrel
    by_cases hlt : r < 4
    · have hltd : decide ((r : Int) < 4) = true := by simp; omega
      have hcr := T.2.2.2.2 r (Nat.le_refl _) hlt
      have HT := Lib.hid T.loose
      have HBB := Lib.hid hb
      have hgw := T.1
      obtain ⟨B, hB⟩ : ∃ B, B = wr.heap.size := ⟨_, rfl⟩
      rw [← hB] at HT hgw
      have HBZ : Hid (B ≤ wr.heap.size) := Lib.hid (by omega)
      clear T hb hB
      go_wp2_with fail
      obtain ⟨wz, hwz⟩ : ∃ wz : World, wz = wr := ⟨_, rfl⟩
      rw [← hwz] at HT HBB HBZ hcr ⊢
      clear hwz
      go_loopw [16] (fun i wr => ∃ (k : Nat) (ad : Option Addr) (cc : Nat), k ≤ 4 ∧ i = .int .i64 k ∧ RowsTo w.heap.size 4 F r (r + 1) B wr ∧ Below w.heap.size w wr ∧ wr.cell? ⟨w.heap.size, r, none⟩ = some (.slice ad k cc) ∧ Own B wr ad cc (tab (fun k => ent R k r) k)) (fun i _ => 4 - (intOf i).toNat)
      case atStart => exact ⟨0, none, 0, Nat.zero_le _, rfl, HT.out, HBB.out, hcr, Own.none_ _ _⟩
      case round =>
        clear HT HBB HBZ hcr
        obtain ⟨k, ad, cc, hk, rfl, T, hb, hcr, ho⟩ := hrel
        have HT := Lib.hid T
        have HBB := Lib.hid hb
        have HO := Lib.hid ho
        have hsz := T.2.1
        have hfz := T.2.2.1 r
        have hbb := hb
        clear T ho hb
        by_cases hlt2 : k < 4
        · have hltd2 : decide ((k : Int) < 4) = true := by simp; omega
          obtain ⟨mb, mo, mc, m1, m2, m3⟩ := HMG.out k r hlt2 hlt
          have m1' := (bcell hbb p k hpw).trans m1
          have m3' := (bcell hbb mb (mo + r) m2).trans m3
          have hmB : mb < B := by omega
          have hpB : p < B := by omega
          obtain ⟨x, hx⟩ : ∃ x, x = ent R k r := ⟨_, rfl⟩
          rw [← hx] at m3'
          have HX := Lib.hid hx
          have z3 : (k : Int) < 4 := by omega
          have z4 : (r : Int) < 4 := by omega
          have hcr2 : (wr.alloc (.cells #[.int .i64 x] 3)).drew.cell? ⟨w.heap.size, r, none⟩ = some (.slice ad k cc) := (bcell ((Below.refl wr.heap.size wr).alloc (Nat.le_refl _) _).drew _ _ (by omega)).trans hcr
          have hpw2 : p < w.heap.size := hpw
          clear hbb m1 m3 hx
          go_wp2_with fail
          go_region_law
            (first
              | (refine step_append_one Try.underlying22 Try.infoInt rfl (.tmp 24) (.tmp 32) rfl B ad cc k (tab (fun k => ent R k r) k) (tab_len _ _) rfl ((HO.out.alloc _).drew) wr.heap.size x rfl ?_ ?_ ?_ ?_
                 · simp
                 · omega
                 · simp; omega
                 intro ad1 cc1 w1 hown1 hb1
                 have hcc : w1.cell? ⟨w.heap.size, r, none⟩ = some (.slice ad k cc) := (bcell hb1 _ _ hgw).trans ((bcell ((Below.refl wr.heap.size wr).alloc (Nat.le_refl _) _).drew _ _ (by omega)).trans hcr)
                 have hc1 : w1.cell? ⟨p, k, none⟩ = some (.slice (some ⟨mb, mo, none⟩) 4 mc) := (bcell hb1 _ _ hpB).trans ((bcell ((Below.refl wr.heap.size wr).alloc (Nat.le_refl _) _).drew _ _ (by omega)).trans m1')
                 have hc2 : w1.cell? ⟨mb, mo + r, none⟩ = some (.int .i64 x) := (bcell hb1 _ _ hmB).trans ((bcell ((Below.refl wr.heap.size wr).alloc (Nat.le_refl _) _).drew _ _ (by omega)).trans m3')
                 have hff : w1.frozen? ⟨w.heap.size, r, none⟩ = false := (bfrozen hb1 _ _ hgw).trans ((bfrozen ((Below.refl wr.heap.size wr).alloc (Nat.le_refl _) _).drew _ _ (by omega)).trans hfz)))
          all_goals
            rw [HX.out, ← tab_succ] at hown1
            have HB1 : Hid (Below B wr w1) := Lib.hid (((Below.refl B wr).alloc hsz _).drew.trans hb1)
            have H3 := Lib.hid (HT.out.step HB1.out r (.slice ad1 (k + 1) cc1) (Nat.le_refl _) (Nat.lt_succ_self _))
            have H4 : Hid (Below w.heap.size w (w1.setCell ⟨w.heap.size, r, none⟩ (.slice ad1 (k + 1) cc1))) := Lib.hid ((HBB.out.trans (HB1.out.mono (by omega))).setCell (p := ⟨w.heap.size, r, none⟩) (Nat.le_refl _) _)
            have H5 := Lib.hid (World.cell?_setCell_same w1 ⟨w.heap.size, r, none⟩ (.slice ad1 (k + 1) cc1) hcc)
            have H6 := Lib.hid (hown1.far (p := ⟨w.heap.size, r, none⟩) hgw (.slice ad1 (k + 1) cc1))
            clear hown1 hb1 hcc hc1 hc2 hff HB1
            go_wp2
            go_roundw
            case rel => exact ⟨k + 1, ad1, cc1, by omega, by go_num, H3.out, H4.out, H5.out, H6.out⟩
            case measure => simp [intOf]; omega
        · obtain rfl : k = 4 := by omega
          have H2 : Hid (RowsTo w.heap.size 4 F (r + 1) (r + 1) wr.heap.size wr) := Lib.hid (HT.out.next (by omega) (HFL.out r) hcr (by rw [HF.out]; exact HO.out) hgw)
          go_wp2_with fail
          go_roundw
          case rel => exact ⟨r + 1, by omega, by go_num, H2.out, HBB.out⟩
          case measure => simp [intOf]; omega
    · obtain rfl : r = 4 := by omega
      go_wp2
      go_ret
      exact ⟨_, _, rfl, T.mat _ (by simp) (fun r hr => by rw [HF.out]; simp [List.getD, hr]) (fun r _ => HFL.out r), hb⟩

end Go.Proofs.Ytchabkkpdafkiaa
