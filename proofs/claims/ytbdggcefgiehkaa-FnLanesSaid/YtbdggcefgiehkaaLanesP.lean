/- Plain laws on packed lanes. -/
import Derived.Test.YtbdggcefgiehkaaLanes
import Derived.Test.YtbdggcefgiehkaaRecon
import Derived.Test.YtbdggcefgiehkaaDrawL
namespace Go.Proofs.Ytbdggcefgiehkaa
open Go.RowKit
set_option linter.unusedVariables false

theorem packOk_four {l : List Int} (h : packOk l = true) : ∃ x0 x1 x2 x3, l = [x0, x1, x2, x3] ∧ (0 ≤ x0 ∧ x0 ≤ 32767) ∧ (0 ≤ x1 ∧ x1 ≤ 32767) ∧ (0 ≤ x2 ∧ x2 ≤ 32767) ∧ (0 ≤ x3 ∧ x3 ≤ 32767) := by
  have h2 : l.length = 4 ∧ allR 0 32767 l = true := by simpa [packOk] using h
  obtain ⟨x0, x1, x2, x3, rfl⟩ := four_of h2.1
  exact ⟨x0, x1, x2, x3, rfl, allR_at h2.2 (i := 0) (by simp), allR_at h2.2 (i := 1) (by simp), allR_at h2.2 (i := 2) (by simp), allR_at h2.2 (i := 3) (by simp)⟩
theorem packOk_mk {x0 x1 x2 x3 : Int} (h0 : 0 ≤ x0 ∧ x0 ≤ 32767) (h1 : 0 ≤ x1 ∧ x1 ≤ 32767) (h2 : 0 ≤ x2 ∧ x2 ≤ 32767) (h3 : 0 ≤ x3 ∧ x3 ≤ 32767) : packOk [x0, x1, x2, x3] = true := by
  have e0 := inR_mk h0
  have e1 := inR_mk h1
  have e2 := inR_mk h2
  have e3 := inR_mk h3
  simp [packOk, allR, e0, e1, e2, e3]
theorem unpack_lanes {x0 x1 x2 x3 n : Int} (h0 : 0 ≤ x0 ∧ x0 ≤ 32767) (h1 : 0 ≤ x1 ∧ x1 ≤ 32767) (h2 : 0 ≤ x2 ∧ x2 ≤ 32767) (h3 : 0 ≤ x3 ∧ x3 ≤ 32767) (hn : n = ((x3 * 65536 + x2) * 65536 + x1) * 65536 + x0) : unpackF n = [x0, x1, x2, x3] := by
  have e : lanes n = [x0, x1, x2, x3] := by
    rw [lanes_four, lane0, lane1, lane2, lane3]
    have a0 : n % 65536 = x0 := by omega
    have a1 : n / 65536 % 65536 = x1 := by omega
    have a2 : n / 4294967296 % 65536 = x2 := by omega
    have a3 : n / 281474976710656 % 65536 = x3 := by omega
    rw [a0, a1, a2, a3]
  have ha : allR 0 32767 [x0, x1, x2, x3] = true := by
    have := packOk_mk h0 h1 h2 h3
    simpa [packOk] using this
  unfold unpackF
  rw [if_neg (by omega), e, if_pos ha]
theorem unpack_pack {l : List Int} (h : packOk l = true) : unpackF (packF l) = l := by
  have e : packF l = packV l := by simp [packF, h]
  obtain ⟨x0, x1, x2, x3, rfl, h0, h1, h2, h3⟩ := packOk_four h
  rw [e]
  exact unpack_lanes h0 h1 h2 h3 (packV_four _ _ _ _)
theorem unpack_val {n : Int} (hn : n ≤ 9223372036854775807) (h : unpackF n ≠ []) : ∃ x0 x1 x2 x3, unpackF n = [x0, x1, x2, x3] ∧ (0 ≤ x0 ∧ x0 ≤ 32767) ∧ (0 ≤ x1 ∧ x1 ≤ 32767) ∧ (0 ≤ x2 ∧ x2 ≤ 32767) ∧ (0 ≤ x3 ∧ x3 ≤ 32767) ∧ n = ((x3 * 65536 + x2) * 65536 + x1) * 65536 + x0 := by
  unfold unpackF at h ⊢
  by_cases h0 : n < 0
  · rw [if_pos h0] at h; exact absurd rfl h
  · rw [if_neg h0] at h ⊢
    by_cases ha : allR 0 32767 (lanes n) = true
    · rw [if_pos ha]
      rw [lanes_four] at ha ⊢
      have b0 : 0 ≤ laneF n 0 ∧ laneF n 0 ≤ 32767 := allR_at ha (i := 0) (by simp)
      have b1 : 0 ≤ laneF n 1 ∧ laneF n 1 ≤ 32767 := allR_at ha (i := 1) (by simp)
      have b2 : 0 ≤ laneF n 2 ∧ laneF n 2 ≤ 32767 := allR_at ha (i := 2) (by simp)
      have b3 : 0 ≤ laneF n 3 ∧ laneF n 3 ≤ 32767 := allR_at ha (i := 3) (by simp)
      refine ⟨_, _, _, _, rfl, b0, b1, b2, b3, ?_⟩
      rw [lane0, lane1, lane2, lane3]
      omega
    · rw [if_neg ha] at h; exact absurd rfl h
theorem tab_four (f : Nat → Int) : tab f 4 = [f 0, f 1, f 2, f 3] := rfl
theorem add_val {a b : Int} (ha : a ≤ 9223372036854775807) (hb : b ≤ 9223372036854775807) (h : addOk a b = true) : addV a b = a + b ∧ unpackF (addV a b) = addL a b ∧ (unpackF a).length = 4 ∧ (unpackF b).length = 4 := by
  have h2 : unpackF a ≠ [] ∧ unpackF b ≠ [] ∧ packOk (addL a b) = true := by simpa [addOk] using h
  have e : addV a b = packF (addL a b) := by unfold addV; rw [if_pos (by simp [h2.1, h2.2.1])]
  have hu := unpack_pack h2.2.2
  have e2 : packF (addL a b) = packV (addL a b) := by simp [packF, h2.2.2]
  obtain ⟨x0, x1, x2, x3, ex, _, _, _, _, hx⟩ := unpack_val ha h2.1
  obtain ⟨y0, y1, y2, y3, ey, _, _, _, _, hy⟩ := unpack_val hb h2.2.1
  refine ⟨?_, by rw [e]; exact hu, by rw [ex]; rfl, by rw [ey]; rfl⟩
  have eL : addL a b = [x0 + y0, x1 + y1, x2 + y2, x3 + y3] := by unfold addL; rw [tab_four, ex, ey]; rfl
  rw [e, e2, eL, packV_four, hx, hy]
  omega
theorem clipL_ok {n : Int} (h : (unpackF n).length = 4) : packOk (clipLanesL n) = true := by
  unfold clipLanesL
  rw [h, tab_four]
  refine packOk_mk ?_ ?_ ?_ ?_ <;> (have := clipF_bd 0 255 ((unpackF n).getD 0 0 - 1024) (by omega); have := clipF_bd 0 255 ((unpackF n).getD 1 0 - 1024) (by omega); have := clipF_bd 0 255 ((unpackF n).getD 2 0 - 1024) (by omega); have := clipF_bd 0 255 ((unpackF n).getD 3 0 - 1024) (by omega); omega)
theorem clip_val {n : Int} (h : (unpackF n).length = 4) : unpackF (clipLanesF n) = tab (fun i => clipF 0 255 ((unpackF n).getD i 0 - 1024)) 4 := by
  unfold clipLanesF
  rw [unpack_pack (clipL_ok h), clipLanesL, h]
def biasL (r : List Int) : List Int := tab (fun i => 1024 + clipF (-1023) 1023 (r.getD i 0)) 4
theorem clipped {p r : List Int} (h : cadOk p r = true) : addOk (packF p) (packF (biasL r)) = true ∧ unpackF (clipLanesF (addV (packF p) (packF (biasL r)))) = cadF p r := by
  have h2 : p.length = 4 ∧ r.length = 4 ∧ allR 0 255 p = true := by simpa [cadOk] using h
  have ec : cadF p r = tab (cadAt p r) 4 := by simp [cadF, h]
  obtain ⟨x0, x1, x2, x3, rfl⟩ := four_of h2.1
  have b0 : 0 ≤ x0 ∧ x0 ≤ 255 := allR_at h2.2.2 (i := 0) (by simp)
  have b1 : 0 ≤ x1 ∧ x1 ≤ 255 := allR_at h2.2.2 (i := 1) (by simp)
  have b2 : 0 ≤ x2 ∧ x2 ≤ 255 := allR_at h2.2.2 (i := 2) (by simp)
  have b3 : 0 ≤ x3 ∧ x3 ≤ 255 := allR_at h2.2.2 (i := 3) (by simp)
  have c0 := clipF_bd (-1023) 1023 (r.getD 0 0) (by omega)
  have c1 := clipF_bd (-1023) 1023 (r.getD 1 0) (by omega)
  have c2 := clipF_bd (-1023) 1023 (r.getD 2 0) (by omega)
  have c3 := clipF_bd (-1023) 1023 (r.getD 3 0) (by omega)
  have eb : biasL r = [1024 + clipF (-1023) 1023 (r.getD 0 0), 1024 + clipF (-1023) 1023 (r.getD 1 0), 1024 + clipF (-1023) 1023 (r.getD 2 0), 1024 + clipF (-1023) 1023 (r.getD 3 0)] := rfl
  have ee : tab (cadAt [x0, x1, x2, x3] r) 4 = [clipF 0 255 (x0 + clipF (-1023) 1023 (r.getD 0 0)), clipF 0 255 (x1 + clipF (-1023) 1023 (r.getD 1 0)), clipF 0 255 (x2 + clipF (-1023) 1023 (r.getD 2 0)), clipF 0 255 (x3 + clipF (-1023) 1023 (r.getD 3 0))] := rfl
  rw [ec, ee]
  generalize clipF (-1023) 1023 (r.getD 0 0) = y0 at *
  generalize clipF (-1023) 1023 (r.getD 1 0) = y1 at *
  generalize clipF (-1023) 1023 (r.getD 2 0) = y2 at *
  generalize clipF (-1023) 1023 (r.getD 3 0) = y3 at *
  have pk1 : packOk [x0, x1, x2, x3] = true := packOk_mk (by omega) (by omega) (by omega) (by omega)
  have pk2 : packOk (biasL r) = true := by rw [eb]; exact packOk_mk (by omega) (by omega) (by omega) (by omega)
  have u1 := unpack_pack pk1
  have u2 := unpack_pack pk2
  have eL : addL (packF [x0, x1, x2, x3]) (packF (biasL r)) = [x0 + (1024 + y0), x1 + (1024 + y1), x2 + (1024 + y2), x3 + (1024 + y3)] := by unfold addL; rw [tab_four, u1, u2, eb]; rfl
  have pk3 : packOk (addL (packF [x0, x1, x2, x3]) (packF (biasL r))) = true := by rw [eL]; exact packOk_mk (by omega) (by omega) (by omega) (by omega)
  have hok : addOk (packF [x0, x1, x2, x3]) (packF (biasL r)) = true := by
    unfold addOk
    rw [u1, u2, pk3, eb]
    simp
  refine ⟨hok, ?_⟩
  obtain ⟨_, hu, _, _⟩ := add_val (packF_bd _).2 (packF_bd _).2 hok
  have hl : (unpackF (addV (packF [x0, x1, x2, x3]) (packF (biasL r)))).length = 4 := by rw [hu, eL]; rfl
  rw [clip_val hl, hu, eL, tab_four]
  show [clipF 0 255 (x0 + (1024 + y0) - 1024), clipF 0 255 (x1 + (1024 + y1) - 1024), clipF 0 255 (x2 + (1024 + y2) - 1024), clipF 0 255 (x3 + (1024 + y3) - 1024)] = _
  have q0 : x0 + (1024 + y0) - 1024 = x0 + y0 := by omega
  have q1 : x1 + (1024 + y1) - 1024 = x1 + y1 := by omega
  have q2 : x2 + (1024 + y2) - 1024 = x2 + y2 := by omega
  have q3 : x3 + (1024 + y3) - 1024 = x3 + y3 := by omega
  rw [q0, q1, q2, q3]
theorem addV_bd (a b : Int) : 0 ≤ addV a b ∧ addV a b ≤ 9223372036854775807 := by
  unfold addV
  split
  · exact packF_bd _
  · omega
end Go.Proofs.Ytbdggcefgiehkaa
