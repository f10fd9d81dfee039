/- This text proves what True, OfCount and Gathered of package tally return, for every rate, count and tally. -/
import Derived.Test.YthdenmbfeanioaaGreatDoorFitting
namespace Go.Proofs.YthdenmbfeanioaaGreatDoor
open Go.RowKit

def okTC (m d c : Int) : Bool := rateB m d && inR 0 200000 c

set_option maxHeartbeats 2000000 in
theorem c_True (m d c : Int) (w : World) :
    Calls Tryz.prog 16 #[.agg #[.int .i64 m, .int .i64 d], .int .i64 c] w fun e w' =>
      e = .returned (if okTC m d c then .tuple #[(fitIv m d c c).v, .int .i64 0] else .tuple #[Iv.none.v, .int .i64 1]) ∧ Below w.heap.size w w' := by
  unfold okTC
  cases h1 : rateB m d
  · go_enter Tryz.func16, Tryz.ntmps16
    go_upto_region 1 with (fail)
    go_name_world W1 hW1
    have hbn : Below w.heap.size w W1 := by subst hW1; go_grown
    have hb0 := hbn
    clear hbn
    have qman : W1.cell? ⟨w.heap.size, 0, none⟩ = some (.int .i64 m) := by subst hW1; go_simp
    have qdan : W1.cell? ⟨w.heap.size, 1, none⟩ = some (.int .i64 d) := by subst hW1; go_simp
    have r0n : W1.cell? ⟨w.heap.size + 1, 0, none⟩ = some (.int .i64 0) := by subst hW1; go_simp
    have fr0n : W1.frozen? ⟨w.heap.size + 1, 0, none⟩ = false := by subst hW1; go_simp
    have r1n : W1.cell? ⟨w.heap.size + 1, 1, none⟩ = some (.int .i64 0) := by subst hW1; go_simp
    have fr1n : W1.frozen? ⟨w.heap.size + 1, 1, none⟩ = false := by subst hW1; go_simp
    have r2n : W1.cell? ⟨w.heap.size + 1, 2, none⟩ = some (.bool false) := by subst hW1; go_simp
    have fr2n : W1.frozen? ⟨w.heap.size + 1, 2, none⟩ = false := by subst hW1; go_simp
    clear hW1 
    have qma := qman
    have qda := qdan
    have r0 := r0n
    have fr0 := fr0n
    have r1 := r1n
    have fr1 := fr1n
    have r2 := r2n
    have fr2 := fr2n
    clear qman qdan r0n r1n r2n fr0n fr1n fr2n
    go_wp2_with fail
    refine (via (w0 := W1) (by go_grown) (c_isRate m d _)).mono ?_
    rw [h1]
    rintro e W2 ⟨rfl, hc, hf, hz, hB⟩
    have qman : W2.cell? ⟨w.heap.size, 0, none⟩ = some (.int .i64 m) := (hc _ _ (cell_lt qma)).trans qma
    clear qma
    have qma := qman
    clear qman
    have qdan : W2.cell? ⟨w.heap.size, 1, none⟩ = some (.int .i64 d) := (hc _ _ (cell_lt qda)).trans qda
    clear qda
    have qda := qdan
    clear qdan
    have fr0n : W2.frozen? ⟨w.heap.size + 1, 0, none⟩ = false := (hf _ _ (cell_lt r0)).trans fr0
    clear fr0
    have fr0 := fr0n
    clear fr0n
    have r0n : W2.cell? ⟨w.heap.size + 1, 0, none⟩ = some (.int .i64 0) := (hc _ _ (cell_lt r0)).trans r0
    clear r0
    have r0 := r0n
    clear r0n
    have fr1n : W2.frozen? ⟨w.heap.size + 1, 1, none⟩ = false := (hf _ _ (cell_lt r1)).trans fr1
    clear fr1
    have fr1 := fr1n
    clear fr1n
    have r1n : W2.cell? ⟨w.heap.size + 1, 1, none⟩ = some (.int .i64 0) := (hc _ _ (cell_lt r1)).trans r1
    clear r1
    have r1 := r1n
    clear r1n
    have fr2n : W2.frozen? ⟨w.heap.size + 1, 2, none⟩ = false := (hf _ _ (cell_lt r2)).trans fr2
    clear fr2
    have fr2 := fr2n
    clear fr2n
    have r2n : W2.cell? ⟨w.heap.size + 1, 2, none⟩ = some (.bool false) := (hc _ _ (cell_lt r2)).trans r2
    clear r2
    have r2 := r2n
    clear r2n
    have hbn : Below w.heap.size w W2 := bthen hb0 hB
    clear hb0
    have hb0 := hbn
    clear hbn
    have hzW2 : W1.heap.size ≤ W2.heap.size := hz
    clear hc hf hB hz
    go_wp2_with fail
    refine bodyPost_ret (v := .tuple #[Iv.none.v, .int .i64 1]) (by simp [results, Tryz.results16, go_sem, r0, r1, r2, Iv.none]) rfl ⟨rfl, by go_grown⟩
  cases h2 : inR 0 200000 c
  · go_enter Tryz.func16, Tryz.ntmps16
    go_upto_region 1 with (fail)
    go_name_world W1 hW1
    have hbn : Below w.heap.size w W1 := by subst hW1; go_grown
    have hb0 := hbn
    clear hbn
    have qman : W1.cell? ⟨w.heap.size, 0, none⟩ = some (.int .i64 m) := by subst hW1; go_simp
    have qdan : W1.cell? ⟨w.heap.size, 1, none⟩ = some (.int .i64 d) := by subst hW1; go_simp
    have r0n : W1.cell? ⟨w.heap.size + 1, 0, none⟩ = some (.int .i64 0) := by subst hW1; go_simp
    have fr0n : W1.frozen? ⟨w.heap.size + 1, 0, none⟩ = false := by subst hW1; go_simp
    have r1n : W1.cell? ⟨w.heap.size + 1, 1, none⟩ = some (.int .i64 0) := by subst hW1; go_simp
    have fr1n : W1.frozen? ⟨w.heap.size + 1, 1, none⟩ = false := by subst hW1; go_simp
    have r2n : W1.cell? ⟨w.heap.size + 1, 2, none⟩ = some (.bool false) := by subst hW1; go_simp
    have fr2n : W1.frozen? ⟨w.heap.size + 1, 2, none⟩ = false := by subst hW1; go_simp
    clear hW1 
    have qma := qman
    have qda := qdan
    have r0 := r0n
    have fr0 := fr0n
    have r1 := r1n
    have fr1 := fr1n
    have r2 := r2n
    have fr2 := fr2n
    clear qman qdan r0n r1n r2n fr0n fr1n fr2n
    go_wp2_with fail
    refine (via (w0 := W1) (by go_grown) (c_isRate m d _)).mono ?_
    rw [h1]
    rintro e W2 ⟨rfl, hc, hf, hz, hB⟩
    have qman : W2.cell? ⟨w.heap.size, 0, none⟩ = some (.int .i64 m) := (hc _ _ (cell_lt qma)).trans qma
    clear qma
    have qma := qman
    clear qman
    have qdan : W2.cell? ⟨w.heap.size, 1, none⟩ = some (.int .i64 d) := (hc _ _ (cell_lt qda)).trans qda
    clear qda
    have qda := qdan
    clear qdan
    have fr0n : W2.frozen? ⟨w.heap.size + 1, 0, none⟩ = false := (hf _ _ (cell_lt r0)).trans fr0
    clear fr0
    have fr0 := fr0n
    clear fr0n
    have r0n : W2.cell? ⟨w.heap.size + 1, 0, none⟩ = some (.int .i64 0) := (hc _ _ (cell_lt r0)).trans r0
    clear r0
    have r0 := r0n
    clear r0n
    have fr1n : W2.frozen? ⟨w.heap.size + 1, 1, none⟩ = false := (hf _ _ (cell_lt r1)).trans fr1
    clear fr1
    have fr1 := fr1n
    clear fr1n
    have r1n : W2.cell? ⟨w.heap.size + 1, 1, none⟩ = some (.int .i64 0) := (hc _ _ (cell_lt r1)).trans r1
    clear r1
    have r1 := r1n
    clear r1n
    have fr2n : W2.frozen? ⟨w.heap.size + 1, 2, none⟩ = false := (hf _ _ (cell_lt r2)).trans fr2
    clear fr2
    have fr2 := fr2n
    clear fr2n
    have r2n : W2.cell? ⟨w.heap.size + 1, 2, none⟩ = some (.bool false) := (hc _ _ (cell_lt r2)).trans r2
    clear r2
    have r2 := r2n
    clear r2n
    have hbn : Below w.heap.size w W2 := bthen hb0 hB
    clear hb0
    have hb0 := hbn
    clear hbn
    have hzW2 : W1.heap.size ≤ W2.heap.size := hz
    clear hc hf hB hz
    go_wp2_with fail
    refine (via (w0 := W2) (by go_grown) (c_in_one 0 200000 c _ _ _ (by go_simp))).mono ?_
    rw [h2]
    rintro e W3 ⟨rfl, hc, hf, hz, hB⟩
    have qman : W3.cell? ⟨w.heap.size, 0, none⟩ = some (.int .i64 m) := (hc _ _ (cell_lt qma)).trans qma
    clear qma
    have qma := qman
    clear qman
    have qdan : W3.cell? ⟨w.heap.size, 1, none⟩ = some (.int .i64 d) := (hc _ _ (cell_lt qda)).trans qda
    clear qda
    have qda := qdan
    clear qdan
    have fr0n : W3.frozen? ⟨w.heap.size + 1, 0, none⟩ = false := (hf _ _ (cell_lt r0)).trans fr0
    clear fr0
    have fr0 := fr0n
    clear fr0n
    have r0n : W3.cell? ⟨w.heap.size + 1, 0, none⟩ = some (.int .i64 0) := (hc _ _ (cell_lt r0)).trans r0
    clear r0
    have r0 := r0n
    clear r0n
    have fr1n : W3.frozen? ⟨w.heap.size + 1, 1, none⟩ = false := (hf _ _ (cell_lt r1)).trans fr1
    clear fr1
    have fr1 := fr1n
    clear fr1n
    have r1n : W3.cell? ⟨w.heap.size + 1, 1, none⟩ = some (.int .i64 0) := (hc _ _ (cell_lt r1)).trans r1
    clear r1
    have r1 := r1n
    clear r1n
    have fr2n : W3.frozen? ⟨w.heap.size + 1, 2, none⟩ = false := (hf _ _ (cell_lt r2)).trans fr2
    clear fr2
    have fr2 := fr2n
    clear fr2n
    have r2n : W3.cell? ⟨w.heap.size + 1, 2, none⟩ = some (.bool false) := (hc _ _ (cell_lt r2)).trans r2
    clear r2
    have r2 := r2n
    clear r2n
    have hbn : Below w.heap.size w W3 := bthen hb0 hB
    clear hb0
    have hb0 := hbn
    clear hbn
    have hzW3 : W2.heap.size ≤ W3.heap.size := hz
    clear hc hf hB hz
    go_wp2_with fail
    refine bodyPost_ret (v := .tuple #[Iv.none.v, .int .i64 1]) (by simp [results, Tryz.results16, go_sem, r0, r1, r2, Iv.none]) rfl ⟨rfl, by go_grown⟩
  have hm := (rateB_iff.1 h1).1
  have hd := (rateB_iff.1 h1).2
  have hn := inR_iff.1 h2
  go_enter Tryz.func16, Tryz.ntmps16
  go_upto_region 1 with (fail)
  go_name_world W1 hW1
  have hbn : Below w.heap.size w W1 := by subst hW1; go_grown
  have hb0 := hbn
  clear hbn
  have qman : W1.cell? ⟨w.heap.size, 0, none⟩ = some (.int .i64 m) := by subst hW1; go_simp
  have qdan : W1.cell? ⟨w.heap.size, 1, none⟩ = some (.int .i64 d) := by subst hW1; go_simp
  have r0n : W1.cell? ⟨w.heap.size + 1, 0, none⟩ = some (.int .i64 0) := by subst hW1; go_simp
  have fr0n : W1.frozen? ⟨w.heap.size + 1, 0, none⟩ = false := by subst hW1; go_simp
  have r1n : W1.cell? ⟨w.heap.size + 1, 1, none⟩ = some (.int .i64 0) := by subst hW1; go_simp
  have fr1n : W1.frozen? ⟨w.heap.size + 1, 1, none⟩ = false := by subst hW1; go_simp
  have r2n : W1.cell? ⟨w.heap.size + 1, 2, none⟩ = some (.bool false) := by subst hW1; go_simp
  have fr2n : W1.frozen? ⟨w.heap.size + 1, 2, none⟩ = false := by subst hW1; go_simp
  clear hW1 
  have qma := qman
  have qda := qdan
  have r0 := r0n
  have fr0 := fr0n
  have r1 := r1n
  have fr1 := fr1n
  have r2 := r2n
  have fr2 := fr2n
  clear qman qdan r0n r1n r2n fr0n fr1n fr2n
  go_wp2_with fail
  refine (via (w0 := W1) (by go_grown) (c_isRate m d _)).mono ?_
  rw [h1]
  rintro e W2 ⟨rfl, hc, hf, hz, hB⟩
  have qman : W2.cell? ⟨w.heap.size, 0, none⟩ = some (.int .i64 m) := (hc _ _ (cell_lt qma)).trans qma
  clear qma
  have qma := qman
  clear qman
  have qdan : W2.cell? ⟨w.heap.size, 1, none⟩ = some (.int .i64 d) := (hc _ _ (cell_lt qda)).trans qda
  clear qda
  have qda := qdan
  clear qdan
  have fr0n : W2.frozen? ⟨w.heap.size + 1, 0, none⟩ = false := (hf _ _ (cell_lt r0)).trans fr0
  clear fr0
  have fr0 := fr0n
  clear fr0n
  have r0n : W2.cell? ⟨w.heap.size + 1, 0, none⟩ = some (.int .i64 0) := (hc _ _ (cell_lt r0)).trans r0
  clear r0
  have r0 := r0n
  clear r0n
  have fr1n : W2.frozen? ⟨w.heap.size + 1, 1, none⟩ = false := (hf _ _ (cell_lt r1)).trans fr1
  clear fr1
  have fr1 := fr1n
  clear fr1n
  have r1n : W2.cell? ⟨w.heap.size + 1, 1, none⟩ = some (.int .i64 0) := (hc _ _ (cell_lt r1)).trans r1
  clear r1
  have r1 := r1n
  clear r1n
  have fr2n : W2.frozen? ⟨w.heap.size + 1, 2, none⟩ = false := (hf _ _ (cell_lt r2)).trans fr2
  clear fr2
  have fr2 := fr2n
  clear fr2n
  have r2n : W2.cell? ⟨w.heap.size + 1, 2, none⟩ = some (.bool false) := (hc _ _ (cell_lt r2)).trans r2
  clear r2
  have r2 := r2n
  clear r2n
  have hbn : Below w.heap.size w W2 := bthen hb0 hB
  clear hb0
  have hb0 := hbn
  clear hbn
  have hzW2 : W1.heap.size ≤ W2.heap.size := hz
  clear hc hf hB hz
  go_wp2_with fail
  refine (via (w0 := W2) (by go_grown) (c_in_one 0 200000 c _ _ _ (by go_simp))).mono ?_
  rw [h2]
  rintro e W3 ⟨rfl, hc, hf, hz, hB⟩
  have qman : W3.cell? ⟨w.heap.size, 0, none⟩ = some (.int .i64 m) := (hc _ _ (cell_lt qma)).trans qma
  clear qma
  have qma := qman
  clear qman
  have qdan : W3.cell? ⟨w.heap.size, 1, none⟩ = some (.int .i64 d) := (hc _ _ (cell_lt qda)).trans qda
  clear qda
  have qda := qdan
  clear qdan
  have fr0n : W3.frozen? ⟨w.heap.size + 1, 0, none⟩ = false := (hf _ _ (cell_lt r0)).trans fr0
  clear fr0
  have fr0 := fr0n
  clear fr0n
  have r0n : W3.cell? ⟨w.heap.size + 1, 0, none⟩ = some (.int .i64 0) := (hc _ _ (cell_lt r0)).trans r0
  clear r0
  have r0 := r0n
  clear r0n
  have fr1n : W3.frozen? ⟨w.heap.size + 1, 1, none⟩ = false := (hf _ _ (cell_lt r1)).trans fr1
  clear fr1
  have fr1 := fr1n
  clear fr1n
  have r1n : W3.cell? ⟨w.heap.size + 1, 1, none⟩ = some (.int .i64 0) := (hc _ _ (cell_lt r1)).trans r1
  clear r1
  have r1 := r1n
  clear r1n
  have fr2n : W3.frozen? ⟨w.heap.size + 1, 2, none⟩ = false := (hf _ _ (cell_lt r2)).trans fr2
  clear fr2
  have fr2 := fr2n
  clear fr2n
  have r2n : W3.cell? ⟨w.heap.size + 1, 2, none⟩ = some (.bool false) := (hc _ _ (cell_lt r2)).trans r2
  clear r2
  have r2 := r2n
  clear r2n
  have hbn : Below w.heap.size w W3 := bthen hb0 hB
  clear hb0
  have hb0 := hbn
  clear hbn
  have hzW3 : W2.heap.size ≤ W3.heap.size := hz
  clear hc hf hB hz
  go_wp2_with fail
  refine (via (w0 := W3) (by go_grown) (c_fitting m d c c _ (by omega) (by omega) (by omega))).mono ?_
  rintro e W4 ⟨rfl, hc, hf, hz, hB⟩
  have qman : W4.cell? ⟨w.heap.size, 0, none⟩ = some (.int .i64 m) := (hc _ _ (cell_lt qma)).trans qma
  clear qma
  have qma := qman
  clear qman
  have qdan : W4.cell? ⟨w.heap.size, 1, none⟩ = some (.int .i64 d) := (hc _ _ (cell_lt qda)).trans qda
  clear qda
  have qda := qdan
  clear qdan
  have fr0n : W4.frozen? ⟨w.heap.size + 1, 0, none⟩ = false := (hf _ _ (cell_lt r0)).trans fr0
  clear fr0
  have fr0 := fr0n
  clear fr0n
  have r0n : W4.cell? ⟨w.heap.size + 1, 0, none⟩ = some (.int .i64 0) := (hc _ _ (cell_lt r0)).trans r0
  clear r0
  have r0 := r0n
  clear r0n
  have fr1n : W4.frozen? ⟨w.heap.size + 1, 1, none⟩ = false := (hf _ _ (cell_lt r1)).trans fr1
  clear fr1
  have fr1 := fr1n
  clear fr1n
  have r1n : W4.cell? ⟨w.heap.size + 1, 1, none⟩ = some (.int .i64 0) := (hc _ _ (cell_lt r1)).trans r1
  clear r1
  have r1 := r1n
  clear r1n
  have fr2n : W4.frozen? ⟨w.heap.size + 1, 2, none⟩ = false := (hf _ _ (cell_lt r2)).trans fr2
  clear fr2
  have fr2 := fr2n
  clear fr2n
  have r2n : W4.cell? ⟨w.heap.size + 1, 2, none⟩ = some (.bool false) := (hc _ _ (cell_lt r2)).trans r2
  clear r2
  have r2 := r2n
  clear r2n
  have hbn : Below w.heap.size w W4 := bthen hb0 hB
  clear hb0
  have hb0 := hbn
  clear hbn
  have hzW4 : W3.heap.size ≤ W4.heap.size := hz
  clear hc hf hB hz
  go_wp2_with fail
  refine bodyPost_ret (v := .tuple #[(fitIv m d c c).v, .int .i64 0]) (by simp [results, Tryz.results16, go_sem, r0, r1, r2]) rfl ⟨rfl, by go_grown⟩

def okTT (m d i da s n wo : Int) : Bool := rateB m d && countB i da s n wo
theorem countB_iff {i da s n wo : Int} : countB i da s n wo = true ↔ (1 ≤ i ∧ i ≤ 1000000) ∧ (0 ≤ da ∧ da ≤ 100000) ∧ (1 ≤ s ∧ s ≤ 40) ∧ (0 ≤ n ∧ n ≤ 100000) ∧ (0 ≤ wo ∧ wo ≤ 10000) := by
  simp [countB, inR_iff, and_assoc]

set_option maxHeartbeats 4000000 in
theorem c_OfCount (m d i da s n wo : Int) (w : World) :
    Calls Tryz.prog 17 #[.agg #[.int .i64 m, .int .i64 d], .agg #[.int .i64 i, .int .i64 da, .int .i64 s, .int .i64 n, .int .i64 wo]] w fun e w' =>
      e = .returned (if okTT m d i da s n wo then .tuple #[(fitIv m d n (n + wo)).v, .int .i64 0] else .tuple #[Iv.none.v, .int .i64 1]) ∧ Below w.heap.size w w' := by
  unfold okTT
  cases h1 : rateB m d
  · go_enter Tryz.func17, Tryz.ntmps17
    go_upto_region 1 with (fail)
    go_name_world W1 hW1
    have hbn : Below w.heap.size w W1 := by subst hW1; go_grown
    have hb0 := hbn
    clear hbn
    have qman : W1.cell? ⟨w.heap.size, 0, none⟩ = some (.int .i64 m) := by subst hW1; go_simp
    have qdan : W1.cell? ⟨w.heap.size, 1, none⟩ = some (.int .i64 d) := by subst hW1; go_simp
    have qcan : W1.cell? ⟨w.heap.size + 1, 0, none⟩ = some (.int .i64 i) := by subst hW1; go_simp
    have qcbn : W1.cell? ⟨w.heap.size + 1, 1, none⟩ = some (.int .i64 da) := by subst hW1; go_simp
    have qcsn : W1.cell? ⟨w.heap.size + 1, 2, none⟩ = some (.int .i64 s) := by subst hW1; go_simp
    have qcnn : W1.cell? ⟨w.heap.size + 1, 3, none⟩ = some (.int .i64 n) := by subst hW1; go_simp
    have qcwn : W1.cell? ⟨w.heap.size + 1, 4, none⟩ = some (.int .i64 wo) := by subst hW1; go_simp
    have r0n : W1.cell? ⟨w.heap.size + 2, 0, none⟩ = some (.int .i64 0) := by subst hW1; go_simp
    have fr0n : W1.frozen? ⟨w.heap.size + 2, 0, none⟩ = false := by subst hW1; go_simp
    have r1n : W1.cell? ⟨w.heap.size + 2, 1, none⟩ = some (.int .i64 0) := by subst hW1; go_simp
    have fr1n : W1.frozen? ⟨w.heap.size + 2, 1, none⟩ = false := by subst hW1; go_simp
    have r2n : W1.cell? ⟨w.heap.size + 2, 2, none⟩ = some (.bool false) := by subst hW1; go_simp
    have fr2n : W1.frozen? ⟨w.heap.size + 2, 2, none⟩ = false := by subst hW1; go_simp
    clear hW1 
    have qma := qman
    have qda := qdan
    have qca := qcan
    have qcb := qcbn
    have qcs := qcsn
    have qcn := qcnn
    have qcw := qcwn
    have r0 := r0n
    have fr0 := fr0n
    have r1 := r1n
    have fr1 := fr1n
    have r2 := r2n
    have fr2 := fr2n
    clear qman qdan qcan qcbn qcsn qcnn qcwn r0n r1n r2n fr0n fr1n fr2n
    go_wp2_with fail
    refine (via (w0 := W1) (by go_grown) (c_isRate m d _)).mono ?_
    rw [h1]
    rintro e W2 ⟨rfl, hc, hf, hz, hB⟩
    have qman : W2.cell? ⟨w.heap.size, 0, none⟩ = some (.int .i64 m) := (hc _ _ (cell_lt qma)).trans qma
    clear qma
    have qma := qman
    clear qman
    have qdan : W2.cell? ⟨w.heap.size, 1, none⟩ = some (.int .i64 d) := (hc _ _ (cell_lt qda)).trans qda
    clear qda
    have qda := qdan
    clear qdan
    have qcan : W2.cell? ⟨w.heap.size + 1, 0, none⟩ = some (.int .i64 i) := (hc _ _ (cell_lt qca)).trans qca
    clear qca
    have qca := qcan
    clear qcan
    have qcbn : W2.cell? ⟨w.heap.size + 1, 1, none⟩ = some (.int .i64 da) := (hc _ _ (cell_lt qcb)).trans qcb
    clear qcb
    have qcb := qcbn
    clear qcbn
    have qcsn : W2.cell? ⟨w.heap.size + 1, 2, none⟩ = some (.int .i64 s) := (hc _ _ (cell_lt qcs)).trans qcs
    clear qcs
    have qcs := qcsn
    clear qcsn
    have qcnn : W2.cell? ⟨w.heap.size + 1, 3, none⟩ = some (.int .i64 n) := (hc _ _ (cell_lt qcn)).trans qcn
    clear qcn
    have qcn := qcnn
    clear qcnn
    have qcwn : W2.cell? ⟨w.heap.size + 1, 4, none⟩ = some (.int .i64 wo) := (hc _ _ (cell_lt qcw)).trans qcw
    clear qcw
    have qcw := qcwn
    clear qcwn
    have fr0n : W2.frozen? ⟨w.heap.size + 2, 0, none⟩ = false := (hf _ _ (cell_lt r0)).trans fr0
    clear fr0
    have fr0 := fr0n
    clear fr0n
    have r0n : W2.cell? ⟨w.heap.size + 2, 0, none⟩ = some (.int .i64 0) := (hc _ _ (cell_lt r0)).trans r0
    clear r0
    have r0 := r0n
    clear r0n
    have fr1n : W2.frozen? ⟨w.heap.size + 2, 1, none⟩ = false := (hf _ _ (cell_lt r1)).trans fr1
    clear fr1
    have fr1 := fr1n
    clear fr1n
    have r1n : W2.cell? ⟨w.heap.size + 2, 1, none⟩ = some (.int .i64 0) := (hc _ _ (cell_lt r1)).trans r1
    clear r1
    have r1 := r1n
    clear r1n
    have fr2n : W2.frozen? ⟨w.heap.size + 2, 2, none⟩ = false := (hf _ _ (cell_lt r2)).trans fr2
    clear fr2
    have fr2 := fr2n
    clear fr2n
    have r2n : W2.cell? ⟨w.heap.size + 2, 2, none⟩ = some (.bool false) := (hc _ _ (cell_lt r2)).trans r2
    clear r2
    have r2 := r2n
    clear r2n
    have hbn : Below w.heap.size w W2 := bthen hb0 hB
    clear hb0
    have hb0 := hbn
    clear hbn
    have hzW2 : W1.heap.size ≤ W2.heap.size := hz
    clear hc hf hB hz
    go_wp2_with fail
    refine bodyPost_ret (v := .tuple #[Iv.none.v, .int .i64 1]) (by simp [results, Tryz.results17, go_sem, r0, r1, r2, Iv.none]) rfl ⟨rfl, by go_grown⟩
  cases h2 : countB i da s n wo
  · go_enter Tryz.func17, Tryz.ntmps17
    go_upto_region 1 with (fail)
    go_name_world W1 hW1
    have hbn : Below w.heap.size w W1 := by subst hW1; go_grown
    have hb0 := hbn
    clear hbn
    have qman : W1.cell? ⟨w.heap.size, 0, none⟩ = some (.int .i64 m) := by subst hW1; go_simp
    have qdan : W1.cell? ⟨w.heap.size, 1, none⟩ = some (.int .i64 d) := by subst hW1; go_simp
    have qcan : W1.cell? ⟨w.heap.size + 1, 0, none⟩ = some (.int .i64 i) := by subst hW1; go_simp
    have qcbn : W1.cell? ⟨w.heap.size + 1, 1, none⟩ = some (.int .i64 da) := by subst hW1; go_simp
    have qcsn : W1.cell? ⟨w.heap.size + 1, 2, none⟩ = some (.int .i64 s) := by subst hW1; go_simp
    have qcnn : W1.cell? ⟨w.heap.size + 1, 3, none⟩ = some (.int .i64 n) := by subst hW1; go_simp
    have qcwn : W1.cell? ⟨w.heap.size + 1, 4, none⟩ = some (.int .i64 wo) := by subst hW1; go_simp
    have r0n : W1.cell? ⟨w.heap.size + 2, 0, none⟩ = some (.int .i64 0) := by subst hW1; go_simp
    have fr0n : W1.frozen? ⟨w.heap.size + 2, 0, none⟩ = false := by subst hW1; go_simp
    have r1n : W1.cell? ⟨w.heap.size + 2, 1, none⟩ = some (.int .i64 0) := by subst hW1; go_simp
    have fr1n : W1.frozen? ⟨w.heap.size + 2, 1, none⟩ = false := by subst hW1; go_simp
    have r2n : W1.cell? ⟨w.heap.size + 2, 2, none⟩ = some (.bool false) := by subst hW1; go_simp
    have fr2n : W1.frozen? ⟨w.heap.size + 2, 2, none⟩ = false := by subst hW1; go_simp
    clear hW1 
    have qma := qman
    have qda := qdan
    have qca := qcan
    have qcb := qcbn
    have qcs := qcsn
    have qcn := qcnn
    have qcw := qcwn
    have r0 := r0n
    have fr0 := fr0n
    have r1 := r1n
    have fr1 := fr1n
    have r2 := r2n
    have fr2 := fr2n
    clear qman qdan qcan qcbn qcsn qcnn qcwn r0n r1n r2n fr0n fr1n fr2n
    go_wp2_with fail
    refine (via (w0 := W1) (by go_grown) (c_isRate m d _)).mono ?_
    rw [h1]
    rintro e W2 ⟨rfl, hc, hf, hz, hB⟩
    have qman : W2.cell? ⟨w.heap.size, 0, none⟩ = some (.int .i64 m) := (hc _ _ (cell_lt qma)).trans qma
    clear qma
    have qma := qman
    clear qman
    have qdan : W2.cell? ⟨w.heap.size, 1, none⟩ = some (.int .i64 d) := (hc _ _ (cell_lt qda)).trans qda
    clear qda
    have qda := qdan
    clear qdan
    have qcan : W2.cell? ⟨w.heap.size + 1, 0, none⟩ = some (.int .i64 i) := (hc _ _ (cell_lt qca)).trans qca
    clear qca
    have qca := qcan
    clear qcan
    have qcbn : W2.cell? ⟨w.heap.size + 1, 1, none⟩ = some (.int .i64 da) := (hc _ _ (cell_lt qcb)).trans qcb
    clear qcb
    have qcb := qcbn
    clear qcbn
    have qcsn : W2.cell? ⟨w.heap.size + 1, 2, none⟩ = some (.int .i64 s) := (hc _ _ (cell_lt qcs)).trans qcs
    clear qcs
    have qcs := qcsn
    clear qcsn
    have qcnn : W2.cell? ⟨w.heap.size + 1, 3, none⟩ = some (.int .i64 n) := (hc _ _ (cell_lt qcn)).trans qcn
    clear qcn
    have qcn := qcnn
    clear qcnn
    have qcwn : W2.cell? ⟨w.heap.size + 1, 4, none⟩ = some (.int .i64 wo) := (hc _ _ (cell_lt qcw)).trans qcw
    clear qcw
    have qcw := qcwn
    clear qcwn
    have fr0n : W2.frozen? ⟨w.heap.size + 2, 0, none⟩ = false := (hf _ _ (cell_lt r0)).trans fr0
    clear fr0
    have fr0 := fr0n
    clear fr0n
    have r0n : W2.cell? ⟨w.heap.size + 2, 0, none⟩ = some (.int .i64 0) := (hc _ _ (cell_lt r0)).trans r0
    clear r0
    have r0 := r0n
    clear r0n
    have fr1n : W2.frozen? ⟨w.heap.size + 2, 1, none⟩ = false := (hf _ _ (cell_lt r1)).trans fr1
    clear fr1
    have fr1 := fr1n
    clear fr1n
    have r1n : W2.cell? ⟨w.heap.size + 2, 1, none⟩ = some (.int .i64 0) := (hc _ _ (cell_lt r1)).trans r1
    clear r1
    have r1 := r1n
    clear r1n
    have fr2n : W2.frozen? ⟨w.heap.size + 2, 2, none⟩ = false := (hf _ _ (cell_lt r2)).trans fr2
    clear fr2
    have fr2 := fr2n
    clear fr2n
    have r2n : W2.cell? ⟨w.heap.size + 2, 2, none⟩ = some (.bool false) := (hc _ _ (cell_lt r2)).trans r2
    clear r2
    have r2 := r2n
    clear r2n
    have hbn : Below w.heap.size w W2 := bthen hb0 hB
    clear hb0
    have hb0 := hbn
    clear hbn
    have hzW2 : W1.heap.size ≤ W2.heap.size := hz
    clear hc hf hB hz
    go_wp2_with fail
    refine (via (w0 := W2) (by go_grown) (c_isCount i da s n wo _)).mono ?_
    rw [h2]
    rintro e W3 ⟨rfl, hc, hf, hz, hB⟩
    have qman : W3.cell? ⟨w.heap.size, 0, none⟩ = some (.int .i64 m) := (hc _ _ (cell_lt qma)).trans qma
    clear qma
    have qma := qman
    clear qman
    have qdan : W3.cell? ⟨w.heap.size, 1, none⟩ = some (.int .i64 d) := (hc _ _ (cell_lt qda)).trans qda
    clear qda
    have qda := qdan
    clear qdan
    have qcan : W3.cell? ⟨w.heap.size + 1, 0, none⟩ = some (.int .i64 i) := (hc _ _ (cell_lt qca)).trans qca
    clear qca
    have qca := qcan
    clear qcan
    have qcbn : W3.cell? ⟨w.heap.size + 1, 1, none⟩ = some (.int .i64 da) := (hc _ _ (cell_lt qcb)).trans qcb
    clear qcb
    have qcb := qcbn
    clear qcbn
    have qcsn : W3.cell? ⟨w.heap.size + 1, 2, none⟩ = some (.int .i64 s) := (hc _ _ (cell_lt qcs)).trans qcs
    clear qcs
    have qcs := qcsn
    clear qcsn
    have qcnn : W3.cell? ⟨w.heap.size + 1, 3, none⟩ = some (.int .i64 n) := (hc _ _ (cell_lt qcn)).trans qcn
    clear qcn
    have qcn := qcnn
    clear qcnn
    have qcwn : W3.cell? ⟨w.heap.size + 1, 4, none⟩ = some (.int .i64 wo) := (hc _ _ (cell_lt qcw)).trans qcw
    clear qcw
    have qcw := qcwn
    clear qcwn
    have fr0n : W3.frozen? ⟨w.heap.size + 2, 0, none⟩ = false := (hf _ _ (cell_lt r0)).trans fr0
    clear fr0
    have fr0 := fr0n
    clear fr0n
    have r0n : W3.cell? ⟨w.heap.size + 2, 0, none⟩ = some (.int .i64 0) := (hc _ _ (cell_lt r0)).trans r0
    clear r0
    have r0 := r0n
    clear r0n
    have fr1n : W3.frozen? ⟨w.heap.size + 2, 1, none⟩ = false := (hf _ _ (cell_lt r1)).trans fr1
    clear fr1
    have fr1 := fr1n
    clear fr1n
    have r1n : W3.cell? ⟨w.heap.size + 2, 1, none⟩ = some (.int .i64 0) := (hc _ _ (cell_lt r1)).trans r1
    clear r1
    have r1 := r1n
    clear r1n
    have fr2n : W3.frozen? ⟨w.heap.size + 2, 2, none⟩ = false := (hf _ _ (cell_lt r2)).trans fr2
    clear fr2
    have fr2 := fr2n
    clear fr2n
    have r2n : W3.cell? ⟨w.heap.size + 2, 2, none⟩ = some (.bool false) := (hc _ _ (cell_lt r2)).trans r2
    clear r2
    have r2 := r2n
    clear r2n
    have hbn : Below w.heap.size w W3 := bthen hb0 hB
    clear hb0
    have hb0 := hbn
    clear hbn
    have hzW3 : W2.heap.size ≤ W3.heap.size := hz
    clear hc hf hB hz
    go_wp2_with fail
    refine bodyPost_ret (v := .tuple #[Iv.none.v, .int .i64 1]) (by simp [results, Tryz.results17, go_sem, r0, r1, r2, Iv.none]) rfl ⟨rfl, by go_grown⟩
  have hm := (rateB_iff.1 h1).1
  have hd := (rateB_iff.1 h1).2
  have hn := countB_iff.1 h2
  go_enter Tryz.func17, Tryz.ntmps17
  go_upto_region 1 with (fail)
  go_name_world W1 hW1
  have hbn : Below w.heap.size w W1 := by subst hW1; go_grown
  have hb0 := hbn
  clear hbn
  have qman : W1.cell? ⟨w.heap.size, 0, none⟩ = some (.int .i64 m) := by subst hW1; go_simp
  have qdan : W1.cell? ⟨w.heap.size, 1, none⟩ = some (.int .i64 d) := by subst hW1; go_simp
  have qcan : W1.cell? ⟨w.heap.size + 1, 0, none⟩ = some (.int .i64 i) := by subst hW1; go_simp
  have qcbn : W1.cell? ⟨w.heap.size + 1, 1, none⟩ = some (.int .i64 da) := by subst hW1; go_simp
  have qcsn : W1.cell? ⟨w.heap.size + 1, 2, none⟩ = some (.int .i64 s) := by subst hW1; go_simp
  have qcnn : W1.cell? ⟨w.heap.size + 1, 3, none⟩ = some (.int .i64 n) := by subst hW1; go_simp
  have qcwn : W1.cell? ⟨w.heap.size + 1, 4, none⟩ = some (.int .i64 wo) := by subst hW1; go_simp
  have r0n : W1.cell? ⟨w.heap.size + 2, 0, none⟩ = some (.int .i64 0) := by subst hW1; go_simp
  have fr0n : W1.frozen? ⟨w.heap.size + 2, 0, none⟩ = false := by subst hW1; go_simp
  have r1n : W1.cell? ⟨w.heap.size + 2, 1, none⟩ = some (.int .i64 0) := by subst hW1; go_simp
  have fr1n : W1.frozen? ⟨w.heap.size + 2, 1, none⟩ = false := by subst hW1; go_simp
  have r2n : W1.cell? ⟨w.heap.size + 2, 2, none⟩ = some (.bool false) := by subst hW1; go_simp
  have fr2n : W1.frozen? ⟨w.heap.size + 2, 2, none⟩ = false := by subst hW1; go_simp
  clear hW1 
  have qma := qman
  have qda := qdan
  have qca := qcan
  have qcb := qcbn
  have qcs := qcsn
  have qcn := qcnn
  have qcw := qcwn
  have r0 := r0n
  have fr0 := fr0n
  have r1 := r1n
  have fr1 := fr1n
  have r2 := r2n
  have fr2 := fr2n
  clear qman qdan qcan qcbn qcsn qcnn qcwn r0n r1n r2n fr0n fr1n fr2n
  go_wp2_with fail
  refine (via (w0 := W1) (by go_grown) (c_isRate m d _)).mono ?_
  rw [h1]
  rintro e W2 ⟨rfl, hc, hf, hz, hB⟩
  have qman : W2.cell? ⟨w.heap.size, 0, none⟩ = some (.int .i64 m) := (hc _ _ (cell_lt qma)).trans qma
  clear qma
  have qma := qman
  clear qman
  have qdan : W2.cell? ⟨w.heap.size, 1, none⟩ = some (.int .i64 d) := (hc _ _ (cell_lt qda)).trans qda
  clear qda
  have qda := qdan
  clear qdan
  have qcan : W2.cell? ⟨w.heap.size + 1, 0, none⟩ = some (.int .i64 i) := (hc _ _ (cell_lt qca)).trans qca
  clear qca
  have qca := qcan
  clear qcan
  have qcbn : W2.cell? ⟨w.heap.size + 1, 1, none⟩ = some (.int .i64 da) := (hc _ _ (cell_lt qcb)).trans qcb
  clear qcb
  have qcb := qcbn
  clear qcbn
  have qcsn : W2.cell? ⟨w.heap.size + 1, 2, none⟩ = some (.int .i64 s) := (hc _ _ (cell_lt qcs)).trans qcs
  clear qcs
  have qcs := qcsn
  clear qcsn
  have qcnn : W2.cell? ⟨w.heap.size + 1, 3, none⟩ = some (.int .i64 n) := (hc _ _ (cell_lt qcn)).trans qcn
  clear qcn
  have qcn := qcnn
  clear qcnn
  have qcwn : W2.cell? ⟨w.heap.size + 1, 4, none⟩ = some (.int .i64 wo) := (hc _ _ (cell_lt qcw)).trans qcw
  clear qcw
  have qcw := qcwn
  clear qcwn
  have fr0n : W2.frozen? ⟨w.heap.size + 2, 0, none⟩ = false := (hf _ _ (cell_lt r0)).trans fr0
  clear fr0
  have fr0 := fr0n
  clear fr0n
  have r0n : W2.cell? ⟨w.heap.size + 2, 0, none⟩ = some (.int .i64 0) := (hc _ _ (cell_lt r0)).trans r0
  clear r0
  have r0 := r0n
  clear r0n
  have fr1n : W2.frozen? ⟨w.heap.size + 2, 1, none⟩ = false := (hf _ _ (cell_lt r1)).trans fr1
  clear fr1
  have fr1 := fr1n
  clear fr1n
  have r1n : W2.cell? ⟨w.heap.size + 2, 1, none⟩ = some (.int .i64 0) := (hc _ _ (cell_lt r1)).trans r1
  clear r1
  have r1 := r1n
  clear r1n
  have fr2n : W2.frozen? ⟨w.heap.size + 2, 2, none⟩ = false := (hf _ _ (cell_lt r2)).trans fr2
  clear fr2
  have fr2 := fr2n
  clear fr2n
  have r2n : W2.cell? ⟨w.heap.size + 2, 2, none⟩ = some (.bool false) := (hc _ _ (cell_lt r2)).trans r2
  clear r2
  have r2 := r2n
  clear r2n
  have hbn : Below w.heap.size w W2 := bthen hb0 hB
  clear hb0
  have hb0 := hbn
  clear hbn
  have hzW2 : W1.heap.size ≤ W2.heap.size := hz
  clear hc hf hB hz
  go_wp2_with fail
  refine (via (w0 := W2) (by go_grown) (c_isCount i da s n wo _)).mono ?_
  rw [h2]
  rintro e W3 ⟨rfl, hc, hf, hz, hB⟩
  have qman : W3.cell? ⟨w.heap.size, 0, none⟩ = some (.int .i64 m) := (hc _ _ (cell_lt qma)).trans qma
  clear qma
  have qma := qman
  clear qman
  have qdan : W3.cell? ⟨w.heap.size, 1, none⟩ = some (.int .i64 d) := (hc _ _ (cell_lt qda)).trans qda
  clear qda
  have qda := qdan
  clear qdan
  have qcan : W3.cell? ⟨w.heap.size + 1, 0, none⟩ = some (.int .i64 i) := (hc _ _ (cell_lt qca)).trans qca
  clear qca
  have qca := qcan
  clear qcan
  have qcbn : W3.cell? ⟨w.heap.size + 1, 1, none⟩ = some (.int .i64 da) := (hc _ _ (cell_lt qcb)).trans qcb
  clear qcb
  have qcb := qcbn
  clear qcbn
  have qcsn : W3.cell? ⟨w.heap.size + 1, 2, none⟩ = some (.int .i64 s) := (hc _ _ (cell_lt qcs)).trans qcs
  clear qcs
  have qcs := qcsn
  clear qcsn
  have qcnn : W3.cell? ⟨w.heap.size + 1, 3, none⟩ = some (.int .i64 n) := (hc _ _ (cell_lt qcn)).trans qcn
  clear qcn
  have qcn := qcnn
  clear qcnn
  have qcwn : W3.cell? ⟨w.heap.size + 1, 4, none⟩ = some (.int .i64 wo) := (hc _ _ (cell_lt qcw)).trans qcw
  clear qcw
  have qcw := qcwn
  clear qcwn
  have fr0n : W3.frozen? ⟨w.heap.size + 2, 0, none⟩ = false := (hf _ _ (cell_lt r0)).trans fr0
  clear fr0
  have fr0 := fr0n
  clear fr0n
  have r0n : W3.cell? ⟨w.heap.size + 2, 0, none⟩ = some (.int .i64 0) := (hc _ _ (cell_lt r0)).trans r0
  clear r0
  have r0 := r0n
  clear r0n
  have fr1n : W3.frozen? ⟨w.heap.size + 2, 1, none⟩ = false := (hf _ _ (cell_lt r1)).trans fr1
  clear fr1
  have fr1 := fr1n
  clear fr1n
  have r1n : W3.cell? ⟨w.heap.size + 2, 1, none⟩ = some (.int .i64 0) := (hc _ _ (cell_lt r1)).trans r1
  clear r1
  have r1 := r1n
  clear r1n
  have fr2n : W3.frozen? ⟨w.heap.size + 2, 2, none⟩ = false := (hf _ _ (cell_lt r2)).trans fr2
  clear fr2
  have fr2 := fr2n
  clear fr2n
  have r2n : W3.cell? ⟨w.heap.size + 2, 2, none⟩ = some (.bool false) := (hc _ _ (cell_lt r2)).trans r2
  clear r2
  have r2 := r2n
  clear r2n
  have hbn : Below w.heap.size w W3 := bthen hb0 hB
  clear hb0
  have hb0 := hbn
  clear hbn
  have hzW3 : W2.heap.size ≤ W3.heap.size := hz
  clear hc hf hB hz
  go_wp2_with fail
  refine (via (w0 := W3) (by go_grown) (c_fitting m d n (n + wo) _ (by omega) (by omega) (by omega))).mono ?_
  rintro e W4 ⟨rfl, hc, hf, hz, hB⟩
  have qman : W4.cell? ⟨w.heap.size, 0, none⟩ = some (.int .i64 m) := (hc _ _ (cell_lt qma)).trans qma
  clear qma
  have qma := qman
  clear qman
  have qdan : W4.cell? ⟨w.heap.size, 1, none⟩ = some (.int .i64 d) := (hc _ _ (cell_lt qda)).trans qda
  clear qda
  have qda := qdan
  clear qdan
  have qcan : W4.cell? ⟨w.heap.size + 1, 0, none⟩ = some (.int .i64 i) := (hc _ _ (cell_lt qca)).trans qca
  clear qca
  have qca := qcan
  clear qcan
  have qcbn : W4.cell? ⟨w.heap.size + 1, 1, none⟩ = some (.int .i64 da) := (hc _ _ (cell_lt qcb)).trans qcb
  clear qcb
  have qcb := qcbn
  clear qcbn
  have qcsn : W4.cell? ⟨w.heap.size + 1, 2, none⟩ = some (.int .i64 s) := (hc _ _ (cell_lt qcs)).trans qcs
  clear qcs
  have qcs := qcsn
  clear qcsn
  have qcnn : W4.cell? ⟨w.heap.size + 1, 3, none⟩ = some (.int .i64 n) := (hc _ _ (cell_lt qcn)).trans qcn
  clear qcn
  have qcn := qcnn
  clear qcnn
  have qcwn : W4.cell? ⟨w.heap.size + 1, 4, none⟩ = some (.int .i64 wo) := (hc _ _ (cell_lt qcw)).trans qcw
  clear qcw
  have qcw := qcwn
  clear qcwn
  have fr0n : W4.frozen? ⟨w.heap.size + 2, 0, none⟩ = false := (hf _ _ (cell_lt r0)).trans fr0
  clear fr0
  have fr0 := fr0n
  clear fr0n
  have r0n : W4.cell? ⟨w.heap.size + 2, 0, none⟩ = some (.int .i64 0) := (hc _ _ (cell_lt r0)).trans r0
  clear r0
  have r0 := r0n
  clear r0n
  have fr1n : W4.frozen? ⟨w.heap.size + 2, 1, none⟩ = false := (hf _ _ (cell_lt r1)).trans fr1
  clear fr1
  have fr1 := fr1n
  clear fr1n
  have r1n : W4.cell? ⟨w.heap.size + 2, 1, none⟩ = some (.int .i64 0) := (hc _ _ (cell_lt r1)).trans r1
  clear r1
  have r1 := r1n
  clear r1n
  have fr2n : W4.frozen? ⟨w.heap.size + 2, 2, none⟩ = false := (hf _ _ (cell_lt r2)).trans fr2
  clear fr2
  have fr2 := fr2n
  clear fr2n
  have r2n : W4.cell? ⟨w.heap.size + 2, 2, none⟩ = some (.bool false) := (hc _ _ (cell_lt r2)).trans r2
  clear r2
  have r2 := r2n
  clear r2n
  have hbn : Below w.heap.size w W4 := bthen hb0 hB
  clear hb0
  have hb0 := hbn
  clear hbn
  have hzW4 : W3.heap.size ≤ W4.heap.size := hz
  clear hc hf hB hz
  go_wp2_with fail
  refine bodyPost_ret (v := .tuple #[(fitIv m d n (n + wo)).v, .int .i64 0]) (by simp [results, Tryz.results17, go_sem, r0, r1, r2]) rfl ⟨rfl, by go_grown⟩

theorem run_field_lo (a b : Int) (c : Bool) (w : World) : (Instr.field 42 (.agg #[.int .i64 a, .int .i64 b, .bool c]) 0).run Tryz.prog w = .ok (.int .i64 a) w := by kernel_rfl
theorem c_fitting_x (m d a b : Int) (w : World) (hm : 0 ≤ m ∧ m ≤ 1000) (hd : 0 ≤ d ∧ d ≤ 1000) (hb : 0 ≤ b ∧ b ≤ 1000000) :
    Calls Tryz.prog 38 #[.agg #[.int .i64 m, .int .i64 d], .int .i64 a, .int .i64 b] w fun e w' => e = .returned (.agg #[.int .i64 (fitIv m d a b).lo, .int .i64 (fitIv m d a b).hi, .bool (fitIv m d a b).some]) ∧ Below w.heap.size w w' :=
  c_fitting m d a b w hm hd hb

end Go.Proofs.YthdenmbfeanioaaGreatDoor
