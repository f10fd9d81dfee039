/- This text proves what Narrower returns, of package tally and of its reference, for every two rates. -/
import Derived.Test.YtokpjaodchcheaaRefChecks
import Derived.Test.YtokpjaodchcheaaSides
namespace Go.Proofs.Ytokpjaodchcheaa
open Go.RowKit

def narrowB (a b c d : Int) : Bool := rateB a b && rateB c d && decide (a ≤ c) && decide (b ≤ d)

set_option maxHeartbeats 2000000 in
theorem c_Narrower (a b c d : Int) (w : World) : Calls Try.prog 21 #[.agg #[.int .i64 a, .int .i64 b], .agg #[.int .i64 c, .int .i64 d]] w fun e w' => e = .returned (.bool (narrowB a b c d)) ∧ Below w.heap.size w w' := by
  have h1 := fun W => c_isRate a b W
  have h2 := fun W => c_isRate c d W
  cases g1 : rateB a b
  · have e : narrowB a b c d = false := by simp [narrowB, g1]
    rw [e]
    rw [g1] at h1
    have H1 := Lib.hid h1
    have H2 := Lib.hid h2
    clear h1 h2 e
    go_enter Try.func21, Try.ntmps21
    go_upto_region 1 with (fail)
    go_name_world W1 hW1
    have hbn : Below w.heap.size w W1 := by subst hW1; go_grown
    have hb0 := hbn
    clear hbn
    have p0n : W1.cell? ⟨w.heap.size, 0, none⟩ = some (.int .i64 a) := by subst hW1; go_simp
    have p1n : W1.cell? ⟨w.heap.size, 1, none⟩ = some (.int .i64 b) := by subst hW1; go_simp
    have q0n : W1.cell? ⟨w.heap.size + 1, 0, none⟩ = some (.int .i64 c) := by subst hW1; go_simp
    have q1n : W1.cell? ⟨w.heap.size + 1, 1, none⟩ = some (.int .i64 d) := by subst hW1; go_simp
    clear hW1 
    have p0 := p0n
    have p1 := p1n
    have q0 := q0n
    have q1 := q1n
    clear p0n p1n q0n q1n 
    go_wp2_with fail
    refine (via (w0 := W1) (by go_grown) (H1.out _)).mono ?_
    rintro e W2 ⟨rfl, hc, hf, hz, hB⟩
    have p0n : W2.cell? ⟨w.heap.size, 0, none⟩ = some (.int .i64 a) := (hc _ _ (cell_lt p0)).trans p0
    clear p0
    have p0 := p0n
    clear p0n
    have p1n : W2.cell? ⟨w.heap.size, 1, none⟩ = some (.int .i64 b) := (hc _ _ (cell_lt p1)).trans p1
    clear p1
    have p1 := p1n
    clear p1n
    have q0n : W2.cell? ⟨w.heap.size + 1, 0, none⟩ = some (.int .i64 c) := (hc _ _ (cell_lt q0)).trans q0
    clear q0
    have q0 := q0n
    clear q0n
    have q1n : W2.cell? ⟨w.heap.size + 1, 1, none⟩ = some (.int .i64 d) := (hc _ _ (cell_lt q1)).trans q1
    clear q1
    have q1 := q1n
    clear q1n
    have hbn : Below w.heap.size w W2 := bthen hb0 hB
    clear hb0
    have hb0 := hbn
    clear hbn
    have hzW2 : W1.heap.size ≤ W2.heap.size := hz
    clear hc hf hB hz
    go_wp2_with fail
    go_ret
    exact ⟨rfl, by have hbz := hb0.size; go_grown⟩
  cases g2 : rateB c d
  · have e : narrowB a b c d = false := by simp [narrowB, g1, g2]
    rw [e]
    rw [g1] at h1
    rw [g2] at h2
    have H1 := Lib.hid h1
    have H2 := Lib.hid h2
    clear h1 h2 e
    go_enter Try.func21, Try.ntmps21
    go_upto_region 1 with (fail)
    go_name_world W1 hW1
    have hbn : Below w.heap.size w W1 := by subst hW1; go_grown
    have hb0 := hbn
    clear hbn
    have p0n : W1.cell? ⟨w.heap.size, 0, none⟩ = some (.int .i64 a) := by subst hW1; go_simp
    have p1n : W1.cell? ⟨w.heap.size, 1, none⟩ = some (.int .i64 b) := by subst hW1; go_simp
    have q0n : W1.cell? ⟨w.heap.size + 1, 0, none⟩ = some (.int .i64 c) := by subst hW1; go_simp
    have q1n : W1.cell? ⟨w.heap.size + 1, 1, none⟩ = some (.int .i64 d) := by subst hW1; go_simp
    clear hW1 
    have p0 := p0n
    have p1 := p1n
    have q0 := q0n
    have q1 := q1n
    clear p0n p1n q0n q1n 
    go_wp2_with fail
    refine (via (w0 := W1) (by go_grown) (H1.out _)).mono ?_
    rintro e W2 ⟨rfl, hc, hf, hz, hB⟩
    have p0n : W2.cell? ⟨w.heap.size, 0, none⟩ = some (.int .i64 a) := (hc _ _ (cell_lt p0)).trans p0
    clear p0
    have p0 := p0n
    clear p0n
    have p1n : W2.cell? ⟨w.heap.size, 1, none⟩ = some (.int .i64 b) := (hc _ _ (cell_lt p1)).trans p1
    clear p1
    have p1 := p1n
    clear p1n
    have q0n : W2.cell? ⟨w.heap.size + 1, 0, none⟩ = some (.int .i64 c) := (hc _ _ (cell_lt q0)).trans q0
    clear q0
    have q0 := q0n
    clear q0n
    have q1n : W2.cell? ⟨w.heap.size + 1, 1, none⟩ = some (.int .i64 d) := (hc _ _ (cell_lt q1)).trans q1
    clear q1
    have q1 := q1n
    clear q1n
    have hbn : Below w.heap.size w W2 := bthen hb0 hB
    clear hb0
    have hb0 := hbn
    clear hbn
    have hzW2 : W1.heap.size ≤ W2.heap.size := hz
    clear hc hf hB hz
    go_wp2_with fail
    refine (via (w0 := W2) (by go_grown) (H2.out _)).mono ?_
    rintro e W3 ⟨rfl, hc, hf, hz, hB⟩
    have p0n : W3.cell? ⟨w.heap.size, 0, none⟩ = some (.int .i64 a) := (hc _ _ (cell_lt p0)).trans p0
    clear p0
    have p0 := p0n
    clear p0n
    have p1n : W3.cell? ⟨w.heap.size, 1, none⟩ = some (.int .i64 b) := (hc _ _ (cell_lt p1)).trans p1
    clear p1
    have p1 := p1n
    clear p1n
    have q0n : W3.cell? ⟨w.heap.size + 1, 0, none⟩ = some (.int .i64 c) := (hc _ _ (cell_lt q0)).trans q0
    clear q0
    have q0 := q0n
    clear q0n
    have q1n : W3.cell? ⟨w.heap.size + 1, 1, none⟩ = some (.int .i64 d) := (hc _ _ (cell_lt q1)).trans q1
    clear q1
    have q1 := q1n
    clear q1n
    have hbn : Below w.heap.size w W3 := bthen hb0 hB
    clear hb0
    have hb0 := hbn
    clear hbn
    have hzW3 : W2.heap.size ≤ W3.heap.size := hz
    clear hc hf hB hz
    go_wp2_with fail
    go_ret
    exact ⟨rfl, by have hbz := hb0.size; go_grown⟩
  by_cases g3 : a ≤ c
  · have e : narrowB a b c d = decide (b ≤ d) := by simp [narrowB, g1, g2, g3]
    rw [e]
    rw [g1] at h1
    rw [g2] at h2
    have H1 := Lib.hid h1
    have H2 := Lib.hid h2
    clear h1 h2 e
    go_enter Try.func21, Try.ntmps21
    go_upto_region 1 with (fail)
    go_name_world W1 hW1
    have hbn : Below w.heap.size w W1 := by subst hW1; go_grown
    have hb0 := hbn
    clear hbn
    have p0n : W1.cell? ⟨w.heap.size, 0, none⟩ = some (.int .i64 a) := by subst hW1; go_simp
    have p1n : W1.cell? ⟨w.heap.size, 1, none⟩ = some (.int .i64 b) := by subst hW1; go_simp
    have q0n : W1.cell? ⟨w.heap.size + 1, 0, none⟩ = some (.int .i64 c) := by subst hW1; go_simp
    have q1n : W1.cell? ⟨w.heap.size + 1, 1, none⟩ = some (.int .i64 d) := by subst hW1; go_simp
    clear hW1 
    have p0 := p0n
    have p1 := p1n
    have q0 := q0n
    have q1 := q1n
    clear p0n p1n q0n q1n 
    go_wp2_with fail
    refine (via (w0 := W1) (by go_grown) (H1.out _)).mono ?_
    rintro e W2 ⟨rfl, hc, hf, hz, hB⟩
    have p0n : W2.cell? ⟨w.heap.size, 0, none⟩ = some (.int .i64 a) := (hc _ _ (cell_lt p0)).trans p0
    clear p0
    have p0 := p0n
    clear p0n
    have p1n : W2.cell? ⟨w.heap.size, 1, none⟩ = some (.int .i64 b) := (hc _ _ (cell_lt p1)).trans p1
    clear p1
    have p1 := p1n
    clear p1n
    have q0n : W2.cell? ⟨w.heap.size + 1, 0, none⟩ = some (.int .i64 c) := (hc _ _ (cell_lt q0)).trans q0
    clear q0
    have q0 := q0n
    clear q0n
    have q1n : W2.cell? ⟨w.heap.size + 1, 1, none⟩ = some (.int .i64 d) := (hc _ _ (cell_lt q1)).trans q1
    clear q1
    have q1 := q1n
    clear q1n
    have hbn : Below w.heap.size w W2 := bthen hb0 hB
    clear hb0
    have hb0 := hbn
    clear hbn
    have hzW2 : W1.heap.size ≤ W2.heap.size := hz
    clear hc hf hB hz
    go_wp2_with fail
    refine (via (w0 := W2) (by go_grown) (H2.out _)).mono ?_
    rintro e W3 ⟨rfl, hc, hf, hz, hB⟩
    have p0n : W3.cell? ⟨w.heap.size, 0, none⟩ = some (.int .i64 a) := (hc _ _ (cell_lt p0)).trans p0
    clear p0
    have p0 := p0n
    clear p0n
    have p1n : W3.cell? ⟨w.heap.size, 1, none⟩ = some (.int .i64 b) := (hc _ _ (cell_lt p1)).trans p1
    clear p1
    have p1 := p1n
    clear p1n
    have q0n : W3.cell? ⟨w.heap.size + 1, 0, none⟩ = some (.int .i64 c) := (hc _ _ (cell_lt q0)).trans q0
    clear q0
    have q0 := q0n
    clear q0n
    have q1n : W3.cell? ⟨w.heap.size + 1, 1, none⟩ = some (.int .i64 d) := (hc _ _ (cell_lt q1)).trans q1
    clear q1
    have q1 := q1n
    clear q1n
    have hbn : Below w.heap.size w W3 := bthen hb0 hB
    clear hb0
    have hb0 := hbn
    clear hbn
    have hzW3 : W2.heap.size ≤ W3.heap.size := hz
    clear hc hf hB hz
    go_wp2_with fail
    go_ret
    exact ⟨ret_bool (by simp), by have hbz := hb0.size; go_grown⟩
  have g4 : decide (a ≤ c) = false := decide_eq_false g3
  have e : narrowB a b c d = false := by simp [narrowB, g1, g2, g3]
  rw [e]
  rw [g1] at h1
  rw [g2] at h2
  have H1 := Lib.hid h1
  have H2 := Lib.hid h2
  clear h1 h2 e g3
  go_enter Try.func21, Try.ntmps21
  go_upto_region 1 with (fail)
  go_name_world W1 hW1
  have hbn : Below w.heap.size w W1 := by subst hW1; go_grown
  have hb0 := hbn
  clear hbn
  have p0n : W1.cell? ⟨w.heap.size, 0, none⟩ = some (.int .i64 a) := by subst hW1; go_simp
  have p1n : W1.cell? ⟨w.heap.size, 1, none⟩ = some (.int .i64 b) := by subst hW1; go_simp
  have q0n : W1.cell? ⟨w.heap.size + 1, 0, none⟩ = some (.int .i64 c) := by subst hW1; go_simp
  have q1n : W1.cell? ⟨w.heap.size + 1, 1, none⟩ = some (.int .i64 d) := by subst hW1; go_simp
  clear hW1 
  have p0 := p0n
  have p1 := p1n
  have q0 := q0n
  have q1 := q1n
  clear p0n p1n q0n q1n 
  go_wp2_with fail
  refine (via (w0 := W1) (by go_grown) (H1.out _)).mono ?_
  rintro e W2 ⟨rfl, hc, hf, hz, hB⟩
  have p0n : W2.cell? ⟨w.heap.size, 0, none⟩ = some (.int .i64 a) := (hc _ _ (cell_lt p0)).trans p0
  clear p0
  have p0 := p0n
  clear p0n
  have p1n : W2.cell? ⟨w.heap.size, 1, none⟩ = some (.int .i64 b) := (hc _ _ (cell_lt p1)).trans p1
  clear p1
  have p1 := p1n
  clear p1n
  have q0n : W2.cell? ⟨w.heap.size + 1, 0, none⟩ = some (.int .i64 c) := (hc _ _ (cell_lt q0)).trans q0
  clear q0
  have q0 := q0n
  clear q0n
  have q1n : W2.cell? ⟨w.heap.size + 1, 1, none⟩ = some (.int .i64 d) := (hc _ _ (cell_lt q1)).trans q1
  clear q1
  have q1 := q1n
  clear q1n
  have hbn : Below w.heap.size w W2 := bthen hb0 hB
  clear hb0
  have hb0 := hbn
  clear hbn
  have hzW2 : W1.heap.size ≤ W2.heap.size := hz
  clear hc hf hB hz
  go_wp2_with fail
  refine (via (w0 := W2) (by go_grown) (H2.out _)).mono ?_
  rintro e W3 ⟨rfl, hc, hf, hz, hB⟩
  have p0n : W3.cell? ⟨w.heap.size, 0, none⟩ = some (.int .i64 a) := (hc _ _ (cell_lt p0)).trans p0
  clear p0
  have p0 := p0n
  clear p0n
  have p1n : W3.cell? ⟨w.heap.size, 1, none⟩ = some (.int .i64 b) := (hc _ _ (cell_lt p1)).trans p1
  clear p1
  have p1 := p1n
  clear p1n
  have q0n : W3.cell? ⟨w.heap.size + 1, 0, none⟩ = some (.int .i64 c) := (hc _ _ (cell_lt q0)).trans q0
  clear q0
  have q0 := q0n
  clear q0n
  have q1n : W3.cell? ⟨w.heap.size + 1, 1, none⟩ = some (.int .i64 d) := (hc _ _ (cell_lt q1)).trans q1
  clear q1
  have q1 := q1n
  clear q1n
  have hbn : Below w.heap.size w W3 := bthen hb0 hB
  clear hb0
  have hb0 := hbn
  clear hbn
  have hzW3 : W2.heap.size ≤ W3.heap.size := hz
  clear hc hf hB hz
  go_wp2_with fail
  go_ret
  exact ⟨rfl, by have hbz := hb0.size; go_grown⟩

set_option maxHeartbeats 2000000 in
theorem c_rNarrower (a b c d : Int) (w : World) : Calls Try.prog 50 #[.agg #[.int .i64 a, .int .i64 b], .agg #[.int .i64 c, .int .i64 d]] w fun e w' => e = .returned (.bool (narrowB a b c d)) ∧ Below w.heap.size w w' := by
  have h1 := fun W => c_rCheckRate a b W
  have h2 := fun W => c_rCheckRate c d W
  cases g1 : rateB a b
  · have e : narrowB a b c d = false := by simp [narrowB, g1]
    rw [e]
    rw [g1, errB_false] at h1
    have H1 := Lib.hid h1
    have H2 := Lib.hid h2
    clear h1 h2 e
    go_enter Try.func50, Try.ntmps50
    go_upto_region 1 with (fail)
    go_name_world W1 hW1
    have hbn : Below w.heap.size w W1 := by subst hW1; go_grown
    have hb0 := hbn
    clear hbn
    have p0n : W1.cell? ⟨w.heap.size, 0, none⟩ = some (.int .i64 a) := by subst hW1; go_simp
    have p1n : W1.cell? ⟨w.heap.size, 1, none⟩ = some (.int .i64 b) := by subst hW1; go_simp
    have q0n : W1.cell? ⟨w.heap.size + 1, 0, none⟩ = some (.int .i64 c) := by subst hW1; go_simp
    have q1n : W1.cell? ⟨w.heap.size + 1, 1, none⟩ = some (.int .i64 d) := by subst hW1; go_simp
    clear hW1 
    have p0 := p0n
    have p1 := p1n
    have q0 := q0n
    have q1 := q1n
    clear p0n p1n q0n q1n 
    go_wp2_with fail
    refine (via (w0 := W1) (by go_grown) (H1.out _)).mono ?_
    rintro e W2 ⟨rfl, hc, hf, hz, hB⟩
    have p0n : W2.cell? ⟨w.heap.size, 0, none⟩ = some (.int .i64 a) := (hc _ _ (cell_lt p0)).trans p0
    clear p0
    have p0 := p0n
    clear p0n
    have p1n : W2.cell? ⟨w.heap.size, 1, none⟩ = some (.int .i64 b) := (hc _ _ (cell_lt p1)).trans p1
    clear p1
    have p1 := p1n
    clear p1n
    have q0n : W2.cell? ⟨w.heap.size + 1, 0, none⟩ = some (.int .i64 c) := (hc _ _ (cell_lt q0)).trans q0
    clear q0
    have q0 := q0n
    clear q0n
    have q1n : W2.cell? ⟨w.heap.size + 1, 1, none⟩ = some (.int .i64 d) := (hc _ _ (cell_lt q1)).trans q1
    clear q1
    have q1 := q1n
    clear q1n
    have hbn : Below w.heap.size w W2 := bthen hb0 hB
    clear hb0
    have hb0 := hbn
    clear hbn
    have hzW2 : W1.heap.size ≤ W2.heap.size := hz
    clear hc hf hB hz
    go_wp2_with fail
    go_ret
    exact ⟨rfl, by have hbz := hb0.size; go_grown⟩
  cases g2 : rateB c d
  · have e : narrowB a b c d = false := by simp [narrowB, g1, g2]
    rw [e]
    rw [g1, errB_true] at h1
    rw [g2, errB_false] at h2
    have H1 := Lib.hid h1
    have H2 := Lib.hid h2
    clear h1 h2 e
    go_enter Try.func50, Try.ntmps50
    go_upto_region 1 with (fail)
    go_name_world W1 hW1
    have hbn : Below w.heap.size w W1 := by subst hW1; go_grown
    have hb0 := hbn
    clear hbn
    have p0n : W1.cell? ⟨w.heap.size, 0, none⟩ = some (.int .i64 a) := by subst hW1; go_simp
    have p1n : W1.cell? ⟨w.heap.size, 1, none⟩ = some (.int .i64 b) := by subst hW1; go_simp
    have q0n : W1.cell? ⟨w.heap.size + 1, 0, none⟩ = some (.int .i64 c) := by subst hW1; go_simp
    have q1n : W1.cell? ⟨w.heap.size + 1, 1, none⟩ = some (.int .i64 d) := by subst hW1; go_simp
    clear hW1 
    have p0 := p0n
    have p1 := p1n
    have q0 := q0n
    have q1 := q1n
    clear p0n p1n q0n q1n 
    go_wp2_with fail
    refine (via (w0 := W1) (by go_grown) (H1.out _)).mono ?_
    rintro e W2 ⟨rfl, hc, hf, hz, hB⟩
    have p0n : W2.cell? ⟨w.heap.size, 0, none⟩ = some (.int .i64 a) := (hc _ _ (cell_lt p0)).trans p0
    clear p0
    have p0 := p0n
    clear p0n
    have p1n : W2.cell? ⟨w.heap.size, 1, none⟩ = some (.int .i64 b) := (hc _ _ (cell_lt p1)).trans p1
    clear p1
    have p1 := p1n
    clear p1n
    have q0n : W2.cell? ⟨w.heap.size + 1, 0, none⟩ = some (.int .i64 c) := (hc _ _ (cell_lt q0)).trans q0
    clear q0
    have q0 := q0n
    clear q0n
    have q1n : W2.cell? ⟨w.heap.size + 1, 1, none⟩ = some (.int .i64 d) := (hc _ _ (cell_lt q1)).trans q1
    clear q1
    have q1 := q1n
    clear q1n
    have hbn : Below w.heap.size w W2 := bthen hb0 hB
    clear hb0
    have hb0 := hbn
    clear hbn
    have hzW2 : W1.heap.size ≤ W2.heap.size := hz
    clear hc hf hB hz
    go_wp2_with fail
    refine (via (w0 := W2) (by go_grown) (H2.out _)).mono ?_
    rintro e W3 ⟨rfl, hc, hf, hz, hB⟩
    have p0n : W3.cell? ⟨w.heap.size, 0, none⟩ = some (.int .i64 a) := (hc _ _ (cell_lt p0)).trans p0
    clear p0
    have p0 := p0n
    clear p0n
    have p1n : W3.cell? ⟨w.heap.size, 1, none⟩ = some (.int .i64 b) := (hc _ _ (cell_lt p1)).trans p1
    clear p1
    have p1 := p1n
    clear p1n
    have q0n : W3.cell? ⟨w.heap.size + 1, 0, none⟩ = some (.int .i64 c) := (hc _ _ (cell_lt q0)).trans q0
    clear q0
    have q0 := q0n
    clear q0n
    have q1n : W3.cell? ⟨w.heap.size + 1, 1, none⟩ = some (.int .i64 d) := (hc _ _ (cell_lt q1)).trans q1
    clear q1
    have q1 := q1n
    clear q1n
    have hbn : Below w.heap.size w W3 := bthen hb0 hB
    clear hb0
    have hb0 := hbn
    clear hbn
    have hzW3 : W2.heap.size ≤ W3.heap.size := hz
    clear hc hf hB hz
    go_wp2_with fail
    go_ret
    exact ⟨rfl, by have hbz := hb0.size; go_grown⟩
  by_cases g3 : a ≤ c
  · have e : narrowB a b c d = decide (b ≤ d) := by simp [narrowB, g1, g2, g3]
    rw [e]
    rw [g1, errB_true] at h1
    rw [g2, errB_true] at h2
    have H1 := Lib.hid h1
    have H2 := Lib.hid h2
    clear h1 h2 e
    go_enter Try.func50, Try.ntmps50
    go_upto_region 1 with (fail)
    go_name_world W1 hW1
    have hbn : Below w.heap.size w W1 := by subst hW1; go_grown
    have hb0 := hbn
    clear hbn
    have p0n : W1.cell? ⟨w.heap.size, 0, none⟩ = some (.int .i64 a) := by subst hW1; go_simp
    have p1n : W1.cell? ⟨w.heap.size, 1, none⟩ = some (.int .i64 b) := by subst hW1; go_simp
    have q0n : W1.cell? ⟨w.heap.size + 1, 0, none⟩ = some (.int .i64 c) := by subst hW1; go_simp
    have q1n : W1.cell? ⟨w.heap.size + 1, 1, none⟩ = some (.int .i64 d) := by subst hW1; go_simp
    clear hW1 
    have p0 := p0n
    have p1 := p1n
    have q0 := q0n
    have q1 := q1n
    clear p0n p1n q0n q1n 
    go_wp2_with fail
    refine (via (w0 := W1) (by go_grown) (H1.out _)).mono ?_
    rintro e W2 ⟨rfl, hc, hf, hz, hB⟩
    have p0n : W2.cell? ⟨w.heap.size, 0, none⟩ = some (.int .i64 a) := (hc _ _ (cell_lt p0)).trans p0
    clear p0
    have p0 := p0n
    clear p0n
    have p1n : W2.cell? ⟨w.heap.size, 1, none⟩ = some (.int .i64 b) := (hc _ _ (cell_lt p1)).trans p1
    clear p1
    have p1 := p1n
    clear p1n
    have q0n : W2.cell? ⟨w.heap.size + 1, 0, none⟩ = some (.int .i64 c) := (hc _ _ (cell_lt q0)).trans q0
    clear q0
    have q0 := q0n
    clear q0n
    have q1n : W2.cell? ⟨w.heap.size + 1, 1, none⟩ = some (.int .i64 d) := (hc _ _ (cell_lt q1)).trans q1
    clear q1
    have q1 := q1n
    clear q1n
    have hbn : Below w.heap.size w W2 := bthen hb0 hB
    clear hb0
    have hb0 := hbn
    clear hbn
    have hzW2 : W1.heap.size ≤ W2.heap.size := hz
    clear hc hf hB hz
    go_wp2_with fail
    refine (via (w0 := W2) (by go_grown) (H2.out _)).mono ?_
    rintro e W3 ⟨rfl, hc, hf, hz, hB⟩
    have p0n : W3.cell? ⟨w.heap.size, 0, none⟩ = some (.int .i64 a) := (hc _ _ (cell_lt p0)).trans p0
    clear p0
    have p0 := p0n
    clear p0n
    have p1n : W3.cell? ⟨w.heap.size, 1, none⟩ = some (.int .i64 b) := (hc _ _ (cell_lt p1)).trans p1
    clear p1
    have p1 := p1n
    clear p1n
    have q0n : W3.cell? ⟨w.heap.size + 1, 0, none⟩ = some (.int .i64 c) := (hc _ _ (cell_lt q0)).trans q0
    clear q0
    have q0 := q0n
    clear q0n
    have q1n : W3.cell? ⟨w.heap.size + 1, 1, none⟩ = some (.int .i64 d) := (hc _ _ (cell_lt q1)).trans q1
    clear q1
    have q1 := q1n
    clear q1n
    have hbn : Below w.heap.size w W3 := bthen hb0 hB
    clear hb0
    have hb0 := hbn
    clear hbn
    have hzW3 : W2.heap.size ≤ W3.heap.size := hz
    clear hc hf hB hz
    go_wp2_with fail
    go_ret
    exact ⟨ret_bool (by simp), by have hbz := hb0.size; go_grown⟩
  have g4 : decide (a ≤ c) = false := decide_eq_false g3
  have e : narrowB a b c d = false := by simp [narrowB, g1, g2, g3]
  rw [e]
  rw [g1, errB_true] at h1
  rw [g2, errB_true] at h2
  have H1 := Lib.hid h1
  have H2 := Lib.hid h2
  clear h1 h2 e g3
  go_enter Try.func50, Try.ntmps50
  go_upto_region 1 with (fail)
  go_name_world W1 hW1
  have hbn : Below w.heap.size w W1 := by subst hW1; go_grown
  have hb0 := hbn
  clear hbn
  have p0n : W1.cell? ⟨w.heap.size, 0, none⟩ = some (.int .i64 a) := by subst hW1; go_simp
  have p1n : W1.cell? ⟨w.heap.size, 1, none⟩ = some (.int .i64 b) := by subst hW1; go_simp
  have q0n : W1.cell? ⟨w.heap.size + 1, 0, none⟩ = some (.int .i64 c) := by subst hW1; go_simp
  have q1n : W1.cell? ⟨w.heap.size + 1, 1, none⟩ = some (.int .i64 d) := by subst hW1; go_simp
  clear hW1 
  have p0 := p0n
  have p1 := p1n
  have q0 := q0n
  have q1 := q1n
  clear p0n p1n q0n q1n 
  go_wp2_with fail
  refine (via (w0 := W1) (by go_grown) (H1.out _)).mono ?_
  rintro e W2 ⟨rfl, hc, hf, hz, hB⟩
  have p0n : W2.cell? ⟨w.heap.size, 0, none⟩ = some (.int .i64 a) := (hc _ _ (cell_lt p0)).trans p0
  clear p0
  have p0 := p0n
  clear p0n
  have p1n : W2.cell? ⟨w.heap.size, 1, none⟩ = some (.int .i64 b) := (hc _ _ (cell_lt p1)).trans p1
  clear p1
  have p1 := p1n
  clear p1n
  have q0n : W2.cell? ⟨w.heap.size + 1, 0, none⟩ = some (.int .i64 c) := (hc _ _ (cell_lt q0)).trans q0
  clear q0
  have q0 := q0n
  clear q0n
  have q1n : W2.cell? ⟨w.heap.size + 1, 1, none⟩ = some (.int .i64 d) := (hc _ _ (cell_lt q1)).trans q1
  clear q1
  have q1 := q1n
  clear q1n
  have hbn : Below w.heap.size w W2 := bthen hb0 hB
  clear hb0
  have hb0 := hbn
  clear hbn
  have hzW2 : W1.heap.size ≤ W2.heap.size := hz
  clear hc hf hB hz
  go_wp2_with fail
  refine (via (w0 := W2) (by go_grown) (H2.out _)).mono ?_
  rintro e W3 ⟨rfl, hc, hf, hz, hB⟩
  have p0n : W3.cell? ⟨w.heap.size, 0, none⟩ = some (.int .i64 a) := (hc _ _ (cell_lt p0)).trans p0
  clear p0
  have p0 := p0n
  clear p0n
  have p1n : W3.cell? ⟨w.heap.size, 1, none⟩ = some (.int .i64 b) := (hc _ _ (cell_lt p1)).trans p1
  clear p1
  have p1 := p1n
  clear p1n
  have q0n : W3.cell? ⟨w.heap.size + 1, 0, none⟩ = some (.int .i64 c) := (hc _ _ (cell_lt q0)).trans q0
  clear q0
  have q0 := q0n
  clear q0n
  have q1n : W3.cell? ⟨w.heap.size + 1, 1, none⟩ = some (.int .i64 d) := (hc _ _ (cell_lt q1)).trans q1
  clear q1
  have q1 := q1n
  clear q1n
  have hbn : Below w.heap.size w W3 := bthen hb0 hB
  clear hb0
  have hb0 := hbn
  clear hbn
  have hzW3 : W2.heap.size ≤ W3.heap.size := hz
  clear hc hf hB hz
  go_wp2_with fail
  go_ret
  exact ⟨rfl, by have hbz := hb0.size; go_grown⟩
end Go.Proofs.Ytokpjaodchcheaa
