/- This text proves that Valid and Both of the reference return what isInterval and Both of package tally return. -/
import Derived.Test.YtokpjaodchcheaaBoth
import Derived.Test.YtokpjaodchcheaaRefCounts
namespace Go.Proofs.Ytokpjaodchcheaa
open Go.RowKit Go.Shelf
attribute [local go_sem] Oper.semAt_some

theorem c_rValid (x : Iv) (w : World) : Calls Try.prog 93 #[x.v] w fun e w' => e = .returned (.bool (ivB x)) ∧ Below w.heap.size w w' := by
  obtain ⟨lo, hi, so⟩ := x
  go_enter Try.func93, Try.ntmps93
  go_wp2
  all_goals (go_ret; refine ⟨ret_bool ?_, by go_grown⟩; simp_all [ivB, Iv.none] <;> omega)

set_option maxHeartbeats 4000000 in
theorem c_rBoth (a b : Iv) (w : World) : Calls Try.prog 56 #[a.v, b.v] w fun e w' => e = .returned (bothV a b).v ∧ Below w.heap.size w w' := by
  have ha := fun W => c_rValid a W
  have hb := fun W => c_rValid b W
  obtain ⟨a1, a2, a3⟩ := a
  obtain ⟨b1, b2, b3⟩ := b
  cases h1 : ivB ⟨a1, a2, a3⟩
  · have hx : bothV ⟨a1, a2, a3⟩ ⟨b1, b2, b3⟩ = ⟨0, 0, false⟩ := by simp [bothV, h1, Iv.none]
    rw [hx]
    rw [h1] at ha
    have HA := Lib.hid ha
    have HB := Lib.hid hb
    clear ha hb hx
    go_enter Try.func56, Try.ntmps56
    go_upto_region 1 with (fail)
    go_name_world W1 hW1
    have hbn : Below w.heap.size w W1 := by subst hW1; go_grown
    have hb0 := hbn
    clear hbn
    have p0n : W1.cell? ⟨w.heap.size, 0, none⟩ = some (.int .i64 a1) := by subst hW1; go_simp
    have p1n : W1.cell? ⟨w.heap.size, 1, none⟩ = some (.int .i64 a2) := by subst hW1; go_simp
    have p2n : W1.cell? ⟨w.heap.size, 2, none⟩ = some (.bool a3) := by subst hW1; go_simp
    have q0n : W1.cell? ⟨w.heap.size + 1, 0, none⟩ = some (.int .i64 b1) := by subst hW1; go_simp
    have q1n : W1.cell? ⟨w.heap.size + 1, 1, none⟩ = some (.int .i64 b2) := by subst hW1; go_simp
    have q2n : W1.cell? ⟨w.heap.size + 1, 2, none⟩ = some (.bool b3) := by subst hW1; go_simp
    have s0n : W1.cell? ⟨w.heap.size + 2, 0, none⟩ = some (.int .i64 0) := by subst hW1; go_simp
    have fs0n : W1.frozen? ⟨w.heap.size + 2, 0, none⟩ = false := by subst hW1; go_simp
    have s1n : W1.cell? ⟨w.heap.size + 2, 1, none⟩ = some (.int .i64 0) := by subst hW1; go_simp
    have fs1n : W1.frozen? ⟨w.heap.size + 2, 1, none⟩ = false := by subst hW1; go_simp
    have s2n : W1.cell? ⟨w.heap.size + 2, 2, none⟩ = some (.bool false) := by subst hW1; go_simp
    have fs2n : W1.frozen? ⟨w.heap.size + 2, 2, none⟩ = false := by subst hW1; go_simp
    clear hW1 
    have p0 := p0n
    have p1 := p1n
    have p2 := p2n
    have q0 := q0n
    have q1 := q1n
    have q2 := q2n
    have s0 := s0n
    have fs0 := fs0n
    have s1 := s1n
    have fs1 := fs1n
    have s2 := s2n
    have fs2 := fs2n
    clear p0n p1n p2n q0n q1n q2n s0n s1n s2n fs0n fs1n fs2n
    go_wp2_with fail
    refine (via (w0 := W1) (by go_grown) (HA.out _)).mono ?_
    rintro e W2 ⟨rfl, hc, hf, hz, hB⟩
    have p0n : W2.cell? ⟨w.heap.size, 0, none⟩ = some (.int .i64 a1) := (hc _ _ (cell_lt p0)).trans p0
    clear p0
    have p0 := p0n
    clear p0n
    have p1n : W2.cell? ⟨w.heap.size, 1, none⟩ = some (.int .i64 a2) := (hc _ _ (cell_lt p1)).trans p1
    clear p1
    have p1 := p1n
    clear p1n
    have p2n : W2.cell? ⟨w.heap.size, 2, none⟩ = some (.bool a3) := (hc _ _ (cell_lt p2)).trans p2
    clear p2
    have p2 := p2n
    clear p2n
    have q0n : W2.cell? ⟨w.heap.size + 1, 0, none⟩ = some (.int .i64 b1) := (hc _ _ (cell_lt q0)).trans q0
    clear q0
    have q0 := q0n
    clear q0n
    have q1n : W2.cell? ⟨w.heap.size + 1, 1, none⟩ = some (.int .i64 b2) := (hc _ _ (cell_lt q1)).trans q1
    clear q1
    have q1 := q1n
    clear q1n
    have q2n : W2.cell? ⟨w.heap.size + 1, 2, none⟩ = some (.bool b3) := (hc _ _ (cell_lt q2)).trans q2
    clear q2
    have q2 := q2n
    clear q2n
    have fs0n : W2.frozen? ⟨w.heap.size + 2, 0, none⟩ = false := (hf _ _ (cell_lt s0)).trans fs0
    clear fs0
    have fs0 := fs0n
    clear fs0n
    have s0n : W2.cell? ⟨w.heap.size + 2, 0, none⟩ = some (.int .i64 0) := (hc _ _ (cell_lt s0)).trans s0
    clear s0
    have s0 := s0n
    clear s0n
    have fs1n : W2.frozen? ⟨w.heap.size + 2, 1, none⟩ = false := (hf _ _ (cell_lt s1)).trans fs1
    clear fs1
    have fs1 := fs1n
    clear fs1n
    have s1n : W2.cell? ⟨w.heap.size + 2, 1, none⟩ = some (.int .i64 0) := (hc _ _ (cell_lt s1)).trans s1
    clear s1
    have s1 := s1n
    clear s1n
    have fs2n : W2.frozen? ⟨w.heap.size + 2, 2, none⟩ = false := (hf _ _ (cell_lt s2)).trans fs2
    clear fs2
    have fs2 := fs2n
    clear fs2n
    have s2n : W2.cell? ⟨w.heap.size + 2, 2, none⟩ = some (.bool false) := (hc _ _ (cell_lt s2)).trans s2
    clear s2
    have s2 := s2n
    clear s2n
    have hbn : Below w.heap.size w W2 := bthen hb0 hB
    clear hb0
    have hb0 := hbn
    clear hbn
    have hzW2 : W1.heap.size ≤ W2.heap.size := hz
    clear hc hf hB hz
    go_wp2_with fail
    refine bodyPost_ret (v := Iv.v ⟨0, 0, false⟩) (by simp [results, Try.results56, go_sem, s0, s1, s2]) rfl ⟨rfl, by have hbz := hb0.size; go_grown⟩
  cases h2 : ivB ⟨b1, b2, b3⟩
  · have hx : bothV ⟨a1, a2, a3⟩ ⟨b1, b2, b3⟩ = ⟨0, 0, false⟩ := by simp [bothV, h1, h2, Iv.none]
    rw [hx]
    rw [h1] at ha
    rw [h2] at hb
    have HA := Lib.hid ha
    have HB := Lib.hid hb
    clear ha hb hx
    go_enter Try.func56, Try.ntmps56
    go_upto_region 1 with (fail)
    go_name_world W1 hW1
    have hbn : Below w.heap.size w W1 := by subst hW1; go_grown
    have hb0 := hbn
    clear hbn
    have p0n : W1.cell? ⟨w.heap.size, 0, none⟩ = some (.int .i64 a1) := by subst hW1; go_simp
    have p1n : W1.cell? ⟨w.heap.size, 1, none⟩ = some (.int .i64 a2) := by subst hW1; go_simp
    have p2n : W1.cell? ⟨w.heap.size, 2, none⟩ = some (.bool a3) := by subst hW1; go_simp
    have q0n : W1.cell? ⟨w.heap.size + 1, 0, none⟩ = some (.int .i64 b1) := by subst hW1; go_simp
    have q1n : W1.cell? ⟨w.heap.size + 1, 1, none⟩ = some (.int .i64 b2) := by subst hW1; go_simp
    have q2n : W1.cell? ⟨w.heap.size + 1, 2, none⟩ = some (.bool b3) := by subst hW1; go_simp
    have s0n : W1.cell? ⟨w.heap.size + 2, 0, none⟩ = some (.int .i64 0) := by subst hW1; go_simp
    have fs0n : W1.frozen? ⟨w.heap.size + 2, 0, none⟩ = false := by subst hW1; go_simp
    have s1n : W1.cell? ⟨w.heap.size + 2, 1, none⟩ = some (.int .i64 0) := by subst hW1; go_simp
    have fs1n : W1.frozen? ⟨w.heap.size + 2, 1, none⟩ = false := by subst hW1; go_simp
    have s2n : W1.cell? ⟨w.heap.size + 2, 2, none⟩ = some (.bool false) := by subst hW1; go_simp
    have fs2n : W1.frozen? ⟨w.heap.size + 2, 2, none⟩ = false := by subst hW1; go_simp
    clear hW1 
    have p0 := p0n
    have p1 := p1n
    have p2 := p2n
    have q0 := q0n
    have q1 := q1n
    have q2 := q2n
    have s0 := s0n
    have fs0 := fs0n
    have s1 := s1n
    have fs1 := fs1n
    have s2 := s2n
    have fs2 := fs2n
    clear p0n p1n p2n q0n q1n q2n s0n s1n s2n fs0n fs1n fs2n
    go_wp2_with fail
    refine (via (w0 := W1) (by go_grown) (HA.out _)).mono ?_
    rintro e W2 ⟨rfl, hc, hf, hz, hB⟩
    have p0n : W2.cell? ⟨w.heap.size, 0, none⟩ = some (.int .i64 a1) := (hc _ _ (cell_lt p0)).trans p0
    clear p0
    have p0 := p0n
    clear p0n
    have p1n : W2.cell? ⟨w.heap.size, 1, none⟩ = some (.int .i64 a2) := (hc _ _ (cell_lt p1)).trans p1
    clear p1
    have p1 := p1n
    clear p1n
    have p2n : W2.cell? ⟨w.heap.size, 2, none⟩ = some (.bool a3) := (hc _ _ (cell_lt p2)).trans p2
    clear p2
    have p2 := p2n
    clear p2n
    have q0n : W2.cell? ⟨w.heap.size + 1, 0, none⟩ = some (.int .i64 b1) := (hc _ _ (cell_lt q0)).trans q0
    clear q0
    have q0 := q0n
    clear q0n
    have q1n : W2.cell? ⟨w.heap.size + 1, 1, none⟩ = some (.int .i64 b2) := (hc _ _ (cell_lt q1)).trans q1
    clear q1
    have q1 := q1n
    clear q1n
    have q2n : W2.cell? ⟨w.heap.size + 1, 2, none⟩ = some (.bool b3) := (hc _ _ (cell_lt q2)).trans q2
    clear q2
    have q2 := q2n
    clear q2n
    have fs0n : W2.frozen? ⟨w.heap.size + 2, 0, none⟩ = false := (hf _ _ (cell_lt s0)).trans fs0
    clear fs0
    have fs0 := fs0n
    clear fs0n
    have s0n : W2.cell? ⟨w.heap.size + 2, 0, none⟩ = some (.int .i64 0) := (hc _ _ (cell_lt s0)).trans s0
    clear s0
    have s0 := s0n
    clear s0n
    have fs1n : W2.frozen? ⟨w.heap.size + 2, 1, none⟩ = false := (hf _ _ (cell_lt s1)).trans fs1
    clear fs1
    have fs1 := fs1n
    clear fs1n
    have s1n : W2.cell? ⟨w.heap.size + 2, 1, none⟩ = some (.int .i64 0) := (hc _ _ (cell_lt s1)).trans s1
    clear s1
    have s1 := s1n
    clear s1n
    have fs2n : W2.frozen? ⟨w.heap.size + 2, 2, none⟩ = false := (hf _ _ (cell_lt s2)).trans fs2
    clear fs2
    have fs2 := fs2n
    clear fs2n
    have s2n : W2.cell? ⟨w.heap.size + 2, 2, none⟩ = some (.bool false) := (hc _ _ (cell_lt s2)).trans s2
    clear s2
    have s2 := s2n
    clear s2n
    have hbn : Below w.heap.size w W2 := bthen hb0 hB
    clear hb0
    have hb0 := hbn
    clear hbn
    have hzW2 : W1.heap.size ≤ W2.heap.size := hz
    clear hc hf hB hz
    go_wp2_with fail
    refine (via (w0 := W2) (by go_grown) (HB.out _)).mono ?_
    rintro e W3 ⟨rfl, hc, hf, hz, hB⟩
    have p0n : W3.cell? ⟨w.heap.size, 0, none⟩ = some (.int .i64 a1) := (hc _ _ (cell_lt p0)).trans p0
    clear p0
    have p0 := p0n
    clear p0n
    have p1n : W3.cell? ⟨w.heap.size, 1, none⟩ = some (.int .i64 a2) := (hc _ _ (cell_lt p1)).trans p1
    clear p1
    have p1 := p1n
    clear p1n
    have p2n : W3.cell? ⟨w.heap.size, 2, none⟩ = some (.bool a3) := (hc _ _ (cell_lt p2)).trans p2
    clear p2
    have p2 := p2n
    clear p2n
    have q0n : W3.cell? ⟨w.heap.size + 1, 0, none⟩ = some (.int .i64 b1) := (hc _ _ (cell_lt q0)).trans q0
    clear q0
    have q0 := q0n
    clear q0n
    have q1n : W3.cell? ⟨w.heap.size + 1, 1, none⟩ = some (.int .i64 b2) := (hc _ _ (cell_lt q1)).trans q1
    clear q1
    have q1 := q1n
    clear q1n
    have q2n : W3.cell? ⟨w.heap.size + 1, 2, none⟩ = some (.bool b3) := (hc _ _ (cell_lt q2)).trans q2
    clear q2
    have q2 := q2n
    clear q2n
    have fs0n : W3.frozen? ⟨w.heap.size + 2, 0, none⟩ = false := (hf _ _ (cell_lt s0)).trans fs0
    clear fs0
    have fs0 := fs0n
    clear fs0n
    have s0n : W3.cell? ⟨w.heap.size + 2, 0, none⟩ = some (.int .i64 0) := (hc _ _ (cell_lt s0)).trans s0
    clear s0
    have s0 := s0n
    clear s0n
    have fs1n : W3.frozen? ⟨w.heap.size + 2, 1, none⟩ = false := (hf _ _ (cell_lt s1)).trans fs1
    clear fs1
    have fs1 := fs1n
    clear fs1n
    have s1n : W3.cell? ⟨w.heap.size + 2, 1, none⟩ = some (.int .i64 0) := (hc _ _ (cell_lt s1)).trans s1
    clear s1
    have s1 := s1n
    clear s1n
    have fs2n : W3.frozen? ⟨w.heap.size + 2, 2, none⟩ = false := (hf _ _ (cell_lt s2)).trans fs2
    clear fs2
    have fs2 := fs2n
    clear fs2n
    have s2n : W3.cell? ⟨w.heap.size + 2, 2, none⟩ = some (.bool false) := (hc _ _ (cell_lt s2)).trans s2
    clear s2
    have s2 := s2n
    clear s2n
    have hbn : Below w.heap.size w W3 := bthen hb0 hB
    clear hb0
    have hb0 := hbn
    clear hbn
    have hzW3 : W2.heap.size ≤ W3.heap.size := hz
    clear hc hf hB hz
    go_wp2_with fail
    refine bodyPost_ret (v := Iv.v ⟨0, 0, false⟩) (by simp [results, Try.results56, go_sem, s0, s1, s2]) rfl ⟨rfl, by have hbz := hb0.size; go_grown⟩
  cases a3
  · have hx : bothV ⟨a1, a2, false⟩ ⟨b1, b2, b3⟩ = ⟨0, 0, false⟩ := by simp [bothV, meet, h1, h2, Iv.none]
    rw [hx]
    rw [h1] at ha
    rw [h2] at hb
    have HA := Lib.hid ha
    have HB := Lib.hid hb
    clear ha hb hx
    go_enter Try.func56, Try.ntmps56
    go_upto_region 1 with (fail)
    go_name_world W1 hW1
    have hbn : Below w.heap.size w W1 := by subst hW1; go_grown
    have hb0 := hbn
    clear hbn
    have p0n : W1.cell? ⟨w.heap.size, 0, none⟩ = some (.int .i64 a1) := by subst hW1; go_simp
    have p1n : W1.cell? ⟨w.heap.size, 1, none⟩ = some (.int .i64 a2) := by subst hW1; go_simp
    have p2n : W1.cell? ⟨w.heap.size, 2, none⟩ = some (.bool false) := by subst hW1; go_simp
    have q0n : W1.cell? ⟨w.heap.size + 1, 0, none⟩ = some (.int .i64 b1) := by subst hW1; go_simp
    have q1n : W1.cell? ⟨w.heap.size + 1, 1, none⟩ = some (.int .i64 b2) := by subst hW1; go_simp
    have q2n : W1.cell? ⟨w.heap.size + 1, 2, none⟩ = some (.bool b3) := by subst hW1; go_simp
    have s0n : W1.cell? ⟨w.heap.size + 2, 0, none⟩ = some (.int .i64 0) := by subst hW1; go_simp
    have fs0n : W1.frozen? ⟨w.heap.size + 2, 0, none⟩ = false := by subst hW1; go_simp
    have s1n : W1.cell? ⟨w.heap.size + 2, 1, none⟩ = some (.int .i64 0) := by subst hW1; go_simp
    have fs1n : W1.frozen? ⟨w.heap.size + 2, 1, none⟩ = false := by subst hW1; go_simp
    have s2n : W1.cell? ⟨w.heap.size + 2, 2, none⟩ = some (.bool false) := by subst hW1; go_simp
    have fs2n : W1.frozen? ⟨w.heap.size + 2, 2, none⟩ = false := by subst hW1; go_simp
    clear hW1 
    have p0 := p0n
    have p1 := p1n
    have p2 := p2n
    have q0 := q0n
    have q1 := q1n
    have q2 := q2n
    have s0 := s0n
    have fs0 := fs0n
    have s1 := s1n
    have fs1 := fs1n
    have s2 := s2n
    have fs2 := fs2n
    clear p0n p1n p2n q0n q1n q2n s0n s1n s2n fs0n fs1n fs2n
    go_wp2_with fail
    refine (via (w0 := W1) (by go_grown) (HA.out _)).mono ?_
    rintro e W2 ⟨rfl, hc, hf, hz, hB⟩
    have p0n : W2.cell? ⟨w.heap.size, 0, none⟩ = some (.int .i64 a1) := (hc _ _ (cell_lt p0)).trans p0
    clear p0
    have p0 := p0n
    clear p0n
    have p1n : W2.cell? ⟨w.heap.size, 1, none⟩ = some (.int .i64 a2) := (hc _ _ (cell_lt p1)).trans p1
    clear p1
    have p1 := p1n
    clear p1n
    have p2n : W2.cell? ⟨w.heap.size, 2, none⟩ = some (.bool false) := (hc _ _ (cell_lt p2)).trans p2
    clear p2
    have p2 := p2n
    clear p2n
    have q0n : W2.cell? ⟨w.heap.size + 1, 0, none⟩ = some (.int .i64 b1) := (hc _ _ (cell_lt q0)).trans q0
    clear q0
    have q0 := q0n
    clear q0n
    have q1n : W2.cell? ⟨w.heap.size + 1, 1, none⟩ = some (.int .i64 b2) := (hc _ _ (cell_lt q1)).trans q1
    clear q1
    have q1 := q1n
    clear q1n
    have q2n : W2.cell? ⟨w.heap.size + 1, 2, none⟩ = some (.bool b3) := (hc _ _ (cell_lt q2)).trans q2
    clear q2
    have q2 := q2n
    clear q2n
    have fs0n : W2.frozen? ⟨w.heap.size + 2, 0, none⟩ = false := (hf _ _ (cell_lt s0)).trans fs0
    clear fs0
    have fs0 := fs0n
    clear fs0n
    have s0n : W2.cell? ⟨w.heap.size + 2, 0, none⟩ = some (.int .i64 0) := (hc _ _ (cell_lt s0)).trans s0
    clear s0
    have s0 := s0n
    clear s0n
    have fs1n : W2.frozen? ⟨w.heap.size + 2, 1, none⟩ = false := (hf _ _ (cell_lt s1)).trans fs1
    clear fs1
    have fs1 := fs1n
    clear fs1n
    have s1n : W2.cell? ⟨w.heap.size + 2, 1, none⟩ = some (.int .i64 0) := (hc _ _ (cell_lt s1)).trans s1
    clear s1
    have s1 := s1n
    clear s1n
    have fs2n : W2.frozen? ⟨w.heap.size + 2, 2, none⟩ = false := (hf _ _ (cell_lt s2)).trans fs2
    clear fs2
    have fs2 := fs2n
    clear fs2n
    have s2n : W2.cell? ⟨w.heap.size + 2, 2, none⟩ = some (.bool false) := (hc _ _ (cell_lt s2)).trans s2
    clear s2
    have s2 := s2n
    clear s2n
    have hbn : Below w.heap.size w W2 := bthen hb0 hB
    clear hb0
    have hb0 := hbn
    clear hbn
    have hzW2 : W1.heap.size ≤ W2.heap.size := hz
    clear hc hf hB hz
    go_wp2_with fail
    refine (via (w0 := W2) (by go_grown) (HB.out _)).mono ?_
    rintro e W3 ⟨rfl, hc, hf, hz, hB⟩
    have p0n : W3.cell? ⟨w.heap.size, 0, none⟩ = some (.int .i64 a1) := (hc _ _ (cell_lt p0)).trans p0
    clear p0
    have p0 := p0n
    clear p0n
    have p1n : W3.cell? ⟨w.heap.size, 1, none⟩ = some (.int .i64 a2) := (hc _ _ (cell_lt p1)).trans p1
    clear p1
    have p1 := p1n
    clear p1n
    have p2n : W3.cell? ⟨w.heap.size, 2, none⟩ = some (.bool false) := (hc _ _ (cell_lt p2)).trans p2
    clear p2
    have p2 := p2n
    clear p2n
    have q0n : W3.cell? ⟨w.heap.size + 1, 0, none⟩ = some (.int .i64 b1) := (hc _ _ (cell_lt q0)).trans q0
    clear q0
    have q0 := q0n
    clear q0n
    have q1n : W3.cell? ⟨w.heap.size + 1, 1, none⟩ = some (.int .i64 b2) := (hc _ _ (cell_lt q1)).trans q1
    clear q1
    have q1 := q1n
    clear q1n
    have q2n : W3.cell? ⟨w.heap.size + 1, 2, none⟩ = some (.bool b3) := (hc _ _ (cell_lt q2)).trans q2
    clear q2
    have q2 := q2n
    clear q2n
    have fs0n : W3.frozen? ⟨w.heap.size + 2, 0, none⟩ = false := (hf _ _ (cell_lt s0)).trans fs0
    clear fs0
    have fs0 := fs0n
    clear fs0n
    have s0n : W3.cell? ⟨w.heap.size + 2, 0, none⟩ = some (.int .i64 0) := (hc _ _ (cell_lt s0)).trans s0
    clear s0
    have s0 := s0n
    clear s0n
    have fs1n : W3.frozen? ⟨w.heap.size + 2, 1, none⟩ = false := (hf _ _ (cell_lt s1)).trans fs1
    clear fs1
    have fs1 := fs1n
    clear fs1n
    have s1n : W3.cell? ⟨w.heap.size + 2, 1, none⟩ = some (.int .i64 0) := (hc _ _ (cell_lt s1)).trans s1
    clear s1
    have s1 := s1n
    clear s1n
    have fs2n : W3.frozen? ⟨w.heap.size + 2, 2, none⟩ = false := (hf _ _ (cell_lt s2)).trans fs2
    clear fs2
    have fs2 := fs2n
    clear fs2n
    have s2n : W3.cell? ⟨w.heap.size + 2, 2, none⟩ = some (.bool false) := (hc _ _ (cell_lt s2)).trans s2
    clear s2
    have s2 := s2n
    clear s2n
    have hbn : Below w.heap.size w W3 := bthen hb0 hB
    clear hb0
    have hb0 := hbn
    clear hbn
    have hzW3 : W2.heap.size ≤ W3.heap.size := hz
    clear hc hf hB hz
    go_wp2_with fail
    refine bodyPost_ret (v := Iv.v ⟨0, 0, false⟩) (by simp [results, Try.results56, go_sem, s0, s1, s2]) rfl ⟨rfl, by have hbz := hb0.size; go_grown⟩
  cases b3
  · have hx : bothV ⟨a1, a2, true⟩ ⟨b1, b2, false⟩ = ⟨0, 0, false⟩ := by simp [bothV, meet, h1, h2, Iv.none]
    rw [hx]
    rw [h1] at ha
    rw [h2] at hb
    have HA := Lib.hid ha
    have HB := Lib.hid hb
    clear ha hb hx
    go_enter Try.func56, Try.ntmps56
    go_upto_region 1 with (fail)
    go_name_world W1 hW1
    have hbn : Below w.heap.size w W1 := by subst hW1; go_grown
    have hb0 := hbn
    clear hbn
    have p0n : W1.cell? ⟨w.heap.size, 0, none⟩ = some (.int .i64 a1) := by subst hW1; go_simp
    have p1n : W1.cell? ⟨w.heap.size, 1, none⟩ = some (.int .i64 a2) := by subst hW1; go_simp
    have p2n : W1.cell? ⟨w.heap.size, 2, none⟩ = some (.bool true) := by subst hW1; go_simp
    have q0n : W1.cell? ⟨w.heap.size + 1, 0, none⟩ = some (.int .i64 b1) := by subst hW1; go_simp
    have q1n : W1.cell? ⟨w.heap.size + 1, 1, none⟩ = some (.int .i64 b2) := by subst hW1; go_simp
    have q2n : W1.cell? ⟨w.heap.size + 1, 2, none⟩ = some (.bool false) := by subst hW1; go_simp
    have s0n : W1.cell? ⟨w.heap.size + 2, 0, none⟩ = some (.int .i64 0) := by subst hW1; go_simp
    have fs0n : W1.frozen? ⟨w.heap.size + 2, 0, none⟩ = false := by subst hW1; go_simp
    have s1n : W1.cell? ⟨w.heap.size + 2, 1, none⟩ = some (.int .i64 0) := by subst hW1; go_simp
    have fs1n : W1.frozen? ⟨w.heap.size + 2, 1, none⟩ = false := by subst hW1; go_simp
    have s2n : W1.cell? ⟨w.heap.size + 2, 2, none⟩ = some (.bool false) := by subst hW1; go_simp
    have fs2n : W1.frozen? ⟨w.heap.size + 2, 2, none⟩ = false := by subst hW1; go_simp
    clear hW1 
    have p0 := p0n
    have p1 := p1n
    have p2 := p2n
    have q0 := q0n
    have q1 := q1n
    have q2 := q2n
    have s0 := s0n
    have fs0 := fs0n
    have s1 := s1n
    have fs1 := fs1n
    have s2 := s2n
    have fs2 := fs2n
    clear p0n p1n p2n q0n q1n q2n s0n s1n s2n fs0n fs1n fs2n
    go_wp2_with fail
    refine (via (w0 := W1) (by go_grown) (HA.out _)).mono ?_
    rintro e W2 ⟨rfl, hc, hf, hz, hB⟩
    have p0n : W2.cell? ⟨w.heap.size, 0, none⟩ = some (.int .i64 a1) := (hc _ _ (cell_lt p0)).trans p0
    clear p0
    have p0 := p0n
    clear p0n
    have p1n : W2.cell? ⟨w.heap.size, 1, none⟩ = some (.int .i64 a2) := (hc _ _ (cell_lt p1)).trans p1
    clear p1
    have p1 := p1n
    clear p1n
    have p2n : W2.cell? ⟨w.heap.size, 2, none⟩ = some (.bool true) := (hc _ _ (cell_lt p2)).trans p2
    clear p2
    have p2 := p2n
    clear p2n
    have q0n : W2.cell? ⟨w.heap.size + 1, 0, none⟩ = some (.int .i64 b1) := (hc _ _ (cell_lt q0)).trans q0
    clear q0
    have q0 := q0n
    clear q0n
    have q1n : W2.cell? ⟨w.heap.size + 1, 1, none⟩ = some (.int .i64 b2) := (hc _ _ (cell_lt q1)).trans q1
    clear q1
    have q1 := q1n
    clear q1n
    have q2n : W2.cell? ⟨w.heap.size + 1, 2, none⟩ = some (.bool false) := (hc _ _ (cell_lt q2)).trans q2
    clear q2
    have q2 := q2n
    clear q2n
    have fs0n : W2.frozen? ⟨w.heap.size + 2, 0, none⟩ = false := (hf _ _ (cell_lt s0)).trans fs0
    clear fs0
    have fs0 := fs0n
    clear fs0n
    have s0n : W2.cell? ⟨w.heap.size + 2, 0, none⟩ = some (.int .i64 0) := (hc _ _ (cell_lt s0)).trans s0
    clear s0
    have s0 := s0n
    clear s0n
    have fs1n : W2.frozen? ⟨w.heap.size + 2, 1, none⟩ = false := (hf _ _ (cell_lt s1)).trans fs1
    clear fs1
    have fs1 := fs1n
    clear fs1n
    have s1n : W2.cell? ⟨w.heap.size + 2, 1, none⟩ = some (.int .i64 0) := (hc _ _ (cell_lt s1)).trans s1
    clear s1
    have s1 := s1n
    clear s1n
    have fs2n : W2.frozen? ⟨w.heap.size + 2, 2, none⟩ = false := (hf _ _ (cell_lt s2)).trans fs2
    clear fs2
    have fs2 := fs2n
    clear fs2n
    have s2n : W2.cell? ⟨w.heap.size + 2, 2, none⟩ = some (.bool false) := (hc _ _ (cell_lt s2)).trans s2
    clear s2
    have s2 := s2n
    clear s2n
    have hbn : Below w.heap.size w W2 := bthen hb0 hB
    clear hb0
    have hb0 := hbn
    clear hbn
    have hzW2 : W1.heap.size ≤ W2.heap.size := hz
    clear hc hf hB hz
    go_wp2_with fail
    refine (via (w0 := W2) (by go_grown) (HB.out _)).mono ?_
    rintro e W3 ⟨rfl, hc, hf, hz, hB⟩
    have p0n : W3.cell? ⟨w.heap.size, 0, none⟩ = some (.int .i64 a1) := (hc _ _ (cell_lt p0)).trans p0
    clear p0
    have p0 := p0n
    clear p0n
    have p1n : W3.cell? ⟨w.heap.size, 1, none⟩ = some (.int .i64 a2) := (hc _ _ (cell_lt p1)).trans p1
    clear p1
    have p1 := p1n
    clear p1n
    have p2n : W3.cell? ⟨w.heap.size, 2, none⟩ = some (.bool true) := (hc _ _ (cell_lt p2)).trans p2
    clear p2
    have p2 := p2n
    clear p2n
    have q0n : W3.cell? ⟨w.heap.size + 1, 0, none⟩ = some (.int .i64 b1) := (hc _ _ (cell_lt q0)).trans q0
    clear q0
    have q0 := q0n
    clear q0n
    have q1n : W3.cell? ⟨w.heap.size + 1, 1, none⟩ = some (.int .i64 b2) := (hc _ _ (cell_lt q1)).trans q1
    clear q1
    have q1 := q1n
    clear q1n
    have q2n : W3.cell? ⟨w.heap.size + 1, 2, none⟩ = some (.bool false) := (hc _ _ (cell_lt q2)).trans q2
    clear q2
    have q2 := q2n
    clear q2n
    have fs0n : W3.frozen? ⟨w.heap.size + 2, 0, none⟩ = false := (hf _ _ (cell_lt s0)).trans fs0
    clear fs0
    have fs0 := fs0n
    clear fs0n
    have s0n : W3.cell? ⟨w.heap.size + 2, 0, none⟩ = some (.int .i64 0) := (hc _ _ (cell_lt s0)).trans s0
    clear s0
    have s0 := s0n
    clear s0n
    have fs1n : W3.frozen? ⟨w.heap.size + 2, 1, none⟩ = false := (hf _ _ (cell_lt s1)).trans fs1
    clear fs1
    have fs1 := fs1n
    clear fs1n
    have s1n : W3.cell? ⟨w.heap.size + 2, 1, none⟩ = some (.int .i64 0) := (hc _ _ (cell_lt s1)).trans s1
    clear s1
    have s1 := s1n
    clear s1n
    have fs2n : W3.frozen? ⟨w.heap.size + 2, 2, none⟩ = false := (hf _ _ (cell_lt s2)).trans fs2
    clear fs2
    have fs2 := fs2n
    clear fs2n
    have s2n : W3.cell? ⟨w.heap.size + 2, 2, none⟩ = some (.bool false) := (hc _ _ (cell_lt s2)).trans s2
    clear s2
    have s2 := s2n
    clear s2n
    have hbn : Below w.heap.size w W3 := bthen hb0 hB
    clear hb0
    have hb0 := hbn
    clear hbn
    have hzW3 : W2.heap.size ≤ W3.heap.size := hz
    clear hc hf hB hz
    go_wp2_with fail
    refine bodyPost_ret (v := Iv.v ⟨0, 0, false⟩) (by simp [results, Try.results56, go_sem, s0, s1, s2]) rfl ⟨rfl, by have hbz := hb0.size; go_grown⟩
  have hx : bothV ⟨a1, a2, true⟩ ⟨b1, b2, true⟩ = betw (max a1 b1) (min a2 b2) := by simp [bothV, meet, h1, h2]
  rw [hx]
  rw [h1] at ha
  rw [h2] at hb
  have hs := fun W => c_rspan (max a1 b1) (min a2 b2) W
  generalize betw (max a1 b1) (min a2 b2) = r at hs ⊢
  obtain ⟨r1, r2, r3⟩ := r
  have HA := Lib.hid ha
  have HB := Lib.hid hb
  have HS := Lib.hid hs
  clear ha hb hx hs
  go_enter Try.func56, Try.ntmps56
  go_upto_region 1 with (fail)
  go_name_world W1 hW1
  have hbn : Below w.heap.size w W1 := by subst hW1; go_grown
  have hb0 := hbn
  clear hbn
  have p0n : W1.cell? ⟨w.heap.size, 0, none⟩ = some (.int .i64 a1) := by subst hW1; go_simp
  have p1n : W1.cell? ⟨w.heap.size, 1, none⟩ = some (.int .i64 a2) := by subst hW1; go_simp
  have p2n : W1.cell? ⟨w.heap.size, 2, none⟩ = some (.bool true) := by subst hW1; go_simp
  have q0n : W1.cell? ⟨w.heap.size + 1, 0, none⟩ = some (.int .i64 b1) := by subst hW1; go_simp
  have q1n : W1.cell? ⟨w.heap.size + 1, 1, none⟩ = some (.int .i64 b2) := by subst hW1; go_simp
  have q2n : W1.cell? ⟨w.heap.size + 1, 2, none⟩ = some (.bool true) := by subst hW1; go_simp
  have s0n : W1.cell? ⟨w.heap.size + 2, 0, none⟩ = some (.int .i64 0) := by subst hW1; go_simp
  have fs0n : W1.frozen? ⟨w.heap.size + 2, 0, none⟩ = false := by subst hW1; go_simp
  have s1n : W1.cell? ⟨w.heap.size + 2, 1, none⟩ = some (.int .i64 0) := by subst hW1; go_simp
  have fs1n : W1.frozen? ⟨w.heap.size + 2, 1, none⟩ = false := by subst hW1; go_simp
  have s2n : W1.cell? ⟨w.heap.size + 2, 2, none⟩ = some (.bool false) := by subst hW1; go_simp
  have fs2n : W1.frozen? ⟨w.heap.size + 2, 2, none⟩ = false := by subst hW1; go_simp
  clear hW1 
  have p0 := p0n
  have p1 := p1n
  have p2 := p2n
  have q0 := q0n
  have q1 := q1n
  have q2 := q2n
  have s0 := s0n
  have fs0 := fs0n
  have s1 := s1n
  have fs1 := fs1n
  have s2 := s2n
  have fs2 := fs2n
  clear p0n p1n p2n q0n q1n q2n s0n s1n s2n fs0n fs1n fs2n
  go_wp2_with fail
  refine (via (w0 := W1) (by go_grown) (HA.out _)).mono ?_
  rintro e W2 ⟨rfl, hc, hf, hz, hB⟩
  have p0n : W2.cell? ⟨w.heap.size, 0, none⟩ = some (.int .i64 a1) := (hc _ _ (cell_lt p0)).trans p0
  clear p0
  have p0 := p0n
  clear p0n
  have p1n : W2.cell? ⟨w.heap.size, 1, none⟩ = some (.int .i64 a2) := (hc _ _ (cell_lt p1)).trans p1
  clear p1
  have p1 := p1n
  clear p1n
  have p2n : W2.cell? ⟨w.heap.size, 2, none⟩ = some (.bool true) := (hc _ _ (cell_lt p2)).trans p2
  clear p2
  have p2 := p2n
  clear p2n
  have q0n : W2.cell? ⟨w.heap.size + 1, 0, none⟩ = some (.int .i64 b1) := (hc _ _ (cell_lt q0)).trans q0
  clear q0
  have q0 := q0n
  clear q0n
  have q1n : W2.cell? ⟨w.heap.size + 1, 1, none⟩ = some (.int .i64 b2) := (hc _ _ (cell_lt q1)).trans q1
  clear q1
  have q1 := q1n
  clear q1n
  have q2n : W2.cell? ⟨w.heap.size + 1, 2, none⟩ = some (.bool true) := (hc _ _ (cell_lt q2)).trans q2
  clear q2
  have q2 := q2n
  clear q2n
  have fs0n : W2.frozen? ⟨w.heap.size + 2, 0, none⟩ = false := (hf _ _ (cell_lt s0)).trans fs0
  clear fs0
  have fs0 := fs0n
  clear fs0n
  have s0n : W2.cell? ⟨w.heap.size + 2, 0, none⟩ = some (.int .i64 0) := (hc _ _ (cell_lt s0)).trans s0
  clear s0
  have s0 := s0n
  clear s0n
  have fs1n : W2.frozen? ⟨w.heap.size + 2, 1, none⟩ = false := (hf _ _ (cell_lt s1)).trans fs1
  clear fs1
  have fs1 := fs1n
  clear fs1n
  have s1n : W2.cell? ⟨w.heap.size + 2, 1, none⟩ = some (.int .i64 0) := (hc _ _ (cell_lt s1)).trans s1
  clear s1
  have s1 := s1n
  clear s1n
  have fs2n : W2.frozen? ⟨w.heap.size + 2, 2, none⟩ = false := (hf _ _ (cell_lt s2)).trans fs2
  clear fs2
  have fs2 := fs2n
  clear fs2n
  have s2n : W2.cell? ⟨w.heap.size + 2, 2, none⟩ = some (.bool false) := (hc _ _ (cell_lt s2)).trans s2
  clear s2
  have s2 := s2n
  clear s2n
  have hbn : Below w.heap.size w W2 := bthen hb0 hB
  clear hb0
  have hb0 := hbn
  clear hbn
  have hzW2 : W1.heap.size ≤ W2.heap.size := hz
  clear hc hf hB hz
  go_wp2_with fail
  refine (via (w0 := W2) (by go_grown) (HB.out _)).mono ?_
  rintro e W3 ⟨rfl, hc, hf, hz, hB⟩
  have p0n : W3.cell? ⟨w.heap.size, 0, none⟩ = some (.int .i64 a1) := (hc _ _ (cell_lt p0)).trans p0
  clear p0
  have p0 := p0n
  clear p0n
  have p1n : W3.cell? ⟨w.heap.size, 1, none⟩ = some (.int .i64 a2) := (hc _ _ (cell_lt p1)).trans p1
  clear p1
  have p1 := p1n
  clear p1n
  have p2n : W3.cell? ⟨w.heap.size, 2, none⟩ = some (.bool true) := (hc _ _ (cell_lt p2)).trans p2
  clear p2
  have p2 := p2n
  clear p2n
  have q0n : W3.cell? ⟨w.heap.size + 1, 0, none⟩ = some (.int .i64 b1) := (hc _ _ (cell_lt q0)).trans q0
  clear q0
  have q0 := q0n
  clear q0n
  have q1n : W3.cell? ⟨w.heap.size + 1, 1, none⟩ = some (.int .i64 b2) := (hc _ _ (cell_lt q1)).trans q1
  clear q1
  have q1 := q1n
  clear q1n
  have q2n : W3.cell? ⟨w.heap.size + 1, 2, none⟩ = some (.bool true) := (hc _ _ (cell_lt q2)).trans q2
  clear q2
  have q2 := q2n
  clear q2n
  have fs0n : W3.frozen? ⟨w.heap.size + 2, 0, none⟩ = false := (hf _ _ (cell_lt s0)).trans fs0
  clear fs0
  have fs0 := fs0n
  clear fs0n
  have s0n : W3.cell? ⟨w.heap.size + 2, 0, none⟩ = some (.int .i64 0) := (hc _ _ (cell_lt s0)).trans s0
  clear s0
  have s0 := s0n
  clear s0n
  have fs1n : W3.frozen? ⟨w.heap.size + 2, 1, none⟩ = false := (hf _ _ (cell_lt s1)).trans fs1
  clear fs1
  have fs1 := fs1n
  clear fs1n
  have s1n : W3.cell? ⟨w.heap.size + 2, 1, none⟩ = some (.int .i64 0) := (hc _ _ (cell_lt s1)).trans s1
  clear s1
  have s1 := s1n
  clear s1n
  have fs2n : W3.frozen? ⟨w.heap.size + 2, 2, none⟩ = false := (hf _ _ (cell_lt s2)).trans fs2
  clear fs2
  have fs2 := fs2n
  clear fs2n
  have s2n : W3.cell? ⟨w.heap.size + 2, 2, none⟩ = some (.bool false) := (hc _ _ (cell_lt s2)).trans s2
  clear s2
  have s2 := s2n
  clear s2n
  have hbn : Below w.heap.size w W3 := bthen hb0 hB
  clear hb0
  have hb0 := hbn
  clear hbn
  have hzW3 : W2.heap.size ≤ W3.heap.size := hz
  clear hc hf hB hz
  go_wp2_with fail
  refine (via (w0 := W3) (by go_grown) (HS.out _)).mono ?_
  rintro e W4 ⟨rfl, hc, hf, hz, hB⟩
  have p0n : W4.cell? ⟨w.heap.size, 0, none⟩ = some (.int .i64 a1) := (hc _ _ (cell_lt p0)).trans p0
  clear p0
  have p0 := p0n
  clear p0n
  have p1n : W4.cell? ⟨w.heap.size, 1, none⟩ = some (.int .i64 a2) := (hc _ _ (cell_lt p1)).trans p1
  clear p1
  have p1 := p1n
  clear p1n
  have p2n : W4.cell? ⟨w.heap.size, 2, none⟩ = some (.bool true) := (hc _ _ (cell_lt p2)).trans p2
  clear p2
  have p2 := p2n
  clear p2n
  have q0n : W4.cell? ⟨w.heap.size + 1, 0, none⟩ = some (.int .i64 b1) := (hc _ _ (cell_lt q0)).trans q0
  clear q0
  have q0 := q0n
  clear q0n
  have q1n : W4.cell? ⟨w.heap.size + 1, 1, none⟩ = some (.int .i64 b2) := (hc _ _ (cell_lt q1)).trans q1
  clear q1
  have q1 := q1n
  clear q1n
  have q2n : W4.cell? ⟨w.heap.size + 1, 2, none⟩ = some (.bool true) := (hc _ _ (cell_lt q2)).trans q2
  clear q2
  have q2 := q2n
  clear q2n
  have fs0n : W4.frozen? ⟨w.heap.size + 2, 0, none⟩ = false := (hf _ _ (cell_lt s0)).trans fs0
  clear fs0
  have fs0 := fs0n
  clear fs0n
  have s0n : W4.cell? ⟨w.heap.size + 2, 0, none⟩ = some (.int .i64 0) := (hc _ _ (cell_lt s0)).trans s0
  clear s0
  have s0 := s0n
  clear s0n
  have fs1n : W4.frozen? ⟨w.heap.size + 2, 1, none⟩ = false := (hf _ _ (cell_lt s1)).trans fs1
  clear fs1
  have fs1 := fs1n
  clear fs1n
  have s1n : W4.cell? ⟨w.heap.size + 2, 1, none⟩ = some (.int .i64 0) := (hc _ _ (cell_lt s1)).trans s1
  clear s1
  have s1 := s1n
  clear s1n
  have fs2n : W4.frozen? ⟨w.heap.size + 2, 2, none⟩ = false := (hf _ _ (cell_lt s2)).trans fs2
  clear fs2
  have fs2 := fs2n
  clear fs2n
  have s2n : W4.cell? ⟨w.heap.size + 2, 2, none⟩ = some (.bool false) := (hc _ _ (cell_lt s2)).trans s2
  clear s2
  have s2 := s2n
  clear s2n
  have hbn : Below w.heap.size w W4 := bthen hb0 hB
  clear hb0
  have hb0 := hbn
  clear hbn
  have hzW4 : W3.heap.size ≤ W4.heap.size := hz
  clear hc hf hB hz
  go_wp2_with fail
  refine bodyPost_ret (v := Iv.v ⟨r1, r2, r3⟩) (by simp [results, Try.results56, go_sem, s0, s1, s2]) rfl ⟨rfl, by have hbz := hb0.size; go_grown⟩
end Go.Proofs.Ytokpjaodchcheaa
