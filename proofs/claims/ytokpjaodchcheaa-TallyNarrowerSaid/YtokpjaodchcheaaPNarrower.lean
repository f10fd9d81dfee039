/- This text proves that the law TallyNarrower holds: for every two rates, a tally and two integers it returns true, and they read behind the call as they read before. -/
import Derived.Test.YtokpjaodchcheaaShut
import Derived.Test.YtokpjaodchcheaaRows
import Derived.Test.YtokpjaodchcheaaExact
import Derived.Test.YtokpjaodchcheaaNarrower
import Derived.Lib.MinMax
namespace Go.Proofs.Ytokpjaodchcheaa.tallyNarrower
open Go.ChangeShapes Go.WideShapes Go.ChangeAt Go.RowKit Go.Joins Go.Deep

theorem lowN_mono {m m2 n : Int} (hn : 0 ≤ n) (h : m ≤ m2) : lowN m2 n ≤ lowN m n := by
  unfold lowN
  have := Int.mul_le_mul_of_nonneg_left h hn
  omega
theorem highN_mono {m m2 n : Int} (hn : 0 ≤ n) (h : m ≤ m2) : highN m n ≤ highN m2 n := by
  unfold highN
  have := Int.mul_le_mul_of_nonneg_left h hn
  omega

set_option maxRecDepth 100000 in
set_option maxHeartbeats 8000000 in
theorem walk_a (m d m2 d2 i da s k wo more n : Int) (w : World) (h1 : narrowB m d m2 d2 = false) :
    Calls Try.prog 4 #[.agg #[.int .i64 m, .int .i64 d], .agg #[.int .i64 m2, .int .i64 d2], .agg #[.int .i64 i, .int .i64 da, .int .i64 s, .int .i64 k, .int .i64 wo], .int .i64 more, .int .i64 n] w fun e w' => e = .returned (.bool true) ∧ Below w.heap.size w w' := by
  have hN := fun W => c_Narrower m d m2 d2 W
  rw [h1] at hN
  have HN := Lib.hid hN
  clear hN
  clear h1
  go_enter Try.func4, Try.ntmps4
  go_upto_region 1 with (fail)
  go_name_world W1 hW1
  have hbn : Below w.heap.size w W1 := by subst hW1; go_grown
  have hb0 := hbn
  clear hbn
  have a0n : W1.cell? ⟨w.heap.size, 0, none⟩ = some (.int .i64 m) := by subst hW1; go_simp
  have a1n : W1.cell? ⟨w.heap.size, 1, none⟩ = some (.int .i64 d) := by subst hW1; go_simp
  have b0n : W1.cell? ⟨w.heap.size + 1, 0, none⟩ = some (.int .i64 m2) := by subst hW1; go_simp
  have b1n : W1.cell? ⟨w.heap.size + 1, 1, none⟩ = some (.int .i64 d2) := by subst hW1; go_simp
  have q0n : W1.cell? ⟨w.heap.size + 1 + 1, 0, none⟩ = some (.int .i64 i) := by subst hW1; go_simp
  have q1n : W1.cell? ⟨w.heap.size + 1 + 1, 1, none⟩ = some (.int .i64 da) := by subst hW1; go_simp
  have q2n : W1.cell? ⟨w.heap.size + 1 + 1, 2, none⟩ = some (.int .i64 s) := by subst hW1; go_simp
  have q3n : W1.cell? ⟨w.heap.size + 1 + 1, 3, none⟩ = some (.int .i64 k) := by subst hW1; go_simp
  have q4n : W1.cell? ⟨w.heap.size + 1 + 1, 4, none⟩ = some (.int .i64 wo) := by subst hW1; go_simp
  clear hW1 
  have a0 := a0n
  have a1 := a1n
  have b0 := b0n
  have b1 := b1n
  have q0 := q0n
  have q1 := q1n
  have q2 := q2n
  have q3 := q3n
  have q4 := q4n
  clear a0n a1n b0n b1n q0n q1n q2n q3n q4n 
  go_wp2_with fail
  refine (via (w0 := W1) (by go_grown) (HN.out _)).mono ?_
  rintro e W2 ⟨rfl, hc, hf, hz, hB⟩
  have a0n : W2.cell? ⟨w.heap.size, 0, none⟩ = some (.int .i64 m) := (hc _ _ (cell_lt a0)).trans a0
  clear a0
  have a0 := a0n
  clear a0n
  have a1n : W2.cell? ⟨w.heap.size, 1, none⟩ = some (.int .i64 d) := (hc _ _ (cell_lt a1)).trans a1
  clear a1
  have a1 := a1n
  clear a1n
  have b0n : W2.cell? ⟨w.heap.size + 1, 0, none⟩ = some (.int .i64 m2) := (hc _ _ (cell_lt b0)).trans b0
  clear b0
  have b0 := b0n
  clear b0n
  have b1n : W2.cell? ⟨w.heap.size + 1, 1, none⟩ = some (.int .i64 d2) := (hc _ _ (cell_lt b1)).trans b1
  clear b1
  have b1 := b1n
  clear b1n
  have q0n : W2.cell? ⟨w.heap.size + 1 + 1, 0, none⟩ = some (.int .i64 i) := (hc _ _ (cell_lt q0)).trans q0
  clear q0
  have q0 := q0n
  clear q0n
  have q1n : W2.cell? ⟨w.heap.size + 1 + 1, 1, none⟩ = some (.int .i64 da) := (hc _ _ (cell_lt q1)).trans q1
  clear q1
  have q1 := q1n
  clear q1n
  have q2n : W2.cell? ⟨w.heap.size + 1 + 1, 2, none⟩ = some (.int .i64 s) := (hc _ _ (cell_lt q2)).trans q2
  clear q2
  have q2 := q2n
  clear q2n
  have q3n : W2.cell? ⟨w.heap.size + 1 + 1, 3, none⟩ = some (.int .i64 k) := (hc _ _ (cell_lt q3)).trans q3
  clear q3
  have q3 := q3n
  clear q3n
  have q4n : W2.cell? ⟨w.heap.size + 1 + 1, 4, none⟩ = some (.int .i64 wo) := (hc _ _ (cell_lt q4)).trans q4
  clear q4
  have q4 := q4n
  clear q4n
  have hbn : Below w.heap.size w W2 := bthen hb0 hB
  clear hb0
  have hb0 := hbn
  clear hbn
  have hzW2 : W1.heap.size ≤ W2.heap.size := hz
  clear hc hf hB hz
  go_wp2_with fail
  refine (via (w0 := W2) (by go_grown) (c_counted _)).mono ?_
  rintro e W3 ⟨rfl, hc, hf, hz, hB⟩
  have a0n : W3.cell? ⟨w.heap.size, 0, none⟩ = some (.int .i64 m) := (hc _ _ (cell_lt a0)).trans a0
  clear a0
  have a0 := a0n
  clear a0n
  have a1n : W3.cell? ⟨w.heap.size, 1, none⟩ = some (.int .i64 d) := (hc _ _ (cell_lt a1)).trans a1
  clear a1
  have a1 := a1n
  clear a1n
  have b0n : W3.cell? ⟨w.heap.size + 1, 0, none⟩ = some (.int .i64 m2) := (hc _ _ (cell_lt b0)).trans b0
  clear b0
  have b0 := b0n
  clear b0n
  have b1n : W3.cell? ⟨w.heap.size + 1, 1, none⟩ = some (.int .i64 d2) := (hc _ _ (cell_lt b1)).trans b1
  clear b1
  have b1 := b1n
  clear b1n
  have q0n : W3.cell? ⟨w.heap.size + 1 + 1, 0, none⟩ = some (.int .i64 i) := (hc _ _ (cell_lt q0)).trans q0
  clear q0
  have q0 := q0n
  clear q0n
  have q1n : W3.cell? ⟨w.heap.size + 1 + 1, 1, none⟩ = some (.int .i64 da) := (hc _ _ (cell_lt q1)).trans q1
  clear q1
  have q1 := q1n
  clear q1n
  have q2n : W3.cell? ⟨w.heap.size + 1 + 1, 2, none⟩ = some (.int .i64 s) := (hc _ _ (cell_lt q2)).trans q2
  clear q2
  have q2 := q2n
  clear q2n
  have q3n : W3.cell? ⟨w.heap.size + 1 + 1, 3, none⟩ = some (.int .i64 k) := (hc _ _ (cell_lt q3)).trans q3
  clear q3
  have q3 := q3n
  clear q3n
  have q4n : W3.cell? ⟨w.heap.size + 1 + 1, 4, none⟩ = some (.int .i64 wo) := (hc _ _ (cell_lt q4)).trans q4
  clear q4
  have q4 := q4n
  clear q4n
  have hbn : Below w.heap.size w W3 := bthen hb0 hB
  clear hb0
  have hb0 := hbn
  clear hbn
  have hzW3 : W2.heap.size ≤ W3.heap.size := hz
  clear hc hf hB hz
  go_wp2_with fail
  go_ret
  exact ⟨rfl, by have hbz := hb0.size; go_grown⟩

set_option maxRecDepth 100000 in
set_option maxHeartbeats 8000000 in
theorem walk_b (m d m2 d2 i da s k wo more n : Int) (w : World) (h1 : narrowB m d m2 d2 = true) (h2 : inR 0 100000 n = false) :
    Calls Try.prog 4 #[.agg #[.int .i64 m, .int .i64 d], .agg #[.int .i64 m2, .int .i64 d2], .agg #[.int .i64 i, .int .i64 da, .int .i64 s, .int .i64 k, .int .i64 wo], .int .i64 more, .int .i64 n] w fun e w' => e = .returned (.bool true) ∧ Below w.heap.size w w' := by
  have hN := fun W => c_Narrower m d m2 d2 W
  rw [h1] at hN
  have HN := Lib.hid hN
  clear hN
  have hM := fun W => c_lnumber n W
  rw [h2] at hM
  have HM := Lib.hid hM
  clear hM
  clear h1 h2
  go_enter Try.func4, Try.ntmps4
  go_upto_region 1 with (fail)
  go_name_world W1 hW1
  have hbn : Below w.heap.size w W1 := by subst hW1; go_grown
  have hb0 := hbn
  clear hbn
  have a0n : W1.cell? ⟨w.heap.size, 0, none⟩ = some (.int .i64 m) := by subst hW1; go_simp
  have a1n : W1.cell? ⟨w.heap.size, 1, none⟩ = some (.int .i64 d) := by subst hW1; go_simp
  have b0n : W1.cell? ⟨w.heap.size + 1, 0, none⟩ = some (.int .i64 m2) := by subst hW1; go_simp
  have b1n : W1.cell? ⟨w.heap.size + 1, 1, none⟩ = some (.int .i64 d2) := by subst hW1; go_simp
  have q0n : W1.cell? ⟨w.heap.size + 1 + 1, 0, none⟩ = some (.int .i64 i) := by subst hW1; go_simp
  have q1n : W1.cell? ⟨w.heap.size + 1 + 1, 1, none⟩ = some (.int .i64 da) := by subst hW1; go_simp
  have q2n : W1.cell? ⟨w.heap.size + 1 + 1, 2, none⟩ = some (.int .i64 s) := by subst hW1; go_simp
  have q3n : W1.cell? ⟨w.heap.size + 1 + 1, 3, none⟩ = some (.int .i64 k) := by subst hW1; go_simp
  have q4n : W1.cell? ⟨w.heap.size + 1 + 1, 4, none⟩ = some (.int .i64 wo) := by subst hW1; go_simp
  clear hW1 
  have a0 := a0n
  have a1 := a1n
  have b0 := b0n
  have b1 := b1n
  have q0 := q0n
  have q1 := q1n
  have q2 := q2n
  have q3 := q3n
  have q4 := q4n
  clear a0n a1n b0n b1n q0n q1n q2n q3n q4n 
  go_wp2_with fail
  refine (via (w0 := W1) (by go_grown) (HN.out _)).mono ?_
  rintro e W2 ⟨rfl, hc, hf, hz, hB⟩
  have a0n : W2.cell? ⟨w.heap.size, 0, none⟩ = some (.int .i64 m) := (hc _ _ (cell_lt a0)).trans a0
  clear a0
  have a0 := a0n
  clear a0n
  have a1n : W2.cell? ⟨w.heap.size, 1, none⟩ = some (.int .i64 d) := (hc _ _ (cell_lt a1)).trans a1
  clear a1
  have a1 := a1n
  clear a1n
  have b0n : W2.cell? ⟨w.heap.size + 1, 0, none⟩ = some (.int .i64 m2) := (hc _ _ (cell_lt b0)).trans b0
  clear b0
  have b0 := b0n
  clear b0n
  have b1n : W2.cell? ⟨w.heap.size + 1, 1, none⟩ = some (.int .i64 d2) := (hc _ _ (cell_lt b1)).trans b1
  clear b1
  have b1 := b1n
  clear b1n
  have q0n : W2.cell? ⟨w.heap.size + 1 + 1, 0, none⟩ = some (.int .i64 i) := (hc _ _ (cell_lt q0)).trans q0
  clear q0
  have q0 := q0n
  clear q0n
  have q1n : W2.cell? ⟨w.heap.size + 1 + 1, 1, none⟩ = some (.int .i64 da) := (hc _ _ (cell_lt q1)).trans q1
  clear q1
  have q1 := q1n
  clear q1n
  have q2n : W2.cell? ⟨w.heap.size + 1 + 1, 2, none⟩ = some (.int .i64 s) := (hc _ _ (cell_lt q2)).trans q2
  clear q2
  have q2 := q2n
  clear q2n
  have q3n : W2.cell? ⟨w.heap.size + 1 + 1, 3, none⟩ = some (.int .i64 k) := (hc _ _ (cell_lt q3)).trans q3
  clear q3
  have q3 := q3n
  clear q3n
  have q4n : W2.cell? ⟨w.heap.size + 1 + 1, 4, none⟩ = some (.int .i64 wo) := (hc _ _ (cell_lt q4)).trans q4
  clear q4
  have q4 := q4n
  clear q4n
  have hbn : Below w.heap.size w W2 := bthen hb0 hB
  clear hb0
  have hb0 := hbn
  clear hbn
  have hzW2 : W1.heap.size ≤ W2.heap.size := hz
  clear hc hf hB hz
  go_wp2_with fail
  refine (via (w0 := W2) (by go_grown) (HM.out _)).mono ?_
  rintro e W3 ⟨rfl, hc, hf, hz, hB⟩
  have a0n : W3.cell? ⟨w.heap.size, 0, none⟩ = some (.int .i64 m) := (hc _ _ (cell_lt a0)).trans a0
  clear a0
  have a0 := a0n
  clear a0n
  have a1n : W3.cell? ⟨w.heap.size, 1, none⟩ = some (.int .i64 d) := (hc _ _ (cell_lt a1)).trans a1
  clear a1
  have a1 := a1n
  clear a1n
  have b0n : W3.cell? ⟨w.heap.size + 1, 0, none⟩ = some (.int .i64 m2) := (hc _ _ (cell_lt b0)).trans b0
  clear b0
  have b0 := b0n
  clear b0n
  have b1n : W3.cell? ⟨w.heap.size + 1, 1, none⟩ = some (.int .i64 d2) := (hc _ _ (cell_lt b1)).trans b1
  clear b1
  have b1 := b1n
  clear b1n
  have q0n : W3.cell? ⟨w.heap.size + 1 + 1, 0, none⟩ = some (.int .i64 i) := (hc _ _ (cell_lt q0)).trans q0
  clear q0
  have q0 := q0n
  clear q0n
  have q1n : W3.cell? ⟨w.heap.size + 1 + 1, 1, none⟩ = some (.int .i64 da) := (hc _ _ (cell_lt q1)).trans q1
  clear q1
  have q1 := q1n
  clear q1n
  have q2n : W3.cell? ⟨w.heap.size + 1 + 1, 2, none⟩ = some (.int .i64 s) := (hc _ _ (cell_lt q2)).trans q2
  clear q2
  have q2 := q2n
  clear q2n
  have q3n : W3.cell? ⟨w.heap.size + 1 + 1, 3, none⟩ = some (.int .i64 k) := (hc _ _ (cell_lt q3)).trans q3
  clear q3
  have q3 := q3n
  clear q3n
  have q4n : W3.cell? ⟨w.heap.size + 1 + 1, 4, none⟩ = some (.int .i64 wo) := (hc _ _ (cell_lt q4)).trans q4
  clear q4
  have q4 := q4n
  clear q4n
  have hbn : Below w.heap.size w W3 := bthen hb0 hB
  clear hb0
  have hb0 := hbn
  clear hbn
  have hzW3 : W2.heap.size ≤ W3.heap.size := hz
  clear hc hf hB hz
  go_wp2_with fail
  refine (via (w0 := W3) (by go_grown) (c_counted _)).mono ?_
  rintro e W4 ⟨rfl, hc, hf, hz, hB⟩
  have a0n : W4.cell? ⟨w.heap.size, 0, none⟩ = some (.int .i64 m) := (hc _ _ (cell_lt a0)).trans a0
  clear a0
  have a0 := a0n
  clear a0n
  have a1n : W4.cell? ⟨w.heap.size, 1, none⟩ = some (.int .i64 d) := (hc _ _ (cell_lt a1)).trans a1
  clear a1
  have a1 := a1n
  clear a1n
  have b0n : W4.cell? ⟨w.heap.size + 1, 0, none⟩ = some (.int .i64 m2) := (hc _ _ (cell_lt b0)).trans b0
  clear b0
  have b0 := b0n
  clear b0n
  have b1n : W4.cell? ⟨w.heap.size + 1, 1, none⟩ = some (.int .i64 d2) := (hc _ _ (cell_lt b1)).trans b1
  clear b1
  have b1 := b1n
  clear b1n
  have q0n : W4.cell? ⟨w.heap.size + 1 + 1, 0, none⟩ = some (.int .i64 i) := (hc _ _ (cell_lt q0)).trans q0
  clear q0
  have q0 := q0n
  clear q0n
  have q1n : W4.cell? ⟨w.heap.size + 1 + 1, 1, none⟩ = some (.int .i64 da) := (hc _ _ (cell_lt q1)).trans q1
  clear q1
  have q1 := q1n
  clear q1n
  have q2n : W4.cell? ⟨w.heap.size + 1 + 1, 2, none⟩ = some (.int .i64 s) := (hc _ _ (cell_lt q2)).trans q2
  clear q2
  have q2 := q2n
  clear q2n
  have q3n : W4.cell? ⟨w.heap.size + 1 + 1, 3, none⟩ = some (.int .i64 k) := (hc _ _ (cell_lt q3)).trans q3
  clear q3
  have q3 := q3n
  clear q3n
  have q4n : W4.cell? ⟨w.heap.size + 1 + 1, 4, none⟩ = some (.int .i64 wo) := (hc _ _ (cell_lt q4)).trans q4
  clear q4
  have q4 := q4n
  clear q4n
  have hbn : Below w.heap.size w W4 := bthen hb0 hB
  clear hb0
  have hb0 := hbn
  clear hbn
  have hzW4 : W3.heap.size ≤ W4.heap.size := hz
  clear hc hf hB hz
  go_wp2_with fail
  go_ret
  exact ⟨rfl, by have hbz := hb0.size; go_grown⟩

set_option maxRecDepth 100000 in
set_option maxHeartbeats 8000000 in
theorem walk_c (m d m2 d2 i da s k wo more n : Int) (w : World) (h1 : narrowB m d m2 d2 = true) (h2 : inR 0 100000 n = true) (h3 : more < 0) :
    Calls Try.prog 4 #[.agg #[.int .i64 m, .int .i64 d], .agg #[.int .i64 m2, .int .i64 d2], .agg #[.int .i64 i, .int .i64 da, .int .i64 s, .int .i64 k, .int .i64 wo], .int .i64 more, .int .i64 n] w fun e w' => e = .returned (.bool true) ∧ Below w.heap.size w w' := by
  have hN := fun W => c_Narrower m d m2 d2 W
  rw [h1] at hN
  have HN := Lib.hid hN
  clear hN
  have hM := fun W => c_lnumber n W
  rw [h2] at hM
  have HM := Lib.hid hM
  clear hM
  clear h1 h2
  go_enter Try.func4, Try.ntmps4
  go_upto_region 1 with (fail)
  go_name_world W1 hW1
  have hbn : Below w.heap.size w W1 := by subst hW1; go_grown
  have hb0 := hbn
  clear hbn
  have a0n : W1.cell? ⟨w.heap.size, 0, none⟩ = some (.int .i64 m) := by subst hW1; go_simp
  have a1n : W1.cell? ⟨w.heap.size, 1, none⟩ = some (.int .i64 d) := by subst hW1; go_simp
  have b0n : W1.cell? ⟨w.heap.size + 1, 0, none⟩ = some (.int .i64 m2) := by subst hW1; go_simp
  have b1n : W1.cell? ⟨w.heap.size + 1, 1, none⟩ = some (.int .i64 d2) := by subst hW1; go_simp
  have q0n : W1.cell? ⟨w.heap.size + 1 + 1, 0, none⟩ = some (.int .i64 i) := by subst hW1; go_simp
  have q1n : W1.cell? ⟨w.heap.size + 1 + 1, 1, none⟩ = some (.int .i64 da) := by subst hW1; go_simp
  have q2n : W1.cell? ⟨w.heap.size + 1 + 1, 2, none⟩ = some (.int .i64 s) := by subst hW1; go_simp
  have q3n : W1.cell? ⟨w.heap.size + 1 + 1, 3, none⟩ = some (.int .i64 k) := by subst hW1; go_simp
  have q4n : W1.cell? ⟨w.heap.size + 1 + 1, 4, none⟩ = some (.int .i64 wo) := by subst hW1; go_simp
  clear hW1 
  have a0 := a0n
  have a1 := a1n
  have b0 := b0n
  have b1 := b1n
  have q0 := q0n
  have q1 := q1n
  have q2 := q2n
  have q3 := q3n
  have q4 := q4n
  clear a0n a1n b0n b1n q0n q1n q2n q3n q4n 
  go_wp2_with fail
  refine (via (w0 := W1) (by go_grown) (HN.out _)).mono ?_
  rintro e W2 ⟨rfl, hc, hf, hz, hB⟩
  have a0n : W2.cell? ⟨w.heap.size, 0, none⟩ = some (.int .i64 m) := (hc _ _ (cell_lt a0)).trans a0
  clear a0
  have a0 := a0n
  clear a0n
  have a1n : W2.cell? ⟨w.heap.size, 1, none⟩ = some (.int .i64 d) := (hc _ _ (cell_lt a1)).trans a1
  clear a1
  have a1 := a1n
  clear a1n
  have b0n : W2.cell? ⟨w.heap.size + 1, 0, none⟩ = some (.int .i64 m2) := (hc _ _ (cell_lt b0)).trans b0
  clear b0
  have b0 := b0n
  clear b0n
  have b1n : W2.cell? ⟨w.heap.size + 1, 1, none⟩ = some (.int .i64 d2) := (hc _ _ (cell_lt b1)).trans b1
  clear b1
  have b1 := b1n
  clear b1n
  have q0n : W2.cell? ⟨w.heap.size + 1 + 1, 0, none⟩ = some (.int .i64 i) := (hc _ _ (cell_lt q0)).trans q0
  clear q0
  have q0 := q0n
  clear q0n
  have q1n : W2.cell? ⟨w.heap.size + 1 + 1, 1, none⟩ = some (.int .i64 da) := (hc _ _ (cell_lt q1)).trans q1
  clear q1
  have q1 := q1n
  clear q1n
  have q2n : W2.cell? ⟨w.heap.size + 1 + 1, 2, none⟩ = some (.int .i64 s) := (hc _ _ (cell_lt q2)).trans q2
  clear q2
  have q2 := q2n
  clear q2n
  have q3n : W2.cell? ⟨w.heap.size + 1 + 1, 3, none⟩ = some (.int .i64 k) := (hc _ _ (cell_lt q3)).trans q3
  clear q3
  have q3 := q3n
  clear q3n
  have q4n : W2.cell? ⟨w.heap.size + 1 + 1, 4, none⟩ = some (.int .i64 wo) := (hc _ _ (cell_lt q4)).trans q4
  clear q4
  have q4 := q4n
  clear q4n
  have hbn : Below w.heap.size w W2 := bthen hb0 hB
  clear hb0
  have hb0 := hbn
  clear hbn
  have hzW2 : W1.heap.size ≤ W2.heap.size := hz
  clear hc hf hB hz
  go_wp2_with fail
  refine (via (w0 := W2) (by go_grown) (HM.out _)).mono ?_
  rintro e W3 ⟨rfl, hc, hf, hz, hB⟩
  have a0n : W3.cell? ⟨w.heap.size, 0, none⟩ = some (.int .i64 m) := (hc _ _ (cell_lt a0)).trans a0
  clear a0
  have a0 := a0n
  clear a0n
  have a1n : W3.cell? ⟨w.heap.size, 1, none⟩ = some (.int .i64 d) := (hc _ _ (cell_lt a1)).trans a1
  clear a1
  have a1 := a1n
  clear a1n
  have b0n : W3.cell? ⟨w.heap.size + 1, 0, none⟩ = some (.int .i64 m2) := (hc _ _ (cell_lt b0)).trans b0
  clear b0
  have b0 := b0n
  clear b0n
  have b1n : W3.cell? ⟨w.heap.size + 1, 1, none⟩ = some (.int .i64 d2) := (hc _ _ (cell_lt b1)).trans b1
  clear b1
  have b1 := b1n
  clear b1n
  have q0n : W3.cell? ⟨w.heap.size + 1 + 1, 0, none⟩ = some (.int .i64 i) := (hc _ _ (cell_lt q0)).trans q0
  clear q0
  have q0 := q0n
  clear q0n
  have q1n : W3.cell? ⟨w.heap.size + 1 + 1, 1, none⟩ = some (.int .i64 da) := (hc _ _ (cell_lt q1)).trans q1
  clear q1
  have q1 := q1n
  clear q1n
  have q2n : W3.cell? ⟨w.heap.size + 1 + 1, 2, none⟩ = some (.int .i64 s) := (hc _ _ (cell_lt q2)).trans q2
  clear q2
  have q2 := q2n
  clear q2n
  have q3n : W3.cell? ⟨w.heap.size + 1 + 1, 3, none⟩ = some (.int .i64 k) := (hc _ _ (cell_lt q3)).trans q3
  clear q3
  have q3 := q3n
  clear q3n
  have q4n : W3.cell? ⟨w.heap.size + 1 + 1, 4, none⟩ = some (.int .i64 wo) := (hc _ _ (cell_lt q4)).trans q4
  clear q4
  have q4 := q4n
  clear q4n
  have hbn : Below w.heap.size w W3 := bthen hb0 hB
  clear hb0
  have hb0 := hbn
  clear hbn
  have hzW3 : W2.heap.size ≤ W3.heap.size := hz
  clear hc hf hB hz
  go_wp2_with fail
  refine (via (w0 := W3) (by go_grown) (c_counted _)).mono ?_
  rintro e W4 ⟨rfl, hc, hf, hz, hB⟩
  have a0n : W4.cell? ⟨w.heap.size, 0, none⟩ = some (.int .i64 m) := (hc _ _ (cell_lt a0)).trans a0
  clear a0
  have a0 := a0n
  clear a0n
  have a1n : W4.cell? ⟨w.heap.size, 1, none⟩ = some (.int .i64 d) := (hc _ _ (cell_lt a1)).trans a1
  clear a1
  have a1 := a1n
  clear a1n
  have b0n : W4.cell? ⟨w.heap.size + 1, 0, none⟩ = some (.int .i64 m2) := (hc _ _ (cell_lt b0)).trans b0
  clear b0
  have b0 := b0n
  clear b0n
  have b1n : W4.cell? ⟨w.heap.size + 1, 1, none⟩ = some (.int .i64 d2) := (hc _ _ (cell_lt b1)).trans b1
  clear b1
  have b1 := b1n
  clear b1n
  have q0n : W4.cell? ⟨w.heap.size + 1 + 1, 0, none⟩ = some (.int .i64 i) := (hc _ _ (cell_lt q0)).trans q0
  clear q0
  have q0 := q0n
  clear q0n
  have q1n : W4.cell? ⟨w.heap.size + 1 + 1, 1, none⟩ = some (.int .i64 da) := (hc _ _ (cell_lt q1)).trans q1
  clear q1
  have q1 := q1n
  clear q1n
  have q2n : W4.cell? ⟨w.heap.size + 1 + 1, 2, none⟩ = some (.int .i64 s) := (hc _ _ (cell_lt q2)).trans q2
  clear q2
  have q2 := q2n
  clear q2n
  have q3n : W4.cell? ⟨w.heap.size + 1 + 1, 3, none⟩ = some (.int .i64 k) := (hc _ _ (cell_lt q3)).trans q3
  clear q3
  have q3 := q3n
  clear q3n
  have q4n : W4.cell? ⟨w.heap.size + 1 + 1, 4, none⟩ = some (.int .i64 wo) := (hc _ _ (cell_lt q4)).trans q4
  clear q4
  have q4 := q4n
  clear q4n
  have hbn : Below w.heap.size w W4 := bthen hb0 hB
  clear hb0
  have hb0 := hbn
  clear hbn
  have hzW4 : W3.heap.size ≤ W4.heap.size := hz
  clear hc hf hB hz
  go_wp2_with fail
  go_ret
  exact ⟨rfl, by have hbz := hb0.size; go_grown⟩

set_option maxRecDepth 100000 in
set_option maxHeartbeats 8000000 in
theorem walk_d (m d m2 d2 i da s k wo more n : Int) (w : World) (h1 : narrowB m d m2 d2 = true) (h2 : inR 0 100000 n = true) (h3 : 10000 < more) :
    Calls Try.prog 4 #[.agg #[.int .i64 m, .int .i64 d], .agg #[.int .i64 m2, .int .i64 d2], .agg #[.int .i64 i, .int .i64 da, .int .i64 s, .int .i64 k, .int .i64 wo], .int .i64 more, .int .i64 n] w fun e w' => e = .returned (.bool true) ∧ Below w.heap.size w w' := by
  have hN := fun W => c_Narrower m d m2 d2 W
  rw [h1] at hN
  have HN := Lib.hid hN
  clear hN
  have hM := fun W => c_lnumber n W
  rw [h2] at hM
  have HM := Lib.hid hM
  clear hM
  have h3b : ¬ more < 0 := by omega
  clear h1 h2
  go_enter Try.func4, Try.ntmps4
  go_upto_region 1 with (fail)
  go_name_world W1 hW1
  have hbn : Below w.heap.size w W1 := by subst hW1; go_grown
  have hb0 := hbn
  clear hbn
  have a0n : W1.cell? ⟨w.heap.size, 0, none⟩ = some (.int .i64 m) := by subst hW1; go_simp
  have a1n : W1.cell? ⟨w.heap.size, 1, none⟩ = some (.int .i64 d) := by subst hW1; go_simp
  have b0n : W1.cell? ⟨w.heap.size + 1, 0, none⟩ = some (.int .i64 m2) := by subst hW1; go_simp
  have b1n : W1.cell? ⟨w.heap.size + 1, 1, none⟩ = some (.int .i64 d2) := by subst hW1; go_simp
  have q0n : W1.cell? ⟨w.heap.size + 1 + 1, 0, none⟩ = some (.int .i64 i) := by subst hW1; go_simp
  have q1n : W1.cell? ⟨w.heap.size + 1 + 1, 1, none⟩ = some (.int .i64 da) := by subst hW1; go_simp
  have q2n : W1.cell? ⟨w.heap.size + 1 + 1, 2, none⟩ = some (.int .i64 s) := by subst hW1; go_simp
  have q3n : W1.cell? ⟨w.heap.size + 1 + 1, 3, none⟩ = some (.int .i64 k) := by subst hW1; go_simp
  have q4n : W1.cell? ⟨w.heap.size + 1 + 1, 4, none⟩ = some (.int .i64 wo) := by subst hW1; go_simp
  clear hW1 
  have a0 := a0n
  have a1 := a1n
  have b0 := b0n
  have b1 := b1n
  have q0 := q0n
  have q1 := q1n
  have q2 := q2n
  have q3 := q3n
  have q4 := q4n
  clear a0n a1n b0n b1n q0n q1n q2n q3n q4n 
  go_wp2_with fail
  refine (via (w0 := W1) (by go_grown) (HN.out _)).mono ?_
  rintro e W2 ⟨rfl, hc, hf, hz, hB⟩
  have a0n : W2.cell? ⟨w.heap.size, 0, none⟩ = some (.int .i64 m) := (hc _ _ (cell_lt a0)).trans a0
  clear a0
  have a0 := a0n
  clear a0n
  have a1n : W2.cell? ⟨w.heap.size, 1, none⟩ = some (.int .i64 d) := (hc _ _ (cell_lt a1)).trans a1
  clear a1
  have a1 := a1n
  clear a1n
  have b0n : W2.cell? ⟨w.heap.size + 1, 0, none⟩ = some (.int .i64 m2) := (hc _ _ (cell_lt b0)).trans b0
  clear b0
  have b0 := b0n
  clear b0n
  have b1n : W2.cell? ⟨w.heap.size + 1, 1, none⟩ = some (.int .i64 d2) := (hc _ _ (cell_lt b1)).trans b1
  clear b1
  have b1 := b1n
  clear b1n
  have q0n : W2.cell? ⟨w.heap.size + 1 + 1, 0, none⟩ = some (.int .i64 i) := (hc _ _ (cell_lt q0)).trans q0
  clear q0
  have q0 := q0n
  clear q0n
  have q1n : W2.cell? ⟨w.heap.size + 1 + 1, 1, none⟩ = some (.int .i64 da) := (hc _ _ (cell_lt q1)).trans q1
  clear q1
  have q1 := q1n
  clear q1n
  have q2n : W2.cell? ⟨w.heap.size + 1 + 1, 2, none⟩ = some (.int .i64 s) := (hc _ _ (cell_lt q2)).trans q2
  clear q2
  have q2 := q2n
  clear q2n
  have q3n : W2.cell? ⟨w.heap.size + 1 + 1, 3, none⟩ = some (.int .i64 k) := (hc _ _ (cell_lt q3)).trans q3
  clear q3
  have q3 := q3n
  clear q3n
  have q4n : W2.cell? ⟨w.heap.size + 1 + 1, 4, none⟩ = some (.int .i64 wo) := (hc _ _ (cell_lt q4)).trans q4
  clear q4
  have q4 := q4n
  clear q4n
  have hbn : Below w.heap.size w W2 := bthen hb0 hB
  clear hb0
  have hb0 := hbn
  clear hbn
  have hzW2 : W1.heap.size ≤ W2.heap.size := hz
  clear hc hf hB hz
  go_wp2_with fail
  refine (via (w0 := W2) (by go_grown) (HM.out _)).mono ?_
  rintro e W3 ⟨rfl, hc, hf, hz, hB⟩
  have a0n : W3.cell? ⟨w.heap.size, 0, none⟩ = some (.int .i64 m) := (hc _ _ (cell_lt a0)).trans a0
  clear a0
  have a0 := a0n
  clear a0n
  have a1n : W3.cell? ⟨w.heap.size, 1, none⟩ = some (.int .i64 d) := (hc _ _ (cell_lt a1)).trans a1
  clear a1
  have a1 := a1n
  clear a1n
  have b0n : W3.cell? ⟨w.heap.size + 1, 0, none⟩ = some (.int .i64 m2) := (hc _ _ (cell_lt b0)).trans b0
  clear b0
  have b0 := b0n
  clear b0n
  have b1n : W3.cell? ⟨w.heap.size + 1, 1, none⟩ = some (.int .i64 d2) := (hc _ _ (cell_lt b1)).trans b1
  clear b1
  have b1 := b1n
  clear b1n
  have q0n : W3.cell? ⟨w.heap.size + 1 + 1, 0, none⟩ = some (.int .i64 i) := (hc _ _ (cell_lt q0)).trans q0
  clear q0
  have q0 := q0n
  clear q0n
  have q1n : W3.cell? ⟨w.heap.size + 1 + 1, 1, none⟩ = some (.int .i64 da) := (hc _ _ (cell_lt q1)).trans q1
  clear q1
  have q1 := q1n
  clear q1n
  have q2n : W3.cell? ⟨w.heap.size + 1 + 1, 2, none⟩ = some (.int .i64 s) := (hc _ _ (cell_lt q2)).trans q2
  clear q2
  have q2 := q2n
  clear q2n
  have q3n : W3.cell? ⟨w.heap.size + 1 + 1, 3, none⟩ = some (.int .i64 k) := (hc _ _ (cell_lt q3)).trans q3
  clear q3
  have q3 := q3n
  clear q3n
  have q4n : W3.cell? ⟨w.heap.size + 1 + 1, 4, none⟩ = some (.int .i64 wo) := (hc _ _ (cell_lt q4)).trans q4
  clear q4
  have q4 := q4n
  clear q4n
  have hbn : Below w.heap.size w W3 := bthen hb0 hB
  clear hb0
  have hb0 := hbn
  clear hbn
  have hzW3 : W2.heap.size ≤ W3.heap.size := hz
  clear hc hf hB hz
  go_wp2_with fail
  refine (via (w0 := W3) (by go_grown) (c_counted _)).mono ?_
  rintro e W4 ⟨rfl, hc, hf, hz, hB⟩
  have a0n : W4.cell? ⟨w.heap.size, 0, none⟩ = some (.int .i64 m) := (hc _ _ (cell_lt a0)).trans a0
  clear a0
  have a0 := a0n
  clear a0n
  have a1n : W4.cell? ⟨w.heap.size, 1, none⟩ = some (.int .i64 d) := (hc _ _ (cell_lt a1)).trans a1
  clear a1
  have a1 := a1n
  clear a1n
  have b0n : W4.cell? ⟨w.heap.size + 1, 0, none⟩ = some (.int .i64 m2) := (hc _ _ (cell_lt b0)).trans b0
  clear b0
  have b0 := b0n
  clear b0n
  have b1n : W4.cell? ⟨w.heap.size + 1, 1, none⟩ = some (.int .i64 d2) := (hc _ _ (cell_lt b1)).trans b1
  clear b1
  have b1 := b1n
  clear b1n
  have q0n : W4.cell? ⟨w.heap.size + 1 + 1, 0, none⟩ = some (.int .i64 i) := (hc _ _ (cell_lt q0)).trans q0
  clear q0
  have q0 := q0n
  clear q0n
  have q1n : W4.cell? ⟨w.heap.size + 1 + 1, 1, none⟩ = some (.int .i64 da) := (hc _ _ (cell_lt q1)).trans q1
  clear q1
  have q1 := q1n
  clear q1n
  have q2n : W4.cell? ⟨w.heap.size + 1 + 1, 2, none⟩ = some (.int .i64 s) := (hc _ _ (cell_lt q2)).trans q2
  clear q2
  have q2 := q2n
  clear q2n
  have q3n : W4.cell? ⟨w.heap.size + 1 + 1, 3, none⟩ = some (.int .i64 k) := (hc _ _ (cell_lt q3)).trans q3
  clear q3
  have q3 := q3n
  clear q3n
  have q4n : W4.cell? ⟨w.heap.size + 1 + 1, 4, none⟩ = some (.int .i64 wo) := (hc _ _ (cell_lt q4)).trans q4
  clear q4
  have q4 := q4n
  clear q4n
  have hbn : Below w.heap.size w W4 := bthen hb0 hB
  clear hb0
  have hb0 := hbn
  clear hbn
  have hzW4 : W3.heap.size ≤ W4.heap.size := hz
  clear hc hf hB hz
  go_wp2_with fail
  go_ret
  exact ⟨rfl, by have hbz := hb0.size; go_grown⟩

set_option maxRecDepth 100000 in
set_option maxHeartbeats 8000000 in
theorem walk_e (m d m2 d2 i da s k wo more n : Int) (w : World) (h1 : narrowB m d m2 d2 = true) (h2 : inR 0 100000 n = true) (h3 : 0 ≤ more ∧ more ≤ 10000) (h4 : countB i da s k wo = false) :
    Calls Try.prog 4 #[.agg #[.int .i64 m, .int .i64 d], .agg #[.int .i64 m2, .int .i64 d2], .agg #[.int .i64 i, .int .i64 da, .int .i64 s, .int .i64 k, .int .i64 wo], .int .i64 more, .int .i64 n] w fun e w' => e = .returned (.bool true) ∧ Below w.heap.size w w' := by
  have hN := fun W => c_Narrower m d m2 d2 W
  rw [h1] at hN
  have HN := Lib.hid hN
  clear hN
  have hM := fun W => c_lnumber n W
  rw [h2] at hM
  have HM := Lib.hid hM
  clear hM
  obtain ⟨h3a, h3b⟩ := h3
  have hA := fun W => c_OfCount m d i da s k wo W
  have hB := fun W => c_OfCount m2 d2 i da s k wo W
  simp only [okTT, h4, Bool.and_false, Bool.false_eq_true, if_false, Iv.none] at hA hB
  have hC := fun W => c_OfCount m d i da s k (min 10000 (wrap64 (wo + more))) W
  obtain ⟨zl, zh, zs, g, hg⟩ : ∃ zl zh zs g, (if okTT m d i da s k (min 10000 (wrap64 (wo + more))) then Value.tuple #[(fitIv m d k (k + (min 10000 (wrap64 (wo + more))))).v, .int .i64 0] else Value.tuple #[Iv.none.v, .int .i64 1]) = Value.tuple #[.agg #[.int .i64 zl, .int .i64 zh, .bool zs], .int .i64 g] := by
    split <;> exact ⟨_, _, _, _, rfl⟩
  rw [hg] at hC
  have HA := Lib.hid hA
  have HB := Lib.hid hB
  have HC := Lib.hid hC
  clear h1 h2 hA hB hC hg h4
  go_enter Try.func4, Try.ntmps4
  go_upto_region 1 with (fail)
  go_name_world W1 hW1
  have hbn : Below w.heap.size w W1 := by subst hW1; go_grown
  have hb0 := hbn
  clear hbn
  have a0n : W1.cell? ⟨w.heap.size, 0, none⟩ = some (.int .i64 m) := by subst hW1; go_simp
  have a1n : W1.cell? ⟨w.heap.size, 1, none⟩ = some (.int .i64 d) := by subst hW1; go_simp
  have b0n : W1.cell? ⟨w.heap.size + 1, 0, none⟩ = some (.int .i64 m2) := by subst hW1; go_simp
  have b1n : W1.cell? ⟨w.heap.size + 1, 1, none⟩ = some (.int .i64 d2) := by subst hW1; go_simp
  have q0n : W1.cell? ⟨w.heap.size + 1 + 1, 0, none⟩ = some (.int .i64 i) := by subst hW1; go_simp
  have q1n : W1.cell? ⟨w.heap.size + 1 + 1, 1, none⟩ = some (.int .i64 da) := by subst hW1; go_simp
  have q2n : W1.cell? ⟨w.heap.size + 1 + 1, 2, none⟩ = some (.int .i64 s) := by subst hW1; go_simp
  have q3n : W1.cell? ⟨w.heap.size + 1 + 1, 3, none⟩ = some (.int .i64 k) := by subst hW1; go_simp
  have q4n : W1.cell? ⟨w.heap.size + 1 + 1, 4, none⟩ = some (.int .i64 wo) := by subst hW1; go_simp
  clear hW1 
  have a0 := a0n
  have a1 := a1n
  have b0 := b0n
  have b1 := b1n
  have q0 := q0n
  have q1 := q1n
  have q2 := q2n
  have q3 := q3n
  have q4 := q4n
  clear a0n a1n b0n b1n q0n q1n q2n q3n q4n 
  go_wp2_with fail
  refine (via (w0 := W1) (by go_grown) (HN.out _)).mono ?_
  rintro e W2 ⟨rfl, hc, hf, hz, hB⟩
  have a0n : W2.cell? ⟨w.heap.size, 0, none⟩ = some (.int .i64 m) := (hc _ _ (cell_lt a0)).trans a0
  clear a0
  have a0 := a0n
  clear a0n
  have a1n : W2.cell? ⟨w.heap.size, 1, none⟩ = some (.int .i64 d) := (hc _ _ (cell_lt a1)).trans a1
  clear a1
  have a1 := a1n
  clear a1n
  have b0n : W2.cell? ⟨w.heap.size + 1, 0, none⟩ = some (.int .i64 m2) := (hc _ _ (cell_lt b0)).trans b0
  clear b0
  have b0 := b0n
  clear b0n
  have b1n : W2.cell? ⟨w.heap.size + 1, 1, none⟩ = some (.int .i64 d2) := (hc _ _ (cell_lt b1)).trans b1
  clear b1
  have b1 := b1n
  clear b1n
  have q0n : W2.cell? ⟨w.heap.size + 1 + 1, 0, none⟩ = some (.int .i64 i) := (hc _ _ (cell_lt q0)).trans q0
  clear q0
  have q0 := q0n
  clear q0n
  have q1n : W2.cell? ⟨w.heap.size + 1 + 1, 1, none⟩ = some (.int .i64 da) := (hc _ _ (cell_lt q1)).trans q1
  clear q1
  have q1 := q1n
  clear q1n
  have q2n : W2.cell? ⟨w.heap.size + 1 + 1, 2, none⟩ = some (.int .i64 s) := (hc _ _ (cell_lt q2)).trans q2
  clear q2
  have q2 := q2n
  clear q2n
  have q3n : W2.cell? ⟨w.heap.size + 1 + 1, 3, none⟩ = some (.int .i64 k) := (hc _ _ (cell_lt q3)).trans q3
  clear q3
  have q3 := q3n
  clear q3n
  have q4n : W2.cell? ⟨w.heap.size + 1 + 1, 4, none⟩ = some (.int .i64 wo) := (hc _ _ (cell_lt q4)).trans q4
  clear q4
  have q4 := q4n
  clear q4n
  have hbn : Below w.heap.size w W2 := bthen hb0 hB
  clear hb0
  have hb0 := hbn
  clear hbn
  have hzW2 : W1.heap.size ≤ W2.heap.size := hz
  clear hc hf hB hz
  go_wp2_with fail
  refine (via (w0 := W2) (by go_grown) (HM.out _)).mono ?_
  rintro e W3 ⟨rfl, hc, hf, hz, hB⟩
  have a0n : W3.cell? ⟨w.heap.size, 0, none⟩ = some (.int .i64 m) := (hc _ _ (cell_lt a0)).trans a0
  clear a0
  have a0 := a0n
  clear a0n
  have a1n : W3.cell? ⟨w.heap.size, 1, none⟩ = some (.int .i64 d) := (hc _ _ (cell_lt a1)).trans a1
  clear a1
  have a1 := a1n
  clear a1n
  have b0n : W3.cell? ⟨w.heap.size + 1, 0, none⟩ = some (.int .i64 m2) := (hc _ _ (cell_lt b0)).trans b0
  clear b0
  have b0 := b0n
  clear b0n
  have b1n : W3.cell? ⟨w.heap.size + 1, 1, none⟩ = some (.int .i64 d2) := (hc _ _ (cell_lt b1)).trans b1
  clear b1
  have b1 := b1n
  clear b1n
  have q0n : W3.cell? ⟨w.heap.size + 1 + 1, 0, none⟩ = some (.int .i64 i) := (hc _ _ (cell_lt q0)).trans q0
  clear q0
  have q0 := q0n
  clear q0n
  have q1n : W3.cell? ⟨w.heap.size + 1 + 1, 1, none⟩ = some (.int .i64 da) := (hc _ _ (cell_lt q1)).trans q1
  clear q1
  have q1 := q1n
  clear q1n
  have q2n : W3.cell? ⟨w.heap.size + 1 + 1, 2, none⟩ = some (.int .i64 s) := (hc _ _ (cell_lt q2)).trans q2
  clear q2
  have q2 := q2n
  clear q2n
  have q3n : W3.cell? ⟨w.heap.size + 1 + 1, 3, none⟩ = some (.int .i64 k) := (hc _ _ (cell_lt q3)).trans q3
  clear q3
  have q3 := q3n
  clear q3n
  have q4n : W3.cell? ⟨w.heap.size + 1 + 1, 4, none⟩ = some (.int .i64 wo) := (hc _ _ (cell_lt q4)).trans q4
  clear q4
  have q4 := q4n
  clear q4n
  have hbn : Below w.heap.size w W3 := bthen hb0 hB
  clear hb0
  have hb0 := hbn
  clear hbn
  have hzW3 : W2.heap.size ≤ W3.heap.size := hz
  clear hc hf hB hz
  go_upto_region 3 with (fail)
  have zq := cell_lt q4
  go_upto_region 5 with (fail)
  go_name_world W4 hW4
  have hbz := hb0.size
  have hbn : Below w.heap.size w W4 := by subst hW4; go_grown
  clear hb0 hbz
  have hb0 := hbn
  clear hbn
  have hbk : Below W3.heap.size W3 W4 := by subst hW4; go_grown
  have a0n : W4.cell? ⟨w.heap.size, 0, none⟩ = some (.int .i64 m) := ((bcell hbk).1 _ _ (cell_lt a0)).trans a0
  have a1n : W4.cell? ⟨w.heap.size, 1, none⟩ = some (.int .i64 d) := ((bcell hbk).1 _ _ (cell_lt a1)).trans a1
  have b0n : W4.cell? ⟨w.heap.size + 1, 0, none⟩ = some (.int .i64 m2) := ((bcell hbk).1 _ _ (cell_lt b0)).trans b0
  have b1n : W4.cell? ⟨w.heap.size + 1, 1, none⟩ = some (.int .i64 d2) := ((bcell hbk).1 _ _ (cell_lt b1)).trans b1
  have q0n : W4.cell? ⟨w.heap.size + 1 + 1, 0, none⟩ = some (.int .i64 i) := ((bcell hbk).1 _ _ (cell_lt q0)).trans q0
  have q1n : W4.cell? ⟨w.heap.size + 1 + 1, 1, none⟩ = some (.int .i64 da) := ((bcell hbk).1 _ _ (cell_lt q1)).trans q1
  have q2n : W4.cell? ⟨w.heap.size + 1 + 1, 2, none⟩ = some (.int .i64 s) := ((bcell hbk).1 _ _ (cell_lt q2)).trans q2
  have q3n : W4.cell? ⟨w.heap.size + 1 + 1, 3, none⟩ = some (.int .i64 k) := ((bcell hbk).1 _ _ (cell_lt q3)).trans q3
  have q4n : W4.cell? ⟨w.heap.size + 1 + 1, 4, none⟩ = some (.int .i64 wo) := ((bcell hbk).1 _ _ (cell_lt q4)).trans q4
  clear hbk
  have u0n : W4.cell? ⟨W3.heap.size, 0, none⟩ = some (.int .i64 i) := by subst hW4; go_simp
  have u1n : W4.cell? ⟨W3.heap.size, 1, none⟩ = some (.int .i64 da) := by subst hW4; go_simp
  have u2n : W4.cell? ⟨W3.heap.size, 2, none⟩ = some (.int .i64 s) := by subst hW4; go_simp
  have u3n : W4.cell? ⟨W3.heap.size, 3, none⟩ = some (.int .i64 k) := by subst hW4; go_simp
  have u4n : W4.cell? ⟨W3.heap.size, 4, none⟩ = some (.int .i64 (min 10000 (wrap64 (wo + more)))) := by subst hW4; go_simp
  clear hW4 a0 a1 b0 b1 q0 q1 q2 q3 q4
  have a0 := a0n
  have a1 := a1n
  have b0 := b0n
  have b1 := b1n
  have q0 := q0n
  have q1 := q1n
  have q2 := q2n
  have q3 := q3n
  have q4 := q4n
  have u0 := u0n
  have u1 := u1n
  have u2 := u2n
  have u3 := u3n
  have u4 := u4n
  clear a0n a1n b0n b1n q0n q1n q2n q3n q4n u0n u1n u2n u3n u4n 
  go_wp2_with fail
  refine (via (w0 := W4) (by go_grown) (HA.out _)).mono ?_
  rintro e W5 ⟨rfl, hc, hf, hz, hB⟩
  have a0n : W5.cell? ⟨w.heap.size, 0, none⟩ = some (.int .i64 m) := (hc _ _ (cell_lt a0)).trans a0
  clear a0
  have a0 := a0n
  clear a0n
  have a1n : W5.cell? ⟨w.heap.size, 1, none⟩ = some (.int .i64 d) := (hc _ _ (cell_lt a1)).trans a1
  clear a1
  have a1 := a1n
  clear a1n
  have b0n : W5.cell? ⟨w.heap.size + 1, 0, none⟩ = some (.int .i64 m2) := (hc _ _ (cell_lt b0)).trans b0
  clear b0
  have b0 := b0n
  clear b0n
  have b1n : W5.cell? ⟨w.heap.size + 1, 1, none⟩ = some (.int .i64 d2) := (hc _ _ (cell_lt b1)).trans b1
  clear b1
  have b1 := b1n
  clear b1n
  have q0n : W5.cell? ⟨w.heap.size + 1 + 1, 0, none⟩ = some (.int .i64 i) := (hc _ _ (cell_lt q0)).trans q0
  clear q0
  have q0 := q0n
  clear q0n
  have q1n : W5.cell? ⟨w.heap.size + 1 + 1, 1, none⟩ = some (.int .i64 da) := (hc _ _ (cell_lt q1)).trans q1
  clear q1
  have q1 := q1n
  clear q1n
  have q2n : W5.cell? ⟨w.heap.size + 1 + 1, 2, none⟩ = some (.int .i64 s) := (hc _ _ (cell_lt q2)).trans q2
  clear q2
  have q2 := q2n
  clear q2n
  have q3n : W5.cell? ⟨w.heap.size + 1 + 1, 3, none⟩ = some (.int .i64 k) := (hc _ _ (cell_lt q3)).trans q3
  clear q3
  have q3 := q3n
  clear q3n
  have q4n : W5.cell? ⟨w.heap.size + 1 + 1, 4, none⟩ = some (.int .i64 wo) := (hc _ _ (cell_lt q4)).trans q4
  clear q4
  have q4 := q4n
  clear q4n
  have u0n : W5.cell? ⟨W3.heap.size, 0, none⟩ = some (.int .i64 i) := (hc _ _ (cell_lt u0)).trans u0
  clear u0
  have u0 := u0n
  clear u0n
  have u1n : W5.cell? ⟨W3.heap.size, 1, none⟩ = some (.int .i64 da) := (hc _ _ (cell_lt u1)).trans u1
  clear u1
  have u1 := u1n
  clear u1n
  have u2n : W5.cell? ⟨W3.heap.size, 2, none⟩ = some (.int .i64 s) := (hc _ _ (cell_lt u2)).trans u2
  clear u2
  have u2 := u2n
  clear u2n
  have u3n : W5.cell? ⟨W3.heap.size, 3, none⟩ = some (.int .i64 k) := (hc _ _ (cell_lt u3)).trans u3
  clear u3
  have u3 := u3n
  clear u3n
  have u4n : W5.cell? ⟨W3.heap.size, 4, none⟩ = some (.int .i64 (min 10000 (wrap64 (wo + more)))) := (hc _ _ (cell_lt u4)).trans u4
  clear u4
  have u4 := u4n
  clear u4n
  have hbn : Below w.heap.size w W5 := bthen hb0 hB
  clear hb0
  have hb0 := hbn
  clear hbn
  have hzW5 : W4.heap.size ≤ W5.heap.size := hz
  clear hc hf hB hz
  go_upto_region 6 with (fail)
  go_name_world W6 hW6
  have hbz := hb0.size
  have hbn : Below w.heap.size w W6 := by subst hW6; go_grown
  clear hb0 hbz
  have hb0 := hbn
  clear hbn
  have hbk : Below W5.heap.size W5 W6 := by subst hW6; go_grown
  have a0n : W6.cell? ⟨w.heap.size, 0, none⟩ = some (.int .i64 m) := ((bcell hbk).1 _ _ (cell_lt a0)).trans a0
  have a1n : W6.cell? ⟨w.heap.size, 1, none⟩ = some (.int .i64 d) := ((bcell hbk).1 _ _ (cell_lt a1)).trans a1
  have b0n : W6.cell? ⟨w.heap.size + 1, 0, none⟩ = some (.int .i64 m2) := ((bcell hbk).1 _ _ (cell_lt b0)).trans b0
  have b1n : W6.cell? ⟨w.heap.size + 1, 1, none⟩ = some (.int .i64 d2) := ((bcell hbk).1 _ _ (cell_lt b1)).trans b1
  have q0n : W6.cell? ⟨w.heap.size + 1 + 1, 0, none⟩ = some (.int .i64 i) := ((bcell hbk).1 _ _ (cell_lt q0)).trans q0
  have q1n : W6.cell? ⟨w.heap.size + 1 + 1, 1, none⟩ = some (.int .i64 da) := ((bcell hbk).1 _ _ (cell_lt q1)).trans q1
  have q2n : W6.cell? ⟨w.heap.size + 1 + 1, 2, none⟩ = some (.int .i64 s) := ((bcell hbk).1 _ _ (cell_lt q2)).trans q2
  have q3n : W6.cell? ⟨w.heap.size + 1 + 1, 3, none⟩ = some (.int .i64 k) := ((bcell hbk).1 _ _ (cell_lt q3)).trans q3
  have q4n : W6.cell? ⟨w.heap.size + 1 + 1, 4, none⟩ = some (.int .i64 wo) := ((bcell hbk).1 _ _ (cell_lt q4)).trans q4
  have u0n : W6.cell? ⟨W3.heap.size, 0, none⟩ = some (.int .i64 i) := ((bcell hbk).1 _ _ (cell_lt u0)).trans u0
  have u1n : W6.cell? ⟨W3.heap.size, 1, none⟩ = some (.int .i64 da) := ((bcell hbk).1 _ _ (cell_lt u1)).trans u1
  have u2n : W6.cell? ⟨W3.heap.size, 2, none⟩ = some (.int .i64 s) := ((bcell hbk).1 _ _ (cell_lt u2)).trans u2
  have u3n : W6.cell? ⟨W3.heap.size, 3, none⟩ = some (.int .i64 k) := ((bcell hbk).1 _ _ (cell_lt u3)).trans u3
  have u4n : W6.cell? ⟨W3.heap.size, 4, none⟩ = some (.int .i64 (min 10000 (wrap64 (wo + more)))) := ((bcell hbk).1 _ _ (cell_lt u4)).trans u4
  clear hbk
  have x0n : W6.cell? ⟨W5.heap.size, 0, none⟩ = some (.int .i64 0) := by subst hW6; go_simp
  have x1n : W6.cell? ⟨W5.heap.size, 1, none⟩ = some (.int .i64 0) := by subst hW6; go_simp
  have x2n : W6.cell? ⟨W5.heap.size, 2, none⟩ = some (.bool false) := by subst hW6; go_simp
  clear hW6 a0 a1 b0 b1 q0 q1 q2 q3 q4 u0 u1 u2 u3 u4
  have a0 := a0n
  have a1 := a1n
  have b0 := b0n
  have b1 := b1n
  have q0 := q0n
  have q1 := q1n
  have q2 := q2n
  have q3 := q3n
  have q4 := q4n
  have u0 := u0n
  have u1 := u1n
  have u2 := u2n
  have u3 := u3n
  have u4 := u4n
  have x0 := x0n
  have x1 := x1n
  have x2 := x2n
  clear a0n a1n b0n b1n q0n q1n q2n q3n q4n u0n u1n u2n u3n u4n x0n x1n x2n 
  go_wp2_with fail
  refine (via (w0 := W6) (by go_grown) (HB.out _)).mono ?_
  rintro e W7 ⟨rfl, hc, hf, hz, hB⟩
  have a0n : W7.cell? ⟨w.heap.size, 0, none⟩ = some (.int .i64 m) := (hc _ _ (cell_lt a0)).trans a0
  clear a0
  have a0 := a0n
  clear a0n
  have a1n : W7.cell? ⟨w.heap.size, 1, none⟩ = some (.int .i64 d) := (hc _ _ (cell_lt a1)).trans a1
  clear a1
  have a1 := a1n
  clear a1n
  have b0n : W7.cell? ⟨w.heap.size + 1, 0, none⟩ = some (.int .i64 m2) := (hc _ _ (cell_lt b0)).trans b0
  clear b0
  have b0 := b0n
  clear b0n
  have b1n : W7.cell? ⟨w.heap.size + 1, 1, none⟩ = some (.int .i64 d2) := (hc _ _ (cell_lt b1)).trans b1
  clear b1
  have b1 := b1n
  clear b1n
  have q0n : W7.cell? ⟨w.heap.size + 1 + 1, 0, none⟩ = some (.int .i64 i) := (hc _ _ (cell_lt q0)).trans q0
  clear q0
  have q0 := q0n
  clear q0n
  have q1n : W7.cell? ⟨w.heap.size + 1 + 1, 1, none⟩ = some (.int .i64 da) := (hc _ _ (cell_lt q1)).trans q1
  clear q1
  have q1 := q1n
  clear q1n
  have q2n : W7.cell? ⟨w.heap.size + 1 + 1, 2, none⟩ = some (.int .i64 s) := (hc _ _ (cell_lt q2)).trans q2
  clear q2
  have q2 := q2n
  clear q2n
  have q3n : W7.cell? ⟨w.heap.size + 1 + 1, 3, none⟩ = some (.int .i64 k) := (hc _ _ (cell_lt q3)).trans q3
  clear q3
  have q3 := q3n
  clear q3n
  have q4n : W7.cell? ⟨w.heap.size + 1 + 1, 4, none⟩ = some (.int .i64 wo) := (hc _ _ (cell_lt q4)).trans q4
  clear q4
  have q4 := q4n
  clear q4n
  have u0n : W7.cell? ⟨W3.heap.size, 0, none⟩ = some (.int .i64 i) := (hc _ _ (cell_lt u0)).trans u0
  clear u0
  have u0 := u0n
  clear u0n
  have u1n : W7.cell? ⟨W3.heap.size, 1, none⟩ = some (.int .i64 da) := (hc _ _ (cell_lt u1)).trans u1
  clear u1
  have u1 := u1n
  clear u1n
  have u2n : W7.cell? ⟨W3.heap.size, 2, none⟩ = some (.int .i64 s) := (hc _ _ (cell_lt u2)).trans u2
  clear u2
  have u2 := u2n
  clear u2n
  have u3n : W7.cell? ⟨W3.heap.size, 3, none⟩ = some (.int .i64 k) := (hc _ _ (cell_lt u3)).trans u3
  clear u3
  have u3 := u3n
  clear u3n
  have u4n : W7.cell? ⟨W3.heap.size, 4, none⟩ = some (.int .i64 (min 10000 (wrap64 (wo + more)))) := (hc _ _ (cell_lt u4)).trans u4
  clear u4
  have u4 := u4n
  clear u4n
  have x0n : W7.cell? ⟨W5.heap.size, 0, none⟩ = some (.int .i64 0) := (hc _ _ (cell_lt x0)).trans x0
  clear x0
  have x0 := x0n
  clear x0n
  have x1n : W7.cell? ⟨W5.heap.size, 1, none⟩ = some (.int .i64 0) := (hc _ _ (cell_lt x1)).trans x1
  clear x1
  have x1 := x1n
  clear x1n
  have x2n : W7.cell? ⟨W5.heap.size, 2, none⟩ = some (.bool false) := (hc _ _ (cell_lt x2)).trans x2
  clear x2
  have x2 := x2n
  clear x2n
  have hbn : Below w.heap.size w W7 := bthen hb0 hB
  clear hb0
  have hb0 := hbn
  clear hbn
  have hzW7 : W6.heap.size ≤ W7.heap.size := hz
  clear hc hf hB hz
  go_upto_region 7 with (fail)
  go_name_world W8 hW8
  have hbz := hb0.size
  have hbn : Below w.heap.size w W8 := by subst hW8; go_grown
  clear hb0 hbz
  have hb0 := hbn
  clear hbn
  have hbk : Below W7.heap.size W7 W8 := by subst hW8; go_grown
  have a0n : W8.cell? ⟨w.heap.size, 0, none⟩ = some (.int .i64 m) := ((bcell hbk).1 _ _ (cell_lt a0)).trans a0
  have a1n : W8.cell? ⟨w.heap.size, 1, none⟩ = some (.int .i64 d) := ((bcell hbk).1 _ _ (cell_lt a1)).trans a1
  have b0n : W8.cell? ⟨w.heap.size + 1, 0, none⟩ = some (.int .i64 m2) := ((bcell hbk).1 _ _ (cell_lt b0)).trans b0
  have b1n : W8.cell? ⟨w.heap.size + 1, 1, none⟩ = some (.int .i64 d2) := ((bcell hbk).1 _ _ (cell_lt b1)).trans b1
  have q0n : W8.cell? ⟨w.heap.size + 1 + 1, 0, none⟩ = some (.int .i64 i) := ((bcell hbk).1 _ _ (cell_lt q0)).trans q0
  have q1n : W8.cell? ⟨w.heap.size + 1 + 1, 1, none⟩ = some (.int .i64 da) := ((bcell hbk).1 _ _ (cell_lt q1)).trans q1
  have q2n : W8.cell? ⟨w.heap.size + 1 + 1, 2, none⟩ = some (.int .i64 s) := ((bcell hbk).1 _ _ (cell_lt q2)).trans q2
  have q3n : W8.cell? ⟨w.heap.size + 1 + 1, 3, none⟩ = some (.int .i64 k) := ((bcell hbk).1 _ _ (cell_lt q3)).trans q3
  have q4n : W8.cell? ⟨w.heap.size + 1 + 1, 4, none⟩ = some (.int .i64 wo) := ((bcell hbk).1 _ _ (cell_lt q4)).trans q4
  have u0n : W8.cell? ⟨W3.heap.size, 0, none⟩ = some (.int .i64 i) := ((bcell hbk).1 _ _ (cell_lt u0)).trans u0
  have u1n : W8.cell? ⟨W3.heap.size, 1, none⟩ = some (.int .i64 da) := ((bcell hbk).1 _ _ (cell_lt u1)).trans u1
  have u2n : W8.cell? ⟨W3.heap.size, 2, none⟩ = some (.int .i64 s) := ((bcell hbk).1 _ _ (cell_lt u2)).trans u2
  have u3n : W8.cell? ⟨W3.heap.size, 3, none⟩ = some (.int .i64 k) := ((bcell hbk).1 _ _ (cell_lt u3)).trans u3
  have u4n : W8.cell? ⟨W3.heap.size, 4, none⟩ = some (.int .i64 (min 10000 (wrap64 (wo + more)))) := ((bcell hbk).1 _ _ (cell_lt u4)).trans u4
  have x0n : W8.cell? ⟨W5.heap.size, 0, none⟩ = some (.int .i64 0) := ((bcell hbk).1 _ _ (cell_lt x0)).trans x0
  have x1n : W8.cell? ⟨W5.heap.size, 1, none⟩ = some (.int .i64 0) := ((bcell hbk).1 _ _ (cell_lt x1)).trans x1
  have x2n : W8.cell? ⟨W5.heap.size, 2, none⟩ = some (.bool false) := ((bcell hbk).1 _ _ (cell_lt x2)).trans x2
  clear hbk
  have y0n : W8.cell? ⟨W7.heap.size, 0, none⟩ = some (.int .i64 0) := by subst hW8; go_simp
  have y1n : W8.cell? ⟨W7.heap.size, 1, none⟩ = some (.int .i64 0) := by subst hW8; go_simp
  have y2n : W8.cell? ⟨W7.heap.size, 2, none⟩ = some (.bool false) := by subst hW8; go_simp
  clear hW8 a0 a1 b0 b1 q0 q1 q2 q3 q4 u0 u1 u2 u3 u4 x0 x1 x2
  have a0 := a0n
  have a1 := a1n
  have b0 := b0n
  have b1 := b1n
  have q0 := q0n
  have q1 := q1n
  have q2 := q2n
  have q3 := q3n
  have q4 := q4n
  have u0 := u0n
  have u1 := u1n
  have u2 := u2n
  have u3 := u3n
  have u4 := u4n
  have x0 := x0n
  have x1 := x1n
  have x2 := x2n
  have y0 := y0n
  have y1 := y1n
  have y2 := y2n
  clear a0n a1n b0n b1n q0n q1n q2n q3n q4n u0n u1n u2n u3n u4n x0n x1n x2n y0n y1n y2n 
  go_wp2_with fail
  refine (via (w0 := W8) (by go_grown) (HC.out _)).mono ?_
  rintro e W9 ⟨rfl, hc, hf, hz, hB⟩
  have a0n : W9.cell? ⟨w.heap.size, 0, none⟩ = some (.int .i64 m) := (hc _ _ (cell_lt a0)).trans a0
  clear a0
  have a0 := a0n
  clear a0n
  have a1n : W9.cell? ⟨w.heap.size, 1, none⟩ = some (.int .i64 d) := (hc _ _ (cell_lt a1)).trans a1
  clear a1
  have a1 := a1n
  clear a1n
  have b0n : W9.cell? ⟨w.heap.size + 1, 0, none⟩ = some (.int .i64 m2) := (hc _ _ (cell_lt b0)).trans b0
  clear b0
  have b0 := b0n
  clear b0n
  have b1n : W9.cell? ⟨w.heap.size + 1, 1, none⟩ = some (.int .i64 d2) := (hc _ _ (cell_lt b1)).trans b1
  clear b1
  have b1 := b1n
  clear b1n
  have q0n : W9.cell? ⟨w.heap.size + 1 + 1, 0, none⟩ = some (.int .i64 i) := (hc _ _ (cell_lt q0)).trans q0
  clear q0
  have q0 := q0n
  clear q0n
  have q1n : W9.cell? ⟨w.heap.size + 1 + 1, 1, none⟩ = some (.int .i64 da) := (hc _ _ (cell_lt q1)).trans q1
  clear q1
  have q1 := q1n
  clear q1n
  have q2n : W9.cell? ⟨w.heap.size + 1 + 1, 2, none⟩ = some (.int .i64 s) := (hc _ _ (cell_lt q2)).trans q2
  clear q2
  have q2 := q2n
  clear q2n
  have q3n : W9.cell? ⟨w.heap.size + 1 + 1, 3, none⟩ = some (.int .i64 k) := (hc _ _ (cell_lt q3)).trans q3
  clear q3
  have q3 := q3n
  clear q3n
  have q4n : W9.cell? ⟨w.heap.size + 1 + 1, 4, none⟩ = some (.int .i64 wo) := (hc _ _ (cell_lt q4)).trans q4
  clear q4
  have q4 := q4n
  clear q4n
  have u0n : W9.cell? ⟨W3.heap.size, 0, none⟩ = some (.int .i64 i) := (hc _ _ (cell_lt u0)).trans u0
  clear u0
  have u0 := u0n
  clear u0n
  have u1n : W9.cell? ⟨W3.heap.size, 1, none⟩ = some (.int .i64 da) := (hc _ _ (cell_lt u1)).trans u1
  clear u1
  have u1 := u1n
  clear u1n
  have u2n : W9.cell? ⟨W3.heap.size, 2, none⟩ = some (.int .i64 s) := (hc _ _ (cell_lt u2)).trans u2
  clear u2
  have u2 := u2n
  clear u2n
  have u3n : W9.cell? ⟨W3.heap.size, 3, none⟩ = some (.int .i64 k) := (hc _ _ (cell_lt u3)).trans u3
  clear u3
  have u3 := u3n
  clear u3n
  have u4n : W9.cell? ⟨W3.heap.size, 4, none⟩ = some (.int .i64 (min 10000 (wrap64 (wo + more)))) := (hc _ _ (cell_lt u4)).trans u4
  clear u4
  have u4 := u4n
  clear u4n
  have x0n : W9.cell? ⟨W5.heap.size, 0, none⟩ = some (.int .i64 0) := (hc _ _ (cell_lt x0)).trans x0
  clear x0
  have x0 := x0n
  clear x0n
  have x1n : W9.cell? ⟨W5.heap.size, 1, none⟩ = some (.int .i64 0) := (hc _ _ (cell_lt x1)).trans x1
  clear x1
  have x1 := x1n
  clear x1n
  have x2n : W9.cell? ⟨W5.heap.size, 2, none⟩ = some (.bool false) := (hc _ _ (cell_lt x2)).trans x2
  clear x2
  have x2 := x2n
  clear x2n
  have y0n : W9.cell? ⟨W7.heap.size, 0, none⟩ = some (.int .i64 0) := (hc _ _ (cell_lt y0)).trans y0
  clear y0
  have y0 := y0n
  clear y0n
  have y1n : W9.cell? ⟨W7.heap.size, 1, none⟩ = some (.int .i64 0) := (hc _ _ (cell_lt y1)).trans y1
  clear y1
  have y1 := y1n
  clear y1n
  have y2n : W9.cell? ⟨W7.heap.size, 2, none⟩ = some (.bool false) := (hc _ _ (cell_lt y2)).trans y2
  clear y2
  have y2 := y2n
  clear y2n
  have hbn : Below w.heap.size w W9 := bthen hb0 hB
  clear hb0
  have hb0 := hbn
  clear hbn
  have hzW9 : W8.heap.size ≤ W9.heap.size := hz
  clear hc hf hB hz
  go_upto_region 8 with (fail)
  go_name_world W10 hW10
  have hbz := hb0.size
  have hbn : Below w.heap.size w W10 := by subst hW10; go_grown
  clear hb0 hbz
  have hb0 := hbn
  clear hbn
  have hbk : Below W9.heap.size W9 W10 := by subst hW10; go_grown
  have a0n : W10.cell? ⟨w.heap.size, 0, none⟩ = some (.int .i64 m) := ((bcell hbk).1 _ _ (cell_lt a0)).trans a0
  have a1n : W10.cell? ⟨w.heap.size, 1, none⟩ = some (.int .i64 d) := ((bcell hbk).1 _ _ (cell_lt a1)).trans a1
  have b0n : W10.cell? ⟨w.heap.size + 1, 0, none⟩ = some (.int .i64 m2) := ((bcell hbk).1 _ _ (cell_lt b0)).trans b0
  have b1n : W10.cell? ⟨w.heap.size + 1, 1, none⟩ = some (.int .i64 d2) := ((bcell hbk).1 _ _ (cell_lt b1)).trans b1
  have q0n : W10.cell? ⟨w.heap.size + 1 + 1, 0, none⟩ = some (.int .i64 i) := ((bcell hbk).1 _ _ (cell_lt q0)).trans q0
  have q1n : W10.cell? ⟨w.heap.size + 1 + 1, 1, none⟩ = some (.int .i64 da) := ((bcell hbk).1 _ _ (cell_lt q1)).trans q1
  have q2n : W10.cell? ⟨w.heap.size + 1 + 1, 2, none⟩ = some (.int .i64 s) := ((bcell hbk).1 _ _ (cell_lt q2)).trans q2
  have q3n : W10.cell? ⟨w.heap.size + 1 + 1, 3, none⟩ = some (.int .i64 k) := ((bcell hbk).1 _ _ (cell_lt q3)).trans q3
  have q4n : W10.cell? ⟨w.heap.size + 1 + 1, 4, none⟩ = some (.int .i64 wo) := ((bcell hbk).1 _ _ (cell_lt q4)).trans q4
  have u0n : W10.cell? ⟨W3.heap.size, 0, none⟩ = some (.int .i64 i) := ((bcell hbk).1 _ _ (cell_lt u0)).trans u0
  have u1n : W10.cell? ⟨W3.heap.size, 1, none⟩ = some (.int .i64 da) := ((bcell hbk).1 _ _ (cell_lt u1)).trans u1
  have u2n : W10.cell? ⟨W3.heap.size, 2, none⟩ = some (.int .i64 s) := ((bcell hbk).1 _ _ (cell_lt u2)).trans u2
  have u3n : W10.cell? ⟨W3.heap.size, 3, none⟩ = some (.int .i64 k) := ((bcell hbk).1 _ _ (cell_lt u3)).trans u3
  have u4n : W10.cell? ⟨W3.heap.size, 4, none⟩ = some (.int .i64 (min 10000 (wrap64 (wo + more)))) := ((bcell hbk).1 _ _ (cell_lt u4)).trans u4
  have x0n : W10.cell? ⟨W5.heap.size, 0, none⟩ = some (.int .i64 0) := ((bcell hbk).1 _ _ (cell_lt x0)).trans x0
  have x1n : W10.cell? ⟨W5.heap.size, 1, none⟩ = some (.int .i64 0) := ((bcell hbk).1 _ _ (cell_lt x1)).trans x1
  have x2n : W10.cell? ⟨W5.heap.size, 2, none⟩ = some (.bool false) := ((bcell hbk).1 _ _ (cell_lt x2)).trans x2
  have y0n : W10.cell? ⟨W7.heap.size, 0, none⟩ = some (.int .i64 0) := ((bcell hbk).1 _ _ (cell_lt y0)).trans y0
  have y1n : W10.cell? ⟨W7.heap.size, 1, none⟩ = some (.int .i64 0) := ((bcell hbk).1 _ _ (cell_lt y1)).trans y1
  have y2n : W10.cell? ⟨W7.heap.size, 2, none⟩ = some (.bool false) := ((bcell hbk).1 _ _ (cell_lt y2)).trans y2
  clear hbk
  have z0n : W10.cell? ⟨W9.heap.size, 0, none⟩ = some (.int .i64 zl) := by subst hW10; go_simp
  have z1n : W10.cell? ⟨W9.heap.size, 1, none⟩ = some (.int .i64 zh) := by subst hW10; go_simp
  have z2n : W10.cell? ⟨W9.heap.size, 2, none⟩ = some (.bool zs) := by subst hW10; go_simp
  clear hW10 a0 a1 b0 b1 q0 q1 q2 q3 q4 u0 u1 u2 u3 u4 x0 x1 x2 y0 y1 y2
  have a0 := a0n
  have a1 := a1n
  have b0 := b0n
  have b1 := b1n
  have q0 := q0n
  have q1 := q1n
  have q2 := q2n
  have q3 := q3n
  have q4 := q4n
  have u0 := u0n
  have u1 := u1n
  have u2 := u2n
  have u3 := u3n
  have u4 := u4n
  have x0 := x0n
  have x1 := x1n
  have x2 := x2n
  have y0 := y0n
  have y1 := y1n
  have y2 := y2n
  have z0 := z0n
  have z1 := z1n
  have z2 := z2n
  clear a0n a1n b0n b1n q0n q1n q2n q3n q4n u0n u1n u2n u3n u4n x0n x1n x2n y0n y1n y2n z0n z1n z2n 
  go_wp2_with fail
  refine (via (w0 := W10) (by go_grown) (c_counted _)).mono ?_
  rintro e W11 ⟨rfl, hc, hf, hz, hB⟩
  have a0n : W11.cell? ⟨w.heap.size, 0, none⟩ = some (.int .i64 m) := (hc _ _ (cell_lt a0)).trans a0
  clear a0
  have a0 := a0n
  clear a0n
  have a1n : W11.cell? ⟨w.heap.size, 1, none⟩ = some (.int .i64 d) := (hc _ _ (cell_lt a1)).trans a1
  clear a1
  have a1 := a1n
  clear a1n
  have b0n : W11.cell? ⟨w.heap.size + 1, 0, none⟩ = some (.int .i64 m2) := (hc _ _ (cell_lt b0)).trans b0
  clear b0
  have b0 := b0n
  clear b0n
  have b1n : W11.cell? ⟨w.heap.size + 1, 1, none⟩ = some (.int .i64 d2) := (hc _ _ (cell_lt b1)).trans b1
  clear b1
  have b1 := b1n
  clear b1n
  have q0n : W11.cell? ⟨w.heap.size + 1 + 1, 0, none⟩ = some (.int .i64 i) := (hc _ _ (cell_lt q0)).trans q0
  clear q0
  have q0 := q0n
  clear q0n
  have q1n : W11.cell? ⟨w.heap.size + 1 + 1, 1, none⟩ = some (.int .i64 da) := (hc _ _ (cell_lt q1)).trans q1
  clear q1
  have q1 := q1n
  clear q1n
  have q2n : W11.cell? ⟨w.heap.size + 1 + 1, 2, none⟩ = some (.int .i64 s) := (hc _ _ (cell_lt q2)).trans q2
  clear q2
  have q2 := q2n
  clear q2n
  have q3n : W11.cell? ⟨w.heap.size + 1 + 1, 3, none⟩ = some (.int .i64 k) := (hc _ _ (cell_lt q3)).trans q3
  clear q3
  have q3 := q3n
  clear q3n
  have q4n : W11.cell? ⟨w.heap.size + 1 + 1, 4, none⟩ = some (.int .i64 wo) := (hc _ _ (cell_lt q4)).trans q4
  clear q4
  have q4 := q4n
  clear q4n
  have u0n : W11.cell? ⟨W3.heap.size, 0, none⟩ = some (.int .i64 i) := (hc _ _ (cell_lt u0)).trans u0
  clear u0
  have u0 := u0n
  clear u0n
  have u1n : W11.cell? ⟨W3.heap.size, 1, none⟩ = some (.int .i64 da) := (hc _ _ (cell_lt u1)).trans u1
  clear u1
  have u1 := u1n
  clear u1n
  have u2n : W11.cell? ⟨W3.heap.size, 2, none⟩ = some (.int .i64 s) := (hc _ _ (cell_lt u2)).trans u2
  clear u2
  have u2 := u2n
  clear u2n
  have u3n : W11.cell? ⟨W3.heap.size, 3, none⟩ = some (.int .i64 k) := (hc _ _ (cell_lt u3)).trans u3
  clear u3
  have u3 := u3n
  clear u3n
  have u4n : W11.cell? ⟨W3.heap.size, 4, none⟩ = some (.int .i64 (min 10000 (wrap64 (wo + more)))) := (hc _ _ (cell_lt u4)).trans u4
  clear u4
  have u4 := u4n
  clear u4n
  have x0n : W11.cell? ⟨W5.heap.size, 0, none⟩ = some (.int .i64 0) := (hc _ _ (cell_lt x0)).trans x0
  clear x0
  have x0 := x0n
  clear x0n
  have x1n : W11.cell? ⟨W5.heap.size, 1, none⟩ = some (.int .i64 0) := (hc _ _ (cell_lt x1)).trans x1
  clear x1
  have x1 := x1n
  clear x1n
  have x2n : W11.cell? ⟨W5.heap.size, 2, none⟩ = some (.bool false) := (hc _ _ (cell_lt x2)).trans x2
  clear x2
  have x2 := x2n
  clear x2n
  have y0n : W11.cell? ⟨W7.heap.size, 0, none⟩ = some (.int .i64 0) := (hc _ _ (cell_lt y0)).trans y0
  clear y0
  have y0 := y0n
  clear y0n
  have y1n : W11.cell? ⟨W7.heap.size, 1, none⟩ = some (.int .i64 0) := (hc _ _ (cell_lt y1)).trans y1
  clear y1
  have y1 := y1n
  clear y1n
  have y2n : W11.cell? ⟨W7.heap.size, 2, none⟩ = some (.bool false) := (hc _ _ (cell_lt y2)).trans y2
  clear y2
  have y2 := y2n
  clear y2n
  have z0n : W11.cell? ⟨W9.heap.size, 0, none⟩ = some (.int .i64 zl) := (hc _ _ (cell_lt z0)).trans z0
  clear z0
  have z0 := z0n
  clear z0n
  have z1n : W11.cell? ⟨W9.heap.size, 1, none⟩ = some (.int .i64 zh) := (hc _ _ (cell_lt z1)).trans z1
  clear z1
  have z1 := z1n
  clear z1n
  have z2n : W11.cell? ⟨W9.heap.size, 2, none⟩ = some (.bool zs) := (hc _ _ (cell_lt z2)).trans z2
  clear z2
  have z2 := z2n
  clear z2n
  have hbn : Below w.heap.size w W11 := bthen hb0 hB
  clear hb0
  have hb0 := hbn
  clear hbn
  have hzW11 : W10.heap.size ≤ W11.heap.size := hz
  clear hc hf hB hz
  go_wp2_with fail
  go_ret
  exact ⟨rfl, by have hbz := hb0.size; go_grown⟩

set_option maxRecDepth 100000 in
set_option maxHeartbeats 8000000 in
theorem walk_f (m d m2 d2 i da s k wo more n : Int) (w : World) (h1 : narrowB m d m2 d2 = true) (h2 : inR 0 100000 n = true) (h3 : 0 ≤ more ∧ more ≤ 10000) (h4 : countB i da s k wo = true) :
    Calls Try.prog 4 #[.agg #[.int .i64 m, .int .i64 d], .agg #[.int .i64 m2, .int .i64 d2], .agg #[.int .i64 i, .int .i64 da, .int .i64 s, .int .i64 k, .int .i64 wo], .int .i64 more, .int .i64 n] w fun e w' => e = .returned (.bool true) ∧ Below w.heap.size w w' := by
  have hN := fun W => c_Narrower m d m2 d2 W
  rw [h1] at hN
  have HN := Lib.hid hN
  clear hN
  have hM := fun W => c_lnumber n W
  rw [h2] at hM
  have HM := Lib.hid hM
  clear hM
  obtain ⟨h3a, h3b⟩ := h3
  obtain ⟨⟨⟨⟨hci, hcd⟩, hcs⟩, hck⟩, hcw⟩ := (by simpa [countB] using h4 : (((inR 1 1000000 i = true ∧ inR 0 100000 da = true) ∧ inR 1 40 s = true) ∧ inR 0 100000 k = true) ∧ inR 0 10000 wo = true)
  obtain ⟨⟨⟨hr1, hr2⟩, hmm⟩, hdd⟩ := (by simpa [narrowB] using h1 : ((rateB m d = true ∧ rateB m2 d2 = true) ∧ m ≤ m2) ∧ d ≤ d2)
  have hwo : 0 ≤ wo ∧ wo ≤ 10000 := by simpa [inR] using hcw
  have hn : 0 ≤ n ∧ n ≤ 100000 := by simpa [inR] using h2
  have h5 : countB i da s k (min 10000 (wo + more)) = true := by
    have : inR 0 10000 (min 10000 (wo + more)) = true := by simp [inR]; omega
    simp [countB, hci, hcd, hcs, hck, this]
  have hA := fun W => c_OfCount m d i da s k wo W
  have hB := fun W => c_OfCount m2 d2 i da s k wo W
  have hC := fun W => c_OfCount m d i da s k (min 10000 (wo + more)) W
  simp only [okTT, h4, h5, hr1, hr2, Bool.and_true, if_true] at hA hB hC
  obtain ⟨hm1, hd1⟩ := rateB_iff.1 hr1
  obtain ⟨hm2, hd2⟩ := rateB_iff.1 hr2
  have i1 := fit_in (m := m) (d := d) (a := k) (b := k + wo) (n := n) ⟨hm1.1, by omega⟩ hd1.1 hn
  have i2 := fit_in (m := m2) (d := d2) (a := k) (b := k + wo) (n := n) ⟨hm2.1, by omega⟩ hd2.1 hn
  have i3 := fit_in (m := m) (d := d) (a := k) (b := k + (min 10000 (wo + more))) (n := n) ⟨hm1.1, by omega⟩ hd1.1 hn
  have l1 : lowN m2 n ≤ lowN m n := lowN_mono hn.1 hmm
  have l2 : highN d n ≤ highN d2 n := highN_mono hn.1 hdd
  have hwm : wo ≤ (min 10000 (wo + more)) := by omega
  have hwo1 := hwo.1
  have hwo2 := hwo.2
  have j2 : inB (fitIv m d k (k + wo)) n = true → inB (fitIv m2 d2 k (k + wo)) n = true := by
    rw [← i1, ← i2]
    simp only [Bool.and_eq_true, decide_eq_true_eq]
    omega
  have j3 : inB (fitIv m d k (k + wo)) n = true → inB (fitIv m d k (k + (min 10000 (wo + more)))) n = true := by
    rw [← i1, ← i3]
    simp only [Bool.and_eq_true, decide_eq_true_eq]
    omega
  have kx := fun W => c_lin (fitIv m d k (k + wo)) n W
  have ky := fun W => c_lin (fitIv m2 d2 k (k + wo)) n W
  have kz := fun W => c_lin (fitIv m d k (k + (min 10000 (wo + more)))) n W
  clear i1 i2 i3 l1 l2 hwm hm1 hm2 hd1 hd2 hmm hdd hwo hn h1 h2 h4 h5 hci hcd hcs hck hcw hr1 hr2
  generalize fitIv m d k (k + wo) = X at *
  generalize fitIv m2 d2 k (k + wo) = Y at *
  generalize fitIv m d k (k + (min 10000 (wo + more))) = Z at *
  obtain ⟨xl, xh, xs⟩ := X
  obtain ⟨yl, yh, ys⟩ := Y
  obtain ⟨zl, zh, zs⟩ := Z
  generalize inB ⟨xl, xh, xs⟩ n = bx at *
  generalize inB ⟨yl, yh, ys⟩ n = byy at *
  generalize inB ⟨zl, zh, zs⟩ n = bz at *
  have HA := Lib.hid hA
  have HB := Lib.hid hB
  have HC := Lib.hid hC
  have J2 := Lib.hid j2
  have J3 := Lib.hid j3
  have KX := Lib.hid kx
  have KY := Lib.hid ky
  have KZ := Lib.hid kz
  clear hA hB hC j2 j3 kx ky kz
  go_enter Try.func4, Try.ntmps4
  go_upto_region 1 with (fail)
  go_name_world W1 hW1
  have hbn : Below w.heap.size w W1 := by subst hW1; go_grown
  have hb0 := hbn
  clear hbn
  have a0n : W1.cell? ⟨w.heap.size, 0, none⟩ = some (.int .i64 m) := by subst hW1; go_simp
  have a1n : W1.cell? ⟨w.heap.size, 1, none⟩ = some (.int .i64 d) := by subst hW1; go_simp
  have b0n : W1.cell? ⟨w.heap.size + 1, 0, none⟩ = some (.int .i64 m2) := by subst hW1; go_simp
  have b1n : W1.cell? ⟨w.heap.size + 1, 1, none⟩ = some (.int .i64 d2) := by subst hW1; go_simp
  have q0n : W1.cell? ⟨w.heap.size + 1 + 1, 0, none⟩ = some (.int .i64 i) := by subst hW1; go_simp
  have q1n : W1.cell? ⟨w.heap.size + 1 + 1, 1, none⟩ = some (.int .i64 da) := by subst hW1; go_simp
  have q2n : W1.cell? ⟨w.heap.size + 1 + 1, 2, none⟩ = some (.int .i64 s) := by subst hW1; go_simp
  have q3n : W1.cell? ⟨w.heap.size + 1 + 1, 3, none⟩ = some (.int .i64 k) := by subst hW1; go_simp
  have q4n : W1.cell? ⟨w.heap.size + 1 + 1, 4, none⟩ = some (.int .i64 wo) := by subst hW1; go_simp
  clear hW1 
  have a0 := a0n
  have a1 := a1n
  have b0 := b0n
  have b1 := b1n
  have q0 := q0n
  have q1 := q1n
  have q2 := q2n
  have q3 := q3n
  have q4 := q4n
  clear a0n a1n b0n b1n q0n q1n q2n q3n q4n 
  go_wp2_with fail
  refine (via (w0 := W1) (by go_grown) (HN.out _)).mono ?_
  rintro e W2 ⟨rfl, hc, hf, hz, hB⟩
  have a0n : W2.cell? ⟨w.heap.size, 0, none⟩ = some (.int .i64 m) := (hc _ _ (cell_lt a0)).trans a0
  clear a0
  have a0 := a0n
  clear a0n
  have a1n : W2.cell? ⟨w.heap.size, 1, none⟩ = some (.int .i64 d) := (hc _ _ (cell_lt a1)).trans a1
  clear a1
  have a1 := a1n
  clear a1n
  have b0n : W2.cell? ⟨w.heap.size + 1, 0, none⟩ = some (.int .i64 m2) := (hc _ _ (cell_lt b0)).trans b0
  clear b0
  have b0 := b0n
  clear b0n
  have b1n : W2.cell? ⟨w.heap.size + 1, 1, none⟩ = some (.int .i64 d2) := (hc _ _ (cell_lt b1)).trans b1
  clear b1
  have b1 := b1n
  clear b1n
  have q0n : W2.cell? ⟨w.heap.size + 1 + 1, 0, none⟩ = some (.int .i64 i) := (hc _ _ (cell_lt q0)).trans q0
  clear q0
  have q0 := q0n
  clear q0n
  have q1n : W2.cell? ⟨w.heap.size + 1 + 1, 1, none⟩ = some (.int .i64 da) := (hc _ _ (cell_lt q1)).trans q1
  clear q1
  have q1 := q1n
  clear q1n
  have q2n : W2.cell? ⟨w.heap.size + 1 + 1, 2, none⟩ = some (.int .i64 s) := (hc _ _ (cell_lt q2)).trans q2
  clear q2
  have q2 := q2n
  clear q2n
  have q3n : W2.cell? ⟨w.heap.size + 1 + 1, 3, none⟩ = some (.int .i64 k) := (hc _ _ (cell_lt q3)).trans q3
  clear q3
  have q3 := q3n
  clear q3n
  have q4n : W2.cell? ⟨w.heap.size + 1 + 1, 4, none⟩ = some (.int .i64 wo) := (hc _ _ (cell_lt q4)).trans q4
  clear q4
  have q4 := q4n
  clear q4n
  have hbn : Below w.heap.size w W2 := bthen hb0 hB
  clear hb0
  have hb0 := hbn
  clear hbn
  have hzW2 : W1.heap.size ≤ W2.heap.size := hz
  clear hc hf hB hz
  go_wp2_with fail
  refine (via (w0 := W2) (by go_grown) (HM.out _)).mono ?_
  rintro e W3 ⟨rfl, hc, hf, hz, hB⟩
  have a0n : W3.cell? ⟨w.heap.size, 0, none⟩ = some (.int .i64 m) := (hc _ _ (cell_lt a0)).trans a0
  clear a0
  have a0 := a0n
  clear a0n
  have a1n : W3.cell? ⟨w.heap.size, 1, none⟩ = some (.int .i64 d) := (hc _ _ (cell_lt a1)).trans a1
  clear a1
  have a1 := a1n
  clear a1n
  have b0n : W3.cell? ⟨w.heap.size + 1, 0, none⟩ = some (.int .i64 m2) := (hc _ _ (cell_lt b0)).trans b0
  clear b0
  have b0 := b0n
  clear b0n
  have b1n : W3.cell? ⟨w.heap.size + 1, 1, none⟩ = some (.int .i64 d2) := (hc _ _ (cell_lt b1)).trans b1
  clear b1
  have b1 := b1n
  clear b1n
  have q0n : W3.cell? ⟨w.heap.size + 1 + 1, 0, none⟩ = some (.int .i64 i) := (hc _ _ (cell_lt q0)).trans q0
  clear q0
  have q0 := q0n
  clear q0n
  have q1n : W3.cell? ⟨w.heap.size + 1 + 1, 1, none⟩ = some (.int .i64 da) := (hc _ _ (cell_lt q1)).trans q1
  clear q1
  have q1 := q1n
  clear q1n
  have q2n : W3.cell? ⟨w.heap.size + 1 + 1, 2, none⟩ = some (.int .i64 s) := (hc _ _ (cell_lt q2)).trans q2
  clear q2
  have q2 := q2n
  clear q2n
  have q3n : W3.cell? ⟨w.heap.size + 1 + 1, 3, none⟩ = some (.int .i64 k) := (hc _ _ (cell_lt q3)).trans q3
  clear q3
  have q3 := q3n
  clear q3n
  have q4n : W3.cell? ⟨w.heap.size + 1 + 1, 4, none⟩ = some (.int .i64 wo) := (hc _ _ (cell_lt q4)).trans q4
  clear q4
  have q4 := q4n
  clear q4n
  have hbn : Below w.heap.size w W3 := bthen hb0 hB
  clear hb0
  have hb0 := hbn
  clear hbn
  have hzW3 : W2.heap.size ≤ W3.heap.size := hz
  clear hc hf hB hz
  go_upto_region 3 with (fail)
  have zq := cell_lt q4
  go_upto_region 5 with (fail)
  go_name_world W4 hW4
  have hbz := hb0.size
  have hbn : Below w.heap.size w W4 := by subst hW4; go_grown
  clear hb0 hbz
  have hb0 := hbn
  clear hbn
  have hbk : Below W3.heap.size W3 W4 := by subst hW4; go_grown
  have a0n : W4.cell? ⟨w.heap.size, 0, none⟩ = some (.int .i64 m) := ((bcell hbk).1 _ _ (cell_lt a0)).trans a0
  have a1n : W4.cell? ⟨w.heap.size, 1, none⟩ = some (.int .i64 d) := ((bcell hbk).1 _ _ (cell_lt a1)).trans a1
  have b0n : W4.cell? ⟨w.heap.size + 1, 0, none⟩ = some (.int .i64 m2) := ((bcell hbk).1 _ _ (cell_lt b0)).trans b0
  have b1n : W4.cell? ⟨w.heap.size + 1, 1, none⟩ = some (.int .i64 d2) := ((bcell hbk).1 _ _ (cell_lt b1)).trans b1
  have q0n : W4.cell? ⟨w.heap.size + 1 + 1, 0, none⟩ = some (.int .i64 i) := ((bcell hbk).1 _ _ (cell_lt q0)).trans q0
  have q1n : W4.cell? ⟨w.heap.size + 1 + 1, 1, none⟩ = some (.int .i64 da) := ((bcell hbk).1 _ _ (cell_lt q1)).trans q1
  have q2n : W4.cell? ⟨w.heap.size + 1 + 1, 2, none⟩ = some (.int .i64 s) := ((bcell hbk).1 _ _ (cell_lt q2)).trans q2
  have q3n : W4.cell? ⟨w.heap.size + 1 + 1, 3, none⟩ = some (.int .i64 k) := ((bcell hbk).1 _ _ (cell_lt q3)).trans q3
  have q4n : W4.cell? ⟨w.heap.size + 1 + 1, 4, none⟩ = some (.int .i64 wo) := ((bcell hbk).1 _ _ (cell_lt q4)).trans q4
  clear hbk
  have u0n : W4.cell? ⟨W3.heap.size, 0, none⟩ = some (.int .i64 i) := by subst hW4; go_simp
  have u1n : W4.cell? ⟨W3.heap.size, 1, none⟩ = some (.int .i64 da) := by subst hW4; go_simp
  have u2n : W4.cell? ⟨W3.heap.size, 2, none⟩ = some (.int .i64 s) := by subst hW4; go_simp
  have u3n : W4.cell? ⟨W3.heap.size, 3, none⟩ = some (.int .i64 k) := by subst hW4; go_simp
  have u4n : W4.cell? ⟨W3.heap.size, 4, none⟩ = some (.int .i64 (min 10000 (wo + more))) := by subst hW4; go_simp
  clear hW4 a0 a1 b0 b1 q0 q1 q2 q3 q4
  have a0 := a0n
  have a1 := a1n
  have b0 := b0n
  have b1 := b1n
  have q0 := q0n
  have q1 := q1n
  have q2 := q2n
  have q3 := q3n
  have q4 := q4n
  have u0 := u0n
  have u1 := u1n
  have u2 := u2n
  have u3 := u3n
  have u4 := u4n
  clear a0n a1n b0n b1n q0n q1n q2n q3n q4n u0n u1n u2n u3n u4n 
  go_wp2_with fail
  refine (via (w0 := W4) (by go_grown) (HA.out _)).mono ?_
  rintro e W5 ⟨rfl, hc, hf, hz, hB⟩
  have a0n : W5.cell? ⟨w.heap.size, 0, none⟩ = some (.int .i64 m) := (hc _ _ (cell_lt a0)).trans a0
  clear a0
  have a0 := a0n
  clear a0n
  have a1n : W5.cell? ⟨w.heap.size, 1, none⟩ = some (.int .i64 d) := (hc _ _ (cell_lt a1)).trans a1
  clear a1
  have a1 := a1n
  clear a1n
  have b0n : W5.cell? ⟨w.heap.size + 1, 0, none⟩ = some (.int .i64 m2) := (hc _ _ (cell_lt b0)).trans b0
  clear b0
  have b0 := b0n
  clear b0n
  have b1n : W5.cell? ⟨w.heap.size + 1, 1, none⟩ = some (.int .i64 d2) := (hc _ _ (cell_lt b1)).trans b1
  clear b1
  have b1 := b1n
  clear b1n
  have q0n : W5.cell? ⟨w.heap.size + 1 + 1, 0, none⟩ = some (.int .i64 i) := (hc _ _ (cell_lt q0)).trans q0
  clear q0
  have q0 := q0n
  clear q0n
  have q1n : W5.cell? ⟨w.heap.size + 1 + 1, 1, none⟩ = some (.int .i64 da) := (hc _ _ (cell_lt q1)).trans q1
  clear q1
  have q1 := q1n
  clear q1n
  have q2n : W5.cell? ⟨w.heap.size + 1 + 1, 2, none⟩ = some (.int .i64 s) := (hc _ _ (cell_lt q2)).trans q2
  clear q2
  have q2 := q2n
  clear q2n
  have q3n : W5.cell? ⟨w.heap.size + 1 + 1, 3, none⟩ = some (.int .i64 k) := (hc _ _ (cell_lt q3)).trans q3
  clear q3
  have q3 := q3n
  clear q3n
  have q4n : W5.cell? ⟨w.heap.size + 1 + 1, 4, none⟩ = some (.int .i64 wo) := (hc _ _ (cell_lt q4)).trans q4
  clear q4
  have q4 := q4n
  clear q4n
  have u0n : W5.cell? ⟨W3.heap.size, 0, none⟩ = some (.int .i64 i) := (hc _ _ (cell_lt u0)).trans u0
  clear u0
  have u0 := u0n
  clear u0n
  have u1n : W5.cell? ⟨W3.heap.size, 1, none⟩ = some (.int .i64 da) := (hc _ _ (cell_lt u1)).trans u1
  clear u1
  have u1 := u1n
  clear u1n
  have u2n : W5.cell? ⟨W3.heap.size, 2, none⟩ = some (.int .i64 s) := (hc _ _ (cell_lt u2)).trans u2
  clear u2
  have u2 := u2n
  clear u2n
  have u3n : W5.cell? ⟨W3.heap.size, 3, none⟩ = some (.int .i64 k) := (hc _ _ (cell_lt u3)).trans u3
  clear u3
  have u3 := u3n
  clear u3n
  have u4n : W5.cell? ⟨W3.heap.size, 4, none⟩ = some (.int .i64 (min 10000 (wo + more))) := (hc _ _ (cell_lt u4)).trans u4
  clear u4
  have u4 := u4n
  clear u4n
  have hbn : Below w.heap.size w W5 := bthen hb0 hB
  clear hb0
  have hb0 := hbn
  clear hbn
  have hzW5 : W4.heap.size ≤ W5.heap.size := hz
  clear hc hf hB hz
  go_upto_region 6 with (fail)
  go_name_world W6 hW6
  have hbz := hb0.size
  have hbn : Below w.heap.size w W6 := by subst hW6; go_grown
  clear hb0 hbz
  have hb0 := hbn
  clear hbn
  have hbk : Below W5.heap.size W5 W6 := by subst hW6; go_grown
  have a0n : W6.cell? ⟨w.heap.size, 0, none⟩ = some (.int .i64 m) := ((bcell hbk).1 _ _ (cell_lt a0)).trans a0
  have a1n : W6.cell? ⟨w.heap.size, 1, none⟩ = some (.int .i64 d) := ((bcell hbk).1 _ _ (cell_lt a1)).trans a1
  have b0n : W6.cell? ⟨w.heap.size + 1, 0, none⟩ = some (.int .i64 m2) := ((bcell hbk).1 _ _ (cell_lt b0)).trans b0
  have b1n : W6.cell? ⟨w.heap.size + 1, 1, none⟩ = some (.int .i64 d2) := ((bcell hbk).1 _ _ (cell_lt b1)).trans b1
  have q0n : W6.cell? ⟨w.heap.size + 1 + 1, 0, none⟩ = some (.int .i64 i) := ((bcell hbk).1 _ _ (cell_lt q0)).trans q0
  have q1n : W6.cell? ⟨w.heap.size + 1 + 1, 1, none⟩ = some (.int .i64 da) := ((bcell hbk).1 _ _ (cell_lt q1)).trans q1
  have q2n : W6.cell? ⟨w.heap.size + 1 + 1, 2, none⟩ = some (.int .i64 s) := ((bcell hbk).1 _ _ (cell_lt q2)).trans q2
  have q3n : W6.cell? ⟨w.heap.size + 1 + 1, 3, none⟩ = some (.int .i64 k) := ((bcell hbk).1 _ _ (cell_lt q3)).trans q3
  have q4n : W6.cell? ⟨w.heap.size + 1 + 1, 4, none⟩ = some (.int .i64 wo) := ((bcell hbk).1 _ _ (cell_lt q4)).trans q4
  have u0n : W6.cell? ⟨W3.heap.size, 0, none⟩ = some (.int .i64 i) := ((bcell hbk).1 _ _ (cell_lt u0)).trans u0
  have u1n : W6.cell? ⟨W3.heap.size, 1, none⟩ = some (.int .i64 da) := ((bcell hbk).1 _ _ (cell_lt u1)).trans u1
  have u2n : W6.cell? ⟨W3.heap.size, 2, none⟩ = some (.int .i64 s) := ((bcell hbk).1 _ _ (cell_lt u2)).trans u2
  have u3n : W6.cell? ⟨W3.heap.size, 3, none⟩ = some (.int .i64 k) := ((bcell hbk).1 _ _ (cell_lt u3)).trans u3
  have u4n : W6.cell? ⟨W3.heap.size, 4, none⟩ = some (.int .i64 (min 10000 (wo + more))) := ((bcell hbk).1 _ _ (cell_lt u4)).trans u4
  clear hbk
  have x0n : W6.cell? ⟨W5.heap.size, 0, none⟩ = some (.int .i64 xl) := by subst hW6; go_simp
  have x1n : W6.cell? ⟨W5.heap.size, 1, none⟩ = some (.int .i64 xh) := by subst hW6; go_simp
  have x2n : W6.cell? ⟨W5.heap.size, 2, none⟩ = some (.bool xs) := by subst hW6; go_simp
  clear hW6 a0 a1 b0 b1 q0 q1 q2 q3 q4 u0 u1 u2 u3 u4
  have a0 := a0n
  have a1 := a1n
  have b0 := b0n
  have b1 := b1n
  have q0 := q0n
  have q1 := q1n
  have q2 := q2n
  have q3 := q3n
  have q4 := q4n
  have u0 := u0n
  have u1 := u1n
  have u2 := u2n
  have u3 := u3n
  have u4 := u4n
  have x0 := x0n
  have x1 := x1n
  have x2 := x2n
  clear a0n a1n b0n b1n q0n q1n q2n q3n q4n u0n u1n u2n u3n u4n x0n x1n x2n 
  go_wp2_with fail
  refine (via (w0 := W6) (by go_grown) (HB.out _)).mono ?_
  rintro e W7 ⟨rfl, hc, hf, hz, hB⟩
  have a0n : W7.cell? ⟨w.heap.size, 0, none⟩ = some (.int .i64 m) := (hc _ _ (cell_lt a0)).trans a0
  clear a0
  have a0 := a0n
  clear a0n
  have a1n : W7.cell? ⟨w.heap.size, 1, none⟩ = some (.int .i64 d) := (hc _ _ (cell_lt a1)).trans a1
  clear a1
  have a1 := a1n
  clear a1n
  have b0n : W7.cell? ⟨w.heap.size + 1, 0, none⟩ = some (.int .i64 m2) := (hc _ _ (cell_lt b0)).trans b0
  clear b0
  have b0 := b0n
  clear b0n
  have b1n : W7.cell? ⟨w.heap.size + 1, 1, none⟩ = some (.int .i64 d2) := (hc _ _ (cell_lt b1)).trans b1
  clear b1
  have b1 := b1n
  clear b1n
  have q0n : W7.cell? ⟨w.heap.size + 1 + 1, 0, none⟩ = some (.int .i64 i) := (hc _ _ (cell_lt q0)).trans q0
  clear q0
  have q0 := q0n
  clear q0n
  have q1n : W7.cell? ⟨w.heap.size + 1 + 1, 1, none⟩ = some (.int .i64 da) := (hc _ _ (cell_lt q1)).trans q1
  clear q1
  have q1 := q1n
  clear q1n
  have q2n : W7.cell? ⟨w.heap.size + 1 + 1, 2, none⟩ = some (.int .i64 s) := (hc _ _ (cell_lt q2)).trans q2
  clear q2
  have q2 := q2n
  clear q2n
  have q3n : W7.cell? ⟨w.heap.size + 1 + 1, 3, none⟩ = some (.int .i64 k) := (hc _ _ (cell_lt q3)).trans q3
  clear q3
  have q3 := q3n
  clear q3n
  have q4n : W7.cell? ⟨w.heap.size + 1 + 1, 4, none⟩ = some (.int .i64 wo) := (hc _ _ (cell_lt q4)).trans q4
  clear q4
  have q4 := q4n
  clear q4n
  have u0n : W7.cell? ⟨W3.heap.size, 0, none⟩ = some (.int .i64 i) := (hc _ _ (cell_lt u0)).trans u0
  clear u0
  have u0 := u0n
  clear u0n
  have u1n : W7.cell? ⟨W3.heap.size, 1, none⟩ = some (.int .i64 da) := (hc _ _ (cell_lt u1)).trans u1
  clear u1
  have u1 := u1n
  clear u1n
  have u2n : W7.cell? ⟨W3.heap.size, 2, none⟩ = some (.int .i64 s) := (hc _ _ (cell_lt u2)).trans u2
  clear u2
  have u2 := u2n
  clear u2n
  have u3n : W7.cell? ⟨W3.heap.size, 3, none⟩ = some (.int .i64 k) := (hc _ _ (cell_lt u3)).trans u3
  clear u3
  have u3 := u3n
  clear u3n
  have u4n : W7.cell? ⟨W3.heap.size, 4, none⟩ = some (.int .i64 (min 10000 (wo + more))) := (hc _ _ (cell_lt u4)).trans u4
  clear u4
  have u4 := u4n
  clear u4n
  have x0n : W7.cell? ⟨W5.heap.size, 0, none⟩ = some (.int .i64 xl) := (hc _ _ (cell_lt x0)).trans x0
  clear x0
  have x0 := x0n
  clear x0n
  have x1n : W7.cell? ⟨W5.heap.size, 1, none⟩ = some (.int .i64 xh) := (hc _ _ (cell_lt x1)).trans x1
  clear x1
  have x1 := x1n
  clear x1n
  have x2n : W7.cell? ⟨W5.heap.size, 2, none⟩ = some (.bool xs) := (hc _ _ (cell_lt x2)).trans x2
  clear x2
  have x2 := x2n
  clear x2n
  have hbn : Below w.heap.size w W7 := bthen hb0 hB
  clear hb0
  have hb0 := hbn
  clear hbn
  have hzW7 : W6.heap.size ≤ W7.heap.size := hz
  clear hc hf hB hz
  go_upto_region 7 with (fail)
  go_name_world W8 hW8
  have hbz := hb0.size
  have hbn : Below w.heap.size w W8 := by subst hW8; go_grown
  clear hb0 hbz
  have hb0 := hbn
  clear hbn
  have hbk : Below W7.heap.size W7 W8 := by subst hW8; go_grown
  have a0n : W8.cell? ⟨w.heap.size, 0, none⟩ = some (.int .i64 m) := ((bcell hbk).1 _ _ (cell_lt a0)).trans a0
  have a1n : W8.cell? ⟨w.heap.size, 1, none⟩ = some (.int .i64 d) := ((bcell hbk).1 _ _ (cell_lt a1)).trans a1
  have b0n : W8.cell? ⟨w.heap.size + 1, 0, none⟩ = some (.int .i64 m2) := ((bcell hbk).1 _ _ (cell_lt b0)).trans b0
  have b1n : W8.cell? ⟨w.heap.size + 1, 1, none⟩ = some (.int .i64 d2) := ((bcell hbk).1 _ _ (cell_lt b1)).trans b1
  have q0n : W8.cell? ⟨w.heap.size + 1 + 1, 0, none⟩ = some (.int .i64 i) := ((bcell hbk).1 _ _ (cell_lt q0)).trans q0
  have q1n : W8.cell? ⟨w.heap.size + 1 + 1, 1, none⟩ = some (.int .i64 da) := ((bcell hbk).1 _ _ (cell_lt q1)).trans q1
  have q2n : W8.cell? ⟨w.heap.size + 1 + 1, 2, none⟩ = some (.int .i64 s) := ((bcell hbk).1 _ _ (cell_lt q2)).trans q2
  have q3n : W8.cell? ⟨w.heap.size + 1 + 1, 3, none⟩ = some (.int .i64 k) := ((bcell hbk).1 _ _ (cell_lt q3)).trans q3
  have q4n : W8.cell? ⟨w.heap.size + 1 + 1, 4, none⟩ = some (.int .i64 wo) := ((bcell hbk).1 _ _ (cell_lt q4)).trans q4
  have u0n : W8.cell? ⟨W3.heap.size, 0, none⟩ = some (.int .i64 i) := ((bcell hbk).1 _ _ (cell_lt u0)).trans u0
  have u1n : W8.cell? ⟨W3.heap.size, 1, none⟩ = some (.int .i64 da) := ((bcell hbk).1 _ _ (cell_lt u1)).trans u1
  have u2n : W8.cell? ⟨W3.heap.size, 2, none⟩ = some (.int .i64 s) := ((bcell hbk).1 _ _ (cell_lt u2)).trans u2
  have u3n : W8.cell? ⟨W3.heap.size, 3, none⟩ = some (.int .i64 k) := ((bcell hbk).1 _ _ (cell_lt u3)).trans u3
  have u4n : W8.cell? ⟨W3.heap.size, 4, none⟩ = some (.int .i64 (min 10000 (wo + more))) := ((bcell hbk).1 _ _ (cell_lt u4)).trans u4
  have x0n : W8.cell? ⟨W5.heap.size, 0, none⟩ = some (.int .i64 xl) := ((bcell hbk).1 _ _ (cell_lt x0)).trans x0
  have x1n : W8.cell? ⟨W5.heap.size, 1, none⟩ = some (.int .i64 xh) := ((bcell hbk).1 _ _ (cell_lt x1)).trans x1
  have x2n : W8.cell? ⟨W5.heap.size, 2, none⟩ = some (.bool xs) := ((bcell hbk).1 _ _ (cell_lt x2)).trans x2
  clear hbk
  have y0n : W8.cell? ⟨W7.heap.size, 0, none⟩ = some (.int .i64 yl) := by subst hW8; go_simp
  have y1n : W8.cell? ⟨W7.heap.size, 1, none⟩ = some (.int .i64 yh) := by subst hW8; go_simp
  have y2n : W8.cell? ⟨W7.heap.size, 2, none⟩ = some (.bool ys) := by subst hW8; go_simp
  clear hW8 a0 a1 b0 b1 q0 q1 q2 q3 q4 u0 u1 u2 u3 u4 x0 x1 x2
  have a0 := a0n
  have a1 := a1n
  have b0 := b0n
  have b1 := b1n
  have q0 := q0n
  have q1 := q1n
  have q2 := q2n
  have q3 := q3n
  have q4 := q4n
  have u0 := u0n
  have u1 := u1n
  have u2 := u2n
  have u3 := u3n
  have u4 := u4n
  have x0 := x0n
  have x1 := x1n
  have x2 := x2n
  have y0 := y0n
  have y1 := y1n
  have y2 := y2n
  clear a0n a1n b0n b1n q0n q1n q2n q3n q4n u0n u1n u2n u3n u4n x0n x1n x2n y0n y1n y2n 
  go_wp2_with fail
  refine (via (w0 := W8) (by go_grown) (HC.out _)).mono ?_
  rintro e W9 ⟨rfl, hc, hf, hz, hB⟩
  have a0n : W9.cell? ⟨w.heap.size, 0, none⟩ = some (.int .i64 m) := (hc _ _ (cell_lt a0)).trans a0
  clear a0
  have a0 := a0n
  clear a0n
  have a1n : W9.cell? ⟨w.heap.size, 1, none⟩ = some (.int .i64 d) := (hc _ _ (cell_lt a1)).trans a1
  clear a1
  have a1 := a1n
  clear a1n
  have b0n : W9.cell? ⟨w.heap.size + 1, 0, none⟩ = some (.int .i64 m2) := (hc _ _ (cell_lt b0)).trans b0
  clear b0
  have b0 := b0n
  clear b0n
  have b1n : W9.cell? ⟨w.heap.size + 1, 1, none⟩ = some (.int .i64 d2) := (hc _ _ (cell_lt b1)).trans b1
  clear b1
  have b1 := b1n
  clear b1n
  have q0n : W9.cell? ⟨w.heap.size + 1 + 1, 0, none⟩ = some (.int .i64 i) := (hc _ _ (cell_lt q0)).trans q0
  clear q0
  have q0 := q0n
  clear q0n
  have q1n : W9.cell? ⟨w.heap.size + 1 + 1, 1, none⟩ = some (.int .i64 da) := (hc _ _ (cell_lt q1)).trans q1
  clear q1
  have q1 := q1n
  clear q1n
  have q2n : W9.cell? ⟨w.heap.size + 1 + 1, 2, none⟩ = some (.int .i64 s) := (hc _ _ (cell_lt q2)).trans q2
  clear q2
  have q2 := q2n
  clear q2n
  have q3n : W9.cell? ⟨w.heap.size + 1 + 1, 3, none⟩ = some (.int .i64 k) := (hc _ _ (cell_lt q3)).trans q3
  clear q3
  have q3 := q3n
  clear q3n
  have q4n : W9.cell? ⟨w.heap.size + 1 + 1, 4, none⟩ = some (.int .i64 wo) := (hc _ _ (cell_lt q4)).trans q4
  clear q4
  have q4 := q4n
  clear q4n
  have u0n : W9.cell? ⟨W3.heap.size, 0, none⟩ = some (.int .i64 i) := (hc _ _ (cell_lt u0)).trans u0
  clear u0
  have u0 := u0n
  clear u0n
  have u1n : W9.cell? ⟨W3.heap.size, 1, none⟩ = some (.int .i64 da) := (hc _ _ (cell_lt u1)).trans u1
  clear u1
  have u1 := u1n
  clear u1n
  have u2n : W9.cell? ⟨W3.heap.size, 2, none⟩ = some (.int .i64 s) := (hc _ _ (cell_lt u2)).trans u2
  clear u2
  have u2 := u2n
  clear u2n
  have u3n : W9.cell? ⟨W3.heap.size, 3, none⟩ = some (.int .i64 k) := (hc _ _ (cell_lt u3)).trans u3
  clear u3
  have u3 := u3n
  clear u3n
  have u4n : W9.cell? ⟨W3.heap.size, 4, none⟩ = some (.int .i64 (min 10000 (wo + more))) := (hc _ _ (cell_lt u4)).trans u4
  clear u4
  have u4 := u4n
  clear u4n
  have x0n : W9.cell? ⟨W5.heap.size, 0, none⟩ = some (.int .i64 xl) := (hc _ _ (cell_lt x0)).trans x0
  clear x0
  have x0 := x0n
  clear x0n
  have x1n : W9.cell? ⟨W5.heap.size, 1, none⟩ = some (.int .i64 xh) := (hc _ _ (cell_lt x1)).trans x1
  clear x1
  have x1 := x1n
  clear x1n
  have x2n : W9.cell? ⟨W5.heap.size, 2, none⟩ = some (.bool xs) := (hc _ _ (cell_lt x2)).trans x2
  clear x2
  have x2 := x2n
  clear x2n
  have y0n : W9.cell? ⟨W7.heap.size, 0, none⟩ = some (.int .i64 yl) := (hc _ _ (cell_lt y0)).trans y0
  clear y0
  have y0 := y0n
  clear y0n
  have y1n : W9.cell? ⟨W7.heap.size, 1, none⟩ = some (.int .i64 yh) := (hc _ _ (cell_lt y1)).trans y1
  clear y1
  have y1 := y1n
  clear y1n
  have y2n : W9.cell? ⟨W7.heap.size, 2, none⟩ = some (.bool ys) := (hc _ _ (cell_lt y2)).trans y2
  clear y2
  have y2 := y2n
  clear y2n
  have hbn : Below w.heap.size w W9 := bthen hb0 hB
  clear hb0
  have hb0 := hbn
  clear hbn
  have hzW9 : W8.heap.size ≤ W9.heap.size := hz
  clear hc hf hB hz
  go_upto_region 8 with (fail)
  go_name_world W10 hW10
  have hbz := hb0.size
  have hbn : Below w.heap.size w W10 := by subst hW10; go_grown
  clear hb0 hbz
  have hb0 := hbn
  clear hbn
  have hbk : Below W9.heap.size W9 W10 := by subst hW10; go_grown
  have a0n : W10.cell? ⟨w.heap.size, 0, none⟩ = some (.int .i64 m) := ((bcell hbk).1 _ _ (cell_lt a0)).trans a0
  have a1n : W10.cell? ⟨w.heap.size, 1, none⟩ = some (.int .i64 d) := ((bcell hbk).1 _ _ (cell_lt a1)).trans a1
  have b0n : W10.cell? ⟨w.heap.size + 1, 0, none⟩ = some (.int .i64 m2) := ((bcell hbk).1 _ _ (cell_lt b0)).trans b0
  have b1n : W10.cell? ⟨w.heap.size + 1, 1, none⟩ = some (.int .i64 d2) := ((bcell hbk).1 _ _ (cell_lt b1)).trans b1
  have q0n : W10.cell? ⟨w.heap.size + 1 + 1, 0, none⟩ = some (.int .i64 i) := ((bcell hbk).1 _ _ (cell_lt q0)).trans q0
  have q1n : W10.cell? ⟨w.heap.size + 1 + 1, 1, none⟩ = some (.int .i64 da) := ((bcell hbk).1 _ _ (cell_lt q1)).trans q1
  have q2n : W10.cell? ⟨w.heap.size + 1 + 1, 2, none⟩ = some (.int .i64 s) := ((bcell hbk).1 _ _ (cell_lt q2)).trans q2
  have q3n : W10.cell? ⟨w.heap.size + 1 + 1, 3, none⟩ = some (.int .i64 k) := ((bcell hbk).1 _ _ (cell_lt q3)).trans q3
  have q4n : W10.cell? ⟨w.heap.size + 1 + 1, 4, none⟩ = some (.int .i64 wo) := ((bcell hbk).1 _ _ (cell_lt q4)).trans q4
  have u0n : W10.cell? ⟨W3.heap.size, 0, none⟩ = some (.int .i64 i) := ((bcell hbk).1 _ _ (cell_lt u0)).trans u0
  have u1n : W10.cell? ⟨W3.heap.size, 1, none⟩ = some (.int .i64 da) := ((bcell hbk).1 _ _ (cell_lt u1)).trans u1
  have u2n : W10.cell? ⟨W3.heap.size, 2, none⟩ = some (.int .i64 s) := ((bcell hbk).1 _ _ (cell_lt u2)).trans u2
  have u3n : W10.cell? ⟨W3.heap.size, 3, none⟩ = some (.int .i64 k) := ((bcell hbk).1 _ _ (cell_lt u3)).trans u3
  have u4n : W10.cell? ⟨W3.heap.size, 4, none⟩ = some (.int .i64 (min 10000 (wo + more))) := ((bcell hbk).1 _ _ (cell_lt u4)).trans u4
  have x0n : W10.cell? ⟨W5.heap.size, 0, none⟩ = some (.int .i64 xl) := ((bcell hbk).1 _ _ (cell_lt x0)).trans x0
  have x1n : W10.cell? ⟨W5.heap.size, 1, none⟩ = some (.int .i64 xh) := ((bcell hbk).1 _ _ (cell_lt x1)).trans x1
  have x2n : W10.cell? ⟨W5.heap.size, 2, none⟩ = some (.bool xs) := ((bcell hbk).1 _ _ (cell_lt x2)).trans x2
  have y0n : W10.cell? ⟨W7.heap.size, 0, none⟩ = some (.int .i64 yl) := ((bcell hbk).1 _ _ (cell_lt y0)).trans y0
  have y1n : W10.cell? ⟨W7.heap.size, 1, none⟩ = some (.int .i64 yh) := ((bcell hbk).1 _ _ (cell_lt y1)).trans y1
  have y2n : W10.cell? ⟨W7.heap.size, 2, none⟩ = some (.bool ys) := ((bcell hbk).1 _ _ (cell_lt y2)).trans y2
  clear hbk
  have z0n : W10.cell? ⟨W9.heap.size, 0, none⟩ = some (.int .i64 zl) := by subst hW10; go_simp
  have z1n : W10.cell? ⟨W9.heap.size, 1, none⟩ = some (.int .i64 zh) := by subst hW10; go_simp
  have z2n : W10.cell? ⟨W9.heap.size, 2, none⟩ = some (.bool zs) := by subst hW10; go_simp
  clear hW10 a0 a1 b0 b1 q0 q1 q2 q3 q4 u0 u1 u2 u3 u4 x0 x1 x2 y0 y1 y2
  have a0 := a0n
  have a1 := a1n
  have b0 := b0n
  have b1 := b1n
  have q0 := q0n
  have q1 := q1n
  have q2 := q2n
  have q3 := q3n
  have q4 := q4n
  have u0 := u0n
  have u1 := u1n
  have u2 := u2n
  have u3 := u3n
  have u4 := u4n
  have x0 := x0n
  have x1 := x1n
  have x2 := x2n
  have y0 := y0n
  have y1 := y1n
  have y2 := y2n
  have z0 := z0n
  have z1 := z1n
  have z2 := z2n
  clear a0n a1n b0n b1n q0n q1n q2n q3n q4n u0n u1n u2n u3n u4n x0n x1n x2n y0n y1n y2n z0n z1n z2n 
  cases bx
  · have HX := Lib.hid KX.out
    go_wp2_with fail
    refine (via (w0 := W10) (by go_grown) (c_counted _)).mono ?_
    rintro e W11 ⟨rfl, hc, hf, hz, hB⟩
    have a0n : W11.cell? ⟨w.heap.size, 0, none⟩ = some (.int .i64 m) := (hc _ _ (cell_lt a0)).trans a0
    clear a0
    have a0 := a0n
    clear a0n
    have a1n : W11.cell? ⟨w.heap.size, 1, none⟩ = some (.int .i64 d) := (hc _ _ (cell_lt a1)).trans a1
    clear a1
    have a1 := a1n
    clear a1n
    have b0n : W11.cell? ⟨w.heap.size + 1, 0, none⟩ = some (.int .i64 m2) := (hc _ _ (cell_lt b0)).trans b0
    clear b0
    have b0 := b0n
    clear b0n
    have b1n : W11.cell? ⟨w.heap.size + 1, 1, none⟩ = some (.int .i64 d2) := (hc _ _ (cell_lt b1)).trans b1
    clear b1
    have b1 := b1n
    clear b1n
    have q0n : W11.cell? ⟨w.heap.size + 1 + 1, 0, none⟩ = some (.int .i64 i) := (hc _ _ (cell_lt q0)).trans q0
    clear q0
    have q0 := q0n
    clear q0n
    have q1n : W11.cell? ⟨w.heap.size + 1 + 1, 1, none⟩ = some (.int .i64 da) := (hc _ _ (cell_lt q1)).trans q1
    clear q1
    have q1 := q1n
    clear q1n
    have q2n : W11.cell? ⟨w.heap.size + 1 + 1, 2, none⟩ = some (.int .i64 s) := (hc _ _ (cell_lt q2)).trans q2
    clear q2
    have q2 := q2n
    clear q2n
    have q3n : W11.cell? ⟨w.heap.size + 1 + 1, 3, none⟩ = some (.int .i64 k) := (hc _ _ (cell_lt q3)).trans q3
    clear q3
    have q3 := q3n
    clear q3n
    have q4n : W11.cell? ⟨w.heap.size + 1 + 1, 4, none⟩ = some (.int .i64 wo) := (hc _ _ (cell_lt q4)).trans q4
    clear q4
    have q4 := q4n
    clear q4n
    have u0n : W11.cell? ⟨W3.heap.size, 0, none⟩ = some (.int .i64 i) := (hc _ _ (cell_lt u0)).trans u0
    clear u0
    have u0 := u0n
    clear u0n
    have u1n : W11.cell? ⟨W3.heap.size, 1, none⟩ = some (.int .i64 da) := (hc _ _ (cell_lt u1)).trans u1
    clear u1
    have u1 := u1n
    clear u1n
    have u2n : W11.cell? ⟨W3.heap.size, 2, none⟩ = some (.int .i64 s) := (hc _ _ (cell_lt u2)).trans u2
    clear u2
    have u2 := u2n
    clear u2n
    have u3n : W11.cell? ⟨W3.heap.size, 3, none⟩ = some (.int .i64 k) := (hc _ _ (cell_lt u3)).trans u3
    clear u3
    have u3 := u3n
    clear u3n
    have u4n : W11.cell? ⟨W3.heap.size, 4, none⟩ = some (.int .i64 (min 10000 (wo + more))) := (hc _ _ (cell_lt u4)).trans u4
    clear u4
    have u4 := u4n
    clear u4n
    have x0n : W11.cell? ⟨W5.heap.size, 0, none⟩ = some (.int .i64 xl) := (hc _ _ (cell_lt x0)).trans x0
    clear x0
    have x0 := x0n
    clear x0n
    have x1n : W11.cell? ⟨W5.heap.size, 1, none⟩ = some (.int .i64 xh) := (hc _ _ (cell_lt x1)).trans x1
    clear x1
    have x1 := x1n
    clear x1n
    have x2n : W11.cell? ⟨W5.heap.size, 2, none⟩ = some (.bool xs) := (hc _ _ (cell_lt x2)).trans x2
    clear x2
    have x2 := x2n
    clear x2n
    have y0n : W11.cell? ⟨W7.heap.size, 0, none⟩ = some (.int .i64 yl) := (hc _ _ (cell_lt y0)).trans y0
    clear y0
    have y0 := y0n
    clear y0n
    have y1n : W11.cell? ⟨W7.heap.size, 1, none⟩ = some (.int .i64 yh) := (hc _ _ (cell_lt y1)).trans y1
    clear y1
    have y1 := y1n
    clear y1n
    have y2n : W11.cell? ⟨W7.heap.size, 2, none⟩ = some (.bool ys) := (hc _ _ (cell_lt y2)).trans y2
    clear y2
    have y2 := y2n
    clear y2n
    have z0n : W11.cell? ⟨W9.heap.size, 0, none⟩ = some (.int .i64 zl) := (hc _ _ (cell_lt z0)).trans z0
    clear z0
    have z0 := z0n
    clear z0n
    have z1n : W11.cell? ⟨W9.heap.size, 1, none⟩ = some (.int .i64 zh) := (hc _ _ (cell_lt z1)).trans z1
    clear z1
    have z1 := z1n
    clear z1n
    have z2n : W11.cell? ⟨W9.heap.size, 2, none⟩ = some (.bool zs) := (hc _ _ (cell_lt z2)).trans z2
    clear z2
    have z2 := z2n
    clear z2n
    have hbn : Below w.heap.size w W11 := bthen hb0 hB
    clear hb0
    have hb0 := hbn
    clear hbn
    have hzW11 : W10.heap.size ≤ W11.heap.size := hz
    clear hc hf hB hz
    go_wp2_with fail
    refine (via (w0 := W11) (by go_grown) (HX.out _)).mono ?_
    rintro e W12 ⟨rfl, hc, hf, hz, hB⟩
    have a0n : W12.cell? ⟨w.heap.size, 0, none⟩ = some (.int .i64 m) := (hc _ _ (cell_lt a0)).trans a0
    clear a0
    have a0 := a0n
    clear a0n
    have a1n : W12.cell? ⟨w.heap.size, 1, none⟩ = some (.int .i64 d) := (hc _ _ (cell_lt a1)).trans a1
    clear a1
    have a1 := a1n
    clear a1n
    have b0n : W12.cell? ⟨w.heap.size + 1, 0, none⟩ = some (.int .i64 m2) := (hc _ _ (cell_lt b0)).trans b0
    clear b0
    have b0 := b0n
    clear b0n
    have b1n : W12.cell? ⟨w.heap.size + 1, 1, none⟩ = some (.int .i64 d2) := (hc _ _ (cell_lt b1)).trans b1
    clear b1
    have b1 := b1n
    clear b1n
    have q0n : W12.cell? ⟨w.heap.size + 1 + 1, 0, none⟩ = some (.int .i64 i) := (hc _ _ (cell_lt q0)).trans q0
    clear q0
    have q0 := q0n
    clear q0n
    have q1n : W12.cell? ⟨w.heap.size + 1 + 1, 1, none⟩ = some (.int .i64 da) := (hc _ _ (cell_lt q1)).trans q1
    clear q1
    have q1 := q1n
    clear q1n
    have q2n : W12.cell? ⟨w.heap.size + 1 + 1, 2, none⟩ = some (.int .i64 s) := (hc _ _ (cell_lt q2)).trans q2
    clear q2
    have q2 := q2n
    clear q2n
    have q3n : W12.cell? ⟨w.heap.size + 1 + 1, 3, none⟩ = some (.int .i64 k) := (hc _ _ (cell_lt q3)).trans q3
    clear q3
    have q3 := q3n
    clear q3n
    have q4n : W12.cell? ⟨w.heap.size + 1 + 1, 4, none⟩ = some (.int .i64 wo) := (hc _ _ (cell_lt q4)).trans q4
    clear q4
    have q4 := q4n
    clear q4n
    have u0n : W12.cell? ⟨W3.heap.size, 0, none⟩ = some (.int .i64 i) := (hc _ _ (cell_lt u0)).trans u0
    clear u0
    have u0 := u0n
    clear u0n
    have u1n : W12.cell? ⟨W3.heap.size, 1, none⟩ = some (.int .i64 da) := (hc _ _ (cell_lt u1)).trans u1
    clear u1
    have u1 := u1n
    clear u1n
    have u2n : W12.cell? ⟨W3.heap.size, 2, none⟩ = some (.int .i64 s) := (hc _ _ (cell_lt u2)).trans u2
    clear u2
    have u2 := u2n
    clear u2n
    have u3n : W12.cell? ⟨W3.heap.size, 3, none⟩ = some (.int .i64 k) := (hc _ _ (cell_lt u3)).trans u3
    clear u3
    have u3 := u3n
    clear u3n
    have u4n : W12.cell? ⟨W3.heap.size, 4, none⟩ = some (.int .i64 (min 10000 (wo + more))) := (hc _ _ (cell_lt u4)).trans u4
    clear u4
    have u4 := u4n
    clear u4n
    have x0n : W12.cell? ⟨W5.heap.size, 0, none⟩ = some (.int .i64 xl) := (hc _ _ (cell_lt x0)).trans x0
    clear x0
    have x0 := x0n
    clear x0n
    have x1n : W12.cell? ⟨W5.heap.size, 1, none⟩ = some (.int .i64 xh) := (hc _ _ (cell_lt x1)).trans x1
    clear x1
    have x1 := x1n
    clear x1n
    have x2n : W12.cell? ⟨W5.heap.size, 2, none⟩ = some (.bool xs) := (hc _ _ (cell_lt x2)).trans x2
    clear x2
    have x2 := x2n
    clear x2n
    have y0n : W12.cell? ⟨W7.heap.size, 0, none⟩ = some (.int .i64 yl) := (hc _ _ (cell_lt y0)).trans y0
    clear y0
    have y0 := y0n
    clear y0n
    have y1n : W12.cell? ⟨W7.heap.size, 1, none⟩ = some (.int .i64 yh) := (hc _ _ (cell_lt y1)).trans y1
    clear y1
    have y1 := y1n
    clear y1n
    have y2n : W12.cell? ⟨W7.heap.size, 2, none⟩ = some (.bool ys) := (hc _ _ (cell_lt y2)).trans y2
    clear y2
    have y2 := y2n
    clear y2n
    have z0n : W12.cell? ⟨W9.heap.size, 0, none⟩ = some (.int .i64 zl) := (hc _ _ (cell_lt z0)).trans z0
    clear z0
    have z0 := z0n
    clear z0n
    have z1n : W12.cell? ⟨W9.heap.size, 1, none⟩ = some (.int .i64 zh) := (hc _ _ (cell_lt z1)).trans z1
    clear z1
    have z1 := z1n
    clear z1n
    have z2n : W12.cell? ⟨W9.heap.size, 2, none⟩ = some (.bool zs) := (hc _ _ (cell_lt z2)).trans z2
    clear z2
    have z2 := z2n
    clear z2n
    have hbn : Below w.heap.size w W12 := bthen hb0 hB
    clear hb0
    have hb0 := hbn
    clear hbn
    have hzW12 : W11.heap.size ≤ W12.heap.size := hz
    clear hc hf hB hz
    go_wp2_with fail
    go_ret
    exact ⟨rfl, by have hbz := hb0.size; go_grown⟩
  · have e2 := J2.out rfl
    have e3 := J3.out rfl
    subst e2 e3
    have HX := Lib.hid KX.out
    have HY := Lib.hid KY.out
    have HZ := Lib.hid KZ.out
    go_wp2_with fail
    refine (via (w0 := W10) (by go_grown) (c_counted _)).mono ?_
    rintro e W11 ⟨rfl, hc, hf, hz, hB⟩
    have a0n : W11.cell? ⟨w.heap.size, 0, none⟩ = some (.int .i64 m) := (hc _ _ (cell_lt a0)).trans a0
    clear a0
    have a0 := a0n
    clear a0n
    have a1n : W11.cell? ⟨w.heap.size, 1, none⟩ = some (.int .i64 d) := (hc _ _ (cell_lt a1)).trans a1
    clear a1
    have a1 := a1n
    clear a1n
    have b0n : W11.cell? ⟨w.heap.size + 1, 0, none⟩ = some (.int .i64 m2) := (hc _ _ (cell_lt b0)).trans b0
    clear b0
    have b0 := b0n
    clear b0n
    have b1n : W11.cell? ⟨w.heap.size + 1, 1, none⟩ = some (.int .i64 d2) := (hc _ _ (cell_lt b1)).trans b1
    clear b1
    have b1 := b1n
    clear b1n
    have q0n : W11.cell? ⟨w.heap.size + 1 + 1, 0, none⟩ = some (.int .i64 i) := (hc _ _ (cell_lt q0)).trans q0
    clear q0
    have q0 := q0n
    clear q0n
    have q1n : W11.cell? ⟨w.heap.size + 1 + 1, 1, none⟩ = some (.int .i64 da) := (hc _ _ (cell_lt q1)).trans q1
    clear q1
    have q1 := q1n
    clear q1n
    have q2n : W11.cell? ⟨w.heap.size + 1 + 1, 2, none⟩ = some (.int .i64 s) := (hc _ _ (cell_lt q2)).trans q2
    clear q2
    have q2 := q2n
    clear q2n
    have q3n : W11.cell? ⟨w.heap.size + 1 + 1, 3, none⟩ = some (.int .i64 k) := (hc _ _ (cell_lt q3)).trans q3
    clear q3
    have q3 := q3n
    clear q3n
    have q4n : W11.cell? ⟨w.heap.size + 1 + 1, 4, none⟩ = some (.int .i64 wo) := (hc _ _ (cell_lt q4)).trans q4
    clear q4
    have q4 := q4n
    clear q4n
    have u0n : W11.cell? ⟨W3.heap.size, 0, none⟩ = some (.int .i64 i) := (hc _ _ (cell_lt u0)).trans u0
    clear u0
    have u0 := u0n
    clear u0n
    have u1n : W11.cell? ⟨W3.heap.size, 1, none⟩ = some (.int .i64 da) := (hc _ _ (cell_lt u1)).trans u1
    clear u1
    have u1 := u1n
    clear u1n
    have u2n : W11.cell? ⟨W3.heap.size, 2, none⟩ = some (.int .i64 s) := (hc _ _ (cell_lt u2)).trans u2
    clear u2
    have u2 := u2n
    clear u2n
    have u3n : W11.cell? ⟨W3.heap.size, 3, none⟩ = some (.int .i64 k) := (hc _ _ (cell_lt u3)).trans u3
    clear u3
    have u3 := u3n
    clear u3n
    have u4n : W11.cell? ⟨W3.heap.size, 4, none⟩ = some (.int .i64 (min 10000 (wo + more))) := (hc _ _ (cell_lt u4)).trans u4
    clear u4
    have u4 := u4n
    clear u4n
    have x0n : W11.cell? ⟨W5.heap.size, 0, none⟩ = some (.int .i64 xl) := (hc _ _ (cell_lt x0)).trans x0
    clear x0
    have x0 := x0n
    clear x0n
    have x1n : W11.cell? ⟨W5.heap.size, 1, none⟩ = some (.int .i64 xh) := (hc _ _ (cell_lt x1)).trans x1
    clear x1
    have x1 := x1n
    clear x1n
    have x2n : W11.cell? ⟨W5.heap.size, 2, none⟩ = some (.bool xs) := (hc _ _ (cell_lt x2)).trans x2
    clear x2
    have x2 := x2n
    clear x2n
    have y0n : W11.cell? ⟨W7.heap.size, 0, none⟩ = some (.int .i64 yl) := (hc _ _ (cell_lt y0)).trans y0
    clear y0
    have y0 := y0n
    clear y0n
    have y1n : W11.cell? ⟨W7.heap.size, 1, none⟩ = some (.int .i64 yh) := (hc _ _ (cell_lt y1)).trans y1
    clear y1
    have y1 := y1n
    clear y1n
    have y2n : W11.cell? ⟨W7.heap.size, 2, none⟩ = some (.bool ys) := (hc _ _ (cell_lt y2)).trans y2
    clear y2
    have y2 := y2n
    clear y2n
    have z0n : W11.cell? ⟨W9.heap.size, 0, none⟩ = some (.int .i64 zl) := (hc _ _ (cell_lt z0)).trans z0
    clear z0
    have z0 := z0n
    clear z0n
    have z1n : W11.cell? ⟨W9.heap.size, 1, none⟩ = some (.int .i64 zh) := (hc _ _ (cell_lt z1)).trans z1
    clear z1
    have z1 := z1n
    clear z1n
    have z2n : W11.cell? ⟨W9.heap.size, 2, none⟩ = some (.bool zs) := (hc _ _ (cell_lt z2)).trans z2
    clear z2
    have z2 := z2n
    clear z2n
    have hbn : Below w.heap.size w W11 := bthen hb0 hB
    clear hb0
    have hb0 := hbn
    clear hbn
    have hzW11 : W10.heap.size ≤ W11.heap.size := hz
    clear hc hf hB hz
    go_wp2_with fail
    refine (via (w0 := W11) (by go_grown) (HX.out _)).mono ?_
    rintro e W12 ⟨rfl, hc, hf, hz, hB⟩
    have a0n : W12.cell? ⟨w.heap.size, 0, none⟩ = some (.int .i64 m) := (hc _ _ (cell_lt a0)).trans a0
    clear a0
    have a0 := a0n
    clear a0n
    have a1n : W12.cell? ⟨w.heap.size, 1, none⟩ = some (.int .i64 d) := (hc _ _ (cell_lt a1)).trans a1
    clear a1
    have a1 := a1n
    clear a1n
    have b0n : W12.cell? ⟨w.heap.size + 1, 0, none⟩ = some (.int .i64 m2) := (hc _ _ (cell_lt b0)).trans b0
    clear b0
    have b0 := b0n
    clear b0n
    have b1n : W12.cell? ⟨w.heap.size + 1, 1, none⟩ = some (.int .i64 d2) := (hc _ _ (cell_lt b1)).trans b1
    clear b1
    have b1 := b1n
    clear b1n
    have q0n : W12.cell? ⟨w.heap.size + 1 + 1, 0, none⟩ = some (.int .i64 i) := (hc _ _ (cell_lt q0)).trans q0
    clear q0
    have q0 := q0n
    clear q0n
    have q1n : W12.cell? ⟨w.heap.size + 1 + 1, 1, none⟩ = some (.int .i64 da) := (hc _ _ (cell_lt q1)).trans q1
    clear q1
    have q1 := q1n
    clear q1n
    have q2n : W12.cell? ⟨w.heap.size + 1 + 1, 2, none⟩ = some (.int .i64 s) := (hc _ _ (cell_lt q2)).trans q2
    clear q2
    have q2 := q2n
    clear q2n
    have q3n : W12.cell? ⟨w.heap.size + 1 + 1, 3, none⟩ = some (.int .i64 k) := (hc _ _ (cell_lt q3)).trans q3
    clear q3
    have q3 := q3n
    clear q3n
    have q4n : W12.cell? ⟨w.heap.size + 1 + 1, 4, none⟩ = some (.int .i64 wo) := (hc _ _ (cell_lt q4)).trans q4
    clear q4
    have q4 := q4n
    clear q4n
    have u0n : W12.cell? ⟨W3.heap.size, 0, none⟩ = some (.int .i64 i) := (hc _ _ (cell_lt u0)).trans u0
    clear u0
    have u0 := u0n
    clear u0n
    have u1n : W12.cell? ⟨W3.heap.size, 1, none⟩ = some (.int .i64 da) := (hc _ _ (cell_lt u1)).trans u1
    clear u1
    have u1 := u1n
    clear u1n
    have u2n : W12.cell? ⟨W3.heap.size, 2, none⟩ = some (.int .i64 s) := (hc _ _ (cell_lt u2)).trans u2
    clear u2
    have u2 := u2n
    clear u2n
    have u3n : W12.cell? ⟨W3.heap.size, 3, none⟩ = some (.int .i64 k) := (hc _ _ (cell_lt u3)).trans u3
    clear u3
    have u3 := u3n
    clear u3n
    have u4n : W12.cell? ⟨W3.heap.size, 4, none⟩ = some (.int .i64 (min 10000 (wo + more))) := (hc _ _ (cell_lt u4)).trans u4
    clear u4
    have u4 := u4n
    clear u4n
    have x0n : W12.cell? ⟨W5.heap.size, 0, none⟩ = some (.int .i64 xl) := (hc _ _ (cell_lt x0)).trans x0
    clear x0
    have x0 := x0n
    clear x0n
    have x1n : W12.cell? ⟨W5.heap.size, 1, none⟩ = some (.int .i64 xh) := (hc _ _ (cell_lt x1)).trans x1
    clear x1
    have x1 := x1n
    clear x1n
    have x2n : W12.cell? ⟨W5.heap.size, 2, none⟩ = some (.bool xs) := (hc _ _ (cell_lt x2)).trans x2
    clear x2
    have x2 := x2n
    clear x2n
    have y0n : W12.cell? ⟨W7.heap.size, 0, none⟩ = some (.int .i64 yl) := (hc _ _ (cell_lt y0)).trans y0
    clear y0
    have y0 := y0n
    clear y0n
    have y1n : W12.cell? ⟨W7.heap.size, 1, none⟩ = some (.int .i64 yh) := (hc _ _ (cell_lt y1)).trans y1
    clear y1
    have y1 := y1n
    clear y1n
    have y2n : W12.cell? ⟨W7.heap.size, 2, none⟩ = some (.bool ys) := (hc _ _ (cell_lt y2)).trans y2
    clear y2
    have y2 := y2n
    clear y2n
    have z0n : W12.cell? ⟨W9.heap.size, 0, none⟩ = some (.int .i64 zl) := (hc _ _ (cell_lt z0)).trans z0
    clear z0
    have z0 := z0n
    clear z0n
    have z1n : W12.cell? ⟨W9.heap.size, 1, none⟩ = some (.int .i64 zh) := (hc _ _ (cell_lt z1)).trans z1
    clear z1
    have z1 := z1n
    clear z1n
    have z2n : W12.cell? ⟨W9.heap.size, 2, none⟩ = some (.bool zs) := (hc _ _ (cell_lt z2)).trans z2
    clear z2
    have z2 := z2n
    clear z2n
    have hbn : Below w.heap.size w W12 := bthen hb0 hB
    clear hb0
    have hb0 := hbn
    clear hbn
    have hzW12 : W11.heap.size ≤ W12.heap.size := hz
    clear hc hf hB hz
    go_wp2_with fail
    refine (via (w0 := W12) (by go_grown) (HY.out _)).mono ?_
    rintro e W13 ⟨rfl, hc, hf, hz, hB⟩
    have a0n : W13.cell? ⟨w.heap.size, 0, none⟩ = some (.int .i64 m) := (hc _ _ (cell_lt a0)).trans a0
    clear a0
    have a0 := a0n
    clear a0n
    have a1n : W13.cell? ⟨w.heap.size, 1, none⟩ = some (.int .i64 d) := (hc _ _ (cell_lt a1)).trans a1
    clear a1
    have a1 := a1n
    clear a1n
    have b0n : W13.cell? ⟨w.heap.size + 1, 0, none⟩ = some (.int .i64 m2) := (hc _ _ (cell_lt b0)).trans b0
    clear b0
    have b0 := b0n
    clear b0n
    have b1n : W13.cell? ⟨w.heap.size + 1, 1, none⟩ = some (.int .i64 d2) := (hc _ _ (cell_lt b1)).trans b1
    clear b1
    have b1 := b1n
    clear b1n
    have q0n : W13.cell? ⟨w.heap.size + 1 + 1, 0, none⟩ = some (.int .i64 i) := (hc _ _ (cell_lt q0)).trans q0
    clear q0
    have q0 := q0n
    clear q0n
    have q1n : W13.cell? ⟨w.heap.size + 1 + 1, 1, none⟩ = some (.int .i64 da) := (hc _ _ (cell_lt q1)).trans q1
    clear q1
    have q1 := q1n
    clear q1n
    have q2n : W13.cell? ⟨w.heap.size + 1 + 1, 2, none⟩ = some (.int .i64 s) := (hc _ _ (cell_lt q2)).trans q2
    clear q2
    have q2 := q2n
    clear q2n
    have q3n : W13.cell? ⟨w.heap.size + 1 + 1, 3, none⟩ = some (.int .i64 k) := (hc _ _ (cell_lt q3)).trans q3
    clear q3
    have q3 := q3n
    clear q3n
    have q4n : W13.cell? ⟨w.heap.size + 1 + 1, 4, none⟩ = some (.int .i64 wo) := (hc _ _ (cell_lt q4)).trans q4
    clear q4
    have q4 := q4n
    clear q4n
    have u0n : W13.cell? ⟨W3.heap.size, 0, none⟩ = some (.int .i64 i) := (hc _ _ (cell_lt u0)).trans u0
    clear u0
    have u0 := u0n
    clear u0n
    have u1n : W13.cell? ⟨W3.heap.size, 1, none⟩ = some (.int .i64 da) := (hc _ _ (cell_lt u1)).trans u1
    clear u1
    have u1 := u1n
    clear u1n
    have u2n : W13.cell? ⟨W3.heap.size, 2, none⟩ = some (.int .i64 s) := (hc _ _ (cell_lt u2)).trans u2
    clear u2
    have u2 := u2n
    clear u2n
    have u3n : W13.cell? ⟨W3.heap.size, 3, none⟩ = some (.int .i64 k) := (hc _ _ (cell_lt u3)).trans u3
    clear u3
    have u3 := u3n
    clear u3n
    have u4n : W13.cell? ⟨W3.heap.size, 4, none⟩ = some (.int .i64 (min 10000 (wo + more))) := (hc _ _ (cell_lt u4)).trans u4
    clear u4
    have u4 := u4n
    clear u4n
    have x0n : W13.cell? ⟨W5.heap.size, 0, none⟩ = some (.int .i64 xl) := (hc _ _ (cell_lt x0)).trans x0
    clear x0
    have x0 := x0n
    clear x0n
    have x1n : W13.cell? ⟨W5.heap.size, 1, none⟩ = some (.int .i64 xh) := (hc _ _ (cell_lt x1)).trans x1
    clear x1
    have x1 := x1n
    clear x1n
    have x2n : W13.cell? ⟨W5.heap.size, 2, none⟩ = some (.bool xs) := (hc _ _ (cell_lt x2)).trans x2
    clear x2
    have x2 := x2n
    clear x2n
    have y0n : W13.cell? ⟨W7.heap.size, 0, none⟩ = some (.int .i64 yl) := (hc _ _ (cell_lt y0)).trans y0
    clear y0
    have y0 := y0n
    clear y0n
    have y1n : W13.cell? ⟨W7.heap.size, 1, none⟩ = some (.int .i64 yh) := (hc _ _ (cell_lt y1)).trans y1
    clear y1
    have y1 := y1n
    clear y1n
    have y2n : W13.cell? ⟨W7.heap.size, 2, none⟩ = some (.bool ys) := (hc _ _ (cell_lt y2)).trans y2
    clear y2
    have y2 := y2n
    clear y2n
    have z0n : W13.cell? ⟨W9.heap.size, 0, none⟩ = some (.int .i64 zl) := (hc _ _ (cell_lt z0)).trans z0
    clear z0
    have z0 := z0n
    clear z0n
    have z1n : W13.cell? ⟨W9.heap.size, 1, none⟩ = some (.int .i64 zh) := (hc _ _ (cell_lt z1)).trans z1
    clear z1
    have z1 := z1n
    clear z1n
    have z2n : W13.cell? ⟨W9.heap.size, 2, none⟩ = some (.bool zs) := (hc _ _ (cell_lt z2)).trans z2
    clear z2
    have z2 := z2n
    clear z2n
    have hbn : Below w.heap.size w W13 := bthen hb0 hB
    clear hb0
    have hb0 := hbn
    clear hbn
    have hzW13 : W12.heap.size ≤ W13.heap.size := hz
    clear hc hf hB hz
    go_wp2_with fail
    refine (via (w0 := W13) (by go_grown) (HZ.out _)).mono ?_
    rintro e W14 ⟨rfl, hc, hf, hz, hB⟩
    have a0n : W14.cell? ⟨w.heap.size, 0, none⟩ = some (.int .i64 m) := (hc _ _ (cell_lt a0)).trans a0
    clear a0
    have a0 := a0n
    clear a0n
    have a1n : W14.cell? ⟨w.heap.size, 1, none⟩ = some (.int .i64 d) := (hc _ _ (cell_lt a1)).trans a1
    clear a1
    have a1 := a1n
    clear a1n
    have b0n : W14.cell? ⟨w.heap.size + 1, 0, none⟩ = some (.int .i64 m2) := (hc _ _ (cell_lt b0)).trans b0
    clear b0
    have b0 := b0n
    clear b0n
    have b1n : W14.cell? ⟨w.heap.size + 1, 1, none⟩ = some (.int .i64 d2) := (hc _ _ (cell_lt b1)).trans b1
    clear b1
    have b1 := b1n
    clear b1n
    have q0n : W14.cell? ⟨w.heap.size + 1 + 1, 0, none⟩ = some (.int .i64 i) := (hc _ _ (cell_lt q0)).trans q0
    clear q0
    have q0 := q0n
    clear q0n
    have q1n : W14.cell? ⟨w.heap.size + 1 + 1, 1, none⟩ = some (.int .i64 da) := (hc _ _ (cell_lt q1)).trans q1
    clear q1
    have q1 := q1n
    clear q1n
    have q2n : W14.cell? ⟨w.heap.size + 1 + 1, 2, none⟩ = some (.int .i64 s) := (hc _ _ (cell_lt q2)).trans q2
    clear q2
    have q2 := q2n
    clear q2n
    have q3n : W14.cell? ⟨w.heap.size + 1 + 1, 3, none⟩ = some (.int .i64 k) := (hc _ _ (cell_lt q3)).trans q3
    clear q3
    have q3 := q3n
    clear q3n
    have q4n : W14.cell? ⟨w.heap.size + 1 + 1, 4, none⟩ = some (.int .i64 wo) := (hc _ _ (cell_lt q4)).trans q4
    clear q4
    have q4 := q4n
    clear q4n
    have u0n : W14.cell? ⟨W3.heap.size, 0, none⟩ = some (.int .i64 i) := (hc _ _ (cell_lt u0)).trans u0
    clear u0
    have u0 := u0n
    clear u0n
    have u1n : W14.cell? ⟨W3.heap.size, 1, none⟩ = some (.int .i64 da) := (hc _ _ (cell_lt u1)).trans u1
    clear u1
    have u1 := u1n
    clear u1n
    have u2n : W14.cell? ⟨W3.heap.size, 2, none⟩ = some (.int .i64 s) := (hc _ _ (cell_lt u2)).trans u2
    clear u2
    have u2 := u2n
    clear u2n
    have u3n : W14.cell? ⟨W3.heap.size, 3, none⟩ = some (.int .i64 k) := (hc _ _ (cell_lt u3)).trans u3
    clear u3
    have u3 := u3n
    clear u3n
    have u4n : W14.cell? ⟨W3.heap.size, 4, none⟩ = some (.int .i64 (min 10000 (wo + more))) := (hc _ _ (cell_lt u4)).trans u4
    clear u4
    have u4 := u4n
    clear u4n
    have x0n : W14.cell? ⟨W5.heap.size, 0, none⟩ = some (.int .i64 xl) := (hc _ _ (cell_lt x0)).trans x0
    clear x0
    have x0 := x0n
    clear x0n
    have x1n : W14.cell? ⟨W5.heap.size, 1, none⟩ = some (.int .i64 xh) := (hc _ _ (cell_lt x1)).trans x1
    clear x1
    have x1 := x1n
    clear x1n
    have x2n : W14.cell? ⟨W5.heap.size, 2, none⟩ = some (.bool xs) := (hc _ _ (cell_lt x2)).trans x2
    clear x2
    have x2 := x2n
    clear x2n
    have y0n : W14.cell? ⟨W7.heap.size, 0, none⟩ = some (.int .i64 yl) := (hc _ _ (cell_lt y0)).trans y0
    clear y0
    have y0 := y0n
    clear y0n
    have y1n : W14.cell? ⟨W7.heap.size, 1, none⟩ = some (.int .i64 yh) := (hc _ _ (cell_lt y1)).trans y1
    clear y1
    have y1 := y1n
    clear y1n
    have y2n : W14.cell? ⟨W7.heap.size, 2, none⟩ = some (.bool ys) := (hc _ _ (cell_lt y2)).trans y2
    clear y2
    have y2 := y2n
    clear y2n
    have z0n : W14.cell? ⟨W9.heap.size, 0, none⟩ = some (.int .i64 zl) := (hc _ _ (cell_lt z0)).trans z0
    clear z0
    have z0 := z0n
    clear z0n
    have z1n : W14.cell? ⟨W9.heap.size, 1, none⟩ = some (.int .i64 zh) := (hc _ _ (cell_lt z1)).trans z1
    clear z1
    have z1 := z1n
    clear z1n
    have z2n : W14.cell? ⟨W9.heap.size, 2, none⟩ = some (.bool zs) := (hc _ _ (cell_lt z2)).trans z2
    clear z2
    have z2 := z2n
    clear z2n
    have hbn : Below w.heap.size w W14 := bthen hb0 hB
    clear hb0
    have hb0 := hbn
    clear hbn
    have hzW14 : W13.heap.size ≤ W14.heap.size := hz
    clear hc hf hB hz
    go_wp2_with fail
    go_ret
    exact ⟨rfl, by have hbz := hb0.size; go_grown⟩

set_option maxRecDepth 100000 in
set_option maxHeartbeats 8000000 in
theorem walk (m d m2 d2 i da s k wo more n : Int) (w : World) :
    Calls Try.prog 4 #[.agg #[.int .i64 m, .int .i64 d], .agg #[.int .i64 m2, .int .i64 d2], .agg #[.int .i64 i, .int .i64 da, .int .i64 s, .int .i64 k, .int .i64 wo], .int .i64 more, .int .i64 n] w fun e w' => e = .returned (.bool true) ∧ Below w.heap.size w w' := by
  cases h1 : narrowB m d m2 d2
  · exact walk_a m d m2 d2 i da s k wo more n w h1
  cases h2 : inR 0 100000 n
  · exact walk_b m d m2 d2 i da s k wo more n w h1 h2
  by_cases h3 : more < 0
  · exact walk_c m d m2 d2 i da s k wo more n w h1 h2 h3
  by_cases h4 : 10000 < more
  · exact walk_d m d m2 d2 i da s k wo more n w h1 h2 h4
  cases h5 : countB i da s k wo
  · exact walk_e m d m2 d2 i da s k wo more n w h1 h2 (by omega) h5
  · exact walk_f m d m2 d2 i da s k wo more n w h1 h2 (by omega) h5


set_option maxRecDepth 100000 in
theorem lifted (os : Os) (started : os.Started) (H : Type) (enc : TypeId × Value → H) :
    ReturnsInHanded {} Try.checked os 4 .any (Rows.tallyNarrowerSpec.pre6 enc Try.prog Try.f4 Rows.tallyNarrowerRow.domain false) (Rows.tallyNarrowerSpec.post enc Try.prog Try.f4 false true false false) := by
  refine returnsInHanded_of_change (C := Try.checked) own started (by kernel_rfl) Try.func4
    (ChangeSpec.witness6 (enc := enc) (C := Try.checked) false ⟨#[], #[.agg #[.int .i64 0, .int .i64 0], .agg #[.int .i64 0, .int .i64 0], .agg #[.int .i64 0, .int .i64 0, .int .i64 0, .int .i64 0, .int .i64 0], .int .i64 0, .int .i64 0], []⟩ 8 (by kernel_rfl) (by kernel_rfl) (by kernel_rfl) (by kernel_rfl)) ?_
  intro W base args ds gs before hval0 hW _ _
  have hval : ∀ (j : Nat) t v, Try.f4.params[j]? = some t → args[j]? = some v → Value.okWide Try.prog W .any base t v := hval0
  have hW' := hW
  obtain ⟨p, q, hA0, hV, rfl, _, _⟩ := hW
  have hA : DataW.TrodAll enc Try.prog W 0 (fun _ => true) true Try.f4.params.toList args.toList ds p := hA0
  rw [Try.params4] at hA hval
  obtain ⟨v0, vs0, d0, ds0, p0, q0, hargs, rfl, rfl, h0, r0⟩ := trodAll_cons hA
  obtain ⟨v1, vs1, d1, ds1, p1, q1, rfl, rfl, rfl, h1, r1⟩ := trodAll_cons r0
  obtain ⟨v2, vs2, d2, ds2, p2, q2, rfl, rfl, rfl, h2, r2⟩ := trodAll_cons r1
  obtain ⟨v3, vs3, d3, ds3, p3, q3, rfl, rfl, rfl, h3, r3⟩ := trodAll_cons r2
  obtain ⟨v4, vs4, d4, ds4, p4, q4, rfl, rfl, rfl, h4, r4⟩ := trodAll_cons r3
  obtain ⟨rfl, rfl, rfl⟩ := trodAll_nil r4
  obtain rfl : args = #[v0, v1, v2, v3, v4] := by cases args; simp_all
  obtain ⟨rfl, rfl⟩ := trodVars_none hV
  obtain ⟨c0x0, c0x1, y0x0, y0x1, m0, rfl, rfl, rfl, hy0x0, hy0x1⟩ := open_agg2 Try.underlying27 (by kernel_rfl) (by kernel_rfl) (hval 0 27 v0 rfl rfl) h0
  obtain ⟨a0x0, e0x0, rfl, w0x0⟩ := DataW.trod_int Try.underlying3 hy0x0
  obtain ⟨a0x1, e0x1, rfl, w0x1⟩ := DataW.trod_int Try.underlying3 hy0x1
  simp only [List.cons.injEq, and_true] at e0x0 e0x1
  subst e0x0 e0x1
  obtain ⟨c1x0, c1x1, y1x0, y1x1, m1, rfl, rfl, rfl, hy1x0, hy1x1⟩ := open_agg2 Try.underlying27 (by kernel_rfl) (by kernel_rfl) (hval 1 27 v1 rfl rfl) h1
  obtain ⟨a1x0, e1x0, rfl, w1x0⟩ := DataW.trod_int Try.underlying3 hy1x0
  obtain ⟨a1x1, e1x1, rfl, w1x1⟩ := DataW.trod_int Try.underlying3 hy1x1
  simp only [List.cons.injEq, and_true] at e1x0 e1x1
  subst e1x0 e1x1
  obtain ⟨c2x0, c2x1, c2x2, c2x3, c2x4, y2x0, y2x1, y2x2, y2x3, y2x4, m2, rfl, rfl, rfl, hy2x0, hy2x1, hy2x2, hy2x3, hy2x4⟩ := open_agg5 Try.underlying29 (by kernel_rfl) (by kernel_rfl) (hval 2 29 v2 rfl rfl) h2
  obtain ⟨a2x0, e2x0, rfl, w2x0⟩ := DataW.trod_int Try.underlying3 hy2x0
  obtain ⟨a2x1, e2x1, rfl, w2x1⟩ := DataW.trod_int Try.underlying3 hy2x1
  obtain ⟨a2x2, e2x2, rfl, w2x2⟩ := DataW.trod_int Try.underlying3 hy2x2
  obtain ⟨a2x3, e2x3, rfl, w2x3⟩ := DataW.trod_int Try.underlying3 hy2x3
  obtain ⟨a2x4, e2x4, rfl, w2x4⟩ := DataW.trod_int Try.underlying3 hy2x4
  simp only [List.cons.injEq, and_true] at e2x0 e2x1 e2x2 e2x3 e2x4
  subst e2x0 e2x1 e2x2 e2x3 e2x4
  obtain ⟨a3, rfl, rfl, rfl, w3⟩ := open_int Try.underlying3 (hval 3 3 v3 rfl rfl) h3
  obtain ⟨a4, rfl, rfl, rfl, w4⟩ := open_int Try.underlying3 (hval 4 3 v4 rfl rfl) h4
  clear hA0 hval0
  simp only [List.append_nil] at hW'
  have s0 := stays h0 (by kernel_rfl) (by kernel_rfl)
  have s1 := stays h1 (by kernel_rfl) (by kernel_rfl)
  have s2 := stays h2 (by kernel_rfl) (by kernel_rfl)
  have s3 := stays h3 (by kernel_rfl) (by kernel_rfl)
  have s4 := stays h4 (by kernel_rfl) (by kernel_rfl)
  refine (walk a0x0 a0x1 a1x0 a1x1 a2x0 a2x1 a2x2 a2x3 a2x4 a3 a4 W).mono fun e W' ⟨he, hg⟩ => ?_
  subst he
  exact ⟨_, rfl, post_of_below (pa := []) (pv := []) hW' (fun _ _ _ => (trodAll_cons_mk (shut_bool Try.underlying4 _) trodAll_mk0)) (fun sp _ => (trodAll_cons_mk (s0 _ _) (trodAll_cons_mk (s1 _ _) (trodAll_cons_mk (s2 _ _) (trodAll_cons_mk (s3 _ _) (trodAll_cons_mk (s4 _ _) trodAll_mk0)))))) (fun _ _ => rfl) rfl
    hg (ok_one (by kernel_rfl) rfl (okWide_bool_mk Try.underlying4 _))⟩

theorem over : Rows.tallyNarrowerRow.holds Try.pinned (OpenSpec.ofChange Rows.tallyNarrowerSpec) :=
  OpenClaim.holds_of_wide 4 Try.f4 rfl rfl rfl rfl rfl rfl rfl ⟨rfl, rfl, rfl, rfl, rfl⟩ rfl rfl rfl rfl rfl (by kernel_rfl) Try.func4 (by kernel_rfl)
    (of_decide_eq_true (by kernel_rfl)) (by unfold Func.isWrapper; first | (rw [if_pos (by decide +kernel)]; kernel_rfl) | (rw [if_neg (by decide +kernel)]; exact ⟨rfl, rfl⟩))
    (fun os started H enc _ => lifted os started H enc)

theorem proved : Rows.TallyNarrowerSaid :=
  over
end Go.Proofs.Ytokpjaodchcheaa.tallyNarrower
