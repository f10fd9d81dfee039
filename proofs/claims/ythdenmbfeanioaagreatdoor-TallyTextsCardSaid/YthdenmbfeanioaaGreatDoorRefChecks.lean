/- This text proves what the checks of the reference of package tally return. -/
import Derived.Test.YthdenmbfeanioaaGreatDoorSides
namespace Go.Proofs.YthdenmbfeanioaaGreatDoor
open Go.RowKit

theorem rateB_dec (m d : Int) : rateB m d = decide (0 ≤ m ∧ m ≤ 500 ∧ 0 ≤ d ∧ d ≤ 500) := by
  rw [Bool.eq_iff_iff, rateB_iff]; simp; omega
theorem countB_dec (i d s n wo : Int) : countB i d s n wo = decide (1 ≤ i ∧ i ≤ 1000000 ∧ 0 ≤ d ∧ d ≤ 100000 ∧ 1 ≤ s ∧ s ≤ 40 ∧ 0 ≤ n ∧ n ≤ 100000 ∧ 0 ≤ wo ∧ wo ≤ 10000) := by
  rw [Bool.eq_iff_iff]; simp [countB, inR_iff, and_assoc]
theorem recountB_dec (i d k s t n : Int) : recountB i d k s t n = decide (1 ≤ i ∧ i ≤ 1000000 ∧ 0 ≤ d ∧ d ≤ 100000 ∧ 0 ≤ k ∧ k ≤ 100000 ∧ 1 ≤ s ∧ s ≤ 40 ∧ 1 ≤ t ∧ t ≤ 100000 ∧ 0 ≤ n ∧ n ≤ 200000) := by
  rw [Bool.eq_iff_iff]; simp [recountB, inR_iff, and_assoc]

set_option maxHeartbeats 4000000 in
theorem c_rCheckCount (i d s n wo : Int) (w : World) :
    Calls Tryz.prog 26 #[.agg #[.int .i64 i, .int .i64 d, .int .i64 s, .int .i64 n, .int .i64 wo]] w fun e w' => e = .returned (.int .i64 (errB (countB i d s n wo))) ∧ Below w.heap.size w w' := by
  go_enter Tryz.func26, Tryz.ntmps26
  go_wp2
  all_goals (go_ret; exact ⟨ret_int (by rw [countB_dec, errB_dec]; first | rw [if_pos (by omega)] | rw [if_neg (by omega)]), by go_grown⟩)
set_option maxHeartbeats 4000000 in
theorem c_rcheckRecount (i d k s t n : Int) (w : World) :
    Calls Tryz.prog 31 #[.agg #[.int .i64 i, .int .i64 d, .int .i64 k, .int .i64 s, .int .i64 t, .int .i64 n]] w fun e w' => e = .returned (.int .i64 (errB (recountB i d k s t n))) ∧ Below w.heap.size w w' := by
  go_enter Tryz.func31, Tryz.ntmps31
  go_wp2
  all_goals (go_ret; exact ⟨ret_int (by rw [recountB_dec, errB_dec]; first | rw [if_pos (by omega)] | rw [if_neg (by omega)]), by go_grown⟩)
end Go.Proofs.YthdenmbfeanioaaGreatDoor
