/- This text proves what the checks of the reference of package tally return. -/
import Derived.Test.YtokpjaodchcheaaSides
namespace Go.Proofs.Ytokpjaodchcheaa
open Go.RowKit

theorem c_rnumber (n : Int) (w : World) : Calls Try.prog 77 #[.int .i64 n] w fun e w' => e = .returned (.bool (inR 0 100000 n)) ∧ Below w.heap.size w w' := by
  unfold inR
  go_enter Try.func77, Try.ntmps77
  go_wp2
  all_goals (go_ret; exact ⟨ret_bool (by simp; try omega), by go_grown⟩)
theorem c_rcount (n : Int) (w : World) : Calls Try.prog 62 #[.int .i64 n] w fun e w' => e = .returned (.bool (inR 0 200000 n)) ∧ Below w.heap.size w w' := by
  unfold inR
  go_enter Try.func62, Try.ntmps62
  go_wp2
  all_goals (go_ret; exact ⟨ret_bool (by simp; try omega), by go_grown⟩)
theorem c_low (m d n : Int) (w : World) (hn : 0 ≤ n ∧ n ≤ 1000000) (hr : 0 ≤ m ∧ m ≤ 1000) :
    Calls Try.prog 63 #[.agg #[.int .i64 m, .int .i64 d], .int .i64 n] w fun e w' => e = .returned (.int .i64 (lowN m n)) ∧ Below w.heap.size w w' := by
  have h1 : 0 ≤ n * m := Int.mul_nonneg hn.1 hr.1
  have h2 : n * m ≤ n * 1000 := Int.mul_le_mul_of_nonneg_left hr.2 hn.1
  unfold lowN
  go_enter Try.func63, Try.ntmps63
  go_wp2
  go_ret
  exact ⟨rfl, by go_grown⟩
theorem c_high (m d n : Int) (w : World) (hn : 0 ≤ n ∧ n ≤ 1000000) (hr : 0 ≤ d ∧ d ≤ 1000) :
    Calls Try.prog 66 #[.agg #[.int .i64 m, .int .i64 d], .int .i64 n] w fun e w' => e = .returned (.int .i64 (highN d n)) ∧ Below w.heap.size w w' := by
  have h1 : 0 ≤ n * d := Int.mul_nonneg hn.1 hr.1
  have h2 : n * d ≤ n * 1000 := Int.mul_le_mul_of_nonneg_left hr.2 hn.1
  unfold highN
  go_enter Try.func66, Try.ntmps66
  go_wp2
  go_ret
  exact ⟨rfl, by go_grown⟩
theorem rateB_dec (m d : Int) : rateB m d = decide (0 ≤ m ∧ m ≤ 500 ∧ 0 ≤ d ∧ d ≤ 500) := by
  rw [Bool.eq_iff_iff, rateB_iff]; simp; omega
theorem countB_dec (i d s n wo : Int) : countB i d s n wo = decide (1 ≤ i ∧ i ≤ 1000000 ∧ 0 ≤ d ∧ d ≤ 100000 ∧ 1 ≤ s ∧ s ≤ 40 ∧ 0 ≤ n ∧ n ≤ 100000 ∧ 0 ≤ wo ∧ wo ≤ 10000) := by
  rw [Bool.eq_iff_iff]; simp [countB, inR_iff, and_assoc]
theorem recountB_dec (i d k s t n : Int) : recountB i d k s t n = decide (1 ≤ i ∧ i ≤ 1000000 ∧ 0 ≤ d ∧ d ≤ 100000 ∧ 0 ≤ k ∧ k ≤ 100000 ∧ 1 ≤ s ∧ s ≤ 40 ∧ 1 ≤ t ∧ t ≤ 100000 ∧ 0 ≤ n ∧ n ≤ 200000) := by
  rw [Bool.eq_iff_iff]; simp [recountB, inR_iff, and_assoc]

set_option maxHeartbeats 1000000 in
theorem c_rCheckRate (m d : Int) (w : World) :
    Calls Try.prog 38 #[.agg #[.int .i64 m, .int .i64 d]] w fun e w' => e = .returned (.int .i64 (errB (rateB m d))) ∧ Below w.heap.size w w' := by
  go_enter Try.func38, Try.ntmps38
  go_wp2
  all_goals (go_ret; exact ⟨ret_int (by rw [rateB_dec, errB_dec]; first | rw [if_pos (by omega)] | rw [if_neg (by omega)]), by go_grown⟩)
set_option maxHeartbeats 4000000 in
theorem c_rCheckCount (i d s n wo : Int) (w : World) :
    Calls Try.prog 40 #[.agg #[.int .i64 i, .int .i64 d, .int .i64 s, .int .i64 n, .int .i64 wo]] w fun e w' => e = .returned (.int .i64 (errB (countB i d s n wo))) ∧ Below w.heap.size w w' := by
  go_enter Try.func40, Try.ntmps40
  go_wp2
  all_goals (go_ret; exact ⟨ret_int (by rw [countB_dec, errB_dec]; first | rw [if_pos (by omega)] | rw [if_neg (by omega)]), by go_grown⟩)
set_option maxHeartbeats 4000000 in
theorem c_rcheckRecount (i d k s t n : Int) (w : World) :
    Calls Try.prog 74 #[.agg #[.int .i64 i, .int .i64 d, .int .i64 k, .int .i64 s, .int .i64 t, .int .i64 n]] w fun e w' => e = .returned (.int .i64 (errB (recountB i d k s t n))) ∧ Below w.heap.size w w' := by
  go_enter Try.func74, Try.ntmps74
  go_wp2
  all_goals (go_ret; exact ⟨ret_int (by rw [recountB_dec, errB_dec]; first | rw [if_pos (by omega)] | rw [if_neg (by omega)]), by go_grown⟩)
end Go.Proofs.Ytokpjaodchcheaa
