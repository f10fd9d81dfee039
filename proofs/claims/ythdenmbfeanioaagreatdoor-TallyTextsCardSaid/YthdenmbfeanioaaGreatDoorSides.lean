/- This text proves what the two sides of a count return: the least and the greatest count of a number. -/
import Derived.Test.YthdenmbfeanioaaGreatDoorChecks
namespace Go.Proofs.YthdenmbfeanioaaGreatDoor
open Go.RowKit

/-- What a call leaves, seen from an earlier world. -/
theorem via {P : Program} {f : FuncId} {args : Array Value} {w0 w : World} {v : Ending} (hB : Below w0.heap.size w0 w) (h : Calls P f args w fun e w' => e = v ∧ Below w.heap.size w w') :
    Calls P f args w fun e w' => e = v ∧ (∀ b o, b < w0.heap.size → w'.cell? ⟨b, o, none⟩ = w0.cell? ⟨b, o, none⟩) ∧ (∀ b o, b < w0.heap.size → w'.frozen? ⟨b, o, none⟩ = w0.frozen? ⟨b, o, none⟩) ∧ w0.heap.size ≤ w'.heap.size ∧ Below w0.heap.size w0 w' :=
  h.mono fun _ _ ⟨he, hb⟩ => ⟨he, (bcell (bthen hB hb)).1, (bcell (bthen hB hb)).2, (bthen hB hb).size, bthen hB hb⟩

def lowN (m n : Int) : Int := n - n * m / 1000
def highN (d n : Int) : Int := n + n * d / 1000
theorem lowN_bd {m n : Int} (hm : 0 ≤ m ∧ m ≤ 1000) (hn : 0 ≤ n) : 0 ≤ lowN m n ∧ lowN m n ≤ n := by
  unfold lowN
  have h1 : 0 ≤ n * m := Int.mul_nonneg hn hm.1
  have h2 : n * m ≤ n * 1000 := Int.mul_le_mul_of_nonneg_left hm.2 hn
  omega
theorem highN_bd {d n : Int} (hm : 0 ≤ d ∧ d ≤ 1000) (hn : 0 ≤ n) : n ≤ highN d n ∧ highN d n ≤ 2 * n := by
  unfold highN
  have h1 : 0 ≤ n * d := Int.mul_nonneg hn hm.1
  have h2 : n * d ≤ n * 1000 := Int.mul_le_mul_of_nonneg_left hm.2 hn
  omega

abbrev leastV : Value := .agg #[.func (.func 56) #[] #[], .func (.func 57) #[] #[]]
abbrev greatestV : Value := .agg #[.func (.func 58) #[] #[], .func (.func 59) #[] #[]]

theorem c_least (w : World) : Calls Tryz.prog 35 #[] w fun e w' => e = .returned leastV ∧ Below w.heap.size w w' := by
  go_enter Tryz.func35, Tryz.ntmps35
  go_wp2
  go_returns
  exact ⟨rfl, by go_grown⟩
theorem c_greatest (w : World) : Calls Tryz.prog 37 #[] w fun e w' => e = .returned greatestV ∧ Below w.heap.size w w' := by
  go_enter Tryz.func37, Tryz.ntmps37
  go_wp2
  go_returns
  exact ⟨rfl, by go_grown⟩

theorem c_least1 (n rate : Int) (w : World) (hn : 0 ≤ n ∧ n ≤ 1000000) (hr : 0 ≤ rate ∧ rate ≤ 1000) :
    Calls Tryz.prog 56 #[.int .i64 n, .int .i64 rate] w fun e w' => e = .returned (.int .i64 (lowN rate n)) ∧ w = w' := by
  have h1 : 0 ≤ n * rate := Int.mul_nonneg hn.1 hr.1
  have h2 : n * rate ≤ n * 1000 := Int.mul_le_mul_of_nonneg_left hr.2 hn.1
  unfold lowN
  go_enter Tryz.func56, Tryz.ntmps56
  go_wp2
  go_ret
  exact ⟨rfl, rfl⟩
theorem c_greatest1 (n rate : Int) (w : World) (hn : 0 ≤ n ∧ n ≤ 1000000) (hr : 0 ≤ rate ∧ rate ≤ 1000) :
    Calls Tryz.prog 58 #[.int .i64 n, .int .i64 rate] w fun e w' => e = .returned (.int .i64 (highN rate n)) ∧ w = w' := by
  have h1 : 0 ≤ n * rate := Int.mul_nonneg hn.1 hr.1
  have h2 : n * rate ≤ n * 1000 := Int.mul_le_mul_of_nonneg_left hr.2 hn.1
  unfold highN
  go_enter Tryz.func58, Tryz.ntmps58
  go_wp2
  go_ret
  exact ⟨rfl, rfl⟩
theorem c_least2 (m d : Int) (w : World) : Calls Tryz.prog 57 #[.agg #[.int .i64 m, .int .i64 d]] w fun e w' => e = .returned (.int .i64 m) ∧ Below w.heap.size w w' := by
  go_enter Tryz.func57, Tryz.ntmps57
  go_wp2
  go_ret
  exact ⟨rfl, by go_grown⟩
theorem c_greatest2 (m d : Int) (w : World) : Calls Tryz.prog 59 #[.agg #[.int .i64 m, .int .i64 d]] w fun e w' => e = .returned (.int .i64 d) ∧ Below w.heap.size w w' := by
  go_enter Tryz.func59, Tryz.ntmps59
  go_wp2
  go_ret
  exact ⟨rfl, by go_grown⟩

theorem c_ofL (m d n : Int) (w : World) (hn : 0 ≤ n ∧ n ≤ 1000000) (hr : 0 ≤ m ∧ m ≤ 1000) :
    Calls Tryz.prog 36 #[leastV, .agg #[.int .i64 m, .int .i64 d], .int .i64 n] w fun e w' => e = .returned (.int .i64 (lowN m n)) ∧ Below w.heap.size w w' := by
  have hl := fun W => c_least1 n m W hn hr
  have HL := Lib.hid hl
  clear hl
  go_enter Tryz.func36, Tryz.ntmps36
  go_wp2_with fail
  go_name_world W0 hW0
  have hb0 : Below w.heap.size w W0 := by rw [← hW0]; go_grown
  have k1 := later_cell (w := W0) (b := w.heap.size) (o := 0) (v := .func (.func 56) #[] #[]) (by subst hW0; go_simp)
  have k2 := later_cell (w := W0) (b := w.heap.size) (o := 1) (v := .func (.func 57) #[] #[]) (by subst hW0; go_simp)
  have k3 := later_cell (w := W0) (b := w.heap.size + 1) (o := 0) (v := .int .i64 m) (by subst hW0; go_simp)
  have k4 := later_cell (w := W0) (b := w.heap.size + 1) (o := 1) (v := .int .i64 d) (by subst hW0; go_simp)
  clear hW0
  refine wp_region_later W0 (by kernel_rfl) (by kernel_rfl) (Below.refl _ _) ?_
  repeat (go_big_quiet_step (first | (go_at_call 57; exact in_region (c_least2 _ _ _)) | (go_at_call 56; exact in_region ((HL.out _).mono fun _ _ ⟨he, hw⟩ => ⟨he, hw ▸ Below.refl _ _⟩))))
  refine wpQuiet_nil ?_
  rintro ⟨W, hW⟩
  go_wp2
  go_ret
  exact ⟨rfl, bthen hb0 hW⟩

theorem c_ofG (m d n : Int) (w : World) (hn : 0 ≤ n ∧ n ≤ 1000000) (hr : 0 ≤ d ∧ d ≤ 1000) :
    Calls Tryz.prog 36 #[greatestV, .agg #[.int .i64 m, .int .i64 d], .int .i64 n] w fun e w' => e = .returned (.int .i64 (highN d n)) ∧ Below w.heap.size w w' := by
  have hl := fun W => c_greatest1 n d W hn hr
  have HL := Lib.hid hl
  clear hl
  go_enter Tryz.func36, Tryz.ntmps36
  go_wp2_with fail
  go_name_world W0 hW0
  have hb0 : Below w.heap.size w W0 := by rw [← hW0]; go_grown
  have k1 := later_cell (w := W0) (b := w.heap.size) (o := 0) (v := .func (.func 58) #[] #[]) (by subst hW0; go_simp)
  have k2 := later_cell (w := W0) (b := w.heap.size) (o := 1) (v := .func (.func 59) #[] #[]) (by subst hW0; go_simp)
  have k3 := later_cell (w := W0) (b := w.heap.size + 1) (o := 0) (v := .int .i64 m) (by subst hW0; go_simp)
  have k4 := later_cell (w := W0) (b := w.heap.size + 1) (o := 1) (v := .int .i64 d) (by subst hW0; go_simp)
  clear hW0
  refine wp_region_later W0 (by kernel_rfl) (by kernel_rfl) (Below.refl _ _) ?_
  repeat (go_big_quiet_step (first | (go_at_call 59; exact in_region (c_greatest2 _ _ _)) | (go_at_call 58; exact in_region ((HL.out _).mono fun _ _ ⟨he, hw⟩ => ⟨he, hw ▸ Below.refl _ _⟩))))
  refine wpQuiet_nil ?_
  rintro ⟨W, hW⟩
  go_wp2
  go_ret
  exact ⟨rfl, bthen hb0 hW⟩
end Go.Proofs.YthdenmbfeanioaaGreatDoor
