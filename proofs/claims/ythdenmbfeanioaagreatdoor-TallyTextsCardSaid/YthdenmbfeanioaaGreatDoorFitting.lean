/- This text proves what True, OfCount and Gathered of package tally return, for every rate, count and tally. -/
import Derived.Test.YthdenmbfeanioaaGreatDoorFits
import Derived.Test.YthdenmbfeanioaaGreatDoorSearch
import Derived.Test.YthdenmbfeanioaaGreatDoorRegion
namespace Go.Proofs.YthdenmbfeanioaaGreatDoor
open Go.RowKit

theorem lowN_mono {m i j : Int} (hm : 0 ≤ m ∧ m ≤ 1000) (_hi : 0 ≤ i) (hij : i ≤ j) : lowN m i ≤ lowN m j := by
  unfold lowN
  have e : j * m = i * m + (j - i) * m := by rw [← Int.add_mul]; congr 1; omega
  have h1 : (j - i) * m ≤ (j - i) * 1000 := Int.mul_le_mul_of_nonneg_left hm.2 (by omega)
  omega
theorem highN_mono {d i j : Int} (hd : 0 ≤ d) (_hi : 0 ≤ i) (hij : i ≤ j) : highN d i ≤ highN d j := by
  unfold highN
  have e : j * d = i * d + (j - i) * d := by rw [← Int.add_mul]; congr 1; omega
  have h1 : 0 ≤ (j - i) * d := Int.mul_nonneg (by omega) hd
  omega

/-- The least number whose least (greatest) count is at least c; 100001 if there is none. -/
def fromL (m c : Int) : Nat := ft (fun n => decide (c ≤ lowN m n)) 100001
def fromG (d c : Int) : Nat := ft (fun n => decide (c ≤ highN d n)) 100001
theorem fromL_le (m c : Int) : fromL m c ≤ 100001 := ft_le _ _
theorem fromG_le (m c : Int) : fromG m c ≤ 100001 := ft_le _ _

structure Iv where
  lo : Int
  hi : Int
  some : Bool
deriving DecidableEq
def Iv.none : Iv := ⟨0, 0, false⟩
def betw (a b : Int) : Iv := if b < a then ⟨0, 0, false⟩ else ⟨a, b, true⟩
abbrev Iv.v (x : Iv) : Value := .agg #[.int .i64 x.lo, .int .i64 x.hi, .bool x.some]

theorem c_between (a b : Int) (w : World) : Calls Tryz.prog 60 #[.int .i64 a, .int .i64 b] w fun e w' => e = .returned (betw a b).v ∧ Below w.heap.size w w' := by
  by_cases h : b < a
  · have hx : betw a b = ⟨0, 0, false⟩ := if_pos h
    rw [hx]
    clear hx
    go_enter Tryz.func60, Tryz.ntmps60
    go_wp2
    go_returns
    exact ⟨rfl, by go_grown⟩
  · have hx : betw a b = ⟨a, b, true⟩ := if_neg h
    rw [hx]
    clear hx
    go_enter Tryz.func60, Tryz.ntmps60
    go_wp2
    go_returns
    exact ⟨rfl, by go_grown⟩

set_option maxHeartbeats 800000 in
theorem c_from1L (n m d c : Int) (a b k : Nat) (w : World) (hn : 0 ≤ n ∧ n ≤ 1000000) (hr : 0 ≤ m ∧ m ≤ 1000)
    (h1 : w.cell? ⟨a,0,none⟩ = some (.func (.func 56) #[] #[])) (h2 : w.cell? ⟨a,1,none⟩ = some (.func (.func 57) #[] #[]))
    (h3 : w.cell? ⟨b,0,none⟩ = some (.int .i64 m)) (h4 : w.cell? ⟨b,1,none⟩ = some (.int .i64 d)) (h5 : w.cell? ⟨k,0,none⟩ = some (.int .i64 c)) :
    Calls Tryz.prog 75 #[.int .i64 n, .pointer (some ⟨a,0,none⟩), .pointer (some ⟨b,0,none⟩), .pointer (some ⟨k,0,none⟩)] w fun e w' => e = .returned (.bool (decide (c ≤ lowN m n))) ∧ Below w.heap.size w w' := by
  have hL := fun W => c_ofL m d n W hn hr
  have HL := Lib.hid hL
  clear hL
  go_enter Tryz.func75, Tryz.ntmps75
  go_wp2_with fail
  have k1 := later_cell h1
  have k2 := later_cell h2
  have k3 := later_cell h3
  have k4 := later_cell h4
  have k5 := later_cell h5
  clear h1 h2 h3 h4 h5
  refine wp_region_later w (by kernel_rfl) (by kernel_rfl) (Below.refl _ _) ?_
  repeat (go_big_quiet_step (first | (go_at_call 36; with_reducible exact in_region (HL.out _))))
  refine wpQuiet_nil ?_
  rintro ⟨W, hW⟩
  go_wp2
  go_ret
  exact ⟨ret_bool (by simp), hW⟩

set_option maxHeartbeats 800000 in
theorem c_from1G (n m d c : Int) (a b k : Nat) (w : World) (hn : 0 ≤ n ∧ n ≤ 1000000) (hr : 0 ≤ d ∧ d ≤ 1000)
    (h1 : w.cell? ⟨a,0,none⟩ = some (.func (.func 58) #[] #[])) (h2 : w.cell? ⟨a,1,none⟩ = some (.func (.func 59) #[] #[]))
    (h3 : w.cell? ⟨b,0,none⟩ = some (.int .i64 m)) (h4 : w.cell? ⟨b,1,none⟩ = some (.int .i64 d)) (h5 : w.cell? ⟨k,0,none⟩ = some (.int .i64 c)) :
    Calls Tryz.prog 75 #[.int .i64 n, .pointer (some ⟨a,0,none⟩), .pointer (some ⟨b,0,none⟩), .pointer (some ⟨k,0,none⟩)] w fun e w' => e = .returned (.bool (decide (c ≤ highN d n))) ∧ Below w.heap.size w w' := by
  have hL := fun W => c_ofG m d n W hn hr
  have HL := Lib.hid hL
  clear hL
  go_enter Tryz.func75, Tryz.ntmps75
  go_wp2_with fail
  have k1 := later_cell h1
  have k2 := later_cell h2
  have k3 := later_cell h3
  have k4 := later_cell h4
  have k5 := later_cell h5
  clear h1 h2 h3 h4 h5
  refine wp_region_later w (by kernel_rfl) (by kernel_rfl) (Below.refl _ _) ?_
  repeat (go_big_quiet_step (first | (go_at_call 36; with_reducible exact in_region (HL.out _))))
  refine wpQuiet_nil ?_
  rintro ⟨W, hW⟩
  go_wp2
  go_ret
  exact ⟨ret_bool (by simp), hW⟩

theorem rises_low {m c : Int} (hm : 0 ≤ m ∧ m ≤ 1000) (n : Nat) : Rises (fun n => decide (c ≤ lowN m n)) n := by
  intro i j hij _ h
  have := lowN_mono hm (Int.natCast_nonneg i) (show (i : Int) ≤ j by omega)
  simp only [decide_eq_true_eq] at h ⊢
  omega
theorem rises_high {d c : Int} (hd : 0 ≤ d) (n : Nat) : Rises (fun n => decide (c ≤ highN d n)) n := by
  intro i j hij _ h
  have := highN_mono hd (Int.natCast_nonneg i) (show (i : Int) ≤ j by omega)
  simp only [decide_eq_true_eq] at h ⊢
  omega

theorem pred_from1L (m d c : Int) (a b k : Nat) (w : World) (hr : 0 ≤ m ∧ m ≤ 1000)
    (h1 : w.cell? ⟨a,0,none⟩ = some (.func (.func 56) #[] #[])) (h2 : w.cell? ⟨a,1,none⟩ = some (.func (.func 57) #[] #[]))
    (h3 : w.cell? ⟨b,0,none⟩ = some (.int .i64 m)) (h4 : w.cell? ⟨b,1,none⟩ = some (.int .i64 d)) (h5 : w.cell? ⟨k,0,none⟩ = some (.int .i64 c)) :
    Pred 75 #[.pointer (some ⟨a,0,none⟩), .pointer (some ⟨b,0,none⟩), .pointer (some ⟨k,0,none⟩)] (fun k => 0 ≤ k ∧ k < ((100001 : Nat) : Int)) (fun n => decide (c ≤ lowN m n)) w :=
  fun W n hn hW => c_from1L n m d c _ _ _ W (by omega) hr (((bcell hW).1 _ _ (cell_lt h1)).trans h1) (((bcell hW).1 _ _ (cell_lt h2)).trans h2) (((bcell hW).1 _ _ (cell_lt h3)).trans h3) (((bcell hW).1 _ _ (cell_lt h4)).trans h4) (((bcell hW).1 _ _ (cell_lt h5)).trans h5)

set_option maxHeartbeats 800000 in
theorem c_fromL (m d c : Int) (w : World) (hr : 0 ≤ m ∧ m ≤ 1000) :
    Calls Tryz.prog 61 #[leastV, .agg #[.int .i64 m, .int .i64 d], .int .i64 c] w fun e w' => e = .returned (.int .i64 (fromL m c)) ∧ Below w.heap.size w w' := by
  have hmf : ∀ (fn : Fn) (first cap : Array Value) (w : World), (Instr.makeFunc fn first cap).run Tryz.prog w = .ok (.func fn first cap) w := fun _ _ _ _ => rfl
  go_enter Tryz.func61, Tryz.ntmps61
  go_wp2_with fail
  refine (c_Search 75 (enters_of Tryz.func75 (by kernel_rfl) rfl) _ (fun n => decide (c ≤ lowN m n)) 100001 _ (by omega) (pred_from1L m d c _ _ _ _ hr (by go_simp) (by go_simp) (by go_simp) (by go_simp) (by go_simp)) (rises_low hr _)).mono ?_
  rintro e w' ⟨rfl, hb⟩
  go_wp2
  go_ret
  exact ⟨rfl, bthen (by go_grown) hb⟩

theorem pred_from1G (m d c : Int) (a b k : Nat) (w : World) (hr : 0 ≤ d ∧ d ≤ 1000)
    (h1 : w.cell? ⟨a,0,none⟩ = some (.func (.func 58) #[] #[])) (h2 : w.cell? ⟨a,1,none⟩ = some (.func (.func 59) #[] #[]))
    (h3 : w.cell? ⟨b,0,none⟩ = some (.int .i64 m)) (h4 : w.cell? ⟨b,1,none⟩ = some (.int .i64 d)) (h5 : w.cell? ⟨k,0,none⟩ = some (.int .i64 c)) :
    Pred 75 #[.pointer (some ⟨a,0,none⟩), .pointer (some ⟨b,0,none⟩), .pointer (some ⟨k,0,none⟩)] (fun k => 0 ≤ k ∧ k < ((100001 : Nat) : Int)) (fun n => decide (c ≤ highN d n)) w :=
  fun W n hn hW => c_from1G n m d c _ _ _ W (by omega) hr (((bcell hW).1 _ _ (cell_lt h1)).trans h1) (((bcell hW).1 _ _ (cell_lt h2)).trans h2) (((bcell hW).1 _ _ (cell_lt h3)).trans h3) (((bcell hW).1 _ _ (cell_lt h4)).trans h4) (((bcell hW).1 _ _ (cell_lt h5)).trans h5)

set_option maxHeartbeats 800000 in
theorem c_fromG (m d c : Int) (w : World) (hr : 0 ≤ d ∧ d ≤ 1000) :
    Calls Tryz.prog 61 #[greatestV, .agg #[.int .i64 m, .int .i64 d], .int .i64 c] w fun e w' => e = .returned (.int .i64 (fromG d c)) ∧ Below w.heap.size w w' := by
  have hmf : ∀ (fn : Fn) (first cap : Array Value) (w : World), (Instr.makeFunc fn first cap).run Tryz.prog w = .ok (.func fn first cap) w := fun _ _ _ _ => rfl
  go_enter Tryz.func61, Tryz.ntmps61
  go_wp2_with fail
  refine (c_Search 75 (enters_of Tryz.func75 (by kernel_rfl) rfl) _ (fun n => decide (c ≤ highN d n)) 100001 _ (by omega) (pred_from1G m d c _ _ _ _ hr (by go_simp) (by go_simp) (by go_simp) (by go_simp) (by go_simp)) (rises_high hr.1 _)).mono ?_
  rintro e w' ⟨rfl, hb⟩
  go_wp2
  go_ret
  exact ⟨rfl, bthen (by go_grown) hb⟩


def fitIv (m d a b : Int) : Iv := betw (fromG d a) (fromL m (b + 1) - 1)

set_option maxHeartbeats 1000000 in
theorem c_fitting (m d a b : Int) (w : World) (hm : 0 ≤ m ∧ m ≤ 1000) (hd : 0 ≤ d ∧ d ≤ 1000) (hb : 0 ≤ b ∧ b ≤ 1000000) :
    Calls Tryz.prog 38 #[.agg #[.int .i64 m, .int .i64 d], .int .i64 a, .int .i64 b] w fun e w' => e = .returned (fitIv m d a b).v ∧ Below w.heap.size w w' := by
  have hL := fun W => c_fromL m d (b + 1) W hm
  have HL := Lib.hid hL
  clear hL
  have hG := fun W => c_fromG m d a W hd
  have HG := Lib.hid hG
  clear hG
  have l1 := fromL_le m (b + 1)
  unfold fitIv
  go_enter Tryz.func38, Tryz.ntmps38
  go_wp2_with fail
  go_name_world W0 hW0
  have hb0 : Below w.heap.size w W0 := by rw [← hW0]; go_grown
  have k3 := later_cell (w := W0) (b := w.heap.size) (o := 0) (v := .int .i64 m) (by subst hW0; go_simp)
  have k4 := later_cell (w := W0) (b := w.heap.size) (o := 1) (v := .int .i64 d) (by subst hW0; go_simp)
  have r0 : W0.cell? ⟨w.heap.size + 1, 0, none⟩ = some (.int .i64 0) := by subst hW0; go_simp
  have r1 : W0.cell? ⟨w.heap.size + 1, 1, none⟩ = some (.int .i64 0) := by subst hW0; go_simp
  have r2 : W0.cell? ⟨w.heap.size + 1, 2, none⟩ = some (.bool false) := by subst hW0; go_simp
  have f0 : W0.frozen? ⟨w.heap.size + 1, 0, none⟩ = false := by subst hW0; go_simp
  have f1 : W0.frozen? ⟨w.heap.size + 1, 1, none⟩ = false := by subst hW0; go_simp
  have f2 : W0.frozen? ⟨w.heap.size + 1, 2, none⟩ = false := by subst hW0; go_simp
  have hz : w.heap.size + 1 < W0.heap.size := cell_lt r0
  clear hW0
  refine wp_region_tail 11 W0 (by kernel_rfl) (by kernel_rfl) (Below.refl _ _) ?_
  simp only [List.take_succ_cons, List.take_zero, List.drop_succ_cons, List.drop_zero]
  repeat (go_big_quiet_step (first | (go_at_call 35; with_reducible exact in_region (c_least _)) | (go_at_call 37; with_reducible exact in_region (c_greatest _)) | (go_at_call 61; with_reducible exact in_region (HL.out _)) | (go_at_call 61; with_reducible exact in_region (HG.out _)) | (go_at_call 60; with_reducible exact in_region (c_between _ _ _))))
  refine wpQuiet_nil ?_
  rintro ⟨W, hW⟩
  have q0 := ((bcell hW).1 _ 0 hz).trans r0
  have q1 := ((bcell hW).1 _ 1 hz).trans r1
  have q2 := ((bcell hW).1 _ 2 hz).trans r2
  have g0 := ((bcell hW).2 _ 0 hz).trans f0
  have g1 := ((bcell hW).2 _ 1 hz).trans f1
  have g2 := ((bcell hW).2 _ 2 hz).trans f2
  have hzW : W0.heap.size ≤ W.heap.size := hW.size
  clear k3 k4 r0 r1 r2 f0 f1 f2
  have hfin : Below w.heap.size w W := bthen hb0 hW
  go_wp2
  refine bodyPost_ret (v := (betw (fromG d a) (fromL m (b + 1) - 1)).v) (by simp [results, Tryz.results38, go_sem, q0, q1, q2]) rfl ⟨rfl, ?_⟩
  go_grown
end Go.Proofs.YthdenmbfeanioaaGreatDoor
