/- This text proves that the check 'counted' of the laws' package holds: the chapter's examples. -/
import Derived.Test.YthdenmbfeanioaaGreatDoorWhy
import Derived.Test.YthdenmbfeanioaaGreatDoorBoth
namespace Go.Proofs.YthdenmbfeanioaaGreatDoor
open Go.RowKit Go.Shelf
attribute [local go_sem] Oper.semAt_some

theorem v_G1 : fromG 20 190 = 187 := ft_eq _ _ _ (by omega) (fun j hj => decide_eq_false (by unfold highN; omega)) (fun _ => by simp [highN])
theorem v_L1 : fromL 50 191 = 201 := ft_eq _ _ _ (by omega) (fun j hj => decide_eq_false (by unfold lowN; omega)) (fun _ => by simp [lowN])
theorem v_L2 : fromL 50 201 = 211 := ft_eq _ _ _ (by omega) (fun j hj => decide_eq_false (by unfold lowN; omega)) (fun _ => by simp [lowN])
theorem v_M1 : missV 200 190 = (50, true) := by
  have e : ft (fun k => decide (lowN k 200 ≤ 190)) 501 = 50 := ft_eq _ _ _ (by omega) (fun j hj => decide_eq_false (by unfold lowN; omega)) (fun _ => by simp [lowN])
  unfold missV askedV askR
  rw [e]; rfl
theorem v_M2 : missV 10 4 = (0, false) := by
  have e : ft (fun k => decide (lowN k 10 ≤ 4)) 501 = 501 := ft_eq _ _ _ (by omega) (fun j hj => decide_eq_false (by unfold lowN; omega)) (fun h => by omega)
  unfold missV askedV askR
  rw [e]; rfl
theorem v_M3 : missV 100 103 = (0, true) := by
  have e : ft (fun k => decide (lowN k 100 ≤ 103)) 501 = 0 := ft_eq _ _ _ (by omega) (fun j hj => by omega) (fun _ => by simp [lowN])
  unfold missV askedV askR
  rw [e]; rfl
theorem v_D1 : doubV 200 205 = (25, true) := by
  have e : ft (fun k => decide (205 ≤ highN k 200)) 501 = 25 := ft_eq _ _ _ (by omega) (fun j hj => decide_eq_false (by unfold highN; omega)) (fun _ => by simp [highN])
  unfold doubV askedV askR
  rw [e]; rfl
theorem v_D2 : doubV 200 190 = (0, true) := by
  have e : ft (fun k => decide (190 ≤ highN k 200)) 501 = 0 := ft_eq _ _ _ (by omega) (fun j hj => by omega) (fun _ => by simp [highN])
  unfold doubV askedV askR
  rw [e]; rfl
theorem v_D3 : doubV 100 103 = (30, true) := by
  have e : ft (fun k => decide (103 ≤ highN k 100)) 501 = 30 := ft_eq _ _ _ (by omega) (fun j hj => decide_eq_false (by unfold highN; omega)) (fun _ => by simp [highN])
  unfold doubV askedV askR
  rw [e]; rfl
/-- The chapter's two re-counts. -/
def ex : List Rc := [⟨1, 0, 0, 3, 200, 190⟩, ⟨2, 0, 0, 3, 100, 103⟩]
theorem v_ys : ofShep 3 (cnt 0 ex) = ex := by decide
theorem v_crec : (crec ex).2 = 0 := by decide
theorem v_rate : rateV 10 10 ex 3 0 = (50, 30, 0) := by
  refine rateV_some (by decide) v_crec ?_
  rw [v_ys]
  simp [rfold, ex, rstep, Rc.fine, v_M1, v_D2, v_M3, v_D3]
  decide
theorem v_why : whyV 10 10 ex 3 0 = ([1, 2], 0) := by
  unfold whyV
  rw [v_rate, v_ys]
  simp [ids, whySide, pL, pG, ex, hit, v_M1, v_D2, v_D3, two]
  decide

theorem k_Shown (w : World) : Calls Tryz.prog 15 #[.agg #[.int .i64 50, .int .i64 20], .int .i64 200] w fun e w' => e = .returned (.tuple #[.int .i64 190, .int .i64 204, .int .i64 0]) ∧ Below w.heap.size w w' := c_Shown 50 20 200 w
theorem k_True (w : World) : Calls Tryz.prog 16 #[.agg #[.int .i64 50, .int .i64 20], .int .i64 190] w fun e w' => e = .returned (.tuple #[.agg #[.int .i64 187, .int .i64 200, .bool true], .int .i64 0]) ∧ Below w.heap.size w w' := by
  have h := c_True 50 20 190 w
  have e : fitIv 50 20 190 190 = ⟨187, 200, true⟩ := by unfold fitIv; rw [v_G1, show (190 + 1 : Int) = 191 from rfl, v_L1]; rfl
  rw [e] at h
  exact h
theorem k_OfCount (w : World) : Calls Tryz.prog 17 #[.agg #[.int .i64 50, .int .i64 20], .agg #[.int .i64 1, .int .i64 0, .int .i64 1, .int .i64 190, .int .i64 10]] w fun e w' => e = .returned (.tuple #[.agg #[.int .i64 187, .int .i64 210, .bool true], .int .i64 0]) ∧ Below w.heap.size w w' := by
  have h := c_OfCount 50 20 1 0 1 190 10 w
  have e : fitIv 50 20 190 (190 + 10) = ⟨187, 210, true⟩ := by unfold fitIv; rw [v_G1, show (190 + 10 + 1 : Int) = 201 from rfl, v_L2]; rfl
  rw [e] at h
  exact h
theorem k_Both (w : World) : Calls Tryz.prog 18 #[.agg #[.int .i64 5, .int .i64 9, .bool true], .agg #[.int .i64 8, .int .i64 12, .bool true]] w fun e w' => e = .returned (.agg #[.int .i64 8, .int .i64 9, .bool true]) ∧ Below w.heap.size w w' := c_Both ⟨5, 9, true⟩ ⟨8, 12, true⟩ w
theorem k_M1 (w : World) : Calls Tryz.prog 19 #[.int .i64 200, .int .i64 190] w fun e w' => e = .returned (.tuple #[.int .i64 50, .bool true]) ∧ Below w.heap.size w w' := by
  have h := c_Misses 200 190 w
  rw [v_M1] at h
  exact h
theorem k_M2 (w : World) : Calls Tryz.prog 19 #[.int .i64 10, .int .i64 4] w fun e w' => e = .returned (.tuple #[.int .i64 0, .bool false]) ∧ Below w.heap.size w w' := by
  have h := c_Misses 10 4 w
  rw [v_M2] at h
  exact h
theorem k_D1 (w : World) : Calls Tryz.prog 20 #[.int .i64 200, .int .i64 205] w fun e w' => e = .returned (.tuple #[.int .i64 25, .bool true]) ∧ Below w.heap.size w w' := by
  have h := c_Doubles 200 205 w
  rw [v_D1] at h
  exact h
theorem k_Rate (b : Nat) (w : World) (h : Recs w (some ⟨b, 0, none⟩) ex) : Calls Tryz.prog 21 #[.agg #[.int .i64 10, .int .i64 10], .slice (some ⟨b, 0, none⟩) 2 2, .int .i64 3, .int .i64 0] w fun e w' => e = .returned (.tuple #[.agg #[.int .i64 50, .int .i64 30], .int .i64 0]) ∧ Below w.heap.size w w' := by
  have h := c_RateOf 10 10 ex (some ⟨b, 0, none⟩) 2 3 0 w h
  rw [v_rate] at h
  exact h
theorem k_Why (b : Nat) (w : World) (h : Recs w (some ⟨b, 0, none⟩) ex) : Calls Tryz.prog 22 #[.agg #[.int .i64 10, .int .i64 10], .slice (some ⟨b, 0, none⟩) 2 2, .int .i64 3, .int .i64 0] w fun e w' =>
    (∃ b c, e = .returned (.tuple #[.slice b 2 c, .int .i64 0]) ∧ Ints w' b [1, 2]) ∧ Below w.heap.size w w' := by
  have h := c_Why 10 10 ex (some ⟨b, 0, none⟩) 2 3 0 w h
  rw [v_why] at h
  exact h
theorem k_Same (a b : Option Addr) (ca cb : Nat) (w : World) (h : Ints w a [1, 2]) (k : Ints w b [1, 2]) : Calls Tryz.prog 23 #[.slice a 2 ca, .slice b 2 cb] w fun e w' => e = .returned (.bool true) ∧ Below w.heap.size w w' :=
  c_SameInts [1, 2] [1, 2] a b ca cb w h k
theorem ex_recs {w : World} {b : Nat} (c0 : w.cell? ⟨b, 0, none⟩ = some (.int .i64 1)) (c1 : w.cell? ⟨b, 1, none⟩ = some (.int .i64 0)) (c2 : w.cell? ⟨b, 2, none⟩ = some (.int .i64 0)) (c3 : w.cell? ⟨b, 3, none⟩ = some (.int .i64 3)) (c4 : w.cell? ⟨b, 4, none⟩ = some (.int .i64 200)) (c5 : w.cell? ⟨b, 5, none⟩ = some (.int .i64 190))
    (d0 : w.cell? ⟨b, 6, none⟩ = some (.int .i64 2)) (d1 : w.cell? ⟨b, 7, none⟩ = some (.int .i64 0)) (d2 : w.cell? ⟨b, 8, none⟩ = some (.int .i64 0)) (d3 : w.cell? ⟨b, 9, none⟩ = some (.int .i64 3)) (d4 : w.cell? ⟨b, 10, none⟩ = some (.int .i64 100)) (d5 : w.cell? ⟨b, 11, none⟩ = some (.int .i64 103)) : Recs w (some ⟨b, 0, none⟩) ex := by
  refine ⟨by decide, fun _ => ⟨b, 0, rfl, fun k hk => ?_⟩⟩
  have : k = 0 ∨ k = 1 := by simp [ex] at hk; omega
  rcases this with rfl | rfl
  · exact ⟨c0, c1, c2, c3, c4, c5⟩
  · exact ⟨d0, d1, d2, d3, d4, d5⟩

set_option maxRecDepth 100000 in
set_option maxHeartbeats 8000000 in
theorem c_counted (w : World) : Calls Tryz.prog 5 #[] w fun e w' => e = .returned (.bool true) ∧ Below w.heap.size w w' := by
  go_enter Tryz.func5, Tryz.ntmps5
  go_upto_region 2 with (fail)
  go_name_world W1 hW1
  have hbn : Below w.heap.size w W1 := by subst hW1; go_grown
  have hb0 := hbn
  clear hbn
  have r0n : W1.cell? ⟨w.heap.size, 0, none⟩ = some (.int .i64 50) := by subst hW1; go_simp
  have r1n : W1.cell? ⟨w.heap.size, 1, none⟩ = some (.int .i64 20) := by subst hW1; go_simp
  clear hW1 
  have r0 := r0n
  have r1 := r1n
  clear r0n r1n 
  go_wp2_with fail
  refine (via (w0 := W1) (by go_grown) (k_Shown _)).mono ?_
  rintro e W2 ⟨rfl, hc, hf, hz, hB⟩
  have r0n : W2.cell? ⟨w.heap.size, 0, none⟩ = some (.int .i64 50) := (hc _ _ (cell_lt r0)).trans r0
  clear r0
  have r0 := r0n
  clear r0n
  have r1n : W2.cell? ⟨w.heap.size, 1, none⟩ = some (.int .i64 20) := (hc _ _ (cell_lt r1)).trans r1
  clear r1
  have r1 := r1n
  clear r1n
  have hbn : Below w.heap.size w W2 := bthen hb0 hB
  clear hb0
  have hb0 := hbn
  clear hbn
  have hzW2 : W1.heap.size ≤ W2.heap.size := hz
  clear hc hf hB hz
  go_upto_region 3 with (fail)
  go_wp2_with fail
  refine (via (w0 := W2) (by go_grown) (k_True _)).mono ?_
  rintro e W3 ⟨rfl, hc, hf, hz, hB⟩
  have r0n : W3.cell? ⟨w.heap.size, 0, none⟩ = some (.int .i64 50) := (hc _ _ (cell_lt r0)).trans r0
  clear r0
  have r0 := r0n
  clear r0n
  have r1n : W3.cell? ⟨w.heap.size, 1, none⟩ = some (.int .i64 20) := (hc _ _ (cell_lt r1)).trans r1
  clear r1
  have r1 := r1n
  clear r1n
  have hbn : Below w.heap.size w W3 := bthen hb0 hB
  clear hb0
  have hb0 := hbn
  clear hbn
  have hzW3 : W2.heap.size ≤ W3.heap.size := hz
  clear hc hf hB hz
  go_upto_region 4 with (fail)
  go_name_world W4 hW4
  have hbz := hb0.size
  have hbn : Below w.heap.size w W4 := by subst hW4; go_grown
  clear hb0 hbz
  have hb0 := hbn
  clear hbn
  have hbk : Below W3.heap.size W3 W4 := by subst hW4; go_grown
  have r0n : W4.cell? ⟨w.heap.size, 0, none⟩ = some (.int .i64 50) := ((bcell hbk).1 _ _ (cell_lt r0)).trans r0
  have r1n : W4.cell? ⟨w.heap.size, 1, none⟩ = some (.int .i64 20) := ((bcell hbk).1 _ _ (cell_lt r1)).trans r1
  clear hbk
  have x0n : W4.cell? ⟨W3.heap.size, 0, none⟩ = some (.int .i64 187) := by subst hW4; go_simp
  have x1n : W4.cell? ⟨W3.heap.size, 1, none⟩ = some (.int .i64 200) := by subst hW4; go_simp
  have x2n : W4.cell? ⟨W3.heap.size, 2, none⟩ = some (.bool true) := by subst hW4; go_simp
  clear hW4 r0 r1
  have r0 := r0n
  have r1 := r1n
  have x0 := x0n
  have x1 := x1n
  have x2 := x2n
  clear r0n r1n x0n x1n x2n 
  go_wp2_with fail
  refine (via (w0 := W4) (by go_grown) (k_OfCount _)).mono ?_
  rintro e W5 ⟨rfl, hc, hf, hz, hB⟩
  have r0n : W5.cell? ⟨w.heap.size, 0, none⟩ = some (.int .i64 50) := (hc _ _ (cell_lt r0)).trans r0
  clear r0
  have r0 := r0n
  clear r0n
  have r1n : W5.cell? ⟨w.heap.size, 1, none⟩ = some (.int .i64 20) := (hc _ _ (cell_lt r1)).trans r1
  clear r1
  have r1 := r1n
  clear r1n
  have x0n : W5.cell? ⟨W3.heap.size, 0, none⟩ = some (.int .i64 187) := (hc _ _ (cell_lt x0)).trans x0
  clear x0
  have x0 := x0n
  clear x0n
  have x1n : W5.cell? ⟨W3.heap.size, 1, none⟩ = some (.int .i64 200) := (hc _ _ (cell_lt x1)).trans x1
  clear x1
  have x1 := x1n
  clear x1n
  have x2n : W5.cell? ⟨W3.heap.size, 2, none⟩ = some (.bool true) := (hc _ _ (cell_lt x2)).trans x2
  clear x2
  have x2 := x2n
  clear x2n
  have hbn : Below w.heap.size w W5 := bthen hb0 hB
  clear hb0
  have hb0 := hbn
  clear hbn
  have hzW5 : W4.heap.size ≤ W5.heap.size := hz
  clear hc hf hB hz
  go_upto_region 5 with (fail)
  go_name_world W6 hW6
  have hbz := hb0.size
  have hbn : Below w.heap.size w W6 := by subst hW6; go_grown
  clear hb0 hbz
  have hb0 := hbn
  clear hbn
  have hbk : Below W5.heap.size W5 W6 := by subst hW6; go_grown
  have r0n : W6.cell? ⟨w.heap.size, 0, none⟩ = some (.int .i64 50) := ((bcell hbk).1 _ _ (cell_lt r0)).trans r0
  have r1n : W6.cell? ⟨w.heap.size, 1, none⟩ = some (.int .i64 20) := ((bcell hbk).1 _ _ (cell_lt r1)).trans r1
  have x0n : W6.cell? ⟨W3.heap.size, 0, none⟩ = some (.int .i64 187) := ((bcell hbk).1 _ _ (cell_lt x0)).trans x0
  have x1n : W6.cell? ⟨W3.heap.size, 1, none⟩ = some (.int .i64 200) := ((bcell hbk).1 _ _ (cell_lt x1)).trans x1
  have x2n : W6.cell? ⟨W3.heap.size, 2, none⟩ = some (.bool true) := ((bcell hbk).1 _ _ (cell_lt x2)).trans x2
  clear hbk
  have y0n : W6.cell? ⟨W5.heap.size, 0, none⟩ = some (.int .i64 187) := by subst hW6; go_simp
  have y1n : W6.cell? ⟨W5.heap.size, 1, none⟩ = some (.int .i64 210) := by subst hW6; go_simp
  have y2n : W6.cell? ⟨W5.heap.size, 2, none⟩ = some (.bool true) := by subst hW6; go_simp
  clear hW6 r0 r1 x0 x1 x2
  have r0 := r0n
  have r1 := r1n
  have x0 := x0n
  have x1 := x1n
  have x2 := x2n
  have y0 := y0n
  have y1 := y1n
  have y2 := y2n
  clear r0n r1n x0n x1n x2n y0n y1n y2n 
  go_wp2_with fail
  refine (via (w0 := W6) (by go_grown) (k_Both _)).mono ?_
  rintro e W7 ⟨rfl, hc, hf, hz, hB⟩
  have r0n : W7.cell? ⟨w.heap.size, 0, none⟩ = some (.int .i64 50) := (hc _ _ (cell_lt r0)).trans r0
  clear r0
  have r0 := r0n
  clear r0n
  have r1n : W7.cell? ⟨w.heap.size, 1, none⟩ = some (.int .i64 20) := (hc _ _ (cell_lt r1)).trans r1
  clear r1
  have r1 := r1n
  clear r1n
  have x0n : W7.cell? ⟨W3.heap.size, 0, none⟩ = some (.int .i64 187) := (hc _ _ (cell_lt x0)).trans x0
  clear x0
  have x0 := x0n
  clear x0n
  have x1n : W7.cell? ⟨W3.heap.size, 1, none⟩ = some (.int .i64 200) := (hc _ _ (cell_lt x1)).trans x1
  clear x1
  have x1 := x1n
  clear x1n
  have x2n : W7.cell? ⟨W3.heap.size, 2, none⟩ = some (.bool true) := (hc _ _ (cell_lt x2)).trans x2
  clear x2
  have x2 := x2n
  clear x2n
  have y0n : W7.cell? ⟨W5.heap.size, 0, none⟩ = some (.int .i64 187) := (hc _ _ (cell_lt y0)).trans y0
  clear y0
  have y0 := y0n
  clear y0n
  have y1n : W7.cell? ⟨W5.heap.size, 1, none⟩ = some (.int .i64 210) := (hc _ _ (cell_lt y1)).trans y1
  clear y1
  have y1 := y1n
  clear y1n
  have y2n : W7.cell? ⟨W5.heap.size, 2, none⟩ = some (.bool true) := (hc _ _ (cell_lt y2)).trans y2
  clear y2
  have y2 := y2n
  clear y2n
  have hbn : Below w.heap.size w W7 := bthen hb0 hB
  clear hb0
  have hb0 := hbn
  clear hbn
  have hzW7 : W6.heap.size ≤ W7.heap.size := hz
  clear hc hf hB hz
  go_upto_region 6 with (fail)
  go_name_world W8 hW8
  have hbz := hb0.size
  have hbn : Below w.heap.size w W8 := by subst hW8; go_grown
  clear hb0 hbz
  have hb0 := hbn
  clear hbn
  have hbk : Below W7.heap.size W7 W8 := by subst hW8; go_grown
  have r0n : W8.cell? ⟨w.heap.size, 0, none⟩ = some (.int .i64 50) := ((bcell hbk).1 _ _ (cell_lt r0)).trans r0
  have r1n : W8.cell? ⟨w.heap.size, 1, none⟩ = some (.int .i64 20) := ((bcell hbk).1 _ _ (cell_lt r1)).trans r1
  have x0n : W8.cell? ⟨W3.heap.size, 0, none⟩ = some (.int .i64 187) := ((bcell hbk).1 _ _ (cell_lt x0)).trans x0
  have x1n : W8.cell? ⟨W3.heap.size, 1, none⟩ = some (.int .i64 200) := ((bcell hbk).1 _ _ (cell_lt x1)).trans x1
  have x2n : W8.cell? ⟨W3.heap.size, 2, none⟩ = some (.bool true) := ((bcell hbk).1 _ _ (cell_lt x2)).trans x2
  have y0n : W8.cell? ⟨W5.heap.size, 0, none⟩ = some (.int .i64 187) := ((bcell hbk).1 _ _ (cell_lt y0)).trans y0
  have y1n : W8.cell? ⟨W5.heap.size, 1, none⟩ = some (.int .i64 210) := ((bcell hbk).1 _ _ (cell_lt y1)).trans y1
  have y2n : W8.cell? ⟨W5.heap.size, 2, none⟩ = some (.bool true) := ((bcell hbk).1 _ _ (cell_lt y2)).trans y2
  clear hbk
  have z0n : W8.cell? ⟨W7.heap.size, 0, none⟩ = some (.int .i64 8) := by subst hW8; go_simp
  have z1n : W8.cell? ⟨W7.heap.size, 1, none⟩ = some (.int .i64 9) := by subst hW8; go_simp
  have z2n : W8.cell? ⟨W7.heap.size, 2, none⟩ = some (.bool true) := by subst hW8; go_simp
  clear hW8 r0 r1 x0 x1 x2 y0 y1 y2
  have r0 := r0n
  have r1 := r1n
  have x0 := x0n
  have x1 := x1n
  have x2 := x2n
  have y0 := y0n
  have y1 := y1n
  have y2 := y2n
  have z0 := z0n
  have z1 := z1n
  have z2 := z2n
  clear r0n r1n x0n x1n x2n y0n y1n y2n z0n z1n z2n 
  go_wp2_with fail
  refine (via (w0 := W8) (by go_grown) (k_M1 _)).mono ?_
  rintro e W9 ⟨rfl, hc, hf, hz, hB⟩
  have r0n : W9.cell? ⟨w.heap.size, 0, none⟩ = some (.int .i64 50) := (hc _ _ (cell_lt r0)).trans r0
  clear r0
  have r0 := r0n
  clear r0n
  have r1n : W9.cell? ⟨w.heap.size, 1, none⟩ = some (.int .i64 20) := (hc _ _ (cell_lt r1)).trans r1
  clear r1
  have r1 := r1n
  clear r1n
  have x0n : W9.cell? ⟨W3.heap.size, 0, none⟩ = some (.int .i64 187) := (hc _ _ (cell_lt x0)).trans x0
  clear x0
  have x0 := x0n
  clear x0n
  have x1n : W9.cell? ⟨W3.heap.size, 1, none⟩ = some (.int .i64 200) := (hc _ _ (cell_lt x1)).trans x1
  clear x1
  have x1 := x1n
  clear x1n
  have x2n : W9.cell? ⟨W3.heap.size, 2, none⟩ = some (.bool true) := (hc _ _ (cell_lt x2)).trans x2
  clear x2
  have x2 := x2n
  clear x2n
  have y0n : W9.cell? ⟨W5.heap.size, 0, none⟩ = some (.int .i64 187) := (hc _ _ (cell_lt y0)).trans y0
  clear y0
  have y0 := y0n
  clear y0n
  have y1n : W9.cell? ⟨W5.heap.size, 1, none⟩ = some (.int .i64 210) := (hc _ _ (cell_lt y1)).trans y1
  clear y1
  have y1 := y1n
  clear y1n
  have y2n : W9.cell? ⟨W5.heap.size, 2, none⟩ = some (.bool true) := (hc _ _ (cell_lt y2)).trans y2
  clear y2
  have y2 := y2n
  clear y2n
  have z0n : W9.cell? ⟨W7.heap.size, 0, none⟩ = some (.int .i64 8) := (hc _ _ (cell_lt z0)).trans z0
  clear z0
  have z0 := z0n
  clear z0n
  have z1n : W9.cell? ⟨W7.heap.size, 1, none⟩ = some (.int .i64 9) := (hc _ _ (cell_lt z1)).trans z1
  clear z1
  have z1 := z1n
  clear z1n
  have z2n : W9.cell? ⟨W7.heap.size, 2, none⟩ = some (.bool true) := (hc _ _ (cell_lt z2)).trans z2
  clear z2
  have z2 := z2n
  clear z2n
  have hbn : Below w.heap.size w W9 := bthen hb0 hB
  clear hb0
  have hb0 := hbn
  clear hbn
  have hzW9 : W8.heap.size ≤ W9.heap.size := hz
  clear hc hf hB hz
  go_wp2_with fail
  refine (via (w0 := W9) (by go_grown) (k_D1 _)).mono ?_
  rintro e W10 ⟨rfl, hc, hf, hz, hB⟩
  have r0n : W10.cell? ⟨w.heap.size, 0, none⟩ = some (.int .i64 50) := (hc _ _ (cell_lt r0)).trans r0
  clear r0
  have r0 := r0n
  clear r0n
  have r1n : W10.cell? ⟨w.heap.size, 1, none⟩ = some (.int .i64 20) := (hc _ _ (cell_lt r1)).trans r1
  clear r1
  have r1 := r1n
  clear r1n
  have x0n : W10.cell? ⟨W3.heap.size, 0, none⟩ = some (.int .i64 187) := (hc _ _ (cell_lt x0)).trans x0
  clear x0
  have x0 := x0n
  clear x0n
  have x1n : W10.cell? ⟨W3.heap.size, 1, none⟩ = some (.int .i64 200) := (hc _ _ (cell_lt x1)).trans x1
  clear x1
  have x1 := x1n
  clear x1n
  have x2n : W10.cell? ⟨W3.heap.size, 2, none⟩ = some (.bool true) := (hc _ _ (cell_lt x2)).trans x2
  clear x2
  have x2 := x2n
  clear x2n
  have y0n : W10.cell? ⟨W5.heap.size, 0, none⟩ = some (.int .i64 187) := (hc _ _ (cell_lt y0)).trans y0
  clear y0
  have y0 := y0n
  clear y0n
  have y1n : W10.cell? ⟨W5.heap.size, 1, none⟩ = some (.int .i64 210) := (hc _ _ (cell_lt y1)).trans y1
  clear y1
  have y1 := y1n
  clear y1n
  have y2n : W10.cell? ⟨W5.heap.size, 2, none⟩ = some (.bool true) := (hc _ _ (cell_lt y2)).trans y2
  clear y2
  have y2 := y2n
  clear y2n
  have z0n : W10.cell? ⟨W7.heap.size, 0, none⟩ = some (.int .i64 8) := (hc _ _ (cell_lt z0)).trans z0
  clear z0
  have z0 := z0n
  clear z0n
  have z1n : W10.cell? ⟨W7.heap.size, 1, none⟩ = some (.int .i64 9) := (hc _ _ (cell_lt z1)).trans z1
  clear z1
  have z1 := z1n
  clear z1n
  have z2n : W10.cell? ⟨W7.heap.size, 2, none⟩ = some (.bool true) := (hc _ _ (cell_lt z2)).trans z2
  clear z2
  have z2 := z2n
  clear z2n
  have hbn : Below w.heap.size w W10 := bthen hb0 hB
  clear hb0
  have hb0 := hbn
  clear hbn
  have hzW10 : W9.heap.size ≤ W10.heap.size := hz
  clear hc hf hB hz
  go_wp2_with fail
  refine (via (w0 := W10) (by go_grown) (k_M2 _)).mono ?_
  rintro e W11 ⟨rfl, hc, hf, hz, hB⟩
  have r0n : W11.cell? ⟨w.heap.size, 0, none⟩ = some (.int .i64 50) := (hc _ _ (cell_lt r0)).trans r0
  clear r0
  have r0 := r0n
  clear r0n
  have r1n : W11.cell? ⟨w.heap.size, 1, none⟩ = some (.int .i64 20) := (hc _ _ (cell_lt r1)).trans r1
  clear r1
  have r1 := r1n
  clear r1n
  have x0n : W11.cell? ⟨W3.heap.size, 0, none⟩ = some (.int .i64 187) := (hc _ _ (cell_lt x0)).trans x0
  clear x0
  have x0 := x0n
  clear x0n
  have x1n : W11.cell? ⟨W3.heap.size, 1, none⟩ = some (.int .i64 200) := (hc _ _ (cell_lt x1)).trans x1
  clear x1
  have x1 := x1n
  clear x1n
  have x2n : W11.cell? ⟨W3.heap.size, 2, none⟩ = some (.bool true) := (hc _ _ (cell_lt x2)).trans x2
  clear x2
  have x2 := x2n
  clear x2n
  have y0n : W11.cell? ⟨W5.heap.size, 0, none⟩ = some (.int .i64 187) := (hc _ _ (cell_lt y0)).trans y0
  clear y0
  have y0 := y0n
  clear y0n
  have y1n : W11.cell? ⟨W5.heap.size, 1, none⟩ = some (.int .i64 210) := (hc _ _ (cell_lt y1)).trans y1
  clear y1
  have y1 := y1n
  clear y1n
  have y2n : W11.cell? ⟨W5.heap.size, 2, none⟩ = some (.bool true) := (hc _ _ (cell_lt y2)).trans y2
  clear y2
  have y2 := y2n
  clear y2n
  have z0n : W11.cell? ⟨W7.heap.size, 0, none⟩ = some (.int .i64 8) := (hc _ _ (cell_lt z0)).trans z0
  clear z0
  have z0 := z0n
  clear z0n
  have z1n : W11.cell? ⟨W7.heap.size, 1, none⟩ = some (.int .i64 9) := (hc _ _ (cell_lt z1)).trans z1
  clear z1
  have z1 := z1n
  clear z1n
  have z2n : W11.cell? ⟨W7.heap.size, 2, none⟩ = some (.bool true) := (hc _ _ (cell_lt z2)).trans z2
  clear z2
  have z2 := z2n
  clear z2n
  have hbn : Below w.heap.size w W11 := bthen hb0 hB
  clear hb0
  have hb0 := hbn
  clear hbn
  have hzW11 : W10.heap.size ≤ W11.heap.size := hz
  clear hc hf hB hz
  go_upto_region 10 with (fail)
  go_name_world W12 hW12
  have hbz := hb0.size
  have hbn : Below w.heap.size w W12 := by subst hW12; go_grown
  clear hb0 hbz
  have hb0 := hbn
  clear hbn
  have hbk : Below W11.heap.size W11 W12 := by subst hW12; go_grown
  have r0n : W12.cell? ⟨w.heap.size, 0, none⟩ = some (.int .i64 50) := ((bcell hbk).1 _ _ (cell_lt r0)).trans r0
  have r1n : W12.cell? ⟨w.heap.size, 1, none⟩ = some (.int .i64 20) := ((bcell hbk).1 _ _ (cell_lt r1)).trans r1
  have x0n : W12.cell? ⟨W3.heap.size, 0, none⟩ = some (.int .i64 187) := ((bcell hbk).1 _ _ (cell_lt x0)).trans x0
  have x1n : W12.cell? ⟨W3.heap.size, 1, none⟩ = some (.int .i64 200) := ((bcell hbk).1 _ _ (cell_lt x1)).trans x1
  have x2n : W12.cell? ⟨W3.heap.size, 2, none⟩ = some (.bool true) := ((bcell hbk).1 _ _ (cell_lt x2)).trans x2
  have y0n : W12.cell? ⟨W5.heap.size, 0, none⟩ = some (.int .i64 187) := ((bcell hbk).1 _ _ (cell_lt y0)).trans y0
  have y1n : W12.cell? ⟨W5.heap.size, 1, none⟩ = some (.int .i64 210) := ((bcell hbk).1 _ _ (cell_lt y1)).trans y1
  have y2n : W12.cell? ⟨W5.heap.size, 2, none⟩ = some (.bool true) := ((bcell hbk).1 _ _ (cell_lt y2)).trans y2
  have z0n : W12.cell? ⟨W7.heap.size, 0, none⟩ = some (.int .i64 8) := ((bcell hbk).1 _ _ (cell_lt z0)).trans z0
  have z1n : W12.cell? ⟨W7.heap.size, 1, none⟩ = some (.int .i64 9) := ((bcell hbk).1 _ _ (cell_lt z1)).trans z1
  have z2n : W12.cell? ⟨W7.heap.size, 2, none⟩ = some (.bool true) := ((bcell hbk).1 _ _ (cell_lt z2)).trans z2
  clear hbk
  have c0n : W12.cell? ⟨W11.heap.size, 0, none⟩ = some (.int .i64 1) := by subst hW12; go_simp
  have c1n : W12.cell? ⟨W11.heap.size, 1, none⟩ = some (.int .i64 0) := by subst hW12; go_simp
  have c2n : W12.cell? ⟨W11.heap.size, 2, none⟩ = some (.int .i64 0) := by subst hW12; go_simp
  have c3n : W12.cell? ⟨W11.heap.size, 3, none⟩ = some (.int .i64 3) := by subst hW12; go_simp
  have c4n : W12.cell? ⟨W11.heap.size, 4, none⟩ = some (.int .i64 200) := by subst hW12; go_simp
  have c5n : W12.cell? ⟨W11.heap.size, 5, none⟩ = some (.int .i64 190) := by subst hW12; go_simp
  have c6n : W12.cell? ⟨W11.heap.size, 6, none⟩ = some (.int .i64 2) := by subst hW12; go_simp
  have c7n : W12.cell? ⟨W11.heap.size, 7, none⟩ = some (.int .i64 0) := by subst hW12; go_simp
  have c8n : W12.cell? ⟨W11.heap.size, 8, none⟩ = some (.int .i64 0) := by subst hW12; go_simp
  have c9n : W12.cell? ⟨W11.heap.size, 9, none⟩ = some (.int .i64 3) := by subst hW12; go_simp
  have c10n : W12.cell? ⟨W11.heap.size, 10, none⟩ = some (.int .i64 100) := by subst hW12; go_simp
  have c11n : W12.cell? ⟨W11.heap.size, 11, none⟩ = some (.int .i64 103) := by subst hW12; go_simp
  clear hW12 r0 r1 x0 x1 x2 y0 y1 y2 z0 z1 z2
  have r0 := r0n
  have r1 := r1n
  have x0 := x0n
  have x1 := x1n
  have x2 := x2n
  have y0 := y0n
  have y1 := y1n
  have y2 := y2n
  have z0 := z0n
  have z1 := z1n
  have z2 := z2n
  have c0 := c0n
  have c1 := c1n
  have c2 := c2n
  have c3 := c3n
  have c4 := c4n
  have c5 := c5n
  have c6 := c6n
  have c7 := c7n
  have c8 := c8n
  have c9 := c9n
  have c10 := c10n
  have c11 := c11n
  clear r0n r1n x0n x1n x2n y0n y1n y2n z0n z1n z2n c0n c1n c2n c3n c4n c5n c6n c7n c8n c9n c10n c11n 
  go_wp2_with fail
  refine (via (w0 := W12) (by go_grown) (k_Rate _ _ (ex_recs c0 c1 c2 c3 c4 c5 c6 c7 c8 c9 c10 c11))).mono ?_
  rintro e W13 ⟨rfl, hc, hf, hz, hB⟩
  have r0n : W13.cell? ⟨w.heap.size, 0, none⟩ = some (.int .i64 50) := (hc _ _ (cell_lt r0)).trans r0
  clear r0
  have r0 := r0n
  clear r0n
  have r1n : W13.cell? ⟨w.heap.size, 1, none⟩ = some (.int .i64 20) := (hc _ _ (cell_lt r1)).trans r1
  clear r1
  have r1 := r1n
  clear r1n
  have x0n : W13.cell? ⟨W3.heap.size, 0, none⟩ = some (.int .i64 187) := (hc _ _ (cell_lt x0)).trans x0
  clear x0
  have x0 := x0n
  clear x0n
  have x1n : W13.cell? ⟨W3.heap.size, 1, none⟩ = some (.int .i64 200) := (hc _ _ (cell_lt x1)).trans x1
  clear x1
  have x1 := x1n
  clear x1n
  have x2n : W13.cell? ⟨W3.heap.size, 2, none⟩ = some (.bool true) := (hc _ _ (cell_lt x2)).trans x2
  clear x2
  have x2 := x2n
  clear x2n
  have y0n : W13.cell? ⟨W5.heap.size, 0, none⟩ = some (.int .i64 187) := (hc _ _ (cell_lt y0)).trans y0
  clear y0
  have y0 := y0n
  clear y0n
  have y1n : W13.cell? ⟨W5.heap.size, 1, none⟩ = some (.int .i64 210) := (hc _ _ (cell_lt y1)).trans y1
  clear y1
  have y1 := y1n
  clear y1n
  have y2n : W13.cell? ⟨W5.heap.size, 2, none⟩ = some (.bool true) := (hc _ _ (cell_lt y2)).trans y2
  clear y2
  have y2 := y2n
  clear y2n
  have z0n : W13.cell? ⟨W7.heap.size, 0, none⟩ = some (.int .i64 8) := (hc _ _ (cell_lt z0)).trans z0
  clear z0
  have z0 := z0n
  clear z0n
  have z1n : W13.cell? ⟨W7.heap.size, 1, none⟩ = some (.int .i64 9) := (hc _ _ (cell_lt z1)).trans z1
  clear z1
  have z1 := z1n
  clear z1n
  have z2n : W13.cell? ⟨W7.heap.size, 2, none⟩ = some (.bool true) := (hc _ _ (cell_lt z2)).trans z2
  clear z2
  have z2 := z2n
  clear z2n
  have c0n : W13.cell? ⟨W11.heap.size, 0, none⟩ = some (.int .i64 1) := (hc _ _ (cell_lt c0)).trans c0
  clear c0
  have c0 := c0n
  clear c0n
  have c1n : W13.cell? ⟨W11.heap.size, 1, none⟩ = some (.int .i64 0) := (hc _ _ (cell_lt c1)).trans c1
  clear c1
  have c1 := c1n
  clear c1n
  have c2n : W13.cell? ⟨W11.heap.size, 2, none⟩ = some (.int .i64 0) := (hc _ _ (cell_lt c2)).trans c2
  clear c2
  have c2 := c2n
  clear c2n
  have c3n : W13.cell? ⟨W11.heap.size, 3, none⟩ = some (.int .i64 3) := (hc _ _ (cell_lt c3)).trans c3
  clear c3
  have c3 := c3n
  clear c3n
  have c4n : W13.cell? ⟨W11.heap.size, 4, none⟩ = some (.int .i64 200) := (hc _ _ (cell_lt c4)).trans c4
  clear c4
  have c4 := c4n
  clear c4n
  have c5n : W13.cell? ⟨W11.heap.size, 5, none⟩ = some (.int .i64 190) := (hc _ _ (cell_lt c5)).trans c5
  clear c5
  have c5 := c5n
  clear c5n
  have c6n : W13.cell? ⟨W11.heap.size, 6, none⟩ = some (.int .i64 2) := (hc _ _ (cell_lt c6)).trans c6
  clear c6
  have c6 := c6n
  clear c6n
  have c7n : W13.cell? ⟨W11.heap.size, 7, none⟩ = some (.int .i64 0) := (hc _ _ (cell_lt c7)).trans c7
  clear c7
  have c7 := c7n
  clear c7n
  have c8n : W13.cell? ⟨W11.heap.size, 8, none⟩ = some (.int .i64 0) := (hc _ _ (cell_lt c8)).trans c8
  clear c8
  have c8 := c8n
  clear c8n
  have c9n : W13.cell? ⟨W11.heap.size, 9, none⟩ = some (.int .i64 3) := (hc _ _ (cell_lt c9)).trans c9
  clear c9
  have c9 := c9n
  clear c9n
  have c10n : W13.cell? ⟨W11.heap.size, 10, none⟩ = some (.int .i64 100) := (hc _ _ (cell_lt c10)).trans c10
  clear c10
  have c10 := c10n
  clear c10n
  have c11n : W13.cell? ⟨W11.heap.size, 11, none⟩ = some (.int .i64 103) := (hc _ _ (cell_lt c11)).trans c11
  clear c11
  have c11 := c11n
  clear c11n
  have hbn : Below w.heap.size w W13 := bthen hb0 hB
  clear hb0
  have hb0 := hbn
  clear hbn
  have hzW13 : W12.heap.size ≤ W13.heap.size := hz
  clear hc hf hB hz
  go_upto_region 11 with (fail)
  go_name_world W14 hW14
  have hbz := hb0.size
  have hbn : Below w.heap.size w W14 := by subst hW14; go_grown
  clear hb0 hbz
  have hb0 := hbn
  clear hbn
  have hbk : Below W13.heap.size W13 W14 := by subst hW14; go_grown
  have r0n : W14.cell? ⟨w.heap.size, 0, none⟩ = some (.int .i64 50) := ((bcell hbk).1 _ _ (cell_lt r0)).trans r0
  have r1n : W14.cell? ⟨w.heap.size, 1, none⟩ = some (.int .i64 20) := ((bcell hbk).1 _ _ (cell_lt r1)).trans r1
  have x0n : W14.cell? ⟨W3.heap.size, 0, none⟩ = some (.int .i64 187) := ((bcell hbk).1 _ _ (cell_lt x0)).trans x0
  have x1n : W14.cell? ⟨W3.heap.size, 1, none⟩ = some (.int .i64 200) := ((bcell hbk).1 _ _ (cell_lt x1)).trans x1
  have x2n : W14.cell? ⟨W3.heap.size, 2, none⟩ = some (.bool true) := ((bcell hbk).1 _ _ (cell_lt x2)).trans x2
  have y0n : W14.cell? ⟨W5.heap.size, 0, none⟩ = some (.int .i64 187) := ((bcell hbk).1 _ _ (cell_lt y0)).trans y0
  have y1n : W14.cell? ⟨W5.heap.size, 1, none⟩ = some (.int .i64 210) := ((bcell hbk).1 _ _ (cell_lt y1)).trans y1
  have y2n : W14.cell? ⟨W5.heap.size, 2, none⟩ = some (.bool true) := ((bcell hbk).1 _ _ (cell_lt y2)).trans y2
  have z0n : W14.cell? ⟨W7.heap.size, 0, none⟩ = some (.int .i64 8) := ((bcell hbk).1 _ _ (cell_lt z0)).trans z0
  have z1n : W14.cell? ⟨W7.heap.size, 1, none⟩ = some (.int .i64 9) := ((bcell hbk).1 _ _ (cell_lt z1)).trans z1
  have z2n : W14.cell? ⟨W7.heap.size, 2, none⟩ = some (.bool true) := ((bcell hbk).1 _ _ (cell_lt z2)).trans z2
  have c0n : W14.cell? ⟨W11.heap.size, 0, none⟩ = some (.int .i64 1) := ((bcell hbk).1 _ _ (cell_lt c0)).trans c0
  have c1n : W14.cell? ⟨W11.heap.size, 1, none⟩ = some (.int .i64 0) := ((bcell hbk).1 _ _ (cell_lt c1)).trans c1
  have c2n : W14.cell? ⟨W11.heap.size, 2, none⟩ = some (.int .i64 0) := ((bcell hbk).1 _ _ (cell_lt c2)).trans c2
  have c3n : W14.cell? ⟨W11.heap.size, 3, none⟩ = some (.int .i64 3) := ((bcell hbk).1 _ _ (cell_lt c3)).trans c3
  have c4n : W14.cell? ⟨W11.heap.size, 4, none⟩ = some (.int .i64 200) := ((bcell hbk).1 _ _ (cell_lt c4)).trans c4
  have c5n : W14.cell? ⟨W11.heap.size, 5, none⟩ = some (.int .i64 190) := ((bcell hbk).1 _ _ (cell_lt c5)).trans c5
  have c6n : W14.cell? ⟨W11.heap.size, 6, none⟩ = some (.int .i64 2) := ((bcell hbk).1 _ _ (cell_lt c6)).trans c6
  have c7n : W14.cell? ⟨W11.heap.size, 7, none⟩ = some (.int .i64 0) := ((bcell hbk).1 _ _ (cell_lt c7)).trans c7
  have c8n : W14.cell? ⟨W11.heap.size, 8, none⟩ = some (.int .i64 0) := ((bcell hbk).1 _ _ (cell_lt c8)).trans c8
  have c9n : W14.cell? ⟨W11.heap.size, 9, none⟩ = some (.int .i64 3) := ((bcell hbk).1 _ _ (cell_lt c9)).trans c9
  have c10n : W14.cell? ⟨W11.heap.size, 10, none⟩ = some (.int .i64 100) := ((bcell hbk).1 _ _ (cell_lt c10)).trans c10
  have c11n : W14.cell? ⟨W11.heap.size, 11, none⟩ = some (.int .i64 103) := ((bcell hbk).1 _ _ (cell_lt c11)).trans c11
  clear hbk
  have q0n : W14.cell? ⟨W13.heap.size, 0, none⟩ = some (.int .i64 50) := by subst hW14; go_simp
  have q1n : W14.cell? ⟨W13.heap.size, 1, none⟩ = some (.int .i64 30) := by subst hW14; go_simp
  clear hW14 r0 r1 x0 x1 x2 y0 y1 y2 z0 z1 z2 c0 c1 c2 c3 c4 c5 c6 c7 c8 c9 c10 c11
  have r0 := r0n
  have r1 := r1n
  have x0 := x0n
  have x1 := x1n
  have x2 := x2n
  have y0 := y0n
  have y1 := y1n
  have y2 := y2n
  have z0 := z0n
  have z1 := z1n
  have z2 := z2n
  have c0 := c0n
  have c1 := c1n
  have c2 := c2n
  have c3 := c3n
  have c4 := c4n
  have c5 := c5n
  have c6 := c6n
  have c7 := c7n
  have c8 := c8n
  have c9 := c9n
  have c10 := c10n
  have c11 := c11n
  have q0 := q0n
  have q1 := q1n
  clear r0n r1n x0n x1n x2n y0n y1n y2n z0n z1n z2n c0n c1n c2n c3n c4n c5n c6n c7n c8n c9n c10n c11n q0n q1n 
  go_wp2_with fail
  refine (k_Why _ _ (ex_recs c0 c1 c2 c3 c4 c5 c6 c7 c8 c9 c10 c11)).mono ?_
  rintro e W15 ⟨⟨bw, cw, rfl, hi⟩, hB⟩
  have hc := (bcell hB).1
  have hf := (bcell hB).2
  have HI := Lib.hid hi
  clear hi
  have r0n : W15.cell? ⟨w.heap.size, 0, none⟩ = some (.int .i64 50) := (hc _ _ (cell_lt r0)).trans r0
  clear r0
  have r0 := r0n
  clear r0n
  have r1n : W15.cell? ⟨w.heap.size, 1, none⟩ = some (.int .i64 20) := (hc _ _ (cell_lt r1)).trans r1
  clear r1
  have r1 := r1n
  clear r1n
  have x0n : W15.cell? ⟨W3.heap.size, 0, none⟩ = some (.int .i64 187) := (hc _ _ (cell_lt x0)).trans x0
  clear x0
  have x0 := x0n
  clear x0n
  have x1n : W15.cell? ⟨W3.heap.size, 1, none⟩ = some (.int .i64 200) := (hc _ _ (cell_lt x1)).trans x1
  clear x1
  have x1 := x1n
  clear x1n
  have x2n : W15.cell? ⟨W3.heap.size, 2, none⟩ = some (.bool true) := (hc _ _ (cell_lt x2)).trans x2
  clear x2
  have x2 := x2n
  clear x2n
  have y0n : W15.cell? ⟨W5.heap.size, 0, none⟩ = some (.int .i64 187) := (hc _ _ (cell_lt y0)).trans y0
  clear y0
  have y0 := y0n
  clear y0n
  have y1n : W15.cell? ⟨W5.heap.size, 1, none⟩ = some (.int .i64 210) := (hc _ _ (cell_lt y1)).trans y1
  clear y1
  have y1 := y1n
  clear y1n
  have y2n : W15.cell? ⟨W5.heap.size, 2, none⟩ = some (.bool true) := (hc _ _ (cell_lt y2)).trans y2
  clear y2
  have y2 := y2n
  clear y2n
  have z0n : W15.cell? ⟨W7.heap.size, 0, none⟩ = some (.int .i64 8) := (hc _ _ (cell_lt z0)).trans z0
  clear z0
  have z0 := z0n
  clear z0n
  have z1n : W15.cell? ⟨W7.heap.size, 1, none⟩ = some (.int .i64 9) := (hc _ _ (cell_lt z1)).trans z1
  clear z1
  have z1 := z1n
  clear z1n
  have z2n : W15.cell? ⟨W7.heap.size, 2, none⟩ = some (.bool true) := (hc _ _ (cell_lt z2)).trans z2
  clear z2
  have z2 := z2n
  clear z2n
  have c0n : W15.cell? ⟨W11.heap.size, 0, none⟩ = some (.int .i64 1) := (hc _ _ (cell_lt c0)).trans c0
  clear c0
  have c0 := c0n
  clear c0n
  have c1n : W15.cell? ⟨W11.heap.size, 1, none⟩ = some (.int .i64 0) := (hc _ _ (cell_lt c1)).trans c1
  clear c1
  have c1 := c1n
  clear c1n
  have c2n : W15.cell? ⟨W11.heap.size, 2, none⟩ = some (.int .i64 0) := (hc _ _ (cell_lt c2)).trans c2
  clear c2
  have c2 := c2n
  clear c2n
  have c3n : W15.cell? ⟨W11.heap.size, 3, none⟩ = some (.int .i64 3) := (hc _ _ (cell_lt c3)).trans c3
  clear c3
  have c3 := c3n
  clear c3n
  have c4n : W15.cell? ⟨W11.heap.size, 4, none⟩ = some (.int .i64 200) := (hc _ _ (cell_lt c4)).trans c4
  clear c4
  have c4 := c4n
  clear c4n
  have c5n : W15.cell? ⟨W11.heap.size, 5, none⟩ = some (.int .i64 190) := (hc _ _ (cell_lt c5)).trans c5
  clear c5
  have c5 := c5n
  clear c5n
  have c6n : W15.cell? ⟨W11.heap.size, 6, none⟩ = some (.int .i64 2) := (hc _ _ (cell_lt c6)).trans c6
  clear c6
  have c6 := c6n
  clear c6n
  have c7n : W15.cell? ⟨W11.heap.size, 7, none⟩ = some (.int .i64 0) := (hc _ _ (cell_lt c7)).trans c7
  clear c7
  have c7 := c7n
  clear c7n
  have c8n : W15.cell? ⟨W11.heap.size, 8, none⟩ = some (.int .i64 0) := (hc _ _ (cell_lt c8)).trans c8
  clear c8
  have c8 := c8n
  clear c8n
  have c9n : W15.cell? ⟨W11.heap.size, 9, none⟩ = some (.int .i64 3) := (hc _ _ (cell_lt c9)).trans c9
  clear c9
  have c9 := c9n
  clear c9n
  have c10n : W15.cell? ⟨W11.heap.size, 10, none⟩ = some (.int .i64 100) := (hc _ _ (cell_lt c10)).trans c10
  clear c10
  have c10 := c10n
  clear c10n
  have c11n : W15.cell? ⟨W11.heap.size, 11, none⟩ = some (.int .i64 103) := (hc _ _ (cell_lt c11)).trans c11
  clear c11
  have c11 := c11n
  clear c11n
  have q0n : W15.cell? ⟨W13.heap.size, 0, none⟩ = some (.int .i64 50) := (hc _ _ (cell_lt q0)).trans q0
  clear q0
  have q0 := q0n
  clear q0n
  have q1n : W15.cell? ⟨W13.heap.size, 1, none⟩ = some (.int .i64 30) := (hc _ _ (cell_lt q1)).trans q1
  clear q1
  have q1 := q1n
  clear q1n
  have hbn : Below w.heap.size w W15 := bthen hb0 hB
  clear hb0
  have hb0 := hbn
  clear hbn hc hf hB
  clear c0 c1 c2 c3 c4 c5 c6 c7 c8 c9 c10 c11
  go_upto_region 15 with (fail)
  go_wp2_with fail
  refine (via (w0 := W15) (by go_grown) (k_Same _ _ _ _ _ (HI.out.later (by go_grown)) (ints_two (by go_simp) (by go_simp)))).mono ?_
  rintro e W16 ⟨rfl, hc, hf, hz, hB⟩
  have r0n : W16.cell? ⟨w.heap.size, 0, none⟩ = some (.int .i64 50) := (hc _ _ (cell_lt r0)).trans r0
  clear r0
  have r0 := r0n
  clear r0n
  have r1n : W16.cell? ⟨w.heap.size, 1, none⟩ = some (.int .i64 20) := (hc _ _ (cell_lt r1)).trans r1
  clear r1
  have r1 := r1n
  clear r1n
  have x0n : W16.cell? ⟨W3.heap.size, 0, none⟩ = some (.int .i64 187) := (hc _ _ (cell_lt x0)).trans x0
  clear x0
  have x0 := x0n
  clear x0n
  have x1n : W16.cell? ⟨W3.heap.size, 1, none⟩ = some (.int .i64 200) := (hc _ _ (cell_lt x1)).trans x1
  clear x1
  have x1 := x1n
  clear x1n
  have x2n : W16.cell? ⟨W3.heap.size, 2, none⟩ = some (.bool true) := (hc _ _ (cell_lt x2)).trans x2
  clear x2
  have x2 := x2n
  clear x2n
  have y0n : W16.cell? ⟨W5.heap.size, 0, none⟩ = some (.int .i64 187) := (hc _ _ (cell_lt y0)).trans y0
  clear y0
  have y0 := y0n
  clear y0n
  have y1n : W16.cell? ⟨W5.heap.size, 1, none⟩ = some (.int .i64 210) := (hc _ _ (cell_lt y1)).trans y1
  clear y1
  have y1 := y1n
  clear y1n
  have y2n : W16.cell? ⟨W5.heap.size, 2, none⟩ = some (.bool true) := (hc _ _ (cell_lt y2)).trans y2
  clear y2
  have y2 := y2n
  clear y2n
  have z0n : W16.cell? ⟨W7.heap.size, 0, none⟩ = some (.int .i64 8) := (hc _ _ (cell_lt z0)).trans z0
  clear z0
  have z0 := z0n
  clear z0n
  have z1n : W16.cell? ⟨W7.heap.size, 1, none⟩ = some (.int .i64 9) := (hc _ _ (cell_lt z1)).trans z1
  clear z1
  have z1 := z1n
  clear z1n
  have z2n : W16.cell? ⟨W7.heap.size, 2, none⟩ = some (.bool true) := (hc _ _ (cell_lt z2)).trans z2
  clear z2
  have z2 := z2n
  clear z2n
  have q0n : W16.cell? ⟨W13.heap.size, 0, none⟩ = some (.int .i64 50) := (hc _ _ (cell_lt q0)).trans q0
  clear q0
  have q0 := q0n
  clear q0n
  have q1n : W16.cell? ⟨W13.heap.size, 1, none⟩ = some (.int .i64 30) := (hc _ _ (cell_lt q1)).trans q1
  clear q1
  have q1 := q1n
  clear q1n
  have hbn : Below w.heap.size w W16 := bthen hb0 hB
  clear hb0
  have hb0 := hbn
  clear hbn
  have hzW16 : W15.heap.size ≤ W16.heap.size := hz
  clear hc hf hB hz
  go_wp2_with fail
  go_ret
  exact ⟨rfl, by have hbz := hb0.size; go_grown⟩
end Go.Proofs.YthdenmbfeanioaaGreatDoor
