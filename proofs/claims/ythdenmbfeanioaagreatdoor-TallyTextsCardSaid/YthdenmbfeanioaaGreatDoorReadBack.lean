/- This text proves what Read and ReadRecount return, of package tally and of its reference. -/
import Derived.Test.YthdenmbfeanioaaGreatDoorWrite
namespace Go.Proofs.YthdenmbfeanioaaGreatDoor
open Go.RowKit Go.Shelf
attribute [local go_sem] Oper.semAt_some

theorem ints_at {w : World} {a : Option Addr} {l : List Int} (h : Ints w a l) (hne : l ≠ []) : ∃ g o, a = some ⟨g, o, none⟩ ∧ ∀ k, k < l.length → w.cell? ⟨g, o + k, none⟩ = some (.int .i64 (it l k)) := h.2 hne
theorem readC_none {s : List UInt8} (h : readsN s 5 = none) : readC s = (ctZ, 4) := by unfold readC; rw [h]
theorem readC_bad {s : List UInt8} {n : List Int} (h : readsN s 5 = some n) (hb : ctB (ctOf n) = false) : readC s = (ctZ, 4) := by unfold readC; rw [h]; dsimp only; rw [hb]; rfl
theorem readC_ok {s : List UInt8} {n : List Int} (h : readsN s 5 = some n) (hb : ctB (ctOf n) = true) : readC s = (ctOf n, 0) := by unfold readC; rw [h]; dsimp only; rw [hb]; rfl
theorem readR_none {s : List UInt8} (h : readsN s 6 = none) : readR s = (rcZ, 4) := by unfold readR; rw [h]
theorem readR_bad {s : List UInt8} {n : List Int} (h : readsN s 6 = some n) (hb : rcB (rcOf n) = false) : readR s = (rcZ, 4) := by unfold readR; rw [h]; dsimp only; rw [hb]; rfl
theorem readR_ok {s : List UInt8} {n : List Int} (h : readsN s 6 = some n) (hb : rcB (rcOf n) = true) : readR s = (rcOf n, 0) := by unfold readR; rw [h]; dsimp only; rw [hb]; rfl

set_option maxRecDepth 100000 in
set_option maxHeartbeats 4000000 in
theorem c_Read_none (str : ByteArray)  (w : World) (hL : LibW w) (hs : str.size ≤ 1000) (hr : readsN str.data.toList 5 = none) :
    Calls Tryz.prog 8 #[.string str] w fun e w' => e = .returned (.tuple #[.agg #[.int .i64 0, .int .i64 0, .int .i64 0, .int .i64 0, .int .i64 0], .int .i64 4]) ∧ Below w.heap.size w w' := by
  have HW := Lib.hid hL
  have hC := fun W (h : LibW W) => c_read str 5 W h hs
  rw [hr] at hC
  have HC := Lib.hid hC
  clear hL hr hC hs
  go_enter Tryz.func8, Tryz.ntmps8
  go_upto_region 1 with (fail)
  go_name_world W1 hW1
  have hbn : Below w.heap.size w W1 := by subst hW1; go_grown
  have hb0 := hbn
  clear hbn
  have p0n : W1.cell? ⟨w.heap.size, 0, none⟩ = some (.int .i64 0) := by subst hW1; go_simp
  have fp0n : W1.frozen? ⟨w.heap.size, 0, none⟩ = false := by subst hW1; go_simp
  have p1n : W1.cell? ⟨w.heap.size, 1, none⟩ = some (.int .i64 0) := by subst hW1; go_simp
  have fp1n : W1.frozen? ⟨w.heap.size, 1, none⟩ = false := by subst hW1; go_simp
  have p2n : W1.cell? ⟨w.heap.size, 2, none⟩ = some (.int .i64 0) := by subst hW1; go_simp
  have fp2n : W1.frozen? ⟨w.heap.size, 2, none⟩ = false := by subst hW1; go_simp
  have p3n : W1.cell? ⟨w.heap.size, 3, none⟩ = some (.int .i64 0) := by subst hW1; go_simp
  have fp3n : W1.frozen? ⟨w.heap.size, 3, none⟩ = false := by subst hW1; go_simp
  have p4n : W1.cell? ⟨w.heap.size, 4, none⟩ = some (.int .i64 0) := by subst hW1; go_simp
  have fp4n : W1.frozen? ⟨w.heap.size, 4, none⟩ = false := by subst hW1; go_simp
  clear hW1 
  have p0 := p0n
  have fp0 := fp0n
  have p1 := p1n
  have fp1 := fp1n
  have p2 := p2n
  have fp2 := fp2n
  have p3 := p3n
  have fp3 := fp3n
  have p4 := p4n
  have fp4 := fp4n
  clear p0n p1n p2n p3n p4n fp0n fp1n fp2n fp3n fp4n
  go_wp2_with fail
  refine (HC.out _ (HW.out.later hb0)).mono ?_
  rintro e W2 ⟨⟨v, rfl⟩, hB⟩
  have hc := (bcell hB).1
  have hf := (bcell hB).2
  have hz := hB.size
  have fp0n : W2.frozen? ⟨w.heap.size, 0, none⟩ = false := (hf _ _ (cell_lt p0)).trans fp0
  clear fp0
  have fp0 := fp0n
  clear fp0n
  have p0n : W2.cell? ⟨w.heap.size, 0, none⟩ = some (.int .i64 0) := (hc _ _ (cell_lt p0)).trans p0
  clear p0
  have p0 := p0n
  clear p0n
  have fp1n : W2.frozen? ⟨w.heap.size, 1, none⟩ = false := (hf _ _ (cell_lt p1)).trans fp1
  clear fp1
  have fp1 := fp1n
  clear fp1n
  have p1n : W2.cell? ⟨w.heap.size, 1, none⟩ = some (.int .i64 0) := (hc _ _ (cell_lt p1)).trans p1
  clear p1
  have p1 := p1n
  clear p1n
  have fp2n : W2.frozen? ⟨w.heap.size, 2, none⟩ = false := (hf _ _ (cell_lt p2)).trans fp2
  clear fp2
  have fp2 := fp2n
  clear fp2n
  have p2n : W2.cell? ⟨w.heap.size, 2, none⟩ = some (.int .i64 0) := (hc _ _ (cell_lt p2)).trans p2
  clear p2
  have p2 := p2n
  clear p2n
  have fp3n : W2.frozen? ⟨w.heap.size, 3, none⟩ = false := (hf _ _ (cell_lt p3)).trans fp3
  clear fp3
  have fp3 := fp3n
  clear fp3n
  have p3n : W2.cell? ⟨w.heap.size, 3, none⟩ = some (.int .i64 0) := (hc _ _ (cell_lt p3)).trans p3
  clear p3
  have p3 := p3n
  clear p3n
  have fp4n : W2.frozen? ⟨w.heap.size, 4, none⟩ = false := (hf _ _ (cell_lt p4)).trans fp4
  clear fp4
  have fp4 := fp4n
  clear fp4n
  have p4n : W2.cell? ⟨w.heap.size, 4, none⟩ = some (.int .i64 0) := (hc _ _ (cell_lt p4)).trans p4
  clear p4
  have p4 := p4n
  clear p4n
  have hbn : Below w.heap.size w W2 := bthen hb0 hB
  clear hb0
  have hb0 := hbn
  clear hbn
  have hzW2 : W1.heap.size ≤ W2.heap.size := hz
  clear hc hf hB hz
  go_wp2_with fail
  refine bodyPost_ret (v := .tuple #[.agg #[.int .i64 0, .int .i64 0, .int .i64 0, .int .i64 0, .int .i64 0], .int .i64 4]) (by simp [results, Tryz.results8, go_sem, p0, p1, p2, p3, p4]) rfl ⟨rfl, by have hbz := hb0.size; go_grown⟩

set_option maxRecDepth 100000 in
set_option maxHeartbeats 4000000 in
theorem c_Read_bad (str : ByteArray) (i d s n wo : Int) (hb : countB i d s n wo = false) (w : World) (hL : LibW w) (hs : str.size ≤ 1000) (hr : readsN str.data.toList 5 = some [i, d, s, n, wo]) :
    Calls Tryz.prog 8 #[.string str] w fun e w' => e = .returned (.tuple #[.agg #[.int .i64 0, .int .i64 0, .int .i64 0, .int .i64 0, .int .i64 0], .int .i64 4]) ∧ Below w.heap.size w w' := by
  have HW := Lib.hid hL
  have hC := fun W (h : LibW W) => c_read str 5 W h hs
  rw [hr] at hC
  have HC := Lib.hid hC
  clear hL hr hC hs
  have HBB := Lib.hid hb
  clear hb
  go_enter Tryz.func8, Tryz.ntmps8
  go_upto_region 1 with (fail)
  go_name_world W1 hW1
  have hbn : Below w.heap.size w W1 := by subst hW1; go_grown
  have hb0 := hbn
  clear hbn
  have p0n : W1.cell? ⟨w.heap.size, 0, none⟩ = some (.int .i64 0) := by subst hW1; go_simp
  have fp0n : W1.frozen? ⟨w.heap.size, 0, none⟩ = false := by subst hW1; go_simp
  have p1n : W1.cell? ⟨w.heap.size, 1, none⟩ = some (.int .i64 0) := by subst hW1; go_simp
  have fp1n : W1.frozen? ⟨w.heap.size, 1, none⟩ = false := by subst hW1; go_simp
  have p2n : W1.cell? ⟨w.heap.size, 2, none⟩ = some (.int .i64 0) := by subst hW1; go_simp
  have fp2n : W1.frozen? ⟨w.heap.size, 2, none⟩ = false := by subst hW1; go_simp
  have p3n : W1.cell? ⟨w.heap.size, 3, none⟩ = some (.int .i64 0) := by subst hW1; go_simp
  have fp3n : W1.frozen? ⟨w.heap.size, 3, none⟩ = false := by subst hW1; go_simp
  have p4n : W1.cell? ⟨w.heap.size, 4, none⟩ = some (.int .i64 0) := by subst hW1; go_simp
  have fp4n : W1.frozen? ⟨w.heap.size, 4, none⟩ = false := by subst hW1; go_simp
  clear hW1 
  have p0 := p0n
  have fp0 := fp0n
  have p1 := p1n
  have fp1 := fp1n
  have p2 := p2n
  have fp2 := fp2n
  have p3 := p3n
  have fp3 := fp3n
  have p4 := p4n
  have fp4 := fp4n
  clear p0n p1n p2n p3n p4n fp0n fp1n fp2n fp3n fp4n
  go_wp2_with fail
  refine (HC.out _ (HW.out.later hb0)).mono ?_
  rintro e W2 ⟨⟨b, c, rfl, hi⟩, hB⟩
  have hc := (bcell hB).1
  have hf := (bcell hB).2
  have hz := hB.size
  have fp0n : W2.frozen? ⟨w.heap.size, 0, none⟩ = false := (hf _ _ (cell_lt p0)).trans fp0
  clear fp0
  have fp0 := fp0n
  clear fp0n
  have p0n : W2.cell? ⟨w.heap.size, 0, none⟩ = some (.int .i64 0) := (hc _ _ (cell_lt p0)).trans p0
  clear p0
  have p0 := p0n
  clear p0n
  have fp1n : W2.frozen? ⟨w.heap.size, 1, none⟩ = false := (hf _ _ (cell_lt p1)).trans fp1
  clear fp1
  have fp1 := fp1n
  clear fp1n
  have p1n : W2.cell? ⟨w.heap.size, 1, none⟩ = some (.int .i64 0) := (hc _ _ (cell_lt p1)).trans p1
  clear p1
  have p1 := p1n
  clear p1n
  have fp2n : W2.frozen? ⟨w.heap.size, 2, none⟩ = false := (hf _ _ (cell_lt p2)).trans fp2
  clear fp2
  have fp2 := fp2n
  clear fp2n
  have p2n : W2.cell? ⟨w.heap.size, 2, none⟩ = some (.int .i64 0) := (hc _ _ (cell_lt p2)).trans p2
  clear p2
  have p2 := p2n
  clear p2n
  have fp3n : W2.frozen? ⟨w.heap.size, 3, none⟩ = false := (hf _ _ (cell_lt p3)).trans fp3
  clear fp3
  have fp3 := fp3n
  clear fp3n
  have p3n : W2.cell? ⟨w.heap.size, 3, none⟩ = some (.int .i64 0) := (hc _ _ (cell_lt p3)).trans p3
  clear p3
  have p3 := p3n
  clear p3n
  have fp4n : W2.frozen? ⟨w.heap.size, 4, none⟩ = false := (hf _ _ (cell_lt p4)).trans fp4
  clear fp4
  have fp4 := fp4n
  clear fp4n
  have p4n : W2.cell? ⟨w.heap.size, 4, none⟩ = some (.int .i64 0) := (hc _ _ (cell_lt p4)).trans p4
  clear p4
  have p4 := p4n
  clear p4n
  have hbn : Below w.heap.size w W2 := bthen hb0 hB
  clear hb0
  have hb0 := hbn
  clear hbn
  have hzW2 : W1.heap.size ≤ W2.heap.size := hz
  clear hc hf hB hz
  obtain ⟨g, o, rfl, hat⟩ := ints_at hi (by simp)
  have y0 := hat 0 (by simp)
  rw [Nat.add_zero] at y0
  simp only [it, List.getElem?_cons_zero, Option.getD_some] at y0
  have y1 := hat 1 (by simp)
  simp only [it, List.getElem?_cons_zero, List.getElem?_cons_succ, Option.getD_some] at y1
  have y2 := hat 2 (by simp)
  simp only [it, List.getElem?_cons_zero, List.getElem?_cons_succ, Option.getD_some] at y2
  have y3 := hat 3 (by simp)
  simp only [it, List.getElem?_cons_zero, List.getElem?_cons_succ, Option.getD_some] at y3
  have y4 := hat 4 (by simp)
  simp only [it, List.getElem?_cons_zero, List.getElem?_cons_succ, Option.getD_some] at y4
  clear hat hi
  go_upto_region 4 with (fail)
  refine wp_region_alloc 16 W2 (.cells #[.int .i64 0, .int .i64 0, .int .i64 0, .int .i64 0, .int .i64 0] 23) (by rfl) (by rfl) ⟨by rfl, fun _ _ => by simp [go_sem]⟩ ⟨by rfl, by rfl, _, _, _, by rfl⟩ (by kernel_rfl) (Below.refl _ _) ?_
  intro V3 hB
  have hc := (bcell hB).1
  have hf := (bcell hB).2
  have hz := hB.size
  have fp0n : V3.frozen? ⟨w.heap.size, 0, none⟩ = false := (hf _ _ (cell_lt p0)).trans fp0
  clear fp0
  have fp0 := fp0n
  clear fp0n
  have p0n : V3.cell? ⟨w.heap.size, 0, none⟩ = some (.int .i64 0) := (hc _ _ (cell_lt p0)).trans p0
  clear p0
  have p0 := p0n
  clear p0n
  have fp1n : V3.frozen? ⟨w.heap.size, 1, none⟩ = false := (hf _ _ (cell_lt p1)).trans fp1
  clear fp1
  have fp1 := fp1n
  clear fp1n
  have p1n : V3.cell? ⟨w.heap.size, 1, none⟩ = some (.int .i64 0) := (hc _ _ (cell_lt p1)).trans p1
  clear p1
  have p1 := p1n
  clear p1n
  have fp2n : V3.frozen? ⟨w.heap.size, 2, none⟩ = false := (hf _ _ (cell_lt p2)).trans fp2
  clear fp2
  have fp2 := fp2n
  clear fp2n
  have p2n : V3.cell? ⟨w.heap.size, 2, none⟩ = some (.int .i64 0) := (hc _ _ (cell_lt p2)).trans p2
  clear p2
  have p2 := p2n
  clear p2n
  have fp3n : V3.frozen? ⟨w.heap.size, 3, none⟩ = false := (hf _ _ (cell_lt p3)).trans fp3
  clear fp3
  have fp3 := fp3n
  clear fp3n
  have p3n : V3.cell? ⟨w.heap.size, 3, none⟩ = some (.int .i64 0) := (hc _ _ (cell_lt p3)).trans p3
  clear p3
  have p3 := p3n
  clear p3n
  have fp4n : V3.frozen? ⟨w.heap.size, 4, none⟩ = false := (hf _ _ (cell_lt p4)).trans fp4
  clear fp4
  have fp4 := fp4n
  clear fp4n
  have p4n : V3.cell? ⟨w.heap.size, 4, none⟩ = some (.int .i64 0) := (hc _ _ (cell_lt p4)).trans p4
  clear p4
  have p4 := p4n
  clear p4n
  have y0n : V3.cell? ⟨g, o, none⟩ = some (.int .i64 i) := (hc _ _ (cell_lt y0)).trans y0
  clear y0
  have y0 := y0n
  clear y0n
  have y1n : V3.cell? ⟨g, o + 1, none⟩ = some (.int .i64 d) := (hc _ _ (cell_lt y1)).trans y1
  clear y1
  have y1 := y1n
  clear y1n
  have y2n : V3.cell? ⟨g, o + 2, none⟩ = some (.int .i64 s) := (hc _ _ (cell_lt y2)).trans y2
  clear y2
  have y2 := y2n
  clear y2n
  have y3n : V3.cell? ⟨g, o + 3, none⟩ = some (.int .i64 n) := (hc _ _ (cell_lt y3)).trans y3
  clear y3
  have y3 := y3n
  clear y3n
  have y4n : V3.cell? ⟨g, o + 4, none⟩ = some (.int .i64 wo) := (hc _ _ (cell_lt y4)).trans y4
  clear y4
  have y4 := y4n
  clear y4n
  have hbn : Below w.heap.size w V3 := bthen hb0 hB
  clear hb0
  have hb0 := hbn
  clear hbn
  have hzV3 : W2.heap.size ≤ V3.heap.size := hz
  clear hc hf hB hz
  simp only [List.take_succ_cons, List.take_zero, List.drop_succ_cons, List.drop_zero]
  have kp0 := later_cell p0
  have kp1 := later_cell p1
  have kp2 := later_cell p2
  have kp3 := later_cell p3
  have kp4 := later_cell p4
  have ky0 := later_cell y0
  have ky1 := later_cell y1
  have ky2 := later_cell y2
  have ky3 := later_cell y3
  have ky4 := later_cell y4
  repeat (go_big_quiet_step (fail))
  refine wpQuiet_nil ?_
  clear kp0 kp1 kp2 kp3 kp4 ky0 ky1 ky2 ky3 ky4
  intro U3 X3 hA hB2
  have hx : Below V3.heap.size V3 X3 := bthen (hA.alloc hA.size _) hB2
  have hg : V3.heap.size ≤ U3.heap.size := hA.size
  have z0 : X3.cell? ⟨U3.heap.size, 0, none⟩ = some (.int .i64 0) := ((bcell hB2).1 _ _ (by simp)).trans (by go_simp)
  have fz0 : X3.frozen? ⟨U3.heap.size, 0, none⟩ = false := ((bcell hB2).2 _ _ (by simp)).trans (by go_simp)
  have z1 : X3.cell? ⟨U3.heap.size, 1, none⟩ = some (.int .i64 0) := ((bcell hB2).1 _ _ (by simp)).trans (by go_simp)
  have fz1 : X3.frozen? ⟨U3.heap.size, 1, none⟩ = false := ((bcell hB2).2 _ _ (by simp)).trans (by go_simp)
  have z2 : X3.cell? ⟨U3.heap.size, 2, none⟩ = some (.int .i64 0) := ((bcell hB2).1 _ _ (by simp)).trans (by go_simp)
  have fz2 : X3.frozen? ⟨U3.heap.size, 2, none⟩ = false := ((bcell hB2).2 _ _ (by simp)).trans (by go_simp)
  have z3 : X3.cell? ⟨U3.heap.size, 3, none⟩ = some (.int .i64 0) := ((bcell hB2).1 _ _ (by simp)).trans (by go_simp)
  have fz3 : X3.frozen? ⟨U3.heap.size, 3, none⟩ = false := ((bcell hB2).2 _ _ (by simp)).trans (by go_simp)
  have z4 : X3.cell? ⟨U3.heap.size, 4, none⟩ = some (.int .i64 0) := ((bcell hB2).1 _ _ (by simp)).trans (by go_simp)
  have fz4 : X3.frozen? ⟨U3.heap.size, 4, none⟩ = false := ((bcell hB2).2 _ _ (by simp)).trans (by go_simp)
  clear hA hB2
  obtain ⟨g3, hgg⟩ : ∃ g, U3.heap.size = g := ⟨_, rfl⟩
  rw [hgg] at hg z0 fz0 z1 fz1 z2 fz2 z3 fz3 z4 fz4
  rw [hgg]
  clear hgg U3
  go_wp2
  refine ⟨rfl, by go_grown, ?_⟩
  intro Y3 hB hE
  have hc := (bcell hB).1
  have hf := (bcell hB).2
  have hz := hB.size
  have fp0n : Y3.frozen? ⟨w.heap.size, 0, none⟩ = false := (hf _ _ (cell_lt p0)).trans fp0
  clear fp0
  have fp0 := fp0n
  clear fp0n
  have p0n : Y3.cell? ⟨w.heap.size, 0, none⟩ = some (.int .i64 0) := (hc _ _ (cell_lt p0)).trans p0
  clear p0
  have p0 := p0n
  clear p0n
  have fp1n : Y3.frozen? ⟨w.heap.size, 1, none⟩ = false := (hf _ _ (cell_lt p1)).trans fp1
  clear fp1
  have fp1 := fp1n
  clear fp1n
  have p1n : Y3.cell? ⟨w.heap.size, 1, none⟩ = some (.int .i64 0) := (hc _ _ (cell_lt p1)).trans p1
  clear p1
  have p1 := p1n
  clear p1n
  have fp2n : Y3.frozen? ⟨w.heap.size, 2, none⟩ = false := (hf _ _ (cell_lt p2)).trans fp2
  clear fp2
  have fp2 := fp2n
  clear fp2n
  have p2n : Y3.cell? ⟨w.heap.size, 2, none⟩ = some (.int .i64 0) := (hc _ _ (cell_lt p2)).trans p2
  clear p2
  have p2 := p2n
  clear p2n
  have fp3n : Y3.frozen? ⟨w.heap.size, 3, none⟩ = false := (hf _ _ (cell_lt p3)).trans fp3
  clear fp3
  have fp3 := fp3n
  clear fp3n
  have p3n : Y3.cell? ⟨w.heap.size, 3, none⟩ = some (.int .i64 0) := (hc _ _ (cell_lt p3)).trans p3
  clear p3
  have p3 := p3n
  clear p3n
  have fp4n : Y3.frozen? ⟨w.heap.size, 4, none⟩ = false := (hf _ _ (cell_lt p4)).trans fp4
  clear fp4
  have fp4 := fp4n
  clear fp4n
  have p4n : Y3.cell? ⟨w.heap.size, 4, none⟩ = some (.int .i64 0) := (hc _ _ (cell_lt p4)).trans p4
  clear p4
  have p4 := p4n
  clear p4n
  have y0n : Y3.cell? ⟨g, o, none⟩ = some (.int .i64 i) := (hc _ _ (cell_lt y0)).trans y0
  clear y0
  have y0 := y0n
  clear y0n
  have y1n : Y3.cell? ⟨g, o + 1, none⟩ = some (.int .i64 d) := (hc _ _ (cell_lt y1)).trans y1
  clear y1
  have y1 := y1n
  clear y1n
  have y2n : Y3.cell? ⟨g, o + 2, none⟩ = some (.int .i64 s) := (hc _ _ (cell_lt y2)).trans y2
  clear y2
  have y2 := y2n
  clear y2n
  have y3n : Y3.cell? ⟨g, o + 3, none⟩ = some (.int .i64 n) := (hc _ _ (cell_lt y3)).trans y3
  clear y3
  have y3 := y3n
  clear y3n
  have y4n : Y3.cell? ⟨g, o + 4, none⟩ = some (.int .i64 wo) := (hc _ _ (cell_lt y4)).trans y4
  clear y4
  have y4 := y4n
  clear y4n
  have x0 : Y3.cell? ⟨g3, 0, none⟩ = some (.int .i64 i) := later_of hE (by go_simp)
  have x1 : Y3.cell? ⟨g3, 1, none⟩ = some (.int .i64 d) := later_of hE (by go_simp)
  have x2 : Y3.cell? ⟨g3, 2, none⟩ = some (.int .i64 s) := later_of hE (by go_simp)
  have x3 : Y3.cell? ⟨g3, 3, none⟩ = some (.int .i64 n) := later_of hE (by go_simp)
  have x4 : Y3.cell? ⟨g3, 4, none⟩ = some (.int .i64 wo) := later_of hE (by go_simp)
  clear z0 fz0 z1 fz1 z2 fz2 z3 fz3 z4 fz4 hE hx
  have hzY3 : V3.heap.size ≤ Y3.heap.size := hz
  have hgg3 : V3.heap.size ≤ g3 := hg
  have hbn : Below w.heap.size w Y3 := bthen hb0 hB
  clear hb0
  have hb0 := hbn
  clear hbn hc hf hB hz hg
  go_wp2_with fail
  refine (via (w0 := Y3) (by go_grown) (c_isCount i d s n wo _)).mono ?_
  rw [HBB.out]
  rintro e W4 ⟨rfl, hc, hf, hz, hB⟩
  have fp0n : W4.frozen? ⟨w.heap.size, 0, none⟩ = false := (hf _ _ (cell_lt p0)).trans fp0
  clear fp0
  have fp0 := fp0n
  clear fp0n
  have p0n : W4.cell? ⟨w.heap.size, 0, none⟩ = some (.int .i64 0) := (hc _ _ (cell_lt p0)).trans p0
  clear p0
  have p0 := p0n
  clear p0n
  have fp1n : W4.frozen? ⟨w.heap.size, 1, none⟩ = false := (hf _ _ (cell_lt p1)).trans fp1
  clear fp1
  have fp1 := fp1n
  clear fp1n
  have p1n : W4.cell? ⟨w.heap.size, 1, none⟩ = some (.int .i64 0) := (hc _ _ (cell_lt p1)).trans p1
  clear p1
  have p1 := p1n
  clear p1n
  have fp2n : W4.frozen? ⟨w.heap.size, 2, none⟩ = false := (hf _ _ (cell_lt p2)).trans fp2
  clear fp2
  have fp2 := fp2n
  clear fp2n
  have p2n : W4.cell? ⟨w.heap.size, 2, none⟩ = some (.int .i64 0) := (hc _ _ (cell_lt p2)).trans p2
  clear p2
  have p2 := p2n
  clear p2n
  have fp3n : W4.frozen? ⟨w.heap.size, 3, none⟩ = false := (hf _ _ (cell_lt p3)).trans fp3
  clear fp3
  have fp3 := fp3n
  clear fp3n
  have p3n : W4.cell? ⟨w.heap.size, 3, none⟩ = some (.int .i64 0) := (hc _ _ (cell_lt p3)).trans p3
  clear p3
  have p3 := p3n
  clear p3n
  have fp4n : W4.frozen? ⟨w.heap.size, 4, none⟩ = false := (hf _ _ (cell_lt p4)).trans fp4
  clear fp4
  have fp4 := fp4n
  clear fp4n
  have p4n : W4.cell? ⟨w.heap.size, 4, none⟩ = some (.int .i64 0) := (hc _ _ (cell_lt p4)).trans p4
  clear p4
  have p4 := p4n
  clear p4n
  have y0n : W4.cell? ⟨g, o, none⟩ = some (.int .i64 i) := (hc _ _ (cell_lt y0)).trans y0
  clear y0
  have y0 := y0n
  clear y0n
  have y1n : W4.cell? ⟨g, o + 1, none⟩ = some (.int .i64 d) := (hc _ _ (cell_lt y1)).trans y1
  clear y1
  have y1 := y1n
  clear y1n
  have y2n : W4.cell? ⟨g, o + 2, none⟩ = some (.int .i64 s) := (hc _ _ (cell_lt y2)).trans y2
  clear y2
  have y2 := y2n
  clear y2n
  have y3n : W4.cell? ⟨g, o + 3, none⟩ = some (.int .i64 n) := (hc _ _ (cell_lt y3)).trans y3
  clear y3
  have y3 := y3n
  clear y3n
  have y4n : W4.cell? ⟨g, o + 4, none⟩ = some (.int .i64 wo) := (hc _ _ (cell_lt y4)).trans y4
  clear y4
  have y4 := y4n
  clear y4n
  have x0n : W4.cell? ⟨g3, 0, none⟩ = some (.int .i64 i) := (hc _ _ (cell_lt x0)).trans x0
  clear x0
  have x0 := x0n
  clear x0n
  have x1n : W4.cell? ⟨g3, 1, none⟩ = some (.int .i64 d) := (hc _ _ (cell_lt x1)).trans x1
  clear x1
  have x1 := x1n
  clear x1n
  have x2n : W4.cell? ⟨g3, 2, none⟩ = some (.int .i64 s) := (hc _ _ (cell_lt x2)).trans x2
  clear x2
  have x2 := x2n
  clear x2n
  have x3n : W4.cell? ⟨g3, 3, none⟩ = some (.int .i64 n) := (hc _ _ (cell_lt x3)).trans x3
  clear x3
  have x3 := x3n
  clear x3n
  have x4n : W4.cell? ⟨g3, 4, none⟩ = some (.int .i64 wo) := (hc _ _ (cell_lt x4)).trans x4
  clear x4
  have x4 := x4n
  clear x4n
  have hbn : Below w.heap.size w W4 := bthen hb0 hB
  clear hb0
  have hb0 := hbn
  clear hbn
  have hzW4 : Y3.heap.size ≤ W4.heap.size := hz
  clear hc hf hB hz
  go_wp2_with fail
  refine bodyPost_ret (v := .tuple #[.agg #[.int .i64 0, .int .i64 0, .int .i64 0, .int .i64 0, .int .i64 0], .int .i64 4]) (by simp [results, Tryz.results8, go_sem, p0, p1, p2, p3, p4]) rfl ⟨rfl, by have hbz := hb0.size; go_grown⟩

set_option maxRecDepth 100000 in
set_option maxHeartbeats 4000000 in
theorem c_Read_ok (str : ByteArray) (i d s n wo : Int) (hb : countB i d s n wo = true) (w : World) (hL : LibW w) (hs : str.size ≤ 1000) (hr : readsN str.data.toList 5 = some [i, d, s, n, wo]) :
    Calls Tryz.prog 8 #[.string str] w fun e w' => e = .returned (.tuple #[.agg #[.int .i64 i, .int .i64 d, .int .i64 s, .int .i64 n, .int .i64 wo], .int .i64 0]) ∧ Below w.heap.size w w' := by
  have HW := Lib.hid hL
  have hC := fun W (h : LibW W) => c_read str 5 W h hs
  rw [hr] at hC
  have HC := Lib.hid hC
  clear hL hr hC hs
  have HBB := Lib.hid hb
  clear hb
  go_enter Tryz.func8, Tryz.ntmps8
  go_upto_region 1 with (fail)
  go_name_world W1 hW1
  have hbn : Below w.heap.size w W1 := by subst hW1; go_grown
  have hb0 := hbn
  clear hbn
  have p0n : W1.cell? ⟨w.heap.size, 0, none⟩ = some (.int .i64 0) := by subst hW1; go_simp
  have fp0n : W1.frozen? ⟨w.heap.size, 0, none⟩ = false := by subst hW1; go_simp
  have p1n : W1.cell? ⟨w.heap.size, 1, none⟩ = some (.int .i64 0) := by subst hW1; go_simp
  have fp1n : W1.frozen? ⟨w.heap.size, 1, none⟩ = false := by subst hW1; go_simp
  have p2n : W1.cell? ⟨w.heap.size, 2, none⟩ = some (.int .i64 0) := by subst hW1; go_simp
  have fp2n : W1.frozen? ⟨w.heap.size, 2, none⟩ = false := by subst hW1; go_simp
  have p3n : W1.cell? ⟨w.heap.size, 3, none⟩ = some (.int .i64 0) := by subst hW1; go_simp
  have fp3n : W1.frozen? ⟨w.heap.size, 3, none⟩ = false := by subst hW1; go_simp
  have p4n : W1.cell? ⟨w.heap.size, 4, none⟩ = some (.int .i64 0) := by subst hW1; go_simp
  have fp4n : W1.frozen? ⟨w.heap.size, 4, none⟩ = false := by subst hW1; go_simp
  clear hW1 
  have p0 := p0n
  have fp0 := fp0n
  have p1 := p1n
  have fp1 := fp1n
  have p2 := p2n
  have fp2 := fp2n
  have p3 := p3n
  have fp3 := fp3n
  have p4 := p4n
  have fp4 := fp4n
  clear p0n p1n p2n p3n p4n fp0n fp1n fp2n fp3n fp4n
  go_wp2_with fail
  refine (HC.out _ (HW.out.later hb0)).mono ?_
  rintro e W2 ⟨⟨b, c, rfl, hi⟩, hB⟩
  have hc := (bcell hB).1
  have hf := (bcell hB).2
  have hz := hB.size
  have fp0n : W2.frozen? ⟨w.heap.size, 0, none⟩ = false := (hf _ _ (cell_lt p0)).trans fp0
  clear fp0
  have fp0 := fp0n
  clear fp0n
  have p0n : W2.cell? ⟨w.heap.size, 0, none⟩ = some (.int .i64 0) := (hc _ _ (cell_lt p0)).trans p0
  clear p0
  have p0 := p0n
  clear p0n
  have fp1n : W2.frozen? ⟨w.heap.size, 1, none⟩ = false := (hf _ _ (cell_lt p1)).trans fp1
  clear fp1
  have fp1 := fp1n
  clear fp1n
  have p1n : W2.cell? ⟨w.heap.size, 1, none⟩ = some (.int .i64 0) := (hc _ _ (cell_lt p1)).trans p1
  clear p1
  have p1 := p1n
  clear p1n
  have fp2n : W2.frozen? ⟨w.heap.size, 2, none⟩ = false := (hf _ _ (cell_lt p2)).trans fp2
  clear fp2
  have fp2 := fp2n
  clear fp2n
  have p2n : W2.cell? ⟨w.heap.size, 2, none⟩ = some (.int .i64 0) := (hc _ _ (cell_lt p2)).trans p2
  clear p2
  have p2 := p2n
  clear p2n
  have fp3n : W2.frozen? ⟨w.heap.size, 3, none⟩ = false := (hf _ _ (cell_lt p3)).trans fp3
  clear fp3
  have fp3 := fp3n
  clear fp3n
  have p3n : W2.cell? ⟨w.heap.size, 3, none⟩ = some (.int .i64 0) := (hc _ _ (cell_lt p3)).trans p3
  clear p3
  have p3 := p3n
  clear p3n
  have fp4n : W2.frozen? ⟨w.heap.size, 4, none⟩ = false := (hf _ _ (cell_lt p4)).trans fp4
  clear fp4
  have fp4 := fp4n
  clear fp4n
  have p4n : W2.cell? ⟨w.heap.size, 4, none⟩ = some (.int .i64 0) := (hc _ _ (cell_lt p4)).trans p4
  clear p4
  have p4 := p4n
  clear p4n
  have hbn : Below w.heap.size w W2 := bthen hb0 hB
  clear hb0
  have hb0 := hbn
  clear hbn
  have hzW2 : W1.heap.size ≤ W2.heap.size := hz
  clear hc hf hB hz
  obtain ⟨g, o, rfl, hat⟩ := ints_at hi (by simp)
  have y0 := hat 0 (by simp)
  rw [Nat.add_zero] at y0
  simp only [it, List.getElem?_cons_zero, Option.getD_some] at y0
  have y1 := hat 1 (by simp)
  simp only [it, List.getElem?_cons_zero, List.getElem?_cons_succ, Option.getD_some] at y1
  have y2 := hat 2 (by simp)
  simp only [it, List.getElem?_cons_zero, List.getElem?_cons_succ, Option.getD_some] at y2
  have y3 := hat 3 (by simp)
  simp only [it, List.getElem?_cons_zero, List.getElem?_cons_succ, Option.getD_some] at y3
  have y4 := hat 4 (by simp)
  simp only [it, List.getElem?_cons_zero, List.getElem?_cons_succ, Option.getD_some] at y4
  clear hat hi
  go_upto_region 4 with (fail)
  refine wp_region_alloc 16 W2 (.cells #[.int .i64 0, .int .i64 0, .int .i64 0, .int .i64 0, .int .i64 0] 23) (by rfl) (by rfl) ⟨by rfl, fun _ _ => by simp [go_sem]⟩ ⟨by rfl, by rfl, _, _, _, by rfl⟩ (by kernel_rfl) (Below.refl _ _) ?_
  intro V3 hB
  have hc := (bcell hB).1
  have hf := (bcell hB).2
  have hz := hB.size
  have fp0n : V3.frozen? ⟨w.heap.size, 0, none⟩ = false := (hf _ _ (cell_lt p0)).trans fp0
  clear fp0
  have fp0 := fp0n
  clear fp0n
  have p0n : V3.cell? ⟨w.heap.size, 0, none⟩ = some (.int .i64 0) := (hc _ _ (cell_lt p0)).trans p0
  clear p0
  have p0 := p0n
  clear p0n
  have fp1n : V3.frozen? ⟨w.heap.size, 1, none⟩ = false := (hf _ _ (cell_lt p1)).trans fp1
  clear fp1
  have fp1 := fp1n
  clear fp1n
  have p1n : V3.cell? ⟨w.heap.size, 1, none⟩ = some (.int .i64 0) := (hc _ _ (cell_lt p1)).trans p1
  clear p1
  have p1 := p1n
  clear p1n
  have fp2n : V3.frozen? ⟨w.heap.size, 2, none⟩ = false := (hf _ _ (cell_lt p2)).trans fp2
  clear fp2
  have fp2 := fp2n
  clear fp2n
  have p2n : V3.cell? ⟨w.heap.size, 2, none⟩ = some (.int .i64 0) := (hc _ _ (cell_lt p2)).trans p2
  clear p2
  have p2 := p2n
  clear p2n
  have fp3n : V3.frozen? ⟨w.heap.size, 3, none⟩ = false := (hf _ _ (cell_lt p3)).trans fp3
  clear fp3
  have fp3 := fp3n
  clear fp3n
  have p3n : V3.cell? ⟨w.heap.size, 3, none⟩ = some (.int .i64 0) := (hc _ _ (cell_lt p3)).trans p3
  clear p3
  have p3 := p3n
  clear p3n
  have fp4n : V3.frozen? ⟨w.heap.size, 4, none⟩ = false := (hf _ _ (cell_lt p4)).trans fp4
  clear fp4
  have fp4 := fp4n
  clear fp4n
  have p4n : V3.cell? ⟨w.heap.size, 4, none⟩ = some (.int .i64 0) := (hc _ _ (cell_lt p4)).trans p4
  clear p4
  have p4 := p4n
  clear p4n
  have y0n : V3.cell? ⟨g, o, none⟩ = some (.int .i64 i) := (hc _ _ (cell_lt y0)).trans y0
  clear y0
  have y0 := y0n
  clear y0n
  have y1n : V3.cell? ⟨g, o + 1, none⟩ = some (.int .i64 d) := (hc _ _ (cell_lt y1)).trans y1
  clear y1
  have y1 := y1n
  clear y1n
  have y2n : V3.cell? ⟨g, o + 2, none⟩ = some (.int .i64 s) := (hc _ _ (cell_lt y2)).trans y2
  clear y2
  have y2 := y2n
  clear y2n
  have y3n : V3.cell? ⟨g, o + 3, none⟩ = some (.int .i64 n) := (hc _ _ (cell_lt y3)).trans y3
  clear y3
  have y3 := y3n
  clear y3n
  have y4n : V3.cell? ⟨g, o + 4, none⟩ = some (.int .i64 wo) := (hc _ _ (cell_lt y4)).trans y4
  clear y4
  have y4 := y4n
  clear y4n
  have hbn : Below w.heap.size w V3 := bthen hb0 hB
  clear hb0
  have hb0 := hbn
  clear hbn
  have hzV3 : W2.heap.size ≤ V3.heap.size := hz
  clear hc hf hB hz
  simp only [List.take_succ_cons, List.take_zero, List.drop_succ_cons, List.drop_zero]
  have kp0 := later_cell p0
  have kp1 := later_cell p1
  have kp2 := later_cell p2
  have kp3 := later_cell p3
  have kp4 := later_cell p4
  have ky0 := later_cell y0
  have ky1 := later_cell y1
  have ky2 := later_cell y2
  have ky3 := later_cell y3
  have ky4 := later_cell y4
  repeat (go_big_quiet_step (fail))
  refine wpQuiet_nil ?_
  clear kp0 kp1 kp2 kp3 kp4 ky0 ky1 ky2 ky3 ky4
  intro U3 X3 hA hB2
  have hx : Below V3.heap.size V3 X3 := bthen (hA.alloc hA.size _) hB2
  have hg : V3.heap.size ≤ U3.heap.size := hA.size
  have z0 : X3.cell? ⟨U3.heap.size, 0, none⟩ = some (.int .i64 0) := ((bcell hB2).1 _ _ (by simp)).trans (by go_simp)
  have fz0 : X3.frozen? ⟨U3.heap.size, 0, none⟩ = false := ((bcell hB2).2 _ _ (by simp)).trans (by go_simp)
  have z1 : X3.cell? ⟨U3.heap.size, 1, none⟩ = some (.int .i64 0) := ((bcell hB2).1 _ _ (by simp)).trans (by go_simp)
  have fz1 : X3.frozen? ⟨U3.heap.size, 1, none⟩ = false := ((bcell hB2).2 _ _ (by simp)).trans (by go_simp)
  have z2 : X3.cell? ⟨U3.heap.size, 2, none⟩ = some (.int .i64 0) := ((bcell hB2).1 _ _ (by simp)).trans (by go_simp)
  have fz2 : X3.frozen? ⟨U3.heap.size, 2, none⟩ = false := ((bcell hB2).2 _ _ (by simp)).trans (by go_simp)
  have z3 : X3.cell? ⟨U3.heap.size, 3, none⟩ = some (.int .i64 0) := ((bcell hB2).1 _ _ (by simp)).trans (by go_simp)
  have fz3 : X3.frozen? ⟨U3.heap.size, 3, none⟩ = false := ((bcell hB2).2 _ _ (by simp)).trans (by go_simp)
  have z4 : X3.cell? ⟨U3.heap.size, 4, none⟩ = some (.int .i64 0) := ((bcell hB2).1 _ _ (by simp)).trans (by go_simp)
  have fz4 : X3.frozen? ⟨U3.heap.size, 4, none⟩ = false := ((bcell hB2).2 _ _ (by simp)).trans (by go_simp)
  clear hA hB2
  obtain ⟨g3, hgg⟩ : ∃ g, U3.heap.size = g := ⟨_, rfl⟩
  rw [hgg] at hg z0 fz0 z1 fz1 z2 fz2 z3 fz3 z4 fz4
  rw [hgg]
  clear hgg U3
  go_wp2
  refine ⟨rfl, by go_grown, ?_⟩
  intro Y3 hB hE
  have hc := (bcell hB).1
  have hf := (bcell hB).2
  have hz := hB.size
  have fp0n : Y3.frozen? ⟨w.heap.size, 0, none⟩ = false := (hf _ _ (cell_lt p0)).trans fp0
  clear fp0
  have fp0 := fp0n
  clear fp0n
  have p0n : Y3.cell? ⟨w.heap.size, 0, none⟩ = some (.int .i64 0) := (hc _ _ (cell_lt p0)).trans p0
  clear p0
  have p0 := p0n
  clear p0n
  have fp1n : Y3.frozen? ⟨w.heap.size, 1, none⟩ = false := (hf _ _ (cell_lt p1)).trans fp1
  clear fp1
  have fp1 := fp1n
  clear fp1n
  have p1n : Y3.cell? ⟨w.heap.size, 1, none⟩ = some (.int .i64 0) := (hc _ _ (cell_lt p1)).trans p1
  clear p1
  have p1 := p1n
  clear p1n
  have fp2n : Y3.frozen? ⟨w.heap.size, 2, none⟩ = false := (hf _ _ (cell_lt p2)).trans fp2
  clear fp2
  have fp2 := fp2n
  clear fp2n
  have p2n : Y3.cell? ⟨w.heap.size, 2, none⟩ = some (.int .i64 0) := (hc _ _ (cell_lt p2)).trans p2
  clear p2
  have p2 := p2n
  clear p2n
  have fp3n : Y3.frozen? ⟨w.heap.size, 3, none⟩ = false := (hf _ _ (cell_lt p3)).trans fp3
  clear fp3
  have fp3 := fp3n
  clear fp3n
  have p3n : Y3.cell? ⟨w.heap.size, 3, none⟩ = some (.int .i64 0) := (hc _ _ (cell_lt p3)).trans p3
  clear p3
  have p3 := p3n
  clear p3n
  have fp4n : Y3.frozen? ⟨w.heap.size, 4, none⟩ = false := (hf _ _ (cell_lt p4)).trans fp4
  clear fp4
  have fp4 := fp4n
  clear fp4n
  have p4n : Y3.cell? ⟨w.heap.size, 4, none⟩ = some (.int .i64 0) := (hc _ _ (cell_lt p4)).trans p4
  clear p4
  have p4 := p4n
  clear p4n
  have y0n : Y3.cell? ⟨g, o, none⟩ = some (.int .i64 i) := (hc _ _ (cell_lt y0)).trans y0
  clear y0
  have y0 := y0n
  clear y0n
  have y1n : Y3.cell? ⟨g, o + 1, none⟩ = some (.int .i64 d) := (hc _ _ (cell_lt y1)).trans y1
  clear y1
  have y1 := y1n
  clear y1n
  have y2n : Y3.cell? ⟨g, o + 2, none⟩ = some (.int .i64 s) := (hc _ _ (cell_lt y2)).trans y2
  clear y2
  have y2 := y2n
  clear y2n
  have y3n : Y3.cell? ⟨g, o + 3, none⟩ = some (.int .i64 n) := (hc _ _ (cell_lt y3)).trans y3
  clear y3
  have y3 := y3n
  clear y3n
  have y4n : Y3.cell? ⟨g, o + 4, none⟩ = some (.int .i64 wo) := (hc _ _ (cell_lt y4)).trans y4
  clear y4
  have y4 := y4n
  clear y4n
  have x0 : Y3.cell? ⟨g3, 0, none⟩ = some (.int .i64 i) := later_of hE (by go_simp)
  have x1 : Y3.cell? ⟨g3, 1, none⟩ = some (.int .i64 d) := later_of hE (by go_simp)
  have x2 : Y3.cell? ⟨g3, 2, none⟩ = some (.int .i64 s) := later_of hE (by go_simp)
  have x3 : Y3.cell? ⟨g3, 3, none⟩ = some (.int .i64 n) := later_of hE (by go_simp)
  have x4 : Y3.cell? ⟨g3, 4, none⟩ = some (.int .i64 wo) := later_of hE (by go_simp)
  clear z0 fz0 z1 fz1 z2 fz2 z3 fz3 z4 fz4 hE hx
  have hzY3 : V3.heap.size ≤ Y3.heap.size := hz
  have hgg3 : V3.heap.size ≤ g3 := hg
  have hbn : Below w.heap.size w Y3 := bthen hb0 hB
  clear hb0
  have hb0 := hbn
  clear hbn hc hf hB hz hg
  go_wp2_with fail
  refine (via (w0 := Y3) (by go_grown) (c_isCount i d s n wo _)).mono ?_
  rw [HBB.out]
  rintro e W4 ⟨rfl, hc, hf, hz, hB⟩
  have fp0n : W4.frozen? ⟨w.heap.size, 0, none⟩ = false := (hf _ _ (cell_lt p0)).trans fp0
  clear fp0
  have fp0 := fp0n
  clear fp0n
  have p0n : W4.cell? ⟨w.heap.size, 0, none⟩ = some (.int .i64 0) := (hc _ _ (cell_lt p0)).trans p0
  clear p0
  have p0 := p0n
  clear p0n
  have fp1n : W4.frozen? ⟨w.heap.size, 1, none⟩ = false := (hf _ _ (cell_lt p1)).trans fp1
  clear fp1
  have fp1 := fp1n
  clear fp1n
  have p1n : W4.cell? ⟨w.heap.size, 1, none⟩ = some (.int .i64 0) := (hc _ _ (cell_lt p1)).trans p1
  clear p1
  have p1 := p1n
  clear p1n
  have fp2n : W4.frozen? ⟨w.heap.size, 2, none⟩ = false := (hf _ _ (cell_lt p2)).trans fp2
  clear fp2
  have fp2 := fp2n
  clear fp2n
  have p2n : W4.cell? ⟨w.heap.size, 2, none⟩ = some (.int .i64 0) := (hc _ _ (cell_lt p2)).trans p2
  clear p2
  have p2 := p2n
  clear p2n
  have fp3n : W4.frozen? ⟨w.heap.size, 3, none⟩ = false := (hf _ _ (cell_lt p3)).trans fp3
  clear fp3
  have fp3 := fp3n
  clear fp3n
  have p3n : W4.cell? ⟨w.heap.size, 3, none⟩ = some (.int .i64 0) := (hc _ _ (cell_lt p3)).trans p3
  clear p3
  have p3 := p3n
  clear p3n
  have fp4n : W4.frozen? ⟨w.heap.size, 4, none⟩ = false := (hf _ _ (cell_lt p4)).trans fp4
  clear fp4
  have fp4 := fp4n
  clear fp4n
  have p4n : W4.cell? ⟨w.heap.size, 4, none⟩ = some (.int .i64 0) := (hc _ _ (cell_lt p4)).trans p4
  clear p4
  have p4 := p4n
  clear p4n
  have y0n : W4.cell? ⟨g, o, none⟩ = some (.int .i64 i) := (hc _ _ (cell_lt y0)).trans y0
  clear y0
  have y0 := y0n
  clear y0n
  have y1n : W4.cell? ⟨g, o + 1, none⟩ = some (.int .i64 d) := (hc _ _ (cell_lt y1)).trans y1
  clear y1
  have y1 := y1n
  clear y1n
  have y2n : W4.cell? ⟨g, o + 2, none⟩ = some (.int .i64 s) := (hc _ _ (cell_lt y2)).trans y2
  clear y2
  have y2 := y2n
  clear y2n
  have y3n : W4.cell? ⟨g, o + 3, none⟩ = some (.int .i64 n) := (hc _ _ (cell_lt y3)).trans y3
  clear y3
  have y3 := y3n
  clear y3n
  have y4n : W4.cell? ⟨g, o + 4, none⟩ = some (.int .i64 wo) := (hc _ _ (cell_lt y4)).trans y4
  clear y4
  have y4 := y4n
  clear y4n
  have x0n : W4.cell? ⟨g3, 0, none⟩ = some (.int .i64 i) := (hc _ _ (cell_lt x0)).trans x0
  clear x0
  have x0 := x0n
  clear x0n
  have x1n : W4.cell? ⟨g3, 1, none⟩ = some (.int .i64 d) := (hc _ _ (cell_lt x1)).trans x1
  clear x1
  have x1 := x1n
  clear x1n
  have x2n : W4.cell? ⟨g3, 2, none⟩ = some (.int .i64 s) := (hc _ _ (cell_lt x2)).trans x2
  clear x2
  have x2 := x2n
  clear x2n
  have x3n : W4.cell? ⟨g3, 3, none⟩ = some (.int .i64 n) := (hc _ _ (cell_lt x3)).trans x3
  clear x3
  have x3 := x3n
  clear x3n
  have x4n : W4.cell? ⟨g3, 4, none⟩ = some (.int .i64 wo) := (hc _ _ (cell_lt x4)).trans x4
  clear x4
  have x4 := x4n
  clear x4n
  have hbn : Below w.heap.size w W4 := bthen hb0 hB
  clear hb0
  have hb0 := hbn
  clear hbn
  have hzW4 : Y3.heap.size ≤ W4.heap.size := hz
  clear hc hf hB hz
  go_wp2_with fail
  refine bodyPost_ret (v := .tuple #[.agg #[.int .i64 i, .int .i64 d, .int .i64 s, .int .i64 n, .int .i64 wo], .int .i64 0]) (by simp [results, Tryz.results8, go_sem, p0, p1, p2, p3, p4]) rfl ⟨rfl, by have hbz := hb0.size; go_grown⟩

theorem c_Read (str : ByteArray) (w : World) (hL : LibW w) (hs : str.size ≤ 1000) :
    Calls Tryz.prog 8 #[.string str] w fun e w' => e = .returned (.tuple #[(readC str.data.toList).1.v, .int .i64 (readC str.data.toList).2]) ∧ Below w.heap.size w w' := by
  cases hr : readsN str.data.toList 5 with
  | none => rw [readC_none hr]; exact c_Read_none str w hL hs hr
  | some n =>
    have hl := len5 (readsN_some hr).1
    cases hb : ctB (ctOf n) with
    | false => rw [readC_bad hr hb]; exact c_Read_bad str (it n 0) (it n 1) (it n 2) (it n 3) (it n 4) hb w hL hs (by rw [hr]; exact congrArg some hl)
    | true => rw [readC_ok hr hb]; exact c_Read_ok str (it n 0) (it n 1) (it n 2) (it n 3) (it n 4) hb w hL hs (by rw [hr]; exact congrArg some hl)

set_option maxRecDepth 100000 in
set_option maxHeartbeats 4000000 in
theorem c_ReadRecount_none (str : ByteArray)  (w : World) (hL : LibW w) (hs : str.size ≤ 1000) (hr : readsN str.data.toList 6 = none) :
    Calls Tryz.prog 12 #[.string str] w fun e w' => e = .returned (.tuple #[.agg #[.int .i64 0, .int .i64 0, .int .i64 0, .int .i64 0, .int .i64 0, .int .i64 0], .int .i64 4]) ∧ Below w.heap.size w w' := by
  have HW := Lib.hid hL
  have hC := fun W (h : LibW W) => c_read str 6 W h hs
  rw [hr] at hC
  have HC := Lib.hid hC
  clear hL hr hC hs
  go_enter Tryz.func12, Tryz.ntmps12
  go_upto_region 1 with (fail)
  go_name_world W1 hW1
  have hbn : Below w.heap.size w W1 := by subst hW1; go_grown
  have hb0 := hbn
  clear hbn
  have p0n : W1.cell? ⟨w.heap.size, 0, none⟩ = some (.int .i64 0) := by subst hW1; go_simp
  have fp0n : W1.frozen? ⟨w.heap.size, 0, none⟩ = false := by subst hW1; go_simp
  have p1n : W1.cell? ⟨w.heap.size, 1, none⟩ = some (.int .i64 0) := by subst hW1; go_simp
  have fp1n : W1.frozen? ⟨w.heap.size, 1, none⟩ = false := by subst hW1; go_simp
  have p2n : W1.cell? ⟨w.heap.size, 2, none⟩ = some (.int .i64 0) := by subst hW1; go_simp
  have fp2n : W1.frozen? ⟨w.heap.size, 2, none⟩ = false := by subst hW1; go_simp
  have p3n : W1.cell? ⟨w.heap.size, 3, none⟩ = some (.int .i64 0) := by subst hW1; go_simp
  have fp3n : W1.frozen? ⟨w.heap.size, 3, none⟩ = false := by subst hW1; go_simp
  have p4n : W1.cell? ⟨w.heap.size, 4, none⟩ = some (.int .i64 0) := by subst hW1; go_simp
  have fp4n : W1.frozen? ⟨w.heap.size, 4, none⟩ = false := by subst hW1; go_simp
  have p5n : W1.cell? ⟨w.heap.size, 5, none⟩ = some (.int .i64 0) := by subst hW1; go_simp
  have fp5n : W1.frozen? ⟨w.heap.size, 5, none⟩ = false := by subst hW1; go_simp
  clear hW1 
  have p0 := p0n
  have fp0 := fp0n
  have p1 := p1n
  have fp1 := fp1n
  have p2 := p2n
  have fp2 := fp2n
  have p3 := p3n
  have fp3 := fp3n
  have p4 := p4n
  have fp4 := fp4n
  have p5 := p5n
  have fp5 := fp5n
  clear p0n p1n p2n p3n p4n p5n fp0n fp1n fp2n fp3n fp4n fp5n
  go_wp2_with fail
  refine (HC.out _ (HW.out.later hb0)).mono ?_
  rintro e W2 ⟨⟨v, rfl⟩, hB⟩
  have hc := (bcell hB).1
  have hf := (bcell hB).2
  have hz := hB.size
  have fp0n : W2.frozen? ⟨w.heap.size, 0, none⟩ = false := (hf _ _ (cell_lt p0)).trans fp0
  clear fp0
  have fp0 := fp0n
  clear fp0n
  have p0n : W2.cell? ⟨w.heap.size, 0, none⟩ = some (.int .i64 0) := (hc _ _ (cell_lt p0)).trans p0
  clear p0
  have p0 := p0n
  clear p0n
  have fp1n : W2.frozen? ⟨w.heap.size, 1, none⟩ = false := (hf _ _ (cell_lt p1)).trans fp1
  clear fp1
  have fp1 := fp1n
  clear fp1n
  have p1n : W2.cell? ⟨w.heap.size, 1, none⟩ = some (.int .i64 0) := (hc _ _ (cell_lt p1)).trans p1
  clear p1
  have p1 := p1n
  clear p1n
  have fp2n : W2.frozen? ⟨w.heap.size, 2, none⟩ = false := (hf _ _ (cell_lt p2)).trans fp2
  clear fp2
  have fp2 := fp2n
  clear fp2n
  have p2n : W2.cell? ⟨w.heap.size, 2, none⟩ = some (.int .i64 0) := (hc _ _ (cell_lt p2)).trans p2
  clear p2
  have p2 := p2n
  clear p2n
  have fp3n : W2.frozen? ⟨w.heap.size, 3, none⟩ = false := (hf _ _ (cell_lt p3)).trans fp3
  clear fp3
  have fp3 := fp3n
  clear fp3n
  have p3n : W2.cell? ⟨w.heap.size, 3, none⟩ = some (.int .i64 0) := (hc _ _ (cell_lt p3)).trans p3
  clear p3
  have p3 := p3n
  clear p3n
  have fp4n : W2.frozen? ⟨w.heap.size, 4, none⟩ = false := (hf _ _ (cell_lt p4)).trans fp4
  clear fp4
  have fp4 := fp4n
  clear fp4n
  have p4n : W2.cell? ⟨w.heap.size, 4, none⟩ = some (.int .i64 0) := (hc _ _ (cell_lt p4)).trans p4
  clear p4
  have p4 := p4n
  clear p4n
  have fp5n : W2.frozen? ⟨w.heap.size, 5, none⟩ = false := (hf _ _ (cell_lt p5)).trans fp5
  clear fp5
  have fp5 := fp5n
  clear fp5n
  have p5n : W2.cell? ⟨w.heap.size, 5, none⟩ = some (.int .i64 0) := (hc _ _ (cell_lt p5)).trans p5
  clear p5
  have p5 := p5n
  clear p5n
  have hbn : Below w.heap.size w W2 := bthen hb0 hB
  clear hb0
  have hb0 := hbn
  clear hbn
  have hzW2 : W1.heap.size ≤ W2.heap.size := hz
  clear hc hf hB hz
  go_wp2_with fail
  refine bodyPost_ret (v := .tuple #[.agg #[.int .i64 0, .int .i64 0, .int .i64 0, .int .i64 0, .int .i64 0, .int .i64 0], .int .i64 4]) (by simp [results, Tryz.results12, go_sem, p0, p1, p2, p3, p4, p5]) rfl ⟨rfl, by have hbz := hb0.size; go_grown⟩

set_option maxRecDepth 100000 in
set_option maxHeartbeats 4000000 in
theorem c_ReadRecount_bad (str : ByteArray) (i k d s t n : Int) (hb : recountB i d k s t n = false) (w : World) (hL : LibW w) (hs : str.size ≤ 1000) (hr : readsN str.data.toList 6 = some [i, k, d, s, t, n]) :
    Calls Tryz.prog 12 #[.string str] w fun e w' => e = .returned (.tuple #[.agg #[.int .i64 0, .int .i64 0, .int .i64 0, .int .i64 0, .int .i64 0, .int .i64 0], .int .i64 4]) ∧ Below w.heap.size w w' := by
  have HW := Lib.hid hL
  have hC := fun W (h : LibW W) => c_read str 6 W h hs
  rw [hr] at hC
  have HC := Lib.hid hC
  clear hL hr hC hs
  have HBB := Lib.hid hb
  clear hb
  go_enter Tryz.func12, Tryz.ntmps12
  go_upto_region 1 with (fail)
  go_name_world W1 hW1
  have hbn : Below w.heap.size w W1 := by subst hW1; go_grown
  have hb0 := hbn
  clear hbn
  have p0n : W1.cell? ⟨w.heap.size, 0, none⟩ = some (.int .i64 0) := by subst hW1; go_simp
  have fp0n : W1.frozen? ⟨w.heap.size, 0, none⟩ = false := by subst hW1; go_simp
  have p1n : W1.cell? ⟨w.heap.size, 1, none⟩ = some (.int .i64 0) := by subst hW1; go_simp
  have fp1n : W1.frozen? ⟨w.heap.size, 1, none⟩ = false := by subst hW1; go_simp
  have p2n : W1.cell? ⟨w.heap.size, 2, none⟩ = some (.int .i64 0) := by subst hW1; go_simp
  have fp2n : W1.frozen? ⟨w.heap.size, 2, none⟩ = false := by subst hW1; go_simp
  have p3n : W1.cell? ⟨w.heap.size, 3, none⟩ = some (.int .i64 0) := by subst hW1; go_simp
  have fp3n : W1.frozen? ⟨w.heap.size, 3, none⟩ = false := by subst hW1; go_simp
  have p4n : W1.cell? ⟨w.heap.size, 4, none⟩ = some (.int .i64 0) := by subst hW1; go_simp
  have fp4n : W1.frozen? ⟨w.heap.size, 4, none⟩ = false := by subst hW1; go_simp
  have p5n : W1.cell? ⟨w.heap.size, 5, none⟩ = some (.int .i64 0) := by subst hW1; go_simp
  have fp5n : W1.frozen? ⟨w.heap.size, 5, none⟩ = false := by subst hW1; go_simp
  clear hW1 
  have p0 := p0n
  have fp0 := fp0n
  have p1 := p1n
  have fp1 := fp1n
  have p2 := p2n
  have fp2 := fp2n
  have p3 := p3n
  have fp3 := fp3n
  have p4 := p4n
  have fp4 := fp4n
  have p5 := p5n
  have fp5 := fp5n
  clear p0n p1n p2n p3n p4n p5n fp0n fp1n fp2n fp3n fp4n fp5n
  go_wp2_with fail
  refine (HC.out _ (HW.out.later hb0)).mono ?_
  rintro e W2 ⟨⟨b, c, rfl, hi⟩, hB⟩
  have hc := (bcell hB).1
  have hf := (bcell hB).2
  have hz := hB.size
  have fp0n : W2.frozen? ⟨w.heap.size, 0, none⟩ = false := (hf _ _ (cell_lt p0)).trans fp0
  clear fp0
  have fp0 := fp0n
  clear fp0n
  have p0n : W2.cell? ⟨w.heap.size, 0, none⟩ = some (.int .i64 0) := (hc _ _ (cell_lt p0)).trans p0
  clear p0
  have p0 := p0n
  clear p0n
  have fp1n : W2.frozen? ⟨w.heap.size, 1, none⟩ = false := (hf _ _ (cell_lt p1)).trans fp1
  clear fp1
  have fp1 := fp1n
  clear fp1n
  have p1n : W2.cell? ⟨w.heap.size, 1, none⟩ = some (.int .i64 0) := (hc _ _ (cell_lt p1)).trans p1
  clear p1
  have p1 := p1n
  clear p1n
  have fp2n : W2.frozen? ⟨w.heap.size, 2, none⟩ = false := (hf _ _ (cell_lt p2)).trans fp2
  clear fp2
  have fp2 := fp2n
  clear fp2n
  have p2n : W2.cell? ⟨w.heap.size, 2, none⟩ = some (.int .i64 0) := (hc _ _ (cell_lt p2)).trans p2
  clear p2
  have p2 := p2n
  clear p2n
  have fp3n : W2.frozen? ⟨w.heap.size, 3, none⟩ = false := (hf _ _ (cell_lt p3)).trans fp3
  clear fp3
  have fp3 := fp3n
  clear fp3n
  have p3n : W2.cell? ⟨w.heap.size, 3, none⟩ = some (.int .i64 0) := (hc _ _ (cell_lt p3)).trans p3
  clear p3
  have p3 := p3n
  clear p3n
  have fp4n : W2.frozen? ⟨w.heap.size, 4, none⟩ = false := (hf _ _ (cell_lt p4)).trans fp4
  clear fp4
  have fp4 := fp4n
  clear fp4n
  have p4n : W2.cell? ⟨w.heap.size, 4, none⟩ = some (.int .i64 0) := (hc _ _ (cell_lt p4)).trans p4
  clear p4
  have p4 := p4n
  clear p4n
  have fp5n : W2.frozen? ⟨w.heap.size, 5, none⟩ = false := (hf _ _ (cell_lt p5)).trans fp5
  clear fp5
  have fp5 := fp5n
  clear fp5n
  have p5n : W2.cell? ⟨w.heap.size, 5, none⟩ = some (.int .i64 0) := (hc _ _ (cell_lt p5)).trans p5
  clear p5
  have p5 := p5n
  clear p5n
  have hbn : Below w.heap.size w W2 := bthen hb0 hB
  clear hb0
  have hb0 := hbn
  clear hbn
  have hzW2 : W1.heap.size ≤ W2.heap.size := hz
  clear hc hf hB hz
  obtain ⟨g, o, rfl, hat⟩ := ints_at hi (by simp)
  have y0 := hat 0 (by simp)
  rw [Nat.add_zero] at y0
  simp only [it, List.getElem?_cons_zero, Option.getD_some] at y0
  have y1 := hat 1 (by simp)
  simp only [it, List.getElem?_cons_zero, List.getElem?_cons_succ, Option.getD_some] at y1
  have y2 := hat 2 (by simp)
  simp only [it, List.getElem?_cons_zero, List.getElem?_cons_succ, Option.getD_some] at y2
  have y3 := hat 3 (by simp)
  simp only [it, List.getElem?_cons_zero, List.getElem?_cons_succ, Option.getD_some] at y3
  have y4 := hat 4 (by simp)
  simp only [it, List.getElem?_cons_zero, List.getElem?_cons_succ, Option.getD_some] at y4
  have y5 := hat 5 (by simp)
  simp only [it, List.getElem?_cons_zero, List.getElem?_cons_succ, Option.getD_some] at y5
  clear hat hi
  go_upto_region 4 with (fail)
  refine wp_region_alloc 19 W2 (.cells #[.int .i64 0, .int .i64 0, .int .i64 0, .int .i64 0, .int .i64 0, .int .i64 0] 25) (by rfl) (by rfl) ⟨by rfl, fun _ _ => by simp [go_sem]⟩ ⟨by rfl, by rfl, _, _, _, by rfl⟩ (by kernel_rfl) (Below.refl _ _) ?_
  intro V3 hB
  have hc := (bcell hB).1
  have hf := (bcell hB).2
  have hz := hB.size
  have fp0n : V3.frozen? ⟨w.heap.size, 0, none⟩ = false := (hf _ _ (cell_lt p0)).trans fp0
  clear fp0
  have fp0 := fp0n
  clear fp0n
  have p0n : V3.cell? ⟨w.heap.size, 0, none⟩ = some (.int .i64 0) := (hc _ _ (cell_lt p0)).trans p0
  clear p0
  have p0 := p0n
  clear p0n
  have fp1n : V3.frozen? ⟨w.heap.size, 1, none⟩ = false := (hf _ _ (cell_lt p1)).trans fp1
  clear fp1
  have fp1 := fp1n
  clear fp1n
  have p1n : V3.cell? ⟨w.heap.size, 1, none⟩ = some (.int .i64 0) := (hc _ _ (cell_lt p1)).trans p1
  clear p1
  have p1 := p1n
  clear p1n
  have fp2n : V3.frozen? ⟨w.heap.size, 2, none⟩ = false := (hf _ _ (cell_lt p2)).trans fp2
  clear fp2
  have fp2 := fp2n
  clear fp2n
  have p2n : V3.cell? ⟨w.heap.size, 2, none⟩ = some (.int .i64 0) := (hc _ _ (cell_lt p2)).trans p2
  clear p2
  have p2 := p2n
  clear p2n
  have fp3n : V3.frozen? ⟨w.heap.size, 3, none⟩ = false := (hf _ _ (cell_lt p3)).trans fp3
  clear fp3
  have fp3 := fp3n
  clear fp3n
  have p3n : V3.cell? ⟨w.heap.size, 3, none⟩ = some (.int .i64 0) := (hc _ _ (cell_lt p3)).trans p3
  clear p3
  have p3 := p3n
  clear p3n
  have fp4n : V3.frozen? ⟨w.heap.size, 4, none⟩ = false := (hf _ _ (cell_lt p4)).trans fp4
  clear fp4
  have fp4 := fp4n
  clear fp4n
  have p4n : V3.cell? ⟨w.heap.size, 4, none⟩ = some (.int .i64 0) := (hc _ _ (cell_lt p4)).trans p4
  clear p4
  have p4 := p4n
  clear p4n
  have fp5n : V3.frozen? ⟨w.heap.size, 5, none⟩ = false := (hf _ _ (cell_lt p5)).trans fp5
  clear fp5
  have fp5 := fp5n
  clear fp5n
  have p5n : V3.cell? ⟨w.heap.size, 5, none⟩ = some (.int .i64 0) := (hc _ _ (cell_lt p5)).trans p5
  clear p5
  have p5 := p5n
  clear p5n
  have y0n : V3.cell? ⟨g, o, none⟩ = some (.int .i64 i) := (hc _ _ (cell_lt y0)).trans y0
  clear y0
  have y0 := y0n
  clear y0n
  have y1n : V3.cell? ⟨g, o + 1, none⟩ = some (.int .i64 k) := (hc _ _ (cell_lt y1)).trans y1
  clear y1
  have y1 := y1n
  clear y1n
  have y2n : V3.cell? ⟨g, o + 2, none⟩ = some (.int .i64 d) := (hc _ _ (cell_lt y2)).trans y2
  clear y2
  have y2 := y2n
  clear y2n
  have y3n : V3.cell? ⟨g, o + 3, none⟩ = some (.int .i64 s) := (hc _ _ (cell_lt y3)).trans y3
  clear y3
  have y3 := y3n
  clear y3n
  have y4n : V3.cell? ⟨g, o + 4, none⟩ = some (.int .i64 t) := (hc _ _ (cell_lt y4)).trans y4
  clear y4
  have y4 := y4n
  clear y4n
  have y5n : V3.cell? ⟨g, o + 5, none⟩ = some (.int .i64 n) := (hc _ _ (cell_lt y5)).trans y5
  clear y5
  have y5 := y5n
  clear y5n
  have hbn : Below w.heap.size w V3 := bthen hb0 hB
  clear hb0
  have hb0 := hbn
  clear hbn
  have hzV3 : W2.heap.size ≤ V3.heap.size := hz
  clear hc hf hB hz
  simp only [List.take_succ_cons, List.take_zero, List.drop_succ_cons, List.drop_zero]
  have kp0 := later_cell p0
  have kp1 := later_cell p1
  have kp2 := later_cell p2
  have kp3 := later_cell p3
  have kp4 := later_cell p4
  have kp5 := later_cell p5
  have ky0 := later_cell y0
  have ky1 := later_cell y1
  have ky2 := later_cell y2
  have ky3 := later_cell y3
  have ky4 := later_cell y4
  have ky5 := later_cell y5
  repeat (go_big_quiet_step (fail))
  refine wpQuiet_nil ?_
  clear kp0 kp1 kp2 kp3 kp4 kp5 ky0 ky1 ky2 ky3 ky4 ky5
  intro U3 X3 hA hB2
  have hx : Below V3.heap.size V3 X3 := bthen (hA.alloc hA.size _) hB2
  have hg : V3.heap.size ≤ U3.heap.size := hA.size
  have z0 : X3.cell? ⟨U3.heap.size, 0, none⟩ = some (.int .i64 0) := ((bcell hB2).1 _ _ (by simp)).trans (by go_simp)
  have fz0 : X3.frozen? ⟨U3.heap.size, 0, none⟩ = false := ((bcell hB2).2 _ _ (by simp)).trans (by go_simp)
  have z1 : X3.cell? ⟨U3.heap.size, 1, none⟩ = some (.int .i64 0) := ((bcell hB2).1 _ _ (by simp)).trans (by go_simp)
  have fz1 : X3.frozen? ⟨U3.heap.size, 1, none⟩ = false := ((bcell hB2).2 _ _ (by simp)).trans (by go_simp)
  have z2 : X3.cell? ⟨U3.heap.size, 2, none⟩ = some (.int .i64 0) := ((bcell hB2).1 _ _ (by simp)).trans (by go_simp)
  have fz2 : X3.frozen? ⟨U3.heap.size, 2, none⟩ = false := ((bcell hB2).2 _ _ (by simp)).trans (by go_simp)
  have z3 : X3.cell? ⟨U3.heap.size, 3, none⟩ = some (.int .i64 0) := ((bcell hB2).1 _ _ (by simp)).trans (by go_simp)
  have fz3 : X3.frozen? ⟨U3.heap.size, 3, none⟩ = false := ((bcell hB2).2 _ _ (by simp)).trans (by go_simp)
  have z4 : X3.cell? ⟨U3.heap.size, 4, none⟩ = some (.int .i64 0) := ((bcell hB2).1 _ _ (by simp)).trans (by go_simp)
  have fz4 : X3.frozen? ⟨U3.heap.size, 4, none⟩ = false := ((bcell hB2).2 _ _ (by simp)).trans (by go_simp)
  have z5 : X3.cell? ⟨U3.heap.size, 5, none⟩ = some (.int .i64 0) := ((bcell hB2).1 _ _ (by simp)).trans (by go_simp)
  have fz5 : X3.frozen? ⟨U3.heap.size, 5, none⟩ = false := ((bcell hB2).2 _ _ (by simp)).trans (by go_simp)
  clear hA hB2
  obtain ⟨g3, hgg⟩ : ∃ g, U3.heap.size = g := ⟨_, rfl⟩
  rw [hgg] at hg z0 fz0 z1 fz1 z2 fz2 z3 fz3 z4 fz4 z5 fz5
  rw [hgg]
  clear hgg U3
  go_wp2
  refine ⟨rfl, by go_grown, ?_⟩
  intro Y3 hB hE
  have hc := (bcell hB).1
  have hf := (bcell hB).2
  have hz := hB.size
  have fp0n : Y3.frozen? ⟨w.heap.size, 0, none⟩ = false := (hf _ _ (cell_lt p0)).trans fp0
  clear fp0
  have fp0 := fp0n
  clear fp0n
  have p0n : Y3.cell? ⟨w.heap.size, 0, none⟩ = some (.int .i64 0) := (hc _ _ (cell_lt p0)).trans p0
  clear p0
  have p0 := p0n
  clear p0n
  have fp1n : Y3.frozen? ⟨w.heap.size, 1, none⟩ = false := (hf _ _ (cell_lt p1)).trans fp1
  clear fp1
  have fp1 := fp1n
  clear fp1n
  have p1n : Y3.cell? ⟨w.heap.size, 1, none⟩ = some (.int .i64 0) := (hc _ _ (cell_lt p1)).trans p1
  clear p1
  have p1 := p1n
  clear p1n
  have fp2n : Y3.frozen? ⟨w.heap.size, 2, none⟩ = false := (hf _ _ (cell_lt p2)).trans fp2
  clear fp2
  have fp2 := fp2n
  clear fp2n
  have p2n : Y3.cell? ⟨w.heap.size, 2, none⟩ = some (.int .i64 0) := (hc _ _ (cell_lt p2)).trans p2
  clear p2
  have p2 := p2n
  clear p2n
  have fp3n : Y3.frozen? ⟨w.heap.size, 3, none⟩ = false := (hf _ _ (cell_lt p3)).trans fp3
  clear fp3
  have fp3 := fp3n
  clear fp3n
  have p3n : Y3.cell? ⟨w.heap.size, 3, none⟩ = some (.int .i64 0) := (hc _ _ (cell_lt p3)).trans p3
  clear p3
  have p3 := p3n
  clear p3n
  have fp4n : Y3.frozen? ⟨w.heap.size, 4, none⟩ = false := (hf _ _ (cell_lt p4)).trans fp4
  clear fp4
  have fp4 := fp4n
  clear fp4n
  have p4n : Y3.cell? ⟨w.heap.size, 4, none⟩ = some (.int .i64 0) := (hc _ _ (cell_lt p4)).trans p4
  clear p4
  have p4 := p4n
  clear p4n
  have fp5n : Y3.frozen? ⟨w.heap.size, 5, none⟩ = false := (hf _ _ (cell_lt p5)).trans fp5
  clear fp5
  have fp5 := fp5n
  clear fp5n
  have p5n : Y3.cell? ⟨w.heap.size, 5, none⟩ = some (.int .i64 0) := (hc _ _ (cell_lt p5)).trans p5
  clear p5
  have p5 := p5n
  clear p5n
  have y0n : Y3.cell? ⟨g, o, none⟩ = some (.int .i64 i) := (hc _ _ (cell_lt y0)).trans y0
  clear y0
  have y0 := y0n
  clear y0n
  have y1n : Y3.cell? ⟨g, o + 1, none⟩ = some (.int .i64 k) := (hc _ _ (cell_lt y1)).trans y1
  clear y1
  have y1 := y1n
  clear y1n
  have y2n : Y3.cell? ⟨g, o + 2, none⟩ = some (.int .i64 d) := (hc _ _ (cell_lt y2)).trans y2
  clear y2
  have y2 := y2n
  clear y2n
  have y3n : Y3.cell? ⟨g, o + 3, none⟩ = some (.int .i64 s) := (hc _ _ (cell_lt y3)).trans y3
  clear y3
  have y3 := y3n
  clear y3n
  have y4n : Y3.cell? ⟨g, o + 4, none⟩ = some (.int .i64 t) := (hc _ _ (cell_lt y4)).trans y4
  clear y4
  have y4 := y4n
  clear y4n
  have y5n : Y3.cell? ⟨g, o + 5, none⟩ = some (.int .i64 n) := (hc _ _ (cell_lt y5)).trans y5
  clear y5
  have y5 := y5n
  clear y5n
  have x0 : Y3.cell? ⟨g3, 0, none⟩ = some (.int .i64 i) := later_of hE (by go_simp)
  have x1 : Y3.cell? ⟨g3, 1, none⟩ = some (.int .i64 d) := later_of hE (by go_simp)
  have x2 : Y3.cell? ⟨g3, 2, none⟩ = some (.int .i64 k) := later_of hE (by go_simp)
  have x3 : Y3.cell? ⟨g3, 3, none⟩ = some (.int .i64 s) := later_of hE (by go_simp)
  have x4 : Y3.cell? ⟨g3, 4, none⟩ = some (.int .i64 t) := later_of hE (by go_simp)
  have x5 : Y3.cell? ⟨g3, 5, none⟩ = some (.int .i64 n) := later_of hE (by go_simp)
  clear z0 fz0 z1 fz1 z2 fz2 z3 fz3 z4 fz4 z5 fz5 hE hx
  have hzY3 : V3.heap.size ≤ Y3.heap.size := hz
  have hgg3 : V3.heap.size ≤ g3 := hg
  have hbn : Below w.heap.size w Y3 := bthen hb0 hB
  clear hb0
  have hb0 := hbn
  clear hbn hc hf hB hz hg
  go_wp2_with fail
  refine (via (w0 := Y3) (by go_grown) (c_isRecount i d k s t n _)).mono ?_
  rw [HBB.out]
  rintro e W4 ⟨rfl, hc, hf, hz, hB⟩
  have fp0n : W4.frozen? ⟨w.heap.size, 0, none⟩ = false := (hf _ _ (cell_lt p0)).trans fp0
  clear fp0
  have fp0 := fp0n
  clear fp0n
  have p0n : W4.cell? ⟨w.heap.size, 0, none⟩ = some (.int .i64 0) := (hc _ _ (cell_lt p0)).trans p0
  clear p0
  have p0 := p0n
  clear p0n
  have fp1n : W4.frozen? ⟨w.heap.size, 1, none⟩ = false := (hf _ _ (cell_lt p1)).trans fp1
  clear fp1
  have fp1 := fp1n
  clear fp1n
  have p1n : W4.cell? ⟨w.heap.size, 1, none⟩ = some (.int .i64 0) := (hc _ _ (cell_lt p1)).trans p1
  clear p1
  have p1 := p1n
  clear p1n
  have fp2n : W4.frozen? ⟨w.heap.size, 2, none⟩ = false := (hf _ _ (cell_lt p2)).trans fp2
  clear fp2
  have fp2 := fp2n
  clear fp2n
  have p2n : W4.cell? ⟨w.heap.size, 2, none⟩ = some (.int .i64 0) := (hc _ _ (cell_lt p2)).trans p2
  clear p2
  have p2 := p2n
  clear p2n
  have fp3n : W4.frozen? ⟨w.heap.size, 3, none⟩ = false := (hf _ _ (cell_lt p3)).trans fp3
  clear fp3
  have fp3 := fp3n
  clear fp3n
  have p3n : W4.cell? ⟨w.heap.size, 3, none⟩ = some (.int .i64 0) := (hc _ _ (cell_lt p3)).trans p3
  clear p3
  have p3 := p3n
  clear p3n
  have fp4n : W4.frozen? ⟨w.heap.size, 4, none⟩ = false := (hf _ _ (cell_lt p4)).trans fp4
  clear fp4
  have fp4 := fp4n
  clear fp4n
  have p4n : W4.cell? ⟨w.heap.size, 4, none⟩ = some (.int .i64 0) := (hc _ _ (cell_lt p4)).trans p4
  clear p4
  have p4 := p4n
  clear p4n
  have fp5n : W4.frozen? ⟨w.heap.size, 5, none⟩ = false := (hf _ _ (cell_lt p5)).trans fp5
  clear fp5
  have fp5 := fp5n
  clear fp5n
  have p5n : W4.cell? ⟨w.heap.size, 5, none⟩ = some (.int .i64 0) := (hc _ _ (cell_lt p5)).trans p5
  clear p5
  have p5 := p5n
  clear p5n
  have y0n : W4.cell? ⟨g, o, none⟩ = some (.int .i64 i) := (hc _ _ (cell_lt y0)).trans y0
  clear y0
  have y0 := y0n
  clear y0n
  have y1n : W4.cell? ⟨g, o + 1, none⟩ = some (.int .i64 k) := (hc _ _ (cell_lt y1)).trans y1
  clear y1
  have y1 := y1n
  clear y1n
  have y2n : W4.cell? ⟨g, o + 2, none⟩ = some (.int .i64 d) := (hc _ _ (cell_lt y2)).trans y2
  clear y2
  have y2 := y2n
  clear y2n
  have y3n : W4.cell? ⟨g, o + 3, none⟩ = some (.int .i64 s) := (hc _ _ (cell_lt y3)).trans y3
  clear y3
  have y3 := y3n
  clear y3n
  have y4n : W4.cell? ⟨g, o + 4, none⟩ = some (.int .i64 t) := (hc _ _ (cell_lt y4)).trans y4
  clear y4
  have y4 := y4n
  clear y4n
  have y5n : W4.cell? ⟨g, o + 5, none⟩ = some (.int .i64 n) := (hc _ _ (cell_lt y5)).trans y5
  clear y5
  have y5 := y5n
  clear y5n
  have x0n : W4.cell? ⟨g3, 0, none⟩ = some (.int .i64 i) := (hc _ _ (cell_lt x0)).trans x0
  clear x0
  have x0 := x0n
  clear x0n
  have x1n : W4.cell? ⟨g3, 1, none⟩ = some (.int .i64 d) := (hc _ _ (cell_lt x1)).trans x1
  clear x1
  have x1 := x1n
  clear x1n
  have x2n : W4.cell? ⟨g3, 2, none⟩ = some (.int .i64 k) := (hc _ _ (cell_lt x2)).trans x2
  clear x2
  have x2 := x2n
  clear x2n
  have x3n : W4.cell? ⟨g3, 3, none⟩ = some (.int .i64 s) := (hc _ _ (cell_lt x3)).trans x3
  clear x3
  have x3 := x3n
  clear x3n
  have x4n : W4.cell? ⟨g3, 4, none⟩ = some (.int .i64 t) := (hc _ _ (cell_lt x4)).trans x4
  clear x4
  have x4 := x4n
  clear x4n
  have x5n : W4.cell? ⟨g3, 5, none⟩ = some (.int .i64 n) := (hc _ _ (cell_lt x5)).trans x5
  clear x5
  have x5 := x5n
  clear x5n
  have hbn : Below w.heap.size w W4 := bthen hb0 hB
  clear hb0
  have hb0 := hbn
  clear hbn
  have hzW4 : Y3.heap.size ≤ W4.heap.size := hz
  clear hc hf hB hz
  go_wp2_with fail
  refine bodyPost_ret (v := .tuple #[.agg #[.int .i64 0, .int .i64 0, .int .i64 0, .int .i64 0, .int .i64 0, .int .i64 0], .int .i64 4]) (by simp [results, Tryz.results12, go_sem, p0, p1, p2, p3, p4, p5]) rfl ⟨rfl, by have hbz := hb0.size; go_grown⟩

set_option maxRecDepth 100000 in
set_option maxHeartbeats 4000000 in
theorem c_ReadRecount_ok (str : ByteArray) (i k d s t n : Int) (hb : recountB i d k s t n = true) (w : World) (hL : LibW w) (hs : str.size ≤ 1000) (hr : readsN str.data.toList 6 = some [i, k, d, s, t, n]) :
    Calls Tryz.prog 12 #[.string str] w fun e w' => e = .returned (.tuple #[.agg #[.int .i64 i, .int .i64 d, .int .i64 k, .int .i64 s, .int .i64 t, .int .i64 n], .int .i64 0]) ∧ Below w.heap.size w w' := by
  have HW := Lib.hid hL
  have hC := fun W (h : LibW W) => c_read str 6 W h hs
  rw [hr] at hC
  have HC := Lib.hid hC
  clear hL hr hC hs
  have HBB := Lib.hid hb
  clear hb
  go_enter Tryz.func12, Tryz.ntmps12
  go_upto_region 1 with (fail)
  go_name_world W1 hW1
  have hbn : Below w.heap.size w W1 := by subst hW1; go_grown
  have hb0 := hbn
  clear hbn
  have p0n : W1.cell? ⟨w.heap.size, 0, none⟩ = some (.int .i64 0) := by subst hW1; go_simp
  have fp0n : W1.frozen? ⟨w.heap.size, 0, none⟩ = false := by subst hW1; go_simp
  have p1n : W1.cell? ⟨w.heap.size, 1, none⟩ = some (.int .i64 0) := by subst hW1; go_simp
  have fp1n : W1.frozen? ⟨w.heap.size, 1, none⟩ = false := by subst hW1; go_simp
  have p2n : W1.cell? ⟨w.heap.size, 2, none⟩ = some (.int .i64 0) := by subst hW1; go_simp
  have fp2n : W1.frozen? ⟨w.heap.size, 2, none⟩ = false := by subst hW1; go_simp
  have p3n : W1.cell? ⟨w.heap.size, 3, none⟩ = some (.int .i64 0) := by subst hW1; go_simp
  have fp3n : W1.frozen? ⟨w.heap.size, 3, none⟩ = false := by subst hW1; go_simp
  have p4n : W1.cell? ⟨w.heap.size, 4, none⟩ = some (.int .i64 0) := by subst hW1; go_simp
  have fp4n : W1.frozen? ⟨w.heap.size, 4, none⟩ = false := by subst hW1; go_simp
  have p5n : W1.cell? ⟨w.heap.size, 5, none⟩ = some (.int .i64 0) := by subst hW1; go_simp
  have fp5n : W1.frozen? ⟨w.heap.size, 5, none⟩ = false := by subst hW1; go_simp
  clear hW1 
  have p0 := p0n
  have fp0 := fp0n
  have p1 := p1n
  have fp1 := fp1n
  have p2 := p2n
  have fp2 := fp2n
  have p3 := p3n
  have fp3 := fp3n
  have p4 := p4n
  have fp4 := fp4n
  have p5 := p5n
  have fp5 := fp5n
  clear p0n p1n p2n p3n p4n p5n fp0n fp1n fp2n fp3n fp4n fp5n
  go_wp2_with fail
  refine (HC.out _ (HW.out.later hb0)).mono ?_
  rintro e W2 ⟨⟨b, c, rfl, hi⟩, hB⟩
  have hc := (bcell hB).1
  have hf := (bcell hB).2
  have hz := hB.size
  have fp0n : W2.frozen? ⟨w.heap.size, 0, none⟩ = false := (hf _ _ (cell_lt p0)).trans fp0
  clear fp0
  have fp0 := fp0n
  clear fp0n
  have p0n : W2.cell? ⟨w.heap.size, 0, none⟩ = some (.int .i64 0) := (hc _ _ (cell_lt p0)).trans p0
  clear p0
  have p0 := p0n
  clear p0n
  have fp1n : W2.frozen? ⟨w.heap.size, 1, none⟩ = false := (hf _ _ (cell_lt p1)).trans fp1
  clear fp1
  have fp1 := fp1n
  clear fp1n
  have p1n : W2.cell? ⟨w.heap.size, 1, none⟩ = some (.int .i64 0) := (hc _ _ (cell_lt p1)).trans p1
  clear p1
  have p1 := p1n
  clear p1n
  have fp2n : W2.frozen? ⟨w.heap.size, 2, none⟩ = false := (hf _ _ (cell_lt p2)).trans fp2
  clear fp2
  have fp2 := fp2n
  clear fp2n
  have p2n : W2.cell? ⟨w.heap.size, 2, none⟩ = some (.int .i64 0) := (hc _ _ (cell_lt p2)).trans p2
  clear p2
  have p2 := p2n
  clear p2n
  have fp3n : W2.frozen? ⟨w.heap.size, 3, none⟩ = false := (hf _ _ (cell_lt p3)).trans fp3
  clear fp3
  have fp3 := fp3n
  clear fp3n
  have p3n : W2.cell? ⟨w.heap.size, 3, none⟩ = some (.int .i64 0) := (hc _ _ (cell_lt p3)).trans p3
  clear p3
  have p3 := p3n
  clear p3n
  have fp4n : W2.frozen? ⟨w.heap.size, 4, none⟩ = false := (hf _ _ (cell_lt p4)).trans fp4
  clear fp4
  have fp4 := fp4n
  clear fp4n
  have p4n : W2.cell? ⟨w.heap.size, 4, none⟩ = some (.int .i64 0) := (hc _ _ (cell_lt p4)).trans p4
  clear p4
  have p4 := p4n
  clear p4n
  have fp5n : W2.frozen? ⟨w.heap.size, 5, none⟩ = false := (hf _ _ (cell_lt p5)).trans fp5
  clear fp5
  have fp5 := fp5n
  clear fp5n
  have p5n : W2.cell? ⟨w.heap.size, 5, none⟩ = some (.int .i64 0) := (hc _ _ (cell_lt p5)).trans p5
  clear p5
  have p5 := p5n
  clear p5n
  have hbn : Below w.heap.size w W2 := bthen hb0 hB
  clear hb0
  have hb0 := hbn
  clear hbn
  have hzW2 : W1.heap.size ≤ W2.heap.size := hz
  clear hc hf hB hz
  obtain ⟨g, o, rfl, hat⟩ := ints_at hi (by simp)
  have y0 := hat 0 (by simp)
  rw [Nat.add_zero] at y0
  simp only [it, List.getElem?_cons_zero, Option.getD_some] at y0
  have y1 := hat 1 (by simp)
  simp only [it, List.getElem?_cons_zero, List.getElem?_cons_succ, Option.getD_some] at y1
  have y2 := hat 2 (by simp)
  simp only [it, List.getElem?_cons_zero, List.getElem?_cons_succ, Option.getD_some] at y2
  have y3 := hat 3 (by simp)
  simp only [it, List.getElem?_cons_zero, List.getElem?_cons_succ, Option.getD_some] at y3
  have y4 := hat 4 (by simp)
  simp only [it, List.getElem?_cons_zero, List.getElem?_cons_succ, Option.getD_some] at y4
  have y5 := hat 5 (by simp)
  simp only [it, List.getElem?_cons_zero, List.getElem?_cons_succ, Option.getD_some] at y5
  clear hat hi
  go_upto_region 4 with (fail)
  refine wp_region_alloc 19 W2 (.cells #[.int .i64 0, .int .i64 0, .int .i64 0, .int .i64 0, .int .i64 0, .int .i64 0] 25) (by rfl) (by rfl) ⟨by rfl, fun _ _ => by simp [go_sem]⟩ ⟨by rfl, by rfl, _, _, _, by rfl⟩ (by kernel_rfl) (Below.refl _ _) ?_
  intro V3 hB
  have hc := (bcell hB).1
  have hf := (bcell hB).2
  have hz := hB.size
  have fp0n : V3.frozen? ⟨w.heap.size, 0, none⟩ = false := (hf _ _ (cell_lt p0)).trans fp0
  clear fp0
  have fp0 := fp0n
  clear fp0n
  have p0n : V3.cell? ⟨w.heap.size, 0, none⟩ = some (.int .i64 0) := (hc _ _ (cell_lt p0)).trans p0
  clear p0
  have p0 := p0n
  clear p0n
  have fp1n : V3.frozen? ⟨w.heap.size, 1, none⟩ = false := (hf _ _ (cell_lt p1)).trans fp1
  clear fp1
  have fp1 := fp1n
  clear fp1n
  have p1n : V3.cell? ⟨w.heap.size, 1, none⟩ = some (.int .i64 0) := (hc _ _ (cell_lt p1)).trans p1
  clear p1
  have p1 := p1n
  clear p1n
  have fp2n : V3.frozen? ⟨w.heap.size, 2, none⟩ = false := (hf _ _ (cell_lt p2)).trans fp2
  clear fp2
  have fp2 := fp2n
  clear fp2n
  have p2n : V3.cell? ⟨w.heap.size, 2, none⟩ = some (.int .i64 0) := (hc _ _ (cell_lt p2)).trans p2
  clear p2
  have p2 := p2n
  clear p2n
  have fp3n : V3.frozen? ⟨w.heap.size, 3, none⟩ = false := (hf _ _ (cell_lt p3)).trans fp3
  clear fp3
  have fp3 := fp3n
  clear fp3n
  have p3n : V3.cell? ⟨w.heap.size, 3, none⟩ = some (.int .i64 0) := (hc _ _ (cell_lt p3)).trans p3
  clear p3
  have p3 := p3n
  clear p3n
  have fp4n : V3.frozen? ⟨w.heap.size, 4, none⟩ = false := (hf _ _ (cell_lt p4)).trans fp4
  clear fp4
  have fp4 := fp4n
  clear fp4n
  have p4n : V3.cell? ⟨w.heap.size, 4, none⟩ = some (.int .i64 0) := (hc _ _ (cell_lt p4)).trans p4
  clear p4
  have p4 := p4n
  clear p4n
  have fp5n : V3.frozen? ⟨w.heap.size, 5, none⟩ = false := (hf _ _ (cell_lt p5)).trans fp5
  clear fp5
  have fp5 := fp5n
  clear fp5n
  have p5n : V3.cell? ⟨w.heap.size, 5, none⟩ = some (.int .i64 0) := (hc _ _ (cell_lt p5)).trans p5
  clear p5
  have p5 := p5n
  clear p5n
  have y0n : V3.cell? ⟨g, o, none⟩ = some (.int .i64 i) := (hc _ _ (cell_lt y0)).trans y0
  clear y0
  have y0 := y0n
  clear y0n
  have y1n : V3.cell? ⟨g, o + 1, none⟩ = some (.int .i64 k) := (hc _ _ (cell_lt y1)).trans y1
  clear y1
  have y1 := y1n
  clear y1n
  have y2n : V3.cell? ⟨g, o + 2, none⟩ = some (.int .i64 d) := (hc _ _ (cell_lt y2)).trans y2
  clear y2
  have y2 := y2n
  clear y2n
  have y3n : V3.cell? ⟨g, o + 3, none⟩ = some (.int .i64 s) := (hc _ _ (cell_lt y3)).trans y3
  clear y3
  have y3 := y3n
  clear y3n
  have y4n : V3.cell? ⟨g, o + 4, none⟩ = some (.int .i64 t) := (hc _ _ (cell_lt y4)).trans y4
  clear y4
  have y4 := y4n
  clear y4n
  have y5n : V3.cell? ⟨g, o + 5, none⟩ = some (.int .i64 n) := (hc _ _ (cell_lt y5)).trans y5
  clear y5
  have y5 := y5n
  clear y5n
  have hbn : Below w.heap.size w V3 := bthen hb0 hB
  clear hb0
  have hb0 := hbn
  clear hbn
  have hzV3 : W2.heap.size ≤ V3.heap.size := hz
  clear hc hf hB hz
  simp only [List.take_succ_cons, List.take_zero, List.drop_succ_cons, List.drop_zero]
  have kp0 := later_cell p0
  have kp1 := later_cell p1
  have kp2 := later_cell p2
  have kp3 := later_cell p3
  have kp4 := later_cell p4
  have kp5 := later_cell p5
  have ky0 := later_cell y0
  have ky1 := later_cell y1
  have ky2 := later_cell y2
  have ky3 := later_cell y3
  have ky4 := later_cell y4
  have ky5 := later_cell y5
  repeat (go_big_quiet_step (fail))
  refine wpQuiet_nil ?_
  clear kp0 kp1 kp2 kp3 kp4 kp5 ky0 ky1 ky2 ky3 ky4 ky5
  intro U3 X3 hA hB2
  have hx : Below V3.heap.size V3 X3 := bthen (hA.alloc hA.size _) hB2
  have hg : V3.heap.size ≤ U3.heap.size := hA.size
  have z0 : X3.cell? ⟨U3.heap.size, 0, none⟩ = some (.int .i64 0) := ((bcell hB2).1 _ _ (by simp)).trans (by go_simp)
  have fz0 : X3.frozen? ⟨U3.heap.size, 0, none⟩ = false := ((bcell hB2).2 _ _ (by simp)).trans (by go_simp)
  have z1 : X3.cell? ⟨U3.heap.size, 1, none⟩ = some (.int .i64 0) := ((bcell hB2).1 _ _ (by simp)).trans (by go_simp)
  have fz1 : X3.frozen? ⟨U3.heap.size, 1, none⟩ = false := ((bcell hB2).2 _ _ (by simp)).trans (by go_simp)
  have z2 : X3.cell? ⟨U3.heap.size, 2, none⟩ = some (.int .i64 0) := ((bcell hB2).1 _ _ (by simp)).trans (by go_simp)
  have fz2 : X3.frozen? ⟨U3.heap.size, 2, none⟩ = false := ((bcell hB2).2 _ _ (by simp)).trans (by go_simp)
  have z3 : X3.cell? ⟨U3.heap.size, 3, none⟩ = some (.int .i64 0) := ((bcell hB2).1 _ _ (by simp)).trans (by go_simp)
  have fz3 : X3.frozen? ⟨U3.heap.size, 3, none⟩ = false := ((bcell hB2).2 _ _ (by simp)).trans (by go_simp)
  have z4 : X3.cell? ⟨U3.heap.size, 4, none⟩ = some (.int .i64 0) := ((bcell hB2).1 _ _ (by simp)).trans (by go_simp)
  have fz4 : X3.frozen? ⟨U3.heap.size, 4, none⟩ = false := ((bcell hB2).2 _ _ (by simp)).trans (by go_simp)
  have z5 : X3.cell? ⟨U3.heap.size, 5, none⟩ = some (.int .i64 0) := ((bcell hB2).1 _ _ (by simp)).trans (by go_simp)
  have fz5 : X3.frozen? ⟨U3.heap.size, 5, none⟩ = false := ((bcell hB2).2 _ _ (by simp)).trans (by go_simp)
  clear hA hB2
  obtain ⟨g3, hgg⟩ : ∃ g, U3.heap.size = g := ⟨_, rfl⟩
  rw [hgg] at hg z0 fz0 z1 fz1 z2 fz2 z3 fz3 z4 fz4 z5 fz5
  rw [hgg]
  clear hgg U3
  go_wp2
  refine ⟨rfl, by go_grown, ?_⟩
  intro Y3 hB hE
  have hc := (bcell hB).1
  have hf := (bcell hB).2
  have hz := hB.size
  have fp0n : Y3.frozen? ⟨w.heap.size, 0, none⟩ = false := (hf _ _ (cell_lt p0)).trans fp0
  clear fp0
  have fp0 := fp0n
  clear fp0n
  have p0n : Y3.cell? ⟨w.heap.size, 0, none⟩ = some (.int .i64 0) := (hc _ _ (cell_lt p0)).trans p0
  clear p0
  have p0 := p0n
  clear p0n
  have fp1n : Y3.frozen? ⟨w.heap.size, 1, none⟩ = false := (hf _ _ (cell_lt p1)).trans fp1
  clear fp1
  have fp1 := fp1n
  clear fp1n
  have p1n : Y3.cell? ⟨w.heap.size, 1, none⟩ = some (.int .i64 0) := (hc _ _ (cell_lt p1)).trans p1
  clear p1
  have p1 := p1n
  clear p1n
  have fp2n : Y3.frozen? ⟨w.heap.size, 2, none⟩ = false := (hf _ _ (cell_lt p2)).trans fp2
  clear fp2
  have fp2 := fp2n
  clear fp2n
  have p2n : Y3.cell? ⟨w.heap.size, 2, none⟩ = some (.int .i64 0) := (hc _ _ (cell_lt p2)).trans p2
  clear p2
  have p2 := p2n
  clear p2n
  have fp3n : Y3.frozen? ⟨w.heap.size, 3, none⟩ = false := (hf _ _ (cell_lt p3)).trans fp3
  clear fp3
  have fp3 := fp3n
  clear fp3n
  have p3n : Y3.cell? ⟨w.heap.size, 3, none⟩ = some (.int .i64 0) := (hc _ _ (cell_lt p3)).trans p3
  clear p3
  have p3 := p3n
  clear p3n
  have fp4n : Y3.frozen? ⟨w.heap.size, 4, none⟩ = false := (hf _ _ (cell_lt p4)).trans fp4
  clear fp4
  have fp4 := fp4n
  clear fp4n
  have p4n : Y3.cell? ⟨w.heap.size, 4, none⟩ = some (.int .i64 0) := (hc _ _ (cell_lt p4)).trans p4
  clear p4
  have p4 := p4n
  clear p4n
  have fp5n : Y3.frozen? ⟨w.heap.size, 5, none⟩ = false := (hf _ _ (cell_lt p5)).trans fp5
  clear fp5
  have fp5 := fp5n
  clear fp5n
  have p5n : Y3.cell? ⟨w.heap.size, 5, none⟩ = some (.int .i64 0) := (hc _ _ (cell_lt p5)).trans p5
  clear p5
  have p5 := p5n
  clear p5n
  have y0n : Y3.cell? ⟨g, o, none⟩ = some (.int .i64 i) := (hc _ _ (cell_lt y0)).trans y0
  clear y0
  have y0 := y0n
  clear y0n
  have y1n : Y3.cell? ⟨g, o + 1, none⟩ = some (.int .i64 k) := (hc _ _ (cell_lt y1)).trans y1
  clear y1
  have y1 := y1n
  clear y1n
  have y2n : Y3.cell? ⟨g, o + 2, none⟩ = some (.int .i64 d) := (hc _ _ (cell_lt y2)).trans y2
  clear y2
  have y2 := y2n
  clear y2n
  have y3n : Y3.cell? ⟨g, o + 3, none⟩ = some (.int .i64 s) := (hc _ _ (cell_lt y3)).trans y3
  clear y3
  have y3 := y3n
  clear y3n
  have y4n : Y3.cell? ⟨g, o + 4, none⟩ = some (.int .i64 t) := (hc _ _ (cell_lt y4)).trans y4
  clear y4
  have y4 := y4n
  clear y4n
  have y5n : Y3.cell? ⟨g, o + 5, none⟩ = some (.int .i64 n) := (hc _ _ (cell_lt y5)).trans y5
  clear y5
  have y5 := y5n
  clear y5n
  have x0 : Y3.cell? ⟨g3, 0, none⟩ = some (.int .i64 i) := later_of hE (by go_simp)
  have x1 : Y3.cell? ⟨g3, 1, none⟩ = some (.int .i64 d) := later_of hE (by go_simp)
  have x2 : Y3.cell? ⟨g3, 2, none⟩ = some (.int .i64 k) := later_of hE (by go_simp)
  have x3 : Y3.cell? ⟨g3, 3, none⟩ = some (.int .i64 s) := later_of hE (by go_simp)
  have x4 : Y3.cell? ⟨g3, 4, none⟩ = some (.int .i64 t) := later_of hE (by go_simp)
  have x5 : Y3.cell? ⟨g3, 5, none⟩ = some (.int .i64 n) := later_of hE (by go_simp)
  clear z0 fz0 z1 fz1 z2 fz2 z3 fz3 z4 fz4 z5 fz5 hE hx
  have hzY3 : V3.heap.size ≤ Y3.heap.size := hz
  have hgg3 : V3.heap.size ≤ g3 := hg
  have hbn : Below w.heap.size w Y3 := bthen hb0 hB
  clear hb0
  have hb0 := hbn
  clear hbn hc hf hB hz hg
  go_wp2_with fail
  refine (via (w0 := Y3) (by go_grown) (c_isRecount i d k s t n _)).mono ?_
  rw [HBB.out]
  rintro e W4 ⟨rfl, hc, hf, hz, hB⟩
  have fp0n : W4.frozen? ⟨w.heap.size, 0, none⟩ = false := (hf _ _ (cell_lt p0)).trans fp0
  clear fp0
  have fp0 := fp0n
  clear fp0n
  have p0n : W4.cell? ⟨w.heap.size, 0, none⟩ = some (.int .i64 0) := (hc _ _ (cell_lt p0)).trans p0
  clear p0
  have p0 := p0n
  clear p0n
  have fp1n : W4.frozen? ⟨w.heap.size, 1, none⟩ = false := (hf _ _ (cell_lt p1)).trans fp1
  clear fp1
  have fp1 := fp1n
  clear fp1n
  have p1n : W4.cell? ⟨w.heap.size, 1, none⟩ = some (.int .i64 0) := (hc _ _ (cell_lt p1)).trans p1
  clear p1
  have p1 := p1n
  clear p1n
  have fp2n : W4.frozen? ⟨w.heap.size, 2, none⟩ = false := (hf _ _ (cell_lt p2)).trans fp2
  clear fp2
  have fp2 := fp2n
  clear fp2n
  have p2n : W4.cell? ⟨w.heap.size, 2, none⟩ = some (.int .i64 0) := (hc _ _ (cell_lt p2)).trans p2
  clear p2
  have p2 := p2n
  clear p2n
  have fp3n : W4.frozen? ⟨w.heap.size, 3, none⟩ = false := (hf _ _ (cell_lt p3)).trans fp3
  clear fp3
  have fp3 := fp3n
  clear fp3n
  have p3n : W4.cell? ⟨w.heap.size, 3, none⟩ = some (.int .i64 0) := (hc _ _ (cell_lt p3)).trans p3
  clear p3
  have p3 := p3n
  clear p3n
  have fp4n : W4.frozen? ⟨w.heap.size, 4, none⟩ = false := (hf _ _ (cell_lt p4)).trans fp4
  clear fp4
  have fp4 := fp4n
  clear fp4n
  have p4n : W4.cell? ⟨w.heap.size, 4, none⟩ = some (.int .i64 0) := (hc _ _ (cell_lt p4)).trans p4
  clear p4
  have p4 := p4n
  clear p4n
  have fp5n : W4.frozen? ⟨w.heap.size, 5, none⟩ = false := (hf _ _ (cell_lt p5)).trans fp5
  clear fp5
  have fp5 := fp5n
  clear fp5n
  have p5n : W4.cell? ⟨w.heap.size, 5, none⟩ = some (.int .i64 0) := (hc _ _ (cell_lt p5)).trans p5
  clear p5
  have p5 := p5n
  clear p5n
  have y0n : W4.cell? ⟨g, o, none⟩ = some (.int .i64 i) := (hc _ _ (cell_lt y0)).trans y0
  clear y0
  have y0 := y0n
  clear y0n
  have y1n : W4.cell? ⟨g, o + 1, none⟩ = some (.int .i64 k) := (hc _ _ (cell_lt y1)).trans y1
  clear y1
  have y1 := y1n
  clear y1n
  have y2n : W4.cell? ⟨g, o + 2, none⟩ = some (.int .i64 d) := (hc _ _ (cell_lt y2)).trans y2
  clear y2
  have y2 := y2n
  clear y2n
  have y3n : W4.cell? ⟨g, o + 3, none⟩ = some (.int .i64 s) := (hc _ _ (cell_lt y3)).trans y3
  clear y3
  have y3 := y3n
  clear y3n
  have y4n : W4.cell? ⟨g, o + 4, none⟩ = some (.int .i64 t) := (hc _ _ (cell_lt y4)).trans y4
  clear y4
  have y4 := y4n
  clear y4n
  have y5n : W4.cell? ⟨g, o + 5, none⟩ = some (.int .i64 n) := (hc _ _ (cell_lt y5)).trans y5
  clear y5
  have y5 := y5n
  clear y5n
  have x0n : W4.cell? ⟨g3, 0, none⟩ = some (.int .i64 i) := (hc _ _ (cell_lt x0)).trans x0
  clear x0
  have x0 := x0n
  clear x0n
  have x1n : W4.cell? ⟨g3, 1, none⟩ = some (.int .i64 d) := (hc _ _ (cell_lt x1)).trans x1
  clear x1
  have x1 := x1n
  clear x1n
  have x2n : W4.cell? ⟨g3, 2, none⟩ = some (.int .i64 k) := (hc _ _ (cell_lt x2)).trans x2
  clear x2
  have x2 := x2n
  clear x2n
  have x3n : W4.cell? ⟨g3, 3, none⟩ = some (.int .i64 s) := (hc _ _ (cell_lt x3)).trans x3
  clear x3
  have x3 := x3n
  clear x3n
  have x4n : W4.cell? ⟨g3, 4, none⟩ = some (.int .i64 t) := (hc _ _ (cell_lt x4)).trans x4
  clear x4
  have x4 := x4n
  clear x4n
  have x5n : W4.cell? ⟨g3, 5, none⟩ = some (.int .i64 n) := (hc _ _ (cell_lt x5)).trans x5
  clear x5
  have x5 := x5n
  clear x5n
  have hbn : Below w.heap.size w W4 := bthen hb0 hB
  clear hb0
  have hb0 := hbn
  clear hbn
  have hzW4 : Y3.heap.size ≤ W4.heap.size := hz
  clear hc hf hB hz
  go_wp2_with fail
  refine bodyPost_ret (v := .tuple #[.agg #[.int .i64 i, .int .i64 d, .int .i64 k, .int .i64 s, .int .i64 t, .int .i64 n], .int .i64 0]) (by simp [results, Tryz.results12, go_sem, p0, p1, p2, p3, p4, p5]) rfl ⟨rfl, by have hbz := hb0.size; go_grown⟩

theorem c_ReadRecount (str : ByteArray) (w : World) (hL : LibW w) (hs : str.size ≤ 1000) :
    Calls Tryz.prog 12 #[.string str] w fun e w' => e = .returned (.tuple #[(readR str.data.toList).1.v, .int .i64 (readR str.data.toList).2]) ∧ Below w.heap.size w w' := by
  cases hr : readsN str.data.toList 6 with
  | none => rw [readR_none hr]; exact c_ReadRecount_none str w hL hs hr
  | some n =>
    have hl := len6 (readsN_some hr).1
    cases hb : rcB (rcOf n) with
    | false => rw [readR_bad hr hb]; exact c_ReadRecount_bad str (it n 0) (it n 1) (it n 2) (it n 3) (it n 4) (it n 5) hb w hL hs (by rw [hr]; exact congrArg some hl)
    | true => rw [readR_ok hr hb]; exact c_ReadRecount_ok str (it n 0) (it n 1) (it n 2) (it n 3) (it n 4) (it n 5) hb w hL hs (by rw [hr]; exact congrArg some hl)
end Go.Proofs.YthdenmbfeanioaaGreatDoor
