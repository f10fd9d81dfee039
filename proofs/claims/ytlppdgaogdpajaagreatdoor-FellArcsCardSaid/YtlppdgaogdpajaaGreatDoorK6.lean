/- This text is a part of the proof: Shape. -/
import Derived.Test.YtlppdgaogdpajaaGreatDoorK5
set_option maxHeartbeats 2000000
namespace Go.Proofs.YtlppdgaogdpajaaGreatDoor
open Go.RowKit Go.Shelf
attribute [local go_sem] Oper.semAt_some
structure Small (f : Fe) : Prop where
 p8 : f.places.length ≤ 8
 g12 : f.gates.length ≤ 12
 t0 : 0 ≤ f.ticks
 t24 : f.ticks ≤ 24
theorem Right.small {f : Fe} (h : Right f) : Small f := ⟨h.p8, h.g12, by have := h.t1; omega, h.t24⟩
theorem tp_bd {t : Int} {P : Nat} (h0 : 0 ≤ t) (h1 : t ≤ 100) (hP : P ≤ 8) : 0 ≤ t * (P : Int) ∧ t * (P : Int) ≤ 800 :=
 ⟨Int.mul_nonneg h0 (by omega), Int.le_trans (Int.mul_le_mul_of_nonneg_right h1 (by omega)) (by omega)⟩
theorem ts_bd {t s : Int} (h0 : 0 ≤ t) (h1 : t ≤ 100) (s0 : 0 ≤ s) (s1 : s ≤ 64) : 0 ≤ t * s ∧ t * s ≤ 6400 :=
 ⟨Int.mul_nonneg h0 s0, Int.le_trans (Int.mul_le_mul_of_nonneg_right h1 s0) (by omega)⟩
theorem step_bd {f : Fe} (h : Small f) : 0 ≤ stepN f ∧ stepN f ≤ 64 := by
 have := h.p8
 have := h.g12
 unfold stepN
 omega
theorem first_bd {f : Fe} (h : Small f) {t : Int} (h0 : 0 ≤ t) (h1 : t ≤ 100) : 0 ≤ firstN f t ∧ firstN f t ≤ 7200 := by
 have a := tp_bd (t := f.ticks + 1) (P := f.places.length) (by have := h.t0; omega) (by have := h.t24; omega) h.p8
 have b := ts_bd h0 h1 (step_bd h).1 (step_bd h).2
 unfold firstN
 omega
theorem c_node_f (m : Fm) (p t : Int) (w : World) (hP : m.f.places.length ≤ 8) (hp0 : 0 ≤ p) (hp1 : p ≤ 100) (ht0 : 0 ≤ t) (ht1 : t ≤ 100) :
  Calls Tryz.prog 148 #[m.v, .int .i64 p, .int .i64 t, .bool false] w fun e w' => e = .returned (.int .i64 (nodeN m.f p t)) ∧ Below w.heap.size w w' := by
 obtain ⟨h1, h2⟩ := tp_bd ht0 ht1 hP
 unfold nodeN Fm.v
 go_enter Tryz.func148, Tryz.ntmps148
 go_wp2
 go_ret
 exact ⟨rfl, by go_grown⟩
theorem c_node_t (m : Fm) (p t : Int) (w : World) (hP : m.f.places.length ≤ 8) (hp0 : 0 ≤ p) (hp1 : p ≤ 100) (ht0 : 0 ≤ t) (ht1 : t ≤ 100) :
  Calls Tryz.prog 148 #[m.v, .int .i64 p, .int .i64 t, .bool true] w fun e w' => e = .returned (.int .i64 (nodeN m.f p t + 1)) ∧ Below w.heap.size w w' := by
 obtain ⟨h1, h2⟩ := tp_bd ht0 ht1 hP
 unfold nodeN Fm.v
 go_enter Tryz.func148, Tryz.ntmps148
 go_wp2
 go_ret
 exact ⟨rfl, by go_grown⟩
theorem c_step (m : Fm) (w : World) (hs : Small m.f) : Calls Tryz.prog 210 #[m.v] w fun e w' => e = .returned (.int .i64 (stepN m.f)) ∧ Below w.heap.size w w' := by
 have hP := hs.p8
 have hG := hs.g12
 clear hs
 unfold stepN Fm.v
 go_enter Tryz.func210, Tryz.ntmps210
 go_wp2
 go_ret
 exact ⟨rfl, by go_grown⟩
theorem c_first (m : Fm) (t : Int) (w : World) (hs : Small m.f) (ht0 : 0 ≤ t) (ht1 : t ≤ 100) :
  Calls Tryz.prog 194 #[m.v, .int .i64 t] w fun e w' => e = .returned (.int .i64 (firstN m.f t)) ∧ Below w.heap.size w w' := by
 have hT := hs.t0
 have hT2 := hs.t24
 obtain ⟨a1, a2⟩ := tp_bd (t := m.f.ticks + 1) (P := m.f.places.length) (by omega) (by omega) hs.p8
 obtain ⟨s1, s2⟩ := step_bd hs
 obtain ⟨b1, b2⟩ := ts_bd ht0 ht1 s1 s2
 have hst := fun W => c_step m W hs
 unfold firstN
 generalize stepN m.f = S at *
 have HST := Lib.hid hst
 clear hs hst
 unfold Fm.v
 have v0 : IntKind.i64.wrap (m.f.ticks + 1) = m.f.ticks + 1 := IntWalk.i64_in _ (by omega)
 have v1 : IntKind.i64.wrap ((m.f.ticks + 1) * (m.f.places.length : Int)) = (m.f.ticks + 1) * (m.f.places.length : Int) := IntWalk.i64_in _ (by omega)
 have v2 : IntKind.i64.wrap (t * S) = t * S := IntWalk.i64_in _ (by omega)
 have v3 : IntKind.i64.wrap ((m.f.ticks + 1) * (m.f.places.length : Int) + t * S) = (m.f.ticks + 1) * (m.f.places.length : Int) + t * S := IntWalk.i64_in _ (by omega)
 go_enter Tryz.func194, Tryz.ntmps194
 go_upto_region 1 with (fail)
 go_name_world W1 hW1
 have hb0 : Below w.heap.size w W1 := by subst hW1; go_grown
 obtain ⟨q0, q1, q2, q3⟩ := (show QB m W1 w.heap.size from by subst hW1; and_intros <;> go_simp)
 clear hW1 
 have kq0 := later_cell q0
 have kq1 := later_cell q1
 have kq2 := later_cell q2
 have kq3 := later_cell q3
 refine wp_region_later W1 (by kernel_rfl) (by kernel_rfl) (Below.refl _ _) ?_
 repeat (go_big_quiet_step (first | (go_at_call 210; with_reducible exact in_region (HST.out _))))
 refine wpQuiet_nil ?_
 rintro ⟨W2, hB⟩
 dsimp only
 have hc := (bcell hB).1
 have hf := (bcell hB).2
 have hz := hB.size
 clear kq0 kq1 kq2 kq3
 have zz := cy4 hc q0 q1 q2 q3
 clear q0 q1 q2 q3
 obtain ⟨q0, q1, q2, q3⟩ := zz
 replace hb0 : Below w.heap.size w W2 := bthen hb0 hB
 have hzW2 : W1.heap.size ≤ W2.heap.size := hz
 clear hc hf hB hz
 go_wp2_with fail
 go_ret
 exact ⟨rfl, by have hbz := hb0.size; go_grown⟩
theorem c_count (m : Fm) (w : World) (hs : Small m.f) :
  Calls Tryz.prog 149 #[m.v] w fun e w' => e = .returned (.int .i64 (countN m.f)) ∧ Below w.heap.size w w' := by
 have hT := hs.t0
 have hT2 := hs.t24
 have hP := hs.p8
 obtain ⟨a1, a2⟩ := first_bd hs (t := m.f.ticks) (by omega) (by omega)
 have hfi := fun W => c_first m m.f.ticks W hs (by omega) (by omega)
 unfold countN
 generalize firstN m.f m.f.ticks = F at *
 have HFI := Lib.hid hfi
 clear hs hfi
 unfold Fm.v at *
 have v0 : IntKind.i64.wrap (2 * (m.f.places.length : Int)) = 2 * (m.f.places.length : Int) := IntWalk.i64_in _ (by omega)
 have v1 : IntKind.i64.wrap (F + 2 * (m.f.places.length : Int)) = F + 2 * (m.f.places.length : Int) := IntWalk.i64_in _ (by omega)
 go_enter Tryz.func149, Tryz.ntmps149
 go_upto_region 1 with (fail)
 go_name_world W1 hW1
 have hb0 : Below w.heap.size w W1 := by subst hW1; go_grown
 obtain ⟨q0, q1, q2, q3⟩ := (show QB m W1 w.heap.size from by subst hW1; and_intros <;> go_simp)
 clear hW1 
 have kq0 := later_cell q0
 have kq1 := later_cell q1
 have kq2 := later_cell q2
 have kq3 := later_cell q3
 refine wp_region_later W1 (by kernel_rfl) (by kernel_rfl) (Below.refl _ _) ?_
 repeat (go_big_quiet_step (first | (go_at_call 194; with_reducible exact in_region (HFI.out _))))
 refine wpQuiet_nil ?_
 rintro ⟨W2, hB⟩
 dsimp only
 have hc := (bcell hB).1
 have hf := (bcell hB).2
 have hz := hB.size
 clear kq0 kq1 kq2 kq3
 have zz := cy4 hc q0 q1 q2 q3
 clear q0 q1 q2 q3
 obtain ⟨q0, q1, q2, q3⟩ := zz
 replace hb0 : Below w.heap.size w W2 := bthen hb0 hB
 have hzW2 : W1.heap.size ≤ W2.heap.size := hz
 clear hc hf hB hz
 go_wp2_with fail
 go_ret
 exact ⟨rfl, by have hbz := hb0.size; go_grown⟩
theorem c_number (m : Fm) (x : Rp) (w : World) (hP : m.f.places.length ≤ 8) (hp0 : 0 ≤ x.plc) (hp1 : x.plc ≤ 100) (ht0 : 0 ≤ x.tick) (ht1 : x.tick ≤ 100) :
  Calls Tryz.prog 145 #[m.v, x.v] w fun e w' => e = .returned (.int .i64 (x.tick * m.f.places.length + x.plc)) ∧ Below w.heap.size w w' := by
 obtain ⟨h1, h2⟩ := tp_bd ht0 ht1 hP
 unfold Fm.v
 go_enter Tryz.func145, Tryz.ntmps145
 go_wp2
 go_ret
 exact ⟨rfl, by go_grown⟩
theorem c_move (m : Fm) (x : Rp) (w : World) (hs : Small m.f) (hk : 4 ≤ x.kind) (hk2 : x.kind ≤ 7) (hp0 : 0 ≤ x.plc) (hp1 : x.plc ≤ 100) (ht0 : 0 ≤ x.tick) (ht1 : x.tick ≤ 100) :
  Calls Tryz.prog 185 #[m.v, x.v] w fun e w' => e = .returned (.int .i64 (firstN m.f x.tick + 5 * x.plc + (x.kind - 4) + 1)) ∧ Below w.heap.size w w' := by
 have hP := hs.p8
 obtain ⟨a1, a2⟩ := first_bd hs ht0 ht1
 have hfi := fun W => c_first m x.tick W hs ht0 ht1
 generalize firstN m.f x.tick = F at *
 have HFI := Lib.hid hfi
 clear hs hfi
 have u0 : IntKind.u8.wrap (x.kind - 4) = x.kind - 4 := IntWalk.u8_in _ (by omega)
 have u1 : IntKind.i64.wrap (x.kind - 4) = x.kind - 4 := IntWalk.i64_in _ (by omega)
 unfold Fm.v at *
 have v0 : IntKind.i64.wrap (5 * x.plc) = 5 * x.plc := IntWalk.i64_in _ (by omega)
 have v1 : IntKind.i64.wrap (F + 5 * x.plc) = F + 5 * x.plc := IntWalk.i64_in _ (by omega)
 have v2 : IntKind.i64.wrap (F + 5 * x.plc + (x.kind - 4)) = F + 5 * x.plc + (x.kind - 4) := IntWalk.i64_in _ (by omega)
 have v3 : IntKind.i64.wrap (F + 5 * x.plc + (x.kind - 4) + 1) = F + 5 * x.plc + (x.kind - 4) + 1 := IntWalk.i64_in _ (by omega)
 go_enter Tryz.func185, Tryz.ntmps185
 go_upto_region 1 with (fail)
 go_name_world W1 hW1
 have hb0 : Below w.heap.size w W1 := by subst hW1; go_grown
 obtain ⟨q0, q1, q2, q3⟩ := (show QB m W1 w.heap.size from by subst hW1; and_intros <;> go_simp)
 obtain ⟨r0, r1, r2, r3, r4, r5, r6, r7, r8, r9⟩ := (show RC x W1 (w.heap.size + 1) from by subst hW1; and_intros <;> go_simp)
 clear hW1 
 have kq0 := later_cell q0
 have kq1 := later_cell q1
 have kq2 := later_cell q2
 have kq3 := later_cell q3
 have kr0 := later_cell r0
 have kr1 := later_cell r1
 have kr2 := later_cell r2
 have kr3 := later_cell r3
 have kr4 := later_cell r4
 have kr5 := later_cell r5
 have kr6 := later_cell r6
 have kr7 := later_cell r7
 have kr8 := later_cell r8
 have kr9 := later_cell r9
 refine wp_region_later W1 (by kernel_rfl) (by kernel_rfl) (Below.refl _ _) ?_
 repeat (go_big_quiet_step (first | (go_at_call 194; with_reducible exact in_region (HFI.out _))))
 refine wpQuiet_nil ?_
 rintro ⟨W2, hB⟩
 dsimp only
 have hc := (bcell hB).1
 have hf := (bcell hB).2
 have hz := hB.size
 clear kq0 kq1 kq2 kq3 kr0 kr1 kr2 kr3 kr4 kr5 kr6 kr7 kr8 kr9
 have zz := cy14 hc q0 q1 q2 q3 r0 r1 r2 r3 r4 r5 r6 r7 r8 r9
 clear q0 q1 q2 q3 r0 r1 r2 r3 r4 r5 r6 r7 r8 r9
 obtain ⟨q0, q1, q2, q3, r0, r1, r2, r3, r4, r5, r6, r7, r8, r9⟩ := zz
 replace hb0 : Below w.heap.size w W2 := bthen hb0 hB
 have hzW2 : W1.heap.size ≤ W2.heap.size := hz
 clear hc hf hB hz
 go_wp2_with fail
 go_ret
 exact ⟨rfl, by have hbz := hb0.size; go_grown⟩
theorem c_pass (m : Fm) (x : Rp) (w : World) (hs : Small m.f) (hk : 2 ≤ x.kind) (hk2 : x.kind ≤ 3) (hp0 : 0 ≤ x.plc) (hp1 : x.plc ≤ 100) (ht0 : 0 ≤ x.tick) (ht1 : x.tick ≤ 100) :
  Calls Tryz.prog 184 #[m.v, x.v] w fun e w' => e = .returned (.int .i64 (firstN m.f x.tick + 5 * (m.f.places.length : Int) + 2 * x.plc + (x.kind - 2))) ∧ Below w.heap.size w w' := by
 have hP := hs.p8
 obtain ⟨a1, a2⟩ := first_bd hs ht0 ht1
 have hfi := fun W => c_first m x.tick W hs ht0 ht1
 generalize firstN m.f x.tick = F at *
 have HFI := Lib.hid hfi
 clear hs hfi
 have u0 : IntKind.u8.wrap (x.kind - 2) = x.kind - 2 := IntWalk.u8_in _ (by omega)
 have u1 : IntKind.i64.wrap (x.kind - 2) = x.kind - 2 := IntWalk.i64_in _ (by omega)
 unfold Fm.v at *
 have v0 : IntKind.i64.wrap (5 * (m.f.places.length : Int)) = 5 * (m.f.places.length : Int) := IntWalk.i64_in _ (by omega)
 have v1 : IntKind.i64.wrap (F + 5 * (m.f.places.length : Int)) = F + 5 * (m.f.places.length : Int) := IntWalk.i64_in _ (by omega)
 have v2 : IntKind.i64.wrap (2 * x.plc) = 2 * x.plc := IntWalk.i64_in _ (by omega)
 have v3 : IntKind.i64.wrap (F + 5 * (m.f.places.length : Int) + 2 * x.plc) = F + 5 * (m.f.places.length : Int) + 2 * x.plc := IntWalk.i64_in _ (by omega)
 have v4 : IntKind.i64.wrap (F + 5 * (m.f.places.length : Int) + 2 * x.plc + (x.kind - 2)) = F + 5 * (m.f.places.length : Int) + 2 * x.plc + (x.kind - 2) := IntWalk.i64_in _ (by omega)
 go_enter Tryz.func184, Tryz.ntmps184
 go_upto_region 1 with (fail)
 go_name_world W1 hW1
 have hb0 : Below w.heap.size w W1 := by subst hW1; go_grown
 obtain ⟨q0, q1, q2, q3⟩ := (show QB m W1 w.heap.size from by subst hW1; and_intros <;> go_simp)
 obtain ⟨r0, r1, r2, r3, r4, r5, r6, r7, r8, r9⟩ := (show RC x W1 (w.heap.size + 1) from by subst hW1; and_intros <;> go_simp)
 clear hW1 
 have kq0 := later_cell q0
 have kq1 := later_cell q1
 have kq2 := later_cell q2
 have kq3 := later_cell q3
 have kr0 := later_cell r0
 have kr1 := later_cell r1
 have kr2 := later_cell r2
 have kr3 := later_cell r3
 have kr4 := later_cell r4
 have kr5 := later_cell r5
 have kr6 := later_cell r6
 have kr7 := later_cell r7
 have kr8 := later_cell r8
 have kr9 := later_cell r9
 refine wp_region_later W1 (by kernel_rfl) (by kernel_rfl) (Below.refl _ _) ?_
 repeat (go_big_quiet_step (first | (go_at_call 194; with_reducible exact in_region (HFI.out _))))
 refine wpQuiet_nil ?_
 rintro ⟨W2, hB⟩
 dsimp only
 have hc := (bcell hB).1
 have hf := (bcell hB).2
 have hz := hB.size
 clear kq0 kq1 kq2 kq3 kr0 kr1 kr2 kr3 kr4 kr5 kr6 kr7 kr8 kr9
 have zz := cy14 hc q0 q1 q2 q3 r0 r1 r2 r3 r4 r5 r6 r7 r8 r9
 clear q0 q1 q2 q3 r0 r1 r2 r3 r4 r5 r6 r7 r8 r9
 obtain ⟨q0, q1, q2, q3, r0, r1, r2, r3, r4, r5, r6, r7, r8, r9⟩ := zz
 replace hb0 : Below w.heap.size w W2 := bthen hb0 hB
 have hzW2 : W1.heap.size ≤ W2.heap.size := hz
 clear hc hf hB hz
 go_wp2_with fail
 go_ret
 exact ⟨rfl, by have hbz := hb0.size; go_grown⟩
theorem c_Nodes_ok (m : Fm) (w : World) (hm : m.In w) (h : checkE m.f = 0) : Calls Tryz.prog 58 #[m.v] w fun e w' => e = .returned (.int .i64 (nodeN m.f 0 (m.f.ticks + 1))) ∧ Below w.heap.size w w' := by
 have hC := fun W (hb : Below w.heap.size w W) => c_CheckFell m W (hm.later hb)
 have hr := right_of h
 have hT := hr.t1
 have hT2 := hr.t24
 have hN := fun W => c_node_f m 0 (m.f.ticks + 1) W hr.p8 (by omega) (by omega) (by omega) (by omega)
 rw [h] at hC
 have HC := Lib.hid hC
 have HN := Lib.hid hN
 clear hm hC h hr hN
 unfold Fm.v at *
 go_enter Tryz.func58, Tryz.ntmps58
 go_upto_region 1 with (fail)
 go_name_world W1 hW1
 have hb0 : Below w.heap.size w W1 := by subst hW1; go_grown
 obtain ⟨q0, q1, q2, q3⟩ := (show QB m W1 w.heap.size from by subst hW1; and_intros <;> go_simp)
 clear hW1 
 go_wp2_with fail
 refine (via (w0 := W1) (by go_grown) (HC.out _ hb0)).mono ?_
 rintro e W2 ⟨rfl, hc, hf, hz, hB⟩
 have zz := cy4 hc q0 q1 q2 q3
 clear q0 q1 q2 q3
 obtain ⟨q0, q1, q2, q3⟩ := zz
 replace hb0 : Below w.heap.size w W2 := bthen hb0 hB
 have hzW2 : W1.heap.size ≤ W2.heap.size := hz
 clear hc hf hB hz
 go_wp2_with fail
 refine (via (w0 := W2) (by go_grown) (HN.out _)).mono ?_
 rintro e W3 ⟨rfl, hc, hf, hz, hB⟩
 have zz := cy4 hc q0 q1 q2 q3
 clear q0 q1 q2 q3
 obtain ⟨q0, q1, q2, q3⟩ := zz
 replace hb0 : Below w.heap.size w W3 := bthen hb0 hB
 have hzW3 : W2.heap.size ≤ W3.heap.size := hz
 clear hc hf hB hz
 go_wp2_with fail
 go_ret
 exact ⟨rfl, by have hbz := hb0.size; go_grown⟩
theorem c_Arcs_ok (m : Fm) (w : World) (hm : m.In w) (h : checkE m.f = 0) : Calls Tryz.prog 60 #[m.v] w fun e w' => e = .returned (.int .i64 (countN m.f)) ∧ Below w.heap.size w w' := by
 have hC := fun W (hb : Below w.heap.size w W) => c_CheckFell m W (hm.later hb)
 have hr := right_of h
 have hN := fun W => c_count m W hr.small
 rw [h] at hC
 have HC := Lib.hid hC
 have HN := Lib.hid hN
 clear hm hC h hr hN
 unfold Fm.v at *
 go_enter Tryz.func60, Tryz.ntmps60
 go_upto_region 1 with (fail)
 go_name_world W1 hW1
 have hb0 : Below w.heap.size w W1 := by subst hW1; go_grown
 obtain ⟨q0, q1, q2, q3⟩ := (show QB m W1 w.heap.size from by subst hW1; and_intros <;> go_simp)
 clear hW1 
 go_wp2_with fail
 refine (via (w0 := W1) (by go_grown) (HC.out _ hb0)).mono ?_
 rintro e W2 ⟨rfl, hc, hf, hz, hB⟩
 have zz := cy4 hc q0 q1 q2 q3
 clear q0 q1 q2 q3
 obtain ⟨q0, q1, q2, q3⟩ := zz
 replace hb0 : Below w.heap.size w W2 := bthen hb0 hB
 have hzW2 : W1.heap.size ≤ W2.heap.size := hz
 clear hc hf hB hz
 go_wp2_with fail
 refine (via (w0 := W2) (by go_grown) (HN.out _)).mono ?_
 rintro e W3 ⟨rfl, hc, hf, hz, hB⟩
 have zz := cy4 hc q0 q1 q2 q3
 clear q0 q1 q2 q3
 obtain ⟨q0, q1, q2, q3⟩ := zz
 replace hb0 : Below w.heap.size w W3 := bthen hb0 hB
 have hzW3 : W2.heap.size ≤ W3.heap.size := hz
 clear hc hf hB hz
 go_wp2_with fail
 go_ret
 exact ⟨rfl, by have hbz := hb0.size; go_grown⟩
end Go.Proofs.YtlppdgaogdpajaaGreatDoor
