/- This text proves that the law TallyIntervals holds: for every two intervals and list of intervals it returns true, and they read behind the call as they read before. -/
import Derived.Test.YtokpjaodchcheaaShut
import Derived.Test.YtokpjaodchcheaaRows
import Derived.Test.YtokpjaodchcheaaRefSum
import Derived.Test.YtokpjaodchcheaaOpen
namespace Go.Proofs.Ytokpjaodchcheaa.tallyIntervals
open Go.ChangeShapes Go.WideShapes Go.ChangeAt Go.RowKit Go.Joins Go.Deep


set_option maxRecDepth 100000 in
set_option maxHeartbeats 8000000 in
theorem walk_many {w : World} (a1 a2 : Int) (a3 : Bool) (b1 b2 : Int) (b3 : Bool) (l : List Iv) (a : Option Addr) (cap : Nat) (hm : l.length ≤ maxLen) (h : 250 < l.length) :
    Calls Try.prog 14 #[.agg #[.int .i64 a1, .int .i64 a2, .bool a3], .agg #[.int .i64 b1, .int .i64 b2, .bool b3], .slice a l.length cap] w fun e w' => e = .returned (.bool true) ∧ Below w.heap.size w w' := by
  unfold maxLen at hm
  have h' : (250 : Int) < (l.length : Int) := by omega
  go_enter Try.func14, Try.ntmps14
  go_upto_region 1 with (fail)
  go_name_world W1 hW1
  have hbn : Below w.heap.size w W1 := by subst hW1; go_grown
  have hb0 := hbn
  clear hbn
  have p0n : W1.cell? ⟨w.heap.size, 0, none⟩ = some (.int .i64 a1) := by subst hW1; go_simp
  have p1n : W1.cell? ⟨w.heap.size, 1, none⟩ = some (.int .i64 a2) := by subst hW1; go_simp
  have p2n : W1.cell? ⟨w.heap.size, 2, none⟩ = some (.bool a3) := by subst hW1; go_simp
  have q0n : W1.cell? ⟨w.heap.size + 1, 0, none⟩ = some (.int .i64 b1) := by subst hW1; go_simp
  have q1n : W1.cell? ⟨w.heap.size + 1, 1, none⟩ = some (.int .i64 b2) := by subst hW1; go_simp
  have q2n : W1.cell? ⟨w.heap.size + 1, 2, none⟩ = some (.bool b3) := by subst hW1; go_simp
  clear hW1 
  have p0 := p0n
  have p1 := p1n
  have p2 := p2n
  have q0 := q0n
  have q1 := q1n
  have q2 := q2n
  clear p0n p1n p2n q0n q1n q2n 
  go_wp2_with fail
  refine (via (w0 := W1) (by go_grown) (c_counted _)).mono ?_
  rintro e W2 ⟨rfl, hc, hf, hz, hB⟩
  have p0n : W2.cell? ⟨w.heap.size, 0, none⟩ = some (.int .i64 a1) := (hc _ _ (cell_lt p0)).trans p0
  clear p0
  have p0 := p0n
  clear p0n
  have p1n : W2.cell? ⟨w.heap.size, 1, none⟩ = some (.int .i64 a2) := (hc _ _ (cell_lt p1)).trans p1
  clear p1
  have p1 := p1n
  clear p1n
  have p2n : W2.cell? ⟨w.heap.size, 2, none⟩ = some (.bool a3) := (hc _ _ (cell_lt p2)).trans p2
  clear p2
  have p2 := p2n
  clear p2n
  have q0n : W2.cell? ⟨w.heap.size + 1, 0, none⟩ = some (.int .i64 b1) := (hc _ _ (cell_lt q0)).trans q0
  clear q0
  have q0 := q0n
  clear q0n
  have q1n : W2.cell? ⟨w.heap.size + 1, 1, none⟩ = some (.int .i64 b2) := (hc _ _ (cell_lt q1)).trans q1
  clear q1
  have q1 := q1n
  clear q1n
  have q2n : W2.cell? ⟨w.heap.size + 1, 2, none⟩ = some (.bool b3) := (hc _ _ (cell_lt q2)).trans q2
  clear q2
  have q2 := q2n
  clear q2n
  have hbn : Below w.heap.size w W2 := bthen hb0 hB
  clear hb0
  have hb0 := hbn
  clear hbn
  have hzW2 : W1.heap.size ≤ W2.heap.size := hz
  clear hc hf hB hz
  go_wp2_with fail
  go_ret
  exact ⟨rfl, by have hbz := hb0.size; go_grown⟩

set_option maxRecDepth 100000 in
set_option maxHeartbeats 8000000 in
theorem walk_ok {w : World} (a1 a2 : Int) (a3 : Bool) (b1 b2 : Int) (b3 : Bool) (l : List Iv) (a : Option Addr) (cap : Nat) (hm : l.length ≤ maxLen) (h : ¬ 250 < l.length) (hl : Ivs w a l) :
    Calls Try.prog 14 #[.agg #[.int .i64 a1, .int .i64 a2, .bool a3], .agg #[.int .i64 b1, .int .i64 b2, .bool b3], .slice a l.length cap] w fun e w' => e = .returned (.bool true) ∧ Below w.heap.size w w' := by
  unfold maxLen at hm
  have h' : ¬ (250 : Int) < (l.length : Int) := by omega
  have hA := fun W (hb : Below w.heap.size w W) => c_Sum l a cap W (hl.later hb)
  have hB := fun W (hb : Below w.heap.size w W) => c_rSum l a cap W (hl.later hb)
  have hC := fun W => c_Both ⟨a1, a2, a3⟩ ⟨b1, b2, b3⟩ W
  have hD := fun W => c_rBoth ⟨a1, a2, a3⟩ ⟨b1, b2, b3⟩ W
  have hE := fun W => c_Less ⟨a1, a2, a3⟩ ⟨b1, b2, b3⟩ W
  have hF := fun W => c_rLess ⟨a1, a2, a3⟩ ⟨b1, b2, b3⟩ W
  generalize sumV l = sv at hA hB
  generalize bothV ⟨a1, a2, a3⟩ ⟨b1, b2, b3⟩ = bv at hC hD
  generalize lessV ⟨a1, a2, a3⟩ ⟨b1, b2, b3⟩ = lv at hE hF
  obtain ⟨⟨s1, s2, s3⟩, s4⟩ := sv
  obtain ⟨v1, v2, v3⟩ := bv
  obtain ⟨u1, u2, u3⟩ := lv
  have HA := Lib.hid hA
  have HB := Lib.hid hB
  have HC := Lib.hid hC
  have HD := Lib.hid hD
  have HE := Lib.hid hE
  have HF := Lib.hid hF
  clear hA hB hC hD hE hF hl
  go_enter Try.func14, Try.ntmps14
  go_upto_region 1 with (fail)
  go_name_world W1 hW1
  have hbn : Below w.heap.size w W1 := by subst hW1; go_grown
  have hb0 := hbn
  clear hbn
  have p0n : W1.cell? ⟨w.heap.size, 0, none⟩ = some (.int .i64 a1) := by subst hW1; go_simp
  have p1n : W1.cell? ⟨w.heap.size, 1, none⟩ = some (.int .i64 a2) := by subst hW1; go_simp
  have p2n : W1.cell? ⟨w.heap.size, 2, none⟩ = some (.bool a3) := by subst hW1; go_simp
  have q0n : W1.cell? ⟨w.heap.size + 1, 0, none⟩ = some (.int .i64 b1) := by subst hW1; go_simp
  have q1n : W1.cell? ⟨w.heap.size + 1, 1, none⟩ = some (.int .i64 b2) := by subst hW1; go_simp
  have q2n : W1.cell? ⟨w.heap.size + 1, 2, none⟩ = some (.bool b3) := by subst hW1; go_simp
  clear hW1 
  have p0 := p0n
  have p1 := p1n
  have p2 := p2n
  have q0 := q0n
  have q1 := q1n
  have q2 := q2n
  clear p0n p1n p2n q0n q1n q2n 
  go_wp2_with fail
  refine (via (w0 := W1) (by go_grown) (HA.out _ hb0)).mono ?_
  rintro e W2 ⟨rfl, hc, hf, hz, hB⟩
  have p0n : W2.cell? ⟨w.heap.size, 0, none⟩ = some (.int .i64 a1) := (hc _ _ (cell_lt p0)).trans p0
  clear p0
  have p0 := p0n
  clear p0n
  have p1n : W2.cell? ⟨w.heap.size, 1, none⟩ = some (.int .i64 a2) := (hc _ _ (cell_lt p1)).trans p1
  clear p1
  have p1 := p1n
  clear p1n
  have p2n : W2.cell? ⟨w.heap.size, 2, none⟩ = some (.bool a3) := (hc _ _ (cell_lt p2)).trans p2
  clear p2
  have p2 := p2n
  clear p2n
  have q0n : W2.cell? ⟨w.heap.size + 1, 0, none⟩ = some (.int .i64 b1) := (hc _ _ (cell_lt q0)).trans q0
  clear q0
  have q0 := q0n
  clear q0n
  have q1n : W2.cell? ⟨w.heap.size + 1, 1, none⟩ = some (.int .i64 b2) := (hc _ _ (cell_lt q1)).trans q1
  clear q1
  have q1 := q1n
  clear q1n
  have q2n : W2.cell? ⟨w.heap.size + 1, 2, none⟩ = some (.bool b3) := (hc _ _ (cell_lt q2)).trans q2
  clear q2
  have q2 := q2n
  clear q2n
  have hbn : Below w.heap.size w W2 := bthen hb0 hB
  clear hb0
  have hb0 := hbn
  clear hbn
  have hzW2 : W1.heap.size ≤ W2.heap.size := hz
  clear hc hf hB hz
  go_upto_region 4 with (fail)
  go_name_world W3 hW3
  have hbz := hb0.size
  have hbn : Below w.heap.size w W3 := by subst hW3; go_grown
  clear hb0 hbz
  have hb0 := hbn
  clear hbn
  have hbk : Below W2.heap.size W2 W3 := by subst hW3; go_grown
  have p0n : W3.cell? ⟨w.heap.size, 0, none⟩ = some (.int .i64 a1) := ((bcell hbk).1 _ _ (cell_lt p0)).trans p0
  have p1n : W3.cell? ⟨w.heap.size, 1, none⟩ = some (.int .i64 a2) := ((bcell hbk).1 _ _ (cell_lt p1)).trans p1
  have p2n : W3.cell? ⟨w.heap.size, 2, none⟩ = some (.bool a3) := ((bcell hbk).1 _ _ (cell_lt p2)).trans p2
  have q0n : W3.cell? ⟨w.heap.size + 1, 0, none⟩ = some (.int .i64 b1) := ((bcell hbk).1 _ _ (cell_lt q0)).trans q0
  have q1n : W3.cell? ⟨w.heap.size + 1, 1, none⟩ = some (.int .i64 b2) := ((bcell hbk).1 _ _ (cell_lt q1)).trans q1
  have q2n : W3.cell? ⟨w.heap.size + 1, 2, none⟩ = some (.bool b3) := ((bcell hbk).1 _ _ (cell_lt q2)).trans q2
  clear hbk
  have x0n : W3.cell? ⟨W2.heap.size, 0, none⟩ = some (.int .i64 s1) := by subst hW3; go_simp
  have x1n : W3.cell? ⟨W2.heap.size, 1, none⟩ = some (.int .i64 s2) := by subst hW3; go_simp
  have x2n : W3.cell? ⟨W2.heap.size, 2, none⟩ = some (.bool s3) := by subst hW3; go_simp
  clear hW3 p0 p1 p2 q0 q1 q2
  have p0 := p0n
  have p1 := p1n
  have p2 := p2n
  have q0 := q0n
  have q1 := q1n
  have q2 := q2n
  have x0 := x0n
  have x1 := x1n
  have x2 := x2n
  clear p0n p1n p2n q0n q1n q2n x0n x1n x2n 
  go_wp2_with fail
  refine (via (w0 := W3) (by go_grown) (HB.out _ hb0)).mono ?_
  rintro e W4 ⟨rfl, hc, hf, hz, hB⟩
  have p0n : W4.cell? ⟨w.heap.size, 0, none⟩ = some (.int .i64 a1) := (hc _ _ (cell_lt p0)).trans p0
  clear p0
  have p0 := p0n
  clear p0n
  have p1n : W4.cell? ⟨w.heap.size, 1, none⟩ = some (.int .i64 a2) := (hc _ _ (cell_lt p1)).trans p1
  clear p1
  have p1 := p1n
  clear p1n
  have p2n : W4.cell? ⟨w.heap.size, 2, none⟩ = some (.bool a3) := (hc _ _ (cell_lt p2)).trans p2
  clear p2
  have p2 := p2n
  clear p2n
  have q0n : W4.cell? ⟨w.heap.size + 1, 0, none⟩ = some (.int .i64 b1) := (hc _ _ (cell_lt q0)).trans q0
  clear q0
  have q0 := q0n
  clear q0n
  have q1n : W4.cell? ⟨w.heap.size + 1, 1, none⟩ = some (.int .i64 b2) := (hc _ _ (cell_lt q1)).trans q1
  clear q1
  have q1 := q1n
  clear q1n
  have q2n : W4.cell? ⟨w.heap.size + 1, 2, none⟩ = some (.bool b3) := (hc _ _ (cell_lt q2)).trans q2
  clear q2
  have q2 := q2n
  clear q2n
  have x0n : W4.cell? ⟨W2.heap.size, 0, none⟩ = some (.int .i64 s1) := (hc _ _ (cell_lt x0)).trans x0
  clear x0
  have x0 := x0n
  clear x0n
  have x1n : W4.cell? ⟨W2.heap.size, 1, none⟩ = some (.int .i64 s2) := (hc _ _ (cell_lt x1)).trans x1
  clear x1
  have x1 := x1n
  clear x1n
  have x2n : W4.cell? ⟨W2.heap.size, 2, none⟩ = some (.bool s3) := (hc _ _ (cell_lt x2)).trans x2
  clear x2
  have x2 := x2n
  clear x2n
  have hbn : Below w.heap.size w W4 := bthen hb0 hB
  clear hb0
  have hb0 := hbn
  clear hbn
  have hzW4 : W3.heap.size ≤ W4.heap.size := hz
  clear hc hf hB hz
  go_upto_region 5 with (fail)
  go_name_world W5 hW5
  have hbz := hb0.size
  have hbn : Below w.heap.size w W5 := by subst hW5; go_grown
  clear hb0 hbz
  have hb0 := hbn
  clear hbn
  have hbk : Below W4.heap.size W4 W5 := by subst hW5; go_grown
  have p0n : W5.cell? ⟨w.heap.size, 0, none⟩ = some (.int .i64 a1) := ((bcell hbk).1 _ _ (cell_lt p0)).trans p0
  have p1n : W5.cell? ⟨w.heap.size, 1, none⟩ = some (.int .i64 a2) := ((bcell hbk).1 _ _ (cell_lt p1)).trans p1
  have p2n : W5.cell? ⟨w.heap.size, 2, none⟩ = some (.bool a3) := ((bcell hbk).1 _ _ (cell_lt p2)).trans p2
  have q0n : W5.cell? ⟨w.heap.size + 1, 0, none⟩ = some (.int .i64 b1) := ((bcell hbk).1 _ _ (cell_lt q0)).trans q0
  have q1n : W5.cell? ⟨w.heap.size + 1, 1, none⟩ = some (.int .i64 b2) := ((bcell hbk).1 _ _ (cell_lt q1)).trans q1
  have q2n : W5.cell? ⟨w.heap.size + 1, 2, none⟩ = some (.bool b3) := ((bcell hbk).1 _ _ (cell_lt q2)).trans q2
  have x0n : W5.cell? ⟨W2.heap.size, 0, none⟩ = some (.int .i64 s1) := ((bcell hbk).1 _ _ (cell_lt x0)).trans x0
  have x1n : W5.cell? ⟨W2.heap.size, 1, none⟩ = some (.int .i64 s2) := ((bcell hbk).1 _ _ (cell_lt x1)).trans x1
  have x2n : W5.cell? ⟨W2.heap.size, 2, none⟩ = some (.bool s3) := ((bcell hbk).1 _ _ (cell_lt x2)).trans x2
  clear hbk
  have y0n : W5.cell? ⟨W4.heap.size, 0, none⟩ = some (.int .i64 s1) := by subst hW5; go_simp
  have y1n : W5.cell? ⟨W4.heap.size, 1, none⟩ = some (.int .i64 s2) := by subst hW5; go_simp
  have y2n : W5.cell? ⟨W4.heap.size, 2, none⟩ = some (.bool s3) := by subst hW5; go_simp
  clear hW5 p0 p1 p2 q0 q1 q2 x0 x1 x2
  have p0 := p0n
  have p1 := p1n
  have p2 := p2n
  have q0 := q0n
  have q1 := q1n
  have q2 := q2n
  have x0 := x0n
  have x1 := x1n
  have x2 := x2n
  have y0 := y0n
  have y1 := y1n
  have y2 := y2n
  clear p0n p1n p2n q0n q1n q2n x0n x1n x2n y0n y1n y2n 
  go_wp2_with fail
  have kp0 := later_cell p0
  have kp1 := later_cell p1
  have kp2 := later_cell p2
  have kq0 := later_cell q0
  have kq1 := later_cell q1
  have kq2 := later_cell q2
  have kx0 := later_cell x0
  have kx1 := later_cell x1
  have kx2 := later_cell x2
  have ky0 := later_cell y0
  have ky1 := later_cell y1
  have ky2 := later_cell y2
  refine wp_region_later W5 (by kernel_rfl) (by kernel_rfl) (Below.refl _ _) ?_
  repeat (go_big_quiet_step (first | (go_at_call 20; with_reducible exact in_region (c_counted _)) | (go_at_call 53; with_reducible exact in_region (HC.out _)) | (go_at_call 56; with_reducible exact in_region (HD.out _)) | (go_at_call 57; with_reducible exact in_region (HE.out _)) | (go_at_call 58; with_reducible exact in_region (HF.out _))))
  refine wpQuiet_nil ?_
  rintro ⟨W6, hB⟩
  dsimp only
  have hc := (bcell hB).1
  have hf := (bcell hB).2
  have hz := hB.size
  clear kp0 kp1 kp2 kq0 kq1 kq2 kx0 kx1 kx2 ky0 ky1 ky2
  have p0n : W6.cell? ⟨w.heap.size, 0, none⟩ = some (.int .i64 a1) := (hc _ _ (cell_lt p0)).trans p0
  clear p0
  have p0 := p0n
  clear p0n
  have p1n : W6.cell? ⟨w.heap.size, 1, none⟩ = some (.int .i64 a2) := (hc _ _ (cell_lt p1)).trans p1
  clear p1
  have p1 := p1n
  clear p1n
  have p2n : W6.cell? ⟨w.heap.size, 2, none⟩ = some (.bool a3) := (hc _ _ (cell_lt p2)).trans p2
  clear p2
  have p2 := p2n
  clear p2n
  have q0n : W6.cell? ⟨w.heap.size + 1, 0, none⟩ = some (.int .i64 b1) := (hc _ _ (cell_lt q0)).trans q0
  clear q0
  have q0 := q0n
  clear q0n
  have q1n : W6.cell? ⟨w.heap.size + 1, 1, none⟩ = some (.int .i64 b2) := (hc _ _ (cell_lt q1)).trans q1
  clear q1
  have q1 := q1n
  clear q1n
  have q2n : W6.cell? ⟨w.heap.size + 1, 2, none⟩ = some (.bool b3) := (hc _ _ (cell_lt q2)).trans q2
  clear q2
  have q2 := q2n
  clear q2n
  have x0n : W6.cell? ⟨W2.heap.size, 0, none⟩ = some (.int .i64 s1) := (hc _ _ (cell_lt x0)).trans x0
  clear x0
  have x0 := x0n
  clear x0n
  have x1n : W6.cell? ⟨W2.heap.size, 1, none⟩ = some (.int .i64 s2) := (hc _ _ (cell_lt x1)).trans x1
  clear x1
  have x1 := x1n
  clear x1n
  have x2n : W6.cell? ⟨W2.heap.size, 2, none⟩ = some (.bool s3) := (hc _ _ (cell_lt x2)).trans x2
  clear x2
  have x2 := x2n
  clear x2n
  have y0n : W6.cell? ⟨W4.heap.size, 0, none⟩ = some (.int .i64 s1) := (hc _ _ (cell_lt y0)).trans y0
  clear y0
  have y0 := y0n
  clear y0n
  have y1n : W6.cell? ⟨W4.heap.size, 1, none⟩ = some (.int .i64 s2) := (hc _ _ (cell_lt y1)).trans y1
  clear y1
  have y1 := y1n
  clear y1n
  have y2n : W6.cell? ⟨W4.heap.size, 2, none⟩ = some (.bool s3) := (hc _ _ (cell_lt y2)).trans y2
  clear y2
  have y2 := y2n
  clear y2n
  have hbn : Below w.heap.size w W6 := bthen hb0 hB
  clear hb0
  have hb0 := hbn
  clear hbn
  have hzW6 : W5.heap.size ≤ W6.heap.size := hz
  clear hc hf hB hz
  go_wp2_with fail
  go_ret
  exact ⟨rfl, by have hbz := hb0.size; go_grown⟩

set_option maxRecDepth 100000 in
set_option maxHeartbeats 8000000 in
theorem walk {w : World} (a1 a2 : Int) (a3 : Bool) (b1 b2 : Int) (b3 : Bool) (l : List Iv) (a : Option Addr) (cap : Nat) (hm : l.length ≤ maxLen) (hl : l.length ≤ 1000000000000 → Ivs w a l) :
    Calls Try.prog 14 #[.agg #[.int .i64 a1, .int .i64 a2, .bool a3], .agg #[.int .i64 b1, .int .i64 b2, .bool b3], .slice a l.length cap] w fun e w' => e = .returned (.bool true) ∧ Below w.heap.size w w' := by
  by_cases h : 250 < l.length
  · exact walk_many a1 a2 a3 b1 b2 b3 l a cap hm h
  · exact walk_ok a1 a2 a3 b1 b2 b3 l a cap hm h (hl (by omega))


set_option maxRecDepth 100000 in
theorem lifted (os : Os) (started : os.Started) (H : Type) (enc : TypeId × Value → H) :
    ReturnsInHanded {} Try.checked os 14 .any (Rows.tallyIntervalsSpec.pre6 enc Try.prog Try.f14 Rows.tallyIntervalsRow.domain false) (Rows.tallyIntervalsSpec.post enc Try.prog Try.f14 false true false false) := by
  refine returnsInHanded_of_change (C := Try.checked) own started (by kernel_rfl) Try.func14
    (ChangeSpec.witness6 (enc := enc) (C := Try.checked) false ⟨#[], #[.agg #[.int .i64 0, .int .i64 0, .bool false], .agg #[.int .i64 0, .int .i64 0, .bool false], .slice none 0 0], []⟩ 8 (by kernel_rfl) (by kernel_rfl) (by kernel_rfl) (by kernel_rfl)) ?_
  intro W base args ds gs before hval0 hW _ _
  have hval : ∀ (j : Nat) t v, Try.f14.params[j]? = some t → args[j]? = some v → Value.okWide Try.prog W .any base t v := hval0
  have hW' := hW
  obtain ⟨p, q, hA0, hV, rfl, _, _⟩ := hW
  have hA : DataW.TrodAll enc Try.prog W 0 (fun _ => true) true Try.f14.params.toList args.toList ds p := hA0
  rw [Try.params14] at hA hval
  obtain ⟨v0, vs0, d0, ds0, p0, q0, hargs, rfl, rfl, h0, r0⟩ := trodAll_cons hA
  obtain ⟨v1, vs1, d1, ds1, p1, q1, rfl, rfl, rfl, h1, r1⟩ := trodAll_cons r0
  obtain ⟨v2, vs2, d2, ds2, p2, q2, rfl, rfl, rfl, h2, r2⟩ := trodAll_cons r1
  obtain ⟨rfl, rfl, rfl⟩ := trodAll_nil r2
  obtain rfl : args = #[v0, v1, v2] := by cases args; simp_all
  obtain ⟨rfl, rfl⟩ := trodVars_none hV
  obtain ⟨c0x0, c0x1, c0x2, y0x0, y0x1, y0x2, m0, rfl, rfl, rfl, hy0x0, hy0x1, hy0x2⟩ := open_agg3 Try.underlying33 (by kernel_rfl) (by kernel_rfl) (hval 0 33 v0 rfl rfl) h0
  obtain ⟨a0x0, e0x0, rfl, w0x0⟩ := DataW.trod_int Try.underlying3 hy0x0
  obtain ⟨a0x1, e0x1, rfl, w0x1⟩ := DataW.trod_int Try.underlying3 hy0x1
  obtain ⟨a0x2, e0x2, rfl⟩ := DataW.trod_bool Try.underlying4 hy0x2
  simp only [List.cons.injEq, and_true] at e0x0 e0x1 e0x2
  subst e0x0 e0x1 e0x2
  obtain ⟨c1x0, c1x1, c1x2, y1x0, y1x1, y1x2, m1, rfl, rfl, rfl, hy1x0, hy1x1, hy1x2⟩ := open_agg3 Try.underlying33 (by kernel_rfl) (by kernel_rfl) (hval 1 33 v1 rfl rfl) h1
  obtain ⟨a1x0, e1x0, rfl, w1x0⟩ := DataW.trod_int Try.underlying3 hy1x0
  obtain ⟨a1x1, e1x1, rfl, w1x1⟩ := DataW.trod_int Try.underlying3 hy1x1
  obtain ⟨a1x2, e1x2, rfl⟩ := DataW.trod_bool Try.underlying4 hy1x2
  simp only [List.cons.injEq, and_true] at e1x0 e1x1 e1x2
  subst e1x0 e1x1 e1x2
  obtain ⟨b2, l2, k2, rfl, m2, e2⟩ := open_ivs (fun _ _ => hval 2 74 v2 rfl rfl) h2
  clear hA0 hval0
  have s0 := stays h0 (by kernel_rfl) (by kernel_rfl)
  have s1 := stays h1 (by kernel_rfl) (by kernel_rfl)
  refine (walk a0x0 a0x1 a0x2 a1x0 a1x1 a1x2 l2 b2 k2 m2 e2).mono fun e W' ⟨he, hg⟩ => ?_
  subst he
  have hlt := fun x hx => hW'.lt x hx
  exact ⟨_, rfl, post_of_below (pa := ([] ++ ([] ++ (p2 ++ [])))) (pv := []) hW' (fun _ _ _ => (trodAll_cons_mk (shut_bool Try.underlying4 _) trodAll_mk0)) (fun sp hsp => (trodAll_cons_mk (s0 _ _) (trodAll_cons_mk (s1 _ _) (trodAll_cons_mk (staysB h2 (by kernel_rfl) (by kernel_rfl) hg hlt (fun x hx => by simp [hx]) sp hsp) trodAll_mk0)))) (fun _ _ => rfl) rfl
    hg (ok_one (by kernel_rfl) rfl (okWide_bool_mk Try.underlying4 _))⟩

theorem over : Rows.tallyIntervalsRow.holds Try.pinned (OpenSpec.ofChange Rows.tallyIntervalsSpec) :=
  OpenClaim.holds_of_wide 14 Try.f14 rfl rfl rfl rfl rfl rfl rfl ⟨rfl, rfl, rfl, rfl, rfl⟩ rfl rfl rfl rfl rfl (by kernel_rfl) Try.func14 (by kernel_rfl)
    (of_decide_eq_true (by kernel_rfl)) (by unfold Func.isWrapper; first | (rw [if_pos (by decide +kernel)]; kernel_rfl) | (rw [if_neg (by decide +kernel)]; exact ⟨rfl, rfl⟩))
    (fun os started H enc _ => lifted os started H enc)

theorem proved : Rows.TallyIntervalsSaid :=
  over
end Go.Proofs.Ytokpjaodchcheaa.tallyIntervals
