/- This text proves that the law TallyCounts holds: for every rate, two integers and tally it returns true, and they read behind the call as they read before. -/
import Derived.Test.YtokpjaodchcheaaShut
import Derived.Test.YtokpjaodchcheaaRows
import Derived.Test.YtokpjaodchcheaaRefCounts
namespace Go.Proofs.Ytokpjaodchcheaa.tallyCounts
open Go.ChangeShapes Go.WideShapes Go.ChangeAt Go.RowKit Go.Joins Go.Deep

set_option maxRecDepth 100000 in
set_option maxHeartbeats 8000000 in
theorem walk (m d n c i da s k wo : Int) (w : World) :
    Calls Try.prog 9 #[.agg #[.int .i64 m, .int .i64 d], .int .i64 n, .int .i64 c, .agg #[.int .i64 i, .int .i64 da, .int .i64 s, .int .i64 k, .int .i64 wo]] w fun e w' => e = .returned (.bool true) ∧ Below w.heap.size w w' := by
  obtain ⟨f1, f2, fe⟩ : ∃ f1  f2, (if okNC m d n c then Value.tuple #[.bool (fitsB m d n c), .int .i64 0] else Value.tuple #[.bool false, .int .i64 1]) = Value.tuple #[.bool f1, .int .i64 f2] := by
    split <;> exact ⟨_, _, rfl⟩
  have hf1 := fun W => c_Fits m d n c W
  have hf2 := fun W => c_rFits m d n c W
  rw [fe] at hf1 hf2
  have F1 := Lib.hid hf1
  have F2 := Lib.hid hf2
  clear hf1 hf2 fe
  obtain ⟨g1, g2, g3, ge⟩ : ∃ g1  g2  g3, (if okN m d n then Value.tuple #[.int .i64 (lowN m n), .int .i64 (highN d n), .int .i64 0] else Value.tuple #[.int .i64 0, .int .i64 0, .int .i64 1]) = Value.tuple #[.int .i64 g1, .int .i64 g2, .int .i64 g3] := by
    split <;> exact ⟨_, _, _, rfl⟩
  have hg1 := fun W => c_Shown m d n W
  have hg2 := fun W => c_rShown m d n W
  rw [ge] at hg1 hg2
  have G1 := Lib.hid hg1
  have G2 := Lib.hid hg2
  clear hg1 hg2 ge
  obtain ⟨r1, r1e⟩ : ∃ x, errB (rateB m d) = x := ⟨_, rfl⟩
  have k1 := fun W => c_CheckRate m d W
  have k2 := fun W => c_rCheckRate m d W
  rw [r1e] at k1 k2
  have K1 := Lib.hid k1
  have K2 := Lib.hid k2
  obtain ⟨r2, r2e⟩ : ∃ x, errB (countB i da s k wo) = x := ⟨_, rfl⟩
  have k3 := fun W => c_CheckCount i da s k wo W
  have k4 := fun W => c_rCheckCount i da s k wo W
  rw [r2e] at k3 k4
  have K3 := Lib.hid k3
  have K4 := Lib.hid k4
  clear k1 k2 k3 k4 r1e r2e
  obtain ⟨t1, t2, t3, t4, te⟩ : ∃ t1  t2  t3  t4, (if okTC m d c then Value.tuple #[(fitIv m d c c).v, .int .i64 0] else Value.tuple #[Iv.none.v, .int .i64 1]) = Value.tuple #[.agg #[.int .i64 t1, .int .i64 t2, .bool t3], .int .i64 t4] := by
    split <;> exact ⟨_, _, _, _, rfl⟩
  have ht1 := fun W => c_True m d c W
  have ht2 := fun W => c_rTrue m d c W
  rw [te] at ht1 ht2
  have T1 := Lib.hid ht1
  have T2 := Lib.hid ht2
  clear ht1 ht2 te
  obtain ⟨o1, o2, o3, o4, oe⟩ : ∃ o1  o2  o3  o4, (if okTT m d i da s k wo then Value.tuple #[(fitIv m d k (k + wo)).v, .int .i64 0] else Value.tuple #[Iv.none.v, .int .i64 1]) = Value.tuple #[.agg #[.int .i64 o1, .int .i64 o2, .bool o3], .int .i64 o4] := by
    split <;> exact ⟨_, _, _, _, rfl⟩
  have ho1 := fun W => c_OfCount m d i da s k wo W
  have ho2 := fun W => c_rOfCount m d i da s k wo W
  rw [oe] at ho1 ho2
  have O1 := Lib.hid ho1
  have O2 := Lib.hid ho2
  clear ho1 ho2 oe
  obtain ⟨a1, a2, ae⟩ : ∃ a1  a2, (if okTT m d i da s k wo then Value.tuple #[.int .i64 (fitIv m d k k).lo, .int .i64 0] else Value.tuple #[.int .i64 0, .int .i64 1]) = Value.tuple #[.int .i64 a1, .int .i64 a2] := by
    split <;> exact ⟨_, _, rfl⟩
  have ha1 := fun W => c_Gathered m d i da s k wo W
  have ha2 := fun W => c_rGathered m d i da s k wo W
  rw [ae] at ha1 ha2
  have A1 := Lib.hid ha1
  have A2 := Lib.hid ha2
  clear ha1 ha2 ae
  go_enter Try.func9, Try.ntmps9
  go_upto_region 1 with (fail)
  go_name_world W1 hW1
  have hbn : Below w.heap.size w W1 := by subst hW1; go_grown
  have hb0 := hbn
  clear hbn
  have p0n : W1.cell? ⟨w.heap.size, 0, none⟩ = some (.int .i64 m) := by subst hW1; go_simp
  have p1n : W1.cell? ⟨w.heap.size, 1, none⟩ = some (.int .i64 d) := by subst hW1; go_simp
  have q0n : W1.cell? ⟨w.heap.size + 1, 0, none⟩ = some (.int .i64 i) := by subst hW1; go_simp
  have q1n : W1.cell? ⟨w.heap.size + 1, 1, none⟩ = some (.int .i64 da) := by subst hW1; go_simp
  have q2n : W1.cell? ⟨w.heap.size + 1, 2, none⟩ = some (.int .i64 s) := by subst hW1; go_simp
  have q3n : W1.cell? ⟨w.heap.size + 1, 3, none⟩ = some (.int .i64 k) := by subst hW1; go_simp
  have q4n : W1.cell? ⟨w.heap.size + 1, 4, none⟩ = some (.int .i64 wo) := by subst hW1; go_simp
  clear hW1 
  have p0 := p0n
  have p1 := p1n
  have q0 := q0n
  have q1 := q1n
  have q2 := q2n
  have q3 := q3n
  have q4 := q4n
  clear p0n p1n q0n q1n q2n q3n q4n 
  go_wp2_with fail
  refine (via (w0 := W1) (by go_grown) (F1.out _)).mono ?_
  rintro e W2 ⟨rfl, hc, hf, hz, hB⟩
  have p0n : W2.cell? ⟨w.heap.size, 0, none⟩ = some (.int .i64 m) := (hc _ _ (cell_lt p0)).trans p0
  clear p0
  have p0 := p0n
  clear p0n
  have p1n : W2.cell? ⟨w.heap.size, 1, none⟩ = some (.int .i64 d) := (hc _ _ (cell_lt p1)).trans p1
  clear p1
  have p1 := p1n
  clear p1n
  have q0n : W2.cell? ⟨w.heap.size + 1, 0, none⟩ = some (.int .i64 i) := (hc _ _ (cell_lt q0)).trans q0
  clear q0
  have q0 := q0n
  clear q0n
  have q1n : W2.cell? ⟨w.heap.size + 1, 1, none⟩ = some (.int .i64 da) := (hc _ _ (cell_lt q1)).trans q1
  clear q1
  have q1 := q1n
  clear q1n
  have q2n : W2.cell? ⟨w.heap.size + 1, 2, none⟩ = some (.int .i64 s) := (hc _ _ (cell_lt q2)).trans q2
  clear q2
  have q2 := q2n
  clear q2n
  have q3n : W2.cell? ⟨w.heap.size + 1, 3, none⟩ = some (.int .i64 k) := (hc _ _ (cell_lt q3)).trans q3
  clear q3
  have q3 := q3n
  clear q3n
  have q4n : W2.cell? ⟨w.heap.size + 1, 4, none⟩ = some (.int .i64 wo) := (hc _ _ (cell_lt q4)).trans q4
  clear q4
  have q4 := q4n
  clear q4n
  have hbn : Below w.heap.size w W2 := bthen hb0 hB
  clear hb0
  have hb0 := hbn
  clear hbn
  have hzW2 : W1.heap.size ≤ W2.heap.size := hz
  clear hc hf hB hz
  go_wp2_with fail
  refine (via (w0 := W2) (by go_grown) (F2.out _)).mono ?_
  rintro e W3 ⟨rfl, hc, hf, hz, hB⟩
  have p0n : W3.cell? ⟨w.heap.size, 0, none⟩ = some (.int .i64 m) := (hc _ _ (cell_lt p0)).trans p0
  clear p0
  have p0 := p0n
  clear p0n
  have p1n : W3.cell? ⟨w.heap.size, 1, none⟩ = some (.int .i64 d) := (hc _ _ (cell_lt p1)).trans p1
  clear p1
  have p1 := p1n
  clear p1n
  have q0n : W3.cell? ⟨w.heap.size + 1, 0, none⟩ = some (.int .i64 i) := (hc _ _ (cell_lt q0)).trans q0
  clear q0
  have q0 := q0n
  clear q0n
  have q1n : W3.cell? ⟨w.heap.size + 1, 1, none⟩ = some (.int .i64 da) := (hc _ _ (cell_lt q1)).trans q1
  clear q1
  have q1 := q1n
  clear q1n
  have q2n : W3.cell? ⟨w.heap.size + 1, 2, none⟩ = some (.int .i64 s) := (hc _ _ (cell_lt q2)).trans q2
  clear q2
  have q2 := q2n
  clear q2n
  have q3n : W3.cell? ⟨w.heap.size + 1, 3, none⟩ = some (.int .i64 k) := (hc _ _ (cell_lt q3)).trans q3
  clear q3
  have q3 := q3n
  clear q3n
  have q4n : W3.cell? ⟨w.heap.size + 1, 4, none⟩ = some (.int .i64 wo) := (hc _ _ (cell_lt q4)).trans q4
  clear q4
  have q4 := q4n
  clear q4n
  have hbn : Below w.heap.size w W3 := bthen hb0 hB
  clear hb0
  have hb0 := hbn
  clear hbn
  have hzW3 : W2.heap.size ≤ W3.heap.size := hz
  clear hc hf hB hz
  go_wp2_with fail
  refine (via (w0 := W3) (by go_grown) (G1.out _)).mono ?_
  rintro e W4 ⟨rfl, hc, hf, hz, hB⟩
  have p0n : W4.cell? ⟨w.heap.size, 0, none⟩ = some (.int .i64 m) := (hc _ _ (cell_lt p0)).trans p0
  clear p0
  have p0 := p0n
  clear p0n
  have p1n : W4.cell? ⟨w.heap.size, 1, none⟩ = some (.int .i64 d) := (hc _ _ (cell_lt p1)).trans p1
  clear p1
  have p1 := p1n
  clear p1n
  have q0n : W4.cell? ⟨w.heap.size + 1, 0, none⟩ = some (.int .i64 i) := (hc _ _ (cell_lt q0)).trans q0
  clear q0
  have q0 := q0n
  clear q0n
  have q1n : W4.cell? ⟨w.heap.size + 1, 1, none⟩ = some (.int .i64 da) := (hc _ _ (cell_lt q1)).trans q1
  clear q1
  have q1 := q1n
  clear q1n
  have q2n : W4.cell? ⟨w.heap.size + 1, 2, none⟩ = some (.int .i64 s) := (hc _ _ (cell_lt q2)).trans q2
  clear q2
  have q2 := q2n
  clear q2n
  have q3n : W4.cell? ⟨w.heap.size + 1, 3, none⟩ = some (.int .i64 k) := (hc _ _ (cell_lt q3)).trans q3
  clear q3
  have q3 := q3n
  clear q3n
  have q4n : W4.cell? ⟨w.heap.size + 1, 4, none⟩ = some (.int .i64 wo) := (hc _ _ (cell_lt q4)).trans q4
  clear q4
  have q4 := q4n
  clear q4n
  have hbn : Below w.heap.size w W4 := bthen hb0 hB
  clear hb0
  have hb0 := hbn
  clear hbn
  have hzW4 : W3.heap.size ≤ W4.heap.size := hz
  clear hc hf hB hz
  go_wp2_with fail
  refine (via (w0 := W4) (by go_grown) (G2.out _)).mono ?_
  rintro e W5 ⟨rfl, hc, hf, hz, hB⟩
  have p0n : W5.cell? ⟨w.heap.size, 0, none⟩ = some (.int .i64 m) := (hc _ _ (cell_lt p0)).trans p0
  clear p0
  have p0 := p0n
  clear p0n
  have p1n : W5.cell? ⟨w.heap.size, 1, none⟩ = some (.int .i64 d) := (hc _ _ (cell_lt p1)).trans p1
  clear p1
  have p1 := p1n
  clear p1n
  have q0n : W5.cell? ⟨w.heap.size + 1, 0, none⟩ = some (.int .i64 i) := (hc _ _ (cell_lt q0)).trans q0
  clear q0
  have q0 := q0n
  clear q0n
  have q1n : W5.cell? ⟨w.heap.size + 1, 1, none⟩ = some (.int .i64 da) := (hc _ _ (cell_lt q1)).trans q1
  clear q1
  have q1 := q1n
  clear q1n
  have q2n : W5.cell? ⟨w.heap.size + 1, 2, none⟩ = some (.int .i64 s) := (hc _ _ (cell_lt q2)).trans q2
  clear q2
  have q2 := q2n
  clear q2n
  have q3n : W5.cell? ⟨w.heap.size + 1, 3, none⟩ = some (.int .i64 k) := (hc _ _ (cell_lt q3)).trans q3
  clear q3
  have q3 := q3n
  clear q3n
  have q4n : W5.cell? ⟨w.heap.size + 1, 4, none⟩ = some (.int .i64 wo) := (hc _ _ (cell_lt q4)).trans q4
  clear q4
  have q4 := q4n
  clear q4n
  have hbn : Below w.heap.size w W5 := bthen hb0 hB
  clear hb0
  have hb0 := hbn
  clear hbn
  have hzW5 : W4.heap.size ≤ W5.heap.size := hz
  clear hc hf hB hz
  go_wp2_with fail
  have kp0 := later_cell p0
  have kp1 := later_cell p1
  have kq0 := later_cell q0
  have kq1 := later_cell q1
  have kq2 := later_cell q2
  have kq3 := later_cell q3
  have kq4 := later_cell q4
  refine wp_region_later W5 (by kernel_rfl) (by kernel_rfl) (Below.refl _ _) ?_
  repeat (go_big_quiet_step (first | (go_at_call 37; with_reducible exact in_region (K1.out _)) | (go_at_call 38; with_reducible exact in_region (K2.out _)) | (go_at_call 39; with_reducible exact in_region (K3.out _)) | (go_at_call 40; with_reducible exact in_region (K4.out _))))
  refine wpQuiet_nil ?_
  rintro ⟨W6, hB⟩
  dsimp only
  have hc := (bcell hB).1
  have hf := (bcell hB).2
  have hz := hB.size
  clear kp0 kp1 kq0 kq1 kq2 kq3 kq4
  have p0n : W6.cell? ⟨w.heap.size, 0, none⟩ = some (.int .i64 m) := (hc _ _ (cell_lt p0)).trans p0
  clear p0
  have p0 := p0n
  clear p0n
  have p1n : W6.cell? ⟨w.heap.size, 1, none⟩ = some (.int .i64 d) := (hc _ _ (cell_lt p1)).trans p1
  clear p1
  have p1 := p1n
  clear p1n
  have q0n : W6.cell? ⟨w.heap.size + 1, 0, none⟩ = some (.int .i64 i) := (hc _ _ (cell_lt q0)).trans q0
  clear q0
  have q0 := q0n
  clear q0n
  have q1n : W6.cell? ⟨w.heap.size + 1, 1, none⟩ = some (.int .i64 da) := (hc _ _ (cell_lt q1)).trans q1
  clear q1
  have q1 := q1n
  clear q1n
  have q2n : W6.cell? ⟨w.heap.size + 1, 2, none⟩ = some (.int .i64 s) := (hc _ _ (cell_lt q2)).trans q2
  clear q2
  have q2 := q2n
  clear q2n
  have q3n : W6.cell? ⟨w.heap.size + 1, 3, none⟩ = some (.int .i64 k) := (hc _ _ (cell_lt q3)).trans q3
  clear q3
  have q3 := q3n
  clear q3n
  have q4n : W6.cell? ⟨w.heap.size + 1, 4, none⟩ = some (.int .i64 wo) := (hc _ _ (cell_lt q4)).trans q4
  clear q4
  have q4 := q4n
  clear q4n
  have hbn : Below w.heap.size w W6 := bthen hb0 hB
  clear hb0
  have hb0 := hbn
  clear hbn
  have hzW6 : W5.heap.size ≤ W6.heap.size := hz
  clear hc hf hB hz
  go_wp2_with fail
  refine (via (w0 := W6) (by go_grown) (T1.out _)).mono ?_
  rintro e W7 ⟨rfl, hc, hf, hz, hB⟩
  have p0n : W7.cell? ⟨w.heap.size, 0, none⟩ = some (.int .i64 m) := (hc _ _ (cell_lt p0)).trans p0
  clear p0
  have p0 := p0n
  clear p0n
  have p1n : W7.cell? ⟨w.heap.size, 1, none⟩ = some (.int .i64 d) := (hc _ _ (cell_lt p1)).trans p1
  clear p1
  have p1 := p1n
  clear p1n
  have q0n : W7.cell? ⟨w.heap.size + 1, 0, none⟩ = some (.int .i64 i) := (hc _ _ (cell_lt q0)).trans q0
  clear q0
  have q0 := q0n
  clear q0n
  have q1n : W7.cell? ⟨w.heap.size + 1, 1, none⟩ = some (.int .i64 da) := (hc _ _ (cell_lt q1)).trans q1
  clear q1
  have q1 := q1n
  clear q1n
  have q2n : W7.cell? ⟨w.heap.size + 1, 2, none⟩ = some (.int .i64 s) := (hc _ _ (cell_lt q2)).trans q2
  clear q2
  have q2 := q2n
  clear q2n
  have q3n : W7.cell? ⟨w.heap.size + 1, 3, none⟩ = some (.int .i64 k) := (hc _ _ (cell_lt q3)).trans q3
  clear q3
  have q3 := q3n
  clear q3n
  have q4n : W7.cell? ⟨w.heap.size + 1, 4, none⟩ = some (.int .i64 wo) := (hc _ _ (cell_lt q4)).trans q4
  clear q4
  have q4 := q4n
  clear q4n
  have hbn : Below w.heap.size w W7 := bthen hb0 hB
  clear hb0
  have hb0 := hbn
  clear hbn
  have hzW7 : W6.heap.size ≤ W7.heap.size := hz
  clear hc hf hB hz
  go_upto_region 8 with (fail)
  go_name_world W8 hW8
  have hbz := hb0.size
  have hbn : Below w.heap.size w W8 := by subst hW8; go_grown
  clear hb0 hbz
  have hb0 := hbn
  clear hbn
  have hbk : Below W7.heap.size W7 W8 := by subst hW8; go_grown
  have p0n : W8.cell? ⟨w.heap.size, 0, none⟩ = some (.int .i64 m) := ((bcell hbk).1 _ _ (cell_lt p0)).trans p0
  have p1n : W8.cell? ⟨w.heap.size, 1, none⟩ = some (.int .i64 d) := ((bcell hbk).1 _ _ (cell_lt p1)).trans p1
  have q0n : W8.cell? ⟨w.heap.size + 1, 0, none⟩ = some (.int .i64 i) := ((bcell hbk).1 _ _ (cell_lt q0)).trans q0
  have q1n : W8.cell? ⟨w.heap.size + 1, 1, none⟩ = some (.int .i64 da) := ((bcell hbk).1 _ _ (cell_lt q1)).trans q1
  have q2n : W8.cell? ⟨w.heap.size + 1, 2, none⟩ = some (.int .i64 s) := ((bcell hbk).1 _ _ (cell_lt q2)).trans q2
  have q3n : W8.cell? ⟨w.heap.size + 1, 3, none⟩ = some (.int .i64 k) := ((bcell hbk).1 _ _ (cell_lt q3)).trans q3
  have q4n : W8.cell? ⟨w.heap.size + 1, 4, none⟩ = some (.int .i64 wo) := ((bcell hbk).1 _ _ (cell_lt q4)).trans q4
  clear hbk
  have x0n : W8.cell? ⟨W7.heap.size, 0, none⟩ = some (.int .i64 t1) := by subst hW8; go_simp
  have x1n : W8.cell? ⟨W7.heap.size, 1, none⟩ = some (.int .i64 t2) := by subst hW8; go_simp
  have x2n : W8.cell? ⟨W7.heap.size, 2, none⟩ = some (.bool t3) := by subst hW8; go_simp
  clear hW8 p0 p1 q0 q1 q2 q3 q4
  have p0 := p0n
  have p1 := p1n
  have q0 := q0n
  have q1 := q1n
  have q2 := q2n
  have q3 := q3n
  have q4 := q4n
  have x0 := x0n
  have x1 := x1n
  have x2 := x2n
  clear p0n p1n q0n q1n q2n q3n q4n x0n x1n x2n 
  go_wp2_with fail
  refine (via (w0 := W8) (by go_grown) (T2.out _)).mono ?_
  rintro e W9 ⟨rfl, hc, hf, hz, hB⟩
  have p0n : W9.cell? ⟨w.heap.size, 0, none⟩ = some (.int .i64 m) := (hc _ _ (cell_lt p0)).trans p0
  clear p0
  have p0 := p0n
  clear p0n
  have p1n : W9.cell? ⟨w.heap.size, 1, none⟩ = some (.int .i64 d) := (hc _ _ (cell_lt p1)).trans p1
  clear p1
  have p1 := p1n
  clear p1n
  have q0n : W9.cell? ⟨w.heap.size + 1, 0, none⟩ = some (.int .i64 i) := (hc _ _ (cell_lt q0)).trans q0
  clear q0
  have q0 := q0n
  clear q0n
  have q1n : W9.cell? ⟨w.heap.size + 1, 1, none⟩ = some (.int .i64 da) := (hc _ _ (cell_lt q1)).trans q1
  clear q1
  have q1 := q1n
  clear q1n
  have q2n : W9.cell? ⟨w.heap.size + 1, 2, none⟩ = some (.int .i64 s) := (hc _ _ (cell_lt q2)).trans q2
  clear q2
  have q2 := q2n
  clear q2n
  have q3n : W9.cell? ⟨w.heap.size + 1, 3, none⟩ = some (.int .i64 k) := (hc _ _ (cell_lt q3)).trans q3
  clear q3
  have q3 := q3n
  clear q3n
  have q4n : W9.cell? ⟨w.heap.size + 1, 4, none⟩ = some (.int .i64 wo) := (hc _ _ (cell_lt q4)).trans q4
  clear q4
  have q4 := q4n
  clear q4n
  have x0n : W9.cell? ⟨W7.heap.size, 0, none⟩ = some (.int .i64 t1) := (hc _ _ (cell_lt x0)).trans x0
  clear x0
  have x0 := x0n
  clear x0n
  have x1n : W9.cell? ⟨W7.heap.size, 1, none⟩ = some (.int .i64 t2) := (hc _ _ (cell_lt x1)).trans x1
  clear x1
  have x1 := x1n
  clear x1n
  have x2n : W9.cell? ⟨W7.heap.size, 2, none⟩ = some (.bool t3) := (hc _ _ (cell_lt x2)).trans x2
  clear x2
  have x2 := x2n
  clear x2n
  have hbn : Below w.heap.size w W9 := bthen hb0 hB
  clear hb0
  have hb0 := hbn
  clear hbn
  have hzW9 : W8.heap.size ≤ W9.heap.size := hz
  clear hc hf hB hz
  go_upto_region 9 with (fail)
  go_name_world W10 hW10
  have hbz := hb0.size
  have hbn : Below w.heap.size w W10 := by subst hW10; go_grown
  clear hb0 hbz
  have hb0 := hbn
  clear hbn
  have hbk : Below W9.heap.size W9 W10 := by subst hW10; go_grown
  have p0n : W10.cell? ⟨w.heap.size, 0, none⟩ = some (.int .i64 m) := ((bcell hbk).1 _ _ (cell_lt p0)).trans p0
  have p1n : W10.cell? ⟨w.heap.size, 1, none⟩ = some (.int .i64 d) := ((bcell hbk).1 _ _ (cell_lt p1)).trans p1
  have q0n : W10.cell? ⟨w.heap.size + 1, 0, none⟩ = some (.int .i64 i) := ((bcell hbk).1 _ _ (cell_lt q0)).trans q0
  have q1n : W10.cell? ⟨w.heap.size + 1, 1, none⟩ = some (.int .i64 da) := ((bcell hbk).1 _ _ (cell_lt q1)).trans q1
  have q2n : W10.cell? ⟨w.heap.size + 1, 2, none⟩ = some (.int .i64 s) := ((bcell hbk).1 _ _ (cell_lt q2)).trans q2
  have q3n : W10.cell? ⟨w.heap.size + 1, 3, none⟩ = some (.int .i64 k) := ((bcell hbk).1 _ _ (cell_lt q3)).trans q3
  have q4n : W10.cell? ⟨w.heap.size + 1, 4, none⟩ = some (.int .i64 wo) := ((bcell hbk).1 _ _ (cell_lt q4)).trans q4
  have x0n : W10.cell? ⟨W7.heap.size, 0, none⟩ = some (.int .i64 t1) := ((bcell hbk).1 _ _ (cell_lt x0)).trans x0
  have x1n : W10.cell? ⟨W7.heap.size, 1, none⟩ = some (.int .i64 t2) := ((bcell hbk).1 _ _ (cell_lt x1)).trans x1
  have x2n : W10.cell? ⟨W7.heap.size, 2, none⟩ = some (.bool t3) := ((bcell hbk).1 _ _ (cell_lt x2)).trans x2
  clear hbk
  have y0n : W10.cell? ⟨W9.heap.size, 0, none⟩ = some (.int .i64 t1) := by subst hW10; go_simp
  have y1n : W10.cell? ⟨W9.heap.size, 1, none⟩ = some (.int .i64 t2) := by subst hW10; go_simp
  have y2n : W10.cell? ⟨W9.heap.size, 2, none⟩ = some (.bool t3) := by subst hW10; go_simp
  clear hW10 p0 p1 q0 q1 q2 q3 q4 x0 x1 x2
  have p0 := p0n
  have p1 := p1n
  have q0 := q0n
  have q1 := q1n
  have q2 := q2n
  have q3 := q3n
  have q4 := q4n
  have x0 := x0n
  have x1 := x1n
  have x2 := x2n
  have y0 := y0n
  have y1 := y1n
  have y2 := y2n
  clear p0n p1n q0n q1n q2n q3n q4n x0n x1n x2n y0n y1n y2n 
  go_wp2_with fail
  refine (via (w0 := W10) (by go_grown) (O1.out _)).mono ?_
  rintro e W11 ⟨rfl, hc, hf, hz, hB⟩
  have p0n : W11.cell? ⟨w.heap.size, 0, none⟩ = some (.int .i64 m) := (hc _ _ (cell_lt p0)).trans p0
  clear p0
  have p0 := p0n
  clear p0n
  have p1n : W11.cell? ⟨w.heap.size, 1, none⟩ = some (.int .i64 d) := (hc _ _ (cell_lt p1)).trans p1
  clear p1
  have p1 := p1n
  clear p1n
  have q0n : W11.cell? ⟨w.heap.size + 1, 0, none⟩ = some (.int .i64 i) := (hc _ _ (cell_lt q0)).trans q0
  clear q0
  have q0 := q0n
  clear q0n
  have q1n : W11.cell? ⟨w.heap.size + 1, 1, none⟩ = some (.int .i64 da) := (hc _ _ (cell_lt q1)).trans q1
  clear q1
  have q1 := q1n
  clear q1n
  have q2n : W11.cell? ⟨w.heap.size + 1, 2, none⟩ = some (.int .i64 s) := (hc _ _ (cell_lt q2)).trans q2
  clear q2
  have q2 := q2n
  clear q2n
  have q3n : W11.cell? ⟨w.heap.size + 1, 3, none⟩ = some (.int .i64 k) := (hc _ _ (cell_lt q3)).trans q3
  clear q3
  have q3 := q3n
  clear q3n
  have q4n : W11.cell? ⟨w.heap.size + 1, 4, none⟩ = some (.int .i64 wo) := (hc _ _ (cell_lt q4)).trans q4
  clear q4
  have q4 := q4n
  clear q4n
  have x0n : W11.cell? ⟨W7.heap.size, 0, none⟩ = some (.int .i64 t1) := (hc _ _ (cell_lt x0)).trans x0
  clear x0
  have x0 := x0n
  clear x0n
  have x1n : W11.cell? ⟨W7.heap.size, 1, none⟩ = some (.int .i64 t2) := (hc _ _ (cell_lt x1)).trans x1
  clear x1
  have x1 := x1n
  clear x1n
  have x2n : W11.cell? ⟨W7.heap.size, 2, none⟩ = some (.bool t3) := (hc _ _ (cell_lt x2)).trans x2
  clear x2
  have x2 := x2n
  clear x2n
  have y0n : W11.cell? ⟨W9.heap.size, 0, none⟩ = some (.int .i64 t1) := (hc _ _ (cell_lt y0)).trans y0
  clear y0
  have y0 := y0n
  clear y0n
  have y1n : W11.cell? ⟨W9.heap.size, 1, none⟩ = some (.int .i64 t2) := (hc _ _ (cell_lt y1)).trans y1
  clear y1
  have y1 := y1n
  clear y1n
  have y2n : W11.cell? ⟨W9.heap.size, 2, none⟩ = some (.bool t3) := (hc _ _ (cell_lt y2)).trans y2
  clear y2
  have y2 := y2n
  clear y2n
  have hbn : Below w.heap.size w W11 := bthen hb0 hB
  clear hb0
  have hb0 := hbn
  clear hbn
  have hzW11 : W10.heap.size ≤ W11.heap.size := hz
  clear hc hf hB hz
  go_upto_region 10 with (fail)
  go_name_world W12 hW12
  have hbz := hb0.size
  have hbn : Below w.heap.size w W12 := by subst hW12; go_grown
  clear hb0 hbz
  have hb0 := hbn
  clear hbn
  have hbk : Below W11.heap.size W11 W12 := by subst hW12; go_grown
  have p0n : W12.cell? ⟨w.heap.size, 0, none⟩ = some (.int .i64 m) := ((bcell hbk).1 _ _ (cell_lt p0)).trans p0
  have p1n : W12.cell? ⟨w.heap.size, 1, none⟩ = some (.int .i64 d) := ((bcell hbk).1 _ _ (cell_lt p1)).trans p1
  have q0n : W12.cell? ⟨w.heap.size + 1, 0, none⟩ = some (.int .i64 i) := ((bcell hbk).1 _ _ (cell_lt q0)).trans q0
  have q1n : W12.cell? ⟨w.heap.size + 1, 1, none⟩ = some (.int .i64 da) := ((bcell hbk).1 _ _ (cell_lt q1)).trans q1
  have q2n : W12.cell? ⟨w.heap.size + 1, 2, none⟩ = some (.int .i64 s) := ((bcell hbk).1 _ _ (cell_lt q2)).trans q2
  have q3n : W12.cell? ⟨w.heap.size + 1, 3, none⟩ = some (.int .i64 k) := ((bcell hbk).1 _ _ (cell_lt q3)).trans q3
  have q4n : W12.cell? ⟨w.heap.size + 1, 4, none⟩ = some (.int .i64 wo) := ((bcell hbk).1 _ _ (cell_lt q4)).trans q4
  have x0n : W12.cell? ⟨W7.heap.size, 0, none⟩ = some (.int .i64 t1) := ((bcell hbk).1 _ _ (cell_lt x0)).trans x0
  have x1n : W12.cell? ⟨W7.heap.size, 1, none⟩ = some (.int .i64 t2) := ((bcell hbk).1 _ _ (cell_lt x1)).trans x1
  have x2n : W12.cell? ⟨W7.heap.size, 2, none⟩ = some (.bool t3) := ((bcell hbk).1 _ _ (cell_lt x2)).trans x2
  have y0n : W12.cell? ⟨W9.heap.size, 0, none⟩ = some (.int .i64 t1) := ((bcell hbk).1 _ _ (cell_lt y0)).trans y0
  have y1n : W12.cell? ⟨W9.heap.size, 1, none⟩ = some (.int .i64 t2) := ((bcell hbk).1 _ _ (cell_lt y1)).trans y1
  have y2n : W12.cell? ⟨W9.heap.size, 2, none⟩ = some (.bool t3) := ((bcell hbk).1 _ _ (cell_lt y2)).trans y2
  clear hbk
  have z0n : W12.cell? ⟨W11.heap.size, 0, none⟩ = some (.int .i64 o1) := by subst hW12; go_simp
  have z1n : W12.cell? ⟨W11.heap.size, 1, none⟩ = some (.int .i64 o2) := by subst hW12; go_simp
  have z2n : W12.cell? ⟨W11.heap.size, 2, none⟩ = some (.bool o3) := by subst hW12; go_simp
  clear hW12 p0 p1 q0 q1 q2 q3 q4 x0 x1 x2 y0 y1 y2
  have p0 := p0n
  have p1 := p1n
  have q0 := q0n
  have q1 := q1n
  have q2 := q2n
  have q3 := q3n
  have q4 := q4n
  have x0 := x0n
  have x1 := x1n
  have x2 := x2n
  have y0 := y0n
  have y1 := y1n
  have y2 := y2n
  have z0 := z0n
  have z1 := z1n
  have z2 := z2n
  clear p0n p1n q0n q1n q2n q3n q4n x0n x1n x2n y0n y1n y2n z0n z1n z2n 
  go_wp2_with fail
  refine (via (w0 := W12) (by go_grown) (O2.out _)).mono ?_
  rintro e W13 ⟨rfl, hc, hf, hz, hB⟩
  have p0n : W13.cell? ⟨w.heap.size, 0, none⟩ = some (.int .i64 m) := (hc _ _ (cell_lt p0)).trans p0
  clear p0
  have p0 := p0n
  clear p0n
  have p1n : W13.cell? ⟨w.heap.size, 1, none⟩ = some (.int .i64 d) := (hc _ _ (cell_lt p1)).trans p1
  clear p1
  have p1 := p1n
  clear p1n
  have q0n : W13.cell? ⟨w.heap.size + 1, 0, none⟩ = some (.int .i64 i) := (hc _ _ (cell_lt q0)).trans q0
  clear q0
  have q0 := q0n
  clear q0n
  have q1n : W13.cell? ⟨w.heap.size + 1, 1, none⟩ = some (.int .i64 da) := (hc _ _ (cell_lt q1)).trans q1
  clear q1
  have q1 := q1n
  clear q1n
  have q2n : W13.cell? ⟨w.heap.size + 1, 2, none⟩ = some (.int .i64 s) := (hc _ _ (cell_lt q2)).trans q2
  clear q2
  have q2 := q2n
  clear q2n
  have q3n : W13.cell? ⟨w.heap.size + 1, 3, none⟩ = some (.int .i64 k) := (hc _ _ (cell_lt q3)).trans q3
  clear q3
  have q3 := q3n
  clear q3n
  have q4n : W13.cell? ⟨w.heap.size + 1, 4, none⟩ = some (.int .i64 wo) := (hc _ _ (cell_lt q4)).trans q4
  clear q4
  have q4 := q4n
  clear q4n
  have x0n : W13.cell? ⟨W7.heap.size, 0, none⟩ = some (.int .i64 t1) := (hc _ _ (cell_lt x0)).trans x0
  clear x0
  have x0 := x0n
  clear x0n
  have x1n : W13.cell? ⟨W7.heap.size, 1, none⟩ = some (.int .i64 t2) := (hc _ _ (cell_lt x1)).trans x1
  clear x1
  have x1 := x1n
  clear x1n
  have x2n : W13.cell? ⟨W7.heap.size, 2, none⟩ = some (.bool t3) := (hc _ _ (cell_lt x2)).trans x2
  clear x2
  have x2 := x2n
  clear x2n
  have y0n : W13.cell? ⟨W9.heap.size, 0, none⟩ = some (.int .i64 t1) := (hc _ _ (cell_lt y0)).trans y0
  clear y0
  have y0 := y0n
  clear y0n
  have y1n : W13.cell? ⟨W9.heap.size, 1, none⟩ = some (.int .i64 t2) := (hc _ _ (cell_lt y1)).trans y1
  clear y1
  have y1 := y1n
  clear y1n
  have y2n : W13.cell? ⟨W9.heap.size, 2, none⟩ = some (.bool t3) := (hc _ _ (cell_lt y2)).trans y2
  clear y2
  have y2 := y2n
  clear y2n
  have z0n : W13.cell? ⟨W11.heap.size, 0, none⟩ = some (.int .i64 o1) := (hc _ _ (cell_lt z0)).trans z0
  clear z0
  have z0 := z0n
  clear z0n
  have z1n : W13.cell? ⟨W11.heap.size, 1, none⟩ = some (.int .i64 o2) := (hc _ _ (cell_lt z1)).trans z1
  clear z1
  have z1 := z1n
  clear z1n
  have z2n : W13.cell? ⟨W11.heap.size, 2, none⟩ = some (.bool o3) := (hc _ _ (cell_lt z2)).trans z2
  clear z2
  have z2 := z2n
  clear z2n
  have hbn : Below w.heap.size w W13 := bthen hb0 hB
  clear hb0
  have hb0 := hbn
  clear hbn
  have hzW13 : W12.heap.size ≤ W13.heap.size := hz
  clear hc hf hB hz
  go_upto_region 11 with (fail)
  go_name_world W14 hW14
  have hbz := hb0.size
  have hbn : Below w.heap.size w W14 := by subst hW14; go_grown
  clear hb0 hbz
  have hb0 := hbn
  clear hbn
  have hbk : Below W13.heap.size W13 W14 := by subst hW14; go_grown
  have p0n : W14.cell? ⟨w.heap.size, 0, none⟩ = some (.int .i64 m) := ((bcell hbk).1 _ _ (cell_lt p0)).trans p0
  have p1n : W14.cell? ⟨w.heap.size, 1, none⟩ = some (.int .i64 d) := ((bcell hbk).1 _ _ (cell_lt p1)).trans p1
  have q0n : W14.cell? ⟨w.heap.size + 1, 0, none⟩ = some (.int .i64 i) := ((bcell hbk).1 _ _ (cell_lt q0)).trans q0
  have q1n : W14.cell? ⟨w.heap.size + 1, 1, none⟩ = some (.int .i64 da) := ((bcell hbk).1 _ _ (cell_lt q1)).trans q1
  have q2n : W14.cell? ⟨w.heap.size + 1, 2, none⟩ = some (.int .i64 s) := ((bcell hbk).1 _ _ (cell_lt q2)).trans q2
  have q3n : W14.cell? ⟨w.heap.size + 1, 3, none⟩ = some (.int .i64 k) := ((bcell hbk).1 _ _ (cell_lt q3)).trans q3
  have q4n : W14.cell? ⟨w.heap.size + 1, 4, none⟩ = some (.int .i64 wo) := ((bcell hbk).1 _ _ (cell_lt q4)).trans q4
  have x0n : W14.cell? ⟨W7.heap.size, 0, none⟩ = some (.int .i64 t1) := ((bcell hbk).1 _ _ (cell_lt x0)).trans x0
  have x1n : W14.cell? ⟨W7.heap.size, 1, none⟩ = some (.int .i64 t2) := ((bcell hbk).1 _ _ (cell_lt x1)).trans x1
  have x2n : W14.cell? ⟨W7.heap.size, 2, none⟩ = some (.bool t3) := ((bcell hbk).1 _ _ (cell_lt x2)).trans x2
  have y0n : W14.cell? ⟨W9.heap.size, 0, none⟩ = some (.int .i64 t1) := ((bcell hbk).1 _ _ (cell_lt y0)).trans y0
  have y1n : W14.cell? ⟨W9.heap.size, 1, none⟩ = some (.int .i64 t2) := ((bcell hbk).1 _ _ (cell_lt y1)).trans y1
  have y2n : W14.cell? ⟨W9.heap.size, 2, none⟩ = some (.bool t3) := ((bcell hbk).1 _ _ (cell_lt y2)).trans y2
  have z0n : W14.cell? ⟨W11.heap.size, 0, none⟩ = some (.int .i64 o1) := ((bcell hbk).1 _ _ (cell_lt z0)).trans z0
  have z1n : W14.cell? ⟨W11.heap.size, 1, none⟩ = some (.int .i64 o2) := ((bcell hbk).1 _ _ (cell_lt z1)).trans z1
  have z2n : W14.cell? ⟨W11.heap.size, 2, none⟩ = some (.bool o3) := ((bcell hbk).1 _ _ (cell_lt z2)).trans z2
  clear hbk
  have u0n : W14.cell? ⟨W13.heap.size, 0, none⟩ = some (.int .i64 o1) := by subst hW14; go_simp
  have u1n : W14.cell? ⟨W13.heap.size, 1, none⟩ = some (.int .i64 o2) := by subst hW14; go_simp
  have u2n : W14.cell? ⟨W13.heap.size, 2, none⟩ = some (.bool o3) := by subst hW14; go_simp
  clear hW14 p0 p1 q0 q1 q2 q3 q4 x0 x1 x2 y0 y1 y2 z0 z1 z2
  have p0 := p0n
  have p1 := p1n
  have q0 := q0n
  have q1 := q1n
  have q2 := q2n
  have q3 := q3n
  have q4 := q4n
  have x0 := x0n
  have x1 := x1n
  have x2 := x2n
  have y0 := y0n
  have y1 := y1n
  have y2 := y2n
  have z0 := z0n
  have z1 := z1n
  have z2 := z2n
  have u0 := u0n
  have u1 := u1n
  have u2 := u2n
  clear p0n p1n q0n q1n q2n q3n q4n x0n x1n x2n y0n y1n y2n z0n z1n z2n u0n u1n u2n 
  go_wp2_with fail
  refine (via (w0 := W14) (by go_grown) (A1.out _)).mono ?_
  rintro e W15 ⟨rfl, hc, hf, hz, hB⟩
  have p0n : W15.cell? ⟨w.heap.size, 0, none⟩ = some (.int .i64 m) := (hc _ _ (cell_lt p0)).trans p0
  clear p0
  have p0 := p0n
  clear p0n
  have p1n : W15.cell? ⟨w.heap.size, 1, none⟩ = some (.int .i64 d) := (hc _ _ (cell_lt p1)).trans p1
  clear p1
  have p1 := p1n
  clear p1n
  have q0n : W15.cell? ⟨w.heap.size + 1, 0, none⟩ = some (.int .i64 i) := (hc _ _ (cell_lt q0)).trans q0
  clear q0
  have q0 := q0n
  clear q0n
  have q1n : W15.cell? ⟨w.heap.size + 1, 1, none⟩ = some (.int .i64 da) := (hc _ _ (cell_lt q1)).trans q1
  clear q1
  have q1 := q1n
  clear q1n
  have q2n : W15.cell? ⟨w.heap.size + 1, 2, none⟩ = some (.int .i64 s) := (hc _ _ (cell_lt q2)).trans q2
  clear q2
  have q2 := q2n
  clear q2n
  have q3n : W15.cell? ⟨w.heap.size + 1, 3, none⟩ = some (.int .i64 k) := (hc _ _ (cell_lt q3)).trans q3
  clear q3
  have q3 := q3n
  clear q3n
  have q4n : W15.cell? ⟨w.heap.size + 1, 4, none⟩ = some (.int .i64 wo) := (hc _ _ (cell_lt q4)).trans q4
  clear q4
  have q4 := q4n
  clear q4n
  have x0n : W15.cell? ⟨W7.heap.size, 0, none⟩ = some (.int .i64 t1) := (hc _ _ (cell_lt x0)).trans x0
  clear x0
  have x0 := x0n
  clear x0n
  have x1n : W15.cell? ⟨W7.heap.size, 1, none⟩ = some (.int .i64 t2) := (hc _ _ (cell_lt x1)).trans x1
  clear x1
  have x1 := x1n
  clear x1n
  have x2n : W15.cell? ⟨W7.heap.size, 2, none⟩ = some (.bool t3) := (hc _ _ (cell_lt x2)).trans x2
  clear x2
  have x2 := x2n
  clear x2n
  have y0n : W15.cell? ⟨W9.heap.size, 0, none⟩ = some (.int .i64 t1) := (hc _ _ (cell_lt y0)).trans y0
  clear y0
  have y0 := y0n
  clear y0n
  have y1n : W15.cell? ⟨W9.heap.size, 1, none⟩ = some (.int .i64 t2) := (hc _ _ (cell_lt y1)).trans y1
  clear y1
  have y1 := y1n
  clear y1n
  have y2n : W15.cell? ⟨W9.heap.size, 2, none⟩ = some (.bool t3) := (hc _ _ (cell_lt y2)).trans y2
  clear y2
  have y2 := y2n
  clear y2n
  have z0n : W15.cell? ⟨W11.heap.size, 0, none⟩ = some (.int .i64 o1) := (hc _ _ (cell_lt z0)).trans z0
  clear z0
  have z0 := z0n
  clear z0n
  have z1n : W15.cell? ⟨W11.heap.size, 1, none⟩ = some (.int .i64 o2) := (hc _ _ (cell_lt z1)).trans z1
  clear z1
  have z1 := z1n
  clear z1n
  have z2n : W15.cell? ⟨W11.heap.size, 2, none⟩ = some (.bool o3) := (hc _ _ (cell_lt z2)).trans z2
  clear z2
  have z2 := z2n
  clear z2n
  have u0n : W15.cell? ⟨W13.heap.size, 0, none⟩ = some (.int .i64 o1) := (hc _ _ (cell_lt u0)).trans u0
  clear u0
  have u0 := u0n
  clear u0n
  have u1n : W15.cell? ⟨W13.heap.size, 1, none⟩ = some (.int .i64 o2) := (hc _ _ (cell_lt u1)).trans u1
  clear u1
  have u1 := u1n
  clear u1n
  have u2n : W15.cell? ⟨W13.heap.size, 2, none⟩ = some (.bool o3) := (hc _ _ (cell_lt u2)).trans u2
  clear u2
  have u2 := u2n
  clear u2n
  have hbn : Below w.heap.size w W15 := bthen hb0 hB
  clear hb0
  have hb0 := hbn
  clear hbn
  have hzW15 : W14.heap.size ≤ W15.heap.size := hz
  clear hc hf hB hz
  go_wp2_with fail
  refine (via (w0 := W15) (by go_grown) (A2.out _)).mono ?_
  rintro e W16 ⟨rfl, hc, hf, hz, hB⟩
  have p0n : W16.cell? ⟨w.heap.size, 0, none⟩ = some (.int .i64 m) := (hc _ _ (cell_lt p0)).trans p0
  clear p0
  have p0 := p0n
  clear p0n
  have p1n : W16.cell? ⟨w.heap.size, 1, none⟩ = some (.int .i64 d) := (hc _ _ (cell_lt p1)).trans p1
  clear p1
  have p1 := p1n
  clear p1n
  have q0n : W16.cell? ⟨w.heap.size + 1, 0, none⟩ = some (.int .i64 i) := (hc _ _ (cell_lt q0)).trans q0
  clear q0
  have q0 := q0n
  clear q0n
  have q1n : W16.cell? ⟨w.heap.size + 1, 1, none⟩ = some (.int .i64 da) := (hc _ _ (cell_lt q1)).trans q1
  clear q1
  have q1 := q1n
  clear q1n
  have q2n : W16.cell? ⟨w.heap.size + 1, 2, none⟩ = some (.int .i64 s) := (hc _ _ (cell_lt q2)).trans q2
  clear q2
  have q2 := q2n
  clear q2n
  have q3n : W16.cell? ⟨w.heap.size + 1, 3, none⟩ = some (.int .i64 k) := (hc _ _ (cell_lt q3)).trans q3
  clear q3
  have q3 := q3n
  clear q3n
  have q4n : W16.cell? ⟨w.heap.size + 1, 4, none⟩ = some (.int .i64 wo) := (hc _ _ (cell_lt q4)).trans q4
  clear q4
  have q4 := q4n
  clear q4n
  have x0n : W16.cell? ⟨W7.heap.size, 0, none⟩ = some (.int .i64 t1) := (hc _ _ (cell_lt x0)).trans x0
  clear x0
  have x0 := x0n
  clear x0n
  have x1n : W16.cell? ⟨W7.heap.size, 1, none⟩ = some (.int .i64 t2) := (hc _ _ (cell_lt x1)).trans x1
  clear x1
  have x1 := x1n
  clear x1n
  have x2n : W16.cell? ⟨W7.heap.size, 2, none⟩ = some (.bool t3) := (hc _ _ (cell_lt x2)).trans x2
  clear x2
  have x2 := x2n
  clear x2n
  have y0n : W16.cell? ⟨W9.heap.size, 0, none⟩ = some (.int .i64 t1) := (hc _ _ (cell_lt y0)).trans y0
  clear y0
  have y0 := y0n
  clear y0n
  have y1n : W16.cell? ⟨W9.heap.size, 1, none⟩ = some (.int .i64 t2) := (hc _ _ (cell_lt y1)).trans y1
  clear y1
  have y1 := y1n
  clear y1n
  have y2n : W16.cell? ⟨W9.heap.size, 2, none⟩ = some (.bool t3) := (hc _ _ (cell_lt y2)).trans y2
  clear y2
  have y2 := y2n
  clear y2n
  have z0n : W16.cell? ⟨W11.heap.size, 0, none⟩ = some (.int .i64 o1) := (hc _ _ (cell_lt z0)).trans z0
  clear z0
  have z0 := z0n
  clear z0n
  have z1n : W16.cell? ⟨W11.heap.size, 1, none⟩ = some (.int .i64 o2) := (hc _ _ (cell_lt z1)).trans z1
  clear z1
  have z1 := z1n
  clear z1n
  have z2n : W16.cell? ⟨W11.heap.size, 2, none⟩ = some (.bool o3) := (hc _ _ (cell_lt z2)).trans z2
  clear z2
  have z2 := z2n
  clear z2n
  have u0n : W16.cell? ⟨W13.heap.size, 0, none⟩ = some (.int .i64 o1) := (hc _ _ (cell_lt u0)).trans u0
  clear u0
  have u0 := u0n
  clear u0n
  have u1n : W16.cell? ⟨W13.heap.size, 1, none⟩ = some (.int .i64 o2) := (hc _ _ (cell_lt u1)).trans u1
  clear u1
  have u1 := u1n
  clear u1n
  have u2n : W16.cell? ⟨W13.heap.size, 2, none⟩ = some (.bool o3) := (hc _ _ (cell_lt u2)).trans u2
  clear u2
  have u2 := u2n
  clear u2n
  have hbn : Below w.heap.size w W16 := bthen hb0 hB
  clear hb0
  have hb0 := hbn
  clear hbn
  have hzW16 : W15.heap.size ≤ W16.heap.size := hz
  clear hc hf hB hz
  go_wp2_with fail
  refine (via (w0 := W16) (by go_grown) (c_counted _)).mono ?_
  rintro e W17 ⟨rfl, hc, hf, hz, hB⟩
  have p0n : W17.cell? ⟨w.heap.size, 0, none⟩ = some (.int .i64 m) := (hc _ _ (cell_lt p0)).trans p0
  clear p0
  have p0 := p0n
  clear p0n
  have p1n : W17.cell? ⟨w.heap.size, 1, none⟩ = some (.int .i64 d) := (hc _ _ (cell_lt p1)).trans p1
  clear p1
  have p1 := p1n
  clear p1n
  have q0n : W17.cell? ⟨w.heap.size + 1, 0, none⟩ = some (.int .i64 i) := (hc _ _ (cell_lt q0)).trans q0
  clear q0
  have q0 := q0n
  clear q0n
  have q1n : W17.cell? ⟨w.heap.size + 1, 1, none⟩ = some (.int .i64 da) := (hc _ _ (cell_lt q1)).trans q1
  clear q1
  have q1 := q1n
  clear q1n
  have q2n : W17.cell? ⟨w.heap.size + 1, 2, none⟩ = some (.int .i64 s) := (hc _ _ (cell_lt q2)).trans q2
  clear q2
  have q2 := q2n
  clear q2n
  have q3n : W17.cell? ⟨w.heap.size + 1, 3, none⟩ = some (.int .i64 k) := (hc _ _ (cell_lt q3)).trans q3
  clear q3
  have q3 := q3n
  clear q3n
  have q4n : W17.cell? ⟨w.heap.size + 1, 4, none⟩ = some (.int .i64 wo) := (hc _ _ (cell_lt q4)).trans q4
  clear q4
  have q4 := q4n
  clear q4n
  have x0n : W17.cell? ⟨W7.heap.size, 0, none⟩ = some (.int .i64 t1) := (hc _ _ (cell_lt x0)).trans x0
  clear x0
  have x0 := x0n
  clear x0n
  have x1n : W17.cell? ⟨W7.heap.size, 1, none⟩ = some (.int .i64 t2) := (hc _ _ (cell_lt x1)).trans x1
  clear x1
  have x1 := x1n
  clear x1n
  have x2n : W17.cell? ⟨W7.heap.size, 2, none⟩ = some (.bool t3) := (hc _ _ (cell_lt x2)).trans x2
  clear x2
  have x2 := x2n
  clear x2n
  have y0n : W17.cell? ⟨W9.heap.size, 0, none⟩ = some (.int .i64 t1) := (hc _ _ (cell_lt y0)).trans y0
  clear y0
  have y0 := y0n
  clear y0n
  have y1n : W17.cell? ⟨W9.heap.size, 1, none⟩ = some (.int .i64 t2) := (hc _ _ (cell_lt y1)).trans y1
  clear y1
  have y1 := y1n
  clear y1n
  have y2n : W17.cell? ⟨W9.heap.size, 2, none⟩ = some (.bool t3) := (hc _ _ (cell_lt y2)).trans y2
  clear y2
  have y2 := y2n
  clear y2n
  have z0n : W17.cell? ⟨W11.heap.size, 0, none⟩ = some (.int .i64 o1) := (hc _ _ (cell_lt z0)).trans z0
  clear z0
  have z0 := z0n
  clear z0n
  have z1n : W17.cell? ⟨W11.heap.size, 1, none⟩ = some (.int .i64 o2) := (hc _ _ (cell_lt z1)).trans z1
  clear z1
  have z1 := z1n
  clear z1n
  have z2n : W17.cell? ⟨W11.heap.size, 2, none⟩ = some (.bool o3) := (hc _ _ (cell_lt z2)).trans z2
  clear z2
  have z2 := z2n
  clear z2n
  have u0n : W17.cell? ⟨W13.heap.size, 0, none⟩ = some (.int .i64 o1) := (hc _ _ (cell_lt u0)).trans u0
  clear u0
  have u0 := u0n
  clear u0n
  have u1n : W17.cell? ⟨W13.heap.size, 1, none⟩ = some (.int .i64 o2) := (hc _ _ (cell_lt u1)).trans u1
  clear u1
  have u1 := u1n
  clear u1n
  have u2n : W17.cell? ⟨W13.heap.size, 2, none⟩ = some (.bool o3) := (hc _ _ (cell_lt u2)).trans u2
  clear u2
  have u2 := u2n
  clear u2n
  have hbn : Below w.heap.size w W17 := bthen hb0 hB
  clear hb0
  have hb0 := hbn
  clear hbn
  have hzW17 : W16.heap.size ≤ W17.heap.size := hz
  clear hc hf hB hz
  go_wp2_with fail
  go_ret
  exact ⟨rfl, by have hbz := hb0.size; go_grown⟩


set_option maxRecDepth 100000 in
theorem lifted (os : Os) (started : os.Started) (H : Type) (enc : TypeId × Value → H) :
    ReturnsInHanded {} Try.checked os 9 .any (Rows.tallyCountsSpec.pre6 enc Try.prog Try.f9 Rows.tallyCountsRow.domain false) (Rows.tallyCountsSpec.post enc Try.prog Try.f9 false true false false) := by
  refine returnsInHanded_of_change (C := Try.checked) own started (by kernel_rfl) Try.func9
    (ChangeSpec.witness6 (enc := enc) (C := Try.checked) false ⟨#[], #[.agg #[.int .i64 0, .int .i64 0], .int .i64 0, .int .i64 0, .agg #[.int .i64 0, .int .i64 0, .int .i64 0, .int .i64 0, .int .i64 0]], []⟩ 8 (by kernel_rfl) (by kernel_rfl) (by kernel_rfl) (by kernel_rfl)) ?_
  intro W base args ds gs before hval0 hW _ _
  have hval : ∀ (j : Nat) t v, Try.f9.params[j]? = some t → args[j]? = some v → Value.okWide Try.prog W .any base t v := hval0
  have hW' := hW
  obtain ⟨p, q, hA0, hV, rfl, _, _⟩ := hW
  have hA : DataW.TrodAll enc Try.prog W 0 (fun _ => true) true Try.f9.params.toList args.toList ds p := hA0
  rw [Try.params9] at hA hval
  obtain ⟨v0, vs0, d0, ds0, p0, q0, hargs, rfl, rfl, h0, r0⟩ := trodAll_cons hA
  obtain ⟨v1, vs1, d1, ds1, p1, q1, rfl, rfl, rfl, h1, r1⟩ := trodAll_cons r0
  obtain ⟨v2, vs2, d2, ds2, p2, q2, rfl, rfl, rfl, h2, r2⟩ := trodAll_cons r1
  obtain ⟨v3, vs3, d3, ds3, p3, q3, rfl, rfl, rfl, h3, r3⟩ := trodAll_cons r2
  obtain ⟨rfl, rfl, rfl⟩ := trodAll_nil r3
  obtain rfl : args = #[v0, v1, v2, v3] := by cases args; simp_all
  obtain ⟨rfl, rfl⟩ := trodVars_none hV
  obtain ⟨c0x0, c0x1, y0x0, y0x1, m0, rfl, rfl, rfl, hy0x0, hy0x1⟩ := open_agg2 Try.underlying27 (by kernel_rfl) (by kernel_rfl) (hval 0 27 v0 rfl rfl) h0
  obtain ⟨a0x0, e0x0, rfl, w0x0⟩ := DataW.trod_int Try.underlying3 hy0x0
  obtain ⟨a0x1, e0x1, rfl, w0x1⟩ := DataW.trod_int Try.underlying3 hy0x1
  simp only [List.cons.injEq, and_true] at e0x0 e0x1
  subst e0x0 e0x1
  obtain ⟨a1, rfl, rfl, rfl, w1⟩ := open_int Try.underlying3 (hval 1 3 v1 rfl rfl) h1
  obtain ⟨a2, rfl, rfl, rfl, w2⟩ := open_int Try.underlying3 (hval 2 3 v2 rfl rfl) h2
  obtain ⟨c3x0, c3x1, c3x2, c3x3, c3x4, y3x0, y3x1, y3x2, y3x3, y3x4, m3, rfl, rfl, rfl, hy3x0, hy3x1, hy3x2, hy3x3, hy3x4⟩ := open_agg5 Try.underlying29 (by kernel_rfl) (by kernel_rfl) (hval 3 29 v3 rfl rfl) h3
  obtain ⟨a3x0, e3x0, rfl, w3x0⟩ := DataW.trod_int Try.underlying3 hy3x0
  obtain ⟨a3x1, e3x1, rfl, w3x1⟩ := DataW.trod_int Try.underlying3 hy3x1
  obtain ⟨a3x2, e3x2, rfl, w3x2⟩ := DataW.trod_int Try.underlying3 hy3x2
  obtain ⟨a3x3, e3x3, rfl, w3x3⟩ := DataW.trod_int Try.underlying3 hy3x3
  obtain ⟨a3x4, e3x4, rfl, w3x4⟩ := DataW.trod_int Try.underlying3 hy3x4
  simp only [List.cons.injEq, and_true] at e3x0 e3x1 e3x2 e3x3 e3x4
  subst e3x0 e3x1 e3x2 e3x3 e3x4
  clear hA0 hval0
  simp only [List.append_nil] at hW'
  have s0 := stays h0 (by kernel_rfl) (by kernel_rfl)
  have s1 := stays h1 (by kernel_rfl) (by kernel_rfl)
  have s2 := stays h2 (by kernel_rfl) (by kernel_rfl)
  have s3 := stays h3 (by kernel_rfl) (by kernel_rfl)
  refine (walk a0x0 a0x1 a1 a2 a3x0 a3x1 a3x2 a3x3 a3x4 W).mono fun e W' ⟨he, hg⟩ => ?_
  subst he
  exact ⟨_, rfl, post_of_below (pa := []) (pv := []) hW' (fun _ _ _ => (trodAll_cons_mk (shut_bool Try.underlying4 _) trodAll_mk0)) (fun sp _ => (trodAll_cons_mk (s0 _ _) (trodAll_cons_mk (s1 _ _) (trodAll_cons_mk (s2 _ _) (trodAll_cons_mk (s3 _ _) trodAll_mk0))))) (fun _ _ => rfl) rfl
    hg (ok_one (by kernel_rfl) rfl (okWide_bool_mk Try.underlying4 _))⟩

theorem over : Rows.tallyCountsRow.holds Try.pinned (OpenSpec.ofChange Rows.tallyCountsSpec) :=
  OpenClaim.holds_of_wide 9 Try.f9 rfl rfl rfl rfl rfl rfl rfl ⟨rfl, rfl, rfl, rfl, rfl⟩ rfl rfl rfl rfl rfl (by kernel_rfl) Try.func9 (by kernel_rfl)
    (of_decide_eq_true (by kernel_rfl)) (by unfold Func.isWrapper; first | (rw [if_pos (by decide +kernel)]; kernel_rfl) | (rw [if_neg (by decide +kernel)]; exact ⟨rfl, rfl⟩))
    (fun os started H enc _ => lifted os started H enc)

theorem proved : Rows.TallyCountsSaid :=
  over
end Go.Proofs.Ytokpjaodchcheaa.tallyCounts
