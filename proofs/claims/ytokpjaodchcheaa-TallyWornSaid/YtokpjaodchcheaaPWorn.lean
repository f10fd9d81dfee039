/- This text proves that the law TallyWorn holds: for every rate, tally and integer it returns true, and they read behind the call as they read before. -/
import Derived.Test.YtokpjaodchcheaaShut
import Derived.Test.YtokpjaodchcheaaRows
import Derived.Test.YtokpjaodchcheaaExact
import Derived.IntWalk
namespace Go.Proofs.Ytokpjaodchcheaa.tallyWorn
open Go.ChangeShapes Go.WideShapes Go.ChangeAt Go.RowKit Go.Joins Go.Deep

theorem row5 {w : World} {a : Nat} {x0 x1 x2 x3 x4 : Int} (h0 : w.cell? ⟨a, 0, none⟩ = some (.int .i64 x0)) (h1 : w.cell? ⟨a, 1, none⟩ = some (.int .i64 x1)) (h2 : w.cell? ⟨a, 2, none⟩ = some (.int .i64 x2)) (h3 : w.cell? ⟨a, 3, none⟩ = some (.int .i64 x3)) (h4 : w.cell? ⟨a, 4, none⟩ = some (.int .i64 x4)) : Row w a [x0, x1, x2, x3, x4] :=
  ⟨cell_lt h0, fun i hi => by
    have : i = 0 ∨ i = 1 ∨ i = 2 ∨ i = 3 ∨ i = 4 := by simp at hi; omega
    rcases this with rfl | rfl | rfl | rfl | rfl
    · simpa using h0
    · simpa using h1
    · simpa using h2
    · simpa using h3
    · simpa using h4⟩
/-- Does a number fit for some of the first k counts? -/
def anyF (m d z n : Int) (k : Nat) : Bool := (List.range k).any fun j => fitsB m d z (n + (j : Int))
theorem anyF_succ (m d z n : Int) (k : Nat) : anyF m d z n (k + 1) = (anyF m d z n k || fitsB m d z (n + (k : Int))) := by
  unfold anyF
  rw [List.range_succ, List.any_append]
  simp
theorem anyF_all {m d z n wo : Int} {k : Nat} (hm : 0 ≤ m ∧ m ≤ 1000) (hd : 0 ≤ d ∧ d ≤ 1000) (hz : 0 ≤ z ∧ z ≤ 100000) (hw : 0 ≤ wo) (hk : (k : Int) = wo + 1) : anyF m d z n k = inB (fitIv m d n (n + wo)) z := by
  rw [← fit_in hm hd.1 hz]
  have b1 := lowN_bd hm hz.1
  have b2 := highN_bd hd hz.1
  rw [Bool.eq_iff_iff]
  unfold anyF fitsB
  simp only [List.any_eq_true, List.mem_range, Bool.and_eq_true, decide_eq_true_eq]
  constructor
  · rintro ⟨j, hj, h1, h2⟩
    exact ⟨by omega, by omega⟩
  · rintro ⟨h1, h2⟩
    refine ⟨(max 0 (lowN m z - n)).toNat, by omega, by omega, by omega⟩

set_option maxRecDepth 100000 in
set_option maxHeartbeats 8000000 in
theorem walk_bad (m d i da s n wo v : Int) (w : World) (h : okTT m d i da s n wo = false) :
    Calls Try.prog 8 #[.agg #[.int .i64 m, .int .i64 d], .agg #[.int .i64 i, .int .i64 da, .int .i64 s, .int .i64 n, .int .i64 wo], .int .i64 v] w fun e w' => e = .returned (.bool true) ∧ Below w.heap.size w w' := by
  have ht := fun W => c_OfCount m d i da s n wo W
  simp only [h, Bool.false_eq_true, if_false, Iv.none] at ht
  have HT := Lib.hid ht
  clear ht h
  go_enter Try.func8, Try.ntmps8
  go_upto_region 1 with (fail)
  go_name_world W1 hW1
  have hbn : Below w.heap.size w W1 := by subst hW1; go_grown
  have hb0 := hbn
  clear hbn
  have r0n : W1.cell? ⟨w.heap.size, 0, none⟩ = some (.int .i64 m) := by subst hW1; go_simp
  have r1n : W1.cell? ⟨w.heap.size, 1, none⟩ = some (.int .i64 d) := by subst hW1; go_simp
  have q0n : W1.cell? ⟨w.heap.size + 1, 0, none⟩ = some (.int .i64 i) := by subst hW1; go_simp
  have q1n : W1.cell? ⟨w.heap.size + 1, 1, none⟩ = some (.int .i64 da) := by subst hW1; go_simp
  have q2n : W1.cell? ⟨w.heap.size + 1, 2, none⟩ = some (.int .i64 s) := by subst hW1; go_simp
  have q3n : W1.cell? ⟨w.heap.size + 1, 3, none⟩ = some (.int .i64 n) := by subst hW1; go_simp
  have q4n : W1.cell? ⟨w.heap.size + 1, 4, none⟩ = some (.int .i64 wo) := by subst hW1; go_simp
  clear hW1 
  have r0 := r0n
  have r1 := r1n
  have q0 := q0n
  have q1 := q1n
  have q2 := q2n
  have q3 := q3n
  have q4 := q4n
  clear r0n r1n q0n q1n q2n q3n q4n 
  go_wp2_with fail
  refine (via (w0 := W1) (by go_grown) (HT.out _)).mono ?_
  rintro e W2 ⟨rfl, hc, hf, hz, hB⟩
  have r0n : W2.cell? ⟨w.heap.size, 0, none⟩ = some (.int .i64 m) := (hc _ _ (cell_lt r0)).trans r0
  clear r0
  have r0 := r0n
  clear r0n
  have r1n : W2.cell? ⟨w.heap.size, 1, none⟩ = some (.int .i64 d) := (hc _ _ (cell_lt r1)).trans r1
  clear r1
  have r1 := r1n
  clear r1n
  have q0n : W2.cell? ⟨w.heap.size + 1, 0, none⟩ = some (.int .i64 i) := (hc _ _ (cell_lt q0)).trans q0
  clear q0
  have q0 := q0n
  clear q0n
  have q1n : W2.cell? ⟨w.heap.size + 1, 1, none⟩ = some (.int .i64 da) := (hc _ _ (cell_lt q1)).trans q1
  clear q1
  have q1 := q1n
  clear q1n
  have q2n : W2.cell? ⟨w.heap.size + 1, 2, none⟩ = some (.int .i64 s) := (hc _ _ (cell_lt q2)).trans q2
  clear q2
  have q2 := q2n
  clear q2n
  have q3n : W2.cell? ⟨w.heap.size + 1, 3, none⟩ = some (.int .i64 n) := (hc _ _ (cell_lt q3)).trans q3
  clear q3
  have q3 := q3n
  clear q3n
  have q4n : W2.cell? ⟨w.heap.size + 1, 4, none⟩ = some (.int .i64 wo) := (hc _ _ (cell_lt q4)).trans q4
  clear q4
  have q4 := q4n
  clear q4n
  have hbn : Below w.heap.size w W2 := bthen hb0 hB
  clear hb0
  have hb0 := hbn
  clear hbn
  have hzW2 : W1.heap.size ≤ W2.heap.size := hz
  clear hc hf hB hz
  go_upto_region 2 with (fail)
  go_name_world W3 hW3
  have hbz := hb0.size
  have hbn : Below w.heap.size w W3 := by subst hW3; go_grown
  clear hb0 hbz
  have hb0 := hbn
  clear hbn
  have hbk : Below W2.heap.size W2 W3 := by subst hW3; go_grown
  have r0n : W3.cell? ⟨w.heap.size, 0, none⟩ = some (.int .i64 m) := ((bcell hbk).1 _ _ (cell_lt r0)).trans r0
  have r1n : W3.cell? ⟨w.heap.size, 1, none⟩ = some (.int .i64 d) := ((bcell hbk).1 _ _ (cell_lt r1)).trans r1
  have q0n : W3.cell? ⟨w.heap.size + 1, 0, none⟩ = some (.int .i64 i) := ((bcell hbk).1 _ _ (cell_lt q0)).trans q0
  have q1n : W3.cell? ⟨w.heap.size + 1, 1, none⟩ = some (.int .i64 da) := ((bcell hbk).1 _ _ (cell_lt q1)).trans q1
  have q2n : W3.cell? ⟨w.heap.size + 1, 2, none⟩ = some (.int .i64 s) := ((bcell hbk).1 _ _ (cell_lt q2)).trans q2
  have q3n : W3.cell? ⟨w.heap.size + 1, 3, none⟩ = some (.int .i64 n) := ((bcell hbk).1 _ _ (cell_lt q3)).trans q3
  have q4n : W3.cell? ⟨w.heap.size + 1, 4, none⟩ = some (.int .i64 wo) := ((bcell hbk).1 _ _ (cell_lt q4)).trans q4
  clear hbk
  have x0n : W3.cell? ⟨W2.heap.size, 0, none⟩ = some (.int .i64 0) := by subst hW3; go_simp
  have x1n : W3.cell? ⟨W2.heap.size, 1, none⟩ = some (.int .i64 0) := by subst hW3; go_simp
  have x2n : W3.cell? ⟨W2.heap.size, 2, none⟩ = some (.bool false) := by subst hW3; go_simp
  clear hW3 r0 r1 q0 q1 q2 q3 q4
  have r0 := r0n
  have r1 := r1n
  have q0 := q0n
  have q1 := q1n
  have q2 := q2n
  have q3 := q3n
  have q4 := q4n
  have x0 := x0n
  have x1 := x1n
  have x2 := x2n
  clear r0n r1n q0n q1n q2n q3n q4n x0n x1n x2n 
  go_wp2_with fail
  refine (via (w0 := W3) (by go_grown) (c_counted _)).mono ?_
  rintro e W4 ⟨rfl, hc, hf, hz, hB⟩
  have r0n : W4.cell? ⟨w.heap.size, 0, none⟩ = some (.int .i64 m) := (hc _ _ (cell_lt r0)).trans r0
  clear r0
  have r0 := r0n
  clear r0n
  have r1n : W4.cell? ⟨w.heap.size, 1, none⟩ = some (.int .i64 d) := (hc _ _ (cell_lt r1)).trans r1
  clear r1
  have r1 := r1n
  clear r1n
  have q0n : W4.cell? ⟨w.heap.size + 1, 0, none⟩ = some (.int .i64 i) := (hc _ _ (cell_lt q0)).trans q0
  clear q0
  have q0 := q0n
  clear q0n
  have q1n : W4.cell? ⟨w.heap.size + 1, 1, none⟩ = some (.int .i64 da) := (hc _ _ (cell_lt q1)).trans q1
  clear q1
  have q1 := q1n
  clear q1n
  have q2n : W4.cell? ⟨w.heap.size + 1, 2, none⟩ = some (.int .i64 s) := (hc _ _ (cell_lt q2)).trans q2
  clear q2
  have q2 := q2n
  clear q2n
  have q3n : W4.cell? ⟨w.heap.size + 1, 3, none⟩ = some (.int .i64 n) := (hc _ _ (cell_lt q3)).trans q3
  clear q3
  have q3 := q3n
  clear q3n
  have q4n : W4.cell? ⟨w.heap.size + 1, 4, none⟩ = some (.int .i64 wo) := (hc _ _ (cell_lt q4)).trans q4
  clear q4
  have q4 := q4n
  clear q4n
  have x0n : W4.cell? ⟨W2.heap.size, 0, none⟩ = some (.int .i64 0) := (hc _ _ (cell_lt x0)).trans x0
  clear x0
  have x0 := x0n
  clear x0n
  have x1n : W4.cell? ⟨W2.heap.size, 1, none⟩ = some (.int .i64 0) := (hc _ _ (cell_lt x1)).trans x1
  clear x1
  have x1 := x1n
  clear x1n
  have x2n : W4.cell? ⟨W2.heap.size, 2, none⟩ = some (.bool false) := (hc _ _ (cell_lt x2)).trans x2
  clear x2
  have x2 := x2n
  clear x2n
  have hbn : Below w.heap.size w W4 := bthen hb0 hB
  clear hb0
  have hb0 := hbn
  clear hbn
  have hzW4 : W3.heap.size ≤ W4.heap.size := hz
  clear hc hf hB hz
  go_wp2_with fail
  go_ret
  exact ⟨rfl, by have hbz := hb0.size; go_grown⟩

set_option maxRecDepth 100000 in
set_option maxHeartbeats 8000000 in
theorem walk_many (m d i da s n wo v : Int) (w : World) (lo hi : Int) (so : Bool) (h : okTT m d i da s n wo = true) (hx : fitIv m d n (n + wo) = ⟨lo, hi, so⟩) (hw : 60 < wo) :
    Calls Try.prog 8 #[.agg #[.int .i64 m, .int .i64 d], .agg #[.int .i64 i, .int .i64 da, .int .i64 s, .int .i64 n, .int .i64 wo], .int .i64 v] w fun e w' => e = .returned (.bool true) ∧ Below w.heap.size w w' := by
  have ht := fun W => c_OfCount m d i da s n wo W
  simp only [h, if_true, hx] at ht
  have HT := Lib.hid ht
  clear ht h hx
  go_enter Try.func8, Try.ntmps8
  go_upto_region 1 with (fail)
  go_name_world W1 hW1
  have hbn : Below w.heap.size w W1 := by subst hW1; go_grown
  have hb0 := hbn
  clear hbn
  have r0n : W1.cell? ⟨w.heap.size, 0, none⟩ = some (.int .i64 m) := by subst hW1; go_simp
  have r1n : W1.cell? ⟨w.heap.size, 1, none⟩ = some (.int .i64 d) := by subst hW1; go_simp
  have q0n : W1.cell? ⟨w.heap.size + 1, 0, none⟩ = some (.int .i64 i) := by subst hW1; go_simp
  have q1n : W1.cell? ⟨w.heap.size + 1, 1, none⟩ = some (.int .i64 da) := by subst hW1; go_simp
  have q2n : W1.cell? ⟨w.heap.size + 1, 2, none⟩ = some (.int .i64 s) := by subst hW1; go_simp
  have q3n : W1.cell? ⟨w.heap.size + 1, 3, none⟩ = some (.int .i64 n) := by subst hW1; go_simp
  have q4n : W1.cell? ⟨w.heap.size + 1, 4, none⟩ = some (.int .i64 wo) := by subst hW1; go_simp
  clear hW1 
  have r0 := r0n
  have r1 := r1n
  have q0 := q0n
  have q1 := q1n
  have q2 := q2n
  have q3 := q3n
  have q4 := q4n
  clear r0n r1n q0n q1n q2n q3n q4n 
  go_wp2_with fail
  refine (via (w0 := W1) (by go_grown) (HT.out _)).mono ?_
  rintro e W2 ⟨rfl, hc, hf, hz, hB⟩
  have r0n : W2.cell? ⟨w.heap.size, 0, none⟩ = some (.int .i64 m) := (hc _ _ (cell_lt r0)).trans r0
  clear r0
  have r0 := r0n
  clear r0n
  have r1n : W2.cell? ⟨w.heap.size, 1, none⟩ = some (.int .i64 d) := (hc _ _ (cell_lt r1)).trans r1
  clear r1
  have r1 := r1n
  clear r1n
  have q0n : W2.cell? ⟨w.heap.size + 1, 0, none⟩ = some (.int .i64 i) := (hc _ _ (cell_lt q0)).trans q0
  clear q0
  have q0 := q0n
  clear q0n
  have q1n : W2.cell? ⟨w.heap.size + 1, 1, none⟩ = some (.int .i64 da) := (hc _ _ (cell_lt q1)).trans q1
  clear q1
  have q1 := q1n
  clear q1n
  have q2n : W2.cell? ⟨w.heap.size + 1, 2, none⟩ = some (.int .i64 s) := (hc _ _ (cell_lt q2)).trans q2
  clear q2
  have q2 := q2n
  clear q2n
  have q3n : W2.cell? ⟨w.heap.size + 1, 3, none⟩ = some (.int .i64 n) := (hc _ _ (cell_lt q3)).trans q3
  clear q3
  have q3 := q3n
  clear q3n
  have q4n : W2.cell? ⟨w.heap.size + 1, 4, none⟩ = some (.int .i64 wo) := (hc _ _ (cell_lt q4)).trans q4
  clear q4
  have q4 := q4n
  clear q4n
  have hbn : Below w.heap.size w W2 := bthen hb0 hB
  clear hb0
  have hb0 := hbn
  clear hbn
  have hzW2 : W1.heap.size ≤ W2.heap.size := hz
  clear hc hf hB hz
  go_upto_region 2 with (fail)
  go_name_world W3 hW3
  have hbz := hb0.size
  have hbn : Below w.heap.size w W3 := by subst hW3; go_grown
  clear hb0 hbz
  have hb0 := hbn
  clear hbn
  have hbk : Below W2.heap.size W2 W3 := by subst hW3; go_grown
  have r0n : W3.cell? ⟨w.heap.size, 0, none⟩ = some (.int .i64 m) := ((bcell hbk).1 _ _ (cell_lt r0)).trans r0
  have r1n : W3.cell? ⟨w.heap.size, 1, none⟩ = some (.int .i64 d) := ((bcell hbk).1 _ _ (cell_lt r1)).trans r1
  have q0n : W3.cell? ⟨w.heap.size + 1, 0, none⟩ = some (.int .i64 i) := ((bcell hbk).1 _ _ (cell_lt q0)).trans q0
  have q1n : W3.cell? ⟨w.heap.size + 1, 1, none⟩ = some (.int .i64 da) := ((bcell hbk).1 _ _ (cell_lt q1)).trans q1
  have q2n : W3.cell? ⟨w.heap.size + 1, 2, none⟩ = some (.int .i64 s) := ((bcell hbk).1 _ _ (cell_lt q2)).trans q2
  have q3n : W3.cell? ⟨w.heap.size + 1, 3, none⟩ = some (.int .i64 n) := ((bcell hbk).1 _ _ (cell_lt q3)).trans q3
  have q4n : W3.cell? ⟨w.heap.size + 1, 4, none⟩ = some (.int .i64 wo) := ((bcell hbk).1 _ _ (cell_lt q4)).trans q4
  clear hbk
  have x0n : W3.cell? ⟨W2.heap.size, 0, none⟩ = some (.int .i64 lo) := by subst hW3; go_simp
  have x1n : W3.cell? ⟨W2.heap.size, 1, none⟩ = some (.int .i64 hi) := by subst hW3; go_simp
  have x2n : W3.cell? ⟨W2.heap.size, 2, none⟩ = some (.bool so) := by subst hW3; go_simp
  clear hW3 r0 r1 q0 q1 q2 q3 q4
  have r0 := r0n
  have r1 := r1n
  have q0 := q0n
  have q1 := q1n
  have q2 := q2n
  have q3 := q3n
  have q4 := q4n
  have x0 := x0n
  have x1 := x1n
  have x2 := x2n
  clear r0n r1n q0n q1n q2n q3n q4n x0n x1n x2n 
  go_wp2_with fail
  refine (via (w0 := W3) (by go_grown) (c_counted _)).mono ?_
  rintro e W4 ⟨rfl, hc, hf, hz, hB⟩
  have r0n : W4.cell? ⟨w.heap.size, 0, none⟩ = some (.int .i64 m) := (hc _ _ (cell_lt r0)).trans r0
  clear r0
  have r0 := r0n
  clear r0n
  have r1n : W4.cell? ⟨w.heap.size, 1, none⟩ = some (.int .i64 d) := (hc _ _ (cell_lt r1)).trans r1
  clear r1
  have r1 := r1n
  clear r1n
  have q0n : W4.cell? ⟨w.heap.size + 1, 0, none⟩ = some (.int .i64 i) := (hc _ _ (cell_lt q0)).trans q0
  clear q0
  have q0 := q0n
  clear q0n
  have q1n : W4.cell? ⟨w.heap.size + 1, 1, none⟩ = some (.int .i64 da) := (hc _ _ (cell_lt q1)).trans q1
  clear q1
  have q1 := q1n
  clear q1n
  have q2n : W4.cell? ⟨w.heap.size + 1, 2, none⟩ = some (.int .i64 s) := (hc _ _ (cell_lt q2)).trans q2
  clear q2
  have q2 := q2n
  clear q2n
  have q3n : W4.cell? ⟨w.heap.size + 1, 3, none⟩ = some (.int .i64 n) := (hc _ _ (cell_lt q3)).trans q3
  clear q3
  have q3 := q3n
  clear q3n
  have q4n : W4.cell? ⟨w.heap.size + 1, 4, none⟩ = some (.int .i64 wo) := (hc _ _ (cell_lt q4)).trans q4
  clear q4
  have q4 := q4n
  clear q4n
  have x0n : W4.cell? ⟨W2.heap.size, 0, none⟩ = some (.int .i64 lo) := (hc _ _ (cell_lt x0)).trans x0
  clear x0
  have x0 := x0n
  clear x0n
  have x1n : W4.cell? ⟨W2.heap.size, 1, none⟩ = some (.int .i64 hi) := (hc _ _ (cell_lt x1)).trans x1
  clear x1
  have x1 := x1n
  clear x1n
  have x2n : W4.cell? ⟨W2.heap.size, 2, none⟩ = some (.bool so) := (hc _ _ (cell_lt x2)).trans x2
  clear x2
  have x2 := x2n
  clear x2n
  have hbn : Below w.heap.size w W4 := bthen hb0 hB
  clear hb0
  have hb0 := hbn
  clear hbn
  have hzW4 : W3.heap.size ≤ W4.heap.size := hz
  clear hc hf hB hz
  go_wp2_with fail
  go_ret
  exact ⟨rfl, by have hbz := hb0.size; go_grown⟩

set_option maxRecDepth 100000 in
set_option maxHeartbeats 8000000 in
theorem walk_ok (m d i da s n wo v : Int) (w : World) (lo hi : Int) (so : Bool) (h : okTT m d i da s n wo = true) (hx : fitIv m d n (n + wo) = ⟨lo, hi, so⟩) (yl yh : Int) (ys : Bool) (hy : fitIv m d n n = ⟨yl, yh, ys⟩) (hw : ¬ 60 < wo) (hb1 : 0 ≤ lo) (hb2 : lo ≤ hi) (hb3 : hi ≤ 100000) :
    Calls Try.prog 8 #[.agg #[.int .i64 m, .int .i64 d], .agg #[.int .i64 i, .int .i64 da, .int .i64 s, .int .i64 n, .int .i64 wo], .int .i64 v] w fun e w' => e = .returned (.bool true) ∧ Below w.heap.size w w' := by
  have ht := fun W => c_OfCount m d i da s n wo W
  simp only [h, if_true, hx] at ht
  have HT := Lib.hid ht
  obtain ⟨hr, hci⟩ : rateB m d = true ∧ countB i da s n wo = true := by simpa [okTT] using h
  obtain ⟨⟨⟨⟨_, _⟩, _⟩, hck⟩, hcw⟩ := (by simpa [countB] using hci : (((inR 1 1000000 i = true ∧ inR 0 100000 da = true) ∧ inR 1 40 s = true) ∧ inR 0 100000 n = true) ∧ inR 0 10000 wo = true)
  obtain ⟨hm, hd⟩ := rateB_iff.1 hr
  obtain ⟨hn1, hn2⟩ : 0 ≤ n ∧ n ≤ 100000 := by simpa [inR] using hck
  obtain ⟨hw1, _⟩ : 0 ≤ wo ∧ wo ≤ 10000 := by simpa [inR] using hcw
  have hw2 : wo ≤ 60 := by omega
  have hu := fun W => c_True m d n W
  have hok : okTC m d n = true := by simp [okTC, hr, inR]; omega
  simp only [hok, if_true, hy] at hu
  have HU := Lib.hid hu
  have hg := fun W => c_Gathered m d i da s n wo W
  simp only [h, if_true, hy] at hg
  have HG := Lib.hid hg
  have hfit : ∀ z (k : Nat), inR 0 100000 z = true → (k : Int) = wo + 1 → anyF m d z n k = inB ⟨lo, hi, so⟩ z := by
    intro z k hz hk
    rw [← hx]
    exact anyF_all ⟨hm.1, by omega⟩ ⟨hd.1, by omega⟩ (by simpa [inR] using hz) hw1 hk
  have HFIT := Lib.hid hfit
  have hF : ∀ z, inR 0 100000 z = true → ∀ c, 0 ≤ c → c ≤ 200000 → ∀ W, Calls Try.prog 27 #[.agg #[.int .i64 m, .int .i64 d], .int .i64 z, .int .i64 c] W fun e w' => e = .returned (.tuple #[.bool (fitsB m d z c), .int .i64 0]) ∧ Below W.heap.size W w' := by
    intro z hz c h0 h1 W
    have := c_Fits m d z c W
    have hc : inR 0 200000 c = true := by simp [inR]; omega
    simpa [okNC, hr, hz, hc] using this
  have HF := Lib.hid hF
  clear ht hu hg hok hfit hF hm hd hr hx hy h hci hck hcw hw
  go_enter Try.func8, Try.ntmps8
  go_upto_region 1 with (fail)
  go_name_world W1 hW1
  have hbn : Below w.heap.size w W1 := by subst hW1; go_grown
  have hb0 := hbn
  clear hbn
  have r0n : W1.cell? ⟨w.heap.size, 0, none⟩ = some (.int .i64 m) := by subst hW1; go_simp
  have r1n : W1.cell? ⟨w.heap.size, 1, none⟩ = some (.int .i64 d) := by subst hW1; go_simp
  have q0n : W1.cell? ⟨w.heap.size + 1, 0, none⟩ = some (.int .i64 i) := by subst hW1; go_simp
  have q1n : W1.cell? ⟨w.heap.size + 1, 1, none⟩ = some (.int .i64 da) := by subst hW1; go_simp
  have q2n : W1.cell? ⟨w.heap.size + 1, 2, none⟩ = some (.int .i64 s) := by subst hW1; go_simp
  have q3n : W1.cell? ⟨w.heap.size + 1, 3, none⟩ = some (.int .i64 n) := by subst hW1; go_simp
  have q4n : W1.cell? ⟨w.heap.size + 1, 4, none⟩ = some (.int .i64 wo) := by subst hW1; go_simp
  clear hW1 
  have r0 := r0n
  have r1 := r1n
  have q0 := q0n
  have q1 := q1n
  have q2 := q2n
  have q3 := q3n
  have q4 := q4n
  clear r0n r1n q0n q1n q2n q3n q4n 
  go_wp2_with fail
  refine (via (w0 := W1) (by go_grown) (HT.out _)).mono ?_
  rintro e W2 ⟨rfl, hc, hf, hz, hB⟩
  have r0n : W2.cell? ⟨w.heap.size, 0, none⟩ = some (.int .i64 m) := (hc _ _ (cell_lt r0)).trans r0
  clear r0
  have r0 := r0n
  clear r0n
  have r1n : W2.cell? ⟨w.heap.size, 1, none⟩ = some (.int .i64 d) := (hc _ _ (cell_lt r1)).trans r1
  clear r1
  have r1 := r1n
  clear r1n
  have q0n : W2.cell? ⟨w.heap.size + 1, 0, none⟩ = some (.int .i64 i) := (hc _ _ (cell_lt q0)).trans q0
  clear q0
  have q0 := q0n
  clear q0n
  have q1n : W2.cell? ⟨w.heap.size + 1, 1, none⟩ = some (.int .i64 da) := (hc _ _ (cell_lt q1)).trans q1
  clear q1
  have q1 := q1n
  clear q1n
  have q2n : W2.cell? ⟨w.heap.size + 1, 2, none⟩ = some (.int .i64 s) := (hc _ _ (cell_lt q2)).trans q2
  clear q2
  have q2 := q2n
  clear q2n
  have q3n : W2.cell? ⟨w.heap.size + 1, 3, none⟩ = some (.int .i64 n) := (hc _ _ (cell_lt q3)).trans q3
  clear q3
  have q3 := q3n
  clear q3n
  have q4n : W2.cell? ⟨w.heap.size + 1, 4, none⟩ = some (.int .i64 wo) := (hc _ _ (cell_lt q4)).trans q4
  clear q4
  have q4 := q4n
  clear q4n
  have hbn : Below w.heap.size w W2 := bthen hb0 hB
  clear hb0
  have hb0 := hbn
  clear hbn
  have hzW2 : W1.heap.size ≤ W2.heap.size := hz
  clear hc hf hB hz
  go_upto_region 2 with (fail)
  go_name_world W3 hW3
  have hbz := hb0.size
  have hbn : Below w.heap.size w W3 := by subst hW3; go_grown
  clear hb0 hbz
  have hb0 := hbn
  clear hbn
  have hbk : Below W2.heap.size W2 W3 := by subst hW3; go_grown
  have r0n : W3.cell? ⟨w.heap.size, 0, none⟩ = some (.int .i64 m) := ((bcell hbk).1 _ _ (cell_lt r0)).trans r0
  have r1n : W3.cell? ⟨w.heap.size, 1, none⟩ = some (.int .i64 d) := ((bcell hbk).1 _ _ (cell_lt r1)).trans r1
  have q0n : W3.cell? ⟨w.heap.size + 1, 0, none⟩ = some (.int .i64 i) := ((bcell hbk).1 _ _ (cell_lt q0)).trans q0
  have q1n : W3.cell? ⟨w.heap.size + 1, 1, none⟩ = some (.int .i64 da) := ((bcell hbk).1 _ _ (cell_lt q1)).trans q1
  have q2n : W3.cell? ⟨w.heap.size + 1, 2, none⟩ = some (.int .i64 s) := ((bcell hbk).1 _ _ (cell_lt q2)).trans q2
  have q3n : W3.cell? ⟨w.heap.size + 1, 3, none⟩ = some (.int .i64 n) := ((bcell hbk).1 _ _ (cell_lt q3)).trans q3
  have q4n : W3.cell? ⟨w.heap.size + 1, 4, none⟩ = some (.int .i64 wo) := ((bcell hbk).1 _ _ (cell_lt q4)).trans q4
  clear hbk
  have x0n : W3.cell? ⟨W2.heap.size, 0, none⟩ = some (.int .i64 lo) := by subst hW3; go_simp
  have x1n : W3.cell? ⟨W2.heap.size, 1, none⟩ = some (.int .i64 hi) := by subst hW3; go_simp
  have x2n : W3.cell? ⟨W2.heap.size, 2, none⟩ = some (.bool so) := by subst hW3; go_simp
  clear hW3 r0 r1 q0 q1 q2 q3 q4
  have r0 := r0n
  have r1 := r1n
  have q0 := q0n
  have q1 := q1n
  have q2 := q2n
  have q3 := q3n
  have q4 := q4n
  have x0 := x0n
  have x1 := x1n
  have x2 := x2n
  clear r0n r1n q0n q1n q2n q3n q4n x0n x1n x2n 
  go_upto_region 5 with (fail)
  go_name_world W4 hW4
  have hbz := hb0.size
  have hbn : Below w.heap.size w W4 := by subst hW4; go_grown
  clear hb0 hbz
  have hb0 := hbn
  clear hbn
  have hbk : Below W3.heap.size W3 W4 := by subst hW4; go_grown
  have r0n : W4.cell? ⟨w.heap.size, 0, none⟩ = some (.int .i64 m) := ((bcell hbk).1 _ _ (cell_lt r0)).trans r0
  have r1n : W4.cell? ⟨w.heap.size, 1, none⟩ = some (.int .i64 d) := ((bcell hbk).1 _ _ (cell_lt r1)).trans r1
  have q0n : W4.cell? ⟨w.heap.size + 1, 0, none⟩ = some (.int .i64 i) := ((bcell hbk).1 _ _ (cell_lt q0)).trans q0
  have q1n : W4.cell? ⟨w.heap.size + 1, 1, none⟩ = some (.int .i64 da) := ((bcell hbk).1 _ _ (cell_lt q1)).trans q1
  have q2n : W4.cell? ⟨w.heap.size + 1, 2, none⟩ = some (.int .i64 s) := ((bcell hbk).1 _ _ (cell_lt q2)).trans q2
  have q3n : W4.cell? ⟨w.heap.size + 1, 3, none⟩ = some (.int .i64 n) := ((bcell hbk).1 _ _ (cell_lt q3)).trans q3
  have q4n : W4.cell? ⟨w.heap.size + 1, 4, none⟩ = some (.int .i64 wo) := ((bcell hbk).1 _ _ (cell_lt q4)).trans q4
  have x0n : W4.cell? ⟨W2.heap.size, 0, none⟩ = some (.int .i64 lo) := ((bcell hbk).1 _ _ (cell_lt x0)).trans x0
  have x1n : W4.cell? ⟨W2.heap.size, 1, none⟩ = some (.int .i64 hi) := ((bcell hbk).1 _ _ (cell_lt x1)).trans x1
  have x2n : W4.cell? ⟨W2.heap.size, 2, none⟩ = some (.bool so) := ((bcell hbk).1 _ _ (cell_lt x2)).trans x2
  clear hbk
  have n0n : W4.cell? ⟨W3.heap.size, 0, none⟩ = some (.int .i64 v) := by subst hW4; go_simp
  have n1n : W4.cell? ⟨W3.heap.size, 1, none⟩ = some (.int .i64 (lo - 1)) := by subst hW4; go_simp
  have n2n : W4.cell? ⟨W3.heap.size, 2, none⟩ = some (.int .i64 lo) := by subst hW4; go_simp
  have n3n : W4.cell? ⟨W3.heap.size, 3, none⟩ = some (.int .i64 hi) := by subst hW4; go_simp
  have n4n : W4.cell? ⟨W3.heap.size, 4, none⟩ = some (.int .i64 (hi + 1)) := by subst hW4; go_simp
  clear hW4 r0 r1 q0 q1 q2 q3 q4 x0 x1 x2
  have r0 := r0n
  have r1 := r1n
  have q0 := q0n
  have q1 := q1n
  have q2 := q2n
  have q3 := q3n
  have q4 := q4n
  have x0 := x0n
  have x1 := x1n
  have x2 := x2n
  have n0 := n0n
  have n1 := n1n
  have n2 := n2n
  have n3 := n3n
  have n4 := n4n
  clear r0n r1n q0n q1n q2n q3n q4n x0n x1n x2n n0n n1n n2n n3n n4n 
  have hrow := row5 n0 n1 n2 n3 n4
  have HROW := Lib.hid hrow
  clear hrow n0 n1 n2 n3 n4
  go_wp2
  go_loopw [10] (fun v10 wr => ∃ k : Nat, k ≤ 5 ∧ v10 = .int .i64 k ∧ Below W4.heap.size W4 wr) (fun v10 _ => 5 - (intOf v10).toNat)
  case atStart => exact ⟨0, by omega, rfl, Below.refl _ _⟩
  case round =>
    obtain ⟨k, hk, rfl, hbk⟩ := hrel
    have hbw : Below w.heap.size w wr := bthen hb0 hbk
    have HBK := Lib.hid hbk
    have hrow := HROW.out.later hbk
    have r0' := ((bcell hbk).1 _ _ (cell_lt r0)).trans r0
    have r1' := ((bcell hbk).1 _ _ (cell_lt r1)).trans r1
    have q0' := ((bcell hbk).1 _ _ (cell_lt q0)).trans q0
    have q1' := ((bcell hbk).1 _ _ (cell_lt q1)).trans q1
    have q2' := ((bcell hbk).1 _ _ (cell_lt q2)).trans q2
    have q3' := ((bcell hbk).1 _ _ (cell_lt q3)).trans q3
    have q4' := ((bcell hbk).1 _ _ (cell_lt q4)).trans q4
    have x0' := ((bcell hbk).1 _ _ (cell_lt x0)).trans x0
    have x1' := ((bcell hbk).1 _ _ (cell_lt x1)).trans x1
    have x2' := ((bcell hbk).1 _ _ (cell_lt x2)).trans x2
    clear hb0 r0 r1 q0 q1 q2 q3 q4 x0 x1 x2
    have HBW := Lib.hid hbw
    clear hbw hbk
    obtain ⟨Wr, rfl⟩ : ∃ Wr : World, Wr = wr := ⟨_, rfl⟩
    have hb0 : Below Wr.heap.size Wr Wr := Below.refl _ _
    have r0 := r0'
    clear r0'
    have r1 := r1'
    clear r1'
    have q0 := q0'
    clear q0'
    have q1 := q1'
    clear q1'
    have q2 := q2'
    clear q2'
    have q3 := q3'
    clear q3'
    have q4 := q4'
    clear q4'
    have x0 := x0'
    clear x0'
    have x1 := x1'
    clear x1'
    have x2 := x2'
    clear x2'
    by_cases hlt : k < 5
    · have nv := hrow.2 k hlt
      clear hrow
      generalize ([v, (lo - 1), lo, hi, (hi + 1)] : List Int)[k]?.getD 0 = z at nv
      cases hv : inR 0 100000 z
      · have hN := fun W => c_lnumber z W
        rw [hv] at hN
        have HN := Lib.hid hN
        clear hN hv
        go_wp2_with fail
        refine (via (w0 := Wr) (by go_grown) (HN.out _)).mono ?_
        rintro e W5 ⟨rfl, hc, hf, hz, hB⟩
        have r0n : W5.cell? ⟨w.heap.size, 0, none⟩ = some (.int .i64 m) := (hc _ _ (cell_lt r0)).trans r0
        clear r0
        have r0 := r0n
        clear r0n
        have r1n : W5.cell? ⟨w.heap.size, 1, none⟩ = some (.int .i64 d) := (hc _ _ (cell_lt r1)).trans r1
        clear r1
        have r1 := r1n
        clear r1n
        have q0n : W5.cell? ⟨w.heap.size + 1, 0, none⟩ = some (.int .i64 i) := (hc _ _ (cell_lt q0)).trans q0
        clear q0
        have q0 := q0n
        clear q0n
        have q1n : W5.cell? ⟨w.heap.size + 1, 1, none⟩ = some (.int .i64 da) := (hc _ _ (cell_lt q1)).trans q1
        clear q1
        have q1 := q1n
        clear q1n
        have q2n : W5.cell? ⟨w.heap.size + 1, 2, none⟩ = some (.int .i64 s) := (hc _ _ (cell_lt q2)).trans q2
        clear q2
        have q2 := q2n
        clear q2n
        have q3n : W5.cell? ⟨w.heap.size + 1, 3, none⟩ = some (.int .i64 n) := (hc _ _ (cell_lt q3)).trans q3
        clear q3
        have q3 := q3n
        clear q3n
        have q4n : W5.cell? ⟨w.heap.size + 1, 4, none⟩ = some (.int .i64 wo) := (hc _ _ (cell_lt q4)).trans q4
        clear q4
        have q4 := q4n
        clear q4n
        have x0n : W5.cell? ⟨W2.heap.size, 0, none⟩ = some (.int .i64 lo) := (hc _ _ (cell_lt x0)).trans x0
        clear x0
        have x0 := x0n
        clear x0n
        have x1n : W5.cell? ⟨W2.heap.size, 1, none⟩ = some (.int .i64 hi) := (hc _ _ (cell_lt x1)).trans x1
        clear x1
        have x1 := x1n
        clear x1n
        have x2n : W5.cell? ⟨W2.heap.size, 2, none⟩ = some (.bool so) := (hc _ _ (cell_lt x2)).trans x2
        clear x2
        have x2 := x2n
        clear x2n
        have nvn : W5.cell? ⟨W3.heap.size, k, none⟩ = some (.int .i64 z) := (hc _ _ (cell_lt nv)).trans nv
        clear nv
        have nv := nvn
        clear nvn
        have hbn : Below Wr.heap.size Wr W5 := bthen hb0 hB
        clear hb0
        have hb0 := hbn
        clear hbn
        have hzW5 : Wr.heap.size ≤ W5.heap.size := hz
        clear hc hf hB hz
        go_wp2
        go_roundw
        case rel => exact ⟨k + 1, by omega, by go_num, bthen HBK.out hb0⟩
        case measure => simp [intOf]; omega
      · have hN := fun W => c_lnumber z W
        rw [hv] at hN
        have HN := Lib.hid hN
        have HV := Lib.hid hv
        clear hN hv
        go_wp2_with fail
        refine (via (w0 := Wr) (by go_grown) (HN.out _)).mono ?_
        rintro e W5 ⟨rfl, hc, hf, hz, hB⟩
        have r0n : W5.cell? ⟨w.heap.size, 0, none⟩ = some (.int .i64 m) := (hc _ _ (cell_lt r0)).trans r0
        clear r0
        have r0 := r0n
        clear r0n
        have r1n : W5.cell? ⟨w.heap.size, 1, none⟩ = some (.int .i64 d) := (hc _ _ (cell_lt r1)).trans r1
        clear r1
        have r1 := r1n
        clear r1n
        have q0n : W5.cell? ⟨w.heap.size + 1, 0, none⟩ = some (.int .i64 i) := (hc _ _ (cell_lt q0)).trans q0
        clear q0
        have q0 := q0n
        clear q0n
        have q1n : W5.cell? ⟨w.heap.size + 1, 1, none⟩ = some (.int .i64 da) := (hc _ _ (cell_lt q1)).trans q1
        clear q1
        have q1 := q1n
        clear q1n
        have q2n : W5.cell? ⟨w.heap.size + 1, 2, none⟩ = some (.int .i64 s) := (hc _ _ (cell_lt q2)).trans q2
        clear q2
        have q2 := q2n
        clear q2n
        have q3n : W5.cell? ⟨w.heap.size + 1, 3, none⟩ = some (.int .i64 n) := (hc _ _ (cell_lt q3)).trans q3
        clear q3
        have q3 := q3n
        clear q3n
        have q4n : W5.cell? ⟨w.heap.size + 1, 4, none⟩ = some (.int .i64 wo) := (hc _ _ (cell_lt q4)).trans q4
        clear q4
        have q4 := q4n
        clear q4n
        have x0n : W5.cell? ⟨W2.heap.size, 0, none⟩ = some (.int .i64 lo) := (hc _ _ (cell_lt x0)).trans x0
        clear x0
        have x0 := x0n
        clear x0n
        have x1n : W5.cell? ⟨W2.heap.size, 1, none⟩ = some (.int .i64 hi) := (hc _ _ (cell_lt x1)).trans x1
        clear x1
        have x1 := x1n
        clear x1n
        have x2n : W5.cell? ⟨W2.heap.size, 2, none⟩ = some (.bool so) := (hc _ _ (cell_lt x2)).trans x2
        clear x2
        have x2 := x2n
        clear x2n
        have nvn : W5.cell? ⟨W3.heap.size, k, none⟩ = some (.int .i64 z) := (hc _ _ (cell_lt nv)).trans nv
        clear nv
        have nv := nvn
        clear nvn
        have hbn : Below Wr.heap.size Wr W5 := bthen hb0 hB
        clear hb0
        have hb0 := hbn
        clear hbn
        have hzW5 : Wr.heap.size ≤ W5.heap.size := hz
        clear hc hf hB hz
        go_wp2
        go_loopw [11, 12] (fun v11 v12 wq => ∃ j : Nat, (j : Int) ≤ wo + 1 ∧ v12 = .int .i64 j ∧ v11 = .bool (anyF m d z n j) ∧ Below W5.heap.size W5 wq) (fun _ v12 _ => wo.toNat + 1 - (intOf v12).toNat)
        case atStart => exact ⟨0, by omega, rfl, rfl, Below.refl _ _⟩
        case round =>
          obtain ⟨j, hj, rfl, rfl, hbq⟩ := hrel
          have hbn := bthen hb0 hbq
          have HBQ := Lib.hid hbq
          have r0' := ((bcell hbq).1 _ _ (cell_lt r0)).trans r0
          have r1' := ((bcell hbq).1 _ _ (cell_lt r1)).trans r1
          have q0' := ((bcell hbq).1 _ _ (cell_lt q0)).trans q0
          have q1' := ((bcell hbq).1 _ _ (cell_lt q1)).trans q1
          have q2' := ((bcell hbq).1 _ _ (cell_lt q2)).trans q2
          have q3' := ((bcell hbq).1 _ _ (cell_lt q3)).trans q3
          have q4' := ((bcell hbq).1 _ _ (cell_lt q4)).trans q4
          have x0' := ((bcell hbq).1 _ _ (cell_lt x0)).trans x0
          have x1' := ((bcell hbq).1 _ _ (cell_lt x1)).trans x1
          have x2' := ((bcell hbq).1 _ _ (cell_lt x2)).trans x2
          have nv' := ((bcell hbq).1 _ _ (cell_lt nv)).trans nv
          clear hb0 hbq r0 r1 q0 q1 q2 q3 q4 x0 x1 x2 nv
          have r0 := r0'
          clear r0'
          have r1 := r1'
          clear r1'
          have q0 := q0'
          clear q0'
          have q1 := q1'
          clear q1'
          have q2 := q2'
          clear q2'
          have q3 := q3'
          clear q3'
          have q4 := q4'
          clear q4'
          have x0 := x0'
          clear x0'
          have x1 := x1'
          clear x1'
          have x2 := x2'
          clear x2'
          have nv := nv'
          clear nv'
          have hb0 := hbn
          clear hbn
          obtain ⟨Wq, rfl⟩ : ∃ Wq : World, Wq = wr := ⟨_, rfl⟩
          by_cases hjw : (j : Int) ≤ wo
          · clear hb0
            have hb0 : Below Wq.heap.size Wq Wq := Below.refl _ _
            have hF := HF.out z HV.out (n + (j : Int)) (by omega) (by omega)
            have hs := anyF_succ m d z n j
            generalize fitsB m d z (n + (j : Int)) = fb at hF hs
            generalize anyF m d z n j = ab at hs
            have HFF := Lib.hid hF
            have HS := Lib.hid hs
            clear hF hs
            have i1 : IntKind.i64.wrap (n + (j : Int)) = n + (j : Int) := IntWalk.i64_in _ (by omega)
            have i2 : ¬ (k : Int) < 0 := by omega
            have i3 : (k : Int) < 5 := by omega
            go_wp2_with fail
            have kr0 := later_cell r0
            have kr1 := later_cell r1
            have kq0 := later_cell q0
            have kq1 := later_cell q1
            have kq2 := later_cell q2
            have kq3 := later_cell q3
            have kq4 := later_cell q4
            have kx0 := later_cell x0
            have kx1 := later_cell x1
            have kx2 := later_cell x2
            have knv := later_cell nv
            refine wp_region_later Wq (by kernel_rfl) (by kernel_rfl) (Below.refl _ _) ?_
            repeat (go_big_quiet_step (first | (go_at_call 27; with_reducible exact in_region (HFF.out _))))
            refine wpQuiet_nil ?_
            rintro ⟨W6, hB⟩
            dsimp only
            have hc := (bcell hB).1
            have hf := (bcell hB).2
            have hz := hB.size
            clear kr0 kr1 kq0 kq1 kq2 kq3 kq4 kx0 kx1 kx2 knv
            have r0n : W6.cell? ⟨w.heap.size, 0, none⟩ = some (.int .i64 m) := (hc _ _ (cell_lt r0)).trans r0
            clear r0
            have r0 := r0n
            clear r0n
            have r1n : W6.cell? ⟨w.heap.size, 1, none⟩ = some (.int .i64 d) := (hc _ _ (cell_lt r1)).trans r1
            clear r1
            have r1 := r1n
            clear r1n
            have q0n : W6.cell? ⟨w.heap.size + 1, 0, none⟩ = some (.int .i64 i) := (hc _ _ (cell_lt q0)).trans q0
            clear q0
            have q0 := q0n
            clear q0n
            have q1n : W6.cell? ⟨w.heap.size + 1, 1, none⟩ = some (.int .i64 da) := (hc _ _ (cell_lt q1)).trans q1
            clear q1
            have q1 := q1n
            clear q1n
            have q2n : W6.cell? ⟨w.heap.size + 1, 2, none⟩ = some (.int .i64 s) := (hc _ _ (cell_lt q2)).trans q2
            clear q2
            have q2 := q2n
            clear q2n
            have q3n : W6.cell? ⟨w.heap.size + 1, 3, none⟩ = some (.int .i64 n) := (hc _ _ (cell_lt q3)).trans q3
            clear q3
            have q3 := q3n
            clear q3n
            have q4n : W6.cell? ⟨w.heap.size + 1, 4, none⟩ = some (.int .i64 wo) := (hc _ _ (cell_lt q4)).trans q4
            clear q4
            have q4 := q4n
            clear q4n
            have x0n : W6.cell? ⟨W2.heap.size, 0, none⟩ = some (.int .i64 lo) := (hc _ _ (cell_lt x0)).trans x0
            clear x0
            have x0 := x0n
            clear x0n
            have x1n : W6.cell? ⟨W2.heap.size, 1, none⟩ = some (.int .i64 hi) := (hc _ _ (cell_lt x1)).trans x1
            clear x1
            have x1 := x1n
            clear x1n
            have x2n : W6.cell? ⟨W2.heap.size, 2, none⟩ = some (.bool so) := (hc _ _ (cell_lt x2)).trans x2
            clear x2
            have x2 := x2n
            clear x2n
            have nvn : W6.cell? ⟨W3.heap.size, k, none⟩ = some (.int .i64 z) := (hc _ _ (cell_lt nv)).trans nv
            clear nv
            have nv := nvn
            clear nvn
            have hbn : Below Wq.heap.size Wq W6 := bthen hb0 hB
            clear hb0
            have hb0 := hbn
            clear hbn
            have hzW6 : Wq.heap.size ≤ W6.heap.size := hz
            clear hc hf hB hz
            clear i1
            cases ab
            · go_wp2
              go_roundw
              case rel => exact ⟨j + 1, by omega, by go_num, by rw [HS.out]; rfl, bthen HBQ.out hb0⟩
              case measure => simp [intOf]; omega
            · go_wp2
              go_roundw
              case rel => exact ⟨j + 1, by omega, by go_num, by rw [HS.out]; rfl, bthen HBQ.out hb0⟩
              case measure => simp [intOf]; omega
          · have hfit := HFIT.out z j HV.out (by omega)
            rw [hfit]
            have hI := fun W => c_lin ⟨lo, hi, so⟩ z W
            generalize inB ⟨lo, hi, so⟩ z = ib at *
            have HI := Lib.hid hI
            clear hfit hI
            have i2 : ¬ (k : Int) < 0 := by omega
            have i3 : (k : Int) < 5 := by omega
            go_wp2_with fail
            have kr0 := later_cell r0
            have kr1 := later_cell r1
            have kq0 := later_cell q0
            have kq1 := later_cell q1
            have kq2 := later_cell q2
            have kq3 := later_cell q3
            have kq4 := later_cell q4
            have kx0 := later_cell x0
            have kx1 := later_cell x1
            have kx2 := later_cell x2
            have knv := later_cell nv
            refine wp_region_later Wq (by kernel_rfl) (by kernel_rfl) (Below.refl _ _) ?_
            repeat (go_big_quiet_step (first | (go_at_call 24; with_reducible exact in_region (HI.out _))))
            refine wpQuiet_nil ?_
            rintro ⟨W6, hB⟩
            dsimp only
            have hc := (bcell hB).1
            have hf := (bcell hB).2
            have hz := hB.size
            clear kr0 kr1 kq0 kq1 kq2 kq3 kq4 kx0 kx1 kx2 knv
            have r0n : W6.cell? ⟨w.heap.size, 0, none⟩ = some (.int .i64 m) := (hc _ _ (cell_lt r0)).trans r0
            clear r0
            have r0 := r0n
            clear r0n
            have r1n : W6.cell? ⟨w.heap.size, 1, none⟩ = some (.int .i64 d) := (hc _ _ (cell_lt r1)).trans r1
            clear r1
            have r1 := r1n
            clear r1n
            have q0n : W6.cell? ⟨w.heap.size + 1, 0, none⟩ = some (.int .i64 i) := (hc _ _ (cell_lt q0)).trans q0
            clear q0
            have q0 := q0n
            clear q0n
            have q1n : W6.cell? ⟨w.heap.size + 1, 1, none⟩ = some (.int .i64 da) := (hc _ _ (cell_lt q1)).trans q1
            clear q1
            have q1 := q1n
            clear q1n
            have q2n : W6.cell? ⟨w.heap.size + 1, 2, none⟩ = some (.int .i64 s) := (hc _ _ (cell_lt q2)).trans q2
            clear q2
            have q2 := q2n
            clear q2n
            have q3n : W6.cell? ⟨w.heap.size + 1, 3, none⟩ = some (.int .i64 n) := (hc _ _ (cell_lt q3)).trans q3
            clear q3
            have q3 := q3n
            clear q3n
            have q4n : W6.cell? ⟨w.heap.size + 1, 4, none⟩ = some (.int .i64 wo) := (hc _ _ (cell_lt q4)).trans q4
            clear q4
            have q4 := q4n
            clear q4n
            have x0n : W6.cell? ⟨W2.heap.size, 0, none⟩ = some (.int .i64 lo) := (hc _ _ (cell_lt x0)).trans x0
            clear x0
            have x0 := x0n
            clear x0n
            have x1n : W6.cell? ⟨W2.heap.size, 1, none⟩ = some (.int .i64 hi) := (hc _ _ (cell_lt x1)).trans x1
            clear x1
            have x1 := x1n
            clear x1n
            have x2n : W6.cell? ⟨W2.heap.size, 2, none⟩ = some (.bool so) := (hc _ _ (cell_lt x2)).trans x2
            clear x2
            have x2 := x2n
            clear x2n
            have nvn : W6.cell? ⟨W3.heap.size, k, none⟩ = some (.int .i64 z) := (hc _ _ (cell_lt nv)).trans nv
            clear nv
            have nv := nvn
            clear nvn
            have hbn : Below Wr.heap.size Wr W6 := bthen hb0 hB
            clear hb0
            have hb0 := hbn
            clear hbn
            have hzW6 : Wq.heap.size ≤ W6.heap.size := hz
            clear hc hf hB hz
            clear i2 i3
            cases ib
            · go_wp2
              go_roundw
              case rel => exact ⟨k + 1, by omega, by go_num, bthen HBK.out hb0⟩
              case measure => simp [intOf]; omega
            · go_wp2
              go_roundw
              case rel => exact ⟨k + 1, by omega, by go_num, bthen HBK.out hb0⟩
              case measure => simp [intOf]; omega
    · obtain rfl : k = 5 := by omega
      clear hrow
      have hb0n := HBW.out
      clear hb0
      have hb0 := hb0n
      clear hb0n
      go_wp2_with fail
      refine (via (w0 := Wr) (by go_grown) (HU.out _)).mono ?_
      rintro e W5 ⟨rfl, hc, hf, hz, hB⟩
      have r0n : W5.cell? ⟨w.heap.size, 0, none⟩ = some (.int .i64 m) := (hc _ _ (cell_lt r0)).trans r0
      clear r0
      have r0 := r0n
      clear r0n
      have r1n : W5.cell? ⟨w.heap.size, 1, none⟩ = some (.int .i64 d) := (hc _ _ (cell_lt r1)).trans r1
      clear r1
      have r1 := r1n
      clear r1n
      have q0n : W5.cell? ⟨w.heap.size + 1, 0, none⟩ = some (.int .i64 i) := (hc _ _ (cell_lt q0)).trans q0
      clear q0
      have q0 := q0n
      clear q0n
      have q1n : W5.cell? ⟨w.heap.size + 1, 1, none⟩ = some (.int .i64 da) := (hc _ _ (cell_lt q1)).trans q1
      clear q1
      have q1 := q1n
      clear q1n
      have q2n : W5.cell? ⟨w.heap.size + 1, 2, none⟩ = some (.int .i64 s) := (hc _ _ (cell_lt q2)).trans q2
      clear q2
      have q2 := q2n
      clear q2n
      have q3n : W5.cell? ⟨w.heap.size + 1, 3, none⟩ = some (.int .i64 n) := (hc _ _ (cell_lt q3)).trans q3
      clear q3
      have q3 := q3n
      clear q3n
      have q4n : W5.cell? ⟨w.heap.size + 1, 4, none⟩ = some (.int .i64 wo) := (hc _ _ (cell_lt q4)).trans q4
      clear q4
      have q4 := q4n
      clear q4n
      have x0n : W5.cell? ⟨W2.heap.size, 0, none⟩ = some (.int .i64 lo) := (hc _ _ (cell_lt x0)).trans x0
      clear x0
      have x0 := x0n
      clear x0n
      have x1n : W5.cell? ⟨W2.heap.size, 1, none⟩ = some (.int .i64 hi) := (hc _ _ (cell_lt x1)).trans x1
      clear x1
      have x1 := x1n
      clear x1n
      have x2n : W5.cell? ⟨W2.heap.size, 2, none⟩ = some (.bool so) := (hc _ _ (cell_lt x2)).trans x2
      clear x2
      have x2 := x2n
      clear x2n
      have hbn : Below w.heap.size w W5 := bthen hb0 hB
      clear hb0
      have hb0 := hbn
      clear hbn
      have hzW5 : Wr.heap.size ≤ W5.heap.size := hz
      clear hc hf hB hz
      go_upto_region 18 with (fail)
      go_name_world W6 hW6
      have hbz := hb0.size
      have hbn : Below w.heap.size w W6 := by subst hW6; go_grown
      clear hb0 hbz
      have hb0 := hbn
      clear hbn
      have hbk : Below W5.heap.size W5 W6 := by subst hW6; go_grown
      have r0n : W6.cell? ⟨w.heap.size, 0, none⟩ = some (.int .i64 m) := ((bcell hbk).1 _ _ (cell_lt r0)).trans r0
      have r1n : W6.cell? ⟨w.heap.size, 1, none⟩ = some (.int .i64 d) := ((bcell hbk).1 _ _ (cell_lt r1)).trans r1
      have q0n : W6.cell? ⟨w.heap.size + 1, 0, none⟩ = some (.int .i64 i) := ((bcell hbk).1 _ _ (cell_lt q0)).trans q0
      have q1n : W6.cell? ⟨w.heap.size + 1, 1, none⟩ = some (.int .i64 da) := ((bcell hbk).1 _ _ (cell_lt q1)).trans q1
      have q2n : W6.cell? ⟨w.heap.size + 1, 2, none⟩ = some (.int .i64 s) := ((bcell hbk).1 _ _ (cell_lt q2)).trans q2
      have q3n : W6.cell? ⟨w.heap.size + 1, 3, none⟩ = some (.int .i64 n) := ((bcell hbk).1 _ _ (cell_lt q3)).trans q3
      have q4n : W6.cell? ⟨w.heap.size + 1, 4, none⟩ = some (.int .i64 wo) := ((bcell hbk).1 _ _ (cell_lt q4)).trans q4
      have x0n : W6.cell? ⟨W2.heap.size, 0, none⟩ = some (.int .i64 lo) := ((bcell hbk).1 _ _ (cell_lt x0)).trans x0
      have x1n : W6.cell? ⟨W2.heap.size, 1, none⟩ = some (.int .i64 hi) := ((bcell hbk).1 _ _ (cell_lt x1)).trans x1
      have x2n : W6.cell? ⟨W2.heap.size, 2, none⟩ = some (.bool so) := ((bcell hbk).1 _ _ (cell_lt x2)).trans x2
      clear hbk
      have y0n : W6.cell? ⟨W5.heap.size, 0, none⟩ = some (.int .i64 yl) := by subst hW6; go_simp
      have y1n : W6.cell? ⟨W5.heap.size, 1, none⟩ = some (.int .i64 yh) := by subst hW6; go_simp
      have y2n : W6.cell? ⟨W5.heap.size, 2, none⟩ = some (.bool ys) := by subst hW6; go_simp
      clear hW6 r0 r1 q0 q1 q2 q3 q4 x0 x1 x2
      have r0 := r0n
      have r1 := r1n
      have q0 := q0n
      have q1 := q1n
      have q2 := q2n
      have q3 := q3n
      have q4 := q4n
      have x0 := x0n
      have x1 := x1n
      have x2 := x2n
      have y0 := y0n
      have y1 := y1n
      have y2 := y2n
      clear r0n r1n q0n q1n q2n q3n q4n x0n x1n x2n y0n y1n y2n 
      go_wp2_with fail
      refine (via (w0 := W6) (by go_grown) (HG.out _)).mono ?_
      rintro e W7 ⟨rfl, hc, hf, hz, hB⟩
      have r0n : W7.cell? ⟨w.heap.size, 0, none⟩ = some (.int .i64 m) := (hc _ _ (cell_lt r0)).trans r0
      clear r0
      have r0 := r0n
      clear r0n
      have r1n : W7.cell? ⟨w.heap.size, 1, none⟩ = some (.int .i64 d) := (hc _ _ (cell_lt r1)).trans r1
      clear r1
      have r1 := r1n
      clear r1n
      have q0n : W7.cell? ⟨w.heap.size + 1, 0, none⟩ = some (.int .i64 i) := (hc _ _ (cell_lt q0)).trans q0
      clear q0
      have q0 := q0n
      clear q0n
      have q1n : W7.cell? ⟨w.heap.size + 1, 1, none⟩ = some (.int .i64 da) := (hc _ _ (cell_lt q1)).trans q1
      clear q1
      have q1 := q1n
      clear q1n
      have q2n : W7.cell? ⟨w.heap.size + 1, 2, none⟩ = some (.int .i64 s) := (hc _ _ (cell_lt q2)).trans q2
      clear q2
      have q2 := q2n
      clear q2n
      have q3n : W7.cell? ⟨w.heap.size + 1, 3, none⟩ = some (.int .i64 n) := (hc _ _ (cell_lt q3)).trans q3
      clear q3
      have q3 := q3n
      clear q3n
      have q4n : W7.cell? ⟨w.heap.size + 1, 4, none⟩ = some (.int .i64 wo) := (hc _ _ (cell_lt q4)).trans q4
      clear q4
      have q4 := q4n
      clear q4n
      have x0n : W7.cell? ⟨W2.heap.size, 0, none⟩ = some (.int .i64 lo) := (hc _ _ (cell_lt x0)).trans x0
      clear x0
      have x0 := x0n
      clear x0n
      have x1n : W7.cell? ⟨W2.heap.size, 1, none⟩ = some (.int .i64 hi) := (hc _ _ (cell_lt x1)).trans x1
      clear x1
      have x1 := x1n
      clear x1n
      have x2n : W7.cell? ⟨W2.heap.size, 2, none⟩ = some (.bool so) := (hc _ _ (cell_lt x2)).trans x2
      clear x2
      have x2 := x2n
      clear x2n
      have y0n : W7.cell? ⟨W5.heap.size, 0, none⟩ = some (.int .i64 yl) := (hc _ _ (cell_lt y0)).trans y0
      clear y0
      have y0 := y0n
      clear y0n
      have y1n : W7.cell? ⟨W5.heap.size, 1, none⟩ = some (.int .i64 yh) := (hc _ _ (cell_lt y1)).trans y1
      clear y1
      have y1 := y1n
      clear y1n
      have y2n : W7.cell? ⟨W5.heap.size, 2, none⟩ = some (.bool ys) := (hc _ _ (cell_lt y2)).trans y2
      clear y2
      have y2 := y2n
      clear y2n
      have hbn : Below w.heap.size w W7 := bthen hb0 hB
      clear hb0
      have hb0 := hbn
      clear hbn
      have hzW7 : W6.heap.size ≤ W7.heap.size := hz
      clear hc hf hB hz
      go_wp2_with fail
      refine (via (w0 := W7) (by go_grown) (c_counted _)).mono ?_
      rintro e W8 ⟨rfl, hc, hf, hz, hB⟩
      have r0n : W8.cell? ⟨w.heap.size, 0, none⟩ = some (.int .i64 m) := (hc _ _ (cell_lt r0)).trans r0
      clear r0
      have r0 := r0n
      clear r0n
      have r1n : W8.cell? ⟨w.heap.size, 1, none⟩ = some (.int .i64 d) := (hc _ _ (cell_lt r1)).trans r1
      clear r1
      have r1 := r1n
      clear r1n
      have q0n : W8.cell? ⟨w.heap.size + 1, 0, none⟩ = some (.int .i64 i) := (hc _ _ (cell_lt q0)).trans q0
      clear q0
      have q0 := q0n
      clear q0n
      have q1n : W8.cell? ⟨w.heap.size + 1, 1, none⟩ = some (.int .i64 da) := (hc _ _ (cell_lt q1)).trans q1
      clear q1
      have q1 := q1n
      clear q1n
      have q2n : W8.cell? ⟨w.heap.size + 1, 2, none⟩ = some (.int .i64 s) := (hc _ _ (cell_lt q2)).trans q2
      clear q2
      have q2 := q2n
      clear q2n
      have q3n : W8.cell? ⟨w.heap.size + 1, 3, none⟩ = some (.int .i64 n) := (hc _ _ (cell_lt q3)).trans q3
      clear q3
      have q3 := q3n
      clear q3n
      have q4n : W8.cell? ⟨w.heap.size + 1, 4, none⟩ = some (.int .i64 wo) := (hc _ _ (cell_lt q4)).trans q4
      clear q4
      have q4 := q4n
      clear q4n
      have x0n : W8.cell? ⟨W2.heap.size, 0, none⟩ = some (.int .i64 lo) := (hc _ _ (cell_lt x0)).trans x0
      clear x0
      have x0 := x0n
      clear x0n
      have x1n : W8.cell? ⟨W2.heap.size, 1, none⟩ = some (.int .i64 hi) := (hc _ _ (cell_lt x1)).trans x1
      clear x1
      have x1 := x1n
      clear x1n
      have x2n : W8.cell? ⟨W2.heap.size, 2, none⟩ = some (.bool so) := (hc _ _ (cell_lt x2)).trans x2
      clear x2
      have x2 := x2n
      clear x2n
      have y0n : W8.cell? ⟨W5.heap.size, 0, none⟩ = some (.int .i64 yl) := (hc _ _ (cell_lt y0)).trans y0
      clear y0
      have y0 := y0n
      clear y0n
      have y1n : W8.cell? ⟨W5.heap.size, 1, none⟩ = some (.int .i64 yh) := (hc _ _ (cell_lt y1)).trans y1
      clear y1
      have y1 := y1n
      clear y1n
      have y2n : W8.cell? ⟨W5.heap.size, 2, none⟩ = some (.bool ys) := (hc _ _ (cell_lt y2)).trans y2
      clear y2
      have y2 := y2n
      clear y2n
      have hbn : Below w.heap.size w W8 := bthen hb0 hB
      clear hb0
      have hb0 := hbn
      clear hbn
      have hzW8 : W7.heap.size ≤ W8.heap.size := hz
      clear hc hf hB hz
      go_wp2_with fail
      go_ret
      exact ⟨rfl, by have hbz := hb0.size; go_grown⟩

set_option maxRecDepth 100000 in
set_option maxHeartbeats 8000000 in
theorem walk (m d i da s n wo v : Int) (w : World) :
    Calls Try.prog 8 #[.agg #[.int .i64 m, .int .i64 d], .agg #[.int .i64 i, .int .i64 da, .int .i64 s, .int .i64 n, .int .i64 wo], .int .i64 v] w fun e w' => e = .returned (.bool true) ∧ Below w.heap.size w w' := by
  by_cases h : okTT m d i da s n wo = true
  · obtain ⟨⟨lo, hi, so⟩, hx⟩ : ∃ x, fitIv m d n (n + wo) = x := ⟨_, rfl⟩
    obtain ⟨⟨yl, yh, ys⟩, hy⟩ : ∃ x, fitIv m d n n = x := ⟨_, rfl⟩
    by_cases hw : 60 < wo
    · exact walk_many m d i da s n wo v w lo hi so h hx hw
    have hb := fit_bounds (m := m) (d := d) (a := n) (b := n + wo)
    rw [hx] at hb
    cases so
    · have e := hb.2 rfl
      simp [Iv.none] at e
      exact walk_ok m d i da s n wo v w lo hi false h hx yl yh ys hy hw (by omega) (by omega) (by omega)
    · have e := hb.1 rfl
      exact walk_ok m d i da s n wo v w lo hi true h hx yl yh ys hy hw e.1 e.2.1 e.2.2
  · exact walk_bad m d i da s n wo v w (by simpa using h)


set_option maxRecDepth 100000 in
theorem lifted (os : Os) (started : os.Started) (H : Type) (enc : TypeId × Value → H) :
    ReturnsInHanded {} Try.checked os 8 .any (Rows.tallyWornSpec.pre6 enc Try.prog Try.f8 Rows.tallyWornRow.domain false) (Rows.tallyWornSpec.post enc Try.prog Try.f8 false true false false) := by
  refine returnsInHanded_of_change (C := Try.checked) own started (by kernel_rfl) Try.func8
    (ChangeSpec.witness6 (enc := enc) (C := Try.checked) false ⟨#[], #[.agg #[.int .i64 0, .int .i64 0], .agg #[.int .i64 0, .int .i64 0, .int .i64 0, .int .i64 0, .int .i64 0], .int .i64 0], []⟩ 8 (by kernel_rfl) (by kernel_rfl) (by kernel_rfl) (by kernel_rfl)) ?_
  intro W base args ds gs before hval0 hW _ _
  have hval : ∀ (j : Nat) t v, Try.f8.params[j]? = some t → args[j]? = some v → Value.okWide Try.prog W .any base t v := hval0
  have hW' := hW
  obtain ⟨p, q, hA0, hV, rfl, _, _⟩ := hW
  have hA : DataW.TrodAll enc Try.prog W 0 (fun _ => true) true Try.f8.params.toList args.toList ds p := hA0
  rw [Try.params8] at hA hval
  obtain ⟨v0, vs0, d0, ds0, p0, q0, hargs, rfl, rfl, h0, r0⟩ := trodAll_cons hA
  obtain ⟨v1, vs1, d1, ds1, p1, q1, rfl, rfl, rfl, h1, r1⟩ := trodAll_cons r0
  obtain ⟨v2, vs2, d2, ds2, p2, q2, rfl, rfl, rfl, h2, r2⟩ := trodAll_cons r1
  obtain ⟨rfl, rfl, rfl⟩ := trodAll_nil r2
  obtain rfl : args = #[v0, v1, v2] := by cases args; simp_all
  obtain ⟨rfl, rfl⟩ := trodVars_none hV
  obtain ⟨c0x0, c0x1, y0x0, y0x1, m0, rfl, rfl, rfl, hy0x0, hy0x1⟩ := open_agg2 Try.underlying27 (by kernel_rfl) (by kernel_rfl) (hval 0 27 v0 rfl rfl) h0
  obtain ⟨a0x0, e0x0, rfl, w0x0⟩ := DataW.trod_int Try.underlying3 hy0x0
  obtain ⟨a0x1, e0x1, rfl, w0x1⟩ := DataW.trod_int Try.underlying3 hy0x1
  simp only [List.cons.injEq, and_true] at e0x0 e0x1
  subst e0x0 e0x1
  obtain ⟨c1x0, c1x1, c1x2, c1x3, c1x4, y1x0, y1x1, y1x2, y1x3, y1x4, m1, rfl, rfl, rfl, hy1x0, hy1x1, hy1x2, hy1x3, hy1x4⟩ := open_agg5 Try.underlying29 (by kernel_rfl) (by kernel_rfl) (hval 1 29 v1 rfl rfl) h1
  obtain ⟨a1x0, e1x0, rfl, w1x0⟩ := DataW.trod_int Try.underlying3 hy1x0
  obtain ⟨a1x1, e1x1, rfl, w1x1⟩ := DataW.trod_int Try.underlying3 hy1x1
  obtain ⟨a1x2, e1x2, rfl, w1x2⟩ := DataW.trod_int Try.underlying3 hy1x2
  obtain ⟨a1x3, e1x3, rfl, w1x3⟩ := DataW.trod_int Try.underlying3 hy1x3
  obtain ⟨a1x4, e1x4, rfl, w1x4⟩ := DataW.trod_int Try.underlying3 hy1x4
  simp only [List.cons.injEq, and_true] at e1x0 e1x1 e1x2 e1x3 e1x4
  subst e1x0 e1x1 e1x2 e1x3 e1x4
  obtain ⟨a2, rfl, rfl, rfl, w2⟩ := open_int Try.underlying3 (hval 2 3 v2 rfl rfl) h2
  clear hA0 hval0
  simp only [List.append_nil] at hW'
  have s0 := stays h0 (by kernel_rfl) (by kernel_rfl)
  have s1 := stays h1 (by kernel_rfl) (by kernel_rfl)
  have s2 := stays h2 (by kernel_rfl) (by kernel_rfl)
  refine (walk a0x0 a0x1 a1x0 a1x1 a1x2 a1x3 a1x4 a2 W).mono fun e W' ⟨he, hg⟩ => ?_
  subst he
  exact ⟨_, rfl, post_of_below (pa := []) (pv := []) hW' (fun _ _ _ => (trodAll_cons_mk (shut_bool Try.underlying4 _) trodAll_mk0)) (fun sp _ => (trodAll_cons_mk (s0 _ _) (trodAll_cons_mk (s1 _ _) (trodAll_cons_mk (s2 _ _) trodAll_mk0)))) (fun _ _ => rfl) rfl
    hg (ok_one (by kernel_rfl) rfl (okWide_bool_mk Try.underlying4 _))⟩

theorem over : Rows.tallyWornRow.holds Try.pinned (OpenSpec.ofChange Rows.tallyWornSpec) :=
  OpenClaim.holds_of_wide 8 Try.f8 rfl rfl rfl rfl rfl rfl rfl ⟨rfl, rfl, rfl, rfl, rfl⟩ rfl rfl rfl rfl rfl (by kernel_rfl) Try.func8 (by kernel_rfl)
    (of_decide_eq_true (by kernel_rfl)) (by unfold Func.isWrapper; first | (rw [if_pos (by decide +kernel)]; kernel_rfl) | (rw [if_neg (by decide +kernel)]; exact ⟨rfl, rfl⟩))
    (fun os started H enc _ => lifted os started H enc)

theorem proved : Rows.TallyWornSaid :=
  over
end Go.Proofs.Ytokpjaodchcheaa.tallyWorn
