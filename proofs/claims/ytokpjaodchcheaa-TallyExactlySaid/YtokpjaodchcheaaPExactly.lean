/- This text proves that the law TallyExactly holds: for every rate and two integers it returns true, and they read behind the call as they read before. -/
import Derived.Test.YtokpjaodchcheaaShut
import Derived.Test.YtokpjaodchcheaaRows
import Derived.Test.YtokpjaodchcheaaExact
namespace Go.Proofs.Ytokpjaodchcheaa.tallyExactly
open Go.ChangeShapes Go.WideShapes Go.ChangeAt Go.RowKit Go.Joins Go.Deep

theorem row5 {w : World} {a : Nat} {x0 x1 x2 x3 x4 : Int} (h0 : w.cell? ⟨a, 0, none⟩ = some (.int .i64 x0)) (h1 : w.cell? ⟨a, 1, none⟩ = some (.int .i64 x1)) (h2 : w.cell? ⟨a, 2, none⟩ = some (.int .i64 x2)) (h3 : w.cell? ⟨a, 3, none⟩ = some (.int .i64 x3)) (h4 : w.cell? ⟨a, 4, none⟩ = some (.int .i64 x4)) : Row w a [x0, x1, x2, x3, x4] :=
  ⟨cell_lt h0, fun i hi => by
    have : i = 0 ∨ i = 1 ∨ i = 2 ∨ i = 3 ∨ i = 4 := by simp at hi; omega
    rcases this with rfl | rfl | rfl | rfl | rfl
    · simpa using h0
    · simpa using h1
    · simpa using h2
    · simpa using h3
    · simpa using h4⟩

set_option maxHeartbeats 4000000 in
theorem walk_bad (m d n c : Int) (w : World) (h : okTC m d c = false) :
    Calls Try.prog 6 #[.agg #[.int .i64 m, .int .i64 d], .int .i64 n, .int .i64 c] w fun e w' => e = .returned (.bool true) ∧ Below w.heap.size w w' := by
  have ht : ∀ W, Calls Try.prog 26 #[.agg #[.int .i64 m, .int .i64 d], .int .i64 c] W fun e w' => e = .returned (.tuple #[.agg #[.int .i64 0, .int .i64 0, .bool false], .int .i64 1]) ∧ Below W.heap.size W w' := by
    intro W
    have := c_True m d c W
    simp only [h, Bool.false_eq_true, if_false] at this
    exact this
  have HT := Lib.hid ht
  clear ht h
  go_enter Try.func6, Try.ntmps6
  go_upto_region 1 with (fail)
  go_name_world W1 hW1
  have hbn : Below w.heap.size w W1 := by subst hW1; go_grown
  have hb0 := hbn
  clear hbn
  have r0n : W1.cell? ⟨w.heap.size, 0, none⟩ = some (.int .i64 m) := by subst hW1; go_simp
  have r1n : W1.cell? ⟨w.heap.size, 1, none⟩ = some (.int .i64 d) := by subst hW1; go_simp
  clear hW1 
  have r0 := r0n
  have r1 := r1n
  clear r0n r1n 
  go_wp2_with fail
  refine (via (w0 := W1) (by go_grown) (HT.out _)).mono ?_
  rintro e W2 ⟨rfl, hc, hf, hz, hB⟩
  have r0n : W2.cell? ⟨w.heap.size, 0, none⟩ = some (.int .i64 m) := (hc _ _ (cell_lt r0)).trans r0
  clear r0
  have r0 := r0n
  clear r0n
  have r1n : W2.cell? ⟨w.heap.size, 1, none⟩ = some (.int .i64 d) := (hc _ _ (cell_lt r1)).trans r1
  clear r1
  have r1 := r1n
  clear r1n
  have hbn : Below w.heap.size w W2 := bthen hb0 hB
  clear hb0
  have hb0 := hbn
  clear hbn
  have hzW2 : W1.heap.size ≤ W2.heap.size := hz
  clear hc hf hB hz
  go_upto_region 2 with (fail)
  go_name_world W3 hW3
  have hbz := hb0.size
  have hbn : Below w.heap.size w W3 := by subst hW3; go_grown
  clear hb0 hbz
  have hb0 := hbn
  clear hbn
  have hbk : Below W2.heap.size W2 W3 := by subst hW3; go_grown
  have r0n : W3.cell? ⟨w.heap.size, 0, none⟩ = some (.int .i64 m) := ((bcell hbk).1 _ _ (cell_lt r0)).trans r0
  have r1n : W3.cell? ⟨w.heap.size, 1, none⟩ = some (.int .i64 d) := ((bcell hbk).1 _ _ (cell_lt r1)).trans r1
  clear hbk
  have x0n : W3.cell? ⟨W2.heap.size, 0, none⟩ = some (.int .i64 0) := by subst hW3; go_simp
  have x1n : W3.cell? ⟨W2.heap.size, 1, none⟩ = some (.int .i64 0) := by subst hW3; go_simp
  have x2n : W3.cell? ⟨W2.heap.size, 2, none⟩ = some (.bool false) := by subst hW3; go_simp
  clear hW3 r0 r1
  have r0 := r0n
  have r1 := r1n
  have x0 := x0n
  have x1 := x1n
  have x2 := x2n
  clear r0n r1n x0n x1n x2n 
  go_wp2_with fail
  refine (via (w0 := W3) (by go_grown) (c_counted _)).mono ?_
  rintro e W4 ⟨rfl, hc, hf, hz, hB⟩
  have r0n : W4.cell? ⟨w.heap.size, 0, none⟩ = some (.int .i64 m) := (hc _ _ (cell_lt r0)).trans r0
  clear r0
  have r0 := r0n
  clear r0n
  have r1n : W4.cell? ⟨w.heap.size, 1, none⟩ = some (.int .i64 d) := (hc _ _ (cell_lt r1)).trans r1
  clear r1
  have r1 := r1n
  clear r1n
  have x0n : W4.cell? ⟨W2.heap.size, 0, none⟩ = some (.int .i64 0) := (hc _ _ (cell_lt x0)).trans x0
  clear x0
  have x0 := x0n
  clear x0n
  have x1n : W4.cell? ⟨W2.heap.size, 1, none⟩ = some (.int .i64 0) := (hc _ _ (cell_lt x1)).trans x1
  clear x1
  have x1 := x1n
  clear x1n
  have x2n : W4.cell? ⟨W2.heap.size, 2, none⟩ = some (.bool false) := (hc _ _ (cell_lt x2)).trans x2
  clear x2
  have x2 := x2n
  clear x2n
  have hbn : Below w.heap.size w W4 := bthen hb0 hB
  clear hb0
  have hb0 := hbn
  clear hbn
  have hzW4 : W3.heap.size ≤ W4.heap.size := hz
  clear hc hf hB hz
  go_wp2_with fail
  go_ret
  exact ⟨rfl, by have hbz := hb0.size; go_grown⟩

set_option maxRecDepth 100000 in
set_option maxHeartbeats 8000000 in
theorem walk_ok (m d n c lo hi : Int) (so : Bool) (w : World) (hm : 0 ≤ m ∧ m ≤ 500) (hd : 0 ≤ d ∧ d ≤ 500) (hc : inR 0 200000 c = true) (hr : rateB m d = true) (hx : fitIv m d c c = ⟨lo, hi, so⟩) (hb1 : 0 ≤ lo) (hb2 : lo ≤ hi) (hb3 : hi ≤ 100000) (hso : so = false → lo = 0 ∧ hi = 0) :
    Calls Try.prog 6 #[.agg #[.int .i64 m, .int .i64 d], .int .i64 n, .int .i64 c] w fun e w' => e = .returned (.bool true) ∧ Below w.heap.size w w' := by
  have ht := fun W => c_True m d c W
  have hok : okTC m d c = true := by simp [okTC, hr, hc]
  simp only [hok, if_true, hx] at ht
  have HT := Lib.hid ht
  have hfit : ∀ v, inR 0 100000 v = true → fitsB m d v c = inB ⟨lo, hi, so⟩ v := by
    intro v hv
    rw [← hx]
    exact fit_in ⟨hm.1, by omega⟩ hd.1 (by simpa [inR] using hv)
  have HFIT := Lib.hid hfit
  have hF : ∀ v, inR 0 100000 v = true → ∀ W, Calls Try.prog 27 #[.agg #[.int .i64 m, .int .i64 d], .int .i64 v, .int .i64 c] W fun e w' => e = .returned (.tuple #[.bool (fitsB m d v c), .int .i64 0]) ∧ Below W.heap.size W w' := by
    intro v hv W
    have := c_Fits m d v c W
    simpa [okNC, hr, hv, hc] using this
  have hS : ∀ v, inR 0 100000 v = true → ∀ W, Calls Try.prog 28 #[.agg #[.int .i64 m, .int .i64 d], .int .i64 v] W fun e w' => e = .returned (.tuple #[.int .i64 (lowN m v), .int .i64 (highN d v), .int .i64 0]) ∧ Below W.heap.size W w' := by
    intro v hv W
    have := c_Shown m d v W
    simpa [okN, hr, hv] using this
  have HF := Lib.hid hF
  have HS := Lib.hid hS
  clear ht hok hfit hF hS hm hd hc hr hx
  go_enter Try.func6, Try.ntmps6
  go_upto_region 1 with (fail)
  go_name_world W1 hW1
  have hbn : Below w.heap.size w W1 := by subst hW1; go_grown
  have hb0 := hbn
  clear hbn
  have r0n : W1.cell? ⟨w.heap.size, 0, none⟩ = some (.int .i64 m) := by subst hW1; go_simp
  have r1n : W1.cell? ⟨w.heap.size, 1, none⟩ = some (.int .i64 d) := by subst hW1; go_simp
  clear hW1 
  have r0 := r0n
  have r1 := r1n
  clear r0n r1n 
  go_wp2_with fail
  refine (via (w0 := W1) (by go_grown) (HT.out _)).mono ?_
  rintro e W2 ⟨rfl, hc, hf, hz, hB⟩
  have r0n : W2.cell? ⟨w.heap.size, 0, none⟩ = some (.int .i64 m) := (hc _ _ (cell_lt r0)).trans r0
  clear r0
  have r0 := r0n
  clear r0n
  have r1n : W2.cell? ⟨w.heap.size, 1, none⟩ = some (.int .i64 d) := (hc _ _ (cell_lt r1)).trans r1
  clear r1
  have r1 := r1n
  clear r1n
  have hbn : Below w.heap.size w W2 := bthen hb0 hB
  clear hb0
  have hb0 := hbn
  clear hbn
  have hzW2 : W1.heap.size ≤ W2.heap.size := hz
  clear hc hf hB hz
  go_upto_region 2 with (fail)
  go_name_world W3 hW3
  have hbz := hb0.size
  have hbn : Below w.heap.size w W3 := by subst hW3; go_grown
  clear hb0 hbz
  have hb0 := hbn
  clear hbn
  have hbk : Below W2.heap.size W2 W3 := by subst hW3; go_grown
  have r0n : W3.cell? ⟨w.heap.size, 0, none⟩ = some (.int .i64 m) := ((bcell hbk).1 _ _ (cell_lt r0)).trans r0
  have r1n : W3.cell? ⟨w.heap.size, 1, none⟩ = some (.int .i64 d) := ((bcell hbk).1 _ _ (cell_lt r1)).trans r1
  clear hbk
  have x0n : W3.cell? ⟨W2.heap.size, 0, none⟩ = some (.int .i64 lo) := by subst hW3; go_simp
  have x1n : W3.cell? ⟨W2.heap.size, 1, none⟩ = some (.int .i64 hi) := by subst hW3; go_simp
  have x2n : W3.cell? ⟨W2.heap.size, 2, none⟩ = some (.bool so) := by subst hW3; go_simp
  clear hW3 r0 r1
  have r0 := r0n
  have r1 := r1n
  have x0 := x0n
  have x1 := x1n
  have x2 := x2n
  clear r0n r1n x0n x1n x2n 
  cases so
  · obtain ⟨rfl, rfl⟩ := hso rfl
    go_upto_region 7 with (fail)
    go_name_world W4 hW4
    have hbz := hb0.size
    have hbn : Below w.heap.size w W4 := by subst hW4; go_grown
    clear hb0 hbz
    have hb0 := hbn
    clear hbn
    have hbk : Below W3.heap.size W3 W4 := by subst hW4; go_grown
    have r0n : W4.cell? ⟨w.heap.size, 0, none⟩ = some (.int .i64 m) := ((bcell hbk).1 _ _ (cell_lt r0)).trans r0
    have r1n : W4.cell? ⟨w.heap.size, 1, none⟩ = some (.int .i64 d) := ((bcell hbk).1 _ _ (cell_lt r1)).trans r1
    have x0n : W4.cell? ⟨W2.heap.size, 0, none⟩ = some (.int .i64 0) := ((bcell hbk).1 _ _ (cell_lt x0)).trans x0
    have x1n : W4.cell? ⟨W2.heap.size, 1, none⟩ = some (.int .i64 0) := ((bcell hbk).1 _ _ (cell_lt x1)).trans x1
    have x2n : W4.cell? ⟨W2.heap.size, 2, none⟩ = some (.bool false) := ((bcell hbk).1 _ _ (cell_lt x2)).trans x2
    clear hbk
    have n0n : W4.cell? ⟨W3.heap.size, 0, none⟩ = some (.int .i64 n) := by subst hW4; go_simp
    have n1n : W4.cell? ⟨W3.heap.size, 1, none⟩ = some (.int .i64 (0 - 1)) := by subst hW4; go_simp
    have n2n : W4.cell? ⟨W3.heap.size, 2, none⟩ = some (.int .i64 0) := by subst hW4; go_simp
    have n3n : W4.cell? ⟨W3.heap.size, 3, none⟩ = some (.int .i64 0) := by subst hW4; go_simp
    have n4n : W4.cell? ⟨W3.heap.size, 4, none⟩ = some (.int .i64 (0 + 1)) := by subst hW4; go_simp
    clear hW4 r0 r1 x0 x1 x2
    have r0 := r0n
    have r1 := r1n
    have x0 := x0n
    have x1 := x1n
    have x2 := x2n
    have n0 := n0n
    have n1 := n1n
    have n2 := n2n
    have n3 := n3n
    have n4 := n4n
    clear r0n r1n x0n x1n x2n n0n n1n n2n n3n n4n 
    have hrow := row5 n0 n1 n2 n3 n4
    have HROW := Lib.hid hrow
    clear hrow n0 n1 n2 n3 n4
    go_wp2
    go_loopw [10] (fun v10 wr => ∃ k : Nat, k ≤ 5 ∧ v10 = .int .i64 k ∧ Below W4.heap.size W4 wr) (fun v10 _ => 5 - (intOf v10).toNat)
    case atStart => exact ⟨0, by omega, rfl, Below.refl _ _⟩
    case round =>
      obtain ⟨k, hk, rfl, hbk⟩ := hrel
      have hbw : Below w.heap.size w wr := bthen hb0 hbk
      have HBK := Lib.hid hbk
      have hrow := HROW.out.later hbk
      have r0' := ((bcell hbk).1 _ _ (cell_lt r0)).trans r0
      have r1' := ((bcell hbk).1 _ _ (cell_lt r1)).trans r1
      have x0' := ((bcell hbk).1 _ _ (cell_lt x0)).trans x0
      have x1' := ((bcell hbk).1 _ _ (cell_lt x1)).trans x1
      have x2' := ((bcell hbk).1 _ _ (cell_lt x2)).trans x2
      clear hb0 r0 r1 x0 x1 x2
      have HBW := Lib.hid hbw
      clear hbw hbk
      have hb0 : Below wr.heap.size wr wr := Below.refl _ _
      have r0 := r0'
      clear r0'
      have r1 := r1'
      clear r1'
      have x0 := x0'
      clear x0'
      have x1 := x1'
      clear x1'
      have x2 := x2'
      clear x2'
      by_cases hlt : k < 5
      · have nv := hrow.2 k hlt
        clear hrow
        generalize ([n, (0 - 1), 0, 0, (0 + 1)] : List Int)[k]?.getD 0 = z at nv
        cases hv : inR 0 100000 z
        · have hN := fun W => c_lnumber z W
          rw [hv] at hN
          have HN := Lib.hid hN
          clear hN hv
          go_wp2_with fail
          refine (via (w0 := wr) (by go_grown) (HN.out _)).mono ?_
          rintro e W5 ⟨rfl, hc, hf, hz, hB⟩
          have r0n : W5.cell? ⟨w.heap.size, 0, none⟩ = some (.int .i64 m) := (hc _ _ (cell_lt r0)).trans r0
          clear r0
          have r0 := r0n
          clear r0n
          have r1n : W5.cell? ⟨w.heap.size, 1, none⟩ = some (.int .i64 d) := (hc _ _ (cell_lt r1)).trans r1
          clear r1
          have r1 := r1n
          clear r1n
          have x0n : W5.cell? ⟨W2.heap.size, 0, none⟩ = some (.int .i64 0) := (hc _ _ (cell_lt x0)).trans x0
          clear x0
          have x0 := x0n
          clear x0n
          have x1n : W5.cell? ⟨W2.heap.size, 1, none⟩ = some (.int .i64 0) := (hc _ _ (cell_lt x1)).trans x1
          clear x1
          have x1 := x1n
          clear x1n
          have x2n : W5.cell? ⟨W2.heap.size, 2, none⟩ = some (.bool false) := (hc _ _ (cell_lt x2)).trans x2
          clear x2
          have x2 := x2n
          clear x2n
          have nvn : W5.cell? ⟨W3.heap.size, k, none⟩ = some (.int .i64 z) := (hc _ _ (cell_lt nv)).trans nv
          clear nv
          have nv := nvn
          clear nvn
          have hbn : Below wr.heap.size wr W5 := bthen hb0 hB
          clear hb0
          have hb0 := hbn
          clear hbn
          have hzW5 : wr.heap.size ≤ W5.heap.size := hz
          clear hc hf hB hz
          go_wp2
          go_roundw
          case rel => exact ⟨k + 1, by omega, by go_num, bthen HBK.out hb0⟩
          case measure => simp [intOf]; omega
        · have hN := fun W => c_lnumber z W
          rw [hv] at hN
          have HN := Lib.hid hN
          clear hN
          by_cases q1 : lowN m z ≤ c
          · by_cases q2 : c ≤ highN d z
            · have e : fitsB m d z c = true := by unfold fitsB; simp [q1, q2]
              have hF := HF.out z hv
              rw [e] at hF
              have hI := fun W => c_lin ⟨0, 0, false⟩ z W
              rw [← HFIT.out z hv, e] at hI
              have hS := HS.out z hv
              generalize lowN m z = L at *
              generalize highN d z = H at *
              have HFV := Lib.hid hF
              have HIV := Lib.hid hI
              have HSV := Lib.hid hS
              clear hF hI hS hv e
              go_wp2_with fail
              refine (via (w0 := wr) (by go_grown) (HN.out _)).mono ?_
              rintro e W5 ⟨rfl, hc, hf, hz, hB⟩
              have r0n : W5.cell? ⟨w.heap.size, 0, none⟩ = some (.int .i64 m) := (hc _ _ (cell_lt r0)).trans r0
              clear r0
              have r0 := r0n
              clear r0n
              have r1n : W5.cell? ⟨w.heap.size, 1, none⟩ = some (.int .i64 d) := (hc _ _ (cell_lt r1)).trans r1
              clear r1
              have r1 := r1n
              clear r1n
              have x0n : W5.cell? ⟨W2.heap.size, 0, none⟩ = some (.int .i64 0) := (hc _ _ (cell_lt x0)).trans x0
              clear x0
              have x0 := x0n
              clear x0n
              have x1n : W5.cell? ⟨W2.heap.size, 1, none⟩ = some (.int .i64 0) := (hc _ _ (cell_lt x1)).trans x1
              clear x1
              have x1 := x1n
              clear x1n
              have x2n : W5.cell? ⟨W2.heap.size, 2, none⟩ = some (.bool false) := (hc _ _ (cell_lt x2)).trans x2
              clear x2
              have x2 := x2n
              clear x2n
              have nvn : W5.cell? ⟨W3.heap.size, k, none⟩ = some (.int .i64 z) := (hc _ _ (cell_lt nv)).trans nv
              clear nv
              have nv := nvn
              clear nvn
              have hbn : Below wr.heap.size wr W5 := bthen hb0 hB
              clear hb0
              have hb0 := hbn
              clear hbn
              have hzW5 : wr.heap.size ≤ W5.heap.size := hz
              clear hc hf hB hz
              go_wp2_with fail
              have kr0 := later_cell r0
              have kr1 := later_cell r1
              have kx0 := later_cell x0
              have kx1 := later_cell x1
              have kx2 := later_cell x2
              have knv := later_cell nv
              refine wp_region_later W5 (by kernel_rfl) (by kernel_rfl) (Below.refl _ _) ?_
              repeat (go_big_quiet_step (first | (go_at_call 27; with_reducible exact in_region (HFV.out _))))
              refine wpQuiet_nil ?_
              rintro ⟨W6, hB⟩
              dsimp only
              have hc := (bcell hB).1
              have hf := (bcell hB).2
              have hz := hB.size
              clear kr0 kr1 kx0 kx1 kx2 knv
              have r0n : W6.cell? ⟨w.heap.size, 0, none⟩ = some (.int .i64 m) := (hc _ _ (cell_lt r0)).trans r0
              clear r0
              have r0 := r0n
              clear r0n
              have r1n : W6.cell? ⟨w.heap.size, 1, none⟩ = some (.int .i64 d) := (hc _ _ (cell_lt r1)).trans r1
              clear r1
              have r1 := r1n
              clear r1n
              have x0n : W6.cell? ⟨W2.heap.size, 0, none⟩ = some (.int .i64 0) := (hc _ _ (cell_lt x0)).trans x0
              clear x0
              have x0 := x0n
              clear x0n
              have x1n : W6.cell? ⟨W2.heap.size, 1, none⟩ = some (.int .i64 0) := (hc _ _ (cell_lt x1)).trans x1
              clear x1
              have x1 := x1n
              clear x1n
              have x2n : W6.cell? ⟨W2.heap.size, 2, none⟩ = some (.bool false) := (hc _ _ (cell_lt x2)).trans x2
              clear x2
              have x2 := x2n
              clear x2n
              have nvn : W6.cell? ⟨W3.heap.size, k, none⟩ = some (.int .i64 z) := (hc _ _ (cell_lt nv)).trans nv
              clear nv
              have nv := nvn
              clear nvn
              have hbn : Below wr.heap.size wr W6 := bthen hb0 hB
              clear hb0
              have hb0 := hbn
              clear hbn
              have hzW6 : W5.heap.size ≤ W6.heap.size := hz
              clear hc hf hB hz
              go_wp2_with fail
              have kr0 := later_cell r0
              have kr1 := later_cell r1
              have kx0 := later_cell x0
              have kx1 := later_cell x1
              have kx2 := later_cell x2
              have knv := later_cell nv
              refine wp_region_later W6 (by kernel_rfl) (by kernel_rfl) (Below.refl _ _) ?_
              repeat (go_big_quiet_step (first | (go_at_call 28; with_reducible exact in_region (HSV.out _))))
              refine wpQuiet_nil ?_
              rintro ⟨W7, hB⟩
              dsimp only
              have hc := (bcell hB).1
              have hf := (bcell hB).2
              have hz := hB.size
              clear kr0 kr1 kx0 kx1 kx2 knv
              have r0n : W7.cell? ⟨w.heap.size, 0, none⟩ = some (.int .i64 m) := (hc _ _ (cell_lt r0)).trans r0
              clear r0
              have r0 := r0n
              clear r0n
              have r1n : W7.cell? ⟨w.heap.size, 1, none⟩ = some (.int .i64 d) := (hc _ _ (cell_lt r1)).trans r1
              clear r1
              have r1 := r1n
              clear r1n
              have x0n : W7.cell? ⟨W2.heap.size, 0, none⟩ = some (.int .i64 0) := (hc _ _ (cell_lt x0)).trans x0
              clear x0
              have x0 := x0n
              clear x0n
              have x1n : W7.cell? ⟨W2.heap.size, 1, none⟩ = some (.int .i64 0) := (hc _ _ (cell_lt x1)).trans x1
              clear x1
              have x1 := x1n
              clear x1n
              have x2n : W7.cell? ⟨W2.heap.size, 2, none⟩ = some (.bool false) := (hc _ _ (cell_lt x2)).trans x2
              clear x2
              have x2 := x2n
              clear x2n
              have nvn : W7.cell? ⟨W3.heap.size, k, none⟩ = some (.int .i64 z) := (hc _ _ (cell_lt nv)).trans nv
              clear nv
              have nv := nvn
              clear nvn
              have hbn : Below wr.heap.size wr W7 := bthen hb0 hB
              clear hb0
              have hb0 := hbn
              clear hbn
              have hzW7 : W6.heap.size ≤ W7.heap.size := hz
              clear hc hf hB hz
              go_wp2_with fail
              have kr0 := later_cell r0
              have kr1 := later_cell r1
              have kx0 := later_cell x0
              have kx1 := later_cell x1
              have kx2 := later_cell x2
              have knv := later_cell nv
              refine wp_region_later W7 (by kernel_rfl) (by kernel_rfl) (Below.refl _ _) ?_
              repeat (go_big_quiet_step (first | (go_at_call 24; with_reducible exact in_region (HIV.out _))))
              refine wpQuiet_nil ?_
              rintro ⟨W8, hB⟩
              dsimp only
              have hc := (bcell hB).1
              have hf := (bcell hB).2
              have hz := hB.size
              clear kr0 kr1 kx0 kx1 kx2 knv
              have r0n : W8.cell? ⟨w.heap.size, 0, none⟩ = some (.int .i64 m) := (hc _ _ (cell_lt r0)).trans r0
              clear r0
              have r0 := r0n
              clear r0n
              have r1n : W8.cell? ⟨w.heap.size, 1, none⟩ = some (.int .i64 d) := (hc _ _ (cell_lt r1)).trans r1
              clear r1
              have r1 := r1n
              clear r1n
              have x0n : W8.cell? ⟨W2.heap.size, 0, none⟩ = some (.int .i64 0) := (hc _ _ (cell_lt x0)).trans x0
              clear x0
              have x0 := x0n
              clear x0n
              have x1n : W8.cell? ⟨W2.heap.size, 1, none⟩ = some (.int .i64 0) := (hc _ _ (cell_lt x1)).trans x1
              clear x1
              have x1 := x1n
              clear x1n
              have x2n : W8.cell? ⟨W2.heap.size, 2, none⟩ = some (.bool false) := (hc _ _ (cell_lt x2)).trans x2
              clear x2
              have x2 := x2n
              clear x2n
              have nvn : W8.cell? ⟨W3.heap.size, k, none⟩ = some (.int .i64 z) := (hc _ _ (cell_lt nv)).trans nv
              clear nv
              have nv := nvn
              clear nvn
              have hbn : Below wr.heap.size wr W8 := bthen hb0 hB
              clear hb0
              have hb0 := hbn
              clear hbn
              have hzW8 : W7.heap.size ≤ W8.heap.size := hz
              clear hc hf hB hz
              go_wp2
              go_roundw
              case rel => exact ⟨k + 1, by omega, by go_num, bthen HBK.out hb0⟩
              case measure => simp [intOf]; omega
            · have e : fitsB m d z c = false := by unfold fitsB; simp [q2]
              have hF := HF.out z hv
              rw [e] at hF
              have hI := fun W => c_lin ⟨0, 0, false⟩ z W
              rw [← HFIT.out z hv, e] at hI
              have hS := HS.out z hv
              generalize lowN m z = L at *
              generalize highN d z = H at *
              have HFV := Lib.hid hF
              have HIV := Lib.hid hI
              have HSV := Lib.hid hS
              clear hF hI hS hv e
              go_wp2_with fail
              refine (via (w0 := wr) (by go_grown) (HN.out _)).mono ?_
              rintro e W5 ⟨rfl, hc, hf, hz, hB⟩
              have r0n : W5.cell? ⟨w.heap.size, 0, none⟩ = some (.int .i64 m) := (hc _ _ (cell_lt r0)).trans r0
              clear r0
              have r0 := r0n
              clear r0n
              have r1n : W5.cell? ⟨w.heap.size, 1, none⟩ = some (.int .i64 d) := (hc _ _ (cell_lt r1)).trans r1
              clear r1
              have r1 := r1n
              clear r1n
              have x0n : W5.cell? ⟨W2.heap.size, 0, none⟩ = some (.int .i64 0) := (hc _ _ (cell_lt x0)).trans x0
              clear x0
              have x0 := x0n
              clear x0n
              have x1n : W5.cell? ⟨W2.heap.size, 1, none⟩ = some (.int .i64 0) := (hc _ _ (cell_lt x1)).trans x1
              clear x1
              have x1 := x1n
              clear x1n
              have x2n : W5.cell? ⟨W2.heap.size, 2, none⟩ = some (.bool false) := (hc _ _ (cell_lt x2)).trans x2
              clear x2
              have x2 := x2n
              clear x2n
              have nvn : W5.cell? ⟨W3.heap.size, k, none⟩ = some (.int .i64 z) := (hc _ _ (cell_lt nv)).trans nv
              clear nv
              have nv := nvn
              clear nvn
              have hbn : Below wr.heap.size wr W5 := bthen hb0 hB
              clear hb0
              have hb0 := hbn
              clear hbn
              have hzW5 : wr.heap.size ≤ W5.heap.size := hz
              clear hc hf hB hz
              go_wp2_with fail
              have kr0 := later_cell r0
              have kr1 := later_cell r1
              have kx0 := later_cell x0
              have kx1 := later_cell x1
              have kx2 := later_cell x2
              have knv := later_cell nv
              refine wp_region_later W5 (by kernel_rfl) (by kernel_rfl) (Below.refl _ _) ?_
              repeat (go_big_quiet_step (first | (go_at_call 27; with_reducible exact in_region (HFV.out _))))
              refine wpQuiet_nil ?_
              rintro ⟨W6, hB⟩
              dsimp only
              have hc := (bcell hB).1
              have hf := (bcell hB).2
              have hz := hB.size
              clear kr0 kr1 kx0 kx1 kx2 knv
              have r0n : W6.cell? ⟨w.heap.size, 0, none⟩ = some (.int .i64 m) := (hc _ _ (cell_lt r0)).trans r0
              clear r0
              have r0 := r0n
              clear r0n
              have r1n : W6.cell? ⟨w.heap.size, 1, none⟩ = some (.int .i64 d) := (hc _ _ (cell_lt r1)).trans r1
              clear r1
              have r1 := r1n
              clear r1n
              have x0n : W6.cell? ⟨W2.heap.size, 0, none⟩ = some (.int .i64 0) := (hc _ _ (cell_lt x0)).trans x0
              clear x0
              have x0 := x0n
              clear x0n
              have x1n : W6.cell? ⟨W2.heap.size, 1, none⟩ = some (.int .i64 0) := (hc _ _ (cell_lt x1)).trans x1
              clear x1
              have x1 := x1n
              clear x1n
              have x2n : W6.cell? ⟨W2.heap.size, 2, none⟩ = some (.bool false) := (hc _ _ (cell_lt x2)).trans x2
              clear x2
              have x2 := x2n
              clear x2n
              have nvn : W6.cell? ⟨W3.heap.size, k, none⟩ = some (.int .i64 z) := (hc _ _ (cell_lt nv)).trans nv
              clear nv
              have nv := nvn
              clear nvn
              have hbn : Below wr.heap.size wr W6 := bthen hb0 hB
              clear hb0
              have hb0 := hbn
              clear hbn
              have hzW6 : W5.heap.size ≤ W6.heap.size := hz
              clear hc hf hB hz
              go_wp2_with fail
              have kr0 := later_cell r0
              have kr1 := later_cell r1
              have kx0 := later_cell x0
              have kx1 := later_cell x1
              have kx2 := later_cell x2
              have knv := later_cell nv
              refine wp_region_later W6 (by kernel_rfl) (by kernel_rfl) (Below.refl _ _) ?_
              repeat (go_big_quiet_step (first | (go_at_call 28; with_reducible exact in_region (HSV.out _))))
              refine wpQuiet_nil ?_
              rintro ⟨W7, hB⟩
              dsimp only
              have hc := (bcell hB).1
              have hf := (bcell hB).2
              have hz := hB.size
              clear kr0 kr1 kx0 kx1 kx2 knv
              have r0n : W7.cell? ⟨w.heap.size, 0, none⟩ = some (.int .i64 m) := (hc _ _ (cell_lt r0)).trans r0
              clear r0
              have r0 := r0n
              clear r0n
              have r1n : W7.cell? ⟨w.heap.size, 1, none⟩ = some (.int .i64 d) := (hc _ _ (cell_lt r1)).trans r1
              clear r1
              have r1 := r1n
              clear r1n
              have x0n : W7.cell? ⟨W2.heap.size, 0, none⟩ = some (.int .i64 0) := (hc _ _ (cell_lt x0)).trans x0
              clear x0
              have x0 := x0n
              clear x0n
              have x1n : W7.cell? ⟨W2.heap.size, 1, none⟩ = some (.int .i64 0) := (hc _ _ (cell_lt x1)).trans x1
              clear x1
              have x1 := x1n
              clear x1n
              have x2n : W7.cell? ⟨W2.heap.size, 2, none⟩ = some (.bool false) := (hc _ _ (cell_lt x2)).trans x2
              clear x2
              have x2 := x2n
              clear x2n
              have nvn : W7.cell? ⟨W3.heap.size, k, none⟩ = some (.int .i64 z) := (hc _ _ (cell_lt nv)).trans nv
              clear nv
              have nv := nvn
              clear nvn
              have hbn : Below wr.heap.size wr W7 := bthen hb0 hB
              clear hb0
              have hb0 := hbn
              clear hbn
              have hzW7 : W6.heap.size ≤ W7.heap.size := hz
              clear hc hf hB hz
              go_wp2_with fail
              have kr0 := later_cell r0
              have kr1 := later_cell r1
              have kx0 := later_cell x0
              have kx1 := later_cell x1
              have kx2 := later_cell x2
              have knv := later_cell nv
              refine wp_region_later W7 (by kernel_rfl) (by kernel_rfl) (Below.refl _ _) ?_
              repeat (go_big_quiet_step (first | (go_at_call 24; with_reducible exact in_region (HIV.out _))))
              refine wpQuiet_nil ?_
              rintro ⟨W8, hB⟩
              dsimp only
              have hc := (bcell hB).1
              have hf := (bcell hB).2
              have hz := hB.size
              clear kr0 kr1 kx0 kx1 kx2 knv
              have r0n : W8.cell? ⟨w.heap.size, 0, none⟩ = some (.int .i64 m) := (hc _ _ (cell_lt r0)).trans r0
              clear r0
              have r0 := r0n
              clear r0n
              have r1n : W8.cell? ⟨w.heap.size, 1, none⟩ = some (.int .i64 d) := (hc _ _ (cell_lt r1)).trans r1
              clear r1
              have r1 := r1n
              clear r1n
              have x0n : W8.cell? ⟨W2.heap.size, 0, none⟩ = some (.int .i64 0) := (hc _ _ (cell_lt x0)).trans x0
              clear x0
              have x0 := x0n
              clear x0n
              have x1n : W8.cell? ⟨W2.heap.size, 1, none⟩ = some (.int .i64 0) := (hc _ _ (cell_lt x1)).trans x1
              clear x1
              have x1 := x1n
              clear x1n
              have x2n : W8.cell? ⟨W2.heap.size, 2, none⟩ = some (.bool false) := (hc _ _ (cell_lt x2)).trans x2
              clear x2
              have x2 := x2n
              clear x2n
              have nvn : W8.cell? ⟨W3.heap.size, k, none⟩ = some (.int .i64 z) := (hc _ _ (cell_lt nv)).trans nv
              clear nv
              have nv := nvn
              clear nvn
              have hbn : Below wr.heap.size wr W8 := bthen hb0 hB
              clear hb0
              have hb0 := hbn
              clear hbn
              have hzW8 : W7.heap.size ≤ W8.heap.size := hz
              clear hc hf hB hz
              go_wp2
              go_roundw
              case rel => exact ⟨k + 1, by omega, by go_num, bthen HBK.out hb0⟩
              case measure => simp [intOf]; omega
          · have e : fitsB m d z c = false := by unfold fitsB; simp [q1]
            have hF := HF.out z hv
            rw [e] at hF
            have hI := fun W => c_lin ⟨0, 0, false⟩ z W
            rw [← HFIT.out z hv, e] at hI
            have hS := HS.out z hv
            generalize lowN m z = L at *
            generalize highN d z = H at *
            have hd1 : decide (L ≤ c) = false := decide_eq_false q1
            have HFV := Lib.hid hF
            have HIV := Lib.hid hI
            have HSV := Lib.hid hS
            clear hF hI hS hv e
            go_wp2_with fail
            refine (via (w0 := wr) (by go_grown) (HN.out _)).mono ?_
            rintro e W5 ⟨rfl, hc, hf, hz, hB⟩
            have r0n : W5.cell? ⟨w.heap.size, 0, none⟩ = some (.int .i64 m) := (hc _ _ (cell_lt r0)).trans r0
            clear r0
            have r0 := r0n
            clear r0n
            have r1n : W5.cell? ⟨w.heap.size, 1, none⟩ = some (.int .i64 d) := (hc _ _ (cell_lt r1)).trans r1
            clear r1
            have r1 := r1n
            clear r1n
            have x0n : W5.cell? ⟨W2.heap.size, 0, none⟩ = some (.int .i64 0) := (hc _ _ (cell_lt x0)).trans x0
            clear x0
            have x0 := x0n
            clear x0n
            have x1n : W5.cell? ⟨W2.heap.size, 1, none⟩ = some (.int .i64 0) := (hc _ _ (cell_lt x1)).trans x1
            clear x1
            have x1 := x1n
            clear x1n
            have x2n : W5.cell? ⟨W2.heap.size, 2, none⟩ = some (.bool false) := (hc _ _ (cell_lt x2)).trans x2
            clear x2
            have x2 := x2n
            clear x2n
            have nvn : W5.cell? ⟨W3.heap.size, k, none⟩ = some (.int .i64 z) := (hc _ _ (cell_lt nv)).trans nv
            clear nv
            have nv := nvn
            clear nvn
            have hbn : Below wr.heap.size wr W5 := bthen hb0 hB
            clear hb0
            have hb0 := hbn
            clear hbn
            have hzW5 : wr.heap.size ≤ W5.heap.size := hz
            clear hc hf hB hz
            go_wp2_with fail
            have kr0 := later_cell r0
            have kr1 := later_cell r1
            have kx0 := later_cell x0
            have kx1 := later_cell x1
            have kx2 := later_cell x2
            have knv := later_cell nv
            refine wp_region_later W5 (by kernel_rfl) (by kernel_rfl) (Below.refl _ _) ?_
            repeat (go_big_quiet_step (first | (go_at_call 27; with_reducible exact in_region (HFV.out _))))
            refine wpQuiet_nil ?_
            rintro ⟨W6, hB⟩
            dsimp only
            have hc := (bcell hB).1
            have hf := (bcell hB).2
            have hz := hB.size
            clear kr0 kr1 kx0 kx1 kx2 knv
            have r0n : W6.cell? ⟨w.heap.size, 0, none⟩ = some (.int .i64 m) := (hc _ _ (cell_lt r0)).trans r0
            clear r0
            have r0 := r0n
            clear r0n
            have r1n : W6.cell? ⟨w.heap.size, 1, none⟩ = some (.int .i64 d) := (hc _ _ (cell_lt r1)).trans r1
            clear r1
            have r1 := r1n
            clear r1n
            have x0n : W6.cell? ⟨W2.heap.size, 0, none⟩ = some (.int .i64 0) := (hc _ _ (cell_lt x0)).trans x0
            clear x0
            have x0 := x0n
            clear x0n
            have x1n : W6.cell? ⟨W2.heap.size, 1, none⟩ = some (.int .i64 0) := (hc _ _ (cell_lt x1)).trans x1
            clear x1
            have x1 := x1n
            clear x1n
            have x2n : W6.cell? ⟨W2.heap.size, 2, none⟩ = some (.bool false) := (hc _ _ (cell_lt x2)).trans x2
            clear x2
            have x2 := x2n
            clear x2n
            have nvn : W6.cell? ⟨W3.heap.size, k, none⟩ = some (.int .i64 z) := (hc _ _ (cell_lt nv)).trans nv
            clear nv
            have nv := nvn
            clear nvn
            have hbn : Below wr.heap.size wr W6 := bthen hb0 hB
            clear hb0
            have hb0 := hbn
            clear hbn
            have hzW6 : W5.heap.size ≤ W6.heap.size := hz
            clear hc hf hB hz
            go_wp2_with fail
            have kr0 := later_cell r0
            have kr1 := later_cell r1
            have kx0 := later_cell x0
            have kx1 := later_cell x1
            have kx2 := later_cell x2
            have knv := later_cell nv
            refine wp_region_later W6 (by kernel_rfl) (by kernel_rfl) (Below.refl _ _) ?_
            repeat (go_big_quiet_step (first | (go_at_call 28; with_reducible exact in_region (HSV.out _))))
            refine wpQuiet_nil ?_
            rintro ⟨W7, hB⟩
            dsimp only
            have hc := (bcell hB).1
            have hf := (bcell hB).2
            have hz := hB.size
            clear kr0 kr1 kx0 kx1 kx2 knv
            have r0n : W7.cell? ⟨w.heap.size, 0, none⟩ = some (.int .i64 m) := (hc _ _ (cell_lt r0)).trans r0
            clear r0
            have r0 := r0n
            clear r0n
            have r1n : W7.cell? ⟨w.heap.size, 1, none⟩ = some (.int .i64 d) := (hc _ _ (cell_lt r1)).trans r1
            clear r1
            have r1 := r1n
            clear r1n
            have x0n : W7.cell? ⟨W2.heap.size, 0, none⟩ = some (.int .i64 0) := (hc _ _ (cell_lt x0)).trans x0
            clear x0
            have x0 := x0n
            clear x0n
            have x1n : W7.cell? ⟨W2.heap.size, 1, none⟩ = some (.int .i64 0) := (hc _ _ (cell_lt x1)).trans x1
            clear x1
            have x1 := x1n
            clear x1n
            have x2n : W7.cell? ⟨W2.heap.size, 2, none⟩ = some (.bool false) := (hc _ _ (cell_lt x2)).trans x2
            clear x2
            have x2 := x2n
            clear x2n
            have nvn : W7.cell? ⟨W3.heap.size, k, none⟩ = some (.int .i64 z) := (hc _ _ (cell_lt nv)).trans nv
            clear nv
            have nv := nvn
            clear nvn
            have hbn : Below wr.heap.size wr W7 := bthen hb0 hB
            clear hb0
            have hb0 := hbn
            clear hbn
            have hzW7 : W6.heap.size ≤ W7.heap.size := hz
            clear hc hf hB hz
            go_wp2_with fail
            have kr0 := later_cell r0
            have kr1 := later_cell r1
            have kx0 := later_cell x0
            have kx1 := later_cell x1
            have kx2 := later_cell x2
            have knv := later_cell nv
            refine wp_region_later W7 (by kernel_rfl) (by kernel_rfl) (Below.refl _ _) ?_
            repeat (go_big_quiet_step (first | (go_at_call 24; with_reducible exact in_region (HIV.out _))))
            refine wpQuiet_nil ?_
            rintro ⟨W8, hB⟩
            dsimp only
            have hc := (bcell hB).1
            have hf := (bcell hB).2
            have hz := hB.size
            clear kr0 kr1 kx0 kx1 kx2 knv
            have r0n : W8.cell? ⟨w.heap.size, 0, none⟩ = some (.int .i64 m) := (hc _ _ (cell_lt r0)).trans r0
            clear r0
            have r0 := r0n
            clear r0n
            have r1n : W8.cell? ⟨w.heap.size, 1, none⟩ = some (.int .i64 d) := (hc _ _ (cell_lt r1)).trans r1
            clear r1
            have r1 := r1n
            clear r1n
            have x0n : W8.cell? ⟨W2.heap.size, 0, none⟩ = some (.int .i64 0) := (hc _ _ (cell_lt x0)).trans x0
            clear x0
            have x0 := x0n
            clear x0n
            have x1n : W8.cell? ⟨W2.heap.size, 1, none⟩ = some (.int .i64 0) := (hc _ _ (cell_lt x1)).trans x1
            clear x1
            have x1 := x1n
            clear x1n
            have x2n : W8.cell? ⟨W2.heap.size, 2, none⟩ = some (.bool false) := (hc _ _ (cell_lt x2)).trans x2
            clear x2
            have x2 := x2n
            clear x2n
            have nvn : W8.cell? ⟨W3.heap.size, k, none⟩ = some (.int .i64 z) := (hc _ _ (cell_lt nv)).trans nv
            clear nv
            have nv := nvn
            clear nvn
            have hbn : Below wr.heap.size wr W8 := bthen hb0 hB
            clear hb0
            have hb0 := hbn
            clear hbn
            have hzW8 : W7.heap.size ≤ W8.heap.size := hz
            clear hc hf hB hz
            go_wp2
            go_roundw
            case rel => exact ⟨k + 1, by omega, by go_num, bthen HBK.out hb0⟩
            case measure => simp [intOf]; omega
      · obtain rfl : k = 5 := by omega
        clear hb0 hrow
        have hb0 := HBW.out
        go_wp2_with fail
        refine (via (w0 := wr) (by go_grown) (c_counted _)).mono ?_
        rintro e W5 ⟨rfl, hc, hf, hz, hB⟩
        have hbn : Below w.heap.size w W5 := bthen hb0 hB
        clear hb0
        have hb0 := hbn
        clear hbn
        have hzW5 : wr.heap.size ≤ W5.heap.size := hz
        clear hc hf hB hz
        go_wp2_with fail
        go_ret
        exact ⟨rfl, by have hbz := hb0.size; go_grown⟩
  · go_upto_region 7 with (fail)
    go_name_world W4 hW4
    have hbz := hb0.size
    have hbn : Below w.heap.size w W4 := by subst hW4; go_grown
    clear hb0 hbz
    have hb0 := hbn
    clear hbn
    have hbk : Below W3.heap.size W3 W4 := by subst hW4; go_grown
    have r0n : W4.cell? ⟨w.heap.size, 0, none⟩ = some (.int .i64 m) := ((bcell hbk).1 _ _ (cell_lt r0)).trans r0
    have r1n : W4.cell? ⟨w.heap.size, 1, none⟩ = some (.int .i64 d) := ((bcell hbk).1 _ _ (cell_lt r1)).trans r1
    have x0n : W4.cell? ⟨W2.heap.size, 0, none⟩ = some (.int .i64 lo) := ((bcell hbk).1 _ _ (cell_lt x0)).trans x0
    have x1n : W4.cell? ⟨W2.heap.size, 1, none⟩ = some (.int .i64 hi) := ((bcell hbk).1 _ _ (cell_lt x1)).trans x1
    have x2n : W4.cell? ⟨W2.heap.size, 2, none⟩ = some (.bool true) := ((bcell hbk).1 _ _ (cell_lt x2)).trans x2
    clear hbk
    have n0n : W4.cell? ⟨W3.heap.size, 0, none⟩ = some (.int .i64 n) := by subst hW4; go_simp
    have n1n : W4.cell? ⟨W3.heap.size, 1, none⟩ = some (.int .i64 (lo - 1)) := by subst hW4; go_simp
    have n2n : W4.cell? ⟨W3.heap.size, 2, none⟩ = some (.int .i64 lo) := by subst hW4; go_simp
    have n3n : W4.cell? ⟨W3.heap.size, 3, none⟩ = some (.int .i64 hi) := by subst hW4; go_simp
    have n4n : W4.cell? ⟨W3.heap.size, 4, none⟩ = some (.int .i64 (hi + 1)) := by subst hW4; go_simp
    clear hW4 r0 r1 x0 x1 x2
    have r0 := r0n
    have r1 := r1n
    have x0 := x0n
    have x1 := x1n
    have x2 := x2n
    have n0 := n0n
    have n1 := n1n
    have n2 := n2n
    have n3 := n3n
    have n4 := n4n
    clear r0n r1n x0n x1n x2n n0n n1n n2n n3n n4n 
    have hrow := row5 n0 n1 n2 n3 n4
    have HROW := Lib.hid hrow
    clear hrow n0 n1 n2 n3 n4
    go_wp2
    go_loopw [10] (fun v10 wr => ∃ k : Nat, k ≤ 5 ∧ v10 = .int .i64 k ∧ Below W4.heap.size W4 wr) (fun v10 _ => 5 - (intOf v10).toNat)
    case atStart => exact ⟨0, by omega, rfl, Below.refl _ _⟩
    case round =>
      obtain ⟨k, hk, rfl, hbk⟩ := hrel
      have hbw : Below w.heap.size w wr := bthen hb0 hbk
      have HBK := Lib.hid hbk
      have hrow := HROW.out.later hbk
      have r0' := ((bcell hbk).1 _ _ (cell_lt r0)).trans r0
      have r1' := ((bcell hbk).1 _ _ (cell_lt r1)).trans r1
      have x0' := ((bcell hbk).1 _ _ (cell_lt x0)).trans x0
      have x1' := ((bcell hbk).1 _ _ (cell_lt x1)).trans x1
      have x2' := ((bcell hbk).1 _ _ (cell_lt x2)).trans x2
      clear hb0 r0 r1 x0 x1 x2
      have HBW := Lib.hid hbw
      clear hbw hbk
      have hb0 : Below wr.heap.size wr wr := Below.refl _ _
      have r0 := r0'
      clear r0'
      have r1 := r1'
      clear r1'
      have x0 := x0'
      clear x0'
      have x1 := x1'
      clear x1'
      have x2 := x2'
      clear x2'
      by_cases hlt : k < 5
      · have nv := hrow.2 k hlt
        clear hrow
        generalize ([n, (lo - 1), lo, hi, (hi + 1)] : List Int)[k]?.getD 0 = z at nv
        cases hv : inR 0 100000 z
        · have hN := fun W => c_lnumber z W
          rw [hv] at hN
          have HN := Lib.hid hN
          clear hN hv
          go_wp2_with fail
          refine (via (w0 := wr) (by go_grown) (HN.out _)).mono ?_
          rintro e W5 ⟨rfl, hc, hf, hz, hB⟩
          have r0n : W5.cell? ⟨w.heap.size, 0, none⟩ = some (.int .i64 m) := (hc _ _ (cell_lt r0)).trans r0
          clear r0
          have r0 := r0n
          clear r0n
          have r1n : W5.cell? ⟨w.heap.size, 1, none⟩ = some (.int .i64 d) := (hc _ _ (cell_lt r1)).trans r1
          clear r1
          have r1 := r1n
          clear r1n
          have x0n : W5.cell? ⟨W2.heap.size, 0, none⟩ = some (.int .i64 lo) := (hc _ _ (cell_lt x0)).trans x0
          clear x0
          have x0 := x0n
          clear x0n
          have x1n : W5.cell? ⟨W2.heap.size, 1, none⟩ = some (.int .i64 hi) := (hc _ _ (cell_lt x1)).trans x1
          clear x1
          have x1 := x1n
          clear x1n
          have x2n : W5.cell? ⟨W2.heap.size, 2, none⟩ = some (.bool true) := (hc _ _ (cell_lt x2)).trans x2
          clear x2
          have x2 := x2n
          clear x2n
          have nvn : W5.cell? ⟨W3.heap.size, k, none⟩ = some (.int .i64 z) := (hc _ _ (cell_lt nv)).trans nv
          clear nv
          have nv := nvn
          clear nvn
          have hbn : Below wr.heap.size wr W5 := bthen hb0 hB
          clear hb0
          have hb0 := hbn
          clear hbn
          have hzW5 : wr.heap.size ≤ W5.heap.size := hz
          clear hc hf hB hz
          go_wp2
          go_roundw
          case rel => exact ⟨k + 1, by omega, by go_num, bthen HBK.out hb0⟩
          case measure => simp [intOf]; omega
        · have hN := fun W => c_lnumber z W
          rw [hv] at hN
          have HN := Lib.hid hN
          clear hN
          by_cases q1 : lowN m z ≤ c
          · by_cases q2 : c ≤ highN d z
            · have e : fitsB m d z c = true := by unfold fitsB; simp [q1, q2]
              have hF := HF.out z hv
              rw [e] at hF
              have hI := fun W => c_lin ⟨lo, hi, true⟩ z W
              rw [← HFIT.out z hv, e] at hI
              have hS := HS.out z hv
              generalize lowN m z = L at *
              generalize highN d z = H at *
              have HFV := Lib.hid hF
              have HIV := Lib.hid hI
              have HSV := Lib.hid hS
              clear hF hI hS hv e
              go_wp2_with fail
              refine (via (w0 := wr) (by go_grown) (HN.out _)).mono ?_
              rintro e W5 ⟨rfl, hc, hf, hz, hB⟩
              have r0n : W5.cell? ⟨w.heap.size, 0, none⟩ = some (.int .i64 m) := (hc _ _ (cell_lt r0)).trans r0
              clear r0
              have r0 := r0n
              clear r0n
              have r1n : W5.cell? ⟨w.heap.size, 1, none⟩ = some (.int .i64 d) := (hc _ _ (cell_lt r1)).trans r1
              clear r1
              have r1 := r1n
              clear r1n
              have x0n : W5.cell? ⟨W2.heap.size, 0, none⟩ = some (.int .i64 lo) := (hc _ _ (cell_lt x0)).trans x0
              clear x0
              have x0 := x0n
              clear x0n
              have x1n : W5.cell? ⟨W2.heap.size, 1, none⟩ = some (.int .i64 hi) := (hc _ _ (cell_lt x1)).trans x1
              clear x1
              have x1 := x1n
              clear x1n
              have x2n : W5.cell? ⟨W2.heap.size, 2, none⟩ = some (.bool true) := (hc _ _ (cell_lt x2)).trans x2
              clear x2
              have x2 := x2n
              clear x2n
              have nvn : W5.cell? ⟨W3.heap.size, k, none⟩ = some (.int .i64 z) := (hc _ _ (cell_lt nv)).trans nv
              clear nv
              have nv := nvn
              clear nvn
              have hbn : Below wr.heap.size wr W5 := bthen hb0 hB
              clear hb0
              have hb0 := hbn
              clear hbn
              have hzW5 : wr.heap.size ≤ W5.heap.size := hz
              clear hc hf hB hz
              go_wp2_with fail
              have kr0 := later_cell r0
              have kr1 := later_cell r1
              have kx0 := later_cell x0
              have kx1 := later_cell x1
              have kx2 := later_cell x2
              have knv := later_cell nv
              refine wp_region_later W5 (by kernel_rfl) (by kernel_rfl) (Below.refl _ _) ?_
              repeat (go_big_quiet_step (first | (go_at_call 27; with_reducible exact in_region (HFV.out _))))
              refine wpQuiet_nil ?_
              rintro ⟨W6, hB⟩
              dsimp only
              have hc := (bcell hB).1
              have hf := (bcell hB).2
              have hz := hB.size
              clear kr0 kr1 kx0 kx1 kx2 knv
              have r0n : W6.cell? ⟨w.heap.size, 0, none⟩ = some (.int .i64 m) := (hc _ _ (cell_lt r0)).trans r0
              clear r0
              have r0 := r0n
              clear r0n
              have r1n : W6.cell? ⟨w.heap.size, 1, none⟩ = some (.int .i64 d) := (hc _ _ (cell_lt r1)).trans r1
              clear r1
              have r1 := r1n
              clear r1n
              have x0n : W6.cell? ⟨W2.heap.size, 0, none⟩ = some (.int .i64 lo) := (hc _ _ (cell_lt x0)).trans x0
              clear x0
              have x0 := x0n
              clear x0n
              have x1n : W6.cell? ⟨W2.heap.size, 1, none⟩ = some (.int .i64 hi) := (hc _ _ (cell_lt x1)).trans x1
              clear x1
              have x1 := x1n
              clear x1n
              have x2n : W6.cell? ⟨W2.heap.size, 2, none⟩ = some (.bool true) := (hc _ _ (cell_lt x2)).trans x2
              clear x2
              have x2 := x2n
              clear x2n
              have nvn : W6.cell? ⟨W3.heap.size, k, none⟩ = some (.int .i64 z) := (hc _ _ (cell_lt nv)).trans nv
              clear nv
              have nv := nvn
              clear nvn
              have hbn : Below wr.heap.size wr W6 := bthen hb0 hB
              clear hb0
              have hb0 := hbn
              clear hbn
              have hzW6 : W5.heap.size ≤ W6.heap.size := hz
              clear hc hf hB hz
              go_wp2_with fail
              have kr0 := later_cell r0
              have kr1 := later_cell r1
              have kx0 := later_cell x0
              have kx1 := later_cell x1
              have kx2 := later_cell x2
              have knv := later_cell nv
              refine wp_region_later W6 (by kernel_rfl) (by kernel_rfl) (Below.refl _ _) ?_
              repeat (go_big_quiet_step (first | (go_at_call 28; with_reducible exact in_region (HSV.out _))))
              refine wpQuiet_nil ?_
              rintro ⟨W7, hB⟩
              dsimp only
              have hc := (bcell hB).1
              have hf := (bcell hB).2
              have hz := hB.size
              clear kr0 kr1 kx0 kx1 kx2 knv
              have r0n : W7.cell? ⟨w.heap.size, 0, none⟩ = some (.int .i64 m) := (hc _ _ (cell_lt r0)).trans r0
              clear r0
              have r0 := r0n
              clear r0n
              have r1n : W7.cell? ⟨w.heap.size, 1, none⟩ = some (.int .i64 d) := (hc _ _ (cell_lt r1)).trans r1
              clear r1
              have r1 := r1n
              clear r1n
              have x0n : W7.cell? ⟨W2.heap.size, 0, none⟩ = some (.int .i64 lo) := (hc _ _ (cell_lt x0)).trans x0
              clear x0
              have x0 := x0n
              clear x0n
              have x1n : W7.cell? ⟨W2.heap.size, 1, none⟩ = some (.int .i64 hi) := (hc _ _ (cell_lt x1)).trans x1
              clear x1
              have x1 := x1n
              clear x1n
              have x2n : W7.cell? ⟨W2.heap.size, 2, none⟩ = some (.bool true) := (hc _ _ (cell_lt x2)).trans x2
              clear x2
              have x2 := x2n
              clear x2n
              have nvn : W7.cell? ⟨W3.heap.size, k, none⟩ = some (.int .i64 z) := (hc _ _ (cell_lt nv)).trans nv
              clear nv
              have nv := nvn
              clear nvn
              have hbn : Below wr.heap.size wr W7 := bthen hb0 hB
              clear hb0
              have hb0 := hbn
              clear hbn
              have hzW7 : W6.heap.size ≤ W7.heap.size := hz
              clear hc hf hB hz
              go_wp2_with fail
              have kr0 := later_cell r0
              have kr1 := later_cell r1
              have kx0 := later_cell x0
              have kx1 := later_cell x1
              have kx2 := later_cell x2
              have knv := later_cell nv
              refine wp_region_later W7 (by kernel_rfl) (by kernel_rfl) (Below.refl _ _) ?_
              repeat (go_big_quiet_step (first | (go_at_call 24; with_reducible exact in_region (HIV.out _))))
              refine wpQuiet_nil ?_
              rintro ⟨W8, hB⟩
              dsimp only
              have hc := (bcell hB).1
              have hf := (bcell hB).2
              have hz := hB.size
              clear kr0 kr1 kx0 kx1 kx2 knv
              have r0n : W8.cell? ⟨w.heap.size, 0, none⟩ = some (.int .i64 m) := (hc _ _ (cell_lt r0)).trans r0
              clear r0
              have r0 := r0n
              clear r0n
              have r1n : W8.cell? ⟨w.heap.size, 1, none⟩ = some (.int .i64 d) := (hc _ _ (cell_lt r1)).trans r1
              clear r1
              have r1 := r1n
              clear r1n
              have x0n : W8.cell? ⟨W2.heap.size, 0, none⟩ = some (.int .i64 lo) := (hc _ _ (cell_lt x0)).trans x0
              clear x0
              have x0 := x0n
              clear x0n
              have x1n : W8.cell? ⟨W2.heap.size, 1, none⟩ = some (.int .i64 hi) := (hc _ _ (cell_lt x1)).trans x1
              clear x1
              have x1 := x1n
              clear x1n
              have x2n : W8.cell? ⟨W2.heap.size, 2, none⟩ = some (.bool true) := (hc _ _ (cell_lt x2)).trans x2
              clear x2
              have x2 := x2n
              clear x2n
              have nvn : W8.cell? ⟨W3.heap.size, k, none⟩ = some (.int .i64 z) := (hc _ _ (cell_lt nv)).trans nv
              clear nv
              have nv := nvn
              clear nvn
              have hbn : Below wr.heap.size wr W8 := bthen hb0 hB
              clear hb0
              have hb0 := hbn
              clear hbn
              have hzW8 : W7.heap.size ≤ W8.heap.size := hz
              clear hc hf hB hz
              go_wp2
              go_roundw
              case rel => exact ⟨k + 1, by omega, by go_num, bthen HBK.out hb0⟩
              case measure => simp [intOf]; omega
            · have e : fitsB m d z c = false := by unfold fitsB; simp [q2]
              have hF := HF.out z hv
              rw [e] at hF
              have hI := fun W => c_lin ⟨lo, hi, true⟩ z W
              rw [← HFIT.out z hv, e] at hI
              have hS := HS.out z hv
              generalize lowN m z = L at *
              generalize highN d z = H at *
              have HFV := Lib.hid hF
              have HIV := Lib.hid hI
              have HSV := Lib.hid hS
              clear hF hI hS hv e
              go_wp2_with fail
              refine (via (w0 := wr) (by go_grown) (HN.out _)).mono ?_
              rintro e W5 ⟨rfl, hc, hf, hz, hB⟩
              have r0n : W5.cell? ⟨w.heap.size, 0, none⟩ = some (.int .i64 m) := (hc _ _ (cell_lt r0)).trans r0
              clear r0
              have r0 := r0n
              clear r0n
              have r1n : W5.cell? ⟨w.heap.size, 1, none⟩ = some (.int .i64 d) := (hc _ _ (cell_lt r1)).trans r1
              clear r1
              have r1 := r1n
              clear r1n
              have x0n : W5.cell? ⟨W2.heap.size, 0, none⟩ = some (.int .i64 lo) := (hc _ _ (cell_lt x0)).trans x0
              clear x0
              have x0 := x0n
              clear x0n
              have x1n : W5.cell? ⟨W2.heap.size, 1, none⟩ = some (.int .i64 hi) := (hc _ _ (cell_lt x1)).trans x1
              clear x1
              have x1 := x1n
              clear x1n
              have x2n : W5.cell? ⟨W2.heap.size, 2, none⟩ = some (.bool true) := (hc _ _ (cell_lt x2)).trans x2
              clear x2
              have x2 := x2n
              clear x2n
              have nvn : W5.cell? ⟨W3.heap.size, k, none⟩ = some (.int .i64 z) := (hc _ _ (cell_lt nv)).trans nv
              clear nv
              have nv := nvn
              clear nvn
              have hbn : Below wr.heap.size wr W5 := bthen hb0 hB
              clear hb0
              have hb0 := hbn
              clear hbn
              have hzW5 : wr.heap.size ≤ W5.heap.size := hz
              clear hc hf hB hz
              go_wp2_with fail
              have kr0 := later_cell r0
              have kr1 := later_cell r1
              have kx0 := later_cell x0
              have kx1 := later_cell x1
              have kx2 := later_cell x2
              have knv := later_cell nv
              refine wp_region_later W5 (by kernel_rfl) (by kernel_rfl) (Below.refl _ _) ?_
              repeat (go_big_quiet_step (first | (go_at_call 27; with_reducible exact in_region (HFV.out _))))
              refine wpQuiet_nil ?_
              rintro ⟨W6, hB⟩
              dsimp only
              have hc := (bcell hB).1
              have hf := (bcell hB).2
              have hz := hB.size
              clear kr0 kr1 kx0 kx1 kx2 knv
              have r0n : W6.cell? ⟨w.heap.size, 0, none⟩ = some (.int .i64 m) := (hc _ _ (cell_lt r0)).trans r0
              clear r0
              have r0 := r0n
              clear r0n
              have r1n : W6.cell? ⟨w.heap.size, 1, none⟩ = some (.int .i64 d) := (hc _ _ (cell_lt r1)).trans r1
              clear r1
              have r1 := r1n
              clear r1n
              have x0n : W6.cell? ⟨W2.heap.size, 0, none⟩ = some (.int .i64 lo) := (hc _ _ (cell_lt x0)).trans x0
              clear x0
              have x0 := x0n
              clear x0n
              have x1n : W6.cell? ⟨W2.heap.size, 1, none⟩ = some (.int .i64 hi) := (hc _ _ (cell_lt x1)).trans x1
              clear x1
              have x1 := x1n
              clear x1n
              have x2n : W6.cell? ⟨W2.heap.size, 2, none⟩ = some (.bool true) := (hc _ _ (cell_lt x2)).trans x2
              clear x2
              have x2 := x2n
              clear x2n
              have nvn : W6.cell? ⟨W3.heap.size, k, none⟩ = some (.int .i64 z) := (hc _ _ (cell_lt nv)).trans nv
              clear nv
              have nv := nvn
              clear nvn
              have hbn : Below wr.heap.size wr W6 := bthen hb0 hB
              clear hb0
              have hb0 := hbn
              clear hbn
              have hzW6 : W5.heap.size ≤ W6.heap.size := hz
              clear hc hf hB hz
              go_wp2_with fail
              have kr0 := later_cell r0
              have kr1 := later_cell r1
              have kx0 := later_cell x0
              have kx1 := later_cell x1
              have kx2 := later_cell x2
              have knv := later_cell nv
              refine wp_region_later W6 (by kernel_rfl) (by kernel_rfl) (Below.refl _ _) ?_
              repeat (go_big_quiet_step (first | (go_at_call 28; with_reducible exact in_region (HSV.out _))))
              refine wpQuiet_nil ?_
              rintro ⟨W7, hB⟩
              dsimp only
              have hc := (bcell hB).1
              have hf := (bcell hB).2
              have hz := hB.size
              clear kr0 kr1 kx0 kx1 kx2 knv
              have r0n : W7.cell? ⟨w.heap.size, 0, none⟩ = some (.int .i64 m) := (hc _ _ (cell_lt r0)).trans r0
              clear r0
              have r0 := r0n
              clear r0n
              have r1n : W7.cell? ⟨w.heap.size, 1, none⟩ = some (.int .i64 d) := (hc _ _ (cell_lt r1)).trans r1
              clear r1
              have r1 := r1n
              clear r1n
              have x0n : W7.cell? ⟨W2.heap.size, 0, none⟩ = some (.int .i64 lo) := (hc _ _ (cell_lt x0)).trans x0
              clear x0
              have x0 := x0n
              clear x0n
              have x1n : W7.cell? ⟨W2.heap.size, 1, none⟩ = some (.int .i64 hi) := (hc _ _ (cell_lt x1)).trans x1
              clear x1
              have x1 := x1n
              clear x1n
              have x2n : W7.cell? ⟨W2.heap.size, 2, none⟩ = some (.bool true) := (hc _ _ (cell_lt x2)).trans x2
              clear x2
              have x2 := x2n
              clear x2n
              have nvn : W7.cell? ⟨W3.heap.size, k, none⟩ = some (.int .i64 z) := (hc _ _ (cell_lt nv)).trans nv
              clear nv
              have nv := nvn
              clear nvn
              have hbn : Below wr.heap.size wr W7 := bthen hb0 hB
              clear hb0
              have hb0 := hbn
              clear hbn
              have hzW7 : W6.heap.size ≤ W7.heap.size := hz
              clear hc hf hB hz
              go_wp2_with fail
              have kr0 := later_cell r0
              have kr1 := later_cell r1
              have kx0 := later_cell x0
              have kx1 := later_cell x1
              have kx2 := later_cell x2
              have knv := later_cell nv
              refine wp_region_later W7 (by kernel_rfl) (by kernel_rfl) (Below.refl _ _) ?_
              repeat (go_big_quiet_step (first | (go_at_call 24; with_reducible exact in_region (HIV.out _))))
              refine wpQuiet_nil ?_
              rintro ⟨W8, hB⟩
              dsimp only
              have hc := (bcell hB).1
              have hf := (bcell hB).2
              have hz := hB.size
              clear kr0 kr1 kx0 kx1 kx2 knv
              have r0n : W8.cell? ⟨w.heap.size, 0, none⟩ = some (.int .i64 m) := (hc _ _ (cell_lt r0)).trans r0
              clear r0
              have r0 := r0n
              clear r0n
              have r1n : W8.cell? ⟨w.heap.size, 1, none⟩ = some (.int .i64 d) := (hc _ _ (cell_lt r1)).trans r1
              clear r1
              have r1 := r1n
              clear r1n
              have x0n : W8.cell? ⟨W2.heap.size, 0, none⟩ = some (.int .i64 lo) := (hc _ _ (cell_lt x0)).trans x0
              clear x0
              have x0 := x0n
              clear x0n
              have x1n : W8.cell? ⟨W2.heap.size, 1, none⟩ = some (.int .i64 hi) := (hc _ _ (cell_lt x1)).trans x1
              clear x1
              have x1 := x1n
              clear x1n
              have x2n : W8.cell? ⟨W2.heap.size, 2, none⟩ = some (.bool true) := (hc _ _ (cell_lt x2)).trans x2
              clear x2
              have x2 := x2n
              clear x2n
              have nvn : W8.cell? ⟨W3.heap.size, k, none⟩ = some (.int .i64 z) := (hc _ _ (cell_lt nv)).trans nv
              clear nv
              have nv := nvn
              clear nvn
              have hbn : Below wr.heap.size wr W8 := bthen hb0 hB
              clear hb0
              have hb0 := hbn
              clear hbn
              have hzW8 : W7.heap.size ≤ W8.heap.size := hz
              clear hc hf hB hz
              go_wp2
              go_roundw
              case rel => exact ⟨k + 1, by omega, by go_num, bthen HBK.out hb0⟩
              case measure => simp [intOf]; omega
          · have e : fitsB m d z c = false := by unfold fitsB; simp [q1]
            have hF := HF.out z hv
            rw [e] at hF
            have hI := fun W => c_lin ⟨lo, hi, true⟩ z W
            rw [← HFIT.out z hv, e] at hI
            have hS := HS.out z hv
            generalize lowN m z = L at *
            generalize highN d z = H at *
            have hd1 : decide (L ≤ c) = false := decide_eq_false q1
            have HFV := Lib.hid hF
            have HIV := Lib.hid hI
            have HSV := Lib.hid hS
            clear hF hI hS hv e
            go_wp2_with fail
            refine (via (w0 := wr) (by go_grown) (HN.out _)).mono ?_
            rintro e W5 ⟨rfl, hc, hf, hz, hB⟩
            have r0n : W5.cell? ⟨w.heap.size, 0, none⟩ = some (.int .i64 m) := (hc _ _ (cell_lt r0)).trans r0
            clear r0
            have r0 := r0n
            clear r0n
            have r1n : W5.cell? ⟨w.heap.size, 1, none⟩ = some (.int .i64 d) := (hc _ _ (cell_lt r1)).trans r1
            clear r1
            have r1 := r1n
            clear r1n
            have x0n : W5.cell? ⟨W2.heap.size, 0, none⟩ = some (.int .i64 lo) := (hc _ _ (cell_lt x0)).trans x0
            clear x0
            have x0 := x0n
            clear x0n
            have x1n : W5.cell? ⟨W2.heap.size, 1, none⟩ = some (.int .i64 hi) := (hc _ _ (cell_lt x1)).trans x1
            clear x1
            have x1 := x1n
            clear x1n
            have x2n : W5.cell? ⟨W2.heap.size, 2, none⟩ = some (.bool true) := (hc _ _ (cell_lt x2)).trans x2
            clear x2
            have x2 := x2n
            clear x2n
            have nvn : W5.cell? ⟨W3.heap.size, k, none⟩ = some (.int .i64 z) := (hc _ _ (cell_lt nv)).trans nv
            clear nv
            have nv := nvn
            clear nvn
            have hbn : Below wr.heap.size wr W5 := bthen hb0 hB
            clear hb0
            have hb0 := hbn
            clear hbn
            have hzW5 : wr.heap.size ≤ W5.heap.size := hz
            clear hc hf hB hz
            go_wp2_with fail
            have kr0 := later_cell r0
            have kr1 := later_cell r1
            have kx0 := later_cell x0
            have kx1 := later_cell x1
            have kx2 := later_cell x2
            have knv := later_cell nv
            refine wp_region_later W5 (by kernel_rfl) (by kernel_rfl) (Below.refl _ _) ?_
            repeat (go_big_quiet_step (first | (go_at_call 27; with_reducible exact in_region (HFV.out _))))
            refine wpQuiet_nil ?_
            rintro ⟨W6, hB⟩
            dsimp only
            have hc := (bcell hB).1
            have hf := (bcell hB).2
            have hz := hB.size
            clear kr0 kr1 kx0 kx1 kx2 knv
            have r0n : W6.cell? ⟨w.heap.size, 0, none⟩ = some (.int .i64 m) := (hc _ _ (cell_lt r0)).trans r0
            clear r0
            have r0 := r0n
            clear r0n
            have r1n : W6.cell? ⟨w.heap.size, 1, none⟩ = some (.int .i64 d) := (hc _ _ (cell_lt r1)).trans r1
            clear r1
            have r1 := r1n
            clear r1n
            have x0n : W6.cell? ⟨W2.heap.size, 0, none⟩ = some (.int .i64 lo) := (hc _ _ (cell_lt x0)).trans x0
            clear x0
            have x0 := x0n
            clear x0n
            have x1n : W6.cell? ⟨W2.heap.size, 1, none⟩ = some (.int .i64 hi) := (hc _ _ (cell_lt x1)).trans x1
            clear x1
            have x1 := x1n
            clear x1n
            have x2n : W6.cell? ⟨W2.heap.size, 2, none⟩ = some (.bool true) := (hc _ _ (cell_lt x2)).trans x2
            clear x2
            have x2 := x2n
            clear x2n
            have nvn : W6.cell? ⟨W3.heap.size, k, none⟩ = some (.int .i64 z) := (hc _ _ (cell_lt nv)).trans nv
            clear nv
            have nv := nvn
            clear nvn
            have hbn : Below wr.heap.size wr W6 := bthen hb0 hB
            clear hb0
            have hb0 := hbn
            clear hbn
            have hzW6 : W5.heap.size ≤ W6.heap.size := hz
            clear hc hf hB hz
            go_wp2_with fail
            have kr0 := later_cell r0
            have kr1 := later_cell r1
            have kx0 := later_cell x0
            have kx1 := later_cell x1
            have kx2 := later_cell x2
            have knv := later_cell nv
            refine wp_region_later W6 (by kernel_rfl) (by kernel_rfl) (Below.refl _ _) ?_
            repeat (go_big_quiet_step (first | (go_at_call 28; with_reducible exact in_region (HSV.out _))))
            refine wpQuiet_nil ?_
            rintro ⟨W7, hB⟩
            dsimp only
            have hc := (bcell hB).1
            have hf := (bcell hB).2
            have hz := hB.size
            clear kr0 kr1 kx0 kx1 kx2 knv
            have r0n : W7.cell? ⟨w.heap.size, 0, none⟩ = some (.int .i64 m) := (hc _ _ (cell_lt r0)).trans r0
            clear r0
            have r0 := r0n
            clear r0n
            have r1n : W7.cell? ⟨w.heap.size, 1, none⟩ = some (.int .i64 d) := (hc _ _ (cell_lt r1)).trans r1
            clear r1
            have r1 := r1n
            clear r1n
            have x0n : W7.cell? ⟨W2.heap.size, 0, none⟩ = some (.int .i64 lo) := (hc _ _ (cell_lt x0)).trans x0
            clear x0
            have x0 := x0n
            clear x0n
            have x1n : W7.cell? ⟨W2.heap.size, 1, none⟩ = some (.int .i64 hi) := (hc _ _ (cell_lt x1)).trans x1
            clear x1
            have x1 := x1n
            clear x1n
            have x2n : W7.cell? ⟨W2.heap.size, 2, none⟩ = some (.bool true) := (hc _ _ (cell_lt x2)).trans x2
            clear x2
            have x2 := x2n
            clear x2n
            have nvn : W7.cell? ⟨W3.heap.size, k, none⟩ = some (.int .i64 z) := (hc _ _ (cell_lt nv)).trans nv
            clear nv
            have nv := nvn
            clear nvn
            have hbn : Below wr.heap.size wr W7 := bthen hb0 hB
            clear hb0
            have hb0 := hbn
            clear hbn
            have hzW7 : W6.heap.size ≤ W7.heap.size := hz
            clear hc hf hB hz
            go_wp2_with fail
            have kr0 := later_cell r0
            have kr1 := later_cell r1
            have kx0 := later_cell x0
            have kx1 := later_cell x1
            have kx2 := later_cell x2
            have knv := later_cell nv
            refine wp_region_later W7 (by kernel_rfl) (by kernel_rfl) (Below.refl _ _) ?_
            repeat (go_big_quiet_step (first | (go_at_call 24; with_reducible exact in_region (HIV.out _))))
            refine wpQuiet_nil ?_
            rintro ⟨W8, hB⟩
            dsimp only
            have hc := (bcell hB).1
            have hf := (bcell hB).2
            have hz := hB.size
            clear kr0 kr1 kx0 kx1 kx2 knv
            have r0n : W8.cell? ⟨w.heap.size, 0, none⟩ = some (.int .i64 m) := (hc _ _ (cell_lt r0)).trans r0
            clear r0
            have r0 := r0n
            clear r0n
            have r1n : W8.cell? ⟨w.heap.size, 1, none⟩ = some (.int .i64 d) := (hc _ _ (cell_lt r1)).trans r1
            clear r1
            have r1 := r1n
            clear r1n
            have x0n : W8.cell? ⟨W2.heap.size, 0, none⟩ = some (.int .i64 lo) := (hc _ _ (cell_lt x0)).trans x0
            clear x0
            have x0 := x0n
            clear x0n
            have x1n : W8.cell? ⟨W2.heap.size, 1, none⟩ = some (.int .i64 hi) := (hc _ _ (cell_lt x1)).trans x1
            clear x1
            have x1 := x1n
            clear x1n
            have x2n : W8.cell? ⟨W2.heap.size, 2, none⟩ = some (.bool true) := (hc _ _ (cell_lt x2)).trans x2
            clear x2
            have x2 := x2n
            clear x2n
            have nvn : W8.cell? ⟨W3.heap.size, k, none⟩ = some (.int .i64 z) := (hc _ _ (cell_lt nv)).trans nv
            clear nv
            have nv := nvn
            clear nvn
            have hbn : Below wr.heap.size wr W8 := bthen hb0 hB
            clear hb0
            have hb0 := hbn
            clear hbn
            have hzW8 : W7.heap.size ≤ W8.heap.size := hz
            clear hc hf hB hz
            go_wp2
            go_roundw
            case rel => exact ⟨k + 1, by omega, by go_num, bthen HBK.out hb0⟩
            case measure => simp [intOf]; omega
      · obtain rfl : k = 5 := by omega
        clear hb0 hrow
        have hb0 := HBW.out
        go_wp2_with fail
        refine (via (w0 := wr) (by go_grown) (c_counted _)).mono ?_
        rintro e W5 ⟨rfl, hc, hf, hz, hB⟩
        have hbn : Below w.heap.size w W5 := bthen hb0 hB
        clear hb0
        have hb0 := hbn
        clear hbn
        have hzW5 : wr.heap.size ≤ W5.heap.size := hz
        clear hc hf hB hz
        go_wp2_with fail
        go_ret
        exact ⟨rfl, by have hbz := hb0.size; go_grown⟩

theorem walk (m d n c : Int) (w : World) :
    Calls Try.prog 6 #[.agg #[.int .i64 m, .int .i64 d], .int .i64 n, .int .i64 c] w fun e w' => e = .returned (.bool true) ∧ Below w.heap.size w w' := by
  by_cases h : okTC m d c = true
  · obtain ⟨hr, hc⟩ : rateB m d = true ∧ inR 0 200000 c = true := by simpa [okTC] using h
    obtain ⟨⟨lo, hi, so⟩, hx⟩ : ∃ x, fitIv m d c c = x := ⟨_, rfl⟩
    have hb := fit_bounds (m := m) (d := d) (a := c) (b := c)
    rw [hx] at hb
    obtain ⟨h1, h2⟩ := rateB_iff.1 hr
    cases so
    · have e := hb.2 rfl
      simp [Iv.none] at e
      exact walk_ok m d n c lo hi false w h1 h2 hc hr hx (by omega) (by omega) (by omega) (fun _ => e)
    · have e := hb.1 rfl
      exact walk_ok m d n c lo hi true w h1 h2 hc hr hx e.1 e.2.1 e.2.2 (fun h => by cases h)
  · exact walk_bad m d n c w (by simpa using h)


set_option maxRecDepth 100000 in
theorem lifted (os : Os) (started : os.Started) (H : Type) (enc : TypeId × Value → H) :
    ReturnsInHanded {} Try.checked os 6 .any (Rows.tallyExactlySpec.pre6 enc Try.prog Try.f6 Rows.tallyExactlyRow.domain false) (Rows.tallyExactlySpec.post enc Try.prog Try.f6 false true false false) := by
  refine returnsInHanded_of_change (C := Try.checked) own started (by kernel_rfl) Try.func6
    (ChangeSpec.witness6 (enc := enc) (C := Try.checked) false ⟨#[], #[.agg #[.int .i64 0, .int .i64 0], .int .i64 0, .int .i64 0], []⟩ 8 (by kernel_rfl) (by kernel_rfl) (by kernel_rfl) (by kernel_rfl)) ?_
  intro W base args ds gs before hval0 hW _ _
  have hval : ∀ (j : Nat) t v, Try.f6.params[j]? = some t → args[j]? = some v → Value.okWide Try.prog W .any base t v := hval0
  have hW' := hW
  obtain ⟨p, q, hA0, hV, rfl, _, _⟩ := hW
  have hA : DataW.TrodAll enc Try.prog W 0 (fun _ => true) true Try.f6.params.toList args.toList ds p := hA0
  rw [Try.params6] at hA hval
  obtain ⟨v0, vs0, d0, ds0, p0, q0, hargs, rfl, rfl, h0, r0⟩ := trodAll_cons hA
  obtain ⟨v1, vs1, d1, ds1, p1, q1, rfl, rfl, rfl, h1, r1⟩ := trodAll_cons r0
  obtain ⟨v2, vs2, d2, ds2, p2, q2, rfl, rfl, rfl, h2, r2⟩ := trodAll_cons r1
  obtain ⟨rfl, rfl, rfl⟩ := trodAll_nil r2
  obtain rfl : args = #[v0, v1, v2] := by cases args; simp_all
  obtain ⟨rfl, rfl⟩ := trodVars_none hV
  obtain ⟨c0x0, c0x1, y0x0, y0x1, m0, rfl, rfl, rfl, hy0x0, hy0x1⟩ := open_agg2 Try.underlying27 (by kernel_rfl) (by kernel_rfl) (hval 0 27 v0 rfl rfl) h0
  obtain ⟨a0x0, e0x0, rfl, w0x0⟩ := DataW.trod_int Try.underlying3 hy0x0
  obtain ⟨a0x1, e0x1, rfl, w0x1⟩ := DataW.trod_int Try.underlying3 hy0x1
  simp only [List.cons.injEq, and_true] at e0x0 e0x1
  subst e0x0 e0x1
  obtain ⟨a1, rfl, rfl, rfl, w1⟩ := open_int Try.underlying3 (hval 1 3 v1 rfl rfl) h1
  obtain ⟨a2, rfl, rfl, rfl, w2⟩ := open_int Try.underlying3 (hval 2 3 v2 rfl rfl) h2
  clear hA0 hval0
  simp only [List.append_nil] at hW'
  have s0 := stays h0 (by kernel_rfl) (by kernel_rfl)
  have s1 := stays h1 (by kernel_rfl) (by kernel_rfl)
  have s2 := stays h2 (by kernel_rfl) (by kernel_rfl)
  refine (walk a0x0 a0x1 a1 a2 W).mono fun e W' ⟨he, hg⟩ => ?_
  subst he
  exact ⟨_, rfl, post_of_below (pa := []) (pv := []) hW' (fun _ _ _ => (trodAll_cons_mk (shut_bool Try.underlying4 _) trodAll_mk0)) (fun sp _ => (trodAll_cons_mk (s0 _ _) (trodAll_cons_mk (s1 _ _) (trodAll_cons_mk (s2 _ _) trodAll_mk0)))) (fun _ _ => rfl) rfl
    hg (ok_one (by kernel_rfl) rfl (okWide_bool_mk Try.underlying4 _))⟩

theorem over : Rows.tallyExactlyRow.holds Try.pinned (OpenSpec.ofChange Rows.tallyExactlySpec) :=
  OpenClaim.holds_of_wide 6 Try.f6 rfl rfl rfl rfl rfl rfl rfl ⟨rfl, rfl, rfl, rfl, rfl⟩ rfl rfl rfl rfl rfl (by kernel_rfl) Try.func6 (by kernel_rfl)
    (of_decide_eq_true (by kernel_rfl)) (by unfold Func.isWrapper; first | (rw [if_pos (by decide +kernel)]; kernel_rfl) | (rw [if_neg (by decide +kernel)]; exact ⟨rfl, rfl⟩))
    (fun os started H enc _ => lifted os started H enc)

theorem proved : Rows.TallyExactlySaid :=
  over
end Go.Proofs.Ytokpjaodchcheaa.tallyExactly
