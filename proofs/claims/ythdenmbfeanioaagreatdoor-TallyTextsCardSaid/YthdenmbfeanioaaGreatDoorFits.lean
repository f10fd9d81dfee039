/- This text proves what Fits and Shown of package tally return, for every rate and number. -/
import Derived.Test.YthdenmbfeanioaaGreatDoorSides
namespace Go.Proofs.YthdenmbfeanioaaGreatDoor
open Go.RowKit

def fitsB (m d n c : Int) : Bool := decide (lowN m n ≤ c) && decide (c ≤ highN d n)
/-- Are the arguments of Fits valid? -/
def okN (m d n : Int) : Bool := rateB m d && inR 0 100000 n
def okNC (m d n c : Int) : Bool := rateB m d && inR 0 100000 n && inR 0 200000 c

set_option maxHeartbeats 1000000 in
theorem c_Shown (m d n : Int) (w : World) :
    Calls Tryz.prog 15 #[.agg #[.int .i64 m, .int .i64 d], .int .i64 n] w fun e w' =>
      e = .returned (if okN m d n then .tuple #[.int .i64 (lowN m n), .int .i64 (highN d n), .int .i64 0] else .tuple #[.int .i64 0, .int .i64 0, .int .i64 1]) ∧ Below w.heap.size w w' := by
  unfold okN
  cases h1 : rateB m d
  · go_enter Tryz.func15, Tryz.ntmps15
    go_wp2_with fail
    refine (via (w0 := w) (by go_grown) (c_isRate m d _)).mono ?_
    rw [h1]
    rintro e w1 ⟨rfl, -, -, -, hB1⟩
    go_wp2_with fail
    go_ret3
    exact ⟨rfl, hB1⟩
  · cases h2 : inR 0 100000 n
    · go_enter Tryz.func15, Tryz.ntmps15
      go_wp2_with fail
      refine (via (w0 := w) (by go_grown) (c_isRate m d _)).mono ?_
      rw [h1]
      rintro e w1 ⟨rfl, -, -, hz1, hB1⟩
      go_wp2_with fail
      refine (via (w0 := w) (by go_grown) (c_in_one 0 100000 n _ _ _ (by go_simp))).mono ?_
      rw [h2]
      rintro e w2 ⟨rfl, -, -, -, hB2⟩
      go_wp2_with fail
      go_ret3
      exact ⟨rfl, hB2⟩
    · have hm := (rateB_iff.1 h1).1
      have hd := (rateB_iff.1 h1).2
      have hn := inR_iff.1 h2
      have hL := fun W => c_ofL m d n W (by omega) (by omega)
      have HL := Lib.hid hL
      clear hL
      have hG := fun W => c_ofG m d n W (by omega) (by omega)
      have HG := Lib.hid hG
      clear hG
      go_enter Tryz.func15, Tryz.ntmps15
      go_wp2_with fail
      refine (via (w0 := w.alloc (Obj.cells #[.int .i64 m, .int .i64 d] 38)) (by go_grown) (c_isRate m d _)).mono ?_
      rw [h1]
      rintro e w1 ⟨rfl, hc1, -, hz1, hB1⟩
      go_wp2_with fail
      refine (via (w0 := w.alloc (Obj.cells #[.int .i64 m, .int .i64 d] 38)) (by go_grown) (c_in_one 0 100000 n _ _ _ (by go_simp))).mono ?_
      rw [h2]
      rintro e w2 ⟨rfl, hc2, -, -, hB2⟩
      clear hc1
      go_wp2_with fail
      have hb0 : Below w.heap.size w w2 := bthen (by go_grown) hB2
      have k3 := later_cell (w := w2) (b := w.heap.size) (o := 0) (v := .int .i64 m) (by go_simp)
      have k4 := later_cell (w := w2) (b := w.heap.size) (o := 1) (v := .int .i64 d) (by go_simp)
      clear hc2 hB2
      refine wp_region_later w2 (by kernel_rfl) (by kernel_rfl) (Below.refl _ _) ?_
      repeat (go_big_quiet_step (first | (go_at_call 35; with_reducible exact in_region (c_least _)) | (go_at_call 37; with_reducible exact in_region (c_greatest _)) | (go_at_call 36; with_reducible exact in_region (HL.out _)) | (go_at_call 36; with_reducible exact in_region (HG.out _))))
      refine wpQuiet_nil ?_
      rintro ⟨W, hW⟩
      go_wp2
      go_ret3
      exact ⟨rfl, bthen hb0 hW⟩

theorem fitsB_lo {m d n c : Int} (h : ¬ lowN m n ≤ c) : fitsB m d n c = false := by simp [fitsB, h]
theorem fitsB_hi {m d n c : Int} (h : lowN m n ≤ c) : fitsB m d n c = decide (c ≤ highN d n) := by simp [fitsB, h]

end Go.Proofs.YthdenmbfeanioaaGreatDoor
