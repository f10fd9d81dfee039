/- This text proves that the law TallyLater holds: for every rate of the house, list of re-counts, shepherd and two days it returns true, and they read behind the call as they read before. -/
import Derived.Test.YtokpjaodchcheaaShut
import Derived.Test.YtokpjaodchcheaaRows
import Derived.Test.YtokpjaodchcheaaRatePlain
import Derived.Test.YtokpjaodchcheaaOpen
namespace Go.Proofs.Ytokpjaodchcheaa.tallyLater
open Go.ChangeShapes Go.WideShapes Go.ChangeAt Go.RowKit Go.Joins Go.Deep


set_option maxRecDepth 100000 in
set_option maxHeartbeats 8000000 in
theorem walk_many {w : World} (m d : Int) (l : List Rc) (a : Option Addr) (cap : Nat) (hm : l.length ≤ maxLen) (shep known later : Int) (h : 30 < l.length) :
    Calls Try.prog 5 #[.agg #[.int .i64 m, .int .i64 d], .slice a l.length cap, .int .i64 shep, .int .i64 known, .int .i64 later] w fun e w' => e = .returned (.bool true) ∧ Below w.heap.size w w' := by
  unfold maxLen at hm
  have h' : (30 : Int) < (l.length : Int) := by omega
  go_enter Try.func5, Try.ntmps5
  go_upto_region 1 with (fail)
  go_name_world W1 hW1
  have hbn : Below w.heap.size w W1 := by subst hW1; go_grown
  have hb0 := hbn
  clear hbn
  have h0n : W1.cell? ⟨w.heap.size, 0, none⟩ = some (.int .i64 m) := by subst hW1; go_simp
  have h1n : W1.cell? ⟨w.heap.size, 1, none⟩ = some (.int .i64 d) := by subst hW1; go_simp
  clear hW1 
  have h0 := h0n
  have h1 := h1n
  clear h0n h1n 
  go_wp2_with fail
  refine (via (w0 := W1) (by go_grown) (c_counted _)).mono ?_
  rintro e W2 ⟨rfl, hc, hf, hz, hB⟩
  have h0n : W2.cell? ⟨w.heap.size, 0, none⟩ = some (.int .i64 m) := (hc _ _ (cell_lt h0)).trans h0
  clear h0
  have h0 := h0n
  clear h0n
  have h1n : W2.cell? ⟨w.heap.size, 1, none⟩ = some (.int .i64 d) := (hc _ _ (cell_lt h1)).trans h1
  clear h1
  have h1 := h1n
  clear h1n
  have hbn : Below w.heap.size w W2 := bthen hb0 hB
  clear hb0
  have hb0 := hbn
  clear hbn
  have hzW2 : W1.heap.size ≤ W2.heap.size := hz
  clear hc hf hB hz
  go_wp2_with fail
  go_ret
  exact ⟨rfl, by have hbz := hb0.size; go_grown⟩

set_option maxRecDepth 100000 in
set_option maxHeartbeats 8000000 in
theorem walk_early {w : World} (m d : Int) (l : List Rc) (a : Option Addr) (cap : Nat) (shep known later : Int) (h : ¬ 30 < l.length) (hk : later < known) :
    Calls Try.prog 5 #[.agg #[.int .i64 m, .int .i64 d], .slice a l.length cap, .int .i64 shep, .int .i64 known, .int .i64 later] w fun e w' => e = .returned (.bool true) ∧ Below w.heap.size w w' := by
  have h' : ¬ (30 : Int) < (l.length : Int) := by omega
  go_enter Try.func5, Try.ntmps5
  go_upto_region 1 with (fail)
  go_name_world W1 hW1
  have hbn : Below w.heap.size w W1 := by subst hW1; go_grown
  have hb0 := hbn
  clear hbn
  have h0n : W1.cell? ⟨w.heap.size, 0, none⟩ = some (.int .i64 m) := by subst hW1; go_simp
  have h1n : W1.cell? ⟨w.heap.size, 1, none⟩ = some (.int .i64 d) := by subst hW1; go_simp
  clear hW1 
  have h0 := h0n
  have h1 := h1n
  clear h0n h1n 
  go_wp2_with fail
  refine (via (w0 := W1) (by go_grown) (c_counted _)).mono ?_
  rintro e W2 ⟨rfl, hc, hf, hz, hB⟩
  have h0n : W2.cell? ⟨w.heap.size, 0, none⟩ = some (.int .i64 m) := (hc _ _ (cell_lt h0)).trans h0
  clear h0
  have h0 := h0n
  clear h0n
  have h1n : W2.cell? ⟨w.heap.size, 1, none⟩ = some (.int .i64 d) := (hc _ _ (cell_lt h1)).trans h1
  clear h1
  have h1 := h1n
  clear h1n
  have hbn : Below w.heap.size w W2 := bthen hb0 hB
  clear hb0
  have hb0 := hbn
  clear hbn
  have hzW2 : W1.heap.size ≤ W2.heap.size := hz
  clear hc hf hB hz
  go_wp2_with fail
  go_ret
  exact ⟨rfl, by have hbz := hb0.size; go_grown⟩

set_option maxRecDepth 100000 in
set_option maxHeartbeats 8000000 in
theorem walk_contrary {w : World} (m d : Int) (l : List Rc) (a : Option Addr) (cap : Nat) (shep known later : Int) (h : ¬ 30 < l.length) (hk : known ≤ later) (hl : l.length ≤ 1000000000000 → Recs w a l) (p q r s : Int) (ha : rateV m d l shep known = (p, q, 40)) (hb : rateV m d l shep later = (r, s, 40)) :
    Calls Try.prog 5 #[.agg #[.int .i64 m, .int .i64 d], .slice a l.length cap, .int .i64 shep, .int .i64 known, .int .i64 later] w fun e w' => e = .returned (.bool true) ∧ Below w.heap.size w w' := by
  have h' : ¬ (30 : Int) < (l.length : Int) := by omega
  have hk' : ¬ later < known := by omega
  have hl := hl (by omega)
  have hA := fun W (hb : Below w.heap.size w W) => c_RateOf m d l a cap shep known W (hl.later hb)
  have hB := fun W (hb : Below w.heap.size w W) => c_RateOf m d l a cap shep later W (hl.later hb)
  rw [ha] at hA
  rw [hb] at hB
  have HA := Lib.hid hA
  have HB := Lib.hid hB
  clear hl
  clear hA hB ha hb hk
  go_enter Try.func5, Try.ntmps5
  go_upto_region 1 with (fail)
  go_name_world W1 hW1
  have hbn : Below w.heap.size w W1 := by subst hW1; go_grown
  have hb0 := hbn
  clear hbn
  have h0n : W1.cell? ⟨w.heap.size, 0, none⟩ = some (.int .i64 m) := by subst hW1; go_simp
  have h1n : W1.cell? ⟨w.heap.size, 1, none⟩ = some (.int .i64 d) := by subst hW1; go_simp
  clear hW1 
  have h0 := h0n
  have h1 := h1n
  clear h0n h1n 
  go_upto_region 3 with (fail)
  go_wp2_with fail
  refine (via (w0 := W1) (by go_grown) (HA.out _ hb0)).mono ?_
  rintro e W2 ⟨rfl, hc, hf, hz, hB⟩
  have h0n : W2.cell? ⟨w.heap.size, 0, none⟩ = some (.int .i64 m) := (hc _ _ (cell_lt h0)).trans h0
  clear h0
  have h0 := h0n
  clear h0n
  have h1n : W2.cell? ⟨w.heap.size, 1, none⟩ = some (.int .i64 d) := (hc _ _ (cell_lt h1)).trans h1
  clear h1
  have h1 := h1n
  clear h1n
  have hbn : Below w.heap.size w W2 := bthen hb0 hB
  clear hb0
  have hb0 := hbn
  clear hbn
  have hzW2 : W1.heap.size ≤ W2.heap.size := hz
  clear hc hf hB hz
  go_upto_region 4 with (fail)
  go_name_world W3 hW3
  have hbz := hb0.size
  have hbn : Below w.heap.size w W3 := by subst hW3; go_grown
  clear hb0 hbz
  have hb0 := hbn
  clear hbn
  have hbk : Below W2.heap.size W2 W3 := by subst hW3; go_grown
  have h0n : W3.cell? ⟨w.heap.size, 0, none⟩ = some (.int .i64 m) := ((bcell hbk).1 _ _ (cell_lt h0)).trans h0
  have h1n : W3.cell? ⟨w.heap.size, 1, none⟩ = some (.int .i64 d) := ((bcell hbk).1 _ _ (cell_lt h1)).trans h1
  clear hbk
  have x0n : W3.cell? ⟨W2.heap.size, 0, none⟩ = some (.int .i64 p) := by subst hW3; go_simp
  have x1n : W3.cell? ⟨W2.heap.size, 1, none⟩ = some (.int .i64 q) := by subst hW3; go_simp
  clear hW3 h0 h1
  have h0 := h0n
  have h1 := h1n
  have x0 := x0n
  have x1 := x1n
  clear h0n h1n x0n x1n 
  go_wp2_with fail
  refine (via (w0 := W3) (by go_grown) (HB.out _ hb0)).mono ?_
  rintro e W4 ⟨rfl, hc, hf, hz, hB⟩
  have h0n : W4.cell? ⟨w.heap.size, 0, none⟩ = some (.int .i64 m) := (hc _ _ (cell_lt h0)).trans h0
  clear h0
  have h0 := h0n
  clear h0n
  have h1n : W4.cell? ⟨w.heap.size, 1, none⟩ = some (.int .i64 d) := (hc _ _ (cell_lt h1)).trans h1
  clear h1
  have h1 := h1n
  clear h1n
  have x0n : W4.cell? ⟨W2.heap.size, 0, none⟩ = some (.int .i64 p) := (hc _ _ (cell_lt x0)).trans x0
  clear x0
  have x0 := x0n
  clear x0n
  have x1n : W4.cell? ⟨W2.heap.size, 1, none⟩ = some (.int .i64 q) := (hc _ _ (cell_lt x1)).trans x1
  clear x1
  have x1 := x1n
  clear x1n
  have hbn : Below w.heap.size w W4 := bthen hb0 hB
  clear hb0
  have hb0 := hbn
  clear hbn
  have hzW4 : W3.heap.size ≤ W4.heap.size := hz
  clear hc hf hB hz
  go_upto_region 5 with (fail)
  go_name_world W5 hW5
  have hbz := hb0.size
  have hbn : Below w.heap.size w W5 := by subst hW5; go_grown
  clear hb0 hbz
  have hb0 := hbn
  clear hbn
  have hbk : Below W4.heap.size W4 W5 := by subst hW5; go_grown
  have h0n : W5.cell? ⟨w.heap.size, 0, none⟩ = some (.int .i64 m) := ((bcell hbk).1 _ _ (cell_lt h0)).trans h0
  have h1n : W5.cell? ⟨w.heap.size, 1, none⟩ = some (.int .i64 d) := ((bcell hbk).1 _ _ (cell_lt h1)).trans h1
  have x0n : W5.cell? ⟨W2.heap.size, 0, none⟩ = some (.int .i64 p) := ((bcell hbk).1 _ _ (cell_lt x0)).trans x0
  have x1n : W5.cell? ⟨W2.heap.size, 1, none⟩ = some (.int .i64 q) := ((bcell hbk).1 _ _ (cell_lt x1)).trans x1
  clear hbk
  have y0n : W5.cell? ⟨W4.heap.size, 0, none⟩ = some (.int .i64 r) := by subst hW5; go_simp
  have y1n : W5.cell? ⟨W4.heap.size, 1, none⟩ = some (.int .i64 s) := by subst hW5; go_simp
  clear hW5 h0 h1 x0 x1
  have h0 := h0n
  have h1 := h1n
  have x0 := x0n
  have x1 := x1n
  have y0 := y0n
  have y1 := y1n
  clear h0n h1n x0n x1n y0n y1n 
  go_wp2_with fail
  refine (via (w0 := W5) (by go_grown) (c_counted _)).mono ?_
  rintro e W6 ⟨rfl, hc, hf, hz, hB⟩
  have h0n : W6.cell? ⟨w.heap.size, 0, none⟩ = some (.int .i64 m) := (hc _ _ (cell_lt h0)).trans h0
  clear h0
  have h0 := h0n
  clear h0n
  have h1n : W6.cell? ⟨w.heap.size, 1, none⟩ = some (.int .i64 d) := (hc _ _ (cell_lt h1)).trans h1
  clear h1
  have h1 := h1n
  clear h1n
  have x0n : W6.cell? ⟨W2.heap.size, 0, none⟩ = some (.int .i64 p) := (hc _ _ (cell_lt x0)).trans x0
  clear x0
  have x0 := x0n
  clear x0n
  have x1n : W6.cell? ⟨W2.heap.size, 1, none⟩ = some (.int .i64 q) := (hc _ _ (cell_lt x1)).trans x1
  clear x1
  have x1 := x1n
  clear x1n
  have y0n : W6.cell? ⟨W4.heap.size, 0, none⟩ = some (.int .i64 r) := (hc _ _ (cell_lt y0)).trans y0
  clear y0
  have y0 := y0n
  clear y0n
  have y1n : W6.cell? ⟨W4.heap.size, 1, none⟩ = some (.int .i64 s) := (hc _ _ (cell_lt y1)).trans y1
  clear y1
  have y1 := y1n
  clear y1n
  have hbn : Below w.heap.size w W6 := bthen hb0 hB
  clear hb0
  have hb0 := hbn
  clear hbn
  have hzW6 : W5.heap.size ≤ W6.heap.size := hz
  clear hc hf hB hz
  go_wp2_with fail
  go_ret
  exact ⟨rfl, by have hbz := hb0.size; go_grown⟩

set_option maxRecDepth 100000 in
set_option maxHeartbeats 8000000 in
theorem walk_err {w : World} (m d : Int) (l : List Rc) (a : Option Addr) (cap : Nat) (shep known later : Int) (h : ¬ 30 < l.length) (hk : known ≤ later) (hl : l.length ≤ 1000000000000 → Recs w a l) (p q r s e f : Int) (ha : rateV m d l shep known = (p, q, e)) (hb : rateV m d l shep later = (r, s, f)) (he : ¬ e = 0) (he4 : ¬ e = 40) :
    Calls Try.prog 5 #[.agg #[.int .i64 m, .int .i64 d], .slice a l.length cap, .int .i64 shep, .int .i64 known, .int .i64 later] w fun e w' => e = .returned (.bool true) ∧ Below w.heap.size w w' := by
  have h' : ¬ (30 : Int) < (l.length : Int) := by omega
  have hk' : ¬ later < known := by omega
  have hl := hl (by omega)
  have hA := fun W (hb : Below w.heap.size w W) => c_RateOf m d l a cap shep known W (hl.later hb)
  have hB := fun W (hb : Below w.heap.size w W) => c_RateOf m d l a cap shep later W (hl.later hb)
  rw [ha] at hA
  rw [hb] at hB
  have HA := Lib.hid hA
  have HB := Lib.hid hB
  have e1 : (e == 0) = false := by simpa using he
  have e1n : (e != 0) = true := by simpa using he
  have e2 : (e == 40) = false := by simpa using he4
  clear hl he he4
  clear hA hB ha hb hk
  go_enter Try.func5, Try.ntmps5
  go_upto_region 1 with (fail)
  go_name_world W1 hW1
  have hbn : Below w.heap.size w W1 := by subst hW1; go_grown
  have hb0 := hbn
  clear hbn
  have h0n : W1.cell? ⟨w.heap.size, 0, none⟩ = some (.int .i64 m) := by subst hW1; go_simp
  have h1n : W1.cell? ⟨w.heap.size, 1, none⟩ = some (.int .i64 d) := by subst hW1; go_simp
  clear hW1 
  have h0 := h0n
  have h1 := h1n
  clear h0n h1n 
  go_upto_region 3 with (fail)
  go_wp2_with fail
  refine (via (w0 := W1) (by go_grown) (HA.out _ hb0)).mono ?_
  rintro e W2 ⟨rfl, hc, hf, hz, hB⟩
  have h0n : W2.cell? ⟨w.heap.size, 0, none⟩ = some (.int .i64 m) := (hc _ _ (cell_lt h0)).trans h0
  clear h0
  have h0 := h0n
  clear h0n
  have h1n : W2.cell? ⟨w.heap.size, 1, none⟩ = some (.int .i64 d) := (hc _ _ (cell_lt h1)).trans h1
  clear h1
  have h1 := h1n
  clear h1n
  have hbn : Below w.heap.size w W2 := bthen hb0 hB
  clear hb0
  have hb0 := hbn
  clear hbn
  have hzW2 : W1.heap.size ≤ W2.heap.size := hz
  clear hc hf hB hz
  go_upto_region 4 with (fail)
  go_name_world W3 hW3
  have hbz := hb0.size
  have hbn : Below w.heap.size w W3 := by subst hW3; go_grown
  clear hb0 hbz
  have hb0 := hbn
  clear hbn
  have hbk : Below W2.heap.size W2 W3 := by subst hW3; go_grown
  have h0n : W3.cell? ⟨w.heap.size, 0, none⟩ = some (.int .i64 m) := ((bcell hbk).1 _ _ (cell_lt h0)).trans h0
  have h1n : W3.cell? ⟨w.heap.size, 1, none⟩ = some (.int .i64 d) := ((bcell hbk).1 _ _ (cell_lt h1)).trans h1
  clear hbk
  have x0n : W3.cell? ⟨W2.heap.size, 0, none⟩ = some (.int .i64 p) := by subst hW3; go_simp
  have x1n : W3.cell? ⟨W2.heap.size, 1, none⟩ = some (.int .i64 q) := by subst hW3; go_simp
  clear hW3 h0 h1
  have h0 := h0n
  have h1 := h1n
  have x0 := x0n
  have x1 := x1n
  clear h0n h1n x0n x1n 
  go_wp2_with fail
  refine (via (w0 := W3) (by go_grown) (HB.out _ hb0)).mono ?_
  rintro e W4 ⟨rfl, hc, hf, hz, hB⟩
  have h0n : W4.cell? ⟨w.heap.size, 0, none⟩ = some (.int .i64 m) := (hc _ _ (cell_lt h0)).trans h0
  clear h0
  have h0 := h0n
  clear h0n
  have h1n : W4.cell? ⟨w.heap.size, 1, none⟩ = some (.int .i64 d) := (hc _ _ (cell_lt h1)).trans h1
  clear h1
  have h1 := h1n
  clear h1n
  have x0n : W4.cell? ⟨W2.heap.size, 0, none⟩ = some (.int .i64 p) := (hc _ _ (cell_lt x0)).trans x0
  clear x0
  have x0 := x0n
  clear x0n
  have x1n : W4.cell? ⟨W2.heap.size, 1, none⟩ = some (.int .i64 q) := (hc _ _ (cell_lt x1)).trans x1
  clear x1
  have x1 := x1n
  clear x1n
  have hbn : Below w.heap.size w W4 := bthen hb0 hB
  clear hb0
  have hb0 := hbn
  clear hbn
  have hzW4 : W3.heap.size ≤ W4.heap.size := hz
  clear hc hf hB hz
  go_upto_region 5 with (fail)
  go_name_world W5 hW5
  have hbz := hb0.size
  have hbn : Below w.heap.size w W5 := by subst hW5; go_grown
  clear hb0 hbz
  have hb0 := hbn
  clear hbn
  have hbk : Below W4.heap.size W4 W5 := by subst hW5; go_grown
  have h0n : W5.cell? ⟨w.heap.size, 0, none⟩ = some (.int .i64 m) := ((bcell hbk).1 _ _ (cell_lt h0)).trans h0
  have h1n : W5.cell? ⟨w.heap.size, 1, none⟩ = some (.int .i64 d) := ((bcell hbk).1 _ _ (cell_lt h1)).trans h1
  have x0n : W5.cell? ⟨W2.heap.size, 0, none⟩ = some (.int .i64 p) := ((bcell hbk).1 _ _ (cell_lt x0)).trans x0
  have x1n : W5.cell? ⟨W2.heap.size, 1, none⟩ = some (.int .i64 q) := ((bcell hbk).1 _ _ (cell_lt x1)).trans x1
  clear hbk
  have y0n : W5.cell? ⟨W4.heap.size, 0, none⟩ = some (.int .i64 r) := by subst hW5; go_simp
  have y1n : W5.cell? ⟨W4.heap.size, 1, none⟩ = some (.int .i64 s) := by subst hW5; go_simp
  clear hW5 h0 h1 x0 x1
  have h0 := h0n
  have h1 := h1n
  have x0 := x0n
  have x1 := x1n
  have y0 := y0n
  have y1 := y1n
  clear h0n h1n x0n x1n y0n y1n 
  go_wp2_with fail
  refine (via (w0 := W5) (by go_grown) (c_counted _)).mono ?_
  rintro e W6 ⟨rfl, hc, hf, hz, hB⟩
  have h0n : W6.cell? ⟨w.heap.size, 0, none⟩ = some (.int .i64 m) := (hc _ _ (cell_lt h0)).trans h0
  clear h0
  have h0 := h0n
  clear h0n
  have h1n : W6.cell? ⟨w.heap.size, 1, none⟩ = some (.int .i64 d) := (hc _ _ (cell_lt h1)).trans h1
  clear h1
  have h1 := h1n
  clear h1n
  have x0n : W6.cell? ⟨W2.heap.size, 0, none⟩ = some (.int .i64 p) := (hc _ _ (cell_lt x0)).trans x0
  clear x0
  have x0 := x0n
  clear x0n
  have x1n : W6.cell? ⟨W2.heap.size, 1, none⟩ = some (.int .i64 q) := (hc _ _ (cell_lt x1)).trans x1
  clear x1
  have x1 := x1n
  clear x1n
  have y0n : W6.cell? ⟨W4.heap.size, 0, none⟩ = some (.int .i64 r) := (hc _ _ (cell_lt y0)).trans y0
  clear y0
  have y0 := y0n
  clear y0n
  have y1n : W6.cell? ⟨W4.heap.size, 1, none⟩ = some (.int .i64 s) := (hc _ _ (cell_lt y1)).trans y1
  clear y1
  have y1 := y1n
  clear y1n
  have hbn : Below w.heap.size w W6 := bthen hb0 hB
  clear hb0
  have hb0 := hbn
  clear hbn
  have hzW6 : W5.heap.size ≤ W6.heap.size := hz
  clear hc hf hB hz
  go_wp2_with fail
  go_ret
  exact ⟨rfl, by have hbz := hb0.size; go_grown⟩

set_option maxRecDepth 100000 in
set_option maxHeartbeats 8000000 in
theorem walk_err2 {w : World} (m d : Int) (l : List Rc) (a : Option Addr) (cap : Nat) (shep known later : Int) (h : ¬ 30 < l.length) (hk : known ≤ later) (hl : l.length ≤ 1000000000000 → Recs w a l) (p q r s f : Int) (ha : rateV m d l shep known = (p, q, 0)) (hb : rateV m d l shep later = (r, s, f)) (hf : ¬ f = 0) :
    Calls Try.prog 5 #[.agg #[.int .i64 m, .int .i64 d], .slice a l.length cap, .int .i64 shep, .int .i64 known, .int .i64 later] w fun e w' => e = .returned (.bool true) ∧ Below w.heap.size w w' := by
  have h' : ¬ (30 : Int) < (l.length : Int) := by omega
  have hk' : ¬ later < known := by omega
  have hl := hl (by omega)
  have hA := fun W (hb : Below w.heap.size w W) => c_RateOf m d l a cap shep known W (hl.later hb)
  have hB := fun W (hb : Below w.heap.size w W) => c_RateOf m d l a cap shep later W (hl.later hb)
  rw [ha] at hA
  rw [hb] at hB
  have HA := Lib.hid hA
  have HB := Lib.hid hB
  have e1 : (f == 0) = false := by simpa using hf
  have e1n : (f != 0) = true := by simpa using hf
  clear hl hf
  clear hA hB ha hb hk
  go_enter Try.func5, Try.ntmps5
  go_upto_region 1 with (fail)
  go_name_world W1 hW1
  have hbn : Below w.heap.size w W1 := by subst hW1; go_grown
  have hb0 := hbn
  clear hbn
  have h0n : W1.cell? ⟨w.heap.size, 0, none⟩ = some (.int .i64 m) := by subst hW1; go_simp
  have h1n : W1.cell? ⟨w.heap.size, 1, none⟩ = some (.int .i64 d) := by subst hW1; go_simp
  clear hW1 
  have h0 := h0n
  have h1 := h1n
  clear h0n h1n 
  go_upto_region 3 with (fail)
  go_wp2_with fail
  refine (via (w0 := W1) (by go_grown) (HA.out _ hb0)).mono ?_
  rintro e W2 ⟨rfl, hc, hf, hz, hB⟩
  have h0n : W2.cell? ⟨w.heap.size, 0, none⟩ = some (.int .i64 m) := (hc _ _ (cell_lt h0)).trans h0
  clear h0
  have h0 := h0n
  clear h0n
  have h1n : W2.cell? ⟨w.heap.size, 1, none⟩ = some (.int .i64 d) := (hc _ _ (cell_lt h1)).trans h1
  clear h1
  have h1 := h1n
  clear h1n
  have hbn : Below w.heap.size w W2 := bthen hb0 hB
  clear hb0
  have hb0 := hbn
  clear hbn
  have hzW2 : W1.heap.size ≤ W2.heap.size := hz
  clear hc hf hB hz
  go_upto_region 4 with (fail)
  go_name_world W3 hW3
  have hbz := hb0.size
  have hbn : Below w.heap.size w W3 := by subst hW3; go_grown
  clear hb0 hbz
  have hb0 := hbn
  clear hbn
  have hbk : Below W2.heap.size W2 W3 := by subst hW3; go_grown
  have h0n : W3.cell? ⟨w.heap.size, 0, none⟩ = some (.int .i64 m) := ((bcell hbk).1 _ _ (cell_lt h0)).trans h0
  have h1n : W3.cell? ⟨w.heap.size, 1, none⟩ = some (.int .i64 d) := ((bcell hbk).1 _ _ (cell_lt h1)).trans h1
  clear hbk
  have x0n : W3.cell? ⟨W2.heap.size, 0, none⟩ = some (.int .i64 p) := by subst hW3; go_simp
  have x1n : W3.cell? ⟨W2.heap.size, 1, none⟩ = some (.int .i64 q) := by subst hW3; go_simp
  clear hW3 h0 h1
  have h0 := h0n
  have h1 := h1n
  have x0 := x0n
  have x1 := x1n
  clear h0n h1n x0n x1n 
  go_wp2_with fail
  refine (via (w0 := W3) (by go_grown) (HB.out _ hb0)).mono ?_
  rintro e W4 ⟨rfl, hc, hf, hz, hB⟩
  have h0n : W4.cell? ⟨w.heap.size, 0, none⟩ = some (.int .i64 m) := (hc _ _ (cell_lt h0)).trans h0
  clear h0
  have h0 := h0n
  clear h0n
  have h1n : W4.cell? ⟨w.heap.size, 1, none⟩ = some (.int .i64 d) := (hc _ _ (cell_lt h1)).trans h1
  clear h1
  have h1 := h1n
  clear h1n
  have x0n : W4.cell? ⟨W2.heap.size, 0, none⟩ = some (.int .i64 p) := (hc _ _ (cell_lt x0)).trans x0
  clear x0
  have x0 := x0n
  clear x0n
  have x1n : W4.cell? ⟨W2.heap.size, 1, none⟩ = some (.int .i64 q) := (hc _ _ (cell_lt x1)).trans x1
  clear x1
  have x1 := x1n
  clear x1n
  have hbn : Below w.heap.size w W4 := bthen hb0 hB
  clear hb0
  have hb0 := hbn
  clear hbn
  have hzW4 : W3.heap.size ≤ W4.heap.size := hz
  clear hc hf hB hz
  go_upto_region 5 with (fail)
  go_name_world W5 hW5
  have hbz := hb0.size
  have hbn : Below w.heap.size w W5 := by subst hW5; go_grown
  clear hb0 hbz
  have hb0 := hbn
  clear hbn
  have hbk : Below W4.heap.size W4 W5 := by subst hW5; go_grown
  have h0n : W5.cell? ⟨w.heap.size, 0, none⟩ = some (.int .i64 m) := ((bcell hbk).1 _ _ (cell_lt h0)).trans h0
  have h1n : W5.cell? ⟨w.heap.size, 1, none⟩ = some (.int .i64 d) := ((bcell hbk).1 _ _ (cell_lt h1)).trans h1
  have x0n : W5.cell? ⟨W2.heap.size, 0, none⟩ = some (.int .i64 p) := ((bcell hbk).1 _ _ (cell_lt x0)).trans x0
  have x1n : W5.cell? ⟨W2.heap.size, 1, none⟩ = some (.int .i64 q) := ((bcell hbk).1 _ _ (cell_lt x1)).trans x1
  clear hbk
  have y0n : W5.cell? ⟨W4.heap.size, 0, none⟩ = some (.int .i64 r) := by subst hW5; go_simp
  have y1n : W5.cell? ⟨W4.heap.size, 1, none⟩ = some (.int .i64 s) := by subst hW5; go_simp
  clear hW5 h0 h1 x0 x1
  have h0 := h0n
  have h1 := h1n
  have x0 := x0n
  have x1 := x1n
  have y0 := y0n
  have y1 := y1n
  clear h0n h1n x0n x1n y0n y1n 
  go_wp2_with fail
  refine (via (w0 := W5) (by go_grown) (c_counted _)).mono ?_
  rintro e W6 ⟨rfl, hc, hf, hz, hB⟩
  have h0n : W6.cell? ⟨w.heap.size, 0, none⟩ = some (.int .i64 m) := (hc _ _ (cell_lt h0)).trans h0
  clear h0
  have h0 := h0n
  clear h0n
  have h1n : W6.cell? ⟨w.heap.size, 1, none⟩ = some (.int .i64 d) := (hc _ _ (cell_lt h1)).trans h1
  clear h1
  have h1 := h1n
  clear h1n
  have x0n : W6.cell? ⟨W2.heap.size, 0, none⟩ = some (.int .i64 p) := (hc _ _ (cell_lt x0)).trans x0
  clear x0
  have x0 := x0n
  clear x0n
  have x1n : W6.cell? ⟨W2.heap.size, 1, none⟩ = some (.int .i64 q) := (hc _ _ (cell_lt x1)).trans x1
  clear x1
  have x1 := x1n
  clear x1n
  have y0n : W6.cell? ⟨W4.heap.size, 0, none⟩ = some (.int .i64 r) := (hc _ _ (cell_lt y0)).trans y0
  clear y0
  have y0 := y0n
  clear y0n
  have y1n : W6.cell? ⟨W4.heap.size, 1, none⟩ = some (.int .i64 s) := (hc _ _ (cell_lt y1)).trans y1
  clear y1
  have y1 := y1n
  clear y1n
  have hbn : Below w.heap.size w W6 := bthen hb0 hB
  clear hb0
  have hb0 := hbn
  clear hbn
  have hzW6 : W5.heap.size ≤ W6.heap.size := hz
  clear hc hf hB hz
  go_wp2_with fail
  go_ret
  exact ⟨rfl, by have hbz := hb0.size; go_grown⟩

set_option maxRecDepth 100000 in
set_option maxHeartbeats 8000000 in
theorem walk_ok {w : World} (m d : Int) (l : List Rc) (a : Option Addr) (cap : Nat) (shep known later : Int) (h : ¬ 30 < l.length) (hk : known ≤ later) (hl : l.length ≤ 1000000000000 → Recs w a l) (p q r s : Int) (ha : rateV m d l shep known = (p, q, 0)) (hb : rateV m d l shep later = (r, s, 0)) :
    Calls Try.prog 5 #[.agg #[.int .i64 m, .int .i64 d], .slice a l.length cap, .int .i64 shep, .int .i64 known, .int .i64 later] w fun e w' => e = .returned (.bool true) ∧ Below w.heap.size w w' := by
  have h' : ¬ (30 : Int) < (l.length : Int) := by omega
  have hk' : ¬ later < known := by omega
  have hl := hl (by omega)
  have hA := fun W (hb : Below w.heap.size w W) => c_RateOf m d l a cap shep known W (hl.later hb)
  have hB := fun W (hb : Below w.heap.size w W) => c_RateOf m d l a cap shep later W (hl.later hb)
  rw [ha] at hA
  rw [hb] at hB
  have HA := Lib.hid hA
  have HB := Lib.hid hB
  have hN := fun W => c_Narrower p q r s W
  rw [later_narrower hk ha hb] at hN
  have HN := Lib.hid hN
  have hO : l.any (fun x => x.s == shep) = false → p = m ∧ q = d := none_own ha
  have HO := Lib.hid hO
  have HL := Lib.hid hl
  clear hN hO hl
  clear hA hB ha hb hk
  go_enter Try.func5, Try.ntmps5
  go_upto_region 1 with (fail)
  go_name_world W1 hW1
  have hbn : Below w.heap.size w W1 := by subst hW1; go_grown
  have hb0 := hbn
  clear hbn
  have h0n : W1.cell? ⟨w.heap.size, 0, none⟩ = some (.int .i64 m) := by subst hW1; go_simp
  have h1n : W1.cell? ⟨w.heap.size, 1, none⟩ = some (.int .i64 d) := by subst hW1; go_simp
  clear hW1 
  have h0 := h0n
  have h1 := h1n
  clear h0n h1n 
  go_upto_region 3 with (fail)
  go_wp2_with fail
  refine (via (w0 := W1) (by go_grown) (HA.out _ hb0)).mono ?_
  rintro e W2 ⟨rfl, hc, hf, hz, hB⟩
  have h0n : W2.cell? ⟨w.heap.size, 0, none⟩ = some (.int .i64 m) := (hc _ _ (cell_lt h0)).trans h0
  clear h0
  have h0 := h0n
  clear h0n
  have h1n : W2.cell? ⟨w.heap.size, 1, none⟩ = some (.int .i64 d) := (hc _ _ (cell_lt h1)).trans h1
  clear h1
  have h1 := h1n
  clear h1n
  have hbn : Below w.heap.size w W2 := bthen hb0 hB
  clear hb0
  have hb0 := hbn
  clear hbn
  have hzW2 : W1.heap.size ≤ W2.heap.size := hz
  clear hc hf hB hz
  go_upto_region 4 with (fail)
  go_name_world W3 hW3
  have hbz := hb0.size
  have hbn : Below w.heap.size w W3 := by subst hW3; go_grown
  clear hb0 hbz
  have hb0 := hbn
  clear hbn
  have hbk : Below W2.heap.size W2 W3 := by subst hW3; go_grown
  have h0n : W3.cell? ⟨w.heap.size, 0, none⟩ = some (.int .i64 m) := ((bcell hbk).1 _ _ (cell_lt h0)).trans h0
  have h1n : W3.cell? ⟨w.heap.size, 1, none⟩ = some (.int .i64 d) := ((bcell hbk).1 _ _ (cell_lt h1)).trans h1
  clear hbk
  have x0n : W3.cell? ⟨W2.heap.size, 0, none⟩ = some (.int .i64 p) := by subst hW3; go_simp
  have x1n : W3.cell? ⟨W2.heap.size, 1, none⟩ = some (.int .i64 q) := by subst hW3; go_simp
  clear hW3 h0 h1
  have h0 := h0n
  have h1 := h1n
  have x0 := x0n
  have x1 := x1n
  clear h0n h1n x0n x1n 
  go_wp2_with fail
  refine (via (w0 := W3) (by go_grown) (HB.out _ hb0)).mono ?_
  rintro e W4 ⟨rfl, hc, hf, hz, hB⟩
  have h0n : W4.cell? ⟨w.heap.size, 0, none⟩ = some (.int .i64 m) := (hc _ _ (cell_lt h0)).trans h0
  clear h0
  have h0 := h0n
  clear h0n
  have h1n : W4.cell? ⟨w.heap.size, 1, none⟩ = some (.int .i64 d) := (hc _ _ (cell_lt h1)).trans h1
  clear h1
  have h1 := h1n
  clear h1n
  have x0n : W4.cell? ⟨W2.heap.size, 0, none⟩ = some (.int .i64 p) := (hc _ _ (cell_lt x0)).trans x0
  clear x0
  have x0 := x0n
  clear x0n
  have x1n : W4.cell? ⟨W2.heap.size, 1, none⟩ = some (.int .i64 q) := (hc _ _ (cell_lt x1)).trans x1
  clear x1
  have x1 := x1n
  clear x1n
  have hbn : Below w.heap.size w W4 := bthen hb0 hB
  clear hb0
  have hb0 := hbn
  clear hbn
  have hzW4 : W3.heap.size ≤ W4.heap.size := hz
  clear hc hf hB hz
  go_upto_region 5 with (fail)
  go_name_world W5 hW5
  have hbz := hb0.size
  have hbn : Below w.heap.size w W5 := by subst hW5; go_grown
  clear hb0 hbz
  have hb0 := hbn
  clear hbn
  have hbk : Below W4.heap.size W4 W5 := by subst hW5; go_grown
  have h0n : W5.cell? ⟨w.heap.size, 0, none⟩ = some (.int .i64 m) := ((bcell hbk).1 _ _ (cell_lt h0)).trans h0
  have h1n : W5.cell? ⟨w.heap.size, 1, none⟩ = some (.int .i64 d) := ((bcell hbk).1 _ _ (cell_lt h1)).trans h1
  have x0n : W5.cell? ⟨W2.heap.size, 0, none⟩ = some (.int .i64 p) := ((bcell hbk).1 _ _ (cell_lt x0)).trans x0
  have x1n : W5.cell? ⟨W2.heap.size, 1, none⟩ = some (.int .i64 q) := ((bcell hbk).1 _ _ (cell_lt x1)).trans x1
  clear hbk
  have y0n : W5.cell? ⟨W4.heap.size, 0, none⟩ = some (.int .i64 r) := by subst hW5; go_simp
  have y1n : W5.cell? ⟨W4.heap.size, 1, none⟩ = some (.int .i64 s) := by subst hW5; go_simp
  clear hW5 h0 h1 x0 x1
  have h0 := h0n
  have h1 := h1n
  have x0 := x0n
  have x1 := x1n
  have y0 := y0n
  have y1 := y1n
  clear h0n h1n x0n x1n y0n y1n 
  go_upto_region 10 with (fail)
  go_wp2
  go_loopw [15, 16] (fun v15 v16 wr => ∃ k : Nat, k ≤ l.length ∧ v16 = .int .i64 k ∧ v15 = .bool ((l.take k).any (fun x => x.s == shep)) ∧ wr = W5) (fun _ v16 _ => l.length - (intOf v16).toNat)
  case atStart => exact ⟨0, by omega, rfl, rfl, rfl⟩
  case round =>
    obtain ⟨k, hk, rfl, rfl, rfl⟩ := hrel
    by_cases hlt : k < l.length
    · obtain ⟨b, o, rfl, hat⟩ := (HL.out.later hb0).2 (by intro e; rw [e] at hlt; simp at hlt)
      have x4 := (hat k hlt).s
      clear hat
      have ht : (l.take (k + 1)).any (fun x => x.s == shep) = ((l.take k).any (fun x => x.s == shep) || ((rc l k).s == shep)) := by
        rw [List.take_succ_eq_append_getElem hlt, List.any_append]
        simp [rc, hlt]
      have HT := Lib.hid ht
      clear ht
      generalize (l.take k).any (fun x => x.s == shep) = o1 at *
      generalize (rc l k).s = sk at *
      cases o1
      · cases ho2 : (sk == shep)
        · have HE := Lib.hid ho2
          go_wp2
          go_roundw
          case rel => exact ⟨k + 1, by omega, by go_num, by rw [HT.out, HE.out]; rfl, trivial⟩
          case measure => simp [intOf]; omega
        · have HE := Lib.hid ho2
          go_wp2
          go_roundw
          case rel => exact ⟨k + 1, by omega, by go_num, by rw [HT.out, HE.out]; rfl, trivial⟩
          case measure => simp [intOf]; omega
      · go_wp2
        go_roundw
        case rel => exact ⟨k + 1, by omega, by go_num, by rw [HT.out]; rfl, trivial⟩
        case measure => simp [intOf]; omega
    · obtain rfl : k = l.length := by omega
      have hw : (l.take l.length).any (fun x => x.s == shep) = l.any (fun x => x.s == shep) := by rw [List.take_length]
      have HW := Lib.hid hw
      clear hw
      obtain ⟨o1, ho1⟩ : ∃ o1, l.any (fun x => x.s == shep) = o1 := ⟨_, rfl⟩
      have hw2 : (l.take l.length).any (fun x => x.s == shep) = o1 := by rw [HW.out]; exact ho1
      rw [hw2]
      have HO1 := Lib.hid ho1
      clear ho1 hw2
      cases o1
      · obtain ⟨rfl, rfl⟩ := HO.out HO1.out
        go_wp2_with fail
        refine (via (w0 := wr) (by go_grown) (c_counted _)).mono ?_
        rintro e W6 ⟨rfl, hc, hf, hz, hB⟩
        have h0n : W6.cell? ⟨w.heap.size, 0, none⟩ = some (.int .i64 p) := (hc _ _ (cell_lt h0)).trans h0
        clear h0
        have h0 := h0n
        clear h0n
        have h1n : W6.cell? ⟨w.heap.size, 1, none⟩ = some (.int .i64 q) := (hc _ _ (cell_lt h1)).trans h1
        clear h1
        have h1 := h1n
        clear h1n
        have x0n : W6.cell? ⟨W2.heap.size, 0, none⟩ = some (.int .i64 p) := (hc _ _ (cell_lt x0)).trans x0
        clear x0
        have x0 := x0n
        clear x0n
        have x1n : W6.cell? ⟨W2.heap.size, 1, none⟩ = some (.int .i64 q) := (hc _ _ (cell_lt x1)).trans x1
        clear x1
        have x1 := x1n
        clear x1n
        have y0n : W6.cell? ⟨W4.heap.size, 0, none⟩ = some (.int .i64 r) := (hc _ _ (cell_lt y0)).trans y0
        clear y0
        have y0 := y0n
        clear y0n
        have y1n : W6.cell? ⟨W4.heap.size, 1, none⟩ = some (.int .i64 s) := (hc _ _ (cell_lt y1)).trans y1
        clear y1
        have y1 := y1n
        clear y1n
        have hbn : Below w.heap.size w W6 := bthen hb0 hB
        clear hb0
        have hb0 := hbn
        clear hbn
        have hzW6 : wr.heap.size ≤ W6.heap.size := hz
        clear hc hf hB hz
        go_wp2_with fail
        refine (via (w0 := W6) (by go_grown) (HN.out _)).mono ?_
        rintro e W7 ⟨rfl, hc, hf, hz, hB⟩
        have h0n : W7.cell? ⟨w.heap.size, 0, none⟩ = some (.int .i64 p) := (hc _ _ (cell_lt h0)).trans h0
        clear h0
        have h0 := h0n
        clear h0n
        have h1n : W7.cell? ⟨w.heap.size, 1, none⟩ = some (.int .i64 q) := (hc _ _ (cell_lt h1)).trans h1
        clear h1
        have h1 := h1n
        clear h1n
        have x0n : W7.cell? ⟨W2.heap.size, 0, none⟩ = some (.int .i64 p) := (hc _ _ (cell_lt x0)).trans x0
        clear x0
        have x0 := x0n
        clear x0n
        have x1n : W7.cell? ⟨W2.heap.size, 1, none⟩ = some (.int .i64 q) := (hc _ _ (cell_lt x1)).trans x1
        clear x1
        have x1 := x1n
        clear x1n
        have y0n : W7.cell? ⟨W4.heap.size, 0, none⟩ = some (.int .i64 r) := (hc _ _ (cell_lt y0)).trans y0
        clear y0
        have y0 := y0n
        clear y0n
        have y1n : W7.cell? ⟨W4.heap.size, 1, none⟩ = some (.int .i64 s) := (hc _ _ (cell_lt y1)).trans y1
        clear y1
        have y1 := y1n
        clear y1n
        have hbn : Below w.heap.size w W7 := bthen hb0 hB
        clear hb0
        have hb0 := hbn
        clear hbn
        have hzW7 : W6.heap.size ≤ W7.heap.size := hz
        clear hc hf hB hz
        go_wp2_with fail
        go_ret
        exact ⟨rfl, by have hbz := hb0.size; go_grown⟩
      · skip
        go_wp2_with fail
        refine (via (w0 := wr) (by go_grown) (c_counted _)).mono ?_
        rintro e W6 ⟨rfl, hc, hf, hz, hB⟩
        have h0n : W6.cell? ⟨w.heap.size, 0, none⟩ = some (.int .i64 m) := (hc _ _ (cell_lt h0)).trans h0
        clear h0
        have h0 := h0n
        clear h0n
        have h1n : W6.cell? ⟨w.heap.size, 1, none⟩ = some (.int .i64 d) := (hc _ _ (cell_lt h1)).trans h1
        clear h1
        have h1 := h1n
        clear h1n
        have x0n : W6.cell? ⟨W2.heap.size, 0, none⟩ = some (.int .i64 p) := (hc _ _ (cell_lt x0)).trans x0
        clear x0
        have x0 := x0n
        clear x0n
        have x1n : W6.cell? ⟨W2.heap.size, 1, none⟩ = some (.int .i64 q) := (hc _ _ (cell_lt x1)).trans x1
        clear x1
        have x1 := x1n
        clear x1n
        have y0n : W6.cell? ⟨W4.heap.size, 0, none⟩ = some (.int .i64 r) := (hc _ _ (cell_lt y0)).trans y0
        clear y0
        have y0 := y0n
        clear y0n
        have y1n : W6.cell? ⟨W4.heap.size, 1, none⟩ = some (.int .i64 s) := (hc _ _ (cell_lt y1)).trans y1
        clear y1
        have y1 := y1n
        clear y1n
        have hbn : Below w.heap.size w W6 := bthen hb0 hB
        clear hb0
        have hb0 := hbn
        clear hbn
        have hzW6 : wr.heap.size ≤ W6.heap.size := hz
        clear hc hf hB hz
        go_wp2_with fail
        refine (via (w0 := W6) (by go_grown) (HN.out _)).mono ?_
        rintro e W7 ⟨rfl, hc, hf, hz, hB⟩
        have h0n : W7.cell? ⟨w.heap.size, 0, none⟩ = some (.int .i64 m) := (hc _ _ (cell_lt h0)).trans h0
        clear h0
        have h0 := h0n
        clear h0n
        have h1n : W7.cell? ⟨w.heap.size, 1, none⟩ = some (.int .i64 d) := (hc _ _ (cell_lt h1)).trans h1
        clear h1
        have h1 := h1n
        clear h1n
        have x0n : W7.cell? ⟨W2.heap.size, 0, none⟩ = some (.int .i64 p) := (hc _ _ (cell_lt x0)).trans x0
        clear x0
        have x0 := x0n
        clear x0n
        have x1n : W7.cell? ⟨W2.heap.size, 1, none⟩ = some (.int .i64 q) := (hc _ _ (cell_lt x1)).trans x1
        clear x1
        have x1 := x1n
        clear x1n
        have y0n : W7.cell? ⟨W4.heap.size, 0, none⟩ = some (.int .i64 r) := (hc _ _ (cell_lt y0)).trans y0
        clear y0
        have y0 := y0n
        clear y0n
        have y1n : W7.cell? ⟨W4.heap.size, 1, none⟩ = some (.int .i64 s) := (hc _ _ (cell_lt y1)).trans y1
        clear y1
        have y1 := y1n
        clear y1n
        have hbn : Below w.heap.size w W7 := bthen hb0 hB
        clear hb0
        have hb0 := hbn
        clear hbn
        have hzW7 : W6.heap.size ≤ W7.heap.size := hz
        clear hc hf hB hz
        go_wp2_with fail
        go_ret
        exact ⟨rfl, by have hbz := hb0.size; go_grown⟩

set_option maxRecDepth 100000 in
set_option maxHeartbeats 8000000 in
theorem walk {w : World} (m d : Int) (l : List Rc) (a : Option Addr) (cap : Nat) (hm : l.length ≤ maxLen) (hl : l.length ≤ 1000000000000 → Recs w a l) (shep known later : Int) :
    Calls Try.prog 5 #[.agg #[.int .i64 m, .int .i64 d], .slice a l.length cap, .int .i64 shep, .int .i64 known, .int .i64 later] w fun e w' => e = .returned (.bool true) ∧ Below w.heap.size w w' := by
  by_cases h : 30 < l.length
  · exact walk_many m d l a cap hm shep known later h
  by_cases hk : later < known
  · exact walk_early m d l a cap shep known later h hk
  obtain ⟨⟨p, q, e⟩, ha⟩ : ∃ x, rateV m d l shep known = x := ⟨_, rfl⟩
  obtain ⟨⟨r, s, f⟩, hb⟩ : ∃ x, rateV m d l shep later = x := ⟨_, rfl⟩
  by_cases he4 : e = 40
  · subst he4
    have := later_contrary (later := later) (by omega) ha
    rw [hb] at this
    simp only at this
    subst this
    exact walk_contrary m d l a cap shep known later h (by omega) hl p q r s ha hb
  by_cases he : e = 0
  · subst he
    by_cases hf : f = 0
    · subst hf
      exact walk_ok m d l a cap shep known later h (by omega) hl p q r s ha hb
    · exact walk_err2 m d l a cap shep known later h (by omega) hl p q r s f ha hb hf
  · exact walk_err m d l a cap shep known later h (by omega) hl p q r s e f ha hb he he4


set_option maxRecDepth 100000 in
theorem lifted (os : Os) (started : os.Started) (H : Type) (enc : TypeId × Value → H) :
    ReturnsInHanded {} Try.checked os 5 .any (Rows.tallyLaterSpec.pre6 enc Try.prog Try.f5 Rows.tallyLaterRow.domain false) (Rows.tallyLaterSpec.post enc Try.prog Try.f5 false true false false) := by
  refine returnsInHanded_of_change (C := Try.checked) own started (by kernel_rfl) Try.func5
    (ChangeSpec.witness6 (enc := enc) (C := Try.checked) false ⟨#[], #[.agg #[.int .i64 0, .int .i64 0], .slice none 0 0, .int .i64 0, .int .i64 0, .int .i64 0], []⟩ 8 (by kernel_rfl) (by kernel_rfl) (by kernel_rfl) (by kernel_rfl)) ?_
  intro W base args ds gs before hval0 hW _ _
  have hval : ∀ (j : Nat) t v, Try.f5.params[j]? = some t → args[j]? = some v → Value.okWide Try.prog W .any base t v := hval0
  have hW' := hW
  obtain ⟨p, q, hA0, hV, rfl, _, _⟩ := hW
  have hA : DataW.TrodAll enc Try.prog W 0 (fun _ => true) true Try.f5.params.toList args.toList ds p := hA0
  rw [Try.params5] at hA hval
  obtain ⟨v0, vs0, d0, ds0, p0, q0, hargs, rfl, rfl, h0, r0⟩ := trodAll_cons hA
  obtain ⟨v1, vs1, d1, ds1, p1, q1, rfl, rfl, rfl, h1, r1⟩ := trodAll_cons r0
  obtain ⟨v2, vs2, d2, ds2, p2, q2, rfl, rfl, rfl, h2, r2⟩ := trodAll_cons r1
  obtain ⟨v3, vs3, d3, ds3, p3, q3, rfl, rfl, rfl, h3, r3⟩ := trodAll_cons r2
  obtain ⟨v4, vs4, d4, ds4, p4, q4, rfl, rfl, rfl, h4, r4⟩ := trodAll_cons r3
  obtain ⟨rfl, rfl, rfl⟩ := trodAll_nil r4
  obtain rfl : args = #[v0, v1, v2, v3, v4] := by cases args; simp_all
  obtain ⟨rfl, rfl⟩ := trodVars_none hV
  obtain ⟨c0x0, c0x1, y0x0, y0x1, m0, rfl, rfl, rfl, hy0x0, hy0x1⟩ := open_agg2 Try.underlying27 (by kernel_rfl) (by kernel_rfl) (hval 0 27 v0 rfl rfl) h0
  obtain ⟨a0x0, e0x0, rfl, w0x0⟩ := DataW.trod_int Try.underlying3 hy0x0
  obtain ⟨a0x1, e0x1, rfl, w0x1⟩ := DataW.trod_int Try.underlying3 hy0x1
  simp only [List.cons.injEq, and_true] at e0x0 e0x1
  subst e0x0 e0x1
  obtain ⟨b1, l1, k1, rfl, m1, e1⟩ := open_recs (fun _ _ => hval 1 39 v1 rfl rfl) h1
  obtain ⟨a2, rfl, rfl, rfl, w2⟩ := open_int Try.underlying3 (hval 2 3 v2 rfl rfl) h2
  obtain ⟨a3, rfl, rfl, rfl, w3⟩ := open_int Try.underlying3 (hval 3 3 v3 rfl rfl) h3
  obtain ⟨a4, rfl, rfl, rfl, w4⟩ := open_int Try.underlying3 (hval 4 3 v4 rfl rfl) h4
  clear hA0 hval0
  have s0 := stays h0 (by kernel_rfl) (by kernel_rfl)
  have s2 := stays h2 (by kernel_rfl) (by kernel_rfl)
  have s3 := stays h3 (by kernel_rfl) (by kernel_rfl)
  have s4 := stays h4 (by kernel_rfl) (by kernel_rfl)
  refine (walk a0x0 a0x1 l1 b1 k1 m1 e1 a2 a3 a4).mono fun e W' ⟨he, hg⟩ => ?_
  subst he
  have hlt := fun x hx => hW'.lt x hx
  exact ⟨_, rfl, post_of_below (pa := ([] ++ (p1 ++ ([] ++ ([] ++ ([] ++ [])))))) (pv := []) hW' (fun _ _ _ => (trodAll_cons_mk (shut_bool Try.underlying4 _) trodAll_mk0)) (fun sp hsp => (trodAll_cons_mk (s0 _ _) (trodAll_cons_mk (staysB h1 (by kernel_rfl) (by kernel_rfl) hg hlt (fun x hx => by simp [hx]) sp hsp) (trodAll_cons_mk (s2 _ _) (trodAll_cons_mk (s3 _ _) (trodAll_cons_mk (s4 _ _) trodAll_mk0)))))) (fun _ _ => rfl) rfl
    hg (ok_one (by kernel_rfl) rfl (okWide_bool_mk Try.underlying4 _))⟩

theorem over : Rows.tallyLaterRow.holds Try.pinned (OpenSpec.ofChange Rows.tallyLaterSpec) :=
  OpenClaim.holds_of_wide 5 Try.f5 rfl rfl rfl rfl rfl rfl rfl ⟨rfl, rfl, rfl, rfl, rfl⟩ rfl rfl rfl rfl rfl (by kernel_rfl) Try.func5 (by kernel_rfl)
    (of_decide_eq_true (by kernel_rfl)) (by unfold Func.isWrapper; first | (rw [if_pos (by decide +kernel)]; kernel_rfl) | (rw [if_neg (by decide +kernel)]; exact ⟨rfl, rfl⟩))
    (fun os started H enc _ => lifted os started H enc)

theorem proved : Rows.TallyLaterSaid :=
  over
end Go.Proofs.Ytokpjaodchcheaa.tallyLater
