/- This text proves what Write, Read, WriteRecount and ReadRecount return, of package tally and of its reference. -/
import Derived.Test.YthdenmbfeanioaaGreatDoorRead
import Derived.Test.YthdenmbfeanioaaGreatDoorNumbers
import Derived.Test.YthdenmbfeanioaaGreatDoorAlloc
import Derived.Test.YthdenmbfeanioaaGreatDoorRecsR
import Derived.Test.YthdenmbfeanioaaGreatDoorRefChecks
namespace Go.Proofs.YthdenmbfeanioaaGreatDoor
open Go.RowKit Go.Shelf
attribute [local go_sem] Oper.semAt_some

theorem ints_new (w : World) (l : List Int) (t : TypeId) (h : l.length ≤ 1000000000000) : Ints (w.alloc (.cells (l.map (Value.int .i64)).toArray t)) (some ⟨w.heap.size, 0, none⟩) l :=
  ⟨h, fun _ => ⟨w.heap.size, 0, rfl, fun k hk => by
    have h := cells_new w (l.map (Value.int .i64)).toArray t k (.int .i64 (it l k)) (by simp [it, hk])
    exact add_cell ⟨w.heap.size, 0, none⟩ _ _ _ _ _ rfl h⟩⟩
theorem nat_64 {l : List Int} (h : NatL l) : All64 l := fun n hn => by
  have := h n hn
  exact ⟨by omega, by omega⟩
theorem nat_pos {l : List Int} (h : NatL l) : ∀ n ∈ l, 0 ≤ n ∧ n ≤ 9223372036854775807 := fun n hn => by
  have := h n hn
  exact ⟨by omega, by omega⟩
def writeC (c : Ct) : ByteArray × Int := if ctB c then (toldB (ctL c), 0) else (⟨#[]⟩, 1)
def writeR (x : Rc) : ByteArray × Int := if rcB x then (toldB (rcL x), 0) else (⟨#[]⟩, 1)
theorem writeC_yes {c : Ct} (h : ctB c = true) : writeC c = (toldB (ctL c), 0) := if_pos h
theorem writeC_no {c : Ct} (h : ctB c = false) : writeC c = (⟨#[]⟩, 1) := if_neg (by rw [h]; decide)
theorem writeR_yes {x : Rc} (h : rcB x = true) : writeR x = (toldB (rcL x), 0) := if_pos h
theorem writeR_no {x : Rc} (h : rcB x = false) : writeR x = (⟨#[]⟩, 1) := if_neg (by rw [h]; decide)

set_option maxRecDepth 100000 in
set_option maxHeartbeats 2000000 in
theorem c_Write_yes (i d s n wo : Int) (w : World) (hL : LibW w) (h : ctB ⟨i, d, s, n, wo⟩ = true) :
    Calls Tryz.prog 6 #[.agg #[.int .i64 i, .int .i64 d, .int .i64 s, .int .i64 n, .int .i64 wo]] w fun e w' => e = .returned (.tuple #[.string (toldB [i, d, s, n, wo]), .int .i64 0]) ∧ Below w.heap.size w w' := by
  have hnat := Lib.hid (nat_ct h)
  have HW := Lib.hid hL
  clear hL
  have h1 : countB i d s n wo = true := h
  have H1 := Lib.hid h1
  clear h h1
  go_enter Tryz.func6, Tryz.ntmps6
  go_upto_region 1 with (fail)
  go_name_world W1 hW1
  have hbn : Below w.heap.size w W1 := by subst hW1; go_grown
  have hb0 := hbn
  clear hbn
  have q0n : W1.cell? ⟨w.heap.size, 0, none⟩ = some (.int .i64 i) := by subst hW1; go_simp
  have q1n : W1.cell? ⟨w.heap.size, 1, none⟩ = some (.int .i64 d) := by subst hW1; go_simp
  have q2n : W1.cell? ⟨w.heap.size, 2, none⟩ = some (.int .i64 s) := by subst hW1; go_simp
  have q3n : W1.cell? ⟨w.heap.size, 3, none⟩ = some (.int .i64 n) := by subst hW1; go_simp
  have q4n : W1.cell? ⟨w.heap.size, 4, none⟩ = some (.int .i64 wo) := by subst hW1; go_simp
  clear hW1 
  have q0 := q0n
  have q1 := q1n
  have q2 := q2n
  have q3 := q3n
  have q4 := q4n
  clear q0n q1n q2n q3n q4n 
  go_wp2_with fail
  refine (via (w0 := W1) (by go_grown) (c_isCount i d s n wo _)).mono ?_
  rw [H1.out]
  rintro e W2 ⟨rfl, hc, hf, hz, hB⟩
  have q0n : W2.cell? ⟨w.heap.size, 0, none⟩ = some (.int .i64 i) := (hc _ _ (cell_lt q0)).trans q0
  clear q0
  have q0 := q0n
  clear q0n
  have q1n : W2.cell? ⟨w.heap.size, 1, none⟩ = some (.int .i64 d) := (hc _ _ (cell_lt q1)).trans q1
  clear q1
  have q1 := q1n
  clear q1n
  have q2n : W2.cell? ⟨w.heap.size, 2, none⟩ = some (.int .i64 s) := (hc _ _ (cell_lt q2)).trans q2
  clear q2
  have q2 := q2n
  clear q2n
  have q3n : W2.cell? ⟨w.heap.size, 3, none⟩ = some (.int .i64 n) := (hc _ _ (cell_lt q3)).trans q3
  clear q3
  have q3 := q3n
  clear q3n
  have q4n : W2.cell? ⟨w.heap.size, 4, none⟩ = some (.int .i64 wo) := (hc _ _ (cell_lt q4)).trans q4
  clear q4
  have q4 := q4n
  clear q4n
  have hbn : Below w.heap.size w W2 := bthen hb0 hB
  clear hb0
  have hb0 := hbn
  clear hbn
  have hzW2 : W1.heap.size ≤ W2.heap.size := hz
  clear hc hf hB hz
  go_wp2_with fail
  refine (via (w0 := W2) (by go_grown) (c_told [i, d, s, n, wo] _ _ _ (HW.out.later (hb0.alloc hb0.size _)) (ints_new _ [i, d, s, n, wo] _ (by simp)) (nat_64 hnat.out) (by simp))).mono ?_
  rintro e W3 ⟨rfl, hc, hf, hz, hB⟩
  have q0n : W3.cell? ⟨w.heap.size, 0, none⟩ = some (.int .i64 i) := (hc _ _ (cell_lt q0)).trans q0
  clear q0
  have q0 := q0n
  clear q0n
  have q1n : W3.cell? ⟨w.heap.size, 1, none⟩ = some (.int .i64 d) := (hc _ _ (cell_lt q1)).trans q1
  clear q1
  have q1 := q1n
  clear q1n
  have q2n : W3.cell? ⟨w.heap.size, 2, none⟩ = some (.int .i64 s) := (hc _ _ (cell_lt q2)).trans q2
  clear q2
  have q2 := q2n
  clear q2n
  have q3n : W3.cell? ⟨w.heap.size, 3, none⟩ = some (.int .i64 n) := (hc _ _ (cell_lt q3)).trans q3
  clear q3
  have q3 := q3n
  clear q3n
  have q4n : W3.cell? ⟨w.heap.size, 4, none⟩ = some (.int .i64 wo) := (hc _ _ (cell_lt q4)).trans q4
  clear q4
  have q4 := q4n
  clear q4n
  have hbn : Below w.heap.size w W3 := bthen hb0 hB
  clear hb0
  have hb0 := hbn
  clear hbn
  have hzW3 : W2.heap.size ≤ W3.heap.size := hz
  clear hc hf hB hz
  go_wp2_with fail
  go_ret2
  exact ⟨rfl, by have hbz := hb0.size; go_grown⟩

set_option maxRecDepth 100000 in
set_option maxHeartbeats 2000000 in
theorem c_Write_no (i d s n wo : Int) (w : World) (h : ctB ⟨i, d, s, n, wo⟩ = false) :
    Calls Tryz.prog 6 #[.agg #[.int .i64 i, .int .i64 d, .int .i64 s, .int .i64 n, .int .i64 wo]] w fun e w' => e = .returned (.tuple #[.string ⟨#[]⟩, .int .i64 1]) ∧ Below w.heap.size w w' := by
  have h1 : countB i d s n wo = false := h
  have H1 := Lib.hid h1
  clear h h1
  go_enter Tryz.func6, Tryz.ntmps6
  go_upto_region 1 with (fail)
  go_name_world W1 hW1
  have hbn : Below w.heap.size w W1 := by subst hW1; go_grown
  have hb0 := hbn
  clear hbn
  have q0n : W1.cell? ⟨w.heap.size, 0, none⟩ = some (.int .i64 i) := by subst hW1; go_simp
  have q1n : W1.cell? ⟨w.heap.size, 1, none⟩ = some (.int .i64 d) := by subst hW1; go_simp
  have q2n : W1.cell? ⟨w.heap.size, 2, none⟩ = some (.int .i64 s) := by subst hW1; go_simp
  have q3n : W1.cell? ⟨w.heap.size, 3, none⟩ = some (.int .i64 n) := by subst hW1; go_simp
  have q4n : W1.cell? ⟨w.heap.size, 4, none⟩ = some (.int .i64 wo) := by subst hW1; go_simp
  clear hW1 
  have q0 := q0n
  have q1 := q1n
  have q2 := q2n
  have q3 := q3n
  have q4 := q4n
  clear q0n q1n q2n q3n q4n 
  go_wp2_with fail
  refine (via (w0 := W1) (by go_grown) (c_isCount i d s n wo _)).mono ?_
  rw [H1.out]
  rintro e W2 ⟨rfl, hc, hf, hz, hB⟩
  have q0n : W2.cell? ⟨w.heap.size, 0, none⟩ = some (.int .i64 i) := (hc _ _ (cell_lt q0)).trans q0
  clear q0
  have q0 := q0n
  clear q0n
  have q1n : W2.cell? ⟨w.heap.size, 1, none⟩ = some (.int .i64 d) := (hc _ _ (cell_lt q1)).trans q1
  clear q1
  have q1 := q1n
  clear q1n
  have q2n : W2.cell? ⟨w.heap.size, 2, none⟩ = some (.int .i64 s) := (hc _ _ (cell_lt q2)).trans q2
  clear q2
  have q2 := q2n
  clear q2n
  have q3n : W2.cell? ⟨w.heap.size, 3, none⟩ = some (.int .i64 n) := (hc _ _ (cell_lt q3)).trans q3
  clear q3
  have q3 := q3n
  clear q3n
  have q4n : W2.cell? ⟨w.heap.size, 4, none⟩ = some (.int .i64 wo) := (hc _ _ (cell_lt q4)).trans q4
  clear q4
  have q4 := q4n
  clear q4n
  have hbn : Below w.heap.size w W2 := bthen hb0 hB
  clear hb0
  have hb0 := hbn
  clear hbn
  have hzW2 : W1.heap.size ≤ W2.heap.size := hz
  clear hc hf hB hz
  go_wp2_with fail
  go_ret2
  exact ⟨rfl, by have hbz := hb0.size; go_grown⟩

theorem c_Write (c : Ct) (w : World) (hL : LibW w) :
    Calls Tryz.prog 6 #[c.v] w fun e w' => e = .returned (.tuple #[.string (writeC c).1, .int .i64 (writeC c).2]) ∧ Below w.heap.size w w' := by
  obtain ⟨i, d, s, n, wo⟩ := c
  cases h : ctB ⟨i, d, s, n, wo⟩ with
  | true => rw [writeC_yes h]; exact c_Write_yes i d s n wo w hL h
  | false => rw [writeC_no h]; exact c_Write_no i d s n wo w h

set_option maxRecDepth 100000 in
set_option maxHeartbeats 2000000 in
theorem c_rWrite_yes (i d s n wo : Int) (w : World) (h : ctB ⟨i, d, s, n, wo⟩ = true) :
    Calls Tryz.prog 7 #[.agg #[.int .i64 i, .int .i64 d, .int .i64 s, .int .i64 n, .int .i64 wo]] w fun e w' => e = .returned (.tuple #[.string (toldB [i, d, s, n, wo]), .int .i64 0]) ∧ Below w.heap.size w w' := by
  have hnat := Lib.hid (nat_ct h)
  have h1 : countB i d s n wo = true := h
  have H1 := Lib.hid h1
  clear h h1
  go_enter Tryz.func7, Tryz.ntmps7
  go_upto_region 1 with (fail)
  go_name_world W1 hW1
  have hbn : Below w.heap.size w W1 := by subst hW1; go_grown
  have hb0 := hbn
  clear hbn
  have q0n : W1.cell? ⟨w.heap.size, 0, none⟩ = some (.int .i64 i) := by subst hW1; go_simp
  have q1n : W1.cell? ⟨w.heap.size, 1, none⟩ = some (.int .i64 d) := by subst hW1; go_simp
  have q2n : W1.cell? ⟨w.heap.size, 2, none⟩ = some (.int .i64 s) := by subst hW1; go_simp
  have q3n : W1.cell? ⟨w.heap.size, 3, none⟩ = some (.int .i64 n) := by subst hW1; go_simp
  have q4n : W1.cell? ⟨w.heap.size, 4, none⟩ = some (.int .i64 wo) := by subst hW1; go_simp
  clear hW1 
  have q0 := q0n
  have q1 := q1n
  have q2 := q2n
  have q3 := q3n
  have q4 := q4n
  clear q0n q1n q2n q3n q4n 
  go_wp2_with fail
  refine (via (w0 := W1) (by go_grown) (c_rCheckCount i d s n wo _)).mono ?_
  rw [H1.out, errB_true]
  rintro e W2 ⟨rfl, hc, hf, hz, hB⟩
  have q0n : W2.cell? ⟨w.heap.size, 0, none⟩ = some (.int .i64 i) := (hc _ _ (cell_lt q0)).trans q0
  clear q0
  have q0 := q0n
  clear q0n
  have q1n : W2.cell? ⟨w.heap.size, 1, none⟩ = some (.int .i64 d) := (hc _ _ (cell_lt q1)).trans q1
  clear q1
  have q1 := q1n
  clear q1n
  have q2n : W2.cell? ⟨w.heap.size, 2, none⟩ = some (.int .i64 s) := (hc _ _ (cell_lt q2)).trans q2
  clear q2
  have q2 := q2n
  clear q2n
  have q3n : W2.cell? ⟨w.heap.size, 3, none⟩ = some (.int .i64 n) := (hc _ _ (cell_lt q3)).trans q3
  clear q3
  have q3 := q3n
  clear q3n
  have q4n : W2.cell? ⟨w.heap.size, 4, none⟩ = some (.int .i64 wo) := (hc _ _ (cell_lt q4)).trans q4
  clear q4
  have q4 := q4n
  clear q4n
  have hbn : Below w.heap.size w W2 := bthen hb0 hB
  clear hb0
  have hb0 := hbn
  clear hbn
  have hzW2 : W1.heap.size ≤ W2.heap.size := hz
  clear hc hf hB hz
  go_wp2_with fail
  refine (via (w0 := W2) (by go_grown) (c_line [i, d, s, n, wo] _ _ _ (ints_new _ [i, d, s, n, wo] _ (by simp)) (nat_pos hnat.out) (by simp))).mono ?_
  rintro e W3 ⟨rfl, hc, hf, hz, hB⟩
  have q0n : W3.cell? ⟨w.heap.size, 0, none⟩ = some (.int .i64 i) := (hc _ _ (cell_lt q0)).trans q0
  clear q0
  have q0 := q0n
  clear q0n
  have q1n : W3.cell? ⟨w.heap.size, 1, none⟩ = some (.int .i64 d) := (hc _ _ (cell_lt q1)).trans q1
  clear q1
  have q1 := q1n
  clear q1n
  have q2n : W3.cell? ⟨w.heap.size, 2, none⟩ = some (.int .i64 s) := (hc _ _ (cell_lt q2)).trans q2
  clear q2
  have q2 := q2n
  clear q2n
  have q3n : W3.cell? ⟨w.heap.size, 3, none⟩ = some (.int .i64 n) := (hc _ _ (cell_lt q3)).trans q3
  clear q3
  have q3 := q3n
  clear q3n
  have q4n : W3.cell? ⟨w.heap.size, 4, none⟩ = some (.int .i64 wo) := (hc _ _ (cell_lt q4)).trans q4
  clear q4
  have q4 := q4n
  clear q4n
  have hbn : Below w.heap.size w W3 := bthen hb0 hB
  clear hb0
  have hb0 := hbn
  clear hbn
  have hzW3 : W2.heap.size ≤ W3.heap.size := hz
  clear hc hf hB hz
  go_wp2_with fail
  go_ret2
  exact ⟨rfl, by have hbz := hb0.size; go_grown⟩

set_option maxRecDepth 100000 in
set_option maxHeartbeats 2000000 in
theorem c_rWrite_no (i d s n wo : Int) (w : World) (h : ctB ⟨i, d, s, n, wo⟩ = false) :
    Calls Tryz.prog 7 #[.agg #[.int .i64 i, .int .i64 d, .int .i64 s, .int .i64 n, .int .i64 wo]] w fun e w' => e = .returned (.tuple #[.string ⟨#[]⟩, .int .i64 1]) ∧ Below w.heap.size w w' := by
  have h1 : countB i d s n wo = false := h
  have H1 := Lib.hid h1
  clear h h1
  go_enter Tryz.func7, Tryz.ntmps7
  go_upto_region 1 with (fail)
  go_name_world W1 hW1
  have hbn : Below w.heap.size w W1 := by subst hW1; go_grown
  have hb0 := hbn
  clear hbn
  have q0n : W1.cell? ⟨w.heap.size, 0, none⟩ = some (.int .i64 i) := by subst hW1; go_simp
  have q1n : W1.cell? ⟨w.heap.size, 1, none⟩ = some (.int .i64 d) := by subst hW1; go_simp
  have q2n : W1.cell? ⟨w.heap.size, 2, none⟩ = some (.int .i64 s) := by subst hW1; go_simp
  have q3n : W1.cell? ⟨w.heap.size, 3, none⟩ = some (.int .i64 n) := by subst hW1; go_simp
  have q4n : W1.cell? ⟨w.heap.size, 4, none⟩ = some (.int .i64 wo) := by subst hW1; go_simp
  clear hW1 
  have q0 := q0n
  have q1 := q1n
  have q2 := q2n
  have q3 := q3n
  have q4 := q4n
  clear q0n q1n q2n q3n q4n 
  go_wp2_with fail
  refine (via (w0 := W1) (by go_grown) (c_rCheckCount i d s n wo _)).mono ?_
  rw [H1.out, errB_false]
  rintro e W2 ⟨rfl, hc, hf, hz, hB⟩
  have q0n : W2.cell? ⟨w.heap.size, 0, none⟩ = some (.int .i64 i) := (hc _ _ (cell_lt q0)).trans q0
  clear q0
  have q0 := q0n
  clear q0n
  have q1n : W2.cell? ⟨w.heap.size, 1, none⟩ = some (.int .i64 d) := (hc _ _ (cell_lt q1)).trans q1
  clear q1
  have q1 := q1n
  clear q1n
  have q2n : W2.cell? ⟨w.heap.size, 2, none⟩ = some (.int .i64 s) := (hc _ _ (cell_lt q2)).trans q2
  clear q2
  have q2 := q2n
  clear q2n
  have q3n : W2.cell? ⟨w.heap.size, 3, none⟩ = some (.int .i64 n) := (hc _ _ (cell_lt q3)).trans q3
  clear q3
  have q3 := q3n
  clear q3n
  have q4n : W2.cell? ⟨w.heap.size, 4, none⟩ = some (.int .i64 wo) := (hc _ _ (cell_lt q4)).trans q4
  clear q4
  have q4 := q4n
  clear q4n
  have hbn : Below w.heap.size w W2 := bthen hb0 hB
  clear hb0
  have hb0 := hbn
  clear hbn
  have hzW2 : W1.heap.size ≤ W2.heap.size := hz
  clear hc hf hB hz
  go_wp2_with fail
  go_ret2
  exact ⟨rfl, by have hbz := hb0.size; go_grown⟩

theorem c_rWrite (c : Ct) (w : World) :
    Calls Tryz.prog 7 #[c.v] w fun e w' => e = .returned (.tuple #[.string (writeC c).1, .int .i64 (writeC c).2]) ∧ Below w.heap.size w w' := by
  obtain ⟨i, d, s, n, wo⟩ := c
  cases h : ctB ⟨i, d, s, n, wo⟩ with
  | true => rw [writeC_yes h]; exact c_rWrite_yes i d s n wo w h
  | false => rw [writeC_no h]; exact c_rWrite_no i d s n wo w h

set_option maxRecDepth 100000 in
set_option maxHeartbeats 2000000 in
theorem c_WriteRecount_yes (i d k s t n : Int) (w : World) (hL : LibW w) (h : rcB ⟨i, d, k, s, t, n⟩ = true) :
    Calls Tryz.prog 10 #[.agg #[.int .i64 i, .int .i64 d, .int .i64 k, .int .i64 s, .int .i64 t, .int .i64 n]] w fun e w' => e = .returned (.tuple #[.string (toldB [i, k, d, s, t, n]), .int .i64 0]) ∧ Below w.heap.size w w' := by
  have hnat := Lib.hid (nat_rc h)
  have HW := Lib.hid hL
  clear hL
  have h1 : recountB i d k s t n = true := h
  have H1 := Lib.hid h1
  clear h h1
  go_enter Tryz.func10, Tryz.ntmps10
  go_upto_region 1 with (fail)
  go_name_world W1 hW1
  have hbn : Below w.heap.size w W1 := by subst hW1; go_grown
  have hb0 := hbn
  clear hbn
  have q0n : W1.cell? ⟨w.heap.size, 0, none⟩ = some (.int .i64 i) := by subst hW1; go_simp
  have q1n : W1.cell? ⟨w.heap.size, 1, none⟩ = some (.int .i64 d) := by subst hW1; go_simp
  have q2n : W1.cell? ⟨w.heap.size, 2, none⟩ = some (.int .i64 k) := by subst hW1; go_simp
  have q3n : W1.cell? ⟨w.heap.size, 3, none⟩ = some (.int .i64 s) := by subst hW1; go_simp
  have q4n : W1.cell? ⟨w.heap.size, 4, none⟩ = some (.int .i64 t) := by subst hW1; go_simp
  have q5n : W1.cell? ⟨w.heap.size, 5, none⟩ = some (.int .i64 n) := by subst hW1; go_simp
  clear hW1 
  have q0 := q0n
  have q1 := q1n
  have q2 := q2n
  have q3 := q3n
  have q4 := q4n
  have q5 := q5n
  clear q0n q1n q2n q3n q4n q5n 
  go_wp2_with fail
  refine (via (w0 := W1) (by go_grown) (c_isRecount i d k s t n _)).mono ?_
  rw [H1.out]
  rintro e W2 ⟨rfl, hc, hf, hz, hB⟩
  have q0n : W2.cell? ⟨w.heap.size, 0, none⟩ = some (.int .i64 i) := (hc _ _ (cell_lt q0)).trans q0
  clear q0
  have q0 := q0n
  clear q0n
  have q1n : W2.cell? ⟨w.heap.size, 1, none⟩ = some (.int .i64 d) := (hc _ _ (cell_lt q1)).trans q1
  clear q1
  have q1 := q1n
  clear q1n
  have q2n : W2.cell? ⟨w.heap.size, 2, none⟩ = some (.int .i64 k) := (hc _ _ (cell_lt q2)).trans q2
  clear q2
  have q2 := q2n
  clear q2n
  have q3n : W2.cell? ⟨w.heap.size, 3, none⟩ = some (.int .i64 s) := (hc _ _ (cell_lt q3)).trans q3
  clear q3
  have q3 := q3n
  clear q3n
  have q4n : W2.cell? ⟨w.heap.size, 4, none⟩ = some (.int .i64 t) := (hc _ _ (cell_lt q4)).trans q4
  clear q4
  have q4 := q4n
  clear q4n
  have q5n : W2.cell? ⟨w.heap.size, 5, none⟩ = some (.int .i64 n) := (hc _ _ (cell_lt q5)).trans q5
  clear q5
  have q5 := q5n
  clear q5n
  have hbn : Below w.heap.size w W2 := bthen hb0 hB
  clear hb0
  have hb0 := hbn
  clear hbn
  have hzW2 : W1.heap.size ≤ W2.heap.size := hz
  clear hc hf hB hz
  go_wp2_with fail
  refine (via (w0 := W2) (by go_grown) (c_told [i, k, d, s, t, n] _ _ _ (HW.out.later (hb0.alloc hb0.size _)) (ints_new _ [i, k, d, s, t, n] _ (by simp)) (nat_64 hnat.out) (by simp))).mono ?_
  rintro e W3 ⟨rfl, hc, hf, hz, hB⟩
  have q0n : W3.cell? ⟨w.heap.size, 0, none⟩ = some (.int .i64 i) := (hc _ _ (cell_lt q0)).trans q0
  clear q0
  have q0 := q0n
  clear q0n
  have q1n : W3.cell? ⟨w.heap.size, 1, none⟩ = some (.int .i64 d) := (hc _ _ (cell_lt q1)).trans q1
  clear q1
  have q1 := q1n
  clear q1n
  have q2n : W3.cell? ⟨w.heap.size, 2, none⟩ = some (.int .i64 k) := (hc _ _ (cell_lt q2)).trans q2
  clear q2
  have q2 := q2n
  clear q2n
  have q3n : W3.cell? ⟨w.heap.size, 3, none⟩ = some (.int .i64 s) := (hc _ _ (cell_lt q3)).trans q3
  clear q3
  have q3 := q3n
  clear q3n
  have q4n : W3.cell? ⟨w.heap.size, 4, none⟩ = some (.int .i64 t) := (hc _ _ (cell_lt q4)).trans q4
  clear q4
  have q4 := q4n
  clear q4n
  have q5n : W3.cell? ⟨w.heap.size, 5, none⟩ = some (.int .i64 n) := (hc _ _ (cell_lt q5)).trans q5
  clear q5
  have q5 := q5n
  clear q5n
  have hbn : Below w.heap.size w W3 := bthen hb0 hB
  clear hb0
  have hb0 := hbn
  clear hbn
  have hzW3 : W2.heap.size ≤ W3.heap.size := hz
  clear hc hf hB hz
  go_wp2_with fail
  go_ret2
  exact ⟨rfl, by have hbz := hb0.size; go_grown⟩

set_option maxRecDepth 100000 in
set_option maxHeartbeats 2000000 in
theorem c_WriteRecount_no (i d k s t n : Int) (w : World) (h : rcB ⟨i, d, k, s, t, n⟩ = false) :
    Calls Tryz.prog 10 #[.agg #[.int .i64 i, .int .i64 d, .int .i64 k, .int .i64 s, .int .i64 t, .int .i64 n]] w fun e w' => e = .returned (.tuple #[.string ⟨#[]⟩, .int .i64 1]) ∧ Below w.heap.size w w' := by
  have h1 : recountB i d k s t n = false := h
  have H1 := Lib.hid h1
  clear h h1
  go_enter Tryz.func10, Tryz.ntmps10
  go_upto_region 1 with (fail)
  go_name_world W1 hW1
  have hbn : Below w.heap.size w W1 := by subst hW1; go_grown
  have hb0 := hbn
  clear hbn
  have q0n : W1.cell? ⟨w.heap.size, 0, none⟩ = some (.int .i64 i) := by subst hW1; go_simp
  have q1n : W1.cell? ⟨w.heap.size, 1, none⟩ = some (.int .i64 d) := by subst hW1; go_simp
  have q2n : W1.cell? ⟨w.heap.size, 2, none⟩ = some (.int .i64 k) := by subst hW1; go_simp
  have q3n : W1.cell? ⟨w.heap.size, 3, none⟩ = some (.int .i64 s) := by subst hW1; go_simp
  have q4n : W1.cell? ⟨w.heap.size, 4, none⟩ = some (.int .i64 t) := by subst hW1; go_simp
  have q5n : W1.cell? ⟨w.heap.size, 5, none⟩ = some (.int .i64 n) := by subst hW1; go_simp
  clear hW1 
  have q0 := q0n
  have q1 := q1n
  have q2 := q2n
  have q3 := q3n
  have q4 := q4n
  have q5 := q5n
  clear q0n q1n q2n q3n q4n q5n 
  go_wp2_with fail
  refine (via (w0 := W1) (by go_grown) (c_isRecount i d k s t n _)).mono ?_
  rw [H1.out]
  rintro e W2 ⟨rfl, hc, hf, hz, hB⟩
  have q0n : W2.cell? ⟨w.heap.size, 0, none⟩ = some (.int .i64 i) := (hc _ _ (cell_lt q0)).trans q0
  clear q0
  have q0 := q0n
  clear q0n
  have q1n : W2.cell? ⟨w.heap.size, 1, none⟩ = some (.int .i64 d) := (hc _ _ (cell_lt q1)).trans q1
  clear q1
  have q1 := q1n
  clear q1n
  have q2n : W2.cell? ⟨w.heap.size, 2, none⟩ = some (.int .i64 k) := (hc _ _ (cell_lt q2)).trans q2
  clear q2
  have q2 := q2n
  clear q2n
  have q3n : W2.cell? ⟨w.heap.size, 3, none⟩ = some (.int .i64 s) := (hc _ _ (cell_lt q3)).trans q3
  clear q3
  have q3 := q3n
  clear q3n
  have q4n : W2.cell? ⟨w.heap.size, 4, none⟩ = some (.int .i64 t) := (hc _ _ (cell_lt q4)).trans q4
  clear q4
  have q4 := q4n
  clear q4n
  have q5n : W2.cell? ⟨w.heap.size, 5, none⟩ = some (.int .i64 n) := (hc _ _ (cell_lt q5)).trans q5
  clear q5
  have q5 := q5n
  clear q5n
  have hbn : Below w.heap.size w W2 := bthen hb0 hB
  clear hb0
  have hb0 := hbn
  clear hbn
  have hzW2 : W1.heap.size ≤ W2.heap.size := hz
  clear hc hf hB hz
  go_wp2_with fail
  go_ret2
  exact ⟨rfl, by have hbz := hb0.size; go_grown⟩

theorem c_WriteRecount (c : Rc) (w : World) (hL : LibW w) :
    Calls Tryz.prog 10 #[c.v] w fun e w' => e = .returned (.tuple #[.string (writeR c).1, .int .i64 (writeR c).2]) ∧ Below w.heap.size w w' := by
  obtain ⟨i, d, k, s, t, n⟩ := c
  cases h : rcB ⟨i, d, k, s, t, n⟩ with
  | true => rw [writeR_yes h]; exact c_WriteRecount_yes i d k s t n w hL h
  | false => rw [writeR_no h]; exact c_WriteRecount_no i d k s t n w h

set_option maxRecDepth 100000 in
set_option maxHeartbeats 2000000 in
theorem c_rWriteRecount_yes (i d k s t n : Int) (w : World) (h : rcB ⟨i, d, k, s, t, n⟩ = true) :
    Calls Tryz.prog 11 #[.agg #[.int .i64 i, .int .i64 d, .int .i64 k, .int .i64 s, .int .i64 t, .int .i64 n]] w fun e w' => e = .returned (.tuple #[.string (toldB [i, k, d, s, t, n]), .int .i64 0]) ∧ Below w.heap.size w w' := by
  have hnat := Lib.hid (nat_rc h)
  have h1 : recountB i d k s t n = true := h
  have H1 := Lib.hid h1
  clear h h1
  go_enter Tryz.func11, Tryz.ntmps11
  go_upto_region 1 with (fail)
  go_name_world W1 hW1
  have hbn : Below w.heap.size w W1 := by subst hW1; go_grown
  have hb0 := hbn
  clear hbn
  have q0n : W1.cell? ⟨w.heap.size, 0, none⟩ = some (.int .i64 i) := by subst hW1; go_simp
  have q1n : W1.cell? ⟨w.heap.size, 1, none⟩ = some (.int .i64 d) := by subst hW1; go_simp
  have q2n : W1.cell? ⟨w.heap.size, 2, none⟩ = some (.int .i64 k) := by subst hW1; go_simp
  have q3n : W1.cell? ⟨w.heap.size, 3, none⟩ = some (.int .i64 s) := by subst hW1; go_simp
  have q4n : W1.cell? ⟨w.heap.size, 4, none⟩ = some (.int .i64 t) := by subst hW1; go_simp
  have q5n : W1.cell? ⟨w.heap.size, 5, none⟩ = some (.int .i64 n) := by subst hW1; go_simp
  clear hW1 
  have q0 := q0n
  have q1 := q1n
  have q2 := q2n
  have q3 := q3n
  have q4 := q4n
  have q5 := q5n
  clear q0n q1n q2n q3n q4n q5n 
  go_wp2_with fail
  refine (via (w0 := W1) (by go_grown) (c_rcheckRecount i d k s t n _)).mono ?_
  rw [H1.out, errB_true]
  rintro e W2 ⟨rfl, hc, hf, hz, hB⟩
  have q0n : W2.cell? ⟨w.heap.size, 0, none⟩ = some (.int .i64 i) := (hc _ _ (cell_lt q0)).trans q0
  clear q0
  have q0 := q0n
  clear q0n
  have q1n : W2.cell? ⟨w.heap.size, 1, none⟩ = some (.int .i64 d) := (hc _ _ (cell_lt q1)).trans q1
  clear q1
  have q1 := q1n
  clear q1n
  have q2n : W2.cell? ⟨w.heap.size, 2, none⟩ = some (.int .i64 k) := (hc _ _ (cell_lt q2)).trans q2
  clear q2
  have q2 := q2n
  clear q2n
  have q3n : W2.cell? ⟨w.heap.size, 3, none⟩ = some (.int .i64 s) := (hc _ _ (cell_lt q3)).trans q3
  clear q3
  have q3 := q3n
  clear q3n
  have q4n : W2.cell? ⟨w.heap.size, 4, none⟩ = some (.int .i64 t) := (hc _ _ (cell_lt q4)).trans q4
  clear q4
  have q4 := q4n
  clear q4n
  have q5n : W2.cell? ⟨w.heap.size, 5, none⟩ = some (.int .i64 n) := (hc _ _ (cell_lt q5)).trans q5
  clear q5
  have q5 := q5n
  clear q5n
  have hbn : Below w.heap.size w W2 := bthen hb0 hB
  clear hb0
  have hb0 := hbn
  clear hbn
  have hzW2 : W1.heap.size ≤ W2.heap.size := hz
  clear hc hf hB hz
  go_wp2_with fail
  refine (via (w0 := W2) (by go_grown) (c_line [i, k, d, s, t, n] _ _ _ (ints_new _ [i, k, d, s, t, n] _ (by simp)) (nat_pos hnat.out) (by simp))).mono ?_
  rintro e W3 ⟨rfl, hc, hf, hz, hB⟩
  have q0n : W3.cell? ⟨w.heap.size, 0, none⟩ = some (.int .i64 i) := (hc _ _ (cell_lt q0)).trans q0
  clear q0
  have q0 := q0n
  clear q0n
  have q1n : W3.cell? ⟨w.heap.size, 1, none⟩ = some (.int .i64 d) := (hc _ _ (cell_lt q1)).trans q1
  clear q1
  have q1 := q1n
  clear q1n
  have q2n : W3.cell? ⟨w.heap.size, 2, none⟩ = some (.int .i64 k) := (hc _ _ (cell_lt q2)).trans q2
  clear q2
  have q2 := q2n
  clear q2n
  have q3n : W3.cell? ⟨w.heap.size, 3, none⟩ = some (.int .i64 s) := (hc _ _ (cell_lt q3)).trans q3
  clear q3
  have q3 := q3n
  clear q3n
  have q4n : W3.cell? ⟨w.heap.size, 4, none⟩ = some (.int .i64 t) := (hc _ _ (cell_lt q4)).trans q4
  clear q4
  have q4 := q4n
  clear q4n
  have q5n : W3.cell? ⟨w.heap.size, 5, none⟩ = some (.int .i64 n) := (hc _ _ (cell_lt q5)).trans q5
  clear q5
  have q5 := q5n
  clear q5n
  have hbn : Below w.heap.size w W3 := bthen hb0 hB
  clear hb0
  have hb0 := hbn
  clear hbn
  have hzW3 : W2.heap.size ≤ W3.heap.size := hz
  clear hc hf hB hz
  go_wp2_with fail
  go_ret2
  exact ⟨rfl, by have hbz := hb0.size; go_grown⟩

set_option maxRecDepth 100000 in
set_option maxHeartbeats 2000000 in
theorem c_rWriteRecount_no (i d k s t n : Int) (w : World) (h : rcB ⟨i, d, k, s, t, n⟩ = false) :
    Calls Tryz.prog 11 #[.agg #[.int .i64 i, .int .i64 d, .int .i64 k, .int .i64 s, .int .i64 t, .int .i64 n]] w fun e w' => e = .returned (.tuple #[.string ⟨#[]⟩, .int .i64 1]) ∧ Below w.heap.size w w' := by
  have h1 : recountB i d k s t n = false := h
  have H1 := Lib.hid h1
  clear h h1
  go_enter Tryz.func11, Tryz.ntmps11
  go_upto_region 1 with (fail)
  go_name_world W1 hW1
  have hbn : Below w.heap.size w W1 := by subst hW1; go_grown
  have hb0 := hbn
  clear hbn
  have q0n : W1.cell? ⟨w.heap.size, 0, none⟩ = some (.int .i64 i) := by subst hW1; go_simp
  have q1n : W1.cell? ⟨w.heap.size, 1, none⟩ = some (.int .i64 d) := by subst hW1; go_simp
  have q2n : W1.cell? ⟨w.heap.size, 2, none⟩ = some (.int .i64 k) := by subst hW1; go_simp
  have q3n : W1.cell? ⟨w.heap.size, 3, none⟩ = some (.int .i64 s) := by subst hW1; go_simp
  have q4n : W1.cell? ⟨w.heap.size, 4, none⟩ = some (.int .i64 t) := by subst hW1; go_simp
  have q5n : W1.cell? ⟨w.heap.size, 5, none⟩ = some (.int .i64 n) := by subst hW1; go_simp
  clear hW1 
  have q0 := q0n
  have q1 := q1n
  have q2 := q2n
  have q3 := q3n
  have q4 := q4n
  have q5 := q5n
  clear q0n q1n q2n q3n q4n q5n 
  go_wp2_with fail
  refine (via (w0 := W1) (by go_grown) (c_rcheckRecount i d k s t n _)).mono ?_
  rw [H1.out, errB_false]
  rintro e W2 ⟨rfl, hc, hf, hz, hB⟩
  have q0n : W2.cell? ⟨w.heap.size, 0, none⟩ = some (.int .i64 i) := (hc _ _ (cell_lt q0)).trans q0
  clear q0
  have q0 := q0n
  clear q0n
  have q1n : W2.cell? ⟨w.heap.size, 1, none⟩ = some (.int .i64 d) := (hc _ _ (cell_lt q1)).trans q1
  clear q1
  have q1 := q1n
  clear q1n
  have q2n : W2.cell? ⟨w.heap.size, 2, none⟩ = some (.int .i64 k) := (hc _ _ (cell_lt q2)).trans q2
  clear q2
  have q2 := q2n
  clear q2n
  have q3n : W2.cell? ⟨w.heap.size, 3, none⟩ = some (.int .i64 s) := (hc _ _ (cell_lt q3)).trans q3
  clear q3
  have q3 := q3n
  clear q3n
  have q4n : W2.cell? ⟨w.heap.size, 4, none⟩ = some (.int .i64 t) := (hc _ _ (cell_lt q4)).trans q4
  clear q4
  have q4 := q4n
  clear q4n
  have q5n : W2.cell? ⟨w.heap.size, 5, none⟩ = some (.int .i64 n) := (hc _ _ (cell_lt q5)).trans q5
  clear q5
  have q5 := q5n
  clear q5n
  have hbn : Below w.heap.size w W2 := bthen hb0 hB
  clear hb0
  have hb0 := hbn
  clear hbn
  have hzW2 : W1.heap.size ≤ W2.heap.size := hz
  clear hc hf hB hz
  go_wp2_with fail
  go_ret2
  exact ⟨rfl, by have hbz := hb0.size; go_grown⟩

theorem c_rWriteRecount (c : Rc) (w : World) :
    Calls Tryz.prog 11 #[c.v] w fun e w' => e = .returned (.tuple #[.string (writeR c).1, .int .i64 (writeR c).2]) ∧ Below w.heap.size w w' := by
  obtain ⟨i, d, k, s, t, n⟩ := c
  cases h : rcB ⟨i, d, k, s, t, n⟩ with
  | true => rw [writeR_yes h]; exact c_rWriteRecount_yes i d k s t n w h
  | false => rw [writeR_no h]; exact c_rWriteRecount_no i d k s t n w h
end Go.Proofs.YthdenmbfeanioaaGreatDoor
