/- This text proves that the law TallyTexts holds: for every tally, re-count and lines it returns true, and they read behind the call as they read before. -/
import Derived.Test.YthdenmbfeanioaaGreatDoorShut
import Derived.Test.YthdenmbfeanioaaGreatDoorLaid
import Derived.Test.YthdenmbfeanioaaGreatDoorRows
import Derived.Test.YthdenmbfeanioaaGreatDoorCards
import Derived.Test.YthdenmbfeanioaaGreatDoorTie
import Derived.Test.YthdenmbfeanioaaGreatDoorReadBack
namespace Go.Proofs.YthdenmbfeanioaaGreatDoor.tallyTexts
open Go.ChangeShapes Go.WideShapes Go.ChangeAt Go.RowKit Go.Joins Go.Deep
open Go.ChangeMaps (open_string shut_string)

section
variable {H : Type} {enc : TypeId × Value → H} {P : Program} {w : World} {base : Nat} {spare : Nat → Bool} {held : Bool}
theorem open_agg6 {r : Reach} {b0 : Nat} {t : TypeId} {f0 f1 f2 f3 f4 f5 : Field} {v : Value} {d : DataW H} {p : List MemPlace} (hs : P.underlying t = some (.struct #[f0, f1, f2, f3, f4, f5])) (hone : oneCellFields P #[f0, f1, f2, f3, f4, f5] = true) (hC : P.cellsOf t = 6)
    (hv : Value.okWide P w r b0 t v) (h : DataW.Trod enc P w base spare held t v d p) :
    ∃ (v0 v1 v2 v3 v4 v5 : Value) (y0 y1 y2 y3 y4 y5 : DataW H × List MemPlace) (n : Nat), v = .agg #[v0, v1, v2, v3, v4, v5] ∧ d = .agg [y0.1, y1.1, y2.1, y3.1, y4.1, y5.1] ∧ p = y0.2 ++ (y1.2 ++ (y2.2 ++ (y3.2 ++ (y4.2 ++ (y5.2))))) ∧
      DataW.trod enc P w base spare held n f0.type [v0] = some y0 ∧ DataW.trod enc P w base spare held n f1.type [v1] = some y1 ∧ DataW.trod enc P w base spare held n f2.type [v2] = some y2 ∧ DataW.trod enc P w base spare held n f3.type [v3] = some y3 ∧ DataW.trod enc P w base spare held n f4.type [v4] = some y4 ∧ DataW.trod enc P w base spare held n f5.type [v5] = some y5 := by
  obtain ⟨cs, rfl, hsz⟩ := okWide_struct hs hv
  obtain ⟨l⟩ := cs
  match l, hsz.trans hC with
  | [c0, c1, c2, c3, c4, c5], _ =>
    obtain ⟨fuel, hf⟩ := h
    obtain ⟨xs, n, _, hx, _, hlen, hg⟩ := DataW.trod_struct hs hf
    obtain ⟨o0, k0⟩ := hone_of hone 0 f0 rfl
    obtain ⟨o1, k1⟩ := hone_of hone 1 f1 rfl
    obtain ⟨o2, k2⟩ := hone_of hone 2 f2 rfl
    obtain ⟨o3, k3⟩ := hone_of hone 3 f3 rfl
    obtain ⟨o4, k4⟩ := hone_of hone 4 f4 rfl
    obtain ⟨o5, k5⟩ := hone_of hone 5 f5 rfl
    match xs, hlen with
    | [y0, y1, y2, y3, y4, y5], _ =>
      simp only [Prod.mk.injEq] at hx
      exact ⟨c0, c1, c2, c3, c4, c5, y0, y1, y2, y3, y4, y5, n, rfl, by simpa using hx.1, by simpa using hx.2, by simpa [Value.cells, o0, k0] using hg 0 f0 rfl, by simpa [Value.cells, o1, k1] using hg 1 f1 rfl, by simpa [Value.cells, o2, k2] using hg 2 f2 rfl, by simpa [Value.cells, o3, k3] using hg 3 f3 rfl, by simpa [Value.cells, o4, k4] using hg 4 f4 rfl, by simpa [Value.cells, o5, k5] using hg 5 f5 rfl⟩
end
theorem writeC_err (c : Ct) : (writeC c).2 = errB (ctB c) := by
  cases h : ctB c with
  | true => rw [writeC_yes h]; rfl
  | false => rw [writeC_no h]; rfl
theorem writeR_err (x : Rc) : (writeR x).2 = errB (rcB x) := by
  cases h : rcB x with
  | true => rw [writeR_yes h]; rfl
  | false => rw [writeR_no h]; rfl
theorem back_C (c : Ct) (h : (writeC c).2 = 0) (W : World) (hl : LibW W) :
    Calls Tryz.prog 8 #[.string (writeC c).1] W fun e w' => e = .returned (.tuple #[c.v, .int .i64 0]) ∧ Below W.heap.size W w' := by
  have hb : ctB c = true := by
    cases h2 : ctB c with
    | true => rfl
    | false => rw [writeC_no h2] at h; cases h
  have hs := toldB_size (nat_64 (nat_ct hb))
  have hr := readC_told hb
  rw [writeC_yes hb]
  have := c_Read (toldB (ctL c)) W hl (by have e2 : (ctL c).length = 5 := rfl; rw [e2] at hs; omega)
  have e : (toldB (ctL c)).data.toList = toldV (ctL c) := rfl
  rw [e, hr] at this
  exact this
theorem back_R (x : Rc) (h : (writeR x).2 = 0) (W : World) (hl : LibW W) :
    Calls Tryz.prog 12 #[.string (writeR x).1] W fun e w' => e = .returned (.tuple #[x.v, .int .i64 0]) ∧ Below W.heap.size W w' := by
  have hb : rcB x = true := by
    cases h2 : rcB x with
    | true => rfl
    | false => rw [writeR_no h2] at h; cases h
  have hs := toldB_size (nat_64 (nat_rc hb))
  have hr := readR_told hb
  rw [writeR_yes hb]
  have := c_ReadRecount (toldB (rcL x)) W hl (by have e2 : (rcL x).length = 6 := rfl; rw [e2] at hs; omega)
  have e : (toldB (rcL x)).data.toList = toldV (rcL x) := rfl
  rw [e, hr] at this
  exact this
theorem forth_C (s : ByteArray) (h : (readC s.data.toList).2 = 0) (W : World) (hl : LibW W) :
    Calls Tryz.prog 6 #[(readC s.data.toList).1.v] W fun e w' => e = .returned (.tuple #[.string s, .int .i64 0]) ∧ Below W.heap.size W w' := by
  rcases readC_cases s.data.toList with h2 | ⟨c, hb, hs, hr⟩
  · rw [h2] at h; cases h
  · have := c_Write c W hl
    rw [writeC_yes hb, (toldB_is (ctL c) s).1 hs.symm] at this
    rw [hr]
    exact this
theorem forth_R (s : ByteArray) (h : (readR s.data.toList).2 = 0) (W : World) (hl : LibW W) :
    Calls Tryz.prog 10 #[(readR s.data.toList).1.v] W fun e w' => e = .returned (.tuple #[.string s, .int .i64 0]) ∧ Below W.heap.size W w' := by
  rcases readR_cases s.data.toList with h2 | ⟨x, hb, hs, hr⟩
  · rw [h2] at h; cases h
  · have := c_WriteRecount x W hl
    rw [writeR_yes hb, (toldB_is (rcL x) s).1 hs.symm] at this
    rw [hr]
    exact this

set_option maxRecDepth 100000 in
set_option maxHeartbeats 8000000 in
theorem walk_s (c0 c1 c2 c3 c4 x0 x1 x2 x3 x4 x5 : Int) (s : ByteArray) (ms : s.size ≤ maxLen) (t : ByteArray) (_mt : t.size ≤ maxLen) (w : World) (h : 200 < s.size) :
    Calls Tryz.prog 4 #[.agg #[.int .i64 c0, .int .i64 c1, .int .i64 c2, .int .i64 c3, .int .i64 c4], .agg #[.int .i64 x0, .int .i64 x1, .int .i64 x2, .int .i64 x3, .int .i64 x4, .int .i64 x5], .string s, .string t] w fun e w' => e = .returned (.bool true) ∧ Below w.heap.size w w' := by
  unfold maxLen at ms
  have h' : (200 : Int) < (s.size : Int) := by omega
  go_enter Tryz.func4, Tryz.ntmps4
  go_upto_region 1 with (fail)
  go_name_world W1 hW1
  have hbn : Below w.heap.size w W1 := by subst hW1; go_grown
  have hb0 := hbn
  clear hbn
  have q0n : W1.cell? ⟨w.heap.size, 0, none⟩ = some (.int .i64 c0) := by subst hW1; go_simp
  have q1n : W1.cell? ⟨w.heap.size, 1, none⟩ = some (.int .i64 c1) := by subst hW1; go_simp
  have q2n : W1.cell? ⟨w.heap.size, 2, none⟩ = some (.int .i64 c2) := by subst hW1; go_simp
  have q3n : W1.cell? ⟨w.heap.size, 3, none⟩ = some (.int .i64 c3) := by subst hW1; go_simp
  have q4n : W1.cell? ⟨w.heap.size, 4, none⟩ = some (.int .i64 c4) := by subst hW1; go_simp
  have p0n : W1.cell? ⟨w.heap.size + 1, 0, none⟩ = some (.int .i64 x0) := by subst hW1; go_simp
  have p1n : W1.cell? ⟨w.heap.size + 1, 1, none⟩ = some (.int .i64 x1) := by subst hW1; go_simp
  have p2n : W1.cell? ⟨w.heap.size + 1, 2, none⟩ = some (.int .i64 x2) := by subst hW1; go_simp
  have p3n : W1.cell? ⟨w.heap.size + 1, 3, none⟩ = some (.int .i64 x3) := by subst hW1; go_simp
  have p4n : W1.cell? ⟨w.heap.size + 1, 4, none⟩ = some (.int .i64 x4) := by subst hW1; go_simp
  have p5n : W1.cell? ⟨w.heap.size + 1, 5, none⟩ = some (.int .i64 x5) := by subst hW1; go_simp
  clear hW1 
  have q0 := q0n
  have q1 := q1n
  have q2 := q2n
  have q3 := q3n
  have q4 := q4n
  have p0 := p0n
  have p1 := p1n
  have p2 := p2n
  have p3 := p3n
  have p4 := p4n
  have p5 := p5n
  clear q0n q1n q2n q3n q4n p0n p1n p2n p3n p4n p5n 
  go_wp2_with fail
  refine (via (w0 := W1) (by go_grown) (c_counted _)).mono ?_
  rintro e W2 ⟨rfl, hc, hf, hz, hB⟩
  have q0n : W2.cell? ⟨w.heap.size, 0, none⟩ = some (.int .i64 c0) := (hc _ _ (cell_lt q0)).trans q0
  clear q0
  have q0 := q0n
  clear q0n
  have q1n : W2.cell? ⟨w.heap.size, 1, none⟩ = some (.int .i64 c1) := (hc _ _ (cell_lt q1)).trans q1
  clear q1
  have q1 := q1n
  clear q1n
  have q2n : W2.cell? ⟨w.heap.size, 2, none⟩ = some (.int .i64 c2) := (hc _ _ (cell_lt q2)).trans q2
  clear q2
  have q2 := q2n
  clear q2n
  have q3n : W2.cell? ⟨w.heap.size, 3, none⟩ = some (.int .i64 c3) := (hc _ _ (cell_lt q3)).trans q3
  clear q3
  have q3 := q3n
  clear q3n
  have q4n : W2.cell? ⟨w.heap.size, 4, none⟩ = some (.int .i64 c4) := (hc _ _ (cell_lt q4)).trans q4
  clear q4
  have q4 := q4n
  clear q4n
  have p0n : W2.cell? ⟨w.heap.size + 1, 0, none⟩ = some (.int .i64 x0) := (hc _ _ (cell_lt p0)).trans p0
  clear p0
  have p0 := p0n
  clear p0n
  have p1n : W2.cell? ⟨w.heap.size + 1, 1, none⟩ = some (.int .i64 x1) := (hc _ _ (cell_lt p1)).trans p1
  clear p1
  have p1 := p1n
  clear p1n
  have p2n : W2.cell? ⟨w.heap.size + 1, 2, none⟩ = some (.int .i64 x2) := (hc _ _ (cell_lt p2)).trans p2
  clear p2
  have p2 := p2n
  clear p2n
  have p3n : W2.cell? ⟨w.heap.size + 1, 3, none⟩ = some (.int .i64 x3) := (hc _ _ (cell_lt p3)).trans p3
  clear p3
  have p3 := p3n
  clear p3n
  have p4n : W2.cell? ⟨w.heap.size + 1, 4, none⟩ = some (.int .i64 x4) := (hc _ _ (cell_lt p4)).trans p4
  clear p4
  have p4 := p4n
  clear p4n
  have p5n : W2.cell? ⟨w.heap.size + 1, 5, none⟩ = some (.int .i64 x5) := (hc _ _ (cell_lt p5)).trans p5
  clear p5
  have p5 := p5n
  clear p5n
  have hbn : Below w.heap.size w W2 := bthen hb0 hB
  clear hb0
  have hb0 := hbn
  clear hbn
  have hzW2 : W1.heap.size ≤ W2.heap.size := hz
  clear hc hf hB hz
  go_wp2_with fail
  go_ret
  exact ⟨rfl, by have hbz := hb0.size; go_grown⟩

set_option maxRecDepth 100000 in
set_option maxHeartbeats 8000000 in
theorem walk_t (c0 c1 c2 c3 c4 x0 x1 x2 x3 x4 x5 : Int) (s : ByteArray) (ms : s.size ≤ maxLen) (t : ByteArray) (mt : t.size ≤ maxLen) (w : World) (h : ¬ 200 < s.size) (g : 200 < t.size) :
    Calls Tryz.prog 4 #[.agg #[.int .i64 c0, .int .i64 c1, .int .i64 c2, .int .i64 c3, .int .i64 c4], .agg #[.int .i64 x0, .int .i64 x1, .int .i64 x2, .int .i64 x3, .int .i64 x4, .int .i64 x5], .string s, .string t] w fun e w' => e = .returned (.bool true) ∧ Below w.heap.size w w' := by
  unfold maxLen at ms mt
  have h' : ¬ (200 : Int) < (s.size : Int) := by omega
  have g' : (200 : Int) < (t.size : Int) := by omega
  go_enter Tryz.func4, Tryz.ntmps4
  go_upto_region 1 with (fail)
  go_name_world W1 hW1
  have hbn : Below w.heap.size w W1 := by subst hW1; go_grown
  have hb0 := hbn
  clear hbn
  have q0n : W1.cell? ⟨w.heap.size, 0, none⟩ = some (.int .i64 c0) := by subst hW1; go_simp
  have q1n : W1.cell? ⟨w.heap.size, 1, none⟩ = some (.int .i64 c1) := by subst hW1; go_simp
  have q2n : W1.cell? ⟨w.heap.size, 2, none⟩ = some (.int .i64 c2) := by subst hW1; go_simp
  have q3n : W1.cell? ⟨w.heap.size, 3, none⟩ = some (.int .i64 c3) := by subst hW1; go_simp
  have q4n : W1.cell? ⟨w.heap.size, 4, none⟩ = some (.int .i64 c4) := by subst hW1; go_simp
  have p0n : W1.cell? ⟨w.heap.size + 1, 0, none⟩ = some (.int .i64 x0) := by subst hW1; go_simp
  have p1n : W1.cell? ⟨w.heap.size + 1, 1, none⟩ = some (.int .i64 x1) := by subst hW1; go_simp
  have p2n : W1.cell? ⟨w.heap.size + 1, 2, none⟩ = some (.int .i64 x2) := by subst hW1; go_simp
  have p3n : W1.cell? ⟨w.heap.size + 1, 3, none⟩ = some (.int .i64 x3) := by subst hW1; go_simp
  have p4n : W1.cell? ⟨w.heap.size + 1, 4, none⟩ = some (.int .i64 x4) := by subst hW1; go_simp
  have p5n : W1.cell? ⟨w.heap.size + 1, 5, none⟩ = some (.int .i64 x5) := by subst hW1; go_simp
  clear hW1 
  have q0 := q0n
  have q1 := q1n
  have q2 := q2n
  have q3 := q3n
  have q4 := q4n
  have p0 := p0n
  have p1 := p1n
  have p2 := p2n
  have p3 := p3n
  have p4 := p4n
  have p5 := p5n
  clear q0n q1n q2n q3n q4n p0n p1n p2n p3n p4n p5n 
  go_wp2_with fail
  refine (via (w0 := W1) (by go_grown) (c_counted _)).mono ?_
  rintro e W2 ⟨rfl, hc, hf, hz, hB⟩
  have q0n : W2.cell? ⟨w.heap.size, 0, none⟩ = some (.int .i64 c0) := (hc _ _ (cell_lt q0)).trans q0
  clear q0
  have q0 := q0n
  clear q0n
  have q1n : W2.cell? ⟨w.heap.size, 1, none⟩ = some (.int .i64 c1) := (hc _ _ (cell_lt q1)).trans q1
  clear q1
  have q1 := q1n
  clear q1n
  have q2n : W2.cell? ⟨w.heap.size, 2, none⟩ = some (.int .i64 c2) := (hc _ _ (cell_lt q2)).trans q2
  clear q2
  have q2 := q2n
  clear q2n
  have q3n : W2.cell? ⟨w.heap.size, 3, none⟩ = some (.int .i64 c3) := (hc _ _ (cell_lt q3)).trans q3
  clear q3
  have q3 := q3n
  clear q3n
  have q4n : W2.cell? ⟨w.heap.size, 4, none⟩ = some (.int .i64 c4) := (hc _ _ (cell_lt q4)).trans q4
  clear q4
  have q4 := q4n
  clear q4n
  have p0n : W2.cell? ⟨w.heap.size + 1, 0, none⟩ = some (.int .i64 x0) := (hc _ _ (cell_lt p0)).trans p0
  clear p0
  have p0 := p0n
  clear p0n
  have p1n : W2.cell? ⟨w.heap.size + 1, 1, none⟩ = some (.int .i64 x1) := (hc _ _ (cell_lt p1)).trans p1
  clear p1
  have p1 := p1n
  clear p1n
  have p2n : W2.cell? ⟨w.heap.size + 1, 2, none⟩ = some (.int .i64 x2) := (hc _ _ (cell_lt p2)).trans p2
  clear p2
  have p2 := p2n
  clear p2n
  have p3n : W2.cell? ⟨w.heap.size + 1, 3, none⟩ = some (.int .i64 x3) := (hc _ _ (cell_lt p3)).trans p3
  clear p3
  have p3 := p3n
  clear p3n
  have p4n : W2.cell? ⟨w.heap.size + 1, 4, none⟩ = some (.int .i64 x4) := (hc _ _ (cell_lt p4)).trans p4
  clear p4
  have p4 := p4n
  clear p4n
  have p5n : W2.cell? ⟨w.heap.size + 1, 5, none⟩ = some (.int .i64 x5) := (hc _ _ (cell_lt p5)).trans p5
  clear p5
  have p5 := p5n
  clear p5n
  have hbn : Below w.heap.size w W2 := bthen hb0 hB
  clear hb0
  have hb0 := hbn
  clear hbn
  have hzW2 : W1.heap.size ≤ W2.heap.size := hz
  clear hc hf hB hz
  go_wp2_with fail
  go_ret
  exact ⟨rfl, by have hbz := hb0.size; go_grown⟩

set_option maxRecDepth 100000 in
set_option maxHeartbeats 8000000 in
theorem walk_ok (c0 c1 c2 c3 c4 x0 x1 x2 x3 x4 x5 : Int) (s : ByteArray) (ms : s.size ≤ maxLen) (t : ByteArray) (mt : t.size ≤ maxLen) (w : World) (h : ¬ 200 < s.size) (g : ¬ 200 < t.size) (hL : LibW w) :
    Calls Tryz.prog 4 #[.agg #[.int .i64 c0, .int .i64 c1, .int .i64 c2, .int .i64 c3, .int .i64 c4], .agg #[.int .i64 x0, .int .i64 x1, .int .i64 x2, .int .i64 x3, .int .i64 x4, .int .i64 x5], .string s, .string t] w fun e w' => e = .returned (.bool true) ∧ Below w.heap.size w w' := by
  unfold maxLen at ms mt
  have h' : ¬ (200 : Int) < (s.size : Int) := by omega
  have g' : ¬ (200 : Int) < (t.size : Int) := by omega
  have hA := fun W (hl : LibW W) => c_Write ⟨c0, c1, c2, c3, c4⟩ W hl
  have hA2 := back_C ⟨c0, c1, c2, c3, c4⟩
  have hA3 := writeC_err ⟨c0, c1, c2, c3, c4⟩
  have hE := fun W (hl : LibW W) => c_WriteRecount ⟨x0, x1, x2, x3, x4, x5⟩ W hl
  have hE2 := back_R ⟨x0, x1, x2, x3, x4, x5⟩
  have hC := fun W (hl : LibW W) => c_Read s W hl (by omega)
  have hC2 := forth_C s
  have hG := fun W (hl : LibW W) => c_ReadRecount t W hl (by omega)
  have hG2 := forth_R t
  have hK := fun W => c_CheckCount c0 c1 c2 c3 c4 W
  have hK2 : countB c0 c1 c2 c3 c4 = ctB ⟨c0, c1, c2, c3, c4⟩ := rfl
  rw [hK2, ← hA3] at hK
  generalize writeC ⟨c0, c1, c2, c3, c4⟩ = wc at hA hA2 hK
  generalize writeR ⟨x0, x1, x2, x3, x4, x5⟩ = wx at hE hE2
  generalize readC s.data.toList = rc at hC hC2
  generalize readR t.data.toList = rx at hG hG2
  obtain ⟨wc1, wc2⟩ := wc
  obtain ⟨wx1, wx2⟩ := wx
  obtain ⟨⟨a0, a1, a2, a3, a4⟩, rc2⟩ := rc
  obtain ⟨⟨b0, b1, b2, b3, b4, b5⟩, rx2⟩ := rx
  have HA := Lib.hid hA
  have HA2 := Lib.hid hA2
  have HE := Lib.hid hE
  have HE2 := Lib.hid hE2
  have HC := Lib.hid hC
  have HC2 := Lib.hid hC2
  have HG := Lib.hid hG
  have HG2 := Lib.hid hG2
  have HK := Lib.hid hK
  have HW := Lib.hid hL
  clear hA hA2 hA3 hE hE2 hC hC2 hG hG2 hK hK2 hL h g
  go_enter Tryz.func4, Tryz.ntmps4
  go_upto_region 1 with (fail)
  go_name_world W1 hW1
  have hbn : Below w.heap.size w W1 := by subst hW1; go_grown
  have hb0 := hbn
  clear hbn
  have q0n : W1.cell? ⟨w.heap.size, 0, none⟩ = some (.int .i64 c0) := by subst hW1; go_simp
  have q1n : W1.cell? ⟨w.heap.size, 1, none⟩ = some (.int .i64 c1) := by subst hW1; go_simp
  have q2n : W1.cell? ⟨w.heap.size, 2, none⟩ = some (.int .i64 c2) := by subst hW1; go_simp
  have q3n : W1.cell? ⟨w.heap.size, 3, none⟩ = some (.int .i64 c3) := by subst hW1; go_simp
  have q4n : W1.cell? ⟨w.heap.size, 4, none⟩ = some (.int .i64 c4) := by subst hW1; go_simp
  have p0n : W1.cell? ⟨w.heap.size + 1, 0, none⟩ = some (.int .i64 x0) := by subst hW1; go_simp
  have p1n : W1.cell? ⟨w.heap.size + 1, 1, none⟩ = some (.int .i64 x1) := by subst hW1; go_simp
  have p2n : W1.cell? ⟨w.heap.size + 1, 2, none⟩ = some (.int .i64 x2) := by subst hW1; go_simp
  have p3n : W1.cell? ⟨w.heap.size + 1, 3, none⟩ = some (.int .i64 x3) := by subst hW1; go_simp
  have p4n : W1.cell? ⟨w.heap.size + 1, 4, none⟩ = some (.int .i64 x4) := by subst hW1; go_simp
  have p5n : W1.cell? ⟨w.heap.size + 1, 5, none⟩ = some (.int .i64 x5) := by subst hW1; go_simp
  clear hW1 
  have q0 := q0n
  have q1 := q1n
  have q2 := q2n
  have q3 := q3n
  have q4 := q4n
  have p0 := p0n
  have p1 := p1n
  have p2 := p2n
  have p3 := p3n
  have p4 := p4n
  have p5 := p5n
  clear q0n q1n q2n q3n q4n p0n p1n p2n p3n p4n p5n 
  go_wp2_with fail
  refine (via (w0 := W1) (by go_grown) (HA.out _ (HW.out.later hb0))).mono ?_
  rintro e W2 ⟨rfl, hc, hf, hz, hB⟩
  have q0n : W2.cell? ⟨w.heap.size, 0, none⟩ = some (.int .i64 c0) := (hc _ _ (cell_lt q0)).trans q0
  clear q0
  have q0 := q0n
  clear q0n
  have q1n : W2.cell? ⟨w.heap.size, 1, none⟩ = some (.int .i64 c1) := (hc _ _ (cell_lt q1)).trans q1
  clear q1
  have q1 := q1n
  clear q1n
  have q2n : W2.cell? ⟨w.heap.size, 2, none⟩ = some (.int .i64 c2) := (hc _ _ (cell_lt q2)).trans q2
  clear q2
  have q2 := q2n
  clear q2n
  have q3n : W2.cell? ⟨w.heap.size, 3, none⟩ = some (.int .i64 c3) := (hc _ _ (cell_lt q3)).trans q3
  clear q3
  have q3 := q3n
  clear q3n
  have q4n : W2.cell? ⟨w.heap.size, 4, none⟩ = some (.int .i64 c4) := (hc _ _ (cell_lt q4)).trans q4
  clear q4
  have q4 := q4n
  clear q4n
  have p0n : W2.cell? ⟨w.heap.size + 1, 0, none⟩ = some (.int .i64 x0) := (hc _ _ (cell_lt p0)).trans p0
  clear p0
  have p0 := p0n
  clear p0n
  have p1n : W2.cell? ⟨w.heap.size + 1, 1, none⟩ = some (.int .i64 x1) := (hc _ _ (cell_lt p1)).trans p1
  clear p1
  have p1 := p1n
  clear p1n
  have p2n : W2.cell? ⟨w.heap.size + 1, 2, none⟩ = some (.int .i64 x2) := (hc _ _ (cell_lt p2)).trans p2
  clear p2
  have p2 := p2n
  clear p2n
  have p3n : W2.cell? ⟨w.heap.size + 1, 3, none⟩ = some (.int .i64 x3) := (hc _ _ (cell_lt p3)).trans p3
  clear p3
  have p3 := p3n
  clear p3n
  have p4n : W2.cell? ⟨w.heap.size + 1, 4, none⟩ = some (.int .i64 x4) := (hc _ _ (cell_lt p4)).trans p4
  clear p4
  have p4 := p4n
  clear p4n
  have p5n : W2.cell? ⟨w.heap.size + 1, 5, none⟩ = some (.int .i64 x5) := (hc _ _ (cell_lt p5)).trans p5
  clear p5
  have p5 := p5n
  clear p5n
  have hbn : Below w.heap.size w W2 := bthen hb0 hB
  clear hb0
  have hb0 := hbn
  clear hbn
  have hzW2 : W1.heap.size ≤ W2.heap.size := hz
  clear hc hf hB hz
  go_upto_if 40 with (fail)
  go_cut [] (fun wx => Below W2.heap.size W2 wx)
  case first =>
    as_aux_lemma =>
    by_cases he : wc2 = 0
    · subst he
      have hs0 : Below W2.heap.size W2 W2 := Below.refl _ _
      go_wp2_with fail
      refine (via (w0 := W2) (by go_grown) (HA2.out (by first | rfl | trivial) _ (HW.out.later hb0))).mono ?_
      rintro e W101 ⟨rfl, hc, hf, hz, hB⟩
      have q0n : W101.cell? ⟨w.heap.size, 0, none⟩ = some (.int .i64 c0) := (hc _ _ (cell_lt q0)).trans q0
      clear q0
      have q0 := q0n
      clear q0n
      have q1n : W101.cell? ⟨w.heap.size, 1, none⟩ = some (.int .i64 c1) := (hc _ _ (cell_lt q1)).trans q1
      clear q1
      have q1 := q1n
      clear q1n
      have q2n : W101.cell? ⟨w.heap.size, 2, none⟩ = some (.int .i64 c2) := (hc _ _ (cell_lt q2)).trans q2
      clear q2
      have q2 := q2n
      clear q2n
      have q3n : W101.cell? ⟨w.heap.size, 3, none⟩ = some (.int .i64 c3) := (hc _ _ (cell_lt q3)).trans q3
      clear q3
      have q3 := q3n
      clear q3n
      have q4n : W101.cell? ⟨w.heap.size, 4, none⟩ = some (.int .i64 c4) := (hc _ _ (cell_lt q4)).trans q4
      clear q4
      have q4 := q4n
      clear q4n
      have p0n : W101.cell? ⟨w.heap.size + 1, 0, none⟩ = some (.int .i64 x0) := (hc _ _ (cell_lt p0)).trans p0
      clear p0
      have p0 := p0n
      clear p0n
      have p1n : W101.cell? ⟨w.heap.size + 1, 1, none⟩ = some (.int .i64 x1) := (hc _ _ (cell_lt p1)).trans p1
      clear p1
      have p1 := p1n
      clear p1n
      have p2n : W101.cell? ⟨w.heap.size + 1, 2, none⟩ = some (.int .i64 x2) := (hc _ _ (cell_lt p2)).trans p2
      clear p2
      have p2 := p2n
      clear p2n
      have p3n : W101.cell? ⟨w.heap.size + 1, 3, none⟩ = some (.int .i64 x3) := (hc _ _ (cell_lt p3)).trans p3
      clear p3
      have p3 := p3n
      clear p3n
      have p4n : W101.cell? ⟨w.heap.size + 1, 4, none⟩ = some (.int .i64 x4) := (hc _ _ (cell_lt p4)).trans p4
      clear p4
      have p4 := p4n
      clear p4n
      have p5n : W101.cell? ⟨w.heap.size + 1, 5, none⟩ = some (.int .i64 x5) := (hc _ _ (cell_lt p5)).trans p5
      clear p5
      have p5 := p5n
      clear p5n
      have hbn : Below w.heap.size w W101 := bthen hb0 hB
      clear hb0
      have hb0 := hbn
      clear hbn
      have hsn := bthen hs0 hB
      clear hs0
      have hs0 := hsn
      clear hsn
      have hzW101 : W2.heap.size ≤ W101.heap.size := hz
      clear hc hf hB hz
      go_upto_region 6 with (fail)
      go_name_world W102 hW102
      have hsn := bthen hs0 (show Below W101.heap.size W101 W102 from by subst hW102; go_grown)
      clear hs0
      have hs0 := hsn
      clear hsn
      have hbz := hb0.size
      have hbn : Below w.heap.size w W102 := by subst hW102; go_grown
      clear hb0 hbz
      have hb0 := hbn
      clear hbn
      have hbk : Below W101.heap.size W101 W102 := by subst hW102; go_grown
      have q0n : W102.cell? ⟨w.heap.size, 0, none⟩ = some (.int .i64 c0) := ((bcell hbk).1 _ _ (cell_lt q0)).trans q0
      have q1n : W102.cell? ⟨w.heap.size, 1, none⟩ = some (.int .i64 c1) := ((bcell hbk).1 _ _ (cell_lt q1)).trans q1
      have q2n : W102.cell? ⟨w.heap.size, 2, none⟩ = some (.int .i64 c2) := ((bcell hbk).1 _ _ (cell_lt q2)).trans q2
      have q3n : W102.cell? ⟨w.heap.size, 3, none⟩ = some (.int .i64 c3) := ((bcell hbk).1 _ _ (cell_lt q3)).trans q3
      have q4n : W102.cell? ⟨w.heap.size, 4, none⟩ = some (.int .i64 c4) := ((bcell hbk).1 _ _ (cell_lt q4)).trans q4
      have p0n : W102.cell? ⟨w.heap.size + 1, 0, none⟩ = some (.int .i64 x0) := ((bcell hbk).1 _ _ (cell_lt p0)).trans p0
      have p1n : W102.cell? ⟨w.heap.size + 1, 1, none⟩ = some (.int .i64 x1) := ((bcell hbk).1 _ _ (cell_lt p1)).trans p1
      have p2n : W102.cell? ⟨w.heap.size + 1, 2, none⟩ = some (.int .i64 x2) := ((bcell hbk).1 _ _ (cell_lt p2)).trans p2
      have p3n : W102.cell? ⟨w.heap.size + 1, 3, none⟩ = some (.int .i64 x3) := ((bcell hbk).1 _ _ (cell_lt p3)).trans p3
      have p4n : W102.cell? ⟨w.heap.size + 1, 4, none⟩ = some (.int .i64 x4) := ((bcell hbk).1 _ _ (cell_lt p4)).trans p4
      have p5n : W102.cell? ⟨w.heap.size + 1, 5, none⟩ = some (.int .i64 x5) := ((bcell hbk).1 _ _ (cell_lt p5)).trans p5
      clear hbk
      have u0n : W102.cell? ⟨W101.heap.size, 0, none⟩ = some (.int .i64 c0) := by subst hW102; go_simp
      have u1n : W102.cell? ⟨W101.heap.size, 1, none⟩ = some (.int .i64 c1) := by subst hW102; go_simp
      have u2n : W102.cell? ⟨W101.heap.size, 2, none⟩ = some (.int .i64 c2) := by subst hW102; go_simp
      have u3n : W102.cell? ⟨W101.heap.size, 3, none⟩ = some (.int .i64 c3) := by subst hW102; go_simp
      have u4n : W102.cell? ⟨W101.heap.size, 4, none⟩ = some (.int .i64 c4) := by subst hW102; go_simp
      clear hW102 q0 q1 q2 q3 q4 p0 p1 p2 p3 p4 p5
      have q0 := q0n
      have q1 := q1n
      have q2 := q2n
      have q3 := q3n
      have q4 := q4n
      have p0 := p0n
      have p1 := p1n
      have p2 := p2n
      have p3 := p3n
      have p4 := p4n
      have p5 := p5n
      have u0 := u0n
      have u1 := u1n
      have u2 := u2n
      have u3 := u3n
      have u4 := u4n
      clear q0n q1n q2n q3n q4n p0n p1n p2n p3n p4n p5n u0n u1n u2n u3n u4n 
      go_wp2
      go_meet
      exact hs0
    · have he2 : (wc2 == 0) = false := by simpa using he
      clear he
      go_wp2
      go_meet
      exact Below.refl _ _
  case rest =>
  obtain ⟨R3, rfl⟩ : ∃ x : World, x = wc := ⟨_, rfl⟩
  have hB := hcut
  clear hcut
  have hc := (bcell hB).1
  have hf := (bcell hB).2
  have hz := hB.size
  have q0n : R3.cell? ⟨w.heap.size, 0, none⟩ = some (.int .i64 c0) := (hc _ _ (cell_lt q0)).trans q0
  clear q0
  have q0 := q0n
  clear q0n
  have q1n : R3.cell? ⟨w.heap.size, 1, none⟩ = some (.int .i64 c1) := (hc _ _ (cell_lt q1)).trans q1
  clear q1
  have q1 := q1n
  clear q1n
  have q2n : R3.cell? ⟨w.heap.size, 2, none⟩ = some (.int .i64 c2) := (hc _ _ (cell_lt q2)).trans q2
  clear q2
  have q2 := q2n
  clear q2n
  have q3n : R3.cell? ⟨w.heap.size, 3, none⟩ = some (.int .i64 c3) := (hc _ _ (cell_lt q3)).trans q3
  clear q3
  have q3 := q3n
  clear q3n
  have q4n : R3.cell? ⟨w.heap.size, 4, none⟩ = some (.int .i64 c4) := (hc _ _ (cell_lt q4)).trans q4
  clear q4
  have q4 := q4n
  clear q4n
  have p0n : R3.cell? ⟨w.heap.size + 1, 0, none⟩ = some (.int .i64 x0) := (hc _ _ (cell_lt p0)).trans p0
  clear p0
  have p0 := p0n
  clear p0n
  have p1n : R3.cell? ⟨w.heap.size + 1, 1, none⟩ = some (.int .i64 x1) := (hc _ _ (cell_lt p1)).trans p1
  clear p1
  have p1 := p1n
  clear p1n
  have p2n : R3.cell? ⟨w.heap.size + 1, 2, none⟩ = some (.int .i64 x2) := (hc _ _ (cell_lt p2)).trans p2
  clear p2
  have p2 := p2n
  clear p2n
  have p3n : R3.cell? ⟨w.heap.size + 1, 3, none⟩ = some (.int .i64 x3) := (hc _ _ (cell_lt p3)).trans p3
  clear p3
  have p3 := p3n
  clear p3n
  have p4n : R3.cell? ⟨w.heap.size + 1, 4, none⟩ = some (.int .i64 x4) := (hc _ _ (cell_lt p4)).trans p4
  clear p4
  have p4 := p4n
  clear p4n
  have p5n : R3.cell? ⟨w.heap.size + 1, 5, none⟩ = some (.int .i64 x5) := (hc _ _ (cell_lt p5)).trans p5
  clear p5
  have p5 := p5n
  clear p5n
  have hbn : Below w.heap.size w R3 := bthen hb0 hB
  clear hb0
  have hb0 := hbn
  clear hbn
  have hzR3 : W2.heap.size ≤ R3.heap.size := hz
  clear hc hf hB hz
  go_wp2_with fail
  refine (via (w0 := R3) (by go_grown) (HE.out _ (HW.out.later hb0))).mono ?_
  rintro e W4 ⟨rfl, hc, hf, hz, hB⟩
  have q0n : W4.cell? ⟨w.heap.size, 0, none⟩ = some (.int .i64 c0) := (hc _ _ (cell_lt q0)).trans q0
  clear q0
  have q0 := q0n
  clear q0n
  have q1n : W4.cell? ⟨w.heap.size, 1, none⟩ = some (.int .i64 c1) := (hc _ _ (cell_lt q1)).trans q1
  clear q1
  have q1 := q1n
  clear q1n
  have q2n : W4.cell? ⟨w.heap.size, 2, none⟩ = some (.int .i64 c2) := (hc _ _ (cell_lt q2)).trans q2
  clear q2
  have q2 := q2n
  clear q2n
  have q3n : W4.cell? ⟨w.heap.size, 3, none⟩ = some (.int .i64 c3) := (hc _ _ (cell_lt q3)).trans q3
  clear q3
  have q3 := q3n
  clear q3n
  have q4n : W4.cell? ⟨w.heap.size, 4, none⟩ = some (.int .i64 c4) := (hc _ _ (cell_lt q4)).trans q4
  clear q4
  have q4 := q4n
  clear q4n
  have p0n : W4.cell? ⟨w.heap.size + 1, 0, none⟩ = some (.int .i64 x0) := (hc _ _ (cell_lt p0)).trans p0
  clear p0
  have p0 := p0n
  clear p0n
  have p1n : W4.cell? ⟨w.heap.size + 1, 1, none⟩ = some (.int .i64 x1) := (hc _ _ (cell_lt p1)).trans p1
  clear p1
  have p1 := p1n
  clear p1n
  have p2n : W4.cell? ⟨w.heap.size + 1, 2, none⟩ = some (.int .i64 x2) := (hc _ _ (cell_lt p2)).trans p2
  clear p2
  have p2 := p2n
  clear p2n
  have p3n : W4.cell? ⟨w.heap.size + 1, 3, none⟩ = some (.int .i64 x3) := (hc _ _ (cell_lt p3)).trans p3
  clear p3
  have p3 := p3n
  clear p3n
  have p4n : W4.cell? ⟨w.heap.size + 1, 4, none⟩ = some (.int .i64 x4) := (hc _ _ (cell_lt p4)).trans p4
  clear p4
  have p4 := p4n
  clear p4n
  have p5n : W4.cell? ⟨w.heap.size + 1, 5, none⟩ = some (.int .i64 x5) := (hc _ _ (cell_lt p5)).trans p5
  clear p5
  have p5 := p5n
  clear p5n
  have hbn : Below w.heap.size w W4 := bthen hb0 hB
  clear hb0
  have hb0 := hbn
  clear hbn
  have hzW4 : R3.heap.size ≤ W4.heap.size := hz
  clear hc hf hB hz
  go_upto_if 59 with (fail)
  go_cut [] (fun wx => Below W4.heap.size W4 wx)
  case first =>
    as_aux_lemma =>
    by_cases he : wx2 = 0
    · subst he
      have hs0 : Below W4.heap.size W4 W4 := Below.refl _ _
      go_wp2_with fail
      refine (via (w0 := W4) (by go_grown) (HE2.out (by first | rfl | trivial) _ (HW.out.later hb0))).mono ?_
      rintro e W101 ⟨rfl, hc, hf, hz, hB⟩
      have q0n : W101.cell? ⟨w.heap.size, 0, none⟩ = some (.int .i64 c0) := (hc _ _ (cell_lt q0)).trans q0
      clear q0
      have q0 := q0n
      clear q0n
      have q1n : W101.cell? ⟨w.heap.size, 1, none⟩ = some (.int .i64 c1) := (hc _ _ (cell_lt q1)).trans q1
      clear q1
      have q1 := q1n
      clear q1n
      have q2n : W101.cell? ⟨w.heap.size, 2, none⟩ = some (.int .i64 c2) := (hc _ _ (cell_lt q2)).trans q2
      clear q2
      have q2 := q2n
      clear q2n
      have q3n : W101.cell? ⟨w.heap.size, 3, none⟩ = some (.int .i64 c3) := (hc _ _ (cell_lt q3)).trans q3
      clear q3
      have q3 := q3n
      clear q3n
      have q4n : W101.cell? ⟨w.heap.size, 4, none⟩ = some (.int .i64 c4) := (hc _ _ (cell_lt q4)).trans q4
      clear q4
      have q4 := q4n
      clear q4n
      have p0n : W101.cell? ⟨w.heap.size + 1, 0, none⟩ = some (.int .i64 x0) := (hc _ _ (cell_lt p0)).trans p0
      clear p0
      have p0 := p0n
      clear p0n
      have p1n : W101.cell? ⟨w.heap.size + 1, 1, none⟩ = some (.int .i64 x1) := (hc _ _ (cell_lt p1)).trans p1
      clear p1
      have p1 := p1n
      clear p1n
      have p2n : W101.cell? ⟨w.heap.size + 1, 2, none⟩ = some (.int .i64 x2) := (hc _ _ (cell_lt p2)).trans p2
      clear p2
      have p2 := p2n
      clear p2n
      have p3n : W101.cell? ⟨w.heap.size + 1, 3, none⟩ = some (.int .i64 x3) := (hc _ _ (cell_lt p3)).trans p3
      clear p3
      have p3 := p3n
      clear p3n
      have p4n : W101.cell? ⟨w.heap.size + 1, 4, none⟩ = some (.int .i64 x4) := (hc _ _ (cell_lt p4)).trans p4
      clear p4
      have p4 := p4n
      clear p4n
      have p5n : W101.cell? ⟨w.heap.size + 1, 5, none⟩ = some (.int .i64 x5) := (hc _ _ (cell_lt p5)).trans p5
      clear p5
      have p5 := p5n
      clear p5n
      have hbn : Below w.heap.size w W101 := bthen hb0 hB
      clear hb0
      have hb0 := hbn
      clear hbn
      have hsn := bthen hs0 hB
      clear hs0
      have hs0 := hsn
      clear hsn
      have hzW101 : W4.heap.size ≤ W101.heap.size := hz
      clear hc hf hB hz
      go_upto_region 11 with (fail)
      go_name_world W102 hW102
      have hsn := bthen hs0 (show Below W101.heap.size W101 W102 from by subst hW102; go_grown)
      clear hs0
      have hs0 := hsn
      clear hsn
      have hbz := hb0.size
      have hbn : Below w.heap.size w W102 := by subst hW102; go_grown
      clear hb0 hbz
      have hb0 := hbn
      clear hbn
      have hbk : Below W101.heap.size W101 W102 := by subst hW102; go_grown
      have q0n : W102.cell? ⟨w.heap.size, 0, none⟩ = some (.int .i64 c0) := ((bcell hbk).1 _ _ (cell_lt q0)).trans q0
      have q1n : W102.cell? ⟨w.heap.size, 1, none⟩ = some (.int .i64 c1) := ((bcell hbk).1 _ _ (cell_lt q1)).trans q1
      have q2n : W102.cell? ⟨w.heap.size, 2, none⟩ = some (.int .i64 c2) := ((bcell hbk).1 _ _ (cell_lt q2)).trans q2
      have q3n : W102.cell? ⟨w.heap.size, 3, none⟩ = some (.int .i64 c3) := ((bcell hbk).1 _ _ (cell_lt q3)).trans q3
      have q4n : W102.cell? ⟨w.heap.size, 4, none⟩ = some (.int .i64 c4) := ((bcell hbk).1 _ _ (cell_lt q4)).trans q4
      have p0n : W102.cell? ⟨w.heap.size + 1, 0, none⟩ = some (.int .i64 x0) := ((bcell hbk).1 _ _ (cell_lt p0)).trans p0
      have p1n : W102.cell? ⟨w.heap.size + 1, 1, none⟩ = some (.int .i64 x1) := ((bcell hbk).1 _ _ (cell_lt p1)).trans p1
      have p2n : W102.cell? ⟨w.heap.size + 1, 2, none⟩ = some (.int .i64 x2) := ((bcell hbk).1 _ _ (cell_lt p2)).trans p2
      have p3n : W102.cell? ⟨w.heap.size + 1, 3, none⟩ = some (.int .i64 x3) := ((bcell hbk).1 _ _ (cell_lt p3)).trans p3
      have p4n : W102.cell? ⟨w.heap.size + 1, 4, none⟩ = some (.int .i64 x4) := ((bcell hbk).1 _ _ (cell_lt p4)).trans p4
      have p5n : W102.cell? ⟨w.heap.size + 1, 5, none⟩ = some (.int .i64 x5) := ((bcell hbk).1 _ _ (cell_lt p5)).trans p5
      clear hbk
      have u0n : W102.cell? ⟨W101.heap.size, 0, none⟩ = some (.int .i64 x0) := by subst hW102; go_simp
      have u1n : W102.cell? ⟨W101.heap.size, 1, none⟩ = some (.int .i64 x1) := by subst hW102; go_simp
      have u2n : W102.cell? ⟨W101.heap.size, 2, none⟩ = some (.int .i64 x2) := by subst hW102; go_simp
      have u3n : W102.cell? ⟨W101.heap.size, 3, none⟩ = some (.int .i64 x3) := by subst hW102; go_simp
      have u4n : W102.cell? ⟨W101.heap.size, 4, none⟩ = some (.int .i64 x4) := by subst hW102; go_simp
      have u5n : W102.cell? ⟨W101.heap.size, 5, none⟩ = some (.int .i64 x5) := by subst hW102; go_simp
      clear hW102 q0 q1 q2 q3 q4 p0 p1 p2 p3 p4 p5
      have q0 := q0n
      have q1 := q1n
      have q2 := q2n
      have q3 := q3n
      have q4 := q4n
      have p0 := p0n
      have p1 := p1n
      have p2 := p2n
      have p3 := p3n
      have p4 := p4n
      have p5 := p5n
      have u0 := u0n
      have u1 := u1n
      have u2 := u2n
      have u3 := u3n
      have u4 := u4n
      have u5 := u5n
      clear q0n q1n q2n q3n q4n p0n p1n p2n p3n p4n p5n u0n u1n u2n u3n u4n u5n 
      go_wp2
      go_meet
      exact hs0
    · have he2 : (wx2 == 0) = false := by simpa using he
      clear he
      go_wp2
      go_meet
      exact Below.refl _ _
  case rest =>
  obtain ⟨R5, rfl⟩ : ∃ x : World, x = wc := ⟨_, rfl⟩
  have hB := hcut
  clear hcut
  have hc := (bcell hB).1
  have hf := (bcell hB).2
  have hz := hB.size
  have q0n : R5.cell? ⟨w.heap.size, 0, none⟩ = some (.int .i64 c0) := (hc _ _ (cell_lt q0)).trans q0
  clear q0
  have q0 := q0n
  clear q0n
  have q1n : R5.cell? ⟨w.heap.size, 1, none⟩ = some (.int .i64 c1) := (hc _ _ (cell_lt q1)).trans q1
  clear q1
  have q1 := q1n
  clear q1n
  have q2n : R5.cell? ⟨w.heap.size, 2, none⟩ = some (.int .i64 c2) := (hc _ _ (cell_lt q2)).trans q2
  clear q2
  have q2 := q2n
  clear q2n
  have q3n : R5.cell? ⟨w.heap.size, 3, none⟩ = some (.int .i64 c3) := (hc _ _ (cell_lt q3)).trans q3
  clear q3
  have q3 := q3n
  clear q3n
  have q4n : R5.cell? ⟨w.heap.size, 4, none⟩ = some (.int .i64 c4) := (hc _ _ (cell_lt q4)).trans q4
  clear q4
  have q4 := q4n
  clear q4n
  have p0n : R5.cell? ⟨w.heap.size + 1, 0, none⟩ = some (.int .i64 x0) := (hc _ _ (cell_lt p0)).trans p0
  clear p0
  have p0 := p0n
  clear p0n
  have p1n : R5.cell? ⟨w.heap.size + 1, 1, none⟩ = some (.int .i64 x1) := (hc _ _ (cell_lt p1)).trans p1
  clear p1
  have p1 := p1n
  clear p1n
  have p2n : R5.cell? ⟨w.heap.size + 1, 2, none⟩ = some (.int .i64 x2) := (hc _ _ (cell_lt p2)).trans p2
  clear p2
  have p2 := p2n
  clear p2n
  have p3n : R5.cell? ⟨w.heap.size + 1, 3, none⟩ = some (.int .i64 x3) := (hc _ _ (cell_lt p3)).trans p3
  clear p3
  have p3 := p3n
  clear p3n
  have p4n : R5.cell? ⟨w.heap.size + 1, 4, none⟩ = some (.int .i64 x4) := (hc _ _ (cell_lt p4)).trans p4
  clear p4
  have p4 := p4n
  clear p4n
  have p5n : R5.cell? ⟨w.heap.size + 1, 5, none⟩ = some (.int .i64 x5) := (hc _ _ (cell_lt p5)).trans p5
  clear p5
  have p5 := p5n
  clear p5n
  have hbn : Below w.heap.size w R5 := bthen hb0 hB
  clear hb0
  have hb0 := hbn
  clear hbn
  have hzR5 : W4.heap.size ≤ R5.heap.size := hz
  clear hc hf hB hz
  go_wp2_with fail
  refine (via (w0 := R5) (by go_grown) (HC.out _ (HW.out.later hb0))).mono ?_
  rintro e W6 ⟨rfl, hc, hf, hz, hB⟩
  have q0n : W6.cell? ⟨w.heap.size, 0, none⟩ = some (.int .i64 c0) := (hc _ _ (cell_lt q0)).trans q0
  clear q0
  have q0 := q0n
  clear q0n
  have q1n : W6.cell? ⟨w.heap.size, 1, none⟩ = some (.int .i64 c1) := (hc _ _ (cell_lt q1)).trans q1
  clear q1
  have q1 := q1n
  clear q1n
  have q2n : W6.cell? ⟨w.heap.size, 2, none⟩ = some (.int .i64 c2) := (hc _ _ (cell_lt q2)).trans q2
  clear q2
  have q2 := q2n
  clear q2n
  have q3n : W6.cell? ⟨w.heap.size, 3, none⟩ = some (.int .i64 c3) := (hc _ _ (cell_lt q3)).trans q3
  clear q3
  have q3 := q3n
  clear q3n
  have q4n : W6.cell? ⟨w.heap.size, 4, none⟩ = some (.int .i64 c4) := (hc _ _ (cell_lt q4)).trans q4
  clear q4
  have q4 := q4n
  clear q4n
  have p0n : W6.cell? ⟨w.heap.size + 1, 0, none⟩ = some (.int .i64 x0) := (hc _ _ (cell_lt p0)).trans p0
  clear p0
  have p0 := p0n
  clear p0n
  have p1n : W6.cell? ⟨w.heap.size + 1, 1, none⟩ = some (.int .i64 x1) := (hc _ _ (cell_lt p1)).trans p1
  clear p1
  have p1 := p1n
  clear p1n
  have p2n : W6.cell? ⟨w.heap.size + 1, 2, none⟩ = some (.int .i64 x2) := (hc _ _ (cell_lt p2)).trans p2
  clear p2
  have p2 := p2n
  clear p2n
  have p3n : W6.cell? ⟨w.heap.size + 1, 3, none⟩ = some (.int .i64 x3) := (hc _ _ (cell_lt p3)).trans p3
  clear p3
  have p3 := p3n
  clear p3n
  have p4n : W6.cell? ⟨w.heap.size + 1, 4, none⟩ = some (.int .i64 x4) := (hc _ _ (cell_lt p4)).trans p4
  clear p4
  have p4 := p4n
  clear p4n
  have p5n : W6.cell? ⟨w.heap.size + 1, 5, none⟩ = some (.int .i64 x5) := (hc _ _ (cell_lt p5)).trans p5
  clear p5
  have p5 := p5n
  clear p5n
  have hbn : Below w.heap.size w W6 := bthen hb0 hB
  clear hb0
  have hb0 := hbn
  clear hbn
  have hzW6 : R5.heap.size ≤ W6.heap.size := hz
  clear hc hf hB hz
  go_upto_region 14 with (fail)
  go_name_world W7 hW7
  have hbz := hb0.size
  have hbn : Below w.heap.size w W7 := by subst hW7; go_grown
  clear hb0 hbz
  have hb0 := hbn
  clear hbn
  have hbk : Below W6.heap.size W6 W7 := by subst hW7; go_grown
  have q0n : W7.cell? ⟨w.heap.size, 0, none⟩ = some (.int .i64 c0) := ((bcell hbk).1 _ _ (cell_lt q0)).trans q0
  have q1n : W7.cell? ⟨w.heap.size, 1, none⟩ = some (.int .i64 c1) := ((bcell hbk).1 _ _ (cell_lt q1)).trans q1
  have q2n : W7.cell? ⟨w.heap.size, 2, none⟩ = some (.int .i64 c2) := ((bcell hbk).1 _ _ (cell_lt q2)).trans q2
  have q3n : W7.cell? ⟨w.heap.size, 3, none⟩ = some (.int .i64 c3) := ((bcell hbk).1 _ _ (cell_lt q3)).trans q3
  have q4n : W7.cell? ⟨w.heap.size, 4, none⟩ = some (.int .i64 c4) := ((bcell hbk).1 _ _ (cell_lt q4)).trans q4
  have p0n : W7.cell? ⟨w.heap.size + 1, 0, none⟩ = some (.int .i64 x0) := ((bcell hbk).1 _ _ (cell_lt p0)).trans p0
  have p1n : W7.cell? ⟨w.heap.size + 1, 1, none⟩ = some (.int .i64 x1) := ((bcell hbk).1 _ _ (cell_lt p1)).trans p1
  have p2n : W7.cell? ⟨w.heap.size + 1, 2, none⟩ = some (.int .i64 x2) := ((bcell hbk).1 _ _ (cell_lt p2)).trans p2
  have p3n : W7.cell? ⟨w.heap.size + 1, 3, none⟩ = some (.int .i64 x3) := ((bcell hbk).1 _ _ (cell_lt p3)).trans p3
  have p4n : W7.cell? ⟨w.heap.size + 1, 4, none⟩ = some (.int .i64 x4) := ((bcell hbk).1 _ _ (cell_lt p4)).trans p4
  have p5n : W7.cell? ⟨w.heap.size + 1, 5, none⟩ = some (.int .i64 x5) := ((bcell hbk).1 _ _ (cell_lt p5)).trans p5
  clear hbk
  have y0n : W7.cell? ⟨W6.heap.size, 0, none⟩ = some (.int .i64 a0) := by subst hW7; go_simp
  have y1n : W7.cell? ⟨W6.heap.size, 1, none⟩ = some (.int .i64 a1) := by subst hW7; go_simp
  have y2n : W7.cell? ⟨W6.heap.size, 2, none⟩ = some (.int .i64 a2) := by subst hW7; go_simp
  have y3n : W7.cell? ⟨W6.heap.size, 3, none⟩ = some (.int .i64 a3) := by subst hW7; go_simp
  have y4n : W7.cell? ⟨W6.heap.size, 4, none⟩ = some (.int .i64 a4) := by subst hW7; go_simp
  clear hW7 q0 q1 q2 q3 q4 p0 p1 p2 p3 p4 p5
  have q0 := q0n
  have q1 := q1n
  have q2 := q2n
  have q3 := q3n
  have q4 := q4n
  have p0 := p0n
  have p1 := p1n
  have p2 := p2n
  have p3 := p3n
  have p4 := p4n
  have p5 := p5n
  have y0 := y0n
  have y1 := y1n
  have y2 := y2n
  have y3 := y3n
  have y4 := y4n
  clear q0n q1n q2n q3n q4n p0n p1n p2n p3n p4n p5n y0n y1n y2n y3n y4n 
  go_wp2_with fail
  refine (via (w0 := W7) (by go_grown) (HG.out _ (HW.out.later hb0))).mono ?_
  rintro e W8 ⟨rfl, hc, hf, hz, hB⟩
  have q0n : W8.cell? ⟨w.heap.size, 0, none⟩ = some (.int .i64 c0) := (hc _ _ (cell_lt q0)).trans q0
  clear q0
  have q0 := q0n
  clear q0n
  have q1n : W8.cell? ⟨w.heap.size, 1, none⟩ = some (.int .i64 c1) := (hc _ _ (cell_lt q1)).trans q1
  clear q1
  have q1 := q1n
  clear q1n
  have q2n : W8.cell? ⟨w.heap.size, 2, none⟩ = some (.int .i64 c2) := (hc _ _ (cell_lt q2)).trans q2
  clear q2
  have q2 := q2n
  clear q2n
  have q3n : W8.cell? ⟨w.heap.size, 3, none⟩ = some (.int .i64 c3) := (hc _ _ (cell_lt q3)).trans q3
  clear q3
  have q3 := q3n
  clear q3n
  have q4n : W8.cell? ⟨w.heap.size, 4, none⟩ = some (.int .i64 c4) := (hc _ _ (cell_lt q4)).trans q4
  clear q4
  have q4 := q4n
  clear q4n
  have p0n : W8.cell? ⟨w.heap.size + 1, 0, none⟩ = some (.int .i64 x0) := (hc _ _ (cell_lt p0)).trans p0
  clear p0
  have p0 := p0n
  clear p0n
  have p1n : W8.cell? ⟨w.heap.size + 1, 1, none⟩ = some (.int .i64 x1) := (hc _ _ (cell_lt p1)).trans p1
  clear p1
  have p1 := p1n
  clear p1n
  have p2n : W8.cell? ⟨w.heap.size + 1, 2, none⟩ = some (.int .i64 x2) := (hc _ _ (cell_lt p2)).trans p2
  clear p2
  have p2 := p2n
  clear p2n
  have p3n : W8.cell? ⟨w.heap.size + 1, 3, none⟩ = some (.int .i64 x3) := (hc _ _ (cell_lt p3)).trans p3
  clear p3
  have p3 := p3n
  clear p3n
  have p4n : W8.cell? ⟨w.heap.size + 1, 4, none⟩ = some (.int .i64 x4) := (hc _ _ (cell_lt p4)).trans p4
  clear p4
  have p4 := p4n
  clear p4n
  have p5n : W8.cell? ⟨w.heap.size + 1, 5, none⟩ = some (.int .i64 x5) := (hc _ _ (cell_lt p5)).trans p5
  clear p5
  have p5 := p5n
  clear p5n
  have y0n : W8.cell? ⟨W6.heap.size, 0, none⟩ = some (.int .i64 a0) := (hc _ _ (cell_lt y0)).trans y0
  clear y0
  have y0 := y0n
  clear y0n
  have y1n : W8.cell? ⟨W6.heap.size, 1, none⟩ = some (.int .i64 a1) := (hc _ _ (cell_lt y1)).trans y1
  clear y1
  have y1 := y1n
  clear y1n
  have y2n : W8.cell? ⟨W6.heap.size, 2, none⟩ = some (.int .i64 a2) := (hc _ _ (cell_lt y2)).trans y2
  clear y2
  have y2 := y2n
  clear y2n
  have y3n : W8.cell? ⟨W6.heap.size, 3, none⟩ = some (.int .i64 a3) := (hc _ _ (cell_lt y3)).trans y3
  clear y3
  have y3 := y3n
  clear y3n
  have y4n : W8.cell? ⟨W6.heap.size, 4, none⟩ = some (.int .i64 a4) := (hc _ _ (cell_lt y4)).trans y4
  clear y4
  have y4 := y4n
  clear y4n
  have hbn : Below w.heap.size w W8 := bthen hb0 hB
  clear hb0
  have hb0 := hbn
  clear hbn
  have hzW8 : W7.heap.size ≤ W8.heap.size := hz
  clear hc hf hB hz
  go_upto_region 15 with (fail)
  go_name_world W9 hW9
  have hbz := hb0.size
  have hbn : Below w.heap.size w W9 := by subst hW9; go_grown
  clear hb0 hbz
  have hb0 := hbn
  clear hbn
  have hbk : Below W8.heap.size W8 W9 := by subst hW9; go_grown
  have q0n : W9.cell? ⟨w.heap.size, 0, none⟩ = some (.int .i64 c0) := ((bcell hbk).1 _ _ (cell_lt q0)).trans q0
  have q1n : W9.cell? ⟨w.heap.size, 1, none⟩ = some (.int .i64 c1) := ((bcell hbk).1 _ _ (cell_lt q1)).trans q1
  have q2n : W9.cell? ⟨w.heap.size, 2, none⟩ = some (.int .i64 c2) := ((bcell hbk).1 _ _ (cell_lt q2)).trans q2
  have q3n : W9.cell? ⟨w.heap.size, 3, none⟩ = some (.int .i64 c3) := ((bcell hbk).1 _ _ (cell_lt q3)).trans q3
  have q4n : W9.cell? ⟨w.heap.size, 4, none⟩ = some (.int .i64 c4) := ((bcell hbk).1 _ _ (cell_lt q4)).trans q4
  have p0n : W9.cell? ⟨w.heap.size + 1, 0, none⟩ = some (.int .i64 x0) := ((bcell hbk).1 _ _ (cell_lt p0)).trans p0
  have p1n : W9.cell? ⟨w.heap.size + 1, 1, none⟩ = some (.int .i64 x1) := ((bcell hbk).1 _ _ (cell_lt p1)).trans p1
  have p2n : W9.cell? ⟨w.heap.size + 1, 2, none⟩ = some (.int .i64 x2) := ((bcell hbk).1 _ _ (cell_lt p2)).trans p2
  have p3n : W9.cell? ⟨w.heap.size + 1, 3, none⟩ = some (.int .i64 x3) := ((bcell hbk).1 _ _ (cell_lt p3)).trans p3
  have p4n : W9.cell? ⟨w.heap.size + 1, 4, none⟩ = some (.int .i64 x4) := ((bcell hbk).1 _ _ (cell_lt p4)).trans p4
  have p5n : W9.cell? ⟨w.heap.size + 1, 5, none⟩ = some (.int .i64 x5) := ((bcell hbk).1 _ _ (cell_lt p5)).trans p5
  have y0n : W9.cell? ⟨W6.heap.size, 0, none⟩ = some (.int .i64 a0) := ((bcell hbk).1 _ _ (cell_lt y0)).trans y0
  have y1n : W9.cell? ⟨W6.heap.size, 1, none⟩ = some (.int .i64 a1) := ((bcell hbk).1 _ _ (cell_lt y1)).trans y1
  have y2n : W9.cell? ⟨W6.heap.size, 2, none⟩ = some (.int .i64 a2) := ((bcell hbk).1 _ _ (cell_lt y2)).trans y2
  have y3n : W9.cell? ⟨W6.heap.size, 3, none⟩ = some (.int .i64 a3) := ((bcell hbk).1 _ _ (cell_lt y3)).trans y3
  have y4n : W9.cell? ⟨W6.heap.size, 4, none⟩ = some (.int .i64 a4) := ((bcell hbk).1 _ _ (cell_lt y4)).trans y4
  clear hbk
  have z0n : W9.cell? ⟨W8.heap.size, 0, none⟩ = some (.int .i64 b0) := by subst hW9; go_simp
  have z1n : W9.cell? ⟨W8.heap.size, 1, none⟩ = some (.int .i64 b1) := by subst hW9; go_simp
  have z2n : W9.cell? ⟨W8.heap.size, 2, none⟩ = some (.int .i64 b2) := by subst hW9; go_simp
  have z3n : W9.cell? ⟨W8.heap.size, 3, none⟩ = some (.int .i64 b3) := by subst hW9; go_simp
  have z4n : W9.cell? ⟨W8.heap.size, 4, none⟩ = some (.int .i64 b4) := by subst hW9; go_simp
  have z5n : W9.cell? ⟨W8.heap.size, 5, none⟩ = some (.int .i64 b5) := by subst hW9; go_simp
  clear hW9 q0 q1 q2 q3 q4 p0 p1 p2 p3 p4 p5 y0 y1 y2 y3 y4
  have q0 := q0n
  have q1 := q1n
  have q2 := q2n
  have q3 := q3n
  have q4 := q4n
  have p0 := p0n
  have p1 := p1n
  have p2 := p2n
  have p3 := p3n
  have p4 := p4n
  have p5 := p5n
  have y0 := y0n
  have y1 := y1n
  have y2 := y2n
  have y3 := y3n
  have y4 := y4n
  have z0 := z0n
  have z1 := z1n
  have z2 := z2n
  have z3 := z3n
  have z4 := z4n
  have z5 := z5n
  clear q0n q1n q2n q3n q4n p0n p1n p2n p3n p4n p5n y0n y1n y2n y3n y4n z0n z1n z2n z3n z4n z5n 
  go_upto_if 83 with (fail)
  go_cut [] (fun wx => Below W9.heap.size W9 wx)
  case first =>
    as_aux_lemma =>
    by_cases he : rc2 = 0
    · subst he
      have hs0 : Below W9.heap.size W9 W9 := Below.refl _ _
      go_wp2_with fail
      refine (via (w0 := W9) (by go_grown) (HC2.out (by first | rfl | trivial) _ (HW.out.later hb0))).mono ?_
      rintro e W101 ⟨rfl, hc, hf, hz, hB⟩
      have q0n : W101.cell? ⟨w.heap.size, 0, none⟩ = some (.int .i64 c0) := (hc _ _ (cell_lt q0)).trans q0
      clear q0
      have q0 := q0n
      clear q0n
      have q1n : W101.cell? ⟨w.heap.size, 1, none⟩ = some (.int .i64 c1) := (hc _ _ (cell_lt q1)).trans q1
      clear q1
      have q1 := q1n
      clear q1n
      have q2n : W101.cell? ⟨w.heap.size, 2, none⟩ = some (.int .i64 c2) := (hc _ _ (cell_lt q2)).trans q2
      clear q2
      have q2 := q2n
      clear q2n
      have q3n : W101.cell? ⟨w.heap.size, 3, none⟩ = some (.int .i64 c3) := (hc _ _ (cell_lt q3)).trans q3
      clear q3
      have q3 := q3n
      clear q3n
      have q4n : W101.cell? ⟨w.heap.size, 4, none⟩ = some (.int .i64 c4) := (hc _ _ (cell_lt q4)).trans q4
      clear q4
      have q4 := q4n
      clear q4n
      have p0n : W101.cell? ⟨w.heap.size + 1, 0, none⟩ = some (.int .i64 x0) := (hc _ _ (cell_lt p0)).trans p0
      clear p0
      have p0 := p0n
      clear p0n
      have p1n : W101.cell? ⟨w.heap.size + 1, 1, none⟩ = some (.int .i64 x1) := (hc _ _ (cell_lt p1)).trans p1
      clear p1
      have p1 := p1n
      clear p1n
      have p2n : W101.cell? ⟨w.heap.size + 1, 2, none⟩ = some (.int .i64 x2) := (hc _ _ (cell_lt p2)).trans p2
      clear p2
      have p2 := p2n
      clear p2n
      have p3n : W101.cell? ⟨w.heap.size + 1, 3, none⟩ = some (.int .i64 x3) := (hc _ _ (cell_lt p3)).trans p3
      clear p3
      have p3 := p3n
      clear p3n
      have p4n : W101.cell? ⟨w.heap.size + 1, 4, none⟩ = some (.int .i64 x4) := (hc _ _ (cell_lt p4)).trans p4
      clear p4
      have p4 := p4n
      clear p4n
      have p5n : W101.cell? ⟨w.heap.size + 1, 5, none⟩ = some (.int .i64 x5) := (hc _ _ (cell_lt p5)).trans p5
      clear p5
      have p5 := p5n
      clear p5n
      have y0n : W101.cell? ⟨W6.heap.size, 0, none⟩ = some (.int .i64 a0) := (hc _ _ (cell_lt y0)).trans y0
      clear y0
      have y0 := y0n
      clear y0n
      have y1n : W101.cell? ⟨W6.heap.size, 1, none⟩ = some (.int .i64 a1) := (hc _ _ (cell_lt y1)).trans y1
      clear y1
      have y1 := y1n
      clear y1n
      have y2n : W101.cell? ⟨W6.heap.size, 2, none⟩ = some (.int .i64 a2) := (hc _ _ (cell_lt y2)).trans y2
      clear y2
      have y2 := y2n
      clear y2n
      have y3n : W101.cell? ⟨W6.heap.size, 3, none⟩ = some (.int .i64 a3) := (hc _ _ (cell_lt y3)).trans y3
      clear y3
      have y3 := y3n
      clear y3n
      have y4n : W101.cell? ⟨W6.heap.size, 4, none⟩ = some (.int .i64 a4) := (hc _ _ (cell_lt y4)).trans y4
      clear y4
      have y4 := y4n
      clear y4n
      have z0n : W101.cell? ⟨W8.heap.size, 0, none⟩ = some (.int .i64 b0) := (hc _ _ (cell_lt z0)).trans z0
      clear z0
      have z0 := z0n
      clear z0n
      have z1n : W101.cell? ⟨W8.heap.size, 1, none⟩ = some (.int .i64 b1) := (hc _ _ (cell_lt z1)).trans z1
      clear z1
      have z1 := z1n
      clear z1n
      have z2n : W101.cell? ⟨W8.heap.size, 2, none⟩ = some (.int .i64 b2) := (hc _ _ (cell_lt z2)).trans z2
      clear z2
      have z2 := z2n
      clear z2n
      have z3n : W101.cell? ⟨W8.heap.size, 3, none⟩ = some (.int .i64 b3) := (hc _ _ (cell_lt z3)).trans z3
      clear z3
      have z3 := z3n
      clear z3n
      have z4n : W101.cell? ⟨W8.heap.size, 4, none⟩ = some (.int .i64 b4) := (hc _ _ (cell_lt z4)).trans z4
      clear z4
      have z4 := z4n
      clear z4n
      have z5n : W101.cell? ⟨W8.heap.size, 5, none⟩ = some (.int .i64 b5) := (hc _ _ (cell_lt z5)).trans z5
      clear z5
      have z5 := z5n
      clear z5n
      have hbn : Below w.heap.size w W101 := bthen hb0 hB
      clear hb0
      have hb0 := hbn
      clear hbn
      have hsn := bthen hs0 hB
      clear hs0
      have hs0 := hsn
      clear hsn
      have hzW101 : W9.heap.size ≤ W101.heap.size := hz
      clear hc hf hB hz
      go_wp2
      go_meet
      exact hs0
    · have he2 : (rc2 == 0) = false := by simpa using he
      clear he
      go_wp2
      go_meet
      exact Below.refl _ _
  case rest =>
  obtain ⟨R10, rfl⟩ : ∃ x : World, x = wc := ⟨_, rfl⟩
  have hB := hcut
  clear hcut
  have hc := (bcell hB).1
  have hf := (bcell hB).2
  have hz := hB.size
  have q0n : R10.cell? ⟨w.heap.size, 0, none⟩ = some (.int .i64 c0) := (hc _ _ (cell_lt q0)).trans q0
  clear q0
  have q0 := q0n
  clear q0n
  have q1n : R10.cell? ⟨w.heap.size, 1, none⟩ = some (.int .i64 c1) := (hc _ _ (cell_lt q1)).trans q1
  clear q1
  have q1 := q1n
  clear q1n
  have q2n : R10.cell? ⟨w.heap.size, 2, none⟩ = some (.int .i64 c2) := (hc _ _ (cell_lt q2)).trans q2
  clear q2
  have q2 := q2n
  clear q2n
  have q3n : R10.cell? ⟨w.heap.size, 3, none⟩ = some (.int .i64 c3) := (hc _ _ (cell_lt q3)).trans q3
  clear q3
  have q3 := q3n
  clear q3n
  have q4n : R10.cell? ⟨w.heap.size, 4, none⟩ = some (.int .i64 c4) := (hc _ _ (cell_lt q4)).trans q4
  clear q4
  have q4 := q4n
  clear q4n
  have p0n : R10.cell? ⟨w.heap.size + 1, 0, none⟩ = some (.int .i64 x0) := (hc _ _ (cell_lt p0)).trans p0
  clear p0
  have p0 := p0n
  clear p0n
  have p1n : R10.cell? ⟨w.heap.size + 1, 1, none⟩ = some (.int .i64 x1) := (hc _ _ (cell_lt p1)).trans p1
  clear p1
  have p1 := p1n
  clear p1n
  have p2n : R10.cell? ⟨w.heap.size + 1, 2, none⟩ = some (.int .i64 x2) := (hc _ _ (cell_lt p2)).trans p2
  clear p2
  have p2 := p2n
  clear p2n
  have p3n : R10.cell? ⟨w.heap.size + 1, 3, none⟩ = some (.int .i64 x3) := (hc _ _ (cell_lt p3)).trans p3
  clear p3
  have p3 := p3n
  clear p3n
  have p4n : R10.cell? ⟨w.heap.size + 1, 4, none⟩ = some (.int .i64 x4) := (hc _ _ (cell_lt p4)).trans p4
  clear p4
  have p4 := p4n
  clear p4n
  have p5n : R10.cell? ⟨w.heap.size + 1, 5, none⟩ = some (.int .i64 x5) := (hc _ _ (cell_lt p5)).trans p5
  clear p5
  have p5 := p5n
  clear p5n
  have y0n : R10.cell? ⟨W6.heap.size, 0, none⟩ = some (.int .i64 a0) := (hc _ _ (cell_lt y0)).trans y0
  clear y0
  have y0 := y0n
  clear y0n
  have y1n : R10.cell? ⟨W6.heap.size, 1, none⟩ = some (.int .i64 a1) := (hc _ _ (cell_lt y1)).trans y1
  clear y1
  have y1 := y1n
  clear y1n
  have y2n : R10.cell? ⟨W6.heap.size, 2, none⟩ = some (.int .i64 a2) := (hc _ _ (cell_lt y2)).trans y2
  clear y2
  have y2 := y2n
  clear y2n
  have y3n : R10.cell? ⟨W6.heap.size, 3, none⟩ = some (.int .i64 a3) := (hc _ _ (cell_lt y3)).trans y3
  clear y3
  have y3 := y3n
  clear y3n
  have y4n : R10.cell? ⟨W6.heap.size, 4, none⟩ = some (.int .i64 a4) := (hc _ _ (cell_lt y4)).trans y4
  clear y4
  have y4 := y4n
  clear y4n
  have z0n : R10.cell? ⟨W8.heap.size, 0, none⟩ = some (.int .i64 b0) := (hc _ _ (cell_lt z0)).trans z0
  clear z0
  have z0 := z0n
  clear z0n
  have z1n : R10.cell? ⟨W8.heap.size, 1, none⟩ = some (.int .i64 b1) := (hc _ _ (cell_lt z1)).trans z1
  clear z1
  have z1 := z1n
  clear z1n
  have z2n : R10.cell? ⟨W8.heap.size, 2, none⟩ = some (.int .i64 b2) := (hc _ _ (cell_lt z2)).trans z2
  clear z2
  have z2 := z2n
  clear z2n
  have z3n : R10.cell? ⟨W8.heap.size, 3, none⟩ = some (.int .i64 b3) := (hc _ _ (cell_lt z3)).trans z3
  clear z3
  have z3 := z3n
  clear z3n
  have z4n : R10.cell? ⟨W8.heap.size, 4, none⟩ = some (.int .i64 b4) := (hc _ _ (cell_lt z4)).trans z4
  clear z4
  have z4 := z4n
  clear z4n
  have z5n : R10.cell? ⟨W8.heap.size, 5, none⟩ = some (.int .i64 b5) := (hc _ _ (cell_lt z5)).trans z5
  clear z5
  have z5 := z5n
  clear z5n
  have hbn : Below w.heap.size w R10 := bthen hb0 hB
  clear hb0
  have hb0 := hbn
  clear hbn
  have hzR10 : W9.heap.size ≤ R10.heap.size := hz
  clear hc hf hB hz
  go_upto_if 97 with (fail)
  go_cut [] (fun wx => Below R10.heap.size R10 wx)
  case first =>
    as_aux_lemma =>
    by_cases he : rx2 = 0
    · subst he
      have hs0 : Below R10.heap.size R10 R10 := Below.refl _ _
      go_wp2_with fail
      refine (via (w0 := R10) (by go_grown) (HG2.out (by first | rfl | trivial) _ (HW.out.later hb0))).mono ?_
      rintro e W101 ⟨rfl, hc, hf, hz, hB⟩
      have q0n : W101.cell? ⟨w.heap.size, 0, none⟩ = some (.int .i64 c0) := (hc _ _ (cell_lt q0)).trans q0
      clear q0
      have q0 := q0n
      clear q0n
      have q1n : W101.cell? ⟨w.heap.size, 1, none⟩ = some (.int .i64 c1) := (hc _ _ (cell_lt q1)).trans q1
      clear q1
      have q1 := q1n
      clear q1n
      have q2n : W101.cell? ⟨w.heap.size, 2, none⟩ = some (.int .i64 c2) := (hc _ _ (cell_lt q2)).trans q2
      clear q2
      have q2 := q2n
      clear q2n
      have q3n : W101.cell? ⟨w.heap.size, 3, none⟩ = some (.int .i64 c3) := (hc _ _ (cell_lt q3)).trans q3
      clear q3
      have q3 := q3n
      clear q3n
      have q4n : W101.cell? ⟨w.heap.size, 4, none⟩ = some (.int .i64 c4) := (hc _ _ (cell_lt q4)).trans q4
      clear q4
      have q4 := q4n
      clear q4n
      have p0n : W101.cell? ⟨w.heap.size + 1, 0, none⟩ = some (.int .i64 x0) := (hc _ _ (cell_lt p0)).trans p0
      clear p0
      have p0 := p0n
      clear p0n
      have p1n : W101.cell? ⟨w.heap.size + 1, 1, none⟩ = some (.int .i64 x1) := (hc _ _ (cell_lt p1)).trans p1
      clear p1
      have p1 := p1n
      clear p1n
      have p2n : W101.cell? ⟨w.heap.size + 1, 2, none⟩ = some (.int .i64 x2) := (hc _ _ (cell_lt p2)).trans p2
      clear p2
      have p2 := p2n
      clear p2n
      have p3n : W101.cell? ⟨w.heap.size + 1, 3, none⟩ = some (.int .i64 x3) := (hc _ _ (cell_lt p3)).trans p3
      clear p3
      have p3 := p3n
      clear p3n
      have p4n : W101.cell? ⟨w.heap.size + 1, 4, none⟩ = some (.int .i64 x4) := (hc _ _ (cell_lt p4)).trans p4
      clear p4
      have p4 := p4n
      clear p4n
      have p5n : W101.cell? ⟨w.heap.size + 1, 5, none⟩ = some (.int .i64 x5) := (hc _ _ (cell_lt p5)).trans p5
      clear p5
      have p5 := p5n
      clear p5n
      have y0n : W101.cell? ⟨W6.heap.size, 0, none⟩ = some (.int .i64 a0) := (hc _ _ (cell_lt y0)).trans y0
      clear y0
      have y0 := y0n
      clear y0n
      have y1n : W101.cell? ⟨W6.heap.size, 1, none⟩ = some (.int .i64 a1) := (hc _ _ (cell_lt y1)).trans y1
      clear y1
      have y1 := y1n
      clear y1n
      have y2n : W101.cell? ⟨W6.heap.size, 2, none⟩ = some (.int .i64 a2) := (hc _ _ (cell_lt y2)).trans y2
      clear y2
      have y2 := y2n
      clear y2n
      have y3n : W101.cell? ⟨W6.heap.size, 3, none⟩ = some (.int .i64 a3) := (hc _ _ (cell_lt y3)).trans y3
      clear y3
      have y3 := y3n
      clear y3n
      have y4n : W101.cell? ⟨W6.heap.size, 4, none⟩ = some (.int .i64 a4) := (hc _ _ (cell_lt y4)).trans y4
      clear y4
      have y4 := y4n
      clear y4n
      have z0n : W101.cell? ⟨W8.heap.size, 0, none⟩ = some (.int .i64 b0) := (hc _ _ (cell_lt z0)).trans z0
      clear z0
      have z0 := z0n
      clear z0n
      have z1n : W101.cell? ⟨W8.heap.size, 1, none⟩ = some (.int .i64 b1) := (hc _ _ (cell_lt z1)).trans z1
      clear z1
      have z1 := z1n
      clear z1n
      have z2n : W101.cell? ⟨W8.heap.size, 2, none⟩ = some (.int .i64 b2) := (hc _ _ (cell_lt z2)).trans z2
      clear z2
      have z2 := z2n
      clear z2n
      have z3n : W101.cell? ⟨W8.heap.size, 3, none⟩ = some (.int .i64 b3) := (hc _ _ (cell_lt z3)).trans z3
      clear z3
      have z3 := z3n
      clear z3n
      have z4n : W101.cell? ⟨W8.heap.size, 4, none⟩ = some (.int .i64 b4) := (hc _ _ (cell_lt z4)).trans z4
      clear z4
      have z4 := z4n
      clear z4n
      have z5n : W101.cell? ⟨W8.heap.size, 5, none⟩ = some (.int .i64 b5) := (hc _ _ (cell_lt z5)).trans z5
      clear z5
      have z5 := z5n
      clear z5n
      have hbn : Below w.heap.size w W101 := bthen hb0 hB
      clear hb0
      have hb0 := hbn
      clear hbn
      have hsn := bthen hs0 hB
      clear hs0
      have hs0 := hsn
      clear hsn
      have hzW101 : R10.heap.size ≤ W101.heap.size := hz
      clear hc hf hB hz
      go_wp2
      go_meet
      exact hs0
    · have he2 : (rx2 == 0) = false := by simpa using he
      clear he
      go_wp2
      go_meet
      exact Below.refl _ _
  case rest =>
  obtain ⟨R11, rfl⟩ : ∃ x : World, x = wc := ⟨_, rfl⟩
  have hB := hcut
  clear hcut
  have hc := (bcell hB).1
  have hf := (bcell hB).2
  have hz := hB.size
  have q0n : R11.cell? ⟨w.heap.size, 0, none⟩ = some (.int .i64 c0) := (hc _ _ (cell_lt q0)).trans q0
  clear q0
  have q0 := q0n
  clear q0n
  have q1n : R11.cell? ⟨w.heap.size, 1, none⟩ = some (.int .i64 c1) := (hc _ _ (cell_lt q1)).trans q1
  clear q1
  have q1 := q1n
  clear q1n
  have q2n : R11.cell? ⟨w.heap.size, 2, none⟩ = some (.int .i64 c2) := (hc _ _ (cell_lt q2)).trans q2
  clear q2
  have q2 := q2n
  clear q2n
  have q3n : R11.cell? ⟨w.heap.size, 3, none⟩ = some (.int .i64 c3) := (hc _ _ (cell_lt q3)).trans q3
  clear q3
  have q3 := q3n
  clear q3n
  have q4n : R11.cell? ⟨w.heap.size, 4, none⟩ = some (.int .i64 c4) := (hc _ _ (cell_lt q4)).trans q4
  clear q4
  have q4 := q4n
  clear q4n
  have p0n : R11.cell? ⟨w.heap.size + 1, 0, none⟩ = some (.int .i64 x0) := (hc _ _ (cell_lt p0)).trans p0
  clear p0
  have p0 := p0n
  clear p0n
  have p1n : R11.cell? ⟨w.heap.size + 1, 1, none⟩ = some (.int .i64 x1) := (hc _ _ (cell_lt p1)).trans p1
  clear p1
  have p1 := p1n
  clear p1n
  have p2n : R11.cell? ⟨w.heap.size + 1, 2, none⟩ = some (.int .i64 x2) := (hc _ _ (cell_lt p2)).trans p2
  clear p2
  have p2 := p2n
  clear p2n
  have p3n : R11.cell? ⟨w.heap.size + 1, 3, none⟩ = some (.int .i64 x3) := (hc _ _ (cell_lt p3)).trans p3
  clear p3
  have p3 := p3n
  clear p3n
  have p4n : R11.cell? ⟨w.heap.size + 1, 4, none⟩ = some (.int .i64 x4) := (hc _ _ (cell_lt p4)).trans p4
  clear p4
  have p4 := p4n
  clear p4n
  have p5n : R11.cell? ⟨w.heap.size + 1, 5, none⟩ = some (.int .i64 x5) := (hc _ _ (cell_lt p5)).trans p5
  clear p5
  have p5 := p5n
  clear p5n
  have y0n : R11.cell? ⟨W6.heap.size, 0, none⟩ = some (.int .i64 a0) := (hc _ _ (cell_lt y0)).trans y0
  clear y0
  have y0 := y0n
  clear y0n
  have y1n : R11.cell? ⟨W6.heap.size, 1, none⟩ = some (.int .i64 a1) := (hc _ _ (cell_lt y1)).trans y1
  clear y1
  have y1 := y1n
  clear y1n
  have y2n : R11.cell? ⟨W6.heap.size, 2, none⟩ = some (.int .i64 a2) := (hc _ _ (cell_lt y2)).trans y2
  clear y2
  have y2 := y2n
  clear y2n
  have y3n : R11.cell? ⟨W6.heap.size, 3, none⟩ = some (.int .i64 a3) := (hc _ _ (cell_lt y3)).trans y3
  clear y3
  have y3 := y3n
  clear y3n
  have y4n : R11.cell? ⟨W6.heap.size, 4, none⟩ = some (.int .i64 a4) := (hc _ _ (cell_lt y4)).trans y4
  clear y4
  have y4 := y4n
  clear y4n
  have z0n : R11.cell? ⟨W8.heap.size, 0, none⟩ = some (.int .i64 b0) := (hc _ _ (cell_lt z0)).trans z0
  clear z0
  have z0 := z0n
  clear z0n
  have z1n : R11.cell? ⟨W8.heap.size, 1, none⟩ = some (.int .i64 b1) := (hc _ _ (cell_lt z1)).trans z1
  clear z1
  have z1 := z1n
  clear z1n
  have z2n : R11.cell? ⟨W8.heap.size, 2, none⟩ = some (.int .i64 b2) := (hc _ _ (cell_lt z2)).trans z2
  clear z2
  have z2 := z2n
  clear z2n
  have z3n : R11.cell? ⟨W8.heap.size, 3, none⟩ = some (.int .i64 b3) := (hc _ _ (cell_lt z3)).trans z3
  clear z3
  have z3 := z3n
  clear z3n
  have z4n : R11.cell? ⟨W8.heap.size, 4, none⟩ = some (.int .i64 b4) := (hc _ _ (cell_lt z4)).trans z4
  clear z4
  have z4 := z4n
  clear z4n
  have z5n : R11.cell? ⟨W8.heap.size, 5, none⟩ = some (.int .i64 b5) := (hc _ _ (cell_lt z5)).trans z5
  clear z5
  have z5 := z5n
  clear z5n
  have hbn : Below w.heap.size w R11 := bthen hb0 hB
  clear hb0
  have hb0 := hbn
  clear hbn
  have hzR11 : R10.heap.size ≤ R11.heap.size := hz
  clear hc hf hB hz
  go_wp2_with fail
  refine (via (w0 := R11) (by go_grown) (c_counted _)).mono ?_
  rintro e W12 ⟨rfl, hc, hf, hz, hB⟩
  have q0n : W12.cell? ⟨w.heap.size, 0, none⟩ = some (.int .i64 c0) := (hc _ _ (cell_lt q0)).trans q0
  clear q0
  have q0 := q0n
  clear q0n
  have q1n : W12.cell? ⟨w.heap.size, 1, none⟩ = some (.int .i64 c1) := (hc _ _ (cell_lt q1)).trans q1
  clear q1
  have q1 := q1n
  clear q1n
  have q2n : W12.cell? ⟨w.heap.size, 2, none⟩ = some (.int .i64 c2) := (hc _ _ (cell_lt q2)).trans q2
  clear q2
  have q2 := q2n
  clear q2n
  have q3n : W12.cell? ⟨w.heap.size, 3, none⟩ = some (.int .i64 c3) := (hc _ _ (cell_lt q3)).trans q3
  clear q3
  have q3 := q3n
  clear q3n
  have q4n : W12.cell? ⟨w.heap.size, 4, none⟩ = some (.int .i64 c4) := (hc _ _ (cell_lt q4)).trans q4
  clear q4
  have q4 := q4n
  clear q4n
  have p0n : W12.cell? ⟨w.heap.size + 1, 0, none⟩ = some (.int .i64 x0) := (hc _ _ (cell_lt p0)).trans p0
  clear p0
  have p0 := p0n
  clear p0n
  have p1n : W12.cell? ⟨w.heap.size + 1, 1, none⟩ = some (.int .i64 x1) := (hc _ _ (cell_lt p1)).trans p1
  clear p1
  have p1 := p1n
  clear p1n
  have p2n : W12.cell? ⟨w.heap.size + 1, 2, none⟩ = some (.int .i64 x2) := (hc _ _ (cell_lt p2)).trans p2
  clear p2
  have p2 := p2n
  clear p2n
  have p3n : W12.cell? ⟨w.heap.size + 1, 3, none⟩ = some (.int .i64 x3) := (hc _ _ (cell_lt p3)).trans p3
  clear p3
  have p3 := p3n
  clear p3n
  have p4n : W12.cell? ⟨w.heap.size + 1, 4, none⟩ = some (.int .i64 x4) := (hc _ _ (cell_lt p4)).trans p4
  clear p4
  have p4 := p4n
  clear p4n
  have p5n : W12.cell? ⟨w.heap.size + 1, 5, none⟩ = some (.int .i64 x5) := (hc _ _ (cell_lt p5)).trans p5
  clear p5
  have p5 := p5n
  clear p5n
  have y0n : W12.cell? ⟨W6.heap.size, 0, none⟩ = some (.int .i64 a0) := (hc _ _ (cell_lt y0)).trans y0
  clear y0
  have y0 := y0n
  clear y0n
  have y1n : W12.cell? ⟨W6.heap.size, 1, none⟩ = some (.int .i64 a1) := (hc _ _ (cell_lt y1)).trans y1
  clear y1
  have y1 := y1n
  clear y1n
  have y2n : W12.cell? ⟨W6.heap.size, 2, none⟩ = some (.int .i64 a2) := (hc _ _ (cell_lt y2)).trans y2
  clear y2
  have y2 := y2n
  clear y2n
  have y3n : W12.cell? ⟨W6.heap.size, 3, none⟩ = some (.int .i64 a3) := (hc _ _ (cell_lt y3)).trans y3
  clear y3
  have y3 := y3n
  clear y3n
  have y4n : W12.cell? ⟨W6.heap.size, 4, none⟩ = some (.int .i64 a4) := (hc _ _ (cell_lt y4)).trans y4
  clear y4
  have y4 := y4n
  clear y4n
  have z0n : W12.cell? ⟨W8.heap.size, 0, none⟩ = some (.int .i64 b0) := (hc _ _ (cell_lt z0)).trans z0
  clear z0
  have z0 := z0n
  clear z0n
  have z1n : W12.cell? ⟨W8.heap.size, 1, none⟩ = some (.int .i64 b1) := (hc _ _ (cell_lt z1)).trans z1
  clear z1
  have z1 := z1n
  clear z1n
  have z2n : W12.cell? ⟨W8.heap.size, 2, none⟩ = some (.int .i64 b2) := (hc _ _ (cell_lt z2)).trans z2
  clear z2
  have z2 := z2n
  clear z2n
  have z3n : W12.cell? ⟨W8.heap.size, 3, none⟩ = some (.int .i64 b3) := (hc _ _ (cell_lt z3)).trans z3
  clear z3
  have z3 := z3n
  clear z3n
  have z4n : W12.cell? ⟨W8.heap.size, 4, none⟩ = some (.int .i64 b4) := (hc _ _ (cell_lt z4)).trans z4
  clear z4
  have z4 := z4n
  clear z4n
  have z5n : W12.cell? ⟨W8.heap.size, 5, none⟩ = some (.int .i64 b5) := (hc _ _ (cell_lt z5)).trans z5
  clear z5
  have z5 := z5n
  clear z5n
  have hbn : Below w.heap.size w W12 := bthen hb0 hB
  clear hb0
  have hb0 := hbn
  clear hbn
  have hzW12 : R11.heap.size ≤ W12.heap.size := hz
  clear hc hf hB hz
  go_wp2_with fail
  refine (via (w0 := W12) (by go_grown) (HK.out _)).mono ?_
  rintro e W13 ⟨rfl, hc, hf, hz, hB⟩
  have q0n : W13.cell? ⟨w.heap.size, 0, none⟩ = some (.int .i64 c0) := (hc _ _ (cell_lt q0)).trans q0
  clear q0
  have q0 := q0n
  clear q0n
  have q1n : W13.cell? ⟨w.heap.size, 1, none⟩ = some (.int .i64 c1) := (hc _ _ (cell_lt q1)).trans q1
  clear q1
  have q1 := q1n
  clear q1n
  have q2n : W13.cell? ⟨w.heap.size, 2, none⟩ = some (.int .i64 c2) := (hc _ _ (cell_lt q2)).trans q2
  clear q2
  have q2 := q2n
  clear q2n
  have q3n : W13.cell? ⟨w.heap.size, 3, none⟩ = some (.int .i64 c3) := (hc _ _ (cell_lt q3)).trans q3
  clear q3
  have q3 := q3n
  clear q3n
  have q4n : W13.cell? ⟨w.heap.size, 4, none⟩ = some (.int .i64 c4) := (hc _ _ (cell_lt q4)).trans q4
  clear q4
  have q4 := q4n
  clear q4n
  have p0n : W13.cell? ⟨w.heap.size + 1, 0, none⟩ = some (.int .i64 x0) := (hc _ _ (cell_lt p0)).trans p0
  clear p0
  have p0 := p0n
  clear p0n
  have p1n : W13.cell? ⟨w.heap.size + 1, 1, none⟩ = some (.int .i64 x1) := (hc _ _ (cell_lt p1)).trans p1
  clear p1
  have p1 := p1n
  clear p1n
  have p2n : W13.cell? ⟨w.heap.size + 1, 2, none⟩ = some (.int .i64 x2) := (hc _ _ (cell_lt p2)).trans p2
  clear p2
  have p2 := p2n
  clear p2n
  have p3n : W13.cell? ⟨w.heap.size + 1, 3, none⟩ = some (.int .i64 x3) := (hc _ _ (cell_lt p3)).trans p3
  clear p3
  have p3 := p3n
  clear p3n
  have p4n : W13.cell? ⟨w.heap.size + 1, 4, none⟩ = some (.int .i64 x4) := (hc _ _ (cell_lt p4)).trans p4
  clear p4
  have p4 := p4n
  clear p4n
  have p5n : W13.cell? ⟨w.heap.size + 1, 5, none⟩ = some (.int .i64 x5) := (hc _ _ (cell_lt p5)).trans p5
  clear p5
  have p5 := p5n
  clear p5n
  have y0n : W13.cell? ⟨W6.heap.size, 0, none⟩ = some (.int .i64 a0) := (hc _ _ (cell_lt y0)).trans y0
  clear y0
  have y0 := y0n
  clear y0n
  have y1n : W13.cell? ⟨W6.heap.size, 1, none⟩ = some (.int .i64 a1) := (hc _ _ (cell_lt y1)).trans y1
  clear y1
  have y1 := y1n
  clear y1n
  have y2n : W13.cell? ⟨W6.heap.size, 2, none⟩ = some (.int .i64 a2) := (hc _ _ (cell_lt y2)).trans y2
  clear y2
  have y2 := y2n
  clear y2n
  have y3n : W13.cell? ⟨W6.heap.size, 3, none⟩ = some (.int .i64 a3) := (hc _ _ (cell_lt y3)).trans y3
  clear y3
  have y3 := y3n
  clear y3n
  have y4n : W13.cell? ⟨W6.heap.size, 4, none⟩ = some (.int .i64 a4) := (hc _ _ (cell_lt y4)).trans y4
  clear y4
  have y4 := y4n
  clear y4n
  have z0n : W13.cell? ⟨W8.heap.size, 0, none⟩ = some (.int .i64 b0) := (hc _ _ (cell_lt z0)).trans z0
  clear z0
  have z0 := z0n
  clear z0n
  have z1n : W13.cell? ⟨W8.heap.size, 1, none⟩ = some (.int .i64 b1) := (hc _ _ (cell_lt z1)).trans z1
  clear z1
  have z1 := z1n
  clear z1n
  have z2n : W13.cell? ⟨W8.heap.size, 2, none⟩ = some (.int .i64 b2) := (hc _ _ (cell_lt z2)).trans z2
  clear z2
  have z2 := z2n
  clear z2n
  have z3n : W13.cell? ⟨W8.heap.size, 3, none⟩ = some (.int .i64 b3) := (hc _ _ (cell_lt z3)).trans z3
  clear z3
  have z3 := z3n
  clear z3n
  have z4n : W13.cell? ⟨W8.heap.size, 4, none⟩ = some (.int .i64 b4) := (hc _ _ (cell_lt z4)).trans z4
  clear z4
  have z4 := z4n
  clear z4n
  have z5n : W13.cell? ⟨W8.heap.size, 5, none⟩ = some (.int .i64 b5) := (hc _ _ (cell_lt z5)).trans z5
  clear z5
  have z5 := z5n
  clear z5n
  have hbn : Below w.heap.size w W13 := bthen hb0 hB
  clear hb0
  have hb0 := hbn
  clear hbn
  have hzW13 : W12.heap.size ≤ W13.heap.size := hz
  clear hc hf hB hz
  go_wp2_with fail
  go_ret
  exact ⟨rfl, by have hbz := hb0.size; go_grown⟩

set_option maxRecDepth 100000 in
set_option maxHeartbeats 8000000 in
theorem walk (c0 c1 c2 c3 c4 x0 x1 x2 x3 x4 x5 : Int) (s : ByteArray) (ms : s.size ≤ maxLen) (t : ByteArray) (mt : t.size ≤ maxLen) (w : World) (hL : LibW w) :
    Calls Tryz.prog 4 #[.agg #[.int .i64 c0, .int .i64 c1, .int .i64 c2, .int .i64 c3, .int .i64 c4], .agg #[.int .i64 x0, .int .i64 x1, .int .i64 x2, .int .i64 x3, .int .i64 x4, .int .i64 x5], .string s, .string t] w fun e w' => e = .returned (.bool true) ∧ Below w.heap.size w w' := by
  by_cases h : 200 < s.size
  · exact walk_s c0 c1 c2 c3 c4 x0 x1 x2 x3 x4 x5 s ms t mt w h
  · by_cases g : 200 < t.size
    · exact walk_t c0 c1 c2 c3 c4 x0 x1 x2 x3 x4 x5 s ms t mt w h g
    · exact walk_ok c0 c1 c2 c3 c4 x0 x1 x2 x3 x4 x5 s ms t mt w h g hL


set_option maxRecDepth 100000 in
theorem contract (H : Type) (enc : TypeId × Value → H) (W : World) (base : Nat) (args : Array Value) (ds gs : List (DataW H)) (before : List MemPlace)
    (hval : ∀ (j : Nat) t v, Tryz.f4.params[j]? = some t → args[j]? = some v → Value.okWide Tryz.prog W .any base t v)
    (hW : DataW.Whole enc Tryz.prog Tryz.f4.params.toList Rows.tallyTextsSpec.vars false W args.toList ds gs before) (hL : LibW W) :
    Calls Tryz.prog 4 args W fun e W' => ∃ v, e = .returned v ∧ Rows.tallyTextsSpec.post enc Tryz.prog Tryz.f4 false true false false W args v W' := by
  have hW' := hW
  obtain ⟨p, q, hA0, hV, rfl, _, _⟩ := hW
  have hA : DataW.TrodAll enc Tryz.prog W 0 (fun _ => true) true Tryz.f4.params.toList args.toList ds p := hA0
  rw [Tryz.params4] at hA hval
  obtain ⟨v0, vs0, d0, ds0, p0, q0, hargs, rfl, rfl, h0, r0⟩ := trodAll_cons hA
  obtain ⟨v1, vs1, d1, ds1, p1, q1, rfl, rfl, rfl, h1, r1⟩ := trodAll_cons r0
  obtain ⟨v2, vs2, d2, ds2, p2, q2, rfl, rfl, rfl, h2, r2⟩ := trodAll_cons r1
  obtain ⟨v3, vs3, d3, ds3, p3, q3, rfl, rfl, rfl, h3, r3⟩ := trodAll_cons r2
  obtain ⟨rfl, rfl, rfl⟩ := trodAll_nil r3
  obtain rfl : args = #[v0, v1, v2, v3] := by cases args; simp_all
  obtain ⟨rfl, rfl⟩ := trodVars_none hV
  obtain ⟨c0x0, c0x1, c0x2, c0x3, c0x4, y0x0, y0x1, y0x2, y0x3, y0x4, m0, rfl, rfl, rfl, hy0x0, hy0x1, hy0x2, hy0x3, hy0x4⟩ := open_agg5 Tryz.underlying23 (by kernel_rfl) (by kernel_rfl) (hval 0 23 v0 rfl rfl) h0
  obtain ⟨a0x0, e0x0, rfl, w0x0⟩ := DataW.trod_int Tryz.underlying3 hy0x0
  obtain ⟨a0x1, e0x1, rfl, w0x1⟩ := DataW.trod_int Tryz.underlying3 hy0x1
  obtain ⟨a0x2, e0x2, rfl, w0x2⟩ := DataW.trod_int Tryz.underlying3 hy0x2
  obtain ⟨a0x3, e0x3, rfl, w0x3⟩ := DataW.trod_int Tryz.underlying3 hy0x3
  obtain ⟨a0x4, e0x4, rfl, w0x4⟩ := DataW.trod_int Tryz.underlying3 hy0x4
  simp only [List.cons.injEq, and_true] at e0x0 e0x1 e0x2 e0x3 e0x4
  subst e0x0 e0x1 e0x2 e0x3 e0x4
  obtain ⟨c1x0, c1x1, c1x2, c1x3, c1x4, c1x5, y1x0, y1x1, y1x2, y1x3, y1x4, y1x5, m1, rfl, rfl, rfl, hy1x0, hy1x1, hy1x2, hy1x3, hy1x4, hy1x5⟩ := open_agg6 Tryz.underlying25 (by kernel_rfl) (by kernel_rfl) (hval 1 25 v1 rfl rfl) h1
  obtain ⟨a1x0, e1x0, rfl, w1x0⟩ := DataW.trod_int Tryz.underlying3 hy1x0
  obtain ⟨a1x1, e1x1, rfl, w1x1⟩ := DataW.trod_int Tryz.underlying3 hy1x1
  obtain ⟨a1x2, e1x2, rfl, w1x2⟩ := DataW.trod_int Tryz.underlying3 hy1x2
  obtain ⟨a1x3, e1x3, rfl, w1x3⟩ := DataW.trod_int Tryz.underlying3 hy1x3
  obtain ⟨a1x4, e1x4, rfl, w1x4⟩ := DataW.trod_int Tryz.underlying3 hy1x4
  obtain ⟨a1x5, e1x5, rfl, w1x5⟩ := DataW.trod_int Tryz.underlying3 hy1x5
  simp only [List.cons.injEq, and_true] at e1x0 e1x1 e1x2 e1x3 e1x4 e1x5
  subst e1x0 e1x1 e1x2 e1x3 e1x4 e1x5
  obtain ⟨a2, rfl, rfl, rfl, w2⟩ := open_string Tryz.underlying9 (hval 2 9 v2 rfl rfl) h2
  obtain ⟨a3, rfl, rfl, rfl, w3⟩ := open_string Tryz.underlying9 (hval 3 9 v3 rfl rfl) h3
  clear hA0
  simp only [List.append_nil] at hW'
  have s0 := stays h0 (by kernel_rfl) (by kernel_rfl)
  have s1 := stays h1 (by kernel_rfl) (by kernel_rfl)
  have s2 := stays h2 (by kernel_rfl) (by kernel_rfl)
  have s3 := stays h3 (by kernel_rfl) (by kernel_rfl)
  refine (walk a0x0 a0x1 a0x2 a0x3 a0x4 a1x0 a1x1 a1x2 a1x3 a1x4 a1x5 a2 w2 a3 w3 W hL).mono fun e W' ⟨he, hg⟩ => ?_
  subst he
  exact ⟨_, rfl, post_of_below (pa := []) (pv := []) hW' (fun _ _ _ => (trodAll_cons_mk (shut_bool Tryz.underlying4 _) trodAll_mk0)) (fun sp _ => (trodAll_cons_mk (s0 _ _) (trodAll_cons_mk (s1 _ _) (trodAll_cons_mk (s2 _ _) (trodAll_cons_mk (s3 _ _) trodAll_mk0))))) (fun _ _ => rfl) rfl
    hg (ok_one (by kernel_rfl) rfl (okWide_bool_mk Tryz.underlying4 _))⟩

set_option maxRecDepth 100000 in
theorem reads (os : Os) {H : Type} (enc : TypeId × Value → H) : ∃ places, DataW.whole enc Tryz.prog ((laidWorld os).forCall (fun _ _ => 0) ⟨#[], #[.agg #[.int .i64 0, .int .i64 0, .int .i64 0, .int .i64 0, .int .i64 0], .agg #[.int .i64 0, .int .i64 0, .int .i64 0, .int .i64 0, .int .i64 0, .int .i64 0], .string ⟨#[]⟩, .string ⟨#[]⟩], []⟩).memory Tryz.f4.params.toList Rows.tallyTextsSpec.vars false (Array.toList #[.agg #[.int .i64 0, .int .i64 0, .int .i64 0, .int .i64 0, .int .i64 0], .agg #[.int .i64 0, .int .i64 0, .int .i64 0, .int .i64 0, .int .i64 0, .int .i64 0], .string ⟨#[]⟩, .string ⟨#[]⟩]) 8 = some ([.agg [.lit (.int .i64 0), .lit (.int .i64 0), .lit (.int .i64 0), .lit (.int .i64 0), .lit (.int .i64 0)], .agg [.lit (.int .i64 0), .lit (.int .i64 0), .lit (.int .i64 0), .lit (.int .i64 0), .lit (.int .i64 0), .lit (.int .i64 0)], .lit (.string []), .lit (.string [])], [], places) :=
  ⟨[], by kernel_rfl⟩

set_option maxRecDepth 100000 in
theorem lifted (os : Os) (started : os.Started) (H : Type) (enc : TypeId × Value → H) (F : Stop.Interp) :
    ReturnsInHanded {} Tryz.checked os 4 .any ((OpenSpec.ofChange Rows.tallyTextsSpec).preRow enc Tryz.prog Tryz.f4 Rows.tallyTextsRow.domain false Rows.tallyTextsRow.laid) (((OpenSpec.ofChange Rows.tallyTextsSpec).at F).post enc Tryz.prog Tryz.f4 false true false false) := by
  obtain ⟨places, hx⟩ := reads os enc
  refine returnsInHanded_of_row (C := Tryz.checked) (s := OpenSpec.ofChange Rows.tallyTextsSpec) own started (by kernel_rfl) Tryz.func4
    (witness_row_atRef (enc := enc) (C := Tryz.checked) false (laidWorld os) #[.agg #[.int .i64 0, .int .i64 0, .int .i64 0, .int .i64 0, .int .i64 0], .agg #[.int .i64 0, .int .i64 0, .int .i64 0, .int .i64 0, .int .i64 0, .int .i64 0], .string ⟨#[]⟩, .string ⟨#[]⟩] rfl (by kernel_rfl) (by kernel_rfl) (by kernel_rfl)
      (OpenSpec.preRow_of_cond 8 hx (by kernel_rfl) (fun k hk => by cases hk) (by kernel_rfl) (laidWorld_met os _))) ?_
  intro W base args ds gs before hval hW _ _ _ hL hsh _
  exact contract H enc W base args ds gs before hval hW (libW_of hL hsh)

theorem said : Rows.TallyTextsSaid :=
  OpenClaim.holds_of_cond 4 Tryz.f4 rfl rfl rfl rfl rfl rfl rfl ⟨rfl, rfl, rfl, rfl, rfl⟩ rfl rfl rfl rfl rfl (by kernel_rfl) Tryz.func4 (by kernel_rfl)
    (of_decide_eq_true (by kernel_rfl)) (by unfold Func.isWrapper; first | (rw [if_pos (by decide +kernel)]; kernel_rfl) | (rw [if_neg (by decide +kernel)]; exact ⟨rfl, rfl⟩))
    (fun os started H enc _ F => by rw [OpenClaim.pre_eq_preRow]; exact lifted os started H enc F)

theorem plain (f : FuncId) (fn : Func) (hf : Tryz.pinned.checked.prog.funcNamed Rows.tallyTextsRow.func = some f) (hfn : Tryz.pinned.checked.prog.funcs[f]? = some fn) :
    true = Tryz.pinned.checked.prog.looks [] ∧ ∀ (j : Nat) t, fn.params[j]? = some t → Tryz.pinned.checked.prog.wantsStandIn t = false := by
  obtain rfl : f = 4 := Option.some.inj ((show Tryz.prog.funcNamed Rows.tallyTextsRow.func = some 4 by kernel_rfl).symm.trans hf) |>.symm
  obtain rfl : fn = Tryz.f4 := (Option.some.inj (Tryz.func4.symm.trans hfn)).symm
  refine ⟨by kernel_rfl, fun j t ht => ?_⟩
  have hall : (Tryz.f4.params.toList.all fun t => !(Tryz.prog.wantsStandIn t)) = true := by kernel_rfl
  have h := List.all_eq_true.1 hall t (by simpa using Array.mem_of_getElem? ht)
  have k : Tryz.prog.wantsStandIn t = false := by simpa using h
  exact k

theorem proved : Rows.TallyTextsCardSaid :=
  Claim7.holds_tied_plain_at .later [] _ _ _ _ said (fun _ h => by cases h) (by kernel_rfl) (fun _ h => by cases h) tallyTexts_row_tie rfl ⟨rfl, rfl⟩ (by kernel_rfl) rfl plain (by kernel_rfl)
end Go.Proofs.YthdenmbfeanioaaGreatDoor.tallyTexts
