/- This text proves what RateOf of package tally returns, for every rate of the house, list of re-counts, shepherd and day of knowledge. -/
import Derived.Test.YthdenmbfeanioaaGreatDoorOf
import Derived.Test.YthdenmbfeanioaaGreatDoorFits
import Derived.Lib.MinMax
namespace Go.Proofs.YthdenmbfeanioaaGreatDoor
open Go.RowKit Go.Shelf
attribute [local go_sem] Oper.semAt_some

def Rc.fine (x : Rc) : Bool := (missV x.t x.n).2 && (doubV x.t x.n).2
def rstep (acc : Option (Int × Int)) (x : Rc) : Option (Int × Int) :=
  match acc with
  | none => none
  | some (a, b) => if x.fine then some (max a (missV x.t x.n).1, max b (doubV x.t x.n).1) else none
/-- The rate that a list of re-counts asks, and a house: none if one of them has no rate. -/
def rfold (m d : Int) (l : List Rc) : Option (Int × Int) := l.foldl rstep (some (m, d))
theorem rfold_snoc (m d : Int) (l : List Rc) (x : Rc) : rfold m d (l ++ [x]) = rstep (rfold m d l) x := by simp [rfold]
theorem rstep_none (l : List Rc) : l.foldl rstep none = none := by induction l with | nil => rfl | cons x l ih => exact ih
theorem rfold_none {m d : Int} {l ys : List Rc} (h : l <+: ys) (hl : rfold m d l = none) : rfold m d ys = none := by
  obtain ⟨t, rfl⟩ := h
  unfold rfold at *
  rw [List.foldl_append, hl, rstep_none]

/-- Misses, Doubles and the error of RateOf. -/
def rateV (m d : Int) (l : List Rc) (shep known : Int) : Int × Int × Int :=
  if rateB m d then
    if (crec l).2 = 0 then
      match rfold m d (ofShep shep (cnt known l)) with
      | some (a, b) => (a, b, 0)
      | none => (0, 0, 40)
    else (0, 0, (crec l).2)
  else (0, 0, 1)
theorem rateV_bad {m d : Int} {l : List Rc} {shep known : Int} (h : rateB m d = false) : rateV m d l shep known = (0, 0, 1) := by simp [rateV, h]
theorem rateV_err {m d : Int} {l : List Rc} {shep known : Int} (h : rateB m d = true) (h2 : ¬ (crec l).2 = 0) : rateV m d l shep known = (0, 0, (crec l).2) := by simp [rateV, h, h2]
theorem rateV_some {m d a b : Int} {l : List Rc} {shep known : Int} (h : rateB m d = true) (h2 : (crec l).2 = 0) (h3 : rfold m d (ofShep shep (cnt known l)) = some (a, b)) : rateV m d l shep known = (a, b, 0) := by simp [rateV, h, h2, h3]
theorem rateV_none {m d : Int} {l : List Rc} {shep known : Int} (h : rateB m d = true) (h2 : (crec l).2 = 0) (h3 : rfold m d (ofShep shep (cnt known l)) = none) : rateV m d l shep known = (0, 0, 40) := by simp [rateV, h, h2, h3]
abbrev rateVal (r : Int × Int × Int) : Value := .tuple #[.agg #[.int .i64 r.1, .int .i64 r.2.1], .int .i64 r.2.2]

structure BoxAsk (w : World) (b : Nat) (x : Rc) : Prop where
  m : w.cell? ⟨b, 0, none⟩ = some (.int .i64 (missV x.t x.n).1)
  d : w.cell? ⟨b, 1, none⟩ = some (.int .i64 (doubV x.t x.n).1)
  ok : w.cell? ⟨b, 2, none⟩ = some (.bool x.fine)
theorem BoxAsk.kept {O : Nat → Prop} {w w1 : World} {b : Nat} {x : Rc} (h : BoxAsk w b x) (hb : Kept O w w1) (hn : ¬ O b) : BoxAsk w1 b x :=
  ⟨hb.cell hn h.m, hb.cell hn h.d, hb.cell hn h.ok⟩

/-- A cell of a caller's own, that can be written. -/
def Own1 (A : World) (b o : Nat) (v : Value) : Prop := A.cell? ⟨b, o, none⟩ = some v ∧ A.frozen? ⟨b, o, none⟩ = false
theorem Own1.kept {O : Nat → Prop} {A C : World} {b o : Nat} {v : Value} (h : Own1 A b o v) (hb : Kept O A C) (hn : ¬ O b) : Own1 C b o v :=
  ⟨hb.cell hn h.1, (hb.frozen (cell_lt h.1) hn).trans h.2⟩

/-- Between two rounds of RateOf's loop. -/
structure RI (w : World) (m d : Int) (ob : Nat) (pre : List Rc) (O : Nat → Prop) (A : World) : Prop where
  rate : ∃ p q, rfold m d pre = some (p, q) ∧ Own1 A ob 0 (.int .i64 p) ∧ Own1 A ob 1 (.int .i64 q)
  r0 : Own1 A (w.heap.size + 1) 0 (.int .i64 0)
  r1 : Own1 A (w.heap.size + 1) 1 (.int .i64 0)
  e0 : Own1 A (w.heap.size + 2) 0 (.int .i64 0)
  o1 : O (w.heap.size + 1)
  o2 : O (w.heap.size + 2)
  o3 : O ob
  lt : ∀ k, O k → k < A.heap.size
  ge : ∀ k, O k → w.heap.size ≤ k
  below : Below w.heap.size w A
/-- Where a round has found a re-count that no rate explains. -/
structure RX (w : World) (m d : Int) (ys : List Rc) (O : Nat → Prop) (A : World) : Prop where
  rate : rfold m d ys = none
  r0 : A.cell? ⟨w.heap.size + 1, 0, none⟩ = some (.int .i64 0)
  r1 : A.cell? ⟨w.heap.size + 1, 1, none⟩ = some (.int .i64 0)
  e0 : A.cell? ⟨w.heap.size + 2, 0, none⟩ = some (.int .i64 40)
  o1 : O (w.heap.size + 1)
  o2 : O (w.heap.size + 2)
  ge : ∀ k, O k → w.heap.size ≤ k
  below : Below w.heap.size w A
theorem RI.abide {w : World} {m d : Int} {ob : Nat} {pre : List Rc} {B : Nat} (hB : w.heap.size ≤ B) : Abide B (RI w m d ob pre) := by
  intro O A C h hk
  have hn : ∀ {k}, O k → ¬ (B ≤ k ∧ ¬ O k) := fun h x => x.2 h
  obtain ⟨p, q, h1, h2, h3⟩ := h.rate
  exact ⟨⟨p, q, h1, h2.kept hk (hn h.o3), h3.kept hk (hn h.o3)⟩, h.r0.kept hk (hn h.o1), h.r1.kept hk (hn h.o1), h.e0.kept hk (hn h.o2), h.o1, h.o2, h.o3, fun k hx => Nat.lt_of_lt_of_le (h.lt k hx) hk.size, h.ge,
    h.below.trans (hk.below h.below.size (fun k hx => by omega))⟩
theorem RX.abide {w : World} {m d : Int} {ys : List Rc} {B : Nat} (hB : w.heap.size ≤ B) : Abide B (RX w m d ys) := by
  intro O A C h hk
  have hn : ∀ {k}, O k → ¬ (B ≤ k ∧ ¬ O k) := fun h x => x.2 h
  exact ⟨h.rate, hk.cell (hn h.o1) h.r0, hk.cell (hn h.o1) h.r1, hk.cell (hn h.o2) h.e0, h.o1, h.o2, h.ge, h.below.trans (hk.below h.below.size (fun k hx => by omega))⟩

set_option maxHeartbeats 2000000 in
theorem c_RateOf_bad (m d : Int) (l : List Rc) (a : Option Addr) (cap : Nat) (shep known : Int) (w : World) (hl : Recs w a l) (h1 : rateB m d = false) :
    Calls Tryz.prog 21 #[.agg #[.int .i64 m, .int .i64 d], .slice a l.length cap, .int .i64 shep, .int .i64 known] w fun e w' => e = .returned (rateVal (rateV m d l shep known)) ∧ Below w.heap.size w w' := by
  rw [rateV_bad h1]
  have HL := Lib.hid hl
  clear hl
  go_enter Tryz.func21, Tryz.ntmps21
  go_upto_region 1 with (fail)
  go_name_world W1 hW1
  have hbn : Below w.heap.size w W1 := by subst hW1; go_grown
  have hb0 := hbn
  clear hbn
  have qmn : W1.cell? ⟨w.heap.size, 0, none⟩ = some (.int .i64 m) := by subst hW1; go_simp
  have qdn : W1.cell? ⟨w.heap.size, 1, none⟩ = some (.int .i64 d) := by subst hW1; go_simp
  have r0n : W1.cell? ⟨w.heap.size + 1, 0, none⟩ = some (.int .i64 0) := by subst hW1; go_simp
  have fr0n : W1.frozen? ⟨w.heap.size + 1, 0, none⟩ = false := by subst hW1; go_simp
  have r1n : W1.cell? ⟨w.heap.size + 1, 1, none⟩ = some (.int .i64 0) := by subst hW1; go_simp
  have fr1n : W1.frozen? ⟨w.heap.size + 1, 1, none⟩ = false := by subst hW1; go_simp
  have r2n : W1.cell? ⟨w.heap.size + 2, 0, none⟩ = some (.int .i64 0) := by subst hW1; go_simp
  have fr2n : W1.frozen? ⟨w.heap.size + 2, 0, none⟩ = false := by subst hW1; go_simp
  clear hW1 
  have qm := qmn
  have qd := qdn
  have r0 := r0n
  have fr0 := fr0n
  have r1 := r1n
  have fr1 := fr1n
  have r2 := r2n
  have fr2 := fr2n
  clear qmn qdn r0n r1n r2n fr0n fr1n fr2n
  go_wp2_with fail
  refine (via (w0 := W1) (by go_grown) (c_isRate m d _)).mono ?_
  rw [h1]
  rintro e W2 ⟨rfl, hc, hf, hz, hB⟩
  have qmn : W2.cell? ⟨w.heap.size, 0, none⟩ = some (.int .i64 m) := (hc _ _ (cell_lt qm)).trans qm
  clear qm
  have qm := qmn
  clear qmn
  have qdn : W2.cell? ⟨w.heap.size, 1, none⟩ = some (.int .i64 d) := (hc _ _ (cell_lt qd)).trans qd
  clear qd
  have qd := qdn
  clear qdn
  have fr0n : W2.frozen? ⟨w.heap.size + 1, 0, none⟩ = false := (hf _ _ (cell_lt r0)).trans fr0
  clear fr0
  have fr0 := fr0n
  clear fr0n
  have r0n : W2.cell? ⟨w.heap.size + 1, 0, none⟩ = some (.int .i64 0) := (hc _ _ (cell_lt r0)).trans r0
  clear r0
  have r0 := r0n
  clear r0n
  have fr1n : W2.frozen? ⟨w.heap.size + 1, 1, none⟩ = false := (hf _ _ (cell_lt r1)).trans fr1
  clear fr1
  have fr1 := fr1n
  clear fr1n
  have r1n : W2.cell? ⟨w.heap.size + 1, 1, none⟩ = some (.int .i64 0) := (hc _ _ (cell_lt r1)).trans r1
  clear r1
  have r1 := r1n
  clear r1n
  have fr2n : W2.frozen? ⟨w.heap.size + 2, 0, none⟩ = false := (hf _ _ (cell_lt r2)).trans fr2
  clear fr2
  have fr2 := fr2n
  clear fr2n
  have r2n : W2.cell? ⟨w.heap.size + 2, 0, none⟩ = some (.int .i64 0) := (hc _ _ (cell_lt r2)).trans r2
  clear r2
  have r2 := r2n
  clear r2n
  have hbn : Below w.heap.size w W2 := bthen hb0 hB
  clear hb0
  have hb0 := hbn
  clear hbn
  have hzW2 : W1.heap.size ≤ W2.heap.size := hz
  clear hc hf hB hz
  go_wp2_with fail
  refine bodyPost_ret (v := rateVal (0, 0, 1)) (by simp [results, Tryz.results21, go_sem, r0, r1, r2]) rfl ⟨rfl, by have hbz := hb0.size; go_grown⟩

set_option maxHeartbeats 2000000 in
theorem c_RateOf_err (m d : Int) (l : List Rc) (a : Option Addr) (cap : Nat) (shep known : Int) (w : World) (hl : Recs w a l) (h1 : rateB m d = true) (h2 : ¬ (crec l).2 = 0) :
    Calls Tryz.prog 21 #[.agg #[.int .i64 m, .int .i64 d], .slice a l.length cap, .int .i64 shep, .int .i64 known] w fun e w' => e = .returned (rateVal (rateV m d l shep known)) ∧ Below w.heap.size w w' := by
  rw [rateV_err h1 h2]
  have h2' : ((crec l).2 == 0) = false := by simpa using h2
  have h2n : ((crec l).2 != 0) = true := by simpa using h2
  have HL := Lib.hid hl
  clear hl h2
  go_enter Tryz.func21, Tryz.ntmps21
  go_upto_region 1 with (fail)
  go_name_world W1 hW1
  have hbn : Below w.heap.size w W1 := by subst hW1; go_grown
  have hb0 := hbn
  clear hbn
  have qmn : W1.cell? ⟨w.heap.size, 0, none⟩ = some (.int .i64 m) := by subst hW1; go_simp
  have qdn : W1.cell? ⟨w.heap.size, 1, none⟩ = some (.int .i64 d) := by subst hW1; go_simp
  have r0n : W1.cell? ⟨w.heap.size + 1, 0, none⟩ = some (.int .i64 0) := by subst hW1; go_simp
  have fr0n : W1.frozen? ⟨w.heap.size + 1, 0, none⟩ = false := by subst hW1; go_simp
  have r1n : W1.cell? ⟨w.heap.size + 1, 1, none⟩ = some (.int .i64 0) := by subst hW1; go_simp
  have fr1n : W1.frozen? ⟨w.heap.size + 1, 1, none⟩ = false := by subst hW1; go_simp
  have r2n : W1.cell? ⟨w.heap.size + 2, 0, none⟩ = some (.int .i64 0) := by subst hW1; go_simp
  have fr2n : W1.frozen? ⟨w.heap.size + 2, 0, none⟩ = false := by subst hW1; go_simp
  clear hW1 
  have qm := qmn
  have qd := qdn
  have r0 := r0n
  have fr0 := fr0n
  have r1 := r1n
  have fr1 := fr1n
  have r2 := r2n
  have fr2 := fr2n
  clear qmn qdn r0n r1n r2n fr0n fr1n fr2n
  go_wp2_with fail
  refine (via (w0 := W1) (by go_grown) (c_isRate m d _)).mono ?_
  rw [h1]
  rintro e W2 ⟨rfl, hc, hf, hz, hB⟩
  have qmn : W2.cell? ⟨w.heap.size, 0, none⟩ = some (.int .i64 m) := (hc _ _ (cell_lt qm)).trans qm
  clear qm
  have qm := qmn
  clear qmn
  have qdn : W2.cell? ⟨w.heap.size, 1, none⟩ = some (.int .i64 d) := (hc _ _ (cell_lt qd)).trans qd
  clear qd
  have qd := qdn
  clear qdn
  have fr0n : W2.frozen? ⟨w.heap.size + 1, 0, none⟩ = false := (hf _ _ (cell_lt r0)).trans fr0
  clear fr0
  have fr0 := fr0n
  clear fr0n
  have r0n : W2.cell? ⟨w.heap.size + 1, 0, none⟩ = some (.int .i64 0) := (hc _ _ (cell_lt r0)).trans r0
  clear r0
  have r0 := r0n
  clear r0n
  have fr1n : W2.frozen? ⟨w.heap.size + 1, 1, none⟩ = false := (hf _ _ (cell_lt r1)).trans fr1
  clear fr1
  have fr1 := fr1n
  clear fr1n
  have r1n : W2.cell? ⟨w.heap.size + 1, 1, none⟩ = some (.int .i64 0) := (hc _ _ (cell_lt r1)).trans r1
  clear r1
  have r1 := r1n
  clear r1n
  have fr2n : W2.frozen? ⟨w.heap.size + 2, 0, none⟩ = false := (hf _ _ (cell_lt r2)).trans fr2
  clear fr2
  have fr2 := fr2n
  clear fr2n
  have r2n : W2.cell? ⟨w.heap.size + 2, 0, none⟩ = some (.int .i64 0) := (hc _ _ (cell_lt r2)).trans r2
  clear r2
  have r2 := r2n
  clear r2n
  have hbn : Below w.heap.size w W2 := bthen hb0 hB
  clear hb0
  have hb0 := hbn
  clear hbn
  have hzW2 : W1.heap.size ≤ W2.heap.size := hz
  clear hc hf hB hz
  go_wp2_with fail
  refine (via (w0 := W2) (by go_grown) (c_CheckRecounts l a cap _ (HL.out.later hb0))).mono ?_
  rintro e W3 ⟨rfl, hc, hf, hz, hB⟩
  have qmn : W3.cell? ⟨w.heap.size, 0, none⟩ = some (.int .i64 m) := (hc _ _ (cell_lt qm)).trans qm
  clear qm
  have qm := qmn
  clear qmn
  have qdn : W3.cell? ⟨w.heap.size, 1, none⟩ = some (.int .i64 d) := (hc _ _ (cell_lt qd)).trans qd
  clear qd
  have qd := qdn
  clear qdn
  have fr0n : W3.frozen? ⟨w.heap.size + 1, 0, none⟩ = false := (hf _ _ (cell_lt r0)).trans fr0
  clear fr0
  have fr0 := fr0n
  clear fr0n
  have r0n : W3.cell? ⟨w.heap.size + 1, 0, none⟩ = some (.int .i64 0) := (hc _ _ (cell_lt r0)).trans r0
  clear r0
  have r0 := r0n
  clear r0n
  have fr1n : W3.frozen? ⟨w.heap.size + 1, 1, none⟩ = false := (hf _ _ (cell_lt r1)).trans fr1
  clear fr1
  have fr1 := fr1n
  clear fr1n
  have r1n : W3.cell? ⟨w.heap.size + 1, 1, none⟩ = some (.int .i64 0) := (hc _ _ (cell_lt r1)).trans r1
  clear r1
  have r1 := r1n
  clear r1n
  have fr2n : W3.frozen? ⟨w.heap.size + 2, 0, none⟩ = false := (hf _ _ (cell_lt r2)).trans fr2
  clear fr2
  have fr2 := fr2n
  clear fr2n
  have r2n : W3.cell? ⟨w.heap.size + 2, 0, none⟩ = some (.int .i64 0) := (hc _ _ (cell_lt r2)).trans r2
  clear r2
  have r2 := r2n
  clear r2n
  have hbn : Below w.heap.size w W3 := bthen hb0 hB
  clear hb0
  have hb0 := hbn
  clear hbn
  have hzW3 : W2.heap.size ≤ W3.heap.size := hz
  clear hc hf hB hz
  go_wp2_with fail
  refine bodyPost_ret (v := rateVal (0, 0, (crec l).2)) (by simp [results, Tryz.results21, go_sem, r0, r1, r2]) rfl ⟨rfl, by have hbz := hb0.size; go_grown⟩

set_option maxRecDepth 100000 in
set_option maxHeartbeats 8000000 in
theorem c_RateOf_loop (m d : Int) (l : List Rc) (a : Option Addr) (cap : Nat) (shep known : Int) (w : World) (hl : Recs w a l) (h1 : rateB m d = true) (h2 : (crec l).2 = 0) :
    Calls Tryz.prog 21 #[.agg #[.int .i64 m, .int .i64 d], .slice a l.length cap, .int .i64 shep, .int .i64 known] w fun e w' => e = .returned (rateVal (rateV m d l shep known)) ∧ Below w.heap.size w w' := by
  have h2' : ((crec l).2 == 0) = true := by simpa using h2
  have h2n : ((crec l).2 != 0) = false := by simpa using h2
  have HL := Lib.hid hl
  have H2 := Lib.hid h2
  clear hl h2
  refine callsIn_wide.1 (callsIn_of_wp_marks (n := 9) Tryz.func21 rfl trivial ?_ rfl)
  refine wpIn_wide.2 ?_
  simp only [Tryz.ntmps21, List.size_toArray, List.length_cons, List.length_nil, Nat.reduceAdd, Nat.reduceSub, Array.replicate_succ, Array.replicate_zero, List.push_toArray, List.append_toArray, List.nil_append, List.cons_append]
  go_upto_region 1 with (fail)
  go_name_world W1 hW1
  have hbn : Below w.heap.size w W1 := by subst hW1; go_grown
  have hb0 := hbn
  clear hbn
  have qmn : W1.cell? ⟨w.heap.size, 0, none⟩ = some (.int .i64 m) := by subst hW1; go_simp
  have qdn : W1.cell? ⟨w.heap.size, 1, none⟩ = some (.int .i64 d) := by subst hW1; go_simp
  have r0n : W1.cell? ⟨w.heap.size + 1, 0, none⟩ = some (.int .i64 0) := by subst hW1; go_simp
  have fr0n : W1.frozen? ⟨w.heap.size + 1, 0, none⟩ = false := by subst hW1; go_simp
  have r1n : W1.cell? ⟨w.heap.size + 1, 1, none⟩ = some (.int .i64 0) := by subst hW1; go_simp
  have fr1n : W1.frozen? ⟨w.heap.size + 1, 1, none⟩ = false := by subst hW1; go_simp
  have r2n : W1.cell? ⟨w.heap.size + 2, 0, none⟩ = some (.int .i64 0) := by subst hW1; go_simp
  have fr2n : W1.frozen? ⟨w.heap.size + 2, 0, none⟩ = false := by subst hW1; go_simp
  clear hW1 
  have qm := qmn
  have qd := qdn
  have r0 := r0n
  have fr0 := fr0n
  have r1 := r1n
  have fr1 := fr1n
  have r2 := r2n
  have fr2 := fr2n
  clear qmn qdn r0n r1n r2n fr0n fr1n fr2n
  go_wp2_with fail
  refine (via (w0 := W1) (by go_grown) (c_isRate m d _)).mono ?_
  rw [h1]
  rintro e W2 ⟨rfl, hc, hf, hz, hB⟩
  have qmn : W2.cell? ⟨w.heap.size, 0, none⟩ = some (.int .i64 m) := (hc _ _ (cell_lt qm)).trans qm
  clear qm
  have qm := qmn
  clear qmn
  have qdn : W2.cell? ⟨w.heap.size, 1, none⟩ = some (.int .i64 d) := (hc _ _ (cell_lt qd)).trans qd
  clear qd
  have qd := qdn
  clear qdn
  have fr0n : W2.frozen? ⟨w.heap.size + 1, 0, none⟩ = false := (hf _ _ (cell_lt r0)).trans fr0
  clear fr0
  have fr0 := fr0n
  clear fr0n
  have r0n : W2.cell? ⟨w.heap.size + 1, 0, none⟩ = some (.int .i64 0) := (hc _ _ (cell_lt r0)).trans r0
  clear r0
  have r0 := r0n
  clear r0n
  have fr1n : W2.frozen? ⟨w.heap.size + 1, 1, none⟩ = false := (hf _ _ (cell_lt r1)).trans fr1
  clear fr1
  have fr1 := fr1n
  clear fr1n
  have r1n : W2.cell? ⟨w.heap.size + 1, 1, none⟩ = some (.int .i64 0) := (hc _ _ (cell_lt r1)).trans r1
  clear r1
  have r1 := r1n
  clear r1n
  have fr2n : W2.frozen? ⟨w.heap.size + 2, 0, none⟩ = false := (hf _ _ (cell_lt r2)).trans fr2
  clear fr2
  have fr2 := fr2n
  clear fr2n
  have r2n : W2.cell? ⟨w.heap.size + 2, 0, none⟩ = some (.int .i64 0) := (hc _ _ (cell_lt r2)).trans r2
  clear r2
  have r2 := r2n
  clear r2n
  have hbn : Below w.heap.size w W2 := bthen hb0 hB
  clear hb0
  have hb0 := hbn
  clear hbn
  have hzW2 : W1.heap.size ≤ W2.heap.size := hz
  clear hc hf hB hz
  go_wp2_with fail
  refine (via (w0 := W2) (by go_grown) (c_CheckRecounts l a cap _ (HL.out.later hb0))).mono ?_
  rw [H2.out]
  rintro e W3 ⟨rfl, hc, hf, hz, hB⟩
  have qmn : W3.cell? ⟨w.heap.size, 0, none⟩ = some (.int .i64 m) := (hc _ _ (cell_lt qm)).trans qm
  clear qm
  have qm := qmn
  clear qmn
  have qdn : W3.cell? ⟨w.heap.size, 1, none⟩ = some (.int .i64 d) := (hc _ _ (cell_lt qd)).trans qd
  clear qd
  have qd := qdn
  clear qdn
  have fr0n : W3.frozen? ⟨w.heap.size + 1, 0, none⟩ = false := (hf _ _ (cell_lt r0)).trans fr0
  clear fr0
  have fr0 := fr0n
  clear fr0n
  have r0n : W3.cell? ⟨w.heap.size + 1, 0, none⟩ = some (.int .i64 0) := (hc _ _ (cell_lt r0)).trans r0
  clear r0
  have r0 := r0n
  clear r0n
  have fr1n : W3.frozen? ⟨w.heap.size + 1, 1, none⟩ = false := (hf _ _ (cell_lt r1)).trans fr1
  clear fr1
  have fr1 := fr1n
  clear fr1n
  have r1n : W3.cell? ⟨w.heap.size + 1, 1, none⟩ = some (.int .i64 0) := (hc _ _ (cell_lt r1)).trans r1
  clear r1
  have r1 := r1n
  clear r1n
  have fr2n : W3.frozen? ⟨w.heap.size + 2, 0, none⟩ = false := (hf _ _ (cell_lt r2)).trans fr2
  clear fr2
  have fr2 := fr2n
  clear fr2n
  have r2n : W3.cell? ⟨w.heap.size + 2, 0, none⟩ = some (.int .i64 0) := (hc _ _ (cell_lt r2)).trans r2
  clear r2
  have r2 := r2n
  clear r2n
  have hbn : Below w.heap.size w W3 := bthen hb0 hB
  clear hb0
  have hb0 := hbn
  clear hbn
  have hzW3 : W2.heap.size ≤ W3.heap.size := hz
  clear hc hf hB hz
  go_upto_region 7 with (fail)
  have y3 := cell_lt r2
  go_name_world W4 hW4
  have hbz := hb0.size
  have hbn : Below w.heap.size w W4 := by subst hW4; go_grown
  clear hb0 hbz
  have hb0 := hbn
  clear hbn
  have hbk : Below W3.heap.size W3 W4 := by subst hW4; go_grown
  have qmn : W4.cell? ⟨w.heap.size, 0, none⟩ = some (.int .i64 m) := ((bcell hbk).1 _ _ (cell_lt qm)).trans qm
  have qdn : W4.cell? ⟨w.heap.size, 1, none⟩ = some (.int .i64 d) := ((bcell hbk).1 _ _ (cell_lt qd)).trans qd
  have r0n : W4.cell? ⟨w.heap.size + 1, 0, none⟩ = some (.int .i64 0) := ((bcell hbk).1 _ _ (cell_lt r0)).trans r0
  have fr0n : W4.frozen? ⟨w.heap.size + 1, 0, none⟩ = false := ((bcell hbk).2 _ _ (cell_lt r0)).trans fr0
  have r1n : W4.cell? ⟨w.heap.size + 1, 1, none⟩ = some (.int .i64 0) := ((bcell hbk).1 _ _ (cell_lt r1)).trans r1
  have fr1n : W4.frozen? ⟨w.heap.size + 1, 1, none⟩ = false := ((bcell hbk).2 _ _ (cell_lt r1)).trans fr1
  have r2n : W4.cell? ⟨w.heap.size + 2, 0, none⟩ = some (.int .i64 0) := ((bcell hbk).1 _ _ (cell_lt r2)).trans r2
  have fr2n : W4.frozen? ⟨w.heap.size + 2, 0, none⟩ = false := ((bcell hbk).2 _ _ (cell_lt r2)).trans fr2
  clear hbk
  have u0n : W4.cell? ⟨W3.heap.size, 0, none⟩ = some (.int .i64 m) := by subst hW4; go_simp
  have fu0n : W4.frozen? ⟨W3.heap.size, 0, none⟩ = false := by subst hW4; go_simp
  have u1n : W4.cell? ⟨W3.heap.size, 1, none⟩ = some (.int .i64 d) := by subst hW4; go_simp
  have fu1n : W4.frozen? ⟨W3.heap.size, 1, none⟩ = false := by subst hW4; go_simp
  clear hW4 qm qd r0 r1 r2 fr0 fr1 fr2
  have qm := qmn
  have qd := qdn
  have r0 := r0n
  have fr0 := fr0n
  have r1 := r1n
  have fr1 := fr1n
  have r2 := r2n
  have fr2 := fr2n
  have u0 := u0n
  have fu0 := fu0n
  have u1 := u1n
  have fu1 := fu1n
  clear qmn qdn r0n r1n r2n u0n u1n fr0n fr1n fr2n fu0n fu1n
  have y1 := cell_lt u0
  have y2 := cell_lt r2
  go_wp2_with fail
  refine (c_of _ _ _ _ _ _).mono ?_
  rintro e W' ⟨rfl, rfl⟩
  go_wp2_with fail
  go_name_world W5 hW5
  have hbz := hb0.size
  have hbn : Below w.heap.size w W5 := by subst hW5; go_grown
  clear hb0 hbz
  have hb0 := hbn
  clear hbn
  have hbk : Below W4.heap.size W4 W5 := by subst hW5; go_grown
  have qmn : W5.cell? ⟨w.heap.size, 0, none⟩ = some (.int .i64 m) := ((bcell hbk).1 _ _ (cell_lt qm)).trans qm
  have qdn : W5.cell? ⟨w.heap.size, 1, none⟩ = some (.int .i64 d) := ((bcell hbk).1 _ _ (cell_lt qd)).trans qd
  have r0n : W5.cell? ⟨w.heap.size + 1, 0, none⟩ = some (.int .i64 0) := ((bcell hbk).1 _ _ (cell_lt r0)).trans r0
  have fr0n : W5.frozen? ⟨w.heap.size + 1, 0, none⟩ = false := ((bcell hbk).2 _ _ (cell_lt r0)).trans fr0
  have r1n : W5.cell? ⟨w.heap.size + 1, 1, none⟩ = some (.int .i64 0) := ((bcell hbk).1 _ _ (cell_lt r1)).trans r1
  have fr1n : W5.frozen? ⟨w.heap.size + 1, 1, none⟩ = false := ((bcell hbk).2 _ _ (cell_lt r1)).trans fr1
  have r2n : W5.cell? ⟨w.heap.size + 2, 0, none⟩ = some (.int .i64 0) := ((bcell hbk).1 _ _ (cell_lt r2)).trans r2
  have fr2n : W5.frozen? ⟨w.heap.size + 2, 0, none⟩ = false := ((bcell hbk).2 _ _ (cell_lt r2)).trans fr2
  have u0n : W5.cell? ⟨W3.heap.size, 0, none⟩ = some (.int .i64 m) := ((bcell hbk).1 _ _ (cell_lt u0)).trans u0
  have fu0n : W5.frozen? ⟨W3.heap.size, 0, none⟩ = false := ((bcell hbk).2 _ _ (cell_lt u0)).trans fu0
  have u1n : W5.cell? ⟨W3.heap.size, 1, none⟩ = some (.int .i64 d) := ((bcell hbk).1 _ _ (cell_lt u1)).trans u1
  have fu1n : W5.frozen? ⟨W3.heap.size, 1, none⟩ = false := ((bcell hbk).2 _ _ (cell_lt u1)).trans fu1
  clear hbk
  have v0n : W5.cell? ⟨W4.heap.size, 0, none⟩ = some (.slice a l.length cap) := by subst hW5; go_simp
  have v1n : W5.cell? ⟨W4.heap.size + 1, 0, none⟩ = some (.int .i64 shep) := by subst hW5; go_simp
  have v2n : W5.cell? ⟨W4.heap.size + 2, 0, none⟩ = some (.int .i64 known) := by subst hW5; go_simp
  clear hW5 qm qd r0 r1 r2 u0 u1 fr0 fr1 fr2 fu0 fu1
  have qm := qmn
  have qd := qdn
  have r0 := r0n
  have fr0 := fr0n
  have r1 := r1n
  have fr1 := fr1n
  have r2 := r2n
  have fr2 := fr2n
  have u0 := u0n
  have fu0 := fu0n
  have u1 := u1n
  have fu1 := fu1n
  have v0 := v0n
  have v1 := v1n
  have v2 := v2n
  clear qmn qdn r0n r1n r2n u0n u1n v0n v1n v2n fr0n fr1n fr2n fu0n fu1n
  have z1 := cell_lt r2
  have z2 := cell_lt u0
  have z3 := cell_lt v2
  have z0 := hzW3
  have z4 := hzW2
  obtain ⟨ys, hys⟩ : ∃ ys, ofShep shep (cnt known l) = ys := ⟨_, rfl⟩
  have hit := iter_of (W4.heap.size) (W4.heap.size + 2) (W4.heap.size + 1) l a cap known shep (fun k => (W4.heap.size ≤ k ∧ k < W5.heap.size) ∨ k < w.heap.size) W5 ?hm1 (.inl ⟨by omega, by omega⟩) ?hm2 v0 v2 v1 (HL.out.later hb0)
  rw [hys] at hit
  refine wp_range (encs := fun x : Rc => #[x.v, askV x]) (ys := ys) (mine := fun k => (W4.heap.size ≤ k ∧ k < W5.heap.size) ∨ k < w.heap.size) rfl (enters_of Tryz.func63 (by kernel_rfl) rfl) ?hm hit (fun _ => rfl) (fun k => k = w.heap.size + 1 ∨ k = w.heap.size + 2 ∨ k = W3.heap.size) ?ho
    (RI w m d (W3.heap.size)) (fun c O A => c = .ret ∧ RX w m d ys O A) ?hI ?hIx ?hlt ?h0
    (fun pre x a' O A => ∃ Bx, RI w m d (W3.heap.size) pre O A ∧ O Bx ∧ BoxAsk A Bx x ∧ a' = { tmps := #[.agg #[.int .i64 m, .int .i64 d], .slice a l.length cap, .int .i64 shep, .int .i64 known, .pointer (some ⟨w.heap.size, 0, none⟩), undef, undef, undef, .pointer (some ⟨w.heap.size + 1, 0, none⟩), .pointer (some ⟨w.heap.size + 2, 0, none⟩), .int .i64 (crec l).1, .int .i64 0, .pointer (some ⟨W3.heap.size, 0, none⟩), undef, .pointer (some ⟨Bx, 0, none⟩), .agg #[.int .i64 m, .int .i64 d], .bool true, .bool false, undef, .tuple #[.int .i64 (crec l).1, .int .i64 0], .slice a l.length cap, .tuple #[.int .i64 (crec l).1, .int .i64 0], .int .i64 (crec l).1, .int .i64 0, .int .i64 0, .bool false, undef, undef, .agg #[.int .i64 m, .int .i64 d], .slice a l.length cap, .int .i64 shep, .int .i64 known, .func (.func 63) #[] #[.pointer (some ⟨W4.heap.size, 0, none⟩), .pointer (some ⟨W4.heap.size + 2, 0, none⟩), .pointer (some ⟨W4.heap.size + 1, 0, none⟩)], x.v, askV x, undef, undef, undef, undef, undef, undef, undef, undef, undef, undef, undef, undef, undef, undef, undef, undef, undef, undef], defers := [] }) ?hM ?assign ?body ?done ?stop
  case hm1 => rintro k (h | h) <;> omega
  case hm2 => exact fun hne b o h => .inr (HL.out.block hne b o h)
  case hm => rintro k (h | h) <;> omega
  case ho => rintro k (h | h) (rfl | rfl | rfl) <;> omega
  case hI => exact fun pre => RI.abide (by omega)
  case hIx => exact fun c O A C h hk => ⟨h.1, RX.abide (by omega) O A C h.2 hk⟩
  case hlt => exact fun pre O A h => h.lt
  case h0 =>
    exact ⟨⟨m, d, rfl, ⟨u0, fu0⟩, ⟨u1, fu1⟩⟩, ⟨r0, fr0⟩, ⟨r1, fr1⟩, ⟨r2, fr2⟩, .inl rfl, .inr (.inl rfl), .inr (.inr rfl), by rintro k (rfl | rfl | rfl) <;> omega, by rintro k (rfl | rfl | rfl) <;> omega, hb0⟩
  case hM =>
    rintro pre x a' O A C ⟨Bx, h, hx, hbx, rfl⟩ hk
    exact ⟨Bx, RI.abide (by omega) O A C h hk, hx, hbx.kept hk (fun y => y.2 hx), rfl⟩
  case assign =>
    rintro lq pre x O A K h hpre hK
    gi_wp2
    have hsz := h.below.size
    refine hK _ (fun k => O k ∨ k = A.heap.size) _ ?_ ((Kept.refl _ _).alloc _) ⟨A.heap.size, ?_, .inr rfl, ?_, rfl⟩
    · rintro k (h | rfl)
      · exact .inl h
      · exact .inr (Nat.le_refl _)
    · obtain ⟨p, q, h1, h2, h3⟩ := h.rate
      have hk : Kept (fun _ => False) A (A.alloc (Obj.cells #[.int .i64 (missV x.t x.n).1, .int .i64 (doubV x.t x.n).1, .bool ((missV x.t x.n).2 && (doubV x.t x.n).2)] 86)) := (Kept.refl _ _).alloc _
      
      refine ⟨⟨p, q, h1, h2.kept hk (fun h => h), h3.kept hk (fun h => h)⟩, h.r0.kept hk (fun h => h), h.r1.kept hk (fun h => h), h.e0.kept hk (fun h => h), .inl h.o1, .inl h.o2, .inl h.o3, ?_, ?_, h.below.alloc hsz _⟩
      · rintro k (hx | rfl)
        · have := h.lt k hx; simp; omega
        · simp
      · rintro k (hx | rfl)
        · exact h.ge k hx
        · exact hsz
    · exact ⟨by go_simp, by go_simp, by unfold Rc.fine; go_simp⟩
  case body =>
    rintro lq pre x a' O A hlq hOl ⟨Bx, H, hx, hbx, rfl⟩ hpre
    obtain ⟨p, q, HP, c1, c2⟩ := H.rate
    have b1 := hbx.m
    have b2 := hbx.d
    have b3 := hbx.ok
    have g0 := H.r0
    have g1 := H.r1
    have g2 := H.e0
    have HH := Lib.hid H
    have HP := Lib.hid HP
    have HX := Lib.hid hpre
    clear H hbx hpre
    by_cases hf : x.fine = true
    · rw [hf] at b3
      have HN : Hid (rfold m d (pre ++ [x]) = some (max p (missV x.t x.n).1, max q (doubV x.t x.n).1)) := by show _ = _; rw [rfold_snoc, HP.out]; simp [rstep, hf]
      obtain ⟨c1, c1f⟩ := c1
      obtain ⟨c2, c2f⟩ := c2
  
      clear hit hys z0 z1 z2 z3 z4 y1 y2 v0 v1 v2 u0 u1 fu0 fu1 r0 r1 r2 fr0 fr1 fr2 qm qd hb0
      gi_wp2
  
      have H := HH.out
      have hk1 : Kept (fun k => k = W3.heap.size) A ((A.setCell { block := W3.heap.size, off := 0 } (Value.int IntKind.i64 (max p (missV x.t x.n).fst))).setCell { block := W3.heap.size, off := 1 } (Value.int IntKind.i64 (max q (doubV x.t x.n).fst))) :=
        Kept.setCell (p := { block := W3.heap.size, off := 1 }) (Kept.setCell (p := { block := W3.heap.size, off := 0 }) (Kept.refl (fun k => k = W3.heap.size) A) (.inl rfl) _) (.inl rfl) _
      have hk2 := hk1.wider (O' := O) (fun j _ h => by rw [h]; exact H.o3)
      exact ⟨O, fun k h => .inl h, hk2, ⟨_, _, HN, ⟨by go_simp, by go_simp⟩, ⟨by go_simp, by go_simp⟩⟩, H.r0.kept hk1 (by omega), H.r1.kept hk1 (by omega), H.e0.kept hk1 (by omega), H.o1, H.o2, H.o3, fun k hx => Nat.lt_of_lt_of_le (H.lt k hx) hk2.size, H.ge, H.below.trans (hk2.below H.below.size H.ge)⟩
    · have hf' : x.fine = false := by simpa using hf
      rw [hf'] at b3
      have HN : Hid (rfold m d (pre ++ [x]) = none) := by show _ = _; rw [rfold_snoc, HP.out]; simp [rstep, hf']
      obtain ⟨g0, g0f⟩ := g0
      obtain ⟨g1, g1f⟩ := g1
      obtain ⟨g2, g2f⟩ := g2
      clear hit hys z0 z1 z2 z3 z4 y1 y2 v0 v1 v2 u0 u1 fu0 fu1 r0 r1 r2 fr0 fr1 fr2 qm qd hb0
      gi_wp2
  
      have H := HH.out
      have hk2 : Kept O A (((A.setCell { block := w.heap.size + 1, off := 0 } (Value.int IntKind.i64 0)).setCell { block := w.heap.size + 1, off := 1 } (Value.int IntKind.i64 0)).setCell { block := w.heap.size + 2, off := 0 } (Value.int IntKind.i64 40)) :=
        (((Kept.refl _ _).setCell (.inl H.o1) _).setCell (.inl H.o1) _).setCell (.inl H.o2) _
      exact ⟨O, fun k h => .inl h, hk2, rfl, rfold_none HX.out HN, by go_simp, by go_simp, by go_simp, H.o1, H.o2, H.ge, H.below.trans (hk2.below H.below.size H.ge)⟩
  case done =>
    rintro D O A hD hOD H hK
    obtain ⟨p, q, HP, c1, c2⟩ := H.rate
    obtain ⟨c1, c1f⟩ := c1
    obtain ⟨c2, c2f⟩ := c2
    obtain ⟨g0, g0f⟩ := H.r0
    obtain ⟨g1, g1f⟩ := H.r1
    obtain ⟨g2, g2f⟩ := H.e0
    have HH := Lib.hid H
    have HP := Lib.hid HP
    clear H
    go_wp2
    obtain ⟨C, hC⟩ : ∃ C, (((A.setCell { block := w.heap.size + 1, off := 0 } (Value.int IntKind.i64 p)).setCell { block := w.heap.size + 1, off := 1 } (Value.int IntKind.i64 q)).setCell { block := w.heap.size + 1 + 1, off := 0 } (Value.int IntKind.i64 0)) = C := ⟨_, rfl⟩
    rw [hC]
    have H := HH.out
    have hk2 : Kept O A C := by subst hC; exact Kept.setCell (Kept.setCell (Kept.setCell (Kept.refl _ _) (.inl H.o1) _) (.inl H.o1) _) (.inl H.o2) _
    have d0 : C.cell? ⟨w.heap.size + 1, 0, none⟩ = some (.int .i64 p) := by subst hC; go_simp
    have d1 : C.cell? ⟨w.heap.size + 1, 1, none⟩ = some (.int .i64 q) := by subst hC; go_simp
    have d2 : C.cell? ⟨w.heap.size + 1 + 1, 0, none⟩ = some (.int .i64 0) := by subst hC; go_simp
    clear hC
    have n1 : ¬ w.heap.size + 1 = D := fun h => hOD (h ▸ H.o1)
    have n2 : ¬ w.heap.size + 1 + 1 = D := fun h => hOD (h ▸ H.o2)
    have hzz := hk2.size
    have hzb := H.below.size
    refine end_collected (v := rateVal (p, q, 0)) ((hk2.block D (Array.getElem?_eq_some_iff.1 hK).1 hOD).trans hK) ?_ ?_ _ (.inr rfl)
    · intro C2 hk3
      have q0 := hk3.cell n1 d0
      have q1 := hk3.cell n1 d1
      have q2 := hk3.cell n2 d2
      simp [results, Tryz.results21, go_sem, q0, q1, q2]
    · intro C2 hk3
      exact ⟨by rw [rateV_some h1 H2.out (by rw [hys]; exact HP.out)], (H.below.trans (hk2.below H.below.size H.ge)).trans (hk3.below (by omega) (by rintro k rfl; omega))⟩
  case stop =>
    rintro D c O A hD hOD ⟨rfl, H⟩ hK
    have g0 := H.r0
    have g1 := H.r1
    have g2 := H.e0
    have HH := Lib.hid H
    clear H
    go_wp2
    obtain ⟨C, hC⟩ : ∃ C, A = C := ⟨_, rfl⟩
    rw [hC]
    have H := HH.out
    have hk2 : Kept O A C := by subst hC; exact Kept.refl _ _
    have d0 : C.cell? ⟨w.heap.size + 1, 0, none⟩ = some (.int .i64 0) := by subst hC; go_simp
    have d1 : C.cell? ⟨w.heap.size + 1, 1, none⟩ = some (.int .i64 0) := by subst hC; go_simp
    have d2 : C.cell? ⟨w.heap.size + 1 + 1, 0, none⟩ = some (.int .i64 40) := by subst hC; go_simp
    clear hC
    have n1 : ¬ w.heap.size + 1 = D := fun h => hOD (h ▸ H.o1)
    have n2 : ¬ w.heap.size + 1 + 1 = D := fun h => hOD (h ▸ H.o2)
    have hzz := hk2.size
    have hzb := H.below.size
    refine end_collected (v := rateVal (0, 0, 40)) ((hk2.block D (Array.getElem?_eq_some_iff.1 hK).1 hOD).trans hK) ?_ ?_ _ (.inr rfl)
    · intro C2 hk3
      have q0 := hk3.cell n1 d0
      have q1 := hk3.cell n1 d1
      have q2 := hk3.cell n2 d2
      simp [results, Tryz.results21, go_sem, q0, q1, q2]
    · intro C2 hk3
      exact ⟨by rw [rateV_none h1 H2.out (by rw [hys]; exact H.rate)], (H.below.trans (hk2.below H.below.size H.ge)).trans (hk3.below (by omega) (by rintro k rfl; omega))⟩

theorem c_RateOf (m d : Int) (l : List Rc) (a : Option Addr) (cap : Nat) (shep known : Int) (w : World) (hl : Recs w a l) :
    Calls Tryz.prog 21 #[.agg #[.int .i64 m, .int .i64 d], .slice a l.length cap, .int .i64 shep, .int .i64 known] w fun e w' => e = .returned (rateVal (rateV m d l shep known)) ∧ Below w.heap.size w w' := by
  by_cases h1 : rateB m d = true
  · by_cases h2 : (crec l).2 = 0
    · exact c_RateOf_loop m d l a cap shep known w hl h1 h2
    · exact c_RateOf_err m d l a cap shep known w hl h1 h2
  · exact c_RateOf_bad m d l a cap shep known w hl (by simpa using h1)
end Go.Proofs.YthdenmbfeanioaaGreatDoor
