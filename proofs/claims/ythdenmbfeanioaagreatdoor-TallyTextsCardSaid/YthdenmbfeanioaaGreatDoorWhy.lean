/- This text proves what Why of package tally returns, for every rate of the house, list of re-counts, shepherd and day of knowledge. -/
import Derived.Test.YthdenmbfeanioaaGreatDoorRate
import Derived.Test.YthdenmbfeanioaaGreatDoorSort
import Derived.Test.YthdenmbfeanioaaGreatDoorRegionIn
import Derived.Maps.OwnIn
import Derived.Test.YthdenmbfeanioaaGreatDoorSides
namespace Go.Proofs.YthdenmbfeanioaaGreatDoor
open Go.RowKit Go.Shelf
attribute [local go_sem] Oper.semAt_some

/-- The re-counts that one side of a rate rests on: none where the house asks as much. -/
def hit (pf : Int → Int → Int) (ra rb : Int) (x : Rc) : Bool := decide (pf (missV x.t x.n).1 (doubV x.t x.n).1 = pf ra rb)
def whySide (pf : Int → Int → Int) (m d ra rb : Int) (ys : List Rc) : List Int :=
  if pf ra rb = pf m d then [] else ((ys.find? (hit pf ra rb)).map Rc.i).toList
def pL (m _d : Int) : Int := m
def pG (_m d : Int) : Int := d
def ids (m d ra rb : Int) (ys : List Rc) : Nat → List Int
  | 0 => []
  | 1 => whySide pL m d ra rb ys
  | _ => whySide pL m d ra rb ys ++ whySide pG m d ra rb ys
theorem whySide_len (pf : Int → Int → Int) (m d ra rb : Int) (ys : List Rc) : (whySide pf m d ra rb ys).length ≤ 1 := by
  unfold whySide
  split
  · simp
  · cases ys.find? (hit pf ra rb) <;> simp
theorem ids_len (m d ra rb : Int) (ys : List Rc) (k : Nat) : (ids m d ra rb ys k).length ≤ 2 := by
  have h1 := whySide_len pL m d ra rb ys
  have h2 := whySide_len pG m d ra rb ys
  unfold ids
  split
  · simp
  · omega
  · simp; omega
theorem find_none_snoc {p : Rc → Bool} {pre : List Rc} {x : Rc} (h : pre.find? p = none) (hx : p x = false) : (pre ++ [x]).find? p = none := by
  rw [List.find?_append, h]; simp [hx]
theorem find_prefix {p : Rc → Bool} {pre ys : List Rc} {x : Rc} (h : pre.find? p = none) (hx : p x = true) (hp : (pre ++ [x]) <+: ys) : ys.find? p = some x := by
  obtain ⟨t, rfl⟩ := hp
  rw [List.find?_append, List.find?_append, h]; simp [hx]
/-- A list of at most two, sorted, without doubles. -/
def two : List Int → List Int
  | [x, y] => if x = y then [x] else [min x y, max x y]
  | l => l
def whyV (m d : Int) (l : List Rc) (shep known : Int) : List Int × Int :=
  if (rateV m d l shep known).2.2 = 0 then (two (ids m d (rateV m d l shep known).1 (rateV m d l shep known).2.1 (ofShep shep (cnt known l)) 2), 0) else ([], (rateV m d l shep known).2.2)
theorem stuckHere {p : Prop} (h : Hid p) : p := h
theorem unHid {p : Prop} (h : p) : Hid p := h
theorem own_slice {w : World} {base : Nat} {e : TypeId} {size n : Nat} {v : Value} {xs : List Value} (h : w.ownsRow base e size v (n + 1) xs) : ∃ g cap, v = .slice (some ⟨g, 0, none⟩) (n + 1) cap := by
  rcases h.2 with ⟨_, h0⟩ | ⟨g, cap, cur, rfl, _⟩
  · omega
  · exact ⟨g, cap, rfl⟩
theorem own_ne {w : World} {base : Nat} {e : TypeId} {size n D : Nat} {v : Value} {xs : List Value} {x : Option (List Deferred)} (h : w.ownsRow base e size v n xs) (hd : w.heap[D]? = some (.deferred x)) : ¬ v.ownBlock = some D := by
  intro hv
  rcases h.2 with ⟨rfl, _⟩ | ⟨g, cap, cur, rfl, _, hg, _⟩
  · simp [Value.ownBlock] at hv
  · simp [Value.ownBlock] at hv
    subst hv
    rw [hg] at hd
    cases hd
theorem own_any {w : World} {base : Nat} {e : TypeId} {size n : Nat} {v : Value} {xs : List Value} (h : w.ownsRow base e size v n xs) : ∃ a cap, v = .slice a n cap := by
  rcases h.2 with ⟨rfl, rfl⟩ | ⟨g, cap, cur, rfl, _⟩
  · exact ⟨none, 0, rfl⟩
  · exact ⟨_, cap, rfl⟩
theorem own_one {w : World} {base : Nat} {v : Value} {x : Int} (h : w.ownsRow base 3 1 v 1 [.int .i64 x]) : ∃ g cap, v = .slice (some ⟨g, 0, none⟩) 1 cap ∧ w.cell? ⟨g, 0, none⟩ = some (.int .i64 x) ∧ base ≤ g := by
  obtain ⟨g, cap, rfl⟩ := own_slice h
  have := h.cells (g := g) rfl 0 _ rfl
  exact ⟨g, cap, rfl, by simpa [Addr.add] using this, (h.lt g rfl).1⟩
theorem own_two {w : World} {base : Nat} {v : Value} {x y : Int} (h : w.ownsRow base 3 1 v 2 [.int .i64 x, .int .i64 y]) : ∃ g cap, v = .slice (some ⟨g, 0, none⟩) 2 cap ∧ Two g x y w ∧ 2 ≤ cap ∧ cap ≤ maxLen ∧ base ≤ g := by
  rcases h.2 with ⟨_, h0⟩ | ⟨g, cap, cur, rfl, hb, hg, h1, h2, _⟩
  · omega
  · have c0 := h.cells (g := g) rfl 0 _ rfl
    have c1 := h.cells (g := g) rfl 1 _ rfl
    exact ⟨g, cap, rfl, ⟨by simpa [Addr.add] using c0, by simpa [Addr.add] using c1, by simp [World.frozen?, hg], by simp [World.frozen?, hg]⟩, h1, h2, hb⟩
theorem ints_nil (w : World) (a : Option Addr) : Ints w a [] := ⟨by simp, fun h => (h rfl).elim⟩
theorem ints_one {w : World} {g : Nat} {x : Int} (h : w.cell? ⟨g, 0, none⟩ = some (.int .i64 x)) : Ints w (some ⟨g, 0, none⟩) [x] :=
  ⟨by simp, fun _ => ⟨g, 0, rfl, fun k hk => by
    obtain rfl : k = 0 := by simp at hk; omega
    simpa [it] using h⟩⟩
theorem ints_two {w : World} {g : Nat} {x y : Int} (h : w.cell? ⟨g, 0, none⟩ = some (.int .i64 x)) (k : w.cell? ⟨g, 1, none⟩ = some (.int .i64 y)) : Ints w (some ⟨g, 0, none⟩) [x, y] :=
  ⟨by simp, fun _ => ⟨g, 0, rfl, fun j hj => by
    have : j = 0 ∨ j = 1 := by simp at hj; omega
    rcases this with rfl | rfl
    · simpa [it] using h
    · simpa [it] using k⟩⟩
theorem info_int : (Tryz.prog.info? 3).map (fun i => (i.zero, i.size, i.bytes)) = some (some (.int .i64 0), 1, 8) := by kernel_rfl
abbrev intV (x : Int) : Value := .int .i64 x

/-- Between two rounds of Why's outer loop. -/
structure WSt (Wb : World) (Bw : Nat) (v : Value) (l : List Int) (A : World) : Prop where
  kept : Kept (fun k => k = Bw) Wb A
  cell : A.cell? ⟨Bw, 0, none⟩ = some v
  frz : A.frozen? ⟨Bw, 0, none⟩ = false
  row : A.ownsRow Wb.heap.size 3 1 v l.length (l.map intV)

/-- Between two rounds over the re-counts. -/
structure WI (W4 : World) (Bw : Nat) (v : Value) (p : Rc → Bool) (pre : List Rc) (O : Nat → Prop) (A : World) : Prop where
  none : pre.find? p = none
  kept : Kept (fun _ => False) W4 A
  o1 : O Bw
  o2 : ∀ g, v.ownBlock = some g → O g
  lt : ∀ k, O k → k < A.heap.size
theorem WI.abide {W4 : World} {Bw : Nat} {v : Value} {p : Rc → Bool} {pre : List Rc} : Abide W4.heap.size (WI W4 Bw v p pre) := by
  intro O A C h hk
  exact ⟨h.none, h.kept.trans hk fun j hj hx => by omega, h.o1, h.o2, fun k hx => Nat.lt_of_lt_of_le (h.lt k hx) hk.size⟩
/-- Where a re-count was found. -/
structure WX (Wb W4 : World) (Bw : Nat) (v : Value) (p : Rc → Bool) (ys : List Rc) (l : List Int) (O : Nat → Prop) (A : World) : Prop where
  found : ∃ x v', ys.find? p = some x ∧ A.cell? ⟨Bw, 0, none⟩ = some v' ∧ A.frozen? ⟨Bw, 0, none⟩ = false ∧ A.ownsRow Wb.heap.size 3 1 v' (l ++ [x.i]).length ((l ++ [x.i]).map intV) ∧ ∀ g, v'.ownBlock = some g → O g
  kept : Kept (fun k => k = Bw ∨ v.ownBlock = some k) W4 A
  o1 : O Bw
theorem WX.abide {Wb W4 : World} {Bw : Nat} {v : Value} {p : Rc → Bool} {ys : List Rc} {l : List Int} : Abide W4.heap.size (WX Wb W4 Bw v p ys l) := by
  intro O A C h hk
  obtain ⟨x, v', h1, h2, h3, h4, h5⟩ := h.found
  have hn : ¬ (W4.heap.size ≤ Bw ∧ ¬ O Bw) := fun e => e.2 h.o1
  exact ⟨⟨x, v', h1, hk.cell hn h2, (hk.frozen (cell_lt h2) hn).trans h3, ownsRow_kept h4 hk (fun g hg e => e.2 (h5 g hg)), h5⟩, h.kept.trans hk fun j hj hx => by omega, h.o1⟩

set_option maxHeartbeats 4000000 in
theorem c_Why_err (m d : Int) (l : List Rc) (a : Option Addr) (cap : Nat) (shep known : Int) (w : World) (hl : Recs w a l) (ra rb e : Int) (h1 : rateV m d l shep known = (ra, rb, e)) (h2 : ¬ e = 0) :
    Calls Tryz.prog 22 #[.agg #[.int .i64 m, .int .i64 d], .slice a l.length cap, .int .i64 shep, .int .i64 known] w fun e w' =>
      (∃ b c, e = .returned (.tuple #[.slice b (whyV m d l shep known).1.length c, .int .i64 (whyV m d l shep known).2]) ∧ Ints w' b (whyV m d l shep known).1) ∧ Below w.heap.size w w' := by
  have hx : whyV m d l shep known = ([], e) := by simp [whyV, h1, h2]
  rw [hx]
  have h2n : (e != 0) = true := by simpa using h2
  have HL := Lib.hid hl
  have H1 := Lib.hid h1
  clear hl hx h1 h2
  go_enter Tryz.func22, Tryz.ntmps22
  go_upto_region 1 with (fail)
  go_name_world W1 hW1
  have hbn : Below w.heap.size w W1 := by subst hW1; go_grown
  have hb0 := hbn
  clear hbn
  have qmn : W1.cell? ⟨w.heap.size, 0, none⟩ = some (.int .i64 m) := by subst hW1; go_simp
  have qdn : W1.cell? ⟨w.heap.size, 1, none⟩ = some (.int .i64 d) := by subst hW1; go_simp
  clear hW1 
  have qm := qmn
  have qd := qdn
  clear qmn qdn 
  go_wp2_with fail
  refine (via (w0 := W1) (by go_grown) (c_RateOf m d l a cap shep known _ (HL.out.later hb0))).mono ?_
  rw [H1.out]
  rintro e W2 ⟨rfl, hc, hf, hz, hB⟩
  have qmn : W2.cell? ⟨w.heap.size, 0, none⟩ = some (.int .i64 m) := (hc _ _ (cell_lt qm)).trans qm
  clear qm
  have qm := qmn
  clear qmn
  have qdn : W2.cell? ⟨w.heap.size, 1, none⟩ = some (.int .i64 d) := (hc _ _ (cell_lt qd)).trans qd
  clear qd
  have qd := qdn
  clear qdn
  have hbn : Below w.heap.size w W2 := bthen hb0 hB
  clear hb0
  have hb0 := hbn
  clear hbn
  have hzW2 : W1.heap.size ≤ W2.heap.size := hz
  clear hc hf hB hz
  go_wp2_with fail
  go_ret2
  exact ⟨⟨none, 0, rfl, by simp [Ints]⟩, by have hbz := hb0.size; go_grown⟩

set_option maxRecDepth 100000 in
set_option maxHeartbeats 8000000 in
theorem c_Why_ok (m d : Int) (l : List Rc) (a : Option Addr) (cap : Nat) (shep known : Int) (w : World) (hl : Recs w a l) (ra rb : Int) (h1 : rateV m d l shep known = (ra, rb, 0)) :
    Calls Tryz.prog 22 #[.agg #[.int .i64 m, .int .i64 d], .slice a l.length cap, .int .i64 shep, .int .i64 known] w fun e w' =>
      (∃ b c, e = .returned (.tuple #[.slice b (whyV m d l shep known).1.length c, .int .i64 (whyV m d l shep known).2]) ∧ Ints w' b (whyV m d l shep known).1) ∧ Below w.heap.size w w' := by
  obtain ⟨ys, hys⟩ : ∃ ys, ofShep shep (cnt known l) = ys := ⟨_, rfl⟩
  have hx : whyV m d l shep known = (two (ids m d ra rb ys 2), 0) := by simp [whyV, h1, hys]
  rw [hx]
  have HL := Lib.hid hl
  have H1 := Lib.hid h1
  have HYS := Lib.hid hys
  clear hl hx h1 hys
  refine callsIn_wide.1 (callsIn_of_wp_marks (n := 9) Tryz.func22 rfl trivial ?_ rfl)
  refine wpIn_wide.2 ?_
  simp only [Tryz.ntmps22, List.size_toArray, List.length_cons, List.length_nil, Nat.reduceAdd, Nat.reduceSub, Array.replicate_succ, Array.replicate_zero, List.push_toArray, List.append_toArray, List.nil_append, List.cons_append]
  go_upto_region 1 with (fail)
  go_name_world W1 hW1
  have hbn : Below w.heap.size w W1 := by subst hW1; go_grown
  have hb0 := hbn
  clear hbn
  have qmn : W1.cell? ⟨w.heap.size, 0, none⟩ = some (.int .i64 m) := by subst hW1; go_simp
  have qdn : W1.cell? ⟨w.heap.size, 1, none⟩ = some (.int .i64 d) := by subst hW1; go_simp
  clear hW1 
  have qm := qmn
  have qd := qdn
  clear qmn qdn 
  go_wp2_with fail
  refine (via (w0 := W1) (by go_grown) (c_RateOf m d l a cap shep known _ (HL.out.later hb0))).mono ?_
  rw [H1.out]
  rintro e W2 ⟨rfl, hc, hf, hz, hB⟩
  have qmn : W2.cell? ⟨w.heap.size, 0, none⟩ = some (.int .i64 m) := (hc _ _ (cell_lt qm)).trans qm
  clear qm
  have qm := qmn
  clear qmn
  have qdn : W2.cell? ⟨w.heap.size, 1, none⟩ = some (.int .i64 d) := (hc _ _ (cell_lt qd)).trans qd
  clear qd
  have qd := qdn
  clear qdn
  have hbn : Below w.heap.size w W2 := bthen hb0 hB
  clear hb0
  have hb0 := hbn
  clear hbn
  have hzW2 : W1.heap.size ≤ W2.heap.size := hz
  clear hc hf hB hz
  go_upto_region 5 with (fail)
  have z6 := cell_lt qm
  go_name_world W3 hW3
  have hbz := hb0.size
  have hbn : Below w.heap.size w W3 := by subst hW3; go_grown
  clear hb0 hbz
  have hb0 := hbn
  clear hbn
  have hbk : Below W2.heap.size W2 W3 := by subst hW3; go_grown
  have qmn : W3.cell? ⟨w.heap.size, 0, none⟩ = some (.int .i64 m) := ((bcell hbk).1 _ _ (cell_lt qm)).trans qm
  have qdn : W3.cell? ⟨w.heap.size, 1, none⟩ = some (.int .i64 d) := ((bcell hbk).1 _ _ (cell_lt qd)).trans qd
  clear hbk
  have u0n : W3.cell? ⟨W2.heap.size, 0, none⟩ = some (.int .i64 ra) := by subst hW3; go_simp
  have u1n : W3.cell? ⟨W2.heap.size, 1, none⟩ = some (.int .i64 rb) := by subst hW3; go_simp
  have yn : W3.cell? ⟨W2.heap.size + 1, 0, none⟩ = some (.slice none 0 0) := by subst hW3; go_simp
  have fyn : W3.frozen? ⟨W2.heap.size + 1, 0, none⟩ = false := by subst hW3; go_simp
  clear hW3 qm qd
  have qm := qmn
  have qd := qdn
  have u0 := u0n
  have u1 := u1n
  have y := yn
  have fy := fyn
  clear qmn qdn u0n u1n yn fyn
  go_wp2_with fail
  refine (via (w0 := W3) (by go_grown) (c_least _)).mono ?_
  rintro e W4 ⟨rfl, hc, hf, hz, hB⟩
  have qmn : W4.cell? ⟨w.heap.size, 0, none⟩ = some (.int .i64 m) := (hc _ _ (cell_lt qm)).trans qm
  clear qm
  have qm := qmn
  clear qmn
  have qdn : W4.cell? ⟨w.heap.size, 1, none⟩ = some (.int .i64 d) := (hc _ _ (cell_lt qd)).trans qd
  clear qd
  have qd := qdn
  clear qdn
  have u0n : W4.cell? ⟨W2.heap.size, 0, none⟩ = some (.int .i64 ra) := (hc _ _ (cell_lt u0)).trans u0
  clear u0
  have u0 := u0n
  clear u0n
  have u1n : W4.cell? ⟨W2.heap.size, 1, none⟩ = some (.int .i64 rb) := (hc _ _ (cell_lt u1)).trans u1
  clear u1
  have u1 := u1n
  clear u1n
  have fyn : W4.frozen? ⟨W2.heap.size + 1, 0, none⟩ = false := (hf _ _ (cell_lt y)).trans fy
  clear fy
  have fy := fyn
  clear fyn
  have yn : W4.cell? ⟨W2.heap.size + 1, 0, none⟩ = some (.slice none 0 0) := (hc _ _ (cell_lt y)).trans y
  clear y
  have y := yn
  clear yn
  have hbn : Below w.heap.size w W4 := bthen hb0 hB
  clear hb0
  have hb0 := hbn
  clear hbn
  have hzW4 : W3.heap.size ≤ W4.heap.size := hz
  clear hc hf hB hz
  go_wp2_with fail
  refine (via (w0 := W4) (by go_grown) (c_greatest _)).mono ?_
  rintro e W5 ⟨rfl, hc, hf, hz, hB⟩
  have qmn : W5.cell? ⟨w.heap.size, 0, none⟩ = some (.int .i64 m) := (hc _ _ (cell_lt qm)).trans qm
  clear qm
  have qm := qmn
  clear qmn
  have qdn : W5.cell? ⟨w.heap.size, 1, none⟩ = some (.int .i64 d) := (hc _ _ (cell_lt qd)).trans qd
  clear qd
  have qd := qdn
  clear qdn
  have u0n : W5.cell? ⟨W2.heap.size, 0, none⟩ = some (.int .i64 ra) := (hc _ _ (cell_lt u0)).trans u0
  clear u0
  have u0 := u0n
  clear u0n
  have u1n : W5.cell? ⟨W2.heap.size, 1, none⟩ = some (.int .i64 rb) := (hc _ _ (cell_lt u1)).trans u1
  clear u1
  have u1 := u1n
  clear u1n
  have fyn : W5.frozen? ⟨W2.heap.size + 1, 0, none⟩ = false := (hf _ _ (cell_lt y)).trans fy
  clear fy
  have fy := fyn
  clear fyn
  have yn : W5.cell? ⟨W2.heap.size + 1, 0, none⟩ = some (.slice none 0 0) := (hc _ _ (cell_lt y)).trans y
  clear y
  have y := yn
  clear yn
  have hbn : Below w.heap.size w W5 := bthen hb0 hB
  clear hb0
  have hb0 := hbn
  clear hbn
  have hzW5 : W4.heap.size ≤ W5.heap.size := hz
  clear hc hf hB hz
  go_wp2_with fail
  have z5 := cell_lt y
  go_name_world W6 hW6
  have hbz := hb0.size
  have hbn : Below w.heap.size w W6 := by subst hW6; go_grown
  clear hb0 hbz
  have hb0 := hbn
  clear hbn
  have hbk : Below W5.heap.size W5 W6 := by subst hW6; go_grown
  have qmn : W6.cell? ⟨w.heap.size, 0, none⟩ = some (.int .i64 m) := ((bcell hbk).1 _ _ (cell_lt qm)).trans qm
  have qdn : W6.cell? ⟨w.heap.size, 1, none⟩ = some (.int .i64 d) := ((bcell hbk).1 _ _ (cell_lt qd)).trans qd
  have u0n : W6.cell? ⟨W2.heap.size, 0, none⟩ = some (.int .i64 ra) := ((bcell hbk).1 _ _ (cell_lt u0)).trans u0
  have u1n : W6.cell? ⟨W2.heap.size, 1, none⟩ = some (.int .i64 rb) := ((bcell hbk).1 _ _ (cell_lt u1)).trans u1
  have yn : W6.cell? ⟨W2.heap.size + 1, 0, none⟩ = some (.slice none 0 0) := ((bcell hbk).1 _ _ (cell_lt y)).trans y
  have fyn : W6.frozen? ⟨W2.heap.size + 1, 0, none⟩ = false := ((bcell hbk).2 _ _ (cell_lt y)).trans fy
  clear hbk
  have g0n : W6.cell? ⟨W5.heap.size, 0, none⟩ = some (.func (.func 56) #[] #[]) := by subst hW6; go_simp
  have g1n : W6.cell? ⟨W5.heap.size, 1, none⟩ = some (.func (.func 57) #[] #[]) := by subst hW6; go_simp
  have g2n : W6.cell? ⟨W5.heap.size, 2, none⟩ = some (.func (.func 58) #[] #[]) := by subst hW6; go_simp
  have g3n : W6.cell? ⟨W5.heap.size, 3, none⟩ = some (.func (.func 59) #[] #[]) := by subst hW6; go_simp
  clear hW6 qm qd u0 u1 y fy
  have qm := qmn
  have qd := qdn
  have u0 := u0n
  have u1 := u1n
  have y := yn
  have fy := fyn
  have g0 := g0n
  have g1 := g1n
  have g2 := g2n
  have g3 := g3n
  clear qmn qdn u0n u1n yn g0n g1n g2n g3n fyn
  have z1 := cell_lt y
  have z2 := cell_lt g0
  have z3 := cell_lt u0
  have z4 := cell_lt qm
  have zb := hb0.size
  refine wp_loop (fun act wr => ∃ (k : Nat) (v : Value) (Ds : List Nat) (u14 u33 u34 u35 u36 u37 u38 u39 u40 u41 u42 u43 u44 u45 u46 u47 u48 u66 : Value), k ≤ 2 ∧ WSt W6 (W2.heap.size + 1) v (ids m d ra rb ys k) wr ∧ Coll W6.heap.size wr Ds ∧ act = { tmps := #[.agg #[.int .i64 m, .int .i64 d], .slice a l.length cap, .int .i64 shep, .int .i64 known, .pointer (some ⟨w.heap.size, 0, none⟩), undef, undef, undef, .slice none 0 0, .int .i64 0, .pointer (some ⟨W2.heap.size, 0, none⟩), .int .i64 0, .pointer (some ⟨W2.heap.size + 1, 0, none⟩), undef, u14, undef, undef, rateVal (ra, rb, 0), .agg #[.int .i64 m, .int .i64 d], .slice a l.length cap, .int .i64 shep, .int .i64 known, rateVal (ra, rb, 0), .agg #[.int .i64 ra, .int .i64 rb], .int .i64 0, .int .i64 0, .bool false, undef, leastV, greatestV, .slice (some ⟨W5.heap.size, 0, none⟩) 2 2, .int .i64 2, .int .i64 k, u33, u34, u35, u36, u37, u38, u39, u40, u41, u42, u43, u44, u45, u46, u47, u48, undef, undef, undef, undef, undef, undef, undef, undef, undef, undef, undef, undef, undef, undef, undef, undef, undef, u66, undef, undef, undef, undef], defers := Ds.map col }) (fun act _ => 2 - (intOf (act.tmps.getD 32 undef)).toNat) ?start ?round
  case start => exact ⟨0, .slice none 0 0, [], _, _, _, _, _, _, _, _, _, _, _, _, _, _, _, _, _, _, by omega, ⟨Kept.refl _ _, y, fy, World.ownsRow_nil _ _ _ _⟩, ⟨List.nodup_nil, by simp⟩, rfl⟩
  case round =>
    rintro act wr ⟨k, v, Ds, u14, u33, u34, u35, u36, u37, u38, u39, u40, u41, u42, u43, u44, u45, u46, u47, u48, u66, hk, hst, hcoll, rfl⟩
    have hk3 : k = 0 ∨ k = 1 ∨ k = 2 := by omega
    have hbw : Below w.heap.size w wr := hb0.trans (hst.kept.below (by omega) (by rintro j rfl; omega))
    have y' := hst.cell
    have fy' := hst.frz
    have sz1 := hst.kept.size
    have hown := hst.row.lt
    have qm' := hst.kept.cell (by omega) qm
    have qd' := hst.kept.cell (by omega) qd
    have u0' := hst.kept.cell (by omega) u0
    have u1' := hst.kept.cell (by omega) u1
    have g0' := hst.kept.cell (by omega) g0
    have g1' := hst.kept.cell (by omega) g1
    have g2' := hst.kept.cell (by omega) g2
    have g3' := hst.kept.cell (by omega) g3
    clear hb0 qm qd u0 u1 y fy g0 g1 g2 g3
    have hb0 : Below wr.heap.size wr wr := Below.refl _ _
    have HBW := Lib.hid hbw
    clear hbw
    have qm := qm'
    clear qm'
    have qd := qd'
    clear qd'
    have u0 := u0'
    clear u0'
    have u1 := u1'
    clear u1'
    have y := y'
    clear y'
    have g0 := g0'
    clear g0'
    have g1 := g1'
    clear g1'
    have g2 := g2'
    clear g2'
    have g3 := g3'
    clear g3'
    have fy := fy'
    clear fy'
    have HST := Lib.hid hst
    have HCO := Lib.hid hcoll
    have HOWN := Lib.hid hown
    clear hst hcoll hown
    obtain ⟨i0, hi0, hz0, hz1, hz2⟩ := info_parts info_int
    rcases hk3 with rfl | rfl | rfl
    · by_cases he : ra = m
      · have hd : (ra == m) = true := by simpa using he
        have hi : ids m d ra rb ys 1 = ids m d ra rb ys 0 := by simp [ids, whySide, pL, he]
        have HI := Lib.hid hi
        clear hi he
        go_upto_region 8 with (fail)
        go_name_world W7 hW7
        have hbz := hb0.size
        have hbn : Below wr.heap.size wr W7 := by subst hW7; go_grown
        clear hb0 hbz
        have hb0 := hbn
        clear hbn
        have hbk : Below wr.heap.size wr W7 := by subst hW7; go_grown
        have qmn : W7.cell? ⟨w.heap.size, 0, none⟩ = some (.int .i64 m) := ((bcell hbk).1 _ _ (cell_lt qm)).trans qm
        have qdn : W7.cell? ⟨w.heap.size, 1, none⟩ = some (.int .i64 d) := ((bcell hbk).1 _ _ (cell_lt qd)).trans qd
        have u0n : W7.cell? ⟨W2.heap.size, 0, none⟩ = some (.int .i64 ra) := ((bcell hbk).1 _ _ (cell_lt u0)).trans u0
        have u1n : W7.cell? ⟨W2.heap.size, 1, none⟩ = some (.int .i64 rb) := ((bcell hbk).1 _ _ (cell_lt u1)).trans u1
        have yn : W7.cell? ⟨W2.heap.size + 1, 0, none⟩ = some (v) := ((bcell hbk).1 _ _ (cell_lt y)).trans y
        have fyn : W7.frozen? ⟨W2.heap.size + 1, 0, none⟩ = false := ((bcell hbk).2 _ _ (cell_lt y)).trans fy
        have g0n : W7.cell? ⟨W5.heap.size, 0, none⟩ = some (.func (.func 56) #[] #[]) := ((bcell hbk).1 _ _ (cell_lt g0)).trans g0
        have g1n : W7.cell? ⟨W5.heap.size, 1, none⟩ = some (.func (.func 57) #[] #[]) := ((bcell hbk).1 _ _ (cell_lt g1)).trans g1
        have g2n : W7.cell? ⟨W5.heap.size, 2, none⟩ = some (.func (.func 58) #[] #[]) := ((bcell hbk).1 _ _ (cell_lt g2)).trans g2
        have g3n : W7.cell? ⟨W5.heap.size, 3, none⟩ = some (.func (.func 59) #[] #[]) := ((bcell hbk).1 _ _ (cell_lt g3)).trans g3
        clear hbk
        have t0n : W7.cell? ⟨wr.heap.size, 0, none⟩ = some (.func (.func 56) #[] #[]) := by subst hW7; go_simp
        have t1n : W7.cell? ⟨wr.heap.size, 1, none⟩ = some (.func (.func 57) #[] #[]) := by subst hW7; go_simp
        clear hW7 qm qd u0 u1 y g0 g1 g2 g3 fy
        have qm := qmn
        have qd := qdn
        have u0 := u0n
        have u1 := u1n
        have y := yn
        have fy := fyn
        have g0 := g0n
        have g1 := g1n
        have g2 := g2n
        have g3 := g3n
        have t0 := t0n
        have t1 := t1n
        clear qmn qdn u0n u1n yn g0n g1n g2n g3n t0n t1n fyn
        go_wp2_with fail
        have kqm := later_cell qm
        have kqd := later_cell qd
        have ku0 := later_cell u0
        have ku1 := later_cell u1
        have ky := later_cell y
        have kg0 := later_cell g0
        have kg1 := later_cell g1
        have kg2 := later_cell g2
        have kg3 := later_cell g3
        have kt0 := later_cell t0
        have kt1 := later_cell t1
        refine wp_region_later W7 (by kernel_rfl) (by kernel_rfl) (Below.refl _ _) ?_
        repeat (go_big_quiet_step (first | (go_at_call 57; with_reducible exact in_region (c_least2 _ _ _))))
        refine wpQuiet_nil ?_
        rintro ⟨W8, hB⟩
        dsimp only
        have hc := (bcell hB).1
        have hf := (bcell hB).2
        have hz := hB.size
        clear kqm kqd ku0 ku1 ky kg0 kg1 kg2 kg3 kt0 kt1
        have qmn : W8.cell? ⟨w.heap.size, 0, none⟩ = some (.int .i64 m) := (hc _ _ (cell_lt qm)).trans qm
        clear qm
        have qm := qmn
        clear qmn
        have qdn : W8.cell? ⟨w.heap.size, 1, none⟩ = some (.int .i64 d) := (hc _ _ (cell_lt qd)).trans qd
        clear qd
        have qd := qdn
        clear qdn
        have u0n : W8.cell? ⟨W2.heap.size, 0, none⟩ = some (.int .i64 ra) := (hc _ _ (cell_lt u0)).trans u0
        clear u0
        have u0 := u0n
        clear u0n
        have u1n : W8.cell? ⟨W2.heap.size, 1, none⟩ = some (.int .i64 rb) := (hc _ _ (cell_lt u1)).trans u1
        clear u1
        have u1 := u1n
        clear u1n
        have fyn : W8.frozen? ⟨W2.heap.size + 1, 0, none⟩ = false := (hf _ _ (cell_lt y)).trans fy
        clear fy
        have fy := fyn
        clear fyn
        have yn : W8.cell? ⟨W2.heap.size + 1, 0, none⟩ = some (v) := (hc _ _ (cell_lt y)).trans y
        clear y
        have y := yn
        clear yn
        have g0n : W8.cell? ⟨W5.heap.size, 0, none⟩ = some (.func (.func 56) #[] #[]) := (hc _ _ (cell_lt g0)).trans g0
        clear g0
        have g0 := g0n
        clear g0n
        have g1n : W8.cell? ⟨W5.heap.size, 1, none⟩ = some (.func (.func 57) #[] #[]) := (hc _ _ (cell_lt g1)).trans g1
        clear g1
        have g1 := g1n
        clear g1n
        have g2n : W8.cell? ⟨W5.heap.size, 2, none⟩ = some (.func (.func 58) #[] #[]) := (hc _ _ (cell_lt g2)).trans g2
        clear g2
        have g2 := g2n
        clear g2n
        have g3n : W8.cell? ⟨W5.heap.size, 3, none⟩ = some (.func (.func 59) #[] #[]) := (hc _ _ (cell_lt g3)).trans g3
        clear g3
        have g3 := g3n
        clear g3n
        have t0n : W8.cell? ⟨wr.heap.size, 0, none⟩ = some (.func (.func 56) #[] #[]) := (hc _ _ (cell_lt t0)).trans t0
        clear t0
        have t0 := t0n
        clear t0n
        have t1n : W8.cell? ⟨wr.heap.size, 1, none⟩ = some (.func (.func 57) #[] #[]) := (hc _ _ (cell_lt t1)).trans t1
        clear t1
        have t1 := t1n
        clear t1n
        have hbn : Below wr.heap.size wr W8 := bthen hb0 hB
        clear hb0
        have hb0 := hbn
        clear hbn
        have hzW8 : W7.heap.size ≤ W8.heap.size := hz
        clear hc hf hB hz
        go_wp2_with fail
        have hke : Kept (fun _ => False) wr W8 := Kept.of_below hb0
        refine ⟨⟨1, v, Ds, _, _, _, _, _, _, _, _, _, _, _, _, _, _, _, _, _, _, by omega, ⟨HST.out.kept.trans hke (fun _ _ h => h.elim), y, fy, ?_⟩, HCO.out.kept hke (fun _ _ h => h), rfl⟩, by simp [intOf]⟩
        rw [HI.out]
        exact ownsRow_kept HST.out.row hke (fun _ _ h => h)
      · have hd : (ra == m) = false := by simpa using he
        have HE := Lib.hid he
        clear he
        go_upto_region 8 with (fail)
        go_name_world W7 hW7
        have hbz := hb0.size
        have hbn : Below wr.heap.size wr W7 := by subst hW7; go_grown
        clear hb0 hbz
        have hb0 := hbn
        clear hbn
        have hbk : Below wr.heap.size wr W7 := by subst hW7; go_grown
        have qmn : W7.cell? ⟨w.heap.size, 0, none⟩ = some (.int .i64 m) := ((bcell hbk).1 _ _ (cell_lt qm)).trans qm
        have qdn : W7.cell? ⟨w.heap.size, 1, none⟩ = some (.int .i64 d) := ((bcell hbk).1 _ _ (cell_lt qd)).trans qd
        have u0n : W7.cell? ⟨W2.heap.size, 0, none⟩ = some (.int .i64 ra) := ((bcell hbk).1 _ _ (cell_lt u0)).trans u0
        have u1n : W7.cell? ⟨W2.heap.size, 1, none⟩ = some (.int .i64 rb) := ((bcell hbk).1 _ _ (cell_lt u1)).trans u1
        have yn : W7.cell? ⟨W2.heap.size + 1, 0, none⟩ = some (v) := ((bcell hbk).1 _ _ (cell_lt y)).trans y
        have fyn : W7.frozen? ⟨W2.heap.size + 1, 0, none⟩ = false := ((bcell hbk).2 _ _ (cell_lt y)).trans fy
        have g0n : W7.cell? ⟨W5.heap.size, 0, none⟩ = some (.func (.func 56) #[] #[]) := ((bcell hbk).1 _ _ (cell_lt g0)).trans g0
        have g1n : W7.cell? ⟨W5.heap.size, 1, none⟩ = some (.func (.func 57) #[] #[]) := ((bcell hbk).1 _ _ (cell_lt g1)).trans g1
        have g2n : W7.cell? ⟨W5.heap.size, 2, none⟩ = some (.func (.func 58) #[] #[]) := ((bcell hbk).1 _ _ (cell_lt g2)).trans g2
        have g3n : W7.cell? ⟨W5.heap.size, 3, none⟩ = some (.func (.func 59) #[] #[]) := ((bcell hbk).1 _ _ (cell_lt g3)).trans g3
        clear hbk
        have t0n : W7.cell? ⟨wr.heap.size, 0, none⟩ = some (.func (.func 56) #[] #[]) := by subst hW7; go_simp
        have t1n : W7.cell? ⟨wr.heap.size, 1, none⟩ = some (.func (.func 57) #[] #[]) := by subst hW7; go_simp
        clear hW7 qm qd u0 u1 y g0 g1 g2 g3 fy
        have qm := qmn
        have qd := qdn
        have u0 := u0n
        have u1 := u1n
        have y := yn
        have fy := fyn
        have g0 := g0n
        have g1 := g1n
        have g2 := g2n
        have g3 := g3n
        have t0 := t0n
        have t1 := t1n
        clear qmn qdn u0n u1n yn g0n g1n g2n g3n t0n t1n fyn
        go_wp2_with fail
        have kqm := later_cell qm
        have kqd := later_cell qd
        have ku0 := later_cell u0
        have ku1 := later_cell u1
        have ky := later_cell y
        have kg0 := later_cell g0
        have kg1 := later_cell g1
        have kg2 := later_cell g2
        have kg3 := later_cell g3
        have kt0 := later_cell t0
        have kt1 := later_cell t1
        refine wp_region_later W7 (by kernel_rfl) (by kernel_rfl) (Below.refl _ _) ?_
        repeat (go_big_quiet_step (first | (go_at_call 57; with_reducible exact in_region (c_least2 _ _ _))))
        refine wpQuiet_nil ?_
        rintro ⟨W8, hB⟩
        dsimp only
        have hc := (bcell hB).1
        have hf := (bcell hB).2
        have hz := hB.size
        clear kqm kqd ku0 ku1 ky kg0 kg1 kg2 kg3 kt0 kt1
        have qmn : W8.cell? ⟨w.heap.size, 0, none⟩ = some (.int .i64 m) := (hc _ _ (cell_lt qm)).trans qm
        clear qm
        have qm := qmn
        clear qmn
        have qdn : W8.cell? ⟨w.heap.size, 1, none⟩ = some (.int .i64 d) := (hc _ _ (cell_lt qd)).trans qd
        clear qd
        have qd := qdn
        clear qdn
        have u0n : W8.cell? ⟨W2.heap.size, 0, none⟩ = some (.int .i64 ra) := (hc _ _ (cell_lt u0)).trans u0
        clear u0
        have u0 := u0n
        clear u0n
        have u1n : W8.cell? ⟨W2.heap.size, 1, none⟩ = some (.int .i64 rb) := (hc _ _ (cell_lt u1)).trans u1
        clear u1
        have u1 := u1n
        clear u1n
        have fyn : W8.frozen? ⟨W2.heap.size + 1, 0, none⟩ = false := (hf _ _ (cell_lt y)).trans fy
        clear fy
        have fy := fyn
        clear fyn
        have yn : W8.cell? ⟨W2.heap.size + 1, 0, none⟩ = some (v) := (hc _ _ (cell_lt y)).trans y
        clear y
        have y := yn
        clear yn
        have g0n : W8.cell? ⟨W5.heap.size, 0, none⟩ = some (.func (.func 56) #[] #[]) := (hc _ _ (cell_lt g0)).trans g0
        clear g0
        have g0 := g0n
        clear g0n
        have g1n : W8.cell? ⟨W5.heap.size, 1, none⟩ = some (.func (.func 57) #[] #[]) := (hc _ _ (cell_lt g1)).trans g1
        clear g1
        have g1 := g1n
        clear g1n
        have g2n : W8.cell? ⟨W5.heap.size, 2, none⟩ = some (.func (.func 58) #[] #[]) := (hc _ _ (cell_lt g2)).trans g2
        clear g2
        have g2 := g2n
        clear g2n
        have g3n : W8.cell? ⟨W5.heap.size, 3, none⟩ = some (.func (.func 59) #[] #[]) := (hc _ _ (cell_lt g3)).trans g3
        clear g3
        have g3 := g3n
        clear g3n
        have t0n : W8.cell? ⟨wr.heap.size, 0, none⟩ = some (.func (.func 56) #[] #[]) := (hc _ _ (cell_lt t0)).trans t0
        clear t0
        have t0 := t0n
        clear t0n
        have t1n : W8.cell? ⟨wr.heap.size, 1, none⟩ = some (.func (.func 57) #[] #[]) := (hc _ _ (cell_lt t1)).trans t1
        clear t1
        have t1 := t1n
        clear t1n
        have hbn : Below wr.heap.size wr W8 := bthen hb0 hB
        clear hb0
        have hb0 := hbn
        clear hbn
        have hzW8 : W7.heap.size ≤ W8.heap.size := hz
        clear hc hf hB hz
        go_wp2_with fail
        have s4 : wr.heap.size ≤ W8.heap.size := hb0.size
        refine (c_of _ _ _ _ _ _).mono ?_
        rintro e W' ⟨rfl, rfl⟩
        go_wp2_with fail
        go_name_world W9 hW9
        have hbz := hb0.size
        have hbn : Below wr.heap.size wr W9 := by subst hW9; go_grown
        clear hb0 hbz
        have hb0 := hbn
        clear hbn
        have hbk : Below W8.heap.size W8 W9 := by subst hW9; go_grown
        have qmn : W9.cell? ⟨w.heap.size, 0, none⟩ = some (.int .i64 m) := ((bcell hbk).1 _ _ (cell_lt qm)).trans qm
        have qdn : W9.cell? ⟨w.heap.size, 1, none⟩ = some (.int .i64 d) := ((bcell hbk).1 _ _ (cell_lt qd)).trans qd
        have u0n : W9.cell? ⟨W2.heap.size, 0, none⟩ = some (.int .i64 ra) := ((bcell hbk).1 _ _ (cell_lt u0)).trans u0
        have u1n : W9.cell? ⟨W2.heap.size, 1, none⟩ = some (.int .i64 rb) := ((bcell hbk).1 _ _ (cell_lt u1)).trans u1
        have yn : W9.cell? ⟨W2.heap.size + 1, 0, none⟩ = some (v) := ((bcell hbk).1 _ _ (cell_lt y)).trans y
        have fyn : W9.frozen? ⟨W2.heap.size + 1, 0, none⟩ = false := ((bcell hbk).2 _ _ (cell_lt y)).trans fy
        have g0n : W9.cell? ⟨W5.heap.size, 0, none⟩ = some (.func (.func 56) #[] #[]) := ((bcell hbk).1 _ _ (cell_lt g0)).trans g0
        have g1n : W9.cell? ⟨W5.heap.size, 1, none⟩ = some (.func (.func 57) #[] #[]) := ((bcell hbk).1 _ _ (cell_lt g1)).trans g1
        have g2n : W9.cell? ⟨W5.heap.size, 2, none⟩ = some (.func (.func 58) #[] #[]) := ((bcell hbk).1 _ _ (cell_lt g2)).trans g2
        have g3n : W9.cell? ⟨W5.heap.size, 3, none⟩ = some (.func (.func 59) #[] #[]) := ((bcell hbk).1 _ _ (cell_lt g3)).trans g3
        have t0n : W9.cell? ⟨wr.heap.size, 0, none⟩ = some (.func (.func 56) #[] #[]) := ((bcell hbk).1 _ _ (cell_lt t0)).trans t0
        have t1n : W9.cell? ⟨wr.heap.size, 1, none⟩ = some (.func (.func 57) #[] #[]) := ((bcell hbk).1 _ _ (cell_lt t1)).trans t1
        clear hbk
        have v0n : W9.cell? ⟨W8.heap.size, 0, none⟩ = some (.slice a l.length cap) := by subst hW9; go_simp
        have v1n : W9.cell? ⟨W8.heap.size + 1, 0, none⟩ = some (.int .i64 shep) := by subst hW9; go_simp
        have v2n : W9.cell? ⟨W8.heap.size + 2, 0, none⟩ = some (.int .i64 known) := by subst hW9; go_simp
        clear hW9 qm qd u0 u1 y g0 g1 g2 g3 t0 t1 fy
        have qm := qmn
        have qd := qdn
        have u0 := u0n
        have u1 := u1n
        have y := yn
        have fy := fyn
        have g0 := g0n
        have g1 := g1n
        have g2 := g2n
        have g3 := g3n
        have t0 := t0n
        have t1 := t1n
        have v0 := v0n
        have v1 := v1n
        have v2 := v2n
        clear qmn qdn u0n u1n yn g0n g1n g2n g3n t0n t1n v0n v1n v2n fyn
        have s5 := cell_lt v2
        have hiter := iter_of (W8.heap.size) (W8.heap.size + 2) (W8.heap.size + 1) l a cap known shep (fun k => (W8.heap.size ≤ k ∧ k < W9.heap.size) ∨ k < w.heap.size) W9 ?hm1 (.inl ⟨by omega, by have := cell_lt v1; omega⟩) ?hm2 v0 v2 v1 (HL.out.later (bthen HBW.out hb0))
        rw [HYS.out] at hiter
        have HH := HOWN.out
        have sz1 := sz1
        refine wp_range (encs := fun x : Rc => #[x.v, askV x]) (ys := ys) (mine := fun k => (W8.heap.size ≤ k ∧ k < W9.heap.size) ∨ k < w.heap.size) rfl (enters_of Tryz.func63 (by kernel_rfl) rfl) ?hm hiter (fun _ => rfl) (fun k => k = W2.heap.size + 1 ∨ v.ownBlock = some k) ?ho
          (WI W9 (W2.heap.size + 1) v (hit pL ra rb)) (fun c O A => c = .exit 2 ∧ WX W6 W9 (W2.heap.size + 1) v (hit pL ra rb) ys (ids m d ra rb ys 0) O A) ?hI ?hIx ?hlt ?h0
          (fun pre x a' O A => ∃ Bx By, WI W9 (W2.heap.size + 1) v (hit pL ra rb) pre O A ∧ O Bx ∧ O By ∧ BoxRc A Bx x ∧ BoxAsk A By x ∧ a' = { tmps := #[.agg #[.int .i64 m, .int .i64 d], .slice a l.length cap, .int .i64 shep, .int .i64 known, .pointer (some ⟨w.heap.size, 0, none⟩), undef, undef, undef, .slice none 0 0, .int .i64 0, .pointer (some ⟨W2.heap.size, 0, none⟩), .int .i64 0, .pointer (some ⟨W2.heap.size + 1, 0, none⟩), undef, .pointer (some ⟨wr.heap.size, 0, none⟩), .pointer (some ⟨Bx, 0, none⟩), .pointer (some ⟨By, 0, none⟩), rateVal (ra, rb, 0), .agg #[.int .i64 m, .int .i64 d], .slice a l.length cap, .int .i64 shep, .int .i64 known, rateVal (ra, rb, 0), .agg #[.int .i64 ra, .int .i64 rb], .int .i64 0, .int .i64 0, .bool false, undef, leastV, greatestV, .slice (some ⟨W5.heap.size, 0, none⟩) 2 2, .int .i64 2, .int .i64 0, .bool true, .pointer (some ⟨W5.heap.size, 0, none⟩), .agg #[.func (.func 56) #[] #[], .func (.func 57) #[] #[]], .pointer (some ⟨wr.heap.size, 1, none⟩), .func (.func 57) #[] #[], .agg #[.int .i64 ra, .int .i64 rb], .int .i64 ra, .pointer (some ⟨wr.heap.size, 1, none⟩), .func (.func 57) #[] #[], .agg #[.int .i64 m, .int .i64 d], .int .i64 m, .bool false, .slice a l.length cap, .int .i64 shep, .int .i64 known, .func (.func 63) #[] #[.pointer (some ⟨W8.heap.size, 0, none⟩), .pointer (some ⟨W8.heap.size + 2, 0, none⟩), .pointer (some ⟨W8.heap.size + 1, 0, none⟩)], x.v, askV x, undef, undef, undef, undef, undef, undef, undef, undef, undef, undef, undef, undef, undef, undef, undef, u66, undef, undef, undef, undef], defers := [] }) ?hM ?assign ?body ?done ?stop
        case hm1 => rintro j (h | h) <;> omega
        case hm2 => exact fun hne b o h => .inr (HL.out.block hne b o h)
        case hm => rintro j (h | h) <;> omega
        case ho =>
          rintro j (h | h) (rfl | hv)
          · omega
          · have := HH j hv; omega
          · omega
          · have := HH j hv; omega
        case hI => exact fun pre => WI.abide
        case hIx => exact fun c O A C h hk => ⟨h.1, WX.abide O A C h.2 hk⟩
        case hlt => exact fun pre O A h => h.lt
        case h0 =>
          refine ⟨rfl, Kept.refl _ _, .inl rfl, fun g hg => .inr hg, ?_⟩
          rintro j (rfl | hv)
          · omega
          · have := HH j hv; omega
        case hM =>
          rintro pre x a' O A C ⟨Bx, By, h, hx, hy, hbx, hby, rfl⟩ hk
          exact ⟨Bx, By, WI.abide O A C h hk, hx, hy, hbx.kept hk (fun y => y.2 hx), hby.kept hk (fun y => y.2 hy), rfl⟩
        case assign =>
          rintro lq pre x O A K h hpre hK
          gi_wp2
          refine hK _ (fun k => O k ∨ k = A.heap.size ∨ k = A.heap.size + 1) _ ?_ (((Kept.refl _ _).alloc _).alloc _) ⟨A.heap.size, A.heap.size + 1, ?_, .inr (.inl rfl), .inr (.inr rfl), ?_, ?_, rfl⟩
          · rintro j (h | rfl | rfl)
            · exact .inl h
            · exact .inr (Nat.le_refl _)
            · exact .inr (Nat.le_succ _)
          · refine ⟨h.none, (h.kept.alloc _).alloc _, .inl h.o1, fun g hg => .inl (h.o2 g hg), ?_⟩
            rintro j (hx | rfl | rfl)
            · have := h.lt j hx; simp; omega
            · simp; omega
            · simp
          · exact ⟨by go_simp, by go_simp, by go_simp, by go_simp, by go_simp, by go_simp⟩
          · exact ⟨by go_simp, by go_simp, by unfold Rc.fine; go_simp⟩
        case body =>
          rintro lq pre x a' O A hlq hOl ⟨Bx, By, h, hx, hy, hbx, hby, rfl⟩ hpre
          have e1 := h.kept.cell (fun h => h) t1
          have e2 := h.kept.cell (fun h => h) u0
          have e3 := h.kept.cell (fun h => h) u1
          have b1 := hby.m
          have b2 := hby.d
          have x1 := hbx.i
          have e4 := h.kept.cell (fun h => h) y
          have e4f := (h.kept.frozen (cell_lt y) (fun h => h)).trans fy
          have hrow := ownsRow_kept (ownsRow_kept HST.out.row (Kept.of_below (O := fun _ => False) hb0) (fun _ _ h => h)) h.kept (fun _ _ h => h)
          have hk9 := h.kept.size
          have h9 := hb0.size
          have hlen := ids_len m d ra rb ys 0
          have HP := Lib.hid hpre
          have HW := Lib.hid h
          have HROW := Lib.hid hrow
          have hht : hit pL ra rb x = decide ((missV x.t x.n).1 = ra) := rfl
          have HHT := Lib.hid hht
          clear hht hpre h hrow hbx hby hiter qm qd u0 u1 y fy g0 g1 g2 g3 t0 t1 v0 v1 v2
          obtain ⟨xm, hxm⟩ : ∃ z, (missV x.t x.n).1 = z := ⟨_, rfl⟩
          obtain ⟨xd, hxd⟩ : ∃ z, (doubV x.t x.n).1 = z := ⟨_, rfl⟩
          rw [hxm] at b1
          rw [hxd] at b2
          have HHX : Hid (hit pL ra rb x = decide (xm = ra)) := by rw [← hxm]; exact HHT
          clear hxm hxd HHT
          gi_wp2_with fail
          have k1 := later_cell e1
          have k2 := later_cell e2
          have k3 := later_cell e3
          have k4 := later_cell b1
          have k5 := later_cell b2
          refine wpIn_region_later A (by kernel_rfl) (by kernel_rfl) (by kernel_rfl) (Below.refl _ _) ?_
          repeat (go_big_quiet_step (first | (go_at_call 57; with_reducible exact in_region (c_least2 _ _ _))))
          refine wpQuiet_nil ?_
          rintro ⟨A2, hB⟩
          dsimp only
          clear k1 k2 k3 k4 k5
          have hc := (bcell hB).1
          have hf := (bcell hB).2
          have y4 := (hc _ _ (cell_lt e4)).trans e4
          have y4f := (hf _ _ (cell_lt e4)).trans e4f
          have y1 := (hc _ _ (cell_lt x1)).trans x1
          have hka : Kept (fun _ => False) A A2 := Kept.of_below hB
          have hz := hB.size
          have HKA := Lib.hid hka
          clear hc hf hB hka e1 e2 e3 e4 e4f b1 b2 x1
          by_cases hxx : xm = ra
          · have hd2 : (xm == ra) = true := by simpa using hxx
            have hht : hit pL ra rb x = true := by rw [HHX.out, hxx]; simp
            have HHT := Lib.hid hht
            clear hht hxx
            have hrow2 := ownsRow_kept HROW.out HKA.out (fun _ _ h => h)
            have HROW2 := Lib.hid hrow2
            clear hrow2
            gi_wp2_with (gi_at_builtin; refine stuckHere ?_)
            refine unHid ?_
            refine wpListIn_append_own_at _ rfl _ _ 52 rfl W6.heap.size 3 i0 (.int .i64 0) 1 8 Tryz.underlying52 hi0 hz0 hz1 hz2 rfl (by decide) _ _ _ rfl (HROW2.out.alloc _) ⟨A2.heap.size, 0, none⟩ 1 1 [.int .i64 x.i] rfl rfl (cell_one_new _ _ _) (by simp [Value.oneCell']) (by unfold maxLen; omega) (by omega) (by simp; omega) ?_
            intro v' w1 hown' hgrow _ hat
            obtain ⟨g', cap', rfl⟩ := own_slice hown'
            have hkg := ((HKA.out.alloc (Obj.cells #[.int .i64 x.i] 3)).wider (O' := fun k => k = W2.heap.size + 1 ∨ v.ownBlock = some k) (fun _ _ h => h.elim)).trans (kept_of_grown hgrow) (fun _ _ h => .inr h)
            have nb : ¬ v.ownBlock = some (W2.heap.size + 1) := fun e => by have := HH _ e; omega
            have ka : Kept (fun _ => False) A2 (A2.alloc (Obj.cells #[.int .i64 x.i] 3)) := (Kept.refl _ _).alloc _
            have q1 := (kept_of_grown hgrow).cell nb (ka.cell (fun h => h) y4)
            have q2 := ((kept_of_grown hgrow).frozen (cell_lt (ka.cell (fun h => h) y4)) nb).trans ((ka.frozen (cell_lt y4) (fun h => h)).trans y4f)
            have hg' := hown'.lt g' rfl
            have HKG := Lib.hid hkg
            have HO' := Lib.hid hown'
            have HAT := Lib.hid hat
            have hz1' : A2.heap.size < w1.heap.size := by have := hgrow.size; simp at this; omega
            clear hkg hown' hgrow hat ka y4 y4f y1
            gi_wp2
            have h := HW.out
            have hg1 := hg'.1
            have kc : Kept (fun k => k = W2.heap.size + 1) w1 (w1.setCell { block := W2.heap.size + 1, off := 0 } (.slice (some { block := g', off := 0 }) ((ids m d ra rb ys 0).length + 1) cap')) :=
              Kept.setCell (p := { block := W2.heap.size + 1, off := 0 }) (Kept.refl (fun k => k = W2.heap.size + 1) w1) (.inl rfl) _
            have kall := HKG.out.trans kc (fun _ _ h => .inl h)
            refine ⟨fun j => O j ∨ j = g', ?_, kall.wider ?_, rfl, ⟨x, .slice (some ⟨g', 0, none⟩) ((ids m d ra rb ys 0).length + 1) cap', find_prefix h.none HHT HP.out, by go_simp, by go_simp, ?_, ?_⟩, (h.kept.wider (O' := fun k => k = W2.heap.size + 1 ∨ v.ownBlock = some k) (fun _ _ h => h.elim)).trans kall (fun _ _ h => h), .inl h.o1⟩
            · rintro j (hj | rfl)
              · exact .inl hj
              · rcases HAT.out with e | e
                · exact .inl (h.o2 _ (e ▸ rfl))
                · simp [Value.ownBlock] at e
                  right
                  omega
            · rintro j _ (rfl | hv)
              · exact h.o1
              · exact h.o2 j hv
            · have := ownsRow_kept HO'.out kc (fun g hg e => by simp [Value.ownBlock] at hg; omega)
              simpa using this
            · intro g hg
              simp [Value.ownBlock] at hg
              exact .inr hg.symm
          · have hd2 : (xm == ra) = false := by simpa using hxx
            have hht : hit pL ra rb x = false := by rw [HHX.out]; simpa using hxx
            have HHT := Lib.hid hht
            clear hht hxx
            gi_wp2
            have h := HW.out
            exact ⟨O, fun j hj => .inl hj, HKA.out.wider (fun _ _ h => h.elim), find_none_snoc h.none HHT, h.kept.trans HKA.out (fun _ _ h => h), h.o1, h.o2, fun j hj => Nat.lt_of_lt_of_le (h.lt j hj) hz⟩
        case done =>
          rintro D O A hD hOD h hK
          have e4 := h.kept.cell (fun h => h) y
          have e4f := (h.kept.frozen (cell_lt y) (fun h => h)).trans fy
          have hkw : Kept (fun _ => False) wr A := (Kept.of_below (O := fun _ => False) hb0).trans h.kept (fun _ _ h => h)
          have h9 := hb0.size
          have hi : ids m d ra rb ys 1 = ids m d ra rb ys 0 := by
            have e : whySide pL m d ra rb ys = [] := by
              unfold whySide
              rw [if_neg (show ¬ pL ra rb = pL m d from HE.out), h.none]
              rfl
            simp [ids, e]
          have HI := Lib.hid hi
          clear hi
          have hcc : Coll W6.heap.size A (D :: Ds) := (HCO.out.kept hkw (fun _ _ h => h)).cons (by omega) hK (fun hx => by have := HCO.out.lt D hx; omega)
          have HCC := Lib.hid hcc
          have HKW := Lib.hid hkw
          clear hcc h hkw hK
          go_wp2
          refine ⟨⟨1, v, D :: Ds, _, _, _, _, _, _, _, _, _, _, _, _, _, _, _, _, _, _, by omega, ⟨HST.out.kept.trans HKW.out (fun _ _ h => h.elim), e4, e4f, ?_⟩, HCC, rfl⟩, by simp [intOf]⟩
          rw [HI.out]
          exact ownsRow_kept HST.out.row HKW.out (fun _ _ h => h)
        case stop =>
          rintro D c O A hD hOD ⟨rfl, h⟩ hK
          obtain ⟨x, v', hfx, e4, e4f, hrow, hog⟩ := h.found
          have h9 := hb0.size
          have hi : ids m d ra rb ys 1 = ids m d ra rb ys 0 ++ [x.i] := by
            have e : whySide pL m d ra rb ys = [x.i] := by
              unfold whySide
              rw [if_neg (show ¬ pL ra rb = pL m d from HE.out), hfx]
              rfl
            simp [ids, e]
          have HI := Lib.hid hi
          have hkw : Kept (fun k => k = W2.heap.size + 1 ∨ v.ownBlock = some k) wr A := ((Kept.of_below hb0).trans h.kept (fun _ _ h => h))
          have hcc : Coll W6.heap.size A (D :: Ds) := (HCO.out.kept hkw (fun E hE => by
            rintro (rfl | hv)
            · have := (HCO.out.mem _ hE).1; omega
            · exact own_ne HST.out.row (HCO.out.mem _ hE).2 hv)).cons (by omega) hK (fun hx => by have := HCO.out.lt D hx; omega)
          have hkk : Kept (fun k => k = W2.heap.size + 1) W6 A := HST.out.kept.trans hkw (fun j hj h => by
            rcases h with h | h
            · exact h
            · have := HH j h; omega)
          have HCC := Lib.hid hcc
          have HKK := Lib.hid hkk
          have HRW := Lib.hid hrow
          clear hi hcc h hkw hK hkk hrow
          go_wp2
          refine ⟨⟨1, v', D :: Ds, _, _, _, _, _, _, _, _, _, _, _, _, _, _, _, _, _, _, by omega, ⟨HKK, e4, e4f, ?_⟩, HCC, rfl⟩, by simp [intOf]⟩
          rw [HI.out]
          exact HRW
    · by_cases he : rb = d
      · have hd : (rb == d) = true := by simpa using he
        have hi : ids m d ra rb ys 2 = ids m d ra rb ys 1 := by simp [ids, whySide, pG, he]
        have HI := Lib.hid hi
        clear hi he
        go_upto_region 8 with (fail)
        go_name_world W7 hW7
        have hbz := hb0.size
        have hbn : Below wr.heap.size wr W7 := by subst hW7; go_grown
        clear hb0 hbz
        have hb0 := hbn
        clear hbn
        have hbk : Below wr.heap.size wr W7 := by subst hW7; go_grown
        have qmn : W7.cell? ⟨w.heap.size, 0, none⟩ = some (.int .i64 m) := ((bcell hbk).1 _ _ (cell_lt qm)).trans qm
        have qdn : W7.cell? ⟨w.heap.size, 1, none⟩ = some (.int .i64 d) := ((bcell hbk).1 _ _ (cell_lt qd)).trans qd
        have u0n : W7.cell? ⟨W2.heap.size, 0, none⟩ = some (.int .i64 ra) := ((bcell hbk).1 _ _ (cell_lt u0)).trans u0
        have u1n : W7.cell? ⟨W2.heap.size, 1, none⟩ = some (.int .i64 rb) := ((bcell hbk).1 _ _ (cell_lt u1)).trans u1
        have yn : W7.cell? ⟨W2.heap.size + 1, 0, none⟩ = some (v) := ((bcell hbk).1 _ _ (cell_lt y)).trans y
        have fyn : W7.frozen? ⟨W2.heap.size + 1, 0, none⟩ = false := ((bcell hbk).2 _ _ (cell_lt y)).trans fy
        have g0n : W7.cell? ⟨W5.heap.size, 0, none⟩ = some (.func (.func 56) #[] #[]) := ((bcell hbk).1 _ _ (cell_lt g0)).trans g0
        have g1n : W7.cell? ⟨W5.heap.size, 1, none⟩ = some (.func (.func 57) #[] #[]) := ((bcell hbk).1 _ _ (cell_lt g1)).trans g1
        have g2n : W7.cell? ⟨W5.heap.size, 2, none⟩ = some (.func (.func 58) #[] #[]) := ((bcell hbk).1 _ _ (cell_lt g2)).trans g2
        have g3n : W7.cell? ⟨W5.heap.size, 3, none⟩ = some (.func (.func 59) #[] #[]) := ((bcell hbk).1 _ _ (cell_lt g3)).trans g3
        clear hbk
        have t0n : W7.cell? ⟨wr.heap.size, 0, none⟩ = some (.func (.func 58) #[] #[]) := by subst hW7; go_simp
        have t1n : W7.cell? ⟨wr.heap.size, 1, none⟩ = some (.func (.func 59) #[] #[]) := by subst hW7; go_simp
        clear hW7 qm qd u0 u1 y g0 g1 g2 g3 fy
        have qm := qmn
        have qd := qdn
        have u0 := u0n
        have u1 := u1n
        have y := yn
        have fy := fyn
        have g0 := g0n
        have g1 := g1n
        have g2 := g2n
        have g3 := g3n
        have t0 := t0n
        have t1 := t1n
        clear qmn qdn u0n u1n yn g0n g1n g2n g3n t0n t1n fyn
        go_wp2_with fail
        have kqm := later_cell qm
        have kqd := later_cell qd
        have ku0 := later_cell u0
        have ku1 := later_cell u1
        have ky := later_cell y
        have kg0 := later_cell g0
        have kg1 := later_cell g1
        have kg2 := later_cell g2
        have kg3 := later_cell g3
        have kt0 := later_cell t0
        have kt1 := later_cell t1
        refine wp_region_later W7 (by kernel_rfl) (by kernel_rfl) (Below.refl _ _) ?_
        repeat (go_big_quiet_step (first | (go_at_call 59; with_reducible exact in_region (c_greatest2 _ _ _))))
        refine wpQuiet_nil ?_
        rintro ⟨W8, hB⟩
        dsimp only
        have hc := (bcell hB).1
        have hf := (bcell hB).2
        have hz := hB.size
        clear kqm kqd ku0 ku1 ky kg0 kg1 kg2 kg3 kt0 kt1
        have qmn : W8.cell? ⟨w.heap.size, 0, none⟩ = some (.int .i64 m) := (hc _ _ (cell_lt qm)).trans qm
        clear qm
        have qm := qmn
        clear qmn
        have qdn : W8.cell? ⟨w.heap.size, 1, none⟩ = some (.int .i64 d) := (hc _ _ (cell_lt qd)).trans qd
        clear qd
        have qd := qdn
        clear qdn
        have u0n : W8.cell? ⟨W2.heap.size, 0, none⟩ = some (.int .i64 ra) := (hc _ _ (cell_lt u0)).trans u0
        clear u0
        have u0 := u0n
        clear u0n
        have u1n : W8.cell? ⟨W2.heap.size, 1, none⟩ = some (.int .i64 rb) := (hc _ _ (cell_lt u1)).trans u1
        clear u1
        have u1 := u1n
        clear u1n
        have fyn : W8.frozen? ⟨W2.heap.size + 1, 0, none⟩ = false := (hf _ _ (cell_lt y)).trans fy
        clear fy
        have fy := fyn
        clear fyn
        have yn : W8.cell? ⟨W2.heap.size + 1, 0, none⟩ = some (v) := (hc _ _ (cell_lt y)).trans y
        clear y
        have y := yn
        clear yn
        have g0n : W8.cell? ⟨W5.heap.size, 0, none⟩ = some (.func (.func 56) #[] #[]) := (hc _ _ (cell_lt g0)).trans g0
        clear g0
        have g0 := g0n
        clear g0n
        have g1n : W8.cell? ⟨W5.heap.size, 1, none⟩ = some (.func (.func 57) #[] #[]) := (hc _ _ (cell_lt g1)).trans g1
        clear g1
        have g1 := g1n
        clear g1n
        have g2n : W8.cell? ⟨W5.heap.size, 2, none⟩ = some (.func (.func 58) #[] #[]) := (hc _ _ (cell_lt g2)).trans g2
        clear g2
        have g2 := g2n
        clear g2n
        have g3n : W8.cell? ⟨W5.heap.size, 3, none⟩ = some (.func (.func 59) #[] #[]) := (hc _ _ (cell_lt g3)).trans g3
        clear g3
        have g3 := g3n
        clear g3n
        have t0n : W8.cell? ⟨wr.heap.size, 0, none⟩ = some (.func (.func 58) #[] #[]) := (hc _ _ (cell_lt t0)).trans t0
        clear t0
        have t0 := t0n
        clear t0n
        have t1n : W8.cell? ⟨wr.heap.size, 1, none⟩ = some (.func (.func 59) #[] #[]) := (hc _ _ (cell_lt t1)).trans t1
        clear t1
        have t1 := t1n
        clear t1n
        have hbn : Below wr.heap.size wr W8 := bthen hb0 hB
        clear hb0
        have hb0 := hbn
        clear hbn
        have hzW8 : W7.heap.size ≤ W8.heap.size := hz
        clear hc hf hB hz
        go_wp2_with fail
        have hke : Kept (fun _ => False) wr W8 := Kept.of_below hb0
        refine ⟨⟨2, v, Ds, _, _, _, _, _, _, _, _, _, _, _, _, _, _, _, _, _, _, by omega, ⟨HST.out.kept.trans hke (fun _ _ h => h.elim), y, fy, ?_⟩, HCO.out.kept hke (fun _ _ h => h), rfl⟩, by simp [intOf]⟩
        rw [HI.out]
        exact ownsRow_kept HST.out.row hke (fun _ _ h => h)
      · have hd : (rb == d) = false := by simpa using he
        have HE := Lib.hid he
        clear he
        go_upto_region 8 with (fail)
        go_name_world W7 hW7
        have hbz := hb0.size
        have hbn : Below wr.heap.size wr W7 := by subst hW7; go_grown
        clear hb0 hbz
        have hb0 := hbn
        clear hbn
        have hbk : Below wr.heap.size wr W7 := by subst hW7; go_grown
        have qmn : W7.cell? ⟨w.heap.size, 0, none⟩ = some (.int .i64 m) := ((bcell hbk).1 _ _ (cell_lt qm)).trans qm
        have qdn : W7.cell? ⟨w.heap.size, 1, none⟩ = some (.int .i64 d) := ((bcell hbk).1 _ _ (cell_lt qd)).trans qd
        have u0n : W7.cell? ⟨W2.heap.size, 0, none⟩ = some (.int .i64 ra) := ((bcell hbk).1 _ _ (cell_lt u0)).trans u0
        have u1n : W7.cell? ⟨W2.heap.size, 1, none⟩ = some (.int .i64 rb) := ((bcell hbk).1 _ _ (cell_lt u1)).trans u1
        have yn : W7.cell? ⟨W2.heap.size + 1, 0, none⟩ = some (v) := ((bcell hbk).1 _ _ (cell_lt y)).trans y
        have fyn : W7.frozen? ⟨W2.heap.size + 1, 0, none⟩ = false := ((bcell hbk).2 _ _ (cell_lt y)).trans fy
        have g0n : W7.cell? ⟨W5.heap.size, 0, none⟩ = some (.func (.func 56) #[] #[]) := ((bcell hbk).1 _ _ (cell_lt g0)).trans g0
        have g1n : W7.cell? ⟨W5.heap.size, 1, none⟩ = some (.func (.func 57) #[] #[]) := ((bcell hbk).1 _ _ (cell_lt g1)).trans g1
        have g2n : W7.cell? ⟨W5.heap.size, 2, none⟩ = some (.func (.func 58) #[] #[]) := ((bcell hbk).1 _ _ (cell_lt g2)).trans g2
        have g3n : W7.cell? ⟨W5.heap.size, 3, none⟩ = some (.func (.func 59) #[] #[]) := ((bcell hbk).1 _ _ (cell_lt g3)).trans g3
        clear hbk
        have t0n : W7.cell? ⟨wr.heap.size, 0, none⟩ = some (.func (.func 58) #[] #[]) := by subst hW7; go_simp
        have t1n : W7.cell? ⟨wr.heap.size, 1, none⟩ = some (.func (.func 59) #[] #[]) := by subst hW7; go_simp
        clear hW7 qm qd u0 u1 y g0 g1 g2 g3 fy
        have qm := qmn
        have qd := qdn
        have u0 := u0n
        have u1 := u1n
        have y := yn
        have fy := fyn
        have g0 := g0n
        have g1 := g1n
        have g2 := g2n
        have g3 := g3n
        have t0 := t0n
        have t1 := t1n
        clear qmn qdn u0n u1n yn g0n g1n g2n g3n t0n t1n fyn
        go_wp2_with fail
        have kqm := later_cell qm
        have kqd := later_cell qd
        have ku0 := later_cell u0
        have ku1 := later_cell u1
        have ky := later_cell y
        have kg0 := later_cell g0
        have kg1 := later_cell g1
        have kg2 := later_cell g2
        have kg3 := later_cell g3
        have kt0 := later_cell t0
        have kt1 := later_cell t1
        refine wp_region_later W7 (by kernel_rfl) (by kernel_rfl) (Below.refl _ _) ?_
        repeat (go_big_quiet_step (first | (go_at_call 59; with_reducible exact in_region (c_greatest2 _ _ _))))
        refine wpQuiet_nil ?_
        rintro ⟨W8, hB⟩
        dsimp only
        have hc := (bcell hB).1
        have hf := (bcell hB).2
        have hz := hB.size
        clear kqm kqd ku0 ku1 ky kg0 kg1 kg2 kg3 kt0 kt1
        have qmn : W8.cell? ⟨w.heap.size, 0, none⟩ = some (.int .i64 m) := (hc _ _ (cell_lt qm)).trans qm
        clear qm
        have qm := qmn
        clear qmn
        have qdn : W8.cell? ⟨w.heap.size, 1, none⟩ = some (.int .i64 d) := (hc _ _ (cell_lt qd)).trans qd
        clear qd
        have qd := qdn
        clear qdn
        have u0n : W8.cell? ⟨W2.heap.size, 0, none⟩ = some (.int .i64 ra) := (hc _ _ (cell_lt u0)).trans u0
        clear u0
        have u0 := u0n
        clear u0n
        have u1n : W8.cell? ⟨W2.heap.size, 1, none⟩ = some (.int .i64 rb) := (hc _ _ (cell_lt u1)).trans u1
        clear u1
        have u1 := u1n
        clear u1n
        have fyn : W8.frozen? ⟨W2.heap.size + 1, 0, none⟩ = false := (hf _ _ (cell_lt y)).trans fy
        clear fy
        have fy := fyn
        clear fyn
        have yn : W8.cell? ⟨W2.heap.size + 1, 0, none⟩ = some (v) := (hc _ _ (cell_lt y)).trans y
        clear y
        have y := yn
        clear yn
        have g0n : W8.cell? ⟨W5.heap.size, 0, none⟩ = some (.func (.func 56) #[] #[]) := (hc _ _ (cell_lt g0)).trans g0
        clear g0
        have g0 := g0n
        clear g0n
        have g1n : W8.cell? ⟨W5.heap.size, 1, none⟩ = some (.func (.func 57) #[] #[]) := (hc _ _ (cell_lt g1)).trans g1
        clear g1
        have g1 := g1n
        clear g1n
        have g2n : W8.cell? ⟨W5.heap.size, 2, none⟩ = some (.func (.func 58) #[] #[]) := (hc _ _ (cell_lt g2)).trans g2
        clear g2
        have g2 := g2n
        clear g2n
        have g3n : W8.cell? ⟨W5.heap.size, 3, none⟩ = some (.func (.func 59) #[] #[]) := (hc _ _ (cell_lt g3)).trans g3
        clear g3
        have g3 := g3n
        clear g3n
        have t0n : W8.cell? ⟨wr.heap.size, 0, none⟩ = some (.func (.func 58) #[] #[]) := (hc _ _ (cell_lt t0)).trans t0
        clear t0
        have t0 := t0n
        clear t0n
        have t1n : W8.cell? ⟨wr.heap.size, 1, none⟩ = some (.func (.func 59) #[] #[]) := (hc _ _ (cell_lt t1)).trans t1
        clear t1
        have t1 := t1n
        clear t1n
        have hbn : Below wr.heap.size wr W8 := bthen hb0 hB
        clear hb0
        have hb0 := hbn
        clear hbn
        have hzW8 : W7.heap.size ≤ W8.heap.size := hz
        clear hc hf hB hz
        go_wp2_with fail
        have s4 : wr.heap.size ≤ W8.heap.size := hb0.size
        refine (c_of _ _ _ _ _ _).mono ?_
        rintro e W' ⟨rfl, rfl⟩
        go_wp2_with fail
        go_name_world W9 hW9
        have hbz := hb0.size
        have hbn : Below wr.heap.size wr W9 := by subst hW9; go_grown
        clear hb0 hbz
        have hb0 := hbn
        clear hbn
        have hbk : Below W8.heap.size W8 W9 := by subst hW9; go_grown
        have qmn : W9.cell? ⟨w.heap.size, 0, none⟩ = some (.int .i64 m) := ((bcell hbk).1 _ _ (cell_lt qm)).trans qm
        have qdn : W9.cell? ⟨w.heap.size, 1, none⟩ = some (.int .i64 d) := ((bcell hbk).1 _ _ (cell_lt qd)).trans qd
        have u0n : W9.cell? ⟨W2.heap.size, 0, none⟩ = some (.int .i64 ra) := ((bcell hbk).1 _ _ (cell_lt u0)).trans u0
        have u1n : W9.cell? ⟨W2.heap.size, 1, none⟩ = some (.int .i64 rb) := ((bcell hbk).1 _ _ (cell_lt u1)).trans u1
        have yn : W9.cell? ⟨W2.heap.size + 1, 0, none⟩ = some (v) := ((bcell hbk).1 _ _ (cell_lt y)).trans y
        have fyn : W9.frozen? ⟨W2.heap.size + 1, 0, none⟩ = false := ((bcell hbk).2 _ _ (cell_lt y)).trans fy
        have g0n : W9.cell? ⟨W5.heap.size, 0, none⟩ = some (.func (.func 56) #[] #[]) := ((bcell hbk).1 _ _ (cell_lt g0)).trans g0
        have g1n : W9.cell? ⟨W5.heap.size, 1, none⟩ = some (.func (.func 57) #[] #[]) := ((bcell hbk).1 _ _ (cell_lt g1)).trans g1
        have g2n : W9.cell? ⟨W5.heap.size, 2, none⟩ = some (.func (.func 58) #[] #[]) := ((bcell hbk).1 _ _ (cell_lt g2)).trans g2
        have g3n : W9.cell? ⟨W5.heap.size, 3, none⟩ = some (.func (.func 59) #[] #[]) := ((bcell hbk).1 _ _ (cell_lt g3)).trans g3
        have t0n : W9.cell? ⟨wr.heap.size, 0, none⟩ = some (.func (.func 58) #[] #[]) := ((bcell hbk).1 _ _ (cell_lt t0)).trans t0
        have t1n : W9.cell? ⟨wr.heap.size, 1, none⟩ = some (.func (.func 59) #[] #[]) := ((bcell hbk).1 _ _ (cell_lt t1)).trans t1
        clear hbk
        have v0n : W9.cell? ⟨W8.heap.size, 0, none⟩ = some (.slice a l.length cap) := by subst hW9; go_simp
        have v1n : W9.cell? ⟨W8.heap.size + 1, 0, none⟩ = some (.int .i64 shep) := by subst hW9; go_simp
        have v2n : W9.cell? ⟨W8.heap.size + 2, 0, none⟩ = some (.int .i64 known) := by subst hW9; go_simp
        clear hW9 qm qd u0 u1 y g0 g1 g2 g3 t0 t1 fy
        have qm := qmn
        have qd := qdn
        have u0 := u0n
        have u1 := u1n
        have y := yn
        have fy := fyn
        have g0 := g0n
        have g1 := g1n
        have g2 := g2n
        have g3 := g3n
        have t0 := t0n
        have t1 := t1n
        have v0 := v0n
        have v1 := v1n
        have v2 := v2n
        clear qmn qdn u0n u1n yn g0n g1n g2n g3n t0n t1n v0n v1n v2n fyn
        have s5 := cell_lt v2
        have hiter := iter_of (W8.heap.size) (W8.heap.size + 2) (W8.heap.size + 1) l a cap known shep (fun k => (W8.heap.size ≤ k ∧ k < W9.heap.size) ∨ k < w.heap.size) W9 ?hm1 (.inl ⟨by omega, by have := cell_lt v1; omega⟩) ?hm2 v0 v2 v1 (HL.out.later (bthen HBW.out hb0))
        rw [HYS.out] at hiter
        have HH := HOWN.out
        have sz1 := sz1
        refine wp_range (encs := fun x : Rc => #[x.v, askV x]) (ys := ys) (mine := fun k => (W8.heap.size ≤ k ∧ k < W9.heap.size) ∨ k < w.heap.size) rfl (enters_of Tryz.func63 (by kernel_rfl) rfl) ?hm hiter (fun _ => rfl) (fun k => k = W2.heap.size + 1 ∨ v.ownBlock = some k) ?ho
          (WI W9 (W2.heap.size + 1) v (hit pG ra rb)) (fun c O A => c = .exit 2 ∧ WX W6 W9 (W2.heap.size + 1) v (hit pG ra rb) ys (ids m d ra rb ys 1) O A) ?hI ?hIx ?hlt ?h0
          (fun pre x a' O A => ∃ Bx By, WI W9 (W2.heap.size + 1) v (hit pG ra rb) pre O A ∧ O Bx ∧ O By ∧ BoxRc A Bx x ∧ BoxAsk A By x ∧ a' = { tmps := #[.agg #[.int .i64 m, .int .i64 d], .slice a l.length cap, .int .i64 shep, .int .i64 known, .pointer (some ⟨w.heap.size, 0, none⟩), undef, undef, undef, .slice none 0 0, .int .i64 0, .pointer (some ⟨W2.heap.size, 0, none⟩), .int .i64 0, .pointer (some ⟨W2.heap.size + 1, 0, none⟩), undef, .pointer (some ⟨wr.heap.size, 0, none⟩), .pointer (some ⟨Bx, 0, none⟩), .pointer (some ⟨By, 0, none⟩), rateVal (ra, rb, 0), .agg #[.int .i64 m, .int .i64 d], .slice a l.length cap, .int .i64 shep, .int .i64 known, rateVal (ra, rb, 0), .agg #[.int .i64 ra, .int .i64 rb], .int .i64 0, .int .i64 0, .bool false, undef, leastV, greatestV, .slice (some ⟨W5.heap.size, 0, none⟩) 2 2, .int .i64 2, .int .i64 1, .bool true, .pointer (some ⟨W5.heap.size, 2, none⟩), .agg #[.func (.func 58) #[] #[], .func (.func 59) #[] #[]], .pointer (some ⟨wr.heap.size, 1, none⟩), .func (.func 59) #[] #[], .agg #[.int .i64 ra, .int .i64 rb], .int .i64 rb, .pointer (some ⟨wr.heap.size, 1, none⟩), .func (.func 59) #[] #[], .agg #[.int .i64 m, .int .i64 d], .int .i64 d, .bool false, .slice a l.length cap, .int .i64 shep, .int .i64 known, .func (.func 63) #[] #[.pointer (some ⟨W8.heap.size, 0, none⟩), .pointer (some ⟨W8.heap.size + 2, 0, none⟩), .pointer (some ⟨W8.heap.size + 1, 0, none⟩)], x.v, askV x, undef, undef, undef, undef, undef, undef, undef, undef, undef, undef, undef, undef, undef, undef, undef, u66, undef, undef, undef, undef], defers := [] }) ?hM ?assign ?body ?done ?stop
        case hm1 => rintro j (h | h) <;> omega
        case hm2 => exact fun hne b o h => .inr (HL.out.block hne b o h)
        case hm => rintro j (h | h) <;> omega
        case ho =>
          rintro j (h | h) (rfl | hv)
          · omega
          · have := HH j hv; omega
          · omega
          · have := HH j hv; omega
        case hI => exact fun pre => WI.abide
        case hIx => exact fun c O A C h hk => ⟨h.1, WX.abide O A C h.2 hk⟩
        case hlt => exact fun pre O A h => h.lt
        case h0 =>
          refine ⟨rfl, Kept.refl _ _, .inl rfl, fun g hg => .inr hg, ?_⟩
          rintro j (rfl | hv)
          · omega
          · have := HH j hv; omega
        case hM =>
          rintro pre x a' O A C ⟨Bx, By, h, hx, hy, hbx, hby, rfl⟩ hk
          exact ⟨Bx, By, WI.abide O A C h hk, hx, hy, hbx.kept hk (fun y => y.2 hx), hby.kept hk (fun y => y.2 hy), rfl⟩
        case assign =>
          rintro lq pre x O A K h hpre hK
          gi_wp2
          refine hK _ (fun k => O k ∨ k = A.heap.size ∨ k = A.heap.size + 1) _ ?_ (((Kept.refl _ _).alloc _).alloc _) ⟨A.heap.size, A.heap.size + 1, ?_, .inr (.inl rfl), .inr (.inr rfl), ?_, ?_, rfl⟩
          · rintro j (h | rfl | rfl)
            · exact .inl h
            · exact .inr (Nat.le_refl _)
            · exact .inr (Nat.le_succ _)
          · refine ⟨h.none, (h.kept.alloc _).alloc _, .inl h.o1, fun g hg => .inl (h.o2 g hg), ?_⟩
            rintro j (hx | rfl | rfl)
            · have := h.lt j hx; simp; omega
            · simp; omega
            · simp
          · exact ⟨by go_simp, by go_simp, by go_simp, by go_simp, by go_simp, by go_simp⟩
          · exact ⟨by go_simp, by go_simp, by unfold Rc.fine; go_simp⟩
        case body =>
          rintro lq pre x a' O A hlq hOl ⟨Bx, By, h, hx, hy, hbx, hby, rfl⟩ hpre
          have e1 := h.kept.cell (fun h => h) t1
          have e2 := h.kept.cell (fun h => h) u0
          have e3 := h.kept.cell (fun h => h) u1
          have b1 := hby.m
          have b2 := hby.d
          have x1 := hbx.i
          have e4 := h.kept.cell (fun h => h) y
          have e4f := (h.kept.frozen (cell_lt y) (fun h => h)).trans fy
          have hrow := ownsRow_kept (ownsRow_kept HST.out.row (Kept.of_below (O := fun _ => False) hb0) (fun _ _ h => h)) h.kept (fun _ _ h => h)
          have hk9 := h.kept.size
          have h9 := hb0.size
          have hlen := ids_len m d ra rb ys 1
          have HP := Lib.hid hpre
          have HW := Lib.hid h
          have HROW := Lib.hid hrow
          have hht : hit pG ra rb x = decide ((doubV x.t x.n).1 = rb) := rfl
          have HHT := Lib.hid hht
          clear hht hpre h hrow hbx hby hiter qm qd u0 u1 y fy g0 g1 g2 g3 t0 t1 v0 v1 v2
          obtain ⟨xm, hxm⟩ : ∃ z, (missV x.t x.n).1 = z := ⟨_, rfl⟩
          obtain ⟨xd, hxd⟩ : ∃ z, (doubV x.t x.n).1 = z := ⟨_, rfl⟩
          rw [hxm] at b1
          rw [hxd] at b2
          have HHX : Hid (hit pG ra rb x = decide (xd = rb)) := by rw [← hxd]; exact HHT
          clear hxm hxd HHT
          gi_wp2_with fail
          have k1 := later_cell e1
          have k2 := later_cell e2
          have k3 := later_cell e3
          have k4 := later_cell b1
          have k5 := later_cell b2
          refine wpIn_region_later A (by kernel_rfl) (by kernel_rfl) (by kernel_rfl) (Below.refl _ _) ?_
          repeat (go_big_quiet_step (first | (go_at_call 59; with_reducible exact in_region (c_greatest2 _ _ _))))
          refine wpQuiet_nil ?_
          rintro ⟨A2, hB⟩
          dsimp only
          clear k1 k2 k3 k4 k5
          have hc := (bcell hB).1
          have hf := (bcell hB).2
          have y4 := (hc _ _ (cell_lt e4)).trans e4
          have y4f := (hf _ _ (cell_lt e4)).trans e4f
          have y1 := (hc _ _ (cell_lt x1)).trans x1
          have hka : Kept (fun _ => False) A A2 := Kept.of_below hB
          have hz := hB.size
          have HKA := Lib.hid hka
          clear hc hf hB hka e1 e2 e3 e4 e4f b1 b2 x1
          by_cases hxx : xd = rb
          · have hd2 : (xd == rb) = true := by simpa using hxx
            have hht : hit pG ra rb x = true := by rw [HHX.out, hxx]; simp
            have HHT := Lib.hid hht
            clear hht hxx
            have hrow2 := ownsRow_kept HROW.out HKA.out (fun _ _ h => h)
            have HROW2 := Lib.hid hrow2
            clear hrow2
            gi_wp2_with (gi_at_builtin; refine stuckHere ?_)
            refine unHid ?_
            refine wpListIn_append_own_at _ rfl _ _ 52 rfl W6.heap.size 3 i0 (.int .i64 0) 1 8 Tryz.underlying52 hi0 hz0 hz1 hz2 rfl (by decide) _ _ _ rfl (HROW2.out.alloc _) ⟨A2.heap.size, 0, none⟩ 1 1 [.int .i64 x.i] rfl rfl (cell_one_new _ _ _) (by simp [Value.oneCell']) (by unfold maxLen; omega) (by omega) (by simp; omega) ?_
            intro v' w1 hown' hgrow _ hat
            obtain ⟨g', cap', rfl⟩ := own_slice hown'
            have hkg := ((HKA.out.alloc (Obj.cells #[.int .i64 x.i] 3)).wider (O' := fun k => k = W2.heap.size + 1 ∨ v.ownBlock = some k) (fun _ _ h => h.elim)).trans (kept_of_grown hgrow) (fun _ _ h => .inr h)
            have nb : ¬ v.ownBlock = some (W2.heap.size + 1) := fun e => by have := HH _ e; omega
            have ka : Kept (fun _ => False) A2 (A2.alloc (Obj.cells #[.int .i64 x.i] 3)) := (Kept.refl _ _).alloc _
            have q1 := (kept_of_grown hgrow).cell nb (ka.cell (fun h => h) y4)
            have q2 := ((kept_of_grown hgrow).frozen (cell_lt (ka.cell (fun h => h) y4)) nb).trans ((ka.frozen (cell_lt y4) (fun h => h)).trans y4f)
            have hg' := hown'.lt g' rfl
            have HKG := Lib.hid hkg
            have HO' := Lib.hid hown'
            have HAT := Lib.hid hat
            have hz1' : A2.heap.size < w1.heap.size := by have := hgrow.size; simp at this; omega
            clear hkg hown' hgrow hat ka y4 y4f y1
            gi_wp2
            have h := HW.out
            have hg1 := hg'.1
            have kc : Kept (fun k => k = W2.heap.size + 1) w1 (w1.setCell { block := W2.heap.size + 1, off := 0 } (.slice (some { block := g', off := 0 }) ((ids m d ra rb ys 1).length + 1) cap')) :=
              Kept.setCell (p := { block := W2.heap.size + 1, off := 0 }) (Kept.refl (fun k => k = W2.heap.size + 1) w1) (.inl rfl) _
            have kall := HKG.out.trans kc (fun _ _ h => .inl h)
            refine ⟨fun j => O j ∨ j = g', ?_, kall.wider ?_, rfl, ⟨x, .slice (some ⟨g', 0, none⟩) ((ids m d ra rb ys 1).length + 1) cap', find_prefix h.none HHT HP.out, by go_simp, by go_simp, ?_, ?_⟩, (h.kept.wider (O' := fun k => k = W2.heap.size + 1 ∨ v.ownBlock = some k) (fun _ _ h => h.elim)).trans kall (fun _ _ h => h), .inl h.o1⟩
            · rintro j (hj | rfl)
              · exact .inl hj
              · rcases HAT.out with e | e
                · exact .inl (h.o2 _ (e ▸ rfl))
                · simp [Value.ownBlock] at e
                  right
                  omega
            · rintro j _ (rfl | hv)
              · exact h.o1
              · exact h.o2 j hv
            · have := ownsRow_kept HO'.out kc (fun g hg e => by simp [Value.ownBlock] at hg; omega)
              simpa using this
            · intro g hg
              simp [Value.ownBlock] at hg
              exact .inr hg.symm
          · have hd2 : (xd == rb) = false := by simpa using hxx
            have hht : hit pG ra rb x = false := by rw [HHX.out]; simpa using hxx
            have HHT := Lib.hid hht
            clear hht hxx
            gi_wp2
            have h := HW.out
            exact ⟨O, fun j hj => .inl hj, HKA.out.wider (fun _ _ h => h.elim), find_none_snoc h.none HHT, h.kept.trans HKA.out (fun _ _ h => h), h.o1, h.o2, fun j hj => Nat.lt_of_lt_of_le (h.lt j hj) hz⟩
        case done =>
          rintro D O A hD hOD h hK
          have e4 := h.kept.cell (fun h => h) y
          have e4f := (h.kept.frozen (cell_lt y) (fun h => h)).trans fy
          have hkw : Kept (fun _ => False) wr A := (Kept.of_below (O := fun _ => False) hb0).trans h.kept (fun _ _ h => h)
          have h9 := hb0.size
          have hi : ids m d ra rb ys 2 = ids m d ra rb ys 1 := by
            have e : whySide pG m d ra rb ys = [] := by
              unfold whySide
              rw [if_neg (show ¬ pG ra rb = pG m d from HE.out), h.none]
              rfl
            simp [ids, e]
          have HI := Lib.hid hi
          clear hi
          have hcc : Coll W6.heap.size A (D :: Ds) := (HCO.out.kept hkw (fun _ _ h => h)).cons (by omega) hK (fun hx => by have := HCO.out.lt D hx; omega)
          have HCC := Lib.hid hcc
          have HKW := Lib.hid hkw
          clear hcc h hkw hK
          go_wp2
          refine ⟨⟨2, v, D :: Ds, _, _, _, _, _, _, _, _, _, _, _, _, _, _, _, _, _, _, by omega, ⟨HST.out.kept.trans HKW.out (fun _ _ h => h.elim), e4, e4f, ?_⟩, HCC, rfl⟩, by simp [intOf]⟩
          rw [HI.out]
          exact ownsRow_kept HST.out.row HKW.out (fun _ _ h => h)
        case stop =>
          rintro D c O A hD hOD ⟨rfl, h⟩ hK
          obtain ⟨x, v', hfx, e4, e4f, hrow, hog⟩ := h.found
          have h9 := hb0.size
          have hi : ids m d ra rb ys 2 = ids m d ra rb ys 1 ++ [x.i] := by
            have e : whySide pG m d ra rb ys = [x.i] := by
              unfold whySide
              rw [if_neg (show ¬ pG ra rb = pG m d from HE.out), hfx]
              rfl
            simp [ids, e]
          have HI := Lib.hid hi
          have hkw : Kept (fun k => k = W2.heap.size + 1 ∨ v.ownBlock = some k) wr A := ((Kept.of_below hb0).trans h.kept (fun _ _ h => h))
          have hcc : Coll W6.heap.size A (D :: Ds) := (HCO.out.kept hkw (fun E hE => by
            rintro (rfl | hv)
            · have := (HCO.out.mem _ hE).1; omega
            · exact own_ne HST.out.row (HCO.out.mem _ hE).2 hv)).cons (by omega) hK (fun hx => by have := HCO.out.lt D hx; omega)
          have hkk : Kept (fun k => k = W2.heap.size + 1) W6 A := HST.out.kept.trans hkw (fun j hj h => by
            rcases h with h | h
            · exact h
            · have := HH j h; omega)
          have HCC := Lib.hid hcc
          have HKK := Lib.hid hkk
          have HRW := Lib.hid hrow
          clear hi hcc h hkw hK hkk hrow
          go_wp2
          refine ⟨⟨2, v', D :: Ds, _, _, _, _, _, _, _, _, _, _, _, _, _, _, _, _, _, _, by omega, ⟨HKK, e4, e4f, ?_⟩, HCC, rfl⟩, by simp [intOf]⟩
          rw [HI.out]
          exact HRW
    · clear qm qd u0 u1 g0 g1 g2 g3
      have hlen := ids_len m d ra rb ys 2
      have hrow := HST.out.row
      have hr0 : Kept (fun _ => False) wr wr := Kept.refl _ _
      rcases hL : ids m d ra rb ys 2 with _ | ⟨x1, _ | ⟨x2, _ | ⟨x3, r⟩⟩⟩
      · rw [hL] at hrow
        obtain ⟨a0, c0, rfl⟩ := own_any hrow
        clear hrow
        have HL2 := Lib.hid hL
        clear hL
        have hL := HL2
        clear HL2
        go_wp2_with fail
        refine (c_sort01 a0 0 (.inl rfl) c0 _).mono ?_
        rintro e W2 ⟨rfl, rfl⟩
        go_wp2_with fail
        refine (c_compact01 a0 0 (by omega) c0 _).mono ?_
        rintro e W2 ⟨rfl, rfl⟩
        go_wp2
        refine end_coll (B := W6.heap.size) (v := .tuple #[.slice a0 0 c0, .int .i64 0]) (HCO.out.kept hr0 (fun E hE e => by exact e.elim)) (fun C2 h2 => by simp [results, Tryz.results22, go_sem]) (fun C2 h2 => ?_) _ (.inr rfl)
        have hsz := (hr0).size
        have hbw := HBW.out.size
        refine ⟨⟨a0, c0, by rw [hL]; rfl, by rw [hL]; exact ints_nil _ _⟩, (HBW.out.trans ((hr0).below hbw (fun k e => by exact e.elim))).trans (h2.below (by omega) (fun k hk => by have := (HCO.out.mem _ hk).1; omega))⟩
      · rw [hL] at hrow
        obtain ⟨g, c0, rfl, hg1, hgb⟩ := own_one hrow
        have hgd : ∀ D ∈ Ds, ¬ g = D := fun D hD e => own_ne hrow (HCO.out.mem _ hD).2 (by rw [← e]; rfl)
        have HG := Lib.hid hg1
        clear hrow hg1
        have HL2 := Lib.hid hL
        clear hL
        have hL := HL2
        clear HL2
        go_wp2_with fail
        refine (c_sort01 (some ⟨g, 0, none⟩) 1 (.inr rfl) c0 _).mono ?_
        rintro e W2 ⟨rfl, rfl⟩
        go_wp2_with fail
        refine (c_compact01 (some ⟨g, 0, none⟩) 1 (by omega) c0 _).mono ?_
        rintro e W2 ⟨rfl, rfl⟩
        go_wp2
        refine end_coll (B := W6.heap.size) (v := .tuple #[.slice (some ⟨g, 0, none⟩) 1 c0, .int .i64 0]) (HCO.out.kept hr0 (fun E hE e => by exact e.elim)) (fun C2 h2 => by simp [results, Tryz.results22, go_sem]) (fun C2 h2 => ?_) _ (.inr rfl)
        have hsz := (hr0).size
        have hbw := HBW.out.size
        refine ⟨⟨(some ⟨g, 0, none⟩), c0, by rw [hL]; rfl, by rw [hL]; exact ints_one (h2.cell (fun hm => hgd _ hm rfl) HG.out)⟩, (HBW.out.trans ((hr0).below hbw (fun k e => by exact e.elim))).trans (h2.below (by omega) (fun k hk => by have := (HCO.out.mem _ hk).1; omega))⟩
      · rw [hL] at hrow
        obtain ⟨g, c0, rfl, h2, hc1, hc2, hgb⟩ := own_two hrow
        have hgd : ∀ D ∈ Ds, ¬ g = D := fun D hD e => own_ne hrow (HCO.out.mem _ hD).2 (by rw [← e]; rfl)
        have hgo : ∀ D ∈ Ds, ¬ D = g := fun D hD e => hgd D hD e.symm
        have H2 := Lib.hid h2
        have HGD := Lib.hid hgd
        clear hrow h2 hgd hgo
        have HL2 := Lib.hid hL
        clear hL
        have hL := HL2
        clear HL2
        go_wp2_with fail
        refine (c_sort2 g c0 x1 x2 _ H2.out).mono ?_
        rintro e WA ⟨rfl, h2, hk2⟩
        have y2 := hk2.cell (by omega) y
        have HT := Lib.hid h2
        have HK := Lib.hid hk2
        clear h2 hk2 y fy
        by_cases hxx : x1 = x2
        · have ht : Two g x1 x1 WA := by have := HT.out; subst hxx; simpa using this
          have htw : two [x1, x2] = [x1] := by simp [two, hxx]
          have HTT := Lib.hid ht
          have HTW := Lib.hid htw
          clear ht htw hxx HT
          go_wp2_with fail
          refine (c_compact1 g c0 x1 _ HTT.out hc1 hc2).mono ?_
          rintro e WC ⟨rfl, q1, q2, hk3⟩
          have hkk := HK.out.trans hk3 (fun _ _ h => h)
          have HKK := Lib.hid hkk
          have HQ := Lib.hid q1
          clear q1 q2 hk3 hkk y2
          go_wp2
          refine end_coll (B := W6.heap.size) (v := .tuple #[.slice (some ⟨g, 0, none⟩) 1 c0, .int .i64 0]) (HCO.out.kept HKK.out (fun E hE e => by exact HGD.out E hE e.symm)) (fun C2 h2 => by simp [results, Tryz.results22, go_sem]) (fun C2 h2 => ?_) _ (.inr rfl)
          have hsz := (HKK.out).size
          have hbw := HBW.out.size
          refine ⟨⟨(some ⟨g, 0, none⟩), c0, by rw [hL, HTW.out]; rfl, by rw [hL, HTW.out]; exact ints_one (h2.cell (fun hm => HGD.out _ hm rfl) HQ.out)⟩, (HBW.out.trans ((HKK.out).below hbw (fun k e => by subst e; omega))).trans (h2.below (by omega) (fun k hk => by have := (HCO.out.mem _ hk).1; omega))⟩
        · have htw : two [x1, x2] = [min x1 x2, max x1 x2] := by simp [two, hxx]
          have hmm : ¬ min x1 x2 = max x1 x2 := by omega
          have HTW := Lib.hid htw
          have HMM := Lib.hid hmm
          clear htw hxx hmm
          go_wp2_with fail
          refine (c_compact2 g c0 _ _ _ HT.out HMM.out).mono ?_
          rintro e WC ⟨rfl, hb3⟩
          have hkk := HK.out.trans (Kept.of_below (O := fun _ => False) hb3) (fun _ _ h => h.elim)
          have HKK := Lib.hid hkk
          have hc3 := (bcell hb3).1
          have q1 := (hc3 _ _ (cell_lt HT.out.c0)).trans HT.out.c0
          have q2 := (hc3 _ _ (cell_lt HT.out.c1)).trans HT.out.c1
          have HQ := Lib.hid q1
          have HQ2 := Lib.hid q2
          clear q1 q2 hc3 hb3 hkk y2
          go_wp2
          refine end_coll (B := W6.heap.size) (v := .tuple #[.slice (some ⟨g, 0, none⟩) 2 c0, .int .i64 0]) (HCO.out.kept HKK.out (fun E hE e => by exact HGD.out E hE e.symm)) (fun C2 h2 => by simp [results, Tryz.results22, go_sem]) (fun C2 h2 => ?_) _ (.inr rfl)
          have hsz := (HKK.out).size
          have hbw := HBW.out.size
          refine ⟨⟨(some ⟨g, 0, none⟩), c0, by rw [hL, HTW.out]; rfl, by rw [hL, HTW.out]; exact ints_two (h2.cell (fun hm => HGD.out _ hm rfl) HQ.out) (h2.cell (fun hm => HGD.out _ hm rfl) HQ2.out)⟩, (HBW.out.trans ((HKK.out).below hbw (fun k e => by subst e; omega))).trans (h2.below (by omega) (fun k hk => by have := (HCO.out.mem _ hk).1; omega))⟩
      · rw [hL] at hlen
        simp at hlen

theorem c_Why (m d : Int) (l : List Rc) (a : Option Addr) (cap : Nat) (shep known : Int) (w : World) (hl : Recs w a l) :
    Calls Tryz.prog 22 #[.agg #[.int .i64 m, .int .i64 d], .slice a l.length cap, .int .i64 shep, .int .i64 known] w fun e w' =>
      (∃ b c, e = .returned (.tuple #[.slice b (whyV m d l shep known).1.length c, .int .i64 (whyV m d l shep known).2]) ∧ Ints w' b (whyV m d l shep known).1) ∧ Below w.heap.size w w' := by
  obtain ⟨⟨ra, rb, e⟩, h⟩ : ∃ r, rateV m d l shep known = r := ⟨_, rfl⟩
  by_cases h2 : e = 0
  · subst h2
    exact c_Why_ok m d l a cap shep known w hl ra rb h
  · exact c_Why_err m d l a cap shep known w hl ra rb e h h2
end Go.Proofs.YthdenmbfeanioaaGreatDoor
