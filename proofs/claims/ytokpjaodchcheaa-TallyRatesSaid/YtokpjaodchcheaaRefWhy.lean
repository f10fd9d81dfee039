/- This text proves what Why of the reference returns, for every rate of the house, list of re-counts, shepherd and day of knowledge. -/
import Derived.Test.YtokpjaodchcheaaRefRate
import Derived.Test.YtokpjaodchcheaaWrong
import Derived.Test.YtokpjaodchcheaaWhyPlain
namespace Go.Proofs.Ytokpjaodchcheaa
open Go.RowKit Go.Shelf
attribute [local go_sem] Oper.semAt_some

theorem drop_rc {l : List Rc} {k : Nat} (hk : k < l.length) : l.drop k = rc l k :: l.drop (k + 1) := by
  rw [List.drop_eq_getElem_cons hk, rc_get hk]
theorem firstId_other {shep : Int} {p : Rc → Bool} {x : Rc} {c : List Rc} (h : ¬ x.s = shep) : firstId shep p (x :: c) = firstId shep p c := by
  have : ofShep shep (x :: c) = ofShep shep c := by simp [ofShep, h]
  unfold firstId; rw [this]
theorem firstId_hit {shep : Int} {p : Rc → Bool} {x : Rc} {c : List Rc} (h : x.s = shep) (hp : p x = true) : firstId shep p (x :: c) = x.i := by
  have : ofShep shep (x :: c) = x :: ofShep shep c := by simp [ofShep, h]
  unfold firstId; rw [this, List.find?_cons_of_pos hp]
theorem firstId_miss {shep : Int} {p : Rc → Bool} {x : Rc} {c : List Rc} (h : x.s = shep) (hp : p x = false) : firstId shep p (x :: c) = firstId shep p c := by
  have : ofShep shep (x :: c) = x :: ofShep shep c := by simp [ofShep, h]
  unfold firstId; rw [this, List.find?_cons_of_neg (by simp [hp])]
theorem oneId_other {g : Bool} {shep : Int} {p : Rc → Bool} {x : Rc} {c : List Rc} (h : ¬ x.s = shep) : oneId g shep p (x :: c) = oneId g shep p c := by
  unfold oneId; rw [firstId_other h]
theorem oneId_hit {shep : Int} {p : Rc → Bool} {x : Rc} {c : List Rc} (h : x.s = shep) (hp : p x = true) : oneId true shep p (x :: c) = x.i := by
  unfold oneId; rw [firstId_hit h hp]; rfl
theorem oneId_miss {g : Bool} {shep : Int} {p : Rc → Bool} {x : Rc} {c : List Rc} (h : x.s = shep) (hp : p x = false) : oneId g shep p (x :: c) = oneId g shep p c := by
  unfold oneId; rw [firstId_miss h hp]
theorem oneId_no {shep : Int} {p : Rc → Bool} {c c' : List Rc} : oneId false shep p c = oneId false shep p c' := rfl
theorem backL_snoc (c : List Rc) (x : Rc) (one two : Int) : backL (c ++ [x]) one two = backL c one two ++ if x.i == one || x.i == two then [x.i] else [] := by
  unfold backL
  rw [List.filter_append, List.map_append]
  congr 1
  cases h : (x.i == one || x.i == two) <;> simp [h]
theorem backL_len (c : List Rc) (one two : Int) : (backL c one two).length ≤ c.length := by
  unfold backL; rw [List.length_map]; exact List.length_filter_le _ _

set_option maxRecDepth 100000 in
set_option maxHeartbeats 8000000 in
theorem c_rWhy_err (m d : Int) (l : List Rc) (a : Option Addr) (cap : Nat) (shep known : Int) (w : World) (hl : Recs w a l) (ra rb e : Int) (h1 : rateV m d l shep known = (ra, rb, e)) (h2 : ¬ e = 0) :
    Calls Try.prog 46 #[.agg #[.int .i64 m, .int .i64 d], .slice a l.length cap, .int .i64 shep, .int .i64 known] w (GivesInts (whyV m d l shep known) w) := by
  have hv : whyV m d l shep known = ([], e) := by unfold whyV; rw [h1]; exact if_neg h2
  rw [hv]
  have hR := fun W (hb : Below w.heap.size w W) => c_rRateOf m d l a cap shep known W (hl.later hb)
  rw [h1] at hR
  have HR := Lib.hid hR
  have h2' : (e == 0) = false := by simpa using h2
  have h2n : (e != 0) = true := by simpa using h2
  clear hv hR h1 h2 hl
  go_enter Try.func46, Try.ntmps46
  go_upto_region 1 with (fail)
  go_name_world W1 hW1
  have hbn : Below w.heap.size w W1 := by subst hW1; go_grown
  have hb0 := hbn
  clear hbn
  have qmn : W1.cell? ⟨w.heap.size, 0, none⟩ = some (.int .i64 m) := by subst hW1; go_simp
  have qdn : W1.cell? ⟨w.heap.size, 1, none⟩ = some (.int .i64 d) := by subst hW1; go_simp
  clear hW1 
  have qm := qmn
  have qd := qdn
  clear qmn qdn 
  go_wp2_with fail
  refine (via (w0 := W1) (by go_grown) (HR.out _ hb0)).mono ?_
  rintro e W2 ⟨rfl, hc, hf, hz, hB⟩
  have qmn : W2.cell? ⟨w.heap.size, 0, none⟩ = some (.int .i64 m) := (hc _ _ (cell_lt qm)).trans qm
  clear qm
  have qm := qmn
  clear qmn
  have qdn : W2.cell? ⟨w.heap.size, 1, none⟩ = some (.int .i64 d) := (hc _ _ (cell_lt qd)).trans qd
  clear qd
  have qd := qdn
  clear qdn
  have hbn : Below w.heap.size w W2 := bthen hb0 hB
  clear hb0
  have hb0 := hbn
  clear hbn
  have hzW2 : W1.heap.size ≤ W2.heap.size := hz
  clear hc hf hB hz
  go_wp2_with fail
  go_ret2
  exact ⟨⟨none, 0, rfl, ints_nil _ _⟩, by have hbz := hb0.size; go_grown⟩

set_option maxRecDepth 100000 in
set_option maxHeartbeats 8000000 in
theorem c_rWhy_ok (m d : Int) (l : List Rc) (a : Option Addr) (cap : Nat) (shep known : Int) (w : World) (hl : Recs w a l) (ra rb : Int) (h1 : rateV m d l shep known = (ra, rb, 0)) :
    Calls Try.prog 46 #[.agg #[.int .i64 m, .int .i64 d], .slice a l.length cap, .int .i64 shep, .int .i64 known] w (GivesInts (whyV m d l shep known) w) := by
  have hlen := hl.1
  obtain ⟨g1, g2, _, g3, g4⟩ := rateV_ok h1
  have hma : m ≤ ra := by rw [g3]; exact mx_base _ _
  have hdb : d ≤ rb := by rw [g4]; exact mx_base _ _
  have ho : InOrder (cnt known l) := (inOrder_iff.1 g2).sub List.filter_sublist
  have hv : whyV m d l shep known = (backL (cnt known l) (oneId (decide (m < ra)) shep (hit pL ra rb) (cnt known l)) (oneId (decide (d < rb)) shep (hit pG ra rb) (cnt known l)), 0) := by
    unfold whyV
    rw [h1, why_back ho hma hdb]
    rfl
  rw [hv]
  have hR := fun W (hb : Below w.heap.size w W) => c_rRateOf m d l a cap shep known W (hl.later hb)
  rw [h1] at hR
  have hC := fun W (hb : Below w.heap.size w W) => c_rCounting l a cap known W (hl.later hb)
  have hcl := cnt_len2 known l
  clear hv g1 g2 g3 g4 ho h1 hma hdb
  generalize cnt known l = c at *
  have HR := Lib.hid hR
  have HC := Lib.hid hC
  obtain ⟨i0, hi0, hz0, hz1, hz2⟩ := info_parts info_int
  clear hR hC hl
  go_enter Try.func46, Try.ntmps46
  go_upto_region 1 with (fail)
  go_name_world W1 hW1
  have hbn : Below w.heap.size w W1 := by subst hW1; go_grown
  have hb0 := hbn
  clear hbn
  have qmn : W1.cell? ⟨w.heap.size, 0, none⟩ = some (.int .i64 m) := by subst hW1; go_simp
  have qdn : W1.cell? ⟨w.heap.size, 1, none⟩ = some (.int .i64 d) := by subst hW1; go_simp
  clear hW1 
  have qm := qmn
  have qd := qdn
  clear qmn qdn 
  go_wp2_with fail
  refine (via (w0 := W1) (by go_grown) (HR.out _ hb0)).mono ?_
  rintro e W2 ⟨rfl, hc, hf, hz, hB⟩
  have qmn : W2.cell? ⟨w.heap.size, 0, none⟩ = some (.int .i64 m) := (hc _ _ (cell_lt qm)).trans qm
  clear qm
  have qm := qmn
  clear qmn
  have qdn : W2.cell? ⟨w.heap.size, 1, none⟩ = some (.int .i64 d) := (hc _ _ (cell_lt qd)).trans qd
  clear qd
  have qd := qdn
  clear qdn
  have hbn : Below w.heap.size w W2 := bthen hb0 hB
  clear hb0
  have hb0 := hbn
  clear hbn
  have hzW2 : W1.heap.size ≤ W2.heap.size := hz
  clear hc hf hB hz
  go_upto_region 2 with (fail)
  go_name_world W3 hW3
  have hbz := hb0.size
  have hbn : Below w.heap.size w W3 := by subst hW3; go_grown
  clear hb0 hbz
  have hb0 := hbn
  clear hbn
  have hbk : Below W2.heap.size W2 W3 := by subst hW3; go_grown
  have qmn : W3.cell? ⟨w.heap.size, 0, none⟩ = some (.int .i64 m) := ((bcell hbk).1 _ _ (cell_lt qm)).trans qm
  have qdn : W3.cell? ⟨w.heap.size, 1, none⟩ = some (.int .i64 d) := ((bcell hbk).1 _ _ (cell_lt qd)).trans qd
  clear hbk
  have r0n : W3.cell? ⟨W2.heap.size, 0, none⟩ = some (.int .i64 ra) := by subst hW3; go_simp
  have r1n : W3.cell? ⟨W2.heap.size, 1, none⟩ = some (.int .i64 rb) := by subst hW3; go_simp
  clear hW3 qm qd
  have qm := qmn
  have qd := qdn
  have r0 := r0n
  have r1 := r1n
  clear qmn qdn r0n r1n 
  go_wp2_with fail
  refine (HC.out _ hb0).mono ?_
  rintro e W4 ⟨⟨b1, k1, rfl, hr1, _⟩, hB⟩
  have hc := (bcell hB).1
  have hf := (bcell hB).2
  have qmn : W4.cell? ⟨w.heap.size, 0, none⟩ = some (.int .i64 m) := (hc _ _ (cell_lt qm)).trans qm
  clear qm
  have qm := qmn
  clear qmn
  have qdn : W4.cell? ⟨w.heap.size, 1, none⟩ = some (.int .i64 d) := (hc _ _ (cell_lt qd)).trans qd
  clear qd
  have qd := qdn
  clear qdn
  have r0n : W4.cell? ⟨W2.heap.size, 0, none⟩ = some (.int .i64 ra) := (hc _ _ (cell_lt r0)).trans r0
  clear r0
  have r0 := r0n
  clear r0n
  have r1n : W4.cell? ⟨W2.heap.size, 1, none⟩ = some (.int .i64 rb) := (hc _ _ (cell_lt r1)).trans r1
  clear r1
  have r1 := r1n
  clear r1n
  have hbn := bthen hb0 hB
  clear hb0
  have hb0 := hbn
  clear hbn hc hf hB
  have HR := Lib.hid hr1
  clear hr1
  go_wp2
  go_loopw [13, 14, 15] (fun v13 v14 v15 wr => ∃ k : Nat, k ≤ c.length ∧ v15 = .int .i64 ((k : Int) - 1) ∧ v13 = .int .i64 (oneId (decide (m < ra)) shep (hit pL ra rb) (c.drop k)) ∧ v14 = .int .i64 (oneId (decide (d < rb)) shep (hit pG ra rb) (c.drop k)) ∧ Below W4.heap.size W4 wr) (fun _ _ v15 _ => (intOf v15 + 1).toNat)
  case atStart =>
    refine ⟨c.length, by omega, rfl, ?_, ?_, Below.refl _ _⟩ <;> rw [List.drop_length] <;> simp [oneId, firstId, ofShep]
  case round =>
    obtain ⟨k, hk, rfl, rfl, rfl, hbr⟩ := hrel
    have HBR := Lib.hid hbr
    have u0 := ((bcell hbr).1 _ _ (cell_lt qm)).trans qm
    have u1 := ((bcell hbr).1 _ _ (cell_lt qd)).trans qd
    have s0 := ((bcell hbr).1 _ _ (cell_lt r0)).trans r0
    have s1 := ((bcell hbr).1 _ _ (cell_lt r1)).trans r1
    by_cases hlt : 0 < k
    · obtain ⟨j, rfl⟩ : ∃ j, k = j + 1 := ⟨k - 1, by omega⟩
      have hj : j < c.length := by omega
      obtain ⟨b, o, rfl, hat⟩ := (HR.out.later hbr).2 (by intro e; rw [e] at hj; simp at hj)
      obtain ⟨x1, x2, x3, x4, x5, x6⟩ := hat j hj
      have HB0 := Lib.hid hb0
      clear hat x2 x3 hbr qm qd r0 r1 hb0
      have hst := drop_rc hj
      have HST := Lib.hid hst
      clear hst
      have hj1 : (((j + 1 : Nat) : Int) - 1) = (j : Int) := by omega
      rw [hj1]
      clear hj1
      have hi1 : ¬ (j : Int) < 0 := by omega
      have hi0' : (0 : Int) ≤ (j : Int) := by omega
      have hi2 : (j : Int) < (c.length : Int) := by omega
      obtain ⟨xk, hxk⟩ : ∃ x, rc c j = x := ⟨_, rfl⟩
      rw [hxk] at x1 x4 x5 x6
      have HXK := Lib.hid hxk
      clear hxk
      have hb0 : Below wr.heap.size wr wr := Below.refl _ _
      have hh1 : hit pL ra rb xk = decide ((missV xk.t xk.n).1 = ra) := rfl
      have hh2 : hit pG ra rb xk = decide ((doubV xk.t xk.n).1 = rb) := rfl
      have hmi := fun W => c_rMisses xk.t xk.n W
      have hdo := fun W => c_rDoubles xk.t xk.n W
      generalize missV xk.t xk.n = mv at *
      generalize doubV xk.t xk.n = dv at *
      obtain ⟨m1, m2⟩ := mv
      obtain ⟨d1, d2⟩ := dv
      dsimp only at hh1 hh2
      have HMI := Lib.hid hmi
      have HDO := Lib.hid hdo
      have HH1 := Lib.hid hh1
      have HH2 := Lib.hid hh2
      clear hmi hdo hh1 hh2
      have hnew1 : ∀ z, oneId (decide (m < ra)) shep (hit pL ra rb) (xk :: c.drop (j + 1)) = z → oneId (decide (m < ra)) shep (hit pL ra rb) (c.drop j) = z := fun z h => by rw [HST.out, HXK.out]; exact h
      have hnew2 : ∀ z, oneId (decide (d < rb)) shep (hit pG ra rb) (xk :: c.drop (j + 1)) = z → oneId (decide (d < rb)) shep (hit pG ra rb) (c.drop j) = z := fun z h => by rw [HST.out, HXK.out]; exact h
      have HN1 := Lib.hid hnew1
      have HN2 := Lib.hid hnew2
      clear hnew1 hnew2
      by_cases hs : xk.s = shep
      rotate_left
      · have hsn : (xk.s != shep) = true := by simpa using hs
        have E1 := Lib.hid (HN1.out _ (oneId_other hs))
        have E2 := Lib.hid (HN2.out _ (oneId_other hs))
        clear hs
        go_wp2
        go_roundw
        case rel => exact ⟨j, by omega, by go_num, by rw [E1.out], by rw [E2.out], HBR.out⟩
        case measure => simp [intOf]
      have hsn : (xk.s != shep) = false := by simpa using hs
      have HS := Lib.hid hs
      clear hs
      go_wp2_with fail
      have ku0 := later_cell u0
      have ku1 := later_cell u1
      have ks0 := later_cell s0
      have ks1 := later_cell s1
      have kx1 := later_cell x1
      have kx4 := later_cell x4
      have kx5 := later_cell x5
      have kx6 := later_cell x6
      refine wp_region_later wr (by kernel_rfl) (by kernel_rfl) (Below.refl _ _) ?_
      repeat (go_big_quiet_step (first | (go_at_call 17; with_reducible exact in_region (HMI.out _))))
      refine wpQuiet_nil ?_
      rintro ⟨W5, hB⟩
      dsimp only
      have hc := (bcell hB).1
      have hf := (bcell hB).2
      have hz := hB.size
      clear ku0 ku1 ks0 ks1 kx1 kx4 kx5 kx6
      have u0n : W5.cell? ⟨w.heap.size, 0, none⟩ = some (.int .i64 m) := (hc _ _ (cell_lt u0)).trans u0
      clear u0
      have u0 := u0n
      clear u0n
      have u1n : W5.cell? ⟨w.heap.size, 1, none⟩ = some (.int .i64 d) := (hc _ _ (cell_lt u1)).trans u1
      clear u1
      have u1 := u1n
      clear u1n
      have s0n : W5.cell? ⟨W2.heap.size, 0, none⟩ = some (.int .i64 ra) := (hc _ _ (cell_lt s0)).trans s0
      clear s0
      have s0 := s0n
      clear s0n
      have s1n : W5.cell? ⟨W2.heap.size, 1, none⟩ = some (.int .i64 rb) := (hc _ _ (cell_lt s1)).trans s1
      clear s1
      have s1 := s1n
      clear s1n
      have x1n : W5.cell? ⟨b, o + j * 6, none⟩ = some (.int .i64 xk.i) := (hc _ _ (cell_lt x1)).trans x1
      clear x1
      have x1 := x1n
      clear x1n
      have x4n : W5.cell? ⟨b, o + j * 6 + 3, none⟩ = some (.int .i64 xk.s) := (hc _ _ (cell_lt x4)).trans x4
      clear x4
      have x4 := x4n
      clear x4n
      have x5n : W5.cell? ⟨b, o + j * 6 + 4, none⟩ = some (.int .i64 xk.t) := (hc _ _ (cell_lt x5)).trans x5
      clear x5
      have x5 := x5n
      clear x5n
      have x6n : W5.cell? ⟨b, o + j * 6 + 5, none⟩ = some (.int .i64 xk.n) := (hc _ _ (cell_lt x6)).trans x6
      clear x6
      have x6 := x6n
      clear x6n
      have hbn : Below wr.heap.size wr W5 := bthen hb0 hB
      clear hb0
      have hb0 := hbn
      clear hbn
      have hzW5 : wr.heap.size ≤ W5.heap.size := hz
      clear hc hf hB hz
      go_wp2_with fail
      have ku0 := later_cell u0
      have ku1 := later_cell u1
      have ks0 := later_cell s0
      have ks1 := later_cell s1
      have kx1 := later_cell x1
      have kx4 := later_cell x4
      have kx5 := later_cell x5
      have kx6 := later_cell x6
      refine wp_region_later W5 (by kernel_rfl) (by kernel_rfl) (Below.refl _ _) ?_
      repeat (go_big_quiet_step (first | (go_at_call 19; with_reducible exact in_region (HDO.out _))))
      refine wpQuiet_nil ?_
      rintro ⟨W6, hB⟩
      dsimp only
      have hc := (bcell hB).1
      have hf := (bcell hB).2
      have hz := hB.size
      clear ku0 ku1 ks0 ks1 kx1 kx4 kx5 kx6
      have u0n : W6.cell? ⟨w.heap.size, 0, none⟩ = some (.int .i64 m) := (hc _ _ (cell_lt u0)).trans u0
      clear u0
      have u0 := u0n
      clear u0n
      have u1n : W6.cell? ⟨w.heap.size, 1, none⟩ = some (.int .i64 d) := (hc _ _ (cell_lt u1)).trans u1
      clear u1
      have u1 := u1n
      clear u1n
      have s0n : W6.cell? ⟨W2.heap.size, 0, none⟩ = some (.int .i64 ra) := (hc _ _ (cell_lt s0)).trans s0
      clear s0
      have s0 := s0n
      clear s0n
      have s1n : W6.cell? ⟨W2.heap.size, 1, none⟩ = some (.int .i64 rb) := (hc _ _ (cell_lt s1)).trans s1
      clear s1
      have s1 := s1n
      clear s1n
      have x1n : W6.cell? ⟨b, o + j * 6, none⟩ = some (.int .i64 xk.i) := (hc _ _ (cell_lt x1)).trans x1
      clear x1
      have x1 := x1n
      clear x1n
      have x4n : W6.cell? ⟨b, o + j * 6 + 3, none⟩ = some (.int .i64 xk.s) := (hc _ _ (cell_lt x4)).trans x4
      clear x4
      have x4 := x4n
      clear x4n
      have x5n : W6.cell? ⟨b, o + j * 6 + 4, none⟩ = some (.int .i64 xk.t) := (hc _ _ (cell_lt x5)).trans x5
      clear x5
      have x5 := x5n
      clear x5n
      have x6n : W6.cell? ⟨b, o + j * 6 + 5, none⟩ = some (.int .i64 xk.n) := (hc _ _ (cell_lt x6)).trans x6
      clear x6
      have x6 := x6n
      clear x6n
      have hbn : Below wr.heap.size wr W6 := bthen hb0 hB
      clear hb0
      have hb0 := hbn
      clear hbn
      have hzW6 : W5.heap.size ≤ W6.heap.size := hz
      clear hc hf hB hz
      have HBN := Lib.hid (bthen HBR.out hb0)
      clear x4 x5 x6 hb0
      by_cases q1 : m < ra
      · by_cases e1 : m1 = ra
        · by_cases q2 : d < rb
          · by_cases e2 : d1 = rb
            · have E1 := Lib.hid (HN1.out xk.i (by rw [decide_eq_true q1]; exact oneId_hit HS.out (by rw [HH1.out]; simp [e1])))
              have E2 := Lib.hid (HN2.out xk.i (by rw [decide_eq_true q2]; exact oneId_hit HS.out (by rw [HH2.out]; simp [e2])))
              have f1 : (m1 == ra) = true := by simpa using e1
              clear e1
              have f2 : (d1 == rb) = true := by simpa using e2
              clear e2
              go_wp2
              go_roundw
              case rel => exact ⟨j, by omega, by go_num, by rw [E1.out], by rw [E2.out], HBN.out⟩
              case measure => simp [intOf]
            · have E1 := Lib.hid (HN1.out xk.i (by rw [decide_eq_true q1]; exact oneId_hit HS.out (by rw [HH1.out]; simp [e1])))
              have E2 := Lib.hid (HN2.out _ (oneId_miss HS.out (by rw [HH2.out]; simp [e2])))
              have f1 : (m1 == ra) = true := by simpa using e1
              clear e1
              have f2 : (d1 == rb) = false := by simpa using e2
              clear e2
              go_wp2
              go_roundw
              case rel => exact ⟨j, by omega, by go_num, by rw [E1.out], by rw [E2.out], HBN.out⟩
              case measure => simp [intOf]
          · have E1 := Lib.hid (HN1.out xk.i (by rw [decide_eq_true q1]; exact oneId_hit HS.out (by rw [HH1.out]; simp [e1])))
            have E2 := Lib.hid (HN2.out (oneId (decide (d < rb)) shep (hit pG ra rb) (c.drop (j + 1))) (by rw [decide_eq_false q2]; rfl))
            have f1 : (m1 == ra) = true := by simpa using e1
            clear e1
            have g2 : decide (d < rb) = false := decide_eq_false q2
            go_wp2
            go_roundw
            case rel => exact ⟨j, by omega, by go_num, by rw [E1.out], by rw [E2.out], HBN.out⟩
            case measure => simp [intOf]
        · by_cases q2 : d < rb
          · by_cases e2 : d1 = rb
            · have E1 := Lib.hid (HN1.out _ (oneId_miss HS.out (by rw [HH1.out]; simp [e1])))
              have E2 := Lib.hid (HN2.out xk.i (by rw [decide_eq_true q2]; exact oneId_hit HS.out (by rw [HH2.out]; simp [e2])))
              have f1 : (m1 == ra) = false := by simpa using e1
              clear e1
              have f2 : (d1 == rb) = true := by simpa using e2
              clear e2
              go_wp2
              go_roundw
              case rel => exact ⟨j, by omega, by go_num, by rw [E1.out], by rw [E2.out], HBN.out⟩
              case measure => simp [intOf]
            · have E1 := Lib.hid (HN1.out _ (oneId_miss HS.out (by rw [HH1.out]; simp [e1])))
              have E2 := Lib.hid (HN2.out _ (oneId_miss HS.out (by rw [HH2.out]; simp [e2])))
              have f1 : (m1 == ra) = false := by simpa using e1
              clear e1
              have f2 : (d1 == rb) = false := by simpa using e2
              clear e2
              go_wp2
              go_roundw
              case rel => exact ⟨j, by omega, by go_num, by rw [E1.out], by rw [E2.out], HBN.out⟩
              case measure => simp [intOf]
          · have E1 := Lib.hid (HN1.out _ (oneId_miss HS.out (by rw [HH1.out]; simp [e1])))
            have E2 := Lib.hid (HN2.out (oneId (decide (d < rb)) shep (hit pG ra rb) (c.drop (j + 1))) (by rw [decide_eq_false q2]; rfl))
            have f1 : (m1 == ra) = false := by simpa using e1
            clear e1
            have g2 : decide (d < rb) = false := decide_eq_false q2
            go_wp2
            go_roundw
            case rel => exact ⟨j, by omega, by go_num, by rw [E1.out], by rw [E2.out], HBN.out⟩
            case measure => simp [intOf]
      · by_cases q2 : d < rb
        · by_cases e2 : d1 = rb
          · have E1 := Lib.hid (HN1.out (oneId (decide (m < ra)) shep (hit pL ra rb) (c.drop (j + 1))) (by rw [decide_eq_false q1]; rfl))
            have E2 := Lib.hid (HN2.out xk.i (by rw [decide_eq_true q2]; exact oneId_hit HS.out (by rw [HH2.out]; simp [e2])))
            have g1 : decide (m < ra) = false := decide_eq_false q1
            have f2 : (d1 == rb) = true := by simpa using e2
            clear e2
            go_wp2
            go_roundw
            case rel => exact ⟨j, by omega, by go_num, by rw [E1.out], by rw [E2.out], HBN.out⟩
            case measure => simp [intOf]
          · have E1 := Lib.hid (HN1.out (oneId (decide (m < ra)) shep (hit pL ra rb) (c.drop (j + 1))) (by rw [decide_eq_false q1]; rfl))
            have E2 := Lib.hid (HN2.out _ (oneId_miss HS.out (by rw [HH2.out]; simp [e2])))
            have g1 : decide (m < ra) = false := decide_eq_false q1
            have f2 : (d1 == rb) = false := by simpa using e2
            clear e2
            go_wp2
            go_roundw
            case rel => exact ⟨j, by omega, by go_num, by rw [E1.out], by rw [E2.out], HBN.out⟩
            case measure => simp [intOf]
        · have E1 := Lib.hid (HN1.out (oneId (decide (m < ra)) shep (hit pL ra rb) (c.drop (j + 1))) (by rw [decide_eq_false q1]; rfl))
          have E2 := Lib.hid (HN2.out (oneId (decide (d < rb)) shep (hit pG ra rb) (c.drop (j + 1))) (by rw [decide_eq_false q2]; rfl))
          have g1 : decide (m < ra) = false := decide_eq_false q1
          have g2 : decide (d < rb) = false := decide_eq_false q2
          go_wp2
          go_roundw
          case rel => exact ⟨j, by omega, by go_num, by rw [E1.out], by rw [E2.out], HBN.out⟩
          case measure => simp [intOf]
    · obtain rfl : k = 0 := by omega
      rw [List.drop_zero]
      have hm1 : (((0 : Nat) : Int) - 1) = -1 := by omega
      rw [hm1]
      clear hm1
      have hbn := bthen hb0 hbr
      have HB0 := Lib.hid hbn
      have hrr := HR.out.later hbr
      have HRR := Lib.hid hrr
      clear hrr hbn hb0 hbr qm qd r0 r1 u0 u1 s0 s1
      generalize oneId (decide (m < ra)) shep (hit pL ra rb) c = one at *
      generalize oneId (decide (d < rb)) shep (hit pG ra rb) c = tw at *
      obtain ⟨wo, rfl⟩ : ∃ wo : World, wo = wr := ⟨_, rfl⟩
      go_wp2
      go_loopw [20, 21] (fun v20 v21 wr => ∃ k : Nat, k ≤ c.length ∧ v21 = .int .i64 k ∧ wr.ownsRow wo.heap.size 3 1 v20 (backL (c.take k) one tw).length (cellsL intC (backL (c.take k) one tw)) ∧ Below wo.heap.size wo wr) (fun _ v21 _ => c.length - (intOf v21).toNat)
      case atStart => exact ⟨0, by omega, rfl, own_nil _ _ _ _, Below.refl _ _⟩
      case round =>
        obtain ⟨k, hk, rfl, hown, hbr⟩ := hrel
        have HO := Lib.hid hown
        have HBR := Lib.hid hbr
        have hzr := hbr.size
        clear hown
        by_cases hlt : k < c.length
        · obtain ⟨b, o, rfl, hat⟩ := (HRR.out.later hbr).2 (by intro e; rw [e] at hlt; simp at hlt)
          obtain ⟨x1, x2, x3, x4, x5, x6⟩ := hat k hlt
          clear hat x2 x3 x4 x5 x6 hbr
          have hi1 : ¬ (k : Int) < 0 := by omega
          have hi2 : (k : Int) < (c.length : Int) := by omega
          have hbl := backL_len (c.take k) one tw
          have htl : (c.take k).length = k := by simp; omega
          have hst : backL (c.take (k + 1)) one tw = backL (c.take k) one tw ++ if (rc c k).i == one || (rc c k).i == tw then [(rc c k).i] else [] := by rw [take_rc hlt, backL_snoc]
          have HST := Lib.hid hst
          clear hst
          generalize (rc c k).i = xi at *
          have key : (xi == one || xi == tw) = true ∨ (xi == one || xi == tw) = false := by cases (xi == one || xi == tw) <;> simp
          clear key
          cases k1' : (xi == one)
          · cases k2' : (xi == tw)
            · have HK : Hid ((xi == one || xi == tw) = false) := by show _ = _; rw [k1', k2']; rfl
              have e1 : backL (c.take (k + 1)) one tw = backL (c.take k) one tw := by rw [HST.out, HK.out]; simp
              have HE := Lib.hid e1
              clear e1
              go_wp2
              go_roundw
              case rel => exact ⟨k + 1, by omega, by go_num, by rw [HE.out]; exact HO.out, HBR.out⟩
              case measure => simp [intOf]; omega
            · have HK : Hid ((xi == one || xi == tw) = true) := by show _ = _; rw [k1', k2']; rfl
              have e1 : backL (c.take (k + 1)) one tw = backL (c.take k) one tw ++ [xi] := by rw [HST.out, HK.out]; rfl
              have HE := Lib.hid e1
              have hlt' := HO.out.lt
              clear e1
              go_wp2_with (at_builtin; refine stuckHere ?_)
              refine unHid ?_
              refine wpList_append_own_at _ rfl _ _ 46 rfl wo.heap.size 3 i0 _ 1 8 Try.underlying46 hi0 hz0 hz1 hz2 rfl (by decide) _ _ _ rfl (HO.out.alloc _) ⟨wr.heap.size, 0, none⟩ 1 1 [.int .i64 xi] rfl rfl (cell_one_new _ _ _) (by simp [Value.oneCell']) (by unfold maxLen; omega) (by omega) (by simp; omega) ?_
              intro v' w1 hown' hgrow _ hat
              have hbb : Below wo.heap.size wo w1 := by
                have h1 : Below wo.heap.size wo (wr.alloc (Obj.cells #[.int .i64 xi] 3)) := HBR.out.alloc HBR.out.size _
                exact h1.trans ((kept_of_grown hgrow).below (by have := HBR.out.size; simp; omega) (fun j hj => (hlt' j hj).1))
              have hown2 : w1.ownsRow wo.heap.size 3 1 v' (backL (c.take (k + 1)) one tw).length (cellsL intC (backL (c.take (k + 1)) one tw)) := by
                rw [HE.out, cellsL_snoc, List.length_append]
                exact hown'
              have HB3 := Lib.hid hbb
              have HO3 := Lib.hid hown2
              clear hown' hgrow hat hlt' hbb hown2
              go_wp2
              go_roundw
              case rel => exact ⟨k + 1, by omega, by go_num, HO3.out, HB3.out⟩
              case measure => simp [intOf]; omega
          · have HK : Hid ((xi == one || xi == tw) = true) := by show _ = _; rw [k1']; rfl
            have e1 : backL (c.take (k + 1)) one tw = backL (c.take k) one tw ++ [xi] := by rw [HST.out, HK.out]; rfl
            have HE := Lib.hid e1
            have hlt' := HO.out.lt
            clear e1
            go_wp2_with (at_builtin; refine stuckHere ?_)
            refine unHid ?_
            refine wpList_append_own_at _ rfl _ _ 46 rfl wo.heap.size 3 i0 _ 1 8 Try.underlying46 hi0 hz0 hz1 hz2 rfl (by decide) _ _ _ rfl (HO.out.alloc _) ⟨wr.heap.size, 0, none⟩ 1 1 [.int .i64 xi] rfl rfl (cell_one_new _ _ _) (by simp [Value.oneCell']) (by unfold maxLen; omega) (by omega) (by simp; omega) ?_
            intro v' w1 hown' hgrow _ hat
            have hbb : Below wo.heap.size wo w1 := by
              have h1 : Below wo.heap.size wo (wr.alloc (Obj.cells #[.int .i64 xi] 3)) := HBR.out.alloc HBR.out.size _
              exact h1.trans ((kept_of_grown hgrow).below (by have := HBR.out.size; simp; omega) (fun j hj => (hlt' j hj).1))
            have hown2 : w1.ownsRow wo.heap.size 3 1 v' (backL (c.take (k + 1)) one tw).length (cellsL intC (backL (c.take (k + 1)) one tw)) := by
              rw [HE.out, cellsL_snoc, List.length_append]
              exact hown'
            have HB3 := Lib.hid hbb
            have HO3 := Lib.hid hown2
            clear hown' hgrow hat hlt' hbb hown2
            go_wp2
            go_roundw
            case rel => exact ⟨k + 1, by omega, by go_num, HO3.out, HB3.out⟩
            case measure => simp [intOf]; omega
        · obtain rfl : k = c.length := by omega
          have hown := HO.out
          have hbl := backL_len c one tw
          rw [List.take_length] at hown
          obtain ⟨b, k2, rfl, hi, _⟩ := int_own hown
          have HI := Lib.hid (hi (by omega))
          have HB2 := Lib.hid (bthen HB0.out hbr)
          clear hown hi hbr
          go_wp2
          go_ret2
          exact ⟨⟨_, _, rfl, HI.out⟩, HB2.out⟩

theorem c_rWhy (m d : Int) (l : List Rc) (a : Option Addr) (cap : Nat) (shep known : Int) (w : World) (hl : Recs w a l) :
    Calls Try.prog 46 #[.agg #[.int .i64 m, .int .i64 d], .slice a l.length cap, .int .i64 shep, .int .i64 known] w (GivesInts (whyV m d l shep known) w) := by
  obtain ⟨⟨ra, rb, e⟩, h⟩ : ∃ r, rateV m d l shep known = r := ⟨_, rfl⟩
  by_cases h2 : e = 0
  · subst h2
    exact c_rWhy_ok m d l a cap shep known w hl ra rb h
  · exact c_rWhy_err m d l a cap shep known w hl ra rb e h h2
end Go.Proofs.Ytokpjaodchcheaa
