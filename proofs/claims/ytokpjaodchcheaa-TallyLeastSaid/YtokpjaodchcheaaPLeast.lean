/- This text proves that the law TallyLeast holds: for every rate of the house, list of re-counts, shepherd and day of knowledge it returns true, and they read behind the call as they read before. -/
import Derived.Test.YtokpjaodchcheaaShut
import Derived.Test.YtokpjaodchcheaaRows
import Derived.Test.YtokpjaodchcheaaLeastPlain
import Derived.Test.YtokpjaodchcheaaCounting
import Derived.Test.YtokpjaodchcheaaOpen
namespace Go.Proofs.Ytokpjaodchcheaa.tallyLeast
open Go.ChangeShapes Go.WideShapes Go.ChangeAt Go.RowKit Go.Joins Go.Deep

theorem rateV_zero {m d : Int} {l : List Rc} {shep known p q e : Int} (h : rateV m d l shep known = (p, q, e)) (he : ¬ e = 0) : p = 0 ∧ q = 0 := by
  unfold rateV at h
  split at h
  · split at h
    · split at h
      · simp only [Prod.mk.injEq] at h; exact absurd h.2.2.symm he
      · simp only [Prod.mk.injEq] at h; exact ⟨h.1.symm, h.2.1.symm⟩
    · simp only [Prod.mk.injEq] at h; exact ⟨h.1.symm, h.2.1.symm⟩
  · simp only [Prod.mk.injEq] at h; exact ⟨h.1.symm, h.2.1.symm⟩
theorem someL_take {l : List Rc} {k : Nat} (hk : k < l.length) (ks : List Int) : someL (l.take (k + 1)) ks = someL (l.take k) ks ++ selIn (rc l k) ks := by
  rw [take_rc hk]; simp [someL]
theorem selIn_take {ks : List Int} {j : Nat} (hj : j < ks.length) (x : Rc) : selIn x (ks.take (j + 1)) = selIn x (ks.take j) ++ if x.i == it ks j then [x] else [] := by
  rw [take_it hj]; simp [selIn]
theorem someL_len (l : List Rc) (ks : List Int) : (someL l ks).length ≤ l.length * ks.length := by
  induction l with
  | nil => simp [someL]
  | cons x l ih =>
    have e : someL (x :: l) ks = selIn x ks ++ someL l ks := by simp [someL]
    have := selIn_len x ks
    rw [e, List.length_append, List.length_cons, Nat.succ_mul]
    omega
theorem bound60 {n k j : Nat} (h : n ≤ k * j) (hk : k ≤ 30) (hj : j ≤ 2) : n ≤ 60 := by
  have : k * j ≤ 30 * 2 := Nat.mul_le_mul hk hj
  omega

set_option maxRecDepth 100000 in
set_option maxHeartbeats 16000000 in
theorem walk_many {w : World} (m d : Int) (l : List Rc) (a : Option Addr) (cap : Nat) (hm : l.length ≤ maxLen) (shep known : Int) (h : 30 < l.length) :
    Calls Try.prog 11 #[.agg #[.int .i64 m, .int .i64 d], .slice a l.length cap, .int .i64 shep, .int .i64 known] w fun e w' => e = .returned (.bool true) ∧ Below w.heap.size w w' := by
  unfold maxLen at hm
  have h' : (30 : Int) < (l.length : Int) := by omega
  go_enter Try.func11, Try.ntmps11
  go_upto_region 1 with (fail)
  go_name_world W1 hW1
  have hbn : Below w.heap.size w W1 := by subst hW1; go_grown
  have hb0 := hbn
  clear hbn
  have h0n : W1.cell? ⟨w.heap.size, 0, none⟩ = some (.int .i64 m) := by subst hW1; go_simp
  have h1n : W1.cell? ⟨w.heap.size, 1, none⟩ = some (.int .i64 d) := by subst hW1; go_simp
  clear hW1 
  have h0 := h0n
  have h1 := h1n
  clear h0n h1n 
  go_wp2_with fail
  refine (via (w0 := W1) (by go_grown) (c_counted _)).mono ?_
  rintro e W2 ⟨rfl, hc, hf, hz, hB⟩
  have h0n : W2.cell? ⟨w.heap.size, 0, none⟩ = some (.int .i64 m) := (hc _ _ (cell_lt h0)).trans h0
  clear h0
  have h0 := h0n
  clear h0n
  have h1n : W2.cell? ⟨w.heap.size, 1, none⟩ = some (.int .i64 d) := (hc _ _ (cell_lt h1)).trans h1
  clear h1
  have h1 := h1n
  clear h1n
  have hbn : Below w.heap.size w W2 := bthen hb0 hB
  clear hb0
  have hb0 := hbn
  clear hbn
  have hzW2 : W1.heap.size ≤ W2.heap.size := hz
  clear hc hf hB hz
  go_wp2_with fail
  go_ret
  exact ⟨rfl, by have hbz := hb0.size; go_grown⟩

set_option maxRecDepth 100000 in
set_option maxHeartbeats 16000000 in
theorem walk_err {w : World} (m d : Int) (l : List Rc) (a : Option Addr) (cap : Nat) (hm : l.length ≤ maxLen) (shep known : Int) (h : ¬ 30 < l.length) (hl : Recs w a l) (e : Int) (hr : rateV m d l shep known = (0, 0, e)) (he : ¬ e = 0) :
    Calls Try.prog 11 #[.agg #[.int .i64 m, .int .i64 d], .slice a l.length cap, .int .i64 shep, .int .i64 known] w fun e w' => e = .returned (.bool true) ∧ Below w.heap.size w w' := by
  unfold maxLen at hm
  have h' : ¬ (30 : Int) < (l.length : Int) := by omega
  have hA := fun W (hb : Below w.heap.size w W) => c_RateOf m d l a cap shep known W (hl.later hb)
  rw [hr] at hA
  have HA := Lib.hid hA
  have e1 : (e == 0) = false := by simpa using he
  have e1n : (e != 0) = true := by simpa using he
  clear hA hr hl he
  go_enter Try.func11, Try.ntmps11
  go_upto_region 1 with (fail)
  go_name_world W1 hW1
  have hbn : Below w.heap.size w W1 := by subst hW1; go_grown
  have hb0 := hbn
  clear hbn
  have h0n : W1.cell? ⟨w.heap.size, 0, none⟩ = some (.int .i64 m) := by subst hW1; go_simp
  have h1n : W1.cell? ⟨w.heap.size, 1, none⟩ = some (.int .i64 d) := by subst hW1; go_simp
  clear hW1 
  have h0 := h0n
  have h1 := h1n
  clear h0n h1n 
  go_wp2_with fail
  refine (via (w0 := W1) (by go_grown) (HA.out _ hb0)).mono ?_
  rintro e W2 ⟨rfl, hc, hf, hz, hB⟩
  have h0n : W2.cell? ⟨w.heap.size, 0, none⟩ = some (.int .i64 m) := (hc _ _ (cell_lt h0)).trans h0
  clear h0
  have h0 := h0n
  clear h0n
  have h1n : W2.cell? ⟨w.heap.size, 1, none⟩ = some (.int .i64 d) := (hc _ _ (cell_lt h1)).trans h1
  clear h1
  have h1 := h1n
  clear h1n
  have hbn : Below w.heap.size w W2 := bthen hb0 hB
  clear hb0
  have hb0 := hbn
  clear hbn
  have hzW2 : W1.heap.size ≤ W2.heap.size := hz
  clear hc hf hB hz
  go_upto_region 4 with (fail)
  go_name_world W3 hW3
  have hbz := hb0.size
  have hbn : Below w.heap.size w W3 := by subst hW3; go_grown
  clear hb0 hbz
  have hb0 := hbn
  clear hbn
  have hbk : Below W2.heap.size W2 W3 := by subst hW3; go_grown
  have h0n : W3.cell? ⟨w.heap.size, 0, none⟩ = some (.int .i64 m) := ((bcell hbk).1 _ _ (cell_lt h0)).trans h0
  have h1n : W3.cell? ⟨w.heap.size, 1, none⟩ = some (.int .i64 d) := ((bcell hbk).1 _ _ (cell_lt h1)).trans h1
  clear hbk
  have x0n : W3.cell? ⟨W2.heap.size, 0, none⟩ = some (.int .i64 0) := by subst hW3; go_simp
  have x1n : W3.cell? ⟨W2.heap.size, 1, none⟩ = some (.int .i64 0) := by subst hW3; go_simp
  clear hW3 h0 h1
  have h0 := h0n
  have h1 := h1n
  have x0 := x0n
  have x1 := x1n
  clear h0n h1n x0n x1n 
  go_wp2_with fail
  refine (via (w0 := W3) (by go_grown) (c_counted _)).mono ?_
  rintro e W4 ⟨rfl, hc, hf, hz, hB⟩
  have h0n : W4.cell? ⟨w.heap.size, 0, none⟩ = some (.int .i64 m) := (hc _ _ (cell_lt h0)).trans h0
  clear h0
  have h0 := h0n
  clear h0n
  have h1n : W4.cell? ⟨w.heap.size, 1, none⟩ = some (.int .i64 d) := (hc _ _ (cell_lt h1)).trans h1
  clear h1
  have h1 := h1n
  clear h1n
  have x0n : W4.cell? ⟨W2.heap.size, 0, none⟩ = some (.int .i64 0) := (hc _ _ (cell_lt x0)).trans x0
  clear x0
  have x0 := x0n
  clear x0n
  have x1n : W4.cell? ⟨W2.heap.size, 1, none⟩ = some (.int .i64 0) := (hc _ _ (cell_lt x1)).trans x1
  clear x1
  have x1 := x1n
  clear x1n
  have hbn : Below w.heap.size w W4 := bthen hb0 hB
  clear hb0
  have hb0 := hbn
  clear hbn
  have hzW4 : W3.heap.size ≤ W4.heap.size := hz
  clear hc hf hB hz
  go_wp2_with fail
  go_ret
  exact ⟨rfl, by have hbz := hb0.size; go_grown⟩

set_option maxRecDepth 100000 in
set_option maxHeartbeats 16000000 in
theorem walk_ok_tt {w : World} (m d : Int) (l : List Rc) (a : Option Addr) (cap : Nat) (hm : l.length ≤ maxLen) (shep known : Int) (h : ¬ 30 < l.length) (hl : Recs w a l) (ra rb : Int) (hr : rateV m d l shep known = (ra, rb, 0)) (hma : m < ra) (hdb : d < rb) :
    Calls Try.prog 11 #[.agg #[.int .i64 m, .int .i64 d], .slice a l.length cap, .int .i64 shep, .int .i64 known] w fun e w' => e = .returned (.bool true) ∧ Below w.heap.size w w' := by
  unfold maxLen at hm
  have h' : ¬ (30 : Int) < (l.length : Int) := by omega
  have hrr := rateB_iff.1 (rateV_rate hr)
  have hA := fun W (hb : Below w.heap.size w W) => c_RateOf m d l a cap shep known W (hl.later hb)
  rw [hr] at hA
  have hW := fun W (hb : Below w.heap.size w W) => c_Wrong ra rb l a cap shep known W (hl.later hb)
  rw [fits_all hr] at hW
  have hN := fun W => c_Narrower m d ra rb W
  rw [house_narrower hr] at hN
  have hY := fun W (hb : Below w.heap.size w W) => c_Why m d l a cap shep known W (hl.later hb)
  obtain ⟨hw1, hw2, hw3, hw4⟩ := why_alone hr
  obtain ⟨⟨wl, we⟩, hwe⟩ : ∃ r, whyV m d l shep known = r := ⟨_, rfl⟩
  rw [hwe] at hY hw1 hw2 hw3 hw4
  dsimp only at hw1 hw2 hw3 hw4
  subst hw1
  have hS := fun W b c (hb : Recs W b (someL l wl)) => c_RateOf m d (someL l wl) b c shep known W hb
  rw [hw4] at hS
  have hlen := someL_len l wl
  have hl30 : l.length ≤ 30 := by omega
  obtain ⟨y1, t1, hy1⟩ := less_m hr hma
  have hM := fun W (hb : Below w.heap.size w W) => c_Wrong (ra - 1) rb l a cap shep known W (hl.later hb)
  rw [hy1] at hM
  have HM := Lib.hid hM
  have l1 : ((((y1 :: t1).length : Nat) : Int) == 0) = false := by simp; omega
  clear hM hy1
  obtain ⟨y2, t2, hy2⟩ := less_d hr hdb
  have hD := fun W (hb : Below w.heap.size w W) => c_Wrong ra (rb - 1) l a cap shep known W (hl.later hb)
  rw [hy2] at hD
  have HD := Lib.hid hD
  have l2 : ((((y2 :: t2).length : Nat) : Int) == 0) = false := by simp; omega
  clear hD hy2
  obtain ⟨⟨hra0, hra1⟩, hrb0, hrb1⟩ := hrr
  have HA := Lib.hid hA
  have HW := Lib.hid hW
  have HN := Lib.hid hN
  have HY := Lib.hid hY
  have HS := Lib.hid hS
  have HS3 := Lib.hid hw3
  have HL := Lib.hid hl
  clear hA hW hN hY hS hwe hw3 hw4 hr hl
  obtain ⟨i0, hi0, hz0, hz1', hz2⟩ := info_parts rc_info
  go_enter Try.func11, Try.ntmps11
  go_upto_region 1 with (fail)
  go_name_world W1 hW1
  have hbn : Below w.heap.size w W1 := by subst hW1; go_grown
  have hb0 := hbn
  clear hbn
  have h0n : W1.cell? ⟨w.heap.size, 0, none⟩ = some (.int .i64 m) := by subst hW1; go_simp
  have h1n : W1.cell? ⟨w.heap.size, 1, none⟩ = some (.int .i64 d) := by subst hW1; go_simp
  clear hW1 
  have h0 := h0n
  have h1 := h1n
  clear h0n h1n 
  go_wp2_with fail
  refine (via (w0 := W1) (by go_grown) (HA.out _ hb0)).mono ?_
  rintro e W2 ⟨rfl, hc, hf, hz, hB⟩
  have h0n : W2.cell? ⟨w.heap.size, 0, none⟩ = some (.int .i64 m) := (hc _ _ (cell_lt h0)).trans h0
  clear h0
  have h0 := h0n
  clear h0n
  have h1n : W2.cell? ⟨w.heap.size, 1, none⟩ = some (.int .i64 d) := (hc _ _ (cell_lt h1)).trans h1
  clear h1
  have h1 := h1n
  clear h1n
  have hbn : Below w.heap.size w W2 := bthen hb0 hB
  clear hb0
  have hb0 := hbn
  clear hbn
  have hzW2 : W1.heap.size ≤ W2.heap.size := hz
  clear hc hf hB hz
  go_upto_region 4 with (fail)
  go_name_world W3 hW3
  have hbz := hb0.size
  have hbn : Below w.heap.size w W3 := by subst hW3; go_grown
  clear hb0 hbz
  have hb0 := hbn
  clear hbn
  have hbk : Below W2.heap.size W2 W3 := by subst hW3; go_grown
  have h0n : W3.cell? ⟨w.heap.size, 0, none⟩ = some (.int .i64 m) := ((bcell hbk).1 _ _ (cell_lt h0)).trans h0
  have h1n : W3.cell? ⟨w.heap.size, 1, none⟩ = some (.int .i64 d) := ((bcell hbk).1 _ _ (cell_lt h1)).trans h1
  clear hbk
  have x0n : W3.cell? ⟨W2.heap.size, 0, none⟩ = some (.int .i64 ra) := by subst hW3; go_simp
  have x1n : W3.cell? ⟨W2.heap.size, 1, none⟩ = some (.int .i64 rb) := by subst hW3; go_simp
  clear hW3 h0 h1
  have h0 := h0n
  have h1 := h1n
  have x0 := x0n
  have x1 := x1n
  clear h0n h1n x0n x1n 
  go_wp2_with fail
  refine (HW.out _ hb0).mono ?_
  rintro e W4 ⟨⟨bw, cw, rfl, hiw⟩, hB⟩
  have hc := (bcell hB).1
  have hf := (bcell hB).2
  have h0n : W4.cell? ⟨w.heap.size, 0, none⟩ = some (.int .i64 m) := (hc _ _ (cell_lt h0)).trans h0
  clear h0
  have h0 := h0n
  clear h0n
  have h1n : W4.cell? ⟨w.heap.size, 1, none⟩ = some (.int .i64 d) := (hc _ _ (cell_lt h1)).trans h1
  clear h1
  have h1 := h1n
  clear h1n
  have x0n : W4.cell? ⟨W2.heap.size, 0, none⟩ = some (.int .i64 ra) := (hc _ _ (cell_lt x0)).trans x0
  clear x0
  have x0 := x0n
  clear x0n
  have x1n : W4.cell? ⟨W2.heap.size, 1, none⟩ = some (.int .i64 rb) := (hc _ _ (cell_lt x1)).trans x1
  clear x1
  have x1 := x1n
  clear x1n
  have hbn := bthen hb0 hB
  clear hb0 hiw
  have hb0 := hbn
  clear hbn hc hf hB
  go_wp2_with fail
  refine (via (w0 := W4) (by go_grown) (HN.out _)).mono ?_
  rintro e W5 ⟨rfl, hc, hf, hz, hB⟩
  have h0n : W5.cell? ⟨w.heap.size, 0, none⟩ = some (.int .i64 m) := (hc _ _ (cell_lt h0)).trans h0
  clear h0
  have h0 := h0n
  clear h0n
  have h1n : W5.cell? ⟨w.heap.size, 1, none⟩ = some (.int .i64 d) := (hc _ _ (cell_lt h1)).trans h1
  clear h1
  have h1 := h1n
  clear h1n
  have x0n : W5.cell? ⟨W2.heap.size, 0, none⟩ = some (.int .i64 ra) := (hc _ _ (cell_lt x0)).trans x0
  clear x0
  have x0 := x0n
  clear x0n
  have x1n : W5.cell? ⟨W2.heap.size, 1, none⟩ = some (.int .i64 rb) := (hc _ _ (cell_lt x1)).trans x1
  clear x1
  have x1 := x1n
  clear x1n
  have hbn : Below w.heap.size w W5 := bthen hb0 hB
  clear hb0
  have hb0 := hbn
  clear hbn
  have hzW5 : W4.heap.size ≤ W5.heap.size := hz
  clear hc hf hB hz
  go_wp2_with fail
  refine (HM.out _ hb0).mono ?_
  rintro e W6 ⟨⟨bm, cm, rfl, him⟩, hB⟩
  have hc := (bcell hB).1
  have hf := (bcell hB).2
  have h0n : W6.cell? ⟨w.heap.size, 0, none⟩ = some (.int .i64 m) := (hc _ _ (cell_lt h0)).trans h0
  clear h0
  have h0 := h0n
  clear h0n
  have h1n : W6.cell? ⟨w.heap.size, 1, none⟩ = some (.int .i64 d) := (hc _ _ (cell_lt h1)).trans h1
  clear h1
  have h1 := h1n
  clear h1n
  have x0n : W6.cell? ⟨W2.heap.size, 0, none⟩ = some (.int .i64 ra) := (hc _ _ (cell_lt x0)).trans x0
  clear x0
  have x0 := x0n
  clear x0n
  have x1n : W6.cell? ⟨W2.heap.size, 1, none⟩ = some (.int .i64 rb) := (hc _ _ (cell_lt x1)).trans x1
  clear x1
  have x1 := x1n
  clear x1n
  have hbn := bthen hb0 hB
  clear hb0 him
  have hb0 := hbn
  clear hbn hc hf hB
  go_wp2_with fail
  refine (HD.out _ hb0).mono ?_
  rintro e W7 ⟨⟨bd, cd, rfl, hid⟩, hB⟩
  have hc := (bcell hB).1
  have hf := (bcell hB).2
  have h0n : W7.cell? ⟨w.heap.size, 0, none⟩ = some (.int .i64 m) := (hc _ _ (cell_lt h0)).trans h0
  clear h0
  have h0 := h0n
  clear h0n
  have h1n : W7.cell? ⟨w.heap.size, 1, none⟩ = some (.int .i64 d) := (hc _ _ (cell_lt h1)).trans h1
  clear h1
  have h1 := h1n
  clear h1n
  have x0n : W7.cell? ⟨W2.heap.size, 0, none⟩ = some (.int .i64 ra) := (hc _ _ (cell_lt x0)).trans x0
  clear x0
  have x0 := x0n
  clear x0n
  have x1n : W7.cell? ⟨W2.heap.size, 1, none⟩ = some (.int .i64 rb) := (hc _ _ (cell_lt x1)).trans x1
  clear x1
  have x1 := x1n
  clear x1n
  have hbn := bthen hb0 hB
  clear hb0 hid
  have hb0 := hbn
  clear hbn hc hf hB
  go_wp2_with fail
  refine (HY.out _ hb0).mono ?_
  rintro e W8 ⟨⟨bu, cu, rfl, hiu⟩, hB⟩
  have hc := (bcell hB).1
  have hf := (bcell hB).2
  have h0n : W8.cell? ⟨w.heap.size, 0, none⟩ = some (.int .i64 m) := (hc _ _ (cell_lt h0)).trans h0
  clear h0
  have h0 := h0n
  clear h0n
  have h1n : W8.cell? ⟨w.heap.size, 1, none⟩ = some (.int .i64 d) := (hc _ _ (cell_lt h1)).trans h1
  clear h1
  have h1 := h1n
  clear h1n
  have x0n : W8.cell? ⟨W2.heap.size, 0, none⟩ = some (.int .i64 ra) := (hc _ _ (cell_lt x0)).trans x0
  clear x0
  have x0 := x0n
  clear x0n
  have x1n : W8.cell? ⟨W2.heap.size, 1, none⟩ = some (.int .i64 rb) := (hc _ _ (cell_lt x1)).trans x1
  clear x1
  have x1 := x1n
  clear x1n
  have Iu := Lib.hid hiu
  have hbn := bthen hb0 hB
  clear hb0 hiu
  have hb0 := hbn
  clear hbn hc hf hB
  clear hra0 hra1 hrb0 hrb1 hma hdb l1 l2
  go_wp2
  go_loopw [19, 20] (fun v19 v20 wr => ∃ k : Nat, k ≤ l.length ∧ v20 = .int .i64 k ∧ wr.ownsRow W8.heap.size 43 6 v19 (someL (l.take k) wl).length (cellsL rcC (someL (l.take k) wl)) ∧ Below W8.heap.size W8 wr) (fun _ v20 _ => l.length - (intOf v20).toNat)
  case atStart => exact ⟨0, by omega, rfl, own_nil _ _ _ _, Below.refl _ _⟩
  case round =>
    obtain ⟨k, hk, rfl, hown, hbr⟩ := hrel
    have HO := Lib.hid hown
    have HBY := Lib.hid hb0
    have HB0 := Lib.hid (bthen hb0 hbr)
    clear hown hb0
    obtain ⟨wo, rfl⟩ : ∃ wo : World, wo = wr := ⟨_, rfl⟩
    by_cases hlt : k < l.length
    · have hst := someL_take hlt wl
      have hl1 := bound60 (someL_len (l.take (k + 1)) wl) (Nat.le_trans (List.length_take_le _ _) (by omega)) hw2
      rw [hst, List.length_append] at hl1
      have HST := Lib.hid hst
      have hi1 : ¬ (k : Int) < 0 := by omega
      have hi2 : (k : Int) < (l.length : Int) := by omega
      have hzo := hbr.size
      have HBR := Lib.hid hbr
      generalize hpre : someL (l.take k) wl = pre at *
      have HPRE := Lib.hid hpre
      clear hst hbr hpre
      go_wp2
      go_loopw [19, 21] (fun v19 v21 wr => ∃ j : Nat, j ≤ wl.length ∧ v21 = .int .i64 j ∧ wr.ownsRow W8.heap.size 43 6 v19 (pre ++ selIn (rc l k) (wl.take j)).length (cellsL rcC (pre ++ selIn (rc l k) (wl.take j))) ∧ Below W8.heap.size W8 wr) (fun _ v21 _ => wl.length - (intOf v21).toNat)
      case atStart => exact ⟨0, by omega, rfl, by simpa [selIn] using HO.out, HBR.out⟩
      case round =>
        obtain ⟨j, hj, rfl, hown, hbq⟩ := hrel
        have HOQ := Lib.hid hown
        have HBQ := Lib.hid hbq
        have hzq := hbq.size
        clear hown
        by_cases hjl : j < wl.length
        · obtain ⟨b, o, rfl, hat⟩ := (HL.out.later (bthen HBY.out hbq)).2 (by intro e; rw [e] at hlt; simp at hlt)
          obtain ⟨z1, z2, z3, z4, z5, z6⟩ := hat k hlt
          obtain ⟨xk, hxk⟩ : ∃ x, rc l k = x := ⟨_, rfl⟩
          rw [hxk] at z1 z2 z3 z4 z5 z6 hl1
          rw [hxk] at HOQ
          rw [hxk]
          have HXK := Lib.hid hxk
          obtain ⟨bw, ow, rfl, hwt⟩ := (Iu.out.later hbq).2 (by intro e; rw [e] at hjl; simp at hjl)
          have yv := hwt j hjl
          have hj1 : ¬ (j : Int) < 0 := by omega
          have hj2 : (j : Int) < (wl.length : Int) := by omega
          have hsl := selIn_take hjl xk
          have hll := selIn_len xk (wl.take j)
          have hll2 : (wl.take j).length ≤ 2 := Nat.le_trans (List.length_take_le _ _) (by omega)
          have HSL := Lib.hid hsl
          have hpb : (pre ++ selIn xk (wl.take j)).length ≤ 62 := by rw [List.length_append]; omega
          clear hat hxk hwt hbq hsl
          generalize it wl j = kv at *
          generalize selIn xk (wl.take j) = sj at *
          have HPB := Lib.hid hpb
          have hb0 : Below wr.heap.size wr wr := Below.refl _ _
          go_wp2_with fail
          have kyv := later_cell yv
          have kz1 := later_cell z1
          have kz2 := later_cell z2
          have kz3 := later_cell z3
          have kz4 := later_cell z4
          have kz5 := later_cell z5
          have kz6 := later_cell z6
          refine wp_region_later wr (by kernel_rfl) (by kernel_rfl) (Below.refl _ _) ?_
          repeat (go_big_quiet_step (fail))
          refine wpQuiet_nil ?_
          rintro ⟨W9, hB⟩
          dsimp only
          have hc := (bcell hB).1
          have hf := (bcell hB).2
          have hz := hB.size
          clear kyv kz1 kz2 kz3 kz4 kz5 kz6
          have yvn : W9.cell? ⟨bw, ow + j, none⟩ = some (.int .i64 kv) := (hc _ _ (cell_lt yv)).trans yv
          clear yv
          have yv := yvn
          clear yvn
          have z1n : W9.cell? ⟨b, o + k * 6, none⟩ = some (.int .i64 xk.i) := (hc _ _ (cell_lt z1)).trans z1
          clear z1
          have z1 := z1n
          clear z1n
          have z2n : W9.cell? ⟨b, o + k * 6 + 1, none⟩ = some (.int .i64 xk.d) := (hc _ _ (cell_lt z2)).trans z2
          clear z2
          have z2 := z2n
          clear z2n
          have z3n : W9.cell? ⟨b, o + k * 6 + 2, none⟩ = some (.int .i64 xk.k) := (hc _ _ (cell_lt z3)).trans z3
          clear z3
          have z3 := z3n
          clear z3n
          have z4n : W9.cell? ⟨b, o + k * 6 + 3, none⟩ = some (.int .i64 xk.s) := (hc _ _ (cell_lt z4)).trans z4
          clear z4
          have z4 := z4n
          clear z4n
          have z5n : W9.cell? ⟨b, o + k * 6 + 4, none⟩ = some (.int .i64 xk.t) := (hc _ _ (cell_lt z5)).trans z5
          clear z5
          have z5 := z5n
          clear z5n
          have z6n : W9.cell? ⟨b, o + k * 6 + 5, none⟩ = some (.int .i64 xk.n) := (hc _ _ (cell_lt z6)).trans z6
          clear z6
          have z6 := z6n
          clear z6n
          have hbn : Below wr.heap.size wr W9 := bthen hb0 hB
          clear hb0
          have hb0 := hbn
          clear hbn
          have hzW9 : wr.heap.size ≤ W9.heap.size := hz
          clear hc hf hB hz
          have HBV := Lib.hid (bthen HBQ.out hb0)
          have hown := own_below HOQ.out hb0
          have HOV := Lib.hid hown
          have hzv := hb0.size
          clear hown hb0 yv
          by_cases hkv : xk.i = kv
          · have hkb : (xk.i == kv) = true := by simpa using hkv
            have hsn : selIn xk (wl.take (j + 1)) = sj ++ [xk] := by rw [HSL.out, hkb]; rfl
            have HSN := Lib.hid hsn
            have HH := HOV.out
            clear hsn hkv
            go_wp2_with (at_builtin; refine stuckHere ?_)
            refine unHid ?_
            refine wpList_append_own_at _ rfl _ _ 39 rfl W8.heap.size 43 i0 _ 6 48 Try.underlying39 hi0 hz0 hz1' hz2 rfl (by decide) _ _ _ rfl (HH.alloc _) ⟨W9.heap.size, 0, none⟩ 1 1 [.int .i64 xk.i, .int .i64 xk.d, .int .i64 xk.k, .int .i64 xk.s, .int .i64 xk.t, .int .i64 xk.n] rfl rfl (cells_new _ #[_, _, _, _, _, _] _) (by simp [Value.oneCell']) (by unfold maxLen; have := HPB.out; omega) (by have := HPB.out; omega) (by simp; omega) ?_
            intro v' w1 hown' hgrow _ hat
            have hlt' := HH.lt
            have hbb : Below W8.heap.size W8 w1 := by
              have h1 : Below W8.heap.size W8 (W9.alloc (Obj.cells #[.int .i64 xk.i, .int .i64 xk.d, .int .i64 xk.k, .int .i64 xk.s, .int .i64 xk.t, .int .i64 xk.n] 43)) := HBV.out.alloc HBV.out.size _
              exact h1.trans ((kept_of_grown hgrow).below (by have := HBV.out.size; simp; omega) (fun j hj => (hlt' j hj).1))
            have hown2 : w1.ownsRow W8.heap.size 43 6 v' (pre ++ selIn xk (wl.take (j + 1))).length (cellsL rcC (pre ++ selIn xk (wl.take (j + 1)))) := by
              rw [HSN.out, ← List.append_assoc, cellsL_snoc, List.length_append]
              exact hown'
            have HB := Lib.hid hbb
            have HW1 := Lib.hid hown2
            clear hown' hgrow hat hlt' hown2 hbb HH z1 z2 z3 z4 z5 z6
            go_wp2
            go_roundw
            case rel => exact ⟨j + 1, by omega, by go_num, HW1.out, HB.out⟩
            case measure => simp [intOf]; omega
          · have hkb : (xk.i == kv) = false := by simpa using hkv
            have hsn : selIn xk (wl.take (j + 1)) = sj := by rw [HSL.out, hkb]; simp
            have HSN := Lib.hid hsn
            clear hsn hkv z1 z2 z3 z4 z5 z6
            go_wp2
            go_roundw
            case rel => exact ⟨j + 1, by omega, by go_num, by rw [HSN.out]; exact HOV.out, HBV.out⟩
            case measure => simp [intOf]; omega
        · obtain rfl : j = wl.length := by omega
          have hown := HOQ.out
          rw [List.take_length] at hown
          have hst : someL (l.take (k + 1)) wl = pre ++ selIn (rc l k) wl := by rw [HST.out]
          have HS2 := Lib.hid hst
          have HOW := Lib.hid hown
          clear hown hst hbq
          go_wp2
          go_roundw
          case rel => exact ⟨k + 1, by omega, by go_num, by rw [HS2.out]; exact HOW.out, HBQ.out⟩
          case measure => simp [intOf]; omega
    · obtain rfl : k = l.length := by omega
      have hown := HO.out
      rw [List.take_length] at hown
      have hl1 := bound60 (someL_len l wl) hl30 hw2
      obtain ⟨bs, cs, rfl, hrs, _⟩ := rc_own hown
      have hrs2 := hrs (by omega)
      have hS3 := HS.out _ _ cs hrs2
      have hle : ((((someL l wl).length : Nat) : Int) == ((wl.length : Nat) : Int)) = true := by rw [HS3.out]; simp
      have hw2' : ((wl.length : Nat) : Int) ≤ 2 := by omega
      have hb0 := HB0.out
      have h0n := ((bcell hbr).1 _ _ (cell_lt h0)).trans h0
      clear h0
      have h0 := h0n
      clear h0n
      have h1n := ((bcell hbr).1 _ _ (cell_lt h1)).trans h1
      clear h1
      have h1 := h1n
      clear h1n
      have x0n := ((bcell hbr).1 _ _ (cell_lt x0)).trans x0
      clear x0
      have x0 := x0n
      clear x0n
      have x1n := ((bcell hbr).1 _ _ (cell_lt x1)).trans x1
      clear x1
      have x1 := x1n
      clear x1n
      generalize someL l wl = S at *
      have HS4 := Lib.hid hS3
      clear hown hrs hrs2 hS3 hbr HO HS HS3
      go_wp2_with fail
      refine (via (w0 := wo) (by go_grown) HS4.out).mono ?_
      rintro e W9 ⟨rfl, hc, hf, hz, hB⟩
      have h0n : W9.cell? ⟨w.heap.size, 0, none⟩ = some (.int .i64 m) := (hc _ _ (cell_lt h0)).trans h0
      clear h0
      have h0 := h0n
      clear h0n
      have h1n : W9.cell? ⟨w.heap.size, 1, none⟩ = some (.int .i64 d) := (hc _ _ (cell_lt h1)).trans h1
      clear h1
      have h1 := h1n
      clear h1n
      have x0n : W9.cell? ⟨W2.heap.size, 0, none⟩ = some (.int .i64 ra) := (hc _ _ (cell_lt x0)).trans x0
      clear x0
      have x0 := x0n
      clear x0n
      have x1n : W9.cell? ⟨W2.heap.size, 1, none⟩ = some (.int .i64 rb) := (hc _ _ (cell_lt x1)).trans x1
      clear x1
      have x1 := x1n
      clear x1n
      have hbn := bthen hb0 hB
      clear hb0
      have hb0 := hbn
      clear hbn hc hf hB hz
      go_upto_region 28 with (fail)
      go_name_world W10 hW10
      have hbz := hb0.size
      have hbn : Below w.heap.size w W10 := by subst hW10; go_grown
      clear hb0 hbz
      have hb0 := hbn
      clear hbn
      have hbk : Below W9.heap.size W9 W10 := by subst hW10; go_grown
      have h0n : W10.cell? ⟨w.heap.size, 0, none⟩ = some (.int .i64 m) := ((bcell hbk).1 _ _ (cell_lt h0)).trans h0
      have h1n : W10.cell? ⟨w.heap.size, 1, none⟩ = some (.int .i64 d) := ((bcell hbk).1 _ _ (cell_lt h1)).trans h1
      have x0n : W10.cell? ⟨W2.heap.size, 0, none⟩ = some (.int .i64 ra) := ((bcell hbk).1 _ _ (cell_lt x0)).trans x0
      have x1n : W10.cell? ⟨W2.heap.size, 1, none⟩ = some (.int .i64 rb) := ((bcell hbk).1 _ _ (cell_lt x1)).trans x1
      clear hbk
      have t0n : W10.cell? ⟨W9.heap.size, 0, none⟩ = some (.int .i64 ra) := by subst hW10; go_simp
      have t1n : W10.cell? ⟨W9.heap.size, 1, none⟩ = some (.int .i64 rb) := by subst hW10; go_simp
      clear hW10 h0 h1 x0 x1
      have h0 := h0n
      have h1 := h1n
      have x0 := x0n
      have x1 := x1n
      have t0 := t0n
      have t1 := t1n
      clear h0n h1n x0n x1n t0n t1n 
      go_wp2_with fail
      refine (via (w0 := W10) (by go_grown) (c_counted _)).mono ?_
      rintro e W11 ⟨rfl, hc, hf, hz, hB⟩
      have h0n : W11.cell? ⟨w.heap.size, 0, none⟩ = some (.int .i64 m) := (hc _ _ (cell_lt h0)).trans h0
      clear h0
      have h0 := h0n
      clear h0n
      have h1n : W11.cell? ⟨w.heap.size, 1, none⟩ = some (.int .i64 d) := (hc _ _ (cell_lt h1)).trans h1
      clear h1
      have h1 := h1n
      clear h1n
      have x0n : W11.cell? ⟨W2.heap.size, 0, none⟩ = some (.int .i64 ra) := (hc _ _ (cell_lt x0)).trans x0
      clear x0
      have x0 := x0n
      clear x0n
      have x1n : W11.cell? ⟨W2.heap.size, 1, none⟩ = some (.int .i64 rb) := (hc _ _ (cell_lt x1)).trans x1
      clear x1
      have x1 := x1n
      clear x1n
      have t0n : W11.cell? ⟨W9.heap.size, 0, none⟩ = some (.int .i64 ra) := (hc _ _ (cell_lt t0)).trans t0
      clear t0
      have t0 := t0n
      clear t0n
      have t1n : W11.cell? ⟨W9.heap.size, 1, none⟩ = some (.int .i64 rb) := (hc _ _ (cell_lt t1)).trans t1
      clear t1
      have t1 := t1n
      clear t1n
      have hbn : Below w.heap.size w W11 := bthen hb0 hB
      clear hb0
      have hb0 := hbn
      clear hbn
      have hzW11 : W10.heap.size ≤ W11.heap.size := hz
      clear hc hf hB hz
      go_wp2_with fail
      go_ret
      exact ⟨rfl, by have hbz := hb0.size; go_grown⟩

set_option maxRecDepth 100000 in
set_option maxHeartbeats 16000000 in
theorem walk_ok_tf {w : World} (m d : Int) (l : List Rc) (a : Option Addr) (cap : Nat) (hm : l.length ≤ maxLen) (shep known : Int) (h : ¬ 30 < l.length) (hl : Recs w a l) (ra rb : Int) (hr : rateV m d l shep known = (ra, rb, 0)) (hma : m < ra) (hdb : ¬ d < rb) :
    Calls Try.prog 11 #[.agg #[.int .i64 m, .int .i64 d], .slice a l.length cap, .int .i64 shep, .int .i64 known] w fun e w' => e = .returned (.bool true) ∧ Below w.heap.size w w' := by
  unfold maxLen at hm
  have h' : ¬ (30 : Int) < (l.length : Int) := by omega
  have hrr := rateB_iff.1 (rateV_rate hr)
  have hA := fun W (hb : Below w.heap.size w W) => c_RateOf m d l a cap shep known W (hl.later hb)
  rw [hr] at hA
  have hW := fun W (hb : Below w.heap.size w W) => c_Wrong ra rb l a cap shep known W (hl.later hb)
  rw [fits_all hr] at hW
  have hN := fun W => c_Narrower m d ra rb W
  rw [house_narrower hr] at hN
  have hY := fun W (hb : Below w.heap.size w W) => c_Why m d l a cap shep known W (hl.later hb)
  obtain ⟨hw1, hw2, hw3, hw4⟩ := why_alone hr
  obtain ⟨⟨wl, we⟩, hwe⟩ : ∃ r, whyV m d l shep known = r := ⟨_, rfl⟩
  rw [hwe] at hY hw1 hw2 hw3 hw4
  dsimp only at hw1 hw2 hw3 hw4
  subst hw1
  have hS := fun W b c (hb : Recs W b (someL l wl)) => c_RateOf m d (someL l wl) b c shep known W hb
  rw [hw4] at hS
  have hlen := someL_len l wl
  have hl30 : l.length ≤ 30 := by omega
  obtain ⟨y1, t1, hy1⟩ := less_m hr hma
  have hM := fun W (hb : Below w.heap.size w W) => c_Wrong (ra - 1) rb l a cap shep known W (hl.later hb)
  rw [hy1] at hM
  have HM := Lib.hid hM
  have l1 : ((((y1 :: t1).length : Nat) : Int) == 0) = false := by simp; omega
  clear hM hy1
  obtain ⟨⟨hra0, hra1⟩, hrb0, hrb1⟩ := hrr
  have HA := Lib.hid hA
  have HW := Lib.hid hW
  have HN := Lib.hid hN
  have HY := Lib.hid hY
  have HS := Lib.hid hS
  have HS3 := Lib.hid hw3
  have HL := Lib.hid hl
  clear hA hW hN hY hS hwe hw3 hw4 hr hl
  obtain ⟨i0, hi0, hz0, hz1', hz2⟩ := info_parts rc_info
  go_enter Try.func11, Try.ntmps11
  go_upto_region 1 with (fail)
  go_name_world W1 hW1
  have hbn : Below w.heap.size w W1 := by subst hW1; go_grown
  have hb0 := hbn
  clear hbn
  have h0n : W1.cell? ⟨w.heap.size, 0, none⟩ = some (.int .i64 m) := by subst hW1; go_simp
  have h1n : W1.cell? ⟨w.heap.size, 1, none⟩ = some (.int .i64 d) := by subst hW1; go_simp
  clear hW1 
  have h0 := h0n
  have h1 := h1n
  clear h0n h1n 
  go_wp2_with fail
  refine (via (w0 := W1) (by go_grown) (HA.out _ hb0)).mono ?_
  rintro e W2 ⟨rfl, hc, hf, hz, hB⟩
  have h0n : W2.cell? ⟨w.heap.size, 0, none⟩ = some (.int .i64 m) := (hc _ _ (cell_lt h0)).trans h0
  clear h0
  have h0 := h0n
  clear h0n
  have h1n : W2.cell? ⟨w.heap.size, 1, none⟩ = some (.int .i64 d) := (hc _ _ (cell_lt h1)).trans h1
  clear h1
  have h1 := h1n
  clear h1n
  have hbn : Below w.heap.size w W2 := bthen hb0 hB
  clear hb0
  have hb0 := hbn
  clear hbn
  have hzW2 : W1.heap.size ≤ W2.heap.size := hz
  clear hc hf hB hz
  go_upto_region 4 with (fail)
  go_name_world W3 hW3
  have hbz := hb0.size
  have hbn : Below w.heap.size w W3 := by subst hW3; go_grown
  clear hb0 hbz
  have hb0 := hbn
  clear hbn
  have hbk : Below W2.heap.size W2 W3 := by subst hW3; go_grown
  have h0n : W3.cell? ⟨w.heap.size, 0, none⟩ = some (.int .i64 m) := ((bcell hbk).1 _ _ (cell_lt h0)).trans h0
  have h1n : W3.cell? ⟨w.heap.size, 1, none⟩ = some (.int .i64 d) := ((bcell hbk).1 _ _ (cell_lt h1)).trans h1
  clear hbk
  have x0n : W3.cell? ⟨W2.heap.size, 0, none⟩ = some (.int .i64 ra) := by subst hW3; go_simp
  have x1n : W3.cell? ⟨W2.heap.size, 1, none⟩ = some (.int .i64 rb) := by subst hW3; go_simp
  clear hW3 h0 h1
  have h0 := h0n
  have h1 := h1n
  have x0 := x0n
  have x1 := x1n
  clear h0n h1n x0n x1n 
  go_wp2_with fail
  refine (HW.out _ hb0).mono ?_
  rintro e W4 ⟨⟨bw, cw, rfl, hiw⟩, hB⟩
  have hc := (bcell hB).1
  have hf := (bcell hB).2
  have h0n : W4.cell? ⟨w.heap.size, 0, none⟩ = some (.int .i64 m) := (hc _ _ (cell_lt h0)).trans h0
  clear h0
  have h0 := h0n
  clear h0n
  have h1n : W4.cell? ⟨w.heap.size, 1, none⟩ = some (.int .i64 d) := (hc _ _ (cell_lt h1)).trans h1
  clear h1
  have h1 := h1n
  clear h1n
  have x0n : W4.cell? ⟨W2.heap.size, 0, none⟩ = some (.int .i64 ra) := (hc _ _ (cell_lt x0)).trans x0
  clear x0
  have x0 := x0n
  clear x0n
  have x1n : W4.cell? ⟨W2.heap.size, 1, none⟩ = some (.int .i64 rb) := (hc _ _ (cell_lt x1)).trans x1
  clear x1
  have x1 := x1n
  clear x1n
  have hbn := bthen hb0 hB
  clear hb0 hiw
  have hb0 := hbn
  clear hbn hc hf hB
  go_wp2_with fail
  refine (via (w0 := W4) (by go_grown) (HN.out _)).mono ?_
  rintro e W5 ⟨rfl, hc, hf, hz, hB⟩
  have h0n : W5.cell? ⟨w.heap.size, 0, none⟩ = some (.int .i64 m) := (hc _ _ (cell_lt h0)).trans h0
  clear h0
  have h0 := h0n
  clear h0n
  have h1n : W5.cell? ⟨w.heap.size, 1, none⟩ = some (.int .i64 d) := (hc _ _ (cell_lt h1)).trans h1
  clear h1
  have h1 := h1n
  clear h1n
  have x0n : W5.cell? ⟨W2.heap.size, 0, none⟩ = some (.int .i64 ra) := (hc _ _ (cell_lt x0)).trans x0
  clear x0
  have x0 := x0n
  clear x0n
  have x1n : W5.cell? ⟨W2.heap.size, 1, none⟩ = some (.int .i64 rb) := (hc _ _ (cell_lt x1)).trans x1
  clear x1
  have x1 := x1n
  clear x1n
  have hbn : Below w.heap.size w W5 := bthen hb0 hB
  clear hb0
  have hb0 := hbn
  clear hbn
  have hzW5 : W4.heap.size ≤ W5.heap.size := hz
  clear hc hf hB hz
  go_wp2_with fail
  refine (HM.out _ hb0).mono ?_
  rintro e W6 ⟨⟨bm, cm, rfl, him⟩, hB⟩
  have hc := (bcell hB).1
  have hf := (bcell hB).2
  have h0n : W6.cell? ⟨w.heap.size, 0, none⟩ = some (.int .i64 m) := (hc _ _ (cell_lt h0)).trans h0
  clear h0
  have h0 := h0n
  clear h0n
  have h1n : W6.cell? ⟨w.heap.size, 1, none⟩ = some (.int .i64 d) := (hc _ _ (cell_lt h1)).trans h1
  clear h1
  have h1 := h1n
  clear h1n
  have x0n : W6.cell? ⟨W2.heap.size, 0, none⟩ = some (.int .i64 ra) := (hc _ _ (cell_lt x0)).trans x0
  clear x0
  have x0 := x0n
  clear x0n
  have x1n : W6.cell? ⟨W2.heap.size, 1, none⟩ = some (.int .i64 rb) := (hc _ _ (cell_lt x1)).trans x1
  clear x1
  have x1 := x1n
  clear x1n
  have hbn := bthen hb0 hB
  clear hb0 him
  have hb0 := hbn
  clear hbn hc hf hB
  go_wp2_with fail
  refine (HY.out _ hb0).mono ?_
  rintro e W7 ⟨⟨bu, cu, rfl, hiu⟩, hB⟩
  have hc := (bcell hB).1
  have hf := (bcell hB).2
  have h0n : W7.cell? ⟨w.heap.size, 0, none⟩ = some (.int .i64 m) := (hc _ _ (cell_lt h0)).trans h0
  clear h0
  have h0 := h0n
  clear h0n
  have h1n : W7.cell? ⟨w.heap.size, 1, none⟩ = some (.int .i64 d) := (hc _ _ (cell_lt h1)).trans h1
  clear h1
  have h1 := h1n
  clear h1n
  have x0n : W7.cell? ⟨W2.heap.size, 0, none⟩ = some (.int .i64 ra) := (hc _ _ (cell_lt x0)).trans x0
  clear x0
  have x0 := x0n
  clear x0n
  have x1n : W7.cell? ⟨W2.heap.size, 1, none⟩ = some (.int .i64 rb) := (hc _ _ (cell_lt x1)).trans x1
  clear x1
  have x1 := x1n
  clear x1n
  have Iu := Lib.hid hiu
  have hbn := bthen hb0 hB
  clear hb0 hiu
  have hb0 := hbn
  clear hbn hc hf hB
  clear hra0 hra1 hrb0 hrb1 hma hdb l1
  go_wp2
  go_loopw [19, 20] (fun v19 v20 wr => ∃ k : Nat, k ≤ l.length ∧ v20 = .int .i64 k ∧ wr.ownsRow W7.heap.size 43 6 v19 (someL (l.take k) wl).length (cellsL rcC (someL (l.take k) wl)) ∧ Below W7.heap.size W7 wr) (fun _ v20 _ => l.length - (intOf v20).toNat)
  case atStart => exact ⟨0, by omega, rfl, own_nil _ _ _ _, Below.refl _ _⟩
  case round =>
    obtain ⟨k, hk, rfl, hown, hbr⟩ := hrel
    have HO := Lib.hid hown
    have HBY := Lib.hid hb0
    have HB0 := Lib.hid (bthen hb0 hbr)
    clear hown hb0
    obtain ⟨wo, rfl⟩ : ∃ wo : World, wo = wr := ⟨_, rfl⟩
    by_cases hlt : k < l.length
    · have hst := someL_take hlt wl
      have hl1 := bound60 (someL_len (l.take (k + 1)) wl) (Nat.le_trans (List.length_take_le _ _) (by omega)) hw2
      rw [hst, List.length_append] at hl1
      have HST := Lib.hid hst
      have hi1 : ¬ (k : Int) < 0 := by omega
      have hi2 : (k : Int) < (l.length : Int) := by omega
      have hzo := hbr.size
      have HBR := Lib.hid hbr
      generalize hpre : someL (l.take k) wl = pre at *
      have HPRE := Lib.hid hpre
      clear hst hbr hpre
      go_wp2
      go_loopw [19, 21] (fun v19 v21 wr => ∃ j : Nat, j ≤ wl.length ∧ v21 = .int .i64 j ∧ wr.ownsRow W7.heap.size 43 6 v19 (pre ++ selIn (rc l k) (wl.take j)).length (cellsL rcC (pre ++ selIn (rc l k) (wl.take j))) ∧ Below W7.heap.size W7 wr) (fun _ v21 _ => wl.length - (intOf v21).toNat)
      case atStart => exact ⟨0, by omega, rfl, by simpa [selIn] using HO.out, HBR.out⟩
      case round =>
        obtain ⟨j, hj, rfl, hown, hbq⟩ := hrel
        have HOQ := Lib.hid hown
        have HBQ := Lib.hid hbq
        have hzq := hbq.size
        clear hown
        by_cases hjl : j < wl.length
        · obtain ⟨b, o, rfl, hat⟩ := (HL.out.later (bthen HBY.out hbq)).2 (by intro e; rw [e] at hlt; simp at hlt)
          obtain ⟨z1, z2, z3, z4, z5, z6⟩ := hat k hlt
          obtain ⟨xk, hxk⟩ : ∃ x, rc l k = x := ⟨_, rfl⟩
          rw [hxk] at z1 z2 z3 z4 z5 z6 hl1
          rw [hxk] at HOQ
          rw [hxk]
          have HXK := Lib.hid hxk
          obtain ⟨bw, ow, rfl, hwt⟩ := (Iu.out.later hbq).2 (by intro e; rw [e] at hjl; simp at hjl)
          have yv := hwt j hjl
          have hj1 : ¬ (j : Int) < 0 := by omega
          have hj2 : (j : Int) < (wl.length : Int) := by omega
          have hsl := selIn_take hjl xk
          have hll := selIn_len xk (wl.take j)
          have hll2 : (wl.take j).length ≤ 2 := Nat.le_trans (List.length_take_le _ _) (by omega)
          have HSL := Lib.hid hsl
          have hpb : (pre ++ selIn xk (wl.take j)).length ≤ 62 := by rw [List.length_append]; omega
          clear hat hxk hwt hbq hsl
          generalize it wl j = kv at *
          generalize selIn xk (wl.take j) = sj at *
          have HPB := Lib.hid hpb
          have hb0 : Below wr.heap.size wr wr := Below.refl _ _
          go_wp2_with fail
          have kyv := later_cell yv
          have kz1 := later_cell z1
          have kz2 := later_cell z2
          have kz3 := later_cell z3
          have kz4 := later_cell z4
          have kz5 := later_cell z5
          have kz6 := later_cell z6
          refine wp_region_later wr (by kernel_rfl) (by kernel_rfl) (Below.refl _ _) ?_
          repeat (go_big_quiet_step (fail))
          refine wpQuiet_nil ?_
          rintro ⟨W8, hB⟩
          dsimp only
          have hc := (bcell hB).1
          have hf := (bcell hB).2
          have hz := hB.size
          clear kyv kz1 kz2 kz3 kz4 kz5 kz6
          have yvn : W8.cell? ⟨bw, ow + j, none⟩ = some (.int .i64 kv) := (hc _ _ (cell_lt yv)).trans yv
          clear yv
          have yv := yvn
          clear yvn
          have z1n : W8.cell? ⟨b, o + k * 6, none⟩ = some (.int .i64 xk.i) := (hc _ _ (cell_lt z1)).trans z1
          clear z1
          have z1 := z1n
          clear z1n
          have z2n : W8.cell? ⟨b, o + k * 6 + 1, none⟩ = some (.int .i64 xk.d) := (hc _ _ (cell_lt z2)).trans z2
          clear z2
          have z2 := z2n
          clear z2n
          have z3n : W8.cell? ⟨b, o + k * 6 + 2, none⟩ = some (.int .i64 xk.k) := (hc _ _ (cell_lt z3)).trans z3
          clear z3
          have z3 := z3n
          clear z3n
          have z4n : W8.cell? ⟨b, o + k * 6 + 3, none⟩ = some (.int .i64 xk.s) := (hc _ _ (cell_lt z4)).trans z4
          clear z4
          have z4 := z4n
          clear z4n
          have z5n : W8.cell? ⟨b, o + k * 6 + 4, none⟩ = some (.int .i64 xk.t) := (hc _ _ (cell_lt z5)).trans z5
          clear z5
          have z5 := z5n
          clear z5n
          have z6n : W8.cell? ⟨b, o + k * 6 + 5, none⟩ = some (.int .i64 xk.n) := (hc _ _ (cell_lt z6)).trans z6
          clear z6
          have z6 := z6n
          clear z6n
          have hbn : Below wr.heap.size wr W8 := bthen hb0 hB
          clear hb0
          have hb0 := hbn
          clear hbn
          have hzW8 : wr.heap.size ≤ W8.heap.size := hz
          clear hc hf hB hz
          have HBV := Lib.hid (bthen HBQ.out hb0)
          have hown := own_below HOQ.out hb0
          have HOV := Lib.hid hown
          have hzv := hb0.size
          clear hown hb0 yv
          by_cases hkv : xk.i = kv
          · have hkb : (xk.i == kv) = true := by simpa using hkv
            have hsn : selIn xk (wl.take (j + 1)) = sj ++ [xk] := by rw [HSL.out, hkb]; rfl
            have HSN := Lib.hid hsn
            have HH := HOV.out
            clear hsn hkv
            go_wp2_with (at_builtin; refine stuckHere ?_)
            refine unHid ?_
            refine wpList_append_own_at _ rfl _ _ 39 rfl W7.heap.size 43 i0 _ 6 48 Try.underlying39 hi0 hz0 hz1' hz2 rfl (by decide) _ _ _ rfl (HH.alloc _) ⟨W8.heap.size, 0, none⟩ 1 1 [.int .i64 xk.i, .int .i64 xk.d, .int .i64 xk.k, .int .i64 xk.s, .int .i64 xk.t, .int .i64 xk.n] rfl rfl (cells_new _ #[_, _, _, _, _, _] _) (by simp [Value.oneCell']) (by unfold maxLen; have := HPB.out; omega) (by have := HPB.out; omega) (by simp; omega) ?_
            intro v' w1 hown' hgrow _ hat
            have hlt' := HH.lt
            have hbb : Below W7.heap.size W7 w1 := by
              have h1 : Below W7.heap.size W7 (W8.alloc (Obj.cells #[.int .i64 xk.i, .int .i64 xk.d, .int .i64 xk.k, .int .i64 xk.s, .int .i64 xk.t, .int .i64 xk.n] 43)) := HBV.out.alloc HBV.out.size _
              exact h1.trans ((kept_of_grown hgrow).below (by have := HBV.out.size; simp; omega) (fun j hj => (hlt' j hj).1))
            have hown2 : w1.ownsRow W7.heap.size 43 6 v' (pre ++ selIn xk (wl.take (j + 1))).length (cellsL rcC (pre ++ selIn xk (wl.take (j + 1)))) := by
              rw [HSN.out, ← List.append_assoc, cellsL_snoc, List.length_append]
              exact hown'
            have HB := Lib.hid hbb
            have HW1 := Lib.hid hown2
            clear hown' hgrow hat hlt' hown2 hbb HH z1 z2 z3 z4 z5 z6
            go_wp2
            go_roundw
            case rel => exact ⟨j + 1, by omega, by go_num, HW1.out, HB.out⟩
            case measure => simp [intOf]; omega
          · have hkb : (xk.i == kv) = false := by simpa using hkv
            have hsn : selIn xk (wl.take (j + 1)) = sj := by rw [HSL.out, hkb]; simp
            have HSN := Lib.hid hsn
            clear hsn hkv z1 z2 z3 z4 z5 z6
            go_wp2
            go_roundw
            case rel => exact ⟨j + 1, by omega, by go_num, by rw [HSN.out]; exact HOV.out, HBV.out⟩
            case measure => simp [intOf]; omega
        · obtain rfl : j = wl.length := by omega
          have hown := HOQ.out
          rw [List.take_length] at hown
          have hst : someL (l.take (k + 1)) wl = pre ++ selIn (rc l k) wl := by rw [HST.out]
          have HS2 := Lib.hid hst
          have HOW := Lib.hid hown
          clear hown hst hbq
          go_wp2
          go_roundw
          case rel => exact ⟨k + 1, by omega, by go_num, by rw [HS2.out]; exact HOW.out, HBQ.out⟩
          case measure => simp [intOf]; omega
    · obtain rfl : k = l.length := by omega
      have hown := HO.out
      rw [List.take_length] at hown
      have hl1 := bound60 (someL_len l wl) hl30 hw2
      obtain ⟨bs, cs, rfl, hrs, _⟩ := rc_own hown
      have hrs2 := hrs (by omega)
      have hS3 := HS.out _ _ cs hrs2
      have hle : ((((someL l wl).length : Nat) : Int) == ((wl.length : Nat) : Int)) = true := by rw [HS3.out]; simp
      have hw2' : ((wl.length : Nat) : Int) ≤ 2 := by omega
      have hb0 := HB0.out
      have h0n := ((bcell hbr).1 _ _ (cell_lt h0)).trans h0
      clear h0
      have h0 := h0n
      clear h0n
      have h1n := ((bcell hbr).1 _ _ (cell_lt h1)).trans h1
      clear h1
      have h1 := h1n
      clear h1n
      have x0n := ((bcell hbr).1 _ _ (cell_lt x0)).trans x0
      clear x0
      have x0 := x0n
      clear x0n
      have x1n := ((bcell hbr).1 _ _ (cell_lt x1)).trans x1
      clear x1
      have x1 := x1n
      clear x1n
      generalize someL l wl = S at *
      have HS4 := Lib.hid hS3
      clear hown hrs hrs2 hS3 hbr HO HS HS3
      go_wp2_with fail
      refine (via (w0 := wo) (by go_grown) HS4.out).mono ?_
      rintro e W8 ⟨rfl, hc, hf, hz, hB⟩
      have h0n : W8.cell? ⟨w.heap.size, 0, none⟩ = some (.int .i64 m) := (hc _ _ (cell_lt h0)).trans h0
      clear h0
      have h0 := h0n
      clear h0n
      have h1n : W8.cell? ⟨w.heap.size, 1, none⟩ = some (.int .i64 d) := (hc _ _ (cell_lt h1)).trans h1
      clear h1
      have h1 := h1n
      clear h1n
      have x0n : W8.cell? ⟨W2.heap.size, 0, none⟩ = some (.int .i64 ra) := (hc _ _ (cell_lt x0)).trans x0
      clear x0
      have x0 := x0n
      clear x0n
      have x1n : W8.cell? ⟨W2.heap.size, 1, none⟩ = some (.int .i64 rb) := (hc _ _ (cell_lt x1)).trans x1
      clear x1
      have x1 := x1n
      clear x1n
      have hbn := bthen hb0 hB
      clear hb0
      have hb0 := hbn
      clear hbn hc hf hB hz
      go_upto_region 28 with (fail)
      go_name_world W9 hW9
      have hbz := hb0.size
      have hbn : Below w.heap.size w W9 := by subst hW9; go_grown
      clear hb0 hbz
      have hb0 := hbn
      clear hbn
      have hbk : Below W8.heap.size W8 W9 := by subst hW9; go_grown
      have h0n : W9.cell? ⟨w.heap.size, 0, none⟩ = some (.int .i64 m) := ((bcell hbk).1 _ _ (cell_lt h0)).trans h0
      have h1n : W9.cell? ⟨w.heap.size, 1, none⟩ = some (.int .i64 d) := ((bcell hbk).1 _ _ (cell_lt h1)).trans h1
      have x0n : W9.cell? ⟨W2.heap.size, 0, none⟩ = some (.int .i64 ra) := ((bcell hbk).1 _ _ (cell_lt x0)).trans x0
      have x1n : W9.cell? ⟨W2.heap.size, 1, none⟩ = some (.int .i64 rb) := ((bcell hbk).1 _ _ (cell_lt x1)).trans x1
      clear hbk
      have t0n : W9.cell? ⟨W8.heap.size, 0, none⟩ = some (.int .i64 ra) := by subst hW9; go_simp
      have t1n : W9.cell? ⟨W8.heap.size, 1, none⟩ = some (.int .i64 rb) := by subst hW9; go_simp
      clear hW9 h0 h1 x0 x1
      have h0 := h0n
      have h1 := h1n
      have x0 := x0n
      have x1 := x1n
      have t0 := t0n
      have t1 := t1n
      clear h0n h1n x0n x1n t0n t1n 
      go_wp2_with fail
      refine (via (w0 := W9) (by go_grown) (c_counted _)).mono ?_
      rintro e W10 ⟨rfl, hc, hf, hz, hB⟩
      have h0n : W10.cell? ⟨w.heap.size, 0, none⟩ = some (.int .i64 m) := (hc _ _ (cell_lt h0)).trans h0
      clear h0
      have h0 := h0n
      clear h0n
      have h1n : W10.cell? ⟨w.heap.size, 1, none⟩ = some (.int .i64 d) := (hc _ _ (cell_lt h1)).trans h1
      clear h1
      have h1 := h1n
      clear h1n
      have x0n : W10.cell? ⟨W2.heap.size, 0, none⟩ = some (.int .i64 ra) := (hc _ _ (cell_lt x0)).trans x0
      clear x0
      have x0 := x0n
      clear x0n
      have x1n : W10.cell? ⟨W2.heap.size, 1, none⟩ = some (.int .i64 rb) := (hc _ _ (cell_lt x1)).trans x1
      clear x1
      have x1 := x1n
      clear x1n
      have t0n : W10.cell? ⟨W8.heap.size, 0, none⟩ = some (.int .i64 ra) := (hc _ _ (cell_lt t0)).trans t0
      clear t0
      have t0 := t0n
      clear t0n
      have t1n : W10.cell? ⟨W8.heap.size, 1, none⟩ = some (.int .i64 rb) := (hc _ _ (cell_lt t1)).trans t1
      clear t1
      have t1 := t1n
      clear t1n
      have hbn : Below w.heap.size w W10 := bthen hb0 hB
      clear hb0
      have hb0 := hbn
      clear hbn
      have hzW10 : W9.heap.size ≤ W10.heap.size := hz
      clear hc hf hB hz
      go_wp2_with fail
      go_ret
      exact ⟨rfl, by have hbz := hb0.size; go_grown⟩

set_option maxRecDepth 100000 in
set_option maxHeartbeats 16000000 in
theorem walk_ok_ft {w : World} (m d : Int) (l : List Rc) (a : Option Addr) (cap : Nat) (hm : l.length ≤ maxLen) (shep known : Int) (h : ¬ 30 < l.length) (hl : Recs w a l) (ra rb : Int) (hr : rateV m d l shep known = (ra, rb, 0)) (hma : ¬ m < ra) (hdb : d < rb) :
    Calls Try.prog 11 #[.agg #[.int .i64 m, .int .i64 d], .slice a l.length cap, .int .i64 shep, .int .i64 known] w fun e w' => e = .returned (.bool true) ∧ Below w.heap.size w w' := by
  unfold maxLen at hm
  have h' : ¬ (30 : Int) < (l.length : Int) := by omega
  have hrr := rateB_iff.1 (rateV_rate hr)
  have hA := fun W (hb : Below w.heap.size w W) => c_RateOf m d l a cap shep known W (hl.later hb)
  rw [hr] at hA
  have hW := fun W (hb : Below w.heap.size w W) => c_Wrong ra rb l a cap shep known W (hl.later hb)
  rw [fits_all hr] at hW
  have hN := fun W => c_Narrower m d ra rb W
  rw [house_narrower hr] at hN
  have hY := fun W (hb : Below w.heap.size w W) => c_Why m d l a cap shep known W (hl.later hb)
  obtain ⟨hw1, hw2, hw3, hw4⟩ := why_alone hr
  obtain ⟨⟨wl, we⟩, hwe⟩ : ∃ r, whyV m d l shep known = r := ⟨_, rfl⟩
  rw [hwe] at hY hw1 hw2 hw3 hw4
  dsimp only at hw1 hw2 hw3 hw4
  subst hw1
  have hS := fun W b c (hb : Recs W b (someL l wl)) => c_RateOf m d (someL l wl) b c shep known W hb
  rw [hw4] at hS
  have hlen := someL_len l wl
  have hl30 : l.length ≤ 30 := by omega
  obtain ⟨y2, t2, hy2⟩ := less_d hr hdb
  have hD := fun W (hb : Below w.heap.size w W) => c_Wrong ra (rb - 1) l a cap shep known W (hl.later hb)
  rw [hy2] at hD
  have HD := Lib.hid hD
  have l2 : ((((y2 :: t2).length : Nat) : Int) == 0) = false := by simp; omega
  clear hD hy2
  obtain ⟨⟨hra0, hra1⟩, hrb0, hrb1⟩ := hrr
  have HA := Lib.hid hA
  have HW := Lib.hid hW
  have HN := Lib.hid hN
  have HY := Lib.hid hY
  have HS := Lib.hid hS
  have HS3 := Lib.hid hw3
  have HL := Lib.hid hl
  clear hA hW hN hY hS hwe hw3 hw4 hr hl
  obtain ⟨i0, hi0, hz0, hz1', hz2⟩ := info_parts rc_info
  go_enter Try.func11, Try.ntmps11
  go_upto_region 1 with (fail)
  go_name_world W1 hW1
  have hbn : Below w.heap.size w W1 := by subst hW1; go_grown
  have hb0 := hbn
  clear hbn
  have h0n : W1.cell? ⟨w.heap.size, 0, none⟩ = some (.int .i64 m) := by subst hW1; go_simp
  have h1n : W1.cell? ⟨w.heap.size, 1, none⟩ = some (.int .i64 d) := by subst hW1; go_simp
  clear hW1 
  have h0 := h0n
  have h1 := h1n
  clear h0n h1n 
  go_wp2_with fail
  refine (via (w0 := W1) (by go_grown) (HA.out _ hb0)).mono ?_
  rintro e W2 ⟨rfl, hc, hf, hz, hB⟩
  have h0n : W2.cell? ⟨w.heap.size, 0, none⟩ = some (.int .i64 m) := (hc _ _ (cell_lt h0)).trans h0
  clear h0
  have h0 := h0n
  clear h0n
  have h1n : W2.cell? ⟨w.heap.size, 1, none⟩ = some (.int .i64 d) := (hc _ _ (cell_lt h1)).trans h1
  clear h1
  have h1 := h1n
  clear h1n
  have hbn : Below w.heap.size w W2 := bthen hb0 hB
  clear hb0
  have hb0 := hbn
  clear hbn
  have hzW2 : W1.heap.size ≤ W2.heap.size := hz
  clear hc hf hB hz
  go_upto_region 4 with (fail)
  go_name_world W3 hW3
  have hbz := hb0.size
  have hbn : Below w.heap.size w W3 := by subst hW3; go_grown
  clear hb0 hbz
  have hb0 := hbn
  clear hbn
  have hbk : Below W2.heap.size W2 W3 := by subst hW3; go_grown
  have h0n : W3.cell? ⟨w.heap.size, 0, none⟩ = some (.int .i64 m) := ((bcell hbk).1 _ _ (cell_lt h0)).trans h0
  have h1n : W3.cell? ⟨w.heap.size, 1, none⟩ = some (.int .i64 d) := ((bcell hbk).1 _ _ (cell_lt h1)).trans h1
  clear hbk
  have x0n : W3.cell? ⟨W2.heap.size, 0, none⟩ = some (.int .i64 ra) := by subst hW3; go_simp
  have x1n : W3.cell? ⟨W2.heap.size, 1, none⟩ = some (.int .i64 rb) := by subst hW3; go_simp
  clear hW3 h0 h1
  have h0 := h0n
  have h1 := h1n
  have x0 := x0n
  have x1 := x1n
  clear h0n h1n x0n x1n 
  go_wp2_with fail
  refine (HW.out _ hb0).mono ?_
  rintro e W4 ⟨⟨bw, cw, rfl, hiw⟩, hB⟩
  have hc := (bcell hB).1
  have hf := (bcell hB).2
  have h0n : W4.cell? ⟨w.heap.size, 0, none⟩ = some (.int .i64 m) := (hc _ _ (cell_lt h0)).trans h0
  clear h0
  have h0 := h0n
  clear h0n
  have h1n : W4.cell? ⟨w.heap.size, 1, none⟩ = some (.int .i64 d) := (hc _ _ (cell_lt h1)).trans h1
  clear h1
  have h1 := h1n
  clear h1n
  have x0n : W4.cell? ⟨W2.heap.size, 0, none⟩ = some (.int .i64 ra) := (hc _ _ (cell_lt x0)).trans x0
  clear x0
  have x0 := x0n
  clear x0n
  have x1n : W4.cell? ⟨W2.heap.size, 1, none⟩ = some (.int .i64 rb) := (hc _ _ (cell_lt x1)).trans x1
  clear x1
  have x1 := x1n
  clear x1n
  have hbn := bthen hb0 hB
  clear hb0 hiw
  have hb0 := hbn
  clear hbn hc hf hB
  go_wp2_with fail
  refine (via (w0 := W4) (by go_grown) (HN.out _)).mono ?_
  rintro e W5 ⟨rfl, hc, hf, hz, hB⟩
  have h0n : W5.cell? ⟨w.heap.size, 0, none⟩ = some (.int .i64 m) := (hc _ _ (cell_lt h0)).trans h0
  clear h0
  have h0 := h0n
  clear h0n
  have h1n : W5.cell? ⟨w.heap.size, 1, none⟩ = some (.int .i64 d) := (hc _ _ (cell_lt h1)).trans h1
  clear h1
  have h1 := h1n
  clear h1n
  have x0n : W5.cell? ⟨W2.heap.size, 0, none⟩ = some (.int .i64 ra) := (hc _ _ (cell_lt x0)).trans x0
  clear x0
  have x0 := x0n
  clear x0n
  have x1n : W5.cell? ⟨W2.heap.size, 1, none⟩ = some (.int .i64 rb) := (hc _ _ (cell_lt x1)).trans x1
  clear x1
  have x1 := x1n
  clear x1n
  have hbn : Below w.heap.size w W5 := bthen hb0 hB
  clear hb0
  have hb0 := hbn
  clear hbn
  have hzW5 : W4.heap.size ≤ W5.heap.size := hz
  clear hc hf hB hz
  go_wp2_with fail
  refine (HD.out _ hb0).mono ?_
  rintro e W6 ⟨⟨bd, cd, rfl, hid⟩, hB⟩
  have hc := (bcell hB).1
  have hf := (bcell hB).2
  have h0n : W6.cell? ⟨w.heap.size, 0, none⟩ = some (.int .i64 m) := (hc _ _ (cell_lt h0)).trans h0
  clear h0
  have h0 := h0n
  clear h0n
  have h1n : W6.cell? ⟨w.heap.size, 1, none⟩ = some (.int .i64 d) := (hc _ _ (cell_lt h1)).trans h1
  clear h1
  have h1 := h1n
  clear h1n
  have x0n : W6.cell? ⟨W2.heap.size, 0, none⟩ = some (.int .i64 ra) := (hc _ _ (cell_lt x0)).trans x0
  clear x0
  have x0 := x0n
  clear x0n
  have x1n : W6.cell? ⟨W2.heap.size, 1, none⟩ = some (.int .i64 rb) := (hc _ _ (cell_lt x1)).trans x1
  clear x1
  have x1 := x1n
  clear x1n
  have hbn := bthen hb0 hB
  clear hb0 hid
  have hb0 := hbn
  clear hbn hc hf hB
  go_wp2_with fail
  refine (HY.out _ hb0).mono ?_
  rintro e W7 ⟨⟨bu, cu, rfl, hiu⟩, hB⟩
  have hc := (bcell hB).1
  have hf := (bcell hB).2
  have h0n : W7.cell? ⟨w.heap.size, 0, none⟩ = some (.int .i64 m) := (hc _ _ (cell_lt h0)).trans h0
  clear h0
  have h0 := h0n
  clear h0n
  have h1n : W7.cell? ⟨w.heap.size, 1, none⟩ = some (.int .i64 d) := (hc _ _ (cell_lt h1)).trans h1
  clear h1
  have h1 := h1n
  clear h1n
  have x0n : W7.cell? ⟨W2.heap.size, 0, none⟩ = some (.int .i64 ra) := (hc _ _ (cell_lt x0)).trans x0
  clear x0
  have x0 := x0n
  clear x0n
  have x1n : W7.cell? ⟨W2.heap.size, 1, none⟩ = some (.int .i64 rb) := (hc _ _ (cell_lt x1)).trans x1
  clear x1
  have x1 := x1n
  clear x1n
  have Iu := Lib.hid hiu
  have hbn := bthen hb0 hB
  clear hb0 hiu
  have hb0 := hbn
  clear hbn hc hf hB
  clear hra0 hra1 hrb0 hrb1 hma hdb l2
  go_wp2
  go_loopw [19, 20] (fun v19 v20 wr => ∃ k : Nat, k ≤ l.length ∧ v20 = .int .i64 k ∧ wr.ownsRow W7.heap.size 43 6 v19 (someL (l.take k) wl).length (cellsL rcC (someL (l.take k) wl)) ∧ Below W7.heap.size W7 wr) (fun _ v20 _ => l.length - (intOf v20).toNat)
  case atStart => exact ⟨0, by omega, rfl, own_nil _ _ _ _, Below.refl _ _⟩
  case round =>
    obtain ⟨k, hk, rfl, hown, hbr⟩ := hrel
    have HO := Lib.hid hown
    have HBY := Lib.hid hb0
    have HB0 := Lib.hid (bthen hb0 hbr)
    clear hown hb0
    obtain ⟨wo, rfl⟩ : ∃ wo : World, wo = wr := ⟨_, rfl⟩
    by_cases hlt : k < l.length
    · have hst := someL_take hlt wl
      have hl1 := bound60 (someL_len (l.take (k + 1)) wl) (Nat.le_trans (List.length_take_le _ _) (by omega)) hw2
      rw [hst, List.length_append] at hl1
      have HST := Lib.hid hst
      have hi1 : ¬ (k : Int) < 0 := by omega
      have hi2 : (k : Int) < (l.length : Int) := by omega
      have hzo := hbr.size
      have HBR := Lib.hid hbr
      generalize hpre : someL (l.take k) wl = pre at *
      have HPRE := Lib.hid hpre
      clear hst hbr hpre
      go_wp2
      go_loopw [19, 21] (fun v19 v21 wr => ∃ j : Nat, j ≤ wl.length ∧ v21 = .int .i64 j ∧ wr.ownsRow W7.heap.size 43 6 v19 (pre ++ selIn (rc l k) (wl.take j)).length (cellsL rcC (pre ++ selIn (rc l k) (wl.take j))) ∧ Below W7.heap.size W7 wr) (fun _ v21 _ => wl.length - (intOf v21).toNat)
      case atStart => exact ⟨0, by omega, rfl, by simpa [selIn] using HO.out, HBR.out⟩
      case round =>
        obtain ⟨j, hj, rfl, hown, hbq⟩ := hrel
        have HOQ := Lib.hid hown
        have HBQ := Lib.hid hbq
        have hzq := hbq.size
        clear hown
        by_cases hjl : j < wl.length
        · obtain ⟨b, o, rfl, hat⟩ := (HL.out.later (bthen HBY.out hbq)).2 (by intro e; rw [e] at hlt; simp at hlt)
          obtain ⟨z1, z2, z3, z4, z5, z6⟩ := hat k hlt
          obtain ⟨xk, hxk⟩ : ∃ x, rc l k = x := ⟨_, rfl⟩
          rw [hxk] at z1 z2 z3 z4 z5 z6 hl1
          rw [hxk] at HOQ
          rw [hxk]
          have HXK := Lib.hid hxk
          obtain ⟨bw, ow, rfl, hwt⟩ := (Iu.out.later hbq).2 (by intro e; rw [e] at hjl; simp at hjl)
          have yv := hwt j hjl
          have hj1 : ¬ (j : Int) < 0 := by omega
          have hj2 : (j : Int) < (wl.length : Int) := by omega
          have hsl := selIn_take hjl xk
          have hll := selIn_len xk (wl.take j)
          have hll2 : (wl.take j).length ≤ 2 := Nat.le_trans (List.length_take_le _ _) (by omega)
          have HSL := Lib.hid hsl
          have hpb : (pre ++ selIn xk (wl.take j)).length ≤ 62 := by rw [List.length_append]; omega
          clear hat hxk hwt hbq hsl
          generalize it wl j = kv at *
          generalize selIn xk (wl.take j) = sj at *
          have HPB := Lib.hid hpb
          have hb0 : Below wr.heap.size wr wr := Below.refl _ _
          go_wp2_with fail
          have kyv := later_cell yv
          have kz1 := later_cell z1
          have kz2 := later_cell z2
          have kz3 := later_cell z3
          have kz4 := later_cell z4
          have kz5 := later_cell z5
          have kz6 := later_cell z6
          refine wp_region_later wr (by kernel_rfl) (by kernel_rfl) (Below.refl _ _) ?_
          repeat (go_big_quiet_step (fail))
          refine wpQuiet_nil ?_
          rintro ⟨W8, hB⟩
          dsimp only
          have hc := (bcell hB).1
          have hf := (bcell hB).2
          have hz := hB.size
          clear kyv kz1 kz2 kz3 kz4 kz5 kz6
          have yvn : W8.cell? ⟨bw, ow + j, none⟩ = some (.int .i64 kv) := (hc _ _ (cell_lt yv)).trans yv
          clear yv
          have yv := yvn
          clear yvn
          have z1n : W8.cell? ⟨b, o + k * 6, none⟩ = some (.int .i64 xk.i) := (hc _ _ (cell_lt z1)).trans z1
          clear z1
          have z1 := z1n
          clear z1n
          have z2n : W8.cell? ⟨b, o + k * 6 + 1, none⟩ = some (.int .i64 xk.d) := (hc _ _ (cell_lt z2)).trans z2
          clear z2
          have z2 := z2n
          clear z2n
          have z3n : W8.cell? ⟨b, o + k * 6 + 2, none⟩ = some (.int .i64 xk.k) := (hc _ _ (cell_lt z3)).trans z3
          clear z3
          have z3 := z3n
          clear z3n
          have z4n : W8.cell? ⟨b, o + k * 6 + 3, none⟩ = some (.int .i64 xk.s) := (hc _ _ (cell_lt z4)).trans z4
          clear z4
          have z4 := z4n
          clear z4n
          have z5n : W8.cell? ⟨b, o + k * 6 + 4, none⟩ = some (.int .i64 xk.t) := (hc _ _ (cell_lt z5)).trans z5
          clear z5
          have z5 := z5n
          clear z5n
          have z6n : W8.cell? ⟨b, o + k * 6 + 5, none⟩ = some (.int .i64 xk.n) := (hc _ _ (cell_lt z6)).trans z6
          clear z6
          have z6 := z6n
          clear z6n
          have hbn : Below wr.heap.size wr W8 := bthen hb0 hB
          clear hb0
          have hb0 := hbn
          clear hbn
          have hzW8 : wr.heap.size ≤ W8.heap.size := hz
          clear hc hf hB hz
          have HBV := Lib.hid (bthen HBQ.out hb0)
          have hown := own_below HOQ.out hb0
          have HOV := Lib.hid hown
          have hzv := hb0.size
          clear hown hb0 yv
          by_cases hkv : xk.i = kv
          · have hkb : (xk.i == kv) = true := by simpa using hkv
            have hsn : selIn xk (wl.take (j + 1)) = sj ++ [xk] := by rw [HSL.out, hkb]; rfl
            have HSN := Lib.hid hsn
            have HH := HOV.out
            clear hsn hkv
            go_wp2_with (at_builtin; refine stuckHere ?_)
            refine unHid ?_
            refine wpList_append_own_at _ rfl _ _ 39 rfl W7.heap.size 43 i0 _ 6 48 Try.underlying39 hi0 hz0 hz1' hz2 rfl (by decide) _ _ _ rfl (HH.alloc _) ⟨W8.heap.size, 0, none⟩ 1 1 [.int .i64 xk.i, .int .i64 xk.d, .int .i64 xk.k, .int .i64 xk.s, .int .i64 xk.t, .int .i64 xk.n] rfl rfl (cells_new _ #[_, _, _, _, _, _] _) (by simp [Value.oneCell']) (by unfold maxLen; have := HPB.out; omega) (by have := HPB.out; omega) (by simp; omega) ?_
            intro v' w1 hown' hgrow _ hat
            have hlt' := HH.lt
            have hbb : Below W7.heap.size W7 w1 := by
              have h1 : Below W7.heap.size W7 (W8.alloc (Obj.cells #[.int .i64 xk.i, .int .i64 xk.d, .int .i64 xk.k, .int .i64 xk.s, .int .i64 xk.t, .int .i64 xk.n] 43)) := HBV.out.alloc HBV.out.size _
              exact h1.trans ((kept_of_grown hgrow).below (by have := HBV.out.size; simp; omega) (fun j hj => (hlt' j hj).1))
            have hown2 : w1.ownsRow W7.heap.size 43 6 v' (pre ++ selIn xk (wl.take (j + 1))).length (cellsL rcC (pre ++ selIn xk (wl.take (j + 1)))) := by
              rw [HSN.out, ← List.append_assoc, cellsL_snoc, List.length_append]
              exact hown'
            have HB := Lib.hid hbb
            have HW1 := Lib.hid hown2
            clear hown' hgrow hat hlt' hown2 hbb HH z1 z2 z3 z4 z5 z6
            go_wp2
            go_roundw
            case rel => exact ⟨j + 1, by omega, by go_num, HW1.out, HB.out⟩
            case measure => simp [intOf]; omega
          · have hkb : (xk.i == kv) = false := by simpa using hkv
            have hsn : selIn xk (wl.take (j + 1)) = sj := by rw [HSL.out, hkb]; simp
            have HSN := Lib.hid hsn
            clear hsn hkv z1 z2 z3 z4 z5 z6
            go_wp2
            go_roundw
            case rel => exact ⟨j + 1, by omega, by go_num, by rw [HSN.out]; exact HOV.out, HBV.out⟩
            case measure => simp [intOf]; omega
        · obtain rfl : j = wl.length := by omega
          have hown := HOQ.out
          rw [List.take_length] at hown
          have hst : someL (l.take (k + 1)) wl = pre ++ selIn (rc l k) wl := by rw [HST.out]
          have HS2 := Lib.hid hst
          have HOW := Lib.hid hown
          clear hown hst hbq
          go_wp2
          go_roundw
          case rel => exact ⟨k + 1, by omega, by go_num, by rw [HS2.out]; exact HOW.out, HBQ.out⟩
          case measure => simp [intOf]; omega
    · obtain rfl : k = l.length := by omega
      have hown := HO.out
      rw [List.take_length] at hown
      have hl1 := bound60 (someL_len l wl) hl30 hw2
      obtain ⟨bs, cs, rfl, hrs, _⟩ := rc_own hown
      have hrs2 := hrs (by omega)
      have hS3 := HS.out _ _ cs hrs2
      have hle : ((((someL l wl).length : Nat) : Int) == ((wl.length : Nat) : Int)) = true := by rw [HS3.out]; simp
      have hw2' : ((wl.length : Nat) : Int) ≤ 2 := by omega
      have hb0 := HB0.out
      have h0n := ((bcell hbr).1 _ _ (cell_lt h0)).trans h0
      clear h0
      have h0 := h0n
      clear h0n
      have h1n := ((bcell hbr).1 _ _ (cell_lt h1)).trans h1
      clear h1
      have h1 := h1n
      clear h1n
      have x0n := ((bcell hbr).1 _ _ (cell_lt x0)).trans x0
      clear x0
      have x0 := x0n
      clear x0n
      have x1n := ((bcell hbr).1 _ _ (cell_lt x1)).trans x1
      clear x1
      have x1 := x1n
      clear x1n
      generalize someL l wl = S at *
      have HS4 := Lib.hid hS3
      clear hown hrs hrs2 hS3 hbr HO HS HS3
      go_wp2_with fail
      refine (via (w0 := wo) (by go_grown) HS4.out).mono ?_
      rintro e W8 ⟨rfl, hc, hf, hz, hB⟩
      have h0n : W8.cell? ⟨w.heap.size, 0, none⟩ = some (.int .i64 m) := (hc _ _ (cell_lt h0)).trans h0
      clear h0
      have h0 := h0n
      clear h0n
      have h1n : W8.cell? ⟨w.heap.size, 1, none⟩ = some (.int .i64 d) := (hc _ _ (cell_lt h1)).trans h1
      clear h1
      have h1 := h1n
      clear h1n
      have x0n : W8.cell? ⟨W2.heap.size, 0, none⟩ = some (.int .i64 ra) := (hc _ _ (cell_lt x0)).trans x0
      clear x0
      have x0 := x0n
      clear x0n
      have x1n : W8.cell? ⟨W2.heap.size, 1, none⟩ = some (.int .i64 rb) := (hc _ _ (cell_lt x1)).trans x1
      clear x1
      have x1 := x1n
      clear x1n
      have hbn := bthen hb0 hB
      clear hb0
      have hb0 := hbn
      clear hbn hc hf hB hz
      go_upto_region 28 with (fail)
      go_name_world W9 hW9
      have hbz := hb0.size
      have hbn : Below w.heap.size w W9 := by subst hW9; go_grown
      clear hb0 hbz
      have hb0 := hbn
      clear hbn
      have hbk : Below W8.heap.size W8 W9 := by subst hW9; go_grown
      have h0n : W9.cell? ⟨w.heap.size, 0, none⟩ = some (.int .i64 m) := ((bcell hbk).1 _ _ (cell_lt h0)).trans h0
      have h1n : W9.cell? ⟨w.heap.size, 1, none⟩ = some (.int .i64 d) := ((bcell hbk).1 _ _ (cell_lt h1)).trans h1
      have x0n : W9.cell? ⟨W2.heap.size, 0, none⟩ = some (.int .i64 ra) := ((bcell hbk).1 _ _ (cell_lt x0)).trans x0
      have x1n : W9.cell? ⟨W2.heap.size, 1, none⟩ = some (.int .i64 rb) := ((bcell hbk).1 _ _ (cell_lt x1)).trans x1
      clear hbk
      have t0n : W9.cell? ⟨W8.heap.size, 0, none⟩ = some (.int .i64 ra) := by subst hW9; go_simp
      have t1n : W9.cell? ⟨W8.heap.size, 1, none⟩ = some (.int .i64 rb) := by subst hW9; go_simp
      clear hW9 h0 h1 x0 x1
      have h0 := h0n
      have h1 := h1n
      have x0 := x0n
      have x1 := x1n
      have t0 := t0n
      have t1 := t1n
      clear h0n h1n x0n x1n t0n t1n 
      go_wp2_with fail
      refine (via (w0 := W9) (by go_grown) (c_counted _)).mono ?_
      rintro e W10 ⟨rfl, hc, hf, hz, hB⟩
      have h0n : W10.cell? ⟨w.heap.size, 0, none⟩ = some (.int .i64 m) := (hc _ _ (cell_lt h0)).trans h0
      clear h0
      have h0 := h0n
      clear h0n
      have h1n : W10.cell? ⟨w.heap.size, 1, none⟩ = some (.int .i64 d) := (hc _ _ (cell_lt h1)).trans h1
      clear h1
      have h1 := h1n
      clear h1n
      have x0n : W10.cell? ⟨W2.heap.size, 0, none⟩ = some (.int .i64 ra) := (hc _ _ (cell_lt x0)).trans x0
      clear x0
      have x0 := x0n
      clear x0n
      have x1n : W10.cell? ⟨W2.heap.size, 1, none⟩ = some (.int .i64 rb) := (hc _ _ (cell_lt x1)).trans x1
      clear x1
      have x1 := x1n
      clear x1n
      have t0n : W10.cell? ⟨W8.heap.size, 0, none⟩ = some (.int .i64 ra) := (hc _ _ (cell_lt t0)).trans t0
      clear t0
      have t0 := t0n
      clear t0n
      have t1n : W10.cell? ⟨W8.heap.size, 1, none⟩ = some (.int .i64 rb) := (hc _ _ (cell_lt t1)).trans t1
      clear t1
      have t1 := t1n
      clear t1n
      have hbn : Below w.heap.size w W10 := bthen hb0 hB
      clear hb0
      have hb0 := hbn
      clear hbn
      have hzW10 : W9.heap.size ≤ W10.heap.size := hz
      clear hc hf hB hz
      go_wp2_with fail
      go_ret
      exact ⟨rfl, by have hbz := hb0.size; go_grown⟩

set_option maxRecDepth 100000 in
set_option maxHeartbeats 16000000 in
theorem walk_ok_ff {w : World} (m d : Int) (l : List Rc) (a : Option Addr) (cap : Nat) (hm : l.length ≤ maxLen) (shep known : Int) (h : ¬ 30 < l.length) (hl : Recs w a l) (ra rb : Int) (hr : rateV m d l shep known = (ra, rb, 0)) (hma : ¬ m < ra) (hdb : ¬ d < rb) :
    Calls Try.prog 11 #[.agg #[.int .i64 m, .int .i64 d], .slice a l.length cap, .int .i64 shep, .int .i64 known] w fun e w' => e = .returned (.bool true) ∧ Below w.heap.size w w' := by
  unfold maxLen at hm
  have h' : ¬ (30 : Int) < (l.length : Int) := by omega
  have hrr := rateB_iff.1 (rateV_rate hr)
  have hA := fun W (hb : Below w.heap.size w W) => c_RateOf m d l a cap shep known W (hl.later hb)
  rw [hr] at hA
  have hW := fun W (hb : Below w.heap.size w W) => c_Wrong ra rb l a cap shep known W (hl.later hb)
  rw [fits_all hr] at hW
  have hN := fun W => c_Narrower m d ra rb W
  rw [house_narrower hr] at hN
  have hY := fun W (hb : Below w.heap.size w W) => c_Why m d l a cap shep known W (hl.later hb)
  obtain ⟨hw1, hw2, hw3, hw4⟩ := why_alone hr
  obtain ⟨⟨wl, we⟩, hwe⟩ : ∃ r, whyV m d l shep known = r := ⟨_, rfl⟩
  rw [hwe] at hY hw1 hw2 hw3 hw4
  dsimp only at hw1 hw2 hw3 hw4
  subst hw1
  have hS := fun W b c (hb : Recs W b (someL l wl)) => c_RateOf m d (someL l wl) b c shep known W hb
  rw [hw4] at hS
  have hlen := someL_len l wl
  have hl30 : l.length ≤ 30 := by omega
  obtain ⟨⟨hra0, hra1⟩, hrb0, hrb1⟩ := hrr
  have HA := Lib.hid hA
  have HW := Lib.hid hW
  have HN := Lib.hid hN
  have HY := Lib.hid hY
  have HS := Lib.hid hS
  have HS3 := Lib.hid hw3
  have HL := Lib.hid hl
  clear hA hW hN hY hS hwe hw3 hw4 hr hl
  obtain ⟨i0, hi0, hz0, hz1', hz2⟩ := info_parts rc_info
  go_enter Try.func11, Try.ntmps11
  go_upto_region 1 with (fail)
  go_name_world W1 hW1
  have hbn : Below w.heap.size w W1 := by subst hW1; go_grown
  have hb0 := hbn
  clear hbn
  have h0n : W1.cell? ⟨w.heap.size, 0, none⟩ = some (.int .i64 m) := by subst hW1; go_simp
  have h1n : W1.cell? ⟨w.heap.size, 1, none⟩ = some (.int .i64 d) := by subst hW1; go_simp
  clear hW1 
  have h0 := h0n
  have h1 := h1n
  clear h0n h1n 
  go_wp2_with fail
  refine (via (w0 := W1) (by go_grown) (HA.out _ hb0)).mono ?_
  rintro e W2 ⟨rfl, hc, hf, hz, hB⟩
  have h0n : W2.cell? ⟨w.heap.size, 0, none⟩ = some (.int .i64 m) := (hc _ _ (cell_lt h0)).trans h0
  clear h0
  have h0 := h0n
  clear h0n
  have h1n : W2.cell? ⟨w.heap.size, 1, none⟩ = some (.int .i64 d) := (hc _ _ (cell_lt h1)).trans h1
  clear h1
  have h1 := h1n
  clear h1n
  have hbn : Below w.heap.size w W2 := bthen hb0 hB
  clear hb0
  have hb0 := hbn
  clear hbn
  have hzW2 : W1.heap.size ≤ W2.heap.size := hz
  clear hc hf hB hz
  go_upto_region 4 with (fail)
  go_name_world W3 hW3
  have hbz := hb0.size
  have hbn : Below w.heap.size w W3 := by subst hW3; go_grown
  clear hb0 hbz
  have hb0 := hbn
  clear hbn
  have hbk : Below W2.heap.size W2 W3 := by subst hW3; go_grown
  have h0n : W3.cell? ⟨w.heap.size, 0, none⟩ = some (.int .i64 m) := ((bcell hbk).1 _ _ (cell_lt h0)).trans h0
  have h1n : W3.cell? ⟨w.heap.size, 1, none⟩ = some (.int .i64 d) := ((bcell hbk).1 _ _ (cell_lt h1)).trans h1
  clear hbk
  have x0n : W3.cell? ⟨W2.heap.size, 0, none⟩ = some (.int .i64 ra) := by subst hW3; go_simp
  have x1n : W3.cell? ⟨W2.heap.size, 1, none⟩ = some (.int .i64 rb) := by subst hW3; go_simp
  clear hW3 h0 h1
  have h0 := h0n
  have h1 := h1n
  have x0 := x0n
  have x1 := x1n
  clear h0n h1n x0n x1n 
  go_wp2_with fail
  refine (HW.out _ hb0).mono ?_
  rintro e W4 ⟨⟨bw, cw, rfl, hiw⟩, hB⟩
  have hc := (bcell hB).1
  have hf := (bcell hB).2
  have h0n : W4.cell? ⟨w.heap.size, 0, none⟩ = some (.int .i64 m) := (hc _ _ (cell_lt h0)).trans h0
  clear h0
  have h0 := h0n
  clear h0n
  have h1n : W4.cell? ⟨w.heap.size, 1, none⟩ = some (.int .i64 d) := (hc _ _ (cell_lt h1)).trans h1
  clear h1
  have h1 := h1n
  clear h1n
  have x0n : W4.cell? ⟨W2.heap.size, 0, none⟩ = some (.int .i64 ra) := (hc _ _ (cell_lt x0)).trans x0
  clear x0
  have x0 := x0n
  clear x0n
  have x1n : W4.cell? ⟨W2.heap.size, 1, none⟩ = some (.int .i64 rb) := (hc _ _ (cell_lt x1)).trans x1
  clear x1
  have x1 := x1n
  clear x1n
  have hbn := bthen hb0 hB
  clear hb0 hiw
  have hb0 := hbn
  clear hbn hc hf hB
  go_wp2_with fail
  refine (via (w0 := W4) (by go_grown) (HN.out _)).mono ?_
  rintro e W5 ⟨rfl, hc, hf, hz, hB⟩
  have h0n : W5.cell? ⟨w.heap.size, 0, none⟩ = some (.int .i64 m) := (hc _ _ (cell_lt h0)).trans h0
  clear h0
  have h0 := h0n
  clear h0n
  have h1n : W5.cell? ⟨w.heap.size, 1, none⟩ = some (.int .i64 d) := (hc _ _ (cell_lt h1)).trans h1
  clear h1
  have h1 := h1n
  clear h1n
  have x0n : W5.cell? ⟨W2.heap.size, 0, none⟩ = some (.int .i64 ra) := (hc _ _ (cell_lt x0)).trans x0
  clear x0
  have x0 := x0n
  clear x0n
  have x1n : W5.cell? ⟨W2.heap.size, 1, none⟩ = some (.int .i64 rb) := (hc _ _ (cell_lt x1)).trans x1
  clear x1
  have x1 := x1n
  clear x1n
  have hbn : Below w.heap.size w W5 := bthen hb0 hB
  clear hb0
  have hb0 := hbn
  clear hbn
  have hzW5 : W4.heap.size ≤ W5.heap.size := hz
  clear hc hf hB hz
  go_wp2_with fail
  refine (HY.out _ hb0).mono ?_
  rintro e W6 ⟨⟨bu, cu, rfl, hiu⟩, hB⟩
  have hc := (bcell hB).1
  have hf := (bcell hB).2
  have h0n : W6.cell? ⟨w.heap.size, 0, none⟩ = some (.int .i64 m) := (hc _ _ (cell_lt h0)).trans h0
  clear h0
  have h0 := h0n
  clear h0n
  have h1n : W6.cell? ⟨w.heap.size, 1, none⟩ = some (.int .i64 d) := (hc _ _ (cell_lt h1)).trans h1
  clear h1
  have h1 := h1n
  clear h1n
  have x0n : W6.cell? ⟨W2.heap.size, 0, none⟩ = some (.int .i64 ra) := (hc _ _ (cell_lt x0)).trans x0
  clear x0
  have x0 := x0n
  clear x0n
  have x1n : W6.cell? ⟨W2.heap.size, 1, none⟩ = some (.int .i64 rb) := (hc _ _ (cell_lt x1)).trans x1
  clear x1
  have x1 := x1n
  clear x1n
  have Iu := Lib.hid hiu
  have hbn := bthen hb0 hB
  clear hb0 hiu
  have hb0 := hbn
  clear hbn hc hf hB
  clear hra0 hra1 hrb0 hrb1 hma hdb
  go_wp2
  go_loopw [19, 20] (fun v19 v20 wr => ∃ k : Nat, k ≤ l.length ∧ v20 = .int .i64 k ∧ wr.ownsRow W6.heap.size 43 6 v19 (someL (l.take k) wl).length (cellsL rcC (someL (l.take k) wl)) ∧ Below W6.heap.size W6 wr) (fun _ v20 _ => l.length - (intOf v20).toNat)
  case atStart => exact ⟨0, by omega, rfl, own_nil _ _ _ _, Below.refl _ _⟩
  case round =>
    obtain ⟨k, hk, rfl, hown, hbr⟩ := hrel
    have HO := Lib.hid hown
    have HBY := Lib.hid hb0
    have HB0 := Lib.hid (bthen hb0 hbr)
    clear hown hb0
    obtain ⟨wo, rfl⟩ : ∃ wo : World, wo = wr := ⟨_, rfl⟩
    by_cases hlt : k < l.length
    · have hst := someL_take hlt wl
      have hl1 := bound60 (someL_len (l.take (k + 1)) wl) (Nat.le_trans (List.length_take_le _ _) (by omega)) hw2
      rw [hst, List.length_append] at hl1
      have HST := Lib.hid hst
      have hi1 : ¬ (k : Int) < 0 := by omega
      have hi2 : (k : Int) < (l.length : Int) := by omega
      have hzo := hbr.size
      have HBR := Lib.hid hbr
      generalize hpre : someL (l.take k) wl = pre at *
      have HPRE := Lib.hid hpre
      clear hst hbr hpre
      go_wp2
      go_loopw [19, 21] (fun v19 v21 wr => ∃ j : Nat, j ≤ wl.length ∧ v21 = .int .i64 j ∧ wr.ownsRow W6.heap.size 43 6 v19 (pre ++ selIn (rc l k) (wl.take j)).length (cellsL rcC (pre ++ selIn (rc l k) (wl.take j))) ∧ Below W6.heap.size W6 wr) (fun _ v21 _ => wl.length - (intOf v21).toNat)
      case atStart => exact ⟨0, by omega, rfl, by simpa [selIn] using HO.out, HBR.out⟩
      case round =>
        obtain ⟨j, hj, rfl, hown, hbq⟩ := hrel
        have HOQ := Lib.hid hown
        have HBQ := Lib.hid hbq
        have hzq := hbq.size
        clear hown
        by_cases hjl : j < wl.length
        · obtain ⟨b, o, rfl, hat⟩ := (HL.out.later (bthen HBY.out hbq)).2 (by intro e; rw [e] at hlt; simp at hlt)
          obtain ⟨z1, z2, z3, z4, z5, z6⟩ := hat k hlt
          obtain ⟨xk, hxk⟩ : ∃ x, rc l k = x := ⟨_, rfl⟩
          rw [hxk] at z1 z2 z3 z4 z5 z6 hl1
          rw [hxk] at HOQ
          rw [hxk]
          have HXK := Lib.hid hxk
          obtain ⟨bw, ow, rfl, hwt⟩ := (Iu.out.later hbq).2 (by intro e; rw [e] at hjl; simp at hjl)
          have yv := hwt j hjl
          have hj1 : ¬ (j : Int) < 0 := by omega
          have hj2 : (j : Int) < (wl.length : Int) := by omega
          have hsl := selIn_take hjl xk
          have hll := selIn_len xk (wl.take j)
          have hll2 : (wl.take j).length ≤ 2 := Nat.le_trans (List.length_take_le _ _) (by omega)
          have HSL := Lib.hid hsl
          have hpb : (pre ++ selIn xk (wl.take j)).length ≤ 62 := by rw [List.length_append]; omega
          clear hat hxk hwt hbq hsl
          generalize it wl j = kv at *
          generalize selIn xk (wl.take j) = sj at *
          have HPB := Lib.hid hpb
          have hb0 : Below wr.heap.size wr wr := Below.refl _ _
          go_wp2_with fail
          have kyv := later_cell yv
          have kz1 := later_cell z1
          have kz2 := later_cell z2
          have kz3 := later_cell z3
          have kz4 := later_cell z4
          have kz5 := later_cell z5
          have kz6 := later_cell z6
          refine wp_region_later wr (by kernel_rfl) (by kernel_rfl) (Below.refl _ _) ?_
          repeat (go_big_quiet_step (fail))
          refine wpQuiet_nil ?_
          rintro ⟨W7, hB⟩
          dsimp only
          have hc := (bcell hB).1
          have hf := (bcell hB).2
          have hz := hB.size
          clear kyv kz1 kz2 kz3 kz4 kz5 kz6
          have yvn : W7.cell? ⟨bw, ow + j, none⟩ = some (.int .i64 kv) := (hc _ _ (cell_lt yv)).trans yv
          clear yv
          have yv := yvn
          clear yvn
          have z1n : W7.cell? ⟨b, o + k * 6, none⟩ = some (.int .i64 xk.i) := (hc _ _ (cell_lt z1)).trans z1
          clear z1
          have z1 := z1n
          clear z1n
          have z2n : W7.cell? ⟨b, o + k * 6 + 1, none⟩ = some (.int .i64 xk.d) := (hc _ _ (cell_lt z2)).trans z2
          clear z2
          have z2 := z2n
          clear z2n
          have z3n : W7.cell? ⟨b, o + k * 6 + 2, none⟩ = some (.int .i64 xk.k) := (hc _ _ (cell_lt z3)).trans z3
          clear z3
          have z3 := z3n
          clear z3n
          have z4n : W7.cell? ⟨b, o + k * 6 + 3, none⟩ = some (.int .i64 xk.s) := (hc _ _ (cell_lt z4)).trans z4
          clear z4
          have z4 := z4n
          clear z4n
          have z5n : W7.cell? ⟨b, o + k * 6 + 4, none⟩ = some (.int .i64 xk.t) := (hc _ _ (cell_lt z5)).trans z5
          clear z5
          have z5 := z5n
          clear z5n
          have z6n : W7.cell? ⟨b, o + k * 6 + 5, none⟩ = some (.int .i64 xk.n) := (hc _ _ (cell_lt z6)).trans z6
          clear z6
          have z6 := z6n
          clear z6n
          have hbn : Below wr.heap.size wr W7 := bthen hb0 hB
          clear hb0
          have hb0 := hbn
          clear hbn
          have hzW7 : wr.heap.size ≤ W7.heap.size := hz
          clear hc hf hB hz
          have HBV := Lib.hid (bthen HBQ.out hb0)
          have hown := own_below HOQ.out hb0
          have HOV := Lib.hid hown
          have hzv := hb0.size
          clear hown hb0 yv
          by_cases hkv : xk.i = kv
          · have hkb : (xk.i == kv) = true := by simpa using hkv
            have hsn : selIn xk (wl.take (j + 1)) = sj ++ [xk] := by rw [HSL.out, hkb]; rfl
            have HSN := Lib.hid hsn
            have HH := HOV.out
            clear hsn hkv
            go_wp2_with (at_builtin; refine stuckHere ?_)
            refine unHid ?_
            refine wpList_append_own_at _ rfl _ _ 39 rfl W6.heap.size 43 i0 _ 6 48 Try.underlying39 hi0 hz0 hz1' hz2 rfl (by decide) _ _ _ rfl (HH.alloc _) ⟨W7.heap.size, 0, none⟩ 1 1 [.int .i64 xk.i, .int .i64 xk.d, .int .i64 xk.k, .int .i64 xk.s, .int .i64 xk.t, .int .i64 xk.n] rfl rfl (cells_new _ #[_, _, _, _, _, _] _) (by simp [Value.oneCell']) (by unfold maxLen; have := HPB.out; omega) (by have := HPB.out; omega) (by simp; omega) ?_
            intro v' w1 hown' hgrow _ hat
            have hlt' := HH.lt
            have hbb : Below W6.heap.size W6 w1 := by
              have h1 : Below W6.heap.size W6 (W7.alloc (Obj.cells #[.int .i64 xk.i, .int .i64 xk.d, .int .i64 xk.k, .int .i64 xk.s, .int .i64 xk.t, .int .i64 xk.n] 43)) := HBV.out.alloc HBV.out.size _
              exact h1.trans ((kept_of_grown hgrow).below (by have := HBV.out.size; simp; omega) (fun j hj => (hlt' j hj).1))
            have hown2 : w1.ownsRow W6.heap.size 43 6 v' (pre ++ selIn xk (wl.take (j + 1))).length (cellsL rcC (pre ++ selIn xk (wl.take (j + 1)))) := by
              rw [HSN.out, ← List.append_assoc, cellsL_snoc, List.length_append]
              exact hown'
            have HB := Lib.hid hbb
            have HW1 := Lib.hid hown2
            clear hown' hgrow hat hlt' hown2 hbb HH z1 z2 z3 z4 z5 z6
            go_wp2
            go_roundw
            case rel => exact ⟨j + 1, by omega, by go_num, HW1.out, HB.out⟩
            case measure => simp [intOf]; omega
          · have hkb : (xk.i == kv) = false := by simpa using hkv
            have hsn : selIn xk (wl.take (j + 1)) = sj := by rw [HSL.out, hkb]; simp
            have HSN := Lib.hid hsn
            clear hsn hkv z1 z2 z3 z4 z5 z6
            go_wp2
            go_roundw
            case rel => exact ⟨j + 1, by omega, by go_num, by rw [HSN.out]; exact HOV.out, HBV.out⟩
            case measure => simp [intOf]; omega
        · obtain rfl : j = wl.length := by omega
          have hown := HOQ.out
          rw [List.take_length] at hown
          have hst : someL (l.take (k + 1)) wl = pre ++ selIn (rc l k) wl := by rw [HST.out]
          have HS2 := Lib.hid hst
          have HOW := Lib.hid hown
          clear hown hst hbq
          go_wp2
          go_roundw
          case rel => exact ⟨k + 1, by omega, by go_num, by rw [HS2.out]; exact HOW.out, HBQ.out⟩
          case measure => simp [intOf]; omega
    · obtain rfl : k = l.length := by omega
      have hown := HO.out
      rw [List.take_length] at hown
      have hl1 := bound60 (someL_len l wl) hl30 hw2
      obtain ⟨bs, cs, rfl, hrs, _⟩ := rc_own hown
      have hrs2 := hrs (by omega)
      have hS3 := HS.out _ _ cs hrs2
      have hle : ((((someL l wl).length : Nat) : Int) == ((wl.length : Nat) : Int)) = true := by rw [HS3.out]; simp
      have hw2' : ((wl.length : Nat) : Int) ≤ 2 := by omega
      have hb0 := HB0.out
      have h0n := ((bcell hbr).1 _ _ (cell_lt h0)).trans h0
      clear h0
      have h0 := h0n
      clear h0n
      have h1n := ((bcell hbr).1 _ _ (cell_lt h1)).trans h1
      clear h1
      have h1 := h1n
      clear h1n
      have x0n := ((bcell hbr).1 _ _ (cell_lt x0)).trans x0
      clear x0
      have x0 := x0n
      clear x0n
      have x1n := ((bcell hbr).1 _ _ (cell_lt x1)).trans x1
      clear x1
      have x1 := x1n
      clear x1n
      generalize someL l wl = S at *
      have HS4 := Lib.hid hS3
      clear hown hrs hrs2 hS3 hbr HO HS HS3
      go_wp2_with fail
      refine (via (w0 := wo) (by go_grown) HS4.out).mono ?_
      rintro e W7 ⟨rfl, hc, hf, hz, hB⟩
      have h0n : W7.cell? ⟨w.heap.size, 0, none⟩ = some (.int .i64 m) := (hc _ _ (cell_lt h0)).trans h0
      clear h0
      have h0 := h0n
      clear h0n
      have h1n : W7.cell? ⟨w.heap.size, 1, none⟩ = some (.int .i64 d) := (hc _ _ (cell_lt h1)).trans h1
      clear h1
      have h1 := h1n
      clear h1n
      have x0n : W7.cell? ⟨W2.heap.size, 0, none⟩ = some (.int .i64 ra) := (hc _ _ (cell_lt x0)).trans x0
      clear x0
      have x0 := x0n
      clear x0n
      have x1n : W7.cell? ⟨W2.heap.size, 1, none⟩ = some (.int .i64 rb) := (hc _ _ (cell_lt x1)).trans x1
      clear x1
      have x1 := x1n
      clear x1n
      have hbn := bthen hb0 hB
      clear hb0
      have hb0 := hbn
      clear hbn hc hf hB hz
      go_upto_region 28 with (fail)
      go_name_world W8 hW8
      have hbz := hb0.size
      have hbn : Below w.heap.size w W8 := by subst hW8; go_grown
      clear hb0 hbz
      have hb0 := hbn
      clear hbn
      have hbk : Below W7.heap.size W7 W8 := by subst hW8; go_grown
      have h0n : W8.cell? ⟨w.heap.size, 0, none⟩ = some (.int .i64 m) := ((bcell hbk).1 _ _ (cell_lt h0)).trans h0
      have h1n : W8.cell? ⟨w.heap.size, 1, none⟩ = some (.int .i64 d) := ((bcell hbk).1 _ _ (cell_lt h1)).trans h1
      have x0n : W8.cell? ⟨W2.heap.size, 0, none⟩ = some (.int .i64 ra) := ((bcell hbk).1 _ _ (cell_lt x0)).trans x0
      have x1n : W8.cell? ⟨W2.heap.size, 1, none⟩ = some (.int .i64 rb) := ((bcell hbk).1 _ _ (cell_lt x1)).trans x1
      clear hbk
      have t0n : W8.cell? ⟨W7.heap.size, 0, none⟩ = some (.int .i64 ra) := by subst hW8; go_simp
      have t1n : W8.cell? ⟨W7.heap.size, 1, none⟩ = some (.int .i64 rb) := by subst hW8; go_simp
      clear hW8 h0 h1 x0 x1
      have h0 := h0n
      have h1 := h1n
      have x0 := x0n
      have x1 := x1n
      have t0 := t0n
      have t1 := t1n
      clear h0n h1n x0n x1n t0n t1n 
      go_wp2_with fail
      refine (via (w0 := W8) (by go_grown) (c_counted _)).mono ?_
      rintro e W9 ⟨rfl, hc, hf, hz, hB⟩
      have h0n : W9.cell? ⟨w.heap.size, 0, none⟩ = some (.int .i64 m) := (hc _ _ (cell_lt h0)).trans h0
      clear h0
      have h0 := h0n
      clear h0n
      have h1n : W9.cell? ⟨w.heap.size, 1, none⟩ = some (.int .i64 d) := (hc _ _ (cell_lt h1)).trans h1
      clear h1
      have h1 := h1n
      clear h1n
      have x0n : W9.cell? ⟨W2.heap.size, 0, none⟩ = some (.int .i64 ra) := (hc _ _ (cell_lt x0)).trans x0
      clear x0
      have x0 := x0n
      clear x0n
      have x1n : W9.cell? ⟨W2.heap.size, 1, none⟩ = some (.int .i64 rb) := (hc _ _ (cell_lt x1)).trans x1
      clear x1
      have x1 := x1n
      clear x1n
      have t0n : W9.cell? ⟨W7.heap.size, 0, none⟩ = some (.int .i64 ra) := (hc _ _ (cell_lt t0)).trans t0
      clear t0
      have t0 := t0n
      clear t0n
      have t1n : W9.cell? ⟨W7.heap.size, 1, none⟩ = some (.int .i64 rb) := (hc _ _ (cell_lt t1)).trans t1
      clear t1
      have t1 := t1n
      clear t1n
      have hbn : Below w.heap.size w W9 := bthen hb0 hB
      clear hb0
      have hb0 := hbn
      clear hbn
      have hzW9 : W8.heap.size ≤ W9.heap.size := hz
      clear hc hf hB hz
      go_wp2_with fail
      go_ret
      exact ⟨rfl, by have hbz := hb0.size; go_grown⟩

set_option maxRecDepth 100000 in
set_option maxHeartbeats 16000000 in
theorem walk {w : World} (m d : Int) (l : List Rc) (a : Option Addr) (cap : Nat) (hm : l.length ≤ maxLen) (hl : l.length ≤ 1000000000000 → Recs w a l) (shep known : Int) :
    Calls Try.prog 11 #[.agg #[.int .i64 m, .int .i64 d], .slice a l.length cap, .int .i64 shep, .int .i64 known] w fun e w' => e = .returned (.bool true) ∧ Below w.heap.size w w' := by
  by_cases h : 30 < l.length
  · exact walk_many m d l a cap hm shep known h
  have hl := hl (by omega)
  obtain ⟨⟨ra, rb, e⟩, hr⟩ : ∃ x, rateV m d l shep known = x := ⟨_, rfl⟩
  by_cases he : e = 0
  · subst he
    by_cases h1 : m < ra <;> by_cases h2 : d < rb
    · exact walk_ok_tt m d l a cap hm shep known h hl ra rb hr h1 h2
    · exact walk_ok_tf m d l a cap hm shep known h hl ra rb hr h1 h2
    · exact walk_ok_ft m d l a cap hm shep known h hl ra rb hr h1 h2
    · exact walk_ok_ff m d l a cap hm shep known h hl ra rb hr h1 h2
  · obtain ⟨rfl, rfl⟩ := rateV_zero hr he
    exact walk_err m d l a cap hm shep known h hl e hr he


set_option maxRecDepth 100000 in
theorem lifted (os : Os) (started : os.Started) (H : Type) (enc : TypeId × Value → H) :
    ReturnsInHanded {} Try.checked os 11 .any (Rows.tallyLeastSpec.pre6 enc Try.prog Try.f11 Rows.tallyLeastRow.domain false) (Rows.tallyLeastSpec.post enc Try.prog Try.f11 false true false false) := by
  refine returnsInHanded_of_change (C := Try.checked) own started (by kernel_rfl) Try.func11
    (ChangeSpec.witness6 (enc := enc) (C := Try.checked) false ⟨#[], #[.agg #[.int .i64 0, .int .i64 0], .slice none 0 0, .int .i64 0, .int .i64 0], []⟩ 8 (by kernel_rfl) (by kernel_rfl) (by kernel_rfl) (by kernel_rfl)) ?_
  intro W base args ds gs before hval0 hW _ _
  have hval : ∀ (j : Nat) t v, Try.f11.params[j]? = some t → args[j]? = some v → Value.okWide Try.prog W .any base t v := hval0
  have hW' := hW
  obtain ⟨p, q, hA0, hV, rfl, _, _⟩ := hW
  have hA : DataW.TrodAll enc Try.prog W 0 (fun _ => true) true Try.f11.params.toList args.toList ds p := hA0
  rw [Try.params11] at hA hval
  obtain ⟨v0, vs0, d0, ds0, p0, q0, hargs, rfl, rfl, h0, r0⟩ := trodAll_cons hA
  obtain ⟨v1, vs1, d1, ds1, p1, q1, rfl, rfl, rfl, h1, r1⟩ := trodAll_cons r0
  obtain ⟨v2, vs2, d2, ds2, p2, q2, rfl, rfl, rfl, h2, r2⟩ := trodAll_cons r1
  obtain ⟨v3, vs3, d3, ds3, p3, q3, rfl, rfl, rfl, h3, r3⟩ := trodAll_cons r2
  obtain ⟨rfl, rfl, rfl⟩ := trodAll_nil r3
  obtain rfl : args = #[v0, v1, v2, v3] := by cases args; simp_all
  obtain ⟨rfl, rfl⟩ := trodVars_none hV
  obtain ⟨c0x0, c0x1, y0x0, y0x1, m0, rfl, rfl, rfl, hy0x0, hy0x1⟩ := open_agg2 Try.underlying27 (by kernel_rfl) (by kernel_rfl) (hval 0 27 v0 rfl rfl) h0
  obtain ⟨a0x0, e0x0, rfl, w0x0⟩ := DataW.trod_int Try.underlying3 hy0x0
  obtain ⟨a0x1, e0x1, rfl, w0x1⟩ := DataW.trod_int Try.underlying3 hy0x1
  simp only [List.cons.injEq, and_true] at e0x0 e0x1
  subst e0x0 e0x1
  obtain ⟨b1, l1, k1, rfl, m1, e1⟩ := open_recs (fun _ _ => hval 1 39 v1 rfl rfl) h1
  obtain ⟨a2, rfl, rfl, rfl, w2⟩ := open_int Try.underlying3 (hval 2 3 v2 rfl rfl) h2
  obtain ⟨a3, rfl, rfl, rfl, w3⟩ := open_int Try.underlying3 (hval 3 3 v3 rfl rfl) h3
  clear hA0 hval0
  have s0 := stays h0 (by kernel_rfl) (by kernel_rfl)
  have s2 := stays h2 (by kernel_rfl) (by kernel_rfl)
  have s3 := stays h3 (by kernel_rfl) (by kernel_rfl)
  refine (walk a0x0 a0x1 l1 b1 k1 m1 e1 a2 a3).mono fun e W' ⟨he, hg⟩ => ?_
  subst he
  have hlt := fun x hx => hW'.lt x hx
  exact ⟨_, rfl, post_of_below (pa := ([] ++ (p1 ++ ([] ++ ([] ++ []))))) (pv := []) hW' (fun _ _ _ => (trodAll_cons_mk (shut_bool Try.underlying4 _) trodAll_mk0)) (fun sp hsp => (trodAll_cons_mk (s0 _ _) (trodAll_cons_mk (staysB h1 (by kernel_rfl) (by kernel_rfl) hg hlt (fun x hx => by simp [hx]) sp hsp) (trodAll_cons_mk (s2 _ _) (trodAll_cons_mk (s3 _ _) trodAll_mk0))))) (fun _ _ => rfl) rfl
    hg (ok_one (by kernel_rfl) rfl (okWide_bool_mk Try.underlying4 _))⟩

theorem over : Rows.tallyLeastRow.holds Try.pinned (OpenSpec.ofChange Rows.tallyLeastSpec) :=
  OpenClaim.holds_of_wide 11 Try.f11 rfl rfl rfl rfl rfl rfl rfl ⟨rfl, rfl, rfl, rfl, rfl⟩ rfl rfl rfl rfl rfl (by kernel_rfl) Try.func11 (by kernel_rfl)
    (of_decide_eq_true (by kernel_rfl)) (by unfold Func.isWrapper; first | (rw [if_pos (by decide +kernel)]; kernel_rfl) | (rw [if_neg (by decide +kernel)]; exact ⟨rfl, rfl⟩))
    (fun os started H enc _ => lifted os started H enc)

theorem proved : Rows.TallyLeastSaid :=
  over
end Go.Proofs.Ytokpjaodchcheaa.tallyLeast
