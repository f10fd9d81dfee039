/- This text proves that the law TallyRates holds: for every two rates, list of re-counts, shepherd and day of knowledge it returns true, and they read behind the call as they read before. -/
import Derived.Test.YtokpjaodchcheaaShut
import Derived.Test.YtokpjaodchcheaaRows
import Derived.Test.YtokpjaodchcheaaRefWhy
import Derived.Test.YtokpjaodchcheaaOpen
namespace Go.Proofs.Ytokpjaodchcheaa.tallyRates
open Go.ChangeShapes Go.WideShapes Go.ChangeAt Go.RowKit Go.Joins Go.Deep

theorem in_later {P : Program} {f : FuncId} {args : Array Value} {w0 : World} {x : Later w0} {v : Value}
    (h : ∀ W, Below w0.heap.size w0 W → Calls P f args W fun e w' => e = .returned v ∧ Below W.heap.size W w') : Calls P f args x.1 fun e w'' => e = .returned v ∧ ∃ y : Later w0, w'' = y.1 := in_region (h x.1 x.2)

set_option maxRecDepth 100000 in
set_option maxHeartbeats 8000000 in
theorem walk_many {w : World} (m d m2 d2 : Int) (l : List Rc) (a : Option Addr) (cap : Nat) (hm : l.length ≤ maxLen) (shep known : Int) (h : 30 < l.length) :
    Calls Try.prog 10 #[.agg #[.int .i64 m, .int .i64 d], .agg #[.int .i64 m2, .int .i64 d2], .slice a l.length cap, .int .i64 shep, .int .i64 known] w fun e w' => e = .returned (.bool true) ∧ Below w.heap.size w w' := by
  unfold maxLen at hm
  have h' : (30 : Int) < (l.length : Int) := by omega
  go_enter Try.func10, Try.ntmps10
  go_upto_region 1 with (fail)
  go_name_world W1 hW1
  have hbn : Below w.heap.size w W1 := by subst hW1; go_grown
  have hb0 := hbn
  clear hbn
  have h0n : W1.cell? ⟨w.heap.size, 0, none⟩ = some (.int .i64 m) := by subst hW1; go_simp
  have h1n : W1.cell? ⟨w.heap.size, 1, none⟩ = some (.int .i64 d) := by subst hW1; go_simp
  have k0n : W1.cell? ⟨w.heap.size + 1, 0, none⟩ = some (.int .i64 m2) := by subst hW1; go_simp
  have k1n : W1.cell? ⟨w.heap.size + 1, 1, none⟩ = some (.int .i64 d2) := by subst hW1; go_simp
  clear hW1 
  have h0 := h0n
  have h1 := h1n
  have k0 := k0n
  have k1 := k1n
  clear h0n h1n k0n k1n 
  go_wp2_with fail
  refine (via (w0 := W1) (by go_grown) (c_counted _)).mono ?_
  rintro e W2 ⟨rfl, hc, hf, hz, hB⟩
  have h0n : W2.cell? ⟨w.heap.size, 0, none⟩ = some (.int .i64 m) := (hc _ _ (cell_lt h0)).trans h0
  clear h0
  have h0 := h0n
  clear h0n
  have h1n : W2.cell? ⟨w.heap.size, 1, none⟩ = some (.int .i64 d) := (hc _ _ (cell_lt h1)).trans h1
  clear h1
  have h1 := h1n
  clear h1n
  have k0n : W2.cell? ⟨w.heap.size + 1, 0, none⟩ = some (.int .i64 m2) := (hc _ _ (cell_lt k0)).trans k0
  clear k0
  have k0 := k0n
  clear k0n
  have k1n : W2.cell? ⟨w.heap.size + 1, 1, none⟩ = some (.int .i64 d2) := (hc _ _ (cell_lt k1)).trans k1
  clear k1
  have k1 := k1n
  clear k1n
  have hbn : Below w.heap.size w W2 := bthen hb0 hB
  clear hb0
  have hb0 := hbn
  clear hbn
  have hzW2 : W1.heap.size ≤ W2.heap.size := hz
  clear hc hf hB hz
  go_wp2_with fail
  go_ret
  exact ⟨rfl, by have hbz := hb0.size; go_grown⟩

set_option maxRecDepth 100000 in
set_option maxHeartbeats 8000000 in
theorem walk_ok {w : World} (m d m2 d2 : Int) (l : List Rc) (a : Option Addr) (cap : Nat) (hm : l.length ≤ maxLen) (shep known : Int) (h : ¬ 30 < l.length) (hl : Recs w a l) :
    Calls Try.prog 10 #[.agg #[.int .i64 m, .int .i64 d], .agg #[.int .i64 m2, .int .i64 d2], .slice a l.length cap, .int .i64 shep, .int .i64 known] w fun e w' => e = .returned (.bool true) ∧ Below w.heap.size w w' := by
  unfold maxLen at hm
  have h' : ¬ (30 : Int) < (l.length : Int) := by omega
  have hA := fun W (hb : Below w.heap.size w W) => c_RateOf m d l a cap shep known W (hl.later hb)
  have hB := fun W (hb : Below w.heap.size w W) => c_rRateOf m d l a cap shep known W (hl.later hb)
  have hC := fun W (hb : Below w.heap.size w W) => c_Why m d l a cap shep known W (hl.later hb)
  have hD := fun W (hb : Below w.heap.size w W) => c_rWhy m d l a cap shep known W (hl.later hb)
  have hE := fun W (hb : Below w.heap.size w W) => c_Wrong m2 d2 l a cap shep known W (hl.later hb)
  have hF := fun W (hb : Below w.heap.size w W) => c_rWrong m2 d2 l a cap shep known W (hl.later hb)
  have hG := fun W => c_Narrower m d m2 d2 W
  have hH := fun W => c_rNarrower m d m2 d2 W
  generalize rateV m d l shep known = ra at hA hB
  obtain ⟨p, q, e⟩ := ra
  generalize whyV m d l shep known = wh at hC hD
  obtain ⟨wl, we⟩ := wh
  generalize wrongV m2 d2 l shep known = wr at hE hF
  obtain ⟨xl, xe⟩ := wr
  generalize narrowB m d m2 d2 = nb at hG hH
  have HA := Lib.hid hA
  have HB := Lib.hid hB
  have HC := Lib.hid hC
  have HD := Lib.hid hD
  have HE := Lib.hid hE
  have HF := Lib.hid hF
  have HG := Lib.hid hG
  have HH := Lib.hid hH
  clear hA hB hC hD hE hF hG hH hl
  go_enter Try.func10, Try.ntmps10
  go_upto_region 1 with (fail)
  go_name_world W1 hW1
  have hbn : Below w.heap.size w W1 := by subst hW1; go_grown
  have hb0 := hbn
  clear hbn
  have h0n : W1.cell? ⟨w.heap.size, 0, none⟩ = some (.int .i64 m) := by subst hW1; go_simp
  have h1n : W1.cell? ⟨w.heap.size, 1, none⟩ = some (.int .i64 d) := by subst hW1; go_simp
  have k0n : W1.cell? ⟨w.heap.size + 1, 0, none⟩ = some (.int .i64 m2) := by subst hW1; go_simp
  have k1n : W1.cell? ⟨w.heap.size + 1, 1, none⟩ = some (.int .i64 d2) := by subst hW1; go_simp
  clear hW1 
  have h0 := h0n
  have h1 := h1n
  have k0 := k0n
  have k1 := k1n
  clear h0n h1n k0n k1n 
  go_wp2_with fail
  refine (via (w0 := W1) (by go_grown) (HA.out _ hb0)).mono ?_
  rintro e W2 ⟨rfl, hc, hf, hz, hB⟩
  have h0n : W2.cell? ⟨w.heap.size, 0, none⟩ = some (.int .i64 m) := (hc _ _ (cell_lt h0)).trans h0
  clear h0
  have h0 := h0n
  clear h0n
  have h1n : W2.cell? ⟨w.heap.size, 1, none⟩ = some (.int .i64 d) := (hc _ _ (cell_lt h1)).trans h1
  clear h1
  have h1 := h1n
  clear h1n
  have k0n : W2.cell? ⟨w.heap.size + 1, 0, none⟩ = some (.int .i64 m2) := (hc _ _ (cell_lt k0)).trans k0
  clear k0
  have k0 := k0n
  clear k0n
  have k1n : W2.cell? ⟨w.heap.size + 1, 1, none⟩ = some (.int .i64 d2) := (hc _ _ (cell_lt k1)).trans k1
  clear k1
  have k1 := k1n
  clear k1n
  have hbn : Below w.heap.size w W2 := bthen hb0 hB
  clear hb0
  have hb0 := hbn
  clear hbn
  have hzW2 : W1.heap.size ≤ W2.heap.size := hz
  clear hc hf hB hz
  go_upto_region 4 with (fail)
  go_name_world W3 hW3
  have hbz := hb0.size
  have hbn : Below w.heap.size w W3 := by subst hW3; go_grown
  clear hb0 hbz
  have hb0 := hbn
  clear hbn
  have hbk : Below W2.heap.size W2 W3 := by subst hW3; go_grown
  have h0n : W3.cell? ⟨w.heap.size, 0, none⟩ = some (.int .i64 m) := ((bcell hbk).1 _ _ (cell_lt h0)).trans h0
  have h1n : W3.cell? ⟨w.heap.size, 1, none⟩ = some (.int .i64 d) := ((bcell hbk).1 _ _ (cell_lt h1)).trans h1
  have k0n : W3.cell? ⟨w.heap.size + 1, 0, none⟩ = some (.int .i64 m2) := ((bcell hbk).1 _ _ (cell_lt k0)).trans k0
  have k1n : W3.cell? ⟨w.heap.size + 1, 1, none⟩ = some (.int .i64 d2) := ((bcell hbk).1 _ _ (cell_lt k1)).trans k1
  clear hbk
  have x0n : W3.cell? ⟨W2.heap.size, 0, none⟩ = some (.int .i64 p) := by subst hW3; go_simp
  have x1n : W3.cell? ⟨W2.heap.size, 1, none⟩ = some (.int .i64 q) := by subst hW3; go_simp
  clear hW3 h0 h1 k0 k1
  have h0 := h0n
  have h1 := h1n
  have k0 := k0n
  have k1 := k1n
  have x0 := x0n
  have x1 := x1n
  clear h0n h1n k0n k1n x0n x1n 
  go_wp2_with fail
  refine (via (w0 := W3) (by go_grown) (HB.out _ hb0)).mono ?_
  rintro e W4 ⟨rfl, hc, hf, hz, hB⟩
  have h0n : W4.cell? ⟨w.heap.size, 0, none⟩ = some (.int .i64 m) := (hc _ _ (cell_lt h0)).trans h0
  clear h0
  have h0 := h0n
  clear h0n
  have h1n : W4.cell? ⟨w.heap.size, 1, none⟩ = some (.int .i64 d) := (hc _ _ (cell_lt h1)).trans h1
  clear h1
  have h1 := h1n
  clear h1n
  have k0n : W4.cell? ⟨w.heap.size + 1, 0, none⟩ = some (.int .i64 m2) := (hc _ _ (cell_lt k0)).trans k0
  clear k0
  have k0 := k0n
  clear k0n
  have k1n : W4.cell? ⟨w.heap.size + 1, 1, none⟩ = some (.int .i64 d2) := (hc _ _ (cell_lt k1)).trans k1
  clear k1
  have k1 := k1n
  clear k1n
  have x0n : W4.cell? ⟨W2.heap.size, 0, none⟩ = some (.int .i64 p) := (hc _ _ (cell_lt x0)).trans x0
  clear x0
  have x0 := x0n
  clear x0n
  have x1n : W4.cell? ⟨W2.heap.size, 1, none⟩ = some (.int .i64 q) := (hc _ _ (cell_lt x1)).trans x1
  clear x1
  have x1 := x1n
  clear x1n
  have hbn : Below w.heap.size w W4 := bthen hb0 hB
  clear hb0
  have hb0 := hbn
  clear hbn
  have hzW4 : W3.heap.size ≤ W4.heap.size := hz
  clear hc hf hB hz
  go_upto_region 5 with (fail)
  go_name_world W5 hW5
  have hbz := hb0.size
  have hbn : Below w.heap.size w W5 := by subst hW5; go_grown
  clear hb0 hbz
  have hb0 := hbn
  clear hbn
  have hbk : Below W4.heap.size W4 W5 := by subst hW5; go_grown
  have h0n : W5.cell? ⟨w.heap.size, 0, none⟩ = some (.int .i64 m) := ((bcell hbk).1 _ _ (cell_lt h0)).trans h0
  have h1n : W5.cell? ⟨w.heap.size, 1, none⟩ = some (.int .i64 d) := ((bcell hbk).1 _ _ (cell_lt h1)).trans h1
  have k0n : W5.cell? ⟨w.heap.size + 1, 0, none⟩ = some (.int .i64 m2) := ((bcell hbk).1 _ _ (cell_lt k0)).trans k0
  have k1n : W5.cell? ⟨w.heap.size + 1, 1, none⟩ = some (.int .i64 d2) := ((bcell hbk).1 _ _ (cell_lt k1)).trans k1
  have x0n : W5.cell? ⟨W2.heap.size, 0, none⟩ = some (.int .i64 p) := ((bcell hbk).1 _ _ (cell_lt x0)).trans x0
  have x1n : W5.cell? ⟨W2.heap.size, 1, none⟩ = some (.int .i64 q) := ((bcell hbk).1 _ _ (cell_lt x1)).trans x1
  clear hbk
  have y0n : W5.cell? ⟨W4.heap.size, 0, none⟩ = some (.int .i64 p) := by subst hW5; go_simp
  have y1n : W5.cell? ⟨W4.heap.size, 1, none⟩ = some (.int .i64 q) := by subst hW5; go_simp
  clear hW5 h0 h1 k0 k1 x0 x1
  have h0 := h0n
  have h1 := h1n
  have k0 := k0n
  have k1 := k1n
  have x0 := x0n
  have x1 := x1n
  have y0 := y0n
  have y1 := y1n
  clear h0n h1n k0n k1n x0n x1n y0n y1n 
  go_wp2_with fail
  refine (HC.out _ hb0).mono ?_
  rintro e W6 ⟨⟨bc, cc, rfl, hic⟩, hB⟩
  have hc := (bcell hB).1
  have hf := (bcell hB).2
  have h0n : W6.cell? ⟨w.heap.size, 0, none⟩ = some (.int .i64 m) := (hc _ _ (cell_lt h0)).trans h0
  clear h0
  have h0 := h0n
  clear h0n
  have h1n : W6.cell? ⟨w.heap.size, 1, none⟩ = some (.int .i64 d) := (hc _ _ (cell_lt h1)).trans h1
  clear h1
  have h1 := h1n
  clear h1n
  have k0n : W6.cell? ⟨w.heap.size + 1, 0, none⟩ = some (.int .i64 m2) := (hc _ _ (cell_lt k0)).trans k0
  clear k0
  have k0 := k0n
  clear k0n
  have k1n : W6.cell? ⟨w.heap.size + 1, 1, none⟩ = some (.int .i64 d2) := (hc _ _ (cell_lt k1)).trans k1
  clear k1
  have k1 := k1n
  clear k1n
  have x0n : W6.cell? ⟨W2.heap.size, 0, none⟩ = some (.int .i64 p) := (hc _ _ (cell_lt x0)).trans x0
  clear x0
  have x0 := x0n
  clear x0n
  have x1n : W6.cell? ⟨W2.heap.size, 1, none⟩ = some (.int .i64 q) := (hc _ _ (cell_lt x1)).trans x1
  clear x1
  have x1 := x1n
  clear x1n
  have y0n : W6.cell? ⟨W4.heap.size, 0, none⟩ = some (.int .i64 p) := (hc _ _ (cell_lt y0)).trans y0
  clear y0
  have y0 := y0n
  clear y0n
  have y1n : W6.cell? ⟨W4.heap.size, 1, none⟩ = some (.int .i64 q) := (hc _ _ (cell_lt y1)).trans y1
  clear y1
  have y1 := y1n
  clear y1n
  have Ic := Lib.hid hic
  have hbn := bthen hb0 hB
  clear hb0 hic
  have hb0 := hbn
  clear hbn hc hf hB
  go_wp2_with fail
  refine (HD.out _ hb0).mono ?_
  rintro e W7 ⟨⟨bd, cd, rfl, hid⟩, hB⟩
  have hc := (bcell hB).1
  have hf := (bcell hB).2
  have h0n : W7.cell? ⟨w.heap.size, 0, none⟩ = some (.int .i64 m) := (hc _ _ (cell_lt h0)).trans h0
  clear h0
  have h0 := h0n
  clear h0n
  have h1n : W7.cell? ⟨w.heap.size, 1, none⟩ = some (.int .i64 d) := (hc _ _ (cell_lt h1)).trans h1
  clear h1
  have h1 := h1n
  clear h1n
  have k0n : W7.cell? ⟨w.heap.size + 1, 0, none⟩ = some (.int .i64 m2) := (hc _ _ (cell_lt k0)).trans k0
  clear k0
  have k0 := k0n
  clear k0n
  have k1n : W7.cell? ⟨w.heap.size + 1, 1, none⟩ = some (.int .i64 d2) := (hc _ _ (cell_lt k1)).trans k1
  clear k1
  have k1 := k1n
  clear k1n
  have x0n : W7.cell? ⟨W2.heap.size, 0, none⟩ = some (.int .i64 p) := (hc _ _ (cell_lt x0)).trans x0
  clear x0
  have x0 := x0n
  clear x0n
  have x1n : W7.cell? ⟨W2.heap.size, 1, none⟩ = some (.int .i64 q) := (hc _ _ (cell_lt x1)).trans x1
  clear x1
  have x1 := x1n
  clear x1n
  have y0n : W7.cell? ⟨W4.heap.size, 0, none⟩ = some (.int .i64 p) := (hc _ _ (cell_lt y0)).trans y0
  clear y0
  have y0 := y0n
  clear y0n
  have y1n : W7.cell? ⟨W4.heap.size, 1, none⟩ = some (.int .i64 q) := (hc _ _ (cell_lt y1)).trans y1
  clear y1
  have y1 := y1n
  clear y1n
  have Icn := Lib.hid (Ic.out.later hB)
  clear Ic
  have Ic := Icn
  clear Icn
  have Id := Lib.hid hid
  have hbn := bthen hb0 hB
  clear hb0 hid
  have hb0 := hbn
  clear hbn hc hf hB
  go_wp2_with fail
  refine (HE.out _ hb0).mono ?_
  rintro e W8 ⟨⟨be, ce, rfl, hie⟩, hB⟩
  have hc := (bcell hB).1
  have hf := (bcell hB).2
  have h0n : W8.cell? ⟨w.heap.size, 0, none⟩ = some (.int .i64 m) := (hc _ _ (cell_lt h0)).trans h0
  clear h0
  have h0 := h0n
  clear h0n
  have h1n : W8.cell? ⟨w.heap.size, 1, none⟩ = some (.int .i64 d) := (hc _ _ (cell_lt h1)).trans h1
  clear h1
  have h1 := h1n
  clear h1n
  have k0n : W8.cell? ⟨w.heap.size + 1, 0, none⟩ = some (.int .i64 m2) := (hc _ _ (cell_lt k0)).trans k0
  clear k0
  have k0 := k0n
  clear k0n
  have k1n : W8.cell? ⟨w.heap.size + 1, 1, none⟩ = some (.int .i64 d2) := (hc _ _ (cell_lt k1)).trans k1
  clear k1
  have k1 := k1n
  clear k1n
  have x0n : W8.cell? ⟨W2.heap.size, 0, none⟩ = some (.int .i64 p) := (hc _ _ (cell_lt x0)).trans x0
  clear x0
  have x0 := x0n
  clear x0n
  have x1n : W8.cell? ⟨W2.heap.size, 1, none⟩ = some (.int .i64 q) := (hc _ _ (cell_lt x1)).trans x1
  clear x1
  have x1 := x1n
  clear x1n
  have y0n : W8.cell? ⟨W4.heap.size, 0, none⟩ = some (.int .i64 p) := (hc _ _ (cell_lt y0)).trans y0
  clear y0
  have y0 := y0n
  clear y0n
  have y1n : W8.cell? ⟨W4.heap.size, 1, none⟩ = some (.int .i64 q) := (hc _ _ (cell_lt y1)).trans y1
  clear y1
  have y1 := y1n
  clear y1n
  have Icn := Lib.hid (Ic.out.later hB)
  clear Ic
  have Ic := Icn
  clear Icn
  have Idn := Lib.hid (Id.out.later hB)
  clear Id
  have Id := Idn
  clear Idn
  have Ie := Lib.hid hie
  have hbn := bthen hb0 hB
  clear hb0 hie
  have hb0 := hbn
  clear hbn hc hf hB
  go_wp2_with fail
  refine (HF.out _ hb0).mono ?_
  rintro e W9 ⟨⟨bf, cf, rfl, hif⟩, hB⟩
  have hc := (bcell hB).1
  have hf := (bcell hB).2
  have h0n : W9.cell? ⟨w.heap.size, 0, none⟩ = some (.int .i64 m) := (hc _ _ (cell_lt h0)).trans h0
  clear h0
  have h0 := h0n
  clear h0n
  have h1n : W9.cell? ⟨w.heap.size, 1, none⟩ = some (.int .i64 d) := (hc _ _ (cell_lt h1)).trans h1
  clear h1
  have h1 := h1n
  clear h1n
  have k0n : W9.cell? ⟨w.heap.size + 1, 0, none⟩ = some (.int .i64 m2) := (hc _ _ (cell_lt k0)).trans k0
  clear k0
  have k0 := k0n
  clear k0n
  have k1n : W9.cell? ⟨w.heap.size + 1, 1, none⟩ = some (.int .i64 d2) := (hc _ _ (cell_lt k1)).trans k1
  clear k1
  have k1 := k1n
  clear k1n
  have x0n : W9.cell? ⟨W2.heap.size, 0, none⟩ = some (.int .i64 p) := (hc _ _ (cell_lt x0)).trans x0
  clear x0
  have x0 := x0n
  clear x0n
  have x1n : W9.cell? ⟨W2.heap.size, 1, none⟩ = some (.int .i64 q) := (hc _ _ (cell_lt x1)).trans x1
  clear x1
  have x1 := x1n
  clear x1n
  have y0n : W9.cell? ⟨W4.heap.size, 0, none⟩ = some (.int .i64 p) := (hc _ _ (cell_lt y0)).trans y0
  clear y0
  have y0 := y0n
  clear y0n
  have y1n : W9.cell? ⟨W4.heap.size, 1, none⟩ = some (.int .i64 q) := (hc _ _ (cell_lt y1)).trans y1
  clear y1
  have y1 := y1n
  clear y1n
  have Icn := Lib.hid (Ic.out.later hB)
  clear Ic
  have Ic := Icn
  clear Icn
  have Idn := Lib.hid (Id.out.later hB)
  clear Id
  have Id := Idn
  clear Idn
  have Ien := Lib.hid (Ie.out.later hB)
  clear Ie
  have Ie := Ien
  clear Ien
  have If := Lib.hid hif
  have hbn := bthen hb0 hB
  clear hb0 hif
  have hb0 := hbn
  clear hbn hc hf hB
  have hs1 : ∀ W, Below W9.heap.size W9 W → Calls Try.prog 49 #[.slice bc wl.length cc, .slice bd wl.length cd] W fun e w' => e = .returned (.bool true) ∧ Below W.heap.size W w' := fun W hb => by
    have := c_SameInts wl wl bc bd cc cd W (Ic.out.later hb) (Id.out.later hb)
    simpa using this
  have hs2 : ∀ W, Below W9.heap.size W9 W → Calls Try.prog 49 #[.slice be xl.length ce, .slice bf xl.length cf] W fun e w' => e = .returned (.bool true) ∧ Below W.heap.size W w' := fun W hb => by
    have := c_SameInts xl xl be bf ce cf W (Ie.out.later hb) (If.out.later hb)
    simpa using this
  have HS1 := Lib.hid hs1
  have HS2 := Lib.hid hs2
  clear hs1 hs2
  go_wp2_with fail
  have kh0 := later_cell h0
  have kh1 := later_cell h1
  have kk0 := later_cell k0
  have kk1 := later_cell k1
  have kx0 := later_cell x0
  have kx1 := later_cell x1
  have ky0 := later_cell y0
  have ky1 := later_cell y1
  refine wp_region_later W9 (by kernel_rfl) (by kernel_rfl) (Below.refl _ _) ?_
  repeat (go_big_quiet_step (first | (go_at_call 20; with_reducible exact in_region (c_counted _)) | (go_at_call 49; with_reducible exact in_later (HS1.out)) | (go_at_call 49; with_reducible exact in_later (HS2.out)) | (go_at_call 21; with_reducible exact in_region (HG.out _)) | (go_at_call 50; with_reducible exact in_region (HH.out _))))
  refine wpQuiet_nil ?_
  rintro ⟨W10, hB⟩
  dsimp only
  have hc := (bcell hB).1
  have hf := (bcell hB).2
  have hz := hB.size
  clear kh0 kh1 kk0 kk1 kx0 kx1 ky0 ky1
  have h0n : W10.cell? ⟨w.heap.size, 0, none⟩ = some (.int .i64 m) := (hc _ _ (cell_lt h0)).trans h0
  clear h0
  have h0 := h0n
  clear h0n
  have h1n : W10.cell? ⟨w.heap.size, 1, none⟩ = some (.int .i64 d) := (hc _ _ (cell_lt h1)).trans h1
  clear h1
  have h1 := h1n
  clear h1n
  have k0n : W10.cell? ⟨w.heap.size + 1, 0, none⟩ = some (.int .i64 m2) := (hc _ _ (cell_lt k0)).trans k0
  clear k0
  have k0 := k0n
  clear k0n
  have k1n : W10.cell? ⟨w.heap.size + 1, 1, none⟩ = some (.int .i64 d2) := (hc _ _ (cell_lt k1)).trans k1
  clear k1
  have k1 := k1n
  clear k1n
  have x0n : W10.cell? ⟨W2.heap.size, 0, none⟩ = some (.int .i64 p) := (hc _ _ (cell_lt x0)).trans x0
  clear x0
  have x0 := x0n
  clear x0n
  have x1n : W10.cell? ⟨W2.heap.size, 1, none⟩ = some (.int .i64 q) := (hc _ _ (cell_lt x1)).trans x1
  clear x1
  have x1 := x1n
  clear x1n
  have y0n : W10.cell? ⟨W4.heap.size, 0, none⟩ = some (.int .i64 p) := (hc _ _ (cell_lt y0)).trans y0
  clear y0
  have y0 := y0n
  clear y0n
  have y1n : W10.cell? ⟨W4.heap.size, 1, none⟩ = some (.int .i64 q) := (hc _ _ (cell_lt y1)).trans y1
  clear y1
  have y1 := y1n
  clear y1n
  have hbn : Below w.heap.size w W10 := bthen hb0 hB
  clear hb0
  have hb0 := hbn
  clear hbn
  have hzW10 : W9.heap.size ≤ W10.heap.size := hz
  clear hc hf hB hz
  go_wp2_with fail
  go_ret
  exact ⟨rfl, by have hbz := hb0.size; go_grown⟩

set_option maxRecDepth 100000 in
set_option maxHeartbeats 8000000 in
theorem walk {w : World} (m d m2 d2 : Int) (l : List Rc) (a : Option Addr) (cap : Nat) (hm : l.length ≤ maxLen) (hl : l.length ≤ 1000000000000 → Recs w a l) (shep known : Int) :
    Calls Try.prog 10 #[.agg #[.int .i64 m, .int .i64 d], .agg #[.int .i64 m2, .int .i64 d2], .slice a l.length cap, .int .i64 shep, .int .i64 known] w fun e w' => e = .returned (.bool true) ∧ Below w.heap.size w w' := by
  by_cases h : 30 < l.length
  · exact walk_many m d m2 d2 l a cap hm shep known h
  · exact walk_ok m d m2 d2 l a cap hm shep known h (hl (by omega))


set_option maxRecDepth 100000 in
theorem lifted (os : Os) (started : os.Started) (H : Type) (enc : TypeId × Value → H) :
    ReturnsInHanded {} Try.checked os 10 .any (Rows.tallyRatesSpec.pre6 enc Try.prog Try.f10 Rows.tallyRatesRow.domain false) (Rows.tallyRatesSpec.post enc Try.prog Try.f10 false true false false) := by
  refine returnsInHanded_of_change (C := Try.checked) own started (by kernel_rfl) Try.func10
    (ChangeSpec.witness6 (enc := enc) (C := Try.checked) false ⟨#[], #[.agg #[.int .i64 0, .int .i64 0], .agg #[.int .i64 0, .int .i64 0], .slice none 0 0, .int .i64 0, .int .i64 0], []⟩ 8 (by kernel_rfl) (by kernel_rfl) (by kernel_rfl) (by kernel_rfl)) ?_
  intro W base args ds gs before hval0 hW _ _
  have hval : ∀ (j : Nat) t v, Try.f10.params[j]? = some t → args[j]? = some v → Value.okWide Try.prog W .any base t v := hval0
  have hW' := hW
  obtain ⟨p, q, hA0, hV, rfl, _, _⟩ := hW
  have hA : DataW.TrodAll enc Try.prog W 0 (fun _ => true) true Try.f10.params.toList args.toList ds p := hA0
  rw [Try.params10] at hA hval
  obtain ⟨v0, vs0, d0, ds0, p0, q0, hargs, rfl, rfl, h0, r0⟩ := trodAll_cons hA
  obtain ⟨v1, vs1, d1, ds1, p1, q1, rfl, rfl, rfl, h1, r1⟩ := trodAll_cons r0
  obtain ⟨v2, vs2, d2, ds2, p2, q2, rfl, rfl, rfl, h2, r2⟩ := trodAll_cons r1
  obtain ⟨v3, vs3, d3, ds3, p3, q3, rfl, rfl, rfl, h3, r3⟩ := trodAll_cons r2
  obtain ⟨v4, vs4, d4, ds4, p4, q4, rfl, rfl, rfl, h4, r4⟩ := trodAll_cons r3
  obtain ⟨rfl, rfl, rfl⟩ := trodAll_nil r4
  obtain rfl : args = #[v0, v1, v2, v3, v4] := by cases args; simp_all
  obtain ⟨rfl, rfl⟩ := trodVars_none hV
  obtain ⟨c0x0, c0x1, y0x0, y0x1, m0, rfl, rfl, rfl, hy0x0, hy0x1⟩ := open_agg2 Try.underlying27 (by kernel_rfl) (by kernel_rfl) (hval 0 27 v0 rfl rfl) h0
  obtain ⟨a0x0, e0x0, rfl, w0x0⟩ := DataW.trod_int Try.underlying3 hy0x0
  obtain ⟨a0x1, e0x1, rfl, w0x1⟩ := DataW.trod_int Try.underlying3 hy0x1
  simp only [List.cons.injEq, and_true] at e0x0 e0x1
  subst e0x0 e0x1
  obtain ⟨c1x0, c1x1, y1x0, y1x1, m1, rfl, rfl, rfl, hy1x0, hy1x1⟩ := open_agg2 Try.underlying27 (by kernel_rfl) (by kernel_rfl) (hval 1 27 v1 rfl rfl) h1
  obtain ⟨a1x0, e1x0, rfl, w1x0⟩ := DataW.trod_int Try.underlying3 hy1x0
  obtain ⟨a1x1, e1x1, rfl, w1x1⟩ := DataW.trod_int Try.underlying3 hy1x1
  simp only [List.cons.injEq, and_true] at e1x0 e1x1
  subst e1x0 e1x1
  obtain ⟨b2, l2, k2, rfl, m2, e2⟩ := open_recs (fun _ _ => hval 2 39 v2 rfl rfl) h2
  obtain ⟨a3, rfl, rfl, rfl, w3⟩ := open_int Try.underlying3 (hval 3 3 v3 rfl rfl) h3
  obtain ⟨a4, rfl, rfl, rfl, w4⟩ := open_int Try.underlying3 (hval 4 3 v4 rfl rfl) h4
  clear hA0 hval0
  have s0 := stays h0 (by kernel_rfl) (by kernel_rfl)
  have s1 := stays h1 (by kernel_rfl) (by kernel_rfl)
  have s3 := stays h3 (by kernel_rfl) (by kernel_rfl)
  have s4 := stays h4 (by kernel_rfl) (by kernel_rfl)
  refine (walk a0x0 a0x1 a1x0 a1x1 l2 b2 k2 m2 e2 a3 a4).mono fun e W' ⟨he, hg⟩ => ?_
  subst he
  have hlt := fun x hx => hW'.lt x hx
  exact ⟨_, rfl, post_of_below (pa := ([] ++ ([] ++ (p2 ++ ([] ++ ([] ++ [])))))) (pv := []) hW' (fun _ _ _ => (trodAll_cons_mk (shut_bool Try.underlying4 _) trodAll_mk0)) (fun sp hsp => (trodAll_cons_mk (s0 _ _) (trodAll_cons_mk (s1 _ _) (trodAll_cons_mk (staysB h2 (by kernel_rfl) (by kernel_rfl) hg hlt (fun x hx => by simp [hx]) sp hsp) (trodAll_cons_mk (s3 _ _) (trodAll_cons_mk (s4 _ _) trodAll_mk0)))))) (fun _ _ => rfl) rfl
    hg (ok_one (by kernel_rfl) rfl (okWide_bool_mk Try.underlying4 _))⟩

theorem over : Rows.tallyRatesRow.holds Try.pinned (OpenSpec.ofChange Rows.tallyRatesSpec) :=
  OpenClaim.holds_of_wide 10 Try.f10 rfl rfl rfl rfl rfl rfl rfl ⟨rfl, rfl, rfl, rfl, rfl⟩ rfl rfl rfl rfl rfl (by kernel_rfl) Try.func10 (by kernel_rfl)
    (of_decide_eq_true (by kernel_rfl)) (by unfold Func.isWrapper; first | (rw [if_pos (by decide +kernel)]; kernel_rfl) | (rw [if_neg (by decide +kernel)]; exact ⟨rfl, rfl⟩))
    (fun os started H enc _ => lifted os started H enc)

theorem proved : Rows.TallyRatesSaid :=
  over
end Go.Proofs.Ytokpjaodchcheaa.tallyRates
