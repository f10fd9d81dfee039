/- This text proves that the law TallyPassages holds: for every list of rates and list of tallies it returns true, and they read behind the call as they read before. -/
import Derived.Test.YtokpjaodchcheaaShut
import Derived.Test.YtokpjaodchcheaaRows
import Derived.Test.YtokpjaodchcheaaRPassage
import Derived.Test.YtokpjaodchcheaaCounted
import Derived.Test.YtokpjaodchcheaaOpen
namespace Go.Proofs.Ytokpjaodchcheaa.tallyPassages
open Go.ChangeShapes Go.WideShapes Go.ChangeAt Go.RowKit Go.Joins Go.Deep


set_option maxRecDepth 100000 in
set_option maxHeartbeats 8000000 in
theorem walk_skip1 {w : World} (R : List Rt) (a : Option Addr) (ca : Nat) (C : List Ct) (b : Option Addr) (cb : Nat) (h : 250 < R.length) :
    Calls Try.prog 12 #[.slice a R.length ca, .slice b C.length cb] w fun e w' => e = .returned (.bool true) ∧ Below w.heap.size w w' := by
  have h1 : (250 : Int) < (R.length : Int) := by omega
  go_enter Try.func12, Try.ntmps12
  go_wp2_with fail
  refine (via (w0 := w) (by go_grown) (c_counted _)).mono ?_
  rintro e W1 ⟨rfl, hc, hf, hz, hB⟩
  have hb0 := hB
  have hzW1 : w.heap.size ≤ W1.heap.size := hz
  clear hc hf hB hz
  go_wp2_with fail
  go_ret
  exact ⟨rfl, by have hbz := hb0.size; go_grown⟩

set_option maxRecDepth 100000 in
set_option maxHeartbeats 8000000 in
theorem walk_skip2 {w : World} (R : List Rt) (a : Option Addr) (ca : Nat) (C : List Ct) (b : Option Addr) (cb : Nat) (g : ¬ 250 < R.length) (h : 250 < C.length) :
    Calls Try.prog 12 #[.slice a R.length ca, .slice b C.length cb] w fun e w' => e = .returned (.bool true) ∧ Below w.heap.size w w' := by
  have h1 : ¬ (250 : Int) < (R.length : Int) := by omega
  have h2 : (250 : Int) < (C.length : Int) := by omega
  go_enter Try.func12, Try.ntmps12
  go_wp2_with fail
  refine (via (w0 := w) (by go_grown) (c_counted _)).mono ?_
  rintro e W1 ⟨rfl, hc, hf, hz, hB⟩
  have hb0 := hB
  have hzW1 : w.heap.size ≤ W1.heap.size := hz
  clear hc hf hB hz
  go_wp2_with fail
  go_ret
  exact ⟨rfl, by have hbz := hb0.size; go_grown⟩

set_option maxRecDepth 100000 in
set_option maxHeartbeats 8000000 in
theorem walk_skip3 {w : World} (R : List Rt) (a : Option Addr) (ca : Nat) (C : List Ct) (b : Option Addr) (cb : Nat) (f : ¬ 250 < R.length) (g : 40 < C.length) (h : C.length ≤ 200) :
    Calls Try.prog 12 #[.slice a R.length ca, .slice b C.length cb] w fun e w' => e = .returned (.bool true) ∧ Below w.heap.size w w' := by
  have h1 : ¬ (250 : Int) < (R.length : Int) := by omega
  have h2 : ¬ (250 : Int) < (C.length : Int) := by omega
  have h3 : (40 : Int) < (C.length : Int) := by omega
  have h4 : (C.length : Int) ≤ (200 : Int) := by omega
  go_enter Try.func12, Try.ntmps12
  go_wp2_with fail
  refine (via (w0 := w) (by go_grown) (c_counted _)).mono ?_
  rintro e W1 ⟨rfl, hc, hf, hz, hB⟩
  have hb0 := hB
  have hzW1 : w.heap.size ≤ W1.heap.size := hz
  clear hc hf hB hz
  go_wp2_with fail
  go_ret
  exact ⟨rfl, by have hbz := hb0.size; go_grown⟩

set_option maxRecDepth 100000 in
set_option maxHeartbeats 8000000 in
theorem walk_oka {w : World} (R : List Rt) (a : Option Addr) (ca : Nat) (C : List Ct) (b : Option Addr) (cb : Nat) (f : ¬ 250 < R.length) (g : ¬ 40 < C.length) (hR : Rts w a R) (hC : Cts w b C) :
    Calls Try.prog 12 #[.slice a R.length ca, .slice b C.length cb] w fun e w' => e = .returned (.bool true) ∧ Below w.heap.size w w' := by
  have h1 : ¬ (250 : Int) < (R.length : Int) := by omega
  have h2 : ¬ (250 : Int) < (C.length : Int) := by omega
  have h3 : ¬ (40 : Int) < (C.length : Int) := by omega
  have hA := fun W (hb : Below w.heap.size w W) => c_Passage R C a b ca cb W (hR.later hb) (hC.later hb)
  have hB := fun W (hb : Below w.heap.size w W) => c_rPassage R C a b ca cb W (hR.later hb) (hC.later hb)
  generalize passV R C = r at hA hB
  obtain ⟨⟨lo, hi, so⟩, pr, e⟩ := r
  have HA := Lib.hid hA
  have HB := Lib.hid hB
  clear hA hB hR hC
  go_enter Try.func12, Try.ntmps12
  go_upto_region 3 with (fail)
  go_wp2_with fail
  refine (HA.out _ (Below.refl _ _)).mono ?_
  rintro e W1 ⟨⟨bx, cx, rfl, hix⟩, hB⟩
  dsimp only at hix
  have hc := (bcell hB).1
  have hf := (bcell hB).2
  have Ix := Lib.hid hix
  have hbn := hB
  clear hix
  have hb0 := hbn
  clear hbn hc hf hB
  go_upto_region 4 with (fail)
  go_name_world W2 hW2
  have Ixn := Lib.hid (Ix.out.later (w1 := W2) (by subst hW2; go_grown))
  clear Ix
  have hbz := hb0.size
  have hbn : Below w.heap.size w W2 := by subst hW2; go_grown
  clear hb0 hbz
  have hb0 := hbn
  clear hbn
  have x0n : W2.cell? ⟨W1.heap.size, 0, none⟩ = some (.int .i64 lo) := by subst hW2; go_simp
  have x1n : W2.cell? ⟨W1.heap.size, 1, none⟩ = some (.int .i64 hi) := by subst hW2; go_simp
  have x2n : W2.cell? ⟨W1.heap.size, 2, none⟩ = some (.bool so) := by subst hW2; go_simp
  clear hW2 
  have x0 := x0n
  have x1 := x1n
  have x2 := x2n
  clear x0n x1n x2n 
  have Ix := Ixn
  clear Ixn
  go_wp2_with fail
  refine (HB.out _ hb0).mono ?_
  rintro e W3 ⟨⟨by_, cy, rfl, hiy⟩, hB⟩
  dsimp only at hiy
  have hc := (bcell hB).1
  have hf := (bcell hB).2
  have x0n : W3.cell? ⟨W1.heap.size, 0, none⟩ = some (.int .i64 lo) := (hc _ _ (cell_lt x0)).trans x0
  clear x0
  have x0 := x0n
  clear x0n
  have x1n : W3.cell? ⟨W1.heap.size, 1, none⟩ = some (.int .i64 hi) := (hc _ _ (cell_lt x1)).trans x1
  clear x1
  have x1 := x1n
  clear x1n
  have x2n : W3.cell? ⟨W1.heap.size, 2, none⟩ = some (.bool so) := (hc _ _ (cell_lt x2)).trans x2
  clear x2
  have x2 := x2n
  clear x2n
  have Ixn := Lib.hid (Ix.out.later hB)
  clear Ix
  have Ix := Ixn
  clear Ixn
  have Iy := Lib.hid hiy
  have hbn := bthen hb0 hB
  clear hb0 hiy
  have hb0 := hbn
  clear hbn hc hf hB
  go_upto_region 5 with (fail)
  go_name_world W4 hW4
  have Ixn := Lib.hid (Ix.out.later (w1 := W4) (by subst hW4; go_grown))
  have Iyn := Lib.hid (Iy.out.later (w1 := W4) (by subst hW4; go_grown))
  clear Ix Iy
  have hbz := hb0.size
  have hbn : Below w.heap.size w W4 := by subst hW4; go_grown
  clear hb0 hbz
  have hb0 := hbn
  clear hbn
  have hbk : Below W3.heap.size W3 W4 := by subst hW4; go_grown
  have x0n : W4.cell? ⟨W1.heap.size, 0, none⟩ = some (.int .i64 lo) := ((bcell hbk).1 _ _ (cell_lt x0)).trans x0
  have x1n : W4.cell? ⟨W1.heap.size, 1, none⟩ = some (.int .i64 hi) := ((bcell hbk).1 _ _ (cell_lt x1)).trans x1
  have x2n : W4.cell? ⟨W1.heap.size, 2, none⟩ = some (.bool so) := ((bcell hbk).1 _ _ (cell_lt x2)).trans x2
  clear hbk
  have y0n : W4.cell? ⟨W3.heap.size, 0, none⟩ = some (.int .i64 lo) := by subst hW4; go_simp
  have y1n : W4.cell? ⟨W3.heap.size, 1, none⟩ = some (.int .i64 hi) := by subst hW4; go_simp
  have y2n : W4.cell? ⟨W3.heap.size, 2, none⟩ = some (.bool so) := by subst hW4; go_simp
  clear hW4 x0 x1 x2
  have x0 := x0n
  have x1 := x1n
  have x2 := x2n
  have y0 := y0n
  have y1 := y1n
  have y2 := y2n
  clear x0n x1n x2n y0n y1n y2n 
  have Ix := Ixn
  have Iy := Iyn
  clear Ixn Iyn
  have hs1 : ∀ W, Below W4.heap.size W4 W → Calls Try.prog 49 #[.slice bx pr.length cx, .slice by_ pr.length cy] W fun e w' => e = .returned (.bool true) ∧ Below W.heap.size W w' := fun W hb => by
    have := c_SameInts pr pr bx by_ cx cy W (Ix.out.later hb) (Iy.out.later hb)
    simpa using this
  have HS1 := Lib.hid hs1
  clear hs1
  go_wp2_with fail
  refine (via (w0 := W4) (by go_grown) (c_counted _)).mono ?_
  rintro e W5 ⟨rfl, hc, hf, hz, hB⟩
  have x0n : W5.cell? ⟨W1.heap.size, 0, none⟩ = some (.int .i64 lo) := (hc _ _ (cell_lt x0)).trans x0
  clear x0
  have x0 := x0n
  clear x0n
  have x1n : W5.cell? ⟨W1.heap.size, 1, none⟩ = some (.int .i64 hi) := (hc _ _ (cell_lt x1)).trans x1
  clear x1
  have x1 := x1n
  clear x1n
  have x2n : W5.cell? ⟨W1.heap.size, 2, none⟩ = some (.bool so) := (hc _ _ (cell_lt x2)).trans x2
  clear x2
  have x2 := x2n
  clear x2n
  have y0n : W5.cell? ⟨W3.heap.size, 0, none⟩ = some (.int .i64 lo) := (hc _ _ (cell_lt y0)).trans y0
  clear y0
  have y0 := y0n
  clear y0n
  have y1n : W5.cell? ⟨W3.heap.size, 1, none⟩ = some (.int .i64 hi) := (hc _ _ (cell_lt y1)).trans y1
  clear y1
  have y1 := y1n
  clear y1n
  have y2n : W5.cell? ⟨W3.heap.size, 2, none⟩ = some (.bool so) := (hc _ _ (cell_lt y2)).trans y2
  clear y2
  have y2 := y2n
  clear y2n
  have hbn : Below w.heap.size w W5 := bthen hb0 hB
  clear hb0
  have hb0 := hbn
  clear hbn
  have hzW5 : W4.heap.size ≤ W5.heap.size := hz
  have hbs := hB
  clear hc hf hB hz
  go_wp2_with fail
  refine (HS1.out _ hbs).mono ?_
  rintro e W6 ⟨rfl, hB⟩
  have hbn := bthen hb0 hB
  clear hb0
  have hb0 := hbn
  clear hbn hB
  go_wp2_with fail
  go_ret
  exact ⟨rfl, by have hbz := hb0.size; go_grown⟩

set_option maxRecDepth 100000 in
set_option maxHeartbeats 8000000 in
theorem walk_okb {w : World} (R : List Rt) (a : Option Addr) (ca : Nat) (C : List Ct) (b : Option Addr) (cb : Nat) (f : ¬ 250 < R.length) (g : ¬ 250 < C.length) (h : ¬ C.length ≤ 200) (hR : Rts w a R) (hC : Cts w b C) :
    Calls Try.prog 12 #[.slice a R.length ca, .slice b C.length cb] w fun e w' => e = .returned (.bool true) ∧ Below w.heap.size w w' := by
  have h1 : ¬ (250 : Int) < (R.length : Int) := by omega
  have h2 : ¬ (250 : Int) < (C.length : Int) := by omega
  have h3 : (40 : Int) < (C.length : Int) := by omega
  have h4 : ¬ (C.length : Int) ≤ (200 : Int) := by omega
  have hA := fun W (hb : Below w.heap.size w W) => c_Passage R C a b ca cb W (hR.later hb) (hC.later hb)
  have hB := fun W (hb : Below w.heap.size w W) => c_rPassage R C a b ca cb W (hR.later hb) (hC.later hb)
  generalize passV R C = r at hA hB
  obtain ⟨⟨lo, hi, so⟩, pr, e⟩ := r
  have HA := Lib.hid hA
  have HB := Lib.hid hB
  clear hA hB hR hC
  go_enter Try.func12, Try.ntmps12
  go_upto_region 3 with (fail)
  go_wp2_with fail
  refine (HA.out _ (Below.refl _ _)).mono ?_
  rintro e W1 ⟨⟨bx, cx, rfl, hix⟩, hB⟩
  dsimp only at hix
  have hc := (bcell hB).1
  have hf := (bcell hB).2
  have Ix := Lib.hid hix
  have hbn := hB
  clear hix
  have hb0 := hbn
  clear hbn hc hf hB
  go_upto_region 4 with (fail)
  go_name_world W2 hW2
  have Ixn := Lib.hid (Ix.out.later (w1 := W2) (by subst hW2; go_grown))
  clear Ix
  have hbz := hb0.size
  have hbn : Below w.heap.size w W2 := by subst hW2; go_grown
  clear hb0 hbz
  have hb0 := hbn
  clear hbn
  have x0n : W2.cell? ⟨W1.heap.size, 0, none⟩ = some (.int .i64 lo) := by subst hW2; go_simp
  have x1n : W2.cell? ⟨W1.heap.size, 1, none⟩ = some (.int .i64 hi) := by subst hW2; go_simp
  have x2n : W2.cell? ⟨W1.heap.size, 2, none⟩ = some (.bool so) := by subst hW2; go_simp
  clear hW2 
  have x0 := x0n
  have x1 := x1n
  have x2 := x2n
  clear x0n x1n x2n 
  have Ix := Ixn
  clear Ixn
  go_wp2_with fail
  refine (HB.out _ hb0).mono ?_
  rintro e W3 ⟨⟨by_, cy, rfl, hiy⟩, hB⟩
  dsimp only at hiy
  have hc := (bcell hB).1
  have hf := (bcell hB).2
  have x0n : W3.cell? ⟨W1.heap.size, 0, none⟩ = some (.int .i64 lo) := (hc _ _ (cell_lt x0)).trans x0
  clear x0
  have x0 := x0n
  clear x0n
  have x1n : W3.cell? ⟨W1.heap.size, 1, none⟩ = some (.int .i64 hi) := (hc _ _ (cell_lt x1)).trans x1
  clear x1
  have x1 := x1n
  clear x1n
  have x2n : W3.cell? ⟨W1.heap.size, 2, none⟩ = some (.bool so) := (hc _ _ (cell_lt x2)).trans x2
  clear x2
  have x2 := x2n
  clear x2n
  have Ixn := Lib.hid (Ix.out.later hB)
  clear Ix
  have Ix := Ixn
  clear Ixn
  have Iy := Lib.hid hiy
  have hbn := bthen hb0 hB
  clear hb0 hiy
  have hb0 := hbn
  clear hbn hc hf hB
  go_upto_region 5 with (fail)
  go_name_world W4 hW4
  have Ixn := Lib.hid (Ix.out.later (w1 := W4) (by subst hW4; go_grown))
  have Iyn := Lib.hid (Iy.out.later (w1 := W4) (by subst hW4; go_grown))
  clear Ix Iy
  have hbz := hb0.size
  have hbn : Below w.heap.size w W4 := by subst hW4; go_grown
  clear hb0 hbz
  have hb0 := hbn
  clear hbn
  have hbk : Below W3.heap.size W3 W4 := by subst hW4; go_grown
  have x0n : W4.cell? ⟨W1.heap.size, 0, none⟩ = some (.int .i64 lo) := ((bcell hbk).1 _ _ (cell_lt x0)).trans x0
  have x1n : W4.cell? ⟨W1.heap.size, 1, none⟩ = some (.int .i64 hi) := ((bcell hbk).1 _ _ (cell_lt x1)).trans x1
  have x2n : W4.cell? ⟨W1.heap.size, 2, none⟩ = some (.bool so) := ((bcell hbk).1 _ _ (cell_lt x2)).trans x2
  clear hbk
  have y0n : W4.cell? ⟨W3.heap.size, 0, none⟩ = some (.int .i64 lo) := by subst hW4; go_simp
  have y1n : W4.cell? ⟨W3.heap.size, 1, none⟩ = some (.int .i64 hi) := by subst hW4; go_simp
  have y2n : W4.cell? ⟨W3.heap.size, 2, none⟩ = some (.bool so) := by subst hW4; go_simp
  clear hW4 x0 x1 x2
  have x0 := x0n
  have x1 := x1n
  have x2 := x2n
  have y0 := y0n
  have y1 := y1n
  have y2 := y2n
  clear x0n x1n x2n y0n y1n y2n 
  have Ix := Ixn
  have Iy := Iyn
  clear Ixn Iyn
  have hs1 : ∀ W, Below W4.heap.size W4 W → Calls Try.prog 49 #[.slice bx pr.length cx, .slice by_ pr.length cy] W fun e w' => e = .returned (.bool true) ∧ Below W.heap.size W w' := fun W hb => by
    have := c_SameInts pr pr bx by_ cx cy W (Ix.out.later hb) (Iy.out.later hb)
    simpa using this
  have HS1 := Lib.hid hs1
  clear hs1
  go_wp2_with fail
  refine (via (w0 := W4) (by go_grown) (c_counted _)).mono ?_
  rintro e W5 ⟨rfl, hc, hf, hz, hB⟩
  have x0n : W5.cell? ⟨W1.heap.size, 0, none⟩ = some (.int .i64 lo) := (hc _ _ (cell_lt x0)).trans x0
  clear x0
  have x0 := x0n
  clear x0n
  have x1n : W5.cell? ⟨W1.heap.size, 1, none⟩ = some (.int .i64 hi) := (hc _ _ (cell_lt x1)).trans x1
  clear x1
  have x1 := x1n
  clear x1n
  have x2n : W5.cell? ⟨W1.heap.size, 2, none⟩ = some (.bool so) := (hc _ _ (cell_lt x2)).trans x2
  clear x2
  have x2 := x2n
  clear x2n
  have y0n : W5.cell? ⟨W3.heap.size, 0, none⟩ = some (.int .i64 lo) := (hc _ _ (cell_lt y0)).trans y0
  clear y0
  have y0 := y0n
  clear y0n
  have y1n : W5.cell? ⟨W3.heap.size, 1, none⟩ = some (.int .i64 hi) := (hc _ _ (cell_lt y1)).trans y1
  clear y1
  have y1 := y1n
  clear y1n
  have y2n : W5.cell? ⟨W3.heap.size, 2, none⟩ = some (.bool so) := (hc _ _ (cell_lt y2)).trans y2
  clear y2
  have y2 := y2n
  clear y2n
  have hbn : Below w.heap.size w W5 := bthen hb0 hB
  clear hb0
  have hb0 := hbn
  clear hbn
  have hzW5 : W4.heap.size ≤ W5.heap.size := hz
  have hbs := hB
  clear hc hf hB hz
  go_wp2_with fail
  refine (HS1.out _ hbs).mono ?_
  rintro e W6 ⟨rfl, hB⟩
  have hbn := bthen hb0 hB
  clear hb0
  have hb0 := hbn
  clear hbn hB
  go_wp2_with fail
  go_ret
  exact ⟨rfl, by have hbz := hb0.size; go_grown⟩

theorem walk {w : World} (R : List Rt) (a : Option Addr) (ca : Nat) (_hmR : R.length ≤ maxLen) (hR : R.length ≤ 1000000000000 → Rts w a R) (C : List Ct) (b : Option Addr) (cb : Nat) (_hmC : C.length ≤ maxLen) (hC : C.length ≤ 1000000000000 → Cts w b C) :
    Calls Try.prog 12 #[.slice a R.length ca, .slice b C.length cb] w fun e w' => e = .returned (.bool true) ∧ Below w.heap.size w w' := by
  by_cases h1 : 250 < R.length
  · exact walk_skip1 R a ca C b cb h1
  by_cases h2 : 250 < C.length
  · exact walk_skip2 R a ca C b cb h1 h2
  by_cases h3 : 40 < C.length
  · by_cases h4 : C.length ≤ 200
    · exact walk_skip3 R a ca C b cb h1 h3 h4
    · exact walk_okb R a ca C b cb h1 h2 h4 (hR (by omega)) (hC (by omega))
  · exact walk_oka R a ca C b cb h1 h3 (hR (by omega)) (hC (by omega))


set_option maxRecDepth 100000 in
theorem lifted (os : Os) (started : os.Started) (H : Type) (enc : TypeId × Value → H) :
    ReturnsInHanded {} Try.checked os 12 .any (Rows.tallyPassagesSpec.pre6 enc Try.prog Try.f12 Rows.tallyPassagesRow.domain false) (Rows.tallyPassagesSpec.post enc Try.prog Try.f12 false true false false) := by
  refine returnsInHanded_of_change (C := Try.checked) own started (by kernel_rfl) Try.func12
    (ChangeSpec.witness6 (enc := enc) (C := Try.checked) false ⟨#[], #[.slice none 0 0, .slice none 0 0], []⟩ 8 (by kernel_rfl) (by kernel_rfl) (by kernel_rfl) (by kernel_rfl)) ?_
  intro W base args ds gs before hval0 hW _ _
  have hval : ∀ (j : Nat) t v, Try.f12.params[j]? = some t → args[j]? = some v → Value.okWide Try.prog W .any base t v := hval0
  have hW' := hW
  obtain ⟨p, q, hA0, hV, rfl, _, _⟩ := hW
  have hA : DataW.TrodAll enc Try.prog W 0 (fun _ => true) true Try.f12.params.toList args.toList ds p := hA0
  rw [Try.params12] at hA hval
  obtain ⟨v0, vs0, d0, ds0, p0, q0, hargs, rfl, rfl, h0, r0⟩ := trodAll_cons hA
  obtain ⟨v1, vs1, d1, ds1, p1, q1, rfl, rfl, rfl, h1, r1⟩ := trodAll_cons r0
  obtain ⟨rfl, rfl, rfl⟩ := trodAll_nil r1
  obtain rfl : args = #[v0, v1] := by cases args; simp_all
  obtain ⟨rfl, rfl⟩ := trodVars_none hV
  obtain ⟨b0, l0, k0, rfl, m0, e0⟩ := open_rts (fun _ _ => hval 0 67 v0 rfl rfl) h0
  obtain ⟨b1, l1, k1, rfl, m1, e1⟩ := open_cts (fun _ _ => hval 1 68 v1 rfl rfl) h1
  clear hA0 hval0
  refine (walk l0 b0 k0 m0 e0 l1 b1 k1 m1 e1).mono fun e W' ⟨he, hg⟩ => ?_
  subst he
  have hlt := fun x hx => hW'.lt x hx
  exact ⟨_, rfl, post_of_below (pa := (p0 ++ (p1 ++ []))) (pv := []) hW' (fun _ _ _ => (trodAll_cons_mk (shut_bool Try.underlying4 _) trodAll_mk0)) (fun sp hsp => (trodAll_cons_mk (staysB h0 (by kernel_rfl) (by kernel_rfl) hg hlt (fun x hx => by simp [hx]) sp hsp) (trodAll_cons_mk (staysB h1 (by kernel_rfl) (by kernel_rfl) hg hlt (fun x hx => by simp [hx]) sp hsp) trodAll_mk0))) (fun _ _ => rfl) rfl
    hg (ok_one (by kernel_rfl) rfl (okWide_bool_mk Try.underlying4 _))⟩

theorem over : Rows.tallyPassagesRow.holds Try.pinned (OpenSpec.ofChange Rows.tallyPassagesSpec) :=
  OpenClaim.holds_of_wide 12 Try.f12 rfl rfl rfl rfl rfl rfl rfl ⟨rfl, rfl, rfl, rfl, rfl⟩ rfl rfl rfl rfl rfl (by kernel_rfl) Try.func12 (by kernel_rfl)
    (of_decide_eq_true (by kernel_rfl)) (by unfold Func.isWrapper; first | (rw [if_pos (by decide +kernel)]; kernel_rfl) | (rw [if_neg (by decide +kernel)]; exact ⟨rfl, rfl⟩))
    (fun os started H enc _ => lifted os started H enc)

theorem proved : Rows.TallyPassagesSaid :=
  over
end Go.Proofs.Ytokpjaodchcheaa.tallyPassages
