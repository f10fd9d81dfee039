/- This text is a part of the proof: Read, WaysBase. -/
import Derived.Test.YtlppdgaogdpajaaGreatDoorK23
set_option maxRecDepth 100000
set_option maxHeartbeats 4000000
namespace Go.Proofs.YtlppdgaogdpajaaGreatDoor
open Go.RowKit Go.Shelf
attribute [local go_sem] Oper.semAt_some
def ReadP (m : Fm) (s : ByteArray) (px : Nat) (w5 W : World) : Prop := Kept (fun k => k = px) w5 W ∧ (readErr m.f s = 0 → ∀ x, meantO m.f (wordsB s) = some x → RpAt W px x)
theorem ReadP.kept {m : Fm} {s : ByteArray} {px g : Nat} {w5 W W' : World} (h : ReadP m s px w5 W) (hk : Kept (fun k => k = g) W W') (hg : w5.heap.size ≤ g) (hne : px ≠ g) : ReadP m s px w5 W' :=
 ⟨h.1.trans hk fun j hj e => by omega, fun h0 x hx j u hj => hk.cell hne (h.2 h0 x hx j u hj)⟩
theorem meant_of {f : Fe} {s : ByteArray} (h : readErr f s = 0) : ∃ x, meantO f (wordsB s) = some x := by
 unfold readErr at h
 split at h
 ·cases h
 ·exact ⟨_, by assumption⟩
theorem c_Read_no (m : Fm) (s : ByteArray) (w : World) (hm : m.In w) (_hl : LibW w) (_hs : s.size ≤ 1000000) (h : checkE m.f ≠ 0) :
  Calls Tryz.prog 46 #[m.v, .string s] w fun e w' => e = .returned (.tuple #[(readV m.f s).1.v, .int .i64 (readV m.f s).2]) ∧ Below w.heap.size w w' := by
 have hC := fun W (hb : Below w.heap.size w W) => c_CheckFell m W (hm.later hb)
 have hV : readV m.f s = (rpZ, checkE m.f) := by
  unfold readV
  rw [if_pos h]
 rw [hV]
 dsimp only
 obtain ⟨E, hE⟩ : ∃ E, checkE m.f = E := ⟨_, rfl⟩
 rw [hE] at h ⊢
 have hC2 := fun W hb => by have := hC W hb; rw [hE] at this; exact this
 have HC := Lib.hid hC2
 have ne : (E == 0) = false := beq_eq_false_iff_ne.2 h
 clear hC hC2 hE h hV hm
 go_enter Tryz.func46, Tryz.ntmps46
 go_upto_region 1 with (fail)
 go_name_world W1 hW1
 have hb0 : Below w.heap.size w W1 := by subst hW1; go_grown
 obtain ⟨q0, q1, q2, q3⟩ := (show QB m W1 w.heap.size from by subst hW1; and_intros <;> go_simp)
 have y0 : W1.cell? ⟨w.heap.size + 1 + 1, 0, none⟩ = some (.int .i64 0) := by subst hW1; go_simp
 have fy0 : W1.frozen? ⟨w.heap.size + 1 + 1, 0, none⟩ = false := by subst hW1; go_simp
 have y1 : W1.cell? ⟨w.heap.size + 1 + 1, 1, none⟩ = some (.int .i64 0) := by subst hW1; go_simp
 have fy1 : W1.frozen? ⟨w.heap.size + 1 + 1, 1, none⟩ = false := by subst hW1; go_simp
 have y2 : W1.cell? ⟨w.heap.size + 1 + 1, 2, none⟩ = some (.int .u8 0) := by subst hW1; go_simp
 have fy2 : W1.frozen? ⟨w.heap.size + 1 + 1, 2, none⟩ = false := by subst hW1; go_simp
 have y3 : W1.cell? ⟨w.heap.size + 1 + 1, 3, none⟩ = some (.int .i64 0) := by subst hW1; go_simp
 have fy3 : W1.frozen? ⟨w.heap.size + 1 + 1, 3, none⟩ = false := by subst hW1; go_simp
 have y4 : W1.cell? ⟨w.heap.size + 1 + 1, 4, none⟩ = some (.string ⟨#[]⟩) := by subst hW1; go_simp
 have fy4 : W1.frozen? ⟨w.heap.size + 1 + 1, 4, none⟩ = false := by subst hW1; go_simp
 have y5 : W1.cell? ⟨w.heap.size + 1 + 1, 5, none⟩ = some (.int .i64 0) := by subst hW1; go_simp
 have fy5 : W1.frozen? ⟨w.heap.size + 1 + 1, 5, none⟩ = false := by subst hW1; go_simp
 have y6 : W1.cell? ⟨w.heap.size + 1 + 1, 6, none⟩ = some (.int .i64 0) := by subst hW1; go_simp
 have fy6 : W1.frozen? ⟨w.heap.size + 1 + 1, 6, none⟩ = false := by subst hW1; go_simp
 have y7 : W1.cell? ⟨w.heap.size + 1 + 1, 7, none⟩ = some (.int .i64 0) := by subst hW1; go_simp
 have fy7 : W1.frozen? ⟨w.heap.size + 1 + 1, 7, none⟩ = false := by subst hW1; go_simp
 have y8 : W1.cell? ⟨w.heap.size + 1 + 1, 8, none⟩ = some (.int .i64 0) := by subst hW1; go_simp
 have fy8 : W1.frozen? ⟨w.heap.size + 1 + 1, 8, none⟩ = false := by subst hW1; go_simp
 have y9 : W1.cell? ⟨w.heap.size + 1 + 1, 9, none⟩ = some (.int .i64 0) := by subst hW1; go_simp
 have fy9 : W1.frozen? ⟨w.heap.size + 1 + 1, 9, none⟩ = false := by subst hW1; go_simp
 clear hW1 
 go_wp2_with fail
 refine (via (w0 := W1) (by go_grown) (HC.out _ hb0)).mono ?_
 rintro e W2 ⟨rfl, hc, hf, hz, hB⟩
 have zz := cy4 hc q0 q1 q2 q3
 clear q0 q1 q2 q3
 obtain ⟨q0, q1, q2, q3⟩ := zz
 replace fy0 := (hf _ _ (cell_lt y0)).trans fy0
 replace y0 := (hc _ _ (cell_lt y0)).trans y0
 replace fy1 := (hf _ _ (cell_lt y1)).trans fy1
 replace y1 := (hc _ _ (cell_lt y1)).trans y1
 replace fy2 := (hf _ _ (cell_lt y2)).trans fy2
 replace y2 := (hc _ _ (cell_lt y2)).trans y2
 replace fy3 := (hf _ _ (cell_lt y3)).trans fy3
 replace y3 := (hc _ _ (cell_lt y3)).trans y3
 replace fy4 := (hf _ _ (cell_lt y4)).trans fy4
 replace y4 := (hc _ _ (cell_lt y4)).trans y4
 replace fy5 := (hf _ _ (cell_lt y5)).trans fy5
 replace y5 := (hc _ _ (cell_lt y5)).trans y5
 replace fy6 := (hf _ _ (cell_lt y6)).trans fy6
 replace y6 := (hc _ _ (cell_lt y6)).trans y6
 replace fy7 := (hf _ _ (cell_lt y7)).trans fy7
 replace y7 := (hc _ _ (cell_lt y7)).trans y7
 replace fy8 := (hf _ _ (cell_lt y8)).trans fy8
 replace y8 := (hc _ _ (cell_lt y8)).trans y8
 replace fy9 := (hf _ _ (cell_lt y9)).trans fy9
 replace y9 := (hc _ _ (cell_lt y9)).trans y9
 replace hb0 : Below w.heap.size w W2 := bthen hb0 hB
 have hzW2 : W1.heap.size ≤ W2.heap.size := hz
 clear hc hf hB hz
 go_wp2
 refine bodyPost_ret (v := .tuple #[rpZ.v, .int .i64 E]) (by simp [results, Tryz.results46, go_sem, y0, y1, y2, y3, y4, y5, y6, y7, y8, y9, rpZ]) rfl ⟨rfl, by have hbz := hb0.size; go_grown⟩
theorem c_Read_bad (m : Fm) (s : ByteArray) (w : World) (hm : m.In w) (hl : LibW w) (hs : s.size ≤ 1000000) (h : checkE m.f = 0) (hr : ¬ readErr m.f s = 0) :
  Calls Tryz.prog 46 #[m.v, .string s] w fun e w' => e = .returned (.tuple #[(readV m.f s).1.v, .int .i64 (readV m.f s).2]) ∧ Below w.heap.size w w' := by
 have hC := fun W (hb : Below w.heap.size w W) => c_CheckFell m W (hm.later hb)
 have hV := readV_of m.f s h
 
 rw [if_neg hr] at hV
 rw [hV]
 dsimp only [Option.getD_some]
 
 have hC2 := fun W hb => by have := hC W hb; rw [h] at this; exact this
 have HC := Lib.hid hC2
 have HM := Lib.hid hm
 have HL := Lib.hid hl
 have HS := Lib.hid hs
 have HF := Lib.hid h
 have HR := Lib.hid hr
 clear hC hC2 h hV hm hl hs hr
 go_enter Tryz.func46, Tryz.ntmps46
 go_upto_region 1 with (fail)
 go_name_world W1 hW1
 have hb0 : Below w.heap.size w W1 := by subst hW1; go_grown
 obtain ⟨q0, q1, q2, q3⟩ := (show QB m W1 w.heap.size from by subst hW1; and_intros <;> go_simp)
 have s0 : W1.cell? ⟨w.heap.size + 1, 0, none⟩ = some (.string s) := by subst hW1; go_simp
 have y0 : W1.cell? ⟨w.heap.size + 1 + 1, 0, none⟩ = some (.int .i64 0) := by subst hW1; go_simp
 have fy0 : W1.frozen? ⟨w.heap.size + 1 + 1, 0, none⟩ = false := by subst hW1; go_simp
 have y1 : W1.cell? ⟨w.heap.size + 1 + 1, 1, none⟩ = some (.int .i64 0) := by subst hW1; go_simp
 have fy1 : W1.frozen? ⟨w.heap.size + 1 + 1, 1, none⟩ = false := by subst hW1; go_simp
 have y2 : W1.cell? ⟨w.heap.size + 1 + 1, 2, none⟩ = some (.int .u8 0) := by subst hW1; go_simp
 have fy2 : W1.frozen? ⟨w.heap.size + 1 + 1, 2, none⟩ = false := by subst hW1; go_simp
 have y3 : W1.cell? ⟨w.heap.size + 1 + 1, 3, none⟩ = some (.int .i64 0) := by subst hW1; go_simp
 have fy3 : W1.frozen? ⟨w.heap.size + 1 + 1, 3, none⟩ = false := by subst hW1; go_simp
 have y4 : W1.cell? ⟨w.heap.size + 1 + 1, 4, none⟩ = some (.string ⟨#[]⟩) := by subst hW1; go_simp
 have fy4 : W1.frozen? ⟨w.heap.size + 1 + 1, 4, none⟩ = false := by subst hW1; go_simp
 have y5 : W1.cell? ⟨w.heap.size + 1 + 1, 5, none⟩ = some (.int .i64 0) := by subst hW1; go_simp
 have fy5 : W1.frozen? ⟨w.heap.size + 1 + 1, 5, none⟩ = false := by subst hW1; go_simp
 have y6 : W1.cell? ⟨w.heap.size + 1 + 1, 6, none⟩ = some (.int .i64 0) := by subst hW1; go_simp
 have fy6 : W1.frozen? ⟨w.heap.size + 1 + 1, 6, none⟩ = false := by subst hW1; go_simp
 have y7 : W1.cell? ⟨w.heap.size + 1 + 1, 7, none⟩ = some (.int .i64 0) := by subst hW1; go_simp
 have fy7 : W1.frozen? ⟨w.heap.size + 1 + 1, 7, none⟩ = false := by subst hW1; go_simp
 have y8 : W1.cell? ⟨w.heap.size + 1 + 1, 8, none⟩ = some (.int .i64 0) := by subst hW1; go_simp
 have fy8 : W1.frozen? ⟨w.heap.size + 1 + 1, 8, none⟩ = false := by subst hW1; go_simp
 have y9 : W1.cell? ⟨w.heap.size + 1 + 1, 9, none⟩ = some (.int .i64 0) := by subst hW1; go_simp
 have fy9 : W1.frozen? ⟨w.heap.size + 1 + 1, 9, none⟩ = false := by subst hW1; go_simp
 clear hW1 
 go_wp2_with fail
 refine (via (w0 := W1) (by go_grown) (HC.out _ hb0)).mono ?_
 rintro e W2 ⟨rfl, hc, hf, hz, hB⟩
 have zz := cy5 hc q0 q1 q2 q3 s0
 clear q0 q1 q2 q3 s0
 obtain ⟨q0, q1, q2, q3, s0⟩ := zz
 replace fy0 := (hf _ _ (cell_lt y0)).trans fy0
 replace y0 := (hc _ _ (cell_lt y0)).trans y0
 replace fy1 := (hf _ _ (cell_lt y1)).trans fy1
 replace y1 := (hc _ _ (cell_lt y1)).trans y1
 replace fy2 := (hf _ _ (cell_lt y2)).trans fy2
 replace y2 := (hc _ _ (cell_lt y2)).trans y2
 replace fy3 := (hf _ _ (cell_lt y3)).trans fy3
 replace y3 := (hc _ _ (cell_lt y3)).trans y3
 replace fy4 := (hf _ _ (cell_lt y4)).trans fy4
 replace y4 := (hc _ _ (cell_lt y4)).trans y4
 replace fy5 := (hf _ _ (cell_lt y5)).trans fy5
 replace y5 := (hc _ _ (cell_lt y5)).trans y5
 replace fy6 := (hf _ _ (cell_lt y6)).trans fy6
 replace y6 := (hc _ _ (cell_lt y6)).trans y6
 replace fy7 := (hf _ _ (cell_lt y7)).trans fy7
 replace y7 := (hc _ _ (cell_lt y7)).trans y7
 replace fy8 := (hf _ _ (cell_lt y8)).trans fy8
 replace y8 := (hc _ _ (cell_lt y8)).trans y8
 replace fy9 := (hf _ _ (cell_lt y9)).trans fy9
 replace y9 := (hc _ _ (cell_lt y9)).trans y9
 replace hb0 : Below w.heap.size w W2 := bthen hb0 hB
 have hzW2 : W1.heap.size ≤ W2.heap.size := hz
 clear hc hf hB hz
 go_upto_region 5 with (fail)
 obtain ⟨px, hpx⟩ : ∃ p, W2.heap.size = p := ⟨_, rfl⟩
 have hxw : w.heap.size ≤ px := by have := hb0.size; omega
 have hpx3 : w.heap.size + 1 + 1 < px := by have := cell_lt y0; omega
 rw [hpx]
 go_name_world W3 hW3
 have hbz := hb0.size
 replace hb0 : Below w.heap.size w W3 := by subst hW3; go_grown
 clear hbz
 have hbk : Below W2.heap.size W2 W3 := by subst hW3; go_grown
 have zz := cl5 hbk q0 q1 q2 q3 s0
 clear q0 q1 q2 q3 s0
 obtain ⟨q0, q1, q2, q3, s0⟩ := zz
 replace fy0 := ((bcell hbk).2 _ _ (cell_lt y0)).trans fy0
 replace y0 := ((bcell hbk).1 _ _ (cell_lt y0)).trans y0
 replace fy1 := ((bcell hbk).2 _ _ (cell_lt y1)).trans fy1
 replace y1 := ((bcell hbk).1 _ _ (cell_lt y1)).trans y1
 replace fy2 := ((bcell hbk).2 _ _ (cell_lt y2)).trans fy2
 replace y2 := ((bcell hbk).1 _ _ (cell_lt y2)).trans y2
 replace fy3 := ((bcell hbk).2 _ _ (cell_lt y3)).trans fy3
 replace y3 := ((bcell hbk).1 _ _ (cell_lt y3)).trans y3
 replace fy4 := ((bcell hbk).2 _ _ (cell_lt y4)).trans fy4
 replace y4 := ((bcell hbk).1 _ _ (cell_lt y4)).trans y4
 replace fy5 := ((bcell hbk).2 _ _ (cell_lt y5)).trans fy5
 replace y5 := ((bcell hbk).1 _ _ (cell_lt y5)).trans y5
 replace fy6 := ((bcell hbk).2 _ _ (cell_lt y6)).trans fy6
 replace y6 := ((bcell hbk).1 _ _ (cell_lt y6)).trans y6
 replace fy7 := ((bcell hbk).2 _ _ (cell_lt y7)).trans fy7
 replace y7 := ((bcell hbk).1 _ _ (cell_lt y7)).trans y7
 replace fy8 := ((bcell hbk).2 _ _ (cell_lt y8)).trans fy8
 replace y8 := ((bcell hbk).1 _ _ (cell_lt y8)).trans y8
 replace fy9 := ((bcell hbk).2 _ _ (cell_lt y9)).trans fy9
 replace y9 := ((bcell hbk).1 _ _ (cell_lt y9)).trans y9
 clear hbk
 have x0 : W3.cell? ⟨px, 0, none⟩ = some (.int .i64 0) := by subst hW3; go_simp
 have fx0 : W3.frozen? ⟨px, 0, none⟩ = false := by subst hW3; go_simp
 have x1 : W3.cell? ⟨px, 1, none⟩ = some (.int .i64 0) := by subst hW3; go_simp
 have fx1 : W3.frozen? ⟨px, 1, none⟩ = false := by subst hW3; go_simp
 have x2 : W3.cell? ⟨px, 2, none⟩ = some (.int .u8 0) := by subst hW3; go_simp
 have fx2 : W3.frozen? ⟨px, 2, none⟩ = false := by subst hW3; go_simp
 have x3 : W3.cell? ⟨px, 3, none⟩ = some (.int .i64 0) := by subst hW3; go_simp
 have fx3 : W3.frozen? ⟨px, 3, none⟩ = false := by subst hW3; go_simp
 have x4 : W3.cell? ⟨px, 4, none⟩ = some (.string ⟨#[]⟩) := by subst hW3; go_simp
 have fx4 : W3.frozen? ⟨px, 4, none⟩ = false := by subst hW3; go_simp
 have x5 : W3.cell? ⟨px, 5, none⟩ = some (.int .i64 0) := by subst hW3; go_simp
 have fx5 : W3.frozen? ⟨px, 5, none⟩ = false := by subst hW3; go_simp
 have x6 : W3.cell? ⟨px, 6, none⟩ = some (.int .i64 0) := by subst hW3; go_simp
 have fx6 : W3.frozen? ⟨px, 6, none⟩ = false := by subst hW3; go_simp
 have x7 : W3.cell? ⟨px, 7, none⟩ = some (.int .i64 0) := by subst hW3; go_simp
 have fx7 : W3.frozen? ⟨px, 7, none⟩ = false := by subst hW3; go_simp
 have x8 : W3.cell? ⟨px, 8, none⟩ = some (.int .i64 0) := by subst hW3; go_simp
 have fx8 : W3.frozen? ⟨px, 8, none⟩ = false := by subst hW3; go_simp
 have x9 : W3.cell? ⟨px, 9, none⟩ = some (.int .i64 0) := by subst hW3; go_simp
 have fx9 : W3.frozen? ⟨px, 9, none⟩ = false := by subst hW3; go_simp
 clear hW3
 have hx0 := cell_lt x0
 have hB1 : Below w.heap.size w W3 := hb0
 go_wp2_with fail
 refine (c_tried_err 132 (enters_of Tryz.func132 (by kernel_rfl) rfl) _ (ReadP m s px W3) (fun k => k = px) (readErr m.f s) _ ?hF ?hO ?hP).mono ?_
 case hO => intro k e; rw [e]; exact hx0
 case hP => intro A B hk hp; exact hp.kept hk (Nat.le_refl _) (by omega)
 case hF =>
  intro A hA
  refine (c_ReadIn m s (w.heap.size + 1) px w.heap.size w A ⟨HL.out, HM.out, HF.out, HS.out, bthen hb0 hA, hxw, later_of hA s0, later_of hA q0, later_of hA q1, later_of hA q2, later_of hA q3, fun j u hj => later_of hA (?_ : W3.cell? ⟨px, j, none⟩ = some u), ?_, by omega, by omega⟩).mono ?_
  ·exact rpAt_of (x := rpZ) x0 x1 x2 x3 x4 x5 x6 x7 x8 x9 j u hj
  ·intro j hj
   have c := fun (v : Value) (h : W3.cell? ⟨px, j, none⟩ = some v) (f : W3.frozen? ⟨px, j, none⟩ = false) => later_off hA h f
   match j, hj with
   | 0, _ => exact c _ x0 fx0
   | 1, _ => exact c _ x1 fx1
   | 2, _ => exact c _ x2 fx2
   | 3, _ => exact c _ x3 fx3
   | 4, _ => exact c _ x4 fx4
   | 5, _ => exact c _ x5 fx5
   | 6, _ => exact c _ x6 fx6
   | 7, _ => exact c _ x7 fx7
   | 8, _ => exact c _ x8 fx8
   | 9, _ => exact c _ x9 fx9
  ·rintro e B ⟨he, hk, hb, hx⟩
   exact ⟨he.trans (endV_no HR.out), hk, (Kept.of_below (O := fun k => k = px) hA).trans hk (fun _ _ h => h), fun h0 x => hx x h0⟩
 rintro e W9 ⟨rfl, hp⟩
 have hbn := hb0.trans (hp.1.below hb0.size (fun k e => by rw [e]; exact hxw))
 have hne : ¬ w.heap.size + 1 + 1 = px := by omega
 have y0n := hp.1.cell hne y0
 have fy0n := (hp.1.frozen (cell_lt y0) hne).trans fy0
 clear y0 fy0
 have y0 := y0n
 have fy0 := fy0n
 clear y0n fy0n
 have y1n := hp.1.cell hne y1
 have fy1n := (hp.1.frozen (cell_lt y1) hne).trans fy1
 clear y1 fy1
 have y1 := y1n
 have fy1 := fy1n
 clear y1n fy1n
 have y2n := hp.1.cell hne y2
 have fy2n := (hp.1.frozen (cell_lt y2) hne).trans fy2
 clear y2 fy2
 have y2 := y2n
 have fy2 := fy2n
 clear y2n fy2n
 have y3n := hp.1.cell hne y3
 have fy3n := (hp.1.frozen (cell_lt y3) hne).trans fy3
 clear y3 fy3
 have y3 := y3n
 have fy3 := fy3n
 clear y3n fy3n
 have y4n := hp.1.cell hne y4
 have fy4n := (hp.1.frozen (cell_lt y4) hne).trans fy4
 clear y4 fy4
 have y4 := y4n
 have fy4 := fy4n
 clear y4n fy4n
 have y5n := hp.1.cell hne y5
 have fy5n := (hp.1.frozen (cell_lt y5) hne).trans fy5
 clear y5 fy5
 have y5 := y5n
 have fy5 := fy5n
 clear y5n fy5n
 have y6n := hp.1.cell hne y6
 have fy6n := (hp.1.frozen (cell_lt y6) hne).trans fy6
 clear y6 fy6
 have y6 := y6n
 have fy6 := fy6n
 clear y6n fy6n
 have y7n := hp.1.cell hne y7
 have fy7n := (hp.1.frozen (cell_lt y7) hne).trans fy7
 clear y7 fy7
 have y7 := y7n
 have fy7 := fy7n
 clear y7n fy7n
 have y8n := hp.1.cell hne y8
 have fy8n := (hp.1.frozen (cell_lt y8) hne).trans fy8
 clear y8 fy8
 have y8 := y8n
 have fy8 := fy8n
 clear y8n fy8n
 have y9n := hp.1.cell hne y9
 have fy9n := (hp.1.frozen (cell_lt y9) hne).trans fy9
 clear y9 fy9
 have y9 := y9n
 have fy9 := fy9n
 clear y9n fy9n
 clear x0 fx0 x1 fx1 x2 fx2 x3 fx3 x4 fx4 x5 fx5 x6 fx6 x7 fx7 x8 fx8 x9 fx9 q0 q1 q2 q3 s0
 clear hb0
 have hb0 := hbn
 clear hbn
 have hre : (readErr m.f s == 0) = false := beq_eq_false_iff_ne.2 HR.out
 clear hp
 go_wp2
 refine bodyPost_ret (v := .tuple #[rpZ.v, .int .i64 4]) (by simp [results, Tryz.results46, go_sem, y0, y1, y2, y3, y4, y5, y6, y7, y8, y9, rpZ]) rfl ⟨rfl, by have hbz := hb0.size; go_grown⟩
theorem c_Read_ok (m : Fm) (s : ByteArray) (w : World) (hm : m.In w) (hl : LibW w) (hs : s.size ≤ 1000000) (h : checkE m.f = 0) (hr : readErr m.f s = 0) :
  Calls Tryz.prog 46 #[m.v, .string s] w fun e w' => e = .returned (.tuple #[(readV m.f s).1.v, .int .i64 (readV m.f s).2]) ∧ Below w.heap.size w w' := by
 have hC := fun W (hb : Below w.heap.size w W) => c_CheckFell m W (hm.later hb)
 have hV := readV_of m.f s h
 obtain ⟨x, hx⟩ := meant_of hr
 rw [if_pos hr, hx] at hV
 rw [hV]
 dsimp only [Option.getD_some]
 have HX := Lib.hid hx
 have hC2 := fun W hb => by have := hC W hb; rw [h] at this; exact this
 have HC := Lib.hid hC2
 have HM := Lib.hid hm
 have HL := Lib.hid hl
 have HS := Lib.hid hs
 have HF := Lib.hid h
 have HR := Lib.hid hr
 clear hC hC2 h hV hm hl hs hr hx
 go_enter Tryz.func46, Tryz.ntmps46
 go_upto_region 1 with (fail)
 go_name_world W1 hW1
 have hb0 : Below w.heap.size w W1 := by subst hW1; go_grown
 obtain ⟨q0, q1, q2, q3⟩ := (show QB m W1 w.heap.size from by subst hW1; and_intros <;> go_simp)
 have s0 : W1.cell? ⟨w.heap.size + 1, 0, none⟩ = some (.string s) := by subst hW1; go_simp
 have y0 : W1.cell? ⟨w.heap.size + 1 + 1, 0, none⟩ = some (.int .i64 0) := by subst hW1; go_simp
 have fy0 : W1.frozen? ⟨w.heap.size + 1 + 1, 0, none⟩ = false := by subst hW1; go_simp
 have y1 : W1.cell? ⟨w.heap.size + 1 + 1, 1, none⟩ = some (.int .i64 0) := by subst hW1; go_simp
 have fy1 : W1.frozen? ⟨w.heap.size + 1 + 1, 1, none⟩ = false := by subst hW1; go_simp
 have y2 : W1.cell? ⟨w.heap.size + 1 + 1, 2, none⟩ = some (.int .u8 0) := by subst hW1; go_simp
 have fy2 : W1.frozen? ⟨w.heap.size + 1 + 1, 2, none⟩ = false := by subst hW1; go_simp
 have y3 : W1.cell? ⟨w.heap.size + 1 + 1, 3, none⟩ = some (.int .i64 0) := by subst hW1; go_simp
 have fy3 : W1.frozen? ⟨w.heap.size + 1 + 1, 3, none⟩ = false := by subst hW1; go_simp
 have y4 : W1.cell? ⟨w.heap.size + 1 + 1, 4, none⟩ = some (.string ⟨#[]⟩) := by subst hW1; go_simp
 have fy4 : W1.frozen? ⟨w.heap.size + 1 + 1, 4, none⟩ = false := by subst hW1; go_simp
 have y5 : W1.cell? ⟨w.heap.size + 1 + 1, 5, none⟩ = some (.int .i64 0) := by subst hW1; go_simp
 have fy5 : W1.frozen? ⟨w.heap.size + 1 + 1, 5, none⟩ = false := by subst hW1; go_simp
 have y6 : W1.cell? ⟨w.heap.size + 1 + 1, 6, none⟩ = some (.int .i64 0) := by subst hW1; go_simp
 have fy6 : W1.frozen? ⟨w.heap.size + 1 + 1, 6, none⟩ = false := by subst hW1; go_simp
 have y7 : W1.cell? ⟨w.heap.size + 1 + 1, 7, none⟩ = some (.int .i64 0) := by subst hW1; go_simp
 have fy7 : W1.frozen? ⟨w.heap.size + 1 + 1, 7, none⟩ = false := by subst hW1; go_simp
 have y8 : W1.cell? ⟨w.heap.size + 1 + 1, 8, none⟩ = some (.int .i64 0) := by subst hW1; go_simp
 have fy8 : W1.frozen? ⟨w.heap.size + 1 + 1, 8, none⟩ = false := by subst hW1; go_simp
 have y9 : W1.cell? ⟨w.heap.size + 1 + 1, 9, none⟩ = some (.int .i64 0) := by subst hW1; go_simp
 have fy9 : W1.frozen? ⟨w.heap.size + 1 + 1, 9, none⟩ = false := by subst hW1; go_simp
 clear hW1 
 go_wp2_with fail
 refine (via (w0 := W1) (by go_grown) (HC.out _ hb0)).mono ?_
 rintro e W2 ⟨rfl, hc, hf, hz, hB⟩
 have zz := cy5 hc q0 q1 q2 q3 s0
 clear q0 q1 q2 q3 s0
 obtain ⟨q0, q1, q2, q3, s0⟩ := zz
 replace fy0 := (hf _ _ (cell_lt y0)).trans fy0
 replace y0 := (hc _ _ (cell_lt y0)).trans y0
 replace fy1 := (hf _ _ (cell_lt y1)).trans fy1
 replace y1 := (hc _ _ (cell_lt y1)).trans y1
 replace fy2 := (hf _ _ (cell_lt y2)).trans fy2
 replace y2 := (hc _ _ (cell_lt y2)).trans y2
 replace fy3 := (hf _ _ (cell_lt y3)).trans fy3
 replace y3 := (hc _ _ (cell_lt y3)).trans y3
 replace fy4 := (hf _ _ (cell_lt y4)).trans fy4
 replace y4 := (hc _ _ (cell_lt y4)).trans y4
 replace fy5 := (hf _ _ (cell_lt y5)).trans fy5
 replace y5 := (hc _ _ (cell_lt y5)).trans y5
 replace fy6 := (hf _ _ (cell_lt y6)).trans fy6
 replace y6 := (hc _ _ (cell_lt y6)).trans y6
 replace fy7 := (hf _ _ (cell_lt y7)).trans fy7
 replace y7 := (hc _ _ (cell_lt y7)).trans y7
 replace fy8 := (hf _ _ (cell_lt y8)).trans fy8
 replace y8 := (hc _ _ (cell_lt y8)).trans y8
 replace fy9 := (hf _ _ (cell_lt y9)).trans fy9
 replace y9 := (hc _ _ (cell_lt y9)).trans y9
 replace hb0 : Below w.heap.size w W2 := bthen hb0 hB
 have hzW2 : W1.heap.size ≤ W2.heap.size := hz
 clear hc hf hB hz
 go_upto_region 5 with (fail)
 obtain ⟨px, hpx⟩ : ∃ p, W2.heap.size = p := ⟨_, rfl⟩
 have hxw : w.heap.size ≤ px := by have := hb0.size; omega
 have hpx3 : w.heap.size + 1 + 1 < px := by have := cell_lt y0; omega
 rw [hpx]
 go_name_world W3 hW3
 have hbz := hb0.size
 replace hb0 : Below w.heap.size w W3 := by subst hW3; go_grown
 clear hbz
 have hbk : Below W2.heap.size W2 W3 := by subst hW3; go_grown
 have zz := cl5 hbk q0 q1 q2 q3 s0
 clear q0 q1 q2 q3 s0
 obtain ⟨q0, q1, q2, q3, s0⟩ := zz
 replace fy0 := ((bcell hbk).2 _ _ (cell_lt y0)).trans fy0
 replace y0 := ((bcell hbk).1 _ _ (cell_lt y0)).trans y0
 replace fy1 := ((bcell hbk).2 _ _ (cell_lt y1)).trans fy1
 replace y1 := ((bcell hbk).1 _ _ (cell_lt y1)).trans y1
 replace fy2 := ((bcell hbk).2 _ _ (cell_lt y2)).trans fy2
 replace y2 := ((bcell hbk).1 _ _ (cell_lt y2)).trans y2
 replace fy3 := ((bcell hbk).2 _ _ (cell_lt y3)).trans fy3
 replace y3 := ((bcell hbk).1 _ _ (cell_lt y3)).trans y3
 replace fy4 := ((bcell hbk).2 _ _ (cell_lt y4)).trans fy4
 replace y4 := ((bcell hbk).1 _ _ (cell_lt y4)).trans y4
 replace fy5 := ((bcell hbk).2 _ _ (cell_lt y5)).trans fy5
 replace y5 := ((bcell hbk).1 _ _ (cell_lt y5)).trans y5
 replace fy6 := ((bcell hbk).2 _ _ (cell_lt y6)).trans fy6
 replace y6 := ((bcell hbk).1 _ _ (cell_lt y6)).trans y6
 replace fy7 := ((bcell hbk).2 _ _ (cell_lt y7)).trans fy7
 replace y7 := ((bcell hbk).1 _ _ (cell_lt y7)).trans y7
 replace fy8 := ((bcell hbk).2 _ _ (cell_lt y8)).trans fy8
 replace y8 := ((bcell hbk).1 _ _ (cell_lt y8)).trans y8
 replace fy9 := ((bcell hbk).2 _ _ (cell_lt y9)).trans fy9
 replace y9 := ((bcell hbk).1 _ _ (cell_lt y9)).trans y9
 clear hbk
 have x0 : W3.cell? ⟨px, 0, none⟩ = some (.int .i64 0) := by subst hW3; go_simp
 have fx0 : W3.frozen? ⟨px, 0, none⟩ = false := by subst hW3; go_simp
 have x1 : W3.cell? ⟨px, 1, none⟩ = some (.int .i64 0) := by subst hW3; go_simp
 have fx1 : W3.frozen? ⟨px, 1, none⟩ = false := by subst hW3; go_simp
 have x2 : W3.cell? ⟨px, 2, none⟩ = some (.int .u8 0) := by subst hW3; go_simp
 have fx2 : W3.frozen? ⟨px, 2, none⟩ = false := by subst hW3; go_simp
 have x3 : W3.cell? ⟨px, 3, none⟩ = some (.int .i64 0) := by subst hW3; go_simp
 have fx3 : W3.frozen? ⟨px, 3, none⟩ = false := by subst hW3; go_simp
 have x4 : W3.cell? ⟨px, 4, none⟩ = some (.string ⟨#[]⟩) := by subst hW3; go_simp
 have fx4 : W3.frozen? ⟨px, 4, none⟩ = false := by subst hW3; go_simp
 have x5 : W3.cell? ⟨px, 5, none⟩ = some (.int .i64 0) := by subst hW3; go_simp
 have fx5 : W3.frozen? ⟨px, 5, none⟩ = false := by subst hW3; go_simp
 have x6 : W3.cell? ⟨px, 6, none⟩ = some (.int .i64 0) := by subst hW3; go_simp
 have fx6 : W3.frozen? ⟨px, 6, none⟩ = false := by subst hW3; go_simp
 have x7 : W3.cell? ⟨px, 7, none⟩ = some (.int .i64 0) := by subst hW3; go_simp
 have fx7 : W3.frozen? ⟨px, 7, none⟩ = false := by subst hW3; go_simp
 have x8 : W3.cell? ⟨px, 8, none⟩ = some (.int .i64 0) := by subst hW3; go_simp
 have fx8 : W3.frozen? ⟨px, 8, none⟩ = false := by subst hW3; go_simp
 have x9 : W3.cell? ⟨px, 9, none⟩ = some (.int .i64 0) := by subst hW3; go_simp
 have fx9 : W3.frozen? ⟨px, 9, none⟩ = false := by subst hW3; go_simp
 clear hW3
 have hx0 := cell_lt x0
 have hB1 : Below w.heap.size w W3 := hb0
 go_wp2_with fail
 refine (c_tried_ok 132 (enters_of Tryz.func132 (by kernel_rfl) rfl) _ (ReadP m s px W3) (fun k => k = px) _ ?hF ?hO ?hP).mono ?_
 case hO => intro k e; rw [e]; exact hx0
 case hP => intro A B hk hp; exact hp.kept hk (Nat.le_refl _) (by omega)
 case hF =>
  intro A hA
  refine (c_ReadIn m s (w.heap.size + 1) px w.heap.size w A ⟨HL.out, HM.out, HF.out, HS.out, bthen hb0 hA, hxw, later_of hA s0, later_of hA q0, later_of hA q1, later_of hA q2, later_of hA q3, fun j u hj => later_of hA (?_ : W3.cell? ⟨px, j, none⟩ = some u), ?_, by omega, by omega⟩).mono ?_
  ·exact rpAt_of (x := rpZ) x0 x1 x2 x3 x4 x5 x6 x7 x8 x9 j u hj
  ·intro j hj
   have c := fun (v : Value) (h : W3.cell? ⟨px, j, none⟩ = some v) (f : W3.frozen? ⟨px, j, none⟩ = false) => later_off hA h f
   match j, hj with
   | 0, _ => exact c _ x0 fx0
   | 1, _ => exact c _ x1 fx1
   | 2, _ => exact c _ x2 fx2
   | 3, _ => exact c _ x3 fx3
   | 4, _ => exact c _ x4 fx4
   | 5, _ => exact c _ x5 fx5
   | 6, _ => exact c _ x6 fx6
   | 7, _ => exact c _ x7 fx7
   | 8, _ => exact c _ x8 fx8
   | 9, _ => exact c _ x9 fx9
  ·rintro e B ⟨he, hk, hb, hx⟩
   exact ⟨by rw [he, HR.out]; rfl, hk, (Kept.of_below (O := fun k => k = px) hA).trans hk (fun _ _ h => h), fun h0 x => hx x h0⟩
 rintro e W9 ⟨rfl, hp⟩
 have hbn := hb0.trans (hp.1.below hb0.size (fun k e => by rw [e]; exact hxw))
 have hne : ¬ w.heap.size + 1 + 1 = px := by omega
 have y0n := hp.1.cell hne y0
 have fy0n := (hp.1.frozen (cell_lt y0) hne).trans fy0
 clear y0 fy0
 have y0 := y0n
 have fy0 := fy0n
 clear y0n fy0n
 have y1n := hp.1.cell hne y1
 have fy1n := (hp.1.frozen (cell_lt y1) hne).trans fy1
 clear y1 fy1
 have y1 := y1n
 have fy1 := fy1n
 clear y1n fy1n
 have y2n := hp.1.cell hne y2
 have fy2n := (hp.1.frozen (cell_lt y2) hne).trans fy2
 clear y2 fy2
 have y2 := y2n
 have fy2 := fy2n
 clear y2n fy2n
 have y3n := hp.1.cell hne y3
 have fy3n := (hp.1.frozen (cell_lt y3) hne).trans fy3
 clear y3 fy3
 have y3 := y3n
 have fy3 := fy3n
 clear y3n fy3n
 have y4n := hp.1.cell hne y4
 have fy4n := (hp.1.frozen (cell_lt y4) hne).trans fy4
 clear y4 fy4
 have y4 := y4n
 have fy4 := fy4n
 clear y4n fy4n
 have y5n := hp.1.cell hne y5
 have fy5n := (hp.1.frozen (cell_lt y5) hne).trans fy5
 clear y5 fy5
 have y5 := y5n
 have fy5 := fy5n
 clear y5n fy5n
 have y6n := hp.1.cell hne y6
 have fy6n := (hp.1.frozen (cell_lt y6) hne).trans fy6
 clear y6 fy6
 have y6 := y6n
 have fy6 := fy6n
 clear y6n fy6n
 have y7n := hp.1.cell hne y7
 have fy7n := (hp.1.frozen (cell_lt y7) hne).trans fy7
 clear y7 fy7
 have y7 := y7n
 have fy7 := fy7n
 clear y7n fy7n
 have y8n := hp.1.cell hne y8
 have fy8n := (hp.1.frozen (cell_lt y8) hne).trans fy8
 clear y8 fy8
 have y8 := y8n
 have fy8 := fy8n
 clear y8n fy8n
 have y9n := hp.1.cell hne y9
 have fy9n := (hp.1.frozen (cell_lt y9) hne).trans fy9
 clear y9 fy9
 have y9 := y9n
 have fy9 := fy9n
 clear y9n fy9n
 clear x0 fx0 x1 fx1 x2 fx2 x3 fx3 x4 fx4 x5 fx5 x6 fx6 x7 fx7 x8 fx8 x9 fx9 q0 q1 q2 q3 s0
 clear hb0
 have hb0 := hbn
 clear hbn
 have hxs := hp.2 HR.out x HX.out
 have x0 : W9.cell? ⟨px, 0, none⟩ = some (.int .i64 x.id) := hxs 0 _ rfl
 have x1 : W9.cell? ⟨px, 1, none⟩ = some (.int .i64 x.known) := hxs 1 _ rfl
 have x2 : W9.cell? ⟨px, 2, none⟩ = some (.int .u8 x.kind) := hxs 2 _ rfl
 have x3 : W9.cell? ⟨px, 3, none⟩ = some (.int .i64 x.owner) := hxs 3 _ rfl
 have x4 : W9.cell? ⟨px, 4, none⟩ = some (.string x.sort) := hxs 4 _ rfl
 have x5 : W9.cell? ⟨px, 5, none⟩ = some (.int .i64 x.plc) := hxs 5 _ rfl
 have x6 : W9.cell? ⟨px, 6, none⟩ = some (.int .i64 x.tick) := hxs 6 _ rfl
 have x7 : W9.cell? ⟨px, 7, none⟩ = some (.int .i64 x.low) := hxs 7 _ rfl
 have x8 : W9.cell? ⟨px, 8, none⟩ = some (.int .i64 x.high) := hxs 8 _ rfl
 have x9 : W9.cell? ⟨px, 9, none⟩ = some (.int .i64 x.void) := hxs 9 _ rfl
 clear hp hxs
 go_wp2
 refine bodyPost_ret (v := .tuple #[x.v, .int .i64 0]) (by simp [results, Tryz.results46, go_sem, y0, y1, y2, y3, y4, y5, y6, y7, y8, y9]) rfl ⟨rfl, by have hbz := hb0.size; go_grown⟩
theorem c_Read (m : Fm) (s : ByteArray) (w : World) (hm : m.In w) (hl : LibW w) (hs : s.size ≤ 1000000) :
  Calls Tryz.prog 46 #[m.v, .string s] w fun e w' => e = .returned (.tuple #[(readV m.f s).1.v, .int .i64 (readV m.f s).2]) ∧ Below w.heap.size w w' := by
 by_cases h : checkE m.f = 0
 ·by_cases hr : readErr m.f s = 0
  ·exact c_Read_ok m s w hm hl hs h hr
  ·exact c_Read_bad m s w hm hl hs h hr
 ·exact c_Read_no m s w hm hl hs h
theorem slice_tail (g off n cap : Nat) (h : n + 1 ≤ cap) (hc : cap ≤ maxLen) (W : World) :
  (Instr.slice 75 (.slice (some ⟨g, off, none⟩) (n + 1) cap) (some (.int .i64 1)) none none).run Tryz.prog W = .ok (.slice (some ⟨g, if cap = 1 then off else off + 1, none⟩) n (cap - 1)) W := by
 have hm : cap ≤ 9223372036854775807 := by unfold maxLen at hc; omega
 by_cases h1 : cap = 1
 ·subst h1
  obtain rfl : n = 0 := by omega
  go_simp
 ·rw [if_neg h1]
  go_simp
  intro hh
  omega
theorem atInsert {P : Program} {ops rest : List Oper} {Q : Exit → Act → World → Prop} {dst : Option Tmp} {t ty : TypeId} {m k v : Operand} {pos : String} {af : Array Edge} {gd : Option (Nat × Bool)} {a : Act} {w : World}
  (h : wpList P ops.toArray Q ({ dst := dst, op := Op.insert t m k v, type := ty, pos := pos, after := af, guard := gd } :: rest) a w) : wpList P ops.toArray Q ({ dst := dst, op := Op.insert t m k v, type := ty, pos := pos, after := af, guard := gd } :: rest) a w := h
theorem RowQ.pop {W : World} {base : Nat} {v : Value} {p : Int} {r : List Int} (h : RowQ W base v (p :: r)) : ∃ g off cap, v = .slice (some ⟨g, off, none⟩) (r.length + 1) cap ∧ W.cell? ⟨g, off, none⟩ = some (.int .i64 p) ∧ (r.length + 1 ≤ cap ∧ cap ≤ maxLen) ∧ base ≤ g ∧
  RowQ W base (.slice (some ⟨g, if cap = 1 then off else off + 1, none⟩) r.length (cap - 1)) r := by
 obtain ⟨g, off, cap, e1, e2, e3, cur, e4, e5, e6⟩ := h
 have h3 : r.length + 1 ≤ cap := by simpa using e3.1
 have h4 := e3.2
 refine ⟨g, off, cap, by simpa using e1, ?_, ⟨h3, h4⟩, e2, ⟨g, _, cap - 1, rfl, e2, ⟨by omega, by omega⟩, cur, e4, ?_, fun i x hx => ?_⟩⟩
 ·have := e6 0 p rfl
  simpa [World.cell?, e4] using this
 ·split <;> omega
 ·have hi := (List.getElem?_eq_some_iff.1 hx).1
  rw [if_neg (by omega), Nat.add_assoc, Nat.add_comm 1 i]
  exact e6 (i + 1) x (by simpa using hx)
theorem RowQ.push {W : World} {base : Nat} {v : Value} {l : List Int} {ops : Array Oper} {rest : List Oper} {o : Oper} {a : Act} {Q : Exit → Act → World → Prop} (h : RowQ W base v l) (hl : l.length ≤ 1000) (hbase : base ≤ W.heap.size)
  (hg : o.guard = none) (s x : Operand) (hop : o.op = Op.call { callee := Callee.builtin Builtin.append, args := #[s, x], argTypes := #[75, 75] }) (hs : a.eval s = v) (ad : Addr) (c : Nat) (q : Int) (hx : a.eval x = .slice (some ad) 1 c)
  (hc : ∀ (j : Nat) u, [Value.int .i64 q][j]? = some u → W.cell? (ad.add j) = some u) {i : TypeInfo} (hi0 : Tryz.prog.info? 3 = some i) (hz0 : i.zero = some (.int .i64 0)) (hz1 : i.size = 1) (hz2 : i.bytes = 8)
  (hK : ∀ v' W', RowQ W' base v' (l ++ [q]) → Kept (fun k => v.ownBlock = some k) W W' → (v'.ownBlock = v.ownBlock ∨ ∃ g', v'.ownBlock = some g' ∧ W.heap.size ≤ g') → wpList Tryz.prog ops Q rest (a.put o.dst v') W') :
  wpList Tryz.prog ops Q (o :: rest) a W := by
 obtain ⟨g, off, cap, e1, e2, e3, cur, e4, e5, e6⟩ := h
 subst e1
 refine wpList_append_arg W hg s x 75 hop 3 i _ 1 8 Tryz.underlying75 hi0 hz0 hz1 hz2 rfl (by decide) g off l.length cap (l.map fun n => .int .i64 n) hs (by simp) (fun j u hj => ?_) ad 1 c [.int .i64 q] hx rfl hc (by simp [Value.oneCell']) (fun hr j hj => ?_) (by unfold maxLen; omega) (by omega) (fun hr => ?_) (fun hr v' w' hown hgr => ?_)
 ·rw [List.getElem?_map] at hj
  cases hlj : l[j]? with
  | none => rw [hlj] at hj; simp at hj
  | some y =>
   rw [hlj] at hj
   cases hj
   have := e6 j y hlj
   simpa [World.cell?, e4] using this
 ·have h0 : j = 0 := by simpa using hj
  subst h0
  rw [Nat.mul_one, Nat.add_zero]
  refine ⟨?_, by simp [World.frozen?, e4]⟩
  simp only [World.cell?, e4]
  simp
  omega
 ·refine hK _ _ ?_ ?_ (.inl rfl)
  ·have hh : (W.setCells g (off + l.length * 1) [.int .i64 q]).heap[g]? = some (.cells (cur.setIfInBounds (off + l.length) (.int .i64 q)) 3 (0, 0)) := by
    rw [Nat.mul_one]
    exact heap_setCell_same W g (off + l.length) cur 3 (.int .i64 q) e4
   refine ⟨g, off, cap, by simp, e2, ⟨by simpa using hr, e3.2⟩, _, hh, by simpa using e5, fun k y hk => ?_⟩
   rw [Array.getElem?_setIfInBounds]
   by_cases e : off + l.length = off + k
   ·obtain rfl : k = l.length := by omega
    rw [if_pos rfl, if_pos (by omega)]
    rw [List.getElem?_append_right (Nat.le_refl _), Nat.sub_self] at hk
    cases hk
    rfl
   ·rw [if_neg e]
    have hk2 := (List.getElem?_eq_some_iff.1 hk).1
    rw [List.length_append, List.length_singleton] at hk2
    rw [List.getElem?_append_left (by omega)] at hk
    exact e6 k y hk
  ·exact Kept.setCell (p := ⟨g, off + l.length * 1, none⟩) (Kept.refl (fun k => (Value.slice (some ⟨g, off, none⟩) l.length cap).ownBlock = some k) W) (.inl rfl) _
 ·obtain ⟨g', cap', rfl⟩ : ∃ g' cap', v' = .slice (some ⟨g', 0, none⟩) (l.length + 1) cap' := by
   rcases hown.2 with ⟨_, h0⟩ | ⟨g', cap', cur', rfl, _⟩
   ·omega
   ·exact ⟨g', cap', rfl⟩
  have hlt := hown.lt g' rfl
  refine hK _ _ ?_ ((kept_of_grown hgr).wider (fun _ _ h => by cases h)) (.inr ⟨g', rfl, hlt.1⟩)
  have h9 : w'.ownsRow base 3 1 (.slice (some ⟨g', 0, none⟩) (l ++ [q]).length cap') (l ++ [q]).length (cellsL numC (l ++ [q])) := by
   rw [List.length_append, cellsL_num, List.map_append]
   exact ownsRow_base hown hbase
  have h10 := RowQ.own h9 (by simp)
  simpa using h10
end Go.Proofs.YtlppdgaogdpajaaGreatDoor
