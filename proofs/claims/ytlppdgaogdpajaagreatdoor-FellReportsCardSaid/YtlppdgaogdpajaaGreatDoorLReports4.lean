/- This text is a part of the proof: PFReports. -/
import Derived.Test.YtlppdgaogdpajaaGreatDoorLReports3
namespace Go.Proofs.YtlppdgaogdpajaaGreatDoor.fellReports
open Go.ChangeShapes Go.WideShapes Go.ChangeAt Go.RowKit Go.Joins Go.Deep
open Go.ChangeMaps (open_string shut_string)
set_option maxRecDepth 100000 in
set_option maxHeartbeats 8000000 in
theorem walk_s (m : Fm) (l : List Rp) (a : Option Addr) (cap : Nat) (x : Rp) {w : World} (hm : m.Arg w) (hs : shortV m.f = false) (hL : LibW w) :
  Calls Tryz.prog 4 #[m.v, .slice a l.length cap, x.v] w fun e w' => e = .returned (.bool true) ∧ Below w.heap.size w w' := by
 have hS := fun W (hb : Below w.heap.size w W) => c_Short m W (hm.later hb)
 rw [hs] at hS
 have HS := Lib.hid hS
 have HL := Lib.hid hL
 clear hS hL hm
 go_enter Tryz.func4, Tryz.ntmps4
 go_upto_region 1 with (fail)
 go_name_world W1 hW1
 have hb0 : Below w.heap.size w W1 := by subst hW1; go_grown
 obtain ⟨q0, q1, q2, q3⟩ := (show QB m W1 w.heap.size from by subst hW1; refine ⟨?_, ?_, ?_, ?_⟩ <;> go_simp)
 obtain ⟨r0, r1, r2, r3, r4, r5, r6, r7, r8, r9⟩ := (show RC x W1 ((w.heap.size + 1)) from by subst hW1; refine ⟨?_, ?_, ?_, ?_, ?_, ?_, ?_, ?_, ?_, ?_⟩ <;> go_simp)
 clear hW1 
 go_wp2_with fail
 refine (HS.out _ hb0).mono ?_
 rintro E W2 ⟨rfl, hB⟩
 have hc := (bcell hB).1
 have zz := cy14 hc q0 q1 q2 q3 r0 r1 r2 r3 r4 r5 r6 r7 r8 r9
 clear q0 q1 q2 q3 r0 r1 r2 r3 r4 r5 r6 r7 r8 r9
 obtain ⟨q0, q1, q2, q3, r0, r1, r2, r3, r4, r5, r6, r7, r8, r9⟩ := zz
 replace hb0 := bthen hb0 hB
 clear hc hB
 go_wp2_with fail
 refine (c_alive _ (HL.out.later hb0)).mono ?_
 rintro E W3 ⟨rfl, hB⟩
 have hc := (bcell hB).1
 have zz := cy14 hc q0 q1 q2 q3 r0 r1 r2 r3 r4 r5 r6 r7 r8 r9
 clear q0 q1 q2 q3 r0 r1 r2 r3 r4 r5 r6 r7 r8 r9
 obtain ⟨q0, q1, q2, q3, r0, r1, r2, r3, r4, r5, r6, r7, r8, r9⟩ := zz
 replace hb0 := bthen hb0 hB
 clear hc hB
 go_wp2
 go_ret
 exact ⟨rfl, hb0⟩
set_option maxRecDepth 100000 in
set_option maxHeartbeats 8000000 in
theorem walk_f (m : Fm) (l : List Rp) (a : Option Addr) (cap : Nat) (x : Rp) {w : World} (hm : m.Arg w) (hl : SlArg rpC 10 RpW w l a cap) (hs : shortV m.f = true) (hf : fewV l 305 = false) (hL : LibW w) :
  Calls Tryz.prog 4 #[m.v, .slice a l.length cap, x.v] w fun e w' => e = .returned (.bool true) ∧ Below w.heap.size w w' := by
 have hS := fun W (hb : Below w.heap.size w W) => c_Short m W (hm.later hb)
 rw [hs] at hS
 have HS := Lib.hid hS
 have HL := Lib.hid hL
 have hF := fun W (hb : Below w.heap.size w W) => c_Few l a cap 305 W (slarg_later hl hb) (by decide)
 rw [hf] at hF
 have HF := Lib.hid hF
 clear hF
 clear hS hL hm hl
 go_enter Tryz.func4, Tryz.ntmps4
 go_upto_region 1 with (fail)
 go_name_world W1 hW1
 have hb0 : Below w.heap.size w W1 := by subst hW1; go_grown
 obtain ⟨q0, q1, q2, q3⟩ := (show QB m W1 w.heap.size from by subst hW1; refine ⟨?_, ?_, ?_, ?_⟩ <;> go_simp)
 obtain ⟨r0, r1, r2, r3, r4, r5, r6, r7, r8, r9⟩ := (show RC x W1 ((w.heap.size + 1)) from by subst hW1; refine ⟨?_, ?_, ?_, ?_, ?_, ?_, ?_, ?_, ?_, ?_⟩ <;> go_simp)
 clear hW1 
 go_wp2_with fail
 refine (HS.out _ hb0).mono ?_
 rintro E W2 ⟨rfl, hB⟩
 have hc := (bcell hB).1
 have zz := cy14 hc q0 q1 q2 q3 r0 r1 r2 r3 r4 r5 r6 r7 r8 r9
 clear q0 q1 q2 q3 r0 r1 r2 r3 r4 r5 r6 r7 r8 r9
 obtain ⟨q0, q1, q2, q3, r0, r1, r2, r3, r4, r5, r6, r7, r8, r9⟩ := zz
 replace hb0 := bthen hb0 hB
 clear hc hB
 go_wp2_with fail
 refine (HF.out _ hb0).mono ?_
 rintro E W3 ⟨rfl, hB⟩
 have hc := (bcell hB).1
 have zz := cy14 hc q0 q1 q2 q3 r0 r1 r2 r3 r4 r5 r6 r7 r8 r9
 clear q0 q1 q2 q3 r0 r1 r2 r3 r4 r5 r6 r7 r8 r9
 obtain ⟨q0, q1, q2, q3, r0, r1, r2, r3, r4, r5, r6, r7, r8, r9⟩ := zz
 replace hb0 := bthen hb0 hB
 clear hc hB
 go_wp2_with fail
 refine (c_alive _ (HL.out.later hb0)).mono ?_
 rintro E W4 ⟨rfl, hB⟩
 have hc := (bcell hB).1
 have zz := cy14 hc q0 q1 q2 q3 r0 r1 r2 r3 r4 r5 r6 r7 r8 r9
 clear q0 q1 q2 q3 r0 r1 r2 r3 r4 r5 r6 r7 r8 r9
 obtain ⟨q0, q1, q2, q3, r0, r1, r2, r3, r4, r5, r6, r7, r8, r9⟩ := zz
 replace hb0 := bthen hb0 hB
 clear hc hB
 go_wp2
 go_ret
 exact ⟨rfl, hb0⟩
set_option maxRecDepth 100000 in
set_option maxHeartbeats 8000000 in
theorem walk_n (m : Fm) (l : List Rp) (a : Option Addr) (cap : Nat) (x : Rp) {w : World} (hm : m.Arg w) (hl : SlArg rpC 10 RpW w l a cap) (hs : shortV m.f = true) (hf : fewV l 305 = true) (h : 100 < x.sort.size) (hL : LibW w) :
  Calls Tryz.prog 4 #[m.v, .slice a l.length cap, x.v] w fun e w' => e = .returned (.bool true) ∧ Below w.heap.size w w' := by
 have hS := fun W (hb : Below w.heap.size w W) => c_Short m W (hm.later hb)
 rw [hs] at hS
 have HS := Lib.hid hS
 have HL := Lib.hid hL
 have hF := fun W (hb : Below w.heap.size w W) => c_Few l a cap 305 W (slarg_later hl hb) (by decide)
 rw [hf] at hF
 have HF := Lib.hid hF
 clear hF
 have h1 : (100 : Int) < (x.sort.size : Int) := by omega
 clear hS hL hm hl
 go_enter Tryz.func4, Tryz.ntmps4
 go_upto_region 1 with (fail)
 go_name_world W1 hW1
 have hb0 : Below w.heap.size w W1 := by subst hW1; go_grown
 obtain ⟨q0, q1, q2, q3⟩ := (show QB m W1 w.heap.size from by subst hW1; refine ⟨?_, ?_, ?_, ?_⟩ <;> go_simp)
 obtain ⟨r0, r1, r2, r3, r4, r5, r6, r7, r8, r9⟩ := (show RC x W1 ((w.heap.size + 1)) from by subst hW1; refine ⟨?_, ?_, ?_, ?_, ?_, ?_, ?_, ?_, ?_, ?_⟩ <;> go_simp)
 clear hW1 
 go_wp2_with fail
 refine (HS.out _ hb0).mono ?_
 rintro E W2 ⟨rfl, hB⟩
 have hc := (bcell hB).1
 have zz := cy14 hc q0 q1 q2 q3 r0 r1 r2 r3 r4 r5 r6 r7 r8 r9
 clear q0 q1 q2 q3 r0 r1 r2 r3 r4 r5 r6 r7 r8 r9
 obtain ⟨q0, q1, q2, q3, r0, r1, r2, r3, r4, r5, r6, r7, r8, r9⟩ := zz
 replace hb0 := bthen hb0 hB
 clear hc hB
 go_wp2_with fail
 refine (HF.out _ hb0).mono ?_
 rintro E W3 ⟨rfl, hB⟩
 have hc := (bcell hB).1
 have zz := cy14 hc q0 q1 q2 q3 r0 r1 r2 r3 r4 r5 r6 r7 r8 r9
 clear q0 q1 q2 q3 r0 r1 r2 r3 r4 r5 r6 r7 r8 r9
 obtain ⟨q0, q1, q2, q3, r0, r1, r2, r3, r4, r5, r6, r7, r8, r9⟩ := zz
 replace hb0 := bthen hb0 hB
 clear hc hB
 go_wp2_with fail
 refine (c_alive _ (HL.out.later hb0)).mono ?_
 rintro E W4 ⟨rfl, hB⟩
 have hc := (bcell hB).1
 have zz := cy14 hc q0 q1 q2 q3 r0 r1 r2 r3 r4 r5 r6 r7 r8 r9
 clear q0 q1 q2 q3 r0 r1 r2 r3 r4 r5 r6 r7 r8 r9
 obtain ⟨q0, q1, q2, q3, r0, r1, r2, r3, r4, r5, r6, r7, r8, r9⟩ := zz
 replace hb0 := bthen hb0 hB
 clear hc hB
 go_wp2
 go_ret
 exact ⟨rfl, hb0⟩
set_option maxRecDepth 100000 in
set_option maxHeartbeats 8000000 in
theorem walk_ok (m : Fm) (l : List Rp) (a : Option Addr) (cap : Nat) (x : Rp) {w : World} (hm : m.Arg w) (hl : SlArg rpC 10 RpW w l a cap) (hs : shortV m.f = true) (hf : fewV l 305 = true) (hmi : m.In w) (hz : Sized m.f) (hr : Rps w a l) (hok : ∀ y ∈ l, RpOk y) (hsz : ∀ y ∈ l, y.sort.size ≤ 1000000) (ok : RpOk x) (h : x.sort.size ≤ 100) (hlen : l.length ≤ 305) (hL : LibW w) :
  Calls Tryz.prog 4 #[m.v, .slice a l.length cap, x.v] w fun e w' => e = .returned (.bool true) ∧ Below w.heap.size w w' := by
 have hS := fun W (hb : Below w.heap.size w W) => c_Short m W (hm.later hb)
 rw [hs] at hS
 have HS := Lib.hid hS
 have HL := Lib.hid hL
 have hF := fun W (hb : Below w.heap.size w W) => c_Few l a cap 305 W (slarg_later hl hb) (by decide)
 rw [hf] at hF
 have HF := Lib.hid hF
 clear hF
 have h1 : ¬ (100 : Int) < (x.sort.size : Int) := by omega
 have hx : x.sort.size ≤ 1000000 := by omega
 have hI1 := fun W (hb : Below w.heap.size w W) => c_Check m l a cap W (hmi.later hb) (hr.later hb) hok hl.room
 have hI2 := fun W (hb : Below w.heap.size w W) => c_rCheckLog m l a cap W (hmi.later hb) hz (hr.later hb) hok hsz hl.room
 have hA1 := fun W (hb : Below w.heap.size w W) => c_Append m l a cap x W (hmi.later hb) (hr.later hb) hok ok hl.room hl.none
 have hA2 := fun W (hb : Below w.heap.size w W) => c_rAppend m l a cap x W (hmi.later hb) hz (hr.later hb) hok hsz ok hx hl.room
 have hR1 := fun W (hb : Below w.heap.size w W) => c_CheckReport m x W (hmi.later hb) ok
 have hR2 := fun W (hb : Below w.heap.size w W) => c_rReport m x W (hmi.later hb) hz ok hx
 have hal := append_len m.f l x
 obtain ⟨⟨i, e⟩, hE1⟩ : ∃ R, checkV m.f l = R := ⟨_, rfl⟩
 obtain ⟨⟨L, g⟩, hE2⟩ : ∃ R, appendV m.f l x = R := ⟨_, rfl⟩
 obtain ⟨r, hE3⟩ : ∃ R, reportE m.f x = R := ⟨_, rfl⟩
 rw [hE1] at hI1 hI2
 rw [hE2] at hA1 hA2 hal
 rw [hE3] at hR1 hR2
 dsimp only at hal
 have hLL : L.length ≤ 1000 := by omega
 have I1 := Lib.hid hI1
 have I2 := Lib.hid hI2
 have A1 := Lib.hid hA1
 have A2 := Lib.hid hA2
 have R1 := Lib.hid hR1
 have R2 := Lib.hid hR2
 clear hS hL hm hmi hz hs hf h hl hr hok hsz ok hx hlen hal hI1 hI2 hA1 hA2 hR1 hR2 hE1 hE2 hE3
 go_enter Tryz.func4, Tryz.ntmps4
 go_upto_region 1 with (fail)
 go_name_world W1 hW1
 have hb0 : Below w.heap.size w W1 := by subst hW1; go_grown
 obtain ⟨q0, q1, q2, q3⟩ := (show QB m W1 w.heap.size from by subst hW1; refine ⟨?_, ?_, ?_, ?_⟩ <;> go_simp)
 obtain ⟨r0, r1, r2, r3, r4, r5, r6, r7, r8, r9⟩ := (show RC x W1 ((w.heap.size + 1)) from by subst hW1; refine ⟨?_, ?_, ?_, ?_, ?_, ?_, ?_, ?_, ?_, ?_⟩ <;> go_simp)
 clear hW1 
 go_wp2_with fail
 refine (HS.out _ hb0).mono ?_
 rintro E W2 ⟨rfl, hB⟩
 have hc := (bcell hB).1
 have zz := cy14 hc q0 q1 q2 q3 r0 r1 r2 r3 r4 r5 r6 r7 r8 r9
 clear q0 q1 q2 q3 r0 r1 r2 r3 r4 r5 r6 r7 r8 r9
 obtain ⟨q0, q1, q2, q3, r0, r1, r2, r3, r4, r5, r6, r7, r8, r9⟩ := zz
 replace hb0 := bthen hb0 hB
 clear hc hB
 go_wp2_with fail
 refine (HF.out _ hb0).mono ?_
 rintro E W3 ⟨rfl, hB⟩
 have hc := (bcell hB).1
 have zz := cy14 hc q0 q1 q2 q3 r0 r1 r2 r3 r4 r5 r6 r7 r8 r9
 clear q0 q1 q2 q3 r0 r1 r2 r3 r4 r5 r6 r7 r8 r9
 obtain ⟨q0, q1, q2, q3, r0, r1, r2, r3, r4, r5, r6, r7, r8, r9⟩ := zz
 replace hb0 := bthen hb0 hB
 clear hc hB
 go_wp2_with fail
 refine (I1.out _ hb0).mono ?_
 rintro E W4 ⟨rfl, hB⟩
 have hc := (bcell hB).1
 have zz := cy14 hc q0 q1 q2 q3 r0 r1 r2 r3 r4 r5 r6 r7 r8 r9
 clear q0 q1 q2 q3 r0 r1 r2 r3 r4 r5 r6 r7 r8 r9
 obtain ⟨q0, q1, q2, q3, r0, r1, r2, r3, r4, r5, r6, r7, r8, r9⟩ := zz
 replace hb0 := bthen hb0 hB
 clear hc hB
 go_wp2_with fail
 refine (I2.out _ hb0).mono ?_
 rintro E W5 ⟨rfl, hB⟩
 have hc := (bcell hB).1
 have zz := cy14 hc q0 q1 q2 q3 r0 r1 r2 r3 r4 r5 r6 r7 r8 r9
 clear q0 q1 q2 q3 r0 r1 r2 r3 r4 r5 r6 r7 r8 r9
 obtain ⟨q0, q1, q2, q3, r0, r1, r2, r3, r4, r5, r6, r7, r8, r9⟩ := zz
 replace hb0 := bthen hb0 hB
 clear hc hB
 go_wp2_with fail
 refine (A1.out _ hb0).mono ?_
 rintro E W6 ⟨v1, rfl, ho1, hB⟩
 dsimp only at ho1 ⊢
 have hc := (bcell hB).1
 obtain ⟨b1, c1, rfl, _, _, hl1, _⟩ := Lst.own rpC_len ho1
 clear ho1
 have ha1 := hl1 (by omega)
 clear hl1
 have zz := cy14 hc q0 q1 q2 q3 r0 r1 r2 r3 r4 r5 r6 r7 r8 r9
 clear q0 q1 q2 q3 r0 r1 r2 r3 r4 r5 r6 r7 r8 r9
 obtain ⟨q0, q1, q2, q3, r0, r1, r2, r3, r4, r5, r6, r7, r8, r9⟩ := zz
 replace hb0 := bthen hb0 hB
 clear hc hB
 go_wp2_with fail
 refine (A2.out _ hb0).mono ?_
 rintro E W7 ⟨v2, rfl, ho2, hB⟩
 dsimp only at ho2 ⊢
 have hc := (bcell hB).1
 obtain ⟨b2, c2, rfl, _, _, hl2, _⟩ := Lst.own rpC_len ho2
 clear ho2
 have ha2 := hl2 (by omega)
 clear hl2
 have zz := cy14 hc q0 q1 q2 q3 r0 r1 r2 r3 r4 r5 r6 r7 r8 r9
 clear q0 q1 q2 q3 r0 r1 r2 r3 r4 r5 r6 r7 r8 r9
 obtain ⟨q0, q1, q2, q3, r0, r1, r2, r3, r4, r5, r6, r7, r8, r9⟩ := zz
 replace ha1 := ha1.later hB
 replace hb0 := bthen hb0 hB
 clear hc hB
 have HQA := Lib.hid (fun (x1 : Later W7) => c_alive x1.1 (HL.out.later (bthen hb0 x1.2)))
 have HQS := Lib.hid (fun (x1 : Later W7) => c_rSame L b1 c1 b2 c2 x1.1 (ha1.later x1.2) (ha2.later x1.2) (by omega))
 have HQ1 := Lib.hid (fun (x1 : Later W7) => R1.out x1.1 (bthen hb0 x1.2))
 have HQ2 := Lib.hid (fun (x1 : Later W7) => R2.out x1.1 (bthen hb0 x1.2))
 clear ha1 ha2
 go_upto_region 7 with (fail)
 have kq0 := later_cell q0
 have kq1 := later_cell q1
 have kq2 := later_cell q2
 have kq3 := later_cell q3
 have kr0 := later_cell r0
 have kr1 := later_cell r1
 have kr2 := later_cell r2
 have kr3 := later_cell r3
 have kr4 := later_cell r4
 have kr5 := later_cell r5
 have kr6 := later_cell r6
 have kr7 := later_cell r7
 have kr8 := later_cell r8
 have kr9 := later_cell r9
 refine wp_region_sink 30 W7 (by kernel_rfl) (by kernel_rfl) (Below.refl _ _) ?_
 simp only [List.take_succ_cons, List.take_zero, List.drop_succ_cons, List.drop_zero]
 repeat (go_big_quiet_step (first | (go_at_call 20; with_reducible exact in_region (HQA.out _)) | (go_at_call 33; with_reducible exact in_region (HQS.out _)) | (go_at_call 34; with_reducible exact in_region (HQ1.out _)) | (go_at_call 35; with_reducible exact in_region (HQ2.out _))))
 refine wpQuiet_nil ?_
 rintro ⟨W8, hB⟩
 dsimp only
 have hc := (bcell hB).1
 have hf := (bcell hB).2
 have hz := hB.size
 clear kq0 kq1 kq2 kq3 kr0 kr1 kr2 kr3 kr4 kr5 kr6 kr7 kr8 kr9
 have zz := cy14 hc q0 q1 q2 q3 r0 r1 r2 r3 r4 r5 r6 r7 r8 r9
 clear q0 q1 q2 q3 r0 r1 r2 r3 r4 r5 r6 r7 r8 r9
 obtain ⟨q0, q1, q2, q3, r0, r1, r2, r3, r4, r5, r6, r7, r8, r9⟩ := zz
 replace hb0 : Below w.heap.size w W8 := bthen hb0 hB
 have hzW8 : W7.heap.size ≤ W8.heap.size := hz
 clear hc hf hB hz
 go_wp2
 go_ret
 exact ⟨rfl, hb0⟩
theorem walk {w : World} (m : Fm) (hm : m.Arg w) (l : List Rp) (a : Option Addr) (cap : Nat) (hl : SlArg rpC 10 RpW w l a cap) (x : Rp) (hx : RpW x) (hL : LibW w) : Calls Tryz.prog 4 #[m.v, .slice a l.length cap, x.v] w fun e w' => e = .returned (.bool true) ∧ Below w.heap.size w w' := by
 cases hs : shortV m.f with
 | false => exact walk_s m l a cap x hm hs hL
 | true =>
  cases hf : fewV l 305 with
  | false => exact walk_f m l a cap x hm hl hs hf hL
  | true =>
   have h3 := hf
   unfold fewV fewB at h3
   simp only [Bool.and_eq_true, decide_eq_true_eq, List.all_eq_true] at h3
   by_cases h : x.sort.size ≤ 100
   ·exact walk_ok m l a cap x hm hl hs hf (short_in hm hs) (short_sized hs) (hl.lst (by omega)) (fun y hy => ⟨(rpW_ok (hl.all y hy)).1, (rpW_ok (hl.all y hy)).2⟩) (fun y hy => by have := h3.2 y hy; omega) ⟨(rpW_ok hx).1, (rpW_ok hx).2⟩ h h3.1 hL
   ·exact walk_n m l a cap x hm hl hs hf (by omega) hL
set_option maxRecDepth 100000 in
theorem contract (H : Type) (enc : TypeId × Value → H) (W : World) (base : Nat) (args : Array Value) (ds gs : List (DataW H)) (before : List MemPlace)
    (hval : ∀ (j : Nat) t v, Tryz.f4.params[j]? = some t → args[j]? = some v → Value.okWide Tryz.prog W .any base t v)
    (hW : DataW.Whole enc Tryz.prog Tryz.f4.params.toList Rows.fellReportsSpec.vars false W args.toList ds gs before) (hL : LibW W) :
    Calls Tryz.prog 4 args W fun e W' => ∃ v, e = .returned v ∧ Rows.fellReportsSpec.post enc Tryz.prog Tryz.f4 false true false false W args v W' := by
  have hW' := hW
  obtain ⟨p, q, hA0, hV, rfl, _, _⟩ := hW
  have hA : DataW.TrodAll enc Tryz.prog W 0 (fun _ => true) true Tryz.f4.params.toList args.toList ds p := hA0
  rw [Tryz.params4] at hA hval
  obtain ⟨v0, vs0, d0, ds0, p0, q0, hargs, rfl, rfl, h0, r0⟩ := trodAll_cons hA
  obtain ⟨v1, vs1, d1, ds1, p1, q1, rfl, rfl, rfl, h1, r1⟩ := trodAll_cons r0
  obtain ⟨v2, vs2, d2, ds2, p2, q2, rfl, rfl, rfl, h2, r2⟩ := trodAll_cons r1
  obtain ⟨rfl, rfl, rfl⟩ := trodAll_nil r2
  obtain rfl : args = #[v0, v1, v2] := by cases args; simp_all
  obtain ⟨rfl, rfl⟩ := trodVars_none hV
  obtain ⟨m0, rfl, e0⟩ := open_fell (hval 0 25 v0 rfl rfl) h0
  obtain ⟨b1, l1, k1, rfl, e1⟩ := open_log (hval 1 37 v1 rfl rfl) h1
  obtain ⟨x2, rfl, e2, rfl⟩ := open_report (hval 2 39 v2 rfl rfl) h2
  clear hA0
  have s2 := stays h2 (by kernel_rfl) (by kernel_rfl)
  refine (walk m0 e0 l1 b1 k1 e1 x2 e2 hL).mono fun e W' ⟨he, hg⟩ => ?_
  subst he
  have hlt := fun x hx => hW'.lt x hx
  exact ⟨_, rfl, post_of_below (pa := (p0 ++ (p1 ++ ([] ++ [])))) (pv := []) hW' (fun _ _ _ => (trodAll_cons_mk (shut_bool Tryz.underlying4 _) trodAll_mk0)) (fun sp hsp => (trodAll_cons_mk (staysB h0 (by kernel_rfl) (by kernel_rfl) hg hlt (fun x hx => by simp [hx]) sp hsp) (trodAll_cons_mk (staysB h1 (by kernel_rfl) (by kernel_rfl) hg hlt (fun x hx => by simp [hx]) sp hsp) (trodAll_cons_mk (s2 _ _) trodAll_mk0)))) (fun _ _ => rfl) rfl
    hg (ok_one (by kernel_rfl) rfl (okWide_bool_mk Tryz.underlying4 _))⟩
set_option maxRecDepth 100000 in
theorem reads (os : Os) {H : Type} (enc : TypeId × Value → H) : ∃ places, DataW.whole enc Tryz.prog ((laidWorld os).forCall (fun _ _ => 0) ⟨#[], #[.agg #[.int .i64 0, .int .i64 0, .slice none 0 0, .slice none 0 0], .slice none 0 0, .agg #[.int .i64 0, .int .i64 0, .int .u8 0, .int .i64 0, .string ⟨#[]⟩, .int .i64 0, .int .i64 0, .int .i64 0, .int .i64 0, .int .i64 0]], []⟩).memory Tryz.f4.params.toList Rows.fellReportsSpec.vars false (Array.toList #[.agg #[.int .i64 0, .int .i64 0, .slice none 0 0, .slice none 0 0], .slice none 0 0, .agg #[.int .i64 0, .int .i64 0, .int .u8 0, .int .i64 0, .string ⟨#[]⟩, .int .i64 0, .int .i64 0, .int .i64 0, .int .i64 0, .int .i64 0]]) 8 = some ([.agg [.lit (.int .i64 0), .lit (.int .i64 0), .nil, .nil], .nil, .agg [.lit (.int .i64 0), .lit (.int .i64 0), .lit (.int .u8 0), .lit (.int .i64 0), .lit (.string []), .lit (.int .i64 0), .lit (.int .i64 0), .lit (.int .i64 0), .lit (.int .i64 0), .lit (.int .i64 0)]], [], places) :=
 ⟨[], by kernel_rfl⟩
set_option maxRecDepth 100000 in
theorem lifted (os : Os) (started : os.Started) (H : Type) (enc : TypeId × Value → H) (F : Stop.Interp) :
    ReturnsInHanded {} Tryz.checked os 4 .any ((OpenSpec.ofChange Rows.fellReportsSpec).preRow enc Tryz.prog Tryz.f4 Rows.fellReportsRow.domain false Rows.fellReportsRow.laid) (((OpenSpec.ofChange Rows.fellReportsSpec).at F).post enc Tryz.prog Tryz.f4 false true false false) := by
  obtain ⟨places, hx⟩ := reads os enc
  refine returnsInHanded_of_row (C := Tryz.checked) (s := OpenSpec.ofChange Rows.fellReportsSpec) own started (by kernel_rfl) Tryz.func4
    (witness_row_atRef (enc := enc) (C := Tryz.checked) false (laidWorld os) #[.agg #[.int .i64 0, .int .i64 0, .slice none 0 0, .slice none 0 0], .slice none 0 0, .agg #[.int .i64 0, .int .i64 0, .int .u8 0, .int .i64 0, .string ⟨#[]⟩, .int .i64 0, .int .i64 0, .int .i64 0, .int .i64 0, .int .i64 0]] rfl (by kernel_rfl) (by kernel_rfl) (by kernel_rfl)
      (OpenSpec.preRow_of_cond 8 hx (by kernel_rfl) (fun k hk => by cases hk) (by kernel_rfl) (laidWorld_met os _))) ?_
  intro W base args ds gs before hval hW _ _ _ hL hsh _
  exact contract H enc W base args ds gs before hval hW (libW_of hL hsh)
theorem said : Rows.FellReportsSaid :=
 OpenClaim.holds_of_cond 4 Tryz.f4 rfl rfl rfl rfl rfl rfl rfl ⟨rfl, rfl, rfl, rfl, rfl⟩ rfl rfl rfl rfl rfl (by as_aux_lemma => kernel_rfl) Tryz.func4 facts
  (of_decide_eq_true (by as_aux_lemma => kernel_rfl)) (by unfold Func.isWrapper; first | (rw [if_pos (by decide +kernel)]; kernel_rfl) | (rw [if_neg (by decide +kernel)]; exact ⟨rfl, rfl⟩))
  (fun os started H enc _ F => by rw [OpenClaim.pre_eq_preRow]; exact lifted os started H enc F)
theorem proved : Rows.FellReportsCardSaid := tied said
end Go.Proofs.YtlppdgaogdpajaaGreatDoor.fellReports
