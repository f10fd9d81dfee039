/- This text is a part of the proof: PFArcs. -/
import Derived.Test.YtlppdgaogdpajaaGreatDoorQA1
import Derived.Test.YtlppdgaogdpajaaGreatDoorLArcs1
set_option maxRecDepth 100000
set_option maxHeartbeats 8000000
namespace Go.Proofs.YtlppdgaogdpajaaGreatDoor.fellArcs
open Go.ChangeShapes Go.WideShapes Go.ChangeAt Go.RowKit Go.Joins Go.Deep
open Go.ChangeMaps (open_string shut_string)
theorem walk_s (m : Fm) (place tick arc : Int) (x : Rp) {w : World} (hm : m.Arg w) (hs : shortV m.f = false) (hL : LibW w) :
  Calls Tryz.prog 11 #[m.v, .int .i64 place, .int .i64 tick, .int .i64 arc, x.v] w fun e w' => e = .returned (.bool true) ∧ Below w.heap.size w w' := by
 have hS := fun W (hb : Below w.heap.size w W) => c_Short m W (hm.later hb)
 rw [hs] at hS
 have HS := Lib.hid hS
 have HL := Lib.hid hL
 clear hS hL hm
 go_enter Tryz.func11, Tryz.ntmps11
 go_upto_region 1 with (fail)
 go_name_world W1 hW1
 have hb0 : Below w.heap.size w W1 := by subst hW1; go_grown
 obtain ⟨q0, q1, q2, q3⟩ := (show QB m W1 w.heap.size from by subst hW1; and_intros <;> go_simp)
 obtain ⟨r0, r1, r2, r3, r4, r5, r6, r7, r8, r9⟩ := (show RC x W1 ((w.heap.size + 1)) from by subst hW1; and_intros <;> go_simp)
 clear hW1 
 go_wp2_with fail
 refine (HS.out _ hb0).mono ?_
 rintro E W2 ⟨rfl, hB⟩
 have hc := (bcell hB).1
 have zz := cy14 hc q0 q1 q2 q3 r0 r1 r2 r3 r4 r5 r6 r7 r8 r9
 clear q0 q1 q2 q3 r0 r1 r2 r3 r4 r5 r6 r7 r8 r9
 obtain ⟨q0, q1, q2, q3, r0, r1, r2, r3, r4, r5, r6, r7, r8, r9⟩ := zz
 replace hb0 := bthen hb0 hB
 clear hc hB
 go_wp2_with fail
 refine (c_alive _ (HL.out.later hb0)).mono ?_
 rintro E W3 ⟨rfl, hB⟩
 have hc := (bcell hB).1
 have zz := cy14 hc q0 q1 q2 q3 r0 r1 r2 r3 r4 r5 r6 r7 r8 r9
 clear q0 q1 q2 q3 r0 r1 r2 r3 r4 r5 r6 r7 r8 r9
 obtain ⟨q0, q1, q2, q3, r0, r1, r2, r3, r4, r5, r6, r7, r8, r9⟩ := zz
 replace hb0 := bthen hb0 hB
 clear hc hB
 go_wp2
 go_ret
 exact ⟨rfl, hb0⟩
theorem walk_n (m : Fm) (place tick arc : Int) (x : Rp) {w : World} (hm : m.Arg w) (hs : shortV m.f = true) (h : 100 < x.sort.size) (hL : LibW w) :
  Calls Tryz.prog 11 #[m.v, .int .i64 place, .int .i64 tick, .int .i64 arc, x.v] w fun e w' => e = .returned (.bool true) ∧ Below w.heap.size w w' := by
 have hS := fun W (hb : Below w.heap.size w W) => c_Short m W (hm.later hb)
 rw [hs] at hS
 have HS := Lib.hid hS
 have HL := Lib.hid hL
 have h1 : (100 : Int) < (x.sort.size : Int) := by omega
 clear hS hL hm
 go_enter Tryz.func11, Tryz.ntmps11
 go_upto_region 1 with (fail)
 go_name_world W1 hW1
 have hb0 : Below w.heap.size w W1 := by subst hW1; go_grown
 obtain ⟨q0, q1, q2, q3⟩ := (show QB m W1 w.heap.size from by subst hW1; and_intros <;> go_simp)
 obtain ⟨r0, r1, r2, r3, r4, r5, r6, r7, r8, r9⟩ := (show RC x W1 ((w.heap.size + 1)) from by subst hW1; and_intros <;> go_simp)
 clear hW1 
 go_wp2_with fail
 refine (HS.out _ hb0).mono ?_
 rintro E W2 ⟨rfl, hB⟩
 have hc := (bcell hB).1
 have zz := cy14 hc q0 q1 q2 q3 r0 r1 r2 r3 r4 r5 r6 r7 r8 r9
 clear q0 q1 q2 q3 r0 r1 r2 r3 r4 r5 r6 r7 r8 r9
 obtain ⟨q0, q1, q2, q3, r0, r1, r2, r3, r4, r5, r6, r7, r8, r9⟩ := zz
 replace hb0 := bthen hb0 hB
 clear hc hB
 go_wp2_with fail
 refine (c_alive _ (HL.out.later hb0)).mono ?_
 rintro E W3 ⟨rfl, hB⟩
 have hc := (bcell hB).1
 have zz := cy14 hc q0 q1 q2 q3 r0 r1 r2 r3 r4 r5 r6 r7 r8 r9
 clear q0 q1 q2 q3 r0 r1 r2 r3 r4 r5 r6 r7 r8 r9
 obtain ⟨q0, q1, q2, q3, r0, r1, r2, r3, r4, r5, r6, r7, r8, r9⟩ := zz
 replace hb0 := bthen hb0 hB
 clear hc hB
 go_wp2
 go_ret
 exact ⟨rfl, hb0⟩
theorem walk_ok (m : Fm) (place tick arc : Int) (x : Rp) {w : World} (hm : m.Arg w) (hs : shortV m.f = true) (hmi : m.In w) (hz : Sized m.f) (h : x.sort.size ≤ 100) (ok : RpOk x) (hL : LibW w) :
  Calls Tryz.prog 11 #[m.v, .int .i64 place, .int .i64 tick, .int .i64 arc, x.v] w fun e w' => e = .returned (.bool true) ∧ Below w.heap.size w w' := by
 have hS := fun W (hb : Below w.heap.size w W) => c_Short m W (hm.later hb)
 rw [hs] at hS
 have HS := Lib.hid hS
 have HL := Lib.hid hL
 have g1 : ¬ (100 : Int) < (x.sort.size : Int) := by omega
 have hrz : x.sort.size ≤ 1000000 := by omega
 have hA1 := fun W (hb : Below w.heap.size w W) => c_NumberArc m place tick W (hmi.later hb)
 have hA2 := fun W (hb : Below w.heap.size w W) => c_rNumberArc m place tick W (hmi.later hb) hz
 have hM1 := fun W (hb : Below w.heap.size w W) => c_MoveArc m x W (hmi.later hb) ok
 have hM2 := fun W (hb : Below w.heap.size w W) => c_rMoveArc m x W (hmi.later hb) hz ok hrz
 have hN1 := fun W (hb : Below w.heap.size w W) => c_NameArc m arc W (hmi.later hb) (hL.later hb)
 have hN2 := fun W (hb : Below w.heap.size w W) => c_rNameArc m arc W (hmi.later hb) hz
 have hK1 := fun W (hb : Below w.heap.size w W) => c_Nodes m W (hmi.later hb)
 have hK2 := fun W (hb : Below w.heap.size w W) => c_rNodes m W (hmi.later hb) hz
 have hL1 := fun W (hb : Below w.heap.size w W) => c_Arcs m W (hmi.later hb)
 have hL2 := fun W (hb : Below w.heap.size w W) => c_rArcs m W (hmi.later hb) hz
 obtain ⟨⟨c, e1⟩, hE1⟩ : ∃ R, numberArcV m.f place tick = R := ⟨_, rfl⟩
 obtain ⟨⟨n, e2⟩, hE2⟩ : ∃ R, moveV m.f x = R := ⟨_, rfl⟩
 obtain ⟨⟨s, e3⟩, hE3⟩ : ∃ R, nameArcV m.f arc = R := ⟨_, rfl⟩
 obtain ⟨k1, hE4⟩ : ∃ R, nodesV m.f = R := ⟨_, rfl⟩
 obtain ⟨k2, hE5⟩ : ∃ R, arcsV m.f = R := ⟨_, rfl⟩
 rw [hE1] at hA1 hA2
 rw [hE2] at hM1 hM2
 rw [hE3] at hN1 hN2
 rw [hE4] at hK1 hK2
 rw [hE5] at hL1 hL2
 have A1 := Lib.hid hA1
 have A2 := Lib.hid hA2
 have M1 := Lib.hid hM1
 have M2 := Lib.hid hM2
 have N1 := Lib.hid hN1
 have N2 := Lib.hid hN2
 have K1 := Lib.hid hK1
 have K2 := Lib.hid hK2
 have L1 := Lib.hid hL1
 have L2 := Lib.hid hL2
 clear hS hL hm hmi hz hs h ok hrz hA1 hA2 hM1 hM2 hN1 hN2 hK1 hK2 hL1 hL2 hE1 hE2 hE3 hE4 hE5
 go_enter Tryz.func11, Tryz.ntmps11
 go_upto_region 1 with (fail)
 go_name_world W1 hW1
 have hb0 : Below w.heap.size w W1 := by subst hW1; go_grown
 obtain ⟨q0, q1, q2, q3⟩ := (show QB m W1 w.heap.size from by subst hW1; and_intros <;> go_simp)
 obtain ⟨r0, r1, r2, r3, r4, r5, r6, r7, r8, r9⟩ := (show RC x W1 ((w.heap.size + 1)) from by subst hW1; and_intros <;> go_simp)
 clear hW1 
 go_wp2_with fail
 refine (HS.out _ hb0).mono ?_
 rintro E W2 ⟨rfl, hB⟩
 have hc := (bcell hB).1
 have zz := cy14 hc q0 q1 q2 q3 r0 r1 r2 r3 r4 r5 r6 r7 r8 r9
 clear q0 q1 q2 q3 r0 r1 r2 r3 r4 r5 r6 r7 r8 r9
 obtain ⟨q0, q1, q2, q3, r0, r1, r2, r3, r4, r5, r6, r7, r8, r9⟩ := zz
 replace hb0 := bthen hb0 hB
 clear hc hB
 go_wp2_with fail
 refine (A1.out _ hb0).mono ?_
 rintro E W3 ⟨rfl, hB⟩
 have hc := (bcell hB).1
 have zz := cy14 hc q0 q1 q2 q3 r0 r1 r2 r3 r4 r5 r6 r7 r8 r9
 clear q0 q1 q2 q3 r0 r1 r2 r3 r4 r5 r6 r7 r8 r9
 obtain ⟨q0, q1, q2, q3, r0, r1, r2, r3, r4, r5, r6, r7, r8, r9⟩ := zz
 replace hb0 := bthen hb0 hB
 clear hc hB
 go_wp2_with fail
 refine (A2.out _ hb0).mono ?_
 rintro E W4 ⟨rfl, hB⟩
 have hc := (bcell hB).1
 have zz := cy14 hc q0 q1 q2 q3 r0 r1 r2 r3 r4 r5 r6 r7 r8 r9
 clear q0 q1 q2 q3 r0 r1 r2 r3 r4 r5 r6 r7 r8 r9
 obtain ⟨q0, q1, q2, q3, r0, r1, r2, r3, r4, r5, r6, r7, r8, r9⟩ := zz
 replace hb0 := bthen hb0 hB
 clear hc hB
 go_wp2_with fail
 refine (M1.out _ hb0).mono ?_
 rintro E W5 ⟨rfl, hB⟩
 have hc := (bcell hB).1
 have zz := cy14 hc q0 q1 q2 q3 r0 r1 r2 r3 r4 r5 r6 r7 r8 r9
 clear q0 q1 q2 q3 r0 r1 r2 r3 r4 r5 r6 r7 r8 r9
 obtain ⟨q0, q1, q2, q3, r0, r1, r2, r3, r4, r5, r6, r7, r8, r9⟩ := zz
 replace hb0 := bthen hb0 hB
 clear hc hB
 go_wp2_with fail
 refine (M2.out _ hb0).mono ?_
 rintro E W6 ⟨rfl, hB⟩
 have hc := (bcell hB).1
 have zz := cy14 hc q0 q1 q2 q3 r0 r1 r2 r3 r4 r5 r6 r7 r8 r9
 clear q0 q1 q2 q3 r0 r1 r2 r3 r4 r5 r6 r7 r8 r9
 obtain ⟨q0, q1, q2, q3, r0, r1, r2, r3, r4, r5, r6, r7, r8, r9⟩ := zz
 replace hb0 := bthen hb0 hB
 clear hc hB
 go_wp2_with fail
 refine (N1.out _ hb0).mono ?_
 rintro E W7 ⟨rfl, hB⟩
 have hc := (bcell hB).1
 have zz := cy14 hc q0 q1 q2 q3 r0 r1 r2 r3 r4 r5 r6 r7 r8 r9
 clear q0 q1 q2 q3 r0 r1 r2 r3 r4 r5 r6 r7 r8 r9
 obtain ⟨q0, q1, q2, q3, r0, r1, r2, r3, r4, r5, r6, r7, r8, r9⟩ := zz
 replace hb0 := bthen hb0 hB
 clear hc hB
 go_wp2_with fail
 refine (N2.out _ hb0).mono ?_
 rintro E W8 ⟨rfl, hB⟩
 have hc := (bcell hB).1
 have zz := cy14 hc q0 q1 q2 q3 r0 r1 r2 r3 r4 r5 r6 r7 r8 r9
 clear q0 q1 q2 q3 r0 r1 r2 r3 r4 r5 r6 r7 r8 r9
 obtain ⟨q0, q1, q2, q3, r0, r1, r2, r3, r4, r5, r6, r7, r8, r9⟩ := zz
 replace hb0 := bthen hb0 hB
 clear hc hB
 have HQA := Lib.hid (fun (x1 : Later W8) => c_alive x1.1 (HL.out.later (bthen hb0 x1.2)))
 have HQK1 := Lib.hid (fun (x1 : Later W8) => K1.out x1.1 (bthen hb0 x1.2))
 have HQK2 := Lib.hid (fun (x1 : Later W8) => K2.out x1.1 (bthen hb0 x1.2))
 have HQL1 := Lib.hid (fun (x1 : Later W8) => L1.out x1.1 (bthen hb0 x1.2))
 have HQL2 := Lib.hid (fun (x1 : Later W8) => L2.out x1.1 (bthen hb0 x1.2))
 go_upto_region 9 with (fail)
 have kq0 := later_cell q0
 have kq1 := later_cell q1
 have kq2 := later_cell q2
 have kq3 := later_cell q3
 have kr0 := later_cell r0
 have kr1 := later_cell r1
 have kr2 := later_cell r2
 have kr3 := later_cell r3
 have kr4 := later_cell r4
 have kr5 := later_cell r5
 have kr6 := later_cell r6
 have kr7 := later_cell r7
 have kr8 := later_cell r8
 have kr9 := later_cell r9
 refine wp_region_sink 45 W8 (by kernel_rfl) (by kernel_rfl) (Below.refl _ _) ?_
 simp only [List.take_succ_cons, List.take_zero, List.drop_succ_cons, List.drop_zero]
 repeat (go_big_quiet_step (first | (go_at_call 20; with_reducible exact in_region (HQA.out _)) | (go_at_call 58; with_reducible exact in_region (HQK1.out _)) | (go_at_call 59; with_reducible exact in_region (HQK2.out _)) | (go_at_call 60; with_reducible exact in_region (HQL1.out _)) | (go_at_call 61; with_reducible exact in_region (HQL2.out _))))
 refine wpQuiet_nil ?_
 rintro ⟨W9, hB⟩
 dsimp only
 have hc := (bcell hB).1
 have hf := (bcell hB).2
 have hz := hB.size
 clear kq0 kq1 kq2 kq3 kr0 kr1 kr2 kr3 kr4 kr5 kr6 kr7 kr8 kr9
 have zz := cy14 hc q0 q1 q2 q3 r0 r1 r2 r3 r4 r5 r6 r7 r8 r9
 clear q0 q1 q2 q3 r0 r1 r2 r3 r4 r5 r6 r7 r8 r9
 obtain ⟨q0, q1, q2, q3, r0, r1, r2, r3, r4, r5, r6, r7, r8, r9⟩ := zz
 replace hb0 : Below w.heap.size w W9 := bthen hb0 hB
 have hzW9 : W8.heap.size ≤ W9.heap.size := hz
 clear hc hf hB hz
 go_wp2
 go_ret
 exact ⟨rfl, hb0⟩
theorem walk {w : World} (m : Fm) (hm : m.Arg w) (place tick arc : Int) (x : Rp) (hr : RpW x) (hL : LibW w) : Calls Tryz.prog 11 #[m.v, .int .i64 place, .int .i64 tick, .int .i64 arc, x.v] w fun e w' => e = .returned (.bool true) ∧ Below w.heap.size w w' := by
 cases hs : shortV m.f with
 | false => exact walk_s m place tick arc x hm hs hL
 | true =>
  by_cases h : x.sort.size ≤ 100
  ·exact walk_ok m place tick arc x hm hs (short_in hm hs) (short_sized hs) h ⟨(rpW_ok hr).1, (rpW_ok hr).2⟩ hL
  ·exact walk_n m place tick arc x hm hs (by omega) hL
theorem contract (H : Type) (enc : TypeId × Value → H) (W : World) (base : Nat) (args : Array Value) (ds gs : List (DataW H)) (before : List MemPlace)
    (hval : ∀ (j : Nat) t v, Tryz.f11.params[j]? = some t → args[j]? = some v → Value.okWide Tryz.prog W .any base t v)
    (hW : DataW.Whole enc Tryz.prog Tryz.f11.params.toList Rows.fellArcsSpec.vars false W args.toList ds gs before) (hL : LibW W) :
    Calls Tryz.prog 11 args W fun e W' => ∃ v, e = .returned v ∧ Rows.fellArcsSpec.post enc Tryz.prog Tryz.f11 false true false false W args v W' := by
  have hW' := hW
  obtain ⟨p, q, hA0, hV, rfl, _, _⟩ := hW
  have hA : DataW.TrodAll enc Tryz.prog W 0 (fun _ => true) true Tryz.f11.params.toList args.toList ds p := hA0
  rw [Tryz.params11] at hA hval
  obtain ⟨v0, vs0, d0, ds0, p0, q0, hargs, rfl, rfl, h0, r0⟩ := trodAll_cons hA
  obtain ⟨v1, vs1, d1, ds1, p1, q1, rfl, rfl, rfl, h1, r1⟩ := trodAll_cons r0
  obtain ⟨v2, vs2, d2, ds2, p2, q2, rfl, rfl, rfl, h2, r2⟩ := trodAll_cons r1
  obtain ⟨v3, vs3, d3, ds3, p3, q3, rfl, rfl, rfl, h3, r3⟩ := trodAll_cons r2
  obtain ⟨v4, vs4, d4, ds4, p4, q4, rfl, rfl, rfl, h4, r4⟩ := trodAll_cons r3
  obtain ⟨rfl, rfl, rfl⟩ := trodAll_nil r4
  obtain rfl : args = #[v0, v1, v2, v3, v4] := by cases args; simp_all
  obtain ⟨rfl, rfl⟩ := trodVars_none hV
  obtain ⟨m0, rfl, e0⟩ := open_fell (hval 0 25 v0 rfl rfl) h0
  obtain ⟨a1, rfl, rfl, rfl, w1⟩ := open_int Tryz.underlying3 (hval 1 3 v1 rfl rfl) h1
  obtain ⟨a2, rfl, rfl, rfl, w2⟩ := open_int Tryz.underlying3 (hval 2 3 v2 rfl rfl) h2
  obtain ⟨a3, rfl, rfl, rfl, w3⟩ := open_int Tryz.underlying3 (hval 3 3 v3 rfl rfl) h3
  obtain ⟨x4, rfl, e4, rfl⟩ := open_report (hval 4 39 v4 rfl rfl) h4
  clear hA0
  have s1 := stays h1 (by kernel_rfl) (by kernel_rfl)
  have s2 := stays h2 (by kernel_rfl) (by kernel_rfl)
  have s3 := stays h3 (by kernel_rfl) (by kernel_rfl)
  have s4 := stays h4 (by kernel_rfl) (by kernel_rfl)
  refine (walk m0 e0 a1 a2 a3 x4 e4 hL).mono fun e W' ⟨he, hg⟩ => ?_
  subst he
  have hlt := fun x hx => hW'.lt x hx
  exact ⟨_, rfl, post_of_below (pa := (p0 ++ ([] ++ ([] ++ ([] ++ ([] ++ [])))))) (pv := []) hW' (fun _ _ _ => (trodAll_cons_mk (shut_bool Tryz.underlying4 _) trodAll_mk0)) (fun sp hsp => (trodAll_cons_mk (staysB h0 (by kernel_rfl) (by kernel_rfl) hg hlt (fun x hx => by simp [hx]) sp hsp) (trodAll_cons_mk (s1 _ _) (trodAll_cons_mk (s2 _ _) (trodAll_cons_mk (s3 _ _) (trodAll_cons_mk (s4 _ _) trodAll_mk0)))))) (fun _ _ => rfl) rfl
    hg (ok_one (by kernel_rfl) rfl (okWide_bool_mk Tryz.underlying4 _))⟩
theorem reads (os : Os) {H : Type} (enc : TypeId × Value → H) : ∃ places, DataW.whole enc Tryz.prog ((laidWorld os).forCall (fun _ _ => 0) ⟨#[], #[.agg #[.int .i64 0, .int .i64 0, .slice none 0 0, .slice none 0 0], .int .i64 0, .int .i64 0, .int .i64 0, .agg #[.int .i64 0, .int .i64 0, .int .u8 0, .int .i64 0, .string ⟨#[]⟩, .int .i64 0, .int .i64 0, .int .i64 0, .int .i64 0, .int .i64 0]], []⟩).memory Tryz.f11.params.toList Rows.fellArcsSpec.vars false (Array.toList #[.agg #[.int .i64 0, .int .i64 0, .slice none 0 0, .slice none 0 0], .int .i64 0, .int .i64 0, .int .i64 0, .agg #[.int .i64 0, .int .i64 0, .int .u8 0, .int .i64 0, .string ⟨#[]⟩, .int .i64 0, .int .i64 0, .int .i64 0, .int .i64 0, .int .i64 0]]) 8 = some ([.agg [.lit (.int .i64 0), .lit (.int .i64 0), .nil, .nil], .lit (.int .i64 0), .lit (.int .i64 0), .lit (.int .i64 0), .agg [.lit (.int .i64 0), .lit (.int .i64 0), .lit (.int .u8 0), .lit (.int .i64 0), .lit (.string []), .lit (.int .i64 0), .lit (.int .i64 0), .lit (.int .i64 0), .lit (.int .i64 0), .lit (.int .i64 0)]], [], places) :=
 ⟨[], by kernel_rfl⟩
theorem lifted (os : Os) (started : os.Started) (H : Type) (enc : TypeId × Value → H) (F : Stop.Interp) :
    ReturnsInHanded {} Tryz.checked os 11 .any ((OpenSpec.ofChange Rows.fellArcsSpec).preRow enc Tryz.prog Tryz.f11 Rows.fellArcsRow.domain false Rows.fellArcsRow.laid) (((OpenSpec.ofChange Rows.fellArcsSpec).at F).post enc Tryz.prog Tryz.f11 false true false false) := by
  obtain ⟨places, hx⟩ := reads os enc
  refine returnsInHanded_of_row (C := Tryz.checked) (s := OpenSpec.ofChange Rows.fellArcsSpec) own started (by kernel_rfl) Tryz.func11
    (witness_row_atRef (enc := enc) (C := Tryz.checked) false (laidWorld os) #[.agg #[.int .i64 0, .int .i64 0, .slice none 0 0, .slice none 0 0], .int .i64 0, .int .i64 0, .int .i64 0, .agg #[.int .i64 0, .int .i64 0, .int .u8 0, .int .i64 0, .string ⟨#[]⟩, .int .i64 0, .int .i64 0, .int .i64 0, .int .i64 0, .int .i64 0]] rfl (by kernel_rfl) (by kernel_rfl) (by kernel_rfl)
      (OpenSpec.preRow_of_cond 8 hx (by kernel_rfl) (fun k hk => by cases hk) (by kernel_rfl) (laidWorld_met os _))) ?_
  intro W base args ds gs before hval hW _ _ _ hL hsh _
  exact contract H enc W base args ds gs before hval hW (libW_of hL hsh)
theorem said : Rows.FellArcsSaid :=
 OpenClaim.holds_of_cond 11 Tryz.f11 rfl rfl rfl rfl rfl rfl rfl ⟨rfl, rfl, rfl, rfl, rfl⟩ rfl rfl rfl rfl rfl (by as_aux_lemma => kernel_rfl) Tryz.func11 facts
  (of_decide_eq_true (by as_aux_lemma => kernel_rfl)) (by unfold Func.isWrapper; first | (rw [if_pos (by decide +kernel)]; kernel_rfl) | (rw [if_neg (by decide +kernel)]; exact ⟨rfl, rfl⟩))
  (fun os started H enc _ F => by rw [OpenClaim.pre_eq_preRow]; exact lifted os started H enc F)
theorem proved : Rows.FellArcsCardSaid := tied said
end Go.Proofs.YtlppdgaogdpajaaGreatDoor.fellArcs
