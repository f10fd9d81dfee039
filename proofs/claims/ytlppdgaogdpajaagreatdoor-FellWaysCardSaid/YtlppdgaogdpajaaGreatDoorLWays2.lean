/- This text is a part of the proof: PFWays. -/
import Derived.Test.YtlppdgaogdpajaaGreatDoorK1
import Derived.Test.YtlppdgaogdpajaaGreatDoorK2
import Derived.Test.YtlppdgaogdpajaaGreatDoorK3
import Derived.Test.YtlppdgaogdpajaaGreatDoorK4
import Derived.Test.YtlppdgaogdpajaaGreatDoorK5
import Derived.Test.YtlppdgaogdpajaaGreatDoorK6
import Derived.Test.YtlppdgaogdpajaaGreatDoorK7
import Derived.Test.YtlppdgaogdpajaaGreatDoorK8
import Derived.Test.YtlppdgaogdpajaaGreatDoorK9
import Derived.Test.YtlppdgaogdpajaaGreatDoorK10
import Derived.Test.YtlppdgaogdpajaaGreatDoorK11
import Derived.Test.YtlppdgaogdpajaaGreatDoorK12
import Derived.Test.YtlppdgaogdpajaaGreatDoorK13
import Derived.Test.YtlppdgaogdpajaaGreatDoorK14
import Derived.Test.YtlppdgaogdpajaaGreatDoorK15
import Derived.Test.YtlppdgaogdpajaaGreatDoorK16
import Derived.Test.YtlppdgaogdpajaaGreatDoorK17
import Derived.Test.YtlppdgaogdpajaaGreatDoorK18
import Derived.Test.YtlppdgaogdpajaaGreatDoorK19
import Derived.Test.YtlppdgaogdpajaaGreatDoorK20
import Derived.Test.YtlppdgaogdpajaaGreatDoorK21
import Derived.Test.YtlppdgaogdpajaaGreatDoorK22
import Derived.Test.YtlppdgaogdpajaaGreatDoorK23
import Derived.Test.YtlppdgaogdpajaaGreatDoorK24
import Derived.Test.YtlppdgaogdpajaaGreatDoorK25
import Derived.Test.YtlppdgaogdpajaaGreatDoorK26
import Derived.Test.YtlppdgaogdpajaaGreatDoorK27
import Derived.Test.YtlppdgaogdpajaaGreatDoorK28
import Derived.Test.YtlppdgaogdpajaaGreatDoorK29
import Derived.Test.YtlppdgaogdpajaaGreatDoorK30
import Derived.Test.YtlppdgaogdpajaaGreatDoorK31
import Derived.Test.YtlppdgaogdpajaaGreatDoorK32
import Derived.Test.YtlppdgaogdpajaaGreatDoorK33
import Derived.Test.YtlppdgaogdpajaaGreatDoorLWays1
import Derived.ArgAppend
import Derived.Barred
import Derived.Below
import Derived.BigQuiet
import Derived.ChangeSame
import Derived.Deep.AppendLies
import Derived.Deep.Cut
import Derived.Deep.CutBlock
import Derived.Deep.DeepCutAuto
import Derived.Deep.DeepFit
import Derived.Deep.DeepHandedRow
import Derived.Deep.DeepLaidRun
import Derived.Deep.DeepMust
import Derived.Deep.DeepWitnessRowRef
import Derived.Deep.Fields
import Derived.Deep.LoopGhost
import Derived.Deep.Quiet
import Derived.Deep.QuietTactic
import Derived.Deep.RegionHeld3
import Derived.Deep.RegionLaw
import Derived.Deep.Slices
import Derived.Defers
import Derived.Handy
import Derived.IntWalk
import Derived.Laws.EntriesVeiled
import Derived.Lib.AtoiAll
import Derived.Lib.AtoiAllCases
import Derived.Lib.ConvBytes
import Derived.Lib.Hide
import Derived.Lib.ItoaLen
import Derived.Lib.ItoaMem
import Derived.Lib.ItoaWalk
import Derived.Lib.Join
import Derived.Lib.LaidTab
import Derived.Lib.MinMax
import Derived.Lib.SmallJoins
import Derived.Lib.Split
import Derived.Lib.SplitLaws
import Derived.LoopIn
import Derived.LoopNIn
import Derived.LoopTactic
import Derived.MapKept
import Derived.Maps.OwnIn
import Derived.Maps.OwnOps
import Derived.Maps.OwnSet
import Derived.Maps.Views
import Derived.OpenShut
import Derived.OrdersIn
import Derived.OwnWalkIn
import Derived.ProofKit
import Derived.RangeFuncBound
import Derived.RangeFuncCalls
import Derived.RangeFuncLeaves
import Derived.RangeFuncNested
import Derived.Recover
import Derived.Scope
import Derived.Shelf.Abstract
import Derived.Shelf.RegionOpen
import Derived.Sort.OwnSorted
import Derived.Sort.OwnSortedInts
import Derived.StillTail
import Derived.Stop.LaidErr
import Derived.TacticsInMore
import Derived.Test.YtlppdgaogdpajaaGreatDoorCards
import Derived.Test.YtlppdgaogdpajaaGreatDoorProg
import Derived.Test.YtlppdgaogdpajaaGreatDoorRows
import Derived.Test.YtlppdgaogdpajaaGreatDoorShelf
import Derived.Test.YtlppdgaogdpajaaGreatDoorTie
import Derived.WalkLawsBesides
import Derived.WalkMore
import Derived.WalkSpells
import Derived.WideKeyArgs
namespace Go.Proofs.YtlppdgaogdpajaaGreatDoor.fellWays
open Go.ChangeShapes Go.WideShapes Go.ChangeAt Go.RowKit Go.Joins Go.Deep
open Go.ChangeMaps (open_string shut_string)
theorem beside_small (f : Fe) (a : Int) (hs : shortV f = true) : (besideV f a).length ≤ 100 := by
 unfold shortV at hs
 simp only [Bool.and_eq_true, decide_eq_true_eq] at hs
 have h1 : (besideV f a).length ≤ f.gates.length := by
  unfold besideV setI
  refine Nat.le_trans (compact_le _) ?_
  unfold sortI
  rw [List.length_mergeSort]
  unfold besideL
  exact List.length_filterMap_le _ _
 omega
theorem ways_num {f : Fe} {s t : Int} (h : (waysV f s t).2 = 0) : 0 ≤ (waysV f s t).1 ∧ (waysV f s t).1 ≤ 8 := by
 obtain ⟨ha, k, hk, hd⟩ := ways_some h
 have hc := asked_right ha
 have hin : 0 ≤ s ∧ s ≤ (f.places.length : Int) - 1 := by
  unfold askedE at ha
  rw [if_neg (by omega)] at ha
  by_cases e : [s, t].any (offB f) = true
  ·rw [if_pos e] at ha; cases ha
  ·simp [offB, rg] at e
   omega
 have := dist_lt hc hin hd
 have := (right_of hc).p8
 rw [hk]
 omega
set_option maxRecDepth 100000 in
set_option maxHeartbeats 8000000 in
theorem walk_s (m : Fm) (a b c : Int) {w : World} (hm : m.Arg w) (hs : shortV m.f = false) (hL : LibW w) :
  Calls Tryz.prog 10 #[m.v, .int .i64 a, .int .i64 b, .int .i64 c] w fun e w' => e = .returned (.bool true) ∧ Below w.heap.size w w' := by
 have hS := fun W (hb : Below w.heap.size w W) => c_Short m W (hm.later hb)
 rw [hs] at hS
 have HS := Lib.hid hS
 have HL := Lib.hid hL
 clear hS hL hm
 go_enter Tryz.func10, Tryz.ntmps10
 go_upto_region 1 with (fail)
 go_name_world W1 hW1
 have hbn : Below w.heap.size w W1 := by subst hW1; go_grown
 have hb0 := hbn
 clear hbn
 have q0n : W1.cell? ⟨w.heap.size, 0, none⟩ = some (.int .i64 m.f.ticks) := by subst hW1; go_simp
 have q1n : W1.cell? ⟨w.heap.size, 1, none⟩ = some (.int .i64 m.f.yields) := by subst hW1; go_simp
 have q2n : W1.cell? ⟨w.heap.size, 2, none⟩ = some (.slice m.pa m.f.places.length m.pc) := by subst hW1; go_simp
 have q3n : W1.cell? ⟨w.heap.size, 3, none⟩ = some (.slice m.ga m.f.gates.length m.gc) := by subst hW1; go_simp
 clear hW1 
 have q0 := q0n
 have q1 := q1n
 have q2 := q2n
 have q3 := q3n
 clear q0n q1n q2n q3n 
 go_wp2_with fail
 refine (via (w0 := W1) (by go_grown) (HS.out _ hb0)).mono ?_
 rintro e W2 ⟨rfl, hc, hf, hz, hB⟩
 have zz := cy4 hc q0 q1 q2 q3
 clear q0 q1 q2 q3
 obtain ⟨q0, q1, q2, q3⟩ := zz
 have hbn : Below w.heap.size w W2 := bthen hb0 hB
 clear hb0
 have hb0 := hbn
 clear hbn
 have hzW2 : W1.heap.size ≤ W2.heap.size := hz
 clear hc hf hB hz
 go_wp2_with fail
 refine (via (w0 := W2) (by go_grown) (c_alive _ (HL.out.later hb0))).mono ?_
 rintro e W3 ⟨rfl, hc, hf, hz, hB⟩
 have zz := cy4 hc q0 q1 q2 q3
 clear q0 q1 q2 q3
 obtain ⟨q0, q1, q2, q3⟩ := zz
 have hbn : Below w.heap.size w W3 := bthen hb0 hB
 clear hb0
 have hb0 := hbn
 clear hbn
 have hzW3 : W2.heap.size ≤ W3.heap.size := hz
 clear hc hf hB hz
 go_wp2_with fail
 go_ret
 exact ⟨rfl, by have hbz := hb0.size; go_grown⟩
structure W4 (m : Fm) (a b c x e z h u i : Int) (w : World) : Prop where
 ab : ∀ W, Below w.heap.size w W → Calls Tryz.prog 50 #[m.v, .int .i64 a, .int .i64 b] W fun E W' => E = .returned (.tuple #[.int .i64 x, .int .i64 e]) ∧ Below W.heap.size W W'
 ba : ∀ W, Below w.heap.size w W → Calls Tryz.prog 50 #[m.v, .int .i64 b, .int .i64 a] W fun E W' => E = .returned (.tuple #[.int .i64 x, .int .i64 e]) ∧ Below W.heap.size W W'
 bc : ∀ W, Below w.heap.size w W → Calls Tryz.prog 50 #[m.v, .int .i64 b, .int .i64 c] W fun E W' => E = .returned (.tuple #[.int .i64 z, .int .i64 h]) ∧ Below W.heap.size W W'
 ac : ∀ W, Below w.heap.size w W → Calls Tryz.prog 50 #[m.v, .int .i64 a, .int .i64 c] W fun E W' => E = .returned (.tuple #[.int .i64 u, .int .i64 i]) ∧ Below W.heap.size W W'
theorem w4_of {m : Fm} {w : World} (hm : m.In w) (a b c : Int) : W4 m a b c (waysV m.f a b).1 (waysV m.f a b).2 (waysV m.f b c).1 (waysV m.f b c).2 (waysV m.f a c).1 (waysV m.f a c).2 w :=
 ⟨fun W hb => c_Ways m a b W (hm.later hb), fun W hb => by rw [ways_sym]; exact c_Ways m b a W (hm.later hb), fun W hb => c_Ways m b c W (hm.later hb), fun W hb => c_Ways m a c W (hm.later hb)⟩
set_option maxRecDepth 100000 in
set_option maxHeartbeats 8000000 in
theorem walk_e (m : Fm) (a b c : Int) {w : World} (hm : m.Arg w) (hs : shortV m.f = true) (x e z h u i : Int) (H4 : W4 m a b c x e z h u i w) (he : e ≠ 0) (hL : LibW w) :
  Calls Tryz.prog 10 #[m.v, .int .i64 a, .int .i64 b, .int .i64 c] w fun e w' => e = .returned (.bool true) ∧ Below w.heap.size w w' := by
 have hS := fun W (hb : Below w.heap.size w W) => c_Short m W (hm.later hb)
 rw [hs] at hS
 have HS := Lib.hid hS
 have HL := Lib.hid hL
 have hmi := short_in hm hs
 have HM := Lib.hid hmi
 have A1 := Lib.hid H4.ab
 have A2 := Lib.hid H4.ba
 have A3 := Lib.hid H4.bc
 have A4 := Lib.hid H4.ac
 have e1 : (e == 0) = false := beq_eq_false_iff_ne.2 he
 have hB := fun W (hb : Below w.heap.size w W) => c_Beside m a W (hmi.later hb)
 have HB := Lib.hid hB
 clear hS hL hm hmi H4 hB he
 go_enter Tryz.func10, Tryz.ntmps10
 go_upto_region 1 with (fail)
 go_name_world W1 hW1
 have hbn : Below w.heap.size w W1 := by subst hW1; go_grown
 have hb0 := hbn
 clear hbn
 have q0n : W1.cell? ⟨w.heap.size, 0, none⟩ = some (.int .i64 m.f.ticks) := by subst hW1; go_simp
 have q1n : W1.cell? ⟨w.heap.size, 1, none⟩ = some (.int .i64 m.f.yields) := by subst hW1; go_simp
 have q2n : W1.cell? ⟨w.heap.size, 2, none⟩ = some (.slice m.pa m.f.places.length m.pc) := by subst hW1; go_simp
 have q3n : W1.cell? ⟨w.heap.size, 3, none⟩ = some (.slice m.ga m.f.gates.length m.gc) := by subst hW1; go_simp
 clear hW1 
 have q0 := q0n
 have q1 := q1n
 have q2 := q2n
 have q3 := q3n
 clear q0n q1n q2n q3n 
 go_wp2_with fail
 refine (via (w0 := W1) (by go_grown) (HS.out _ hb0)).mono ?_
 rintro e W2 ⟨rfl, hc, hf, hz, hB⟩
 have zz := cy4 hc q0 q1 q2 q3
 clear q0 q1 q2 q3
 obtain ⟨q0, q1, q2, q3⟩ := zz
 have hbn : Below w.heap.size w W2 := bthen hb0 hB
 clear hb0
 have hb0 := hbn
 clear hbn
 have hzW2 : W1.heap.size ≤ W2.heap.size := hz
 clear hc hf hB hz
 go_wp2_with fail
 refine (via (w0 := W2) (by go_grown) (A1.out _ hb0)).mono ?_
 rintro e W3 ⟨rfl, hc, hf, hz, hB⟩
 have zz := cy4 hc q0 q1 q2 q3
 clear q0 q1 q2 q3
 obtain ⟨q0, q1, q2, q3⟩ := zz
 have hbn : Below w.heap.size w W3 := bthen hb0 hB
 clear hb0
 have hb0 := hbn
 clear hbn
 have hzW3 : W2.heap.size ≤ W3.heap.size := hz
 clear hc hf hB hz
 go_wp2_with fail
 refine (via (w0 := W3) (by go_grown) (A2.out _ hb0)).mono ?_
 rintro e W4 ⟨rfl, hc, hf, hz, hB⟩
 have zz := cy4 hc q0 q1 q2 q3
 clear q0 q1 q2 q3
 obtain ⟨q0, q1, q2, q3⟩ := zz
 have hbn : Below w.heap.size w W4 := bthen hb0 hB
 clear hb0
 have hb0 := hbn
 clear hbn
 have hzW4 : W3.heap.size ≤ W4.heap.size := hz
 clear hc hf hB hz
 go_wp2_with fail
 refine (via (w0 := W4) (by go_grown) (A3.out _ hb0)).mono ?_
 rintro e W5 ⟨rfl, hc, hf, hz, hB⟩
 have zz := cy4 hc q0 q1 q2 q3
 clear q0 q1 q2 q3
 obtain ⟨q0, q1, q2, q3⟩ := zz
 have hbn : Below w.heap.size w W5 := bthen hb0 hB
 clear hb0
 have hb0 := hbn
 clear hbn
 have hzW5 : W4.heap.size ≤ W5.heap.size := hz
 clear hc hf hB hz
 go_wp2_with fail
 refine (via (w0 := W5) (by go_grown) (A4.out _ hb0)).mono ?_
 rintro e W6 ⟨rfl, hc, hf, hz, hB⟩
 have zz := cy4 hc q0 q1 q2 q3
 clear q0 q1 q2 q3
 obtain ⟨q0, q1, q2, q3⟩ := zz
 have hbn : Below w.heap.size w W6 := bthen hb0 hB
 clear hb0
 have hb0 := hbn
 clear hbn
 have hzW6 : W5.heap.size ≤ W6.heap.size := hz
 clear hc hf hB hz
 go_wp2_with fail
 refine (HB.out _ hb0).mono ?_
 rintro E W7 ⟨v, rfl, hown, hB⟩
 have HOW := Lib.hid hown
 clear hown
 have hc := (bcell hB).1
 have zz := cy4 hc q0 q1 q2 q3
 clear q0 q1 q2 q3
 obtain ⟨q0, q1, q2, q3⟩ := zz
 replace hb0 := bthen hb0 hB
 clear hc hB
 obtain ⟨BL, BE⟩ := besV m.f a
 dsimp only at HOW ⊢
 by_cases hbe : BE = 0
 case pos =>
  subst hbe
  go_wp2_with fail
  refine (c_alive _ (HL.out.later hb0)).mono ?_
  rintro E W9 ⟨rfl, hB⟩
  have hbn := bthen hb0 hB
  clear hb0 hB
  go_wp2
  go_ret
  exact ⟨rfl, hbn⟩
 case neg =>
  have e2 : (BE == 0) = false := beq_eq_false_iff_ne.2 hbe
  clear hbe
  go_wp2_with fail
  refine (c_alive _ (HL.out.later hb0)).mono ?_
  rintro E W9 ⟨rfl, hB⟩
  have hbn := bthen hb0 hB
  clear hb0 hB
  go_wp2
  go_ret
  exact ⟨rfl, hbn⟩
set_option maxRecDepth 100000 in
set_option maxHeartbeats 8000000 in
theorem walk_h (m : Fm) (a b c : Int) {w : World} (hm : m.Arg w) (hs : shortV m.f = true) (x e z h u i : Int) (H4 : W4 m a b c x e z h u i w) (he : e = 0) (hz : (x == 0) = (a == b)) (hbs : besV m.f a = (besideV m.f a, 0)) (hone : decide (b ∈ besideV m.f a) = (x == 1)) (hh : h ≠ 0) (hL : LibW w) :
  Calls Tryz.prog 10 #[m.v, .int .i64 a, .int .i64 b, .int .i64 c] w fun e w' => e = .returned (.bool true) ∧ Below w.heap.size w w' := by
 subst he
 have hS := fun W (hb : Below w.heap.size w W) => c_Short m W (hm.later hb)
 rw [hs] at hS
 have HS := Lib.hid hS
 have HL := Lib.hid hL
 have hmi := short_in hm hs
 have HM := Lib.hid hmi
 have A1 := Lib.hid H4.ab
 have A2 := Lib.hid H4.ba
 have A3 := Lib.hid H4.bc
 have A4 := Lib.hid H4.ac
 have e3 : (h == 0) = false := beq_eq_false_iff_ne.2 hh
 have hB := fun W (hb : Below w.heap.size w W) => c_Beside m a W (hmi.later hb)
 rw [hbs] at hB
 have HB := Lib.hid hB
 have HO := Lib.hid hone
 obtain ⟨bz, hbz⟩ : ∃ t, (a == b) = t := ⟨_, rfl⟩
 rw [hbz] at hz
 clear hS hL hm hmi H4 hB hbs hone hh
 have HBLN := Lib.hid (beside_small m.f a hs)
 generalize besideV m.f a = BL at HB HO HBLN
 go_enter Tryz.func10, Tryz.ntmps10
 go_upto_region 1 with (fail)
 go_name_world W1 hW1
 have hbn : Below w.heap.size w W1 := by subst hW1; go_grown
 have hb0 := hbn
 clear hbn
 have q0n : W1.cell? ⟨w.heap.size, 0, none⟩ = some (.int .i64 m.f.ticks) := by subst hW1; go_simp
 have q1n : W1.cell? ⟨w.heap.size, 1, none⟩ = some (.int .i64 m.f.yields) := by subst hW1; go_simp
 have q2n : W1.cell? ⟨w.heap.size, 2, none⟩ = some (.slice m.pa m.f.places.length m.pc) := by subst hW1; go_simp
 have q3n : W1.cell? ⟨w.heap.size, 3, none⟩ = some (.slice m.ga m.f.gates.length m.gc) := by subst hW1; go_simp
 clear hW1 
 have q0 := q0n
 have q1 := q1n
 have q2 := q2n
 have q3 := q3n
 clear q0n q1n q2n q3n 
 go_wp2_with fail
 refine (via (w0 := W1) (by go_grown) (HS.out _ hb0)).mono ?_
 rintro e W2 ⟨rfl, hc, hf, hz, hB⟩
 have zz := cy4 hc q0 q1 q2 q3
 clear q0 q1 q2 q3
 obtain ⟨q0, q1, q2, q3⟩ := zz
 have hbn : Below w.heap.size w W2 := bthen hb0 hB
 clear hb0
 have hb0 := hbn
 clear hbn
 have hzW2 : W1.heap.size ≤ W2.heap.size := hz
 clear hc hf hB hz
 go_wp2_with fail
 refine (via (w0 := W2) (by go_grown) (A1.out _ hb0)).mono ?_
 rintro e W3 ⟨rfl, hc, hf, hz, hB⟩
 have zz := cy4 hc q0 q1 q2 q3
 clear q0 q1 q2 q3
 obtain ⟨q0, q1, q2, q3⟩ := zz
 have hbn : Below w.heap.size w W3 := bthen hb0 hB
 clear hb0
 have hb0 := hbn
 clear hbn
 have hzW3 : W2.heap.size ≤ W3.heap.size := hz
 clear hc hf hB hz
 go_wp2_with fail
 refine (via (w0 := W3) (by go_grown) (A2.out _ hb0)).mono ?_
 rintro e W4 ⟨rfl, hc, hf, hz, hB⟩
 have zz := cy4 hc q0 q1 q2 q3
 clear q0 q1 q2 q3
 obtain ⟨q0, q1, q2, q3⟩ := zz
 have hbn : Below w.heap.size w W4 := bthen hb0 hB
 clear hb0
 have hb0 := hbn
 clear hbn
 have hzW4 : W3.heap.size ≤ W4.heap.size := hz
 clear hc hf hB hz
 go_wp2_with fail
 refine (via (w0 := W4) (by go_grown) (A3.out _ hb0)).mono ?_
 rintro e W5 ⟨rfl, hc, hf, hz, hB⟩
 have zz := cy4 hc q0 q1 q2 q3
 clear q0 q1 q2 q3
 obtain ⟨q0, q1, q2, q3⟩ := zz
 have hbn : Below w.heap.size w W5 := bthen hb0 hB
 clear hb0
 have hb0 := hbn
 clear hbn
 have hzW5 : W4.heap.size ≤ W5.heap.size := hz
 clear hc hf hB hz
 go_wp2_with fail
 refine (via (w0 := W5) (by go_grown) (A4.out _ hb0)).mono ?_
 rintro e W6 ⟨rfl, hc, hf, hz, hB⟩
 have zz := cy4 hc q0 q1 q2 q3
 clear q0 q1 q2 q3
 obtain ⟨q0, q1, q2, q3⟩ := zz
 have hbn : Below w.heap.size w W6 := bthen hb0 hB
 clear hb0
 have hb0 := hbn
 clear hbn
 have hzW6 : W5.heap.size ≤ W6.heap.size := hz
 clear hc hf hB hz
 cases bz
 ·go_wp2_with fail
  refine (HB.out _ hb0).mono ?_
  rintro E W7 ⟨v, rfl, hown, hB⟩
  have HOW := Lib.hid hown
  clear hown
  have hc := (bcell hB).1
  have zz := cy4 hc q0 q1 q2 q3
  clear q0 q1 q2 q3
  obtain ⟨q0, q1, q2, q3⟩ := zz
  replace hb0 := bthen hb0 hB
  clear hc hB
  obtain ⟨bb, bc, rfl, _, _, hnl, _⟩ := Lst.own numC_len HOW.out
  have hbl : BL.length ≤ 1000000000000 := (by have := HBLN.out; omega)
  have hnl2 := hnl hbl
  clear hnl
  go_wp2_with fail
  refine (c_alive _ (HL.out.later hb0)).mono ?_
  rintro E W8 ⟨rfl, hB⟩
  have HNL := Lib.hid (hnl2.later hB)
  replace hb0 := bthen hb0 hB
  clear hB hnl2
  go_wp2_with fail
  refine (c_ContainsN b BL bb bc _ HNL.out).mono ?_
  rw [HO.out]
  rintro E W9 ⟨rfl, hB⟩
  have hbn := bthen hb0 hB
  clear hb0 hB
  obtain ⟨bo, hbo⟩ : ∃ t, (x == 1) = t := ⟨_, rfl⟩
  rw [hbo]
  cases bo
  ·go_wp2
   go_ret
   exact ⟨rfl, hbn⟩
  ·go_wp2
   go_ret
   exact ⟨rfl, hbn⟩
 ·go_wp2_with fail
  refine (HB.out _ hb0).mono ?_
  rintro E W7 ⟨v, rfl, hown, hB⟩
  have HOW := Lib.hid hown
  clear hown
  have hc := (bcell hB).1
  have zz := cy4 hc q0 q1 q2 q3
  clear q0 q1 q2 q3
  obtain ⟨q0, q1, q2, q3⟩ := zz
  replace hb0 := bthen hb0 hB
  clear hc hB
  obtain ⟨bb, bc, rfl, _, _, hnl, _⟩ := Lst.own numC_len HOW.out
  have hbl : BL.length ≤ 1000000000000 := (by have := HBLN.out; omega)
  have hnl2 := hnl hbl
  clear hnl
  go_wp2_with fail
  refine (c_alive _ (HL.out.later hb0)).mono ?_
  rintro E W8 ⟨rfl, hB⟩
  have HNL := Lib.hid (hnl2.later hB)
  replace hb0 := bthen hb0 hB
  clear hB hnl2
  go_wp2_with fail
  refine (c_ContainsN b BL bb bc _ HNL.out).mono ?_
  rw [HO.out]
  rintro E W9 ⟨rfl, hB⟩
  have hbn := bthen hb0 hB
  clear hb0 hB
  obtain ⟨bo, hbo⟩ : ∃ t, (x == 1) = t := ⟨_, rfl⟩
  rw [hbo]
  cases bo
  ·go_wp2
   go_ret
   exact ⟨rfl, hbn⟩
  ·go_wp2
   go_ret
   exact ⟨rfl, hbn⟩
set_option maxRecDepth 100000 in
set_option maxHeartbeats 8000000 in
theorem walk_ok (m : Fm) (a b c : Int) {w : World} (hm : m.Arg w) (hs : shortV m.f = true) (x e z h u i : Int) (H4 : W4 m a b c x e z h u i w) (he : e = 0) (hz : (x == 0) = (a == b)) (hbs : besV m.f a = (besideV m.f a, 0)) (hone : decide (b ∈ besideV m.f a) = (x == 1)) (hh : h = 0) (hi : i = 0) (hu : u ≤ x + z) (xb : 0 ≤ x ∧ x ≤ 8) (zb : 0 ≤ z ∧ z ≤ 8) (hL : LibW w) :
  Calls Tryz.prog 10 #[m.v, .int .i64 a, .int .i64 b, .int .i64 c] w fun e w' => e = .returned (.bool true) ∧ Below w.heap.size w w' := by
 subst he
 have hS := fun W (hb : Below w.heap.size w W) => c_Short m W (hm.later hb)
 rw [hs] at hS
 have HS := Lib.hid hS
 have HL := Lib.hid hL
 have hmi := short_in hm hs
 have HM := Lib.hid hmi
 have A1 := Lib.hid H4.ab
 have A2 := Lib.hid H4.ba
 have A3 := Lib.hid H4.bc
 have A4 := Lib.hid H4.ac
 subst hh hi
 have e4 : ¬ x + z < u := by omega
 have hB := fun W (hb : Below w.heap.size w W) => c_Beside m a W (hmi.later hb)
 rw [hbs] at hB
 have HB := Lib.hid hB
 have HO := Lib.hid hone
 obtain ⟨bz, hbz⟩ : ∃ t, (a == b) = t := ⟨_, rfl⟩
 rw [hbz] at hz
 clear hS hL hm hmi H4 hB hbs hone
 have HBLN := Lib.hid (beside_small m.f a hs)
 generalize besideV m.f a = BL at HB HO HBLN
 go_enter Tryz.func10, Tryz.ntmps10
 go_upto_region 1 with (fail)
 go_name_world W1 hW1
 have hbn : Below w.heap.size w W1 := by subst hW1; go_grown
 have hb0 := hbn
 clear hbn
 have q0n : W1.cell? ⟨w.heap.size, 0, none⟩ = some (.int .i64 m.f.ticks) := by subst hW1; go_simp
 have q1n : W1.cell? ⟨w.heap.size, 1, none⟩ = some (.int .i64 m.f.yields) := by subst hW1; go_simp
 have q2n : W1.cell? ⟨w.heap.size, 2, none⟩ = some (.slice m.pa m.f.places.length m.pc) := by subst hW1; go_simp
 have q3n : W1.cell? ⟨w.heap.size, 3, none⟩ = some (.slice m.ga m.f.gates.length m.gc) := by subst hW1; go_simp
 clear hW1 
 have q0 := q0n
 have q1 := q1n
 have q2 := q2n
 have q3 := q3n
 clear q0n q1n q2n q3n 
 go_wp2_with fail
 refine (via (w0 := W1) (by go_grown) (HS.out _ hb0)).mono ?_
 rintro e W2 ⟨rfl, hc, hf, hz, hB⟩
 have zz := cy4 hc q0 q1 q2 q3
 clear q0 q1 q2 q3
 obtain ⟨q0, q1, q2, q3⟩ := zz
 have hbn : Below w.heap.size w W2 := bthen hb0 hB
 clear hb0
 have hb0 := hbn
 clear hbn
 have hzW2 : W1.heap.size ≤ W2.heap.size := hz
 clear hc hf hB hz
 go_wp2_with fail
 refine (via (w0 := W2) (by go_grown) (A1.out _ hb0)).mono ?_
 rintro e W3 ⟨rfl, hc, hf, hz, hB⟩
 have zz := cy4 hc q0 q1 q2 q3
 clear q0 q1 q2 q3
 obtain ⟨q0, q1, q2, q3⟩ := zz
 have hbn : Below w.heap.size w W3 := bthen hb0 hB
 clear hb0
 have hb0 := hbn
 clear hbn
 have hzW3 : W2.heap.size ≤ W3.heap.size := hz
 clear hc hf hB hz
 go_wp2_with fail
 refine (via (w0 := W3) (by go_grown) (A2.out _ hb0)).mono ?_
 rintro e W4 ⟨rfl, hc, hf, hz, hB⟩
 have zz := cy4 hc q0 q1 q2 q3
 clear q0 q1 q2 q3
 obtain ⟨q0, q1, q2, q3⟩ := zz
 have hbn : Below w.heap.size w W4 := bthen hb0 hB
 clear hb0
 have hb0 := hbn
 clear hbn
 have hzW4 : W3.heap.size ≤ W4.heap.size := hz
 clear hc hf hB hz
 go_wp2_with fail
 refine (via (w0 := W4) (by go_grown) (A3.out _ hb0)).mono ?_
 rintro e W5 ⟨rfl, hc, hf, hz, hB⟩
 have zz := cy4 hc q0 q1 q2 q3
 clear q0 q1 q2 q3
 obtain ⟨q0, q1, q2, q3⟩ := zz
 have hbn : Below w.heap.size w W5 := bthen hb0 hB
 clear hb0
 have hb0 := hbn
 clear hbn
 have hzW5 : W4.heap.size ≤ W5.heap.size := hz
 clear hc hf hB hz
 go_wp2_with fail
 refine (via (w0 := W5) (by go_grown) (A4.out _ hb0)).mono ?_
 rintro e W6 ⟨rfl, hc, hf, hz, hB⟩
 have zz := cy4 hc q0 q1 q2 q3
 clear q0 q1 q2 q3
 obtain ⟨q0, q1, q2, q3⟩ := zz
 have hbn : Below w.heap.size w W6 := bthen hb0 hB
 clear hb0
 have hb0 := hbn
 clear hbn
 have hzW6 : W5.heap.size ≤ W6.heap.size := hz
 clear hc hf hB hz
 cases bz
 ·go_wp2_with fail
  refine (HB.out _ hb0).mono ?_
  rintro E W7 ⟨v, rfl, hown, hB⟩
  have HOW := Lib.hid hown
  clear hown
  have hc := (bcell hB).1
  have zz := cy4 hc q0 q1 q2 q3
  clear q0 q1 q2 q3
  obtain ⟨q0, q1, q2, q3⟩ := zz
  replace hb0 := bthen hb0 hB
  clear hc hB
  obtain ⟨bb, bc, rfl, _, _, hnl, _⟩ := Lst.own numC_len HOW.out
  have hbl : BL.length ≤ 1000000000000 := (by have := HBLN.out; omega)
  have hnl2 := hnl hbl
  clear hnl
  go_wp2_with fail
  refine (c_alive _ (HL.out.later hb0)).mono ?_
  rintro E W8 ⟨rfl, hB⟩
  have HNL := Lib.hid (hnl2.later hB)
  replace hb0 := bthen hb0 hB
  clear hB hnl2
  go_wp2_with fail
  refine (c_ContainsN b BL bb bc _ HNL.out).mono ?_
  rw [HO.out]
  rintro E W9 ⟨rfl, hB⟩
  have hbn := bthen hb0 hB
  clear hb0 hB
  obtain ⟨bo, hbo⟩ : ∃ t, (x == 1) = t := ⟨_, rfl⟩
  rw [hbo]
  cases bo
  ·go_wp2
   go_ret
   exact ⟨rfl, hbn⟩
  ·go_wp2
   go_ret
   exact ⟨rfl, hbn⟩
 ·go_wp2_with fail
  refine (HB.out _ hb0).mono ?_
  rintro E W7 ⟨v, rfl, hown, hB⟩
  have HOW := Lib.hid hown
  clear hown
  have hc := (bcell hB).1
  have zz := cy4 hc q0 q1 q2 q3
  clear q0 q1 q2 q3
  obtain ⟨q0, q1, q2, q3⟩ := zz
  replace hb0 := bthen hb0 hB
  clear hc hB
  obtain ⟨bb, bc, rfl, _, _, hnl, _⟩ := Lst.own numC_len HOW.out
  have hbl : BL.length ≤ 1000000000000 := (by have := HBLN.out; omega)
  have hnl2 := hnl hbl
  clear hnl
  go_wp2_with fail
  refine (c_alive _ (HL.out.later hb0)).mono ?_
  rintro E W8 ⟨rfl, hB⟩
  have HNL := Lib.hid (hnl2.later hB)
  replace hb0 := bthen hb0 hB
  clear hB hnl2
  go_wp2_with fail
  refine (c_ContainsN b BL bb bc _ HNL.out).mono ?_
  rw [HO.out]
  rintro E W9 ⟨rfl, hB⟩
  have hbn := bthen hb0 hB
  clear hb0 hB
  obtain ⟨bo, hbo⟩ : ∃ t, (x == 1) = t := ⟨_, rfl⟩
  rw [hbo]
  cases bo
  ·go_wp2
   go_ret
   exact ⟨rfl, hbn⟩
  ·go_wp2
   go_ret
   exact ⟨rfl, hbn⟩
theorem walk {w : World} (m : Fm) (hm : m.Arg w) (a b c : Int) (hL : LibW w) : Calls Tryz.prog 10 #[m.v, .int .i64 a, .int .i64 b, .int .i64 c] w fun e w' => e = .returned (.bool true) ∧ Below w.heap.size w w' := by
 cases hs : shortV m.f with
 | false => exact walk_s m a b c hm hs hL
 | true =>
  have H4 := w4_of (short_in hm hs) a b c
  by_cases he : (waysV m.f a b).2 = 0
  ·have hz : ((waysV m.f a b).1 == 0) = (a == b) := by
    rw [Bool.eq_iff_iff, beq_iff_eq, beq_iff_eq]
    exact ways_zero he
   have hone : decide (b ∈ besideV m.f a) = ((waysV m.f a b).1 == 1) := by
    rw [Bool.eq_iff_iff, decide_eq_true_eq, beq_iff_eq]
    exact (ways_one he).symm
   have hbs : besV m.f a = (besideV m.f a, 0) := by
    have ha := (ways_some he).1
    have hc := asked_right ha
    unfold besV
    rw [if_neg]
    unfold askedE at ha ⊢
    rw [if_neg (by omega)] at ha ⊢
    by_cases e1 : [a, b].any (offB m.f) = true
    ·rw [if_pos e1] at ha; cases ha
    ·rw [if_neg]
     ·decide
     ·simp at e1 ⊢
      exact e1.1
   by_cases hh : (waysV m.f b c).2 = 0
   ·obtain ⟨hi, hu⟩ := ways_less he hh
    exact walk_ok m a b c hm hs _ _ _ _ _ _ H4 he hz hbs hone hh hi hu (ways_num he) (ways_num hh) hL
   ·exact walk_h m a b c hm hs _ _ _ _ _ _ H4 he hz hbs hone hh hL
  ·exact walk_e m a b c hm hs _ _ _ _ _ _ H4 he hL
set_option maxRecDepth 100000 in
theorem contract (H : Type) (enc : TypeId × Value → H) (W : World) (base : Nat) (args : Array Value) (ds gs : List (DataW H)) (before : List MemPlace)
    (hval : ∀ (j : Nat) t v, Tryz.f10.params[j]? = some t → args[j]? = some v → Value.okWide Tryz.prog W .any base t v)
    (hW : DataW.Whole enc Tryz.prog Tryz.f10.params.toList Rows.fellWaysSpec.vars false W args.toList ds gs before) (hL : LibW W) :
    Calls Tryz.prog 10 args W fun e W' => ∃ v, e = .returned v ∧ Rows.fellWaysSpec.post enc Tryz.prog Tryz.f10 false true false false W args v W' := by
  have hW' := hW
  obtain ⟨p, q, hA0, hV, rfl, _, _⟩ := hW
  have hA : DataW.TrodAll enc Tryz.prog W 0 (fun _ => true) true Tryz.f10.params.toList args.toList ds p := hA0
  rw [Tryz.params10] at hA hval
  obtain ⟨v0, vs0, d0, ds0, p0, q0, hargs, rfl, rfl, h0, r0⟩ := trodAll_cons hA
  obtain ⟨v1, vs1, d1, ds1, p1, q1, rfl, rfl, rfl, h1, r1⟩ := trodAll_cons r0
  obtain ⟨v2, vs2, d2, ds2, p2, q2, rfl, rfl, rfl, h2, r2⟩ := trodAll_cons r1
  obtain ⟨v3, vs3, d3, ds3, p3, q3, rfl, rfl, rfl, h3, r3⟩ := trodAll_cons r2
  obtain ⟨rfl, rfl, rfl⟩ := trodAll_nil r3
  obtain rfl : args = #[v0, v1, v2, v3] := by cases args; simp_all
  obtain ⟨rfl, rfl⟩ := trodVars_none hV
  obtain ⟨m0, rfl, e0⟩ := open_fell (hval 0 25 v0 rfl rfl) h0
  obtain ⟨a1, rfl, rfl, rfl, w1⟩ := open_int Tryz.underlying3 (hval 1 3 v1 rfl rfl) h1
  obtain ⟨a2, rfl, rfl, rfl, w2⟩ := open_int Tryz.underlying3 (hval 2 3 v2 rfl rfl) h2
  obtain ⟨a3, rfl, rfl, rfl, w3⟩ := open_int Tryz.underlying3 (hval 3 3 v3 rfl rfl) h3
  clear hA0
  have s1 := stays h1 (by kernel_rfl) (by kernel_rfl)
  have s2 := stays h2 (by kernel_rfl) (by kernel_rfl)
  have s3 := stays h3 (by kernel_rfl) (by kernel_rfl)
  refine (walk m0 e0 a1 a2 a3 hL).mono fun e W' ⟨he, hg⟩ => ?_
  subst he
  have hlt := fun x hx => hW'.lt x hx
  exact ⟨_, rfl, post_of_below (pa := (p0 ++ ([] ++ ([] ++ ([] ++ []))))) (pv := []) hW' (fun _ _ _ => (trodAll_cons_mk (shut_bool Tryz.underlying4 _) trodAll_mk0)) (fun sp hsp => (trodAll_cons_mk (staysB h0 (by kernel_rfl) (by kernel_rfl) hg hlt (fun x hx => by simp [hx]) sp hsp) (trodAll_cons_mk (s1 _ _) (trodAll_cons_mk (s2 _ _) (trodAll_cons_mk (s3 _ _) trodAll_mk0))))) (fun _ _ => rfl) rfl
    hg (ok_one (by kernel_rfl) rfl (okWide_bool_mk Tryz.underlying4 _))⟩
set_option maxRecDepth 100000 in
theorem reads (os : Os) {H : Type} (enc : TypeId × Value → H) : ∃ places, DataW.whole enc Tryz.prog ((laidWorld os).forCall (fun _ _ => 0) ⟨#[], #[.agg #[.int .i64 0, .int .i64 0, .slice none 0 0, .slice none 0 0], .int .i64 0, .int .i64 0, .int .i64 0], []⟩).memory Tryz.f10.params.toList Rows.fellWaysSpec.vars false (Array.toList #[.agg #[.int .i64 0, .int .i64 0, .slice none 0 0, .slice none 0 0], .int .i64 0, .int .i64 0, .int .i64 0]) 8 = some ([.agg [.lit (.int .i64 0), .lit (.int .i64 0), .nil, .nil], .lit (.int .i64 0), .lit (.int .i64 0), .lit (.int .i64 0)], [], places) :=
 ⟨[], by kernel_rfl⟩
set_option maxRecDepth 100000 in
theorem lifted (os : Os) (started : os.Started) (H : Type) (enc : TypeId × Value → H) (F : Stop.Interp) :
    ReturnsInHanded {} Tryz.checked os 10 .any ((OpenSpec.ofChange Rows.fellWaysSpec).preRow enc Tryz.prog Tryz.f10 Rows.fellWaysRow.domain false Rows.fellWaysRow.laid) (((OpenSpec.ofChange Rows.fellWaysSpec).at F).post enc Tryz.prog Tryz.f10 false true false false) := by
  obtain ⟨places, hx⟩ := reads os enc
  refine returnsInHanded_of_row (C := Tryz.checked) (s := OpenSpec.ofChange Rows.fellWaysSpec) own started (by kernel_rfl) Tryz.func10
    (witness_row_atRef (enc := enc) (C := Tryz.checked) false (laidWorld os) #[.agg #[.int .i64 0, .int .i64 0, .slice none 0 0, .slice none 0 0], .int .i64 0, .int .i64 0, .int .i64 0] rfl (by kernel_rfl) (by kernel_rfl) (by kernel_rfl)
      (OpenSpec.preRow_of_cond 8 hx (by kernel_rfl) (fun k hk => by cases hk) (by kernel_rfl) (laidWorld_met os _))) ?_
  intro W base args ds gs before hval hW _ _ _ hL hsh _
  exact contract H enc W base args ds gs before hval hW (libW_of hL hsh)
theorem said : Rows.FellWaysSaid :=
 OpenClaim.holds_of_cond 10 Tryz.f10 rfl rfl rfl rfl rfl rfl rfl ⟨rfl, rfl, rfl, rfl, rfl⟩ rfl rfl rfl rfl rfl (by as_aux_lemma => kernel_rfl) Tryz.func10 facts
  (of_decide_eq_true (by as_aux_lemma => kernel_rfl)) (by unfold Func.isWrapper; first | (rw [if_pos (by decide +kernel)]; kernel_rfl) | (rw [if_neg (by decide +kernel)]; exact ⟨rfl, rfl⟩))
  (fun os started H enc _ F => by rw [OpenClaim.pre_eq_preRow]; exact lifted os started H enc F)
theorem proved : Rows.FellWaysCardSaid := tied said
end Go.Proofs.YtlppdgaogdpajaaGreatDoor.fellWays
