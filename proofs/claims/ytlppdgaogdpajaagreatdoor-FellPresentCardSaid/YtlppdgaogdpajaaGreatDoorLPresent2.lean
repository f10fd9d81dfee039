/- This text is a part of the proof: Present, Ways, PresentLaw, PFPresent. -/
import Derived.Test.YtlppdgaogdpajaaGreatDoorK1
import Derived.Test.YtlppdgaogdpajaaGreatDoorK2
import Derived.Test.YtlppdgaogdpajaaGreatDoorK3
import Derived.Test.YtlppdgaogdpajaaGreatDoorK4
import Derived.Test.YtlppdgaogdpajaaGreatDoorK5
import Derived.Test.YtlppdgaogdpajaaGreatDoorK6
import Derived.Test.YtlppdgaogdpajaaGreatDoorK7
import Derived.Test.YtlppdgaogdpajaaGreatDoorK8
import Derived.Test.YtlppdgaogdpajaaGreatDoorK9
import Derived.Test.YtlppdgaogdpajaaGreatDoorK10
import Derived.Test.YtlppdgaogdpajaaGreatDoorK11
import Derived.Test.YtlppdgaogdpajaaGreatDoorK12
import Derived.Test.YtlppdgaogdpajaaGreatDoorK13
import Derived.Test.YtlppdgaogdpajaaGreatDoorK14
import Derived.Test.YtlppdgaogdpajaaGreatDoorK15
import Derived.Test.YtlppdgaogdpajaaGreatDoorK16
import Derived.Test.YtlppdgaogdpajaaGreatDoorK17
import Derived.Test.YtlppdgaogdpajaaGreatDoorK18
import Derived.Test.YtlppdgaogdpajaaGreatDoorK19
import Derived.Test.YtlppdgaogdpajaaGreatDoorK20
import Derived.Test.YtlppdgaogdpajaaGreatDoorK21
import Derived.Test.YtlppdgaogdpajaaGreatDoorK22
import Derived.Test.YtlppdgaogdpajaaGreatDoorK23
import Derived.Test.YtlppdgaogdpajaaGreatDoorK24
import Derived.Test.YtlppdgaogdpajaaGreatDoorK25
import Derived.Test.YtlppdgaogdpajaaGreatDoorK26
import Derived.Test.YtlppdgaogdpajaaGreatDoorK27
import Derived.Test.YtlppdgaogdpajaaGreatDoorK28
import Derived.Test.YtlppdgaogdpajaaGreatDoorK29
import Derived.Test.YtlppdgaogdpajaaGreatDoorK30
import Derived.Test.YtlppdgaogdpajaaGreatDoorK31
import Derived.Test.YtlppdgaogdpajaaGreatDoorK32
import Derived.Test.YtlppdgaogdpajaaGreatDoorK33
import Derived.Test.YtlppdgaogdpajaaGreatDoorLPresent1
import Derived.ArgAppend
import Derived.Barred
import Derived.Below
import Derived.BigQuiet
import Derived.ChangeSame
import Derived.Deep.AppendLies
import Derived.Deep.Cut
import Derived.Deep.CutBlock
import Derived.Deep.DeepCutAuto
import Derived.Deep.DeepFit
import Derived.Deep.DeepHandedRow
import Derived.Deep.DeepLaidRun
import Derived.Deep.DeepMust
import Derived.Deep.DeepWitnessRowRef
import Derived.Deep.Fields
import Derived.Deep.LoopGhost
import Derived.Deep.Quiet
import Derived.Deep.QuietTactic
import Derived.Deep.RegionHeld3
import Derived.Deep.RegionLaw
import Derived.Deep.Slices
import Derived.Defers
import Derived.Handy
import Derived.IntWalk
import Derived.Laws.EntriesVeiled
import Derived.Lib.AtoiAll
import Derived.Lib.AtoiAllCases
import Derived.Lib.ConvBytes
import Derived.Lib.Hide
import Derived.Lib.ItoaLen
import Derived.Lib.ItoaMem
import Derived.Lib.ItoaWalk
import Derived.Lib.Join
import Derived.Lib.LaidTab
import Derived.Lib.MinMax
import Derived.Lib.SmallJoins
import Derived.Lib.Split
import Derived.Lib.SplitLaws
import Derived.LoopIn
import Derived.LoopNIn
import Derived.LoopTactic
import Derived.MapKept
import Derived.Maps.OwnIn
import Derived.Maps.OwnOps
import Derived.Maps.OwnSet
import Derived.Maps.Views
import Derived.OpenShut
import Derived.OrdersIn
import Derived.OwnWalkIn
import Derived.ProofKit
import Derived.RangeFuncBound
import Derived.RangeFuncCalls
import Derived.RangeFuncLeaves
import Derived.RangeFuncNested
import Derived.Recover
import Derived.Scope
import Derived.Shelf.Abstract
import Derived.Shelf.RegionOpen
import Derived.Sort.OwnSorted
import Derived.Sort.OwnSortedInts
import Derived.StillTail
import Derived.Stop.LaidErr
import Derived.TacticsInMore
import Derived.Test.YtlppdgaogdpajaaGreatDoorCards
import Derived.Test.YtlppdgaogdpajaaGreatDoorProg
import Derived.Test.YtlppdgaogdpajaaGreatDoorRows
import Derived.Test.YtlppdgaogdpajaaGreatDoorShelf
import Derived.Test.YtlppdgaogdpajaaGreatDoorTie
import Derived.WalkLawsBesides
import Derived.WalkMore
import Derived.WalkSpells
import Derived.WideKeyArgs
namespace Go.Proofs.YtlppdgaogdpajaaGreatDoor
open Go.RowKit Go.Shelf
attribute [local go_sem] Oper.semAt_some
theorem wrapIn {n : Int} (h : -9223372036854775808 ≤ n ∧ n ≤ 9223372036854775807) : wrap64 n = n := by unfold wrap64; omega
set_option maxRecDepth 100000 in
set_option maxHeartbeats 4000000 in
theorem c_Present_no (m : Fm) (l : List Int) (a : Option Addr) (cap : Nat) (t : Int) (w : World) (hm : m.In w) (h : checkE m.f ≠ 0) :
  Calls Tryz.prog 80 #[m.v, .slice a l.length cap, .int .i64 t] w fun e w' => e = .returned (pairV (0, checkE m.f)) ∧ Below w.heap.size w w' := by
 have hC := fun W (hb : Below w.heap.size w W) => c_CheckFell m W (hm.later hb)
 generalize checkE m.f = E at *
 have he : (E != 0) = true := bne_iff_ne.2 h
 have HC := Lib.hid hC
 clear hC h hm
 go_enter Tryz.func80, Tryz.ntmps80
 go_upto_region 1 with (fail)
 go_name_world W1 hW1
 have hbn : Below w.heap.size w W1 := by subst hW1; go_grown
 have hb0 := hbn
 clear hbn
 have q0n : W1.cell? ⟨w.heap.size, 0, none⟩ = some (.int .i64 m.f.ticks) := by subst hW1; go_simp
 have q1n : W1.cell? ⟨w.heap.size, 1, none⟩ = some (.int .i64 m.f.yields) := by subst hW1; go_simp
 have q2n : W1.cell? ⟨w.heap.size, 2, none⟩ = some (.slice m.pa m.f.places.length m.pc) := by subst hW1; go_simp
 have q3n : W1.cell? ⟨w.heap.size, 3, none⟩ = some (.slice m.ga m.f.gates.length m.gc) := by subst hW1; go_simp
 clear hW1 
 have q0 := q0n
 have q1 := q1n
 have q2 := q2n
 have q3 := q3n
 clear q0n q1n q2n q3n 
 go_wp2_with fail
 refine (via (w0 := W1) (by go_grown) (HC.out _ hb0)).mono ?_
 rintro e W2 ⟨rfl, hc, hf, hz, hB⟩
 have zz := cy4 hc q0 q1 q2 q3
 clear q0 q1 q2 q3
 obtain ⟨q0, q1, q2, q3⟩ := zz
 have hbn : Below w.heap.size w W2 := bthen hb0 hB
 clear hb0
 have hb0 := hbn
 clear hbn
 have hzW2 : W1.heap.size ≤ W2.heap.size := hz
 clear hc hf hB hz
 go_wp2_with fail
 go_ret2
 exact ⟨rfl, by have hbz := hb0.size; go_grown⟩
set_option maxRecDepth 100000 in
set_option maxHeartbeats 4000000 in
theorem c_Present_hist (m : Fm) (l : List Int) (a : Option Addr) (cap : Nat) (t : Int) (w : World) (hm : m.In w) (hl : Nums w a l) (h : checkE m.f = 0) (h1 : historyE m.f l ≠ 0) :
  Calls Tryz.prog 80 #[m.v, .slice a l.length cap, .int .i64 t] w fun e w' => e = .returned (pairV (0, historyE m.f l)) ∧ Below w.heap.size w w' := by
 have hC := fun W (hb : Below w.heap.size w W) => c_CheckFell m W (hm.later hb)
 rw [h] at hC
 have hs := (right_of h).small
 have hH := fun W (hb : Below w.heap.size w W) => c_history m l a cap W hs (hl.later hb)
 generalize historyE m.f l = E at *
 have he : (E != 0) = true := bne_iff_ne.2 h1
 have HC := Lib.hid hC
 have HH := Lib.hid hH
 clear hC h hm hH h1 hl hs
 go_enter Tryz.func80, Tryz.ntmps80
 go_upto_region 1 with (fail)
 go_name_world W1 hW1
 have hbn : Below w.heap.size w W1 := by subst hW1; go_grown
 have hb0 := hbn
 clear hbn
 have q0n : W1.cell? ⟨w.heap.size, 0, none⟩ = some (.int .i64 m.f.ticks) := by subst hW1; go_simp
 have q1n : W1.cell? ⟨w.heap.size, 1, none⟩ = some (.int .i64 m.f.yields) := by subst hW1; go_simp
 have q2n : W1.cell? ⟨w.heap.size, 2, none⟩ = some (.slice m.pa m.f.places.length m.pc) := by subst hW1; go_simp
 have q3n : W1.cell? ⟨w.heap.size, 3, none⟩ = some (.slice m.ga m.f.gates.length m.gc) := by subst hW1; go_simp
 clear hW1 
 have q0 := q0n
 have q1 := q1n
 have q2 := q2n
 have q3 := q3n
 clear q0n q1n q2n q3n 
 go_wp2_with fail
 refine (via (w0 := W1) (by go_grown) (HC.out _ hb0)).mono ?_
 rintro e W2 ⟨rfl, hc, hf, hz, hB⟩
 have zz := cy4 hc q0 q1 q2 q3
 clear q0 q1 q2 q3
 obtain ⟨q0, q1, q2, q3⟩ := zz
 have hbn : Below w.heap.size w W2 := bthen hb0 hB
 clear hb0
 have hb0 := hbn
 clear hbn
 have hzW2 : W1.heap.size ≤ W2.heap.size := hz
 clear hc hf hB hz
 go_wp2_with fail
 refine (via (w0 := W2) (by go_grown) (HH.out _ hb0)).mono ?_
 rintro e W3 ⟨rfl, hc, hf, hz, hB⟩
 have zz := cy4 hc q0 q1 q2 q3
 clear q0 q1 q2 q3
 obtain ⟨q0, q1, q2, q3⟩ := zz
 have hbn : Below w.heap.size w W3 := bthen hb0 hB
 clear hb0
 have hb0 := hbn
 clear hbn
 have hzW3 : W2.heap.size ≤ W3.heap.size := hz
 clear hc hf hB hz
 go_wp2_with fail
 go_ret2
 exact ⟨rfl, by have hbz := hb0.size; go_grown⟩
set_option maxRecDepth 100000 in
set_option maxHeartbeats 4000000 in
theorem c_Present_tick (m : Fm) (l : List Int) (a : Option Addr) (cap : Nat) (t : Int) (w : World) (hm : m.In w) (hl : Nums w a l) (h : checkE m.f = 0) (h1 : historyE m.f l = 0) (h2 : rg 0 m.f.ticks t = false) :
  Calls Tryz.prog 80 #[m.v, .slice a l.length cap, .int .i64 t] w fun e w' => e = .returned (pairV (0, 1)) ∧ Below w.heap.size w w' := by
 have hC := fun W (hb : Below w.heap.size w W) => c_CheckFell m W (hm.later hb)
 rw [h] at hC
 have hs := (right_of h).small
 have hH := fun W (hb : Below w.heap.size w W) => c_history m l a cap W hs (hl.later hb)
 rw [h1] at hH
 have hO : ∀ W (hb : Below w.heap.size w W), Calls Tryz.prog 82 #[m.v, .int .i64 t] W (fun e w' => ∃ v, e = .returned (.tuple #[v, .int .i64 1]) ∧ Below W.heap.size W w') := fun W hb => (c_OnFell_tick m t W (hm.later hb) h h2).mono fun e w' ⟨v, h1, _, h3⟩ => ⟨v, h1, h3⟩
 have HO := Lib.hid hO
 clear hO
 have HC := Lib.hid hC
 have HH := Lib.hid hH
 clear hC h hm hH h1 hl hs h2
 go_enter Tryz.func80, Tryz.ntmps80
 go_upto_region 1 with (fail)
 go_name_world W1 hW1
 have hbn : Below w.heap.size w W1 := by subst hW1; go_grown
 have hb0 := hbn
 clear hbn
 have q0n : W1.cell? ⟨w.heap.size, 0, none⟩ = some (.int .i64 m.f.ticks) := by subst hW1; go_simp
 have q1n : W1.cell? ⟨w.heap.size, 1, none⟩ = some (.int .i64 m.f.yields) := by subst hW1; go_simp
 have q2n : W1.cell? ⟨w.heap.size, 2, none⟩ = some (.slice m.pa m.f.places.length m.pc) := by subst hW1; go_simp
 have q3n : W1.cell? ⟨w.heap.size, 3, none⟩ = some (.slice m.ga m.f.gates.length m.gc) := by subst hW1; go_simp
 clear hW1 
 have q0 := q0n
 have q1 := q1n
 have q2 := q2n
 have q3 := q3n
 clear q0n q1n q2n q3n 
 go_wp2_with fail
 refine (via (w0 := W1) (by go_grown) (HC.out _ hb0)).mono ?_
 rintro e W2 ⟨rfl, hc, hf, hz, hB⟩
 have zz := cy4 hc q0 q1 q2 q3
 clear q0 q1 q2 q3
 obtain ⟨q0, q1, q2, q3⟩ := zz
 have hbn : Below w.heap.size w W2 := bthen hb0 hB
 clear hb0
 have hb0 := hbn
 clear hbn
 have hzW2 : W1.heap.size ≤ W2.heap.size := hz
 clear hc hf hB hz
 go_wp2_with fail
 refine (via (w0 := W2) (by go_grown) (HH.out _ hb0)).mono ?_
 rintro e W3 ⟨rfl, hc, hf, hz, hB⟩
 have zz := cy4 hc q0 q1 q2 q3
 clear q0 q1 q2 q3
 obtain ⟨q0, q1, q2, q3⟩ := zz
 have hbn : Below w.heap.size w W3 := bthen hb0 hB
 clear hb0
 have hb0 := hbn
 clear hbn
 have hzW3 : W2.heap.size ≤ W3.heap.size := hz
 clear hc hf hB hz
 go_wp2_with fail
 refine (HO.out _ hb0).mono ?_
 rintro e W3 ⟨v, rfl, hB⟩
 have hbn := bthen hb0 hB
 clear hb0 hB
 have hb0 := hbn
 clear hbn
 go_wp2_with fail
 go_ret2
 exact ⟨rfl, by have hbz := hb0.size; go_grown⟩
set_option maxRecDepth 100000 in
set_option maxHeartbeats 4000000 in
theorem c_Present_ok (m : Fm) (l : List Int) (a : Option Addr) (cap : Nat) (t : Int) (w : World) (hm : m.In w) (hl : Nums w a l) (h : checkE m.f = 0) (h1 : historyE m.f l = 0) (h2 : rg 0 m.f.ticks t = true) :
  Calls Tryz.prog 80 #[m.v, .slice a l.length cap, .int .i64 t] w fun e w' => e = .returned (pairV (sumP (onFellL m.f t) l, 0)) ∧ Below w.heap.size w w' := by
 have hC := fun W (hb : Below w.heap.size w W) => c_CheckFell m W (hm.later hb)
 rw [h] at hC
 have hs := (right_of h).small
 have hH := fun W (hb : Below w.heap.size w W) => c_history m l a cap W hs (hl.later hb)
 rw [h1] at hH
 have hO : ∀ W (hb : Below w.heap.size w W), Calls Tryz.prog 82 #[m.v, .int .i64 t] W (fun e w' => ∃ b c, e = .returned (.tuple #[.slice b (onFellL m.f t).length c, .int .i64 0]) ∧ Nums w' b (onFellL m.f t) ∧ Below W.heap.size W w') := fun W hb => (c_OnFell_ok m t W (hm.later hb) h h2).mono fun e w' ⟨v, h1, h2, h3⟩ => by
  obtain ⟨b, c, rfl, _, _, hn, _⟩ := Lst.own numC_len h2
  have := (count_bd hs).2
  exact ⟨b, c, h1, hn (by rw [onFell_len]; omega), h3⟩
 have hha := hist_all h1
 have hlen : (onFellL m.f t).length = l.length := by rw [onFell_len]; omega
 have hbd := fun k hk => sumK_bd (w := onFellL m.f t) (x := l) (fun _ _ h => onFell_mem h) hha.2 hlen k hk
 have hmem := fun (k : Nat) (a : Int) (h : (onFellL m.f t)[k]? = some a) => onFell_mem h
 have hall := sumK_all hlen
 have hN7 : l.length ≤ 7300 := by have := (count_bd hs).2; omega
 have hrl := hha.2
 generalize onFellL m.f t = L at *
 have HL := Lib.hid hl
 have HBD := Lib.hid hbd
 have HM := Lib.hid hmem
 have HA := Lib.hid hall
 have HR := Lib.hid hrl
 have HLN := Lib.hid hlen
 clear hbd hmem hall hha hrl hlen
 have HO := Lib.hid hO
 clear hO
 have HC := Lib.hid hC
 have HH := Lib.hid hH
 clear hC h hm hH h1 hl hs h2
 go_enter Tryz.func80, Tryz.ntmps80
 go_upto_region 1 with (fail)
 go_name_world W1 hW1
 have hbn : Below w.heap.size w W1 := by subst hW1; go_grown
 have hb0 := hbn
 clear hbn
 have q0n : W1.cell? ⟨w.heap.size, 0, none⟩ = some (.int .i64 m.f.ticks) := by subst hW1; go_simp
 have q1n : W1.cell? ⟨w.heap.size, 1, none⟩ = some (.int .i64 m.f.yields) := by subst hW1; go_simp
 have q2n : W1.cell? ⟨w.heap.size, 2, none⟩ = some (.slice m.pa m.f.places.length m.pc) := by subst hW1; go_simp
 have q3n : W1.cell? ⟨w.heap.size, 3, none⟩ = some (.slice m.ga m.f.gates.length m.gc) := by subst hW1; go_simp
 clear hW1 
 have q0 := q0n
 have q1 := q1n
 have q2 := q2n
 have q3 := q3n
 clear q0n q1n q2n q3n 
 go_wp2_with fail
 refine (via (w0 := W1) (by go_grown) (HC.out _ hb0)).mono ?_
 rintro e W2 ⟨rfl, hc, hf, hz, hB⟩
 have zz := cy4 hc q0 q1 q2 q3
 clear q0 q1 q2 q3
 obtain ⟨q0, q1, q2, q3⟩ := zz
 have hbn : Below w.heap.size w W2 := bthen hb0 hB
 clear hb0
 have hb0 := hbn
 clear hbn
 have hzW2 : W1.heap.size ≤ W2.heap.size := hz
 clear hc hf hB hz
 go_wp2_with fail
 refine (via (w0 := W2) (by go_grown) (HH.out _ hb0)).mono ?_
 rintro e W3 ⟨rfl, hc, hf, hz, hB⟩
 have zz := cy4 hc q0 q1 q2 q3
 clear q0 q1 q2 q3
 obtain ⟨q0, q1, q2, q3⟩ := zz
 have hbn : Below w.heap.size w W3 := bthen hb0 hB
 clear hb0
 have hb0 := hbn
 clear hbn
 have hzW3 : W2.heap.size ≤ W3.heap.size := hz
 clear hc hf hB hz
 go_wp2_with fail
 refine (HO.out _ hb0).mono ?_
 rintro e W5 ⟨b, c, rfl, hW, hB⟩
 have hbn := bthen hb0 hB
 clear hb0 hB q0 q1 q2 q3
 have hb0 := hbn
 clear hbn
 have HW := Lib.hid hW
 clear hW
 have hN7' : (l.length : Int) ≤ 7300 := by omega
 go_wp2
 go_loopw [12, 36] (fun v12 v36 wr => ∃ k : Nat, k ≤ L.length ∧ v36 = .int .i64 k ∧ v12 = .int .i64 (sumK L l k) ∧ Below W5.heap.size W5 wr) (fun _ v36 _ => L.length - (intOf v36).toNat)
 case atStart => exact ⟨0, by omega, rfl, rfl, Below.refl _ _⟩
 case round =>
  obtain ⟨k, hk, rfl, rfl, hb⟩ := hrel
  by_cases hlt : k < L.length
  ·have hltl : k < l.length := by have := HLN.out; omega
   obtain ⟨x, hx⟩ := some_at hlt
   obtain ⟨y, hy⟩ := some_at hltl
   obtain ⟨b1, o1, rfl, hat1⟩ := HW.out.at hx
   obtain ⟨b2, o2, rfl, hat2⟩ := (HL.out.later hb0).at hy
   rw [Nat.mul_one] at hat1 hat2
   have y1 := num_cell (hat1.later hb)
   have y2 := num_cell (hat2.later hb)
   have bx := HM.out k x hx
   have by0 := HR.out y (List.mem_of_getElem? hy)
   have hst := sumK_step hx hy
   have hbs := HBD.out (k + 1) (by omega)
   have hbs0 := HBD.out k (by omega)
   have hm1 : 0 ≤ x * y := Int.mul_nonneg bx.1 by0.1
   have hm2 : x * y ≤ 1 * y := Int.mul_le_mul_of_nonneg_right bx.2 by0.1
   have hw1 : wrap64 (x * y) = x * y := wrapIn (by omega)
   have hw2 : wrap64 (sumK L l k + x * y) = sumK L l (k + 1) := by rw [hst]; exact wrapIn (by omega)
   obtain ⟨s, hs⟩ : ∃ s, sumK L l k = s := ⟨_, rfl⟩
   rw [hs] at hw2 ⊢
   have hi1 : ¬ (k : Int) < 0 := by omega
   have hi2 : (k : Int) < (L.length : Int) := by omega
   have hi3 : (k : Int) < (l.length : Int) := by omega
   clear hat1 hat2 hx hy hst hbs hbs0 hm1 hm2
   go_upto_region 14 with (fail)
   refine wp_region_tail 11 wr (by kernel_rfl) (by kernel_rfl) (Below.refl _ _) ?_
   simp only [List.take_succ_cons, List.take_zero, List.drop_succ_cons, List.drop_zero]
   have k1 := later_cell y1
   have k2 := later_cell y2
   repeat (go_big_quiet_step (fail))
   refine wpQuiet_nil ?_
   rintro ⟨W7, hB7⟩
   dsimp only
   have hbn := bthen hb hB7
   clear k1 k2 y1 y2 hb hB7
   go_wp2
   go_roundw
   case rel => exact ⟨k + 1, by omega, by go_num, by rw [hw2], hbn⟩
   case measure => simp [intOf]; omega
  ·obtain rfl : k = L.length := by omega
   have hr := HA.out
   obtain ⟨s, hs⟩ : ∃ s, sumK L l L.length = s := ⟨_, rfl⟩
   rw [hs] at hr ⊢
   clear hs
   subst hr
   go_wp2
   go_ret2
   exact ⟨rfl, bthen hb0 hb⟩
theorem c_Present (m : Fm) (l : List Int) (a : Option Addr) (cap : Nat) (t : Int) (w : World) (hm : m.In w) (hl : Nums w a l) :
  Calls Tryz.prog 80 #[m.v, .slice a l.length cap, .int .i64 t] w fun e w' => e = .returned (pairV (presentV m.f l t)) ∧ Below w.heap.size w w' := by
 unfold presentV
 by_cases h : checkE m.f = 0
 ·rw [if_neg (by omega)]
  by_cases h1 : historyE m.f l = 0
  ·rw [if_neg (by omega)]
   by_cases h2 : rg 0 m.f.ticks t = false
   ·rw [if_pos h2]; exact c_Present_tick m l a cap t w hm hl h h1 h2
   ·rw [if_neg h2]; exact c_Present_ok m l a cap t w hm hl h h1 (by simpa using h2)
  ·rw [if_pos h1]
   have e1 : historyE m.f l = 1 := by
    unfold historyE at h1 ⊢
    split at h1
    ·rename_i hc; rw [if_pos hc]
    ·exact (h1 rfl).elim
   have h9 := c_Present_hist m l a cap t w hm hl h h1
   rw [e1] at h9
   exact h9
 ·rw [if_pos h]; exact c_Present_no m l a cap t w hm h
end Go.Proofs.YtlppdgaogdpajaaGreatDoor
namespace Go.Proofs.YtlppdgaogdpajaaGreatDoor
def Idx {α : Type} (g : α → Int) (b : Int) (l : List α) : Prop := ∀ (j : Nat) y, l[j]? = some y → g y = b + j
theorem Idx.nil {α : Type} (g : α → Int) (b : Int) : Idx g b [] := fun j y h => by simp at h
theorem Idx.cons {α : Type} {g : α → Int} {b : Int} {x : α} {l : List α} (h : g x = b) (hl : Idx g (b + 1) l) : Idx g b (x :: l) := fun j y hj => by
 cases j with
 | zero =>
  simp only [List.getElem?_cons_zero, Option.some.injEq] at hj
  subst hj
  simpa using h
 | succ j =>
  have := hl j y (by simpa using hj)
  omega
theorem Idx.append {α : Type} {g : α → Int} {b : Int} {l r : List α} (hl : Idx g b l) (hr : Idx g (b + l.length) r) : Idx g b (l ++ r) := fun j y hj => by
 rcases Nat.lt_or_ge j l.length with h | h
 ·rw [List.getElem?_append_left h] at hj
  exact hl j y hj
 ·rw [List.getElem?_append_right h] at hj
  have := hr _ y hj
  omega
theorem Idx.at {α : Type} {g : α → Int} {b b' : Int} {l : List α} (h : Idx g b l) (e : b = b') : Idx g b' l := e ▸ h
theorem Idx.map {α β : Type} {g : α → Int} {h : β → α} (l : List β) (b : Int) (hx : ∀ (i : Nat) x, l[i]? = some x → g (h x) = b + i) : Idx g b (l.map h) := fun j y hj => by
 rw [List.getElem?_map] at hj
 obtain ⟨x, h1, rfl⟩ := Option.map_eq_some_iff.1 hj
 exact hx j x h1
theorem numbered_at {α : Type} {l : List α} {i : Nat} {x : Int × α} (h : (numbered l)[i]? = some x) : x.1 = (i : Int) ∧ l[i]? = some x.2 := by
 unfold numbered at h
 rw [List.getElem?_map, List.getElem?_zipIdx] at h
 obtain ⟨y, h1, rfl⟩ := Option.map_eq_some_iff.1 h
 obtain ⟨z, h2, rfl⟩ := Option.map_eq_some_iff.1 h1
 exact ⟨by simp, h2⟩
end Go.Proofs.YtlppdgaogdpajaaGreatDoor
namespace Go.Proofs.YtlppdgaogdpajaaGreatDoor
theorem sumP_nil (x : List Int) : sumP [] x = 0 := by simp [sumP]
theorem sumP_cons (a b : Int) (w x : List Int) : sumP (a :: w) (b :: x) = a * b + sumP w x := by simp [sumP]
theorem sumP_zero : ∀ (n : Nat) (x : List Int), sumP (List.replicate n 0) x = 0
 | 0, x => sumP_nil x
 | n + 1, [] => by simp [sumP]
 | n + 1, b :: x => by rw [List.replicate_succ, sumP_cons, sumP_zero n x]; simp
theorem sumP_set {v y : Int} : ∀ (w x : List Int) (i : Nat), w[i]? = some 0 → x[i]? = some y → sumP (w.set i v) x = sumP w x + v * y
 | [], _, i, h, _ => by simp at h
 | _ :: _, [], i, _, h => by simp at h
 | a :: w, b :: x, 0, h, k => by
  simp only [List.getElem?_cons_zero, Option.some.injEq] at h k
  subst h k
  rw [List.set_cons_zero, sumP_cons, sumP_cons]
  omega
 | a :: w, b :: x, i + 1, h, k => by
  rw [List.getElem?_cons_succ] at h k
  rw [List.set_cons_succ, sumP_cons, sumP_cons, sumP_set w x i h k]
  omega
def heafN (f : Fe) (x : List Int) (t : Int) (k : Nat) : Int := match f.places[k]? with
 | some p => if p.kind = 1 then x[(idxN f 1 k t).toNat]?.getD 0 else 0
 | none => 0
def heafS (f : Fe) (x : List Int) (t : Int) : Nat → Int
 | 0 => 0
 | k + 1 => heafS f x t k + heafN f x t k
theorem idx_num (f : Fe) (p t : Int) : idxN f 1 p t = t * f.places.length + p := by unfold idxN; simp
theorem heafK_new {f : Fe} {t : Int} {k : Nat} (_hk : k ≤ f.places.length) : heafK f t k (idxN f 1 k t) = false := by
 unfold heafK
 rw [List.any_eq_false]
 rintro ⟨p, x⟩ hx
 obtain ⟨i, hi⟩ := List.mem_iff_getElem?.1 hx
 rw [List.getElem?_take] at hi
 split at hi
 ·rename_i hik
  obtain ⟨e, _⟩ := numbered_at hi
  dsimp only
  rw [idx_num, idx_num]
  simp
  intro _ h
  omega
 ·cases hi
theorem present_sum {f : Fe} {x : List Int} {t : Int} (ht : 0 ≤ t) (hn : 0 ≤ countN f) (hl : (x.length : Int) = countN f) (hb : t * f.places.length + f.places.length ≤ countN f) : ∀ k, k ≤ f.places.length → sumP (rowK f t k) x = heafS f x t k
 | 0, _ => by rw [rowK_zero, sumP_zero]; rfl
 | k + 1, hk => by
  have ih := present_sum ht hn hl hb k (by omega)
  obtain ⟨p, hp⟩ : ∃ p, f.places[k]? = some p := ⟨f.places[k], by simp⟩
  unfold heafS heafN
  rw [hp]
  dsimp only
  by_cases h1 : p.kind = 1
  ·have h0 : 0 ≤ t * (f.places.length : Int) := Int.mul_nonneg ht (by omega)
   have hi : 0 ≤ idxN f 1 k t := by rw [idx_num]; omega
   have hlt : idxN f 1 k t < countN f := by rw [idx_num]; omega
   have hx : x[(idxN f 1 k t).toNat]? = some (x[(idxN f 1 k t).toNat]?.getD 0) := by
    have : (idxN f 1 k t).toNat < x.length := by omega
    simp [this]
   rw [rowK_yes hp (by simp [h1]) hi, sumP_set _ _ _ ?_ hx, ih, if_pos h1]
   ·omega
   ·unfold rowK upTo
    rw [List.getElem?_map, List.getElem?_map, List.getElem?_range (by omega)]
    simp only [Option.map_some, Int.toNat_of_nonneg hi, heafK_new (show k ≤ f.places.length by omega)]
    rfl
  ·rw [rowK_no hp (by simp [h1]), ih, if_neg h1]
   omega
theorem present_err {f : Fe} {x : List Int} {t : Int} (h : (presentV f x t).2 ≠ 0) : (presentV f x t).1 = 0 := by
 unfold presentV at h ⊢
 by_cases h1 : checkE f ≠ 0
 ·rw [if_pos h1]
 ·rw [if_neg h1] at h ⊢
  by_cases h2 : historyE f x ≠ 0
  ·rw [if_pos h2]
  ·rw [if_neg h2] at h ⊢
   by_cases h3 : rg 0 f.ticks t = false
   ·rw [if_pos h3]
   ·rw [if_neg h3] at h; exact absurd rfl h
theorem history_ok {f : Fe} {x : List Int} (h : historyE f x = 0) : (x.length : Int) = countN f ∧ ∀ n ∈ x, 0 ≤ n ∧ n ≤ 1000 := by
 unfold historyE at h
 by_cases e : (x.length : Int) ≠ countN f ∨ (x.any fun n => !rg 0 1000 n) = true
 ·rw [if_pos e] at h; cases h
 ·have e1 : (x.length : Int) = countN f := Classical.byContradiction fun h => e (.inl h)
  have e2 : (x.any fun n => !rg 0 1000 n) = false := by
   cases hb : (x.any fun n => !rg 0 1000 n) with
   | false => rfl
   | true => exact absurd (.inr hb) e
  refine ⟨e1, fun n hn => ?_⟩
  have := List.any_eq_false.1 e2 n hn
  exact rg_iff.1 (by simpa using this)
theorem present_ok {f : Fe} {x : List Int} {t : Int} (h : (presentV f x t).2 = 0) : checkE f = 0 ∧ historyE f x = 0 ∧ rg 0 f.ticks t = true ∧ (presentV f x t).1 = heafS f x t f.places.length := by
 unfold presentV at h ⊢
 by_cases h1 : checkE f ≠ 0
 ·rw [if_pos h1] at h; exact absurd h h1
 ·rw [if_neg h1] at h ⊢
  by_cases h2 : historyE f x ≠ 0
  ·rw [if_pos h2] at h; cases h
  ·rw [if_neg h2] at h ⊢
   by_cases h3 : rg 0 f.ticks t = false
   ·rw [if_pos h3] at h; cases h
   ·rw [if_neg h3]
    have h1' : checkE f = 0 := Classical.byContradiction h1
    have h2' : historyE f x = 0 := Classical.byContradiction h2
    have h3' : rg 0 f.ticks t = true := by simpa using h3
    refine ⟨h1', h2', h3', ?_⟩
    have hr := right_of h1'
    have ht := rg_iff.1 h3'
    have hl := (history_ok h2').1
    have h4 := hr.t1
    have hb : t * (f.places.length : Int) + f.places.length ≤ countN f := by
     have e : countN f = (f.ticks + 1) * (f.places.length : Int) + f.ticks * stepN f + 2 * f.places.length := rfl
     have e2 : (t + 1) * (f.places.length : Int) ≤ (f.ticks + 1) * (f.places.length : Int) := Int.mul_le_mul_of_nonneg_right (by omega) (by omega)
     have e3 : 0 ≤ f.ticks * stepN f := Int.mul_nonneg (by omega) (by unfold stepN; omega)
     have e4 : (t + 1) * (f.places.length : Int) = t * (f.places.length : Int) + f.places.length := by rw [Int.add_mul, Int.one_mul]
     omega
    have := present_sum ht.1 (by omega) hl hb f.places.length (Nat.le_refl _)
    rw [rowK_all] at this
    exact this
theorem at_ok {f : Fe} {x : List Int} {t : Int} (h1 : checkE f = 0) (h2 : historyE f x = 0) (h3 : rg 0 f.ticks t = true) {k : Nat} (hk : k < f.places.length) : atV f x k t = (x[(idxN f 1 k t).toNat]?.getD 0, 0) := by
 unfold atV
 rw [if_neg (by omega), if_neg (by omega), if_neg (by rw [h3]; decide), if_neg (by rw [rg_iff.2 ⟨by omega, by omega⟩]; decide)]
theorem heafN_at {f : Fe} {x : List Int} {t : Int} {k : Nat} {p : Pl} (hp : f.places[k]? = some p) : heafN f x t k = if p.kind = 1 then x[(idxN f 1 k t).toNat]?.getD 0 else 0 := by
 unfold heafN
 rw [hp]
theorem amount_in {f : Fe} {x : List Int} (h : historyE f x = 0) (i : Nat) : 0 ≤ x[i]?.getD 0 ∧ x[i]?.getD 0 ≤ 1000 := by
 cases e : x[i]? with
 | none => exact (by decide)
 | some n => exact (history_ok h).2 n (List.mem_of_getElem? e)
theorem heafS_in {f : Fe} {x : List Int} {t : Int} (h : historyE f x = 0) : ∀ k : Nat, 0 ≤ heafS f x t k ∧ heafS f x t k ≤ 1000 * k
 | 0 => ⟨Int.le_refl _, Int.le_refl _⟩
 | k + 1 => by
  have ih := heafS_in (t := t) h k
  have : 0 ≤ heafN f x t k ∧ heafN f x t k ≤ 1000 := by
   unfold heafN
   split
   ·split
    ·exact amount_in h _
    ·decide
   ·decide
  unfold heafS
  omega
end Go.Proofs.YtlppdgaogdpajaaGreatDoor
namespace Go.Proofs.YtlppdgaogdpajaaGreatDoor.fellPresent
open Go.ChangeShapes Go.WideShapes Go.ChangeAt Go.RowKit Go.Joins Go.Deep
open Go.ChangeMaps (open_string shut_string)
set_option maxRecDepth 100000 in
set_option maxHeartbeats 8000000 in
theorem walk_s (m : Fm) (l : List Int) (a : Option Addr) (cap : Nat) (t : Int) {w : World} (hm : m.Arg w) (hs : shortV m.f = false) (hL : LibW w) :
  Calls Tryz.prog 16 #[m.v, .slice a l.length cap, .int .i64 t] w fun e w' => e = .returned (.bool true) ∧ Below w.heap.size w w' := by
 have hS := fun W (hb : Below w.heap.size w W) => c_Short m W (hm.later hb)
 rw [hs] at hS
 have HS := Lib.hid hS
 have HL := Lib.hid hL
 clear hS hL hm
 go_enter Tryz.func16, Tryz.ntmps16
 go_upto_region 1 with (fail)
 go_name_world W1 hW1
 have hbn : Below w.heap.size w W1 := by subst hW1; go_grown
 have hb0 := hbn
 clear hbn
 have q0n : W1.cell? ⟨w.heap.size, 0, none⟩ = some (.int .i64 m.f.ticks) := by subst hW1; go_simp
 have q1n : W1.cell? ⟨w.heap.size, 1, none⟩ = some (.int .i64 m.f.yields) := by subst hW1; go_simp
 have q2n : W1.cell? ⟨w.heap.size, 2, none⟩ = some (.slice m.pa m.f.places.length m.pc) := by subst hW1; go_simp
 have q3n : W1.cell? ⟨w.heap.size, 3, none⟩ = some (.slice m.ga m.f.gates.length m.gc) := by subst hW1; go_simp
 clear hW1 
 have q0 := q0n
 have q1 := q1n
 have q2 := q2n
 have q3 := q3n
 clear q0n q1n q2n q3n 
 go_wp2_with fail
 refine (via (w0 := W1) (by go_grown) (HS.out _ hb0)).mono ?_
 rintro e W2 ⟨rfl, hc, hf, hz, hB⟩
 have zz := cy4 hc q0 q1 q2 q3
 clear q0 q1 q2 q3
 obtain ⟨q0, q1, q2, q3⟩ := zz
 have hbn : Below w.heap.size w W2 := bthen hb0 hB
 clear hb0
 have hb0 := hbn
 clear hbn
 have hzW2 : W1.heap.size ≤ W2.heap.size := hz
 clear hc hf hB hz
 go_wp2_with fail
 refine (via (w0 := W2) (by go_grown) (c_alive _ (HL.out.later hb0))).mono ?_
 rintro e W3 ⟨rfl, hc, hf, hz, hB⟩
 have zz := cy4 hc q0 q1 q2 q3
 clear q0 q1 q2 q3
 obtain ⟨q0, q1, q2, q3⟩ := zz
 have hbn : Below w.heap.size w W3 := bthen hb0 hB
 clear hb0
 have hb0 := hbn
 clear hbn
 have hzW3 : W2.heap.size ≤ W3.heap.size := hz
 clear hc hf hB hz
 go_wp2_with fail
 go_ret
 exact ⟨rfl, by have hbz := hb0.size; go_grown⟩
set_option maxRecDepth 100000 in
set_option maxHeartbeats 8000000 in
theorem walk_l (m : Fm) (l : List Int) (a : Option Addr) (cap : Nat) (t : Int) {w : World} (hm : m.Arg w) (hs : shortV m.f = true) (h : 4100 < l.length) (hL : LibW w) :
  Calls Tryz.prog 16 #[m.v, .slice a l.length cap, .int .i64 t] w fun e w' => e = .returned (.bool true) ∧ Below w.heap.size w w' := by
 have hS := fun W (hb : Below w.heap.size w W) => c_Short m W (hm.later hb)
 rw [hs] at hS
 have HS := Lib.hid hS
 have HL := Lib.hid hL
 have h1 : (4100 : Int) < (l.length : Int) := by omega
 clear hS hL hm
 go_enter Tryz.func16, Tryz.ntmps16
 go_upto_region 1 with (fail)
 go_name_world W1 hW1
 have hbn : Below w.heap.size w W1 := by subst hW1; go_grown
 have hb0 := hbn
 clear hbn
 have q0n : W1.cell? ⟨w.heap.size, 0, none⟩ = some (.int .i64 m.f.ticks) := by subst hW1; go_simp
 have q1n : W1.cell? ⟨w.heap.size, 1, none⟩ = some (.int .i64 m.f.yields) := by subst hW1; go_simp
 have q2n : W1.cell? ⟨w.heap.size, 2, none⟩ = some (.slice m.pa m.f.places.length m.pc) := by subst hW1; go_simp
 have q3n : W1.cell? ⟨w.heap.size, 3, none⟩ = some (.slice m.ga m.f.gates.length m.gc) := by subst hW1; go_simp
 clear hW1 
 have q0 := q0n
 have q1 := q1n
 have q2 := q2n
 have q3 := q3n
 clear q0n q1n q2n q3n 
 go_wp2_with fail
 refine (via (w0 := W1) (by go_grown) (HS.out _ hb0)).mono ?_
 rintro e W2 ⟨rfl, hc, hf, hz, hB⟩
 have zz := cy4 hc q0 q1 q2 q3
 clear q0 q1 q2 q3
 obtain ⟨q0, q1, q2, q3⟩ := zz
 have hbn : Below w.heap.size w W2 := bthen hb0 hB
 clear hb0
 have hb0 := hbn
 clear hbn
 have hzW2 : W1.heap.size ≤ W2.heap.size := hz
 clear hc hf hB hz
 go_wp2_with fail
 refine (via (w0 := W2) (by go_grown) (c_alive _ (HL.out.later hb0))).mono ?_
 rintro e W3 ⟨rfl, hc, hf, hz, hB⟩
 have zz := cy4 hc q0 q1 q2 q3
 clear q0 q1 q2 q3
 obtain ⟨q0, q1, q2, q3⟩ := zz
 have hbn : Below w.heap.size w W3 := bthen hb0 hB
 clear hb0
 have hb0 := hbn
 clear hbn
 have hzW3 : W2.heap.size ≤ W3.heap.size := hz
 clear hc hf hB hz
 go_wp2_with fail
 go_ret
 exact ⟨rfl, by have hbz := hb0.size; go_grown⟩
set_option maxRecDepth 100000 in
set_option maxHeartbeats 8000000 in
theorem walk_e (m : Fm) (l : List Int) (a : Option Addr) (cap : Nat) (t : Int) {w : World} (hm : m.Arg w) (hl : Nums w a l) (hs : shortV m.f = true) (hn : l.length ≤ 4100) (h : (presentV m.f l t).2 ≠ 0) (hL : LibW w) :
  Calls Tryz.prog 16 #[m.v, .slice a l.length cap, .int .i64 t] w fun e w' => e = .returned (.bool true) ∧ Below w.heap.size w w' := by
 have hmi := short_in hm hs
 have hS := fun W (hb : Below w.heap.size w W) => c_Short m W (hm.later hb)
 rw [hs] at hS
 have HS := Lib.hid hS
 have HL := Lib.hid hL
 have HM := Lib.hid hmi
 have HN := Lib.hid hl
 have h1 : ¬ (4100 : Int) < (l.length : Int) := by omega
 have hP := fun W (hb : Below w.heap.size w W) => c_Present m l a cap t W (hmi.later hb) (hl.later hb)
 have h0 := present_err h
 obtain ⟨⟨pn, pe⟩, hR⟩ : ∃ R, presentV m.f l t = R := ⟨_, rfl⟩
 rw [hR] at hP h h0
 dsimp only at h h0
 subst h0
 have HP := Lib.hid hP
 have he : (pe == 0) = false := beq_eq_false_iff_ne.2 h
 clear hS hL hm hmi hl hP h hR
 go_enter Tryz.func16, Tryz.ntmps16
 go_upto_region 1 with (fail)
 go_name_world W1 hW1
 have hbn : Below w.heap.size w W1 := by subst hW1; go_grown
 have hb0 := hbn
 clear hbn
 have q0n : W1.cell? ⟨w.heap.size, 0, none⟩ = some (.int .i64 m.f.ticks) := by subst hW1; go_simp
 have q1n : W1.cell? ⟨w.heap.size, 1, none⟩ = some (.int .i64 m.f.yields) := by subst hW1; go_simp
 have q2n : W1.cell? ⟨w.heap.size, 2, none⟩ = some (.slice m.pa m.f.places.length m.pc) := by subst hW1; go_simp
 have q3n : W1.cell? ⟨w.heap.size, 3, none⟩ = some (.slice m.ga m.f.gates.length m.gc) := by subst hW1; go_simp
 clear hW1 
 have q0 := q0n
 have q1 := q1n
 have q2 := q2n
 have q3 := q3n
 clear q0n q1n q2n q3n 
 go_wp2_with fail
 refine (via (w0 := W1) (by go_grown) (HS.out _ hb0)).mono ?_
 rintro e W2 ⟨rfl, hc, hf, hz, hB⟩
 have zz := cy4 hc q0 q1 q2 q3
 clear q0 q1 q2 q3
 obtain ⟨q0, q1, q2, q3⟩ := zz
 have hbn : Below w.heap.size w W2 := bthen hb0 hB
 clear hb0
 have hb0 := hbn
 clear hbn
 have hzW2 : W1.heap.size ≤ W2.heap.size := hz
 clear hc hf hB hz
 go_wp2_with fail
 refine (via (w0 := W2) (by go_grown) (HP.out _ hb0)).mono ?_
 rintro e W3 ⟨rfl, hc, hf, hz, hB⟩
 have zz := cy4 hc q0 q1 q2 q3
 clear q0 q1 q2 q3
 obtain ⟨q0, q1, q2, q3⟩ := zz
 have hbn : Below w.heap.size w W3 := bthen hb0 hB
 clear hb0
 have hb0 := hbn
 clear hbn
 have hzW3 : W2.heap.size ≤ W3.heap.size := hz
 clear hc hf hB hz
 go_wp2_with fail
 refine (via (w0 := W3) (by go_grown) (c_alive _ (HL.out.later hb0))).mono ?_
 rintro e W4 ⟨rfl, hc, hf, hz, hB⟩
 have zz := cy4 hc q0 q1 q2 q3
 clear q0 q1 q2 q3
 obtain ⟨q0, q1, q2, q3⟩ := zz
 have hbn : Below w.heap.size w W4 := bthen hb0 hB
 clear hb0
 have hb0 := hbn
 clear hbn
 have hzW4 : W3.heap.size ≤ W4.heap.size := hz
 clear hc hf hB hz
 go_wp2_with fail
 go_ret
 exact ⟨rfl, by have hbz := hb0.size; go_grown⟩
set_option maxRecDepth 100000 in
set_option maxHeartbeats 8000000 in
theorem walk_ok (m : Fm) (l : List Int) (a : Option Addr) (cap : Nat) (t : Int) {w : World} (hm : m.Arg w) (hl : Nums w a l) (hs : shortV m.f = true) (hn : l.length ≤ 4100) (h : (presentV m.f l t).2 = 0) (hL : LibW w) :
  Calls Tryz.prog 16 #[m.v, .slice a l.length cap, .int .i64 t] w fun e w' => e = .returned (.bool true) ∧ Below w.heap.size w w' := by
 have hmi := short_in hm hs
 have hS := fun W (hb : Below w.heap.size w W) => c_Short m W (hm.later hb)
 rw [hs] at hS
 have HS := Lib.hid hS
 have HL := Lib.hid hL
 have HM := Lib.hid hmi
 have HN := Lib.hid hl
 have h1 : ¬ (4100 : Int) < (l.length : Int) := by omega
 have hP := fun W (hb : Below w.heap.size w W) => c_Present m l a cap t W (hmi.later hb) (hl.later hb)
 obtain ⟨o1, o2, o3, o4⟩ := present_ok h
 have hA := fun (k : Nat) (hk : k < m.f.places.length) W (hb : Below w.heap.size w W) => c_At m l a cap k t W (hmi.later hb) (hl.later hb)
 obtain ⟨⟨pn, pe⟩, hR⟩ : ∃ R, presentV m.f l t = R := ⟨_, rfl⟩
 rw [hR] at hP h o4
 dsimp only at h o4
 subst h
 have HP := Lib.hid hP
 have HA := Lib.hid hA
 have O1 := Lib.hid o1
 have O2 := Lib.hid o2
 have O3 := Lib.hid o3
 have O4 := Lib.hid o4
 have hp8 := (right_of o1).p8
 clear hS hL hm hmi hl hP hA hR o1 o2 o3 o4
 go_enter Tryz.func16, Tryz.ntmps16
 go_upto_region 1 with (fail)
 go_name_world W1 hW1
 have hbn : Below w.heap.size w W1 := by subst hW1; go_grown
 have hb0 := hbn
 clear hbn
 have q0n : W1.cell? ⟨w.heap.size, 0, none⟩ = some (.int .i64 m.f.ticks) := by subst hW1; go_simp
 have q1n : W1.cell? ⟨w.heap.size, 1, none⟩ = some (.int .i64 m.f.yields) := by subst hW1; go_simp
 have q2n : W1.cell? ⟨w.heap.size, 2, none⟩ = some (.slice m.pa m.f.places.length m.pc) := by subst hW1; go_simp
 have q3n : W1.cell? ⟨w.heap.size, 3, none⟩ = some (.slice m.ga m.f.gates.length m.gc) := by subst hW1; go_simp
 clear hW1 
 have q0 := q0n
 have q1 := q1n
 have q2 := q2n
 have q3 := q3n
 clear q0n q1n q2n q3n 
 go_wp2_with fail
 refine (via (w0 := W1) (by go_grown) (HS.out _ hb0)).mono ?_
 rintro e W2 ⟨rfl, hc, hf, hz, hB⟩
 have zz := cy4 hc q0 q1 q2 q3
 clear q0 q1 q2 q3
 obtain ⟨q0, q1, q2, q3⟩ := zz
 have hbn : Below w.heap.size w W2 := bthen hb0 hB
 clear hb0
 have hb0 := hbn
 clear hbn
 have hzW2 : W1.heap.size ≤ W2.heap.size := hz
 clear hc hf hB hz
 go_wp2_with fail
 refine (via (w0 := W2) (by go_grown) (HP.out _ hb0)).mono ?_
 rintro e W3 ⟨rfl, hc, hf, hz, hB⟩
 have zz := cy4 hc q0 q1 q2 q3
 clear q0 q1 q2 q3
 obtain ⟨q0, q1, q2, q3⟩ := zz
 have hbn : Below w.heap.size w W3 := bthen hb0 hB
 clear hb0
 have hb0 := hbn
 clear hbn
 have hzW3 : W2.heap.size ≤ W3.heap.size := hz
 clear hc hf hB hz
 go_wp2
 have HQ := Lib.hid (show CellsAt W3 w.heap.size 0 (feC m) from cells_4 q0 q1 q2 q3)
 go_loopw [9, 39] (fun v9 v39 wr => ∃ k : Nat, k ≤ m.f.places.length ∧ v39 = .int .i64 k ∧ v9 = .int .i64 (heafS m.f l t k) ∧ CellsAt wr w.heap.size 0 (feC m) ∧ Below w.heap.size w wr) (fun _ v39 _ => m.f.places.length - (intOf v39).toNat)
 case atStart => exact ⟨0, by omega, rfl, rfl, HQ.out, hb0⟩
 case round =>
  clear q0 q1 q2 q3 HQ hb0
  obtain ⟨k, hk, rfl, rfl, hq, hb0⟩ := hrel
  have HQ := Lib.hid hq
  obtain ⟨q0, q1, q2, q3⟩ := fe_cells hq
  clear hq
  have hin := heafS_in (f := m.f) (x := l) (t := t) O2.out k
  by_cases hlt : k < m.f.places.length
  ·obtain ⟨x, hx⟩ := some_at hlt
   have hi1 : ¬ (k : Int) < 0 := by omega
   have hi2 : (k : Int) < (m.f.places.length : Int) := by omega
   have hA := HA.out k hlt
   rw [at_ok O1.out O2.out O3.out hlt] at hA
   have hN := heafN_at (x := l) (t := t) hx
   have hS1 : heafS m.f l t (k + 1) = heafS m.f l t k + heafN m.f l t k := rfl
   rw [hN] at hS1
   have hai := amount_in (x := l) O2.out (idxN m.f 1 k t).toNat
   generalize l[(idxN m.f 1 k t).toNat]?.getD 0 = n at hA hS1 hai
   obtain ⟨b, o, hpa, hat⟩ := (HM.out.later hb0).pl.at hx
   have HPA := Lib.hid hpa
   generalize heafS m.f l t k = s0 at hS1 hin
   have HAA := Lib.hid hA
   have HS1 := Lib.hid hS1
   have HAT := Lib.hid hat
   clear hA hS1 hN hx hat hpa
   go_wp2_with fail
   refine (HAA.out _ hb0).mono ?_
   rintro e W5 ⟨rfl, hB⟩
   have HQ5 := Lib.hid (HQ.out.later hB)
   obtain ⟨z0, z1, z2, z3⟩ := fe_cells HQ5.out
   have y1 := (pl_cells (HAT.out.later hB)).2
   have hpa := HPA.out
   rw [hpa] at z2
   have hb5 := bthen hb0 hB
   have HB5 := Lib.hid hb5
   clear q0 q1 q2 q3 z0 z1 z3 HQ hB hb5 HAA HAT hpa HPA
   by_cases hkd : x.kind = 1
   ·have hk1 : (x.kind == 1) = true := beq_iff_eq.2 hkd
    rw [if_pos hkd] at HS1
    clear hkd
    go_wp2
    go_roundw
    case rel => exact ⟨k + 1, by omega, by go_num, by rw [HS1.out], HQ5.out, HB5.out⟩
    case measure => simp [intOf]; omega
   ·have hk1 : (x.kind == 1) = false := beq_eq_false_iff_ne.2 hkd
    rw [if_neg hkd, Int.add_zero] at HS1
    clear hkd
    go_wp2
    go_roundw
    case rel => exact ⟨k + 1, by omega, by go_num, by rw [HS1.out], HQ5.out, HB5.out⟩
    case measure => simp [intOf]; omega
  ·obtain rfl : k = m.f.places.length := by omega
   have hi2 : ¬ (m.f.places.length : Int) < (m.f.places.length : Int) := by omega
   have hO := O4.out
   generalize heafS m.f l t m.f.places.length = s0 at hO hin
   subst hO
   go_wp2_with fail
   refine (c_alive _ (HL.out.later hb0)).mono ?_
   rintro e W5 ⟨rfl, hB⟩
   have hbn := bthen hb0 hB
   clear hb0 hB
   go_wp2
   go_ret
   exact ⟨rfl, hbn⟩
theorem walk {w : World} (m : Fm) (hm : m.Arg w) (l : List Int) (a : Option Addr) (cap : Nat) (_hmax : l.length ≤ maxLen) (hl : l.length ≤ 1000000000000 → Ints w a l) (t : Int) (hL : LibW w) :
  Calls Tryz.prog 16 #[m.v, .slice a l.length cap, .int .i64 t] w fun e w' => e = .returned (.bool true) ∧ Below w.heap.size w w' := by
 cases hs : shortV m.f with
 | false => exact walk_s m l a cap t hm hs hL
 | true =>
  by_cases hn : l.length ≤ 4100
  ·have hl2 := nums_of (hl (by omega))
   by_cases h : (presentV m.f l t).2 = 0
   ·exact walk_ok m l a cap t hm hl2 hs hn h hL
   ·exact walk_e m l a cap t hm hl2 hs hn h hL
  ·exact walk_l m l a cap t hm hs (by omega) hL
set_option maxRecDepth 100000 in
theorem contract (H : Type) (enc : TypeId × Value → H) (W : World) (base : Nat) (args : Array Value) (ds gs : List (DataW H)) (before : List MemPlace)
    (hval : ∀ (j : Nat) t v, Tryz.f16.params[j]? = some t → args[j]? = some v → Value.okWide Tryz.prog W .any base t v)
    (hW : DataW.Whole enc Tryz.prog Tryz.f16.params.toList Rows.fellPresentSpec.vars false W args.toList ds gs before) (hL : LibW W) :
    Calls Tryz.prog 16 args W fun e W' => ∃ v, e = .returned v ∧ Rows.fellPresentSpec.post enc Tryz.prog Tryz.f16 false true false false W args v W' := by
  have hW' := hW
  obtain ⟨p, q, hA0, hV, rfl, _, _⟩ := hW
  have hA : DataW.TrodAll enc Tryz.prog W 0 (fun _ => true) true Tryz.f16.params.toList args.toList ds p := hA0
  rw [Tryz.params16] at hA hval
  obtain ⟨v0, vs0, d0, ds0, p0, q0, hargs, rfl, rfl, h0, r0⟩ := trodAll_cons hA
  obtain ⟨v1, vs1, d1, ds1, p1, q1, rfl, rfl, rfl, h1, r1⟩ := trodAll_cons r0
  obtain ⟨v2, vs2, d2, ds2, p2, q2, rfl, rfl, rfl, h2, r2⟩ := trodAll_cons r1
  obtain ⟨rfl, rfl, rfl⟩ := trodAll_nil r2
  obtain rfl : args = #[v0, v1, v2] := by cases args; simp_all
  obtain ⟨rfl, rfl⟩ := trodVars_none hV
  obtain ⟨m0, rfl, e0⟩ := open_fell (hval 0 25 v0 rfl rfl) h0
  obtain ⟨b1, l1, k1, rfl, m1, e1⟩ := open_nums (fun _ _ => hval 1 75 v1 rfl rfl) h1
  obtain ⟨a2, rfl, rfl, rfl, w2⟩ := open_int Tryz.underlying3 (hval 2 3 v2 rfl rfl) h2
  clear hA0
  have s2 := stays h2 (by kernel_rfl) (by kernel_rfl)
  refine (walk m0 e0 l1 b1 k1 m1 e1 a2 hL).mono fun e W' ⟨he, hg⟩ => ?_
  subst he
  have hlt := fun x hx => hW'.lt x hx
  exact ⟨_, rfl, post_of_below (pa := (p0 ++ (p1 ++ ([] ++ [])))) (pv := []) hW' (fun _ _ _ => (trodAll_cons_mk (shut_bool Tryz.underlying4 _) trodAll_mk0)) (fun sp hsp => (trodAll_cons_mk (staysB h0 (by kernel_rfl) (by kernel_rfl) hg hlt (fun x hx => by simp [hx]) sp hsp) (trodAll_cons_mk (staysB h1 (by kernel_rfl) (by kernel_rfl) hg hlt (fun x hx => by simp [hx]) sp hsp) (trodAll_cons_mk (s2 _ _) trodAll_mk0)))) (fun _ _ => rfl) rfl
    hg (ok_one (by kernel_rfl) rfl (okWide_bool_mk Tryz.underlying4 _))⟩
set_option maxRecDepth 100000 in
theorem reads (os : Os) {H : Type} (enc : TypeId × Value → H) : ∃ places, DataW.whole enc Tryz.prog ((laidWorld os).forCall (fun _ _ => 0) ⟨#[], #[.agg #[.int .i64 0, .int .i64 0, .slice none 0 0, .slice none 0 0], .slice none 0 0, .int .i64 0], []⟩).memory Tryz.f16.params.toList Rows.fellPresentSpec.vars false (Array.toList #[.agg #[.int .i64 0, .int .i64 0, .slice none 0 0, .slice none 0 0], .slice none 0 0, .int .i64 0]) 8 = some ([.agg [.lit (.int .i64 0), .lit (.int .i64 0), .nil, .nil], .nil, .lit (.int .i64 0)], [], places) :=
 ⟨[], by kernel_rfl⟩
set_option maxRecDepth 100000 in
theorem lifted (os : Os) (started : os.Started) (H : Type) (enc : TypeId × Value → H) (F : Stop.Interp) :
    ReturnsInHanded {} Tryz.checked os 16 .any ((OpenSpec.ofChange Rows.fellPresentSpec).preRow enc Tryz.prog Tryz.f16 Rows.fellPresentRow.domain false Rows.fellPresentRow.laid) (((OpenSpec.ofChange Rows.fellPresentSpec).at F).post enc Tryz.prog Tryz.f16 false true false false) := by
  obtain ⟨places, hx⟩ := reads os enc
  refine returnsInHanded_of_row (C := Tryz.checked) (s := OpenSpec.ofChange Rows.fellPresentSpec) own started (by kernel_rfl) Tryz.func16
    (witness_row_atRef (enc := enc) (C := Tryz.checked) false (laidWorld os) #[.agg #[.int .i64 0, .int .i64 0, .slice none 0 0, .slice none 0 0], .slice none 0 0, .int .i64 0] rfl (by kernel_rfl) (by kernel_rfl) (by kernel_rfl)
      (OpenSpec.preRow_of_cond 8 hx (by kernel_rfl) (fun k hk => by cases hk) (by kernel_rfl) (laidWorld_met os _))) ?_
  intro W base args ds gs before hval hW _ _ _ hL hsh _
  exact contract H enc W base args ds gs before hval hW (libW_of hL hsh)
theorem said : Rows.FellPresentSaid :=
 OpenClaim.holds_of_cond 16 Tryz.f16 rfl rfl rfl rfl rfl rfl rfl ⟨rfl, rfl, rfl, rfl, rfl⟩ rfl rfl rfl rfl rfl (by as_aux_lemma => kernel_rfl) Tryz.func16 facts
  (of_decide_eq_true (by as_aux_lemma => kernel_rfl)) (by unfold Func.isWrapper; first | (rw [if_pos (by decide +kernel)]; kernel_rfl) | (rw [if_neg (by decide +kernel)]; exact ⟨rfl, rfl⟩))
  (fun os started H enc _ F => by rw [OpenClaim.pre_eq_preRow]; exact lifted os started H enc F)
theorem proved : Rows.FellPresentCardSaid := tied said
end Go.Proofs.YtlppdgaogdpajaaGreatDoor.fellPresent
