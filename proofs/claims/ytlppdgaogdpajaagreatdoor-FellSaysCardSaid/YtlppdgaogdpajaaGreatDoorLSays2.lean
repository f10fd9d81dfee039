/- This text is a part of the proof: NatureTop, SaysMore, PFSays. -/
import Derived.Test.YtlppdgaogdpajaaGreatDoorK1
import Derived.Test.YtlppdgaogdpajaaGreatDoorK2
import Derived.Test.YtlppdgaogdpajaaGreatDoorK3
import Derived.Test.YtlppdgaogdpajaaGreatDoorK4
import Derived.Test.YtlppdgaogdpajaaGreatDoorK5
import Derived.Test.YtlppdgaogdpajaaGreatDoorK6
import Derived.Test.YtlppdgaogdpajaaGreatDoorK7
import Derived.Test.YtlppdgaogdpajaaGreatDoorK8
import Derived.Test.YtlppdgaogdpajaaGreatDoorK9
import Derived.Test.YtlppdgaogdpajaaGreatDoorK10
import Derived.Test.YtlppdgaogdpajaaGreatDoorK11
import Derived.Test.YtlppdgaogdpajaaGreatDoorK12
import Derived.Test.YtlppdgaogdpajaaGreatDoorK13
import Derived.Test.YtlppdgaogdpajaaGreatDoorK14
import Derived.Test.YtlppdgaogdpajaaGreatDoorK15
import Derived.Test.YtlppdgaogdpajaaGreatDoorK16
import Derived.Test.YtlppdgaogdpajaaGreatDoorK17
import Derived.Test.YtlppdgaogdpajaaGreatDoorK18
import Derived.Test.YtlppdgaogdpajaaGreatDoorK19
import Derived.Test.YtlppdgaogdpajaaGreatDoorK20
import Derived.Test.YtlppdgaogdpajaaGreatDoorK21
import Derived.Test.YtlppdgaogdpajaaGreatDoorK22
import Derived.Test.YtlppdgaogdpajaaGreatDoorK23
import Derived.Test.YtlppdgaogdpajaaGreatDoorK24
import Derived.Test.YtlppdgaogdpajaaGreatDoorK25
import Derived.Test.YtlppdgaogdpajaaGreatDoorK26
import Derived.Test.YtlppdgaogdpajaaGreatDoorK27
import Derived.Test.YtlppdgaogdpajaaGreatDoorK28
import Derived.Test.YtlppdgaogdpajaaGreatDoorK29
import Derived.Test.YtlppdgaogdpajaaGreatDoorK30
import Derived.Test.YtlppdgaogdpajaaGreatDoorK31
import Derived.Test.YtlppdgaogdpajaaGreatDoorK32
import Derived.Test.YtlppdgaogdpajaaGreatDoorK33
import Derived.Test.YtlppdgaogdpajaaGreatDoorLSays1
import Derived.ArgAppend
import Derived.Barred
import Derived.Below
import Derived.BigQuiet
import Derived.ChangeSame
import Derived.Deep.AppendLies
import Derived.Deep.Cut
import Derived.Deep.CutBlock
import Derived.Deep.DeepCutAuto
import Derived.Deep.DeepFit
import Derived.Deep.DeepHandedRow
import Derived.Deep.DeepLaidRun
import Derived.Deep.DeepMust
import Derived.Deep.DeepWitnessRowRef
import Derived.Deep.Fields
import Derived.Deep.LoopGhost
import Derived.Deep.Quiet
import Derived.Deep.QuietTactic
import Derived.Deep.RegionHeld3
import Derived.Deep.RegionLaw
import Derived.Deep.Slices
import Derived.Defers
import Derived.Handy
import Derived.IntWalk
import Derived.Laws.EntriesVeiled
import Derived.Lib.AtoiAll
import Derived.Lib.AtoiAllCases
import Derived.Lib.ConvBytes
import Derived.Lib.Hide
import Derived.Lib.ItoaLen
import Derived.Lib.ItoaMem
import Derived.Lib.ItoaWalk
import Derived.Lib.Join
import Derived.Lib.LaidTab
import Derived.Lib.MinMax
import Derived.Lib.SmallJoins
import Derived.Lib.Split
import Derived.Lib.SplitLaws
import Derived.LoopIn
import Derived.LoopNIn
import Derived.LoopTactic
import Derived.MapKept
import Derived.Maps.OwnIn
import Derived.Maps.OwnOps
import Derived.Maps.OwnSet
import Derived.Maps.Views
import Derived.OpenShut
import Derived.OrdersIn
import Derived.OwnWalkIn
import Derived.ProofKit
import Derived.RangeFuncBound
import Derived.RangeFuncCalls
import Derived.RangeFuncLeaves
import Derived.RangeFuncNested
import Derived.Recover
import Derived.Scope
import Derived.Shelf.Abstract
import Derived.Shelf.RegionOpen
import Derived.Sort.OwnSorted
import Derived.Sort.OwnSortedInts
import Derived.StillTail
import Derived.Stop.LaidErr
import Derived.TacticsInMore
import Derived.Test.YtlppdgaogdpajaaGreatDoorCards
import Derived.Test.YtlppdgaogdpajaaGreatDoorProg
import Derived.Test.YtlppdgaogdpajaaGreatDoorRows
import Derived.Test.YtlppdgaogdpajaaGreatDoorShelf
import Derived.Test.YtlppdgaogdpajaaGreatDoorTie
import Derived.WalkLawsBesides
import Derived.WalkMore
import Derived.WalkSpells
import Derived.WideKeyArgs
namespace Go.Proofs.YtlppdgaogdpajaaGreatDoor
open Go.RowKit Go.Shelf
attribute [local go_sem] Oper.semAt_some
def natureR (f : Fe) : Nt × Int := if checkE f ≠ 0 then (⟨0, []⟩, checkE f) else (natureV f, 0)
set_option maxRecDepth 100000 in
set_option maxHeartbeats 2000000 in
theorem c_Nature (m : Fm) (w : World) (hm : m.In w) : Calls Tryz.prog 48 #[m.v] w (GivesNt (natureR m.f) w) := by
 have hC := fun W (hb : Below w.heap.size w W) => c_CheckFell m W (hm.later hb)
 unfold natureR
 by_cases h : checkE m.f = 0
 ·rw [if_neg (by omega)]
  rw [h] at hC
  have HN := Lib.hid (fun W (hb : Below w.heap.size w W) => c_nature m W (hm.later hb) h)
  have HC := Lib.hid hC
  clear hC hm h
  go_enter Tryz.func48, Tryz.ntmps48
  go_upto_region 1 with (fail)
  go_name_world W1 hW1
  have hbn : Below w.heap.size w W1 := by subst hW1; go_grown
  have hb0 := hbn
  clear hbn
  have q0n : W1.cell? ⟨w.heap.size, 0, none⟩ = some (.int .i64 m.f.ticks) := by subst hW1; go_simp
  have q1n : W1.cell? ⟨w.heap.size, 1, none⟩ = some (.int .i64 m.f.yields) := by subst hW1; go_simp
  have q2n : W1.cell? ⟨w.heap.size, 2, none⟩ = some (.slice m.pa m.f.places.length m.pc) := by subst hW1; go_simp
  have q3n : W1.cell? ⟨w.heap.size, 3, none⟩ = some (.slice m.ga m.f.gates.length m.gc) := by subst hW1; go_simp
  have n0n : W1.cell? ⟨w.heap.size + 1, 0, none⟩ = some (.int .i64 0) := by subst hW1; go_simp
  have fn0n : W1.frozen? ⟨w.heap.size + 1, 0, none⟩ = false := by subst hW1; go_simp
  have n1n : W1.cell? ⟨w.heap.size + 1, 1, none⟩ = some (.slice none 0 0) := by subst hW1; go_simp
  have fn1n : W1.frozen? ⟨w.heap.size + 1, 1, none⟩ = false := by subst hW1; go_simp
  clear hW1 
  have q0 := q0n
  have q1 := q1n
  have q2 := q2n
  have q3 := q3n
  have n0 := n0n
  have fn0 := fn0n
  have n1 := n1n
  have fn1 := fn1n
  clear q0n q1n q2n q3n n0n n1n fn0n fn1n
  go_wp2_with fail
  refine (via (w0 := W1) (by go_grown) (HC.out _ hb0)).mono ?_
  rintro e W2 ⟨rfl, hc, hf, hz, hB⟩
  have zz := cy4 hc q0 q1 q2 q3
  clear q0 q1 q2 q3
  obtain ⟨q0, q1, q2, q3⟩ := zz
  replace fn0 := (hf _ _ (cell_lt n0)).trans fn0
  replace n0 := (hc _ _ (cell_lt n0)).trans n0
  replace fn1 := (hf _ _ (cell_lt n1)).trans fn1
  replace n1 := (hc _ _ (cell_lt n1)).trans n1
  have hbn : Below w.heap.size w W2 := bthen hb0 hB
  clear hb0
  have hb0 := hbn
  clear hbn
  have hzW2 : W1.heap.size ≤ W2.heap.size := hz
  clear hc hf hB hz
  go_wp2_with fail
  refine (HN.out _ hb0).mono ?_
  rintro e W9 ⟨v, rfl, hown, hB⟩
  have zs := hb0.size
  have zlt := cell_lt n0
  have hc := (bcell hB).1
  have hf := (bcell hB).2
  replace fn0 := (hf _ _ (cell_lt n0)).trans fn0
  replace fn1 := (hf _ _ (cell_lt n1)).trans fn1
  replace n0 := (hc _ _ (cell_lt n0)).trans n0
  replace n1 := (hc _ _ (cell_lt n1)).trans n1
  have hb9 := bthen hb0 hB
  obtain ⟨b, c, rfl, _⟩ := Lst.own arC_len hown
  have hnb : ∀ g, (Value.slice b (natureV m.f).arcs.length c).ownBlock = some g → g ≠ w.heap.size + 1 := fun g hg => by
   have h1 := (hown.lt g hg).1
   omega
  have hks := ((Kept.refl (fun k => k = w.heap.size + 1) W9).setCell (p := ⟨w.heap.size + 1, 0, none⟩) (.inl rfl) (.int .i64 (natureV m.f).n)).setCell (p := ⟨w.heap.size + 1, 1, none⟩) (.inl rfl) (.slice b (natureV m.f).arcs.length c)
  have HO := Lib.hid (ownsRow_kept (ownsRow_base hown (show w.heap.size ≤ _ from zs)) hks (fun g hg => hnb g hg))
  have HB9 := Lib.hid hb9
  clear hown hb0 hB hc hf hnb hks
  go_wp2
  refine bodyPost_ret (v := .tuple #[.agg #[.int .i64 (natureV m.f).n, .slice b (natureV m.f).arcs.length c], .int .i64 0]) (by simp [results, Tryz.results48, go_sem, n0, n1]) rfl ⟨_, rfl, HO.out, ?_⟩
  have hbz := hb9.size
  go_grown
 ·rw [if_pos h]
  obtain ⟨E, hE⟩ : ∃ E, checkE m.f = E := ⟨_, rfl⟩
  rw [hE] at hC h ⊢
  have HC := Lib.hid hC
  have ne : (E == 0) = false := beq_eq_false_iff_ne.2 h
  clear hC hm hE h
  go_enter Tryz.func48, Tryz.ntmps48
  go_upto_region 1 with (fail)
  go_name_world W1 hW1
  have hbn : Below w.heap.size w W1 := by subst hW1; go_grown
  have hb0 := hbn
  clear hbn
  have q0n : W1.cell? ⟨w.heap.size, 0, none⟩ = some (.int .i64 m.f.ticks) := by subst hW1; go_simp
  have q1n : W1.cell? ⟨w.heap.size, 1, none⟩ = some (.int .i64 m.f.yields) := by subst hW1; go_simp
  have q2n : W1.cell? ⟨w.heap.size, 2, none⟩ = some (.slice m.pa m.f.places.length m.pc) := by subst hW1; go_simp
  have q3n : W1.cell? ⟨w.heap.size, 3, none⟩ = some (.slice m.ga m.f.gates.length m.gc) := by subst hW1; go_simp
  have n0n : W1.cell? ⟨w.heap.size + 1, 0, none⟩ = some (.int .i64 0) := by subst hW1; go_simp
  have fn0n : W1.frozen? ⟨w.heap.size + 1, 0, none⟩ = false := by subst hW1; go_simp
  have n1n : W1.cell? ⟨w.heap.size + 1, 1, none⟩ = some (.slice none 0 0) := by subst hW1; go_simp
  have fn1n : W1.frozen? ⟨w.heap.size + 1, 1, none⟩ = false := by subst hW1; go_simp
  clear hW1 
  have q0 := q0n
  have q1 := q1n
  have q2 := q2n
  have q3 := q3n
  have n0 := n0n
  have fn0 := fn0n
  have n1 := n1n
  have fn1 := fn1n
  clear q0n q1n q2n q3n n0n n1n fn0n fn1n
  go_wp2_with fail
  refine (via (w0 := W1) (by go_grown) (HC.out _ hb0)).mono ?_
  rintro e W2 ⟨rfl, hc, hf, hz, hB⟩
  have zz := cy4 hc q0 q1 q2 q3
  clear q0 q1 q2 q3
  obtain ⟨q0, q1, q2, q3⟩ := zz
  replace fn0 := (hf _ _ (cell_lt n0)).trans fn0
  replace n0 := (hc _ _ (cell_lt n0)).trans n0
  replace fn1 := (hf _ _ (cell_lt n1)).trans fn1
  replace n1 := (hc _ _ (cell_lt n1)).trans n1
  have hbn : Below w.heap.size w W2 := bthen hb0 hB
  clear hb0
  have hb0 := hbn
  clear hbn
  have hzW2 : W1.heap.size ≤ W2.heap.size := hz
  clear hc hf hB hz
  go_wp2
  refine bodyPost_ret (v := .tuple #[.agg #[.int .i64 0, .slice none 0 0], .int .i64 E]) (by simp [results, Tryz.results48, go_sem, n0, n1]) rfl ⟨_, rfl, World.ownsRow_nil _ _ _ _, ?_⟩
  have hbz := hb0.size
  go_grown
end Go.Proofs.YtlppdgaogdpajaaGreatDoor
namespace Go.Proofs.YtlppdgaogdpajaaGreatDoor
theorem countN_le {f : Fe} (hr : Right f) : 0 ≤ countN f ∧ countN f ≤ 10000 := by
 have h1 := hr.p8
 have h2 := hr.g12
 have h3 := hr.t1
 have h4 := hr.t24
 have a : (f.ticks + 1) * (f.places.length : Int) ≤ 25 * 8 := Int.mul_le_mul (by omega) (by omega) (by omega) (by omega)
 have b : f.ticks * stepN f ≤ 24 * 64 := Int.mul_le_mul (by omega) (by unfold stepN; omega) (by unfold stepN; omega) (by omega)
 have c : 0 ≤ (f.ticks + 1) * (f.places.length : Int) := Int.mul_nonneg (by omega) (by omega)
 have d : 0 ≤ f.ticks * stepN f := Int.mul_nonneg (by omega) (by unfold stepN; omega)
 unfold countN firstN
 omega
theorem nature_in {f : Fe} (h : checkE f = 0) {a : Ar} (ha : a ∈ (natureV f).arcs) : a.low = 0 ∧ 0 ≤ a.high ∧ a.high ≤ 1000 := by
 have hr := right_of h
 have hy := rg_iff.1 hr.y
 rw [nature_arcs] at ha
 obtain ⟨y, hy2, rfl⟩ := List.mem_map.1 ha
 have hm : ∀ g ∈ f.gates, 0 ≤ g.most ∧ g.most ≤ 1000 := fun g hg => rg_iff.1 (by simpa using List.any_eq_false.1 hr.mo g hg)
 unfold waysL at hy2
 rw [List.mem_append, List.mem_append, List.mem_append] at hy2
 rcases hy2 with h | h | h | h
 ·obtain ⟨t, _, h⟩ := List.mem_flatMap.1 h
  unfold staysOf at h
  obtain ⟨⟨p, x⟩, _, rfl⟩ := List.mem_map.1 h
  exact ⟨rfl, by show (0 : Int) ≤ 1000; decide, by show (1000 : Int) ≤ 1000; decide⟩
 ·obtain ⟨t, _, h⟩ := List.mem_flatMap.1 h
  unfold stepOf at h
  rcases List.mem_append.1 h with h | h
  ·unfold movesOf at h
   obtain ⟨⟨p, x⟩, _, h⟩ := List.mem_flatMap.1 h
   unfold movesAt at h
   simp only [List.mem_cons, List.not_mem_nil, or_false] at h
   rcases h with rfl | rfl | rfl | rfl | rfl
   ·exact ⟨rfl, by show (0 : Int) ≤ 1000; decide, by show (1000 : Int) ≤ 1000; decide⟩
   ·exact ⟨rfl, hy.1, hy.2⟩
   ·exact ⟨rfl, hy.1, hy.2⟩
   ·exact ⟨rfl, hy.1, hy.2⟩
   ·exact ⟨rfl, hy.1, hy.2⟩
  ·unfold passesOf at h
   obtain ⟨⟨i, g⟩, hg, h⟩ := List.mem_flatMap.1 h
   have hgm : g ∈ f.gates := by
    obtain ⟨j, hj⟩ := List.mem_iff_getElem?.1 hg
    exact List.mem_of_getElem? (numbered_at hj).2
   unfold passesAt at h
   simp only [List.mem_cons, List.not_mem_nil, or_false] at h
   rcases h with rfl | rfl
   ·exact ⟨rfl, (hm g hgm).1, (hm g hgm).2⟩
   ·exact ⟨rfl, (hm g hgm).1, (hm g hgm).2⟩
 ·unfold begins at h
  obtain ⟨⟨p, x⟩, _, rfl⟩ := List.mem_map.1 h
  exact ⟨rfl, by show (0 : Int) ≤ 1000; decide, by show (1000 : Int) ≤ 1000; decide⟩
 ·unfold endsOf at h
  obtain ⟨⟨p, x⟩, _, rfl⟩ := List.mem_map.1 h
  exact ⟨rfl, by show (0 : Int) ≤ 1000; decide, by show (1000 : Int) ≤ 1000; decide⟩
theorem nature_len {f : Fe} (h : checkE f = 0) : ((natureV f).arcs.length : Int) = countN f := by
 rw [nature_arcs, List.length_map]
 exact ways_length f (by have := (right_of h).t1; omega)
theorem inside_history {f : Fe} (h : checkE f = 0) {x : List Int} (hx : insideA (natureV f).arcs x = true) : historyE f x = 0 := by
 obtain ⟨h1, h2⟩ := inside_iff.1 hx
 have hl := nature_len h
 unfold historyE
 rw [if_neg]
 rintro (e | e)
 ·omega
 ·obtain ⟨n, hn, hb⟩ := List.any_eq_true.1 e
  obtain ⟨i, hi⟩ := List.mem_iff_getElem?.1 hn
  have hlt := (List.getElem?_eq_some_iff.1 hi).1
  have ha : (natureV f).arcs[i]? = some (natureV f).arcs[i] := by simp
  have hin := nature_in h (List.mem_of_getElem? ha)
  have := h2 i _ n ha hi
  have : rg 0 1000 n = true := rg_iff.2 ⟨by omega, by omega⟩
  rw [this] at hb
  cases hb
def foldK (f : Fe) (owner : Int) (sort : ByteArray) (L : List Rp) (k : Nat) : List Ar := (L.take k).foldl (netStep f owner sort) (natureV f).arcs
theorem foldK_len (f : Fe) (owner : Int) (sort : ByteArray) (L : List Rp) (k : Nat) : (foldK f owner sort L k).length = (natureV f).arcs.length := net_len owner sort _ _
theorem foldK_step {f : Fe} {owner : Int} {sort : ByteArray} {L : List Rp} {k : Nat} {x : Rp} (h : L[k]? = some x) : foldK f owner sort L (k + 1) = netStep f owner sort (foldK f owner sort L k) x := net_step owner sort h _
theorem foldK_inside {f : Fe} {owner : Int} {sort : ByteArray} {L : List Rp} {x : List Int} : ∀ k, insideA (foldK f owner sort L k) x = true → insideA (natureV f).arcs x = true
 | 0, h => h
 | k + 1, h => by
  cases hk : L[k]? with
  | none =>
   have : foldK f owner sort L (k + 1) = foldK f owner sort L k := by
    unfold foldK
    have hle : L.length ≤ k := by simpa using hk
    rw [List.take_of_length_le (by omega), List.take_of_length_le hle]
   rw [this] at h
   exact foldK_inside k h
  | some r =>
   rw [foldK_step hk] at h
   by_cases hi : (idxN f r.kind r.plc r.tick).toNat < (foldK f owner sort L k).length
   ·rw [inside_step hi] at h
    split at h
    ·simp only [Bool.and_eq_true] at h
     exact foldK_inside k h.1
    ·exact foldK_inside k h
   ·have : netStep f owner sort (foldK f owner sort L k) r = foldK f owner sort L k := by
     unfold netStep
     split
     ·apply List.ext_getElem?
      intro j
      rw [List.getElem?_modify]
      by_cases e : (idxN f r.kind r.plc r.tick).toNat = j
      ·subst e
       rw [List.getElem?_eq_none (by omega)]
       rfl
      ·simp [e]
     ·rfl
    rw [this] at h
    exact foldK_inside k h
theorem counts_ok {f : Fe} {l : List Rp} {known : Int} (hc : (checkV f l).2 = 0) {r : Rp} (hr : r ∈ countL l known) : reportE f r = 0 ∧ ¬ r.kind = 8 ∧ JOk f r := by
 have hl := check_ok hc
 unfold countL at hr
 obtain ⟨h1, h2⟩ := List.mem_filter.1 hr
 have hj := hl.judged r h1
 have h0 : checkE f = 0 := by
  unfold checkV at hc
  by_cases e : checkE f = 0
  ·exact e
  ·rw [if_pos e] at hc; exact absurd hc e
 have hjz : judgeE f r = 0 := by
  unfold checkV at hc
  rw [if_neg (by omega)] at hc
  exact (from_ok l [] hc).1 r h1
 refine ⟨by unfold reportE; rw [if_neg (by omega)]; exact hjz, ?_, hj⟩
 unfold countsB at h2
 simp only [Bool.and_eq_true, bne_iff_ne, ne_eq] at h2
 exact h2.1.1
theorem counts_check {f : Fe} {l : List Rp} (hc : (checkV f l).2 = 0) : checkE f = 0 := by
 unfold checkV at hc
 by_cases e : checkE f = 0
 ·exact e
 ·rw [if_pos e] at hc; exact absurd hc e
theorem keeps_says {f : Fe} {r : Rp} (h : reportE f r = 0) (h8 : ¬ r.kind = 8) {x : List Int} (hh : historyE f x = 0) : keepsV f x r = (rg r.low r.high (x[(idxN f r.kind r.plc r.tick).toNat]?.getD 0), 0) := by
 have hm : moveV f r = (idxN f r.kind r.plc r.tick, 0) := by
  unfold moveV
  rw [if_neg (by omega), if_neg h8]
 unfold keepsV
 rw [hm, if_neg (fun h => h rfl), if_neg (by omega)]
theorem net_err {f : Fe} {l : List Rp} {known owner : Int} {sort : ByteArray} (h : (netV f l known owner sort).2 ≠ 0) : (netV f l known owner sort).1 = ⟨0, []⟩ := by
 unfold netV at h ⊢
 by_cases e1 : (checkV f l).2 ≠ 0
 ·rw [if_pos e1]
 ·rw [if_neg e1] at h ⊢
  by_cases e2 : (rg 1 40 owner && nameB sort) = false
  ·rw [if_pos e2]
  ·rw [if_neg e2] at h; exact absurd rfl h
theorem net_ok {f : Fe} {l : List Rp} {known owner : Int} {sort : ByteArray} (h : (netV f l known owner sort).2 = 0) : (checkV f l).2 = 0 ∧ (netV f l known owner sort).1 = ⟨nodeN f 0 (f.ticks + 1), foldK f owner sort (countL l known) (countL l known).length⟩ := by
 unfold netV at h ⊢
 by_cases e1 : (checkV f l).2 ≠ 0
 ·rw [if_pos e1] at h; exact absurd h e1
 ·rw [if_neg e1] at h ⊢
  by_cases e2 : (rg 1 40 owner && nameB sort) = false
  ·rw [if_pos e2] at h; cases h
  ·rw [if_neg e2]
   refine ⟨Classical.byContradiction e1, ?_⟩
   unfold foldK
   rw [List.take_length]
end Go.Proofs.YtlppdgaogdpajaaGreatDoor
namespace Go.Proofs.YtlppdgaogdpajaaGreatDoor.fellSays
open Go.ChangeShapes Go.WideShapes Go.ChangeAt Go.RowKit Go.Joins Go.Deep
open Go.ChangeMaps (open_string shut_string)
set_option maxRecDepth 100000 in
set_option maxHeartbeats 8000000 in
theorem walk_s (m : Fm) (l : List Rp) (a : Option Addr) (cap : Nat) (known owner : Int) (sort : ByteArray) (x : List Int) (xa : Option Addr) (xc : Nat) {w : World} (hm : m.Arg w) (hl : SlArg rpC 10 RpW w l a cap) (hs : (shortV m.f && fewV l 40) = false) (hL : LibW w) :
  Calls Tryz.prog 12 #[m.v, .slice a l.length cap, .int .i64 known, .int .i64 owner, .string sort, .slice xa x.length xc] w fun e w' => e = .returned (.bool true) ∧ Below w.heap.size w w' := by
 have hF := fun W (hb : Below w.heap.size w W) => c_few m l a cap W (hm.later hb) (slarg_later hl hb)
 rw [hs] at hF
 have HF := Lib.hid hF
 have HL := Lib.hid hL
 clear hF hL hm hl
 go_enter Tryz.func12, Tryz.ntmps12
 go_upto_region 1 with (fail)
 go_name_world W1 hW1
 have hbn : Below w.heap.size w W1 := by subst hW1; go_grown
 have hb0 := hbn
 clear hbn
 have q0n : W1.cell? ⟨w.heap.size, 0, none⟩ = some (.int .i64 m.f.ticks) := by subst hW1; go_simp
 have q1n : W1.cell? ⟨w.heap.size, 1, none⟩ = some (.int .i64 m.f.yields) := by subst hW1; go_simp
 have q2n : W1.cell? ⟨w.heap.size, 2, none⟩ = some (.slice m.pa m.f.places.length m.pc) := by subst hW1; go_simp
 have q3n : W1.cell? ⟨w.heap.size, 3, none⟩ = some (.slice m.ga m.f.gates.length m.gc) := by subst hW1; go_simp
 clear hW1 
 have q0 := q0n
 have q1 := q1n
 have q2 := q2n
 have q3 := q3n
 clear q0n q1n q2n q3n 
 go_wp2_with fail
 refine (via (w0 := W1) (by go_grown) (HF.out _ hb0)).mono ?_
 rintro e W2 ⟨rfl, hc, hf, hz, hB⟩
 have zz := cy4 hc q0 q1 q2 q3
 clear q0 q1 q2 q3
 obtain ⟨q0, q1, q2, q3⟩ := zz
 have hbn : Below w.heap.size w W2 := bthen hb0 hB
 clear hb0
 have hb0 := hbn
 clear hbn
 have hzW2 : W1.heap.size ≤ W2.heap.size := hz
 clear hc hf hB hz
 go_wp2_with fail
 refine (via (w0 := W2) (by go_grown) (c_alive _ (HL.out.later hb0))).mono ?_
 rintro e W3 ⟨rfl, hc, hf, hz, hB⟩
 have zz := cy4 hc q0 q1 q2 q3
 clear q0 q1 q2 q3
 obtain ⟨q0, q1, q2, q3⟩ := zz
 have hbn : Below w.heap.size w W3 := bthen hb0 hB
 clear hb0
 have hb0 := hbn
 clear hbn
 have hzW3 : W2.heap.size ≤ W3.heap.size := hz
 clear hc hf hB hz
 go_wp2_with fail
 go_ret
 exact ⟨rfl, by have hbz := hb0.size; go_grown⟩
set_option maxRecDepth 100000 in
set_option maxHeartbeats 8000000 in
theorem walk_n (m : Fm) (l : List Rp) (a : Option Addr) (cap : Nat) (known owner : Int) (sort : ByteArray) (x : List Int) (xa : Option Addr) (xc : Nat) {w : World} (hm : m.Arg w) (hl : SlArg rpC 10 RpW w l a cap) (hs : (shortV m.f && fewV l 40) = true) (h : 100 < sort.size) (hL : LibW w) :
  Calls Tryz.prog 12 #[m.v, .slice a l.length cap, .int .i64 known, .int .i64 owner, .string sort, .slice xa x.length xc] w fun e w' => e = .returned (.bool true) ∧ Below w.heap.size w w' := by
 have hF := fun W (hb : Below w.heap.size w W) => c_few m l a cap W (hm.later hb) (slarg_later hl hb)
 rw [hs] at hF
 have HF := Lib.hid hF
 have HL := Lib.hid hL
 have h1 : (100 : Int) < (sort.size : Int) := by omega
 clear hF hL hm hl
 go_enter Tryz.func12, Tryz.ntmps12
 go_upto_region 1 with (fail)
 go_name_world W1 hW1
 have hbn : Below w.heap.size w W1 := by subst hW1; go_grown
 have hb0 := hbn
 clear hbn
 have q0n : W1.cell? ⟨w.heap.size, 0, none⟩ = some (.int .i64 m.f.ticks) := by subst hW1; go_simp
 have q1n : W1.cell? ⟨w.heap.size, 1, none⟩ = some (.int .i64 m.f.yields) := by subst hW1; go_simp
 have q2n : W1.cell? ⟨w.heap.size, 2, none⟩ = some (.slice m.pa m.f.places.length m.pc) := by subst hW1; go_simp
 have q3n : W1.cell? ⟨w.heap.size, 3, none⟩ = some (.slice m.ga m.f.gates.length m.gc) := by subst hW1; go_simp
 clear hW1 
 have q0 := q0n
 have q1 := q1n
 have q2 := q2n
 have q3 := q3n
 clear q0n q1n q2n q3n 
 go_wp2_with fail
 refine (via (w0 := W1) (by go_grown) (HF.out _ hb0)).mono ?_
 rintro e W2 ⟨rfl, hc, hf, hz, hB⟩
 have zz := cy4 hc q0 q1 q2 q3
 clear q0 q1 q2 q3
 obtain ⟨q0, q1, q2, q3⟩ := zz
 have hbn : Below w.heap.size w W2 := bthen hb0 hB
 clear hb0
 have hb0 := hbn
 clear hbn
 have hzW2 : W1.heap.size ≤ W2.heap.size := hz
 clear hc hf hB hz
 go_wp2_with fail
 refine (via (w0 := W2) (by go_grown) (c_alive _ (HL.out.later hb0))).mono ?_
 rintro e W3 ⟨rfl, hc, hf, hz, hB⟩
 have zz := cy4 hc q0 q1 q2 q3
 clear q0 q1 q2 q3
 obtain ⟨q0, q1, q2, q3⟩ := zz
 have hbn : Below w.heap.size w W3 := bthen hb0 hB
 clear hb0
 have hb0 := hbn
 clear hbn
 have hzW3 : W2.heap.size ≤ W3.heap.size := hz
 clear hc hf hB hz
 go_wp2_with fail
 go_ret
 exact ⟨rfl, by have hbz := hb0.size; go_grown⟩
set_option maxRecDepth 100000 in
set_option maxHeartbeats 8000000 in
theorem walk_l (m : Fm) (l : List Rp) (a : Option Addr) (cap : Nat) (known owner : Int) (sort : ByteArray) (x : List Int) (xa : Option Addr) (xc : Nat) {w : World} (hm : m.Arg w) (hl : SlArg rpC 10 RpW w l a cap) (hs : (shortV m.f && fewV l 40) = true) (h0 : sort.size ≤ 100) (h : 4100 < x.length) (hL : LibW w) :
  Calls Tryz.prog 12 #[m.v, .slice a l.length cap, .int .i64 known, .int .i64 owner, .string sort, .slice xa x.length xc] w fun e w' => e = .returned (.bool true) ∧ Below w.heap.size w w' := by
 have hF := fun W (hb : Below w.heap.size w W) => c_few m l a cap W (hm.later hb) (slarg_later hl hb)
 rw [hs] at hF
 have HF := Lib.hid hF
 have HL := Lib.hid hL
 have h1 : ¬ (100 : Int) < (sort.size : Int) := by omega
 have h2 : (4100 : Int) < (x.length : Int) := by omega
 clear hF hL hm hl
 go_enter Tryz.func12, Tryz.ntmps12
 go_upto_region 1 with (fail)
 go_name_world W1 hW1
 have hbn : Below w.heap.size w W1 := by subst hW1; go_grown
 have hb0 := hbn
 clear hbn
 have q0n : W1.cell? ⟨w.heap.size, 0, none⟩ = some (.int .i64 m.f.ticks) := by subst hW1; go_simp
 have q1n : W1.cell? ⟨w.heap.size, 1, none⟩ = some (.int .i64 m.f.yields) := by subst hW1; go_simp
 have q2n : W1.cell? ⟨w.heap.size, 2, none⟩ = some (.slice m.pa m.f.places.length m.pc) := by subst hW1; go_simp
 have q3n : W1.cell? ⟨w.heap.size, 3, none⟩ = some (.slice m.ga m.f.gates.length m.gc) := by subst hW1; go_simp
 clear hW1 
 have q0 := q0n
 have q1 := q1n
 have q2 := q2n
 have q3 := q3n
 clear q0n q1n q2n q3n 
 go_wp2_with fail
 refine (via (w0 := W1) (by go_grown) (HF.out _ hb0)).mono ?_
 rintro e W2 ⟨rfl, hc, hf, hz, hB⟩
 have zz := cy4 hc q0 q1 q2 q3
 clear q0 q1 q2 q3
 obtain ⟨q0, q1, q2, q3⟩ := zz
 have hbn : Below w.heap.size w W2 := bthen hb0 hB
 clear hb0
 have hb0 := hbn
 clear hbn
 have hzW2 : W1.heap.size ≤ W2.heap.size := hz
 clear hc hf hB hz
 go_wp2_with fail
 refine (via (w0 := W2) (by go_grown) (c_alive _ (HL.out.later hb0))).mono ?_
 rintro e W3 ⟨rfl, hc, hf, hz, hB⟩
 have zz := cy4 hc q0 q1 q2 q3
 clear q0 q1 q2 q3
 obtain ⟨q0, q1, q2, q3⟩ := zz
 have hbn : Below w.heap.size w W3 := bthen hb0 hB
 clear hb0
 have hb0 := hbn
 clear hbn
 have hzW3 : W2.heap.size ≤ W3.heap.size := hz
 clear hc hf hB hz
 go_wp2_with fail
 go_ret
 exact ⟨rfl, by have hbz := hb0.size; go_grown⟩
set_option maxRecDepth 100000 in
set_option maxHeartbeats 8000000 in
theorem walk_e (m : Fm) (l : List Rp) (a : Option Addr) (cap : Nat) (known owner : Int) (sort : ByteArray) (x : List Int) (xa : Option Addr) (xc : Nat) {w : World} (hm : m.Arg w) (hl : SlArg rpC 10 RpW w l a cap) (hmi : m.In w) (hr : Rps w a l) (hok : ∀ y ∈ l, RpOk y) (_hx : Nums w xa x) (hs : (shortV m.f && fewV l 40) = true) (h0 : sort.size ≤ 100) (h4 : x.length ≤ 4100) (h : (netV m.f l known owner sort).2 ≠ 0) (hL : LibW w) :
  Calls Tryz.prog 12 #[m.v, .slice a l.length cap, .int .i64 known, .int .i64 owner, .string sort, .slice xa x.length xc] w fun e w' => e = .returned (.bool true) ∧ Below w.heap.size w w' := by
 have hF := fun W (hb : Below w.heap.size w W) => c_few m l a cap W (hm.later hb) (slarg_later hl hb)
 rw [hs] at hF
 have HF := Lib.hid hF
 have HL := Lib.hid hL
 have h1 : ¬ (100 : Int) < (sort.size : Int) := by omega
 have h2 : ¬ (4100 : Int) < (x.length : Int) := by omega
 have HM := Lib.hid hmi
 have hN := fun W (hb : Below w.heap.size w W) => c_NetOf m l a cap known owner sort W (hmi.later hb) (hr.later hb) hok hl.room
 have hT := fun W (hb : Below w.heap.size w W) => c_Nature m W (hmi.later hb)
 have hC := fun W (hb : Below w.heap.size w W) => c_Counting m l a cap known W (hmi.later hb) (hr.later hb) hok hl.room
 have he := net_err h
 obtain ⟨⟨nt, E0⟩, hR⟩ : ∃ R, netV m.f l known owner sort = R := ⟨_, rfl⟩
 rw [hR] at hN h he
 dsimp only at h he
 subst he
 have e0 : (E0 == 0) = false := beq_eq_false_iff_ne.2 h
 have HN := Lib.hid hN
 have HT := Lib.hid hT
 have HC := Lib.hid hC
 clear hF hL hm hl hmi hr hok hN hT hC h hR hs
 go_enter Tryz.func12, Tryz.ntmps12
 go_upto_region 1 with (fail)
 go_name_world W1 hW1
 have hbn : Below w.heap.size w W1 := by subst hW1; go_grown
 have hb0 := hbn
 clear hbn
 have q0n : W1.cell? ⟨w.heap.size, 0, none⟩ = some (.int .i64 m.f.ticks) := by subst hW1; go_simp
 have q1n : W1.cell? ⟨w.heap.size, 1, none⟩ = some (.int .i64 m.f.yields) := by subst hW1; go_simp
 have q2n : W1.cell? ⟨w.heap.size, 2, none⟩ = some (.slice m.pa m.f.places.length m.pc) := by subst hW1; go_simp
 have q3n : W1.cell? ⟨w.heap.size, 3, none⟩ = some (.slice m.ga m.f.gates.length m.gc) := by subst hW1; go_simp
 clear hW1 
 have q0 := q0n
 have q1 := q1n
 have q2 := q2n
 have q3 := q3n
 clear q0n q1n q2n q3n 
 go_wp2_with fail
 refine (via (w0 := W1) (by go_grown) (HF.out _ hb0)).mono ?_
 rintro e W2 ⟨rfl, hc, hf, hz, hB⟩
 have zz := cy4 hc q0 q1 q2 q3
 clear q0 q1 q2 q3
 obtain ⟨q0, q1, q2, q3⟩ := zz
 have hbn : Below w.heap.size w W2 := bthen hb0 hB
 clear hb0
 have hb0 := hbn
 clear hbn
 have hzW2 : W1.heap.size ≤ W2.heap.size := hz
 clear hc hf hB hz
 go_wp2_with fail
 refine (HN.out _ hb0).mono ?_
 rintro E W3 ⟨v1, rfl, ho1, hB⟩
 have hc := (bcell hB).1
 have zz := cy4 hc q0 q1 q2 q3
 clear q0 q1 q2 q3
 obtain ⟨q0, q1, q2, q3⟩ := zz
 obtain ⟨b1, c1, rfl, hcap1, _, hl1, _⟩ := Lst.own arC_len ho1
 clear ho1
 replace hb0 := bthen hb0 hB
 clear hc hB
 go_upto_region 4 with (fail)
 go_name_world W4 hW4
 have hB : Below W3.heap.size W3 W4 := by subst hW4; go_grown
 have y0 : W4.cell? ⟨W3.heap.size, 0, none⟩ = some (.int .i64 0) := by subst hW4; go_simp
 have y1 : W4.cell? ⟨W3.heap.size, 1, none⟩ = some (.slice b1 0 c1) := by subst hW4; go_simp
 clear hW4
 have hc := (bcell hB).1
 have zz := cy4 hc q0 q1 q2 q3
 clear q0 q1 q2 q3
 obtain ⟨q0, q1, q2, q3⟩ := zz
 replace hb0 := bthen hb0 hB
 clear hc hB
 go_wp2_with fail
 refine (HT.out _ hb0).mono ?_
 rintro E W5 ⟨v2, rfl, ho2, hB⟩
 have hc := (bcell hB).1
 have zz := cy6 hc q0 q1 q2 q3 y0 y1
 clear q0 q1 q2 q3 y0 y1
 obtain ⟨q0, q1, q2, q3, y0, y1⟩ := zz
 obtain ⟨nb, E2⟩ := natureR m.f
 dsimp only at ho2 ⊢
 obtain ⟨b2, c2, rfl, hcap2, _, hl2, _⟩ := Lst.own arC_len ho2
 clear ho2
 replace hb0 := bthen hb0 hB
 clear hc hB
 go_upto_region 5 with (fail)
 go_name_world W6 hW6
 have hB : Below W5.heap.size W5 W6 := by subst hW6; go_grown
 clear hW6
 have hc := (bcell hB).1
 have zz := cy6 hc q0 q1 q2 q3 y0 y1
 clear q0 q1 q2 q3 y0 y1
 obtain ⟨q0, q1, q2, q3, y0, y1⟩ := zz
 replace hb0 := bthen hb0 hB
 clear hc hB
 go_wp2_with fail
 refine (HC.out _ hb0).mono ?_
 rintro E W7 ⟨v3, rfl, ho3, hB⟩
 have hc := (bcell hB).1
 have zz := cy6 hc q0 q1 q2 q3 y0 y1
 clear q0 q1 q2 q3 y0 y1
 obtain ⟨q0, q1, q2, q3, y0, y1⟩ := zz
 obtain ⟨cl, E3⟩ := countV m.f l known
 dsimp only at ho3 ⊢
 obtain ⟨b3, c3, rfl, hcap3, _, hl3, _⟩ := Lst.own rpC_len ho3
 clear ho3
 replace hb0 := bthen hb0 hB
 clear hc hB
 go_wp2_with fail
 refine (via (w0 := W7) (by go_grown) (c_alive _ (HL.out.later hb0))).mono ?_
 rintro e W8 ⟨rfl, hc, hf, hz, hB⟩
 have zz := cy6 hc q0 q1 q2 q3 y0 y1
 clear q0 q1 q2 q3 y0 y1
 obtain ⟨q0, q1, q2, q3, y0, y1⟩ := zz
 have hbn : Below w.heap.size w W8 := bthen hb0 hB
 clear hb0
 have hb0 := hbn
 clear hbn
 have hzW8 : W7.heap.size ≤ W8.heap.size := hz
 clear hc hf hB hz
 go_wp2_with fail
 go_ret
 exact ⟨rfl, by have hbz := hb0.size; go_grown⟩
set_option maxRecDepth 100000 in
set_option maxHeartbeats 8000000 in
theorem walk_ok (m : Fm) (l : List Rp) (a : Option Addr) (cap : Nat) (known owner : Int) (sort : ByteArray) (x : List Int) (xa : Option Addr) (xc : Nat) {w : World} (hm : m.Arg w) (hl : SlArg rpC 10 RpW w l a cap) (hmi : m.In w) (hr : Rps w a l) (hok : ∀ y ∈ l, RpOk y) (hx : Nums w xa x) (hs : (shortV m.f && fewV l 40) = true) (h0 : sort.size ≤ 100) (h4 : x.length ≤ 4100) (h : (netV m.f l known owner sort).2 = 0) (hL : LibW w) :
  Calls Tryz.prog 12 #[m.v, .slice a l.length cap, .int .i64 known, .int .i64 owner, .string sort, .slice xa x.length xc] w fun e w' => e = .returned (.bool true) ∧ Below w.heap.size w w' := by
 have hF := fun W (hb : Below w.heap.size w W) => c_few m l a cap W (hm.later hb) (slarg_later hl hb)
 rw [hs] at hF
 have HF := Lib.hid hF
 have HL := Lib.hid hL
 have h1 : ¬ (100 : Int) < (sort.size : Int) := by omega
 have h2 : ¬ (4100 : Int) < (x.length : Int) := by omega
 have HM := Lib.hid hmi
 have hN := fun W (hb : Below w.heap.size w W) => c_NetOf m l a cap known owner sort W (hmi.later hb) (hr.later hb) hok hl.room
 have hT := fun W (hb : Below w.heap.size w W) => c_Nature m W (hmi.later hb)
 have hC := fun W (hb : Below w.heap.size w W) => c_Counting m l a cap known W (hmi.later hb) (hr.later hb) hok hl.room
 obtain ⟨hk, he⟩ := net_ok h
 have hck := counts_check hk
 obtain ⟨⟨nt, E0⟩, hR⟩ : ∃ R, netV m.f l known owner sort = R := ⟨_, rfl⟩
 rw [hR] at hN h he
 dsimp only at h he
 subst h he
 have hnr : natureR m.f = (natureV m.f, 0) := if_neg (by omega)
 have hcv : countV m.f l known = (countL l known, 0) := if_neg (by omega)
 rw [hnr] at hT
 rw [hcv] at hC
 have hcok := fun r (hr : r ∈ countL l known) => counts_ok hk hr
 have hlen : (countL l known).length ≤ 40 := by
  have h1 : (countL l known).length ≤ l.length := List.length_filter_le _ _
  have h2 : l.length ≤ 40 := by
   simp only [Bool.and_eq_true] at hs
   have h3 := hs.2
   unfold fewV at h3
   simp only [Bool.and_eq_true, decide_eq_true_eq] at h3
   exact h3.1
  omega
 have hal : (natureV m.f).arcs.length ≤ 100000 := by
  have h1 := nature_len hck
  have h2 := countN_le (right_of hck)
  omega
 have hfl := fun k => foldK_len m.f owner sort (countL l known) k
 have hfs := fun k r (hr : (countL l known)[k]? = some r) => foldK_step (f := m.f) (owner := owner) (sort := sort) hr
 have hfi := fun k => foldK_inside (f := m.f) (owner := owner) (sort := sort) (L := countL l known) (x := x) k
 have hf0 : foldK m.f owner sort (countL l known) 0 = (natureV m.f).arcs := rfl
 have hih := fun h => inside_history (f := m.f) (x := x) hck h
 have hidx := fun (r : Rp) (hr : r ∈ countL l known) => idx_lt (right_of hck).small (hcok r hr).2.2 (hcok r hr).2.1
 have hnl := nature_len hck
 have hK := fun (r : Rp) (hr : r ∈ countL l known) W (hb : Below w.heap.size w W) => c_Keeps m x xa xc r W (hmi.later hb) (hcok r hr).2.2.rpOk (hx.later hb)
 generalize countL l known = L at *
 generalize hFK : foldK m.f owner sort L = FK at *
 obtain ⟨A0, hA0⟩ : ∃ A, (natureV m.f).arcs = A := ⟨_, rfl⟩
 obtain ⟨n0, hn0⟩ : ∃ n, (natureV m.f).n = n := ⟨_, rfl⟩
 have hnt : natureV m.f = ⟨n0, A0⟩ := by rw [← hA0, ← hn0]
 rw [hnt] at hT
 simp only [hA0] at hfl hfi hf0 hih hnl hal
 have HN := Lib.hid hN
 have HT := Lib.hid hT
 have HC := Lib.hid hC
 have HX := Lib.hid hx
 have HK := Lib.hid hK
 have FL := Lib.hid hfl
 have FS := Lib.hid hfs
 have FI := Lib.hid hfi
 have F0 := Lib.hid hf0
 have IH := Lib.hid hih
 have IX := Lib.hid hidx
 have NL := Lib.hid hnl
 have CO := Lib.hid hcok
 clear hF hL hm hl hmi hr hok hx hN hT hC hR hs hnr hcv hcok hfl hfs hfi hf0 hih hidx hnl hK hFK hA0 hn0 hnt hk hck
 go_enter Tryz.func12, Tryz.ntmps12
 go_upto_region 1 with (fail)
 go_name_world W1 hW1
 have hbn : Below w.heap.size w W1 := by subst hW1; go_grown
 have hb0 := hbn
 clear hbn
 have q0n : W1.cell? ⟨w.heap.size, 0, none⟩ = some (.int .i64 m.f.ticks) := by subst hW1; go_simp
 have q1n : W1.cell? ⟨w.heap.size, 1, none⟩ = some (.int .i64 m.f.yields) := by subst hW1; go_simp
 have q2n : W1.cell? ⟨w.heap.size, 2, none⟩ = some (.slice m.pa m.f.places.length m.pc) := by subst hW1; go_simp
 have q3n : W1.cell? ⟨w.heap.size, 3, none⟩ = some (.slice m.ga m.f.gates.length m.gc) := by subst hW1; go_simp
 clear hW1 
 have q0 := q0n
 have q1 := q1n
 have q2 := q2n
 have q3 := q3n
 clear q0n q1n q2n q3n 
 go_wp2_with fail
 refine (via (w0 := W1) (by go_grown) (HF.out _ hb0)).mono ?_
 rintro e W2 ⟨rfl, hc, hf, hz, hB⟩
 have zz := cy4 hc q0 q1 q2 q3
 clear q0 q1 q2 q3
 obtain ⟨q0, q1, q2, q3⟩ := zz
 have hbn : Below w.heap.size w W2 := bthen hb0 hB
 clear hb0
 have hb0 := hbn
 clear hbn
 have hzW2 : W1.heap.size ≤ W2.heap.size := hz
 clear hc hf hB hz
 go_wp2_with fail
 refine (HN.out _ hb0).mono ?_
 rintro E W3 ⟨v1, rfl, ho1, hB⟩
 have hc := (bcell hB).1
 have zz := cy4 hc q0 q1 q2 q3
 clear q0 q1 q2 q3
 obtain ⟨q0, q1, q2, q3⟩ := zz
 obtain ⟨b1, c1, rfl, hcap1, _, hl1, _⟩ := Lst.own arC_len ho1
 clear ho1
 have fl1 := FL.out L.length
 rw [fl1] at hl1 hcap1 ⊢
 have ha1 := hl1 (by omega)
 clear hl1
 replace hb0 := bthen hb0 hB
 clear hc hB
 go_upto_region 4 with (fail)
 go_name_world W4 hW4
 have hB : Below W3.heap.size W3 W4 := by subst hW4; go_grown
 have y0 : W4.cell? ⟨W3.heap.size, 0, none⟩ = some (.int .i64 (nodeN m.f 0 (m.f.ticks + 1))) := by subst hW4; go_simp
 have y1 : W4.cell? ⟨W3.heap.size, 1, none⟩ = some (.slice b1 A0.length c1) := by subst hW4; go_simp
 clear hW4
 have hc := (bcell hB).1
 have zz := cy4 hc q0 q1 q2 q3
 clear q0 q1 q2 q3
 obtain ⟨q0, q1, q2, q3⟩ := zz
 replace ha1 := ha1.later hB
 replace hb0 := bthen hb0 hB
 clear hc hB
 go_wp2_with fail
 refine (HT.out _ hb0).mono ?_
 rintro E W5 ⟨v2, rfl, ho2, hB⟩
 have hc := (bcell hB).1
 have zz := cy6 hc q0 q1 q2 q3 y0 y1
 clear q0 q1 q2 q3 y0 y1
 obtain ⟨q0, q1, q2, q3, y0, y1⟩ := zz
 obtain ⟨b2, c2, rfl, hcap2, _, hl2, _⟩ := Lst.own arC_len ho2
 clear ho2
 have ha2 := hl2 (by show A0.length ≤ _; omega)
 clear hl2
 replace ha1 := ha1.later hB
 replace hb0 := bthen hb0 hB
 clear hc hB
 go_upto_region 5 with (fail)
 go_name_world W6 hW6
 have hB : Below W5.heap.size W5 W6 := by subst hW6; go_grown
 have z0 : W6.cell? ⟨W5.heap.size, 0, none⟩ = some (.int .i64 n0) := by subst hW6; go_simp
 have z1 : W6.cell? ⟨W5.heap.size, 1, none⟩ = some (.slice b2 A0.length c2) := by subst hW6; go_simp
 clear hW6
 have hc := (bcell hB).1
 have zz := cy6 hc q0 q1 q2 q3 y0 y1
 clear q0 q1 q2 q3 y0 y1
 obtain ⟨q0, q1, q2, q3, y0, y1⟩ := zz
 replace ha1 := ha1.later hB
 replace ha2 := ha2.later hB
 replace hb0 := bthen hb0 hB
 clear hc hB
 go_wp2_with fail
 refine (HC.out _ hb0).mono ?_
 rintro E W7 ⟨v3, rfl, ho3, hB⟩
 have hc := (bcell hB).1
 have zz := cy8 hc q0 q1 q2 q3 y0 y1 z0 z1
 clear q0 q1 q2 q3 y0 y1 z0 z1
 obtain ⟨q0, q1, q2, q3, y0, y1, z0, z1⟩ := zz
 obtain ⟨b3, c3, rfl, hcap3, _, hl3, _⟩ := Lst.own rpC_len ho3
 clear ho3
 have hr3 := hl3 (by show L.length ≤ _; omega)
 clear hl3
 replace ha1 := ha1.later hB
 replace ha2 := ha2.later hB
 replace hb0 := bthen hb0 hB
 clear hc hB
 go_wp2_with fail
 refine (c_inside n0 A0 b2 c2 x xa xc _ ha2 (HX.out.later hb0) hal).mono ?_
 rintro E W8 ⟨rfl, hB⟩
 have hc := (bcell hB).1
 have zz := cy8 hc q0 q1 q2 q3 y0 y1 z0 z1
 clear q0 q1 q2 q3 y0 y1 z0 z1
 obtain ⟨q0, q1, q2, q3, y0, y1, z0, z1⟩ := zz
 replace ha1 := ha1.later hB
 replace hr3 := hr3.later hB
 replace hb0 := bthen hb0 hB
 clear hc hB ha2 z0 z1
 have HR3 := Lib.hid (fun (W' : World) (hb : Below W8.heap.size W8 W') => hr3.later hb)
 have HA1 := Lib.hid (fun (W' : World) (hb : Below W8.heap.size W8 W') => ha1.later hb)
 have HB0 := Lib.hid hb0
 have HQ := Lib.hid (show CellsAt W8 w.heap.size 0 (feC m) from cells_4 q0 q1 q2 q3)
 
 have HY := Lib.hid (show W8.cell? ⟨W3.heap.size, 0, none⟩ = some (.int .i64 (nodeN m.f 0 (m.f.ticks + 1))) ∧ W8.cell? ⟨W3.heap.size, 1, none⟩ = some (.slice b1 A0.length c1) from ⟨y0, y1⟩)
 clear y0 y1 hr3 ha1 q0 q1 q2 q3
 rw [← F0.out]
 go_wp2
 go_loopw [19, 94] (fun v19 v94 wr => ∃ k : Nat, k ≤ L.length ∧ v94 = .int .i64 k ∧ v19 = .bool (insideA (FK k) x) ∧ Below W8.heap.size W8 wr) (fun _ v94 _ => L.length - (intOf v94).toNat)
 case atStart => exact ⟨0, by omega, rfl, rfl, Below.refl _ _⟩
 case round =>
  clear hb0
  obtain ⟨k, hk, rfl, rfl, hbr⟩ := hrel
  have hb0 := bthen HB0.out hbr
  obtain ⟨q0, q1, q2, q3⟩ := fe_cells (HQ.out.later hbr)
  by_cases hlt : k < L.length
  ·obtain ⟨r, hr⟩ := some_at hlt
   obtain ⟨gb, go', hgb, hat⟩ := (HR3.out _ hbr).at hr
   obtain ⟨r0, r1, r2, r3, r4, r5, r6, r7, r8, r9⟩ := rp_cells hat
   have hi1 : ¬ (k : Int) < 0 := by omega
   have hi2 : (k : Int) < (L.length : Int) := by omega
   have hstep := FS.out k r hr
   have hxl := IX.out r (some_mem hr)
   have hxx := inside_step (f := m.f) (owner := owner) (sort := sort) (A := FK k) (x := x) (r := r) (by have := FL.out k; have := NL.out; omega)
   rw [← hstep] at hxx
   have HXX := Lib.hid hxx
   have HRM := Lib.hid (some_mem hr)
   rw [hgb]
   clear hat hr hgb hstep hxl hxx
   go_upto_region 14 with (fail)
   go_name_world W30 hW30
   have hB : Below wr.heap.size wr W30 := by subst hW30; go_grown
 
   have s0 : W30.cell? ⟨wr.heap.size, 0, none⟩ = some (.int .i64 r.id) := by subst hW30; go_simp
   have s1 : W30.cell? ⟨wr.heap.size, 1, none⟩ = some (.int .i64 r.known) := by subst hW30; go_simp
   have s2 : W30.cell? ⟨wr.heap.size, 2, none⟩ = some (.int .u8 r.kind) := by subst hW30; go_simp
   have s3 : W30.cell? ⟨wr.heap.size, 3, none⟩ = some (.int .i64 r.owner) := by subst hW30; go_simp
   have s4 : W30.cell? ⟨wr.heap.size, 4, none⟩ = some (.string r.sort) := by subst hW30; go_simp
   have s5 : W30.cell? ⟨wr.heap.size, 5, none⟩ = some (.int .i64 r.plc) := by subst hW30; go_simp
   have s6 : W30.cell? ⟨wr.heap.size, 6, none⟩ = some (.int .i64 r.tick) := by subst hW30; go_simp
   have s7 : W30.cell? ⟨wr.heap.size, 7, none⟩ = some (.int .i64 r.low) := by subst hW30; go_simp
   have s8 : W30.cell? ⟨wr.heap.size, 8, none⟩ = some (.int .i64 r.high) := by subst hW30; go_simp
   have s9 : W30.cell? ⟨wr.heap.size, 9, none⟩ = some (.int .i64 r.void) := by subst hW30; go_simp
   clear hW30 r0 r1 r2 r3 r4 r5 r6 r7 r8 r9
   have zz := cl4 hB q0 q1 q2 q3
   clear q0 q1 q2 q3
   obtain ⟨q0, q1, q2, q3⟩ := zz
   replace hbr := bthen hbr hB
   replace hb0 := bthen hb0 hB
   clear hB
   by_cases hfit : insideA (FK k) x = true ∧ (r.owner = owner ∧ r.sort = sort)
   ·obtain ⟨hall, ho1, ho2⟩ := hfit
    subst ho1 ho2
    have hf2 : fitsB r.owner r.sort r = true := fits_iff.2 ⟨rfl, rfl⟩
    have hxx := HXX.out
    rw [if_pos hf2, hall, Bool.true_and] at hxx
    have hkp := HK.out r HRM.out
    have hks := keeps_says (CO.out r HRM.out).1 (CO.out r HRM.out).2.1 (IH.out (FI.out k hall))
    simp only [hks] at hkp
    generalize rg r.low r.high (x[(idxN m.f r.kind r.plc r.tick).toNat]?.getD 0) = kb at hkp hxx
    have HKP := Lib.hid hkp
    have HXK := Lib.hid hxx
    rw [hall]
    clear hf2 hkp hks hxx hall
    go_wp2_with fail
    refine (HKP.out _ hb0).mono ?_
    rintro E W31 ⟨rfl, hB⟩
    have HBR := Lib.hid (bthen hbr hB)
    clear hB hbr hb0 s0 s1 s2 s3 s4 s5 s6 s7 s8 s9 q0 q1 q2 q3 HKP
    cases kb
    ·go_wp2
     go_roundw
     case rel => exact ⟨k + 1, by omega, by go_num, by rw [HXK.out], HBR.out⟩
     case measure => simp [intOf]; omega
    ·go_wp2
     go_roundw
     case rel => exact ⟨k + 1, by omega, by go_num, by rw [HXK.out], HBR.out⟩
     case measure => simp [intOf]; omega
   ·have hxx : insideA (FK (k + 1)) x = insideA (FK k) x := by
     have := HXX.out
     cases hb : insideA (FK k) x with
     | false => rw [this]; split <;> simp [hb]
     | true =>
      rw [this, if_neg, hb]
      intro e
      exact hfit ⟨hb, fits_iff.1 e⟩
    have HXK := Lib.hid hxx
    have HBR := Lib.hid hbr
    obtain ⟨bi, hbi⟩ : ∃ t, insideA (FK k) x = t := ⟨_, rfl⟩
    rw [hbi] at hfit ⊢
    rw [hbi] at HXK
    clear hxx hbi hb0 hbr q0 q1 q2 q3
    cases bi
    ·clear hfit
     go_wp2
     go_roundw
     case rel => exact ⟨k + 1, by omega, by go_num, by rw [HXK.out], HBR.out⟩
     case measure => simp [intOf]; omega
    ·by_cases ho : r.owner = owner
     ·subst ho
      have g2 : (r.sort.toList == sort.toList) = false := beq_eq_false_iff_ne.2 (fun h => hfit ⟨rfl, rfl, tl_inj h⟩)
      clear hfit
      go_wp2
      go_roundw
      case rel => exact ⟨k + 1, by omega, by go_num, by rw [HXK.out], HBR.out⟩
      case measure => simp [intOf]; omega
     ·have g1 : (r.owner == owner) = false := beq_eq_false_iff_ne.2 ho
      have g3 : (r.owner != owner) = true := bne_iff_ne.2 ho
      clear hfit ho
      go_wp2
      go_roundw
      case rel => exact ⟨k + 1, by omega, by go_num, by rw [HXK.out], HBR.out⟩
      case measure => simp [intOf]; omega
  ·obtain rfl : k = L.length := by omega
   have hi2 : ¬ (L.length : Int) < (L.length : Int) := by omega
   obtain ⟨y0, y1⟩ := HY.out
   replace y0 := later_of hbr y0
   replace y1 := later_of hbr y1
   have ha1 := HA1.out _ hbr
   clear q0 q1 q2 q3
   go_wp2_with fail
   refine (c_alive _ (HL.out.later hb0)).mono ?_
   rintro E W40 ⟨rfl, hB⟩
   replace y0 := later_of hB y0
   replace y1 := later_of hB y1
   replace ha1 := ha1.later hB
   replace hb0 := bthen hb0 hB
   clear hB hbr
   have hin := c_inside (nodeN m.f 0 (m.f.ticks + 1)) (FK L.length) b1 c1 x xa xc W40 ha1 (HX.out.later hb0) (by rw [FL.out]; exact hal)
   rw [FL.out] at hin
   generalize insideA (FK L.length) x = bi at hin ⊢
   have HIN := Lib.hid hin
   clear hin ha1
   go_wp2_with fail
   refine HIN.out.mono ?_
   rintro E W41 ⟨rfl, hB⟩
   have hbn := bthen hb0 hB
   clear hB hb0
   cases bi
   ·go_wp2
    go_ret
    exact ⟨rfl, hbn⟩
   ·go_wp2
    go_ret
    exact ⟨rfl, hbn⟩
theorem walk {w : World} (m : Fm) (hm : m.Arg w) (l : List Rp) (a : Option Addr) (cap : Nat) (hl : SlArg rpC 10 RpW w l a cap) (known owner : Int) (sort : ByteArray) (_ms : sort.size ≤ maxLen) (x : List Int) (xa : Option Addr) (xc : Nat) (_hmax : x.length ≤ maxLen) (hx : x.length ≤ 1000000000000 → Ints w xa x) (hL : LibW w) :
  Calls Tryz.prog 12 #[m.v, .slice a l.length cap, .int .i64 known, .int .i64 owner, .string sort, .slice xa x.length xc] w fun e w' => e = .returned (.bool true) ∧ Below w.heap.size w w' := by
 cases hs : shortV m.f && fewV l 40 with
 | false => exact walk_s m l a cap known owner sort x xa xc hm hl hs hL
 | true =>
  by_cases h0 : sort.size ≤ 100
  ·by_cases h4 : x.length ≤ 4100
   ·have hs2 := hs
    simp only [Bool.and_eq_true] at hs2
    have hmi := short_in hm hs2.1
    have h3 := hs2.2
    unfold fewV at h3
    simp only [Bool.and_eq_true, decide_eq_true_eq] at h3
    have hr := hl.lst (by omega)
    have hok : ∀ y ∈ l, RpOk y := fun y hy => ⟨(rpW_ok (hl.all y hy)).1, (rpW_ok (hl.all y hy)).2⟩
    have hx2 := nums_of (hx (by omega))
    by_cases h : (netV m.f l known owner sort).2 = 0
    ·exact walk_ok m l a cap known owner sort x xa xc hm hl hmi hr hok hx2 hs h0 h4 h hL
    ·exact walk_e m l a cap known owner sort x xa xc hm hl hmi hr hok hx2 hs h0 h4 h hL
   ·exact walk_l m l a cap known owner sort x xa xc hm hl hs h0 (by omega) hL
  ·exact walk_n m l a cap known owner sort x xa xc hm hl hs (by omega) hL
set_option maxRecDepth 100000 in
theorem contract (H : Type) (enc : TypeId × Value → H) (W : World) (base : Nat) (args : Array Value) (ds gs : List (DataW H)) (before : List MemPlace)
    (hval : ∀ (j : Nat) t v, Tryz.f12.params[j]? = some t → args[j]? = some v → Value.okWide Tryz.prog W .any base t v)
    (hW : DataW.Whole enc Tryz.prog Tryz.f12.params.toList Rows.fellSaysSpec.vars false W args.toList ds gs before) (hL : LibW W) :
    Calls Tryz.prog 12 args W fun e W' => ∃ v, e = .returned v ∧ Rows.fellSaysSpec.post enc Tryz.prog Tryz.f12 false true false false W args v W' := by
  have hW' := hW
  obtain ⟨p, q, hA0, hV, rfl, _, _⟩ := hW
  have hA : DataW.TrodAll enc Tryz.prog W 0 (fun _ => true) true Tryz.f12.params.toList args.toList ds p := hA0
  rw [Tryz.params12] at hA hval
  obtain ⟨v0, vs0, d0, ds0, p0, q0, hargs, rfl, rfl, h0, r0⟩ := trodAll_cons hA
  obtain ⟨v1, vs1, d1, ds1, p1, q1, rfl, rfl, rfl, h1, r1⟩ := trodAll_cons r0
  obtain ⟨v2, vs2, d2, ds2, p2, q2, rfl, rfl, rfl, h2, r2⟩ := trodAll_cons r1
  obtain ⟨v3, vs3, d3, ds3, p3, q3, rfl, rfl, rfl, h3, r3⟩ := trodAll_cons r2
  obtain ⟨v4, vs4, d4, ds4, p4, q4, rfl, rfl, rfl, h4, r4⟩ := trodAll_cons r3
  obtain ⟨v5, vs5, d5, ds5, p5, q5, rfl, rfl, rfl, h5, r5⟩ := trodAll_cons r4
  obtain ⟨rfl, rfl, rfl⟩ := trodAll_nil r5
  obtain rfl : args = #[v0, v1, v2, v3, v4, v5] := by cases args; simp_all
  obtain ⟨rfl, rfl⟩ := trodVars_none hV
  obtain ⟨m0, rfl, e0⟩ := open_fell (hval 0 25 v0 rfl rfl) h0
  obtain ⟨b1, l1, k1, rfl, e1⟩ := open_log (hval 1 37 v1 rfl rfl) h1
  obtain ⟨a2, rfl, rfl, rfl, w2⟩ := open_int Tryz.underlying3 (hval 2 3 v2 rfl rfl) h2
  obtain ⟨a3, rfl, rfl, rfl, w3⟩ := open_int Tryz.underlying3 (hval 3 3 v3 rfl rfl) h3
  obtain ⟨a4, rfl, rfl, rfl, w4⟩ := open_string Tryz.underlying9 (hval 4 9 v4 rfl rfl) h4
  obtain ⟨b5, l5, k5, rfl, m5, e5⟩ := open_nums (fun _ _ => hval 5 75 v5 rfl rfl) h5
  clear hA0
  have s2 := stays h2 (by kernel_rfl) (by kernel_rfl)
  have s3 := stays h3 (by kernel_rfl) (by kernel_rfl)
  have s4 := stays h4 (by kernel_rfl) (by kernel_rfl)
  refine (walk m0 e0 l1 b1 k1 e1 a2 a3 a4 w4 l5 b5 k5 m5 e5 hL).mono fun e W' ⟨he, hg⟩ => ?_
  subst he
  have hlt := fun x hx => hW'.lt x hx
  exact ⟨_, rfl, post_of_below (pa := (p0 ++ (p1 ++ ([] ++ ([] ++ ([] ++ (p5 ++ []))))))) (pv := []) hW' (fun _ _ _ => (trodAll_cons_mk (shut_bool Tryz.underlying4 _) trodAll_mk0)) (fun sp hsp => (trodAll_cons_mk (staysB h0 (by kernel_rfl) (by kernel_rfl) hg hlt (fun x hx => by simp [hx]) sp hsp) (trodAll_cons_mk (staysB h1 (by kernel_rfl) (by kernel_rfl) hg hlt (fun x hx => by simp [hx]) sp hsp) (trodAll_cons_mk (s2 _ _) (trodAll_cons_mk (s3 _ _) (trodAll_cons_mk (s4 _ _) (trodAll_cons_mk (staysB h5 (by kernel_rfl) (by kernel_rfl) hg hlt (fun x hx => by simp [hx]) sp hsp) trodAll_mk0))))))) (fun _ _ => rfl) rfl
    hg (ok_one (by kernel_rfl) rfl (okWide_bool_mk Tryz.underlying4 _))⟩
set_option maxRecDepth 100000 in
theorem reads (os : Os) {H : Type} (enc : TypeId × Value → H) : ∃ places, DataW.whole enc Tryz.prog ((laidWorld os).forCall (fun _ _ => 0) ⟨#[], #[.agg #[.int .i64 0, .int .i64 0, .slice none 0 0, .slice none 0 0], .slice none 0 0, .int .i64 0, .int .i64 0, .string ⟨#[]⟩, .slice none 0 0], []⟩).memory Tryz.f12.params.toList Rows.fellSaysSpec.vars false (Array.toList #[.agg #[.int .i64 0, .int .i64 0, .slice none 0 0, .slice none 0 0], .slice none 0 0, .int .i64 0, .int .i64 0, .string ⟨#[]⟩, .slice none 0 0]) 8 = some ([.agg [.lit (.int .i64 0), .lit (.int .i64 0), .nil, .nil], .nil, .lit (.int .i64 0), .lit (.int .i64 0), .lit (.string []), .nil], [], places) :=
 ⟨[], by kernel_rfl⟩
set_option maxRecDepth 100000 in
theorem lifted (os : Os) (started : os.Started) (H : Type) (enc : TypeId × Value → H) (F : Stop.Interp) :
    ReturnsInHanded {} Tryz.checked os 12 .any ((OpenSpec.ofChange Rows.fellSaysSpec).preRow enc Tryz.prog Tryz.f12 Rows.fellSaysRow.domain false Rows.fellSaysRow.laid) (((OpenSpec.ofChange Rows.fellSaysSpec).at F).post enc Tryz.prog Tryz.f12 false true false false) := by
  obtain ⟨places, hx⟩ := reads os enc
  refine returnsInHanded_of_row (C := Tryz.checked) (s := OpenSpec.ofChange Rows.fellSaysSpec) own started (by kernel_rfl) Tryz.func12
    (witness_row_atRef (enc := enc) (C := Tryz.checked) false (laidWorld os) #[.agg #[.int .i64 0, .int .i64 0, .slice none 0 0, .slice none 0 0], .slice none 0 0, .int .i64 0, .int .i64 0, .string ⟨#[]⟩, .slice none 0 0] rfl (by kernel_rfl) (by kernel_rfl) (by kernel_rfl)
      (OpenSpec.preRow_of_cond 8 hx (by kernel_rfl) (fun k hk => by cases hk) (by kernel_rfl) (laidWorld_met os _))) ?_
  intro W base args ds gs before hval hW _ _ _ hL hsh _
  exact contract H enc W base args ds gs before hval hW (libW_of hL hsh)
theorem said : Rows.FellSaysSaid :=
 OpenClaim.holds_of_cond 12 Tryz.f12 rfl rfl rfl rfl rfl rfl rfl ⟨rfl, rfl, rfl, rfl, rfl⟩ rfl rfl rfl rfl rfl (by as_aux_lemma => kernel_rfl) Tryz.func12 facts
  (of_decide_eq_true (by as_aux_lemma => kernel_rfl)) (by unfold Func.isWrapper; first | (rw [if_pos (by decide +kernel)]; kernel_rfl) | (rw [if_neg (by decide +kernel)]; exact ⟨rfl, rfl⟩))
  (fun os started H enc _ F => by rw [OpenClaim.pre_eq_preRow]; exact lifted os started H enc F)
theorem proved : Rows.FellSaysCardSaid := tied said
end Go.Proofs.YtlppdgaogdpajaaGreatDoor.fellSays
