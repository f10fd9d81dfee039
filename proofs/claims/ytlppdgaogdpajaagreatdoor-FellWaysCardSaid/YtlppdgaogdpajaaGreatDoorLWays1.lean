/- This text is a part of the proof: Post, Open, QFWays, NumberArc, Beside, WaysLaw, Contains. -/
import Derived.Test.YtlppdgaogdpajaaGreatDoorK1
import Derived.Test.YtlppdgaogdpajaaGreatDoorK2
import Derived.Test.YtlppdgaogdpajaaGreatDoorK3
import Derived.Test.YtlppdgaogdpajaaGreatDoorK4
import Derived.Test.YtlppdgaogdpajaaGreatDoorK5
import Derived.Test.YtlppdgaogdpajaaGreatDoorK6
import Derived.Test.YtlppdgaogdpajaaGreatDoorK7
import Derived.Test.YtlppdgaogdpajaaGreatDoorK8
import Derived.Test.YtlppdgaogdpajaaGreatDoorK9
import Derived.Test.YtlppdgaogdpajaaGreatDoorK10
import Derived.Test.YtlppdgaogdpajaaGreatDoorK11
import Derived.Test.YtlppdgaogdpajaaGreatDoorK12
import Derived.Test.YtlppdgaogdpajaaGreatDoorK13
import Derived.Test.YtlppdgaogdpajaaGreatDoorK14
import Derived.Test.YtlppdgaogdpajaaGreatDoorK15
import Derived.Test.YtlppdgaogdpajaaGreatDoorK33
import Derived.ArgAppend
import Derived.Below
import Derived.BigQuiet
import Derived.ChangeSame
import Derived.Deep.AppendLies
import Derived.Deep.Cut
import Derived.Deep.CutBlock
import Derived.Deep.DeepCutAuto
import Derived.Deep.DeepFit
import Derived.Deep.DeepHandedRow
import Derived.Deep.DeepLaidRun
import Derived.Deep.DeepMust
import Derived.Deep.DeepWitnessRowRef
import Derived.Deep.Fields
import Derived.Deep.Quiet
import Derived.Deep.QuietTactic
import Derived.Deep.RegionHeld3
import Derived.Deep.RegionLaw
import Derived.Deep.Slices
import Derived.Defers
import Derived.Handy
import Derived.IntWalk
import Derived.Laws.EntriesVeiled
import Derived.Lib.AtoiAll
import Derived.Lib.ConvBytes
import Derived.Lib.Hide
import Derived.Lib.ItoaMem
import Derived.Lib.ItoaWalk
import Derived.Lib.Join
import Derived.Lib.LaidTab
import Derived.Lib.SmallJoins
import Derived.Lib.Split
import Derived.Lib.SplitLaws
import Derived.LoopIn
import Derived.LoopNIn
import Derived.Maps.OwnOps
import Derived.Maps.OwnSet
import Derived.Maps.Views
import Derived.OpenShut
import Derived.OrdersIn
import Derived.OwnWalkIn
import Derived.ProofKit
import Derived.RangeFuncBound
import Derived.RangeFuncCalls
import Derived.RangeFuncLeaves
import Derived.RangeFuncNested
import Derived.Recover
import Derived.Shelf.Abstract
import Derived.Shelf.RegionOpen
import Derived.Sort.OwnSorted
import Derived.Sort.OwnSortedInts
import Derived.StillTail
import Derived.Stop.LaidErr
import Derived.TacticsInMore
import Derived.Test.YtlppdgaogdpajaaGreatDoorCards
import Derived.Test.YtlppdgaogdpajaaGreatDoorProg
import Derived.Test.YtlppdgaogdpajaaGreatDoorRows
import Derived.Test.YtlppdgaogdpajaaGreatDoorShelf
import Derived.Test.YtlppdgaogdpajaaGreatDoorTie
import Derived.WalkLawsBesides
import Derived.WalkSpells
import Derived.WideKeyArgs
namespace Go.Proofs.YtlppdgaogdpajaaGreatDoor
open Go.ChangeShapes Go.WideShapes Go.ChangeAt Go.RowKit
section
variable {H : Type} {enc : TypeId × Value → H} {P : Program}
theorem post_of_below {f : Func} {s : ChangeSpec} {apart fresh handsOn again : Bool} {W W' : World} {args : Array Value} {v : Value} {ds gs : List (DataW H)} {before pa pv : List MemPlace}
  (hW : DataW.Whole enc P f.params.toList s.vars apart W args.toList ds gs before)
  (hres : ∀ (b : Nat) (sp : Nat → Bool) (hd : Bool), DataW.TrodAll enc P W' b sp hd f.resultTypes.toList (v.resultList f.resultTypes.size) (s.fn H (ds ++ gs)).results [])
  (hargs : ∀ sp : Nat → Bool, (∀ p ∈ before, sp p.block = true) → DataW.TrodAll enc P W' 0 sp true f.params.toList args.toList (s.fn H (ds ++ gs)).args pa)
  (hvars : ∀ sp : Nat → Bool, (∀ p ∈ before, sp p.block = true) → DataW.TrodVars enc P W' sp s.vars (s.fn H (ds ++ gs)).vars pv)
  (hps : before = pa ++ pv) (hb : Below W.heap.size W W')
  (hok : ∀ (j : Nat) (t : TypeId) (r : Value), f.resultTypes[j]? = some t → (v.resultList f.resultTypes.size)[j]? = some r → Value.okWide P W' .any 0 t r) :
  s.post enc P f apart fresh handsOn again W args v W' := by
 have hlt : ∀ p ∈ before, p.block < W.heap.size := fun p hp => hW.lt p hp
 have hold : ∀ p ∈ before, (fun b => decide (b < W.heap.size)) p.block = true := fun p hp => by simpa using hlt p hp
 refine ⟨ds, gs, before, [], pa, pv, hW, hres _ _ _, hargs _ hold, hvars _ hold, World.keptBut_mono (fun p hp => ⟨hp, ?_⟩) (hb.frame (· ∈ before)), fun _ => ?_⟩
 ·rw [hps, List.mem_append] at hp
  exact Or.inr hp
 ·obtain ⟨_, _, _, _, _, hz, hn⟩ := hW
  refine ⟨hok, _, _, ([] ++ pa) ++ pv, ⟨[] ++ pa, pv, trodAll_append (hargs _ (fun _ _ => rfl)) (hres _ _ _), hvars _ (fun _ _ => rfl), rfl, ?_, ?_⟩, ?_⟩
  ·intro b off hp
   have hin : MemPlace.cell b off ∈ before := by rw [hps]; simpa using hp
   rw [hb.frozen (hlt _ hin)]
   exact hz b off hin
  ·intro ha
   have := hn ha
   rw [hps] at this
   simpa using this
  ·intro p hp _
   rw [hps]
   simpa using hp
end
end Go.Proofs.YtlppdgaogdpajaaGreatDoor
namespace Go.Proofs.YtlppdgaogdpajaaGreatDoor
open Go.Joins Go.ChangeShapes Go.WideShapes Go.RowKit Go.Deep
theorem staysB {H : Type} {enc : TypeId × Value → H} {W W' : World} {t : TypeId} {v : Value} {d : DataW H} {p q : List MemPlace} (h : DataW.Trod enc Tryz.prog W 0 (fun _ => true) true t v d p) (hr : Tryz.prog.readableRec t = true) (ht : decide (t < Tryz.prog.types.size) = true)
  (hb : Below W.heap.size W W') (hq : ∀ x ∈ q, x.block < W.heap.size) (hpq : ∀ x ∈ p, x ∈ q) (sp : Nat → Bool) (hs : ∀ x ∈ q, sp x.block = true) :
  DataW.Trod enc Tryz.prog W' 0 sp true t v d p :=
 WideElems.Trod_stays laidOut hr (of_decide_eq_true ht) h (fun x hx => by
  have := hq x (hpq x hx)
  cases x with
  | cell b o => exact hb.cell (p := ⟨b, o, none⟩) this
  | map b => exact hb.block b this) (fun x hx => hs x (hpq x hx))
end Go.Proofs.YtlppdgaogdpajaaGreatDoor
namespace Go.Proofs.YtlppdgaogdpajaaGreatDoor.fellWays
open Go.ChangeShapes Go.WideShapes Go.ChangeAt Go.RowKit Go.Joins Go.Deep
theorem k0 : (Rows.fellWaysRow.wf (OpenSpec.ofChange (OpenSpec.ofChange Rows.fellWaysSpec).bare)) = true := by kernel_rfl
theorem k1 : (laidOutB Tryz.pinned.checked.prog) = true := p1
theorem k2 : (mapsRowed Tryz.pinned.checked.prog) = true := p2
theorem k3 : (Tryz.f10.params.all (Tryz.pinned.checked.prog.readableRec ·)) = true := by kernel_rfl
theorem k4 : (namedTie Tryz.pinned.checked.prog Rows.fellWaysRow.named (OpenSpec.ofChange Rows.fellWaysSpec).bare.vars) = true := by kernel_rfl
theorem k5 : ((Rows.fellWaysRow.stops == [])) = true := by kernel_rfl
theorem k6 : ((Tryz.pinned.checked.prog.stops == [])) = true := p6
theorem k7 : ((Rows.fellWaysRow.knobs == [])) = true := by kernel_rfl
theorem k8 : ((Tryz.pinned.checked.prog.stopKnobs == [])) = true := p8
theorem k9 : ((Rows.fellWaysRow.inPlace == Tryz.pinned.checked.prog.inPlace 10)) = true := by kernel_rfl
theorem k10 : ((Rows.fellWaysRow.unfollowed == Tryz.pinned.checked.prog.unfollowed 10)) = true := by kernel_rfl
theorem k11 : ((Rows.fellWaysRow.recurses == Tryz.pinned.checked.prog.recurses 10)) = true := by kernel_rfl
theorem k12 : ((Rows.fellWaysRow.named == Tryz.pinned.checked.prog.varsNamed 10)) = true := by kernel_rfl
theorem k13 : ((Rows.fellWaysRow.maps == (Tryz.f10.params.toList ++ (OpenSpec.ofChange Rows.fellWaysSpec).bare.plain.varTypes Tryz.pinned.checked.prog).any (Tryz.pinned.checked.prog.mapsRec ·))) = true := by kernel_rfl
theorem k14 : ((Rows.fellWaysRow.ifaces == (Tryz.f10.params.toList ++ (OpenSpec.ofChange Rows.fellWaysSpec).bare.plain.varTypes Tryz.pinned.checked.prog).any (Tryz.pinned.checked.prog.ifacesRec ·))) = true := by kernel_rfl
theorem k15 : ((Rows.fellWaysRow.mapsOut == Tryz.pinned.checked.prog.mapsAmong Tryz.f10.resultTypes.toList)) = true := by kernel_rfl
theorem k16 : ((Rows.fellWaysRow.loops == (Tryz.f10.params.toList ++ (OpenSpec.ofChange Rows.fellWaysSpec).bare.plain.varTypes Tryz.pinned.checked.prog).any (Tryz.pinned.checked.prog.loopsFrom ·))) = true := by kernel_rfl
theorem k17 : ((Rows.fellWaysRow.wideKeys == (Tryz.f10.params.toList ++ (OpenSpec.ofChange Rows.fellWaysSpec).bare.plain.varTypes Tryz.pinned.checked.prog ++ Tryz.f10.resultTypes.toList).any (Tryz.pinned.checked.prog.wideKeysFrom ·))) = true := by kernel_rfl
theorem k18 : ((OpenSpec.ofChange Rows.fellWaysSpec).bare.vars.all (Tryz.pinned.checked.prog.varReadable ·)) = true := by kernel_rfl
theorem k19 : (Tryz.f10.resultTypes.all (fun t => Tryz.pinned.checked.prog.readableRec t && decide (t < Tryz.pinned.checked.prog.types.size))) = true := by kernel_rfl
theorem k20 : ((Rows.fellWaysRow.ifacesOut == Tryz.f10.resultTypes.toList.any (Tryz.pinned.checked.prog.ifacesRec ·))) = true := by kernel_rfl
theorem k21 : ((Rows.fellWaysRow.loopsOut == Tryz.f10.resultTypes.toList.any (Tryz.pinned.checked.prog.loopsFrom ·))) = true := by kernel_rfl
theorem k22 : ((Rows.fellWaysRow.plainKeys == Tryz.pinned.checked.prog.plainKeys)) = true := p22
theorem k23 : (Rows.fellWaysRow.shortTexts.isNone) = true := by kernel_rfl
theorem k24 : (Tryz.pinned.checked.prog.stopsHeard) = true := p24
theorem k25 : (Tryz.pinned.checked.prog.mayEnter) = true := p25
theorem k26 : ((Rows.fellWaysRow.lifted == Tryz.pinned.checked.prog.liftsFinal)) = true := p26
theorem k27 : ((Tryz.pinned.checked.prog.make == some Rows.fellWaysRow.make)) = true := p27
theorem k28 : ((Rows.fellWaysRow.kinds == (if Rows.fellWaysRow.domain.isEmpty then [] else Tryz.f10.params.toList.map fun t => match Tryz.pinned.checked.prog.underlying t with | some (.int k) => some k | _ => none))) = true := by kernel_rfl
theorem k29 : ((Rows.fellWaysRow.pinned == Rows.fellWaysRow.pinnedBy)) = true := by kernel_rfl
theorem k30 : ((Rows.fellWaysRow.veiled == (Tryz.f10.params.toList ++ (OpenSpec.ofChange Rows.fellWaysSpec).bare.plain.varTypes Tryz.pinned.checked.prog ++ Tryz.f10.resultTypes.toList).any (Tryz.pinned.checked.prog.veiledRec ·))) = true := by kernel_rfl
theorem k31 : (Rows.fellWaysRow.veiledFits Tryz.pinned.checked.prog Tryz.f10.params.toList (Tryz.f10.params.toList ++ (OpenSpec.ofChange Rows.fellWaysSpec).bare.plain.varTypes Tryz.pinned.checked.prog ++ Tryz.f10.resultTypes.toList)) = true := by kernel_rfl
set_option maxRecDepth 100000 in
theorem facts : joinedFacts Tryz.pinned.checked.prog 10 Tryz.f10 (OpenSpec.ofChange Rows.fellWaysSpec).bare Rows.fellWaysRow = true :=
 tt (tt (tt (tt (tt (tt (tt (tt (tt (tt (tt (tt (tt (tt (tt (tt (tt (tt (tt (tt (tt (tt (tt (tt (tt (tt (tt (tt (tt (tt (tt k0 k1) k2) k3) k4) k5) k6) k7) k8) k9) k10) k11) k12) k13) k14) k15) k16) k17) k18) k19) k20) k21) k22) k23) k24) k25) k26) k27) k28) k29) k30) k31
theorem plain (f : FuncId) (fn : Func) (hf : Tryz.pinned.checked.prog.funcNamed Rows.fellWaysRow.func = some f) (hfn : Tryz.pinned.checked.prog.funcs[f]? = some fn) :
  true = Tryz.pinned.checked.prog.looks [] ∧ ∀ (j : Nat) t, fn.params[j]? = some t → Tryz.pinned.checked.prog.wantsStandIn t = false := by
 obtain rfl : f = 10 := Option.some.inj ((show Tryz.prog.funcNamed Rows.fellWaysRow.func = some 10 by kernel_rfl).symm.trans hf) |>.symm
 obtain rfl : fn = Tryz.f10 := (Option.some.inj (Tryz.func10.symm.trans hfn)).symm
 refine ⟨p_looks, fun j t ht => ?_⟩
 have hall : (Tryz.f10.params.toList.all fun t => !(Tryz.prog.wantsStandIn t)) = true := by as_aux_lemma => kernel_rfl
 have h := List.all_eq_true.1 hall t (by simpa using Array.mem_of_getElem? ht)
 have k : Tryz.prog.wantsStandIn t = false := by simpa using h
 exact k
theorem tied (said : Rows.FellWaysSaid) : Rows.FellWaysCardSaid :=
 Claim7.holds_tied_plain_at .later [] _ _ _ _ said (fun _ h => by cases h) (by as_aux_lemma => kernel_rfl) (fun _ h => by cases h) fellWays_row_tie rfl ⟨rfl, rfl⟩ (by as_aux_lemma => kernel_rfl) rfl plain (by as_aux_lemma => kernel_rfl)
end Go.Proofs.YtlppdgaogdpajaaGreatDoor.fellWays
namespace Go.Proofs.YtlppdgaogdpajaaGreatDoor
open Go.RowKit Go.Shelf
attribute [local go_sem] Oper.semAt_some
theorem c_askedOne (m : Fm) (p : Int) (w : World) (hm : m.In w) :
  Calls Tryz.prog 141 #[m.v, .slice (some ⟨w.heap.size, 0, none⟩) 1 1] (w.alloc (.cells #[.int .i64 p] 3)) fun e w' => e = .returned (.int .i64 (askedE m.f [p])) ∧ Below (w.alloc (.cells #[.int .i64 p] 3)).heap.size (w.alloc (.cells #[.int .i64 p] 3)) w' :=
 c_asked m [p] (some ⟨w.heap.size, 0, none⟩) 1 _ (hm.later (show Below w.heap.size w _ from by go_grown)) (Lst.new numC_len w [p] 3 (by simp))
end Go.Proofs.YtlppdgaogdpajaaGreatDoor
namespace Go.Proofs.YtlppdgaogdpajaaGreatDoor
open Go.RowKit Go.Shelf
attribute [local go_sem] Oper.semAt_some
def besV (f : Fe) (p : Int) : List Int × Int := if askedE f [p] ≠ 0 then ([], askedE f [p]) else (besideV f p, 0)
set_option maxHeartbeats 2000000 in
theorem c_Beside_no (m : Fm) (p : Int) (w : World) (hm : m.In w) (h : askedE m.f [p] ≠ 0) :
  Calls Tryz.prog 51 #[m.v, .int .i64 p] w (GivesN ([], askedE m.f [p]) w) := by
 have hA2 : ∀ W (hb : Below w.heap.size w W), Calls Tryz.prog 141 #[m.v, .slice (some ⟨W.heap.size, 0, none⟩) 1 1] (W.alloc (.cells #[.int .i64 p] 3)) fun e w' => e = .returned (.int .i64 (askedE m.f [p])) ∧ Below (W.alloc (.cells #[.int .i64 p] 3)).heap.size (W.alloc (.cells #[.int .i64 p] 3)) w' := fun W hb => c_askedOne m p W (hm.later hb)
 generalize askedE m.f [p] = E at *
 have he : (E != 0) = true := bne_iff_ne.2 h
 have HA := Lib.hid hA2
 clear hA2 h hm
 go_enter Tryz.func51, Tryz.ntmps51
 go_upto_region 1 with (fail)
 go_name_world W1 hW1
 have hbn : Below w.heap.size w W1 := by subst hW1; go_grown
 have hb0 := hbn
 clear hbn
 have q0n : W1.cell? ⟨w.heap.size, 0, none⟩ = some (.int .i64 m.f.ticks) := by subst hW1; go_simp
 have q1n : W1.cell? ⟨w.heap.size, 1, none⟩ = some (.int .i64 m.f.yields) := by subst hW1; go_simp
 have q2n : W1.cell? ⟨w.heap.size, 2, none⟩ = some (.slice m.pa m.f.places.length m.pc) := by subst hW1; go_simp
 have q3n : W1.cell? ⟨w.heap.size, 3, none⟩ = some (.slice m.ga m.f.gates.length m.gc) := by subst hW1; go_simp
 clear hW1 
 have q0 := q0n
 have q1 := q1n
 have q2 := q2n
 have q3 := q3n
 clear q0n q1n q2n q3n 
 go_wp2_with fail
 refine (via (w0 := W1) (by go_grown) (HA.out _ hb0)).mono ?_
 rintro e W2 ⟨rfl, hc, hf, hz, hB⟩
 have zz := cy4 hc q0 q1 q2 q3
 clear q0 q1 q2 q3
 obtain ⟨q0, q1, q2, q3⟩ := zz
 have hbn : Below w.heap.size w W2 := bthen hb0 hB
 clear hb0
 have hb0 := hbn
 clear hbn
 have hzW2 : W1.heap.size ≤ W2.heap.size := hz
 clear hc hf hB hz
 go_wp2_with fail
 go_ret2
 exact ⟨_, rfl, World.ownsRow_nil _ _ _ _, by have hbz := hb0.size; go_grown⟩
set_option maxHeartbeats 2000000 in
theorem c_Beside_ok (m : Fm) (p : Int) (w : World) (hm : m.In w) (h : askedE m.f [p] = 0) :
  Calls Tryz.prog 51 #[m.v, .int .i64 p] w (GivesN (besideV m.f p, 0) w) := by
 have hA2 : ∀ W (hb : Below w.heap.size w W), Calls Tryz.prog 141 #[m.v, .slice (some ⟨W.heap.size, 0, none⟩) 1 1] (W.alloc (.cells #[.int .i64 p] 3)) fun e w' => e = .returned (.int .i64 (askedE m.f [p])) ∧ Below (W.alloc (.cells #[.int .i64 p] 3)).heap.size (W.alloc (.cells #[.int .i64 p] 3)) w' := fun W hb => c_askedOne m p W (hm.later hb)
 have hs : Small m.f := (right_of (asked_right h)).small
 have hB := fun W (hb : Below w.heap.size w W) => c_beside m p W (hm.later hb) hs
 rw [h] at hA2
 have HA := Lib.hid hA2
 have HB := Lib.hid hB
 clear hA2 h hm hB hs
 go_enter Tryz.func51, Tryz.ntmps51
 go_upto_region 1 with (fail)
 go_name_world W1 hW1
 have hbn : Below w.heap.size w W1 := by subst hW1; go_grown
 have hb0 := hbn
 clear hbn
 have q0n : W1.cell? ⟨w.heap.size, 0, none⟩ = some (.int .i64 m.f.ticks) := by subst hW1; go_simp
 have q1n : W1.cell? ⟨w.heap.size, 1, none⟩ = some (.int .i64 m.f.yields) := by subst hW1; go_simp
 have q2n : W1.cell? ⟨w.heap.size, 2, none⟩ = some (.slice m.pa m.f.places.length m.pc) := by subst hW1; go_simp
 have q3n : W1.cell? ⟨w.heap.size, 3, none⟩ = some (.slice m.ga m.f.gates.length m.gc) := by subst hW1; go_simp
 clear hW1 
 have q0 := q0n
 have q1 := q1n
 have q2 := q2n
 have q3 := q3n
 clear q0n q1n q2n q3n 
 go_wp2_with fail
 refine (via (w0 := W1) (by go_grown) (HA.out _ hb0)).mono ?_
 rintro e W2 ⟨rfl, hc, hf, hz, hB⟩
 have zz := cy4 hc q0 q1 q2 q3
 clear q0 q1 q2 q3
 obtain ⟨q0, q1, q2, q3⟩ := zz
 have hbn : Below w.heap.size w W2 := bthen hb0 hB
 clear hb0
 have hb0 := hbn
 clear hbn
 have hzW2 : W1.heap.size ≤ W2.heap.size := hz
 clear hc hf hB hz
 go_wp2_with fail
 refine (HB.out _ hb0).mono ?_
 rintro e W3 ⟨v, rfl, ho, hB⟩
 have hbn := bthen hb0 hB
 have HO := Lib.hid (ownsRow_base ho hb0.size)
 clear ho hB
 go_wp2
 go_ret2
 exact ⟨_, rfl, HO.out, hbn⟩
theorem c_Beside (m : Fm) (p : Int) (w : World) (hm : m.In w) : Calls Tryz.prog 51 #[m.v, .int .i64 p] w (GivesN (besV m.f p) w) := by
 unfold besV
 by_cases h : askedE m.f [p] = 0
 ·rw [if_neg (by omega)]; exact c_Beside_ok m p w hm h
 ·rw [if_pos h]; exact c_Beside_no m p w hm h
end Go.Proofs.YtlppdgaogdpajaaGreatDoor
namespace Go.Proofs.YtlppdgaogdpajaaGreatDoor
theorem compact_mem {α : Type} [Inhabited α] [DecidableEq α] {l : List α} {x : α} (h : x ∈ l) : x ∈ Lib.compact l := by
 have key : ∀ i : Nat, l[i]? = some x → x ∈ Lib.compact l := by
  intro i
  induction i with
  | zero =>
   intro hi
   have hlt := (List.getElem?_eq_some_iff.1 hi).1
   unfold Lib.compact Lib.compactUpTo
   refine List.mem_map.2 ⟨0, List.mem_filter.2 ⟨List.mem_range.2 hlt, by simp [Lib.keeps]⟩, ?_⟩
   simp [List.getElem!_eq_getElem?_getD, hi]
  | succ i ih =>
   intro hi
   have hlt := (List.getElem?_eq_some_iff.1 hi).1
   by_cases hp : l[i]? = some x
   ·exact ih hp
   ·unfold Lib.compact Lib.compactUpTo
    refine List.mem_map.2 ⟨i + 1, List.mem_filter.2 ⟨List.mem_range.2 hlt, Lib.keeps_pos ?_⟩, ?_⟩
    ·intro e
     apply hp
     have e1 : l.toArray[i + 1]! = x := by simp [List.getElem!_eq_getElem?_getD, hi]
     have h2 : l[i]? = some l[i] := by simp
     have e2 : l.toArray[i + 1 - 1]! = l[i] := by simp [List.getElem!_eq_getElem?_getD, h2]
     rw [e1, e2] at e
     rw [h2, ← e]
    ·simp [List.getElem!_eq_getElem?_getD, hi]
 obtain ⟨i, hi⟩ := List.mem_iff_getElem?.1 h
 exact key i hi
theorem mem_setI {l : List Int} {x : Int} : x ∈ setI l ↔ x ∈ l := by
 unfold setI sortI
 exact ⟨fun h => List.mem_mergeSort.1 (mem_compact h), fun h => compact_mem (List.mem_mergeSort.2 h)⟩
def joinB (f : Fe) (a b : Int) : Prop := ∃ g ∈ f.gates, (g.a = a ∧ g.b = b) ∨ (g.b = a ∧ g.a = b)
theorem join_sym {f : Fe} {a b : Int} (h : joinB f a b) : joinB f b a := by
 obtain ⟨g, hg, h⟩ := h
 exact ⟨g, hg, by
  rcases h with ⟨h1, h2⟩ | ⟨h1, h2⟩
  ·exact .inr ⟨h2, h1⟩
  ·exact .inl ⟨h2, h1⟩⟩
theorem ends_ne {f : Fe} (h : checkE f = 0) {g : Gt} (hg : g ∈ f.gates) : g.a ≠ g.b := by
 have hr := right_of h
 have := List.any_eq_false.1 hr.en g hg
 unfold endsBad at this
 simp at this
 exact this.2
theorem mem_beside {f : Fe} (h : checkE f = 0) {p q : Int} : q ∈ besideV f p ↔ joinB f p q := by
 unfold besideV
 rw [mem_setI]
 unfold besideL joinB
 rw [List.mem_filterMap]
 constructor
 ·rintro ⟨g, hg, he⟩
  refine ⟨g, hg, ?_⟩
  by_cases e1 : g.a = p
  ·rw [if_pos e1] at he; cases he; exact .inl ⟨e1, rfl⟩
  ·rw [if_neg e1] at he
   by_cases e2 : g.b = p
   ·rw [if_pos e2] at he; cases he; exact .inr ⟨e2, rfl⟩
   ·rw [if_neg e2] at he; cases he
 ·rintro ⟨g, hg, he⟩
  refine ⟨g, hg, ?_⟩
  have hn := ends_ne h hg
  rcases he with ⟨e1, e2⟩ | ⟨e1, e2⟩
  ·rw [if_pos e1, e2]
  ·rw [if_neg (fun e => hn (e.trans e1.symm)), if_pos e1, e2]
theorem join_ne {f : Fe} (h : checkE f = 0) {a b : Int} (hj : joinB f a b) : a ≠ b := by
 obtain ⟨g, hg, he⟩ := hj
 have hn := ends_ne h hg
 rcases he with ⟨e1, e2⟩ | ⟨e1, e2⟩ <;> omega
def Path (f : Fe) (s : Int) : Nat → Int → Prop
 | 0, t => t = s
 | n + 1, t => ∃ p, Path f s n p ∧ joinB f p t
def Dist (f : Fe) (s t : Int) (n : Nat) : Prop := Path f s n t ∧ ∀ m, Path f s m t → n ≤ m
theorem path_join {f : Fe} {a b c : Int} {n : Nat} : ∀ m, Path f a n b → Path f b m c → Path f a (n + m) c := by
 intro m
 induction m generalizing c with
 | zero => intro h1 h2; cases h2; exact h1
 | succ m ih =>
  rintro h1 ⟨p, hp, hj⟩
  exact ⟨p, ih h1 hp, hj⟩
theorem path_back {f : Fe} {a : Int} : ∀ (n : Nat) (b : Int), Path f a n b → Path f b n a := by
 intro n
 induction n with
 | zero => intro b h; cases h; rfl
 | succ n ih =>
  rintro b ⟨p, hp, hj⟩
  have h1 : Path f b 1 p := ⟨b, rfl, join_sym hj⟩
  have := path_join n h1 (ih p hp)
  rwa [Nat.add_comm] at this
theorem dist_back {f : Fe} {a b : Int} {n : Nat} (h : Dist f a b n) : Dist f b a n := ⟨path_back _ _ h.1, fun m hm => h.2 m (path_back _ _ hm)⟩
theorem dist_one {f : Fe} {a b : Int} {n m : Nat} (h : Dist f a b n) (k : Dist f a b m) : n = m := Nat.le_antisymm (h.2 m k.1) (k.2 n h.1)
theorem dist_of {f : Fe} {a b : Int} : ∀ n, Path f a n b → ∃ k, k ≤ n ∧ Dist f a b k := by
 intro n
 induction n using Nat.strongRecOn with
 | _ n ih =>
  intro h
  by_cases hm : ∃ m, m < n ∧ Path f a m b
  ·obtain ⟨m, hmn, hp⟩ := hm
   obtain ⟨k, hk, hd⟩ := ih m hmn hp
   exact ⟨k, by omega, hd⟩
  ·exact ⟨n, Nat.le_refl _, h, fun m hp => Nat.le_of_not_lt fun hlt => hm ⟨m, hlt, hp⟩⟩
structure BInv (f : Fe) (s : Int) (S : Int → Option Int) (l1 l2 : List Int) (d : Nat) : Prop where
 ex : ∀ t n, S t = some n → ∃ k : Nat, n = k ∧ Dist f s t k
 h1 : ∀ q ∈ l1, S q = some (d : Int)
 h2 : ∀ q ∈ l2, S q = some ((d : Int) + 1)
 near : ∀ t k, Dist f s t k → k ≤ d → (S t).isSome = true
 done : ∀ t, (S t).isSome = true → t ∉ l1 → t ∉ l2 → ∀ q, joinB f t q → (S q).isSome = true
theorem BInv.turn {f : Fe} {s : Int} {S : Int → Option Int} {l2 : List Int} {d : Nat} (h : BInv f s S [] l2 d) : BInv f s S l2 [] (d + 1) where
 ex := h.ex
 h1 q hq := by rw [h.h2 q hq]; rfl
 h2 q hq := by cases hq
 near t k hd hk := by
  by_cases hk2 : k ≤ d
  ·exact h.near t k hd hk2
  ·obtain rfl : k = d + 1 := by omega
   obtain ⟨p, hp, hj⟩ := hd.1
   obtain ⟨k2, hk2, hd2⟩ := dist_of d hp
   have hm := h.near p k2 hd2 hk2
   refine h.done p hm (by simp) (fun hin => ?_) t hj
   have e := h.h2 p hin
   obtain ⟨k3, e3, hd3⟩ := h.ex p _ e
   have := dist_one hd2 hd3
   omega
 done t ht h1 _ := h.done t ht (by simp) h1
theorem BInv.visit {f : Fe} {s : Int} {S : Int → Option Int} {p q : Int} {r l2 : List Int} {d : Nat} (h : BInv f s S (p :: r) l2 d) (hj : joinB f p q) :
  ∃ l3, (visit1 p (S, r ++ l2) q).2 = r ++ l3 ∧ BInv f s (visit1 p (S, r ++ l2) q).1 (p :: r) l3 d ∧ ((visit1 p (S, r ++ l2) q).1 q).isSome = true ∧ ∀ t, (S t).isSome = true → ((visit1 p (S, r ++ l2) q).1 t).isSome = true := by
 unfold visit1
 dsimp only
 by_cases e : (S q).isSome = true
 ·rw [if_pos e]
  exact ⟨l2, rfl, h, e, fun t ht => ht⟩
 ·rw [if_neg e]
  have e0 : S q = none := by simpa using e
  have hp := h.h1 p (by simp)
  have hu : ∀ t, t ≠ q → upd S q ((S p).getD 0 + 1) t = S t := fun t ht => by unfold upd; rw [if_neg ht]
  have huq : upd S q ((S p).getD 0 + 1) q = some ((d : Int) + 1) := by unfold upd; rw [if_pos rfl, hp]; rfl
  have hne : ∀ t, (S t).isSome = true → t ≠ q := fun t ht e2 => by rw [e2, e0] at ht; cases ht
  have hdp : Dist f s p d := by
   obtain ⟨k, e1, hd⟩ := h.ex p _ hp
   obtain rfl : d = k := by omega
   exact hd
  refine ⟨l2 ++ [q], by rw [List.append_assoc], ⟨?_, ?_, ?_, ?_, ?_⟩, by dsimp only; rw [huq]; rfl, fun t ht => by dsimp only; rw [hu t (hne t ht)]; exact ht⟩
  ·intro t n ht
   dsimp only at ht
   by_cases e2 : t = q
   ·subst e2
    rw [huq] at ht
    cases ht
    refine ⟨d + 1, by simp, ⟨p, hdp.1, hj⟩, fun m hm => ?_⟩
    obtain ⟨k, hk, hd⟩ := dist_of m hm
    by_cases hkd : k ≤ d
    ·exact absurd (h.near _ _ hd hkd) e
    ·omega
   ·rw [hu t e2] at ht
    exact h.ex t n ht
  ·intro t ht
   dsimp only
   have := h.h1 t ht
   rw [hu t (hne t (by rw [this]; rfl))]
   exact this
  ·intro t ht
   dsimp only
   rcases List.mem_append.1 ht with ht | ht
   ·have := h.h2 t ht
    rw [hu t (hne t (by rw [this]; rfl))]
    exact this
   ·simp only [List.mem_cons, List.not_mem_nil, or_false] at ht
    subst ht
    exact huq
  ·intro t k hd hk
   dsimp only
   have := h.near t k hd hk
   rw [hu t (hne t this)]
   exact this
  ·intro t ht n1 n2 z hz
   dsimp only at ht ⊢
   have n3 : t ≠ q := fun e2 => n2 (by simp [e2])
   rw [hu t n3] at ht
   have := h.done t ht n1 (fun hin => n2 (by simp [hin])) z hz
   rw [hu z (hne z this)]
   exact this
theorem BInv.visits {f : Fe} {s p : Int} {r : List Int} {d : Nat} : ∀ (B : List Int) {S : Int → Option Int} {l2 : List Int}, (∀ q ∈ B, joinB f p q) → BInv f s S (p :: r) l2 d →
  ∃ l3, (visits p B (S, r ++ l2)).2 = r ++ l3 ∧ BInv f s (visits p B (S, r ++ l2)).1 (p :: r) l3 d ∧ (∀ q ∈ B, ((visits p B (S, r ++ l2)).1 q).isSome = true) ∧ ∀ t, (S t).isSome = true → ((visits p B (S, r ++ l2)).1 t).isSome = true := by
 intro B
 induction B with
 | nil => intro S l2 _ h; exact ⟨l2, rfl, h, fun q hq => (by cases hq), fun t ht => ht⟩
 | cons q B ih =>
  intro S l2 hB h
  obtain ⟨l3, e1, h1, m1, k1⟩ := h.visit (hB q (by simp))
  have e : Go.Proofs.YtlppdgaogdpajaaGreatDoor.visits p (q :: B) (S, r ++ l2) = Go.Proofs.YtlppdgaogdpajaaGreatDoor.visits p B ((visit1 p (S, r ++ l2) q).1, r ++ l3) := by
   rw [← e1]
   rfl
  rw [e]
  obtain ⟨l4, e2, h2, m2, k2⟩ := ih (fun z hz => hB z (by simp [hz])) h1
  refine ⟨l4, e2, h2, fun z hz => ?_, fun t ht => k2 t (k1 t ht)⟩
  rcases List.mem_cons.1 hz with rfl | hz
  ·exact k2 _ m1
  ·exact m2 z hz
theorem visits_less {P : Nat} {p : Int} : ∀ (B : List Int) (st : (Int → Option Int) × List Int), (∀ q ∈ B, 0 ≤ q ∧ q < P) → (visits p B st).2.length + unm P (visits p B st).1 ≤ st.2.length + unm P st.1 := by
 intro B
 induction B with
 | nil => intro st _; exact Nat.le_refl _
 | cons q B ih =>
  intro st hB
  have h1 := visit_less (P := P) (S := st.1) (row := st.2) (p := p) (hB q (by simp))
  have h2 := ih (visit1 p st q) (fun z hz => hB z (by simp [hz]))
  exact Nat.le_trans h2 h1
theorem BInv.closed {f : Fe} {s : Int} {S : Int → Option Int} {d : Nat} (h : BInv f s S [] [] d) : ∀ (n : Nat) (t : Int), Path f s n t → (S t).isSome = true := by
 intro n
 induction n with
 | zero =>
  intro t ht
  cases ht
  exact h.near s 0 ⟨rfl, fun _ _ => Nat.zero_le _⟩ (Nat.zero_le _)
 | succ n ih =>
  rintro t ⟨p, hp, hj⟩
  exact h.done p (ih p hp) (by simp) (by simp) t hj
def Found (f : Fe) (s t : Int) (o : Option Int) : Prop := (∀ n, o = some n → ∃ k : Nat, n = k ∧ Dist f s t k) ∧ (o = none → ∀ n, ¬ Path f s n t)
theorem BInv.found {f : Fe} {s : Int} {S : Int → Option Int} {d : Nat} (h : BInv f s S [] [] d) (t : Int) : Found f s t (S t) :=
 ⟨fun n hn => h.ex t n hn, fun hn n hp => by have := h.closed n t hp; rw [hn] at this; cases this⟩
theorem bfs_found {f : Fe} (hc : checkE f = 0) {s dest : Int} : ∀ (k : Nat) (S : Int → Option Int) (l1 l2 : List Int) (d : Nat), BInv f s S l1 l2 d → (l1 ++ l2).length + unm f.places.length S ≤ k → Found f s dest (bfs f dest k S (l1 ++ l2) dest) := by
 intro k
 induction k with
 | zero =>
  intro S l1 l2 d h hk
  rw [List.length_append] at hk
  have e1 : l1 = [] := List.length_eq_zero_iff.1 (by omega)
  have e2 : l2 = [] := List.length_eq_zero_iff.1 (by omega)
  subst e1 e2
  exact h.found dest
 | succ k ih =>
  have go : ∀ (S : Int → Option Int) (p : Int) (r l2 : List Int) (d : Nat), BInv f s S (p :: r) l2 d → (p :: r ++ l2).length + unm f.places.length S ≤ k + 1 → Found f s dest (bfs f dest (k + 1) S (p :: r ++ l2) dest) := by
   intro S p r l2 d h hk
   rw [List.cons_append, bfs]
   by_cases e : p = dest
   ·rw [if_pos e]
    subst e
    have hp := h.h1 p (by simp)
    refine ⟨fun n hn => h.ex p n hn, fun hn => ?_⟩
    rw [hp] at hn
    cases hn
   ·rw [if_neg e]
    obtain ⟨l3, e1, h1, m1, k1⟩ := BInv.visits (f := f) (s := s) (besideV f p) (fun q hq => (mem_beside hc).1 hq) h
    rw [e1]
    have hless := visits_less (P := f.places.length) (p := p) (besideV f p) (S, r ++ l2) (fun q hq => by have := beside_in (right_of hc) hq; omega)
    rw [e1] at hless
    dsimp only at hless
    refine ih _ r l3 d ⟨h1.ex, fun q hq => h1.h1 q (by simp [hq]), h1.h2, h1.near, fun t ht n1 n2 q hq => ?_⟩ (by simp at hk hless ⊢; omega)
    by_cases e2 : t = p
    ·subst e2
     exact m1 q ((mem_beside hc).2 hq)
    ·exact h1.done t ht (by simp [e2, n1]) n2 q hq
  intro S l1 l2 d h hk
  cases l1 with
  | cons p r => exact go S p r l2 d h hk
  | nil =>
   cases l2 with
   | nil => rw [List.append_nil, bfs_nil]; exact h.found dest
   | cons p r =>
    have h2 := h.turn
    have := go S p r [] (d + 1) h2 (by simpa using hk)
    simpa using this
theorem ways_found {f : Fe} {s t : Int} (h : askedE f [s, t] = 0) : Found f s t (bfs f t f.places.length (bfs0 s) [s] t) := by
 have hc := asked_right h
 have hs : 0 ≤ s ∧ s < f.places.length := by
  unfold askedE at h
  rw [if_neg (by omega)] at h
  by_cases e : [s, t].any (offB f) = true
  ·rw [if_pos e] at h; cases h
  ·simp [offB, rg] at e
   omega
 have h0 := unm_0 (P := f.places.length) hs.1 hs.2
 have hst : BInv f s (bfs0 s) [s] [] 0 := by
  have e0 : bfs0 s s = some 0 := by unfold bfs0 upd; rw [if_pos rfl]
  have en : ∀ t, t ≠ s → bfs0 s t = none := fun t ht => by unfold bfs0 upd; rw [if_neg ht]
  refine ⟨fun t n ht => ?_, fun q hq => ?_, fun q hq => (by cases hq), fun t k hd hk => ?_, fun t ht n1 _ q hq => ?_⟩
  ·by_cases e : t = s
   ·subst e
    rw [e0] at ht
    cases ht
    exact ⟨0, rfl, rfl, fun _ _ => Nat.zero_le _⟩
   ·rw [en t e] at ht; cases ht
  ·simp only [List.mem_cons, List.not_mem_nil, or_false] at hq
   subst hq
   exact e0
  ·obtain rfl : k = 0 := by omega
   have := hd.1
   cases this
   rw [e0]; rfl
  ·by_cases e : t = s
   ·exact absurd (by simp [e]) n1
   ·rw [en t e] at ht; cases ht
 exact bfs_found hc f.places.length (bfs0 s) [s] [] 0 hst (by simpa using (by omega : 1 + unm f.places.length (bfs0 s) ≤ f.places.length))
theorem ways_some {f : Fe} {s t : Int} (h : (waysV f s t).2 = 0) : askedE f [s, t] = 0 ∧ ∃ k : Nat, (waysV f s t).1 = k ∧ Dist f s t k := by
 unfold waysV at h ⊢
 by_cases ha : askedE f [s, t] = 0
 ·refine ⟨ha, ?_⟩
  rw [if_neg (by omega)] at h ⊢
  have hf := ways_found ha
  cases e : bfs f t f.places.length (bfs0 s) [s] t with
  | none => rw [e] at h; cases h
  | some n => exact hf.1 n e
 ·rw [if_pos ha] at h; exact absurd h ha
theorem ways_five {f : Fe} {s t : Int} (ha : askedE f [s, t] = 0) (h : (waysV f s t).2 ≠ 0) : waysV f s t = (0, 5) ∧ ∀ n, ¬ Path f s n t := by
 unfold waysV at h ⊢
 rw [if_neg (by omega)] at h ⊢
 have hf := ways_found ha
 cases e : bfs f t f.places.length (bfs0 s) [s] t with
 | none => exact ⟨rfl, hf.2 e⟩
 | some n => rw [e] at h; exact absurd rfl h
theorem asked_sym (f : Fe) (s t : Int) : askedE f [s, t] = askedE f [t, s] := by
 unfold askedE
 simp [Bool.or_comm]
theorem ways_sym (f : Fe) (s t : Int) : waysV f s t = waysV f t s := by
 by_cases ha : askedE f [s, t] = 0
 ·by_cases h : (waysV f s t).2 = 0
  ·obtain ⟨_, k, hk, hd⟩ := ways_some h
   by_cases h2 : (waysV f t s).2 = 0
   ·obtain ⟨_, k2, hk2, hd2⟩ := ways_some h2
    have := dist_one hd (dist_back hd2)
    exact Prod.ext (by rw [hk, hk2, this]) (h.trans h2.symm)
   ·exact absurd (path_back _ _ hd.1) ((ways_five (by rw [← asked_sym]; exact ha) h2).2 k)
  ·by_cases h2 : (waysV f t s).2 = 0
   ·obtain ⟨_, k2, hk2, hd2⟩ := ways_some h2
    exact absurd (path_back _ _ hd2.1) ((ways_five ha h).2 k2)
   ·rw [(ways_five ha h).1, (ways_five (by rw [← asked_sym]; exact ha) h2).1]
 ·have hb : askedE f [t, s] ≠ 0 := by rw [← asked_sym]; exact ha
  unfold waysV
  rw [if_pos ha, if_pos hb, asked_sym]
theorem ways_zero {f : Fe} {s t : Int} (h : (waysV f s t).2 = 0) : (waysV f s t).1 = 0 ↔ s = t := by
 obtain ⟨_, k, hk, hd⟩ := ways_some h
 rw [hk]
 constructor
 ·intro e
  obtain rfl : k = 0 := by omega
  have := hd.1
  exact this.symm
 ·intro e
  subst e
  have := hd.2 0 rfl
  omega
theorem ways_less {f : Fe} {a b c : Int} (h : (waysV f a b).2 = 0) (h2 : (waysV f b c).2 = 0) : (waysV f a c).2 = 0 ∧ (waysV f a c).1 ≤ (waysV f a b).1 + (waysV f b c).1 := by
 obtain ⟨a1, k, hk, hd⟩ := ways_some h
 obtain ⟨a2, k2, hk2, hd2⟩ := ways_some h2
 have hp := path_join _ hd.1 hd2.1
 have ha : askedE f [a, c] = 0 := by
  have hc := asked_right a1
  unfold askedE at a1 a2 ⊢
  rw [if_neg (by omega)] at a1 a2 ⊢
  by_cases e1 : [a, b].any (offB f) = true
  ·rw [if_pos e1] at a1; cases a1
  by_cases e2 : [b, c].any (offB f) = true
  ·rw [if_pos e2] at a2; cases a2
  rw [if_neg]
  simp at e1 e2 ⊢
  exact ⟨e1.1, e2.2⟩
 by_cases h3 : (waysV f a c).2 = 0
 ·obtain ⟨_, k3, hk3, hd3⟩ := ways_some h3
  have := hd3.2 _ hp
  exact ⟨h3, by omega⟩
 ·exact absurd hp ((ways_five ha h3).2 _)
theorem ways_one {f : Fe} {a b : Int} (h : (waysV f a b).2 = 0) : (waysV f a b).1 = 1 ↔ b ∈ besideV f a := by
 obtain ⟨ha, k, hk, hd⟩ := ways_some h
 have hc := asked_right ha
 rw [hk, mem_beside hc]
 constructor
 ·intro e
  obtain rfl : k = 1 := by omega
  obtain ⟨p, hp, hj⟩ := hd.1
  cases hp
  exact hj
 ·intro hj
  have h1 := hd.2 1 ⟨a, rfl, hj⟩
  have h0 : k ≠ 0 := fun e => by
   subst e
   exact join_ne hc hj (hd.1).symm
  omega
theorem join_in {f : Fe} (hc : checkE f = 0) {a b : Int} (h : joinB f a b) : 0 ≤ b ∧ b ≤ (f.places.length : Int) - 1 := beside_in (right_of hc) ((mem_beside hc).2 h)
theorem path_in {f : Fe} (hc : checkE f = 0) {s t : Int} (hs : 0 ≤ s ∧ s ≤ (f.places.length : Int) - 1) {n : Nat} (h : Path f s n t) : 0 ≤ t ∧ t ≤ (f.places.length : Int) - 1 := by
 cases n with
 | zero => cases h; exact hs
 | succ n => obtain ⟨p, _, hj⟩ := h; exact join_in hc hj
theorem dist_prev {f : Fe} {s t : Int} {n : Nat} (h : Dist f s t (n + 1)) : ∃ p, Dist f s p n := by
 obtain ⟨p, hp, hj⟩ := h.1
 refine ⟨p, hp, fun m hm => ?_⟩
 have := h.2 (m + 1) ⟨p, hm, hj⟩
 omega
theorem dist_all {f : Fe} {s : Int} : ∀ (n : Nat) (t : Int), Dist f s t n → ∀ k, k ≤ n → ∃ p, Dist f s p k := by
 intro n
 induction n with
 | zero =>
  intro t h k hk
  obtain rfl : k = 0 := by omega
  exact ⟨t, h⟩
 | succ n ih =>
  intro t h k hk
  by_cases e : k = n + 1
  ·subst e; exact ⟨t, h⟩
  ·obtain ⟨p, hp⟩ := dist_prev h
   exact ih p hp k (by omega)
noncomputable def reachB (f : Fe) (s : Int) (k : Nat) (i : Int) : Bool := @decide (∃ j, j ≤ k ∧ Path f s j i) (Classical.propDecidable _)
theorem reach_iff {f : Fe} {s : Int} {k : Nat} {i : Int} : reachB f s k i = true ↔ ∃ j, j ≤ k ∧ Path f s j i := by
 unfold reachB
 exact @decide_eq_true_iff _ (Classical.propDecidable _)
theorem dist_lt {f : Fe} (hc : checkE f = 0) {s t : Int} (hs : 0 ≤ s ∧ s ≤ (f.places.length : Int) - 1) {n : Nat} (h : Dist f s t n) : n < f.places.length := by
 have key : ∀ k, k ≤ n → k + 1 ≤ ((List.range f.places.length).filter fun (i : Nat) => reachB f s k (i : Int)).length := by
  intro k
  induction k with
  | zero =>
   intro _
   have : ((List.range f.places.length).filter fun (i : Nat) => false).length + 1 ≤ ((List.range f.places.length).filter fun (i : Nat) => reachB f s 0 (i : Int)).length := by
    refine filter_less (y := s.toNat) (fun x _ hx => by cases hx) (List.mem_range.2 (by omega)) ?_ rfl
    rw [reach_iff, Int.toNat_of_nonneg hs.1]
    exact ⟨0, Nat.le_refl _, rfl⟩
   rw [show ((List.range f.places.length).filter fun (i : Nat) => false).length = 0 from by simp] at this
   exact this
  | succ k ih =>
   intro hk
   have h1 := ih (by omega)
   obtain ⟨p, hp⟩ := dist_all n t h (k + 1) hk
   have hin := path_in hc hs hp.1
   have h2 : ((List.range f.places.length).filter fun (i : Nat) => reachB f s k (i : Int)).length + 1 ≤ ((List.range f.places.length).filter fun (i : Nat) => reachB f s (k + 1) (i : Int)).length := by
    refine filter_less (y := p.toNat) (fun x _ hx => ?_) (List.mem_range.2 (by omega)) ?_ ?_
    ·rw [reach_iff] at hx ⊢
     obtain ⟨j, hj, hp⟩ := hx
     exact ⟨j, by omega, hp⟩
    ·rw [reach_iff, Int.toNat_of_nonneg hin.1]
     exact ⟨k + 1, Nat.le_refl _, hp.1⟩
    ·rw [Bool.eq_false_iff]
     intro e
     rw [reach_iff, Int.toNat_of_nonneg hin.1] at e
     obtain ⟨j, hj, hq⟩ := e
     have := hp.2 j hq
     omega
   omega
 have h1 := key n (Nat.le_refl _)
 have h2 := List.length_filter_le (fun (i : Nat) => reachB f s n (i : Int)) (List.range f.places.length)
 rw [List.length_range] at h2
 omega
end Go.Proofs.YtlppdgaogdpajaaGreatDoor
namespace Go.Proofs.YtlppdgaogdpajaaGreatDoor
open Go.RowKit Go.Shelf
attribute [local go_sem] Oper.semAt_some
def idxI (l : List Int) (n : Int) : Int := idxP (fun x => decide (x = n)) l 0
theorem idxI_mem {l : List Int} {n : Int} : decide (0 ≤ idxI l n) = decide (n ∈ l) := by
 unfold idxI
 rw [idxP_any, Bool.eq_iff_iff, List.any_eq_true, decide_eq_true_eq]
 constructor
 ·rintro ⟨x, hx, e⟩
  have : x = n := by simpa using e
  exact this ▸ hx
 ·intro h
  exact ⟨n, h, by simp⟩
set_option maxHeartbeats 1000000 in
theorem c_IndexN (n : Int) (l : List Int) (a : Option Addr) (cap : Nat) (w : World) (hl : Nums w a l) :
  Calls Tryz.prog 143 #[.slice a l.length cap, .int .i64 n] w fun e w' => e = .returned (.int .i64 (idxI l n)) ∧ Below w.heap.size w w' := by
 have hlen := hl.1
 have HL := Lib.hid hl
 clear hl
 unfold idxI
 go_enter Tryz.func143, Tryz.ntmps143
 go_wp2
 go_loopw [8] (fun v8 wr => ∃ k : Nat, k ≤ l.length ∧ v8 = .int .i64 k ∧ idxP (fun x => decide (x = n)) l 0 = idxP (fun x => decide (x = n)) (l.drop k) k ∧ Below w.heap.size w wr) (fun v8 _ => l.length - (intOf v8).toNat)
 case atStart => exact ⟨0, by omega, rfl, rfl, Below.refl _ _⟩
 case round =>
  obtain ⟨k, hk, rfl, hi, hb⟩ := hrel
  have HI := Lib.hid hi
  clear hi
  by_cases hlt : k < l.length
  ·obtain ⟨x, hx⟩ := some_at hlt
   obtain ⟨b, o, rfl, hat⟩ := (HL.out.later hb).at hx
   rw [Nat.mul_one] at hat
   have y0 := num_cell hat
   have hst := idxP_step (fun x => decide (x = n)) hx
   have HS := Lib.hid hst
   have hi1 : ¬ (k : Int) < 0 := by omega
   have hi2 : (k : Int) < (l.length : Int) := by omega
   clear hx hat hst
   by_cases he : x = n
   ·subst he
    go_wp2
    go_ret
    exact ⟨by rw [HI.out, HS.out]; simp, hb⟩
   ·have ht : (n == x) = false := beq_eq_false_iff_ne.2 (fun h => he h.symm)
    have hf : decide (x = n) = false := by simpa using he
    have HF := Lib.hid hf
    have HE := Lib.hid he
    clear hf he
    go_wp2
    go_roundw
    case rel => exact ⟨k + 1, by omega, by go_num, by rw [HI.out, HS.out, HF.out]; rfl, hb⟩
    case measure => simp [intOf]; omega
  ·obtain rfl : k = l.length := by omega
   go_wp2
   go_ret
   exact ⟨by rw [HI.out]; simp [idxP], hb⟩
theorem c_ContainsN (n : Int) (l : List Int) (a : Option Addr) (cap : Nat) (w : World) (hl : Nums w a l) :
  Calls Tryz.prog 52 #[.slice a l.length cap, .int .i64 n] w fun e w' => e = .returned (.bool (decide (n ∈ l))) ∧ Below w.heap.size w w' := by
 have hc := c_IndexN n l a cap w hl
 rw [← idxI_mem]
 have HC := Lib.hid hc
 clear hc hl
 go_enter Tryz.func52, Tryz.ntmps52
 go_wp2_with (go_at_call 143; refine HC.out.mono ?_; rintro e w' ⟨rfl, hb'⟩)
 go_ret
 exact ⟨rfl, hb'⟩
end Go.Proofs.YtlppdgaogdpajaaGreatDoor
