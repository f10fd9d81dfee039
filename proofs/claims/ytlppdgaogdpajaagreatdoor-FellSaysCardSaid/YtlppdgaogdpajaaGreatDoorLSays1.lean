/- This text is a part of the proof: Model, Post, Open, Elems, Right, QFSays, History, Keeps, OrderLaw, SaysLaw, Inside, Ways, FlowsLaw. -/
import Derived.Test.YtlppdgaogdpajaaGreatDoorK1
import Derived.Test.YtlppdgaogdpajaaGreatDoorK2
import Derived.Test.YtlppdgaogdpajaaGreatDoorK3
import Derived.Test.YtlppdgaogdpajaaGreatDoorK4
import Derived.Test.YtlppdgaogdpajaaGreatDoorK5
import Derived.Test.YtlppdgaogdpajaaGreatDoorK6
import Derived.Test.YtlppdgaogdpajaaGreatDoorK7
import Derived.Test.YtlppdgaogdpajaaGreatDoorK8
import Derived.Test.YtlppdgaogdpajaaGreatDoorK9
import Derived.Test.YtlppdgaogdpajaaGreatDoorK10
import Derived.Test.YtlppdgaogdpajaaGreatDoorK11
import Derived.Test.YtlppdgaogdpajaaGreatDoorK12
import Derived.Test.YtlppdgaogdpajaaGreatDoorK14
import Derived.Test.YtlppdgaogdpajaaGreatDoorK15
import Derived.Test.YtlppdgaogdpajaaGreatDoorK16
import Derived.Test.YtlppdgaogdpajaaGreatDoorK17
import Derived.Test.YtlppdgaogdpajaaGreatDoorK32
import Derived.Test.YtlppdgaogdpajaaGreatDoorK33
import Derived.Below
import Derived.BigQuiet
import Derived.ChangeSame
import Derived.Deep.AppendLies
import Derived.Deep.Cut
import Derived.Deep.CutBlock
import Derived.Deep.DeepCutAuto
import Derived.Deep.DeepFit
import Derived.Deep.DeepHandedRow
import Derived.Deep.DeepLaidRun
import Derived.Deep.DeepMust
import Derived.Deep.DeepWitnessRowRef
import Derived.Deep.Fields
import Derived.Deep.Quiet
import Derived.Deep.QuietTactic
import Derived.Deep.RegionHeld3
import Derived.Deep.RegionLaw
import Derived.Deep.Slices
import Derived.Defers
import Derived.Handy
import Derived.IntWalk
import Derived.Laws.EntriesVeiled
import Derived.Lib.AtoiAll
import Derived.Lib.ConvBytes
import Derived.Lib.Hide
import Derived.Lib.ItoaMem
import Derived.Lib.ItoaWalk
import Derived.Lib.Join
import Derived.Lib.LaidTab
import Derived.Lib.SmallJoins
import Derived.Lib.Split
import Derived.Lib.SplitLaws
import Derived.LoopIn
import Derived.LoopNIn
import Derived.Maps.OwnIn
import Derived.Maps.OwnOps
import Derived.Maps.OwnSet
import Derived.Maps.Views
import Derived.OpenShut
import Derived.OrdersIn
import Derived.OwnWalkIn
import Derived.ProofKit
import Derived.RangeFuncBound
import Derived.RangeFuncCalls
import Derived.RangeFuncLeaves
import Derived.RangeFuncNested
import Derived.Recover
import Derived.Shelf.Abstract
import Derived.Shelf.RegionOpen
import Derived.Sort.OwnSorted
import Derived.Sort.OwnSortedInts
import Derived.StillTail
import Derived.Stop.LaidErr
import Derived.TacticsInMore
import Derived.Test.YtlppdgaogdpajaaGreatDoorCards
import Derived.Test.YtlppdgaogdpajaaGreatDoorProg
import Derived.Test.YtlppdgaogdpajaaGreatDoorRows
import Derived.Test.YtlppdgaogdpajaaGreatDoorShelf
import Derived.Test.YtlppdgaogdpajaaGreatDoorTie
import Derived.WalkLawsBesides
import Derived.WalkSpells
import Derived.WideKeyArgs
namespace Go.Proofs.YtlppdgaogdpajaaGreatDoor
theorem cy3 {w W : World} {b0 o0 b1 o1 b2 o2 : Nat} {v0 v1 v2 : Value} (h : ∀ b o, b < w.heap.size → W.cell? ⟨b, o, none⟩ = w.cell? ⟨b, o, none⟩) (k0 : w.cell? ⟨b0, o0, none⟩ = some v0) (k1 : w.cell? ⟨b1, o1, none⟩ = some v1) (k2 : w.cell? ⟨b2, o2, none⟩ = some v2) : W.cell? ⟨b0, o0, none⟩ = some v0 ∧ W.cell? ⟨b1, o1, none⟩ = some v1 ∧ W.cell? ⟨b2, o2, none⟩ = some v2 :=
 ⟨(h _ _ (cell_lt k0)).trans k0, (h _ _ (cell_lt k1)).trans k1, (h _ _ (cell_lt k2)).trans k2⟩
def historyE (f : Fe) (x : List Int) : Int := if (x.length : Int) ≠ countN f ∨ x.any (fun n => !rg 0 1000 n) then 1 else 0
def keepsV (f : Fe) (x : List Int) (r : Rp) : Bool × Int :=
 if (moveV f r).2 ≠ 0 then (false, (moveV f r).2) else if historyE f x ≠ 0 then (false, 1) else (rg r.low r.high (x[(moveV f r).1.toNat]?.getD 0), 0)
end Go.Proofs.YtlppdgaogdpajaaGreatDoor
namespace Go.Proofs.YtlppdgaogdpajaaGreatDoor
open Go.ChangeShapes Go.WideShapes Go.ChangeAt Go.RowKit
section
variable {H : Type} {enc : TypeId × Value → H} {P : Program}
theorem post_of_below {f : Func} {s : ChangeSpec} {apart fresh handsOn again : Bool} {W W' : World} {args : Array Value} {v : Value} {ds gs : List (DataW H)} {before pa pv : List MemPlace}
  (hW : DataW.Whole enc P f.params.toList s.vars apart W args.toList ds gs before)
  (hres : ∀ (b : Nat) (sp : Nat → Bool) (hd : Bool), DataW.TrodAll enc P W' b sp hd f.resultTypes.toList (v.resultList f.resultTypes.size) (s.fn H (ds ++ gs)).results [])
  (hargs : ∀ sp : Nat → Bool, (∀ p ∈ before, sp p.block = true) → DataW.TrodAll enc P W' 0 sp true f.params.toList args.toList (s.fn H (ds ++ gs)).args pa)
  (hvars : ∀ sp : Nat → Bool, (∀ p ∈ before, sp p.block = true) → DataW.TrodVars enc P W' sp s.vars (s.fn H (ds ++ gs)).vars pv)
  (hps : before = pa ++ pv) (hb : Below W.heap.size W W')
  (hok : ∀ (j : Nat) (t : TypeId) (r : Value), f.resultTypes[j]? = some t → (v.resultList f.resultTypes.size)[j]? = some r → Value.okWide P W' .any 0 t r) :
  s.post enc P f apart fresh handsOn again W args v W' := by
 have hlt : ∀ p ∈ before, p.block < W.heap.size := fun p hp => hW.lt p hp
 have hold : ∀ p ∈ before, (fun b => decide (b < W.heap.size)) p.block = true := fun p hp => by simpa using hlt p hp
 refine ⟨ds, gs, before, [], pa, pv, hW, hres _ _ _, hargs _ hold, hvars _ hold, World.keptBut_mono (fun p hp => ⟨hp, ?_⟩) (hb.frame (· ∈ before)), fun _ => ?_⟩
 ·rw [hps, List.mem_append] at hp
  exact Or.inr hp
 ·obtain ⟨_, _, _, _, _, hz, hn⟩ := hW
  refine ⟨hok, _, _, ([] ++ pa) ++ pv, ⟨[] ++ pa, pv, trodAll_append (hargs _ (fun _ _ => rfl)) (hres _ _ _), hvars _ (fun _ _ => rfl), rfl, ?_, ?_⟩, ?_⟩
  ·intro b off hp
   have hin : MemPlace.cell b off ∈ before := by rw [hps]; simpa using hp
   rw [hb.frozen (hlt _ hin)]
   exact hz b off hin
  ·intro ha
   have := hn ha
   rw [hps] at this
   simpa using this
  ·intro p hp _
   rw [hps]
   simpa using hp
end
end Go.Proofs.YtlppdgaogdpajaaGreatDoor
namespace Go.Proofs.YtlppdgaogdpajaaGreatDoor
open Go.Joins Go.ChangeShapes Go.WideShapes Go.RowKit Go.Deep
theorem staysB {H : Type} {enc : TypeId × Value → H} {W W' : World} {t : TypeId} {v : Value} {d : DataW H} {p q : List MemPlace} (h : DataW.Trod enc Tryz.prog W 0 (fun _ => true) true t v d p) (hr : Tryz.prog.readableRec t = true) (ht : decide (t < Tryz.prog.types.size) = true)
  (hb : Below W.heap.size W W') (hq : ∀ x ∈ q, x.block < W.heap.size) (hpq : ∀ x ∈ p, x ∈ q) (sp : Nat → Bool) (hs : ∀ x ∈ q, sp x.block = true) :
  DataW.Trod enc Tryz.prog W' 0 sp true t v d p :=
 WideElems.Trod_stays laidOut hr (of_decide_eq_true ht) h (fun x hx => by
  have := hq x (hpq x hx)
  cases x with
  | cell b o => exact hb.cell (p := ⟨b, o, none⟩) this
  | map b => exact hb.block b this) (fun x hx => hs x (hpq x hx))
section
variable {H : Type} {enc : TypeId × Value → H} {W : World}
set_option maxRecDepth 100000 in
theorem open_nums {base : Nat} {v : Value} {d : DataW H} {p : List MemPlace} (hv : ∀ j : Nat, j = 0 → Value.okWide Tryz.prog W .any base 75 v) (h : DataW.Trod enc Tryz.prog W 0 (fun _ => true) true 75 v d p) :
  ∃ (a : Option Addr) (l : List Int) (cap : Nat), v = .slice a l.length cap ∧ l.length ≤ maxLen ∧ (l.length ≤ 1000000000000 → Ints W a l) := by
 obtain ⟨a0, len0, cap0, rfl⟩ := okWide_slice Tryz.underlying75 (hv 0 rfl)
 obtain ⟨fuel, hf⟩ := h
 rcases open_ints Tryz.underlying75 Tryz.underlying3 (by kernel_rfl) hf with ⟨hc, hx⟩ | ⟨a, len, cap, zs, hc, _, hl, hcap, hz, hx, hi, _⟩
 ·simp [Value.cells] at hc
  obtain ⟨rfl, rfl, rfl⟩ := hc
  exact ⟨none, [], 0, rfl, by simp, fun _ => ⟨by simp, fun h => (h rfl).elim⟩⟩
 ·simp [Value.cells] at hc
  obtain ⟨rfl, rfl, rfl⟩ := hc
  simp only [if_true] at hz
  have hl2 : (zs.take len0).length = len0 := by simp; omega
  refine ⟨some a, zs.take len0, cap0, by rw [hl2], by omega, fun hb => ⟨hb, fun hne => ?_⟩⟩
  have h0 : 0 < len0 := by rw [← hl2]; exact List.length_pos_iff.2 hne
  have hs := spot_of a W _ (hi 0 (by omega))
  refine ⟨a.block, a.off, by rw [← hs], fun k hk => ?_⟩
  have := add_cell a _ _ _ W _ hs (hi k (by omega))
  rw [this]
  have hk' : k < len0 := by omega
  simp [it, List.getD, hk']
end
end Go.Proofs.YtlppdgaogdpajaaGreatDoor
namespace Go.Proofs.YtlppdgaogdpajaaGreatDoor
open Go.RowKit Go.Shelf
attribute [local go_sem] Oper.semAt_some
abbrev Ars (w : World) (a : Option Addr) (l : List Ar) : Prop := Lst arC 6 w a l
end Go.Proofs.YtlppdgaogdpajaaGreatDoor
namespace Go.Proofs.YtlppdgaogdpajaaGreatDoor
theorem JOk.rpOk {f : Fe} {x : Rp} (h : JOk f x) : RpOk x := ⟨by have := h.kind; omega, by have := h.kind; omega⟩
end Go.Proofs.YtlppdgaogdpajaaGreatDoor
namespace Go.Proofs.YtlppdgaogdpajaaGreatDoor.fellSays
open Go.ChangeShapes Go.WideShapes Go.ChangeAt Go.RowKit Go.Joins Go.Deep
theorem k0 : (Rows.fellSaysRow.wf (OpenSpec.ofChange (OpenSpec.ofChange Rows.fellSaysSpec).bare)) = true := by kernel_rfl
theorem k1 : (laidOutB Tryz.pinned.checked.prog) = true := p1
theorem k2 : (mapsRowed Tryz.pinned.checked.prog) = true := p2
theorem k3 : (Tryz.f12.params.all (Tryz.pinned.checked.prog.readableRec ·)) = true := by kernel_rfl
theorem k4 : (namedTie Tryz.pinned.checked.prog Rows.fellSaysRow.named (OpenSpec.ofChange Rows.fellSaysSpec).bare.vars) = true := by kernel_rfl
theorem k5 : ((Rows.fellSaysRow.stops == [])) = true := by kernel_rfl
theorem k6 : ((Tryz.pinned.checked.prog.stops == [])) = true := p6
theorem k7 : ((Rows.fellSaysRow.knobs == [])) = true := by kernel_rfl
theorem k8 : ((Tryz.pinned.checked.prog.stopKnobs == [])) = true := p8
theorem k9 : ((Rows.fellSaysRow.inPlace == Tryz.pinned.checked.prog.inPlace 12)) = true := by kernel_rfl
theorem k10 : ((Rows.fellSaysRow.unfollowed == Tryz.pinned.checked.prog.unfollowed 12)) = true := by kernel_rfl
theorem k11 : ((Rows.fellSaysRow.recurses == Tryz.pinned.checked.prog.recurses 12)) = true := by kernel_rfl
theorem k12 : ((Rows.fellSaysRow.named == Tryz.pinned.checked.prog.varsNamed 12)) = true := by kernel_rfl
theorem k13 : ((Rows.fellSaysRow.maps == (Tryz.f12.params.toList ++ (OpenSpec.ofChange Rows.fellSaysSpec).bare.plain.varTypes Tryz.pinned.checked.prog).any (Tryz.pinned.checked.prog.mapsRec ·))) = true := by kernel_rfl
theorem k14 : ((Rows.fellSaysRow.ifaces == (Tryz.f12.params.toList ++ (OpenSpec.ofChange Rows.fellSaysSpec).bare.plain.varTypes Tryz.pinned.checked.prog).any (Tryz.pinned.checked.prog.ifacesRec ·))) = true := by kernel_rfl
theorem k15 : ((Rows.fellSaysRow.mapsOut == Tryz.pinned.checked.prog.mapsAmong Tryz.f12.resultTypes.toList)) = true := by kernel_rfl
theorem k16 : ((Rows.fellSaysRow.loops == (Tryz.f12.params.toList ++ (OpenSpec.ofChange Rows.fellSaysSpec).bare.plain.varTypes Tryz.pinned.checked.prog).any (Tryz.pinned.checked.prog.loopsFrom ·))) = true := by kernel_rfl
theorem k17 : ((Rows.fellSaysRow.wideKeys == (Tryz.f12.params.toList ++ (OpenSpec.ofChange Rows.fellSaysSpec).bare.plain.varTypes Tryz.pinned.checked.prog ++ Tryz.f12.resultTypes.toList).any (Tryz.pinned.checked.prog.wideKeysFrom ·))) = true := by kernel_rfl
theorem k18 : ((OpenSpec.ofChange Rows.fellSaysSpec).bare.vars.all (Tryz.pinned.checked.prog.varReadable ·)) = true := by kernel_rfl
theorem k19 : (Tryz.f12.resultTypes.all (fun t => Tryz.pinned.checked.prog.readableRec t && decide (t < Tryz.pinned.checked.prog.types.size))) = true := by kernel_rfl
theorem k20 : ((Rows.fellSaysRow.ifacesOut == Tryz.f12.resultTypes.toList.any (Tryz.pinned.checked.prog.ifacesRec ·))) = true := by kernel_rfl
theorem k21 : ((Rows.fellSaysRow.loopsOut == Tryz.f12.resultTypes.toList.any (Tryz.pinned.checked.prog.loopsFrom ·))) = true := by kernel_rfl
theorem k22 : ((Rows.fellSaysRow.plainKeys == Tryz.pinned.checked.prog.plainKeys)) = true := p22
theorem k23 : (Rows.fellSaysRow.shortTexts.isNone) = true := by kernel_rfl
theorem k24 : (Tryz.pinned.checked.prog.stopsHeard) = true := p24
theorem k25 : (Tryz.pinned.checked.prog.mayEnter) = true := p25
theorem k26 : ((Rows.fellSaysRow.lifted == Tryz.pinned.checked.prog.liftsFinal)) = true := p26
theorem k27 : ((Tryz.pinned.checked.prog.make == some Rows.fellSaysRow.make)) = true := p27
theorem k28 : ((Rows.fellSaysRow.kinds == (if Rows.fellSaysRow.domain.isEmpty then [] else Tryz.f12.params.toList.map fun t => match Tryz.pinned.checked.prog.underlying t with | some (.int k) => some k | _ => none))) = true := by kernel_rfl
theorem k29 : ((Rows.fellSaysRow.pinned == Rows.fellSaysRow.pinnedBy)) = true := by kernel_rfl
theorem k30 : ((Rows.fellSaysRow.veiled == (Tryz.f12.params.toList ++ (OpenSpec.ofChange Rows.fellSaysSpec).bare.plain.varTypes Tryz.pinned.checked.prog ++ Tryz.f12.resultTypes.toList).any (Tryz.pinned.checked.prog.veiledRec ·))) = true := by kernel_rfl
theorem k31 : (Rows.fellSaysRow.veiledFits Tryz.pinned.checked.prog Tryz.f12.params.toList (Tryz.f12.params.toList ++ (OpenSpec.ofChange Rows.fellSaysSpec).bare.plain.varTypes Tryz.pinned.checked.prog ++ Tryz.f12.resultTypes.toList)) = true := by kernel_rfl
set_option maxRecDepth 100000 in
theorem facts : joinedFacts Tryz.pinned.checked.prog 12 Tryz.f12 (OpenSpec.ofChange Rows.fellSaysSpec).bare Rows.fellSaysRow = true :=
 tt (tt (tt (tt (tt (tt (tt (tt (tt (tt (tt (tt (tt (tt (tt (tt (tt (tt (tt (tt (tt (tt (tt (tt (tt (tt (tt (tt (tt (tt (tt k0 k1) k2) k3) k4) k5) k6) k7) k8) k9) k10) k11) k12) k13) k14) k15) k16) k17) k18) k19) k20) k21) k22) k23) k24) k25) k26) k27) k28) k29) k30) k31
theorem plain (f : FuncId) (fn : Func) (hf : Tryz.pinned.checked.prog.funcNamed Rows.fellSaysRow.func = some f) (hfn : Tryz.pinned.checked.prog.funcs[f]? = some fn) :
  true = Tryz.pinned.checked.prog.looks [] ∧ ∀ (j : Nat) t, fn.params[j]? = some t → Tryz.pinned.checked.prog.wantsStandIn t = false := by
 obtain rfl : f = 12 := Option.some.inj ((show Tryz.prog.funcNamed Rows.fellSaysRow.func = some 12 by kernel_rfl).symm.trans hf) |>.symm
 obtain rfl : fn = Tryz.f12 := (Option.some.inj (Tryz.func12.symm.trans hfn)).symm
 refine ⟨p_looks, fun j t ht => ?_⟩
 have hall : (Tryz.f12.params.toList.all fun t => !(Tryz.prog.wantsStandIn t)) = true := by as_aux_lemma => kernel_rfl
 have h := List.all_eq_true.1 hall t (by simpa using Array.mem_of_getElem? ht)
 have k : Tryz.prog.wantsStandIn t = false := by simpa using h
 exact k
theorem tied (said : Rows.FellSaysSaid) : Rows.FellSaysCardSaid :=
 Claim7.holds_tied_plain_at .later [] _ _ _ _ said (fun _ h => by cases h) (by as_aux_lemma => kernel_rfl) (fun _ h => by cases h) fellSays_row_tie rfl ⟨rfl, rfl⟩ (by as_aux_lemma => kernel_rfl) rfl plain (by as_aux_lemma => kernel_rfl)
end Go.Proofs.YtlppdgaogdpajaaGreatDoor.fellSays
namespace Go.Proofs.YtlppdgaogdpajaaGreatDoor
open Go.RowKit Go.Shelf
attribute [local go_sem] Oper.semAt_some
theorem c_amount (n : Int) (w : World) : Calls Tryz.prog 195 #[.int .i64 n] w fun e w' => e = .returned (.bool (!rg 0 1000 n)) ∧ Below w.heap.size w w' := by
 obtain ⟨B, hB⟩ : ∃ B, rg 0 1000 n = B := ⟨_, rfl⟩
 rw [hB]
 have HC := Lib.hid (fun W => c_in_b hB W)
 clear hB
 cases B
 all_goals
  go_enter Tryz.func195, Tryz.ntmps195
  go_wp2_with fail
  refine (HC.out _).mono ?_
  rintro e w' ⟨rfl, rfl⟩
  go_wp2
  go_ret
  exact ⟨rfl, Below.refl _ _⟩
set_option maxHeartbeats 2000000 in
theorem c_history_len (m : Fm) (l : List Int) (a : Option Addr) (cap : Nat) (w : World) (hs : Small m.f) (h : ¬ (l.length : Int) = countN m.f) :
  Calls Tryz.prog 150 #[m.v, .slice a l.length cap] w fun e w' => e = .returned (.int .i64 1) ∧ Below w.heap.size w w' := by
 have hN := fun W => c_count m W hs
 generalize countN m.f = V at *
 have hne : ((l.length : Int) != V) = true := by exact bne_iff_ne.2 h
 have HN := Lib.hid hN
 clear h hN hs
 go_enter Tryz.func150, Tryz.ntmps150
 go_upto_region 1 with (fail)
 go_name_world W1 hW1
 have hbn : Below w.heap.size w W1 := by subst hW1; go_grown
 have hb0 := hbn
 clear hbn
 have q0n : W1.cell? ⟨w.heap.size, 0, none⟩ = some (.int .i64 m.f.ticks) := by subst hW1; go_simp
 have q1n : W1.cell? ⟨w.heap.size, 1, none⟩ = some (.int .i64 m.f.yields) := by subst hW1; go_simp
 have q2n : W1.cell? ⟨w.heap.size, 2, none⟩ = some (.slice m.pa m.f.places.length m.pc) := by subst hW1; go_simp
 have q3n : W1.cell? ⟨w.heap.size, 3, none⟩ = some (.slice m.ga m.f.gates.length m.gc) := by subst hW1; go_simp
 clear hW1 
 have q0 := q0n
 have q1 := q1n
 have q2 := q2n
 have q3 := q3n
 clear q0n q1n q2n q3n 
 go_wp2_with fail
 refine (via (w0 := W1) (by go_grown) (HN.out _)).mono ?_
 rintro e W2 ⟨rfl, hc, hf, hz, hB⟩
 have zz := cy4 hc q0 q1 q2 q3
 clear q0 q1 q2 q3
 obtain ⟨q0, q1, q2, q3⟩ := zz
 have hbn : Below w.heap.size w W2 := bthen hb0 hB
 clear hb0
 have hb0 := hbn
 clear hbn
 have hzW2 : W1.heap.size ≤ W2.heap.size := hz
 clear hc hf hB hz
 go_wp2_with fail
 go_ret
 exact ⟨rfl, by have hbz := hb0.size; go_grown⟩
set_option maxHeartbeats 2000000 in
theorem c_history_off (m : Fm) (l : List Int) (a : Option Addr) (cap : Nat) (w : World) (hs : Small m.f) (hl : Nums w a l) (h : (l.length : Int) = countN m.f) (h2 : l.any (fun n => !rg 0 1000 n) = true) :
  Calls Tryz.prog 150 #[m.v, .slice a l.length cap] w fun e w' => e = .returned (.int .i64 1) ∧ Below w.heap.size w w' := by
 have hN := fun W => c_count m W hs
 generalize countN m.f = V at *
 have hne : ((l.length : Int) != V) = false := by rw [h]; simp
 have HN := Lib.hid hN
 have eg : Ent 195 := enters_of Tryz.func195 (by kernel_rfl) rfl
 have hA := fun W (hb : Below w.heap.size w W) => c_anyNum 195 eg #[] (fun n => !rg 0 1000 n) l a cap W (fun V y _ hv => c_amount y V) (hl.later hb)
 rw [h2] at hA
 have HA := Lib.hid hA
 clear hA h2 hl
 clear h hN hs
 go_enter Tryz.func150, Tryz.ntmps150
 go_upto_region 1 with (fail)
 go_name_world W1 hW1
 have hbn : Below w.heap.size w W1 := by subst hW1; go_grown
 have hb0 := hbn
 clear hbn
 have q0n : W1.cell? ⟨w.heap.size, 0, none⟩ = some (.int .i64 m.f.ticks) := by subst hW1; go_simp
 have q1n : W1.cell? ⟨w.heap.size, 1, none⟩ = some (.int .i64 m.f.yields) := by subst hW1; go_simp
 have q2n : W1.cell? ⟨w.heap.size, 2, none⟩ = some (.slice m.pa m.f.places.length m.pc) := by subst hW1; go_simp
 have q3n : W1.cell? ⟨w.heap.size, 3, none⟩ = some (.slice m.ga m.f.gates.length m.gc) := by subst hW1; go_simp
 clear hW1 
 have q0 := q0n
 have q1 := q1n
 have q2 := q2n
 have q3 := q3n
 clear q0n q1n q2n q3n 
 go_wp2_with fail
 refine (via (w0 := W1) (by go_grown) (HN.out _)).mono ?_
 rintro e W2 ⟨rfl, hc, hf, hz, hB⟩
 have zz := cy4 hc q0 q1 q2 q3
 clear q0 q1 q2 q3
 obtain ⟨q0, q1, q2, q3⟩ := zz
 have hbn : Below w.heap.size w W2 := bthen hb0 hB
 clear hb0
 have hb0 := hbn
 clear hbn
 have hzW2 : W1.heap.size ≤ W2.heap.size := hz
 clear hc hf hB hz
 go_wp2_with fail
 refine (via (w0 := W2) (by go_grown) (HA.out _ hb0)).mono ?_
 rintro e W3 ⟨rfl, hc, hf, hz, hB⟩
 have zz := cy4 hc q0 q1 q2 q3
 clear q0 q1 q2 q3
 obtain ⟨q0, q1, q2, q3⟩ := zz
 have hbn : Below w.heap.size w W3 := bthen hb0 hB
 clear hb0
 have hb0 := hbn
 clear hbn
 have hzW3 : W2.heap.size ≤ W3.heap.size := hz
 clear hc hf hB hz
 go_wp2_with fail
 go_ret
 exact ⟨rfl, by have hbz := hb0.size; go_grown⟩
set_option maxHeartbeats 2000000 in
theorem c_history_ok (m : Fm) (l : List Int) (a : Option Addr) (cap : Nat) (w : World) (hs : Small m.f) (hl : Nums w a l) (h : (l.length : Int) = countN m.f) (h2 : l.any (fun n => !rg 0 1000 n) = false) :
  Calls Tryz.prog 150 #[m.v, .slice a l.length cap] w fun e w' => e = .returned (.int .i64 0) ∧ Below w.heap.size w w' := by
 have hN := fun W => c_count m W hs
 generalize countN m.f = V at *
 have hne : ((l.length : Int) != V) = false := by rw [h]; simp
 have HN := Lib.hid hN
 have eg : Ent 195 := enters_of Tryz.func195 (by kernel_rfl) rfl
 have hA := fun W (hb : Below w.heap.size w W) => c_anyNum 195 eg #[] (fun n => !rg 0 1000 n) l a cap W (fun V y _ hv => c_amount y V) (hl.later hb)
 rw [h2] at hA
 have HA := Lib.hid hA
 clear hA h2 hl
 clear h hN hs
 go_enter Tryz.func150, Tryz.ntmps150
 go_upto_region 1 with (fail)
 go_name_world W1 hW1
 have hbn : Below w.heap.size w W1 := by subst hW1; go_grown
 have hb0 := hbn
 clear hbn
 have q0n : W1.cell? ⟨w.heap.size, 0, none⟩ = some (.int .i64 m.f.ticks) := by subst hW1; go_simp
 have q1n : W1.cell? ⟨w.heap.size, 1, none⟩ = some (.int .i64 m.f.yields) := by subst hW1; go_simp
 have q2n : W1.cell? ⟨w.heap.size, 2, none⟩ = some (.slice m.pa m.f.places.length m.pc) := by subst hW1; go_simp
 have q3n : W1.cell? ⟨w.heap.size, 3, none⟩ = some (.slice m.ga m.f.gates.length m.gc) := by subst hW1; go_simp
 clear hW1 
 have q0 := q0n
 have q1 := q1n
 have q2 := q2n
 have q3 := q3n
 clear q0n q1n q2n q3n 
 go_wp2_with fail
 refine (via (w0 := W1) (by go_grown) (HN.out _)).mono ?_
 rintro e W2 ⟨rfl, hc, hf, hz, hB⟩
 have zz := cy4 hc q0 q1 q2 q3
 clear q0 q1 q2 q3
 obtain ⟨q0, q1, q2, q3⟩ := zz
 have hbn : Below w.heap.size w W2 := bthen hb0 hB
 clear hb0
 have hb0 := hbn
 clear hbn
 have hzW2 : W1.heap.size ≤ W2.heap.size := hz
 clear hc hf hB hz
 go_wp2_with fail
 refine (via (w0 := W2) (by go_grown) (HA.out _ hb0)).mono ?_
 rintro e W3 ⟨rfl, hc, hf, hz, hB⟩
 have zz := cy4 hc q0 q1 q2 q3
 clear q0 q1 q2 q3
 obtain ⟨q0, q1, q2, q3⟩ := zz
 have hbn : Below w.heap.size w W3 := bthen hb0 hB
 clear hb0
 have hb0 := hbn
 clear hbn
 have hzW3 : W2.heap.size ≤ W3.heap.size := hz
 clear hc hf hB hz
 go_wp2_with fail
 go_ret
 exact ⟨rfl, by have hbz := hb0.size; go_grown⟩
theorem c_history (m : Fm) (l : List Int) (a : Option Addr) (cap : Nat) (w : World) (hs : Small m.f) (hl : Nums w a l) :
  Calls Tryz.prog 150 #[m.v, .slice a l.length cap] w fun e w' => e = .returned (.int .i64 (historyE m.f l)) ∧ Below w.heap.size w w' := by
 unfold historyE
 by_cases h : (l.length : Int) = countN m.f
 ·by_cases h2 : l.any (fun n => !rg 0 1000 n) = true
  ·rw [if_pos (.inr h2)]; exact c_history_off m l a cap w hs hl h h2
  ·rw [if_neg (by rintro (h3 | h3); exact h3 h; exact h2 h3)]; exact c_history_ok m l a cap w hs hl h (by simpa using h2)
 ·rw [if_pos (.inl h)]; exact c_history_len m l a cap w hs h
end Go.Proofs.YtlppdgaogdpajaaGreatDoor
namespace Go.Proofs.YtlppdgaogdpajaaGreatDoor
open Go.RowKit Go.Shelf
attribute [local go_sem] Oper.semAt_some
theorem move_ok {f : Fe} {x : Rp} (h : (moveV f x).2 = 0) : Right f ∧ JOk f x ∧ ¬ x.kind = 8 ∧ (moveV f x).1 = idxN f x.kind x.plc x.tick := by
 unfold moveV at h ⊢
 by_cases h1 : reportE f x = 0
 ·rw [if_neg (by omega)] at h ⊢
  by_cases h8 : x.kind = 8
  ·rw [if_pos h8] at h; cases h
  ·rw [if_neg h8] at h ⊢
   exact ⟨(report_ok h1).1, (report_ok h1).2, h8, rfl⟩
 ·rw [if_pos h1] at h; exact absurd h h1
theorem hist_len {f : Fe} {l : List Int} (h : historyE f l = 0) : (l.length : Int) = countN f := by
 by_cases hc : (l.length : Int) = countN f
 ·exact hc
 ·unfold historyE at h; rw [if_pos (.inl hc)] at h; cases h
abbrev boolV (r : Bool × Int) : Value := .tuple #[.bool r.1, .int .i64 r.2]
set_option maxRecDepth 100000 in
set_option maxHeartbeats 4000000 in
theorem c_Keeps_no (m : Fm) (l : List Int) (a : Option Addr) (cap : Nat) (x : Rp) (w : World) (hm : m.In w) (ok : RpOk x) (h : (moveV m.f x).2 ≠ 0) :
  Calls Tryz.prog 63 #[m.v, .slice a l.length cap, x.v] w fun e w' => e = .returned (boolV (false, (moveV m.f x).2)) ∧ Below w.heap.size w w' := by
 have hC := fun W (hb : Below w.heap.size w W) => c_MoveArc m x W (hm.later hb) ok
 generalize moveV m.f x = R at *
 obtain ⟨i, E⟩ := R
 dsimp only at h hC ⊢
 have he : (E != 0) = true := bne_iff_ne.2 h
 obtain ⟨id, known, kind, owner, sort, plc, tick, low, high, void⟩ := x
 have HC := Lib.hid hC
 clear hC h hm ok
 go_enter Tryz.func63, Tryz.ntmps63
 go_upto_region 1 with (fail)
 go_name_world W1 hW1
 have hbn : Below w.heap.size w W1 := by subst hW1; go_grown
 have hb0 := hbn
 clear hbn
 have q0n : W1.cell? ⟨w.heap.size, 0, none⟩ = some (.int .i64 m.f.ticks) := by subst hW1; go_simp
 have q1n : W1.cell? ⟨w.heap.size, 1, none⟩ = some (.int .i64 m.f.yields) := by subst hW1; go_simp
 have q2n : W1.cell? ⟨w.heap.size, 2, none⟩ = some (.slice m.pa m.f.places.length m.pc) := by subst hW1; go_simp
 have q3n : W1.cell? ⟨w.heap.size, 3, none⟩ = some (.slice m.ga m.f.gates.length m.gc) := by subst hW1; go_simp
 have r0n : W1.cell? ⟨w.heap.size + 1, 0, none⟩ = some (.int .i64 id) := by subst hW1; go_simp
 have r1n : W1.cell? ⟨w.heap.size + 1, 1, none⟩ = some (.int .i64 known) := by subst hW1; go_simp
 have r2n : W1.cell? ⟨w.heap.size + 1, 2, none⟩ = some (.int .u8 kind) := by subst hW1; go_simp
 have r3n : W1.cell? ⟨w.heap.size + 1, 3, none⟩ = some (.int .i64 owner) := by subst hW1; go_simp
 have r4n : W1.cell? ⟨w.heap.size + 1, 4, none⟩ = some (.string sort) := by subst hW1; go_simp
 have r5n : W1.cell? ⟨w.heap.size + 1, 5, none⟩ = some (.int .i64 plc) := by subst hW1; go_simp
 have r6n : W1.cell? ⟨w.heap.size + 1, 6, none⟩ = some (.int .i64 tick) := by subst hW1; go_simp
 have r7n : W1.cell? ⟨w.heap.size + 1, 7, none⟩ = some (.int .i64 low) := by subst hW1; go_simp
 have r8n : W1.cell? ⟨w.heap.size + 1, 8, none⟩ = some (.int .i64 high) := by subst hW1; go_simp
 have r9n : W1.cell? ⟨w.heap.size + 1, 9, none⟩ = some (.int .i64 void) := by subst hW1; go_simp
 clear hW1 
 have q0 := q0n
 have q1 := q1n
 have q2 := q2n
 have q3 := q3n
 have r0 := r0n
 have r1 := r1n
 have r2 := r2n
 have r3 := r3n
 have r4 := r4n
 have r5 := r5n
 have r6 := r6n
 have r7 := r7n
 have r8 := r8n
 have r9 := r9n
 clear q0n q1n q2n q3n r0n r1n r2n r3n r4n r5n r6n r7n r8n r9n 
 go_wp2_with fail
 refine (via (w0 := W1) (by go_grown) (HC.out _ hb0)).mono ?_
 rintro e W2 ⟨rfl, hc, hf, hz, hB⟩
 have zz := cy14 hc q0 q1 q2 q3 r0 r1 r2 r3 r4 r5 r6 r7 r8 r9
 clear q0 q1 q2 q3 r0 r1 r2 r3 r4 r5 r6 r7 r8 r9
 obtain ⟨q0, q1, q2, q3, r0, r1, r2, r3, r4, r5, r6, r7, r8, r9⟩ := zz
 have hbn : Below w.heap.size w W2 := bthen hb0 hB
 clear hb0
 have hb0 := hbn
 clear hbn
 have hzW2 : W1.heap.size ≤ W2.heap.size := hz
 clear hc hf hB hz
 go_wp2_with fail
 go_ret2
 exact ⟨rfl, by have hbz := hb0.size; go_grown⟩
set_option maxRecDepth 100000 in
set_option maxHeartbeats 4000000 in
theorem c_Keeps_hist (m : Fm) (l : List Int) (a : Option Addr) (cap : Nat) (x : Rp) (w : World) (hm : m.In w) (ok : RpOk x) (hl : Nums w a l) (h : (moveV m.f x).2 = 0) (h1 : historyE m.f l ≠ 0) :
  Calls Tryz.prog 63 #[m.v, .slice a l.length cap, x.v] w fun e w' => e = .returned (boolV (false, historyE m.f l)) ∧ Below w.heap.size w w' := by
 have hC := fun W (hb : Below w.heap.size w W) => c_MoveArc m x W (hm.later hb) ok
 have hmo := move_ok h
 have hs := hmo.1.small
 have hH := fun W (hb : Below w.heap.size w W) => c_history m l a cap W hs (hl.later hb)
 generalize historyE m.f l = E at *
 have he : (E != 0) = true := bne_iff_ne.2 h1
 clear hmo
 generalize moveV m.f x = R at *
 obtain ⟨i, E0⟩ := R
 dsimp only at h hC ⊢
 subst h
 obtain ⟨id, known, kind, owner, sort, plc, tick, low, high, void⟩ := x
 have HC := Lib.hid hC
 have HH := Lib.hid hH
 clear hC hm hH h1 hl hs ok
 go_enter Tryz.func63, Tryz.ntmps63
 go_upto_region 1 with (fail)
 go_name_world W1 hW1
 have hbn : Below w.heap.size w W1 := by subst hW1; go_grown
 have hb0 := hbn
 clear hbn
 have q0n : W1.cell? ⟨w.heap.size, 0, none⟩ = some (.int .i64 m.f.ticks) := by subst hW1; go_simp
 have q1n : W1.cell? ⟨w.heap.size, 1, none⟩ = some (.int .i64 m.f.yields) := by subst hW1; go_simp
 have q2n : W1.cell? ⟨w.heap.size, 2, none⟩ = some (.slice m.pa m.f.places.length m.pc) := by subst hW1; go_simp
 have q3n : W1.cell? ⟨w.heap.size, 3, none⟩ = some (.slice m.ga m.f.gates.length m.gc) := by subst hW1; go_simp
 have r0n : W1.cell? ⟨w.heap.size + 1, 0, none⟩ = some (.int .i64 id) := by subst hW1; go_simp
 have r1n : W1.cell? ⟨w.heap.size + 1, 1, none⟩ = some (.int .i64 known) := by subst hW1; go_simp
 have r2n : W1.cell? ⟨w.heap.size + 1, 2, none⟩ = some (.int .u8 kind) := by subst hW1; go_simp
 have r3n : W1.cell? ⟨w.heap.size + 1, 3, none⟩ = some (.int .i64 owner) := by subst hW1; go_simp
 have r4n : W1.cell? ⟨w.heap.size + 1, 4, none⟩ = some (.string sort) := by subst hW1; go_simp
 have r5n : W1.cell? ⟨w.heap.size + 1, 5, none⟩ = some (.int .i64 plc) := by subst hW1; go_simp
 have r6n : W1.cell? ⟨w.heap.size + 1, 6, none⟩ = some (.int .i64 tick) := by subst hW1; go_simp
 have r7n : W1.cell? ⟨w.heap.size + 1, 7, none⟩ = some (.int .i64 low) := by subst hW1; go_simp
 have r8n : W1.cell? ⟨w.heap.size + 1, 8, none⟩ = some (.int .i64 high) := by subst hW1; go_simp
 have r9n : W1.cell? ⟨w.heap.size + 1, 9, none⟩ = some (.int .i64 void) := by subst hW1; go_simp
 clear hW1 
 have q0 := q0n
 have q1 := q1n
 have q2 := q2n
 have q3 := q3n
 have r0 := r0n
 have r1 := r1n
 have r2 := r2n
 have r3 := r3n
 have r4 := r4n
 have r5 := r5n
 have r6 := r6n
 have r7 := r7n
 have r8 := r8n
 have r9 := r9n
 clear q0n q1n q2n q3n r0n r1n r2n r3n r4n r5n r6n r7n r8n r9n 
 go_wp2_with fail
 refine (via (w0 := W1) (by go_grown) (HC.out _ hb0)).mono ?_
 rintro e W2 ⟨rfl, hc, hf, hz, hB⟩
 have zz := cy14 hc q0 q1 q2 q3 r0 r1 r2 r3 r4 r5 r6 r7 r8 r9
 clear q0 q1 q2 q3 r0 r1 r2 r3 r4 r5 r6 r7 r8 r9
 obtain ⟨q0, q1, q2, q3, r0, r1, r2, r3, r4, r5, r6, r7, r8, r9⟩ := zz
 have hbn : Below w.heap.size w W2 := bthen hb0 hB
 clear hb0
 have hb0 := hbn
 clear hbn
 have hzW2 : W1.heap.size ≤ W2.heap.size := hz
 clear hc hf hB hz
 go_wp2_with fail
 refine (via (w0 := W2) (by go_grown) (HH.out _ hb0)).mono ?_
 rintro e W3 ⟨rfl, hc, hf, hz, hB⟩
 have zz := cy14 hc q0 q1 q2 q3 r0 r1 r2 r3 r4 r5 r6 r7 r8 r9
 clear q0 q1 q2 q3 r0 r1 r2 r3 r4 r5 r6 r7 r8 r9
 obtain ⟨q0, q1, q2, q3, r0, r1, r2, r3, r4, r5, r6, r7, r8, r9⟩ := zz
 have hbn : Below w.heap.size w W3 := bthen hb0 hB
 clear hb0
 have hb0 := hbn
 clear hbn
 have hzW3 : W2.heap.size ≤ W3.heap.size := hz
 clear hc hf hB hz
 go_wp2_with fail
 go_ret2
 exact ⟨rfl, by have hbz := hb0.size; go_grown⟩
set_option maxRecDepth 100000 in
set_option maxHeartbeats 4000000 in
theorem c_Keeps_ok (m : Fm) (l : List Int) (a : Option Addr) (cap : Nat) (x : Rp) (w : World) (hm : m.In w) (ok : RpOk x) (hl : Nums w a l) (h : (moveV m.f x).2 = 0) (h1 : historyE m.f l = 0) :
  Calls Tryz.prog 63 #[m.v, .slice a l.length cap, x.v] w fun e w' => e = .returned (boolV (rg x.low x.high (l[(moveV m.f x).1.toNat]?.getD 0), 0)) ∧ Below w.heap.size w w' := by
 have hC := fun W (hb : Below w.heap.size w W) => c_MoveArc m x W (hm.later hb) ok
 have hmo := move_ok h
 have hs := hmo.1.small
 have hH := fun W (hb : Below w.heap.size w W) => c_history m l a cap W hs (hl.later hb)
 rw [h1] at hH
 obtain ⟨i0, i1⟩ := idx_lt hs hmo.2.1 hmo.2.2.1
 rw [← hmo.2.2.2, ← hist_len h1] at i1
 rw [← hmo.2.2.2] at i0
 clear hmo
 generalize moveV m.f x = R at *
 obtain ⟨i, E0⟩ := R
 dsimp only at h hC ⊢
 subst h
 dsimp only at i0 i1
 obtain ⟨k, rfl⟩ : ∃ k : Nat, i = (k : Int) := ⟨i.toNat, by omega⟩
 have hkl : k < l.length := by omega
 obtain ⟨n, hx⟩ := some_at hkl
 rw [Int.toNat_natCast, hx, Option.getD_some]
 obtain ⟨b, o, rfl, hat⟩ := hl.at hx
 rw [Nat.mul_one] at hat
 have y0 := num_cell hat
 have zb := cell_lt y0
 have hidx : ¬ ((k : Int) < 0) := by omega
 have hidx2 : (k : Int) < (l.length : Int) := by omega
 clear hx hat i0 i1
 obtain ⟨id, known, kind, owner, sort, plc, tick, low, high, void⟩ := x
 have HC := Lib.hid hC
 have HH := Lib.hid hH
 clear hC hm hH h1 hl hs ok
 dsimp only
 obtain ⟨B, hB⟩ : ∃ B, rg low high n = B := ⟨_, rfl⟩
 rw [hB]
 have HI := Lib.hid (fun W => c_in_b hB W)
 clear hB
 go_enter Tryz.func63, Tryz.ntmps63
 go_upto_region 1 with (fail)
 go_name_world W1 hW1
 have hbn : Below w.heap.size w W1 := by subst hW1; go_grown
 have hb0 := hbn
 clear hbn
 have q0n : W1.cell? ⟨w.heap.size, 0, none⟩ = some (.int .i64 m.f.ticks) := by subst hW1; go_simp
 have q1n : W1.cell? ⟨w.heap.size, 1, none⟩ = some (.int .i64 m.f.yields) := by subst hW1; go_simp
 have q2n : W1.cell? ⟨w.heap.size, 2, none⟩ = some (.slice m.pa m.f.places.length m.pc) := by subst hW1; go_simp
 have q3n : W1.cell? ⟨w.heap.size, 3, none⟩ = some (.slice m.ga m.f.gates.length m.gc) := by subst hW1; go_simp
 have r0n : W1.cell? ⟨w.heap.size + 1, 0, none⟩ = some (.int .i64 id) := by subst hW1; go_simp
 have r1n : W1.cell? ⟨w.heap.size + 1, 1, none⟩ = some (.int .i64 known) := by subst hW1; go_simp
 have r2n : W1.cell? ⟨w.heap.size + 1, 2, none⟩ = some (.int .u8 kind) := by subst hW1; go_simp
 have r3n : W1.cell? ⟨w.heap.size + 1, 3, none⟩ = some (.int .i64 owner) := by subst hW1; go_simp
 have r4n : W1.cell? ⟨w.heap.size + 1, 4, none⟩ = some (.string sort) := by subst hW1; go_simp
 have r5n : W1.cell? ⟨w.heap.size + 1, 5, none⟩ = some (.int .i64 plc) := by subst hW1; go_simp
 have r6n : W1.cell? ⟨w.heap.size + 1, 6, none⟩ = some (.int .i64 tick) := by subst hW1; go_simp
 have r7n : W1.cell? ⟨w.heap.size + 1, 7, none⟩ = some (.int .i64 low) := by subst hW1; go_simp
 have r8n : W1.cell? ⟨w.heap.size + 1, 8, none⟩ = some (.int .i64 high) := by subst hW1; go_simp
 have r9n : W1.cell? ⟨w.heap.size + 1, 9, none⟩ = some (.int .i64 void) := by subst hW1; go_simp
 have y1n : W1.cell? ⟨b, o + k, none⟩ = some (.int .i64 n) := by subst hW1; go_simp
 clear hW1 
 have q0 := q0n
 have q1 := q1n
 have q2 := q2n
 have q3 := q3n
 have r0 := r0n
 have r1 := r1n
 have r2 := r2n
 have r3 := r3n
 have r4 := r4n
 have r5 := r5n
 have r6 := r6n
 have r7 := r7n
 have r8 := r8n
 have r9 := r9n
 have y1 := y1n
 clear q0n q1n q2n q3n r0n r1n r2n r3n r4n r5n r6n r7n r8n r9n y1n 
 go_wp2_with fail
 refine (via (w0 := W1) (by go_grown) (HC.out _ hb0)).mono ?_
 rintro e W2 ⟨rfl, hc, hf, hz, hB⟩
 have zz := cy15 hc q0 q1 q2 q3 r0 r1 r2 r3 r4 r5 r6 r7 r8 r9 y1
 clear q0 q1 q2 q3 r0 r1 r2 r3 r4 r5 r6 r7 r8 r9 y1
 obtain ⟨q0, q1, q2, q3, r0, r1, r2, r3, r4, r5, r6, r7, r8, r9, y1⟩ := zz
 have hbn : Below w.heap.size w W2 := bthen hb0 hB
 clear hb0
 have hb0 := hbn
 clear hbn
 have hzW2 : W1.heap.size ≤ W2.heap.size := hz
 clear hc hf hB hz
 go_wp2_with fail
 refine (via (w0 := W2) (by go_grown) (HH.out _ hb0)).mono ?_
 rintro e W3 ⟨rfl, hc, hf, hz, hB⟩
 have zz := cy15 hc q0 q1 q2 q3 r0 r1 r2 r3 r4 r5 r6 r7 r8 r9 y1
 clear q0 q1 q2 q3 r0 r1 r2 r3 r4 r5 r6 r7 r8 r9 y1
 obtain ⟨q0, q1, q2, q3, r0, r1, r2, r3, r4, r5, r6, r7, r8, r9, y1⟩ := zz
 have hbn : Below w.heap.size w W3 := bthen hb0 hB
 clear hb0
 have hb0 := hbn
 clear hbn
 have hzW3 : W2.heap.size ≤ W3.heap.size := hz
 clear hc hf hB hz
 go_upto_region 7 with (fail)
 have kq0 := later_cell q0
 have kq1 := later_cell q1
 have kq2 := later_cell q2
 have kq3 := later_cell q3
 have kr0 := later_cell r0
 have kr1 := later_cell r1
 have kr2 := later_cell r2
 have kr3 := later_cell r3
 have kr4 := later_cell r4
 have kr5 := later_cell r5
 have kr6 := later_cell r6
 have kr7 := later_cell r7
 have kr8 := later_cell r8
 have kr9 := later_cell r9
 have ky1 := later_cell y1
 refine wp_region_later W3 (by kernel_rfl) (by kernel_rfl) (Below.refl _ _) ?_
 repeat (go_big_quiet_step (first | (go_at_call 100; with_reducible exact in_region ((HI.out _).mono fun e w1 h => ⟨h.1, h.2 ▸ Below.refl _ _⟩))))
 refine wpQuiet_nil ?_
 rintro ⟨W4, hB⟩
 dsimp only
 have hc := (bcell hB).1
 have hf := (bcell hB).2
 have hz := hB.size
 clear kq0 kq1 kq2 kq3 kr0 kr1 kr2 kr3 kr4 kr5 kr6 kr7 kr8 kr9 ky1
 have zz := cy15 hc q0 q1 q2 q3 r0 r1 r2 r3 r4 r5 r6 r7 r8 r9 y1
 clear q0 q1 q2 q3 r0 r1 r2 r3 r4 r5 r6 r7 r8 r9 y1
 obtain ⟨q0, q1, q2, q3, r0, r1, r2, r3, r4, r5, r6, r7, r8, r9, y1⟩ := zz
 have hbn : Below w.heap.size w W4 := bthen hb0 hB
 clear hb0
 have hb0 := hbn
 clear hbn
 have hzW4 : W3.heap.size ≤ W4.heap.size := hz
 clear hc hf hB hz
 go_wp2_with fail
 go_ret2
 exact ⟨rfl, by have hbz := hb0.size; go_grown⟩
theorem c_Keeps (m : Fm) (l : List Int) (a : Option Addr) (cap : Nat) (x : Rp) (w : World) (hm : m.In w) (ok : RpOk x) (hl : Nums w a l) :
  Calls Tryz.prog 63 #[m.v, .slice a l.length cap, x.v] w fun e w' => e = .returned (boolV (keepsV m.f l x)) ∧ Below w.heap.size w w' := by
 unfold keepsV
 by_cases h : (moveV m.f x).2 = 0
 ·rw [if_neg (by omega)]
  by_cases h1 : historyE m.f l = 0
  ·rw [if_neg (by omega)]; exact c_Keeps_ok m l a cap x w hm ok hl h h1
  ·rw [if_pos h1]
   have e : historyE m.f l = 1 := by unfold historyE at h1 ⊢; split at h1 <;> simp_all
   have := c_Keeps_hist m l a cap x w hm ok hl h h1
   rw [e] at this
   exact this
 ·rw [if_pos h]; exact c_Keeps_no m l a cap x w hm ok h
end Go.Proofs.YtlppdgaogdpajaaGreatDoor
namespace Go.Proofs.YtlppdgaogdpajaaGreatDoor
def prA (a : Ar) : Int × Int × Int × Int := (a.src, a.dst, a.low, a.high)
def narP (x : Rp) (p : Int × Int × Int × Int) : Int × Int × Int × Int := (p.1, p.2.1, if p.2.2.1 < x.low then x.low else p.2.2.1, if x.high < p.2.2.2 then x.high else p.2.2.2)
theorem prA_narrow (a : Ar) (x : Rp) : prA (narrow a x) = narP x (prA a) := by
 unfold narrow narP prA
 by_cases h1 : a.low < x.low <;> by_cases h2 : x.high < a.high <;> simp [h1, h2]
end Go.Proofs.YtlppdgaogdpajaaGreatDoor
namespace Go.Proofs.YtlppdgaogdpajaaGreatDoor
def insideA (A : List Ar) (x : List Int) : Bool := decide (x.length = A.length) && (A.zip x).all fun p => decide (p.1.low ≤ p.2) && decide (p.2 ≤ p.1.high)
theorem inside_iff {A : List Ar} {x : List Int} : insideA A x = true ↔ x.length = A.length ∧ ∀ (i : Nat) a n, A[i]? = some a → x[i]? = some n → a.low ≤ n ∧ n ≤ a.high := by
 unfold insideA
 rw [Bool.and_eq_true, decide_eq_true_eq, List.all_eq_true]
 constructor
 ·rintro ⟨h1, h2⟩
  refine ⟨h1, fun i a n ha hn => ?_⟩
  have := h2 (a, n) (List.mem_iff_getElem?.2 ⟨i, by rw [List.getElem?_zip_eq_some]; exact ⟨ha, hn⟩⟩)
  simpa using this
 ·rintro ⟨h1, h2⟩
  refine ⟨h1, fun p hp => ?_⟩
  obtain ⟨i, hi⟩ := List.mem_iff_getElem?.1 hp
  rw [List.getElem?_zip_eq_some] at hi
  have := h2 i p.1 p.2 hi.1 hi.2
  simpa using this
theorem narrow_in (a : Ar) (x : Rp) (n : Int) : ((narrow a x).low ≤ n ∧ n ≤ (narrow a x).high) ↔ (a.low ≤ n ∧ n ≤ a.high) ∧ x.low ≤ n ∧ n ≤ x.high := by
 have h := prA_narrow a x
 unfold prA narP at h
 simp only [Prod.mk.injEq] at h
 obtain ⟨_, _, h1, h2⟩ := h
 rw [h1, h2]
 constructor
 ·intro h
  split at h <;> split at h <;> omega
 ·intro h
  split <;> split <;> omega
theorem inside_narrow {A : List Ar} {x : List Int} {i : Nat} {r : Rp} (hi : i < A.length) : insideA (A.modify i (narrow · r)) x = (insideA A x && rg r.low r.high (x[i]?.getD 0)) := by
 rw [Bool.eq_iff_iff, Bool.and_eq_true, inside_iff, inside_iff, rg_iff, List.length_modify]
 constructor
 ·rintro ⟨h1, h2⟩
  have hx : ∃ n, x[i]? = some n := ⟨x[i]'(by omega), by simp⟩
  have ha : ∃ a, A[i]? = some a := ⟨A[i], by simp⟩
  obtain ⟨n, hn⟩ := hx
  obtain ⟨a, ha⟩ := ha
  refine ⟨⟨h1, fun j b k hb hk => ?_⟩, ?_⟩
  ·by_cases e : i = j
   ·subst e
    have := h2 i (narrow b r) k (by rw [List.getElem?_modify, hb]; simp) hk
    exact ((narrow_in b r k).1 this).1
   ·exact h2 j b k (by rw [List.getElem?_modify, hb]; simp [e]) hk
  ·have := h2 i (narrow a r) n (by rw [List.getElem?_modify, ha]; simp) hn
   rw [hn]
   exact ((narrow_in a r n).1 this).2
 ·rintro ⟨⟨h1, h2⟩, h3⟩
  refine ⟨h1, fun j b k hb hk => ?_⟩
  rw [List.getElem?_modify] at hb
  cases ha : A[j]? with
  | none => rw [ha] at hb; simp at hb
  | some a =>
   rw [ha] at hb
   have := h2 j a k ha hk
   by_cases e : i = j
   ·subst e
    simp at hb
    subst hb
    rw [hk] at h3
    exact (narrow_in a r k).2 ⟨this, h3⟩
   ·simp [e] at hb
    subst hb
    exact this
def fitsB (owner : Int) (sort : ByteArray) (r : Rp) : Bool := decide (r.owner = owner) && decide (r.sort = sort)
theorem fits_iff {owner : Int} {sort : ByteArray} {r : Rp} : fitsB owner sort r = true ↔ r.owner = owner ∧ r.sort = sort := by simp [fitsB]
theorem inside_step {f : Fe} {owner : Int} {sort : ByteArray} {A : List Ar} {x : List Int} {r : Rp} (hi : (idxN f r.kind r.plc r.tick).toNat < A.length) :
  insideA (netStep f owner sort A r) x = if fitsB owner sort r then (insideA A x && rg r.low r.high (x[(idxN f r.kind r.plc r.tick).toNat]?.getD 0)) else insideA A x := by
 unfold netStep
 by_cases h : r.owner = owner ∧ r.sort = sort
 ·rw [if_pos h, if_pos (fits_iff.2 h)]
  exact inside_narrow hi
 ·rw [if_neg h, if_neg (fun e => h (fits_iff.1 e))]
end Go.Proofs.YtlppdgaogdpajaaGreatDoor
namespace Go.Proofs.YtlppdgaogdpajaaGreatDoor
open Go.RowKit Go.Shelf
attribute [local go_sem] Oper.semAt_some
theorem inside_len {A : List Ar} {x : List Int} (h : ¬ x.length = A.length) : insideA A x = false := by
 unfold insideA
 simp [h]
theorem inside_no {A : List Ar} {x : List Int} {i : Nat} {y : Ar} {n : Int} (ha : A[i]? = some y) (hn : x[i]? = some n) (h : ¬ (y.low ≤ n ∧ n ≤ y.high)) : insideA A x = false := by
 cases hb : insideA A x with
 | false => rfl
 | true => exact absurd ((inside_iff.1 hb).2 i y n ha hn) h
def insK (A : List Ar) (x : List Int) (k : Nat) : Prop := ∀ (i : Nat) y n, i < k → A[i]? = some y → x[i]? = some n → y.low ≤ n ∧ n ≤ y.high
theorem insK_step {A : List Ar} {x : List Int} {k : Nat} {y : Ar} {n : Int} (h : insK A x k) (ha : A[k]? = some y) (hn : x[k]? = some n) (h1 : y.low ≤ n) (h2 : n ≤ y.high) : insK A x (k + 1) := by
 intro i z m hi hz hm
 by_cases e : i = k
 ·subst e
  rw [ha] at hz
  rw [hn] at hm
  cases hz
  cases hm
  exact ⟨h1, h2⟩
 ·exact h i z m (by omega) hz hm
theorem insK_all {A : List Ar} {x : List Int} (hl : x.length = A.length) (h : insK A x A.length) : insideA A x = true :=
 inside_iff.2 ⟨hl, fun i y n ha hn => h i y n (some_lt ha) ha hn⟩
set_option maxRecDepth 100000 in
set_option maxHeartbeats 2000000 in
theorem c_inside_len (n : Int) (A : List Ar) (a : Option Addr) (cap : Nat) (x : List Int) (b : Option Addr) (bc : Nat) (w : World) (h : ¬ x.length = A.length) :
  Calls Tryz.prog 62 #[.agg #[.int .i64 n, .slice a A.length cap], .slice b x.length bc] w fun e w' => e = .returned (.bool (insideA A x)) ∧ Below w.heap.size w w' := by
 rw [inside_len h]
 have h1 : ((x.length : Int) == (A.length : Int)) = false := beq_eq_false_iff_ne.2 (by omega)
 have h2 : ((x.length : Int) != (A.length : Int)) = true := bne_iff_ne.2 (by omega)
 clear h
 go_enter Tryz.func62, Tryz.ntmps62
 go_wp2
 go_ret
 exact ⟨rfl, by go_grown⟩
set_option maxRecDepth 100000 in
set_option maxHeartbeats 4000000 in
theorem c_inside_ok (n : Int) (A : List Ar) (a : Option Addr) (cap : Nat) (x : List Int) (b : Option Addr) (bc : Nat) (w : World) (hA : Ars w a A) (hx : Nums w b x) (h : x.length = A.length) (hs : A.length ≤ 100000) :
  Calls Tryz.prog 62 #[.agg #[.int .i64 n, .slice a A.length cap], .slice b x.length bc] w fun e w' => e = .returned (.bool (insideA A x)) ∧ Below w.heap.size w w' := by
 have H := Lib.hid h
 have h1 : ((x.length : Int) == (A.length : Int)) = true := beq_iff_eq.2 (by omega)
 have h2 : ((x.length : Int) != (A.length : Int)) = false := bne_eq_false_iff_eq.2 (by omega)
 have HA := Lib.hid hA
 have HX := Lib.hid hx
 clear hA hx h
 go_enter Tryz.func62, Tryz.ntmps62
 go_upto_region 1 with (fail)
 go_name_world W1 hW1
 have hbn : Below w.heap.size w W1 := by subst hW1; go_grown
 have hb0 := hbn
 clear hbn
 have n0n : W1.cell? ⟨w.heap.size, 0, none⟩ = some (.int .i64 n) := by subst hW1; go_simp
 have n1n : W1.cell? ⟨w.heap.size, 1, none⟩ = some (.slice a A.length cap) := by subst hW1; go_simp
 clear hW1 
 have n0 := n0n
 have n1 := n1n
 clear n0n n1n 
 go_wp2
 go_loopw [16] (fun v16 wr => ∃ k : Nat, k ≤ A.length ∧ v16 = .int .i64 k ∧ insK A x k ∧ Below w.heap.size w wr) (fun v16 _ => A.length - (intOf v16).toNat)
 case atStart => exact ⟨0, by omega, rfl, fun i _ _ h => by omega, hb0⟩
 case round =>
  clear n0 n1 hb0 h1 h2
  obtain ⟨k, hk, rfl, hin, hb0⟩ := hrel
  have HI := Lib.hid hin
  clear hin
  by_cases hlt : k < A.length
  ·obtain ⟨y, hy⟩ := some_at hlt
   obtain ⟨m, hm⟩ := some_at (show k < x.length by rw [H.out]; exact hlt)
   obtain ⟨ga, oa, ha, hat⟩ := (HA.out.later hb0).at hy
   obtain ⟨gb, ob, hb, hbt⟩ := (HX.out.later hb0).at hm
   obtain ⟨c0, c1, c2, c3, c4, c5⟩ := ar_cells hat
   rw [Nat.mul_one] at hbt
   have d0 := num_cell hbt
   have zc := cell_lt c0
   have zd := cell_lt d0
   have hi1 : ¬ (k : Int) < 0 := by omega
   have hi2 : (k : Int) < (A.length : Int) := by omega
   have hi3 : (k : Int) < (x.length : Int) := by rw [H.out]; exact hi2
   have HY := Lib.hid hy
   have HM := Lib.hid hm
   rw [ha, hb]
   clear hy hm hat hbt ha hb
   go_upto_region 6 with (fail)
   go_name_world W6 hW6
   have hbz := hb0.size
   have hbn : Below w.heap.size w W6 := by subst hW6; go_grown
   clear hb0 hbz
   have hb0 := hbn
   clear hbn
   have hbk : Below wr.heap.size wr W6 := by subst hW6; go_grown
   replace d0 := ((bcell hbk).1 _ _ (cell_lt d0)).trans d0
   clear hbk
   have p2 : W6.cell? ⟨wr.heap.size, 2, none⟩ = some (.int .i64 y.low) := by subst hW6; go_simp
   have p3 : W6.cell? ⟨wr.heap.size, 3, none⟩ = some (.int .i64 y.high) := by subst hW6; go_simp
   clear hW6
   clear c0 c1 c2 c3 c4 c5 zc zd
   by_cases g1 : m < y.low
   ·have hz := inside_no HY.out HM.out (show ¬ (y.low ≤ m ∧ m ≤ y.high) by omega)
    have HZ := Lib.hid hz
    have e1 : decide (m < y.low) = true := decide_eq_true g1
    clear hz
    have kd0 := later_cell d0
    have kp2 := later_cell p2
    have kp3 := later_cell p3
    refine wp_region_later W6 (by kernel_rfl) (by kernel_rfl) (Below.refl _ _) ?_
    repeat (go_big_quiet_step (fail))
    refine wpQuiet_nil ?_
    rintro ⟨W7, hB⟩
    dsimp only
    have hc := (bcell hB).1
    have hf := (bcell hB).2
    have hz := hB.size
    clear kd0 kp2 kp3
    have zz := cy3 hc d0 p2 p3
    clear d0 p2 p3
    obtain ⟨d0, p2, p3⟩ := zz
    have hbn : Below w.heap.size w W7 := bthen hb0 hB
    clear hb0
    have hb0 := hbn
    clear hbn
    have hzW7 : W6.heap.size ≤ W7.heap.size := hz
    clear hc hf hB hz
    go_wp2
    go_ret
    exact ⟨by first | (rw [HZ.out]; done) | (rw [HZ.out]; rfl), by have hbz := hb0.size; go_grown⟩
   ·by_cases g2 : y.high < m
    ·have hz := inside_no HY.out HM.out (show ¬ (y.low ≤ m ∧ m ≤ y.high) by omega)
     have HZ := Lib.hid hz
     have e1 : decide (m < y.low) = false := decide_eq_false g1
     have e2 : decide (y.high < m) = true := decide_eq_true g2
     clear hz
     have kd0 := later_cell d0
     have kp2 := later_cell p2
     have kp3 := later_cell p3
     refine wp_region_later W6 (by kernel_rfl) (by kernel_rfl) (Below.refl _ _) ?_
     repeat (go_big_quiet_step (fail))
     refine wpQuiet_nil ?_
     rintro ⟨W7, hB⟩
     dsimp only
     have hc := (bcell hB).1
     have hf := (bcell hB).2
     have hz := hB.size
     clear kd0 kp2 kp3
     have zz := cy3 hc d0 p2 p3
     clear d0 p2 p3
     obtain ⟨d0, p2, p3⟩ := zz
     have hbn : Below w.heap.size w W7 := bthen hb0 hB
     clear hb0
     have hb0 := hbn
     clear hbn
     have hzW7 : W6.heap.size ≤ W7.heap.size := hz
     clear hc hf hB hz
     go_wp2
     go_ret
     exact ⟨by first | (rw [HZ.out]; done) | (rw [HZ.out]; rfl), by have hbz := hb0.size; go_grown⟩
    ·have e1 : decide (m < y.low) = false := decide_eq_false g1
     have e2 : decide (y.high < m) = false := decide_eq_false g2
     have HN := Lib.hid (insK_step HI.out HY.out HM.out (by omega) (by omega))
     have kd0 := later_cell d0
     have kp2 := later_cell p2
     have kp3 := later_cell p3
     refine wp_region_later W6 (by kernel_rfl) (by kernel_rfl) (Below.refl _ _) ?_
     repeat (go_big_quiet_step (fail))
     refine wpQuiet_nil ?_
     rintro ⟨W7, hB⟩
     dsimp only
     have hc := (bcell hB).1
     have hf := (bcell hB).2
     have hz := hB.size
     clear kd0 kp2 kp3
     have zz := cy3 hc d0 p2 p3
     clear d0 p2 p3
     obtain ⟨d0, p2, p3⟩ := zz
     have hbn : Below w.heap.size w W7 := bthen hb0 hB
     clear hb0
     have hb0 := hbn
     clear hbn
     have hzW7 : W6.heap.size ≤ W7.heap.size := hz
     clear hc hf hB hz
     have HB := Lib.hid hb0
     clear hb0 d0 p2 p3
     go_wp2
     go_roundw
     case rel => exact ⟨k + 1, by omega, by go_num, HN.out, HB.out⟩
     case measure => simp [intOf]; omega
  ·obtain rfl : k = A.length := by omega
   have hi2 : ¬ (A.length : Int) < (A.length : Int) := by omega
   have HZ := Lib.hid (insK_all H.out HI.out)
   go_wp2
   go_ret
   exact ⟨by first | (rw [HZ.out]; done) | (rw [HZ.out]; rfl), hb0⟩
theorem c_inside (n : Int) (A : List Ar) (a : Option Addr) (cap : Nat) (x : List Int) (b : Option Addr) (bc : Nat) (w : World) (hA : Ars w a A) (hx : Nums w b x) (hs : A.length ≤ 100000) :
  Calls Tryz.prog 62 #[.agg #[.int .i64 n, .slice a A.length cap], .slice b x.length bc] w fun e w' => e = .returned (.bool (insideA A x)) ∧ Below w.heap.size w w' := by
 by_cases h : x.length = A.length
 ·exact c_inside_ok n A a cap x b bc w hA hx h hs
 ·exact c_inside_len n A a cap x b bc w h
set_option maxRecDepth 100000 in
set_option maxHeartbeats 2000000 in
theorem c_few (m : Fm) (l : List Rp) (a : Option Addr) (cap : Nat) (w : World) (hm : m.Arg w) (hl : SlArg rpC 10 RpW w l a cap) :
  Calls Tryz.prog 36 #[m.v, .slice a l.length cap] w fun e w' => e = .returned (.bool (shortV m.f && fewV l 40)) ∧ Below w.heap.size w w' := by
 have hS := fun W (hb : Below w.heap.size w W) => c_Short m W (hm.later hb)
 have hF := fun W (hb : Below w.heap.size w W) => c_Few l a cap 40 W (slarg_later hl hb) (by decide)
 have HS := Lib.hid hS
 have HF := Lib.hid hF
 clear hS hF hm hl
 generalize shortV m.f = s at HS
 generalize fewV l 40 = t at HF
 cases s
 ·go_enter Tryz.func36, Tryz.ntmps36
  go_upto_region 1 with (fail)
  go_name_world W1 hW1
  have hbn : Below w.heap.size w W1 := by subst hW1; go_grown
  have hb0 := hbn
  clear hbn
  have q0n : W1.cell? ⟨w.heap.size, 0, none⟩ = some (.int .i64 m.f.ticks) := by subst hW1; go_simp
  have q1n : W1.cell? ⟨w.heap.size, 1, none⟩ = some (.int .i64 m.f.yields) := by subst hW1; go_simp
  have q2n : W1.cell? ⟨w.heap.size, 2, none⟩ = some (.slice m.pa m.f.places.length m.pc) := by subst hW1; go_simp
  have q3n : W1.cell? ⟨w.heap.size, 3, none⟩ = some (.slice m.ga m.f.gates.length m.gc) := by subst hW1; go_simp
  clear hW1 
  have q0 := q0n
  have q1 := q1n
  have q2 := q2n
  have q3 := q3n
  clear q0n q1n q2n q3n 
  go_wp2_with fail
  refine (via (w0 := W1) (by go_grown) (HS.out _ hb0)).mono ?_
  rintro e W2 ⟨rfl, hc, hf, hz, hB⟩
  have zz := cy4 hc q0 q1 q2 q3
  clear q0 q1 q2 q3
  obtain ⟨q0, q1, q2, q3⟩ := zz
  have hbn : Below w.heap.size w W2 := bthen hb0 hB
  clear hb0
  have hb0 := hbn
  clear hbn
  have hzW2 : W1.heap.size ≤ W2.heap.size := hz
  clear hc hf hB hz
  go_wp2
  go_ret
  exact ⟨rfl, hb0⟩
 ·go_enter Tryz.func36, Tryz.ntmps36
  go_upto_region 1 with (fail)
  go_name_world W1 hW1
  have hbn : Below w.heap.size w W1 := by subst hW1; go_grown
  have hb0 := hbn
  clear hbn
  have q0n : W1.cell? ⟨w.heap.size, 0, none⟩ = some (.int .i64 m.f.ticks) := by subst hW1; go_simp
  have q1n : W1.cell? ⟨w.heap.size, 1, none⟩ = some (.int .i64 m.f.yields) := by subst hW1; go_simp
  have q2n : W1.cell? ⟨w.heap.size, 2, none⟩ = some (.slice m.pa m.f.places.length m.pc) := by subst hW1; go_simp
  have q3n : W1.cell? ⟨w.heap.size, 3, none⟩ = some (.slice m.ga m.f.gates.length m.gc) := by subst hW1; go_simp
  clear hW1 
  have q0 := q0n
  have q1 := q1n
  have q2 := q2n
  have q3 := q3n
  clear q0n q1n q2n q3n 
  go_wp2_with fail
  refine (via (w0 := W1) (by go_grown) (HS.out _ hb0)).mono ?_
  rintro e W2 ⟨rfl, hc, hf, hz, hB⟩
  have zz := cy4 hc q0 q1 q2 q3
  clear q0 q1 q2 q3
  obtain ⟨q0, q1, q2, q3⟩ := zz
  have hbn : Below w.heap.size w W2 := bthen hb0 hB
  clear hb0
  have hb0 := hbn
  clear hbn
  have hzW2 : W1.heap.size ≤ W2.heap.size := hz
  clear hc hf hB hz
  go_wp2_with fail
  refine (via (w0 := W2) (by go_grown) (HF.out _ hb0)).mono ?_
  rintro e W3 ⟨rfl, hc, hf, hz, hB⟩
  have zz := cy4 hc q0 q1 q2 q3
  clear q0 q1 q2 q3
  obtain ⟨q0, q1, q2, q3⟩ := zz
  have hbn : Below w.heap.size w W3 := bthen hb0 hB
  clear hb0
  have hb0 := hbn
  clear hbn
  have hzW3 : W2.heap.size ≤ W3.heap.size := hz
  clear hc hf hB hz
  cases t
  ·go_wp2
   go_ret
   exact ⟨rfl, hb0⟩
  ·go_wp2
   go_ret
   exact ⟨rfl, hb0⟩
end Go.Proofs.YtlppdgaogdpajaaGreatDoor
namespace Go.Proofs.YtlppdgaogdpajaaGreatDoor
def Idx {α : Type} (g : α → Int) (b : Int) (l : List α) : Prop := ∀ (j : Nat) y, l[j]? = some y → g y = b + j
theorem Idx.nil {α : Type} (g : α → Int) (b : Int) : Idx g b [] := fun j y h => by simp at h
theorem Idx.cons {α : Type} {g : α → Int} {b : Int} {x : α} {l : List α} (h : g x = b) (hl : Idx g (b + 1) l) : Idx g b (x :: l) := fun j y hj => by
 cases j with
 | zero =>
  simp only [List.getElem?_cons_zero, Option.some.injEq] at hj
  subst hj
  simpa using h
 | succ j =>
  have := hl j y (by simpa using hj)
  omega
theorem Idx.append {α : Type} {g : α → Int} {b : Int} {l r : List α} (hl : Idx g b l) (hr : Idx g (b + l.length) r) : Idx g b (l ++ r) := fun j y hj => by
 rcases Nat.lt_or_ge j l.length with h | h
 ·rw [List.getElem?_append_left h] at hj
  exact hl j y hj
 ·rw [List.getElem?_append_right h] at hj
  have := hr _ y hj
  omega
theorem Idx.at {α : Type} {g : α → Int} {b b' : Int} {l : List α} (h : Idx g b l) (e : b = b') : Idx g b' l := e ▸ h
theorem flat_length {α β : Type} {h : β → List α} {c : Nat} : ∀ (l : List β), (∀ x ∈ l, (h x).length = c) → (l.flatMap h).length = l.length * c
 | [], _ => by simp
 | x :: l, hx => by
  rw [List.flatMap_cons, List.length_append, hx x (by simp), flat_length l fun y hy => hx y (by simp [hy]), List.length_cons, Nat.succ_mul]
  omega
theorem Idx.map {α β : Type} {g : α → Int} {h : β → α} (l : List β) (b : Int) (hx : ∀ (i : Nat) x, l[i]? = some x → g (h x) = b + i) : Idx g b (l.map h) := fun j y hj => by
 rw [List.getElem?_map] at hj
 obtain ⟨x, h1, rfl⟩ := Option.map_eq_some_iff.1 hj
 exact hx j x h1
theorem numbered_at {α : Type} {l : List α} {i : Nat} {x : Int × α} (h : (numbered l)[i]? = some x) : x.1 = (i : Int) ∧ l[i]? = some x.2 := by
 unfold numbered at h
 rw [List.getElem?_map, List.getElem?_zipIdx] at h
 obtain ⟨y, h1, rfl⟩ := Option.map_eq_some_iff.1 h
 obtain ⟨z, h2, rfl⟩ := Option.map_eq_some_iff.1 h1
 exact ⟨by simp, h2⟩
theorem numbered_length {α : Type} (l : List α) : (numbered l).length = l.length := by simp [numbered]
theorem upTo_length (n : Int) : (upTo n).length = n.toNat := by simp [upTo]
theorem stays_length (f : Fe) (t : Int) : (staysOf f t).length = f.places.length := by simp [staysOf, numbered_length]
theorem moves_length (f : Fe) (t : Int) : (movesOf f t).length = f.places.length * 5 := by
 unfold movesOf
 rw [flat_length (c := 5) _ (fun x _ => rfl), numbered_length]
theorem passes_length (f : Fe) (t : Int) : (passesOf f t).length = f.gates.length * 2 := by
 unfold passesOf
 rw [flat_length (c := 2) _ (fun x _ => rfl), numbered_length]
theorem step_length (f : Fe) (t : Int) : (stepOf f t).length = f.places.length * 5 + f.gates.length * 2 := by
 unfold stepOf
 rw [List.length_append, moves_length, passes_length]
theorem ways_length (f : Fe) (h : 0 ≤ f.ticks) : ((waysL f).length : Int) = countN f := by
 unfold waysL
 rw [List.length_append, List.length_append, List.length_append, flat_length (c := f.places.length) _ (fun t _ => stays_length f t), flat_length _ (fun t _ => step_length f t), upTo_length, upTo_length]
 simp only [begins, endsOf, List.length_map, numbered_length]
 have c1 : ((f.ticks + 1).toNat : Int) = f.ticks + 1 := by omega
 have c2 : (f.ticks.toNat : Int) = f.ticks := by omega
 push_cast
 rw [c1, c2]
 unfold countN firstN stepN
 rw [show (f.places.length : Int) * 5 + (f.gates.length : Int) * 2 = 5 * f.places.length + 2 * f.gates.length by omega]
 omega
end Go.Proofs.YtlppdgaogdpajaaGreatDoor
namespace Go.Proofs.YtlppdgaogdpajaaGreatDoor
theorem nature_arcs (f : Fe) : (natureV f).arcs = (waysL f).map (·.arc) := by
 unfold natureV arcsL
 rw [List.map_map]
 rfl
end Go.Proofs.YtlppdgaogdpajaaGreatDoor
