/- This text is a part of the proof: Model, Region, Post, Open, QFPresent, NumberArc, History, At, Sums. -/
import Derived.Test.YtlppdgaogdpajaaGreatDoorK1
import Derived.Test.YtlppdgaogdpajaaGreatDoorK2
import Derived.Test.YtlppdgaogdpajaaGreatDoorK3
import Derived.Test.YtlppdgaogdpajaaGreatDoorK4
import Derived.Test.YtlppdgaogdpajaaGreatDoorK5
import Derived.Test.YtlppdgaogdpajaaGreatDoorK6
import Derived.Test.YtlppdgaogdpajaaGreatDoorK7
import Derived.Test.YtlppdgaogdpajaaGreatDoorK8
import Derived.Test.YtlppdgaogdpajaaGreatDoorK9
import Derived.Test.YtlppdgaogdpajaaGreatDoorK10
import Derived.Test.YtlppdgaogdpajaaGreatDoorK11
import Derived.Test.YtlppdgaogdpajaaGreatDoorK12
import Derived.Test.YtlppdgaogdpajaaGreatDoorK33
import Derived.Below
import Derived.BigQuiet
import Derived.ChangeSame
import Derived.Deep.AppendLies
import Derived.Deep.Cut
import Derived.Deep.CutBlock
import Derived.Deep.DeepCutAuto
import Derived.Deep.DeepFit
import Derived.Deep.DeepHandedRow
import Derived.Deep.DeepLaidRun
import Derived.Deep.DeepMust
import Derived.Deep.DeepWitnessRowRef
import Derived.Deep.Fields
import Derived.Deep.Quiet
import Derived.Deep.QuietTactic
import Derived.Deep.RegionHeld3
import Derived.Deep.RegionLaw
import Derived.Deep.Slices
import Derived.Defers
import Derived.Handy
import Derived.IntWalk
import Derived.Laws.EntriesVeiled
import Derived.Lib.AtoiAll
import Derived.Lib.ConvBytes
import Derived.Lib.Hide
import Derived.Lib.ItoaMem
import Derived.Lib.ItoaWalk
import Derived.Lib.Join
import Derived.Lib.LaidTab
import Derived.Lib.SmallJoins
import Derived.Lib.Split
import Derived.Lib.SplitLaws
import Derived.LoopIn
import Derived.LoopNIn
import Derived.Maps.OwnOps
import Derived.Maps.OwnSet
import Derived.Maps.Views
import Derived.OpenShut
import Derived.OrdersIn
import Derived.OwnWalkIn
import Derived.ProofKit
import Derived.RangeFuncBound
import Derived.RangeFuncCalls
import Derived.RangeFuncLeaves
import Derived.RangeFuncNested
import Derived.Recover
import Derived.Shelf.Abstract
import Derived.Shelf.RegionOpen
import Derived.Sort.OwnSorted
import Derived.Sort.OwnSortedInts
import Derived.StillTail
import Derived.Stop.LaidErr
import Derived.TacticsInMore
import Derived.Test.YtlppdgaogdpajaaGreatDoorCards
import Derived.Test.YtlppdgaogdpajaaGreatDoorProg
import Derived.Test.YtlppdgaogdpajaaGreatDoorRows
import Derived.Test.YtlppdgaogdpajaaGreatDoorShelf
import Derived.Test.YtlppdgaogdpajaaGreatDoorTie
import Derived.WalkLawsBesides
import Derived.WalkSpells
import Derived.WideKeyArgs
namespace Go.Proofs.YtlppdgaogdpajaaGreatDoor
def historyE (f : Fe) (x : List Int) : Int := if (x.length : Int) ≠ countN f ∨ x.any (fun n => !rg 0 1000 n) then 1 else 0
def atV (f : Fe) (x : List Int) (p t : Int) : Int × Int :=
 if checkE f ≠ 0 then (0, checkE f) else if historyE f x ≠ 0 then (0, 1) else if rg 0 f.ticks t = false then (0, 1) else if rg 0 (f.places.length - 1) p = false then (0, 50)
 else (x[(idxN f 1 p t).toNat]?.getD 0, 0)
def sumP (w x : List Int) : Int := ((w.zip x).map fun (a, b) => a * b).sum
def presentV (f : Fe) (x : List Int) (t : Int) : Int × Int :=
 if checkE f ≠ 0 then (0, checkE f) else if historyE f x ≠ 0 then (0, 1) else if rg 0 f.ticks t = false then (0, 1) else (sumP (onFellL f t) x, 0)
end Go.Proofs.YtlppdgaogdpajaaGreatDoor
namespace Go.Proofs.YtlppdgaogdpajaaGreatDoor
open Go.RowKit
section
variable {P : Program} {ops : Array Oper} {md : Region.Mode} {Q : Exit → Act → World → Prop} {C : World → Prop}
def waitsAll (md : Region.Mode) (ops : Array Oper) (listed : Array Bool) (j : Nat) : Bool :=
 (List.range ops.size).all fun i => i == j || !listed.getD i false || match ops[j]? with
  | some oj => oj.after.any fun e => Region.binds md e && e.on == i
  | none => false
theorem waitsAll_spec {listed : Array Bool} {j i : Nat} {oj : Oper} (hj : ops[j]? = some oj) (h : waitsAll md ops listed j = true) (hi : i < ops.size) (hne : i ≠ j) (hl : listed.getD i false = true) :
  ∃ e ∈ oj.after, Region.binds md e = true ∧ e.on = i := by
 have h1 := List.all_eq_true.1 h i (List.mem_range.2 hi)
 simp only [hj, Bool.or_eq_true, beq_iff_eq, Bool.not_eq_true'] at h1
 rcases h1 with (h1 | h1) | h1
 ·exact absurd h1 hne
 ·rw [hl] at h1; cases h1
 ·obtain ⟨e, he, hb⟩ := Array.any_eq_true'.1 h1
  simp only [Bool.and_eq_true, beq_iff_eq] at hb
  exact ⟨e, he, hb.1, hb.2⟩
def wpAnyL (P : Program) (md : Region.Mode) (ops : Array Oper) (C : World → Prop) (Q : Exit → Act → World → Prop) : Nat → Array Bool → Act → Prop
  | 0, listed, a => Region.ready md ops listed = [] ∧ ∀ W, C W → Q .normal a W
  | fuel + 1, listed, a => (Region.ready md ops listed = [] → ∀ W, C W → Q .normal a W) ∧
    ∀ j ∈ Region.ready md ops listed, ∃ o, ops[j]? = some o ∧
      ((∃ v, YieldsIn P ops C o v a ∧ wpAnyL P md ops C Q fuel (listed.setIfInBounds j true) (a.put o.dst v)) ∨
       (waitsAll md ops listed j = true ∧ ∀ W, C W → wpOp P ops Q j (wpAny P md ops Q fuel (listed.setIfInBounds j true)) a W))
theorem wpAny_of_L : ∀ (fuel : Nat) (listed : Array Bool) (a : Act) (W : World), C W → wpAnyL P md ops C Q fuel listed a → wpAny P md ops Q fuel listed a W
 | 0, _, _, _, hw, h => ⟨h.1, h.2 _ hw⟩
 | fuel + 1, _, a, W, hw, h => ⟨fun h0 => h.1 h0 _ hw, fun j hj => by
   obtain ⟨o, ho, h1 | ⟨_, h1⟩⟩ := h.2 j hj
   ·obtain ⟨v, hy, hk⟩ := h1
    exact wpOp_of_yields ho hw hy fun W' hW' => wpAny_of_L fuel _ _ _ hW' hk
   ·exact h1 _ hw⟩
theorem wpAnyL_first {i : Nat} {oi : Oper} {v : Value} (hi : ops[i]? = some oi) (hsel : ∀ (j : Nat) (o : Oper) cs b, ops[j]? = some o → o.op ≠ .select cs b) :
  ∀ (fuel : Nat) (listed : Array Bool) (a : Act),
   (∀ j oj, ops[j]? = some oj → j ≠ i → listed.getD j true = false → (∀ e ∈ oj.after, Region.binds md e = true → e.on ≠ i) → oi.apart ops oj = true) →
   i ∈ Region.ready md ops listed → YieldsIn P ops C oi v a →
   wpAnyL P md ops C Q fuel (listed.setIfInBounds i true) (a.put oi.dst v) → wpAnyL P md ops C Q (fuel + 1) listed a := by
 intro fuel
 induction fuel with
 | zero =>
  intro listed a _ hr hy H
  refine ⟨fun h => (by rw [h] at hr; cases hr), fun j hj => ?_⟩
  by_cases hji : j = i
  ·subst hji; exact ⟨oi, hi, .inl ⟨v, hy, H⟩⟩
  ·have := ready_mono hj hji
   rw [H.1] at this
   cases this
 | succ fuel ih =>
  intro listed a hfree hr hy H
  refine ⟨fun h => (by rw [h] at hr; cases hr), fun j hj => ?_⟩
  by_cases hji : j = i
  ·subst hji; exact ⟨oi, hi, .inl ⟨v, hy, H⟩⟩
  obtain ⟨oj, hoj, h1⟩ := H.2 j (ready_mono hj hji)
  obtain ⟨hjun, oj', hoj', hall⟩ := mem_ready.1 hj
  obtain rfl : oj' = oj := Option.some.inj (hoj'.symm.trans hoj)
  have hun := listed_lt (mem_ready.1 hr).1
  have hnot : ∀ e ∈ oj'.after, Region.binds md e = true → e.on ≠ i := fun e he hb heq => by
   have h1 := hall e he hb
   rw [heq, hun.1] at h1
   cases h1
  have hap := hfree j oj' hoj hji hjun hnot
  obtain ⟨p1, p2, p3⟩ := Oper.apart_spec hap
  refine ⟨oj', hoj, ?_⟩
  rcases h1 with ⟨u, hu, hk⟩ | ⟨hw, _⟩
  ·refine .inl ⟨u, hu.of_same (execOp_put oj' (fun cs b => hsel j oj' cs b hoj) a oi.dst v p1).symm (wanted_put oj' a oi.dst v p1).symm, ?_⟩
   have hfree' : ∀ k ok, ops[k]? = some ok → k ≠ i → (listed.setIfInBounds j true).getD k true = false →
     (∀ e ∈ ok.after, Region.binds md e = true → e.on ≠ i) → oi.apart ops ok = true := fun k ok hk hki hun' hno => by
    refine hfree k ok hk hki ?_ hno
    by_cases hjk : j = k
    ·subst hjk; exact hjun
    ·rw [getD_set_ne true hjk] at hun'; exact hun'
   refine ih (listed.setIfInBounds j true) (a.put oj'.dst u) hfree' (ready_mono hr (Ne.symm hji))
    (hy.of_same (execOp_put oi (fun cs b => hsel i oi cs b hi) a oj'.dst u p3) (wanted_put oi a oj'.dst u p3)) ?_
   rw [Array.setIfInBounds_comm _ _ hji, ← Act.put_comm a v u p2]
   exact hk
  ·have hii : i < ops.size := (Array.getElem?_eq_some_iff.1 hi).1
   obtain ⟨e, he, hb, heq⟩ := waitsAll_spec hoj hw hii (Ne.symm hji) (by simp [hun.2])
   exact absurd heq (hnot e he hb)
def headB (md : Region.Mode) (ops : Array Oper) (g : Nat) : Nat → Nat → Array Bool → Bool
 | 0, k, listed => waitsAll md ops listed k && tailB md ops g k listed
 | f + 1, k, listed => (Region.ready md ops listed).contains k && Region.free md ops listed k && headB md ops g f (k + 1) (listed.setIfInBounds k true)
theorem wpAnyL_lex (hs : Region.noSelect ops = true) (t : List Oper) (ht : t ≠ []) : ∀ (l : List Oper) (k : Nat) (listed : Array Bool) (a : Act), (∀ j, (l ++ t)[j]? = ops[k + j]?) →
  headB md ops t.length l.length k listed = true → wpQuiet P ops C (fun a' => ∀ W, C W → wpList P ops Q t a' W) l a → wpAnyL P md ops C Q (l ++ t).length listed a
 | [], k, listed, a, hl, hB, h => by
  simp only [List.length_nil, headB, Bool.and_eq_true] at hB
  obtain ⟨o, t', rfl⟩ := List.exists_cons_of_ne_nil ht
  have h0 : ops[k]? = some o := by simpa using (hl 0).symm
  have hB2 := hB.2
  simp only [List.length_cons, tailB, Bool.and_eq_true, decide_eq_true_eq] at hB2
  refine ⟨fun h1 => (by rw [hB2.1] at h1; cases h1), fun j hj => ?_⟩
  rw [hB2.1] at hj
  obtain rfl : j = k := by simpa using hj
  refine ⟨o, h0, .inr ⟨hB.1, fun W hW => ?_⟩⟩
  have hw : wpOp P ops Q j (wpList P ops Q t') a W := by unfold wpOp; simp only [h0]; exact h W hW
  exact wpOp_mono (fun a' w' h' => wpAny_of_tail t' (j + 1) _ a' w' (fun i => by have := hl (i + 1); simpa [Nat.add_assoc, Nat.add_comm 1 i] using this) hB2.2 h') hw
 | o :: l, k, listed, a, hl, hB, h => by
  have h0 : ops[k]? = some o := by simpa using (hl 0).symm
  simp only [List.length_cons, headB, Bool.and_eq_true] at hB
  obtain ⟨⟨hr, hf⟩, hB'⟩ := hB
  have hst : qOp P ops C k (wpQuiet P ops C (fun a' => ∀ W, C W → wpList P ops Q t a' W) l) a := by unfold qOp; simp only [h0]; exact h
  obtain ⟨v, hy, hK⟩ := yieldsIn_of_qOp h0 hst
  exact wpAnyL_first h0 (Region.noSelect_spec hs) (l ++ t).length listed a (Region.free_spec h0 hf) (by simpa using hr) hy
   (wpAnyL_lex hs t ht l (k + 1) _ _ (fun j => by have := hl (j + 1); simpa [Nat.add_assoc, Nat.add_comm 1 j] using this) hB' hK)
theorem wp_region_tail {id : Nat} {a : Act} {w : World} {l : List Oper} (n : Nat) (w0 : World) (hm : P.follows .mixedOrders = true)
  (hB : (Region.noSelect l.toArray && decide (n < l.length) && headB .any l.toArray (l.length - n) n 0 (Array.replicate l.length false)) = true) (hw : Below w0.heap.size w0 w)
  (h : wpQuiet P l.toArray (fun w' => ∃ x : Later w0, w' = x.1) (fun a' => ∀ x : Later w0, wpList P l.toArray Q (l.drop n) a' x.1) (l.take n) a) : (Code.region id l.toArray true).wp P Q a w := by
 simp only [Bool.and_eq_true, decide_eq_true_eq] at hB
 obtain ⟨⟨hs, hn⟩, hB⟩ := hB
 have htl : (l.take n).length = n := by simp; omega
 refine wp_region_any hm (wpAny_of_L (C := fun w' => ∃ x : Later w0, w' = x.1) _ _ _ _ ⟨⟨_, hw.drew⟩, rfl⟩ ?_)
 have e : (fun a' => ∀ x : Later w0, wpList P l.toArray Q (l.drop n) a' x.1) = (fun a' => ∀ w', (∃ x : Later w0, w' = x.1) → wpList P l.toArray Q (l.drop n) a' w') := by
  funext a'; exact propext ⟨fun h w' ⟨x, hx⟩ => hx ▸ h x, fun h x => h _ ⟨x, rfl⟩⟩
 rw [e] at h
 have := wpAnyL_lex (md := .any) (C := fun w' => ∃ x : Later w0, w' = x.1) (Q := Q) hs (l.drop n) (by simp; omega) (l.take n) 0 (Array.replicate l.length false) a (by simp) (by rw [htl, List.length_drop]; exact hB) h
 simpa using this
end
end Go.Proofs.YtlppdgaogdpajaaGreatDoor
namespace Go.Proofs.YtlppdgaogdpajaaGreatDoor
open Go.ChangeShapes Go.WideShapes Go.ChangeAt Go.RowKit
section
variable {H : Type} {enc : TypeId × Value → H} {P : Program}
theorem post_of_below {f : Func} {s : ChangeSpec} {apart fresh handsOn again : Bool} {W W' : World} {args : Array Value} {v : Value} {ds gs : List (DataW H)} {before pa pv : List MemPlace}
  (hW : DataW.Whole enc P f.params.toList s.vars apart W args.toList ds gs before)
  (hres : ∀ (b : Nat) (sp : Nat → Bool) (hd : Bool), DataW.TrodAll enc P W' b sp hd f.resultTypes.toList (v.resultList f.resultTypes.size) (s.fn H (ds ++ gs)).results [])
  (hargs : ∀ sp : Nat → Bool, (∀ p ∈ before, sp p.block = true) → DataW.TrodAll enc P W' 0 sp true f.params.toList args.toList (s.fn H (ds ++ gs)).args pa)
  (hvars : ∀ sp : Nat → Bool, (∀ p ∈ before, sp p.block = true) → DataW.TrodVars enc P W' sp s.vars (s.fn H (ds ++ gs)).vars pv)
  (hps : before = pa ++ pv) (hb : Below W.heap.size W W')
  (hok : ∀ (j : Nat) (t : TypeId) (r : Value), f.resultTypes[j]? = some t → (v.resultList f.resultTypes.size)[j]? = some r → Value.okWide P W' .any 0 t r) :
  s.post enc P f apart fresh handsOn again W args v W' := by
 have hlt : ∀ p ∈ before, p.block < W.heap.size := fun p hp => hW.lt p hp
 have hold : ∀ p ∈ before, (fun b => decide (b < W.heap.size)) p.block = true := fun p hp => by simpa using hlt p hp
 refine ⟨ds, gs, before, [], pa, pv, hW, hres _ _ _, hargs _ hold, hvars _ hold, World.keptBut_mono (fun p hp => ⟨hp, ?_⟩) (hb.frame (· ∈ before)), fun _ => ?_⟩
 ·rw [hps, List.mem_append] at hp
  exact Or.inr hp
 ·obtain ⟨_, _, _, _, _, hz, hn⟩ := hW
  refine ⟨hok, _, _, ([] ++ pa) ++ pv, ⟨[] ++ pa, pv, trodAll_append (hargs _ (fun _ _ => rfl)) (hres _ _ _), hvars _ (fun _ _ => rfl), rfl, ?_, ?_⟩, ?_⟩
  ·intro b off hp
   have hin : MemPlace.cell b off ∈ before := by rw [hps]; simpa using hp
   rw [hb.frozen (hlt _ hin)]
   exact hz b off hin
  ·intro ha
   have := hn ha
   rw [hps] at this
   simpa using this
  ·intro p hp _
   rw [hps]
   simpa using hp
end
end Go.Proofs.YtlppdgaogdpajaaGreatDoor
namespace Go.Proofs.YtlppdgaogdpajaaGreatDoor
open Go.Joins Go.ChangeShapes Go.WideShapes Go.RowKit Go.Deep
theorem staysB {H : Type} {enc : TypeId × Value → H} {W W' : World} {t : TypeId} {v : Value} {d : DataW H} {p q : List MemPlace} (h : DataW.Trod enc Tryz.prog W 0 (fun _ => true) true t v d p) (hr : Tryz.prog.readableRec t = true) (ht : decide (t < Tryz.prog.types.size) = true)
  (hb : Below W.heap.size W W') (hq : ∀ x ∈ q, x.block < W.heap.size) (hpq : ∀ x ∈ p, x ∈ q) (sp : Nat → Bool) (hs : ∀ x ∈ q, sp x.block = true) :
  DataW.Trod enc Tryz.prog W' 0 sp true t v d p :=
 WideElems.Trod_stays laidOut hr (of_decide_eq_true ht) h (fun x hx => by
  have := hq x (hpq x hx)
  cases x with
  | cell b o => exact hb.cell (p := ⟨b, o, none⟩) this
  | map b => exact hb.block b this) (fun x hx => hs x (hpq x hx))
section
variable {H : Type} {enc : TypeId × Value → H} {W : World}
set_option maxRecDepth 100000 in
theorem open_nums {base : Nat} {v : Value} {d : DataW H} {p : List MemPlace} (hv : ∀ j : Nat, j = 0 → Value.okWide Tryz.prog W .any base 75 v) (h : DataW.Trod enc Tryz.prog W 0 (fun _ => true) true 75 v d p) :
  ∃ (a : Option Addr) (l : List Int) (cap : Nat), v = .slice a l.length cap ∧ l.length ≤ maxLen ∧ (l.length ≤ 1000000000000 → Ints W a l) := by
 obtain ⟨a0, len0, cap0, rfl⟩ := okWide_slice Tryz.underlying75 (hv 0 rfl)
 obtain ⟨fuel, hf⟩ := h
 rcases open_ints Tryz.underlying75 Tryz.underlying3 (by kernel_rfl) hf with ⟨hc, hx⟩ | ⟨a, len, cap, zs, hc, _, hl, hcap, hz, hx, hi, _⟩
 ·simp [Value.cells] at hc
  obtain ⟨rfl, rfl, rfl⟩ := hc
  exact ⟨none, [], 0, rfl, by simp, fun _ => ⟨by simp, fun h => (h rfl).elim⟩⟩
 ·simp [Value.cells] at hc
  obtain ⟨rfl, rfl, rfl⟩ := hc
  simp only [if_true] at hz
  have hl2 : (zs.take len0).length = len0 := by simp; omega
  refine ⟨some a, zs.take len0, cap0, by rw [hl2], by omega, fun hb => ⟨hb, fun hne => ?_⟩⟩
  have h0 : 0 < len0 := by rw [← hl2]; exact List.length_pos_iff.2 hne
  have hs := spot_of a W _ (hi 0 (by omega))
  refine ⟨a.block, a.off, by rw [← hs], fun k hk => ?_⟩
  have := add_cell a _ _ _ W _ hs (hi k (by omega))
  rw [this]
  have hk' : k < len0 := by omega
  simp [it, List.getD, hk']
end
end Go.Proofs.YtlppdgaogdpajaaGreatDoor
namespace Go.Proofs.YtlppdgaogdpajaaGreatDoor.fellPresent
open Go.ChangeShapes Go.WideShapes Go.ChangeAt Go.RowKit Go.Joins Go.Deep
theorem k0 : (Rows.fellPresentRow.wf (OpenSpec.ofChange (OpenSpec.ofChange Rows.fellPresentSpec).bare)) = true := by kernel_rfl
theorem k1 : (laidOutB Tryz.pinned.checked.prog) = true := p1
theorem k2 : (mapsRowed Tryz.pinned.checked.prog) = true := p2
theorem k3 : (Tryz.f16.params.all (Tryz.pinned.checked.prog.readableRec ·)) = true := by kernel_rfl
theorem k4 : (namedTie Tryz.pinned.checked.prog Rows.fellPresentRow.named (OpenSpec.ofChange Rows.fellPresentSpec).bare.vars) = true := by kernel_rfl
theorem k5 : ((Rows.fellPresentRow.stops == [])) = true := by kernel_rfl
theorem k6 : ((Tryz.pinned.checked.prog.stops == [])) = true := p6
theorem k7 : ((Rows.fellPresentRow.knobs == [])) = true := by kernel_rfl
theorem k8 : ((Tryz.pinned.checked.prog.stopKnobs == [])) = true := p8
theorem k9 : ((Rows.fellPresentRow.inPlace == Tryz.pinned.checked.prog.inPlace 16)) = true := by kernel_rfl
theorem k10 : ((Rows.fellPresentRow.unfollowed == Tryz.pinned.checked.prog.unfollowed 16)) = true := by kernel_rfl
theorem k11 : ((Rows.fellPresentRow.recurses == Tryz.pinned.checked.prog.recurses 16)) = true := by kernel_rfl
theorem k12 : ((Rows.fellPresentRow.named == Tryz.pinned.checked.prog.varsNamed 16)) = true := by kernel_rfl
theorem k13 : ((Rows.fellPresentRow.maps == (Tryz.f16.params.toList ++ (OpenSpec.ofChange Rows.fellPresentSpec).bare.plain.varTypes Tryz.pinned.checked.prog).any (Tryz.pinned.checked.prog.mapsRec ·))) = true := by kernel_rfl
theorem k14 : ((Rows.fellPresentRow.ifaces == (Tryz.f16.params.toList ++ (OpenSpec.ofChange Rows.fellPresentSpec).bare.plain.varTypes Tryz.pinned.checked.prog).any (Tryz.pinned.checked.prog.ifacesRec ·))) = true := by kernel_rfl
theorem k15 : ((Rows.fellPresentRow.mapsOut == Tryz.pinned.checked.prog.mapsAmong Tryz.f16.resultTypes.toList)) = true := by kernel_rfl
theorem k16 : ((Rows.fellPresentRow.loops == (Tryz.f16.params.toList ++ (OpenSpec.ofChange Rows.fellPresentSpec).bare.plain.varTypes Tryz.pinned.checked.prog).any (Tryz.pinned.checked.prog.loopsFrom ·))) = true := by kernel_rfl
theorem k17 : ((Rows.fellPresentRow.wideKeys == (Tryz.f16.params.toList ++ (OpenSpec.ofChange Rows.fellPresentSpec).bare.plain.varTypes Tryz.pinned.checked.prog ++ Tryz.f16.resultTypes.toList).any (Tryz.pinned.checked.prog.wideKeysFrom ·))) = true := by kernel_rfl
theorem k18 : ((OpenSpec.ofChange Rows.fellPresentSpec).bare.vars.all (Tryz.pinned.checked.prog.varReadable ·)) = true := by kernel_rfl
theorem k19 : (Tryz.f16.resultTypes.all (fun t => Tryz.pinned.checked.prog.readableRec t && decide (t < Tryz.pinned.checked.prog.types.size))) = true := by kernel_rfl
theorem k20 : ((Rows.fellPresentRow.ifacesOut == Tryz.f16.resultTypes.toList.any (Tryz.pinned.checked.prog.ifacesRec ·))) = true := by kernel_rfl
theorem k21 : ((Rows.fellPresentRow.loopsOut == Tryz.f16.resultTypes.toList.any (Tryz.pinned.checked.prog.loopsFrom ·))) = true := by kernel_rfl
theorem k22 : ((Rows.fellPresentRow.plainKeys == Tryz.pinned.checked.prog.plainKeys)) = true := p22
theorem k23 : (Rows.fellPresentRow.shortTexts.isNone) = true := by kernel_rfl
theorem k24 : (Tryz.pinned.checked.prog.stopsHeard) = true := p24
theorem k25 : (Tryz.pinned.checked.prog.mayEnter) = true := p25
theorem k26 : ((Rows.fellPresentRow.lifted == Tryz.pinned.checked.prog.liftsFinal)) = true := p26
theorem k27 : ((Tryz.pinned.checked.prog.make == some Rows.fellPresentRow.make)) = true := p27
theorem k28 : ((Rows.fellPresentRow.kinds == (if Rows.fellPresentRow.domain.isEmpty then [] else Tryz.f16.params.toList.map fun t => match Tryz.pinned.checked.prog.underlying t with | some (.int k) => some k | _ => none))) = true := by kernel_rfl
theorem k29 : ((Rows.fellPresentRow.pinned == Rows.fellPresentRow.pinnedBy)) = true := by kernel_rfl
theorem k30 : ((Rows.fellPresentRow.veiled == (Tryz.f16.params.toList ++ (OpenSpec.ofChange Rows.fellPresentSpec).bare.plain.varTypes Tryz.pinned.checked.prog ++ Tryz.f16.resultTypes.toList).any (Tryz.pinned.checked.prog.veiledRec ·))) = true := by kernel_rfl
theorem k31 : (Rows.fellPresentRow.veiledFits Tryz.pinned.checked.prog Tryz.f16.params.toList (Tryz.f16.params.toList ++ (OpenSpec.ofChange Rows.fellPresentSpec).bare.plain.varTypes Tryz.pinned.checked.prog ++ Tryz.f16.resultTypes.toList)) = true := by kernel_rfl
set_option maxRecDepth 100000 in
theorem facts : joinedFacts Tryz.pinned.checked.prog 16 Tryz.f16 (OpenSpec.ofChange Rows.fellPresentSpec).bare Rows.fellPresentRow = true :=
 tt (tt (tt (tt (tt (tt (tt (tt (tt (tt (tt (tt (tt (tt (tt (tt (tt (tt (tt (tt (tt (tt (tt (tt (tt (tt (tt (tt (tt (tt (tt k0 k1) k2) k3) k4) k5) k6) k7) k8) k9) k10) k11) k12) k13) k14) k15) k16) k17) k18) k19) k20) k21) k22) k23) k24) k25) k26) k27) k28) k29) k30) k31
theorem plain (f : FuncId) (fn : Func) (hf : Tryz.pinned.checked.prog.funcNamed Rows.fellPresentRow.func = some f) (hfn : Tryz.pinned.checked.prog.funcs[f]? = some fn) :
  true = Tryz.pinned.checked.prog.looks [] ∧ ∀ (j : Nat) t, fn.params[j]? = some t → Tryz.pinned.checked.prog.wantsStandIn t = false := by
 obtain rfl : f = 16 := Option.some.inj ((show Tryz.prog.funcNamed Rows.fellPresentRow.func = some 16 by kernel_rfl).symm.trans hf) |>.symm
 obtain rfl : fn = Tryz.f16 := (Option.some.inj (Tryz.func16.symm.trans hfn)).symm
 refine ⟨p_looks, fun j t ht => ?_⟩
 have hall : (Tryz.f16.params.toList.all fun t => !(Tryz.prog.wantsStandIn t)) = true := by as_aux_lemma => kernel_rfl
 have h := List.all_eq_true.1 hall t (by simpa using Array.mem_of_getElem? ht)
 have k : Tryz.prog.wantsStandIn t = false := by simpa using h
 exact k
theorem tied (said : Rows.FellPresentSaid) : Rows.FellPresentCardSaid :=
 Claim7.holds_tied_plain_at .later [] _ _ _ _ said (fun _ h => by cases h) (by as_aux_lemma => kernel_rfl) (fun _ h => by cases h) fellPresent_row_tie rfl ⟨rfl, rfl⟩ (by as_aux_lemma => kernel_rfl) rfl plain (by as_aux_lemma => kernel_rfl)
end Go.Proofs.YtlppdgaogdpajaaGreatDoor.fellPresent
namespace Go.Proofs.YtlppdgaogdpajaaGreatDoor
open Go.RowKit Go.Shelf
attribute [local go_sem] Oper.semAt_some
theorem asked_one {f : Fe} {p : Int} (h : checkE f = 0) : askedE f [p] = if rg 0 ((f.places.length : Int) - 1) p = false then 50 else 0 := by
 unfold askedE offB
 rw [if_neg (by omega)]
 rw [List.any_cons, List.any_nil, Bool.or_false]
 cases rg 0 ((f.places.length : Int) - 1) p <;> rfl
theorem c_askedOne (m : Fm) (p : Int) (w : World) (hm : m.In w) :
  Calls Tryz.prog 141 #[m.v, .slice (some ⟨w.heap.size, 0, none⟩) 1 1] (w.alloc (.cells #[.int .i64 p] 3)) fun e w' => e = .returned (.int .i64 (askedE m.f [p])) ∧ Below (w.alloc (.cells #[.int .i64 p] 3)).heap.size (w.alloc (.cells #[.int .i64 p] 3)) w' :=
 c_asked m [p] (some ⟨w.heap.size, 0, none⟩) 1 _ (hm.later (show Below w.heap.size w _ from by go_grown)) (Lst.new numC_len w [p] 3 (by simp))
end Go.Proofs.YtlppdgaogdpajaaGreatDoor
namespace Go.Proofs.YtlppdgaogdpajaaGreatDoor
open Go.RowKit Go.Shelf
attribute [local go_sem] Oper.semAt_some
theorem c_amount (n : Int) (w : World) : Calls Tryz.prog 195 #[.int .i64 n] w fun e w' => e = .returned (.bool (!rg 0 1000 n)) ∧ Below w.heap.size w w' := by
 obtain ⟨B, hB⟩ : ∃ B, rg 0 1000 n = B := ⟨_, rfl⟩
 rw [hB]
 have HC := Lib.hid (fun W => c_in_b hB W)
 clear hB
 cases B
 all_goals
  go_enter Tryz.func195, Tryz.ntmps195
  go_wp2_with fail
  refine (HC.out _).mono ?_
  rintro e w' ⟨rfl, rfl⟩
  go_wp2
  go_ret
  exact ⟨rfl, Below.refl _ _⟩
set_option maxHeartbeats 2000000 in
theorem c_history_len (m : Fm) (l : List Int) (a : Option Addr) (cap : Nat) (w : World) (hs : Small m.f) (h : ¬ (l.length : Int) = countN m.f) :
  Calls Tryz.prog 150 #[m.v, .slice a l.length cap] w fun e w' => e = .returned (.int .i64 1) ∧ Below w.heap.size w w' := by
 have hN := fun W => c_count m W hs
 generalize countN m.f = V at *
 have hne : ((l.length : Int) != V) = true := by exact bne_iff_ne.2 h
 have HN := Lib.hid hN
 clear h hN hs
 go_enter Tryz.func150, Tryz.ntmps150
 go_upto_region 1 with (fail)
 go_name_world W1 hW1
 have hbn : Below w.heap.size w W1 := by subst hW1; go_grown
 have hb0 := hbn
 clear hbn
 have q0n : W1.cell? ⟨w.heap.size, 0, none⟩ = some (.int .i64 m.f.ticks) := by subst hW1; go_simp
 have q1n : W1.cell? ⟨w.heap.size, 1, none⟩ = some (.int .i64 m.f.yields) := by subst hW1; go_simp
 have q2n : W1.cell? ⟨w.heap.size, 2, none⟩ = some (.slice m.pa m.f.places.length m.pc) := by subst hW1; go_simp
 have q3n : W1.cell? ⟨w.heap.size, 3, none⟩ = some (.slice m.ga m.f.gates.length m.gc) := by subst hW1; go_simp
 clear hW1 
 have q0 := q0n
 have q1 := q1n
 have q2 := q2n
 have q3 := q3n
 clear q0n q1n q2n q3n 
 go_wp2_with fail
 refine (via (w0 := W1) (by go_grown) (HN.out _)).mono ?_
 rintro e W2 ⟨rfl, hc, hf, hz, hB⟩
 have zz := cy4 hc q0 q1 q2 q3
 clear q0 q1 q2 q3
 obtain ⟨q0, q1, q2, q3⟩ := zz
 have hbn : Below w.heap.size w W2 := bthen hb0 hB
 clear hb0
 have hb0 := hbn
 clear hbn
 have hzW2 : W1.heap.size ≤ W2.heap.size := hz
 clear hc hf hB hz
 go_wp2_with fail
 go_ret
 exact ⟨rfl, by have hbz := hb0.size; go_grown⟩
set_option maxHeartbeats 2000000 in
theorem c_history_off (m : Fm) (l : List Int) (a : Option Addr) (cap : Nat) (w : World) (hs : Small m.f) (hl : Nums w a l) (h : (l.length : Int) = countN m.f) (h2 : l.any (fun n => !rg 0 1000 n) = true) :
  Calls Tryz.prog 150 #[m.v, .slice a l.length cap] w fun e w' => e = .returned (.int .i64 1) ∧ Below w.heap.size w w' := by
 have hN := fun W => c_count m W hs
 generalize countN m.f = V at *
 have hne : ((l.length : Int) != V) = false := by rw [h]; simp
 have HN := Lib.hid hN
 have eg : Ent 195 := enters_of Tryz.func195 (by kernel_rfl) rfl
 have hA := fun W (hb : Below w.heap.size w W) => c_anyNum 195 eg #[] (fun n => !rg 0 1000 n) l a cap W (fun V y _ hv => c_amount y V) (hl.later hb)
 rw [h2] at hA
 have HA := Lib.hid hA
 clear hA h2 hl
 clear h hN hs
 go_enter Tryz.func150, Tryz.ntmps150
 go_upto_region 1 with (fail)
 go_name_world W1 hW1
 have hbn : Below w.heap.size w W1 := by subst hW1; go_grown
 have hb0 := hbn
 clear hbn
 have q0n : W1.cell? ⟨w.heap.size, 0, none⟩ = some (.int .i64 m.f.ticks) := by subst hW1; go_simp
 have q1n : W1.cell? ⟨w.heap.size, 1, none⟩ = some (.int .i64 m.f.yields) := by subst hW1; go_simp
 have q2n : W1.cell? ⟨w.heap.size, 2, none⟩ = some (.slice m.pa m.f.places.length m.pc) := by subst hW1; go_simp
 have q3n : W1.cell? ⟨w.heap.size, 3, none⟩ = some (.slice m.ga m.f.gates.length m.gc) := by subst hW1; go_simp
 clear hW1 
 have q0 := q0n
 have q1 := q1n
 have q2 := q2n
 have q3 := q3n
 clear q0n q1n q2n q3n 
 go_wp2_with fail
 refine (via (w0 := W1) (by go_grown) (HN.out _)).mono ?_
 rintro e W2 ⟨rfl, hc, hf, hz, hB⟩
 have zz := cy4 hc q0 q1 q2 q3
 clear q0 q1 q2 q3
 obtain ⟨q0, q1, q2, q3⟩ := zz
 have hbn : Below w.heap.size w W2 := bthen hb0 hB
 clear hb0
 have hb0 := hbn
 clear hbn
 have hzW2 : W1.heap.size ≤ W2.heap.size := hz
 clear hc hf hB hz
 go_wp2_with fail
 refine (via (w0 := W2) (by go_grown) (HA.out _ hb0)).mono ?_
 rintro e W3 ⟨rfl, hc, hf, hz, hB⟩
 have zz := cy4 hc q0 q1 q2 q3
 clear q0 q1 q2 q3
 obtain ⟨q0, q1, q2, q3⟩ := zz
 have hbn : Below w.heap.size w W3 := bthen hb0 hB
 clear hb0
 have hb0 := hbn
 clear hbn
 have hzW3 : W2.heap.size ≤ W3.heap.size := hz
 clear hc hf hB hz
 go_wp2_with fail
 go_ret
 exact ⟨rfl, by have hbz := hb0.size; go_grown⟩
set_option maxHeartbeats 2000000 in
theorem c_history_ok (m : Fm) (l : List Int) (a : Option Addr) (cap : Nat) (w : World) (hs : Small m.f) (hl : Nums w a l) (h : (l.length : Int) = countN m.f) (h2 : l.any (fun n => !rg 0 1000 n) = false) :
  Calls Tryz.prog 150 #[m.v, .slice a l.length cap] w fun e w' => e = .returned (.int .i64 0) ∧ Below w.heap.size w w' := by
 have hN := fun W => c_count m W hs
 generalize countN m.f = V at *
 have hne : ((l.length : Int) != V) = false := by rw [h]; simp
 have HN := Lib.hid hN
 have eg : Ent 195 := enters_of Tryz.func195 (by kernel_rfl) rfl
 have hA := fun W (hb : Below w.heap.size w W) => c_anyNum 195 eg #[] (fun n => !rg 0 1000 n) l a cap W (fun V y _ hv => c_amount y V) (hl.later hb)
 rw [h2] at hA
 have HA := Lib.hid hA
 clear hA h2 hl
 clear h hN hs
 go_enter Tryz.func150, Tryz.ntmps150
 go_upto_region 1 with (fail)
 go_name_world W1 hW1
 have hbn : Below w.heap.size w W1 := by subst hW1; go_grown
 have hb0 := hbn
 clear hbn
 have q0n : W1.cell? ⟨w.heap.size, 0, none⟩ = some (.int .i64 m.f.ticks) := by subst hW1; go_simp
 have q1n : W1.cell? ⟨w.heap.size, 1, none⟩ = some (.int .i64 m.f.yields) := by subst hW1; go_simp
 have q2n : W1.cell? ⟨w.heap.size, 2, none⟩ = some (.slice m.pa m.f.places.length m.pc) := by subst hW1; go_simp
 have q3n : W1.cell? ⟨w.heap.size, 3, none⟩ = some (.slice m.ga m.f.gates.length m.gc) := by subst hW1; go_simp
 clear hW1 
 have q0 := q0n
 have q1 := q1n
 have q2 := q2n
 have q3 := q3n
 clear q0n q1n q2n q3n 
 go_wp2_with fail
 refine (via (w0 := W1) (by go_grown) (HN.out _)).mono ?_
 rintro e W2 ⟨rfl, hc, hf, hz, hB⟩
 have zz := cy4 hc q0 q1 q2 q3
 clear q0 q1 q2 q3
 obtain ⟨q0, q1, q2, q3⟩ := zz
 have hbn : Below w.heap.size w W2 := bthen hb0 hB
 clear hb0
 have hb0 := hbn
 clear hbn
 have hzW2 : W1.heap.size ≤ W2.heap.size := hz
 clear hc hf hB hz
 go_wp2_with fail
 refine (via (w0 := W2) (by go_grown) (HA.out _ hb0)).mono ?_
 rintro e W3 ⟨rfl, hc, hf, hz, hB⟩
 have zz := cy4 hc q0 q1 q2 q3
 clear q0 q1 q2 q3
 obtain ⟨q0, q1, q2, q3⟩ := zz
 have hbn : Below w.heap.size w W3 := bthen hb0 hB
 clear hb0
 have hb0 := hbn
 clear hbn
 have hzW3 : W2.heap.size ≤ W3.heap.size := hz
 clear hc hf hB hz
 go_wp2_with fail
 go_ret
 exact ⟨rfl, by have hbz := hb0.size; go_grown⟩
theorem c_history (m : Fm) (l : List Int) (a : Option Addr) (cap : Nat) (w : World) (hs : Small m.f) (hl : Nums w a l) :
  Calls Tryz.prog 150 #[m.v, .slice a l.length cap] w fun e w' => e = .returned (.int .i64 (historyE m.f l)) ∧ Below w.heap.size w w' := by
 unfold historyE
 by_cases h : (l.length : Int) = countN m.f
 ·by_cases h2 : l.any (fun n => !rg 0 1000 n) = true
  ·rw [if_pos (.inr h2)]; exact c_history_off m l a cap w hs hl h h2
  ·rw [if_neg (by rintro (h3 | h3); exact h3 h; exact h2 h3)]; exact c_history_ok m l a cap w hs hl h (by simpa using h2)
 ·rw [if_pos (.inl h)]; exact c_history_len m l a cap w hs h
end Go.Proofs.YtlppdgaogdpajaaGreatDoor
namespace Go.Proofs.YtlppdgaogdpajaaGreatDoor
open Go.RowKit Go.Shelf
attribute [local go_sem] Oper.semAt_some
set_option maxHeartbeats 2000000 in
theorem c_At_no (m : Fm) (l : List Int) (a : Option Addr) (cap : Nat) (p t : Int) (w : World) (hm : m.In w) (h : checkE m.f ≠ 0) :
  Calls Tryz.prog 81 #[m.v, .slice a l.length cap, .int .i64 p, .int .i64 t] w fun e w' => e = .returned (pairV (0, checkE m.f)) ∧ Below w.heap.size w w' := by
 have hC := fun W (hb : Below w.heap.size w W) => c_CheckFell m W (hm.later hb)
 generalize checkE m.f = E at *
 have he : (E != 0) = true := bne_iff_ne.2 h
 have HC := Lib.hid hC
 clear hC h hm
 go_enter Tryz.func81, Tryz.ntmps81
 go_upto_region 1 with (fail)
 go_name_world W1 hW1
 have hbn : Below w.heap.size w W1 := by subst hW1; go_grown
 have hb0 := hbn
 clear hbn
 have q0n : W1.cell? ⟨w.heap.size, 0, none⟩ = some (.int .i64 m.f.ticks) := by subst hW1; go_simp
 have q1n : W1.cell? ⟨w.heap.size, 1, none⟩ = some (.int .i64 m.f.yields) := by subst hW1; go_simp
 have q2n : W1.cell? ⟨w.heap.size, 2, none⟩ = some (.slice m.pa m.f.places.length m.pc) := by subst hW1; go_simp
 have q3n : W1.cell? ⟨w.heap.size, 3, none⟩ = some (.slice m.ga m.f.gates.length m.gc) := by subst hW1; go_simp
 clear hW1 
 have q0 := q0n
 have q1 := q1n
 have q2 := q2n
 have q3 := q3n
 clear q0n q1n q2n q3n 
 go_wp2_with fail
 refine (via (w0 := W1) (by go_grown) (HC.out _ hb0)).mono ?_
 rintro e W2 ⟨rfl, hc, hf, hz, hB⟩
 have zz := cy4 hc q0 q1 q2 q3
 clear q0 q1 q2 q3
 obtain ⟨q0, q1, q2, q3⟩ := zz
 have hbn : Below w.heap.size w W2 := bthen hb0 hB
 clear hb0
 have hb0 := hbn
 clear hbn
 have hzW2 : W1.heap.size ≤ W2.heap.size := hz
 clear hc hf hB hz
 go_wp2_with fail
 go_ret2
 exact ⟨rfl, by have hbz := hb0.size; go_grown⟩
set_option maxHeartbeats 2000000 in
theorem c_At_hist (m : Fm) (l : List Int) (a : Option Addr) (cap : Nat) (p t : Int) (w : World) (hm : m.In w) (hl : Nums w a l) (h : checkE m.f = 0) (h1 : historyE m.f l ≠ 0) :
  Calls Tryz.prog 81 #[m.v, .slice a l.length cap, .int .i64 p, .int .i64 t] w fun e w' => e = .returned (pairV (0, historyE m.f l)) ∧ Below w.heap.size w w' := by
 have hC := fun W (hb : Below w.heap.size w W) => c_CheckFell m W (hm.later hb)
 rw [h] at hC
 have hs := (right_of h).small
 have hH := fun W (hb : Below w.heap.size w W) => c_history m l a cap W hs (hl.later hb)
 generalize historyE m.f l = E at *
 have he : (E != 0) = true := bne_iff_ne.2 h1
 have HC := Lib.hid hC
 have HH := Lib.hid hH
 clear hC h hm hH h1 hl hs
 go_enter Tryz.func81, Tryz.ntmps81
 go_upto_region 1 with (fail)
 go_name_world W1 hW1
 have hbn : Below w.heap.size w W1 := by subst hW1; go_grown
 have hb0 := hbn
 clear hbn
 have q0n : W1.cell? ⟨w.heap.size, 0, none⟩ = some (.int .i64 m.f.ticks) := by subst hW1; go_simp
 have q1n : W1.cell? ⟨w.heap.size, 1, none⟩ = some (.int .i64 m.f.yields) := by subst hW1; go_simp
 have q2n : W1.cell? ⟨w.heap.size, 2, none⟩ = some (.slice m.pa m.f.places.length m.pc) := by subst hW1; go_simp
 have q3n : W1.cell? ⟨w.heap.size, 3, none⟩ = some (.slice m.ga m.f.gates.length m.gc) := by subst hW1; go_simp
 clear hW1 
 have q0 := q0n
 have q1 := q1n
 have q2 := q2n
 have q3 := q3n
 clear q0n q1n q2n q3n 
 go_wp2_with fail
 refine (via (w0 := W1) (by go_grown) (HC.out _ hb0)).mono ?_
 rintro e W2 ⟨rfl, hc, hf, hz, hB⟩
 have zz := cy4 hc q0 q1 q2 q3
 clear q0 q1 q2 q3
 obtain ⟨q0, q1, q2, q3⟩ := zz
 have hbn : Below w.heap.size w W2 := bthen hb0 hB
 clear hb0
 have hb0 := hbn
 clear hbn
 have hzW2 : W1.heap.size ≤ W2.heap.size := hz
 clear hc hf hB hz
 go_wp2_with fail
 refine (via (w0 := W2) (by go_grown) (HH.out _ hb0)).mono ?_
 rintro e W3 ⟨rfl, hc, hf, hz, hB⟩
 have zz := cy4 hc q0 q1 q2 q3
 clear q0 q1 q2 q3
 obtain ⟨q0, q1, q2, q3⟩ := zz
 have hbn : Below w.heap.size w W3 := bthen hb0 hB
 clear hb0
 have hb0 := hbn
 clear hbn
 have hzW3 : W2.heap.size ≤ W3.heap.size := hz
 clear hc hf hB hz
 go_wp2_with fail
 go_ret2
 exact ⟨rfl, by have hbz := hb0.size; go_grown⟩
set_option maxHeartbeats 2000000 in
theorem c_At_tick (m : Fm) (l : List Int) (a : Option Addr) (cap : Nat) (p t : Int) (w : World) (hm : m.In w) (hl : Nums w a l) (h : checkE m.f = 0) (h1 : historyE m.f l = 0) (h2 : rg 0 m.f.ticks t = false) :
  Calls Tryz.prog 81 #[m.v, .slice a l.length cap, .int .i64 p, .int .i64 t] w fun e w' => e = .returned (pairV (0, 1)) ∧ Below w.heap.size w w' := by
 have hC := fun W (hb : Below w.heap.size w W) => c_CheckFell m W (hm.later hb)
 rw [h] at hC
 have hs := (right_of h).small
 have hH := fun W (hb : Below w.heap.size w W) => c_history m l a cap W hs (hl.later hb)
 rw [h1] at hH
 have HT := Lib.hid (fun W => c_tick_f m t W h2)
 have HC := Lib.hid hC
 have HH := Lib.hid hH
 clear hC h hm hH h1 hl hs h2
 go_enter Tryz.func81, Tryz.ntmps81
 go_upto_region 1 with (fail)
 go_name_world W1 hW1
 have hbn : Below w.heap.size w W1 := by subst hW1; go_grown
 have hb0 := hbn
 clear hbn
 have q0n : W1.cell? ⟨w.heap.size, 0, none⟩ = some (.int .i64 m.f.ticks) := by subst hW1; go_simp
 have q1n : W1.cell? ⟨w.heap.size, 1, none⟩ = some (.int .i64 m.f.yields) := by subst hW1; go_simp
 have q2n : W1.cell? ⟨w.heap.size, 2, none⟩ = some (.slice m.pa m.f.places.length m.pc) := by subst hW1; go_simp
 have q3n : W1.cell? ⟨w.heap.size, 3, none⟩ = some (.slice m.ga m.f.gates.length m.gc) := by subst hW1; go_simp
 clear hW1 
 have q0 := q0n
 have q1 := q1n
 have q2 := q2n
 have q3 := q3n
 clear q0n q1n q2n q3n 
 go_wp2_with fail
 refine (via (w0 := W1) (by go_grown) (HC.out _ hb0)).mono ?_
 rintro e W2 ⟨rfl, hc, hf, hz, hB⟩
 have zz := cy4 hc q0 q1 q2 q3
 clear q0 q1 q2 q3
 obtain ⟨q0, q1, q2, q3⟩ := zz
 have hbn : Below w.heap.size w W2 := bthen hb0 hB
 clear hb0
 have hb0 := hbn
 clear hbn
 have hzW2 : W1.heap.size ≤ W2.heap.size := hz
 clear hc hf hB hz
 go_wp2_with fail
 refine (via (w0 := W2) (by go_grown) (HH.out _ hb0)).mono ?_
 rintro e W3 ⟨rfl, hc, hf, hz, hB⟩
 have zz := cy4 hc q0 q1 q2 q3
 clear q0 q1 q2 q3
 obtain ⟨q0, q1, q2, q3⟩ := zz
 have hbn : Below w.heap.size w W3 := bthen hb0 hB
 clear hb0
 have hb0 := hbn
 clear hbn
 have hzW3 : W2.heap.size ≤ W3.heap.size := hz
 clear hc hf hB hz
 go_wp2_with fail
 refine (via (w0 := W3) (by go_grown) (HT.out _)).mono ?_
 rintro e W4 ⟨rfl, hc, hf, hz, hB⟩
 have zz := cy4 hc q0 q1 q2 q3
 clear q0 q1 q2 q3
 obtain ⟨q0, q1, q2, q3⟩ := zz
 have hbn : Below w.heap.size w W4 := bthen hb0 hB
 clear hb0
 have hb0 := hbn
 clear hbn
 have hzW4 : W3.heap.size ≤ W4.heap.size := hz
 clear hc hf hB hz
 go_wp2_with fail
 go_ret2
 exact ⟨rfl, by have hbz := hb0.size; go_grown⟩
set_option maxHeartbeats 2000000 in
theorem c_At_off (m : Fm) (l : List Int) (a : Option Addr) (cap : Nat) (p t : Int) (w : World) (hm : m.In w) (hl : Nums w a l) (h : checkE m.f = 0) (h1 : historyE m.f l = 0) (h2 : rg 0 m.f.ticks t = true) (h3 : rg 0 ((m.f.places.length : Int) - 1) p = false) :
  Calls Tryz.prog 81 #[m.v, .slice a l.length cap, .int .i64 p, .int .i64 t] w fun e w' => e = .returned (pairV (0, 50)) ∧ Below w.heap.size w w' := by
 have hC := fun W (hb : Below w.heap.size w W) => c_CheckFell m W (hm.later hb)
 rw [h] at hC
 have hs := (right_of h).small
 have hH := fun W (hb : Below w.heap.size w W) => c_history m l a cap W hs (hl.later hb)
 rw [h1] at hH
 have HT := Lib.hid (fun W => c_tick_t m t W h2)
 have hA := fun W (hb : Below w.heap.size w W) => c_askedOne m p W (hm.later hb)
 rw [asked_one h, h3] at hA
 have hA2 : ∀ W (hb : Below w.heap.size w W), Calls Tryz.prog 141 #[m.v, .slice (some ⟨W.heap.size, 0, none⟩) 1 1] (W.alloc (.cells #[.int .i64 p] 3)) fun e w' => e = .returned (.int .i64 50) ∧ Below (W.alloc (.cells #[.int .i64 p] 3)).heap.size (W.alloc (.cells #[.int .i64 p] 3)) w' := hA
 have HA := Lib.hid hA2
 clear hA hA2
 have HC := Lib.hid hC
 have HH := Lib.hid hH
 clear hC h hm hH h1 hl hs h2 h3
 go_enter Tryz.func81, Tryz.ntmps81
 go_upto_region 1 with (fail)
 go_name_world W1 hW1
 have hbn : Below w.heap.size w W1 := by subst hW1; go_grown
 have hb0 := hbn
 clear hbn
 have q0n : W1.cell? ⟨w.heap.size, 0, none⟩ = some (.int .i64 m.f.ticks) := by subst hW1; go_simp
 have q1n : W1.cell? ⟨w.heap.size, 1, none⟩ = some (.int .i64 m.f.yields) := by subst hW1; go_simp
 have q2n : W1.cell? ⟨w.heap.size, 2, none⟩ = some (.slice m.pa m.f.places.length m.pc) := by subst hW1; go_simp
 have q3n : W1.cell? ⟨w.heap.size, 3, none⟩ = some (.slice m.ga m.f.gates.length m.gc) := by subst hW1; go_simp
 clear hW1 
 have q0 := q0n
 have q1 := q1n
 have q2 := q2n
 have q3 := q3n
 clear q0n q1n q2n q3n 
 go_wp2_with fail
 refine (via (w0 := W1) (by go_grown) (HC.out _ hb0)).mono ?_
 rintro e W2 ⟨rfl, hc, hf, hz, hB⟩
 have zz := cy4 hc q0 q1 q2 q3
 clear q0 q1 q2 q3
 obtain ⟨q0, q1, q2, q3⟩ := zz
 have hbn : Below w.heap.size w W2 := bthen hb0 hB
 clear hb0
 have hb0 := hbn
 clear hbn
 have hzW2 : W1.heap.size ≤ W2.heap.size := hz
 clear hc hf hB hz
 go_wp2_with fail
 refine (via (w0 := W2) (by go_grown) (HH.out _ hb0)).mono ?_
 rintro e W3 ⟨rfl, hc, hf, hz, hB⟩
 have zz := cy4 hc q0 q1 q2 q3
 clear q0 q1 q2 q3
 obtain ⟨q0, q1, q2, q3⟩ := zz
 have hbn : Below w.heap.size w W3 := bthen hb0 hB
 clear hb0
 have hb0 := hbn
 clear hbn
 have hzW3 : W2.heap.size ≤ W3.heap.size := hz
 clear hc hf hB hz
 go_wp2_with fail
 refine (via (w0 := W3) (by go_grown) (HT.out _)).mono ?_
 rintro e W4 ⟨rfl, hc, hf, hz, hB⟩
 have zz := cy4 hc q0 q1 q2 q3
 clear q0 q1 q2 q3
 obtain ⟨q0, q1, q2, q3⟩ := zz
 have hbn : Below w.heap.size w W4 := bthen hb0 hB
 clear hb0
 have hb0 := hbn
 clear hbn
 have hzW4 : W3.heap.size ≤ W4.heap.size := hz
 clear hc hf hB hz
 go_wp2_with fail
 refine (via (w0 := W4) (by go_grown) (HA.out _ hb0)).mono ?_
 rintro e W5 ⟨rfl, hc, hf, hz, hB⟩
 have zz := cy4 hc q0 q1 q2 q3
 clear q0 q1 q2 q3
 obtain ⟨q0, q1, q2, q3⟩ := zz
 have hbn : Below w.heap.size w W5 := bthen hb0 hB
 clear hb0
 have hb0 := hbn
 clear hbn
 have hzW5 : W4.heap.size ≤ W5.heap.size := hz
 clear hc hf hB hz
 go_wp2_with fail
 go_ret2
 exact ⟨rfl, by have hbz := hb0.size; go_grown⟩
set_option maxHeartbeats 2000000 in
theorem c_At_ok (m : Fm) (l : List Int) (a : Option Addr) (cap : Nat) (p t : Int) (w : World) (hm : m.In w) (hl : Nums w a l) (h : checkE m.f = 0) (h1 : historyE m.f l = 0) (h2 : rg 0 m.f.ticks t = true) (h3 : rg 0 ((m.f.places.length : Int) - 1) p = true) :
  Calls Tryz.prog 81 #[m.v, .slice a l.length cap, .int .i64 p, .int .i64 t] w fun e w' => e = .returned (pairV (l[(idxN m.f 1 p t).toNat]?.getD 0, 0)) ∧ Below w.heap.size w w' := by
 have hC := fun W (hb : Below w.heap.size w W) => c_CheckFell m W (hm.later hb)
 rw [h] at hC
 have hs := (right_of h).small
 have hH := fun W (hb : Below w.heap.size w W) => c_history m l a cap W hs (hl.later hb)
 rw [h1] at hH
 have HT := Lib.hid (fun W => c_tick_t m t W h2)
 have hA := fun W (hb : Below w.heap.size w W) => c_askedOne m p W (hm.later hb)
 rw [asked_one h, h3] at hA
 have hA2 : ∀ W (hb : Below w.heap.size w W), Calls Tryz.prog 141 #[m.v, .slice (some ⟨W.heap.size, 0, none⟩) 1 1] (W.alloc (.cells #[.int .i64 p] 3)) fun e w' => e = .returned (.int .i64 0) ∧ Below (W.alloc (.cells #[.int .i64 p] 3)).heap.size (W.alloc (.cells #[.int .i64 p] 3)) w' := hA
 have HA := Lib.hid hA2
 clear hA hA2
 have hp := rg_iff.1 h3
 have ht := rg_iff.1 h2
 have hN := fun W => c_number m ⟨0, 0, 0, 0, ⟨#[]⟩, p, t, 0, 0, 0⟩ W hs.p8 hp.1 (show p ≤ 100 by have := hs.p8; omega) ht.1 (show t ≤ 100 by have := hs.t24; omega)
 have hlen : (l.length : Int) = countN m.f := by
  by_cases hc : (l.length : Int) = countN m.f
  ·exact hc
  ·unfold historyE at h1; rw [if_pos (.inl hc)] at h1; cases h1
 obtain ⟨i0, i1⟩ := idx_small hs hp ht
 obtain ⟨k, hk⟩ : ∃ k : Nat, idxN m.f 1 p t = (k : Int) := ⟨(idxN m.f 1 p t).toNat, by omega⟩
 have hkv : t * (m.f.places.length : Int) + p = (k : Int) := by rw [← hk]; unfold idxN; simp
 have hN2 : ∀ W, Calls Tryz.prog 145 #[m.v, (⟨0, 0, 0, 0, ⟨#[]⟩, p, t, 0, 0, 0⟩ : Rp).v] W fun e w' => e = .returned (.int .i64 k) ∧ Below W.heap.size W w' := fun W => by rw [← hkv]; exact hN W
 have hkl : k < l.length := by omega
 obtain ⟨x, hx⟩ := some_at hkl
 rw [hk, Int.toNat_natCast, hx, Option.getD_some]
 obtain ⟨b, o, rfl, hat⟩ := hl.at hx
 rw [Nat.mul_one] at hat
 have y0 := num_cell hat
 have zb := cell_lt y0
 have hidx : ¬ ((k : Int) < 0) := by omega
 have hidx2 : (k : Int) < (l.length : Int) := by omega
 have HN := Lib.hid hN2
 clear hN hN2 hp ht hlen i0 i1 hk hkv hx hat
 have HC := Lib.hid hC
 have HH := Lib.hid hH
 clear hC h hm hH h1 hl hs h2 h3
 go_enter Tryz.func81, Tryz.ntmps81
 go_upto_region 1 with (fail)
 go_name_world W1 hW1
 have hbn : Below w.heap.size w W1 := by subst hW1; go_grown
 have hb0 := hbn
 clear hbn
 have q0n : W1.cell? ⟨w.heap.size, 0, none⟩ = some (.int .i64 m.f.ticks) := by subst hW1; go_simp
 have q1n : W1.cell? ⟨w.heap.size, 1, none⟩ = some (.int .i64 m.f.yields) := by subst hW1; go_simp
 have q2n : W1.cell? ⟨w.heap.size, 2, none⟩ = some (.slice m.pa m.f.places.length m.pc) := by subst hW1; go_simp
 have q3n : W1.cell? ⟨w.heap.size, 3, none⟩ = some (.slice m.ga m.f.gates.length m.gc) := by subst hW1; go_simp
 have y1n : W1.cell? ⟨b, o + k, none⟩ = some (.int .i64 x) := by subst hW1; go_simp
 clear hW1 
 have q0 := q0n
 have q1 := q1n
 have q2 := q2n
 have q3 := q3n
 have y1 := y1n
 clear q0n q1n q2n q3n y1n 
 go_wp2_with fail
 refine (via (w0 := W1) (by go_grown) (HC.out _ hb0)).mono ?_
 rintro e W2 ⟨rfl, hc, hf, hz, hB⟩
 have zz := cy5 hc q0 q1 q2 q3 y1
 clear q0 q1 q2 q3 y1
 obtain ⟨q0, q1, q2, q3, y1⟩ := zz
 have hbn : Below w.heap.size w W2 := bthen hb0 hB
 clear hb0
 have hb0 := hbn
 clear hbn
 have hzW2 : W1.heap.size ≤ W2.heap.size := hz
 clear hc hf hB hz
 go_wp2_with fail
 refine (via (w0 := W2) (by go_grown) (HH.out _ hb0)).mono ?_
 rintro e W3 ⟨rfl, hc, hf, hz, hB⟩
 have zz := cy5 hc q0 q1 q2 q3 y1
 clear q0 q1 q2 q3 y1
 obtain ⟨q0, q1, q2, q3, y1⟩ := zz
 have hbn : Below w.heap.size w W3 := bthen hb0 hB
 clear hb0
 have hb0 := hbn
 clear hbn
 have hzW3 : W2.heap.size ≤ W3.heap.size := hz
 clear hc hf hB hz
 go_wp2_with fail
 refine (via (w0 := W3) (by go_grown) (HT.out _)).mono ?_
 rintro e W4 ⟨rfl, hc, hf, hz, hB⟩
 have zz := cy5 hc q0 q1 q2 q3 y1
 clear q0 q1 q2 q3 y1
 obtain ⟨q0, q1, q2, q3, y1⟩ := zz
 have hbn : Below w.heap.size w W4 := bthen hb0 hB
 clear hb0
 have hb0 := hbn
 clear hbn
 have hzW4 : W3.heap.size ≤ W4.heap.size := hz
 clear hc hf hB hz
 go_wp2_with fail
 refine (via (w0 := W4) (by go_grown) (HA.out _ hb0)).mono ?_
 rintro e W5 ⟨rfl, hc, hf, hz, hB⟩
 have zz := cy5 hc q0 q1 q2 q3 y1
 clear q0 q1 q2 q3 y1
 obtain ⟨q0, q1, q2, q3, y1⟩ := zz
 have hbn : Below w.heap.size w W5 := bthen hb0 hB
 clear hb0
 have hb0 := hbn
 clear hbn
 have hzW5 : W4.heap.size ≤ W5.heap.size := hz
 clear hc hf hB hz
 go_wp2_with fail
 refine (via (w0 := W5) (by go_grown) (HN.out _)).mono ?_
 rintro e W6 ⟨rfl, hc, hf, hz, hB⟩
 have zz := cy5 hc q0 q1 q2 q3 y1
 clear q0 q1 q2 q3 y1
 obtain ⟨q0, q1, q2, q3, y1⟩ := zz
 have hbn : Below w.heap.size w W6 := bthen hb0 hB
 clear hb0
 have hb0 := hbn
 clear hbn
 have hzW6 : W5.heap.size ≤ W6.heap.size := hz
 clear hc hf hB hz
 go_wp2_with fail
 go_ret2
 exact ⟨rfl, by have hbz := hb0.size; go_grown⟩
theorem c_At (m : Fm) (l : List Int) (a : Option Addr) (cap : Nat) (p t : Int) (w : World) (hm : m.In w) (hl : Nums w a l) :
  Calls Tryz.prog 81 #[m.v, .slice a l.length cap, .int .i64 p, .int .i64 t] w fun e w' => e = .returned (pairV (atV m.f l p t)) ∧ Below w.heap.size w w' := by
 unfold atV
 by_cases h : checkE m.f = 0
 ·rw [if_neg (by omega)]
  by_cases h1 : historyE m.f l = 0
  ·rw [if_neg (by omega)]
   by_cases h2 : rg 0 m.f.ticks t = false
   ·rw [if_pos h2]; exact c_At_tick m l a cap p t w hm hl h h1 h2
   ·rw [if_neg h2]
    by_cases h3 : rg 0 ((m.f.places.length : Int) - 1) p = false
    ·rw [if_pos h3]; exact c_At_off m l a cap p t w hm hl h h1 (by simpa using h2) h3
    ·rw [if_neg h3]; exact c_At_ok m l a cap p t w hm hl h h1 (by simpa using h2) (by simpa using h3)
  ·rw [if_pos h1]
   have e : historyE m.f l = 1 := by unfold historyE at h1 ⊢; split at h1 <;> simp_all
   have := c_At_hist m l a cap p t w hm hl h h1
   rw [e] at this
   exact this
 ·rw [if_pos h]; exact c_At_no m l a cap p t w hm h
end Go.Proofs.YtlppdgaogdpajaaGreatDoor
namespace Go.Proofs.YtlppdgaogdpajaaGreatDoor
def sumK (w x : List Int) (k : Nat) : Int := (((w.zip x).take k).map fun (a, b) => a * b).sum
theorem sumK_zero (w x : List Int) : sumK w x 0 = 0 := rfl
theorem sumK_step {w x : List Int} {k : Nat} {a b : Int} (ha : w[k]? = some a) (hb : x[k]? = some b) : sumK w x (k + 1) = sumK w x k + a * b := by
 have hz : (w.zip x)[k]? = some (a, b) := by
  rw [List.getElem?_zip_eq_some]
  exact ⟨ha, hb⟩
 unfold sumK
 rw [List.take_add_one, hz]
 simp
theorem sumK_all {w x : List Int} (h : w.length = x.length) : sumK w x w.length = sumP w x := by
 unfold sumK sumP
 rw [List.take_of_length_le (by simp [h])]
theorem onFell_mem {f : Fe} {t a : Int} {k : Nat} (h : (onFellL f t)[k]? = some a) : 0 ≤ a ∧ a ≤ 1 := by
 have hm := List.mem_of_getElem? h
 unfold onFellL at hm
 obtain ⟨i, _, rfl⟩ := List.mem_map.1 hm
 split <;> omega
theorem onFell_len {f : Fe} {t : Int} : (onFellL f t).length = (countN f).toNat := by rw [← rowK_all, rowK_len]
theorem hist_all {f : Fe} {x : List Int} (h : historyE f x = 0) : ((x.length : Int) = countN f) ∧ ∀ n ∈ x, 0 ≤ n ∧ n ≤ 1000 := by
 unfold historyE at h
 split at h
 ·cases h
 ·rename_i hc
  refine ⟨Classical.byContradiction fun e => hc (.inl e), fun n hn => ?_⟩
  have h2 : ¬ (x.any fun n => !rg 0 1000 n) = true := fun e => hc (.inr e)
  rw [List.any_eq_true] at h2
  have h3 : rg 0 1000 n = true := by
   cases h4 : rg 0 1000 n
   ·exact (h2 ⟨n, hn, by rw [h4]; rfl⟩).elim
   ·rfl
  exact rg_iff.1 h3
theorem sumK_bd {w x : List Int} (hw : ∀ (k : Nat) (a : Int), w[k]? = some a → 0 ≤ a ∧ a ≤ 1) (hx : ∀ n ∈ x, 0 ≤ n ∧ n ≤ 1000) (hl : w.length = x.length) (k : Nat) (hk : k ≤ w.length) : 0 ≤ sumK w x k ∧ sumK w x k ≤ 1000 * k := by
 induction k with
 | zero => rw [sumK_zero]; omega
 | succ k ih =>
  have h1 := ih (by omega)
  have ha : w[k]? = some w[k] := List.getElem?_eq_getElem (by omega)
  have hb : x[k]? = some x[k] := List.getElem?_eq_getElem (by omega)
  have ba := hw k _ ha
  have bb := hx _ (List.getElem_mem (by omega : k < x.length))
  rw [sumK_step ha hb]
  have h0 : 0 ≤ w[k] * x[k] := Int.mul_nonneg ba.1 bb.1
  have h2 : w[k] * x[k] ≤ 1 * x[k] := Int.mul_le_mul_of_nonneg_right ba.2 bb.1
  omega
end Go.Proofs.YtlppdgaogdpajaaGreatDoor
