/- This text is a part of the proof: Carry, Names, Post, Open, Elems, QFCounting, Sorted, Inside, Owners, RefBasic. -/
import Derived.Test.YtlppdgaogdpajaaGreatDoorK33
import Derived.Test.YtlppdgaogdpajaaGreatDoorTie
set_option maxRecDepth 100000
set_option maxHeartbeats 4000000
namespace Go.Proofs.YtlppdgaogdpajaaGreatDoor
open Go.RowKit
theorem cl3 {w W : World} {b0 o0 b1 o1 b2 o2 : Nat} {v0 v1 v2 : Value} (h : Below w.heap.size w W) (k0 : w.cell? ⟨b0, o0, none⟩ = some v0) (k1 : w.cell? ⟨b1, o1, none⟩ = some v1) (k2 : w.cell? ⟨b2, o2, none⟩ = some v2) : W.cell? ⟨b0, o0, none⟩ = some v0 ∧ W.cell? ⟨b1, o1, none⟩ = some v1 ∧ W.cell? ⟨b2, o2, none⟩ = some v2 :=
 ⟨cl1 h k0, cl1 h k1, cl1 h k2⟩
theorem cy3 {w W : World} {b0 o0 b1 o1 b2 o2 : Nat} {v0 v1 v2 : Value} (h : ∀ b o, b < w.heap.size → W.cell? ⟨b, o, none⟩ = w.cell? ⟨b, o, none⟩) (k0 : w.cell? ⟨b0, o0, none⟩ = some v0) (k1 : w.cell? ⟨b1, o1, none⟩ = some v1) (k2 : w.cell? ⟨b2, o2, none⟩ = some v2) : W.cell? ⟨b0, o0, none⟩ = some v0 ∧ W.cell? ⟨b1, o1, none⟩ = some v1 ∧ W.cell? ⟨b2, o2, none⟩ = some v2 :=
 ⟨(h _ _ (cell_lt k0)).trans k0, (h _ _ (cell_lt k1)).trans k1, (h _ _ (cell_lt k2)).trans k2⟩
theorem cy7 {w W : World} {b0 o0 b1 o1 b2 o2 b3 o3 b4 o4 b5 o5 b6 o6 : Nat} {v0 v1 v2 v3 v4 v5 v6 : Value} (h : ∀ b o, b < w.heap.size → W.cell? ⟨b, o, none⟩ = w.cell? ⟨b, o, none⟩) (k0 : w.cell? ⟨b0, o0, none⟩ = some v0) (k1 : w.cell? ⟨b1, o1, none⟩ = some v1) (k2 : w.cell? ⟨b2, o2, none⟩ = some v2) (k3 : w.cell? ⟨b3, o3, none⟩ = some v3) (k4 : w.cell? ⟨b4, o4, none⟩ = some v4) (k5 : w.cell? ⟨b5, o5, none⟩ = some v5) (k6 : w.cell? ⟨b6, o6, none⟩ = some v6) : W.cell? ⟨b0, o0, none⟩ = some v0 ∧ W.cell? ⟨b1, o1, none⟩ = some v1 ∧ W.cell? ⟨b2, o2, none⟩ = some v2 ∧ W.cell? ⟨b3, o3, none⟩ = some v3 ∧ W.cell? ⟨b4, o4, none⟩ = some v4 ∧ W.cell? ⟨b5, o5, none⟩ = some v5 ∧ W.cell? ⟨b6, o6, none⟩ = some v6 :=
 ⟨(h _ _ (cell_lt k0)).trans k0, (h _ _ (cell_lt k1)).trans k1, (h _ _ (cell_lt k2)).trans k2, (h _ _ (cell_lt k3)).trans k3, (h _ _ (cell_lt k4)).trans k4, (h _ _ (cell_lt k5)).trans k5, (h _ _ (cell_lt k6)).trans k6⟩
end Go.Proofs.YtlppdgaogdpajaaGreatDoor
namespace Go.Proofs.YtlppdgaogdpajaaGreatDoor
def refC (c : UInt8) (i : Nat) : Bool := (decide (97 ≤ c.toNat) && decide (c.toNat ≤ 122)) || (((decide (48 ≤ c.toNat) && decide (c.toNat ≤ 57)) || c.toNat == 45) && decide (0 < i))
def refPre (l : List UInt8) : Nat → Bool
 | 0 => decide (0 < l.length) && decide (l.length ≤ 24)
 | k + 1 => refPre l k && (match l[k]? with | some c => refC c k | none => true)
theorem refC_pos (c : UInt8) {i : Nat} (h : 0 < i) : refC c i = !badC c := by
 have hd : decide (0 < i) = true := by simpa using h
 unfold refC badC
 rw [hd, Bool.and_true, Bool.eq_iff_iff]
 simp only [Bool.or_eq_true, Bool.and_eq_true, decide_eq_true_eq, beq_iff_eq, Bool.not_eq_true', Bool.and_eq_false_iff, Bool.or_eq_false_iff, decide_eq_false_iff_not, bne_eq_false_iff_eq]
 omega
theorem refC_zero (c : UInt8) : refC c 0 = (decide (97 ≤ c.toNat) && decide (c.toNat ≤ 122)) := by
 unfold refC
 simp
theorem refPre_cons (c : UInt8) (r : List UInt8) : ∀ k, k ≤ r.length → refPre (c :: r) (k + 1) = (decide (r.length < 24) && (decide (97 ≤ c.toNat) && decide (c.toNat ≤ 122)) && (r.take k).all fun c => !badC c)
 | 0, _ => by
  simp only [refPre, List.getElem?_cons_zero, refC_zero, List.take_zero, List.all_nil, Bool.and_true, List.length_cons]
  congr 1
 | k + 1, hk => by
  have ih := refPre_cons c r k (by omega)
  rw [refPre, ih]
  have hx : (c :: r)[k + 1]? = some r[k] := by simp
  rw [hx, List.take_succ_eq_append_getElem (by omega), List.all_append]
  simp only [refC_pos r[k] (Nat.succ_pos k), List.all_cons, List.all_nil, Bool.and_true, Bool.and_assoc]
theorem refName (l : List UInt8) : refPre l l.length = nameL l := by
 cases l with
 | nil => simp [refPre, nameL]
 | cons c r =>
  have h := refPre_cons c r r.length (Nat.le_refl _)
  rw [List.length_cons, h, List.take_length, nameL]
  by_cases h1 : 97 ≤ c.toNat <;> by_cases h2 : c.toNat ≤ 122
  ·have hb : badC c = false := by
    unfold badC
    have e1 : decide (c.toNat < 97) = false := by simp; omega
    have e2 : decide (122 < c.toNat) = false := by simp; omega
    rw [e1, e2]
    rfl
   rw [List.any_cons, hb, Bool.false_or, List.not_any_eq_all_not]
   simp [h1, h2]
  all_goals simp [h1, h2]
def refTwice (l : List ByteArray) : Nat → Bool
 | 0 => false
 | k + 1 => refTwice l k || (match l[k]? with | some s => decide (idxS l s < k) | none => false)
theorem idxP_append {α : Type} (p : α → Bool) : ∀ (l r : List α) (k : Nat), idxP p (l ++ r) k = if l.any p then idxP p l k else idxP p r (k + l.length)
 | [], r, k => by simp
 | x :: l, r, k => by
  rw [List.cons_append, idxP, List.any_cons]
  cases h : p x with
  | true => simp [idxP, h]
  | false =>
   rw [idxP_append p l r (k + 1)]
   simp only [h, Bool.false_or, idxP, List.length_cons]
   rw [show k + 1 + l.length = k + (l.length + 1) by omega]
   rfl
theorem idxP_lt {α : Type} (p : α → Bool) : ∀ (l : List α) (k : Nat), l.any p = true → idxP p l k < k + l.length
 | [], _, h => by simp at h
 | x :: l, k, h => by
  rw [idxP]
  cases hx : p x with
  | true => simp; omega
  | false =>
   rw [List.any_cons, hx, Bool.false_or] at h
   have := idxP_lt p l (k + 1) h
   simp
   omega
theorem idxS_before (l : List ByteArray) (k : Nat) (s : ByteArray) (h : l[k]? = some s) : decide (idxS l s < k) = memB s (l.take k) := by
 have hk : k < l.length := (List.getElem?_eq_some_iff.1 h).1
 have hs : l[k] = s := by simpa [hk] using h
 have e : l = l.take k ++ s :: l.drop (k + 1) := by rw [← hs, ← List.drop_eq_getElem_cons hk, List.take_append_drop]
 have hany : memB s (l.take k) = (l.take k).any (fun x => decide (x = s)) := rfl
 have hlen : (l.take k).length = k := by rw [List.length_take]; omega
 rw [hany]
 unfold idxS
 have hi : idxP (fun x => decide (x = s)) l 0 = if (l.take k).any (fun x => decide (x = s)) then idxP (fun x => decide (x = s)) (l.take k) 0 else (k : Int) := by
  conv => lhs; rw [e, idxP_append]
  congr 1
  rw [idxP, hlen]
  simp
 rw [hi]
 cases ha : (l.take k).any (fun x => decide (x = s)) with
 | true =>
  have := idxP_lt (fun x => decide (x = s)) (l.take k) 0 ha
  simp
  omega
 | false => simp
theorem refTwice_take (l : List ByteArray) : ∀ k, k ≤ l.length → refTwice l k = twiceB (l.take k)
 | 0, _ => by simp [refTwice, twiceB]
 | k + 1, hk => by
  obtain ⟨s, hs⟩ : ∃ s, l[k]? = some s := ⟨l[k], by simp⟩
  have e : l.take (k + 1) = l.take k ++ [s] := by rw [List.take_add_one, hs]; rfl
  rw [refTwice, refTwice_take l k (by omega), hs, e, twiceB_append]
  show (_ || decide (idxS l s < k)) = _
  rw [idxS_before l k s hs]
theorem refTwice_all (l : List ByteArray) : refTwice l l.length = twiceB l := by
 rw [refTwice_take l l.length (Nat.le_refl _), List.take_length]
end Go.Proofs.YtlppdgaogdpajaaGreatDoor
namespace Go.Proofs.YtlppdgaogdpajaaGreatDoor
open Go.ChangeShapes Go.WideShapes Go.ChangeAt Go.RowKit
section
variable {H : Type} {enc : TypeId × Value → H} {P : Program}
theorem post_of_below {f : Func} {s : ChangeSpec} {apart fresh handsOn again : Bool} {W W' : World} {args : Array Value} {v : Value} {ds gs : List (DataW H)} {before pa pv : List MemPlace}
  (hW : DataW.Whole enc P f.params.toList s.vars apart W args.toList ds gs before)
  (hres : ∀ (b : Nat) (sp : Nat → Bool) (hd : Bool), DataW.TrodAll enc P W' b sp hd f.resultTypes.toList (v.resultList f.resultTypes.size) (s.fn H (ds ++ gs)).results [])
  (hargs : ∀ sp : Nat → Bool, (∀ p ∈ before, sp p.block = true) → DataW.TrodAll enc P W' 0 sp true f.params.toList args.toList (s.fn H (ds ++ gs)).args pa)
  (hvars : ∀ sp : Nat → Bool, (∀ p ∈ before, sp p.block = true) → DataW.TrodVars enc P W' sp s.vars (s.fn H (ds ++ gs)).vars pv)
  (hps : before = pa ++ pv) (hb : Below W.heap.size W W')
  (hok : ∀ (j : Nat) (t : TypeId) (r : Value), f.resultTypes[j]? = some t → (v.resultList f.resultTypes.size)[j]? = some r → Value.okWide P W' .any 0 t r) :
  s.post enc P f apart fresh handsOn again W args v W' := by
 have hlt : ∀ p ∈ before, p.block < W.heap.size := fun p hp => hW.lt p hp
 have hold : ∀ p ∈ before, (fun b => decide (b < W.heap.size)) p.block = true := fun p hp => by simpa using hlt p hp
 refine ⟨ds, gs, before, [], pa, pv, hW, hres _ _ _, hargs _ hold, hvars _ hold, World.keptBut_mono (fun p hp => ⟨hp, ?_⟩) (hb.frame (· ∈ before)), fun _ => ?_⟩
 ·rw [hps, List.mem_append] at hp
  exact Or.inr hp
 ·obtain ⟨_, _, _, _, _, hz, hn⟩ := hW
  refine ⟨hok, _, _, ([] ++ pa) ++ pv, ⟨[] ++ pa, pv, trodAll_append (hargs _ (fun _ _ => rfl)) (hres _ _ _), hvars _ (fun _ _ => rfl), rfl, ?_, ?_⟩, ?_⟩
  ·intro b off hp
   have hin : MemPlace.cell b off ∈ before := by rw [hps]; simpa using hp
   rw [hb.frozen (hlt _ hin)]
   exact hz b off hin
  ·intro ha
   have := hn ha
   rw [hps] at this
   simpa using this
  ·intro p hp _
   rw [hps]
   simpa using hp
end
end Go.Proofs.YtlppdgaogdpajaaGreatDoor
namespace Go.Proofs.YtlppdgaogdpajaaGreatDoor
open Go.Joins Go.ChangeShapes Go.WideShapes Go.RowKit Go.Deep
theorem staysB {H : Type} {enc : TypeId × Value → H} {W W' : World} {t : TypeId} {v : Value} {d : DataW H} {p q : List MemPlace} (h : DataW.Trod enc Tryz.prog W 0 (fun _ => true) true t v d p) (hr : Tryz.prog.readableRec t = true) (ht : decide (t < Tryz.prog.types.size) = true)
  (hb : Below W.heap.size W W') (hq : ∀ x ∈ q, x.block < W.heap.size) (hpq : ∀ x ∈ p, x ∈ q) (sp : Nat → Bool) (hs : ∀ x ∈ q, sp x.block = true) :
  DataW.Trod enc Tryz.prog W' 0 sp true t v d p :=
 WideElems.Trod_stays laidOut hr (of_decide_eq_true ht) h (fun x hx => by
  have := hq x (hpq x hx)
  cases x with
  | cell b o => exact hb.cell (p := ⟨b, o, none⟩) this
  | map b => exact hb.block b this) (fun x hx => hs x (hpq x hx))
end Go.Proofs.YtlppdgaogdpajaaGreatDoor
namespace Go.Proofs.YtlppdgaogdpajaaGreatDoor
open Go.RowKit Go.Shelf
attribute [local go_sem] Oper.semAt_some
theorem toList_eqB (a b : ByteArray) : (a.toList == b.toList) = decide (a = b) := by
 by_cases h : a = b
 ·subst h; simp
 ·have : (a.toList == b.toList) = false := by
   rw [beq_eq_false_iff_ne]
   exact fun h2 => h (toList_inj h2)
  rw [this]
  simp [h]
end Go.Proofs.YtlppdgaogdpajaaGreatDoor
namespace Go.Proofs.YtlppdgaogdpajaaGreatDoor.fellCounting
open Go.ChangeShapes Go.WideShapes Go.ChangeAt Go.RowKit Go.Joins Go.Deep
theorem k0 : (Rows.fellCountingRow.wf (OpenSpec.ofChange (OpenSpec.ofChange Rows.fellCountingSpec).bare)) = true := by kernel_rfl
theorem k1 : (laidOutB Tryz.pinned.checked.prog) = true := p1
theorem k2 : (mapsRowed Tryz.pinned.checked.prog) = true := p2
theorem k3 : (Tryz.f15.params.all (Tryz.pinned.checked.prog.readableRec ·)) = true := by kernel_rfl
theorem k4 : (namedTie Tryz.pinned.checked.prog Rows.fellCountingRow.named (OpenSpec.ofChange Rows.fellCountingSpec).bare.vars) = true := by kernel_rfl
theorem k5 : ((Rows.fellCountingRow.stops == [])) = true := by kernel_rfl
theorem k6 : ((Tryz.pinned.checked.prog.stops == [])) = true := p6
theorem k7 : ((Rows.fellCountingRow.knobs == [])) = true := by kernel_rfl
theorem k8 : ((Tryz.pinned.checked.prog.stopKnobs == [])) = true := p8
theorem k9 : ((Rows.fellCountingRow.inPlace == Tryz.pinned.checked.prog.inPlace 15)) = true := by kernel_rfl
theorem k10 : ((Rows.fellCountingRow.unfollowed == Tryz.pinned.checked.prog.unfollowed 15)) = true := by kernel_rfl
theorem k11 : ((Rows.fellCountingRow.recurses == Tryz.pinned.checked.prog.recurses 15)) = true := by kernel_rfl
theorem k12 : ((Rows.fellCountingRow.named == Tryz.pinned.checked.prog.varsNamed 15)) = true := by kernel_rfl
theorem k13 : ((Rows.fellCountingRow.maps == (Tryz.f15.params.toList ++ (OpenSpec.ofChange Rows.fellCountingSpec).bare.plain.varTypes Tryz.pinned.checked.prog).any (Tryz.pinned.checked.prog.mapsRec ·))) = true := by kernel_rfl
theorem k14 : ((Rows.fellCountingRow.ifaces == (Tryz.f15.params.toList ++ (OpenSpec.ofChange Rows.fellCountingSpec).bare.plain.varTypes Tryz.pinned.checked.prog).any (Tryz.pinned.checked.prog.ifacesRec ·))) = true := by kernel_rfl
theorem k15 : ((Rows.fellCountingRow.mapsOut == Tryz.pinned.checked.prog.mapsAmong Tryz.f15.resultTypes.toList)) = true := by kernel_rfl
theorem k16 : ((Rows.fellCountingRow.loops == (Tryz.f15.params.toList ++ (OpenSpec.ofChange Rows.fellCountingSpec).bare.plain.varTypes Tryz.pinned.checked.prog).any (Tryz.pinned.checked.prog.loopsFrom ·))) = true := by kernel_rfl
theorem k17 : ((Rows.fellCountingRow.wideKeys == (Tryz.f15.params.toList ++ (OpenSpec.ofChange Rows.fellCountingSpec).bare.plain.varTypes Tryz.pinned.checked.prog ++ Tryz.f15.resultTypes.toList).any (Tryz.pinned.checked.prog.wideKeysFrom ·))) = true := by kernel_rfl
theorem k18 : ((OpenSpec.ofChange Rows.fellCountingSpec).bare.vars.all (Tryz.pinned.checked.prog.varReadable ·)) = true := by kernel_rfl
theorem k19 : (Tryz.f15.resultTypes.all (fun t => Tryz.pinned.checked.prog.readableRec t && decide (t < Tryz.pinned.checked.prog.types.size))) = true := by kernel_rfl
theorem k20 : ((Rows.fellCountingRow.ifacesOut == Tryz.f15.resultTypes.toList.any (Tryz.pinned.checked.prog.ifacesRec ·))) = true := by kernel_rfl
theorem k21 : ((Rows.fellCountingRow.loopsOut == Tryz.f15.resultTypes.toList.any (Tryz.pinned.checked.prog.loopsFrom ·))) = true := by kernel_rfl
theorem k22 : ((Rows.fellCountingRow.plainKeys == Tryz.pinned.checked.prog.plainKeys)) = true := p22
theorem k23 : (Rows.fellCountingRow.shortTexts.isNone) = true := by kernel_rfl
theorem k24 : (Tryz.pinned.checked.prog.stopsHeard) = true := p24
theorem k25 : (Tryz.pinned.checked.prog.mayEnter) = true := p25
theorem k26 : ((Rows.fellCountingRow.lifted == Tryz.pinned.checked.prog.liftsFinal)) = true := p26
theorem k27 : ((Tryz.pinned.checked.prog.make == some Rows.fellCountingRow.make)) = true := p27
theorem k28 : ((Rows.fellCountingRow.kinds == (if Rows.fellCountingRow.domain.isEmpty then [] else Tryz.f15.params.toList.map fun t => match Tryz.pinned.checked.prog.underlying t with | some (.int k) => some k | _ => none))) = true := by kernel_rfl
theorem k29 : ((Rows.fellCountingRow.pinned == Rows.fellCountingRow.pinnedBy)) = true := by kernel_rfl
theorem k30 : ((Rows.fellCountingRow.veiled == (Tryz.f15.params.toList ++ (OpenSpec.ofChange Rows.fellCountingSpec).bare.plain.varTypes Tryz.pinned.checked.prog ++ Tryz.f15.resultTypes.toList).any (Tryz.pinned.checked.prog.veiledRec ·))) = true := by kernel_rfl
theorem k31 : (Rows.fellCountingRow.veiledFits Tryz.pinned.checked.prog Tryz.f15.params.toList (Tryz.f15.params.toList ++ (OpenSpec.ofChange Rows.fellCountingSpec).bare.plain.varTypes Tryz.pinned.checked.prog ++ Tryz.f15.resultTypes.toList)) = true := by kernel_rfl
theorem facts : joinedFacts Tryz.pinned.checked.prog 15 Tryz.f15 (OpenSpec.ofChange Rows.fellCountingSpec).bare Rows.fellCountingRow = true :=
 tt (tt (tt (tt (tt (tt (tt (tt (tt (tt (tt (tt (tt (tt (tt (tt (tt (tt (tt (tt (tt (tt (tt (tt (tt (tt (tt (tt (tt (tt (tt k0 k1) k2) k3) k4) k5) k6) k7) k8) k9) k10) k11) k12) k13) k14) k15) k16) k17) k18) k19) k20) k21) k22) k23) k24) k25) k26) k27) k28) k29) k30) k31
theorem plain (f : FuncId) (fn : Func) (hf : Tryz.pinned.checked.prog.funcNamed Rows.fellCountingRow.func = some f) (hfn : Tryz.pinned.checked.prog.funcs[f]? = some fn) :
  true = Tryz.pinned.checked.prog.looks [] ∧ ∀ (j : Nat) t, fn.params[j]? = some t → Tryz.pinned.checked.prog.wantsStandIn t = false := by
 obtain rfl : f = 15 := Option.some.inj ((show Tryz.prog.funcNamed Rows.fellCountingRow.func = some 15 by kernel_rfl).symm.trans hf) |>.symm
 obtain rfl : fn = Tryz.f15 := (Option.some.inj (Tryz.func15.symm.trans hfn)).symm
 refine ⟨p_looks, fun j t ht => ?_⟩
 have hall : (Tryz.f15.params.toList.all fun t => !(Tryz.prog.wantsStandIn t)) = true := by as_aux_lemma => kernel_rfl
 have h := List.all_eq_true.1 hall t (by simpa using Array.mem_of_getElem? ht)
 have k : Tryz.prog.wantsStandIn t = false := by simpa using h
 exact k
theorem tied (said : Rows.FellCountingSaid) : Rows.FellCountingCardSaid :=
 Claim7.holds_tied_plain_at .later [] _ _ _ _ said (fun _ h => by cases h) (by as_aux_lemma => kernel_rfl) (fun _ h => by cases h) fellCounting_row_tie rfl ⟨rfl, rfl⟩ (by as_aux_lemma => kernel_rfl) rfl plain (by as_aux_lemma => kernel_rfl)
end Go.Proofs.YtlppdgaogdpajaaGreatDoor.fellCounting
namespace Go.Proofs.YtlppdgaogdpajaaGreatDoor
open Go.RowKit Go.Sort
def datas (l : List ByteArray) : List (List UInt8) := l.map (·.data.toList)
def ofDatas (l : List (List UInt8)) : List ByteArray := l.map fun x => ⟨x.toArray⟩
theorem datas_ofDatas (l : List (List UInt8)) : datas (ofDatas l) = l := by
 unfold ofDatas datas
 rw [List.map_map]
 refine (List.map_congr_left (g := id) fun x _ => ?_).trans (List.map_id l)
 simp
def sortS (l : List ByteArray) : List ByteArray := ofDatas ((datas l).mergeSort fun x y => decide (x ≤ y))
def setS (l : List ByteArray) : List ByteArray := ofDatas (Lib.compact (datas (sortS l)))
def compactS (l : List ByteArray) : List ByteArray := ofDatas (Lib.compact (datas l))
theorem cellsL_str (l : List ByteArray) : cellsL strC l = (datas l).map encStr := by
 unfold cellsL strC datas
 rw [List.map_map]
 induction l with
 | nil => rfl
 | cons x r ih => rw [List.flatMap_cons, List.map_cons, ih]; rfl
theorem datas_len (l : List ByteArray) : (datas l).length = l.length := List.length_map _
theorem ofDatas_len (l : List (List UInt8)) : (ofDatas l).length = l.length := List.length_map _
theorem c_sortS (l : List ByteArray) (v : Value) (base : Nat) (w : World) (h : OwnS w base v l) (hl : l.length ≤ 1000000) :
  Calls Tryz.prog 157 #[v] w fun e w' => e = .returned (.tuple #[]) ∧ OwnS w' base v (sortS l) ∧ Kept (fun k => v.ownBlock = some k) w w' := by
 unfold OwnS at h ⊢
 rcases h.2 with ⟨rfl, h0⟩ | ⟨g, cap, cur, rfl, hbg, hg, h1, h2, h3, h4⟩
 ·obtain rfl : l = [] := List.length_eq_zero_iff.1 h0
  refine (Tryz.slices_Sort_string_none none 0 w).mono ?_
  rintro e w' ⟨rfl, rfl⟩
  exact ⟨rfl, by rw [show sortS [] = [] from by simp [sortS, datas, ofDatas]]; exact h, Kept.refl _ _⟩
 ·rw [cellsL_str, Nat.mul_one, ← datas_len] at h4
  have h5 := Tryz.slices_Sort_string g 0 cap (datas l) w (holds_of_block hg h4) (Array.getElem?_eq_some_iff.1 hg).1 (by rw [datas_len]; omega)
  rw [datas_len] at h5
  refine h5.mono ?_
  rintro e w' ⟨rfl, n, os, rfl⟩
  refine ⟨rfl, ?_, kept_of_grown (grownBy_sorted _)⟩
  have hs : ((datas l).mergeSort fun x y => decide (x ≤ y)).length = (datas l).length := List.length_mergeSort _
  have h9 := ownsRow_sorted (w := w) (n := n) (os := os) (ss := datas l) hs hbg hg (by rw [datas_len]; exact h1) h2 h3
  rw [datas_len] at h9
  have e1 : (sortS l).length = l.length := by unfold sortS; rw [ofDatas_len, hs, datas_len]
  have e2 : cellsL strC (sortS l) = ((datas l).mergeSort fun x y => decide (x ≤ y)).map encStr := by rw [cellsL_str]; unfold sortS; rw [datas_ofDatas]
  rw [e1, e2]
  exact h9
theorem c_compactS (l : List ByteArray) (v : Value) (base : Nat) (w : World) (h : OwnS w base v l) (hl : l.length ≤ 1000000) :
  Calls Tryz.prog 158 #[v] w fun e w' => (∃ v', e = .returned v' ∧ OwnS w' base v' (compactS l)) ∧ Kept (fun k => v.ownBlock = some k) w w' := by
 unfold OwnS at h ⊢
 rcases h.2 with ⟨rfl, h0⟩ | ⟨g, cap, cur, rfl, hbg, hg, h1, h2, h3, h4⟩
 ·obtain rfl : l = [] := List.length_eq_zero_iff.1 h0
  refine (Tryz.slices_Compact_string_empty none 0 w).mono ?_
  rintro e w' ⟨rfl, rfl⟩
  exact ⟨⟨_, rfl, h⟩, Kept.refl _ _⟩
 ·rw [cellsL_str, Nat.mul_one, ← datas_len] at h4
  have h5 := Tryz.slices_Compact_string g 0 cap (datas l) w (holds_of_block hg h4) (by rw [datas_len]; omega) (by rw [datas_len]; exact h1)
  rw [datas_len] at h5
  refine h5.mono ?_
  rintro e w' ⟨rfl, n, rfl⟩
  have hle := compact_le (datas l)
  rw [datas_len] at hle
  have hk := kept_of_grown (grownBy_sorted (w := w) (g := g) (n := n) (os := #[]) (Lib.compact (datas l) ++ List.replicate (l.length - (Lib.compact (datas l)).length) []).toArray)
  rw [grow_empty] at hk
  have hown := ownsRow_sorted (w := w) (n := n) (os := #[]) (ss := datas l) (ts := Lib.compact (datas l) ++ List.replicate (l.length - (Lib.compact (datas l)).length) []) (by simp [datas_len]; omega) hbg hg (by rw [datas_len]; exact h1) h2 h3
  rw [grow_empty, List.map_append, datas_len] at hown
  refine ⟨⟨_, rfl, ?_⟩, hk⟩
  have e1 : (compactS l).length = (Lib.compact (datas l)).length := ofDatas_len _
  have e2 : cellsL strC (compactS l) = (Lib.compact (datas l)).map encStr := by rw [cellsL_str]; unfold compactS; rw [datas_ofDatas]
  rw [e1, e2]
  exact row_take hown (by simp) hle
end Go.Proofs.YtlppdgaogdpajaaGreatDoor
namespace Go.Proofs.YtlppdgaogdpajaaGreatDoor
open Go.RowKit Go.Shelf
attribute [local go_sem] Oper.semAt_some
theorem c_few (m : Fm) (l : List Rp) (a : Option Addr) (cap : Nat) (w : World) (hm : m.Arg w) (hl : SlArg rpC 10 RpW w l a cap) :
  Calls Tryz.prog 36 #[m.v, .slice a l.length cap] w fun e w' => e = .returned (.bool (shortV m.f && fewV l 40)) ∧ Below w.heap.size w w' := by
 have hS := fun W (hb : Below w.heap.size w W) => c_Short m W (hm.later hb)
 have hF := fun W (hb : Below w.heap.size w W) => c_Few l a cap 40 W (slarg_later hl hb) (by decide)
 have HS := Lib.hid hS
 have HF := Lib.hid hF
 clear hS hF hm hl
 generalize shortV m.f = s at HS
 generalize fewV l 40 = t at HF
 cases s
 ·go_enter Tryz.func36, Tryz.ntmps36
  go_upto_region 1 with (fail)
  go_name_world W1 hW1
  have hb0 : Below w.heap.size w W1 := by subst hW1; go_grown
  obtain ⟨q0, q1, q2, q3⟩ := (show QB m W1 w.heap.size from by subst hW1; and_intros <;> go_simp)
  clear hW1 
  go_wp2_with fail
  refine (via (w0 := W1) (by go_grown) (HS.out _ hb0)).mono ?_
  rintro e W2 ⟨rfl, hc, hf, hz, hB⟩
  have zz := cy4 hc q0 q1 q2 q3
  clear q0 q1 q2 q3
  obtain ⟨q0, q1, q2, q3⟩ := zz
  replace hb0 : Below w.heap.size w W2 := bthen hb0 hB
  have hzW2 : W1.heap.size ≤ W2.heap.size := hz
  clear hc hf hB hz
  go_wp2
  go_ret
  exact ⟨rfl, hb0⟩
 ·go_enter Tryz.func36, Tryz.ntmps36
  go_upto_region 1 with (fail)
  go_name_world W1 hW1
  have hb0 : Below w.heap.size w W1 := by subst hW1; go_grown
  obtain ⟨q0, q1, q2, q3⟩ := (show QB m W1 w.heap.size from by subst hW1; and_intros <;> go_simp)
  clear hW1 
  go_wp2_with fail
  refine (via (w0 := W1) (by go_grown) (HS.out _ hb0)).mono ?_
  rintro e W2 ⟨rfl, hc, hf, hz, hB⟩
  have zz := cy4 hc q0 q1 q2 q3
  clear q0 q1 q2 q3
  obtain ⟨q0, q1, q2, q3⟩ := zz
  replace hb0 : Below w.heap.size w W2 := bthen hb0 hB
  have hzW2 : W1.heap.size ≤ W2.heap.size := hz
  clear hc hf hB hz
  go_wp2_with fail
  refine (via (w0 := W2) (by go_grown) (HF.out _ hb0)).mono ?_
  rintro e W3 ⟨rfl, hc, hf, hz, hB⟩
  have zz := cy4 hc q0 q1 q2 q3
  clear q0 q1 q2 q3
  obtain ⟨q0, q1, q2, q3⟩ := zz
  replace hb0 : Below w.heap.size w W3 := bthen hb0 hB
  have hzW3 : W2.heap.size ≤ W3.heap.size := hz
  clear hc hf hB hz
  cases t
  ·go_wp2
   go_ret
   exact ⟨rfl, hb0⟩
  ·go_wp2
   go_ret
   exact ⟨rfl, hb0⟩
def ownersV (f : Fe) (l : List Rp) (known : Int) : List Int × Int := if (countV f l known).2 ≠ 0 then ([], (countV f l known).2) else (setI ((countL l known).map (·.owner)), 0)
def sortO (owner : Int) (x : Rp) : Option ByteArray := if x.owner = owner then some x.sort else none
def sortsV (f : Fe) (l : List Rp) (known owner : Int) : List ByteArray × Int := if (countV f l known).2 ≠ 0 then ([], (countV f l known).2) else (setS ((countL l known).filterMap (sortO owner)), 0)
def GivesS2 (r : List ByteArray × Int) (w : World) (e : Ending) (w' : World) : Prop := ∃ v, e = .returned (.tuple #[v, .int .i64 r.2]) ∧ OwnS w' w.heap.size v r.1 ∧ Below w.heap.size w w'
theorem countV_2 (f : Fe) (l : List Rp) (known : Int) : (countV f l known).2 = (checkV f l).2 := by
 unfold countV
 by_cases h : (checkV f l).2 = 0
 ·rw [if_neg (by omega)]; exact h.symm
 ·rw [if_pos h]
theorem countL_few {l : List Rp} {known : Int} (h : l.length ≤ 300) : (countL l known).length ≤ 300 := Nat.le_trans (List.length_filter_le _ _) h
theorem c_Owners_no (m : Fm) (l : List Rp) (a : Option Addr) (cap : Nat) (known : Int) (w : World) (hm : m.In w) (hl : Rps w a l) (hok : ∀ y ∈ l, RpOk y) (hcap : l.length ≤ cap) (h : (countV m.f l known).2 ≠ 0) :
  Calls Tryz.prog 75 #[m.v, .slice a l.length cap, .int .i64 known] w (GivesN ([], (countV m.f l known).2) w) := by
 have hC := fun W (hb : Below w.heap.size w W) => (c_Counting m l a cap known W (hm.later hb) (hl.later hb) hok hcap).mono fun e w' (h : GivesR _ W e w') => (show ∃ v, e = .returned (.tuple #[v, .int .i64 (countV m.f l known).2]) ∧ Below W.heap.size W w' from by obtain ⟨v, h1, _, h3⟩ := h; exact ⟨v, h1, h3⟩)
 generalize (countV m.f l known).2 = E at *
 have he : (E != 0) = true := bne_iff_ne.2 h
 have HC := Lib.hid hC
 clear hC h hm hl hok hcap
 go_enter Tryz.func75, Tryz.ntmps75
 go_upto_region 1 with (fail)
 go_name_world W1 hW1
 have hb0 : Below w.heap.size w W1 := by subst hW1; go_grown
 obtain ⟨q0, q1, q2, q3⟩ := (show QB m W1 w.heap.size from by subst hW1; and_intros <;> go_simp)
 clear hW1 
 go_wp2_with fail
 refine (HC.out _ hb0).mono ?_
 rintro e W2 ⟨v, rfl, hB⟩
 have hbn := bthen hb0 hB
 clear hb0 hB
 have hb0 := hbn
 clear hbn
 go_wp2
 go_ret2
 exact ⟨_, rfl, World.ownsRow_nil _ _ _ _, hb0⟩
theorem c_Owners_ok (m : Fm) (l : List Rp) (a : Option Addr) (cap : Nat) (known : Int) (w : World) (hm : m.In w) (hl : Rps w a l) (hok : ∀ y ∈ l, RpOk y) (hcap : l.length ≤ cap) (h : (countV m.f l known).2 = 0) :
  Calls Tryz.prog 75 #[m.v, .slice a l.length cap, .int .i64 known] w (GivesN (setI ((countL l known).map (·.owner)), 0) w) := by
 have hcv : countV m.f l known = (countL l known, 0) := by
  unfold countV at h ⊢
  by_cases h2 : (checkV m.f l).2 = 0
  ·rw [if_neg (by omega)]
  ·rw [if_pos h2] at h; exact (h2 h).elim
 have hlg := check_ok ((countV_2 m.f l known).symm.trans h)
 have hfew := countL_few (known := known) hlg.few
 have hC := fun W (hb : Below w.heap.size w W) => (c_Counting m l a cap known W (hm.later hb) (hl.later hb) hok hcap).mono fun e w' (h : GivesR _ W e w') => (show ∃ b c, e = .returned (.tuple #[.slice b (countL l known).length c, .int .i64 0]) ∧ Rps w' b (countL l known) ∧ Below W.heap.size W w' from by
  rw [hcv] at h
  obtain ⟨v, h1, h2, h3⟩ := h
  obtain ⟨b, c, rfl, _, _, hn, _⟩ := Lst.own rpC_len h2
  exact ⟨b, c, h1, hn (by show (countL l known).length ≤ _; omega), h3⟩)
 have hkz : ∀ y ∈ countL l known, RpOk y := fun y hy => hok y (List.mem_filter.1 hy).1
 generalize countL l known = L at *
 obtain ⟨i0, hi0, hz0, hz1, hz2⟩ := info_parts num_info
 have HC := Lib.hid hC
 have HKZ := Lib.hid hkz
 clear hC h hm hl hok hcap hcv hlg hkz
 go_enter Tryz.func75, Tryz.ntmps75
 go_upto_region 1 with (fail)
 go_name_world W1 hW1
 have hb0 : Below w.heap.size w W1 := by subst hW1; go_grown
 obtain ⟨q0, q1, q2, q3⟩ := (show QB m W1 w.heap.size from by subst hW1; and_intros <;> go_simp)
 clear hW1 
 go_wp2_with fail
 refine (HC.out _ hb0).mono ?_
 rintro e W2 ⟨b, c, rfl, hrp, hB⟩
 have hbn := bthen hb0 hB
 clear hb0 hB q0 q1 q2 q3
 have hb0 := hbn
 have HRP := Lib.hid hrp
 clear hbn hrp
 go_wp2
 have hz1' := hb0.size
 go_loopw [10, 25] (fun v10 v25 wr => ∃ k : Nat, k ≤ L.length ∧ v25 = .int .i64 k ∧ OwnN wr W2.heap.size v10 ((L.take k).map (·.owner)) ∧ Below W2.heap.size W2 wr) (fun _ v25 _ => L.length - (intOf v25).toNat)
 case atStart => exact ⟨0, by omega, rfl, World.ownsRow_nil _ _ _ _, Below.refl _ _⟩
 case round =>
  obtain ⟨k, hk, rfl, hown, hb⟩ := hrel
  have HO := Lib.hid hown
  have hzw := hb.size
  have hrl : ((L.take k).map (·.owner)).length ≤ 300 := Nat.le_trans (Nat.le_of_eq (List.length_map _)) (by rw [List.length_take]; omega)
  clear hown
  by_cases hlt : k < L.length
  ·obtain ⟨x, hx⟩ := some_at hlt
   obtain ⟨b, o, rfl, hat⟩ := (HRP.out.later hb).at hx
   obtain ⟨y0, y1, y2, y3, y4, y5, y6, y7, y8, y9⟩ := rp_cells hat
   have zb := cell_lt y0
   have hidx : ¬ ((k : Int) < 0) := by omega
   have hidx2 : (k : Int) < (L.length : Int) := by omega
   have hkd := HKZ.out x (some_mem hx)
   have hk0 := hkd.k0
   have hk1 := hkd.k1
   have HN := Lib.hid (show (L.take (k + 1)).map (·.owner) = (L.take k).map (·.owner) ++ [x.owner] from by rw [take_some hx, List.map_append]; rfl)
   clear hat hx hkd
   go_wp2_with (at_builtin; refine stuckHere ?_)
   refine unHid ?_
   refine wpList_append_own_at _ rfl _ _ 75 rfl W2.heap.size 3 i0 _ 1 8 Tryz.underlying75 hi0 hz0 hz1 hz2 rfl (by decide) _ _ _ rfl ((HO.out.alloc _).alloc _) ⟨_, 0, none⟩ 1 1 (numC x.owner) rfl rfl (news_at _ #[_] _ _ (by simp)) (by simp [numC, Value.oneCell']) (by unfold maxLen; omega) (by omega) (by simp; omega) ?_
   intro v' w1 hown' hgrow _ hat
   have hown2 : OwnN w1 W2.heap.size v' ((L.take (k + 1)).map (·.owner)) := by
    rw [HN.out]
    unfold OwnN
    rw [List.length_append, cellsL_snoc]
    exact hown'
   have hbb : Below W2.heap.size W2 w1 := (show Below W2.heap.size W2 _ from by go_grown).trans ((kept_of_grown hgrow).below (by simp; omega) (fun j hj => (HO.out.lt j hj).1))
   have HB := Lib.hid hbb
   have HW2 := Lib.hid hown2
   clear hown' hgrow hat hown2 hbb
   go_wp2
   go_roundw
   case rel => exact ⟨k + 1, by omega, by go_num, HW2.out, HB.out⟩
   case measure => simp [intOf]; omega
  ·obtain rfl : k = L.length := by omega
   have ho := HO.out
   rw [List.take_length] at ho hrl
   have HO2 := Lib.hid ho
   clear ho HO
   go_wp2_with fail
   refine (c_sortI _ _ _ _ HO2.out (by omega)).mono ?_
   rintro e W3 ⟨rfl, ho1, hk1⟩
   have hb1 := hk1.below hzw (fun j hj => (HO2.out.lt j hj).1)
   have HO3 := Lib.hid ho1
   have hs1 : (sortI (L.map (·.owner))).length ≤ 300 := by unfold sortI; rw [List.length_mergeSort]; exact hrl
   have hbw := hb.trans hb1
   clear ho1 hk1 hb1 hb
   go_wp2_with fail
   refine (c_compactI _ _ _ _ HO3.out (by omega)).mono ?_
   rintro e W4 ⟨⟨v', rfl, ho2⟩, hk2⟩
   have hb2' := hk2.below hbw.size (fun j hj => (HO3.out.lt j hj).1)
   have HO4 := Lib.hid ho2
   have hbw2 := hbw.trans hb2'
   clear ho2 hk2 hb2' hbw
   go_wp2
   go_ret2
   exact ⟨_, rfl, ownsRow_base HO4.out hz1', bthen hb0 hbw2⟩
theorem c_Owners (m : Fm) (l : List Rp) (a : Option Addr) (cap : Nat) (known : Int) (w : World) (hm : m.In w) (hl : Rps w a l) (hok : ∀ y ∈ l, RpOk y) (hcap : l.length ≤ cap) : Calls Tryz.prog 75 #[m.v, .slice a l.length cap, .int .i64 known] w (GivesN (ownersV m.f l known) w) := by
 unfold ownersV
 by_cases h : (countV m.f l known).2 = 0
 ·rw [if_neg (by omega)]; exact c_Owners_ok m l a cap known w hm hl hok hcap h
 ·rw [if_pos h]; exact c_Owners_no m l a cap known w hm hl hok hcap h
theorem c_Sorts_no (m : Fm) (l : List Rp) (a : Option Addr) (cap : Nat) (known : Int) (owner : Int) (w : World) (hm : m.In w) (hl : Rps w a l) (hok : ∀ y ∈ l, RpOk y) (hcap : l.length ≤ cap) (h : (countV m.f l known).2 ≠ 0) :
  Calls Tryz.prog 77 #[m.v, .slice a l.length cap, .int .i64 known, .int .i64 owner] w (GivesS2 ([], (countV m.f l known).2) w) := by
 have hC := fun W (hb : Below w.heap.size w W) => (c_Counting m l a cap known W (hm.later hb) (hl.later hb) hok hcap).mono fun e w' (h : GivesR _ W e w') => (show ∃ v, e = .returned (.tuple #[v, .int .i64 (countV m.f l known).2]) ∧ Below W.heap.size W w' from by obtain ⟨v, h1, _, h3⟩ := h; exact ⟨v, h1, h3⟩)
 generalize (countV m.f l known).2 = E at *
 have he : (E != 0) = true := bne_iff_ne.2 h
 have HC := Lib.hid hC
 clear hC h hm hl hok hcap
 go_enter Tryz.func77, Tryz.ntmps77
 go_upto_region 1 with (fail)
 go_name_world W1 hW1
 have hb0 : Below w.heap.size w W1 := by subst hW1; go_grown
 obtain ⟨q0, q1, q2, q3⟩ := (show QB m W1 w.heap.size from by subst hW1; and_intros <;> go_simp)
 clear hW1 
 go_wp2_with fail
 refine (HC.out _ hb0).mono ?_
 rintro e W2 ⟨v, rfl, hB⟩
 have hbn := bthen hb0 hB
 clear hb0 hB
 have hb0 := hbn
 clear hbn
 go_wp2
 go_ret2
 exact ⟨_, rfl, World.ownsRow_nil _ _ _ _, hb0⟩
theorem c_Sorts_ok (m : Fm) (l : List Rp) (a : Option Addr) (cap : Nat) (known : Int) (owner : Int) (w : World) (hm : m.In w) (hl : Rps w a l) (hok : ∀ y ∈ l, RpOk y) (hcap : l.length ≤ cap) (h : (countV m.f l known).2 = 0) :
  Calls Tryz.prog 77 #[m.v, .slice a l.length cap, .int .i64 known, .int .i64 owner] w (GivesS2 (setS ((countL l known).filterMap (sortO owner)), 0) w) := by
 have hcv : countV m.f l known = (countL l known, 0) := by
  unfold countV at h ⊢
  by_cases h2 : (checkV m.f l).2 = 0
  ·rw [if_neg (by omega)]
  ·rw [if_pos h2] at h; exact (h2 h).elim
 have hlg := check_ok ((countV_2 m.f l known).symm.trans h)
 have hfew := countL_few (known := known) hlg.few
 have hC := fun W (hb : Below w.heap.size w W) => (c_Counting m l a cap known W (hm.later hb) (hl.later hb) hok hcap).mono fun e w' (h : GivesR _ W e w') => (show ∃ b c, e = .returned (.tuple #[.slice b (countL l known).length c, .int .i64 0]) ∧ Rps w' b (countL l known) ∧ Below W.heap.size W w' from by
  rw [hcv] at h
  obtain ⟨v, h1, h2, h3⟩ := h
  obtain ⟨b, c, rfl, _, _, hn, _⟩ := Lst.own rpC_len h2
  exact ⟨b, c, h1, hn (by show (countL l known).length ≤ _; omega), h3⟩)
 have hkz : ∀ y ∈ countL l known, RpOk y := fun y hy => hok y (List.mem_filter.1 hy).1
 generalize countL l known = L at *
 obtain ⟨i0, hi0, hz0, hz1, hz2⟩ := info_parts str_info
 have HC := Lib.hid hC
 have HKZ := Lib.hid hkz
 clear hC h hm hl hok hcap hcv hlg hkz
 go_enter Tryz.func77, Tryz.ntmps77
 go_upto_region 1 with (fail)
 go_name_world W1 hW1
 have hb0 : Below w.heap.size w W1 := by subst hW1; go_grown
 obtain ⟨q0, q1, q2, q3⟩ := (show QB m W1 w.heap.size from by subst hW1; and_intros <;> go_simp)
 clear hW1 
 go_wp2_with fail
 refine (HC.out _ hb0).mono ?_
 rintro e W2 ⟨b, c, rfl, hrp, hB⟩
 have hbn := bthen hb0 hB
 clear hb0 hB q0 q1 q2 q3
 have hb0 := hbn
 have HRP := Lib.hid hrp
 clear hbn hrp
 go_wp2
 have hz1' := hb0.size
 go_loopw [12, 27] (fun v12 v27 wr => ∃ k : Nat, k ≤ L.length ∧ v27 = .int .i64 k ∧ OwnS wr W2.heap.size v12 ((L.take k).filterMap (sortO owner)) ∧ Below W2.heap.size W2 wr) (fun _ v27 _ => L.length - (intOf v27).toNat)
 case atStart => exact ⟨0, by omega, rfl, World.ownsRow_nil _ _ _ _, Below.refl _ _⟩
 case round =>
  obtain ⟨k, hk, rfl, hown, hb⟩ := hrel
  have HO := Lib.hid hown
  have hzw := hb.size
  have hrl : ((L.take k).filterMap (sortO owner)).length ≤ 300 := Nat.le_trans (List.length_filterMap_le _ _) (by rw [List.length_take]; omega)
  clear hown
  by_cases hlt : k < L.length
  ·obtain ⟨x, hx⟩ := some_at hlt
   obtain ⟨b, o, rfl, hat⟩ := (HRP.out.later hb).at hx
   obtain ⟨y0, y1, y2, y3, y4, y5, y6, y7, y8, y9⟩ := rp_cells hat
   have zb := cell_lt y0
   have hidx : ¬ ((k : Int) < 0) := by omega
   have hidx2 : (k : Int) < (L.length : Int) := by omega
   have hkd := HKZ.out x (some_mem hx)
   have hk0 := hkd.k0
   have hk1 := hkd.k1
   by_cases ho : x.owner = owner
   ·have he : (x.owner == owner) = true := beq_iff_eq.2 ho
    have HN := Lib.hid (show (L.take (k + 1)).filterMap (sortO owner) = (L.take k).filterMap (sortO owner) ++ [x.sort] from by rw [take_some hx, List.filterMap_append, List.filterMap_cons, show sortO owner x = some x.sort from if_pos ho]; rfl)
    clear hat hx hkd ho
    go_wp2_with (at_builtin; refine stuckHere ?_)
    refine unHid ?_
    refine wpList_append_own_at _ rfl _ _ 93 rfl W2.heap.size 9 i0 _ 1 16 Tryz.underlying93 hi0 hz0 hz1 hz2 rfl (by decide) _ _ _ rfl ((HO.out.alloc _).alloc _) ⟨_, 0, none⟩ 1 1 (strC x.sort) rfl rfl (news_at _ #[_] _ _ (by simp)) (by simp [strC, Value.oneCell']) (by unfold maxLen; omega) (by omega) (by simp; omega) ?_
    intro v' w1 hown' hgrow _ hat
    have hown2 : OwnS w1 W2.heap.size v' ((L.take (k + 1)).filterMap (sortO owner)) := by
     rw [HN.out]
     unfold OwnS
     rw [List.length_append, cellsL_snoc]
     exact hown'
    have hbb : Below W2.heap.size W2 w1 := (show Below W2.heap.size W2 _ from by go_grown).trans ((kept_of_grown hgrow).below (by simp; omega) (fun j hj => (HO.out.lt j hj).1))
    have HB := Lib.hid hbb
    have HW2 := Lib.hid hown2
    clear hown' hgrow hat hown2 hbb
    go_wp2
    go_roundw
    case rel => exact ⟨k + 1, by omega, by go_num, HW2.out, HB.out⟩
    case measure => simp [intOf]; omega
   ·have he : (x.owner == owner) = false := beq_eq_false_iff_ne.2 ho
    have HN := Lib.hid (show (L.take (k + 1)).filterMap (sortO owner) = (L.take k).filterMap (sortO owner) from by rw [take_some hx, List.filterMap_append, List.filterMap_cons, show sortO owner x = none from if_neg ho]; simp)
    clear hat hx hkd ho
    go_wp2
    go_roundw
    case rel => exact ⟨k + 1, by omega, by go_num, by rw [HN.out]; exact HO.out.alloc _, by go_grown⟩
    case measure => simp [intOf]; omega
  ·obtain rfl : k = L.length := by omega
   have ho := HO.out
   rw [List.take_length] at ho hrl
   have HO2 := Lib.hid ho
   clear ho HO
   go_wp2_with fail
   refine (c_sortS _ _ _ _ HO2.out (by omega)).mono ?_
   rintro e W3 ⟨rfl, ho1, hk1⟩
   have hb1 := hk1.below hzw (fun j hj => (HO2.out.lt j hj).1)
   have HO3 := Lib.hid ho1
   have hs1 : (sortS (L.filterMap (sortO owner))).length ≤ 300 := by unfold sortS; rw [ofDatas_len, List.length_mergeSort, datas_len]; exact hrl
   have hbw := hb.trans hb1
   clear ho1 hk1 hb1 hb
   go_wp2_with fail
   refine (c_compactS _ _ _ _ HO3.out (by omega)).mono ?_
   rintro e W4 ⟨⟨v', rfl, ho2⟩, hk2⟩
   have hb2' := hk2.below hbw.size (fun j hj => (HO3.out.lt j hj).1)
   have HO4 := Lib.hid ho2
   have hbw2 := hbw.trans hb2'
   clear ho2 hk2 hb2' hbw
   go_wp2
   go_ret2
   exact ⟨_, rfl, ownsRow_base HO4.out hz1', bthen hb0 hbw2⟩
theorem c_Sorts (m : Fm) (l : List Rp) (a : Option Addr) (cap : Nat) (known : Int) (owner : Int) (w : World) (hm : m.In w) (hl : Rps w a l) (hok : ∀ y ∈ l, RpOk y) (hcap : l.length ≤ cap) : Calls Tryz.prog 77 #[m.v, .slice a l.length cap, .int .i64 known, .int .i64 owner] w (GivesS2 (sortsV m.f l known owner) w) := by
 unfold sortsV
 by_cases h : (countV m.f l known).2 = 0
 ·rw [if_neg (by omega)]; exact c_Sorts_ok m l a cap known owner w hm hl hok hcap h
 ·rw [if_pos h]; exact c_Sorts_no m l a cap known owner w hm hl hok hcap h
theorem c_rWithin (n lo hi : Int) (w : World) : Calls Tryz.prog 113 #[.int .i64 n, .int .i64 lo, .int .i64 hi] w fun e w' => e = .returned (.bool (rg lo hi n)) ∧ Below w.heap.size w w' := by
 by_cases h1 : lo ≤ n
 ·by_cases h2 : n ≤ hi
  ·rw [show rg lo hi n = true from rg_iff.2 ⟨h1, h2⟩]
   go_enter Tryz.func113, Tryz.ntmps113
   go_wp2
   go_ret
   exact ⟨rfl, by go_grown⟩
  ·rw [show rg lo hi n = false from rg_no (.inr h2)]
   go_enter Tryz.func113, Tryz.ntmps113
   go_wp2
   go_ret
   exact ⟨rfl, by go_grown⟩
 ·rw [show rg lo hi n = false from rg_no (.inl h1)]
  go_enter Tryz.func113, Tryz.ntmps113
  go_wp2
  go_ret
  exact ⟨rfl, by go_grown⟩
theorem c_rIndex (s : ByteArray) (l : List ByteArray) (a : Option Addr) (cap : Nat) (w : World) (hl : Strs w a l) :
  Calls Tryz.prog 138 #[.slice a l.length cap, .string s] w fun e w' => e = .returned (.int .i64 (idxS l s)) ∧ Below w.heap.size w w' := by
 have hlen := hl.1
 have HL := Lib.hid hl
 clear hl
 unfold idxS
 go_enter Tryz.func138, Tryz.ntmps138
 go_wp2
 go_loopw [5] (fun v5 wr => ∃ k : Nat, k ≤ l.length ∧ v5 = .int .i64 k ∧ idxP (fun x => decide (x = s)) l 0 = idxP (fun x => decide (x = s)) (l.drop k) k ∧ Below w.heap.size w wr) (fun v5 _ => l.length - (intOf v5).toNat)
 case atStart => exact ⟨0, by omega, rfl, rfl, by go_grown⟩
 case round =>
  obtain ⟨k, hk, rfl, hi, hb⟩ := hrel
  have HI := Lib.hid hi
  clear hi
  by_cases hlt : k < l.length
  ·obtain ⟨x, hx⟩ := some_at hlt
   obtain ⟨b, o, rfl, hat⟩ := (HL.out.later hb).at hx
   rw [Nat.mul_one] at hat
   have y0 := str_cell hat
   have hst := idxP_step (fun x => decide (x = s)) hx
   have HS := Lib.hid hst
   have hi1 : ¬ (k : Int) < 0 := by omega
   have hi2 : (k : Int) < (l.length : Int) := by omega
   clear hx hat hst
   by_cases he : x = s
   ·subst he
    have ht : (x.toList == x.toList) = true := by simp
    go_wp2
    go_ret
    exact ⟨by rw [HI.out, HS.out]; simp, hb⟩
   ·have ht : (x.toList == s.toList) = false := by
     rw [beq_eq_false_iff_ne]
     exact fun h => he (toList_inj h)
    have hf : decide (x = s) = false := by simpa using he
    have HF := Lib.hid hf
    have HE := Lib.hid he
    clear hf he
    go_wp2
    go_roundw
    case rel => exact ⟨k + 1, by omega, by go_num, by rw [HI.out, HS.out, HF.out]; rfl, hb⟩
    case measure => simp [intOf]; omega
  ·obtain rfl : k = l.length := by omega
   have hi2 : ¬ (l.length : Int) < (l.length : Int) := by omega
   go_wp2
   go_ret
   exact ⟨by rw [HI.out]; simp [idxP], hb⟩
theorem refPre_step {s : ByteArray} {k : Nat} (h : k < s.size) : refPre s.data.toList (k + 1) = (refPre s.data.toList k && refC s[k] k) := by
 rw [refPre]
 have e : s.data.toList[k]? = some s[k] := by
  rw [Array.getElem?_toList]
  exact Array.getElem?_eq_getElem h
 rw [e]
theorem c_rName (s : ByteArray) (w : World) (hs : s.size ≤ 1000000) : Calls Tryz.prog 127 #[.string s] w fun e w' => e = .returned (.bool (nameB s)) ∧ Below w.heap.size w w' := by
 have e0 : nameB s = refPre s.data.toList s.size := by
  unfold nameB
  rw [← refName]
  rfl
 have h00 : refPre s.data.toList 0 = (decide (0 < s.size) && decide (s.size ≤ 24)) := rfl
 rw [e0]
 obtain ⟨P, hP⟩ : ∃ P : Nat → Bool, ∀ k, refPre s.data.toList k = P k := ⟨_, fun _ => rfl⟩
 have hst := fun k (h : k < s.size) => refPre_step h
 simp only [hP] at hst h00 ⊢
 have HST := Lib.hid hst
 clear hst hP e0
 obtain ⟨z1, hz1⟩ : ∃ b, decide ((0 : Int) < (s.size : Int)) = b := ⟨_, rfl⟩
 obtain ⟨z2, hz2⟩ : ∃ b, decide ((s.size : Int) ≤ 24) = b := ⟨_, rfl⟩
 have h01 : P 0 = (z1 && z2) := by
  rw [h00, ← hz1, ← hz2]
  congr 1
  ·rw [Bool.eq_iff_iff, decide_eq_true_eq, decide_eq_true_eq]; omega
  ·rw [Bool.eq_iff_iff, decide_eq_true_eq, decide_eq_true_eq]; omega
 have H01 := Lib.hid h01
 clear h00 h01
 have main : ∀ (R : Bool) (hR : P 0 = R), True := fun _ _ => trivial
 clear main
 cases z1
 ·have g1 : ¬ (0 : Int) < (s.size : Int) := by simpa using hz1
  clear hz1 hz2
  have h1 : s.size = 0 := by omega
  have hp : P s.size = false := by rw [h1]; simpa using H01.out
  have HP := Lib.hid hp
  have g3 : ¬ (0 : Int) < (s.size : Int) := g1
  clear hp h1
  go_enter Tryz.func127, Tryz.ntmps127
  go_wp2
  go_loopw [3, 4] (fun v3 v4 wr => v4 = .int .i64 0 ∧ v3 = .bool false ∧ Below w.heap.size w wr) (fun _ _ _ => 0)
  case atStart => exact ⟨rfl, rfl, by go_grown⟩
  case round =>
   obtain ⟨rfl, rfl, hb⟩ := hrel
   go_wp2
   go_ret
   exact ⟨by first | rfl | (rw [HP.out]; rfl), hb⟩
 ·have g1 : (0 : Int) < (s.size : Int) := by simpa using hz1
  clear hz1
  cases z2
  ·have g2 : ¬ (s.size : Int) ≤ 24 := by simpa using hz2
   clear hz2
   go_enter Tryz.func127, Tryz.ntmps127
   go_wp2
   go_loopw [3, 4] (fun v3 v4 wr => ∃ k : Nat, k ≤ s.size ∧ v4 = .int .i64 k ∧ v3 = .bool (P k) ∧ Below w.heap.size w wr) (fun _ v4 _ => s.size - (intOf v4).toNat)
   case atStart => exact ⟨0, by omega, rfl, by rw [H01.out]; rfl, by go_grown⟩
   case round =>
    clear H01 g1 g2
    obtain ⟨k, hk, rfl, rfl, hb⟩ := hrel
    have HB := Lib.hid hb
    clear hb
    by_cases hlt : k < s.size
    ·have hnx := HST.out k hlt
     have hi1 : ¬ (k : Int) < 0 := by omega
     have hi2 : (k : Int) < (s.size : Int) := by omega
     have hc : s[k].toNat < 256 := s[k].toNat_lt
     have hrc : refC s[k] k = ((decide (97 ≤ s[k].toNat) && decide (s[k].toNat ≤ 122)) || (((decide (48 ≤ s[k].toNat) && decide (s[k].toNat ≤ 57)) || s[k].toNat == 45) && decide (0 < k))) := rfl
     rw [hrc] at hnx
     clear hrc
     generalize P k = ok at hnx ⊢
     generalize hcn : s[k].toNat = n at hnx hc ⊢
     have HNX := Lib.hid hnx
     clear hnx
     cases ok
     all_goals by_cases a0 : (0 : Int) < (k : Int)
     all_goals by_cases a1 : (97 : Int) ≤ (n : Int)
     all_goals by_cases a2 : (n : Int) ≤ 122
     all_goals by_cases a3 : (48 : Int) ≤ (n : Int)
     all_goals by_cases a4 : (n : Int) ≤ 57
     all_goals by_cases a5 : (n : Int) = 45
     all_goals first
      | (exfalso; omega)
      | skip
     all_goals
      first
       | have a6 : ((n : Int) == 45) = true := beq_iff_eq.2 a5
       | have a6 : ((n : Int) == 45) = false := beq_eq_false_iff_ne.2 a5
      have HR := HNX
      clear HNX a5
      go_wp2
      go_roundw
      case rel =>
       refine ⟨k + 1, by omega, by go_num, ?_, HB.out⟩
       have hx := HR.out
       rw [hx]
       all_goals try congr 1
       all_goals
        have b6 := a6
        simp only [beq_iff_eq, beq_eq_false_iff_ne, ne_eq] at b6
        try simp
        try omega
        try
         rw [Bool.eq_iff_iff]
         simp
         omega
      case measure => simp [intOf]; omega
    ·obtain rfl : k = s.size := by omega
     have hi2 : ¬ (s.size : Int) < (s.size : Int) := by omega
     go_wp2
     go_ret
     exact ⟨rfl, HB.out⟩
  ·have g2 : (s.size : Int) ≤ 24 := by simpa using hz2
   clear hz2
   go_enter Tryz.func127, Tryz.ntmps127
   go_wp2
   go_loopw [3, 4] (fun v3 v4 wr => ∃ k : Nat, k ≤ s.size ∧ v4 = .int .i64 k ∧ v3 = .bool (P k) ∧ Below w.heap.size w wr) (fun _ v4 _ => s.size - (intOf v4).toNat)
   case atStart => exact ⟨0, by omega, rfl, by rw [H01.out]; rfl, by go_grown⟩
   case round =>
    clear H01 g1 g2
    obtain ⟨k, hk, rfl, rfl, hb⟩ := hrel
    have HB := Lib.hid hb
    clear hb
    by_cases hlt : k < s.size
    ·have hnx := HST.out k hlt
     have hi1 : ¬ (k : Int) < 0 := by omega
     have hi2 : (k : Int) < (s.size : Int) := by omega
     have hc : s[k].toNat < 256 := s[k].toNat_lt
     have hrc : refC s[k] k = ((decide (97 ≤ s[k].toNat) && decide (s[k].toNat ≤ 122)) || (((decide (48 ≤ s[k].toNat) && decide (s[k].toNat ≤ 57)) || s[k].toNat == 45) && decide (0 < k))) := rfl
     rw [hrc] at hnx
     clear hrc
     generalize P k = ok at hnx ⊢
     generalize hcn : s[k].toNat = n at hnx hc ⊢
     have HNX := Lib.hid hnx
     clear hnx
     cases ok
     all_goals by_cases a0 : (0 : Int) < (k : Int)
     all_goals by_cases a1 : (97 : Int) ≤ (n : Int)
     all_goals by_cases a2 : (n : Int) ≤ 122
     all_goals by_cases a3 : (48 : Int) ≤ (n : Int)
     all_goals by_cases a4 : (n : Int) ≤ 57
     all_goals by_cases a5 : (n : Int) = 45
     all_goals first
      | (exfalso; omega)
      | skip
     all_goals
      first
       | have a6 : ((n : Int) == 45) = true := beq_iff_eq.2 a5
       | have a6 : ((n : Int) == 45) = false := beq_eq_false_iff_ne.2 a5
      have HR := HNX
      clear HNX a5
      go_wp2
      go_roundw
      case rel =>
       refine ⟨k + 1, by omega, by go_num, ?_, HB.out⟩
       have hx := HR.out
       rw [hx]
       all_goals try congr 1
       all_goals
        have b6 := a6
        simp only [beq_iff_eq, beq_eq_false_iff_ne, ne_eq] at b6
        try simp
        try omega
        try
         rw [Bool.eq_iff_iff]
         simp
         omega
      case measure => simp [intOf]; omega
    ·obtain rfl : k = s.size := by omega
     have hi2 : ¬ (s.size : Int) < (s.size : Int) := by omega
     go_wp2
     go_ret
     exact ⟨rfl, HB.out⟩
end Go.Proofs.YtlppdgaogdpajaaGreatDoor
