/- This text is a part of the proof: Carry, Names, Post, Open, Elems, QFReports, RefBasic, RefNames. -/
import Derived.Test.YtlppdgaogdpajaaGreatDoorK33
import Derived.Test.YtlppdgaogdpajaaGreatDoorTie
namespace Go.Proofs.YtlppdgaogdpajaaGreatDoor
open Go.RowKit
theorem cl3 {w W : World} {b0 o0 b1 o1 b2 o2 : Nat} {v0 v1 v2 : Value} (h : Below w.heap.size w W) (k0 : w.cell? ⟨b0, o0, none⟩ = some v0) (k1 : w.cell? ⟨b1, o1, none⟩ = some v1) (k2 : w.cell? ⟨b2, o2, none⟩ = some v2) : W.cell? ⟨b0, o0, none⟩ = some v0 ∧ W.cell? ⟨b1, o1, none⟩ = some v1 ∧ W.cell? ⟨b2, o2, none⟩ = some v2 :=
 ⟨cl1 h k0, cl1 h k1, cl1 h k2⟩
theorem cy3 {w W : World} {b0 o0 b1 o1 b2 o2 : Nat} {v0 v1 v2 : Value} (h : ∀ b o, b < w.heap.size → W.cell? ⟨b, o, none⟩ = w.cell? ⟨b, o, none⟩) (k0 : w.cell? ⟨b0, o0, none⟩ = some v0) (k1 : w.cell? ⟨b1, o1, none⟩ = some v1) (k2 : w.cell? ⟨b2, o2, none⟩ = some v2) : W.cell? ⟨b0, o0, none⟩ = some v0 ∧ W.cell? ⟨b1, o1, none⟩ = some v1 ∧ W.cell? ⟨b2, o2, none⟩ = some v2 :=
 ⟨(h _ _ (cell_lt k0)).trans k0, (h _ _ (cell_lt k1)).trans k1, (h _ _ (cell_lt k2)).trans k2⟩
theorem cy7 {w W : World} {b0 o0 b1 o1 b2 o2 b3 o3 b4 o4 b5 o5 b6 o6 : Nat} {v0 v1 v2 v3 v4 v5 v6 : Value} (h : ∀ b o, b < w.heap.size → W.cell? ⟨b, o, none⟩ = w.cell? ⟨b, o, none⟩) (k0 : w.cell? ⟨b0, o0, none⟩ = some v0) (k1 : w.cell? ⟨b1, o1, none⟩ = some v1) (k2 : w.cell? ⟨b2, o2, none⟩ = some v2) (k3 : w.cell? ⟨b3, o3, none⟩ = some v3) (k4 : w.cell? ⟨b4, o4, none⟩ = some v4) (k5 : w.cell? ⟨b5, o5, none⟩ = some v5) (k6 : w.cell? ⟨b6, o6, none⟩ = some v6) : W.cell? ⟨b0, o0, none⟩ = some v0 ∧ W.cell? ⟨b1, o1, none⟩ = some v1 ∧ W.cell? ⟨b2, o2, none⟩ = some v2 ∧ W.cell? ⟨b3, o3, none⟩ = some v3 ∧ W.cell? ⟨b4, o4, none⟩ = some v4 ∧ W.cell? ⟨b5, o5, none⟩ = some v5 ∧ W.cell? ⟨b6, o6, none⟩ = some v6 :=
 ⟨(h _ _ (cell_lt k0)).trans k0, (h _ _ (cell_lt k1)).trans k1, (h _ _ (cell_lt k2)).trans k2, (h _ _ (cell_lt k3)).trans k3, (h _ _ (cell_lt k4)).trans k4, (h _ _ (cell_lt k5)).trans k5, (h _ _ (cell_lt k6)).trans k6⟩
end Go.Proofs.YtlppdgaogdpajaaGreatDoor
namespace Go.Proofs.YtlppdgaogdpajaaGreatDoor
def refC (c : UInt8) (i : Nat) : Bool := (decide (97 ≤ c.toNat) && decide (c.toNat ≤ 122)) || (((decide (48 ≤ c.toNat) && decide (c.toNat ≤ 57)) || c.toNat == 45) && decide (0 < i))
def refPre (l : List UInt8) : Nat → Bool
 | 0 => decide (0 < l.length) && decide (l.length ≤ 24)
 | k + 1 => refPre l k && (match l[k]? with | some c => refC c k | none => true)
theorem refC_pos (c : UInt8) {i : Nat} (h : 0 < i) : refC c i = !badC c := by
 have hd : decide (0 < i) = true := by simpa using h
 unfold refC badC
 rw [hd, Bool.and_true, Bool.eq_iff_iff]
 simp only [Bool.or_eq_true, Bool.and_eq_true, decide_eq_true_eq, beq_iff_eq, Bool.not_eq_true', Bool.and_eq_false_iff, Bool.or_eq_false_iff, decide_eq_false_iff_not, bne_eq_false_iff_eq]
 omega
theorem refC_zero (c : UInt8) : refC c 0 = (decide (97 ≤ c.toNat) && decide (c.toNat ≤ 122)) := by
 unfold refC
 simp
theorem refPre_cons (c : UInt8) (r : List UInt8) : ∀ k, k ≤ r.length → refPre (c :: r) (k + 1) = (decide (r.length < 24) && (decide (97 ≤ c.toNat) && decide (c.toNat ≤ 122)) && (r.take k).all fun c => !badC c)
 | 0, _ => by
  simp only [refPre, List.getElem?_cons_zero, refC_zero, List.take_zero, List.all_nil, Bool.and_true, List.length_cons]
  congr 1
 | k + 1, hk => by
  have ih := refPre_cons c r k (by omega)
  rw [refPre, ih]
  have hx : (c :: r)[k + 1]? = some r[k] := by simp
  rw [hx, List.take_succ_eq_append_getElem (by omega), List.all_append]
  simp only [refC_pos r[k] (Nat.succ_pos k), List.all_cons, List.all_nil, Bool.and_true, Bool.and_assoc]
theorem refName (l : List UInt8) : refPre l l.length = nameL l := by
 cases l with
 | nil => simp [refPre, nameL]
 | cons c r =>
  have h := refPre_cons c r r.length (Nat.le_refl _)
  rw [List.length_cons, h, List.take_length, nameL]
  by_cases h1 : 97 ≤ c.toNat <;> by_cases h2 : c.toNat ≤ 122
  ·have hb : badC c = false := by
    unfold badC
    have e1 : decide (c.toNat < 97) = false := by simp; omega
    have e2 : decide (122 < c.toNat) = false := by simp; omega
    rw [e1, e2]
    rfl
   rw [List.any_cons, hb, Bool.false_or, List.not_any_eq_all_not]
   simp [h1, h2]
  all_goals simp [h1, h2]
def refTwice (l : List ByteArray) : Nat → Bool
 | 0 => false
 | k + 1 => refTwice l k || (match l[k]? with | some s => decide (idxS l s < k) | none => false)
theorem idxP_append {α : Type} (p : α → Bool) : ∀ (l r : List α) (k : Nat), idxP p (l ++ r) k = if l.any p then idxP p l k else idxP p r (k + l.length)
 | [], r, k => by simp
 | x :: l, r, k => by
  rw [List.cons_append, idxP, List.any_cons]
  cases h : p x with
  | true => simp [idxP, h]
  | false =>
   rw [idxP_append p l r (k + 1)]
   simp only [h, Bool.false_or, idxP, List.length_cons]
   rw [show k + 1 + l.length = k + (l.length + 1) by omega]
   rfl
theorem idxP_lt {α : Type} (p : α → Bool) : ∀ (l : List α) (k : Nat), l.any p = true → idxP p l k < k + l.length
 | [], _, h => by simp at h
 | x :: l, k, h => by
  rw [idxP]
  cases hx : p x with
  | true => simp; omega
  | false =>
   rw [List.any_cons, hx, Bool.false_or] at h
   have := idxP_lt p l (k + 1) h
   simp
   omega
theorem idxS_before (l : List ByteArray) (k : Nat) (s : ByteArray) (h : l[k]? = some s) : decide (idxS l s < k) = memB s (l.take k) := by
 have hk : k < l.length := (List.getElem?_eq_some_iff.1 h).1
 have hs : l[k] = s := by simpa [hk] using h
 have e : l = l.take k ++ s :: l.drop (k + 1) := by rw [← hs, ← List.drop_eq_getElem_cons hk, List.take_append_drop]
 have hany : memB s (l.take k) = (l.take k).any (fun x => decide (x = s)) := rfl
 have hlen : (l.take k).length = k := by rw [List.length_take]; omega
 rw [hany]
 unfold idxS
 have hi : idxP (fun x => decide (x = s)) l 0 = if (l.take k).any (fun x => decide (x = s)) then idxP (fun x => decide (x = s)) (l.take k) 0 else (k : Int) := by
  conv => lhs; rw [e, idxP_append]
  congr 1
  rw [idxP, hlen]
  simp
 rw [hi]
 cases ha : (l.take k).any (fun x => decide (x = s)) with
 | true =>
  have := idxP_lt (fun x => decide (x = s)) (l.take k) 0 ha
  simp
  omega
 | false => simp
theorem refTwice_take (l : List ByteArray) : ∀ k, k ≤ l.length → refTwice l k = twiceB (l.take k)
 | 0, _ => by simp [refTwice, twiceB]
 | k + 1, hk => by
  obtain ⟨s, hs⟩ : ∃ s, l[k]? = some s := ⟨l[k], by simp⟩
  have e : l.take (k + 1) = l.take k ++ [s] := by rw [List.take_add_one, hs]; rfl
  rw [refTwice, refTwice_take l k (by omega), hs, e, twiceB_append]
  show (_ || decide (idxS l s < k)) = _
  rw [idxS_before l k s hs]
theorem refTwice_all (l : List ByteArray) : refTwice l l.length = twiceB l := by
 rw [refTwice_take l l.length (Nat.le_refl _), List.take_length]
end Go.Proofs.YtlppdgaogdpajaaGreatDoor
namespace Go.Proofs.YtlppdgaogdpajaaGreatDoor
open Go.ChangeShapes Go.WideShapes Go.ChangeAt Go.RowKit
section
variable {H : Type} {enc : TypeId × Value → H} {P : Program}
theorem post_of_below {f : Func} {s : ChangeSpec} {apart fresh handsOn again : Bool} {W W' : World} {args : Array Value} {v : Value} {ds gs : List (DataW H)} {before pa pv : List MemPlace}
  (hW : DataW.Whole enc P f.params.toList s.vars apart W args.toList ds gs before)
  (hres : ∀ (b : Nat) (sp : Nat → Bool) (hd : Bool), DataW.TrodAll enc P W' b sp hd f.resultTypes.toList (v.resultList f.resultTypes.size) (s.fn H (ds ++ gs)).results [])
  (hargs : ∀ sp : Nat → Bool, (∀ p ∈ before, sp p.block = true) → DataW.TrodAll enc P W' 0 sp true f.params.toList args.toList (s.fn H (ds ++ gs)).args pa)
  (hvars : ∀ sp : Nat → Bool, (∀ p ∈ before, sp p.block = true) → DataW.TrodVars enc P W' sp s.vars (s.fn H (ds ++ gs)).vars pv)
  (hps : before = pa ++ pv) (hb : Below W.heap.size W W')
  (hok : ∀ (j : Nat) (t : TypeId) (r : Value), f.resultTypes[j]? = some t → (v.resultList f.resultTypes.size)[j]? = some r → Value.okWide P W' .any 0 t r) :
  s.post enc P f apart fresh handsOn again W args v W' := by
 have hlt : ∀ p ∈ before, p.block < W.heap.size := fun p hp => hW.lt p hp
 have hold : ∀ p ∈ before, (fun b => decide (b < W.heap.size)) p.block = true := fun p hp => by simpa using hlt p hp
 refine ⟨ds, gs, before, [], pa, pv, hW, hres _ _ _, hargs _ hold, hvars _ hold, World.keptBut_mono (fun p hp => ⟨hp, ?_⟩) (hb.frame (· ∈ before)), fun _ => ?_⟩
 ·rw [hps, List.mem_append] at hp
  exact Or.inr hp
 ·obtain ⟨_, _, _, _, _, hz, hn⟩ := hW
  refine ⟨hok, _, _, ([] ++ pa) ++ pv, ⟨[] ++ pa, pv, trodAll_append (hargs _ (fun _ _ => rfl)) (hres _ _ _), hvars _ (fun _ _ => rfl), rfl, ?_, ?_⟩, ?_⟩
  ·intro b off hp
   have hin : MemPlace.cell b off ∈ before := by rw [hps]; simpa using hp
   rw [hb.frozen (hlt _ hin)]
   exact hz b off hin
  ·intro ha
   have := hn ha
   rw [hps] at this
   simpa using this
  ·intro p hp _
   rw [hps]
   simpa using hp
end
end Go.Proofs.YtlppdgaogdpajaaGreatDoor
namespace Go.Proofs.YtlppdgaogdpajaaGreatDoor
open Go.Joins Go.ChangeShapes Go.WideShapes Go.RowKit Go.Deep
theorem staysB {H : Type} {enc : TypeId × Value → H} {W W' : World} {t : TypeId} {v : Value} {d : DataW H} {p q : List MemPlace} (h : DataW.Trod enc Tryz.prog W 0 (fun _ => true) true t v d p) (hr : Tryz.prog.readableRec t = true) (ht : decide (t < Tryz.prog.types.size) = true)
  (hb : Below W.heap.size W W') (hq : ∀ x ∈ q, x.block < W.heap.size) (hpq : ∀ x ∈ p, x ∈ q) (sp : Nat → Bool) (hs : ∀ x ∈ q, sp x.block = true) :
  DataW.Trod enc Tryz.prog W' 0 sp true t v d p :=
 WideElems.Trod_stays laidOut hr (of_decide_eq_true ht) h (fun x hx => by
  have := hq x (hpq x hx)
  cases x with
  | cell b o => exact hb.cell (p := ⟨b, o, none⟩) this
  | map b => exact hb.block b this) (fun x hx => hs x (hpq x hx))
end Go.Proofs.YtlppdgaogdpajaaGreatDoor
namespace Go.Proofs.YtlppdgaogdpajaaGreatDoor
open Go.RowKit Go.Shelf
attribute [local go_sem] Oper.semAt_some
theorem toList_eqB (a b : ByteArray) : (a.toList == b.toList) = decide (a = b) := by
 by_cases h : a = b
 ·subst h; simp
 ·have : (a.toList == b.toList) = false := by
   rw [beq_eq_false_iff_ne]
   exact fun h2 => h (toList_inj h2)
  rw [this]
  simp [h]
end Go.Proofs.YtlppdgaogdpajaaGreatDoor
namespace Go.Proofs.YtlppdgaogdpajaaGreatDoor.fellReports
open Go.ChangeShapes Go.WideShapes Go.ChangeAt Go.RowKit Go.Joins Go.Deep
theorem k0 : (Rows.fellReportsRow.wf (OpenSpec.ofChange (OpenSpec.ofChange Rows.fellReportsSpec).bare)) = true := by kernel_rfl
theorem k1 : (laidOutB Tryz.pinned.checked.prog) = true := p1
theorem k2 : (mapsRowed Tryz.pinned.checked.prog) = true := p2
theorem k3 : (Tryz.f4.params.all (Tryz.pinned.checked.prog.readableRec ·)) = true := by kernel_rfl
theorem k4 : (namedTie Tryz.pinned.checked.prog Rows.fellReportsRow.named (OpenSpec.ofChange Rows.fellReportsSpec).bare.vars) = true := by kernel_rfl
theorem k5 : ((Rows.fellReportsRow.stops == [])) = true := by kernel_rfl
theorem k6 : ((Tryz.pinned.checked.prog.stops == [])) = true := p6
theorem k7 : ((Rows.fellReportsRow.knobs == [])) = true := by kernel_rfl
theorem k8 : ((Tryz.pinned.checked.prog.stopKnobs == [])) = true := p8
theorem k9 : ((Rows.fellReportsRow.inPlace == Tryz.pinned.checked.prog.inPlace 4)) = true := by kernel_rfl
theorem k10 : ((Rows.fellReportsRow.unfollowed == Tryz.pinned.checked.prog.unfollowed 4)) = true := by kernel_rfl
theorem k11 : ((Rows.fellReportsRow.recurses == Tryz.pinned.checked.prog.recurses 4)) = true := by kernel_rfl
theorem k12 : ((Rows.fellReportsRow.named == Tryz.pinned.checked.prog.varsNamed 4)) = true := by kernel_rfl
theorem k13 : ((Rows.fellReportsRow.maps == (Tryz.f4.params.toList ++ (OpenSpec.ofChange Rows.fellReportsSpec).bare.plain.varTypes Tryz.pinned.checked.prog).any (Tryz.pinned.checked.prog.mapsRec ·))) = true := by kernel_rfl
theorem k14 : ((Rows.fellReportsRow.ifaces == (Tryz.f4.params.toList ++ (OpenSpec.ofChange Rows.fellReportsSpec).bare.plain.varTypes Tryz.pinned.checked.prog).any (Tryz.pinned.checked.prog.ifacesRec ·))) = true := by kernel_rfl
theorem k15 : ((Rows.fellReportsRow.mapsOut == Tryz.pinned.checked.prog.mapsAmong Tryz.f4.resultTypes.toList)) = true := by kernel_rfl
theorem k16 : ((Rows.fellReportsRow.loops == (Tryz.f4.params.toList ++ (OpenSpec.ofChange Rows.fellReportsSpec).bare.plain.varTypes Tryz.pinned.checked.prog).any (Tryz.pinned.checked.prog.loopsFrom ·))) = true := by kernel_rfl
theorem k17 : ((Rows.fellReportsRow.wideKeys == (Tryz.f4.params.toList ++ (OpenSpec.ofChange Rows.fellReportsSpec).bare.plain.varTypes Tryz.pinned.checked.prog ++ Tryz.f4.resultTypes.toList).any (Tryz.pinned.checked.prog.wideKeysFrom ·))) = true := by kernel_rfl
theorem k18 : ((OpenSpec.ofChange Rows.fellReportsSpec).bare.vars.all (Tryz.pinned.checked.prog.varReadable ·)) = true := by kernel_rfl
theorem k19 : (Tryz.f4.resultTypes.all (fun t => Tryz.pinned.checked.prog.readableRec t && decide (t < Tryz.pinned.checked.prog.types.size))) = true := by kernel_rfl
theorem k20 : ((Rows.fellReportsRow.ifacesOut == Tryz.f4.resultTypes.toList.any (Tryz.pinned.checked.prog.ifacesRec ·))) = true := by kernel_rfl
theorem k21 : ((Rows.fellReportsRow.loopsOut == Tryz.f4.resultTypes.toList.any (Tryz.pinned.checked.prog.loopsFrom ·))) = true := by kernel_rfl
theorem k22 : ((Rows.fellReportsRow.plainKeys == Tryz.pinned.checked.prog.plainKeys)) = true := p22
theorem k23 : (Rows.fellReportsRow.shortTexts.isNone) = true := by kernel_rfl
theorem k24 : (Tryz.pinned.checked.prog.stopsHeard) = true := p24
theorem k25 : (Tryz.pinned.checked.prog.mayEnter) = true := p25
theorem k26 : ((Rows.fellReportsRow.lifted == Tryz.pinned.checked.prog.liftsFinal)) = true := p26
theorem k27 : ((Tryz.pinned.checked.prog.make == some Rows.fellReportsRow.make)) = true := p27
theorem k28 : ((Rows.fellReportsRow.kinds == (if Rows.fellReportsRow.domain.isEmpty then [] else Tryz.f4.params.toList.map fun t => match Tryz.pinned.checked.prog.underlying t with | some (.int k) => some k | _ => none))) = true := by kernel_rfl
theorem k29 : ((Rows.fellReportsRow.pinned == Rows.fellReportsRow.pinnedBy)) = true := by kernel_rfl
theorem k30 : ((Rows.fellReportsRow.veiled == (Tryz.f4.params.toList ++ (OpenSpec.ofChange Rows.fellReportsSpec).bare.plain.varTypes Tryz.pinned.checked.prog ++ Tryz.f4.resultTypes.toList).any (Tryz.pinned.checked.prog.veiledRec ·))) = true := by kernel_rfl
theorem k31 : (Rows.fellReportsRow.veiledFits Tryz.pinned.checked.prog Tryz.f4.params.toList (Tryz.f4.params.toList ++ (OpenSpec.ofChange Rows.fellReportsSpec).bare.plain.varTypes Tryz.pinned.checked.prog ++ Tryz.f4.resultTypes.toList)) = true := by kernel_rfl
set_option maxRecDepth 100000 in
theorem facts : joinedFacts Tryz.pinned.checked.prog 4 Tryz.f4 (OpenSpec.ofChange Rows.fellReportsSpec).bare Rows.fellReportsRow = true :=
 tt (tt (tt (tt (tt (tt (tt (tt (tt (tt (tt (tt (tt (tt (tt (tt (tt (tt (tt (tt (tt (tt (tt (tt (tt (tt (tt (tt (tt (tt (tt k0 k1) k2) k3) k4) k5) k6) k7) k8) k9) k10) k11) k12) k13) k14) k15) k16) k17) k18) k19) k20) k21) k22) k23) k24) k25) k26) k27) k28) k29) k30) k31
theorem plain (f : FuncId) (fn : Func) (hf : Tryz.pinned.checked.prog.funcNamed Rows.fellReportsRow.func = some f) (hfn : Tryz.pinned.checked.prog.funcs[f]? = some fn) :
  true = Tryz.pinned.checked.prog.looks [] ∧ ∀ (j : Nat) t, fn.params[j]? = some t → Tryz.pinned.checked.prog.wantsStandIn t = false := by
 obtain rfl : f = 4 := Option.some.inj ((show Tryz.prog.funcNamed Rows.fellReportsRow.func = some 4 by kernel_rfl).symm.trans hf) |>.symm
 obtain rfl : fn = Tryz.f4 := (Option.some.inj (Tryz.func4.symm.trans hfn)).symm
 refine ⟨p_looks, fun j t ht => ?_⟩
 have hall : (Tryz.f4.params.toList.all fun t => !(Tryz.prog.wantsStandIn t)) = true := by as_aux_lemma => kernel_rfl
 have h := List.all_eq_true.1 hall t (by simpa using Array.mem_of_getElem? ht)
 have k : Tryz.prog.wantsStandIn t = false := by simpa using h
 exact k
theorem tied (said : Rows.FellReportsSaid) : Rows.FellReportsCardSaid :=
 Claim7.holds_tied_plain_at .later [] _ _ _ _ said (fun _ h => by cases h) (by as_aux_lemma => kernel_rfl) (fun _ h => by cases h) fellReports_row_tie rfl ⟨rfl, rfl⟩ (by as_aux_lemma => kernel_rfl) rfl plain (by as_aux_lemma => kernel_rfl)
end Go.Proofs.YtlppdgaogdpajaaGreatDoor.fellReports
namespace Go.Proofs.YtlppdgaogdpajaaGreatDoor
open Go.RowKit Go.Shelf
attribute [local go_sem] Oper.semAt_some
theorem c_rWithin (n lo hi : Int) (w : World) : Calls Tryz.prog 113 #[.int .i64 n, .int .i64 lo, .int .i64 hi] w fun e w' => e = .returned (.bool (rg lo hi n)) ∧ Below w.heap.size w w' := by
 by_cases h1 : lo ≤ n
 ·by_cases h2 : n ≤ hi
  ·rw [show rg lo hi n = true from rg_iff.2 ⟨h1, h2⟩]
   go_enter Tryz.func113, Tryz.ntmps113
   go_wp2
   go_ret
   exact ⟨rfl, by go_grown⟩
  ·rw [show rg lo hi n = false from rg_no (.inr h2)]
   go_enter Tryz.func113, Tryz.ntmps113
   go_wp2
   go_ret
   exact ⟨rfl, by go_grown⟩
 ·rw [show rg lo hi n = false from rg_no (.inl h1)]
  go_enter Tryz.func113, Tryz.ntmps113
  go_wp2
  go_ret
  exact ⟨rfl, by go_grown⟩
set_option maxHeartbeats 1000000 in
theorem c_rIndex (s : ByteArray) (l : List ByteArray) (a : Option Addr) (cap : Nat) (w : World) (hl : Strs w a l) :
  Calls Tryz.prog 138 #[.slice a l.length cap, .string s] w fun e w' => e = .returned (.int .i64 (idxS l s)) ∧ Below w.heap.size w w' := by
 have hlen := hl.1
 have HL := Lib.hid hl
 clear hl
 unfold idxS
 go_enter Tryz.func138, Tryz.ntmps138
 go_wp2
 go_loopw [5] (fun v5 wr => ∃ k : Nat, k ≤ l.length ∧ v5 = .int .i64 k ∧ idxP (fun x => decide (x = s)) l 0 = idxP (fun x => decide (x = s)) (l.drop k) k ∧ Below w.heap.size w wr) (fun v5 _ => l.length - (intOf v5).toNat)
 case atStart => exact ⟨0, by omega, rfl, rfl, by go_grown⟩
 case round =>
  obtain ⟨k, hk, rfl, hi, hb⟩ := hrel
  have HI := Lib.hid hi
  clear hi
  by_cases hlt : k < l.length
  ·obtain ⟨x, hx⟩ := some_at hlt
   obtain ⟨b, o, rfl, hat⟩ := (HL.out.later hb).at hx
   rw [Nat.mul_one] at hat
   have y0 := str_cell hat
   have hst := idxP_step (fun x => decide (x = s)) hx
   have HS := Lib.hid hst
   have hi1 : ¬ (k : Int) < 0 := by omega
   have hi2 : (k : Int) < (l.length : Int) := by omega
   clear hx hat hst
   by_cases he : x = s
   ·subst he
    have ht : (x.toList == x.toList) = true := by simp
    go_wp2
    go_ret
    exact ⟨by rw [HI.out, HS.out]; simp, hb⟩
   ·have ht : (x.toList == s.toList) = false := by
     rw [beq_eq_false_iff_ne]
     exact fun h => he (toList_inj h)
    have hf : decide (x = s) = false := by simpa using he
    have HF := Lib.hid hf
    have HE := Lib.hid he
    clear hf he
    go_wp2
    go_roundw
    case rel => exact ⟨k + 1, by omega, by go_num, by rw [HI.out, HS.out, HF.out]; rfl, hb⟩
    case measure => simp [intOf]; omega
  ·obtain rfl : k = l.length := by omega
   have hi2 : ¬ (l.length : Int) < (l.length : Int) := by omega
   go_wp2
   go_ret
   exact ⟨by rw [HI.out]; simp [idxP], hb⟩
theorem refPre_step {s : ByteArray} {k : Nat} (h : k < s.size) : refPre s.data.toList (k + 1) = (refPre s.data.toList k && refC s[k] k) := by
 rw [refPre]
 have e : s.data.toList[k]? = some s[k] := by
  rw [Array.getElem?_toList]
  exact Array.getElem?_eq_getElem h
 rw [e]
set_option maxRecDepth 100000 in
set_option maxHeartbeats 4000000 in
theorem c_rName (s : ByteArray) (w : World) (hs : s.size ≤ 1000000) : Calls Tryz.prog 127 #[.string s] w fun e w' => e = .returned (.bool (nameB s)) ∧ Below w.heap.size w w' := by
 have e0 : nameB s = refPre s.data.toList s.size := by
  unfold nameB
  rw [← refName]
  rfl
 have h00 : refPre s.data.toList 0 = (decide (0 < s.size) && decide (s.size ≤ 24)) := rfl
 rw [e0]
 obtain ⟨P, hP⟩ : ∃ P : Nat → Bool, ∀ k, refPre s.data.toList k = P k := ⟨_, fun _ => rfl⟩
 have hst := fun k (h : k < s.size) => refPre_step h
 simp only [hP] at hst h00 ⊢
 have HST := Lib.hid hst
 clear hst hP e0
 obtain ⟨z1, hz1⟩ : ∃ b, decide ((0 : Int) < (s.size : Int)) = b := ⟨_, rfl⟩
 obtain ⟨z2, hz2⟩ : ∃ b, decide ((s.size : Int) ≤ 24) = b := ⟨_, rfl⟩
 have h01 : P 0 = (z1 && z2) := by
  rw [h00, ← hz1, ← hz2]
  congr 1
  ·rw [Bool.eq_iff_iff, decide_eq_true_eq, decide_eq_true_eq]; omega
  ·rw [Bool.eq_iff_iff, decide_eq_true_eq, decide_eq_true_eq]; omega
 have H01 := Lib.hid h01
 clear h00 h01
 have main : ∀ (R : Bool) (hR : P 0 = R), True := fun _ _ => trivial
 clear main
 cases z1
 ·have g1 : ¬ (0 : Int) < (s.size : Int) := by simpa using hz1
  clear hz1 hz2
  have h1 : s.size = 0 := by omega
  have hp : P s.size = false := by rw [h1]; simpa using H01.out
  have HP := Lib.hid hp
  have g3 : ¬ (0 : Int) < (s.size : Int) := g1
  clear hp h1
  go_enter Tryz.func127, Tryz.ntmps127
  go_wp2
  go_loopw [3, 4] (fun v3 v4 wr => v4 = .int .i64 0 ∧ v3 = .bool false ∧ Below w.heap.size w wr) (fun _ _ _ => 0)
  case atStart => exact ⟨rfl, rfl, by go_grown⟩
  case round =>
   obtain ⟨rfl, rfl, hb⟩ := hrel
   go_wp2
   go_ret
   exact ⟨by first | rfl | (rw [HP.out]; rfl), hb⟩
 ·have g1 : (0 : Int) < (s.size : Int) := by simpa using hz1
  clear hz1
  cases z2
  ·have g2 : ¬ (s.size : Int) ≤ 24 := by simpa using hz2
   clear hz2
   go_enter Tryz.func127, Tryz.ntmps127
   go_wp2
   go_loopw [3, 4] (fun v3 v4 wr => ∃ k : Nat, k ≤ s.size ∧ v4 = .int .i64 k ∧ v3 = .bool (P k) ∧ Below w.heap.size w wr) (fun _ v4 _ => s.size - (intOf v4).toNat)
   case atStart => exact ⟨0, by omega, rfl, by rw [H01.out]; rfl, by go_grown⟩
   case round =>
    clear H01 g1 g2
    obtain ⟨k, hk, rfl, rfl, hb⟩ := hrel
    have HB := Lib.hid hb
    clear hb
    by_cases hlt : k < s.size
    ·have hnx := HST.out k hlt
     have hi1 : ¬ (k : Int) < 0 := by omega
     have hi2 : (k : Int) < (s.size : Int) := by omega
     have hc : s[k].toNat < 256 := s[k].toNat_lt
     have hrc : refC s[k] k = ((decide (97 ≤ s[k].toNat) && decide (s[k].toNat ≤ 122)) || (((decide (48 ≤ s[k].toNat) && decide (s[k].toNat ≤ 57)) || s[k].toNat == 45) && decide (0 < k))) := rfl
     rw [hrc] at hnx
     clear hrc
     generalize P k = ok at hnx ⊢
     generalize hcn : s[k].toNat = n at hnx hc ⊢
     have HNX := Lib.hid hnx
     clear hnx
     cases ok
     all_goals by_cases a0 : (0 : Int) < (k : Int)
     all_goals by_cases a1 : (97 : Int) ≤ (n : Int)
     all_goals by_cases a2 : (n : Int) ≤ 122
     all_goals by_cases a3 : (48 : Int) ≤ (n : Int)
     all_goals by_cases a4 : (n : Int) ≤ 57
     all_goals by_cases a5 : (n : Int) = 45
     all_goals first
      | (exfalso; omega)
      | skip
     all_goals
      first
       | have a6 : ((n : Int) == 45) = true := beq_iff_eq.2 a5
       | have a6 : ((n : Int) == 45) = false := beq_eq_false_iff_ne.2 a5
      have HR := HNX
      clear HNX a5
      go_wp2
      go_roundw
      case rel =>
       refine ⟨k + 1, by omega, by go_num, ?_, HB.out⟩
       have hx := HR.out
       rw [hx]
       all_goals try congr 1
       all_goals
        have b6 := a6
        simp only [beq_iff_eq, beq_eq_false_iff_ne, ne_eq] at b6
        try simp
        try omega
        try
         rw [Bool.eq_iff_iff]
         simp
         omega
      case measure => simp [intOf]; omega
    ·obtain rfl : k = s.size := by omega
     have hi2 : ¬ (s.size : Int) < (s.size : Int) := by omega
     go_wp2
     go_ret
     exact ⟨rfl, HB.out⟩
  ·have g2 : (s.size : Int) ≤ 24 := by simpa using hz2
   clear hz2
   go_enter Tryz.func127, Tryz.ntmps127
   go_wp2
   go_loopw [3, 4] (fun v3 v4 wr => ∃ k : Nat, k ≤ s.size ∧ v4 = .int .i64 k ∧ v3 = .bool (P k) ∧ Below w.heap.size w wr) (fun _ v4 _ => s.size - (intOf v4).toNat)
   case atStart => exact ⟨0, by omega, rfl, by rw [H01.out]; rfl, by go_grown⟩
   case round =>
    clear H01 g1 g2
    obtain ⟨k, hk, rfl, rfl, hb⟩ := hrel
    have HB := Lib.hid hb
    clear hb
    by_cases hlt : k < s.size
    ·have hnx := HST.out k hlt
     have hi1 : ¬ (k : Int) < 0 := by omega
     have hi2 : (k : Int) < (s.size : Int) := by omega
     have hc : s[k].toNat < 256 := s[k].toNat_lt
     have hrc : refC s[k] k = ((decide (97 ≤ s[k].toNat) && decide (s[k].toNat ≤ 122)) || (((decide (48 ≤ s[k].toNat) && decide (s[k].toNat ≤ 57)) || s[k].toNat == 45) && decide (0 < k))) := rfl
     rw [hrc] at hnx
     clear hrc
     generalize P k = ok at hnx ⊢
     generalize hcn : s[k].toNat = n at hnx hc ⊢
     have HNX := Lib.hid hnx
     clear hnx
     cases ok
     all_goals by_cases a0 : (0 : Int) < (k : Int)
     all_goals by_cases a1 : (97 : Int) ≤ (n : Int)
     all_goals by_cases a2 : (n : Int) ≤ 122
     all_goals by_cases a3 : (48 : Int) ≤ (n : Int)
     all_goals by_cases a4 : (n : Int) ≤ 57
     all_goals by_cases a5 : (n : Int) = 45
     all_goals first
      | (exfalso; omega)
      | skip
     all_goals
      first
       | have a6 : ((n : Int) == 45) = true := beq_iff_eq.2 a5
       | have a6 : ((n : Int) == 45) = false := beq_eq_false_iff_ne.2 a5
      have HR := HNX
      clear HNX a5
      go_wp2
      go_roundw
      case rel =>
       refine ⟨k + 1, by omega, by go_num, ?_, HB.out⟩
       have hx := HR.out
       rw [hx]
       all_goals try congr 1
       all_goals
        have b6 := a6
        simp only [beq_iff_eq, beq_eq_false_iff_ne, ne_eq] at b6
        try simp
        try omega
        try
         rw [Bool.eq_iff_iff]
         simp
         omega
      case measure => simp [intOf]; omega
    ·obtain rfl : k = s.size := by omega
     have hi2 : ¬ (s.size : Int) < (s.size : Int) := by omega
     go_wp2
     go_ret
     exact ⟨rfl, HB.out⟩
end Go.Proofs.YtlppdgaogdpajaaGreatDoor
namespace Go.Proofs.YtlppdgaogdpajaaGreatDoor
open Go.RowKit Go.Shelf
attribute [local go_sem] Oper.semAt_some
theorem drop_some {α : Type} {l : List α} {k : Nat} {x : α} (h : l[k]? = some x) : l.drop k = x :: l.drop (k + 1) := by
 obtain ⟨hk, rfl⟩ := List.getElem?_eq_some_iff.1 h
 exact List.drop_eq_getElem_cons hk
theorem refTwice_step {l : List ByteArray} {k : Nat} {s : ByteArray} (h : l[k]? = some s) : refTwice l (k + 1) = (refTwice l k || decide (idxS l s < k)) := by
 rw [refTwice, h]
theorem refTwice_mono {l : List ByteArray} {k : Nat} (h : refTwice l k = true) : ∀ {n : Nat}, k ≤ n → refTwice l n = true
 | 0, hk => by
  obtain rfl : k = 0 := by omega
  exact h
 | n + 1, hk => by
  by_cases e : k = n + 1
  ·subst e; exact h
  ·rw [refTwice, refTwice_mono h (by omega), Bool.true_or]
set_option maxRecDepth 100000 in
set_option maxHeartbeats 4000000 in
theorem c_rNames (m : Fm) (w : World) (hm : m.In w) : Calls Tryz.prog 110 #[m.v] w fun e w' => (∃ b1 c1 b2 c2, e = .returned (.tuple #[.slice b1 (plNames m.f.places).length c1, .slice b2 (gtNames m.f.gates).length c2]) ∧ Strs w' b1 (plNames m.f.places) ∧ Strs w' b2 (gtNames m.f.gates)) ∧ Below w.heap.size w w' := by
 have HM := Lib.hid hm
 have hlp := hm.pl.1
 have hlg := hm.gt.1
 obtain ⟨i0, hi0, hz0, hz1, hz2⟩ := info_parts str_info
 clear hm
 go_enter Tryz.func110, Tryz.ntmps110
 go_upto_region 1 with (fail)
 go_name_world W1 hW1
 have hb0 : Below w.heap.size w W1 := by subst hW1; go_grown
 obtain ⟨q0, q1, q2, q3⟩ := (show QB m W1 w.heap.size from by subst hW1; refine ⟨?_, ?_, ?_, ?_⟩ <;> go_simp)
 clear hW1 
 have HQ1 := Lib.hid (show CellsAt W1 w.heap.size 0 (feC m) from cells_4 q0 q1 q2 q3)
 have HB1 := Lib.hid hb0
 clear q0 q1 q2 q3 hb0
 go_wp2
 go_loopw [4, 6] (fun v4 v6 wr => ∃ k : Nat, k ≤ m.f.places.length ∧ v6 = .int .i64 k ∧ wr.ownsRow W1.heap.size 9 1 v4 (plNames (m.f.places.take k)).length (cellsL strC (plNames (m.f.places.take k))) ∧ Below W1.heap.size W1 wr) (fun _ v6 _ => m.f.places.length - (intOf v6).toNat)
 case atStart => exact ⟨0, by omega, rfl, own_nil _ _ _ _, Below.refl _ _⟩
 case round =>
  obtain ⟨k, hk, rfl, hown, hb⟩ := hrel
  have HO := Lib.hid hown
  clear hown
  obtain ⟨q0, q1, q2, q3⟩ := fe_cells (HQ1.out.later hb)
  clear q0 q1
  have hbw := bthen HB1.out hb
  have hzb := hb.size
  by_cases hlt : k < m.f.places.length
  ·obtain ⟨x, hx⟩ := some_at hlt
   obtain ⟨b, o, hpa, hat⟩ := (HM.out.later hbw).pl.at hx
   have y0 := (pl_cells hat).1
   have hlk : (plNames (m.f.places.take k)).length ≤ k := by unfold plNames; rw [List.length_map]; exact List.length_take_le _ _
   have HX := Lib.hid (pl_take hx)
   have hi1 : ¬ (k : Int) < 0 := by omega
   have hi2 : (k : Int) < (m.f.places.length : Int) := by omega
   rw [hpa] at q2
   clear hat hx hpa hbw q3
   go_wp2_with (at_builtin; refine stuckHere ?_)
   refine unHid ?_
   refine wpList_append_own_at _ rfl _ _ 93 rfl W1.heap.size 9 i0 _ 1 16 Tryz.underlying93 hi0 hz0 hz1 hz2 rfl (by decide) _ _ _ rfl (HO.out.alloc _) ⟨_, 0, none⟩ 1 1 [.string x.name] rfl rfl (cells_new _ #[_] _) (by simp [Value.oneCell']) (by unfold maxLen; omega) (by omega) (by simp; omega) ?_
   intro v' w1 hown' hgrow _ hat
   have hown2 : w1.ownsRow W1.heap.size 9 1 v' (plNames (m.f.places.take (k + 1))).length (cellsL strC (plNames (m.f.places.take (k + 1)))) := by
    rw [HX.out, cellsL_snoc, List.length_append]
    exact hown'
   have hbb : Below W1.heap.size W1 w1 := (hb.alloc hb.size _).trans ((kept_of_grown hgrow).below (by simp; omega) (fun j hj => (HO.out.lt j hj).1))
   have HB := Lib.hid hbb
   have HW2 := Lib.hid hown2
   clear hown' hgrow hat hown2 hbb hb q2 y0
   go_wp2
   go_roundw
   case rel => exact ⟨k + 1, by omega, by go_num, HW2.out, HB.out⟩
   case measure => simp [intOf]; omega
  ·obtain rfl : k = m.f.places.length := by omega
   have hi2 : ¬ (m.f.places.length : Int) < (m.f.places.length : Int) := by omega
   have hown := HO.out
   rw [List.take_length] at hown
   obtain ⟨b1, c1, rfl, hcap, _, hr, hnew⟩ := Lst.own strC_len hown
   have hr' := hr (by unfold plNames; rw [List.length_map]; omega)
   have HR1 := Lib.hid hr'
   clear hcap hnew hr hr' hown HO
   have HQ2 := Lib.hid (HQ1.out.later hb)
   have HB2 := Lib.hid hbw
   clear hb hbw hzb
   go_wp2
   clear q2 q3
   obtain ⟨W7, h7⟩ : ∃ x, x = wr := ⟨_, rfl⟩
   subst h7
   go_loopw [5, 7] (fun v5 v7 wr => ∃ k : Nat, k ≤ m.f.gates.length ∧ v7 = .int .i64 k ∧ wr.ownsRow W7.heap.size 9 1 v5 (gtNames (m.f.gates.take k)).length (cellsL strC (gtNames (m.f.gates.take k))) ∧ Below W7.heap.size W7 wr) (fun _ v7 _ => m.f.gates.length - (intOf v7).toNat)
   case atStart => exact ⟨0, by omega, rfl, own_nil _ _ _ _, Below.refl _ _⟩
   case round =>
    obtain ⟨k, hk, rfl, hown, hb⟩ := hrel
    have HO := Lib.hid hown
    clear hown
    obtain ⟨q0, q1, q2, q3⟩ := fe_cells (HQ2.out.later hb)
    clear q0 q1
    have hbw := bthen HB2.out hb
    have hzb := hb.size
    by_cases hlt : k < m.f.gates.length
    ·obtain ⟨x, hx⟩ := some_at hlt
     obtain ⟨b, o, hpa, hat⟩ := (HM.out.later hbw).gt.at hx
     have y0 := (gt_cells hat).1
     have hlk : (gtNames (m.f.gates.take k)).length ≤ k := by unfold gtNames; rw [List.length_map]; exact List.length_take_le _ _
     have HX := Lib.hid (gt_take hx)
     have hi1 : ¬ (k : Int) < 0 := by omega
     have hi2 : (k : Int) < (m.f.gates.length : Int) := by omega
     rw [hpa] at q3
     clear hat hx hpa hbw q2
     go_wp2_with (at_builtin; refine stuckHere ?_)
     refine unHid ?_
     refine wpList_append_own_at _ rfl _ _ 93 rfl W7.heap.size 9 i0 _ 1 16 Tryz.underlying93 hi0 hz0 hz1 hz2 rfl (by decide) _ _ _ rfl (HO.out.alloc _) ⟨_, 0, none⟩ 1 1 [.string x.name] rfl rfl (cells_new _ #[_] _) (by simp [Value.oneCell']) (by unfold maxLen; omega) (by omega) (by simp; omega) ?_
     intro v' w1 hown' hgrow _ hat
     have hown2 : w1.ownsRow W7.heap.size 9 1 v' (gtNames (m.f.gates.take (k + 1))).length (cellsL strC (gtNames (m.f.gates.take (k + 1)))) := by
      rw [HX.out, cellsL_snoc, List.length_append]
      exact hown'
     have hbb : Below W7.heap.size W7 w1 := (hb.alloc hb.size _).trans ((kept_of_grown hgrow).below (by simp; omega) (fun j hj => (HO.out.lt j hj).1))
     have HB := Lib.hid hbb
     have HW2 := Lib.hid hown2
     clear hown' hgrow hat hown2 hbb hb q3 y0
     go_wp2
     go_roundw
     case rel => exact ⟨k + 1, by omega, by go_num, HW2.out, HB.out⟩
     case measure => simp [intOf]; omega
    ·obtain rfl : k = m.f.gates.length := by omega
     have hi2 : ¬ (m.f.gates.length : Int) < (m.f.gates.length : Int) := by omega
     have hown := HO.out
     rw [List.take_length] at hown
     obtain ⟨b2, c2, rfl, hcap, _, hr, hnew⟩ := Lst.own strC_len hown
     have hr' := hr (by unfold gtNames; rw [List.length_map]; omega)
     have HR2 := Lib.hid hr'
     clear hcap hnew hr hr' hown HO
     have HR3 := Lib.hid (HR1.out.later hb)
     go_wp2
     go_ret2
     exact ⟨⟨_, _, _, ⟨_, rfl⟩, HR3.out, HR2.out⟩, hbw⟩
 
set_option maxHeartbeats 1000000 in
theorem c_rNamed (l : List ByteArray) (a : Option Addr) (cap : Nat) (w : World) (hl : Strs w a l) (hs : ∀ s ∈ l, s.size ≤ 1000000) :
  Calls Tryz.prog 111 #[.slice a l.length cap] w fun e w' => e = .returned (.bool (l.all nameB)) ∧ Below w.heap.size w w' := by
 have hlen := hl.1
 have HL := Lib.hid hl
 clear hl
 go_enter Tryz.func111, Tryz.ntmps111
 go_wp2
 go_loopw [3] (fun v3 wr => ∃ k : Nat, k ≤ l.length ∧ v3 = .int .i64 k ∧ l.all nameB = (l.drop k).all nameB ∧ Below w.heap.size w wr) (fun v3 _ => l.length - (intOf v3).toNat)
 case atStart => exact ⟨0, by omega, rfl, rfl, by go_grown⟩
 case round =>
  obtain ⟨k, hk, rfl, hi, hb⟩ := hrel
  have HI := Lib.hid hi
  clear hi
  by_cases hlt : k < l.length
  ·obtain ⟨x, hx⟩ := some_at hlt
   obtain ⟨b, o, rfl, hat⟩ := (HL.out.later hb).at hx
   rw [Nat.mul_one] at hat
   have y0 := str_cell hat
   have hst : (l.drop k).all nameB = (nameB x && (l.drop (k + 1)).all nameB) := by rw [drop_some hx, List.all_cons]
   have HS := Lib.hid hst
   have hi1 : ¬ (k : Int) < 0 := by omega
   have hi2 : (k : Int) < (l.length : Int) := by omega
   have hN := fun W => c_rName x W (hs x (some_mem hx))
   generalize hnb : nameB x = nb at *
   have HN := Lib.hid hN
   clear hx hat hst hN hs hnb
   go_wp2_with fail
   refine (HN.out _).mono ?_
   rintro e W1 ⟨rfl, hB⟩
   have HB := Lib.hid (bthen hb hB)
   clear hb hB y0
   cases nb
   ·go_wp2
    go_ret
    exact ⟨by rw [HI.out, HS.out]; rfl, HB.out⟩
   ·go_wp2
    go_roundw
    case rel => exact ⟨k + 1, by omega, by go_num, by rw [HI.out, HS.out, Bool.true_and], HB.out⟩
    case measure => simp [intOf]; omega
  ·obtain rfl : k = l.length := by omega
   have hi2 : ¬ (l.length : Int) < (l.length : Int) := by omega
   go_wp2
   go_ret
   exact ⟨by rw [HI.out, List.drop_length]; rfl, hb⟩
set_option maxHeartbeats 1000000 in
theorem c_rTwice (l : List ByteArray) (a : Option Addr) (cap : Nat) (w : World) (hl : Strs w a l) :
  Calls Tryz.prog 112 #[.slice a l.length cap] w fun e w' => e = .returned (.bool (twiceB l)) ∧ Below w.heap.size w w' := by
 have hlen := hl.1
 have HL := Lib.hid hl
 clear hl
 rw [← refTwice_all]
 go_enter Tryz.func112, Tryz.ntmps112
 go_wp2
 go_loopw [3] (fun v3 wr => ∃ k : Nat, k ≤ l.length ∧ v3 = .int .i64 k ∧ refTwice l k = false ∧ Below w.heap.size w wr) (fun v3 _ => l.length - (intOf v3).toNat)
 case atStart => exact ⟨0, by omega, rfl, rfl, by go_grown⟩
 case round =>
  obtain ⟨k, hk, rfl, hi, hb⟩ := hrel
  have HI := Lib.hid hi
  clear hi
  by_cases hlt : k < l.length
  ·obtain ⟨x, hx⟩ := some_at hlt
   have hst : refTwice l (k + 1) = (refTwice l k || decide (idxS l x < k)) := refTwice_step hx
   have hmo := fun h (hk : k + 1 ≤ l.length) => refTwice_mono (l := l) (k := k + 1) (n := l.length) h hk
   have hal := HL.out.later hb
   have hIX := fun W (hb2 : Below w.heap.size w W) => c_rIndex x l a cap W (HL.out.later hb2)
   obtain ⟨b, o, rfl, hat⟩ := hal.at hx
   rw [Nat.mul_one] at hat
   have y0 := str_cell hat
   have hi1 : ¬ (k : Int) < 0 := by omega
   have hi2 : (k : Int) < (l.length : Int) := by omega
   rw [HI.out, Bool.false_or] at hst
   generalize idxS l x = ix at *
   have HS := Lib.hid hst
   have HX := Lib.hid hIX
   have HMO := Lib.hid hmo
   clear hx hat hst hIX hal hmo
   go_wp2_with fail
   refine (HX.out _ hb).mono ?_
   rintro e W1 ⟨rfl, hB⟩
   have HB := Lib.hid (bthen hb hB)
   clear hb hB y0
   by_cases h0 : ix < (k : Int)
   ·go_wp2
    go_ret
    exact ⟨by rw [HMO.out (by rw [HS.out]; exact decide_eq_true h0) (by omega)]; rfl, HB.out⟩
   ·go_wp2
    go_roundw
    case rel => exact ⟨k + 1, by omega, by go_num, by rw [HS.out]; exact decide_eq_false (by omega), HB.out⟩
    case measure => simp [intOf]; omega
  ·obtain rfl : k = l.length := by omega
   have hi2 : ¬ (l.length : Int) < (l.length : Int) := by omega
   go_wp2
   go_ret
   exact ⟨by rw [HI.out]; rfl, hb⟩
end Go.Proofs.YtlppdgaogdpajaaGreatDoor
