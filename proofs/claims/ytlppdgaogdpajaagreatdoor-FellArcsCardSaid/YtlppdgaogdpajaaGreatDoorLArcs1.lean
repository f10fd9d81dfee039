/- This text is a part of the proof: Carry, Post, Open, Shape, NumberArc, NumbersLaw, RefDigits, WaysLaw, CountLaw, RefName. -/
import Derived.Test.YtlppdgaogdpajaaGreatDoorM3
set_option maxRecDepth 100000
set_option maxHeartbeats 4000000
namespace Go.Proofs.YtlppdgaogdpajaaGreatDoor
open Go.RowKit
theorem cy3 {w W : World} {b0 o0 b1 o1 b2 o2 : Nat} {v0 v1 v2 : Value} (h : ∀ b o, b < w.heap.size → W.cell? ⟨b, o, none⟩ = w.cell? ⟨b, o, none⟩) (k0 : w.cell? ⟨b0, o0, none⟩ = some v0) (k1 : w.cell? ⟨b1, o1, none⟩ = some v1) (k2 : w.cell? ⟨b2, o2, none⟩ = some v2) : W.cell? ⟨b0, o0, none⟩ = some v0 ∧ W.cell? ⟨b1, o1, none⟩ = some v1 ∧ W.cell? ⟨b2, o2, none⟩ = some v2 :=
 ⟨(h _ _ (cell_lt k0)).trans k0, (h _ _ (cell_lt k1)).trans k1, (h _ _ (cell_lt k2)).trans k2⟩
end Go.Proofs.YtlppdgaogdpajaaGreatDoor
namespace Go.Proofs.YtlppdgaogdpajaaGreatDoor
open Go.ChangeShapes Go.WideShapes Go.ChangeAt Go.RowKit
section
variable {H : Type} {enc : TypeId × Value → H} {P : Program}
theorem post_of_below {f : Func} {s : ChangeSpec} {apart fresh handsOn again : Bool} {W W' : World} {args : Array Value} {v : Value} {ds gs : List (DataW H)} {before pa pv : List MemPlace}
  (hW : DataW.Whole enc P f.params.toList s.vars apart W args.toList ds gs before)
  (hres : ∀ (b : Nat) (sp : Nat → Bool) (hd : Bool), DataW.TrodAll enc P W' b sp hd f.resultTypes.toList (v.resultList f.resultTypes.size) (s.fn H (ds ++ gs)).results [])
  (hargs : ∀ sp : Nat → Bool, (∀ p ∈ before, sp p.block = true) → DataW.TrodAll enc P W' 0 sp true f.params.toList args.toList (s.fn H (ds ++ gs)).args pa)
  (hvars : ∀ sp : Nat → Bool, (∀ p ∈ before, sp p.block = true) → DataW.TrodVars enc P W' sp s.vars (s.fn H (ds ++ gs)).vars pv)
  (hps : before = pa ++ pv) (hb : Below W.heap.size W W')
  (hok : ∀ (j : Nat) (t : TypeId) (r : Value), f.resultTypes[j]? = some t → (v.resultList f.resultTypes.size)[j]? = some r → Value.okWide P W' .any 0 t r) :
  s.post enc P f apart fresh handsOn again W args v W' := by
 have hlt : ∀ p ∈ before, p.block < W.heap.size := fun p hp => hW.lt p hp
 have hold : ∀ p ∈ before, (fun b => decide (b < W.heap.size)) p.block = true := fun p hp => by simpa using hlt p hp
 refine ⟨ds, gs, before, [], pa, pv, hW, hres _ _ _, hargs _ hold, hvars _ hold, World.keptBut_mono (fun p hp => ⟨hp, ?_⟩) (hb.frame (· ∈ before)), fun _ => ?_⟩
 ·rw [hps, List.mem_append] at hp
  exact Or.inr hp
 ·obtain ⟨_, _, _, _, _, hz, hn⟩ := hW
  refine ⟨hok, _, _, ([] ++ pa) ++ pv, ⟨[] ++ pa, pv, trodAll_append (hargs _ (fun _ _ => rfl)) (hres _ _ _), hvars _ (fun _ _ => rfl), rfl, ?_, ?_⟩, ?_⟩
  ·intro b off hp
   have hin : MemPlace.cell b off ∈ before := by rw [hps]; simpa using hp
   rw [hb.frozen (hlt _ hin)]
   exact hz b off hin
  ·intro ha
   have := hn ha
   rw [hps] at this
   simpa using this
  ·intro p hp _
   rw [hps]
   simpa using hp
end
end Go.Proofs.YtlppdgaogdpajaaGreatDoor
namespace Go.Proofs.YtlppdgaogdpajaaGreatDoor
open Go.Joins Go.ChangeShapes Go.WideShapes Go.RowKit Go.Deep
theorem staysB {H : Type} {enc : TypeId × Value → H} {W W' : World} {t : TypeId} {v : Value} {d : DataW H} {p q : List MemPlace} (h : DataW.Trod enc Tryz.prog W 0 (fun _ => true) true t v d p) (hr : Tryz.prog.readableRec t = true) (ht : decide (t < Tryz.prog.types.size) = true)
  (hb : Below W.heap.size W W') (hq : ∀ x ∈ q, x.block < W.heap.size) (hpq : ∀ x ∈ p, x ∈ q) (sp : Nat → Bool) (hs : ∀ x ∈ q, sp x.block = true) :
  DataW.Trod enc Tryz.prog W' 0 sp true t v d p :=
 WideElems.Trod_stays laidOut hr (of_decide_eq_true ht) h (fun x hx => by
  have := hq x (hpq x hx)
  cases x with
  | cell b o => exact hb.cell (p := ⟨b, o, none⟩) this
  | map b => exact hb.block b this) (fun x hx => hs x (hpq x hx))
end Go.Proofs.YtlppdgaogdpajaaGreatDoor
namespace Go.Proofs.YtlppdgaogdpajaaGreatDoor
open Go.RowKit Go.Shelf
attribute [local go_sem] Oper.semAt_some
theorem c_Nodes_no (m : Fm) (w : World) (hm : m.In w) (h : checkE m.f ≠ 0) : Calls Tryz.prog 58 #[m.v] w fun e w' => e = .returned (.int .i64 0) ∧ Below w.heap.size w w' := by
 have hC := fun W (hb : Below w.heap.size w W) => c_CheckFell m W (hm.later hb)
 generalize checkE m.f = E at *
 have he : (E != 0) = true := bne_iff_ne.2 h
 have HC := Lib.hid hC
 clear hm hC h
 unfold Fm.v at *
 go_enter Tryz.func58, Tryz.ntmps58
 go_upto_region 1 with (fail)
 go_name_world W1 hW1
 have hb0 : Below w.heap.size w W1 := by subst hW1; go_grown
 obtain ⟨q0, q1, q2, q3⟩ := (show QB m W1 w.heap.size from by subst hW1; and_intros <;> go_simp)
 clear hW1 
 go_wp2_with fail
 refine (via (w0 := W1) (by go_grown) (HC.out _ hb0)).mono ?_
 rintro e W2 ⟨rfl, hc, hf, hz, hB⟩
 have zz := cy4 hc q0 q1 q2 q3
 clear q0 q1 q2 q3
 obtain ⟨q0, q1, q2, q3⟩ := zz
 replace hb0 : Below w.heap.size w W2 := bthen hb0 hB
 have hzW2 : W1.heap.size ≤ W2.heap.size := hz
 clear hc hf hB hz
 go_wp2_with fail
 go_ret
 exact ⟨rfl, by have hbz := hb0.size; go_grown⟩
theorem c_Arcs_no (m : Fm) (w : World) (hm : m.In w) (h : checkE m.f ≠ 0) : Calls Tryz.prog 60 #[m.v] w fun e w' => e = .returned (.int .i64 0) ∧ Below w.heap.size w w' := by
 have hC := fun W (hb : Below w.heap.size w W) => c_CheckFell m W (hm.later hb)
 generalize checkE m.f = E at *
 have he : (E != 0) = true := bne_iff_ne.2 h
 have HC := Lib.hid hC
 clear hm hC h
 unfold Fm.v at *
 go_enter Tryz.func60, Tryz.ntmps60
 go_upto_region 1 with (fail)
 go_name_world W1 hW1
 have hb0 : Below w.heap.size w W1 := by subst hW1; go_grown
 obtain ⟨q0, q1, q2, q3⟩ := (show QB m W1 w.heap.size from by subst hW1; and_intros <;> go_simp)
 clear hW1 
 go_wp2_with fail
 refine (via (w0 := W1) (by go_grown) (HC.out _ hb0)).mono ?_
 rintro e W2 ⟨rfl, hc, hf, hz, hB⟩
 have zz := cy4 hc q0 q1 q2 q3
 clear q0 q1 q2 q3
 obtain ⟨q0, q1, q2, q3⟩ := zz
 replace hb0 : Below w.heap.size w W2 := bthen hb0 hB
 have hzW2 : W1.heap.size ≤ W2.heap.size := hz
 clear hc hf hB hz
 go_wp2_with fail
 go_ret
 exact ⟨rfl, by have hbz := hb0.size; go_grown⟩
theorem asked_one {f : Fe} {p : Int} (h : checkE f = 0) : askedE f [p] = if rg 0 ((f.places.length : Int) - 1) p = false then 50 else 0 := by
 unfold askedE offB
 rw [if_neg (by omega)]
 rw [List.any_cons, List.any_nil, Bool.or_false]
 cases rg 0 ((f.places.length : Int) - 1) p <;> rfl
theorem c_askedOne (m : Fm) (p : Int) (w : World) (hm : m.In w) :
  Calls Tryz.prog 141 #[m.v, .slice (some ⟨w.heap.size, 0, none⟩) 1 1] (w.alloc (.cells #[.int .i64 p] 3)) fun e w' => e = .returned (.int .i64 (askedE m.f [p])) ∧ Below (w.alloc (.cells #[.int .i64 p] 3)).heap.size (w.alloc (.cells #[.int .i64 p] 3)) w' :=
 c_asked m [p] (some ⟨w.heap.size, 0, none⟩) 1 _ (hm.later (show Below w.heap.size w _ from by go_grown)) (Lst.new numC_len w [p] 3 (by simp))
theorem c_NumberArc_no (m : Fm) (p t : Int) (w : World) (hm : m.In w) (h : checkE m.f ≠ 0) :
  Calls Tryz.prog 53 #[m.v, .int .i64 p, .int .i64 t] w fun e w' => e = .returned (pairV (0, checkE m.f)) ∧ Below w.heap.size w w' := by
 have hC := fun W (hb : Below w.heap.size w W) => c_CheckFell m W (hm.later hb)
 generalize checkE m.f = E at *
 have he : (E != 0) = true := bne_iff_ne.2 h
 have HC := Lib.hid hC
 clear hC h hm
 go_enter Tryz.func53, Tryz.ntmps53
 go_upto_region 1 with (fail)
 go_name_world W1 hW1
 have hb0 : Below w.heap.size w W1 := by subst hW1; go_grown
 obtain ⟨q0, q1, q2, q3⟩ := (show QB m W1 w.heap.size from by subst hW1; and_intros <;> go_simp)
 clear hW1 
 go_wp2_with fail
 refine (via (w0 := W1) (by go_grown) (HC.out _ hb0)).mono ?_
 rintro e W2 ⟨rfl, hc, hf, hz, hB⟩
 have zz := cy4 hc q0 q1 q2 q3
 clear q0 q1 q2 q3
 obtain ⟨q0, q1, q2, q3⟩ := zz
 replace hb0 : Below w.heap.size w W2 := bthen hb0 hB
 have hzW2 : W1.heap.size ≤ W2.heap.size := hz
 clear hc hf hB hz
 go_wp2_with fail
 go_ret2
 exact ⟨rfl, by have hbz := hb0.size; go_grown⟩
theorem c_NumberArc_tick (m : Fm) (p t : Int) (w : World) (hm : m.In w) (h : checkE m.f = 0) (h2 : rg 0 m.f.ticks t = false) :
  Calls Tryz.prog 53 #[m.v, .int .i64 p, .int .i64 t] w fun e w' => e = .returned (pairV (0, 1)) ∧ Below w.heap.size w w' := by
 have hC := fun W (hb : Below w.heap.size w W) => c_CheckFell m W (hm.later hb)
 rw [h] at hC
 have HC := Lib.hid hC
 have HT := Lib.hid (fun W => c_tick_f m t W h2)
 clear hC h hm h2
 go_enter Tryz.func53, Tryz.ntmps53
 go_upto_region 1 with (fail)
 go_name_world W1 hW1
 have hb0 : Below w.heap.size w W1 := by subst hW1; go_grown
 obtain ⟨q0, q1, q2, q3⟩ := (show QB m W1 w.heap.size from by subst hW1; and_intros <;> go_simp)
 clear hW1 
 go_wp2_with fail
 refine (via (w0 := W1) (by go_grown) (HC.out _ hb0)).mono ?_
 rintro e W2 ⟨rfl, hc, hf, hz, hB⟩
 have zz := cy4 hc q0 q1 q2 q3
 clear q0 q1 q2 q3
 obtain ⟨q0, q1, q2, q3⟩ := zz
 replace hb0 : Below w.heap.size w W2 := bthen hb0 hB
 have hzW2 : W1.heap.size ≤ W2.heap.size := hz
 clear hc hf hB hz
 go_wp2_with fail
 refine (via (w0 := W2) (by go_grown) (HT.out _)).mono ?_
 rintro e W3 ⟨rfl, hc, hf, hz, hB⟩
 have zz := cy4 hc q0 q1 q2 q3
 clear q0 q1 q2 q3
 obtain ⟨q0, q1, q2, q3⟩ := zz
 replace hb0 : Below w.heap.size w W3 := bthen hb0 hB
 have hzW3 : W2.heap.size ≤ W3.heap.size := hz
 clear hc hf hB hz
 go_wp2_with fail
 go_ret2
 exact ⟨rfl, by have hbz := hb0.size; go_grown⟩
theorem c_NumberArc_off (m : Fm) (p t : Int) (w : World) (hm : m.In w) (h : checkE m.f = 0) (h2 : rg 0 m.f.ticks t = true) (h3 : rg 0 ((m.f.places.length : Int) - 1) p = false) :
  Calls Tryz.prog 53 #[m.v, .int .i64 p, .int .i64 t] w fun e w' => e = .returned (pairV (0, 50)) ∧ Below w.heap.size w w' := by
 have hC := fun W (hb : Below w.heap.size w W) => c_CheckFell m W (hm.later hb)
 rw [h] at hC
 have HC := Lib.hid hC
 have HT := Lib.hid (fun W => c_tick_t m t W h2)
 have hA := fun W (hb : Below w.heap.size w W) => c_askedOne m p W (hm.later hb)
 rw [asked_one h, h3] at hA
 have hA2 : ∀ W (hb : Below w.heap.size w W), Calls Tryz.prog 141 #[m.v, .slice (some ⟨W.heap.size, 0, none⟩) 1 1] (W.alloc (.cells #[.int .i64 p] 3)) fun e w' => e = .returned (.int .i64 50) ∧ Below (W.alloc (.cells #[.int .i64 p] 3)).heap.size (W.alloc (.cells #[.int .i64 p] 3)) w' := hA
 have HA := Lib.hid hA2
 clear hA hA2
 clear hC h hm h2 h3
 go_enter Tryz.func53, Tryz.ntmps53
 go_upto_region 1 with (fail)
 go_name_world W1 hW1
 have hb0 : Below w.heap.size w W1 := by subst hW1; go_grown
 obtain ⟨q0, q1, q2, q3⟩ := (show QB m W1 w.heap.size from by subst hW1; and_intros <;> go_simp)
 clear hW1 
 go_wp2_with fail
 refine (via (w0 := W1) (by go_grown) (HC.out _ hb0)).mono ?_
 rintro e W2 ⟨rfl, hc, hf, hz, hB⟩
 have zz := cy4 hc q0 q1 q2 q3
 clear q0 q1 q2 q3
 obtain ⟨q0, q1, q2, q3⟩ := zz
 replace hb0 : Below w.heap.size w W2 := bthen hb0 hB
 have hzW2 : W1.heap.size ≤ W2.heap.size := hz
 clear hc hf hB hz
 go_wp2_with fail
 refine (via (w0 := W2) (by go_grown) (HT.out _)).mono ?_
 rintro e W3 ⟨rfl, hc, hf, hz, hB⟩
 have zz := cy4 hc q0 q1 q2 q3
 clear q0 q1 q2 q3
 obtain ⟨q0, q1, q2, q3⟩ := zz
 replace hb0 : Below w.heap.size w W3 := bthen hb0 hB
 have hzW3 : W2.heap.size ≤ W3.heap.size := hz
 clear hc hf hB hz
 go_wp2_with fail
 refine (via (w0 := W3) (by go_grown) (HA.out _ hb0)).mono ?_
 rintro e W4 ⟨rfl, hc, hf, hz, hB⟩
 have zz := cy4 hc q0 q1 q2 q3
 clear q0 q1 q2 q3
 obtain ⟨q0, q1, q2, q3⟩ := zz
 replace hb0 : Below w.heap.size w W4 := bthen hb0 hB
 have hzW4 : W3.heap.size ≤ W4.heap.size := hz
 clear hc hf hB hz
 go_wp2_with fail
 go_ret2
 exact ⟨rfl, by have hbz := hb0.size; go_grown⟩
theorem c_NumberArc_ok (m : Fm) (p t : Int) (w : World) (hm : m.In w) (h : checkE m.f = 0) (h2 : rg 0 m.f.ticks t = true) (h3 : rg 0 ((m.f.places.length : Int) - 1) p = true) :
  Calls Tryz.prog 53 #[m.v, .int .i64 p, .int .i64 t] w fun e w' => e = .returned (pairV (idxN m.f 1 p t, 0)) ∧ Below w.heap.size w w' := by
 have hC := fun W (hb : Below w.heap.size w W) => c_CheckFell m W (hm.later hb)
 rw [h] at hC
 have HC := Lib.hid hC
 have HT := Lib.hid (fun W => c_tick_t m t W h2)
 have hA := fun W (hb : Below w.heap.size w W) => c_askedOne m p W (hm.later hb)
 rw [asked_one h, h3] at hA
 have hA2 : ∀ W (hb : Below w.heap.size w W), Calls Tryz.prog 141 #[m.v, .slice (some ⟨W.heap.size, 0, none⟩) 1 1] (W.alloc (.cells #[.int .i64 p] 3)) fun e w' => e = .returned (.int .i64 0) ∧ Below (W.alloc (.cells #[.int .i64 p] 3)).heap.size (W.alloc (.cells #[.int .i64 p] 3)) w' := hA
 have HA := Lib.hid hA2
 clear hA hA2
 have hs := (right_of h).small
 have hp := rg_iff.1 h3
 have ht := rg_iff.1 h2
 have hN := fun W => c_number m ⟨0, 0, 0, 0, ⟨#[]⟩, p, t, 0, 0, 0⟩ W hs.p8 hp.1 (show p ≤ 100 by have := hs.p8; omega) ht.1 (show t ≤ 100 by have := hs.t24; omega)
 have HN := Lib.hid hN
 clear hN hs hp ht
 clear hC h hm h2 h3
 go_enter Tryz.func53, Tryz.ntmps53
 go_upto_region 1 with (fail)
 go_name_world W1 hW1
 have hb0 : Below w.heap.size w W1 := by subst hW1; go_grown
 obtain ⟨q0, q1, q2, q3⟩ := (show QB m W1 w.heap.size from by subst hW1; and_intros <;> go_simp)
 clear hW1 
 go_wp2_with fail
 refine (via (w0 := W1) (by go_grown) (HC.out _ hb0)).mono ?_
 rintro e W2 ⟨rfl, hc, hf, hz, hB⟩
 have zz := cy4 hc q0 q1 q2 q3
 clear q0 q1 q2 q3
 obtain ⟨q0, q1, q2, q3⟩ := zz
 replace hb0 : Below w.heap.size w W2 := bthen hb0 hB
 have hzW2 : W1.heap.size ≤ W2.heap.size := hz
 clear hc hf hB hz
 go_wp2_with fail
 refine (via (w0 := W2) (by go_grown) (HT.out _)).mono ?_
 rintro e W3 ⟨rfl, hc, hf, hz, hB⟩
 have zz := cy4 hc q0 q1 q2 q3
 clear q0 q1 q2 q3
 obtain ⟨q0, q1, q2, q3⟩ := zz
 replace hb0 : Below w.heap.size w W3 := bthen hb0 hB
 have hzW3 : W2.heap.size ≤ W3.heap.size := hz
 clear hc hf hB hz
 go_wp2_with fail
 refine (via (w0 := W3) (by go_grown) (HA.out _ hb0)).mono ?_
 rintro e W4 ⟨rfl, hc, hf, hz, hB⟩
 have zz := cy4 hc q0 q1 q2 q3
 clear q0 q1 q2 q3
 obtain ⟨q0, q1, q2, q3⟩ := zz
 replace hb0 : Below w.heap.size w W4 := bthen hb0 hB
 have hzW4 : W3.heap.size ≤ W4.heap.size := hz
 clear hc hf hB hz
 go_wp2_with fail
 refine (via (w0 := W4) (by go_grown) (HN.out _)).mono ?_
 rintro e W5 ⟨rfl, hc, hf, hz, hB⟩
 have zz := cy4 hc q0 q1 q2 q3
 clear q0 q1 q2 q3
 obtain ⟨q0, q1, q2, q3⟩ := zz
 replace hb0 : Below w.heap.size w W5 := bthen hb0 hB
 have hzW5 : W4.heap.size ≤ W5.heap.size := hz
 clear hc hf hB hz
 go_wp2_with fail
 go_ret2
 exact ⟨rfl, by have hbz := hb0.size; go_grown⟩
theorem c_NumberArc (m : Fm) (p t : Int) (w : World) (hm : m.In w) :
  Calls Tryz.prog 53 #[m.v, .int .i64 p, .int .i64 t] w fun e w' => e = .returned (pairV (numberArcV m.f p t)) ∧ Below w.heap.size w w' := by
 unfold numberArcV
 by_cases h : checkE m.f = 0
 ·rw [if_neg (by omega)]
  by_cases h2 : rg 0 m.f.ticks t = false
  ·rw [if_pos h2]; exact c_NumberArc_tick m p t w hm h h2
  ·rw [if_neg h2]
   by_cases h3 : rg 0 ((m.f.places.length : Int) - 1) p = false
   ·rw [if_pos h3]; exact c_NumberArc_off m p t w hm h (by simpa using h2) h3
   ·rw [if_neg h3]; exact c_NumberArc_ok m p t w hm h (by simpa using h2) (by simpa using h3)
 ·rw [if_pos h]; exact c_NumberArc_no m p t w hm h
end Go.Proofs.YtlppdgaogdpajaaGreatDoor
namespace Go.Proofs.YtlppdgaogdpajaaGreatDoor
theorem right_ticks {f : Fe} (h : checkE f = 0) : 0 ≤ f.ticks := by have := (right_of h).t1; omega
end Go.Proofs.YtlppdgaogdpajaaGreatDoor
namespace Go.Proofs.YtlppdgaogdpajaaGreatDoor
open Go Go.RowKit Go.Shelf
attribute [local go_sem] Oper.semAt_some
theorem itoa_dec (u : Nat) : itoaS (u : Int) = ⟨(Lib.decDigits u).toArray⟩ := by
 unfold itoaS
 rw [Lib.itoa_nonneg]
theorem conv1 (c : UInt8) (n : Int) (hn : n = (c.toNat : Int)) (w : World) : (convert 185 9 (.slice (some ⟨w.heap.size, 0, none⟩) 1 1)).run Tryz.prog (w.alloc (.cells #[.int .u8 n] 5)) = .ok (.string ⟨#[c]⟩) (w.alloc (.cells #[.int .u8 n] 5)) := by
 subst hn
 have := run_convert_bytes_back (P := Tryz.prog) (w.alloc (.cells #[.int .u8 (c.toNat : Int)] 5)) 185 9 5 ⟨w.heap.size, 0, none⟩ 1 [c] Tryz.underlying185 Tryz.underlying5 Tryz.underlying9 (fun j hj => by
  have h0 : j = 0 := by simp at hj; omega
  subst h0
  exact cells_new w #[_] _ 0 _ rfl)
 exact this
theorem itoa_sized {u : Nat} (h : u ≤ 1000000000) : (itoaS (u : Int)).size ≤ 30 := by
 have := Lib.itoa_length_le (u : Int) (by omega) (by omega)
 unfold itoaS
 simp [ByteArray.size]
 omega
theorem itoa_one {u : Nat} (h : u < 10) : itoaS (u : Int) = ⟨#[UInt8.ofNat (48 + u)]⟩ := by
 rw [itoa_dec, Lib.decDigits_one h]
theorem itoa_more {u : Nat} (h : ¬ u < 10) : itoaS (u : Int) = itoaS ((u / 10 : Nat) : Int) ++ itoaS ((u % 10 : Nat) : Int) := by
 rw [itoa_dec, itoa_dec, itoa_dec, Lib.decDigits, dif_neg h, Lib.decDigits_one (Nat.mod_lt _ (by decide))]
 apply congrArg ByteArray.mk
 simp
theorem c_rDigits1 (u : Nat) (h : u < 10) (w : World) : Calls Tryz.prog 114 #[.int .i64 u] w fun e w' => e = .returned (.string (itoaS u)) ∧ Below w.heap.size w w' := by
 rw [itoa_one h]
 have h2 : u = 0 ∨ u = 1 ∨ u = 2 ∨ u = 3 ∨ u = 4 ∨ u = 5 ∨ u = 6 ∨ u = 7 ∨ u = 8 ∨ u = 9 := by omega
 clear h
 rcases h2 with rfl | rfl | rfl | rfl | rfl | rfl | rfl | rfl | rfl | rfl
 ·have hcv := conv1 48 48 rfl w
  go_enter Tryz.func114, Tryz.ntmps114
  go_wp2
  go_ret
  exact ⟨rfl, by go_grown⟩
 ·have hcv := conv1 49 49 rfl w
  go_enter Tryz.func114, Tryz.ntmps114
  go_wp2
  go_ret
  exact ⟨rfl, by go_grown⟩
 ·have hcv := conv1 50 50 rfl w
  go_enter Tryz.func114, Tryz.ntmps114
  go_wp2
  go_ret
  exact ⟨rfl, by go_grown⟩
 ·have hcv := conv1 51 51 rfl w
  go_enter Tryz.func114, Tryz.ntmps114
  go_wp2
  go_ret
  exact ⟨rfl, by go_grown⟩
 ·have hcv := conv1 52 52 rfl w
  go_enter Tryz.func114, Tryz.ntmps114
  go_wp2
  go_ret
  exact ⟨rfl, by go_grown⟩
 ·have hcv := conv1 53 53 rfl w
  go_enter Tryz.func114, Tryz.ntmps114
  go_wp2
  go_ret
  exact ⟨rfl, by go_grown⟩
 ·have hcv := conv1 54 54 rfl w
  go_enter Tryz.func114, Tryz.ntmps114
  go_wp2
  go_ret
  exact ⟨rfl, by go_grown⟩
 ·have hcv := conv1 55 55 rfl w
  go_enter Tryz.func114, Tryz.ntmps114
  go_wp2
  go_ret
  exact ⟨rfl, by go_grown⟩
 ·have hcv := conv1 56 56 rfl w
  go_enter Tryz.func114, Tryz.ntmps114
  go_wp2
  go_ret
  exact ⟨rfl, by go_grown⟩
 ·have hcv := conv1 57 57 rfl w
  go_enter Tryz.func114, Tryz.ntmps114
  go_wp2
  go_ret
  exact ⟨rfl, by go_grown⟩
theorem c_rDigits : ∀ (u : Nat), u ≤ 1000000000 → ∀ w : World, Calls Tryz.prog 114 #[.int .i64 u] w fun e w' => e = .returned (.string (itoaS u)) ∧ Below w.heap.size w w' := by
 intro u
 induction u using Nat.strongRecOn with
 | _ u ih =>
  intro hu w
  by_cases h : u < 10
  ·exact c_rDigits1 u h w
  ·have H1 := Lib.hid (ih (u / 10) (by omega) (by omega))
   have H2 := Lib.hid (ih (u % 10) (by omega) (by omega))
   have hm := itoa_more h
   have hs1 : (itoaS ((u / 10 : Nat) : Int)).size ≤ 30 := itoa_sized (by omega)
   have hs2 : (itoaS ((u % 10 : Nat) : Int)).size ≤ 30 := itoa_sized (by omega)
   have h10 : ¬ (u : Int) < 10 := by omega
   have e1 : Int.tdiv (u : Int) 10 = ((u / 10 : Nat) : Int) := by rw [Int.tdiv_eq_ediv_of_nonneg (by omega)]; omega
   have e2 : Int.tmod (u : Int) 10 = ((u % 10 : Nat) : Int) := by rw [Int.tmod_eq_emod_of_nonneg (by omega)]; omega
   generalize itoaS ((u / 10 : Nat) : Int) = a at *
   generalize itoaS ((u % 10 : Nat) : Int) = b at *
   obtain ⟨q, hq⟩ : ∃ q, u / 10 = q := ⟨_, rfl⟩
   obtain ⟨r, hr⟩ : ∃ r, u % 10 = r := ⟨_, rfl⟩
   rw [hq] at e1 H1
   rw [hr] at e2 H2
   have hq2 : q ≤ 1000000000 := by omega
   have hr2 : r ≤ 1000000000 := by omega
   rw [hm]
   clear ih hm h hq hr
   go_enter Tryz.func114, Tryz.ntmps114
   go_wp2_with fail
   refine (H1.out _).mono ?_
   rintro E W1 ⟨rfl, hb1⟩
   go_wp2_with fail
   refine (H2.out _).mono ?_
   rintro E W2 ⟨rfl, hb2⟩
   have hb := bthen hb1 hb2
   clear hb1 hb2
   go_wp2
   go_ret
   exact ⟨rfl, hb⟩
theorem c_rnodes (m : Fm) (w : World) (hs : Small m.f) : Calls Tryz.prog 140 #[m.v] w fun e w' => e = .returned (.int .i64 (nodeN m.f 0 (m.f.ticks + 1))) ∧ Below w.heap.size w w' := by
 have h0 := hs.t0
 have h24 := hs.t24
 have hp := hs.p8
 have hm : 0 ≤ (m.f.ticks + 1) * (m.f.places.length : Int) ∧ (m.f.ticks + 1) * (m.f.places.length : Int) ≤ 25 * 8 := ⟨Int.mul_nonneg (by omega) (by omega), Int.mul_le_mul (by omega) (by omega) (by omega) (by omega)⟩
 have he : 2 * (m.f.ticks + 1) * (m.f.places.length : Int) = 2 * ((m.f.ticks + 1) * (m.f.places.length : Int)) := Int.mul_assoc _ _ _
 have hn : nodeN m.f 0 (m.f.ticks + 1) = 1 + 2 * (m.f.ticks + 1) * (m.f.places.length : Int) := by unfold nodeN; omega
 rw [hn]
 clear hn hs
 go_enter Tryz.func140, Tryz.ntmps140
 go_upto_region 1 with (fail)
 go_name_world W1 hW1
 have hb0 : Below w.heap.size w W1 := by subst hW1; go_grown
 obtain ⟨q0, q1, q2, q3⟩ := (show QB m W1 w.heap.size from by subst hW1; and_intros <;> go_simp)
 clear hW1 
 go_wp2
 go_ret
 exact ⟨by go_num, hb0⟩
end Go.Proofs.YtlppdgaogdpajaaGreatDoor
namespace Go.Proofs.YtlppdgaogdpajaaGreatDoor
def joinB (f : Fe) (a b : Int) : Prop := ∃ g ∈ f.gates, (g.a = a ∧ g.b = b) ∨ (g.b = a ∧ g.a = b)
def Path (f : Fe) (s : Int) : Nat → Int → Prop
 | 0, t => t = s
 | n + 1, t => ∃ p, Path f s n p ∧ joinB f p t
def Dist (f : Fe) (s t : Int) (n : Nat) : Prop := Path f s n t ∧ ∀ m, Path f s m t → n ≤ m
theorem dist_of {f : Fe} {a b : Int} : ∀ n, Path f a n b → ∃ k, k ≤ n ∧ Dist f a b k := by
 intro n
 induction n using Nat.strongRecOn with
 | _ n ih =>
  intro h
  by_cases hm : ∃ m, m < n ∧ Path f a m b
  ·obtain ⟨m, hmn, hp⟩ := hm
   obtain ⟨k, hk, hd⟩ := ih m hmn hp
   exact ⟨k, by omega, hd⟩
  ·exact ⟨n, Nat.le_refl _, h, fun m hp => Nat.le_of_not_lt fun hlt => hm ⟨m, hlt, hp⟩⟩
structure BInv (f : Fe) (s : Int) (S : Int → Option Int) (l1 l2 : List Int) (d : Nat) : Prop where
 ex : ∀ t n, S t = some n → ∃ k : Nat, n = k ∧ Dist f s t k
 h1 : ∀ q ∈ l1, S q = some (d : Int)
 h2 : ∀ q ∈ l2, S q = some ((d : Int) + 1)
 near : ∀ t k, Dist f s t k → k ≤ d → (S t).isSome = true
 done : ∀ t, (S t).isSome = true → t ∉ l1 → t ∉ l2 → ∀ q, joinB f t q → (S q).isSome = true
theorem BInv.visit {f : Fe} {s : Int} {S : Int → Option Int} {p q : Int} {r l2 : List Int} {d : Nat} (h : BInv f s S (p :: r) l2 d) (hj : joinB f p q) :
  ∃ l3, (visit1 p (S, r ++ l2) q).2 = r ++ l3 ∧ BInv f s (visit1 p (S, r ++ l2) q).1 (p :: r) l3 d ∧ ((visit1 p (S, r ++ l2) q).1 q).isSome = true ∧ ∀ t, (S t).isSome = true → ((visit1 p (S, r ++ l2) q).1 t).isSome = true := by
 unfold visit1
 dsimp only
 by_cases e : (S q).isSome = true
 ·rw [if_pos e]
  exact ⟨l2, rfl, h, e, fun t ht => ht⟩
 ·rw [if_neg e]
  have e0 : S q = none := by simpa using e
  have hp := h.h1 p (by simp)
  have hu : ∀ t, t ≠ q → upd S q ((S p).getD 0 + 1) t = S t := fun t ht => by unfold upd; rw [if_neg ht]
  have huq : upd S q ((S p).getD 0 + 1) q = some ((d : Int) + 1) := by unfold upd; rw [if_pos rfl, hp]; rfl
  have hne : ∀ t, (S t).isSome = true → t ≠ q := fun t ht e2 => by rw [e2, e0] at ht; cases ht
  have hdp : Dist f s p d := by
   obtain ⟨k, e1, hd⟩ := h.ex p _ hp
   obtain rfl : d = k := by omega
   exact hd
  refine ⟨l2 ++ [q], by rw [List.append_assoc], ⟨?_, ?_, ?_, ?_, ?_⟩, by dsimp only; rw [huq]; rfl, fun t ht => by dsimp only; rw [hu t (hne t ht)]; exact ht⟩
  ·intro t n ht
   dsimp only at ht
   by_cases e2 : t = q
   ·subst e2
    rw [huq] at ht
    cases ht
    refine ⟨d + 1, by simp, ⟨p, hdp.1, hj⟩, fun m hm => ?_⟩
    obtain ⟨k, hk, hd⟩ := dist_of m hm
    by_cases hkd : k ≤ d
    ·exact absurd (h.near _ _ hd hkd) e
    ·omega
   ·rw [hu t e2] at ht
    exact h.ex t n ht
  ·intro t ht
   dsimp only
   have := h.h1 t ht
   rw [hu t (hne t (by rw [this]; rfl))]
   exact this
  ·intro t ht
   dsimp only
   rcases List.mem_append.1 ht with ht | ht
   ·have := h.h2 t ht
    rw [hu t (hne t (by rw [this]; rfl))]
    exact this
   ·simp only [List.mem_cons, List.not_mem_nil, or_false] at ht
    subst ht
    exact huq
  ·intro t k hd hk
   dsimp only
   have := h.near t k hd hk
   rw [hu t (hne t this)]
   exact this
  ·intro t ht n1 n2 z hz
   dsimp only at ht ⊢
   have n3 : t ≠ q := fun e2 => n2 (by simp [e2])
   rw [hu t n3] at ht
   have := h.done t ht n1 (fun hin => n2 (by simp [hin])) z hz
   rw [hu z (hne z this)]
   exact this
theorem BInv.visits {f : Fe} {s p : Int} {r : List Int} {d : Nat} : ∀ (B : List Int) {S : Int → Option Int} {l2 : List Int}, (∀ q ∈ B, joinB f p q) → BInv f s S (p :: r) l2 d →
  ∃ l3, (visits p B (S, r ++ l2)).2 = r ++ l3 ∧ BInv f s (visits p B (S, r ++ l2)).1 (p :: r) l3 d ∧ (∀ q ∈ B, ((visits p B (S, r ++ l2)).1 q).isSome = true) ∧ ∀ t, (S t).isSome = true → ((visits p B (S, r ++ l2)).1 t).isSome = true := by
 intro B
 induction B with
 | nil => intro S l2 _ h; exact ⟨l2, rfl, h, fun q hq => (by cases hq), fun t ht => ht⟩
 | cons q B ih =>
  intro S l2 hB h
  obtain ⟨l3, e1, h1, m1, k1⟩ := h.visit (hB q (by simp))
  have e : Go.Proofs.YtlppdgaogdpajaaGreatDoor.visits p (q :: B) (S, r ++ l2) = Go.Proofs.YtlppdgaogdpajaaGreatDoor.visits p B ((visit1 p (S, r ++ l2) q).1, r ++ l3) := by
   rw [← e1]
   rfl
  rw [e]
  obtain ⟨l4, e2, h2, m2, k2⟩ := ih (fun z hz => hB z (by simp [hz])) h1
  refine ⟨l4, e2, h2, fun z hz => ?_, fun t ht => k2 t (k1 t ht)⟩
  rcases List.mem_cons.1 hz with rfl | hz
  ·exact k2 _ m1
  ·exact m2 z hz
theorem BInv.closed {f : Fe} {s : Int} {S : Int → Option Int} {d : Nat} (h : BInv f s S [] [] d) : ∀ (n : Nat) (t : Int), Path f s n t → (S t).isSome = true := by
 intro n
 induction n with
 | zero =>
  intro t ht
  cases ht
  exact h.near s 0 ⟨rfl, fun _ _ => Nat.zero_le _⟩ (Nat.zero_le _)
 | succ n ih =>
  rintro t ⟨p, hp, hj⟩
  exact h.done p (ih p hp) (by simp) (by simp) t hj
def Found (f : Fe) (s t : Int) (o : Option Int) : Prop := (∀ n, o = some n → ∃ k : Nat, n = k ∧ Dist f s t k) ∧ (o = none → ∀ n, ¬ Path f s n t)
theorem BInv.found {f : Fe} {s : Int} {S : Int → Option Int} {d : Nat} (h : BInv f s S [] [] d) (t : Int) : Found f s t (S t) :=
 ⟨fun n hn => h.ex t n hn, fun hn n hp => by have := h.closed n t hp; rw [hn] at this; cases this⟩
end Go.Proofs.YtlppdgaogdpajaaGreatDoor
namespace Go.Proofs.YtlppdgaogdpajaaGreatDoor
open Go
theorem data_inj {a b : ByteArray} (h : a.data.toList = b.data.toList) : a = b := by
 cases a
 cases b
 simpa using h
end Go.Proofs.YtlppdgaogdpajaaGreatDoor
namespace Go.Proofs.YtlppdgaogdpajaaGreatDoor
open Go.RowKit Go.Shelf
attribute [local go_sem] Oper.semAt_some
def nodesV (f : Fe) : Int := if checkE f ≠ 0 then 0 else nodeN f 0 (f.ticks + 1)
def arcsV (f : Fe) : Int := if checkE f ≠ 0 then 0 else countN f
theorem c_Nodes (m : Fm) (w : World) (hm : m.In w) : Calls Tryz.prog 58 #[m.v] w fun e w' => e = .returned (.int .i64 (nodesV m.f)) ∧ Below w.heap.size w w' := by
 unfold nodesV
 by_cases h : checkE m.f = 0
 ·rw [if_neg (by omega)]; exact c_Nodes_ok m w hm h
 ·rw [if_pos h]; exact c_Nodes_no m w hm h
theorem c_Arcs (m : Fm) (w : World) (hm : m.In w) : Calls Tryz.prog 60 #[m.v] w fun e w' => e = .returned (.int .i64 (arcsV m.f)) ∧ Below w.heap.size w w' := by
 unfold arcsV
 by_cases h : checkE m.f = 0
 ·rw [if_neg (by omega)]; exact c_Arcs_ok m w hm h
 ·rw [if_pos h]; exact c_Arcs_no m w hm h
theorem join_two (a b : ByteArray) : joinS [a, b] = a ++ sp ++ b := by
 apply data_inj
 unfold joinS sp
 simp [Lib.join, List.intercalate, List.intersperse]
theorem join_three (a b c : ByteArray) : joinS [a, b, c] = a ++ sp ++ b ++ sp ++ c := by
 apply data_inj
 unfold joinS sp
 simp [Lib.join, List.intercalate, List.intersperse]
def rnameS (y : Wy) : ByteArray := if 0 ≤ y.tick then y.kind ++ sp ++ y.name ++ sp ++ itoaS y.tick else y.kind ++ sp ++ y.name
def rnameV (f : Fe) (k : Int) : ByteArray × Int :=
 if checkE f ≠ 0 then (⟨#[]⟩, checkE f) else match (if k < 0 then none else (waysL f)[k.toNat]?) with | some y => (rnameS y, 0) | none => (⟨#[]⟩, 1)
theorem rname_eq (f : Fe) (k : Int) : rnameV f k = nameArcV f k := by
 unfold rnameV nameArcV
 by_cases h : checkE f = 0
 ·rw [if_neg (c := checkE f ≠ 0) (by omega), if_neg (c := checkE f ≠ 0) (by omega)]
  by_cases hk : k < 0
  ·rw [if_pos hk, if_pos hk]
  ·rw [if_neg hk, if_neg hk]
   unfold arcsL
   rw [List.getElem?_map]
   cases (waysL f)[k.toNat]? with
   | none => rfl
   | some y =>
    simp only [Option.map_some]
    unfold rnameS Wy.wa
    dsimp only
    by_cases ht : 0 ≤ y.tick
    ·rw [if_pos ht, if_pos ht]
     exact congrArg (·, (0 : Int)) (join_three _ _ _).symm
    ·rw [if_neg ht, if_neg ht, join_two]
 ·rw [if_pos h, if_pos h]
theorem c_rNodes_no (m : Fm) (w : World) (hm : m.In w) (hs : Sized m.f) (h : checkE m.f ≠ 0) : Calls Tryz.prog 59 #[m.v] w fun e w' => e = .returned (.int .i64 0) ∧ Below w.heap.size w w' := by
 have hC := fun W (hb : Below w.heap.size w W) => c_rCheck m W (hm.later hb) hs
 generalize checkE m.f = E at *
 have he : (E != 0) = true := bne_iff_ne.2 h
 have HC := Lib.hid hC
 clear hC h hm hs
 go_enter Tryz.func59, Tryz.ntmps59
 go_upto_region 1 with (fail)
 go_name_world W1 hW1
 have hb0 : Below w.heap.size w W1 := by subst hW1; go_grown
 obtain ⟨q0, q1, q2, q3⟩ := (show QB m W1 w.heap.size from by subst hW1; and_intros <;> go_simp)
 clear hW1 
 go_wp2_with fail
 refine (HC.out _ hb0).mono ?_
 rintro E W2 ⟨rfl, hB⟩
 have hc := (bcell hB).1
 have zz := cy4 hc q0 q1 q2 q3
 clear q0 q1 q2 q3
 obtain ⟨q0, q1, q2, q3⟩ := zz
 replace hb0 := bthen hb0 hB
 clear hc hB
 go_wp2
 go_ret
 exact ⟨rfl, hb0⟩
theorem c_rArcs_no (m : Fm) (w : World) (hm : m.In w) (hs : Sized m.f) (h : checkE m.f ≠ 0) : Calls Tryz.prog 61 #[m.v] w fun e w' => e = .returned (.int .i64 0) ∧ Below w.heap.size w w' := by
 have hC := fun W (hb : Below w.heap.size w W) => c_rCheck m W (hm.later hb) hs
 generalize checkE m.f = E at *
 have he : (E != 0) = true := bne_iff_ne.2 h
 have HC := Lib.hid hC
 clear hC h hm hs
 go_enter Tryz.func61, Tryz.ntmps61
 go_upto_region 1 with (fail)
 go_name_world W1 hW1
 have hb0 : Below w.heap.size w W1 := by subst hW1; go_grown
 obtain ⟨q0, q1, q2, q3⟩ := (show QB m W1 w.heap.size from by subst hW1; and_intros <;> go_simp)
 clear hW1 
 go_wp2_with fail
 refine (HC.out _ hb0).mono ?_
 rintro E W2 ⟨rfl, hB⟩
 have hc := (bcell hB).1
 have zz := cy4 hc q0 q1 q2 q3
 clear q0 q1 q2 q3
 obtain ⟨q0, q1, q2, q3⟩ := zz
 replace hb0 := bthen hb0 hB
 clear hc hB
 go_wp2
 go_ret
 exact ⟨rfl, hb0⟩
theorem c_rNodes_ok (m : Fm) (w : World) (hm : m.In w) (hs : Sized m.f) (h : checkE m.f = 0) : Calls Tryz.prog 59 #[m.v] w fun e w' => e = .returned (.int .i64 (nodeN m.f 0 (m.f.ticks + 1))) ∧ Below w.heap.size w w' := by
 have hC := fun W (hb : Below w.heap.size w W) => c_rCheck m W (hm.later hb) hs
 rw [h] at hC
 have hr := right_of h
 have hN := fun W (_hb : Below w.heap.size w W) => c_rnodes m W hr.small
 generalize nodeN m.f 0 (m.f.ticks + 1) = n at *
 have HC := Lib.hid hC
 have HN := Lib.hid hN
 clear hC hN h hm hs hr
 go_enter Tryz.func59, Tryz.ntmps59
 go_upto_region 1 with (fail)
 go_name_world W1 hW1
 have hb0 : Below w.heap.size w W1 := by subst hW1; go_grown
 obtain ⟨q0, q1, q2, q3⟩ := (show QB m W1 w.heap.size from by subst hW1; and_intros <;> go_simp)
 clear hW1 
 go_wp2_with fail
 refine (HC.out _ hb0).mono ?_
 rintro E W2 ⟨rfl, hB⟩
 have hc := (bcell hB).1
 have zz := cy4 hc q0 q1 q2 q3
 clear q0 q1 q2 q3
 obtain ⟨q0, q1, q2, q3⟩ := zz
 replace hb0 := bthen hb0 hB
 clear hc hB
 go_wp2_with fail
 refine (HN.out _ hb0).mono ?_
 rintro E W3 ⟨rfl, hB⟩
 have hc := (bcell hB).1
 have zz := cy4 hc q0 q1 q2 q3
 clear q0 q1 q2 q3
 obtain ⟨q0, q1, q2, q3⟩ := zz
 replace hb0 := bthen hb0 hB
 clear hc hB
 go_wp2
 go_ret
 exact ⟨rfl, hb0⟩
theorem c_rArcs_ok (m : Fm) (w : World) (hm : m.In w) (hs : Sized m.f) (h : checkE m.f = 0) : Calls Tryz.prog 61 #[m.v] w fun e w' => e = .returned (.int .i64 (countN m.f)) ∧ Below w.heap.size w w' := by
 have hC := fun W (hb : Below w.heap.size w W) => c_rCheck m W (hm.later hb) hs
 rw [h] at hC
 have hlen := ways_small h
 have hY := fun W (hb : Below w.heap.size w W) => c_rWaysOf m W (hm.later hb) h
 have hN := ways_length m.f (right_ticks h)
 obtain ⟨L, hL⟩ : ∃ L, waysL m.f = L := ⟨_, rfl⟩
 rw [hL] at hlen hY hN
 have HC := Lib.hid hC
 have HY := Lib.hid hY
 have HN := Lib.hid hN
 clear hC hY hN h hm hs hL
 go_enter Tryz.func61, Tryz.ntmps61
 go_upto_region 1 with (fail)
 go_name_world W1 hW1
 have hb0 : Below w.heap.size w W1 := by subst hW1; go_grown
 obtain ⟨q0, q1, q2, q3⟩ := (show QB m W1 w.heap.size from by subst hW1; and_intros <;> go_simp)
 clear hW1 
 go_wp2_with fail
 refine (HC.out _ hb0).mono ?_
 rintro E W2 ⟨rfl, hB⟩
 have hc := (bcell hB).1
 have zz := cy4 hc q0 q1 q2 q3
 clear q0 q1 q2 q3
 obtain ⟨q0, q1, q2, q3⟩ := zz
 replace hb0 := bthen hb0 hB
 clear hc hB
 go_wp2_with fail
 refine (HY.out _ hb0).mono ?_
 rintro E W3 ⟨yv, rfl, ho, hB⟩
 have hc := (bcell hB).1
 have zz := cy4 hc q0 q1 q2 q3
 clear q0 q1 q2 q3
 obtain ⟨q0, q1, q2, q3⟩ := zz
 obtain ⟨yb, yc, rfl, _, _, hyl, _⟩ := Lst.own wyC_len ho
 clear ho
 have hy := hyl (by omega)
 clear hyl
 replace hb0 := bthen hb0 hB
 clear hc hB
 clear hy
 go_wp2
 go_ret
 exact ⟨by rw [HN.out]; rfl, hb0⟩
theorem c_rNodes (m : Fm) (w : World) (hm : m.In w) (hs : Sized m.f) : Calls Tryz.prog 59 #[m.v] w fun e w' => e = .returned (.int .i64 (nodesV m.f)) ∧ Below w.heap.size w w' := by
 unfold nodesV
 by_cases h : checkE m.f = 0
 ·rw [if_neg (by omega)]; exact c_rNodes_ok m w hm hs h
 ·rw [if_pos h]; exact c_rNodes_no m w hm hs h
theorem c_rArcs (m : Fm) (w : World) (hm : m.In w) (hs : Sized m.f) : Calls Tryz.prog 61 #[m.v] w fun e w' => e = .returned (.int .i64 (arcsV m.f)) ∧ Below w.heap.size w w' := by
 unfold arcsV
 by_cases h : checkE m.f = 0
 ·rw [if_neg (by omega)]; exact c_rArcs_ok m w hm hs h
 ·rw [if_pos h]; exact c_rArcs_no m w hm hs h
theorem c_rNameArc_no (m : Fm) (arc : Int) (w : World) (hm : m.In w) (hs : Sized m.f) (h : checkE m.f ≠ 0) : Calls Tryz.prog 57 #[m.v, .int .i64 arc] w fun e w' => e = .returned (.tuple #[.string (⟨#[]⟩), .int .i64 (checkE m.f)]) ∧ Below w.heap.size w w' := by
 have hC := fun W (hb : Below w.heap.size w W) => c_rCheck m W (hm.later hb) hs
 generalize checkE m.f = E at *
 have he : (E != 0) = true := bne_iff_ne.2 h
 have HC := Lib.hid hC
 clear hC h hm hs
 go_enter Tryz.func57, Tryz.ntmps57
 go_upto_region 1 with (fail)
 go_name_world W1 hW1
 have hb0 : Below w.heap.size w W1 := by subst hW1; go_grown
 obtain ⟨q0, q1, q2, q3⟩ := (show QB m W1 w.heap.size from by subst hW1; and_intros <;> go_simp)
 clear hW1 
 go_wp2_with fail
 refine (HC.out _ hb0).mono ?_
 rintro E W2 ⟨rfl, hB⟩
 have hc := (bcell hB).1
 have zz := cy4 hc q0 q1 q2 q3
 clear q0 q1 q2 q3
 obtain ⟨q0, q1, q2, q3⟩ := zz
 replace hb0 := bthen hb0 hB
 clear hc hB
 go_wp2
 go_ret2
 exact ⟨rfl, hb0⟩
theorem c_rNameArc_lo (m : Fm) (arc : Int) (w : World) (hm : m.In w) (hs : Sized m.f) (h : checkE m.f = 0) (hx : arc < 0) : Calls Tryz.prog 57 #[m.v, .int .i64 arc] w fun e w' => e = .returned (.tuple #[.string (⟨#[]⟩), .int .i64 1]) ∧ Below w.heap.size w w' := by
 have hC := fun W (hb : Below w.heap.size w W) => c_rCheck m W (hm.later hb) hs
 rw [h] at hC
 have hlen := ways_small h
 have hY := fun W (hb : Below w.heap.size w W) => c_rWaysOf m W (hm.later hb) h
 obtain ⟨L, hL⟩ : ∃ L, waysL m.f = L := ⟨_, rfl⟩
 rw [hL] at hlen hY
 have HC := Lib.hid hC
 have HY := Lib.hid hY
 clear hC hY h hm hs hL
 go_enter Tryz.func57, Tryz.ntmps57
 go_upto_region 1 with (fail)
 go_name_world W1 hW1
 have hb0 : Below w.heap.size w W1 := by subst hW1; go_grown
 obtain ⟨q0, q1, q2, q3⟩ := (show QB m W1 w.heap.size from by subst hW1; and_intros <;> go_simp)
 clear hW1 
 go_wp2_with fail
 refine (HC.out _ hb0).mono ?_
 rintro E W2 ⟨rfl, hB⟩
 have hc := (bcell hB).1
 have zz := cy4 hc q0 q1 q2 q3
 clear q0 q1 q2 q3
 obtain ⟨q0, q1, q2, q3⟩ := zz
 replace hb0 := bthen hb0 hB
 clear hc hB
 go_wp2_with fail
 refine (HY.out _ hb0).mono ?_
 rintro E W3 ⟨yv, rfl, ho, hB⟩
 have hc := (bcell hB).1
 have zz := cy4 hc q0 q1 q2 q3
 clear q0 q1 q2 q3
 obtain ⟨q0, q1, q2, q3⟩ := zz
 obtain ⟨yb, yc, rfl, _, _, hyl, _⟩ := Lst.own wyC_len ho
 clear ho
 have hy := hyl (by omega)
 clear hyl
 replace hb0 := bthen hb0 hB
 clear hc hB
 clear hy
 go_wp2
 go_ret2
 exact ⟨rfl, hb0⟩
theorem c_rNameArc_hi (m : Fm) (arc : Int) (w : World) (hm : m.In w) (hs : Sized m.f) (h : checkE m.f = 0) (h0 : ¬ arc < 0) (hx : ((waysL m.f).length : Int) ≤ arc) : Calls Tryz.prog 57 #[m.v, .int .i64 arc] w fun e w' => e = .returned (.tuple #[.string (⟨#[]⟩), .int .i64 1]) ∧ Below w.heap.size w w' := by
 have hC := fun W (hb : Below w.heap.size w W) => c_rCheck m W (hm.later hb) hs
 rw [h] at hC
 have hlen := ways_small h
 have hY := fun W (hb : Below w.heap.size w W) => c_rWaysOf m W (hm.later hb) h
 obtain ⟨L, hL⟩ : ∃ L, waysL m.f = L := ⟨_, rfl⟩
 rw [hL] at hlen hY hx
 have HC := Lib.hid hC
 have HY := Lib.hid hY
 clear hC hY h hm hs hL
 go_enter Tryz.func57, Tryz.ntmps57
 go_upto_region 1 with (fail)
 go_name_world W1 hW1
 have hb0 : Below w.heap.size w W1 := by subst hW1; go_grown
 obtain ⟨q0, q1, q2, q3⟩ := (show QB m W1 w.heap.size from by subst hW1; and_intros <;> go_simp)
 clear hW1 
 go_wp2_with fail
 refine (HC.out _ hb0).mono ?_
 rintro E W2 ⟨rfl, hB⟩
 have hc := (bcell hB).1
 have zz := cy4 hc q0 q1 q2 q3
 clear q0 q1 q2 q3
 obtain ⟨q0, q1, q2, q3⟩ := zz
 replace hb0 := bthen hb0 hB
 clear hc hB
 go_wp2_with fail
 refine (HY.out _ hb0).mono ?_
 rintro E W3 ⟨yv, rfl, ho, hB⟩
 have hc := (bcell hB).1
 have zz := cy4 hc q0 q1 q2 q3
 clear q0 q1 q2 q3
 obtain ⟨q0, q1, q2, q3⟩ := zz
 obtain ⟨yb, yc, rfl, _, _, hyl, _⟩ := Lst.own wyC_len ho
 clear ho
 have hy := hyl (by omega)
 clear hyl
 replace hb0 := bthen hb0 hB
 clear hc hB
 clear hy
 go_wp2
 go_ret2
 exact ⟨rfl, hb0⟩
theorem c_rNameArc_n (m : Fm) (k : Nat) (y : Wy) (w : World) (hm : m.In w) (hs : Sized m.f) (h : checkE m.f = 0) (hx : (waysL m.f)[k]? = some y) (ht : ¬ 0 ≤ y.tick) : Calls Tryz.prog 57 #[m.v, .int .i64 (k : Int)] w fun e w' => e = .returned (.tuple #[.string (rnameS y), .int .i64 0]) ∧ Below w.heap.size w w' := by
 have hC := fun W (hb : Below w.heap.size w W) => c_rCheck m W (hm.later hb) hs
 rw [h] at hC
 have hlen := ways_small h
 have hY := fun W (hb : Below w.heap.size w W) => c_rWaysOf m W (hm.later hb) h
 have hww := ways_words (right_of h) (List.mem_of_getElem? hx)
 have hk1 := hww.1
 have hk2 := hww.2.1
 have hk3 := hww.2.2.2
 obtain ⟨L, hL⟩ : ∃ L, waysL m.f = L := ⟨_, rfl⟩
 rw [hL] at hlen hY hx
 have hlt := some_lt hx
 have i0 : ¬ (k : Int) < 0 := by omega
 have i1 : (k : Int) < (L.length : Int) := by omega
 have i2 : ¬ (L.length : Int) ≤ (k : Int) := by omega
 have hr : rnameS y = y.kind ++ sp ++ y.name := if_neg ht
 have HR := Lib.hid hr
 have HX := Lib.hid hx
 have HC := Lib.hid hC
 have HY := Lib.hid hY
 clear hC hY h hm hs hL hx hr hww
 go_enter Tryz.func57, Tryz.ntmps57
 go_upto_region 1 with (fail)
 go_name_world W1 hW1
 have hb0 : Below w.heap.size w W1 := by subst hW1; go_grown
 obtain ⟨q0, q1, q2, q3⟩ := (show QB m W1 w.heap.size from by subst hW1; and_intros <;> go_simp)
 clear hW1 
 go_wp2_with fail
 refine (HC.out _ hb0).mono ?_
 rintro E W2 ⟨rfl, hB⟩
 have hc := (bcell hB).1
 have zz := cy4 hc q0 q1 q2 q3
 clear q0 q1 q2 q3
 obtain ⟨q0, q1, q2, q3⟩ := zz
 replace hb0 := bthen hb0 hB
 clear hc hB
 go_wp2_with fail
 refine (HY.out _ hb0).mono ?_
 rintro E W3 ⟨yv, rfl, ho, hB⟩
 have hc := (bcell hB).1
 have zz := cy4 hc q0 q1 q2 q3
 clear q0 q1 q2 q3
 obtain ⟨q0, q1, q2, q3⟩ := zz
 obtain ⟨yb, yc, rfl, _, _, hyl, _⟩ := Lst.own wyC_len ho
 clear ho
 have hy := hyl (by omega)
 clear hyl
 replace hb0 := bthen hb0 hB
 clear hc hB
 obtain ⟨b, o, hpa, hat⟩ := hy.at HX.out
 obtain ⟨y0, y1, y2, y3, y4, y5, y6, y7, y8, y9⟩ := wy_cells hat
 rw [hpa]
 clear hy hat hpa y0 y1 y2 y3 y4 y5 y8 q0 q1 q2 q3
 go_upto_region 7 with (fail)
 have ky6 := later_cell y6
 have ky7 := later_cell y7
 have ky9 := later_cell y9
 refine wp_region_sink 12 W3 (by kernel_rfl) (by kernel_rfl) (Below.refl _ _) ?_
 simp only [List.take_succ_cons, List.take_zero, List.drop_succ_cons, List.drop_zero]
 repeat (go_big_quiet_step (fail))
 refine wpQuiet_nil ?_
 rintro ⟨W4, hB⟩
 dsimp only
 have hc := (bcell hB).1
 have hf := (bcell hB).2
 have hz := hB.size
 clear ky6 ky7 ky9
 have zz := cy3 hc y6 y7 y9
 clear y6 y7 y9
 obtain ⟨y6, y7, y9⟩ := zz
 replace hb0 : Below w.heap.size w W4 := bthen hb0 hB
 have hzW4 : W3.heap.size ≤ W4.heap.size := hz
 clear hc hf hB hz
 go_wp2
 go_ret2
 exact ⟨by rw [HR.out]; rfl, hb0⟩
theorem c_rNameArc_t (m : Fm) (k : Nat) (y : Wy) (w : World) (hm : m.In w) (hs : Sized m.f) (h : checkE m.f = 0) (hx : (waysL m.f)[k]? = some y) (ht : 0 ≤ y.tick) : Calls Tryz.prog 57 #[m.v, .int .i64 (k : Int)] w fun e w' => e = .returned (.tuple #[.string (rnameS y), .int .i64 0]) ∧ Below w.heap.size w w' := by
 have hC := fun W (hb : Below w.heap.size w W) => c_rCheck m W (hm.later hb) hs
 rw [h] at hC
 have hlen := ways_small h
 have hY := fun W (hb : Below w.heap.size w W) => c_rWaysOf m W (hm.later hb) h
 have hww := ways_words (right_of h) (List.mem_of_getElem? hx)
 have hk1 := hww.1
 have hk2 := hww.2.1
 have hk3 := hww.2.2.2
 obtain ⟨L, hL⟩ : ∃ L, waysL m.f = L := ⟨_, rfl⟩
 rw [hL] at hlen hY hx
 have hlt := some_lt hx
 have i0 : ¬ (k : Int) < 0 := by omega
 have i1 : (k : Int) < (L.length : Int) := by omega
 have i2 : ¬ (L.length : Int) ≤ (k : Int) := by omega
 have hr : rnameS y = y.kind ++ sp ++ y.name ++ sp ++ itoaS y.tick := if_pos ht
 obtain ⟨u, hu⟩ : ∃ u : Nat, y.tick = (u : Int) := ⟨y.tick.toNat, by omega⟩
 have hD := fun W => c_rDigits u (by omega) W
 have hsz := itoa_sized (u := u) (by omega)
 rw [← hu] at hD hsz
 generalize itoaS y.tick = d at *
 have HD := Lib.hid hD
 clear hD hu
 have HR := Lib.hid hr
 have HX := Lib.hid hx
 have HC := Lib.hid hC
 have HY := Lib.hid hY
 clear hC hY h hm hs hL hx hr hww
 go_enter Tryz.func57, Tryz.ntmps57
 go_upto_region 1 with (fail)
 go_name_world W1 hW1
 have hb0 : Below w.heap.size w W1 := by subst hW1; go_grown
 obtain ⟨q0, q1, q2, q3⟩ := (show QB m W1 w.heap.size from by subst hW1; and_intros <;> go_simp)
 clear hW1 
 go_wp2_with fail
 refine (HC.out _ hb0).mono ?_
 rintro E W2 ⟨rfl, hB⟩
 have hc := (bcell hB).1
 have zz := cy4 hc q0 q1 q2 q3
 clear q0 q1 q2 q3
 obtain ⟨q0, q1, q2, q3⟩ := zz
 replace hb0 := bthen hb0 hB
 clear hc hB
 go_wp2_with fail
 refine (HY.out _ hb0).mono ?_
 rintro E W3 ⟨yv, rfl, ho, hB⟩
 have hc := (bcell hB).1
 have zz := cy4 hc q0 q1 q2 q3
 clear q0 q1 q2 q3
 obtain ⟨q0, q1, q2, q3⟩ := zz
 obtain ⟨yb, yc, rfl, _, _, hyl, _⟩ := Lst.own wyC_len ho
 clear ho
 have hy := hyl (by omega)
 clear hyl
 replace hb0 := bthen hb0 hB
 clear hc hB
 obtain ⟨b, o, hpa, hat⟩ := hy.at HX.out
 obtain ⟨y0, y1, y2, y3, y4, y5, y6, y7, y8, y9⟩ := wy_cells hat
 rw [hpa]
 clear hy hat hpa y0 y1 y2 y3 y4 y5 y8 q0 q1 q2 q3
 go_upto_region 7 with (fail)
 have ky6 := later_cell y6
 have ky7 := later_cell y7
 have ky9 := later_cell y9
 refine wp_region_sink 12 W3 (by kernel_rfl) (by kernel_rfl) (Below.refl _ _) ?_
 simp only [List.take_succ_cons, List.take_zero, List.drop_succ_cons, List.drop_zero]
 repeat (go_big_quiet_step (fail))
 refine wpQuiet_nil ?_
 rintro ⟨W4, hB⟩
 dsimp only
 have hc := (bcell hB).1
 have hf := (bcell hB).2
 have hz := hB.size
 clear ky6 ky7 ky9
 have zz := cy3 hc y6 y7 y9
 clear y6 y7 y9
 obtain ⟨y6, y7, y9⟩ := zz
 replace hb0 : Below w.heap.size w W4 := bthen hb0 hB
 have hzW4 : W3.heap.size ≤ W4.heap.size := hz
 clear hc hf hB hz
 clear y6 y7
 go_wp2_with fail
 refine (HD.out _).mono ?_
 rintro E W5 ⟨rfl, hB⟩
 have hc := (bcell hB).1
 replace y9 := (hc _ _ (cell_lt y9)).trans y9
 replace hb0 := bthen hb0 hB
 clear hc hB
 go_wp2
 go_ret2
 exact ⟨by rw [HR.out]; rfl, hb0⟩
theorem c_rNameArc (m : Fm) (arc : Int) (w : World) (hm : m.In w) (hs : Sized m.f) : Calls Tryz.prog 57 #[m.v, .int .i64 arc] w fun e w' => e = .returned (.tuple #[.string (nameArcV m.f arc).1, .int .i64 (nameArcV m.f arc).2]) ∧ Below w.heap.size w w' := by
 rw [← rname_eq]
 unfold rnameV
 by_cases h : checkE m.f = 0
 ·rw [if_neg (by omega)]
  by_cases h0 : arc < 0
  ·rw [if_pos h0]; exact c_rNameArc_lo m arc w hm hs h h0
  ·rw [if_neg h0]
   obtain ⟨k, rfl⟩ : ∃ k : Nat, arc = (k : Int) := ⟨arc.toNat, by omega⟩
   rw [Int.toNat_natCast]
   cases hx : (waysL m.f)[k]? with
   | none =>
    have := List.getElem?_eq_none_iff.1 hx
    exact c_rNameArc_hi m k w hm hs h h0 (by omega)
   | some y =>
    by_cases ht : 0 ≤ y.tick
    ·exact c_rNameArc_t m k y w hm hs h hx ht
    ·exact c_rNameArc_n m k y w hm hs h hx ht
 ·rw [if_pos h]; exact c_rNameArc_no m arc w hm hs h
end Go.Proofs.YtlppdgaogdpajaaGreatDoor
