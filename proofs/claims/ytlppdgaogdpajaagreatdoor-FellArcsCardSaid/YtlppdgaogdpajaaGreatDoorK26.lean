/- This text is a part of the proof: Form. -/
import Derived.Test.YtlppdgaogdpajaaGreatDoorK25
set_option maxRecDepth 100000
set_option maxHeartbeats 4000000
namespace Go.Proofs.YtlppdgaogdpajaaGreatDoor
open Go.RowKit Go.Shelf
attribute [local go_sem] Oper.semAt_some
structure FormIn (m : Fm) (L : List ByteArray) (bw pf base : Nat) (W : World) : Prop where
 st : PSt m pf base W
 s : Strs W (some ⟨bw, 0, none⟩) L
 l1 : m.f.places.length ≤ 100000
 l2 : m.f.gates.length ≤ 100000
 bs : base ≤ W.heap.size
 lib : LibW W
 size : ∀ k, (wd L k).size ≤ 1000000
def placeE (f : Fe) (kd : Int) (L : List ByteArray) : Fe × Int := if L.length = 2 ∧ nameB (wd L 1) then ({ f with places := f.places ++ [⟨wd L 1, kd⟩] }, 0) else (f, 4)
def gateE (f : Fe) (L : List ByteArray) : Fe × Int :=
 if L.length = 5 ∧ nameB (wd L 1) ∧ nameB (wd L 2) ∧ nameB (wd L 3) then
  (match shortO (wd L 4) with
  | some m => if 0 ≤ idxS (plNames f.places) (wd L 2) ∧ 0 ≤ idxS (plNames f.places) (wd L 3) then ({ f with gates := f.gates ++ [⟨wd L 1, idxS (plNames f.places) (wd L 2), idxS (plNames f.places) (wd L 3), m⟩] }, 0) else (f, 50)
  | none => (f, 4))
 else (f, 4)
theorem c_formPlace_len (m : Fm) (L : List ByteArray) (bw pf base : Nat) (W : World) (pk : Nat) (kd : Int) (_h : FormIn m L bw pf base W) (hn : ¬ L.length = 2) :
  Calls Tryz.prog 163 #[.pointer (some ⟨pf, 0, none⟩), .slice (some ⟨bw, 0, none⟩) L.length L.length, .pointer (some ⟨pk, 0, none⟩)] W (FormOut m pf base W (placeE m.f kd L)) := by
 have hr : (placeE m.f kd L).2 = 4 := by
  unfold placeE
  rw [if_neg (fun h => hn h.1)]
 have HR := Lib.hid (fun (w' : World) (hb : Below W.heap.size W w') => FormOut.no (m := m) (pf := pf) (base := base) hr (by decide) hb)
 have hb0 := Below.refl W.heap.size W
 have e1 : ((L.length : Int) == 2) = false := beq_eq_false_iff_ne.2 (by omega)
 clear hr hn
 go_enter Tryz.func163, Tryz.ntmps163
 go_wp2_with fail
 refine (c_unless_f _ _).mono ?_
 rintro e w2 ⟨rfl, rfl⟩
 go_wp2
 exact ⟨rfl, HR.out _ hb0⟩
theorem c_formPlace_name (m : Fm) (L : List ByteArray) (bw pf base : Nat) (W : World) (pk : Nat) (kd : Int) (_hk : W.cell? ⟨pk, 0, none⟩ = some (.int .u8 kd)) (h : FormIn m L bw pf base W) (hn : L.length = 2) (hq : nameB (wd L 1) = false) :
  Calls Tryz.prog 163 #[.pointer (some ⟨pf, 0, none⟩), .slice (some ⟨bw, 0, none⟩) L.length L.length, .pointer (some ⟨pk, 0, none⟩)] W (FormOut m pf base W (placeE m.f kd L)) := by
 have hr : (placeE m.f kd L).2 = 4 := by
  unfold placeE
  rw [if_neg (fun h => by rw [hq] at h; exact absurd h.2 (by decide))]
 have HR := Lib.hid (fun (w' : World) (hb : Below W.heap.size W w') => FormOut.no (m := m) (pf := pf) (base := base) hr (by decide) hb)
 have l0 : W.cell? ⟨bw, 0, none⟩ = some (.string (wd L 0)) := strs_cell h.s (by rw [hn]; decide)
 have l1 : W.cell? ⟨bw, 1, none⟩ = some (.string (wd L 1)) := strs_cell h.s (by rw [hn]; decide)
 have hb0 := Below.refl W.heap.size W
 have HB1 := Lib.hid hq
 rw [hn]
 clear hr h hn hq
 go_enter Tryz.func163, Tryz.ntmps163
 go_wp2_with fail
 refine (c_isName (wd L 1) _).mono ?_
 rw [HB1.out]
 rintro e W1 ⟨rfl, hB⟩
 replace l0 := later_of hB l0
 replace l1 := later_of hB l1
 have hbn := bthen hb0 hB
 clear hb0 hB
 have hb0 := hbn
 clear hbn
 go_wp2_with fail
 refine (c_unless_f _ _).mono ?_
 rintro e w2 ⟨rfl, rfl⟩
 go_wp2
 exact ⟨rfl, HR.out _ hb0⟩
theorem c_formPlace_p (m : Fm) (L : List ByteArray) (bw pf base : Nat) (W : World) (pk : Nat) (kd : Int) (hk : W.cell? ⟨pk, 0, none⟩ = some (.int .u8 kd)) (h : FormIn m L bw pf base W) (hn : L.length = 2) (hq : nameB (wd L 1) = true) :
  Calls Tryz.prog 163 #[.pointer (some ⟨pf, 0, none⟩), .slice (some ⟨bw, 0, none⟩) L.length L.length, .pointer (some ⟨pk, 0, none⟩)] W (FormOut m pf base W (placeE m.f kd L)) := by
 have hr : placeE m.f kd L = ({ m.f with places := m.f.places ++ [⟨wd L 1, kd⟩] }, 0) := by
  unfold placeE
  rw [if_pos ⟨hn, hq⟩]
 have HR := Lib.hid hr
 have l0 : W.cell? ⟨bw, 0, none⟩ = some (.string (wd L 0)) := strs_cell h.s (by rw [hn]; decide)
 have l1 : W.cell? ⟨bw, 1, none⟩ = some (.string (wd L 1)) := strs_cell h.s (by rw [hn]; decide)
 have hb0 := Below.refl W.heap.size W
 have HB1 := Lib.hid hq
 have HP := Lib.hid h.st
 have q0 := h.st.q0
 have q1 := h.st.q1
 have q2 := h.st.q2
 have q3 := h.st.q3
 have hbase := h.bs
 have hl1 := h.l1
 have hl2 := h.l2
 have HL := Lib.hid h.lib
 have HZ := Lib.hid h.size
 rw [hn]
 clear hr h hn hq
 go_enter Tryz.func163, Tryz.ntmps163
 go_wp2_with fail
 refine (c_isName (wd L 1) _).mono ?_
 rw [HB1.out]
 rintro e W1 ⟨rfl, hB⟩
 have zz := cl7 hB l0 l1 q0 q1 q2 q3 hk
 clear l0 l1 q0 q1 q2 q3 hk
 obtain ⟨l0, l1, q0, q1, q2, q3, hk⟩ := zz
 have hbn := bthen hb0 hB
 clear hb0 hB
 have hb0 := hbn
 clear hbn
 go_wp2_with fail
 refine (c_unless_t _ _).mono ?_
 rintro e w2 ⟨rfl, rfl⟩
 go_upto_region 1 with (fail)
 refine wp_region_assert1 11 W1 (fun i => ([Stays.val (.pointer (some ⟨pf, 0, none⟩)), Stays.val (.pointer (some ⟨pf, 0, none⟩)), Stays.val (.pointer (some ⟨pf, 0, none⟩)), Stays.val (.pointer (some ⟨pf, 2, none⟩)), Stays.val (m.pv), Stays.val (.slice (some ⟨bw, 0, none⟩) 2 2), Stays.val (.pointer (some ⟨bw, 1, none⟩)), Stays.val (.string (wd L 1)), Stays.val (.int .u8 kd), Stays.val (.agg #[.string (wd L 1), .int .u8 kd]), Stays.one plC (⟨wd L 1, kd⟩ : Pl)] : List Stays)[i]?.getD Stays.any) (.pointer (some ⟨pf, 0, none⟩)) (by kernel_rfl) (by kernel_rfl) (by kernel_rfl) (Below.refl _ _) (fun _ _ _ _ _ h => panic_put h) ?hy (fun _ => rfl) ?hstep ?htail
 case hy =>
  intro o ho w
  cases Option.some.inj ho
  simp only [execOp]
  go_simp
 case hstep =>
  intro fr hfr hfd
  simp only [List.take_succ_cons, List.take_zero] at hfr ⊢
  refine ⟨?_, ?_⟩
  ·intro vs W hW hd
   have e0 : (fr vs).tmps[0]?.getD undef = .pointer (some ⟨pf, 0, none⟩) := (hfr.out vs 0).trans rfl
   exact sv (.pointer (some ⟨pf, 0, none⟩))
  refine ⟨?_, ?_⟩
  ·intro vs W hW hd
   have e0 : (fr vs).tmps[0]?.getD undef = .pointer (some ⟨pf, 0, none⟩) := (hfr.out vs 0).trans rfl
   exact sv (.pointer (some ⟨pf, 0, none⟩))
  refine ⟨?_, ?_⟩
  ·intro vs W hW hd
   have e16 : (fr vs).tmps[16]?.getD undef = .pointer (some ⟨pf, 0, none⟩) := (hfr.out vs 16).trans (by show vs 1 = _; exact hd.1 rfl)
   exact sv (.pointer (some ⟨pf, 0, none⟩))
  refine ⟨?_, ?_⟩
  ·intro vs W hW hd
   have e17 : (fr vs).tmps[17]?.getD undef = .pointer (some ⟨pf, 0, none⟩) := (hfr.out vs 17).trans (by show vs 2 = _; exact hd.1 rfl)
   exact sv (.pointer (some ⟨pf, 2, none⟩))
  refine ⟨?_, ?_⟩
  ·intro vs W hW hd
   have e18 : (fr vs).tmps[18]?.getD undef = .pointer (some ⟨pf, 2, none⟩) := (hfr.out vs 18).trans (by show vs 3 = _; exact hd.1 rfl)
   have kq2 := later_of hW q2
   exact sv (m.pv)
  refine ⟨?_, ?_⟩
  ·intro vs W hW hd
   have e1 : (fr vs).tmps[1]?.getD undef = .slice (some ⟨bw, 0, none⟩) 2 2 := (hfr.out vs 1).trans rfl
   exact sv (.slice (some ⟨bw, 0, none⟩) 2 2)
  refine ⟨?_, ?_⟩
  ·intro vs W hW hd
   have e20 : (fr vs).tmps[20]?.getD undef = .slice (some ⟨bw, 0, none⟩) 2 2 := (hfr.out vs 20).trans (by show vs 5 = _; exact hd.1 rfl)
   exact sv (.pointer (some ⟨bw, 1, none⟩))
  refine ⟨?_, ?_⟩
  ·intro vs W hW hd
   have e21 : (fr vs).tmps[21]?.getD undef = .pointer (some ⟨bw, 1, none⟩) := (hfr.out vs 21).trans (by show vs 6 = _; exact hd.1 rfl)
   have kl1 := later_of hW l1
   exact sv (.string (wd L 1))
  refine ⟨?_, ?_⟩
  ·intro vs W hW hd
   have e2 : (fr vs).tmps[2]?.getD undef = .pointer (some ⟨pk, 0, none⟩) := (hfr.out vs 2).trans rfl
   have khk := later_of hW hk
   exact sv (.int .u8 kd)
  refine ⟨?_, ?_⟩
  ·intro vs W hW hd
   have e22 : (fr vs).tmps[22]?.getD undef = .string (wd L 1) := (hfr.out vs 22).trans (by show vs 7 = _; exact hd.1 rfl)
   have e23 : (fr vs).tmps[23]?.getD undef = .int .u8 kd := (hfr.out vs 23).trans (by show vs 8 = _; exact hd.2.1 rfl)
   exact sv (.agg #[.string (wd L 1), .int .u8 kd])
  refine ⟨?_, ?_⟩
  ·intro vs W hW hd
   have e24 : (fr vs).tmps[24]?.getD undef = .agg #[.string (wd L 1), .int .u8 kd] := (hfr.out vs 24).trans (by show vs 9 = _; exact hd.1 rfl)
   refine step_val (.slice (some ⟨W.heap.size, 0, none⟩) 1 1) (W' := W.alloc (.cells (plC (⟨wd L 1, kd⟩ : Pl)).toArray 62)) (by simp only [execOp]; go_simp; rfl) ⟨_, rfl, ⟨_, rfl, ?_⟩, by go_grown⟩
   intro j u hj
   rw [Nat.zero_add]
   exact new_cell W (plC (⟨wd L 1, kd⟩ : Pl)) _ hj
  trivial
 case htail =>
  intro vs V hW hv
  obtain ⟨bn, v10, hcn⟩ := hv.2.2.2.2.2.2.2.2.2.2.1
  have v4 : vs 4 = m.pv := hv.2.2.2.2.1
  have v0 : vs 0 = .pointer (some ⟨pf, 0, none⟩) := hv.1
  clear hv
  simp only [List.take_succ_cons, List.take_zero, List.drop_succ_cons, List.drop_zero, frameV, Act.put, List.setIfInBounds_toArray, List.set_cons_zero, List.set_cons_succ, v0, v4, v10]
  have hbw := bthen hb0 hW
  have hP2 := HP.out.later hbw
  clear l0 l1 q0 q1 q2 q3 hk hb0
  have hbs := hbw.size
  obtain ⟨i0, hi0, hz0, hz1, hz2⟩ := info_parts pl_info
  refine wpList_append_own_at _ (by rfl) _ _ 22 (by rfl) base 62 i0 _ 2 24 Tryz.underlying22 hi0 hz0 hz1 hz2 (by rfl) (by decide) _ _ _ (by rfl) hP2.pl ⟨bn, 0, none⟩ 1 1 (plC (⟨wd L 1, kd⟩ : Pl)) (by rfl) (by rfl) (one_add hcn) (by simp [plC, Value.oneCell']) (by unfold maxLen; omega) (by omega) (by omega) ?_
  intro v' w1 hown' hgrow _ hat
  have hkg := kept_of_grown hgrow
  have hown2 : OwnPl w1 base v' (m.f.places ++ [(⟨wd L 1, kd⟩ : Pl)]) := by
   unfold OwnPl
   rw [List.length_append, cellsL_snoc]
   exact hown'
  obtain ⟨b', c', rfl, _⟩ := Lst.own plC_len hown2
  have npf : ¬ (m.pv).ownBlock = some pf := fun e => by
   have h1 := (hP2.pl.lt pf e).1
   have h2 := hP2.lt
   omega
  have a0 := hkg.cell npf hP2.q0
  have a1 := hkg.cell npf hP2.q1
  have a2 := hkg.cell npf hP2.q2
  have a3 := hkg.cell npf hP2.q3
  have fa0 := (hkg.frozen (cell_lt hP2.q0) npf).trans hP2.fq0
  have fa1 := (hkg.frozen (cell_lt hP2.q1) npf).trans hP2.fq1
  have fa2 := (hkg.frozen (cell_lt hP2.q2) npf).trans hP2.fq2
  have fa3 := (hkg.frozen (cell_lt hP2.q3) npf).trans hP2.fq3
  have oth := ownsRow_kept hP2.gt hkg (fun k e e2 => hP2.apart k e2 e)
  have zp := hP2.lt
  have hnew : ∀ k, (Value.slice b' (m.f.places ++ [(⟨wd L 1, kd⟩ : Pl)]).length c').ownBlock = some k → m.pv.ownBlock = some k ∨ k = V.heap.size := fun k e => by
   rcases hat with h | h
   ·left; rw [← h]; exact e
   ·right; rw [h] at e; exact (Option.some.inj e).symm
  have HOW := Lib.hid hown2
  have HOT := Lib.hid oth
  have HNW := Lib.hid hnew
  have HKG := Lib.hid hkg
  have HPP := Lib.hid hP2
  have HBW := Lib.hid hbw
  have zb := hP2.own_lt (.inl rfl)
  have zs1 := hkg.size
  clear hown' hgrow hat hown2 oth hnew hkg hP2 hbw
  go_wp2
  go_end0
  have hrr := HR.out
  refine ⟨by rw [hrr]; rfl, ((Kept.of_below HBW.out).trans (HKG.out.wider (O' := m.own pf) (fun k _ e => .inr (.inl e))) (fun _ _ e => e)).setCell (.inl (.inl rfl)) _, fun _ => ⟨⟨{ m.f with places := m.f.places ++ [(⟨wd L 1, kd⟩ : Pl)] }, b', c', m.ga, m.gc⟩, by rw [hrr], ?_, ?_⟩⟩
  ·have hks : Kept (fun k => k = pf) w1 _ := (Kept.refl (fun k => k = pf) w1).setCell (p := ⟨pf, 2, none⟩) (.inl rfl) (Value.slice b' (m.f.places.length + 1) c')
   have hpn := ownsRow_kept HOW.out hks (fun k e e2 => by have := (HOW.out.lt k e).1; omega)
   have hpo := ownsRow_kept HOT.out hks (fun k e e2 => by have := (HOT.out.lt k e).1; omega)
   refine ⟨by go_simp, by go_simp, by go_simp, by go_simp, by go_simp, by go_simp, by go_simp, by go_simp, hpn, hpo, ?_, zp⟩
   intro g e e2
   rcases HNW.out g e with h | h
   ·exact HPP.out.apart g h e2
   ·have := (HPP.out.gt.lt g e2).2
    omega
  ·rintro k (rfl | e | e)
   ·exact .inl (.inl rfl)
   ·rcases HNW.out k e with h | h
    ·exact .inl (.inr (.inl h))
    ·exact .inr (by have := HBW.out.size; omega)
   ·exact .inl (.inr (.inr e))
theorem c_formGate_len (m : Fm) (L : List ByteArray) (bw pf base : Nat) (W : World) (_h : FormIn m L bw pf base W) (hn : ¬ L.length = 5) :
  Calls Tryz.prog 164 #[.pointer (some ⟨pf, 0, none⟩), .slice (some ⟨bw, 0, none⟩) L.length L.length] W (FormOut m pf base W (gateE m.f L)) := by
 have hr : (gateE m.f L).2 = 4 := by
  unfold gateE
  rw [if_neg (fun h => hn h.1)]
 have HR := Lib.hid (fun (w' : World) (hb : Below W.heap.size W w') => FormOut.no (m := m) (pf := pf) (base := base) hr (by decide) hb)
 have hb0 := Below.refl W.heap.size W
 have e1 : ((L.length : Int) == 5) = false := beq_eq_false_iff_ne.2 (by omega)
 clear hr hn
 go_enter Tryz.func164, Tryz.ntmps164
 go_wp2_with fail
 refine (c_unless_f _ _).mono ?_
 rintro e w2 ⟨rfl, rfl⟩
 go_wp2
 exact ⟨rfl, HR.out _ hb0⟩
theorem c_formGate_n1 (m : Fm) (L : List ByteArray) (bw pf base : Nat) (W : World) (h : FormIn m L bw pf base W) (hn : L.length = 5) (hq1 : nameB (wd L 1) = false)  :
  Calls Tryz.prog 164 #[.pointer (some ⟨pf, 0, none⟩), .slice (some ⟨bw, 0, none⟩) L.length L.length] W (FormOut m pf base W (gateE m.f L)) := by
 have hr : (gateE m.f L).2 = 4 := by
  unfold gateE
  rw [if_neg (fun h => by have h2 := h.2.1; rw [hq1] at h2; cases h2)]
 have HR := Lib.hid (fun (w' : World) (hb : Below W.heap.size W w') => FormOut.no (m := m) (pf := pf) (base := base) hr (by decide) hb)
 have l0 : W.cell? ⟨bw, 0, none⟩ = some (.string (wd L 0)) := strs_cell h.s (by rw [hn]; decide)
 have l1 : W.cell? ⟨bw, 1, none⟩ = some (.string (wd L 1)) := strs_cell h.s (by rw [hn]; decide)
 have l2 : W.cell? ⟨bw, 2, none⟩ = some (.string (wd L 2)) := strs_cell h.s (by rw [hn]; decide)
 have l3 : W.cell? ⟨bw, 3, none⟩ = some (.string (wd L 3)) := strs_cell h.s (by rw [hn]; decide)
 have l4 : W.cell? ⟨bw, 4, none⟩ = some (.string (wd L 4)) := strs_cell h.s (by rw [hn]; decide)
 have hb0 := Below.refl W.heap.size W
 have HB1 := Lib.hid hq1
 rw [hn]
 clear hr h hn hq1
 go_enter Tryz.func164, Tryz.ntmps164
 go_wp2_with fail
 refine (c_isName (wd L 1) _).mono ?_
 rw [HB1.out]
 rintro e W1 ⟨rfl, hB⟩
 have zz := cl5 hB l0 l1 l2 l3 l4
 clear l0 l1 l2 l3 l4
 obtain ⟨l0, l1, l2, l3, l4⟩ := zz
 have hbn := bthen hb0 hB
 clear hb0 hB
 have hb0 := hbn
 clear hbn
 go_wp2_with fail
 refine (c_unless_f _ _).mono ?_
 rintro e w2 ⟨rfl, rfl⟩
 go_wp2
 exact ⟨rfl, HR.out _ hb0⟩
theorem c_formGate_n2 (m : Fm) (L : List ByteArray) (bw pf base : Nat) (W : World) (h : FormIn m L bw pf base W) (hn : L.length = 5) (hq1 : nameB (wd L 1) = true) (hq2 : nameB (wd L 2) = false)  :
  Calls Tryz.prog 164 #[.pointer (some ⟨pf, 0, none⟩), .slice (some ⟨bw, 0, none⟩) L.length L.length] W (FormOut m pf base W (gateE m.f L)) := by
 have hr : (gateE m.f L).2 = 4 := by
  unfold gateE
  rw [if_neg (fun h => by have h2 := h.2.2.1; rw [hq2] at h2; cases h2)]
 have HR := Lib.hid (fun (w' : World) (hb : Below W.heap.size W w') => FormOut.no (m := m) (pf := pf) (base := base) hr (by decide) hb)
 have l0 : W.cell? ⟨bw, 0, none⟩ = some (.string (wd L 0)) := strs_cell h.s (by rw [hn]; decide)
 have l1 : W.cell? ⟨bw, 1, none⟩ = some (.string (wd L 1)) := strs_cell h.s (by rw [hn]; decide)
 have l2 : W.cell? ⟨bw, 2, none⟩ = some (.string (wd L 2)) := strs_cell h.s (by rw [hn]; decide)
 have l3 : W.cell? ⟨bw, 3, none⟩ = some (.string (wd L 3)) := strs_cell h.s (by rw [hn]; decide)
 have l4 : W.cell? ⟨bw, 4, none⟩ = some (.string (wd L 4)) := strs_cell h.s (by rw [hn]; decide)
 have hb0 := Below.refl W.heap.size W
 have HB1 := Lib.hid hq1
 have HB2 := Lib.hid hq2
 rw [hn]
 clear hr h hn hq1 hq2
 go_enter Tryz.func164, Tryz.ntmps164
 go_wp2_with fail
 refine (c_isName (wd L 1) _).mono ?_
 rw [HB1.out]
 rintro e W1 ⟨rfl, hB⟩
 have zz := cl5 hB l0 l1 l2 l3 l4
 clear l0 l1 l2 l3 l4
 obtain ⟨l0, l1, l2, l3, l4⟩ := zz
 have hbn := bthen hb0 hB
 clear hb0 hB
 have hb0 := hbn
 clear hbn
 go_wp2_with fail
 refine (c_isName (wd L 2) _).mono ?_
 rw [HB2.out]
 rintro e W2 ⟨rfl, hB⟩
 have zz := cl5 hB l0 l1 l2 l3 l4
 clear l0 l1 l2 l3 l4
 obtain ⟨l0, l1, l2, l3, l4⟩ := zz
 have hbn := bthen hb0 hB
 clear hb0 hB
 have hb0 := hbn
 clear hbn
 go_wp2_with fail
 refine (c_unless_f _ _).mono ?_
 rintro e w2 ⟨rfl, rfl⟩
 go_wp2
 exact ⟨rfl, HR.out _ hb0⟩
theorem c_formGate_n3 (m : Fm) (L : List ByteArray) (bw pf base : Nat) (W : World) (h : FormIn m L bw pf base W) (hn : L.length = 5) (hq1 : nameB (wd L 1) = true) (hq2 : nameB (wd L 2) = true) (hq3 : nameB (wd L 3) = false)  :
  Calls Tryz.prog 164 #[.pointer (some ⟨pf, 0, none⟩), .slice (some ⟨bw, 0, none⟩) L.length L.length] W (FormOut m pf base W (gateE m.f L)) := by
 have hr : (gateE m.f L).2 = 4 := by
  unfold gateE
  rw [if_neg (fun h => by have h2 := h.2.2.2; rw [hq3] at h2; cases h2)]
 have HR := Lib.hid (fun (w' : World) (hb : Below W.heap.size W w') => FormOut.no (m := m) (pf := pf) (base := base) hr (by decide) hb)
 have l0 : W.cell? ⟨bw, 0, none⟩ = some (.string (wd L 0)) := strs_cell h.s (by rw [hn]; decide)
 have l1 : W.cell? ⟨bw, 1, none⟩ = some (.string (wd L 1)) := strs_cell h.s (by rw [hn]; decide)
 have l2 : W.cell? ⟨bw, 2, none⟩ = some (.string (wd L 2)) := strs_cell h.s (by rw [hn]; decide)
 have l3 : W.cell? ⟨bw, 3, none⟩ = some (.string (wd L 3)) := strs_cell h.s (by rw [hn]; decide)
 have l4 : W.cell? ⟨bw, 4, none⟩ = some (.string (wd L 4)) := strs_cell h.s (by rw [hn]; decide)
 have hb0 := Below.refl W.heap.size W
 have HB1 := Lib.hid hq1
 have HB2 := Lib.hid hq2
 have HB3 := Lib.hid hq3
 rw [hn]
 clear hr h hn hq1 hq2 hq3
 go_enter Tryz.func164, Tryz.ntmps164
 go_wp2_with fail
 refine (c_isName (wd L 1) _).mono ?_
 rw [HB1.out]
 rintro e W1 ⟨rfl, hB⟩
 have zz := cl5 hB l0 l1 l2 l3 l4
 clear l0 l1 l2 l3 l4
 obtain ⟨l0, l1, l2, l3, l4⟩ := zz
 have hbn := bthen hb0 hB
 clear hb0 hB
 have hb0 := hbn
 clear hbn
 go_wp2_with fail
 refine (c_isName (wd L 2) _).mono ?_
 rw [HB2.out]
 rintro e W2 ⟨rfl, hB⟩
 have zz := cl5 hB l0 l1 l2 l3 l4
 clear l0 l1 l2 l3 l4
 obtain ⟨l0, l1, l2, l3, l4⟩ := zz
 have hbn := bthen hb0 hB
 clear hb0 hB
 have hb0 := hbn
 clear hbn
 go_wp2_with fail
 refine (c_isName (wd L 3) _).mono ?_
 rw [HB3.out]
 rintro e W3 ⟨rfl, hB⟩
 have zz := cl5 hB l0 l1 l2 l3 l4
 clear l0 l1 l2 l3 l4
 obtain ⟨l0, l1, l2, l3, l4⟩ := zz
 have hbn := bthen hb0 hB
 clear hb0 hB
 have hb0 := hbn
 clear hbn
 go_wp2_with fail
 refine (c_unless_f _ _).mono ?_
 rintro e w2 ⟨rfl, rfl⟩
 go_wp2
 exact ⟨rfl, HR.out _ hb0⟩
theorem c_formGate_none (m : Fm) (L : List ByteArray) (bw pf base : Nat) (W : World) (h : FormIn m L bw pf base W) (hn : L.length = 5) (hq1 : nameB (wd L 1) = true) (hq2 : nameB (wd L 2) = true) (hq3 : nameB (wd L 3) = true) (hso : shortO (wd L 4) = none) :
  Calls Tryz.prog 164 #[.pointer (some ⟨pf, 0, none⟩), .slice (some ⟨bw, 0, none⟩) L.length L.length] W (FormOut m pf base W (gateE m.f L)) := by
 have hr : (gateE m.f L).2 = 4 := by
  unfold gateE
  rw [if_pos ⟨hn, hq1, hq2, hq3⟩, hso]
 have HR := Lib.hid (fun (w' : World) (hb : Below W.heap.size W w') => FormOut.no (m := m) (pf := pf) (base := base) hr (by decide) hb)
 have l0 : W.cell? ⟨bw, 0, none⟩ = some (.string (wd L 0)) := strs_cell h.s (by rw [hn]; decide)
 have l1 : W.cell? ⟨bw, 1, none⟩ = some (.string (wd L 1)) := strs_cell h.s (by rw [hn]; decide)
 have l2 : W.cell? ⟨bw, 2, none⟩ = some (.string (wd L 2)) := strs_cell h.s (by rw [hn]; decide)
 have l3 : W.cell? ⟨bw, 3, none⟩ = some (.string (wd L 3)) := strs_cell h.s (by rw [hn]; decide)
 have l4 : W.cell? ⟨bw, 4, none⟩ = some (.string (wd L 4)) := strs_cell h.s (by rw [hn]; decide)
 have hb0 := Below.refl W.heap.size W
 have HB1 := Lib.hid hq1
 have HB2 := Lib.hid hq2
 have HB3 := Lib.hid hq3
 have HSO := Lib.hid hso
 have HP := Lib.hid h.st
 have HIN := Lib.hid (h.st.in (by have := h.l1; omega) (by have := h.l2; omega))
 have q0 := h.st.q0
 have q1 := h.st.q1
 have q2 := h.st.q2
 have q3 := h.st.q3
 have hbase := h.bs
 have hl1 := h.l1
 have hl2 := h.l2
 have HL := Lib.hid h.lib
 have HZ := Lib.hid h.size
 have zpf := cell_lt q0
 have zbw := cell_lt l0
 rw [hn]
 clear hr h hn hq1 hq2 hq3 hso
 go_enter Tryz.func164, Tryz.ntmps164
 go_wp2_with fail
 refine (c_isName (wd L 1) _).mono ?_
 rw [HB1.out]
 rintro e W1 ⟨rfl, hB⟩
 have zz := cl9 hB l0 l1 l2 l3 l4 q0 q1 q2 q3
 clear l0 l1 l2 l3 l4 q0 q1 q2 q3
 obtain ⟨l0, l1, l2, l3, l4, q0, q1, q2, q3⟩ := zz
 have hbn := bthen hb0 hB
 clear hb0 hB
 have hb0 := hbn
 clear hbn
 go_wp2_with fail
 refine (c_isName (wd L 2) _).mono ?_
 rw [HB2.out]
 rintro e W2 ⟨rfl, hB⟩
 have zz := cl9 hB l0 l1 l2 l3 l4 q0 q1 q2 q3
 clear l0 l1 l2 l3 l4 q0 q1 q2 q3
 obtain ⟨l0, l1, l2, l3, l4, q0, q1, q2, q3⟩ := zz
 have hbn := bthen hb0 hB
 clear hb0 hB
 have hb0 := hbn
 clear hbn
 go_wp2_with fail
 refine (c_isName (wd L 3) _).mono ?_
 rw [HB3.out]
 rintro e W3 ⟨rfl, hB⟩
 have zz := cl9 hB l0 l1 l2 l3 l4 q0 q1 q2 q3
 clear l0 l1 l2 l3 l4 q0 q1 q2 q3
 obtain ⟨l0, l1, l2, l3, l4, q0, q1, q2, q3⟩ := zz
 have hbn := bthen hb0 hB
 clear hb0 hB
 have hb0 := hbn
 clear hbn
 go_wp2_with fail
 refine (c_unless_t _ _).mono ?_
 rintro e w2 ⟨rfl, rfl⟩
 go_upto_region 1 with (fail)
 refine wp_region_assert 9 W3 (fun i => ([Stays.val (.slice (some ⟨bw, 0, none⟩) 5 5), Stays.val (.pointer (some ⟨bw, 1, none⟩)), Stays.val (.string (wd L 1)), Stays.val (.slice (some ⟨bw, 0, none⟩) 5 5), Stays.val (.pointer (some ⟨bw, 4, none⟩)), Stays.val (.string (wd L 4)), Stays.no, Stays.any, Stays.fresh W3.heap.size gtZ] : List Stays)[i]?.getD Stays.any) (by kernel_rfl) (by kernel_rfl) (by kernel_rfl) (Below.refl _ _) ?hstep ?htail
 case hstep =>
  intro fr hfr hfd
  simp only [List.take_succ_cons, List.take_zero] at hfr ⊢
  refine ⟨?_, ?_⟩
  ·intro vs W hW hd
   have e1 : (fr vs).tmps[1]?.getD undef = .slice (some ⟨bw, 0, none⟩) 5 5 := (hfr.out vs 1).trans rfl
   exact sv (.slice (some ⟨bw, 0, none⟩) 5 5)
  refine ⟨?_, ?_⟩
  ·intro vs W hW hd
   have e27 : (fr vs).tmps[27]?.getD undef = .slice (some ⟨bw, 0, none⟩) 5 5 := (hfr.out vs 27).trans (by show vs 0 = _; exact hd.1 rfl)
   exact sv (.pointer (some ⟨bw, 1, none⟩))
  refine ⟨?_, ?_⟩
  ·intro vs W hW hd
   have e28 : (fr vs).tmps[28]?.getD undef = .pointer (some ⟨bw, 1, none⟩) := (hfr.out vs 28).trans (by show vs 1 = _; exact hd.1 rfl)
   have kl1 := later_of hW l1
   exact sv (.string (wd L 1))
  refine ⟨?_, ?_⟩
  ·intro vs W hW hd
   have e1 : (fr vs).tmps[1]?.getD undef = .slice (some ⟨bw, 0, none⟩) 5 5 := (hfr.out vs 1).trans rfl
   exact sv (.slice (some ⟨bw, 0, none⟩) 5 5)
  refine ⟨?_, ?_⟩
  ·intro vs W hW hd
   have e30 : (fr vs).tmps[30]?.getD undef = .slice (some ⟨bw, 0, none⟩) 5 5 := (hfr.out vs 30).trans (by show vs 3 = _; exact hd.1 rfl)
   exact sv (.pointer (some ⟨bw, 4, none⟩))
  refine ⟨?_, ?_⟩
  ·intro vs W hW hd
   have e31 : (fr vs).tmps[31]?.getD undef = .pointer (some ⟨bw, 4, none⟩) := (hfr.out vs 31).trans (by show vs 4 = _; exact hd.1 rfl)
   have kl4 := later_of hW l4
   exact sv (.string (wd L 4))
  refine ⟨?_, ?_⟩
  ·intro vs W hW hd
   have e32 : (fr vs).tmps[32]?.getD undef = .string (wd L 4) := (hfr.out vs 32).trans (by show vs 5 = _; exact hd.1 rfl)
   exact step_num (f := 90) (args := #[.string (wd L 4)]) (W' := W) (by simp only [execOp]; go_simp) (c_short _ W (HL.out.later (bthen hb0 hW)) (HZ.out 4)) (fun n w' hn hb => by rw [HSO.out] at hn; cases hn) (fun hn w' hb => ⟨hfd.out vs, HR.out _ (bthen (bthen hb0 hW) hb)⟩)
  refine ⟨?_, ?_⟩
  ·intro vs W hW hd
   exact absurd (hd.2.1 rfl) id
  refine ⟨?_, ?_⟩
  ·intro vs W hW hd
   exact step_val (.pointer (some ⟨W.heap.size, 0, none⟩)) (W' := W.alloc (.cells gtZ.toArray 65)) (by simp only [execOp]; go_simp; rfl) ⟨_, rfl, ⟨_, rfl, hW.size, fun j u hj => ⟨new_cell W gtZ _ hj, new_frozen W gtZ _ hj⟩⟩, by go_grown⟩
  trivial
 case htail =>
  intro vs V hW hv
  exact absurd (hv.2.2.2.2.2.2.1) id
theorem c_formGate_A (m : Fm) (L : List ByteArray) (bw pf base : Nat) (W : World) (h : FormIn m L bw pf base W) (hn : L.length = 5) (hq1 : nameB (wd L 1) = true) (hq2 : nameB (wd L 2) = true) (hq3 : nameB (wd L 3) = true) (n : Int) (hso : shortO (wd L 4) = some n) (hA : ¬ 0 ≤ idxS (plNames m.f.places) (wd L 2)) :
  Calls Tryz.prog 164 #[.pointer (some ⟨pf, 0, none⟩), .slice (some ⟨bw, 0, none⟩) L.length L.length] W (FormOut m pf base W (gateE m.f L)) := by
 have hr : (gateE m.f L).2 = 50 := by
  unfold gateE
  rw [if_pos ⟨hn, hq1, hq2, hq3⟩, hso]
  dsimp only
  rw [if_neg (fun h => hA h.1)]
 have HR := Lib.hid (fun (w' : World) (hb : Below W.heap.size W w') => FormOut.no (m := m) (pf := pf) (base := base) hr (by decide) hb)
 have l0 : W.cell? ⟨bw, 0, none⟩ = some (.string (wd L 0)) := strs_cell h.s (by rw [hn]; decide)
 have l1 : W.cell? ⟨bw, 1, none⟩ = some (.string (wd L 1)) := strs_cell h.s (by rw [hn]; decide)
 have l2 : W.cell? ⟨bw, 2, none⟩ = some (.string (wd L 2)) := strs_cell h.s (by rw [hn]; decide)
 have l3 : W.cell? ⟨bw, 3, none⟩ = some (.string (wd L 3)) := strs_cell h.s (by rw [hn]; decide)
 have l4 : W.cell? ⟨bw, 4, none⟩ = some (.string (wd L 4)) := strs_cell h.s (by rw [hn]; decide)
 have eA : decide (idxS (plNames m.f.places) (wd L 2) ≥ 0) = false := decide_eq_false hA
 clear hA
 have hb0 := Below.refl W.heap.size W
 have HB1 := Lib.hid hq1
 have HB2 := Lib.hid hq2
 have HB3 := Lib.hid hq3
 have HSO := Lib.hid hso
 have HP := Lib.hid h.st
 have HIN := Lib.hid (h.st.in (by have := h.l1; omega) (by have := h.l2; omega))
 have q0 := h.st.q0
 have q1 := h.st.q1
 have q2 := h.st.q2
 have q3 := h.st.q3
 have hbase := h.bs
 have hl1 := h.l1
 have hl2 := h.l2
 have HL := Lib.hid h.lib
 have HZ := Lib.hid h.size
 have zpf := cell_lt q0
 have zbw := cell_lt l0
 rw [hn]
 clear hr h hn hq1 hq2 hq3 hso
 go_enter Tryz.func164, Tryz.ntmps164
 go_wp2_with fail
 refine (c_isName (wd L 1) _).mono ?_
 rw [HB1.out]
 rintro e W1 ⟨rfl, hB⟩
 have zz := cl9 hB l0 l1 l2 l3 l4 q0 q1 q2 q3
 clear l0 l1 l2 l3 l4 q0 q1 q2 q3
 obtain ⟨l0, l1, l2, l3, l4, q0, q1, q2, q3⟩ := zz
 have hbn := bthen hb0 hB
 clear hb0 hB
 have hb0 := hbn
 clear hbn
 go_wp2_with fail
 refine (c_isName (wd L 2) _).mono ?_
 rw [HB2.out]
 rintro e W2 ⟨rfl, hB⟩
 have zz := cl9 hB l0 l1 l2 l3 l4 q0 q1 q2 q3
 clear l0 l1 l2 l3 l4 q0 q1 q2 q3
 obtain ⟨l0, l1, l2, l3, l4, q0, q1, q2, q3⟩ := zz
 have hbn := bthen hb0 hB
 clear hb0 hB
 have hb0 := hbn
 clear hbn
 go_wp2_with fail
 refine (c_isName (wd L 3) _).mono ?_
 rw [HB3.out]
 rintro e W3 ⟨rfl, hB⟩
 have zz := cl9 hB l0 l1 l2 l3 l4 q0 q1 q2 q3
 clear l0 l1 l2 l3 l4 q0 q1 q2 q3
 obtain ⟨l0, l1, l2, l3, l4, q0, q1, q2, q3⟩ := zz
 have hbn := bthen hb0 hB
 clear hb0 hB
 have hb0 := hbn
 clear hbn
 go_wp2_with fail
 refine (c_unless_t _ _).mono ?_
 rintro e w2 ⟨rfl, rfl⟩
 go_upto_region 1 with (fail)
 refine wp_region_assert 9 W3 (fun i => ([Stays.val (.slice (some ⟨bw, 0, none⟩) 5 5), Stays.val (.pointer (some ⟨bw, 1, none⟩)), Stays.val (.string (wd L 1)), Stays.val (.slice (some ⟨bw, 0, none⟩) 5 5), Stays.val (.pointer (some ⟨bw, 4, none⟩)), Stays.val (.string (wd L 4)), Stays.val (.int .i64 n), Stays.val (.agg #[.string (wd L 1), .int .i64 0, .int .i64 0, .int .i64 n]), Stays.fresh W3.heap.size gtZ] : List Stays)[i]?.getD Stays.any) (by kernel_rfl) (by kernel_rfl) (by kernel_rfl) (Below.refl _ _) ?hstep ?htail
 case hstep =>
  intro fr hfr hfd
  simp only [List.take_succ_cons, List.take_zero] at hfr ⊢
  refine ⟨?_, ?_⟩
  ·intro vs W hW hd
   have e1 : (fr vs).tmps[1]?.getD undef = .slice (some ⟨bw, 0, none⟩) 5 5 := (hfr.out vs 1).trans rfl
   exact sv (.slice (some ⟨bw, 0, none⟩) 5 5)
  refine ⟨?_, ?_⟩
  ·intro vs W hW hd
   have e27 : (fr vs).tmps[27]?.getD undef = .slice (some ⟨bw, 0, none⟩) 5 5 := (hfr.out vs 27).trans (by show vs 0 = _; exact hd.1 rfl)
   exact sv (.pointer (some ⟨bw, 1, none⟩))
  refine ⟨?_, ?_⟩
  ·intro vs W hW hd
   have e28 : (fr vs).tmps[28]?.getD undef = .pointer (some ⟨bw, 1, none⟩) := (hfr.out vs 28).trans (by show vs 1 = _; exact hd.1 rfl)
   have kl1 := later_of hW l1
   exact sv (.string (wd L 1))
  refine ⟨?_, ?_⟩
  ·intro vs W hW hd
   have e1 : (fr vs).tmps[1]?.getD undef = .slice (some ⟨bw, 0, none⟩) 5 5 := (hfr.out vs 1).trans rfl
   exact sv (.slice (some ⟨bw, 0, none⟩) 5 5)
  refine ⟨?_, ?_⟩
  ·intro vs W hW hd
   have e30 : (fr vs).tmps[30]?.getD undef = .slice (some ⟨bw, 0, none⟩) 5 5 := (hfr.out vs 30).trans (by show vs 3 = _; exact hd.1 rfl)
   exact sv (.pointer (some ⟨bw, 4, none⟩))
  refine ⟨?_, ?_⟩
  ·intro vs W hW hd
   have e31 : (fr vs).tmps[31]?.getD undef = .pointer (some ⟨bw, 4, none⟩) := (hfr.out vs 31).trans (by show vs 4 = _; exact hd.1 rfl)
   have kl4 := later_of hW l4
   exact sv (.string (wd L 4))
  refine ⟨?_, ?_⟩
  ·intro vs W hW hd
   have e32 : (fr vs).tmps[32]?.getD undef = .string (wd L 4) := (hfr.out vs 32).trans (by show vs 5 = _; exact hd.1 rfl)
   exact step_num (f := 90) (args := #[.string (wd L 4)]) (W' := W) (by simp only [execOp]; go_simp) (c_short _ W (HL.out.later (bthen hb0 hW)) (HZ.out 4)) (fun k w' hn hb => by rw [HSO.out] at hn; cases hn; exact ⟨_, rfl, rfl, hb⟩) (fun hn w' hb => by rw [HSO.out] at hn; cases hn)
  refine ⟨?_, ?_⟩
  ·intro vs W hW hd
   have e29 : (fr vs).tmps[29]?.getD undef = .string (wd L 1) := (hfr.out vs 29).trans (by show vs 2 = _; exact hd.1 rfl)
   have e33 : (fr vs).tmps[33]?.getD undef = .int .i64 n := (hfr.out vs 33).trans (by show vs 6 = _; exact hd.2.1 rfl)
   exact sv (.agg #[.string (wd L 1), .int .i64 0, .int .i64 0, .int .i64 n])
  refine ⟨?_, ?_⟩
  ·intro vs W hW hd
   exact step_val (.pointer (some ⟨W.heap.size, 0, none⟩)) (W' := W.alloc (.cells gtZ.toArray 65)) (by simp only [execOp]; go_simp; rfl) ⟨_, rfl, ⟨_, rfl, hW.size, fun j u hj => ⟨new_cell W gtZ _ hj, new_frozen W gtZ _ hj⟩⟩, by go_grown⟩
  trivial
 case htail =>
  intro vs V1 hW hv
  obtain ⟨bg, v8, zbg, hbg⟩ := hv.2.2.2.2.2.2.2.2.1
  have v7 : vs 7 = .agg #[.string (wd L 1), .int .i64 0, .int .i64 0, .int .i64 n] := hv.2.2.2.2.2.2.2.1
  clear hv
  simp only [List.take_succ_cons, List.take_zero, List.drop_succ_cons, List.drop_zero, frameV, Act.put, List.setIfInBounds_toArray, List.set_cons_zero, List.set_cons_succ, v7, v8]
  have hbw := bthen hb0 hW
  have zz := cl9 hW l0 l1 l2 l3 l4 q0 q1 q2 q3
  clear l0 l1 l2 l3 l4 q0 q1 q2 q3
  obtain ⟨l0, l1, l2, l3, l4, q0, q1, q2, q3⟩ := zz
  have g0 : V1.cell? ⟨bg, 0, none⟩ = some (.string ⟨#[]⟩) := (hbg 0 _ rfl).1
  have fg0 := (hbg 0 (.string ⟨#[]⟩) rfl).2
  have g1 : V1.cell? ⟨bg, 1, none⟩ = some (.int .i64 0) := (hbg 1 _ rfl).1
  have fg1 := (hbg 1 (.int .i64 0) rfl).2
  have g2 : V1.cell? ⟨bg, 2, none⟩ = some (.int .i64 0) := (hbg 2 _ rfl).1
  have fg2 := (hbg 2 (.int .i64 0) rfl).2
  have g3 : V1.cell? ⟨bg, 3, none⟩ = some (.int .i64 0) := (hbg 3 _ rfl).1
  have fg3 := (hbg 3 (.int .i64 0) rfl).2
  have zw3 := hb0.size
  clear hb0 hbg hW
  have hb0 := hbw
  clear hbw
  have ne1 : pf ≠ bg := by omega
  have ne2 : bw ≠ bg := by omega
  go_upto_region 2 with (fail)
  go_name_world U1 hU1
  have hbn : Below W.heap.size W U1 := by subst hU1; have hbz := hb0.size; go_grown
  have l0n : U1.cell? ⟨bw, 0, none⟩ = some (.string (wd L 0)) := by subst hU1; go_simp
  have l1n : U1.cell? ⟨bw, 1, none⟩ = some (.string (wd L 1)) := by subst hU1; go_simp
  have l2n : U1.cell? ⟨bw, 2, none⟩ = some (.string (wd L 2)) := by subst hU1; go_simp
  have l3n : U1.cell? ⟨bw, 3, none⟩ = some (.string (wd L 3)) := by subst hU1; go_simp
  have l4n : U1.cell? ⟨bw, 4, none⟩ = some (.string (wd L 4)) := by subst hU1; go_simp
  have q0n : U1.cell? ⟨pf, 0, none⟩ = some (.int .i64 m.f.ticks) := by subst hU1; go_simp
  have q1n : U1.cell? ⟨pf, 1, none⟩ = some (.int .i64 m.f.yields) := by subst hU1; go_simp
  have q2n : U1.cell? ⟨pf, 2, none⟩ = some (m.pv) := by subst hU1; go_simp
  have q3n : U1.cell? ⟨pf, 3, none⟩ = some (m.gv) := by subst hU1; go_simp
  have g0n : U1.cell? ⟨bg, 0, none⟩ = some (.string (wd L 1)) := by subst hU1; go_simp
  have g1n : U1.cell? ⟨bg, 1, none⟩ = some (.int .i64 0) := by subst hU1; go_simp
  have g2n : U1.cell? ⟨bg, 2, none⟩ = some (.int .i64 0) := by subst hU1; go_simp
  have g3n : U1.cell? ⟨bg, 3, none⟩ = some (.int .i64 n) := by subst hU1; go_simp
  have fg0n : U1.frozen? ⟨bg, 0, none⟩ = false := by subst hU1; go_simp
  have fg1n : U1.frozen? ⟨bg, 1, none⟩ = false := by subst hU1; go_simp
  have fg2n : U1.frozen? ⟨bg, 2, none⟩ = false := by subst hU1; go_simp
  have fg3n : U1.frozen? ⟨bg, 3, none⟩ = false := by subst hU1; go_simp
  clear hU1 hb0 l0 l1 l2 l3 l4 q0 q1 q2 q3 g0 g1 g2 g3 fg0 fg1 fg2 fg3
  have hb0 := hbn
  clear hbn
  have l0 := l0n
  clear l0n
  have l1 := l1n
  clear l1n
  have l2 := l2n
  clear l2n
  have l3 := l3n
  clear l3n
  have l4 := l4n
  clear l4n
  have q0 := q0n
  clear q0n
  have q1 := q1n
  clear q1n
  have q2 := q2n
  clear q2n
  have q3 := q3n
  clear q3n
  have g0 := g0n
  clear g0n
  have g1 := g1n
  clear g1n
  have g2 := g2n
  clear g2n
  have g3 := g3n
  clear g3n
  have fg0 := fg0n
  clear fg0n
  have fg1 := fg1n
  clear fg1n
  have fg2 := fg2n
  clear fg2n
  have fg3 := fg3n
  clear fg3n
  refine wp_region_assert 17 U1 (fun i => ([Stays.val (.pointer (some ⟨pf, 0, none⟩)), Stays.val (.pointer (some ⟨pf, 0, none⟩)), Stays.val (m.v), Stays.strs (plNames m.f.places), Stays.val (.slice (some ⟨bw, 0, none⟩) 5 5), Stays.val (.pointer (some ⟨bw, 2, none⟩)), Stays.val (.string (wd L 2)), Stays.val (.int .i64 (idxS (plNames m.f.places) (wd L 2))), Stays.val (.pointer (some ⟨pf, 0, none⟩)), Stays.val (.pointer (some ⟨pf, 0, none⟩)), Stays.val (m.v), Stays.strs (plNames m.f.places), Stays.val (.slice (some ⟨bw, 0, none⟩) 5 5), Stays.val (.pointer (some ⟨bw, 3, none⟩)), Stays.val (.string (wd L 3)), Stays.val (.int .i64 (idxS (plNames m.f.places) (wd L 3))), Stays.val (.pointer (some ⟨bg, 1, none⟩))] : List Stays)[i]?.getD Stays.any) (by kernel_rfl) (by kernel_rfl) (by kernel_rfl) (Below.refl _ _) ?hstep ?htail
  case hstep =>
   intro fr hfr hfd
   simp only [List.take_succ_cons, List.take_zero] at hfr ⊢
   refine ⟨?_, ?_⟩
   ·intro vs W hW hd
    have e0 : (fr vs).tmps[0]?.getD undef = .pointer (some ⟨pf, 0, none⟩) := (hfr.out vs 0).trans rfl
    exact sv (.pointer (some ⟨pf, 0, none⟩))
   refine ⟨?_, ?_⟩
   ·intro vs W hW hd
    have e35 : (fr vs).tmps[35]?.getD undef = .pointer (some ⟨pf, 0, none⟩) := (hfr.out vs 35).trans (by show vs 0 = _; exact hd.1 rfl)
    exact sv (.pointer (some ⟨pf, 0, none⟩))
   refine ⟨?_, ?_⟩
   ·intro vs W hW hd
    have e36 : (fr vs).tmps[36]?.getD undef = .pointer (some ⟨pf, 0, none⟩) := (hfr.out vs 36).trans (by show vs 1 = _; exact hd.1 rfl)
    have kq0 := later_of hW q0
    have kq1 := later_of hW q1
    have kq2 := later_of hW q2
    have kq3 := later_of hW q3
    exact sv (m.v)
   refine ⟨?_, ?_⟩
   ·intro vs W hW hd
    have e37 : (fr vs).tmps[37]?.getD undef = m.v := (hfr.out vs 37).trans (by show vs 2 = _; exact hd.1 rfl)
    exact step_call (R := fun v w' => (Stays.strs (plNames m.f.places)).p v w' ∧ Below W.heap.size W w') (f := 102) (args := #[m.v]) (W' := W) (by simp only [execOp]; go_simp) ((c_places m W (HIN.out.later (bthen hb0 hW))).mono fun e w' ⟨⟨b, c, h1, h2⟩, h3⟩ => ⟨_, h1, ⟨_, _, rfl, trivial, h2⟩, h3⟩) fun v w' h => ⟨v, rfl, h⟩
   refine ⟨?_, ?_⟩
   ·intro vs W hW hd
    have e1 : (fr vs).tmps[1]?.getD undef = .slice (some ⟨bw, 0, none⟩) 5 5 := (hfr.out vs 1).trans rfl
    exact sv (.slice (some ⟨bw, 0, none⟩) 5 5)
   refine ⟨?_, ?_⟩
   ·intro vs W hW hd
    have e39 : (fr vs).tmps[39]?.getD undef = .slice (some ⟨bw, 0, none⟩) 5 5 := (hfr.out vs 39).trans (by show vs 4 = _; exact hd.1 rfl)
    exact sv (.pointer (some ⟨bw, 2, none⟩))
   refine ⟨?_, ?_⟩
   ·intro vs W hW hd
    have e40 : (fr vs).tmps[40]?.getD undef = .pointer (some ⟨bw, 2, none⟩) := (hfr.out vs 40).trans (by show vs 5 = _; exact hd.1 rfl)
    have kl2 := later_of hW l2
    exact sv (.string (wd L 2))
   refine ⟨?_, ?_⟩
   ·intro vs W hW hd
    obtain ⟨b38, c38, hv38, hc38, hs38⟩ := hd.1 rfl
    have e38 : (fr vs).tmps[38]?.getD undef = .slice b38 (plNames m.f.places).length c38 := (hfr.out vs 38).trans (by show vs 3 = _; exact hv38)
    have e41 : (fr vs).tmps[41]?.getD undef = .string (wd L 2) := (hfr.out vs 41).trans (by show vs 6 = _; exact hd.2.1 rfl)
    exact step_call (R := fun v w' => (Stays.val (.int .i64 (idxS (plNames m.f.places) (wd L 2)))).p v w' ∧ Below W.heap.size W w') (f := 134) (args := #[.slice b38 (plNames m.f.places).length c38, .string (wd L 2)]) (W' := W) (by simp only [execOp]; go_simp) ((c_Index (wd L 2) (plNames m.f.places) b38 c38 W hs38).mono fun e w' ⟨h1, h2⟩ => ⟨_, h1, rfl, h2⟩) fun v w' h => ⟨v, rfl, h⟩
   refine ⟨?_, ?_⟩
   ·intro vs W hW hd
    have e0 : (fr vs).tmps[0]?.getD undef = .pointer (some ⟨pf, 0, none⟩) := (hfr.out vs 0).trans rfl
    exact sv (.pointer (some ⟨pf, 0, none⟩))
   refine ⟨?_, ?_⟩
   ·intro vs W hW hd
    have e43 : (fr vs).tmps[43]?.getD undef = .pointer (some ⟨pf, 0, none⟩) := (hfr.out vs 43).trans (by show vs 8 = _; exact hd.1 rfl)
    exact sv (.pointer (some ⟨pf, 0, none⟩))
   refine ⟨?_, ?_⟩
   ·intro vs W hW hd
    have e44 : (fr vs).tmps[44]?.getD undef = .pointer (some ⟨pf, 0, none⟩) := (hfr.out vs 44).trans (by show vs 9 = _; exact hd.1 rfl)
    have kq0 := later_of hW q0
    have kq1 := later_of hW q1
    have kq2 := later_of hW q2
    have kq3 := later_of hW q3
    exact sv (m.v)
   refine ⟨?_, ?_⟩
   ·intro vs W hW hd
    have e45 : (fr vs).tmps[45]?.getD undef = m.v := (hfr.out vs 45).trans (by show vs 10 = _; exact hd.1 rfl)
    exact step_call (R := fun v w' => (Stays.strs (plNames m.f.places)).p v w' ∧ Below W.heap.size W w') (f := 102) (args := #[m.v]) (W' := W) (by simp only [execOp]; go_simp) ((c_places m W (HIN.out.later (bthen hb0 hW))).mono fun e w' ⟨⟨b, c, h1, h2⟩, h3⟩ => ⟨_, h1, ⟨_, _, rfl, trivial, h2⟩, h3⟩) fun v w' h => ⟨v, rfl, h⟩
   refine ⟨?_, ?_⟩
   ·intro vs W hW hd
    have e1 : (fr vs).tmps[1]?.getD undef = .slice (some ⟨bw, 0, none⟩) 5 5 := (hfr.out vs 1).trans rfl
    exact sv (.slice (some ⟨bw, 0, none⟩) 5 5)
   refine ⟨?_, ?_⟩
   ·intro vs W hW hd
    have e47 : (fr vs).tmps[47]?.getD undef = .slice (some ⟨bw, 0, none⟩) 5 5 := (hfr.out vs 47).trans (by show vs 12 = _; exact hd.1 rfl)
    exact sv (.pointer (some ⟨bw, 3, none⟩))
   refine ⟨?_, ?_⟩
   ·intro vs W hW hd
    have e48 : (fr vs).tmps[48]?.getD undef = .pointer (some ⟨bw, 3, none⟩) := (hfr.out vs 48).trans (by show vs 13 = _; exact hd.1 rfl)
    have kl3 := later_of hW l3
    exact sv (.string (wd L 3))
   refine ⟨?_, ?_⟩
   ·intro vs W hW hd
    obtain ⟨b46, c46, hv46, hc46, hs46⟩ := hd.1 rfl
    have e46 : (fr vs).tmps[46]?.getD undef = .slice b46 (plNames m.f.places).length c46 := (hfr.out vs 46).trans (by show vs 11 = _; exact hv46)
    have e49 : (fr vs).tmps[49]?.getD undef = .string (wd L 3) := (hfr.out vs 49).trans (by show vs 14 = _; exact hd.2.1 rfl)
    exact step_call (R := fun v w' => (Stays.val (.int .i64 (idxS (plNames m.f.places) (wd L 3)))).p v w' ∧ Below W.heap.size W w') (f := 134) (args := #[.slice b46 (plNames m.f.places).length c46, .string (wd L 3)]) (W' := W) (by simp only [execOp]; go_simp) ((c_Index (wd L 3) (plNames m.f.places) b46 c46 W hs46).mono fun e w' ⟨h1, h2⟩ => ⟨_, h1, rfl, h2⟩) fun v w' h => ⟨v, rfl, h⟩
   refine ⟨?_, ?_⟩
   ·intro vs W hW hd
    have e4 : (fr vs).tmps[4]?.getD undef = .pointer (some ⟨bg, 0, none⟩) := (hfr.out vs 4).trans rfl
    exact sv (.pointer (some ⟨bg, 1, none⟩))
   trivial
  case htail =>
   intro vs V2 hW hv
   have v7 : vs 7 = .int .i64 (idxS (plNames m.f.places) (wd L 2)) := hv.2.2.2.2.2.2.2.1
   have v15 : vs 15 = .int .i64 (idxS (plNames m.f.places) (wd L 3)) := hv.2.2.2.2.2.2.2.2.2.2.2.2.2.2.2.1
   have v16 : vs 16 = .pointer (some ⟨bg, 1, none⟩) := hv.2.2.2.2.2.2.2.2.2.2.2.2.2.2.2.2.1
   clear hv
   simp only [List.take_succ_cons, List.take_zero, List.drop_succ_cons, List.drop_zero, frameV, Act.put, List.setIfInBounds_toArray, List.set_cons_zero, List.set_cons_succ, v7, v15, v16]
   have hbw := bthen hb0 hW
   replace fg0 := later_off hW g0 fg0
   replace fg1 := later_off hW g1 fg1
   replace fg2 := later_off hW g2 fg2
   replace fg3 := later_off hW g3 fg3
   have zz := cl13 hW l0 l1 l2 l3 l4 q0 q1 q2 q3 g0 g1 g2 g3
   clear l0 l1 l2 l3 l4 q0 q1 q2 q3 g0 g1 g2 g3
   obtain ⟨l0, l1, l2, l3, l4, q0, q1, q2, q3, g0, g1, g2, g3⟩ := zz
   clear hb0 hW
   have hb0 := hbw
   clear hbw
   go_upto_region 3 with (fail)
   go_name_world U2 hU2
   have hbn : Below W.heap.size W U2 := by subst hU2; have hbz := hb0.size; go_grown
   have l0n : U2.cell? ⟨bw, 0, none⟩ = some (.string (wd L 0)) := by subst hU2; go_simp
   have l1n : U2.cell? ⟨bw, 1, none⟩ = some (.string (wd L 1)) := by subst hU2; go_simp
   have l2n : U2.cell? ⟨bw, 2, none⟩ = some (.string (wd L 2)) := by subst hU2; go_simp
   have l3n : U2.cell? ⟨bw, 3, none⟩ = some (.string (wd L 3)) := by subst hU2; go_simp
   have l4n : U2.cell? ⟨bw, 4, none⟩ = some (.string (wd L 4)) := by subst hU2; go_simp
   have q0n : U2.cell? ⟨pf, 0, none⟩ = some (.int .i64 m.f.ticks) := by subst hU2; go_simp
   have q1n : U2.cell? ⟨pf, 1, none⟩ = some (.int .i64 m.f.yields) := by subst hU2; go_simp
   have q2n : U2.cell? ⟨pf, 2, none⟩ = some (m.pv) := by subst hU2; go_simp
   have q3n : U2.cell? ⟨pf, 3, none⟩ = some (m.gv) := by subst hU2; go_simp
   have g0n : U2.cell? ⟨bg, 0, none⟩ = some (.string (wd L 1)) := by subst hU2; go_simp
   have g1n : U2.cell? ⟨bg, 1, none⟩ = some (.int .i64 (idxS (plNames m.f.places) (wd L 2))) := by subst hU2; go_simp
   have g2n : U2.cell? ⟨bg, 2, none⟩ = some (.int .i64 (idxS (plNames m.f.places) (wd L 3))) := by subst hU2; go_simp
   have g3n : U2.cell? ⟨bg, 3, none⟩ = some (.int .i64 n) := by subst hU2; go_simp
   have fg0n : U2.frozen? ⟨bg, 0, none⟩ = false := by subst hU2; go_simp
   have fg1n : U2.frozen? ⟨bg, 1, none⟩ = false := by subst hU2; go_simp
   have fg2n : U2.frozen? ⟨bg, 2, none⟩ = false := by subst hU2; go_simp
   have fg3n : U2.frozen? ⟨bg, 3, none⟩ = false := by subst hU2; go_simp
   clear hU2 hb0 l0 l1 l2 l3 l4 q0 q1 q2 q3 g0 g1 g2 g3 fg0 fg1 fg2 fg3
   have hb0 := hbn
   clear hbn
   have l0 := l0n
   clear l0n
   have l1 := l1n
   clear l1n
   have l2 := l2n
   clear l2n
   have l3 := l3n
   clear l3n
   have l4 := l4n
   clear l4n
   have q0 := q0n
   clear q0n
   have q1 := q1n
   clear q1n
   have q2 := q2n
   clear q2n
   have q3 := q3n
   clear q3n
   have g0 := g0n
   clear g0n
   have g1 := g1n
   clear g1n
   have g2 := g2n
   clear g2n
   have g3 := g3n
   clear g3n
   have fg0 := fg0n
   clear fg0n
   have fg1 := fg1n
   clear fg1n
   have fg2 := fg2n
   clear fg2n
   have fg3 := fg3n
   clear fg3n
   go_wp2_with fail
   refine (c_unless_f _ _).mono ?_
   rintro e w2 ⟨rfl, rfl⟩
   go_wp2
   exact ⟨rfl, HR.out _ hb0⟩
theorem c_formGate_B (m : Fm) (L : List ByteArray) (bw pf base : Nat) (W : World) (h : FormIn m L bw pf base W) (hn : L.length = 5) (hq1 : nameB (wd L 1) = true) (hq2 : nameB (wd L 2) = true) (hq3 : nameB (wd L 3) = true) (n : Int) (hso : shortO (wd L 4) = some n) (hA : 0 ≤ idxS (plNames m.f.places) (wd L 2)) (hB : ¬ 0 ≤ idxS (plNames m.f.places) (wd L 3)) :
  Calls Tryz.prog 164 #[.pointer (some ⟨pf, 0, none⟩), .slice (some ⟨bw, 0, none⟩) L.length L.length] W (FormOut m pf base W (gateE m.f L)) := by
 have hr : (gateE m.f L).2 = 50 := by
  unfold gateE
  rw [if_pos ⟨hn, hq1, hq2, hq3⟩, hso]
  dsimp only
  rw [if_neg (fun h => hB h.2)]
 have HR := Lib.hid (fun (w' : World) (hb : Below W.heap.size W w') => FormOut.no (m := m) (pf := pf) (base := base) hr (by decide) hb)
 have l0 : W.cell? ⟨bw, 0, none⟩ = some (.string (wd L 0)) := strs_cell h.s (by rw [hn]; decide)
 have l1 : W.cell? ⟨bw, 1, none⟩ = some (.string (wd L 1)) := strs_cell h.s (by rw [hn]; decide)
 have l2 : W.cell? ⟨bw, 2, none⟩ = some (.string (wd L 2)) := strs_cell h.s (by rw [hn]; decide)
 have l3 : W.cell? ⟨bw, 3, none⟩ = some (.string (wd L 3)) := strs_cell h.s (by rw [hn]; decide)
 have l4 : W.cell? ⟨bw, 4, none⟩ = some (.string (wd L 4)) := strs_cell h.s (by rw [hn]; decide)
 have eA : decide (idxS (plNames m.f.places) (wd L 2) ≥ 0) = true := decide_eq_true hA
 have eB : decide (idxS (plNames m.f.places) (wd L 3) ≥ 0) = false := decide_eq_false hB
 clear hA hB
 have hb0 := Below.refl W.heap.size W
 have HB1 := Lib.hid hq1
 have HB2 := Lib.hid hq2
 have HB3 := Lib.hid hq3
 have HSO := Lib.hid hso
 have HP := Lib.hid h.st
 have HIN := Lib.hid (h.st.in (by have := h.l1; omega) (by have := h.l2; omega))
 have q0 := h.st.q0
 have q1 := h.st.q1
 have q2 := h.st.q2
 have q3 := h.st.q3
 have hbase := h.bs
 have hl1 := h.l1
 have hl2 := h.l2
 have HL := Lib.hid h.lib
 have HZ := Lib.hid h.size
 have zpf := cell_lt q0
 have zbw := cell_lt l0
 rw [hn]
 clear hr h hn hq1 hq2 hq3 hso
 go_enter Tryz.func164, Tryz.ntmps164
 go_wp2_with fail
 refine (c_isName (wd L 1) _).mono ?_
 rw [HB1.out]
 rintro e W1 ⟨rfl, hB⟩
 have zz := cl9 hB l0 l1 l2 l3 l4 q0 q1 q2 q3
 clear l0 l1 l2 l3 l4 q0 q1 q2 q3
 obtain ⟨l0, l1, l2, l3, l4, q0, q1, q2, q3⟩ := zz
 have hbn := bthen hb0 hB
 clear hb0 hB
 have hb0 := hbn
 clear hbn
 go_wp2_with fail
 refine (c_isName (wd L 2) _).mono ?_
 rw [HB2.out]
 rintro e W2 ⟨rfl, hB⟩
 have zz := cl9 hB l0 l1 l2 l3 l4 q0 q1 q2 q3
 clear l0 l1 l2 l3 l4 q0 q1 q2 q3
 obtain ⟨l0, l1, l2, l3, l4, q0, q1, q2, q3⟩ := zz
 have hbn := bthen hb0 hB
 clear hb0 hB
 have hb0 := hbn
 clear hbn
 go_wp2_with fail
 refine (c_isName (wd L 3) _).mono ?_
 rw [HB3.out]
 rintro e W3 ⟨rfl, hB⟩
 have zz := cl9 hB l0 l1 l2 l3 l4 q0 q1 q2 q3
 clear l0 l1 l2 l3 l4 q0 q1 q2 q3
 obtain ⟨l0, l1, l2, l3, l4, q0, q1, q2, q3⟩ := zz
 have hbn := bthen hb0 hB
 clear hb0 hB
 have hb0 := hbn
 clear hbn
 go_wp2_with fail
 refine (c_unless_t _ _).mono ?_
 rintro e w2 ⟨rfl, rfl⟩
 go_upto_region 1 with (fail)
 refine wp_region_assert 9 W3 (fun i => ([Stays.val (.slice (some ⟨bw, 0, none⟩) 5 5), Stays.val (.pointer (some ⟨bw, 1, none⟩)), Stays.val (.string (wd L 1)), Stays.val (.slice (some ⟨bw, 0, none⟩) 5 5), Stays.val (.pointer (some ⟨bw, 4, none⟩)), Stays.val (.string (wd L 4)), Stays.val (.int .i64 n), Stays.val (.agg #[.string (wd L 1), .int .i64 0, .int .i64 0, .int .i64 n]), Stays.fresh W3.heap.size gtZ] : List Stays)[i]?.getD Stays.any) (by kernel_rfl) (by kernel_rfl) (by kernel_rfl) (Below.refl _ _) ?hstep ?htail
 case hstep =>
  intro fr hfr hfd
  simp only [List.take_succ_cons, List.take_zero] at hfr ⊢
  refine ⟨?_, ?_⟩
  ·intro vs W hW hd
   have e1 : (fr vs).tmps[1]?.getD undef = .slice (some ⟨bw, 0, none⟩) 5 5 := (hfr.out vs 1).trans rfl
   exact sv (.slice (some ⟨bw, 0, none⟩) 5 5)
  refine ⟨?_, ?_⟩
  ·intro vs W hW hd
   have e27 : (fr vs).tmps[27]?.getD undef = .slice (some ⟨bw, 0, none⟩) 5 5 := (hfr.out vs 27).trans (by show vs 0 = _; exact hd.1 rfl)
   exact sv (.pointer (some ⟨bw, 1, none⟩))
  refine ⟨?_, ?_⟩
  ·intro vs W hW hd
   have e28 : (fr vs).tmps[28]?.getD undef = .pointer (some ⟨bw, 1, none⟩) := (hfr.out vs 28).trans (by show vs 1 = _; exact hd.1 rfl)
   have kl1 := later_of hW l1
   exact sv (.string (wd L 1))
  refine ⟨?_, ?_⟩
  ·intro vs W hW hd
   have e1 : (fr vs).tmps[1]?.getD undef = .slice (some ⟨bw, 0, none⟩) 5 5 := (hfr.out vs 1).trans rfl
   exact sv (.slice (some ⟨bw, 0, none⟩) 5 5)
  refine ⟨?_, ?_⟩
  ·intro vs W hW hd
   have e30 : (fr vs).tmps[30]?.getD undef = .slice (some ⟨bw, 0, none⟩) 5 5 := (hfr.out vs 30).trans (by show vs 3 = _; exact hd.1 rfl)
   exact sv (.pointer (some ⟨bw, 4, none⟩))
  refine ⟨?_, ?_⟩
  ·intro vs W hW hd
   have e31 : (fr vs).tmps[31]?.getD undef = .pointer (some ⟨bw, 4, none⟩) := (hfr.out vs 31).trans (by show vs 4 = _; exact hd.1 rfl)
   have kl4 := later_of hW l4
   exact sv (.string (wd L 4))
  refine ⟨?_, ?_⟩
  ·intro vs W hW hd
   have e32 : (fr vs).tmps[32]?.getD undef = .string (wd L 4) := (hfr.out vs 32).trans (by show vs 5 = _; exact hd.1 rfl)
   exact step_num (f := 90) (args := #[.string (wd L 4)]) (W' := W) (by simp only [execOp]; go_simp) (c_short _ W (HL.out.later (bthen hb0 hW)) (HZ.out 4)) (fun k w' hn hb => by rw [HSO.out] at hn; cases hn; exact ⟨_, rfl, rfl, hb⟩) (fun hn w' hb => by rw [HSO.out] at hn; cases hn)
  refine ⟨?_, ?_⟩
  ·intro vs W hW hd
   have e29 : (fr vs).tmps[29]?.getD undef = .string (wd L 1) := (hfr.out vs 29).trans (by show vs 2 = _; exact hd.1 rfl)
   have e33 : (fr vs).tmps[33]?.getD undef = .int .i64 n := (hfr.out vs 33).trans (by show vs 6 = _; exact hd.2.1 rfl)
   exact sv (.agg #[.string (wd L 1), .int .i64 0, .int .i64 0, .int .i64 n])
  refine ⟨?_, ?_⟩
  ·intro vs W hW hd
   exact step_val (.pointer (some ⟨W.heap.size, 0, none⟩)) (W' := W.alloc (.cells gtZ.toArray 65)) (by simp only [execOp]; go_simp; rfl) ⟨_, rfl, ⟨_, rfl, hW.size, fun j u hj => ⟨new_cell W gtZ _ hj, new_frozen W gtZ _ hj⟩⟩, by go_grown⟩
  trivial
 case htail =>
  intro vs V1 hW hv
  obtain ⟨bg, v8, zbg, hbg⟩ := hv.2.2.2.2.2.2.2.2.1
  have v7 : vs 7 = .agg #[.string (wd L 1), .int .i64 0, .int .i64 0, .int .i64 n] := hv.2.2.2.2.2.2.2.1
  clear hv
  simp only [List.take_succ_cons, List.take_zero, List.drop_succ_cons, List.drop_zero, frameV, Act.put, List.setIfInBounds_toArray, List.set_cons_zero, List.set_cons_succ, v7, v8]
  have hbw := bthen hb0 hW
  have zz := cl9 hW l0 l1 l2 l3 l4 q0 q1 q2 q3
  clear l0 l1 l2 l3 l4 q0 q1 q2 q3
  obtain ⟨l0, l1, l2, l3, l4, q0, q1, q2, q3⟩ := zz
  have g0 : V1.cell? ⟨bg, 0, none⟩ = some (.string ⟨#[]⟩) := (hbg 0 _ rfl).1
  have fg0 := (hbg 0 (.string ⟨#[]⟩) rfl).2
  have g1 : V1.cell? ⟨bg, 1, none⟩ = some (.int .i64 0) := (hbg 1 _ rfl).1
  have fg1 := (hbg 1 (.int .i64 0) rfl).2
  have g2 : V1.cell? ⟨bg, 2, none⟩ = some (.int .i64 0) := (hbg 2 _ rfl).1
  have fg2 := (hbg 2 (.int .i64 0) rfl).2
  have g3 : V1.cell? ⟨bg, 3, none⟩ = some (.int .i64 0) := (hbg 3 _ rfl).1
  have fg3 := (hbg 3 (.int .i64 0) rfl).2
  have zw3 := hb0.size
  clear hb0 hbg hW
  have hb0 := hbw
  clear hbw
  have ne1 : pf ≠ bg := by omega
  have ne2 : bw ≠ bg := by omega
  go_upto_region 2 with (fail)
  go_name_world U1 hU1
  have hbn : Below W.heap.size W U1 := by subst hU1; have hbz := hb0.size; go_grown
  have l0n : U1.cell? ⟨bw, 0, none⟩ = some (.string (wd L 0)) := by subst hU1; go_simp
  have l1n : U1.cell? ⟨bw, 1, none⟩ = some (.string (wd L 1)) := by subst hU1; go_simp
  have l2n : U1.cell? ⟨bw, 2, none⟩ = some (.string (wd L 2)) := by subst hU1; go_simp
  have l3n : U1.cell? ⟨bw, 3, none⟩ = some (.string (wd L 3)) := by subst hU1; go_simp
  have l4n : U1.cell? ⟨bw, 4, none⟩ = some (.string (wd L 4)) := by subst hU1; go_simp
  have q0n : U1.cell? ⟨pf, 0, none⟩ = some (.int .i64 m.f.ticks) := by subst hU1; go_simp
  have q1n : U1.cell? ⟨pf, 1, none⟩ = some (.int .i64 m.f.yields) := by subst hU1; go_simp
  have q2n : U1.cell? ⟨pf, 2, none⟩ = some (m.pv) := by subst hU1; go_simp
  have q3n : U1.cell? ⟨pf, 3, none⟩ = some (m.gv) := by subst hU1; go_simp
  have g0n : U1.cell? ⟨bg, 0, none⟩ = some (.string (wd L 1)) := by subst hU1; go_simp
  have g1n : U1.cell? ⟨bg, 1, none⟩ = some (.int .i64 0) := by subst hU1; go_simp
  have g2n : U1.cell? ⟨bg, 2, none⟩ = some (.int .i64 0) := by subst hU1; go_simp
  have g3n : U1.cell? ⟨bg, 3, none⟩ = some (.int .i64 n) := by subst hU1; go_simp
  have fg0n : U1.frozen? ⟨bg, 0, none⟩ = false := by subst hU1; go_simp
  have fg1n : U1.frozen? ⟨bg, 1, none⟩ = false := by subst hU1; go_simp
  have fg2n : U1.frozen? ⟨bg, 2, none⟩ = false := by subst hU1; go_simp
  have fg3n : U1.frozen? ⟨bg, 3, none⟩ = false := by subst hU1; go_simp
  clear hU1 hb0 l0 l1 l2 l3 l4 q0 q1 q2 q3 g0 g1 g2 g3 fg0 fg1 fg2 fg3
  have hb0 := hbn
  clear hbn
  have l0 := l0n
  clear l0n
  have l1 := l1n
  clear l1n
  have l2 := l2n
  clear l2n
  have l3 := l3n
  clear l3n
  have l4 := l4n
  clear l4n
  have q0 := q0n
  clear q0n
  have q1 := q1n
  clear q1n
  have q2 := q2n
  clear q2n
  have q3 := q3n
  clear q3n
  have g0 := g0n
  clear g0n
  have g1 := g1n
  clear g1n
  have g2 := g2n
  clear g2n
  have g3 := g3n
  clear g3n
  have fg0 := fg0n
  clear fg0n
  have fg1 := fg1n
  clear fg1n
  have fg2 := fg2n
  clear fg2n
  have fg3 := fg3n
  clear fg3n
  refine wp_region_assert 17 U1 (fun i => ([Stays.val (.pointer (some ⟨pf, 0, none⟩)), Stays.val (.pointer (some ⟨pf, 0, none⟩)), Stays.val (m.v), Stays.strs (plNames m.f.places), Stays.val (.slice (some ⟨bw, 0, none⟩) 5 5), Stays.val (.pointer (some ⟨bw, 2, none⟩)), Stays.val (.string (wd L 2)), Stays.val (.int .i64 (idxS (plNames m.f.places) (wd L 2))), Stays.val (.pointer (some ⟨pf, 0, none⟩)), Stays.val (.pointer (some ⟨pf, 0, none⟩)), Stays.val (m.v), Stays.strs (plNames m.f.places), Stays.val (.slice (some ⟨bw, 0, none⟩) 5 5), Stays.val (.pointer (some ⟨bw, 3, none⟩)), Stays.val (.string (wd L 3)), Stays.val (.int .i64 (idxS (plNames m.f.places) (wd L 3))), Stays.val (.pointer (some ⟨bg, 1, none⟩))] : List Stays)[i]?.getD Stays.any) (by kernel_rfl) (by kernel_rfl) (by kernel_rfl) (Below.refl _ _) ?hstep ?htail
  case hstep =>
   intro fr hfr hfd
   simp only [List.take_succ_cons, List.take_zero] at hfr ⊢
   refine ⟨?_, ?_⟩
   ·intro vs W hW hd
    have e0 : (fr vs).tmps[0]?.getD undef = .pointer (some ⟨pf, 0, none⟩) := (hfr.out vs 0).trans rfl
    exact sv (.pointer (some ⟨pf, 0, none⟩))
   refine ⟨?_, ?_⟩
   ·intro vs W hW hd
    have e35 : (fr vs).tmps[35]?.getD undef = .pointer (some ⟨pf, 0, none⟩) := (hfr.out vs 35).trans (by show vs 0 = _; exact hd.1 rfl)
    exact sv (.pointer (some ⟨pf, 0, none⟩))
   refine ⟨?_, ?_⟩
   ·intro vs W hW hd
    have e36 : (fr vs).tmps[36]?.getD undef = .pointer (some ⟨pf, 0, none⟩) := (hfr.out vs 36).trans (by show vs 1 = _; exact hd.1 rfl)
    have kq0 := later_of hW q0
    have kq1 := later_of hW q1
    have kq2 := later_of hW q2
    have kq3 := later_of hW q3
    exact sv (m.v)
   refine ⟨?_, ?_⟩
   ·intro vs W hW hd
    have e37 : (fr vs).tmps[37]?.getD undef = m.v := (hfr.out vs 37).trans (by show vs 2 = _; exact hd.1 rfl)
    exact step_call (R := fun v w' => (Stays.strs (plNames m.f.places)).p v w' ∧ Below W.heap.size W w') (f := 102) (args := #[m.v]) (W' := W) (by simp only [execOp]; go_simp) ((c_places m W (HIN.out.later (bthen hb0 hW))).mono fun e w' ⟨⟨b, c, h1, h2⟩, h3⟩ => ⟨_, h1, ⟨_, _, rfl, trivial, h2⟩, h3⟩) fun v w' h => ⟨v, rfl, h⟩
   refine ⟨?_, ?_⟩
   ·intro vs W hW hd
    have e1 : (fr vs).tmps[1]?.getD undef = .slice (some ⟨bw, 0, none⟩) 5 5 := (hfr.out vs 1).trans rfl
    exact sv (.slice (some ⟨bw, 0, none⟩) 5 5)
   refine ⟨?_, ?_⟩
   ·intro vs W hW hd
    have e39 : (fr vs).tmps[39]?.getD undef = .slice (some ⟨bw, 0, none⟩) 5 5 := (hfr.out vs 39).trans (by show vs 4 = _; exact hd.1 rfl)
    exact sv (.pointer (some ⟨bw, 2, none⟩))
   refine ⟨?_, ?_⟩
   ·intro vs W hW hd
    have e40 : (fr vs).tmps[40]?.getD undef = .pointer (some ⟨bw, 2, none⟩) := (hfr.out vs 40).trans (by show vs 5 = _; exact hd.1 rfl)
    have kl2 := later_of hW l2
    exact sv (.string (wd L 2))
   refine ⟨?_, ?_⟩
   ·intro vs W hW hd
    obtain ⟨b38, c38, hv38, hc38, hs38⟩ := hd.1 rfl
    have e38 : (fr vs).tmps[38]?.getD undef = .slice b38 (plNames m.f.places).length c38 := (hfr.out vs 38).trans (by show vs 3 = _; exact hv38)
    have e41 : (fr vs).tmps[41]?.getD undef = .string (wd L 2) := (hfr.out vs 41).trans (by show vs 6 = _; exact hd.2.1 rfl)
    exact step_call (R := fun v w' => (Stays.val (.int .i64 (idxS (plNames m.f.places) (wd L 2)))).p v w' ∧ Below W.heap.size W w') (f := 134) (args := #[.slice b38 (plNames m.f.places).length c38, .string (wd L 2)]) (W' := W) (by simp only [execOp]; go_simp) ((c_Index (wd L 2) (plNames m.f.places) b38 c38 W hs38).mono fun e w' ⟨h1, h2⟩ => ⟨_, h1, rfl, h2⟩) fun v w' h => ⟨v, rfl, h⟩
   refine ⟨?_, ?_⟩
   ·intro vs W hW hd
    have e0 : (fr vs).tmps[0]?.getD undef = .pointer (some ⟨pf, 0, none⟩) := (hfr.out vs 0).trans rfl
    exact sv (.pointer (some ⟨pf, 0, none⟩))
   refine ⟨?_, ?_⟩
   ·intro vs W hW hd
    have e43 : (fr vs).tmps[43]?.getD undef = .pointer (some ⟨pf, 0, none⟩) := (hfr.out vs 43).trans (by show vs 8 = _; exact hd.1 rfl)
    exact sv (.pointer (some ⟨pf, 0, none⟩))
   refine ⟨?_, ?_⟩
   ·intro vs W hW hd
    have e44 : (fr vs).tmps[44]?.getD undef = .pointer (some ⟨pf, 0, none⟩) := (hfr.out vs 44).trans (by show vs 9 = _; exact hd.1 rfl)
    have kq0 := later_of hW q0
    have kq1 := later_of hW q1
    have kq2 := later_of hW q2
    have kq3 := later_of hW q3
    exact sv (m.v)
   refine ⟨?_, ?_⟩
   ·intro vs W hW hd
    have e45 : (fr vs).tmps[45]?.getD undef = m.v := (hfr.out vs 45).trans (by show vs 10 = _; exact hd.1 rfl)
    exact step_call (R := fun v w' => (Stays.strs (plNames m.f.places)).p v w' ∧ Below W.heap.size W w') (f := 102) (args := #[m.v]) (W' := W) (by simp only [execOp]; go_simp) ((c_places m W (HIN.out.later (bthen hb0 hW))).mono fun e w' ⟨⟨b, c, h1, h2⟩, h3⟩ => ⟨_, h1, ⟨_, _, rfl, trivial, h2⟩, h3⟩) fun v w' h => ⟨v, rfl, h⟩
   refine ⟨?_, ?_⟩
   ·intro vs W hW hd
    have e1 : (fr vs).tmps[1]?.getD undef = .slice (some ⟨bw, 0, none⟩) 5 5 := (hfr.out vs 1).trans rfl
    exact sv (.slice (some ⟨bw, 0, none⟩) 5 5)
   refine ⟨?_, ?_⟩
   ·intro vs W hW hd
    have e47 : (fr vs).tmps[47]?.getD undef = .slice (some ⟨bw, 0, none⟩) 5 5 := (hfr.out vs 47).trans (by show vs 12 = _; exact hd.1 rfl)
    exact sv (.pointer (some ⟨bw, 3, none⟩))
   refine ⟨?_, ?_⟩
   ·intro vs W hW hd
    have e48 : (fr vs).tmps[48]?.getD undef = .pointer (some ⟨bw, 3, none⟩) := (hfr.out vs 48).trans (by show vs 13 = _; exact hd.1 rfl)
    have kl3 := later_of hW l3
    exact sv (.string (wd L 3))
   refine ⟨?_, ?_⟩
   ·intro vs W hW hd
    obtain ⟨b46, c46, hv46, hc46, hs46⟩ := hd.1 rfl
    have e46 : (fr vs).tmps[46]?.getD undef = .slice b46 (plNames m.f.places).length c46 := (hfr.out vs 46).trans (by show vs 11 = _; exact hv46)
    have e49 : (fr vs).tmps[49]?.getD undef = .string (wd L 3) := (hfr.out vs 49).trans (by show vs 14 = _; exact hd.2.1 rfl)
    exact step_call (R := fun v w' => (Stays.val (.int .i64 (idxS (plNames m.f.places) (wd L 3)))).p v w' ∧ Below W.heap.size W w') (f := 134) (args := #[.slice b46 (plNames m.f.places).length c46, .string (wd L 3)]) (W' := W) (by simp only [execOp]; go_simp) ((c_Index (wd L 3) (plNames m.f.places) b46 c46 W hs46).mono fun e w' ⟨h1, h2⟩ => ⟨_, h1, rfl, h2⟩) fun v w' h => ⟨v, rfl, h⟩
   refine ⟨?_, ?_⟩
   ·intro vs W hW hd
    have e4 : (fr vs).tmps[4]?.getD undef = .pointer (some ⟨bg, 0, none⟩) := (hfr.out vs 4).trans rfl
    exact sv (.pointer (some ⟨bg, 1, none⟩))
   trivial
  case htail =>
   intro vs V2 hW hv
   have v7 : vs 7 = .int .i64 (idxS (plNames m.f.places) (wd L 2)) := hv.2.2.2.2.2.2.2.1
   have v15 : vs 15 = .int .i64 (idxS (plNames m.f.places) (wd L 3)) := hv.2.2.2.2.2.2.2.2.2.2.2.2.2.2.2.1
   have v16 : vs 16 = .pointer (some ⟨bg, 1, none⟩) := hv.2.2.2.2.2.2.2.2.2.2.2.2.2.2.2.2.1
   clear hv
   simp only [List.take_succ_cons, List.take_zero, List.drop_succ_cons, List.drop_zero, frameV, Act.put, List.setIfInBounds_toArray, List.set_cons_zero, List.set_cons_succ, v7, v15, v16]
   have hbw := bthen hb0 hW
   replace fg0 := later_off hW g0 fg0
   replace fg1 := later_off hW g1 fg1
   replace fg2 := later_off hW g2 fg2
   replace fg3 := later_off hW g3 fg3
   have zz := cl13 hW l0 l1 l2 l3 l4 q0 q1 q2 q3 g0 g1 g2 g3
   clear l0 l1 l2 l3 l4 q0 q1 q2 q3 g0 g1 g2 g3
   obtain ⟨l0, l1, l2, l3, l4, q0, q1, q2, q3, g0, g1, g2, g3⟩ := zz
   clear hb0 hW
   have hb0 := hbw
   clear hbw
   go_upto_region 3 with (fail)
   go_name_world U2 hU2
   have hbn : Below W.heap.size W U2 := by subst hU2; have hbz := hb0.size; go_grown
   have l0n : U2.cell? ⟨bw, 0, none⟩ = some (.string (wd L 0)) := by subst hU2; go_simp
   have l1n : U2.cell? ⟨bw, 1, none⟩ = some (.string (wd L 1)) := by subst hU2; go_simp
   have l2n : U2.cell? ⟨bw, 2, none⟩ = some (.string (wd L 2)) := by subst hU2; go_simp
   have l3n : U2.cell? ⟨bw, 3, none⟩ = some (.string (wd L 3)) := by subst hU2; go_simp
   have l4n : U2.cell? ⟨bw, 4, none⟩ = some (.string (wd L 4)) := by subst hU2; go_simp
   have q0n : U2.cell? ⟨pf, 0, none⟩ = some (.int .i64 m.f.ticks) := by subst hU2; go_simp
   have q1n : U2.cell? ⟨pf, 1, none⟩ = some (.int .i64 m.f.yields) := by subst hU2; go_simp
   have q2n : U2.cell? ⟨pf, 2, none⟩ = some (m.pv) := by subst hU2; go_simp
   have q3n : U2.cell? ⟨pf, 3, none⟩ = some (m.gv) := by subst hU2; go_simp
   have g0n : U2.cell? ⟨bg, 0, none⟩ = some (.string (wd L 1)) := by subst hU2; go_simp
   have g1n : U2.cell? ⟨bg, 1, none⟩ = some (.int .i64 (idxS (plNames m.f.places) (wd L 2))) := by subst hU2; go_simp
   have g2n : U2.cell? ⟨bg, 2, none⟩ = some (.int .i64 (idxS (plNames m.f.places) (wd L 3))) := by subst hU2; go_simp
   have g3n : U2.cell? ⟨bg, 3, none⟩ = some (.int .i64 n) := by subst hU2; go_simp
   have fg0n : U2.frozen? ⟨bg, 0, none⟩ = false := by subst hU2; go_simp
   have fg1n : U2.frozen? ⟨bg, 1, none⟩ = false := by subst hU2; go_simp
   have fg2n : U2.frozen? ⟨bg, 2, none⟩ = false := by subst hU2; go_simp
   have fg3n : U2.frozen? ⟨bg, 3, none⟩ = false := by subst hU2; go_simp
   clear hU2 hb0 l0 l1 l2 l3 l4 q0 q1 q2 q3 g0 g1 g2 g3 fg0 fg1 fg2 fg3
   have hb0 := hbn
   clear hbn
   have l0 := l0n
   clear l0n
   have l1 := l1n
   clear l1n
   have l2 := l2n
   clear l2n
   have l3 := l3n
   clear l3n
   have l4 := l4n
   clear l4n
   have q0 := q0n
   clear q0n
   have q1 := q1n
   clear q1n
   have q2 := q2n
   clear q2n
   have q3 := q3n
   clear q3n
   have g0 := g0n
   clear g0n
   have g1 := g1n
   clear g1n
   have g2 := g2n
   clear g2n
   have g3 := g3n
   clear g3n
   have fg0 := fg0n
   clear fg0n
   have fg1 := fg1n
   clear fg1n
   have fg2 := fg2n
   clear fg2n
   have fg3 := fg3n
   clear fg3n
   go_wp2_with fail
   refine (c_unless_f _ _).mono ?_
   rintro e w2 ⟨rfl, rfl⟩
   go_wp2
   exact ⟨rfl, HR.out _ hb0⟩
theorem c_formGate_g (m : Fm) (L : List ByteArray) (bw pf base : Nat) (W : World) (h : FormIn m L bw pf base W) (hn : L.length = 5) (hq1 : nameB (wd L 1) = true) (hq2 : nameB (wd L 2) = true) (hq3 : nameB (wd L 3) = true) (n : Int) (hso : shortO (wd L 4) = some n) (hA : 0 ≤ idxS (plNames m.f.places) (wd L 2)) (hB : 0 ≤ idxS (plNames m.f.places) (wd L 3)) :
  Calls Tryz.prog 164 #[.pointer (some ⟨pf, 0, none⟩), .slice (some ⟨bw, 0, none⟩) L.length L.length] W (FormOut m pf base W (gateE m.f L)) := by
 have hr : gateE m.f L = ({ m.f with gates := m.f.gates ++ [⟨wd L 1, idxS (plNames m.f.places) (wd L 2), idxS (plNames m.f.places) (wd L 3), n⟩] }, 0) := by
  unfold gateE
  rw [if_pos ⟨hn, hq1, hq2, hq3⟩, hso]
  dsimp only
  rw [if_pos ⟨hA, hB⟩]
 have HR := Lib.hid hr
 have l0 : W.cell? ⟨bw, 0, none⟩ = some (.string (wd L 0)) := strs_cell h.s (by rw [hn]; decide)
 have l1 : W.cell? ⟨bw, 1, none⟩ = some (.string (wd L 1)) := strs_cell h.s (by rw [hn]; decide)
 have l2 : W.cell? ⟨bw, 2, none⟩ = some (.string (wd L 2)) := strs_cell h.s (by rw [hn]; decide)
 have l3 : W.cell? ⟨bw, 3, none⟩ = some (.string (wd L 3)) := strs_cell h.s (by rw [hn]; decide)
 have l4 : W.cell? ⟨bw, 4, none⟩ = some (.string (wd L 4)) := strs_cell h.s (by rw [hn]; decide)
 have eA : decide (idxS (plNames m.f.places) (wd L 2) ≥ 0) = true := decide_eq_true hA
 have eB : decide (idxS (plNames m.f.places) (wd L 3) ≥ 0) = true := decide_eq_true hB
 clear hA hB
 have hb0 := Below.refl W.heap.size W
 have HB1 := Lib.hid hq1
 have HB2 := Lib.hid hq2
 have HB3 := Lib.hid hq3
 have HSO := Lib.hid hso
 have HP := Lib.hid h.st
 have HIN := Lib.hid (h.st.in (by have := h.l1; omega) (by have := h.l2; omega))
 have q0 := h.st.q0
 have q1 := h.st.q1
 have q2 := h.st.q2
 have q3 := h.st.q3
 have hbase := h.bs
 have hl1 := h.l1
 have hl2 := h.l2
 have HL := Lib.hid h.lib
 have HZ := Lib.hid h.size
 have zpf := cell_lt q0
 have zbw := cell_lt l0
 rw [hn]
 clear hr h hn hq1 hq2 hq3 hso
 go_enter Tryz.func164, Tryz.ntmps164
 go_wp2_with fail
 refine (c_isName (wd L 1) _).mono ?_
 rw [HB1.out]
 rintro e W1 ⟨rfl, hB⟩
 have zz := cl9 hB l0 l1 l2 l3 l4 q0 q1 q2 q3
 clear l0 l1 l2 l3 l4 q0 q1 q2 q3
 obtain ⟨l0, l1, l2, l3, l4, q0, q1, q2, q3⟩ := zz
 have hbn := bthen hb0 hB
 clear hb0 hB
 have hb0 := hbn
 clear hbn
 go_wp2_with fail
 refine (c_isName (wd L 2) _).mono ?_
 rw [HB2.out]
 rintro e W2 ⟨rfl, hB⟩
 have zz := cl9 hB l0 l1 l2 l3 l4 q0 q1 q2 q3
 clear l0 l1 l2 l3 l4 q0 q1 q2 q3
 obtain ⟨l0, l1, l2, l3, l4, q0, q1, q2, q3⟩ := zz
 have hbn := bthen hb0 hB
 clear hb0 hB
 have hb0 := hbn
 clear hbn
 go_wp2_with fail
 refine (c_isName (wd L 3) _).mono ?_
 rw [HB3.out]
 rintro e W3 ⟨rfl, hB⟩
 have zz := cl9 hB l0 l1 l2 l3 l4 q0 q1 q2 q3
 clear l0 l1 l2 l3 l4 q0 q1 q2 q3
 obtain ⟨l0, l1, l2, l3, l4, q0, q1, q2, q3⟩ := zz
 have hbn := bthen hb0 hB
 clear hb0 hB
 have hb0 := hbn
 clear hbn
 go_wp2_with fail
 refine (c_unless_t _ _).mono ?_
 rintro e w2 ⟨rfl, rfl⟩
 go_upto_region 1 with (fail)
 refine wp_region_assert 9 W3 (fun i => ([Stays.val (.slice (some ⟨bw, 0, none⟩) 5 5), Stays.val (.pointer (some ⟨bw, 1, none⟩)), Stays.val (.string (wd L 1)), Stays.val (.slice (some ⟨bw, 0, none⟩) 5 5), Stays.val (.pointer (some ⟨bw, 4, none⟩)), Stays.val (.string (wd L 4)), Stays.val (.int .i64 n), Stays.val (.agg #[.string (wd L 1), .int .i64 0, .int .i64 0, .int .i64 n]), Stays.fresh W3.heap.size gtZ] : List Stays)[i]?.getD Stays.any) (by kernel_rfl) (by kernel_rfl) (by kernel_rfl) (Below.refl _ _) ?hstep ?htail
 case hstep =>
  intro fr hfr hfd
  simp only [List.take_succ_cons, List.take_zero] at hfr ⊢
  refine ⟨?_, ?_⟩
  ·intro vs W hW hd
   have e1 : (fr vs).tmps[1]?.getD undef = .slice (some ⟨bw, 0, none⟩) 5 5 := (hfr.out vs 1).trans rfl
   exact sv (.slice (some ⟨bw, 0, none⟩) 5 5)
  refine ⟨?_, ?_⟩
  ·intro vs W hW hd
   have e27 : (fr vs).tmps[27]?.getD undef = .slice (some ⟨bw, 0, none⟩) 5 5 := (hfr.out vs 27).trans (by show vs 0 = _; exact hd.1 rfl)
   exact sv (.pointer (some ⟨bw, 1, none⟩))
  refine ⟨?_, ?_⟩
  ·intro vs W hW hd
   have e28 : (fr vs).tmps[28]?.getD undef = .pointer (some ⟨bw, 1, none⟩) := (hfr.out vs 28).trans (by show vs 1 = _; exact hd.1 rfl)
   have kl1 := later_of hW l1
   exact sv (.string (wd L 1))
  refine ⟨?_, ?_⟩
  ·intro vs W hW hd
   have e1 : (fr vs).tmps[1]?.getD undef = .slice (some ⟨bw, 0, none⟩) 5 5 := (hfr.out vs 1).trans rfl
   exact sv (.slice (some ⟨bw, 0, none⟩) 5 5)
  refine ⟨?_, ?_⟩
  ·intro vs W hW hd
   have e30 : (fr vs).tmps[30]?.getD undef = .slice (some ⟨bw, 0, none⟩) 5 5 := (hfr.out vs 30).trans (by show vs 3 = _; exact hd.1 rfl)
   exact sv (.pointer (some ⟨bw, 4, none⟩))
  refine ⟨?_, ?_⟩
  ·intro vs W hW hd
   have e31 : (fr vs).tmps[31]?.getD undef = .pointer (some ⟨bw, 4, none⟩) := (hfr.out vs 31).trans (by show vs 4 = _; exact hd.1 rfl)
   have kl4 := later_of hW l4
   exact sv (.string (wd L 4))
  refine ⟨?_, ?_⟩
  ·intro vs W hW hd
   have e32 : (fr vs).tmps[32]?.getD undef = .string (wd L 4) := (hfr.out vs 32).trans (by show vs 5 = _; exact hd.1 rfl)
   exact step_num (f := 90) (args := #[.string (wd L 4)]) (W' := W) (by simp only [execOp]; go_simp) (c_short _ W (HL.out.later (bthen hb0 hW)) (HZ.out 4)) (fun k w' hn hb => by rw [HSO.out] at hn; cases hn; exact ⟨_, rfl, rfl, hb⟩) (fun hn w' hb => by rw [HSO.out] at hn; cases hn)
  refine ⟨?_, ?_⟩
  ·intro vs W hW hd
   have e29 : (fr vs).tmps[29]?.getD undef = .string (wd L 1) := (hfr.out vs 29).trans (by show vs 2 = _; exact hd.1 rfl)
   have e33 : (fr vs).tmps[33]?.getD undef = .int .i64 n := (hfr.out vs 33).trans (by show vs 6 = _; exact hd.2.1 rfl)
   exact sv (.agg #[.string (wd L 1), .int .i64 0, .int .i64 0, .int .i64 n])
  refine ⟨?_, ?_⟩
  ·intro vs W hW hd
   exact step_val (.pointer (some ⟨W.heap.size, 0, none⟩)) (W' := W.alloc (.cells gtZ.toArray 65)) (by simp only [execOp]; go_simp; rfl) ⟨_, rfl, ⟨_, rfl, hW.size, fun j u hj => ⟨new_cell W gtZ _ hj, new_frozen W gtZ _ hj⟩⟩, by go_grown⟩
  trivial
 case htail =>
  intro vs V1 hW hv
  obtain ⟨bg, v8, zbg, hbg⟩ := hv.2.2.2.2.2.2.2.2.1
  have v7 : vs 7 = .agg #[.string (wd L 1), .int .i64 0, .int .i64 0, .int .i64 n] := hv.2.2.2.2.2.2.2.1
  clear hv
  simp only [List.take_succ_cons, List.take_zero, List.drop_succ_cons, List.drop_zero, frameV, Act.put, List.setIfInBounds_toArray, List.set_cons_zero, List.set_cons_succ, v7, v8]
  have hbw := bthen hb0 hW
  have zz := cl9 hW l0 l1 l2 l3 l4 q0 q1 q2 q3
  clear l0 l1 l2 l3 l4 q0 q1 q2 q3
  obtain ⟨l0, l1, l2, l3, l4, q0, q1, q2, q3⟩ := zz
  have g0 : V1.cell? ⟨bg, 0, none⟩ = some (.string ⟨#[]⟩) := (hbg 0 _ rfl).1
  have fg0 := (hbg 0 (.string ⟨#[]⟩) rfl).2
  have g1 : V1.cell? ⟨bg, 1, none⟩ = some (.int .i64 0) := (hbg 1 _ rfl).1
  have fg1 := (hbg 1 (.int .i64 0) rfl).2
  have g2 : V1.cell? ⟨bg, 2, none⟩ = some (.int .i64 0) := (hbg 2 _ rfl).1
  have fg2 := (hbg 2 (.int .i64 0) rfl).2
  have g3 : V1.cell? ⟨bg, 3, none⟩ = some (.int .i64 0) := (hbg 3 _ rfl).1
  have fg3 := (hbg 3 (.int .i64 0) rfl).2
  have zw3 := hb0.size
  clear hb0 hbg hW
  have hb0 := hbw
  clear hbw
  have ne1 : pf ≠ bg := by omega
  have ne2 : bw ≠ bg := by omega
  go_upto_region 2 with (fail)
  go_name_world U1 hU1
  have hbn : Below W.heap.size W U1 := by subst hU1; have hbz := hb0.size; go_grown
  have l0n : U1.cell? ⟨bw, 0, none⟩ = some (.string (wd L 0)) := by subst hU1; go_simp
  have l1n : U1.cell? ⟨bw, 1, none⟩ = some (.string (wd L 1)) := by subst hU1; go_simp
  have l2n : U1.cell? ⟨bw, 2, none⟩ = some (.string (wd L 2)) := by subst hU1; go_simp
  have l3n : U1.cell? ⟨bw, 3, none⟩ = some (.string (wd L 3)) := by subst hU1; go_simp
  have l4n : U1.cell? ⟨bw, 4, none⟩ = some (.string (wd L 4)) := by subst hU1; go_simp
  have q0n : U1.cell? ⟨pf, 0, none⟩ = some (.int .i64 m.f.ticks) := by subst hU1; go_simp
  have q1n : U1.cell? ⟨pf, 1, none⟩ = some (.int .i64 m.f.yields) := by subst hU1; go_simp
  have q2n : U1.cell? ⟨pf, 2, none⟩ = some (m.pv) := by subst hU1; go_simp
  have q3n : U1.cell? ⟨pf, 3, none⟩ = some (m.gv) := by subst hU1; go_simp
  have g0n : U1.cell? ⟨bg, 0, none⟩ = some (.string (wd L 1)) := by subst hU1; go_simp
  have g1n : U1.cell? ⟨bg, 1, none⟩ = some (.int .i64 0) := by subst hU1; go_simp
  have g2n : U1.cell? ⟨bg, 2, none⟩ = some (.int .i64 0) := by subst hU1; go_simp
  have g3n : U1.cell? ⟨bg, 3, none⟩ = some (.int .i64 n) := by subst hU1; go_simp
  have fg0n : U1.frozen? ⟨bg, 0, none⟩ = false := by subst hU1; go_simp
  have fg1n : U1.frozen? ⟨bg, 1, none⟩ = false := by subst hU1; go_simp
  have fg2n : U1.frozen? ⟨bg, 2, none⟩ = false := by subst hU1; go_simp
  have fg3n : U1.frozen? ⟨bg, 3, none⟩ = false := by subst hU1; go_simp
  clear hU1 hb0 l0 l1 l2 l3 l4 q0 q1 q2 q3 g0 g1 g2 g3 fg0 fg1 fg2 fg3
  have hb0 := hbn
  clear hbn
  have l0 := l0n
  clear l0n
  have l1 := l1n
  clear l1n
  have l2 := l2n
  clear l2n
  have l3 := l3n
  clear l3n
  have l4 := l4n
  clear l4n
  have q0 := q0n
  clear q0n
  have q1 := q1n
  clear q1n
  have q2 := q2n
  clear q2n
  have q3 := q3n
  clear q3n
  have g0 := g0n
  clear g0n
  have g1 := g1n
  clear g1n
  have g2 := g2n
  clear g2n
  have g3 := g3n
  clear g3n
  have fg0 := fg0n
  clear fg0n
  have fg1 := fg1n
  clear fg1n
  have fg2 := fg2n
  clear fg2n
  have fg3 := fg3n
  clear fg3n
  refine wp_region_assert 17 U1 (fun i => ([Stays.val (.pointer (some ⟨pf, 0, none⟩)), Stays.val (.pointer (some ⟨pf, 0, none⟩)), Stays.val (m.v), Stays.strs (plNames m.f.places), Stays.val (.slice (some ⟨bw, 0, none⟩) 5 5), Stays.val (.pointer (some ⟨bw, 2, none⟩)), Stays.val (.string (wd L 2)), Stays.val (.int .i64 (idxS (plNames m.f.places) (wd L 2))), Stays.val (.pointer (some ⟨pf, 0, none⟩)), Stays.val (.pointer (some ⟨pf, 0, none⟩)), Stays.val (m.v), Stays.strs (plNames m.f.places), Stays.val (.slice (some ⟨bw, 0, none⟩) 5 5), Stays.val (.pointer (some ⟨bw, 3, none⟩)), Stays.val (.string (wd L 3)), Stays.val (.int .i64 (idxS (plNames m.f.places) (wd L 3))), Stays.val (.pointer (some ⟨bg, 1, none⟩))] : List Stays)[i]?.getD Stays.any) (by kernel_rfl) (by kernel_rfl) (by kernel_rfl) (Below.refl _ _) ?hstep ?htail
  case hstep =>
   intro fr hfr hfd
   simp only [List.take_succ_cons, List.take_zero] at hfr ⊢
   refine ⟨?_, ?_⟩
   ·intro vs W hW hd
    have e0 : (fr vs).tmps[0]?.getD undef = .pointer (some ⟨pf, 0, none⟩) := (hfr.out vs 0).trans rfl
    exact sv (.pointer (some ⟨pf, 0, none⟩))
   refine ⟨?_, ?_⟩
   ·intro vs W hW hd
    have e35 : (fr vs).tmps[35]?.getD undef = .pointer (some ⟨pf, 0, none⟩) := (hfr.out vs 35).trans (by show vs 0 = _; exact hd.1 rfl)
    exact sv (.pointer (some ⟨pf, 0, none⟩))
   refine ⟨?_, ?_⟩
   ·intro vs W hW hd
    have e36 : (fr vs).tmps[36]?.getD undef = .pointer (some ⟨pf, 0, none⟩) := (hfr.out vs 36).trans (by show vs 1 = _; exact hd.1 rfl)
    have kq0 := later_of hW q0
    have kq1 := later_of hW q1
    have kq2 := later_of hW q2
    have kq3 := later_of hW q3
    exact sv (m.v)
   refine ⟨?_, ?_⟩
   ·intro vs W hW hd
    have e37 : (fr vs).tmps[37]?.getD undef = m.v := (hfr.out vs 37).trans (by show vs 2 = _; exact hd.1 rfl)
    exact step_call (R := fun v w' => (Stays.strs (plNames m.f.places)).p v w' ∧ Below W.heap.size W w') (f := 102) (args := #[m.v]) (W' := W) (by simp only [execOp]; go_simp) ((c_places m W (HIN.out.later (bthen hb0 hW))).mono fun e w' ⟨⟨b, c, h1, h2⟩, h3⟩ => ⟨_, h1, ⟨_, _, rfl, trivial, h2⟩, h3⟩) fun v w' h => ⟨v, rfl, h⟩
   refine ⟨?_, ?_⟩
   ·intro vs W hW hd
    have e1 : (fr vs).tmps[1]?.getD undef = .slice (some ⟨bw, 0, none⟩) 5 5 := (hfr.out vs 1).trans rfl
    exact sv (.slice (some ⟨bw, 0, none⟩) 5 5)
   refine ⟨?_, ?_⟩
   ·intro vs W hW hd
    have e39 : (fr vs).tmps[39]?.getD undef = .slice (some ⟨bw, 0, none⟩) 5 5 := (hfr.out vs 39).trans (by show vs 4 = _; exact hd.1 rfl)
    exact sv (.pointer (some ⟨bw, 2, none⟩))
   refine ⟨?_, ?_⟩
   ·intro vs W hW hd
    have e40 : (fr vs).tmps[40]?.getD undef = .pointer (some ⟨bw, 2, none⟩) := (hfr.out vs 40).trans (by show vs 5 = _; exact hd.1 rfl)
    have kl2 := later_of hW l2
    exact sv (.string (wd L 2))
   refine ⟨?_, ?_⟩
   ·intro vs W hW hd
    obtain ⟨b38, c38, hv38, hc38, hs38⟩ := hd.1 rfl
    have e38 : (fr vs).tmps[38]?.getD undef = .slice b38 (plNames m.f.places).length c38 := (hfr.out vs 38).trans (by show vs 3 = _; exact hv38)
    have e41 : (fr vs).tmps[41]?.getD undef = .string (wd L 2) := (hfr.out vs 41).trans (by show vs 6 = _; exact hd.2.1 rfl)
    exact step_call (R := fun v w' => (Stays.val (.int .i64 (idxS (plNames m.f.places) (wd L 2)))).p v w' ∧ Below W.heap.size W w') (f := 134) (args := #[.slice b38 (plNames m.f.places).length c38, .string (wd L 2)]) (W' := W) (by simp only [execOp]; go_simp) ((c_Index (wd L 2) (plNames m.f.places) b38 c38 W hs38).mono fun e w' ⟨h1, h2⟩ => ⟨_, h1, rfl, h2⟩) fun v w' h => ⟨v, rfl, h⟩
   refine ⟨?_, ?_⟩
   ·intro vs W hW hd
    have e0 : (fr vs).tmps[0]?.getD undef = .pointer (some ⟨pf, 0, none⟩) := (hfr.out vs 0).trans rfl
    exact sv (.pointer (some ⟨pf, 0, none⟩))
   refine ⟨?_, ?_⟩
   ·intro vs W hW hd
    have e43 : (fr vs).tmps[43]?.getD undef = .pointer (some ⟨pf, 0, none⟩) := (hfr.out vs 43).trans (by show vs 8 = _; exact hd.1 rfl)
    exact sv (.pointer (some ⟨pf, 0, none⟩))
   refine ⟨?_, ?_⟩
   ·intro vs W hW hd
    have e44 : (fr vs).tmps[44]?.getD undef = .pointer (some ⟨pf, 0, none⟩) := (hfr.out vs 44).trans (by show vs 9 = _; exact hd.1 rfl)
    have kq0 := later_of hW q0
    have kq1 := later_of hW q1
    have kq2 := later_of hW q2
    have kq3 := later_of hW q3
    exact sv (m.v)
   refine ⟨?_, ?_⟩
   ·intro vs W hW hd
    have e45 : (fr vs).tmps[45]?.getD undef = m.v := (hfr.out vs 45).trans (by show vs 10 = _; exact hd.1 rfl)
    exact step_call (R := fun v w' => (Stays.strs (plNames m.f.places)).p v w' ∧ Below W.heap.size W w') (f := 102) (args := #[m.v]) (W' := W) (by simp only [execOp]; go_simp) ((c_places m W (HIN.out.later (bthen hb0 hW))).mono fun e w' ⟨⟨b, c, h1, h2⟩, h3⟩ => ⟨_, h1, ⟨_, _, rfl, trivial, h2⟩, h3⟩) fun v w' h => ⟨v, rfl, h⟩
   refine ⟨?_, ?_⟩
   ·intro vs W hW hd
    have e1 : (fr vs).tmps[1]?.getD undef = .slice (some ⟨bw, 0, none⟩) 5 5 := (hfr.out vs 1).trans rfl
    exact sv (.slice (some ⟨bw, 0, none⟩) 5 5)
   refine ⟨?_, ?_⟩
   ·intro vs W hW hd
    have e47 : (fr vs).tmps[47]?.getD undef = .slice (some ⟨bw, 0, none⟩) 5 5 := (hfr.out vs 47).trans (by show vs 12 = _; exact hd.1 rfl)
    exact sv (.pointer (some ⟨bw, 3, none⟩))
   refine ⟨?_, ?_⟩
   ·intro vs W hW hd
    have e48 : (fr vs).tmps[48]?.getD undef = .pointer (some ⟨bw, 3, none⟩) := (hfr.out vs 48).trans (by show vs 13 = _; exact hd.1 rfl)
    have kl3 := later_of hW l3
    exact sv (.string (wd L 3))
   refine ⟨?_, ?_⟩
   ·intro vs W hW hd
    obtain ⟨b46, c46, hv46, hc46, hs46⟩ := hd.1 rfl
    have e46 : (fr vs).tmps[46]?.getD undef = .slice b46 (plNames m.f.places).length c46 := (hfr.out vs 46).trans (by show vs 11 = _; exact hv46)
    have e49 : (fr vs).tmps[49]?.getD undef = .string (wd L 3) := (hfr.out vs 49).trans (by show vs 14 = _; exact hd.2.1 rfl)
    exact step_call (R := fun v w' => (Stays.val (.int .i64 (idxS (plNames m.f.places) (wd L 3)))).p v w' ∧ Below W.heap.size W w') (f := 134) (args := #[.slice b46 (plNames m.f.places).length c46, .string (wd L 3)]) (W' := W) (by simp only [execOp]; go_simp) ((c_Index (wd L 3) (plNames m.f.places) b46 c46 W hs46).mono fun e w' ⟨h1, h2⟩ => ⟨_, h1, rfl, h2⟩) fun v w' h => ⟨v, rfl, h⟩
   refine ⟨?_, ?_⟩
   ·intro vs W hW hd
    have e4 : (fr vs).tmps[4]?.getD undef = .pointer (some ⟨bg, 0, none⟩) := (hfr.out vs 4).trans rfl
    exact sv (.pointer (some ⟨bg, 1, none⟩))
   trivial
  case htail =>
   intro vs V2 hW hv
   have v7 : vs 7 = .int .i64 (idxS (plNames m.f.places) (wd L 2)) := hv.2.2.2.2.2.2.2.1
   have v15 : vs 15 = .int .i64 (idxS (plNames m.f.places) (wd L 3)) := hv.2.2.2.2.2.2.2.2.2.2.2.2.2.2.2.1
   have v16 : vs 16 = .pointer (some ⟨bg, 1, none⟩) := hv.2.2.2.2.2.2.2.2.2.2.2.2.2.2.2.2.1
   clear hv
   simp only [List.take_succ_cons, List.take_zero, List.drop_succ_cons, List.drop_zero, frameV, Act.put, List.setIfInBounds_toArray, List.set_cons_zero, List.set_cons_succ, v7, v15, v16]
   have hbw := bthen hb0 hW
   replace fg0 := later_off hW g0 fg0
   replace fg1 := later_off hW g1 fg1
   replace fg2 := later_off hW g2 fg2
   replace fg3 := later_off hW g3 fg3
   have zz := cl13 hW l0 l1 l2 l3 l4 q0 q1 q2 q3 g0 g1 g2 g3
   clear l0 l1 l2 l3 l4 q0 q1 q2 q3 g0 g1 g2 g3
   obtain ⟨l0, l1, l2, l3, l4, q0, q1, q2, q3, g0, g1, g2, g3⟩ := zz
   clear hb0 hW
   have hb0 := hbw
   clear hbw
   go_upto_region 3 with (fail)
   go_name_world U2 hU2
   have hbn : Below W.heap.size W U2 := by subst hU2; have hbz := hb0.size; go_grown
   have l0n : U2.cell? ⟨bw, 0, none⟩ = some (.string (wd L 0)) := by subst hU2; go_simp
   have l1n : U2.cell? ⟨bw, 1, none⟩ = some (.string (wd L 1)) := by subst hU2; go_simp
   have l2n : U2.cell? ⟨bw, 2, none⟩ = some (.string (wd L 2)) := by subst hU2; go_simp
   have l3n : U2.cell? ⟨bw, 3, none⟩ = some (.string (wd L 3)) := by subst hU2; go_simp
   have l4n : U2.cell? ⟨bw, 4, none⟩ = some (.string (wd L 4)) := by subst hU2; go_simp
   have q0n : U2.cell? ⟨pf, 0, none⟩ = some (.int .i64 m.f.ticks) := by subst hU2; go_simp
   have q1n : U2.cell? ⟨pf, 1, none⟩ = some (.int .i64 m.f.yields) := by subst hU2; go_simp
   have q2n : U2.cell? ⟨pf, 2, none⟩ = some (m.pv) := by subst hU2; go_simp
   have q3n : U2.cell? ⟨pf, 3, none⟩ = some (m.gv) := by subst hU2; go_simp
   have g0n : U2.cell? ⟨bg, 0, none⟩ = some (.string (wd L 1)) := by subst hU2; go_simp
   have g1n : U2.cell? ⟨bg, 1, none⟩ = some (.int .i64 (idxS (plNames m.f.places) (wd L 2))) := by subst hU2; go_simp
   have g2n : U2.cell? ⟨bg, 2, none⟩ = some (.int .i64 (idxS (plNames m.f.places) (wd L 3))) := by subst hU2; go_simp
   have g3n : U2.cell? ⟨bg, 3, none⟩ = some (.int .i64 n) := by subst hU2; go_simp
   have fg0n : U2.frozen? ⟨bg, 0, none⟩ = false := by subst hU2; go_simp
   have fg1n : U2.frozen? ⟨bg, 1, none⟩ = false := by subst hU2; go_simp
   have fg2n : U2.frozen? ⟨bg, 2, none⟩ = false := by subst hU2; go_simp
   have fg3n : U2.frozen? ⟨bg, 3, none⟩ = false := by subst hU2; go_simp
   clear hU2 hb0 l0 l1 l2 l3 l4 q0 q1 q2 q3 g0 g1 g2 g3 fg0 fg1 fg2 fg3
   have hb0 := hbn
   clear hbn
   have l0 := l0n
   clear l0n
   have l1 := l1n
   clear l1n
   have l2 := l2n
   clear l2n
   have l3 := l3n
   clear l3n
   have l4 := l4n
   clear l4n
   have q0 := q0n
   clear q0n
   have q1 := q1n
   clear q1n
   have q2 := q2n
   clear q2n
   have q3 := q3n
   clear q3n
   have g0 := g0n
   clear g0n
   have g1 := g1n
   clear g1n
   have g2 := g2n
   clear g2n
   have g3 := g3n
   clear g3n
   have fg0 := fg0n
   clear fg0n
   have fg1 := fg1n
   clear fg1n
   have fg2 := fg2n
   clear fg2n
   have fg3 := fg3n
   clear fg3n
   go_wp2_with fail
   refine (c_unless_t _ _).mono ?_
   rintro e w2 ⟨rfl, rfl⟩
   go_upto_region 4 with (fail)
   refine wp_region_assert1 7 U2 (fun i => ([Stays.val (.pointer (some ⟨pf, 0, none⟩)), Stays.val (.pointer (some ⟨pf, 0, none⟩)), Stays.val (.pointer (some ⟨pf, 0, none⟩)), Stays.val (.pointer (some ⟨pf, 3, none⟩)), Stays.val (m.gv), Stays.val (.agg #[.string (wd L 1), .int .i64 (idxS (plNames m.f.places) (wd L 2)), .int .i64 (idxS (plNames m.f.places) (wd L 3)), .int .i64 n]), Stays.one gtC (⟨wd L 1, idxS (plNames m.f.places) (wd L 2), idxS (plNames m.f.places) (wd L 3), n⟩ : Gt)] : List Stays)[i]?.getD Stays.any) (.pointer (some ⟨pf, 0, none⟩)) (by kernel_rfl) (by kernel_rfl) (by kernel_rfl) (Below.refl _ _) (fun _ _ _ _ _ h => panic_put h) ?hy (fun _ => rfl) ?hstep ?htail
   case hy =>
    intro o ho w
    cases Option.some.inj ho
    simp only [execOp]
    go_simp
   case hstep =>
    intro fr hfr hfd
    simp only [List.take_succ_cons, List.take_zero] at hfr ⊢
    refine ⟨?_, ?_⟩
    ·intro vs W hW hd
     have e0 : (fr vs).tmps[0]?.getD undef = .pointer (some ⟨pf, 0, none⟩) := (hfr.out vs 0).trans rfl
     exact sv (.pointer (some ⟨pf, 0, none⟩))
    refine ⟨?_, ?_⟩
    ·intro vs W hW hd
     have e0 : (fr vs).tmps[0]?.getD undef = .pointer (some ⟨pf, 0, none⟩) := (hfr.out vs 0).trans rfl
     exact sv (.pointer (some ⟨pf, 0, none⟩))
    refine ⟨?_, ?_⟩
    ·intro vs W hW hd
     have e63 : (fr vs).tmps[63]?.getD undef = .pointer (some ⟨pf, 0, none⟩) := (hfr.out vs 63).trans (by show vs 1 = _; exact hd.1 rfl)
     exact sv (.pointer (some ⟨pf, 0, none⟩))
    refine ⟨?_, ?_⟩
    ·intro vs W hW hd
     have e64 : (fr vs).tmps[64]?.getD undef = .pointer (some ⟨pf, 0, none⟩) := (hfr.out vs 64).trans (by show vs 2 = _; exact hd.1 rfl)
     exact sv (.pointer (some ⟨pf, 3, none⟩))
    refine ⟨?_, ?_⟩
    ·intro vs W hW hd
     have e65 : (fr vs).tmps[65]?.getD undef = .pointer (some ⟨pf, 3, none⟩) := (hfr.out vs 65).trans (by show vs 3 = _; exact hd.1 rfl)
     have kq3 := later_of hW q3
     exact sv (m.gv)
    refine ⟨?_, ?_⟩
    ·intro vs W hW hd
     have e4 : (fr vs).tmps[4]?.getD undef = .pointer (some ⟨bg, 0, none⟩) := (hfr.out vs 4).trans rfl
     have kg0 := later_of hW g0
     have kg1 := later_of hW g1
     have kg2 := later_of hW g2
     have kg3 := later_of hW g3
     exact sv (.agg #[.string (wd L 1), .int .i64 (idxS (plNames m.f.places) (wd L 2)), .int .i64 (idxS (plNames m.f.places) (wd L 3)), .int .i64 n])
    refine ⟨?_, ?_⟩
    ·intro vs W hW hd
     have e67 : (fr vs).tmps[67]?.getD undef = .agg #[.string (wd L 1), .int .i64 (idxS (plNames m.f.places) (wd L 2)), .int .i64 (idxS (plNames m.f.places) (wd L 3)), .int .i64 n] := (hfr.out vs 67).trans (by show vs 5 = _; exact hd.1 rfl)
     refine step_val (.slice (some ⟨W.heap.size, 0, none⟩) 1 1) (W' := W.alloc (.cells (gtC (⟨wd L 1, idxS (plNames m.f.places) (wd L 2), idxS (plNames m.f.places) (wd L 3), n⟩ : Gt)).toArray 65)) (by simp only [execOp]; go_simp; rfl) ⟨_, rfl, ⟨_, rfl, ?_⟩, by go_grown⟩
     intro j u hj
     rw [Nat.zero_add]
     exact new_cell W (gtC (⟨wd L 1, idxS (plNames m.f.places) (wd L 2), idxS (plNames m.f.places) (wd L 3), n⟩ : Gt)) _ hj
    trivial
   case htail =>
    intro vs V hW hv
    obtain ⟨bn, v6, hcn⟩ := hv.2.2.2.2.2.2.1
    have v0 : vs 0 = .pointer (some ⟨pf, 0, none⟩) := hv.1
    have v4 : vs 4 = m.gv := hv.2.2.2.2.1
    clear hv
    simp only [List.take_succ_cons, List.take_zero, List.drop_succ_cons, List.drop_zero, frameV, Act.put, List.setIfInBounds_toArray, List.set_cons_zero, List.set_cons_succ, v0, v4, v6]
    have hbw := bthen hb0 hW
    have hP2 := HP.out.later hbw
    clear l0 l1 l2 l3 l4 q0 q1 q2 q3 g0 g1 g2 g3 fg0 fg1 fg2 fg3 hb0 ne1 ne2
    have hbs := hbw.size
    obtain ⟨i0, hi0, hz0, hz1, hz2⟩ := info_parts gt_info
    refine wpList_append_own_at _ (by rfl) _ _ 23 (by rfl) base 65 i0 _ 4 40 Tryz.underlying23 hi0 hz0 hz1 hz2 (by rfl) (by decide) _ _ _ (by rfl) hP2.gt ⟨bn, 0, none⟩ 1 1 (gtC (⟨wd L 1, idxS (plNames m.f.places) (wd L 2), idxS (plNames m.f.places) (wd L 3), n⟩ : Gt)) (by rfl) (by rfl) (one_add hcn) (by simp [gtC, Value.oneCell']) (by unfold maxLen; omega) (by omega) (by omega) ?_
    intro v' w1 hown' hgrow _ hat
    have hkg := kept_of_grown hgrow
    have hown2 : OwnGt w1 base v' (m.f.gates ++ [(⟨wd L 1, idxS (plNames m.f.places) (wd L 2), idxS (plNames m.f.places) (wd L 3), n⟩ : Gt)]) := by
     unfold OwnGt
     rw [List.length_append, cellsL_snoc]
     exact hown'
    obtain ⟨b', c', rfl, _⟩ := Lst.own gtC_len hown2
    have npf : ¬ (m.gv).ownBlock = some pf := fun e => by
     have h1 := (hP2.gt.lt pf e).1
     have h2 := hP2.lt
     omega
    have a0 := hkg.cell npf hP2.q0
    have a1 := hkg.cell npf hP2.q1
    have a2 := hkg.cell npf hP2.q2
    have a3 := hkg.cell npf hP2.q3
    have fa0 := (hkg.frozen (cell_lt hP2.q0) npf).trans hP2.fq0
    have fa1 := (hkg.frozen (cell_lt hP2.q1) npf).trans hP2.fq1
    have fa2 := (hkg.frozen (cell_lt hP2.q2) npf).trans hP2.fq2
    have fa3 := (hkg.frozen (cell_lt hP2.q3) npf).trans hP2.fq3
    have oth := ownsRow_kept hP2.pl hkg (fun k e e2 => hP2.apart k e e2)
    have zp := hP2.lt
    have hnew : ∀ k, (Value.slice b' (m.f.gates ++ [(⟨wd L 1, idxS (plNames m.f.places) (wd L 2), idxS (plNames m.f.places) (wd L 3), n⟩ : Gt)]).length c').ownBlock = some k → m.gv.ownBlock = some k ∨ k = V.heap.size := fun k e => by
     rcases hat with h | h
     ·left; rw [← h]; exact e
     ·right; rw [h] at e; exact (Option.some.inj e).symm
    have HOW := Lib.hid hown2
    have HOT := Lib.hid oth
    have HNW := Lib.hid hnew
    have HKG := Lib.hid hkg
    have HPP := Lib.hid hP2
    have HBW := Lib.hid hbw
    have zb := hP2.own_lt (.inl rfl)
    have zs1 := hkg.size
    clear hown' hgrow hat hown2 oth hnew hkg hP2 hbw
    go_wp2
    go_end0
    have hrr := HR.out
    refine ⟨by rw [hrr]; rfl, ((Kept.of_below HBW.out).trans (HKG.out.wider (O' := m.own pf) (fun k _ e => .inr (.inr e))) (fun _ _ e => e)).setCell (.inl (.inl rfl)) _, fun _ => ⟨⟨{ m.f with gates := m.f.gates ++ [(⟨wd L 1, idxS (plNames m.f.places) (wd L 2), idxS (plNames m.f.places) (wd L 3), n⟩ : Gt)] }, m.pa, m.pc, b', c'⟩, by rw [hrr], ?_, ?_⟩⟩
    ·have hks : Kept (fun k => k = pf) w1 _ := (Kept.refl (fun k => k = pf) w1).setCell (p := ⟨pf, 3, none⟩) (.inl rfl) (Value.slice b' (m.f.gates.length + 1) c')
     have hpn := ownsRow_kept HOW.out hks (fun k e e2 => by have := (HOW.out.lt k e).1; omega)
     have hpo := ownsRow_kept HOT.out hks (fun k e e2 => by have := (HOT.out.lt k e).1; omega)
     refine ⟨by go_simp, by go_simp, by go_simp, by go_simp, by go_simp, by go_simp, by go_simp, by go_simp, hpo, hpn, ?_, zp⟩
     intro g e e2
     rcases HNW.out g e2 with h | h
     ·exact HPP.out.apart g e h
     ·have := (HPP.out.pl.lt g e).2
      omega
    ·rintro k (rfl | e | e)
     ·exact .inl (.inl rfl)
     ·exact .inl (.inr (.inl e))
     ·rcases HNW.out k e with h | h
      ·exact .inl (.inr (.inr h))
      ·exact .inr (by have := HBW.out.size; omega)
theorem c_formPlace (m : Fm) (L : List ByteArray) (bw pf base : Nat) (W : World) (pk : Nat) (kd : Int) (hk : W.cell? ⟨pk, 0, none⟩ = some (.int .u8 kd)) (h : FormIn m L bw pf base W) :
  Calls Tryz.prog 163 #[.pointer (some ⟨pf, 0, none⟩), .slice (some ⟨bw, 0, none⟩) L.length L.length, .pointer (some ⟨pk, 0, none⟩)] W (FormOut m pf base W (placeE m.f kd L)) := by
 by_cases hn : L.length = 2
 ·cases hq : nameB (wd L 1) with
  | false => exact c_formPlace_name m L bw pf base W pk kd hk h hn hq
  | true => exact c_formPlace_p m L bw pf base W pk kd hk h hn hq
 ·exact c_formPlace_len m L bw pf base W pk kd h hn
theorem c_formGate (m : Fm) (L : List ByteArray) (bw pf base : Nat) (W : World) (h : FormIn m L bw pf base W) :
  Calls Tryz.prog 164 #[.pointer (some ⟨pf, 0, none⟩), .slice (some ⟨bw, 0, none⟩) L.length L.length] W (FormOut m pf base W (gateE m.f L)) := by
 by_cases hn : L.length = 5
 ·cases hq1 : nameB (wd L 1) with
  | false => exact c_formGate_n1 m L bw pf base W h hn hq1
  | true =>
   cases hq2 : nameB (wd L 2) with
   | false => exact c_formGate_n2 m L bw pf base W h hn hq1 hq2
   | true =>
    cases hq3 : nameB (wd L 3) with
    | false => exact c_formGate_n3 m L bw pf base W h hn hq1 hq2 hq3
    | true =>
     cases hso : shortO (wd L 4) with
     | none => exact c_formGate_none m L bw pf base W h hn hq1 hq2 hq3 hso
     | some n =>
      by_cases hA : 0 ≤ idxS (plNames m.f.places) (wd L 2)
      ·by_cases hB : 0 ≤ idxS (plNames m.f.places) (wd L 3)
       ·exact c_formGate_g m L bw pf base W h hn hq1 hq2 hq3 n hso hA hB
       ·exact c_formGate_B m L bw pf base W h hn hq1 hq2 hq3 n hso hA hB
      ·exact c_formGate_A m L bw pf base W h hn hq1 hq2 hq3 n hso hA
 ·exact c_formGate_len m L bw pf base W h hn
end Go.Proofs.YtlppdgaogdpajaaGreatDoor
