/- This text is a part of the proof: ParseIn. -/
import Derived.Test.YtlppdgaogdpajaaGreatDoorK26
set_option maxRecDepth 100000
set_option maxHeartbeats 4000000
namespace Go.Proofs.YtlppdgaogdpajaaGreatDoor
open Go.RowKit Go.Shelf
attribute [local go_sem] Oper.semAt_some
structure ParseAt (m : Fm) (s : ByteArray) (b : Bool) (ps pb pf base : Nat) (W : World) : Prop where
 st : PSt m pf base W
 cs : W.cell? ⟨ps, 0, none⟩ = some (.string s)
 cb : W.cell? ⟨pb, 0, none⟩ = some (.bool b)
 fb : W.frozen? ⟨pb, 0, none⟩ = false
 l1 : m.f.places.length ≤ 100000
 l2 : m.f.gates.length ≤ 100000
 bs : base ≤ W.heap.size
 lib : LibW W
 size : s.size ≤ 1000000
 n1 : pb ≠ pf
 n2 : pb < base
def ParseOut (m : Fm) (pb pf base : Nat) (W : World) (r : Fe × Int) (e : Ending) (w' : World) : Prop :=
 e = endV r.2 ∧ Kept (fun k => k = pb ∨ m.own pf k) W w' ∧ (r.2 = 0 → w'.cell? ⟨pb, 0, none⟩ = some (.bool true) ∧ w'.frozen? ⟨pb, 0, none⟩ = false ∧ ∃ m' : Fm, m'.f = r.1 ∧ PSt m' pf base w' ∧ ∀ k, m'.own pf k → m.own pf k ∨ W.heap.size ≤ k)
theorem ParseOut.no {m : Fm} {pb pf base : Nat} {W w' : World} {r : Fe × Int} {E : Int} (hr : r.2 = E) (hE : E ≠ 0) (hb : Below W.heap.size W w') : ParseOut m pb pf base W r (.panicked (givesUp E)) w' :=
 ⟨by rw [hr, endV_no hE], Kept.of_below hb, fun h => absurd (hr.symm.trans h) hE⟩
theorem ParseOut.form {m : Fm} {pb pf base : Nat} {W V w' : World} {r : Fe × Int} {e : Ending} (h : FormOut m pf base V r e w') (hb : Below W.heap.size W V) (hc : V.cell? ⟨pb, 0, none⟩ = some (.bool true)) (hf : V.frozen? ⟨pb, 0, none⟩ = false) (hn : ¬ m.own pf pb) : ParseOut m pb pf base W r e w' := by
 refine ⟨h.1, ((Kept.of_below (O := fun k => k = pb ∨ m.own pf k) hb).trans h.2.1 fun k _ hk => .inr hk), fun h0 => ?_⟩
 obtain ⟨m', h1, h2, h3⟩ := h.2.2 h0
 refine ⟨h.2.1.cell hn hc, (h.2.1.frozen (cell_lt hc) hn).trans hf, m', h1, h2, fun k hk => ?_⟩
 rcases h3 k hk with h4 | h4
 ·exact .inl h4
 ·exact .inr (Nat.le_trans hb.size h4)
def FnIs (s : ByteArray) (v : Value) (W : World) : Prop :=
 (s = wHeaf ∧ ∃ k, v = fnPlace k ∧ W.cell? ⟨k, 0, none⟩ = some (.int .u8 1)) ∨ (s = wFold ∧ ∃ k, v = fnPlace k ∧ W.cell? ⟨k, 0, none⟩ = some (.int .u8 2)) ∨ (s = wGate ∧ v = fnGate) ∨ ((s ≠ wHeaf ∧ s ≠ wFold ∧ s ≠ wGate) ∧ v = .nilFunc)
def isForm (s : ByteArray) : Bool := decide (s = wHeaf) || decide (s = wFold) || decide (s = wGate)
theorem FnIs.later {s : ByteArray} {v : Value} {W W' : World} (h : FnIs s v W) (hb : Below W.heap.size W W') : FnIs s v W' := by
 rcases h with ⟨h1, k, h2, h3⟩ | ⟨h1, k, h2, h3⟩ | h | h
 ·exact .inl ⟨h1, k, h2, later_of hb h3⟩
 ·exact .inr (.inl ⟨h1, k, h2, later_of hb h3⟩)
 ·exact .inr (.inr (.inl h))
 ·exact .inr (.inr (.inr h))
theorem fnIs_of {W : World} {b k1 k2 : Nat} (h : FormsAt W b k1 k2) (s : ByteArray) : FnIs s ((formO k1 k2 s).getD .nilFunc) W ∧ (formO k1 k2 s).isSome = isForm s := by
 unfold formO
 by_cases h1 : s = wHeaf
 ·rw [if_pos h1]
  exact ⟨.inl ⟨h1, k1, rfl, h.c1⟩, by simp [isForm, h1]⟩
 rw [if_neg h1]
 by_cases h2 : s = wFold
 ·rw [if_pos h2]
  exact ⟨.inr (.inl ⟨h2, k2, rfl, h.c2⟩), by simp [isForm, h2]⟩
 rw [if_neg h2]
 by_cases h3 : s = wGate
 ·rw [if_pos h3]
  exact ⟨.inr (.inr (.inl ⟨h3, rfl⟩)), by simp [isForm, h3]⟩
 ·rw [if_neg h3]
  exact ⟨.inr (.inr (.inr ⟨⟨h1, h2, h3⟩, rfl⟩)), by simp [isForm, h1, h2, h3]⟩
def Stays.map : Stays := ⟨fun v W => ∃ b k1 k2, v = .map (some b) ∧ FormsAt W b k1 k2, fun _ _ _ ⟨b, k1, k2, e, h⟩ hb => ⟨b, k1, k2, e, h.later hb⟩⟩
def Stays.fn2 (s : ByteArray) : Stays := ⟨fun v W => ∃ g, v = .tuple #[g, .bool (isForm s)] ∧ FnIs s g W, fun _ _ _ ⟨g, e, h⟩ hb => ⟨g, e, h.later hb⟩⟩
def Stays.fn (s : ByteArray) : Stays := ⟨fun v W => FnIs s v W, fun _ _ _ h hb => h.later hb⟩
theorem wFold_ne : wFold ≠ wHeaf := by decide
theorem words_pos (s : ByteArray) : 0 < (wordsB s).length := by
 unfold wordsB
 rw [pieces_count]
 omega
theorem len_bd {s : ByteArray} {L : List ByteArray} (hL : wordsB s = L) (hs : s.size ≤ 1000000) : 0 < L.length ∧ L.length ≤ 1000001 := by
 rw [← hL]
 refine ⟨words_pos s, ?_⟩
 have := pieces_len 32 s
 unfold wordsB
 omega
theorem c_ParseIn_begun (m : Fm) (s : ByteArray) (b : Bool) (ps pb pf base : Nat) (w : World) (h : ParseAt m s b ps pb pf base w) (L : List ByteArray) (hL : wordsB s = L) (hw : wd L 0 = wFell) (hb1 : b = true) :
  Calls Tryz.prog 88 #[.pointer (some ⟨ps, 0, none⟩), .pointer (some ⟨pb, 0, none⟩), .pointer (some ⟨pf, 0, none⟩)] w (ParseOut m pb pf base w (parseLine m.f b L)) := by
 have hSp := c_Split 32 s w h.lib h.size
 rw [show piecesC 32 s = L from hL] at hSp
 have HSp := Lib.hid hSp
 have hlen := len_bd hL h.size
 have HZ := Lib.hid (wd_size hL h.size)
 have HL := Lib.hid h.lib
 have HP := Lib.hid h.st
 have cs := h.cs
 have cb := h.cb
 have fcb := h.fb
 have hl1 := h.l1
 have hl2 := h.l2
 have hbase := h.bs
 have ne1 := h.n1
 have hpb := h.n2
 have zb := cell_lt cb
 have hr : (parseLine m.f b L).2 = 4 := by
  unfold parseLine
  rw [if_pos hw, if_neg (by rw [hb1]; simp)]
 have HR := Lib.hid (fun (w' : World) (hb : Below w.heap.size w w') => ParseOut.no (m := m) (pb := pb) (pf := pf) (base := base) hr (by decide) hb)
 clear hr
 have hq : ((wd L 0).toList == [102, 101, 108, 108]) = true := by rw [show wd L 0 = (⟨#[102, 101, 108, 108]⟩ : ByteArray) from hw]; simp
 subst hb1
 clear hw
 clear hSp h hL
 go_enter Tryz.func88, Tryz.ntmps88
 go_wp2_with fail
 refine HSp.out.mono ?_
 rintro e W1 ⟨rfl, hst, hB⟩
 have l0 := strs_cell hst hlen.1
 replace fcb := later_off hB cb fcb
 replace cs := later_of hB cs
 replace cb := later_of hB cb
 have hb0 := hB
 have HST := Lib.hid hst
 clear hB HSp hst
 go_wp2_with fail
 refine (c_unless_f _ _).mono ?_
 rintro e w2 ⟨rfl, rfl⟩
 go_wp2
 exact ⟨rfl, HR.out _ hb0⟩
theorem c_ParseIn_flen (m : Fm) (s : ByteArray) (b : Bool) (ps pb pf base : Nat) (w : World) (h : ParseAt m s b ps pb pf base w) (L : List ByteArray) (hL : wordsB s = L) (hw : wd L 0 = wFell) (hb1 : b = false) (hn : ¬ L.length = 3) :
  Calls Tryz.prog 88 #[.pointer (some ⟨ps, 0, none⟩), .pointer (some ⟨pb, 0, none⟩), .pointer (some ⟨pf, 0, none⟩)] w (ParseOut m pb pf base w (parseLine m.f b L)) := by
 have hSp := c_Split 32 s w h.lib h.size
 rw [show piecesC 32 s = L from hL] at hSp
 have HSp := Lib.hid hSp
 have hlen := len_bd hL h.size
 have HZ := Lib.hid (wd_size hL h.size)
 have HL := Lib.hid h.lib
 have HP := Lib.hid h.st
 have cs := h.cs
 have cb := h.cb
 have fcb := h.fb
 have hl1 := h.l1
 have hl2 := h.l2
 have hbase := h.bs
 have ne1 := h.n1
 have hpb := h.n2
 have zb := cell_lt cb
 have hr : (parseLine m.f b L).2 = 4 := by
  unfold parseLine
  rw [if_pos hw, if_neg (fun h => hn h.2)]
 have HR := Lib.hid (fun (w' : World) (hb : Below w.heap.size w w') => ParseOut.no (m := m) (pb := pb) (pf := pf) (base := base) hr (by decide) hb)
 clear hr
 have hq : ((wd L 0).toList == [102, 101, 108, 108]) = true := by rw [show wd L 0 = (⟨#[102, 101, 108, 108]⟩ : ByteArray) from hw]; simp
 subst hb1
 have e3 : ((L.length : Int) == 3) = false := beq_eq_false_iff_ne.2 (by omega)
 clear hw hn
 clear hSp h hL
 go_enter Tryz.func88, Tryz.ntmps88
 go_wp2_with fail
 refine HSp.out.mono ?_
 rintro e W1 ⟨rfl, hst, hB⟩
 have l0 := strs_cell hst hlen.1
 replace fcb := later_off hB cb fcb
 replace cs := later_of hB cs
 replace cb := later_of hB cb
 have hb0 := hB
 have HST := Lib.hid hst
 clear hB HSp hst
 go_wp2_with fail
 refine (c_unless_f _ _).mono ?_
 rintro e w2 ⟨rfl, rfl⟩
 go_wp2
 exact ⟨rfl, HR.out _ hb0⟩
theorem c_ParseIn_fell (m : Fm) (s : ByteArray) (b : Bool) (ps pb pf base : Nat) (w : World) (h : ParseAt m s b ps pb pf base w) (L : List ByteArray) (hL : wordsB s = L) (hw : wd L 0 = wFell) (hb1 : b = false) (hn : L.length = 3) :
  Calls Tryz.prog 88 #[.pointer (some ⟨ps, 0, none⟩), .pointer (some ⟨pb, 0, none⟩), .pointer (some ⟨pf, 0, none⟩)] w (ParseOut m pb pf base w (parseLine m.f b L)) := by
 have hSp := c_Split 32 s w h.lib h.size
 rw [show piecesC 32 s = L from hL] at hSp
 have HSp := Lib.hid hSp
 have hlen := len_bd hL h.size
 have HZ := Lib.hid (wd_size hL h.size)
 have HL := Lib.hid h.lib
 have HP := Lib.hid h.st
 have cs := h.cs
 have cb := h.cb
 have fcb := h.fb
 have hl1 := h.l1
 have hl2 := h.l2
 have hbase := h.bs
 have ne1 := h.n1
 have hpb := h.n2
 have zb := cell_lt cb
 have HR1 := Lib.hid (fun (hk : shortO (wd L 1) = none) (w' : World) (hb : Below w.heap.size w w') => ParseOut.no (m := m) (pb := pb) (pf := pf) (base := base) (r := parseLine m.f b L) (E := 4) (by unfold parseLine; rw [if_pos hw, if_pos ⟨by rw [hb1]; rfl, hn⟩, hk]) (by decide) hb)
 have HR2 := Lib.hid (fun (hk : shortO (wd L 2) = none) (w' : World) (hb : Below w.heap.size w w') => ParseOut.no (m := m) (pb := pb) (pf := pf) (base := base) (r := parseLine m.f b L) (E := 4) (by unfold parseLine; rw [if_pos hw, if_pos ⟨by rw [hb1]; rfl, hn⟩, hk]; split <;> first | rfl | (rename_i h1 h2; cases h2)) (by decide) hb)
 have HRR := Lib.hid (fun (t y : Int) (h1 : shortO (wd L 1) = some t) (h2 : shortO (wd L 2) = some y) => (show parseLine m.f b L = ({ m.f with ticks := t, yields := y }, 0) from by unfold parseLine; rw [if_pos hw, if_pos ⟨by rw [hb1]; rfl, hn⟩, h1, h2]))
 have hq : ((wd L 0).toList == [102, 101, 108, 108]) = true := by rw [show wd L 0 = (⟨#[102, 101, 108, 108]⟩ : ByteArray) from hw]; simp
 generalize parseLine m.f b L = r at *
 subst hb1
 rw [hn] at HSp
 clear hw
 clear hSp h hL
 go_enter Tryz.func88, Tryz.ntmps88
 go_wp2_with fail
 refine HSp.out.mono ?_
 rintro e W1 ⟨rfl, hst, hB⟩
 have l0 := strs_cell hst hlen.1
 replace fcb := later_off hB cb fcb
 replace cs := later_of hB cs
 replace cb := later_of hB cb
 have hb0 := hB
 have HST := Lib.hid hst
 clear hB HSp hst
 have l1 := strs_cell HST.out (show 1 < L.length by omega)
 have l2 := strs_cell HST.out (show 2 < L.length by omega)
 go_wp2_with fail
 refine (c_unless_t _ _).mono ?_
 rintro e w2 ⟨rfl, rfl⟩
 go_upto_region 3 with (fail)
 refine wp_region_assert 8 W1 (fun i => ([Stays.val (.slice (some ⟨w.heap.size, 0, none⟩) 3 3), Stays.val (.pointer (some ⟨w.heap.size, 1, none⟩)), Stays.val (.string (wd L 1)), Stays.num (shortO (wd L 1)), Stays.val (.slice (some ⟨w.heap.size, 0, none⟩) 3 3), Stays.val (.pointer (some ⟨w.heap.size, 2, none⟩)), Stays.val (.string (wd L 2)), Stays.num (shortO (wd L 2))] : List Stays)[i]?.getD Stays.any) (by kernel_rfl) (by kernel_rfl) (by kernel_rfl) (Below.refl _ _) ?hstep ?htail
 case hstep =>
  intro fr hfr hfd
  simp only [List.take_succ_cons, List.take_zero] at hfr ⊢
  refine ⟨?_, ?_⟩
  ·intro vs W hW hd
   have e3 : (fr vs).tmps[3]?.getD undef = .slice (some ⟨w.heap.size, 0, none⟩) 3 3 := (hfr.out vs 3).trans rfl
   exact sv (.slice (some ⟨w.heap.size, 0, none⟩) 3 3)
  refine ⟨?_, ?_⟩
  ·intro vs W hW hd
   have e20 : (fr vs).tmps[20]?.getD undef = .slice (some ⟨w.heap.size, 0, none⟩) 3 3 := (hfr.out vs 20).trans (by show vs 0 = _; exact hd.1 rfl)
   exact sv (.pointer (some ⟨w.heap.size, 1, none⟩))
  refine ⟨?_, ?_⟩
  ·intro vs W hW hd
   have e21 : (fr vs).tmps[21]?.getD undef = .pointer (some ⟨w.heap.size, 1, none⟩) := (hfr.out vs 21).trans (by show vs 1 = _; exact hd.1 rfl)
   have kl1 := later_of hW l1
   exact sv (.string (wd L 1))
  refine ⟨?_, ?_⟩
  ·intro vs W hW hd
   have e22 : (fr vs).tmps[22]?.getD undef = .string (wd L 1) := (hfr.out vs 22).trans (by show vs 2 = _; exact hd.1 rfl)
   exact step_num (f := 90) (args := #[.string (wd L 1)]) (W' := W) (by simp only [execOp]; go_simp) (c_short _ W (HL.out.later (bthen hb0 hW)) (HZ.out 1)) (fun n w' hn hb => ⟨_, rfl, ⟨n, hn, rfl⟩, hb⟩) (fun hn w' hb => ⟨hfd.out vs, HR1.out hn _ (bthen (bthen hb0 hW) hb)⟩)
  refine ⟨?_, ?_⟩
  ·intro vs W hW hd
   have e3 : (fr vs).tmps[3]?.getD undef = .slice (some ⟨w.heap.size, 0, none⟩) 3 3 := (hfr.out vs 3).trans rfl
   exact sv (.slice (some ⟨w.heap.size, 0, none⟩) 3 3)
  refine ⟨?_, ?_⟩
  ·intro vs W hW hd
   have e24 : (fr vs).tmps[24]?.getD undef = .slice (some ⟨w.heap.size, 0, none⟩) 3 3 := (hfr.out vs 24).trans (by show vs 4 = _; exact hd.1 rfl)
   exact sv (.pointer (some ⟨w.heap.size, 2, none⟩))
  refine ⟨?_, ?_⟩
  ·intro vs W hW hd
   have e25 : (fr vs).tmps[25]?.getD undef = .pointer (some ⟨w.heap.size, 2, none⟩) := (hfr.out vs 25).trans (by show vs 5 = _; exact hd.1 rfl)
   have kl2 := later_of hW l2
   exact sv (.string (wd L 2))
  refine ⟨?_, ?_⟩
  ·intro vs W hW hd
   have e26 : (fr vs).tmps[26]?.getD undef = .string (wd L 2) := (hfr.out vs 26).trans (by show vs 6 = _; exact hd.1 rfl)
   exact step_num (f := 90) (args := #[.string (wd L 2)]) (W' := W) (by simp only [execOp]; go_simp) (c_short _ W (HL.out.later (bthen hb0 hW)) (HZ.out 2)) (fun n w' hn hb => ⟨_, rfl, ⟨n, hn, rfl⟩, hb⟩) (fun hn w' hb => ⟨hfd.out vs, HR2.out hn _ (bthen (bthen hb0 hW) hb)⟩)
  trivial
 case htail =>
  intro vs V2 hW hv
  obtain ⟨n3, h3, v3⟩ := hv.2.2.2.1
  obtain ⟨n7, h7, v7⟩ := hv.2.2.2.2.2.2.2.1
  clear hv
  simp only [List.take_succ_cons, List.take_zero, List.drop_succ_cons, List.drop_zero, frameV, Act.put, List.setIfInBounds_toArray, List.set_cons_zero, List.set_cons_succ, v3, v7]
  have hbw := bthen hb0 hW
  replace fcb := later_off hW cb fcb
  replace cb := later_of hW cb
  have hP2 := HP.out.later hbw
  have a0 := hP2.q0
  have a1 := hP2.q1
  have a2 := hP2.q2
  have a3 := hP2.q3
  have fa0 := hP2.fq0
  have fa1 := hP2.fq1
  have fa2 := hP2.fq2
  have fa3 := hP2.fq3
  have HP2 := Lib.hid hP2
  have zp := hP2.lt
  have HBW := Lib.hid hbw
  have zs := hbw.size
  have za0 := cell_lt a0
  clear hP2 hb0 hW hbw l0 l1 l2 cs HST
  have hne2 : pf ≠ pb := fun e => ne1 e.symm
  go_wp2
  go_end0
  have hrr := HRR.out n3 n7 h3 h7
  refine ⟨by rw [hrr]; rfl, ((((Kept.of_below (O := fun k => k = pb ∨ m.own pf k) HBW.out).setCell (p := ⟨pf, 0, none⟩) (.inl (.inr (.inl rfl))) _).setCell (p := ⟨pf, 1, none⟩) (.inl (.inr (.inl rfl))) _).setCell (p := ⟨pb, 0, none⟩) (.inl (.inl rfl)) _), fun _ => ⟨by go_simp, by go_simp, ⟨{ m.f with ticks := n3, yields := n7 }, m.pa, m.pc, m.ga, m.gc⟩, by rw [hrr], ?_, fun k hk => .inl hk⟩⟩
  have hks : Kept (fun k => k = pf ∨ k = pb) V2 _ := (((Kept.refl (fun k => k = pf ∨ k = pb) V2).setCell (p := ⟨pf, 0, none⟩) (.inl (.inl rfl)) (.int .i64 n3)).setCell (p := ⟨pf, 1, none⟩) (.inl (.inl rfl)) (.int .i64 n7)).setCell (p := ⟨pb, 0, none⟩) (.inl (.inr rfl)) (.bool true)
  exact ⟨by go_simp, by go_simp, by go_simp, by go_simp, by go_simp, by go_simp, by go_simp, by go_simp, ownsRow_kept HP2.out.pl hks (fun k e e2 => by have := (HP2.out.pl.lt k e).1; omega), ownsRow_kept HP2.out.gt hks (fun k e e2 => by have := (HP2.out.gt.lt k e).1; omega), HP2.out.apart, HP2.out.lt⟩
theorem c_ParseIn_not (m : Fm) (s : ByteArray) (b : Bool) (ps pb pf base : Nat) (w : World) (h : ParseAt m s b ps pb pf base w) (L : List ByteArray) (hL : wordsB s = L) (hw : ¬ wd L 0 = wFell) (hb1 : b = false) :
  Calls Tryz.prog 88 #[.pointer (some ⟨ps, 0, none⟩), .pointer (some ⟨pb, 0, none⟩), .pointer (some ⟨pf, 0, none⟩)] w (ParseOut m pb pf base w (parseLine m.f b L)) := by
 have hSp := c_Split 32 s w h.lib h.size
 rw [show piecesC 32 s = L from hL] at hSp
 have HSp := Lib.hid hSp
 have hlen := len_bd hL h.size
 have HZ := Lib.hid (wd_size hL h.size)
 have HL := Lib.hid h.lib
 have HP := Lib.hid h.st
 have cs := h.cs
 have cb := h.cb
 have fcb := h.fb
 have hl1 := h.l1
 have hl2 := h.l2
 have hbase := h.bs
 have ne1 := h.n1
 have hpb := h.n2
 have zb := cell_lt cb
 have hr : (parseLine m.f b L).2 = 4 := by
  unfold parseLine
  rw [if_neg hw, if_pos hb1]
 have HR := Lib.hid (fun (w' : World) (hb : Below w.heap.size w w') => ParseOut.no (m := m) (pb := pb) (pf := pf) (base := base) hr (by decide) hb)
 clear hr
 have hq : ((wd L 0).toList == [102, 101, 108, 108]) = false := beq_eq_false_iff_ne.2 (fun e => hw (tl_inj (e.trans (by unfold wFell; simp))))
 subst hb1
 clear hw
 clear hSp h hL
 go_enter Tryz.func88, Tryz.ntmps88
 go_wp2_with fail
 refine HSp.out.mono ?_
 rintro e W1 ⟨rfl, hst, hB⟩
 have l0 := strs_cell hst hlen.1
 replace fcb := later_off hB cb fcb
 replace cs := later_of hB cs
 replace cb := later_of hB cb
 have hb0 := hB
 have HST := Lib.hid hst
 clear hB HSp hst
 go_upto_region 4 with (fail)
 refine wp_region_assert 9 W1 (fun i => ([Stays.map, Stays.val (.slice (some ⟨w.heap.size, 0, none⟩) L.length L.length), Stays.val (.pointer (some ⟨w.heap.size, 0, none⟩)), Stays.val (.string (wd L 0)), Stays.fn2 (wd L 0), Stays.fn2 (wd L 0), Stays.fn (wd L 0), Stays.val (.bool (isForm (wd L 0))), Stays.fn (wd L 0)] : List Stays)[i]?.getD Stays.any) (by kernel_rfl) (by kernel_rfl) (by kernel_rfl) (Below.refl _ _) ?hstep ?htail
 case hstep =>
  intro fr hfr hfd
  simp only [List.take_succ_cons, List.take_zero] at hfr ⊢
  refine ⟨?_, ?_⟩
  ·intro vs W hW hd
   exact step_call (R := fun v w' => Stays.map.p v w' ∧ Below W.heap.size W w') (f := 91) (args := #[]) (W' := W) (by simp only [execOp]; go_simp) ((c_forms W).mono fun e w' ⟨⟨b, k1, k2, h1, h2⟩, h3⟩ => ⟨_, h1, ⟨b, k1, k2, rfl, h2⟩, h3⟩) fun v w' h => ⟨v, rfl, h⟩
  refine ⟨?_, ?_⟩
  ·intro vs W hW hd
   have e3 : (fr vs).tmps[3]?.getD undef = .slice (some ⟨w.heap.size, 0, none⟩) L.length L.length := (hfr.out vs 3).trans rfl
   exact sv (.slice (some ⟨w.heap.size, 0, none⟩) L.length L.length)
  refine ⟨?_, ?_⟩
  ·intro vs W hW hd
   have e32 : (fr vs).tmps[32]?.getD undef = .slice (some ⟨w.heap.size, 0, none⟩) L.length L.length := (hfr.out vs 32).trans (by show vs 1 = _; exact hd.1 rfl)
   exact sv (.pointer (some ⟨w.heap.size, 0, none⟩))
  refine ⟨?_, ?_⟩
  ·intro vs W hW hd
   have e33 : (fr vs).tmps[33]?.getD undef = .pointer (some ⟨w.heap.size, 0, none⟩) := (hfr.out vs 33).trans (by show vs 2 = _; exact hd.1 rfl)
   have kl0 := later_of hW l0
   exact sv (.string (wd L 0))
  refine ⟨?_, ?_⟩
  ·intro vs W hW hd
   obtain ⟨bm, k1, k2, hv31, hfm⟩ := hd.1 rfl
   have e31 : (fr vs).tmps[31]?.getD undef = .map (some bm) := (hfr.out vs 31).trans (by show vs 0 = _; exact hv31)
   have e34 : (fr vs).tmps[34]?.getD undef = .string (wd L 0) := (hfr.out vs 34).trans (by show vs 3 = _; exact hd.2.1 rfl)
   have hlk : (Instr.lookup 112 (.map (some bm)) (.string (wd L 0)) true).run Tryz.prog W = _ := hfm.look (wd L 0)
   have hfi := fnIs_of hfm (wd L 0)
   rw [hfi.2] at hlk
   exact step_val _ (W' := W) (by simp only [execOp]; go_simp) ⟨_, rfl, ⟨_, rfl, hfi.1⟩, Below.refl _ _⟩
  refine ⟨?_, ?_⟩
  ·intro vs W hW hd
   obtain ⟨g, hv35, hg⟩ := hd.1 rfl
   have e35 : (fr vs).tmps[35]?.getD undef = .tuple #[g, .bool (isForm (wd L 0))] := (hfr.out vs 35).trans (by show vs 4 = _; exact hv35)
   exact step_val (.tuple #[g, .bool (isForm (wd L 0))]) (W' := W) (by simp only [execOp]; go_simp) ⟨_, rfl, ⟨_, rfl, hg⟩, Below.refl _ _⟩
  refine ⟨?_, ?_⟩
  ·intro vs W hW hd
   obtain ⟨g, hv30, hg⟩ := hd.1 rfl
   have e30 : (fr vs).tmps[30]?.getD undef = .tuple #[g, .bool (isForm (wd L 0))] := (hfr.out vs 30).trans (by show vs 5 = _; exact hv30)
   exact step_val (g) (W' := W) (by simp only [execOp]; go_simp) ⟨_, rfl, hg, Below.refl _ _⟩
  refine ⟨?_, ?_⟩
  ·intro vs W hW hd
   obtain ⟨g, hv30, hg⟩ := hd.1 rfl
   have e30 : (fr vs).tmps[30]?.getD undef = .tuple #[g, .bool (isForm (wd L 0))] := (hfr.out vs 30).trans (by show vs 5 = _; exact hv30)
   exact sv (.bool (isForm (wd L 0)))
  refine ⟨?_, ?_⟩
  ·intro vs W hW hd
   have hg := hd.1 rfl
   have e36 : (fr vs).tmps[36]?.getD undef = vs 6 := (hfr.out vs 36).trans rfl
   exact step_val (vs 6) (W' := W) (by simp only [execOp]; go_simp) ⟨_, rfl, hg, Below.refl _ _⟩
  trivial
 case htail =>
  intro vs V hW hv
  have hg8 : FnIs (wd L 0) (vs 8) V := hv.2.2.2.2.2.2.2.2.1
  obtain ⟨g8, v8⟩ : ∃ g, vs 8 = g := ⟨_, rfl⟩
  rw [v8] at hg8
  have v7 : vs 7 = .bool (isForm (wd L 0)) := hv.2.2.2.2.2.2.2.1
  clear hv
  simp only [List.take_succ_cons, List.take_zero, List.drop_succ_cons, List.drop_zero, frameV, Act.put, List.setIfInBounds_toArray, List.set_cons_zero, List.set_cons_succ, v7, v8]
  have hbw := bthen hb0 hW
  replace fcb := later_off hW cb fcb
  replace cb := later_of hW cb
  clear hb0 hW
  have hb0 := hbw
  clear hg8
  go_wp2_with fail
  refine (c_unless_f _ _).mono ?_
  rintro e w2 ⟨rfl, rfl⟩
  go_wp2
  exact ⟨rfl, HR.out _ hb0⟩
theorem c_ParseIn_none (m : Fm) (s : ByteArray) (b : Bool) (ps pb pf base : Nat) (w : World) (h : ParseAt m s b ps pb pf base w) (L : List ByteArray) (hL : wordsB s = L) (hw : ¬ wd L 0 = wFell) (hb1 : b = true) (h1 : ¬ wd L 0 = wHeaf) (h2 : ¬ wd L 0 = wFold) (h3 : ¬ wd L 0 = wGate) :
  Calls Tryz.prog 88 #[.pointer (some ⟨ps, 0, none⟩), .pointer (some ⟨pb, 0, none⟩), .pointer (some ⟨pf, 0, none⟩)] w (ParseOut m pb pf base w (parseLine m.f b L)) := by
 have hSp := c_Split 32 s w h.lib h.size
 rw [show piecesC 32 s = L from hL] at hSp
 have HSp := Lib.hid hSp
 have hlen := len_bd hL h.size
 have HZ := Lib.hid (wd_size hL h.size)
 have HL := Lib.hid h.lib
 have HP := Lib.hid h.st
 have cs := h.cs
 have cb := h.cb
 have fcb := h.fb
 have hl1 := h.l1
 have hl2 := h.l2
 have hbase := h.bs
 have ne1 := h.n1
 have hpb := h.n2
 have zb := cell_lt cb
 have hr : (parseLine m.f b L).2 = 4 := by
  unfold parseLine
  rw [if_neg hw, if_neg (by rw [hb1]; decide), if_neg (fun h => h.elim h1 h2), if_neg h3]
 have HR := Lib.hid (fun (w' : World) (hb : Below w.heap.size w w') => ParseOut.no (m := m) (pb := pb) (pf := pf) (base := base) hr (by decide) hb)
 clear hr
 have hq : ((wd L 0).toList == [102, 101, 108, 108]) = false := beq_eq_false_iff_ne.2 (fun e => hw (tl_inj (e.trans (by unfold wFell; simp))))
 subst hb1
 have hif : isForm (wd L 0) = false := by unfold isForm; simp [h1, h2, h3]
 clear hw h1 h2 h3
 clear hSp h hL
 go_enter Tryz.func88, Tryz.ntmps88
 go_wp2_with fail
 refine HSp.out.mono ?_
 rintro e W1 ⟨rfl, hst, hB⟩
 have l0 := strs_cell hst hlen.1
 replace fcb := later_off hB cb fcb
 replace cs := later_of hB cs
 replace cb := later_of hB cb
 have hb0 := hB
 have HST := Lib.hid hst
 clear hB HSp hst
 go_upto_region 4 with (fail)
 refine wp_region_assert 9 W1 (fun i => ([Stays.map, Stays.val (.slice (some ⟨w.heap.size, 0, none⟩) L.length L.length), Stays.val (.pointer (some ⟨w.heap.size, 0, none⟩)), Stays.val (.string (wd L 0)), Stays.fn2 (wd L 0), Stays.fn2 (wd L 0), Stays.fn (wd L 0), Stays.val (.bool (isForm (wd L 0))), Stays.fn (wd L 0)] : List Stays)[i]?.getD Stays.any) (by kernel_rfl) (by kernel_rfl) (by kernel_rfl) (Below.refl _ _) ?hstep ?htail
 case hstep =>
  intro fr hfr hfd
  simp only [List.take_succ_cons, List.take_zero] at hfr ⊢
  refine ⟨?_, ?_⟩
  ·intro vs W hW hd
   exact step_call (R := fun v w' => Stays.map.p v w' ∧ Below W.heap.size W w') (f := 91) (args := #[]) (W' := W) (by simp only [execOp]; go_simp) ((c_forms W).mono fun e w' ⟨⟨b, k1, k2, h1, h2⟩, h3⟩ => ⟨_, h1, ⟨b, k1, k2, rfl, h2⟩, h3⟩) fun v w' h => ⟨v, rfl, h⟩
  refine ⟨?_, ?_⟩
  ·intro vs W hW hd
   have e3 : (fr vs).tmps[3]?.getD undef = .slice (some ⟨w.heap.size, 0, none⟩) L.length L.length := (hfr.out vs 3).trans rfl
   exact sv (.slice (some ⟨w.heap.size, 0, none⟩) L.length L.length)
  refine ⟨?_, ?_⟩
  ·intro vs W hW hd
   have e32 : (fr vs).tmps[32]?.getD undef = .slice (some ⟨w.heap.size, 0, none⟩) L.length L.length := (hfr.out vs 32).trans (by show vs 1 = _; exact hd.1 rfl)
   exact sv (.pointer (some ⟨w.heap.size, 0, none⟩))
  refine ⟨?_, ?_⟩
  ·intro vs W hW hd
   have e33 : (fr vs).tmps[33]?.getD undef = .pointer (some ⟨w.heap.size, 0, none⟩) := (hfr.out vs 33).trans (by show vs 2 = _; exact hd.1 rfl)
   have kl0 := later_of hW l0
   exact sv (.string (wd L 0))
  refine ⟨?_, ?_⟩
  ·intro vs W hW hd
   obtain ⟨bm, k1, k2, hv31, hfm⟩ := hd.1 rfl
   have e31 : (fr vs).tmps[31]?.getD undef = .map (some bm) := (hfr.out vs 31).trans (by show vs 0 = _; exact hv31)
   have e34 : (fr vs).tmps[34]?.getD undef = .string (wd L 0) := (hfr.out vs 34).trans (by show vs 3 = _; exact hd.2.1 rfl)
   have hlk : (Instr.lookup 112 (.map (some bm)) (.string (wd L 0)) true).run Tryz.prog W = _ := hfm.look (wd L 0)
   have hfi := fnIs_of hfm (wd L 0)
   rw [hfi.2] at hlk
   exact step_val _ (W' := W) (by simp only [execOp]; go_simp) ⟨_, rfl, ⟨_, rfl, hfi.1⟩, Below.refl _ _⟩
  refine ⟨?_, ?_⟩
  ·intro vs W hW hd
   obtain ⟨g, hv35, hg⟩ := hd.1 rfl
   have e35 : (fr vs).tmps[35]?.getD undef = .tuple #[g, .bool (isForm (wd L 0))] := (hfr.out vs 35).trans (by show vs 4 = _; exact hv35)
   exact step_val (.tuple #[g, .bool (isForm (wd L 0))]) (W' := W) (by simp only [execOp]; go_simp) ⟨_, rfl, ⟨_, rfl, hg⟩, Below.refl _ _⟩
  refine ⟨?_, ?_⟩
  ·intro vs W hW hd
   obtain ⟨g, hv30, hg⟩ := hd.1 rfl
   have e30 : (fr vs).tmps[30]?.getD undef = .tuple #[g, .bool (isForm (wd L 0))] := (hfr.out vs 30).trans (by show vs 5 = _; exact hv30)
   exact step_val (g) (W' := W) (by simp only [execOp]; go_simp) ⟨_, rfl, hg, Below.refl _ _⟩
  refine ⟨?_, ?_⟩
  ·intro vs W hW hd
   obtain ⟨g, hv30, hg⟩ := hd.1 rfl
   have e30 : (fr vs).tmps[30]?.getD undef = .tuple #[g, .bool (isForm (wd L 0))] := (hfr.out vs 30).trans (by show vs 5 = _; exact hv30)
   exact sv (.bool (isForm (wd L 0)))
  refine ⟨?_, ?_⟩
  ·intro vs W hW hd
   have hg := hd.1 rfl
   have e36 : (fr vs).tmps[36]?.getD undef = vs 6 := (hfr.out vs 36).trans rfl
   exact step_val (vs 6) (W' := W) (by simp only [execOp]; go_simp) ⟨_, rfl, hg, Below.refl _ _⟩
  trivial
 case htail =>
  intro vs V hW hv
  have hg8 : FnIs (wd L 0) (vs 8) V := hv.2.2.2.2.2.2.2.2.1
  obtain ⟨g8, v8⟩ : ∃ g, vs 8 = g := ⟨_, rfl⟩
  rw [v8] at hg8
  have v7 : vs 7 = .bool (isForm (wd L 0)) := hv.2.2.2.2.2.2.2.1
  clear hv
  simp only [List.take_succ_cons, List.take_zero, List.drop_succ_cons, List.drop_zero, frameV, Act.put, List.setIfInBounds_toArray, List.set_cons_zero, List.set_cons_succ, v7, v8]
  have hbw := bthen hb0 hW
  replace fcb := later_off hW cb fcb
  replace cb := later_of hW cb
  clear hb0 hW
  have hb0 := hbw
  clear hg8
  go_wp2_with fail
  refine (c_unless_f _ _).mono ?_
  rintro e w2 ⟨rfl, rfl⟩
  go_wp2
  exact ⟨rfl, HR.out _ hb0⟩
theorem c_ParseIn_heaf (m : Fm) (s : ByteArray) (b : Bool) (ps pb pf base : Nat) (w : World) (h : ParseAt m s b ps pb pf base w) (L : List ByteArray) (hL : wordsB s = L) (hw : ¬ wd L 0 = wFell) (hb1 : b = true) (h1 : wd L 0 = wHeaf) :
  Calls Tryz.prog 88 #[.pointer (some ⟨ps, 0, none⟩), .pointer (some ⟨pb, 0, none⟩), .pointer (some ⟨pf, 0, none⟩)] w (ParseOut m pb pf base w (parseLine m.f b L)) := by
 have hSp := c_Split 32 s w h.lib h.size
 rw [show piecesC 32 s = L from hL] at hSp
 have HSp := Lib.hid hSp
 have hlen := len_bd hL h.size
 have HZ := Lib.hid (wd_size hL h.size)
 have HL := Lib.hid h.lib
 have HP := Lib.hid h.st
 have cs := h.cs
 have cb := h.cb
 have fcb := h.fb
 have hl1 := h.l1
 have hl2 := h.l2
 have hbase := h.bs
 have ne1 := h.n1
 have hpb := h.n2
 have zb := cell_lt cb
 have hpr : parseLine m.f b L = placeE m.f 1 L := by
  unfold parseLine placeE
  rw [if_neg hw, if_neg (by rw [hb1]; decide), if_pos (.inl h1)]
  simp [h1]
 have HPR := Lib.hid hpr.symm
 clear hpr
 have hq : ((wd L 0).toList == [102, 101, 108, 108]) = false := beq_eq_false_iff_ne.2 (fun e => hw (tl_inj (e.trans (by unfold wFell; simp))))
 subst hb1
 have hif : isForm (wd L 0) = true := by unfold isForm; simp [h1]
 have HW := Lib.hid h1
 clear hw h1
 clear hSp h hL
 go_enter Tryz.func88, Tryz.ntmps88
 go_wp2_with fail
 refine HSp.out.mono ?_
 rintro e W1 ⟨rfl, hst, hB⟩
 have l0 := strs_cell hst hlen.1
 replace fcb := later_off hB cb fcb
 replace cs := later_of hB cs
 replace cb := later_of hB cb
 have hb0 := hB
 have HST := Lib.hid hst
 clear hB HSp hst
 go_upto_region 4 with (fail)
 refine wp_region_assert 9 W1 (fun i => ([Stays.map, Stays.val (.slice (some ⟨w.heap.size, 0, none⟩) L.length L.length), Stays.val (.pointer (some ⟨w.heap.size, 0, none⟩)), Stays.val (.string (wd L 0)), Stays.fn2 (wd L 0), Stays.fn2 (wd L 0), Stays.fn (wd L 0), Stays.val (.bool (isForm (wd L 0))), Stays.fn (wd L 0)] : List Stays)[i]?.getD Stays.any) (by kernel_rfl) (by kernel_rfl) (by kernel_rfl) (Below.refl _ _) ?hstep ?htail
 case hstep =>
  intro fr hfr hfd
  simp only [List.take_succ_cons, List.take_zero] at hfr ⊢
  refine ⟨?_, ?_⟩
  ·intro vs W hW hd
   exact step_call (R := fun v w' => Stays.map.p v w' ∧ Below W.heap.size W w') (f := 91) (args := #[]) (W' := W) (by simp only [execOp]; go_simp) ((c_forms W).mono fun e w' ⟨⟨b, k1, k2, h1, h2⟩, h3⟩ => ⟨_, h1, ⟨b, k1, k2, rfl, h2⟩, h3⟩) fun v w' h => ⟨v, rfl, h⟩
  refine ⟨?_, ?_⟩
  ·intro vs W hW hd
   have e3 : (fr vs).tmps[3]?.getD undef = .slice (some ⟨w.heap.size, 0, none⟩) L.length L.length := (hfr.out vs 3).trans rfl
   exact sv (.slice (some ⟨w.heap.size, 0, none⟩) L.length L.length)
  refine ⟨?_, ?_⟩
  ·intro vs W hW hd
   have e32 : (fr vs).tmps[32]?.getD undef = .slice (some ⟨w.heap.size, 0, none⟩) L.length L.length := (hfr.out vs 32).trans (by show vs 1 = _; exact hd.1 rfl)
   exact sv (.pointer (some ⟨w.heap.size, 0, none⟩))
  refine ⟨?_, ?_⟩
  ·intro vs W hW hd
   have e33 : (fr vs).tmps[33]?.getD undef = .pointer (some ⟨w.heap.size, 0, none⟩) := (hfr.out vs 33).trans (by show vs 2 = _; exact hd.1 rfl)
   have kl0 := later_of hW l0
   exact sv (.string (wd L 0))
  refine ⟨?_, ?_⟩
  ·intro vs W hW hd
   obtain ⟨bm, k1, k2, hv31, hfm⟩ := hd.1 rfl
   have e31 : (fr vs).tmps[31]?.getD undef = .map (some bm) := (hfr.out vs 31).trans (by show vs 0 = _; exact hv31)
   have e34 : (fr vs).tmps[34]?.getD undef = .string (wd L 0) := (hfr.out vs 34).trans (by show vs 3 = _; exact hd.2.1 rfl)
   have hlk : (Instr.lookup 112 (.map (some bm)) (.string (wd L 0)) true).run Tryz.prog W = _ := hfm.look (wd L 0)
   have hfi := fnIs_of hfm (wd L 0)
   rw [hfi.2] at hlk
   exact step_val _ (W' := W) (by simp only [execOp]; go_simp) ⟨_, rfl, ⟨_, rfl, hfi.1⟩, Below.refl _ _⟩
  refine ⟨?_, ?_⟩
  ·intro vs W hW hd
   obtain ⟨g, hv35, hg⟩ := hd.1 rfl
   have e35 : (fr vs).tmps[35]?.getD undef = .tuple #[g, .bool (isForm (wd L 0))] := (hfr.out vs 35).trans (by show vs 4 = _; exact hv35)
   exact step_val (.tuple #[g, .bool (isForm (wd L 0))]) (W' := W) (by simp only [execOp]; go_simp) ⟨_, rfl, ⟨_, rfl, hg⟩, Below.refl _ _⟩
  refine ⟨?_, ?_⟩
  ·intro vs W hW hd
   obtain ⟨g, hv30, hg⟩ := hd.1 rfl
   have e30 : (fr vs).tmps[30]?.getD undef = .tuple #[g, .bool (isForm (wd L 0))] := (hfr.out vs 30).trans (by show vs 5 = _; exact hv30)
   exact step_val (g) (W' := W) (by simp only [execOp]; go_simp) ⟨_, rfl, hg, Below.refl _ _⟩
  refine ⟨?_, ?_⟩
  ·intro vs W hW hd
   obtain ⟨g, hv30, hg⟩ := hd.1 rfl
   have e30 : (fr vs).tmps[30]?.getD undef = .tuple #[g, .bool (isForm (wd L 0))] := (hfr.out vs 30).trans (by show vs 5 = _; exact hv30)
   exact sv (.bool (isForm (wd L 0)))
  refine ⟨?_, ?_⟩
  ·intro vs W hW hd
   have hg := hd.1 rfl
   have e36 : (fr vs).tmps[36]?.getD undef = vs 6 := (hfr.out vs 36).trans rfl
   exact step_val (vs 6) (W' := W) (by simp only [execOp]; go_simp) ⟨_, rfl, hg, Below.refl _ _⟩
  trivial
 case htail =>
  intro vs V hW hv
  have hg8 : FnIs (wd L 0) (vs 8) V := hv.2.2.2.2.2.2.2.2.1
  obtain ⟨g8, v8⟩ : ∃ g, vs 8 = g := ⟨_, rfl⟩
  rw [v8] at hg8
  have v7 : vs 7 = .bool (isForm (wd L 0)) := hv.2.2.2.2.2.2.2.1
  clear hv
  simp only [List.take_succ_cons, List.take_zero, List.drop_succ_cons, List.drop_zero, frameV, Act.put, List.setIfInBounds_toArray, List.set_cons_zero, List.set_cons_succ, v7, v8]
  have hbw := bthen hb0 hW
  replace fcb := later_off hW cb fcb
  replace cb := later_of hW cb
  rcases hg8 with ⟨_, k, rfl, hk⟩ | ⟨h2, _⟩ | ⟨h2, _⟩ | ⟨⟨h2, _⟩, _⟩
  rotate_left
  ·exact absurd (HW.out.symm.trans h2) (by decide)
  ·exact absurd (HW.out.symm.trans h2) (by decide)
  ·exact absurd HW.out h2
  unfold fnPlace
  have zpf := hbw.size
  have HN : Hid (¬ m.own pf pb) := Lib.hid (fun h => by
   rcases h with h | h | h
   ·exact ne1 h
   ·have := (HP.out.pl.lt pb h).1; omega
   ·have := (HP.out.gt.lt pb h).1; omega)
  have HIN : Hid (FormIn m L w.heap.size pf base V) := Lib.hid ⟨HP.out.later hbw, HST.out.later hW, hl1, hl2, by omega, HL.out.later hbw, HZ.out⟩
  go_wp2_with fail
  refine (c_unless_t _ _).mono ?_
  rintro e w2 ⟨rfl, rfl⟩
  go_wp2_with fail
  refine (c_formPlace m L w.heap.size pf base V k 1 hk HIN.out).mono ?_
  intro e w9 hout
  have HO := Lib.hid (HPR.out ▸ ParseOut.form hout hbw cb fcb HN.out)
  have he := hout.1
  clear hout hbw cb fcb hb0 hW hk
  by_cases h0 : (placeE m.f 1 L).2 = 0
  ·rw [h0] at he
   subst he
   rw [endV_0] at HO ⊢
   dsimp only
   go_wp2
   go_end0
   exact HO.out
  ·rw [endV_no h0] at he
   subst he
   dsimp only
   go_wp2
   exact ⟨rfl, HO.out⟩
theorem c_ParseIn_fold (m : Fm) (s : ByteArray) (b : Bool) (ps pb pf base : Nat) (w : World) (h : ParseAt m s b ps pb pf base w) (L : List ByteArray) (hL : wordsB s = L) (hw : ¬ wd L 0 = wFell) (hb1 : b = true) (h1 : wd L 0 = wFold) :
  Calls Tryz.prog 88 #[.pointer (some ⟨ps, 0, none⟩), .pointer (some ⟨pb, 0, none⟩), .pointer (some ⟨pf, 0, none⟩)] w (ParseOut m pb pf base w (parseLine m.f b L)) := by
 have hSp := c_Split 32 s w h.lib h.size
 rw [show piecesC 32 s = L from hL] at hSp
 have HSp := Lib.hid hSp
 have hlen := len_bd hL h.size
 have HZ := Lib.hid (wd_size hL h.size)
 have HL := Lib.hid h.lib
 have HP := Lib.hid h.st
 have cs := h.cs
 have cb := h.cb
 have fcb := h.fb
 have hl1 := h.l1
 have hl2 := h.l2
 have hbase := h.bs
 have ne1 := h.n1
 have hpb := h.n2
 have zb := cell_lt cb
 have hpr : parseLine m.f b L = placeE m.f 2 L := by
  unfold parseLine placeE
  rw [if_neg hw, if_neg (by rw [hb1]; decide), if_pos (.inr h1)]
  simp [h1, wFold_ne]
 have HPR := Lib.hid hpr.symm
 clear hpr
 have hq : ((wd L 0).toList == [102, 101, 108, 108]) = false := beq_eq_false_iff_ne.2 (fun e => hw (tl_inj (e.trans (by unfold wFell; simp))))
 subst hb1
 have hif : isForm (wd L 0) = true := by unfold isForm; simp [h1]
 have HW := Lib.hid h1
 clear hw h1
 clear hSp h hL
 go_enter Tryz.func88, Tryz.ntmps88
 go_wp2_with fail
 refine HSp.out.mono ?_
 rintro e W1 ⟨rfl, hst, hB⟩
 have l0 := strs_cell hst hlen.1
 replace fcb := later_off hB cb fcb
 replace cs := later_of hB cs
 replace cb := later_of hB cb
 have hb0 := hB
 have HST := Lib.hid hst
 clear hB HSp hst
 go_upto_region 4 with (fail)
 refine wp_region_assert 9 W1 (fun i => ([Stays.map, Stays.val (.slice (some ⟨w.heap.size, 0, none⟩) L.length L.length), Stays.val (.pointer (some ⟨w.heap.size, 0, none⟩)), Stays.val (.string (wd L 0)), Stays.fn2 (wd L 0), Stays.fn2 (wd L 0), Stays.fn (wd L 0), Stays.val (.bool (isForm (wd L 0))), Stays.fn (wd L 0)] : List Stays)[i]?.getD Stays.any) (by kernel_rfl) (by kernel_rfl) (by kernel_rfl) (Below.refl _ _) ?hstep ?htail
 case hstep =>
  intro fr hfr hfd
  simp only [List.take_succ_cons, List.take_zero] at hfr ⊢
  refine ⟨?_, ?_⟩
  ·intro vs W hW hd
   exact step_call (R := fun v w' => Stays.map.p v w' ∧ Below W.heap.size W w') (f := 91) (args := #[]) (W' := W) (by simp only [execOp]; go_simp) ((c_forms W).mono fun e w' ⟨⟨b, k1, k2, h1, h2⟩, h3⟩ => ⟨_, h1, ⟨b, k1, k2, rfl, h2⟩, h3⟩) fun v w' h => ⟨v, rfl, h⟩
  refine ⟨?_, ?_⟩
  ·intro vs W hW hd
   have e3 : (fr vs).tmps[3]?.getD undef = .slice (some ⟨w.heap.size, 0, none⟩) L.length L.length := (hfr.out vs 3).trans rfl
   exact sv (.slice (some ⟨w.heap.size, 0, none⟩) L.length L.length)
  refine ⟨?_, ?_⟩
  ·intro vs W hW hd
   have e32 : (fr vs).tmps[32]?.getD undef = .slice (some ⟨w.heap.size, 0, none⟩) L.length L.length := (hfr.out vs 32).trans (by show vs 1 = _; exact hd.1 rfl)
   exact sv (.pointer (some ⟨w.heap.size, 0, none⟩))
  refine ⟨?_, ?_⟩
  ·intro vs W hW hd
   have e33 : (fr vs).tmps[33]?.getD undef = .pointer (some ⟨w.heap.size, 0, none⟩) := (hfr.out vs 33).trans (by show vs 2 = _; exact hd.1 rfl)
   have kl0 := later_of hW l0
   exact sv (.string (wd L 0))
  refine ⟨?_, ?_⟩
  ·intro vs W hW hd
   obtain ⟨bm, k1, k2, hv31, hfm⟩ := hd.1 rfl
   have e31 : (fr vs).tmps[31]?.getD undef = .map (some bm) := (hfr.out vs 31).trans (by show vs 0 = _; exact hv31)
   have e34 : (fr vs).tmps[34]?.getD undef = .string (wd L 0) := (hfr.out vs 34).trans (by show vs 3 = _; exact hd.2.1 rfl)
   have hlk : (Instr.lookup 112 (.map (some bm)) (.string (wd L 0)) true).run Tryz.prog W = _ := hfm.look (wd L 0)
   have hfi := fnIs_of hfm (wd L 0)
   rw [hfi.2] at hlk
   exact step_val _ (W' := W) (by simp only [execOp]; go_simp) ⟨_, rfl, ⟨_, rfl, hfi.1⟩, Below.refl _ _⟩
  refine ⟨?_, ?_⟩
  ·intro vs W hW hd
   obtain ⟨g, hv35, hg⟩ := hd.1 rfl
   have e35 : (fr vs).tmps[35]?.getD undef = .tuple #[g, .bool (isForm (wd L 0))] := (hfr.out vs 35).trans (by show vs 4 = _; exact hv35)
   exact step_val (.tuple #[g, .bool (isForm (wd L 0))]) (W' := W) (by simp only [execOp]; go_simp) ⟨_, rfl, ⟨_, rfl, hg⟩, Below.refl _ _⟩
  refine ⟨?_, ?_⟩
  ·intro vs W hW hd
   obtain ⟨g, hv30, hg⟩ := hd.1 rfl
   have e30 : (fr vs).tmps[30]?.getD undef = .tuple #[g, .bool (isForm (wd L 0))] := (hfr.out vs 30).trans (by show vs 5 = _; exact hv30)
   exact step_val (g) (W' := W) (by simp only [execOp]; go_simp) ⟨_, rfl, hg, Below.refl _ _⟩
  refine ⟨?_, ?_⟩
  ·intro vs W hW hd
   obtain ⟨g, hv30, hg⟩ := hd.1 rfl
   have e30 : (fr vs).tmps[30]?.getD undef = .tuple #[g, .bool (isForm (wd L 0))] := (hfr.out vs 30).trans (by show vs 5 = _; exact hv30)
   exact sv (.bool (isForm (wd L 0)))
  refine ⟨?_, ?_⟩
  ·intro vs W hW hd
   have hg := hd.1 rfl
   have e36 : (fr vs).tmps[36]?.getD undef = vs 6 := (hfr.out vs 36).trans rfl
   exact step_val (vs 6) (W' := W) (by simp only [execOp]; go_simp) ⟨_, rfl, hg, Below.refl _ _⟩
  trivial
 case htail =>
  intro vs V hW hv
  have hg8 : FnIs (wd L 0) (vs 8) V := hv.2.2.2.2.2.2.2.2.1
  obtain ⟨g8, v8⟩ : ∃ g, vs 8 = g := ⟨_, rfl⟩
  rw [v8] at hg8
  have v7 : vs 7 = .bool (isForm (wd L 0)) := hv.2.2.2.2.2.2.2.1
  clear hv
  simp only [List.take_succ_cons, List.take_zero, List.drop_succ_cons, List.drop_zero, frameV, Act.put, List.setIfInBounds_toArray, List.set_cons_zero, List.set_cons_succ, v7, v8]
  have hbw := bthen hb0 hW
  replace fcb := later_off hW cb fcb
  replace cb := later_of hW cb
  rcases hg8 with ⟨h2, _⟩ | ⟨_, k, rfl, hk⟩ | ⟨h2, _⟩ | ⟨⟨_, h2, _⟩, _⟩
  ·exact absurd (HW.out.symm.trans h2) (by decide)
  rotate_left
  ·exact absurd (HW.out.symm.trans h2) (by decide)
  ·exact absurd HW.out h2
  unfold fnPlace
  have zpf := hbw.size
  have HN : Hid (¬ m.own pf pb) := Lib.hid (fun h => by
   rcases h with h | h | h
   ·exact ne1 h
   ·have := (HP.out.pl.lt pb h).1; omega
   ·have := (HP.out.gt.lt pb h).1; omega)
  have HIN : Hid (FormIn m L w.heap.size pf base V) := Lib.hid ⟨HP.out.later hbw, HST.out.later hW, hl1, hl2, by omega, HL.out.later hbw, HZ.out⟩
  go_wp2_with fail
  refine (c_unless_t _ _).mono ?_
  rintro e w2 ⟨rfl, rfl⟩
  go_wp2_with fail
  refine (c_formPlace m L w.heap.size pf base V k 2 hk HIN.out).mono ?_
  intro e w9 hout
  have HO := Lib.hid (HPR.out ▸ ParseOut.form hout hbw cb fcb HN.out)
  have he := hout.1
  clear hout hbw cb fcb hb0 hW hk
  by_cases h0 : (placeE m.f 2 L).2 = 0
  ·rw [h0] at he
   subst he
   rw [endV_0] at HO ⊢
   dsimp only
   go_wp2
   go_end0
   exact HO.out
  ·rw [endV_no h0] at he
   subst he
   dsimp only
   go_wp2
   exact ⟨rfl, HO.out⟩
theorem c_ParseIn_gate (m : Fm) (s : ByteArray) (b : Bool) (ps pb pf base : Nat) (w : World) (h : ParseAt m s b ps pb pf base w) (L : List ByteArray) (hL : wordsB s = L) (hw : ¬ wd L 0 = wFell) (hb1 : b = true) (h1 : wd L 0 = wGate) :
  Calls Tryz.prog 88 #[.pointer (some ⟨ps, 0, none⟩), .pointer (some ⟨pb, 0, none⟩), .pointer (some ⟨pf, 0, none⟩)] w (ParseOut m pb pf base w (parseLine m.f b L)) := by
 have hSp := c_Split 32 s w h.lib h.size
 rw [show piecesC 32 s = L from hL] at hSp
 have HSp := Lib.hid hSp
 have hlen := len_bd hL h.size
 have HZ := Lib.hid (wd_size hL h.size)
 have HL := Lib.hid h.lib
 have HP := Lib.hid h.st
 have cs := h.cs
 have cb := h.cb
 have fcb := h.fb
 have hl1 := h.l1
 have hl2 := h.l2
 have hbase := h.bs
 have ne1 := h.n1
 have hpb := h.n2
 have zb := cell_lt cb
 have hpr : parseLine m.f b L = gateE m.f L := by
  unfold parseLine gateE
  rw [if_neg hw, if_neg (by rw [hb1]; decide), if_neg (fun h => h.elim (fun h => absurd (h1.symm.trans h) (by decide)) (fun h => absurd (h1.symm.trans h) (by decide))), if_pos h1]
  rfl
 have HPR := Lib.hid hpr.symm
 clear hpr
 have hq : ((wd L 0).toList == [102, 101, 108, 108]) = false := beq_eq_false_iff_ne.2 (fun e => hw (tl_inj (e.trans (by unfold wFell; simp))))
 subst hb1
 have hif : isForm (wd L 0) = true := by unfold isForm; simp [h1]
 have HW := Lib.hid h1
 clear hw h1
 clear hSp h hL
 go_enter Tryz.func88, Tryz.ntmps88
 go_wp2_with fail
 refine HSp.out.mono ?_
 rintro e W1 ⟨rfl, hst, hB⟩
 have l0 := strs_cell hst hlen.1
 replace fcb := later_off hB cb fcb
 replace cs := later_of hB cs
 replace cb := later_of hB cb
 have hb0 := hB
 have HST := Lib.hid hst
 clear hB HSp hst
 go_upto_region 4 with (fail)
 refine wp_region_assert 9 W1 (fun i => ([Stays.map, Stays.val (.slice (some ⟨w.heap.size, 0, none⟩) L.length L.length), Stays.val (.pointer (some ⟨w.heap.size, 0, none⟩)), Stays.val (.string (wd L 0)), Stays.fn2 (wd L 0), Stays.fn2 (wd L 0), Stays.fn (wd L 0), Stays.val (.bool (isForm (wd L 0))), Stays.fn (wd L 0)] : List Stays)[i]?.getD Stays.any) (by kernel_rfl) (by kernel_rfl) (by kernel_rfl) (Below.refl _ _) ?hstep ?htail
 case hstep =>
  intro fr hfr hfd
  simp only [List.take_succ_cons, List.take_zero] at hfr ⊢
  refine ⟨?_, ?_⟩
  ·intro vs W hW hd
   exact step_call (R := fun v w' => Stays.map.p v w' ∧ Below W.heap.size W w') (f := 91) (args := #[]) (W' := W) (by simp only [execOp]; go_simp) ((c_forms W).mono fun e w' ⟨⟨b, k1, k2, h1, h2⟩, h3⟩ => ⟨_, h1, ⟨b, k1, k2, rfl, h2⟩, h3⟩) fun v w' h => ⟨v, rfl, h⟩
  refine ⟨?_, ?_⟩
  ·intro vs W hW hd
   have e3 : (fr vs).tmps[3]?.getD undef = .slice (some ⟨w.heap.size, 0, none⟩) L.length L.length := (hfr.out vs 3).trans rfl
   exact sv (.slice (some ⟨w.heap.size, 0, none⟩) L.length L.length)
  refine ⟨?_, ?_⟩
  ·intro vs W hW hd
   have e32 : (fr vs).tmps[32]?.getD undef = .slice (some ⟨w.heap.size, 0, none⟩) L.length L.length := (hfr.out vs 32).trans (by show vs 1 = _; exact hd.1 rfl)
   exact sv (.pointer (some ⟨w.heap.size, 0, none⟩))
  refine ⟨?_, ?_⟩
  ·intro vs W hW hd
   have e33 : (fr vs).tmps[33]?.getD undef = .pointer (some ⟨w.heap.size, 0, none⟩) := (hfr.out vs 33).trans (by show vs 2 = _; exact hd.1 rfl)
   have kl0 := later_of hW l0
   exact sv (.string (wd L 0))
  refine ⟨?_, ?_⟩
  ·intro vs W hW hd
   obtain ⟨bm, k1, k2, hv31, hfm⟩ := hd.1 rfl
   have e31 : (fr vs).tmps[31]?.getD undef = .map (some bm) := (hfr.out vs 31).trans (by show vs 0 = _; exact hv31)
   have e34 : (fr vs).tmps[34]?.getD undef = .string (wd L 0) := (hfr.out vs 34).trans (by show vs 3 = _; exact hd.2.1 rfl)
   have hlk : (Instr.lookup 112 (.map (some bm)) (.string (wd L 0)) true).run Tryz.prog W = _ := hfm.look (wd L 0)
   have hfi := fnIs_of hfm (wd L 0)
   rw [hfi.2] at hlk
   exact step_val _ (W' := W) (by simp only [execOp]; go_simp) ⟨_, rfl, ⟨_, rfl, hfi.1⟩, Below.refl _ _⟩
  refine ⟨?_, ?_⟩
  ·intro vs W hW hd
   obtain ⟨g, hv35, hg⟩ := hd.1 rfl
   have e35 : (fr vs).tmps[35]?.getD undef = .tuple #[g, .bool (isForm (wd L 0))] := (hfr.out vs 35).trans (by show vs 4 = _; exact hv35)
   exact step_val (.tuple #[g, .bool (isForm (wd L 0))]) (W' := W) (by simp only [execOp]; go_simp) ⟨_, rfl, ⟨_, rfl, hg⟩, Below.refl _ _⟩
  refine ⟨?_, ?_⟩
  ·intro vs W hW hd
   obtain ⟨g, hv30, hg⟩ := hd.1 rfl
   have e30 : (fr vs).tmps[30]?.getD undef = .tuple #[g, .bool (isForm (wd L 0))] := (hfr.out vs 30).trans (by show vs 5 = _; exact hv30)
   exact step_val (g) (W' := W) (by simp only [execOp]; go_simp) ⟨_, rfl, hg, Below.refl _ _⟩
  refine ⟨?_, ?_⟩
  ·intro vs W hW hd
   obtain ⟨g, hv30, hg⟩ := hd.1 rfl
   have e30 : (fr vs).tmps[30]?.getD undef = .tuple #[g, .bool (isForm (wd L 0))] := (hfr.out vs 30).trans (by show vs 5 = _; exact hv30)
   exact sv (.bool (isForm (wd L 0)))
  refine ⟨?_, ?_⟩
  ·intro vs W hW hd
   have hg := hd.1 rfl
   have e36 : (fr vs).tmps[36]?.getD undef = vs 6 := (hfr.out vs 36).trans rfl
   exact step_val (vs 6) (W' := W) (by simp only [execOp]; go_simp) ⟨_, rfl, hg, Below.refl _ _⟩
  trivial
 case htail =>
  intro vs V hW hv
  have hg8 : FnIs (wd L 0) (vs 8) V := hv.2.2.2.2.2.2.2.2.1
  obtain ⟨g8, v8⟩ : ∃ g, vs 8 = g := ⟨_, rfl⟩
  rw [v8] at hg8
  have v7 : vs 7 = .bool (isForm (wd L 0)) := hv.2.2.2.2.2.2.2.1
  clear hv
  simp only [List.take_succ_cons, List.take_zero, List.drop_succ_cons, List.drop_zero, frameV, Act.put, List.setIfInBounds_toArray, List.set_cons_zero, List.set_cons_succ, v7, v8]
  have hbw := bthen hb0 hW
  replace fcb := later_off hW cb fcb
  replace cb := later_of hW cb
  rcases hg8 with ⟨h2, _⟩ | ⟨h2, _⟩ | ⟨_, rfl⟩ | ⟨⟨_, _, h2⟩, _⟩
  ·exact absurd (HW.out.symm.trans h2) (by decide)
  ·exact absurd (HW.out.symm.trans h2) (by decide)
  rotate_left
  ·exact absurd HW.out h2
  unfold fnGate
  have zpf := hbw.size
  have HN : Hid (¬ m.own pf pb) := Lib.hid (fun h => by
   rcases h with h | h | h
   ·exact ne1 h
   ·have := (HP.out.pl.lt pb h).1; omega
   ·have := (HP.out.gt.lt pb h).1; omega)
  have HIN : Hid (FormIn m L w.heap.size pf base V) := Lib.hid ⟨HP.out.later hbw, HST.out.later hW, hl1, hl2, by omega, HL.out.later hbw, HZ.out⟩
  go_wp2_with fail
  refine (c_unless_t _ _).mono ?_
  rintro e w2 ⟨rfl, rfl⟩
  go_wp2_with fail
  refine (c_formGate m L w.heap.size pf base V HIN.out).mono ?_
  intro e w9 hout
  have HO := Lib.hid (HPR.out ▸ ParseOut.form hout hbw cb fcb HN.out)
  have he := hout.1
  clear hout hbw cb fcb hb0 hW
  by_cases h0 : (gateE m.f L).2 = 0
  ·rw [h0] at he
   subst he
   rw [endV_0] at HO ⊢
   dsimp only
   go_wp2
   go_end0
   exact HO.out
  ·rw [endV_no h0] at he
   subst he
   dsimp only
   go_wp2
   exact ⟨rfl, HO.out⟩
theorem c_ParseIn (m : Fm) (s : ByteArray) (b : Bool) (ps pb pf base : Nat) (w : World) (h : ParseAt m s b ps pb pf base w) :
  Calls Tryz.prog 88 #[.pointer (some ⟨ps, 0, none⟩), .pointer (some ⟨pb, 0, none⟩), .pointer (some ⟨pf, 0, none⟩)] w (ParseOut m pb pf base w (parseLine m.f b (wordsB s))) := by
 obtain ⟨L, hL⟩ : ∃ L, wordsB s = L := ⟨_, rfl⟩
 rw [hL]
 by_cases hw : wd L 0 = wFell
 ·cases b with
  | true => exact c_ParseIn_begun m s true ps pb pf base w h L hL hw rfl
  | false =>
   by_cases hn : L.length = 3
   ·exact c_ParseIn_fell m s false ps pb pf base w h L hL hw rfl hn
   ·exact c_ParseIn_flen m s false ps pb pf base w h L hL hw rfl hn
 ·cases b with
  | false => exact c_ParseIn_not m s false ps pb pf base w h L hL hw rfl
  | true =>
   by_cases h1 : wd L 0 = wHeaf
   ·exact c_ParseIn_heaf m s true ps pb pf base w h L hL hw rfl h1
   by_cases h2 : wd L 0 = wFold
   ·exact c_ParseIn_fold m s true ps pb pf base w h L hL hw rfl h2
   by_cases h3 : wd L 0 = wGate
   ·exact c_ParseIn_gate m s true ps pb pf base w h L hL hw rfl h3
   ·exact c_ParseIn_none m s true ps pb pf base w h L hL hw rfl h1 h2 h3
end Go.Proofs.YtlppdgaogdpajaaGreatDoor
