/- This text is a part of the proof: Arcs. -/
import Derived.Test.YtlppdgaogdpajaaGreatDoorK15
namespace Go.Proofs.YtlppdgaogdpajaaGreatDoor
open Go.RowKit Go.Shelf
attribute [local go_sem] Oper.semAt_some
def Words (w0 : World) (k nm : ByteArray) (u : Value) (W : World) : Prop := ∃ b, u = .slice (some ⟨b, 0, none⟩) 2 2 ∧ w0.heap.size ≤ b ∧ W.heap[b]? = some (.cells #[.string k, .string nm] 9 (0, 0)) ∧ Below w0.heap.size w0 W
theorem words_later {w0 : World} {k nm : ByteArray} {u : Value} {W W' : World} (h : Words w0 k nm u W) (hb : Below W.heap.size W W') : Words w0 k nm u W' := by
 obtain ⟨b, rfl, h1, h2, h3⟩ := h
 exact ⟨b, rfl, h1, (hb.block b (Array.getElem?_eq_some_iff.1 h2).1).trans h2, bthen h3 hb⟩
theorem words_made {w0 : World} (k nm : ByteArray) {W : World} (h : Below w0.heap.size w0 W) : Words w0 k nm (.slice (some ⟨W.heap.size, 0, none⟩) 2 2) (W.alloc (.cells #[.string k, .string nm] 9)) :=
 ⟨W.heap.size, rfl, h.size, World.alloc_heap_new W _, by have hz := h.size; go_grown⟩
set_option maxRecDepth 100000 in
set_option maxHeartbeats 40000000 in
theorem iter_arcs (m : Fm) (hr : Right m.f) (Bs : Nat) (mine : Nat → Prop) (w : World) (hmlt : ∀ k, mine k → k < w.heap.size) (hms : mine Bs)
  (hpa : m.f.places ≠ [] → ∀ b o, m.pa = some ⟨b, o, none⟩ → mine b) (hga : m.f.gates ≠ [] → ∀ b o, m.ga = some ⟨b, o, none⟩ → mine b) (hc : CellsAt w Bs 0 (feC m)) (hm : m.In w) :
  IterE 192 #[.pointer (some ⟨Bs, 0, none⟩)] EWy (waysL m.f) mine w := by
 intro lp J Jx W O0 hW hJ hJx hJlt hO0 hY h0
 have hcW := hc.later hW
 have hmW := hm.later hW
 have hmltW : ∀ k, mine k → k < W.heap.size := fun k hk => Nat.lt_of_lt_of_le (hmlt k hk) hW.size
 obtain ⟨By, hBy⟩ : ∃ By, W.heap.size = By := ⟨_, rfl⟩
 have hP := fun (X : Nat → Prop) (pre : List Wy) (y : Wy) (A : World) (b : Nat) => ra_put (lp := lp) (Bm := By + 1) (By := By) (mine := mine) (W := W) (X := X) (pre := pre) hJ hJx hJlt (by omega) (by omega) hmltW hY y (A := A) (b := b)
 obtain ⟨q0, q1, q2, q3⟩ := fe_cells hcW
 have hs := hr.small
 have hsP := hs.p8
 have hsG := hs.g12
 have hsT := hs.t0
 have hsT2 := hs.t24
 have hnf := fun (p t : Int) W => c_node_f m p t W hs.p8
 have hnt := fun (p t : Int) W => c_node_t m p t W hs.p8
 have hmf : ∀ (fn : Fn) (first cap : Array Value) (w : World), (Instr.makeFunc fn first cap).run Tryz.prog w = .ok (.func fn first cap) w := fun _ _ _ _ => rfl
 have HP := Lib.hid hP
 have HNF := Lib.hid hnf
 have HNT := Lib.hid hnt
 have HM := Lib.hid hmW
 have HC := Lib.hid hcW
 have HR := Lib.hid hr
 have HJ := Lib.hid hJ
 have HJX := Lib.hid hJx
 have HLT := Lib.hid hmltW
 have HPA := Lib.hid hpa
 have HGA := Lib.hid hga
 have hbs := HLT.out _ hms
 have HMS := Lib.hid hms
 have h0f : ∀ k, O0 k → k < W.heap.size := hJlt _ _ _ h0
 have HO0 := Lib.hid hO0
 have H0F := Lib.hid h0f
 have H0 := Lib.hid h0
 clear hP hnf hnt hmW hcW hm hc hW hmlt hpa hga hms hO0 hJlt hY hJ hJx h0 h0f hr hs hmltW
 go_enter Tryz.func192, Tryz.ntmps192
 go_upto_region 3 with (fail)
 go_name_world W1 hW1
 have hb1 : Below W.heap.size W W1 := by subst hW1; go_grown
 have hz1 : W1.heap.size = By + 2 := by subst hW1; simp [hBy]
 have c1 : W1.cell? ⟨By, 0, none⟩ = some (.func (.yield lp) #[] #[]) := by subst hW1; subst hBy; go_simp
 have c2 : W1.cell? ⟨By + 1, 0, none⟩ = some (.bool true) := by subst hW1; subst hBy; go_simp
 have f2 : W1.frozen? ⟨By + 1, 0, none⟩ = false := by subst hW1; subst hBy; go_simp
 have hR1 : Ra J Jx lp (By + 1) By mine W (fun k => mine k ∨ k = By + 1 ∨ k = By) (P1 m.f 0 0) W1 := by
  refine ⟨⟨.inr (.inl rfl), .inr (.inr rfl), ?_, f2, c1, .inl ⟨c2, O0, ?_, ?_, ?_⟩⟩, fun k hk => .inl hk, fun k hk => hb1.block k (HLT.out k hk), hb1.size⟩
  ·rintro k (hk | rfl | rfl)
   ·have := HLT.out k hk; omega
   ·omega
   ·omega
  ·rw [P1_0]; exact HJ.out [] O0 W W1 H0.out (Kept.of_below hb1)
  ·rintro k (hk | rfl | rfl) ho
   ·exact HO0.out k hk ho
   ·have := H0F.out _ ho; omega
   ·have := H0F.out _ ho; omega
  ·intro k ho; have := H0F.out k ho; omega
 have HR1 := Lib.hid hR1
 clear hW1 hb1 c1 c2 f2 q0 q1 q2 q3 hR1
 obtain ⟨s0, s1, s2, s3⟩ := fe_cells (HR1.out.shape HMS.out HC.out)
 have zs := cell_lt s0
 go_wp2
 clear s0 s1 s2 s3 zs
 go_loopw [24] (fun v24 wr => ∃ t : Nat, (t : Int) ≤ m.f.ticks + 1 ∧ v24 = .int .i64 t ∧ Ra J Jx lp (By + 1) By mine W (fun k => mine k ∨ k = By + 1 ∨ k = By) (P1 m.f t 0) wr) (fun v24 _ => (m.f.ticks + 1).toNat - (intOf v24).toNat)
 case atStart => exact ⟨0, by omega, rfl, HR1.out⟩
 case round =>
  obtain ⟨t, ht, rfl, hR⟩ := hrel
  have HRA := Lib.hid hR
  obtain ⟨s0, s1, s2, s3⟩ := fe_cells (HRA.out.shape HMS.out HC.out)
  have zs := cell_lt s0
  clear hR
  by_cases hlt : (t : Int) < m.f.ticks + 1
  ·go_wp2
   clear s0 s1 s2 s3 zs
   go_loopw [31] (fun v31 wr => ∃ k : Nat, k ≤ m.f.places.length ∧ v31 = .int .i64 k ∧ Ra J Jx lp (By + 1) By mine W (fun k => mine k ∨ k = By + 1 ∨ k = By) (P1 m.f t k) wr) (fun v31 _ => m.f.places.length - (intOf v31).toNat)
   case atStart => exact ⟨0, by omega, rfl, HRA.out⟩
   case round =>
    obtain ⟨k, hk, rfl, hR⟩ := hrel
    clear HRA
    have HRA := Lib.hid hR
    clear hR
    by_cases hlk : k < m.f.places.length
    ·obtain ⟨x, hx⟩ := some_at hlk
     obtain ⟨b, o, hpa, hat⟩ := (HRA.out.mem HPA.out HGA.out HM.out).pl.at hx
     obtain ⟨y0, y1⟩ := pl_cells hat
     have zb := cell_lt y0
     obtain ⟨s0, s1, s2, s3⟩ := fe_cells (HRA.out.shape HMS.out HC.out)
     have zs := cell_lt s0
     have hi1 : ¬ (k : Int) < 0 := by omega
     have hi2 : (k : Int) < (m.f.places.length : Int) := by omega
     have HX := Lib.hid hx
     rw [hpa]
     clear hat hx hpa
     go_upto_region 9 with (fail)
     have hxk : By + 1 < wr.heap.size := HRA.out.rt.lt _ HRA.out.rt.xm
     go_name_world W2 hW2
     have hb2 : Below wr.heap.size wr W2 := by subst hW2; go_grown
     have hz2 : W2.heap.size = wr.heap.size + 1 := by subst hW2; simp
     have xb : W2.cell? ⟨wr.heap.size, 0, none⟩ = some (.string x.name) := by subst hW2; go_simp
     have hR2 := HRA.out.more HJ.out HJX.out hb2 wr.heap.size (Nat.le_refl _) (by omega)
     have HR2 := Lib.hid hR2
     clear hW2 s0 s1 s2 s3 zs y0 y1 zb hR2 HRA hb2 hz2
     refine wp_region_maker 12 W2 (Words W2 wStay x.name) (by kernel_rfl) (by kernel_rfl) (by kernel_rfl) (by rfl) (by rfl) (Below.refl _ _) (fun u W ⟨_, _, _, _, h⟩ => h) (fun u W W' h hb => words_later h hb) (e := ?e6) ?hq ?hmk ?ht
     case hq =>
      intro W5 hB5
      obtain ⟨s0, s1, s2, s3⟩ := fe_cells ((HR2.out.shape HMS.out HC.out).later hB5)
      have k0 := later_cell s0
      have k1 := later_cell s1
      have k2 := later_cell s2
      have k3 := later_cell s3
      have k4 := later_cell (((bcell hB5).1 _ _ (cell_lt xb)).trans xb)
      simp only [List.take_succ_cons, List.take_zero]
      repeat (go_big_quiet_step (first | (go_at_call 148; with_reducible exact in_region (HNF.out k t _ (by omega) (by omega) (by omega) (by omega))) | (go_at_call 148; with_reducible exact in_region (HNT.out k t _ (by omega) (by omega) (by omega) (by omega)))))
      refine wpQuiet_nil ?_
      rfl
     case hmk =>
      intro W5 hB5
      exact ⟨_, _, by go_simp; rfl, words_made wStay x.name hB5⟩
     case ht =>
      rintro u W5 ⟨bw, rfl, hbw, hwd, hB5⟩
      simp only [List.drop_succ_cons, List.drop_zero]
      have hR5 := HR2.out.same HJ.out HJX.out hB5
      have HR5 := Lib.hid hR5
      have HWD := Lib.hid hwd
      have xb5 := ((bcell hB5).1 _ _ (cell_lt xb)).trans xb
      clear hR5 hwd hB5 xb
      go_wp2_with fail
      refine (HP.out _ _ (wyOf (nodeN m.f k t) (nodeN m.f k t + 1) 1000 wStay x.name k t) _ _ HR5.out (by rw [← P1_step HX.out]; exact P1_pre hlt _) (by have := HR2.out.sz; omega) HWD.out).mono ?_
      rintro e W6 ⟨rfl, hR6, hfr, hz6⟩
      have HR6 := Lib.hid hR6
      clear hR6 hfr hz6 HR5 HWD xb5
      go_wp2
      go_roundw
      case rel => exact ⟨k + 1, by omega, by go_num, by rw [P1_step HX.out]; exact HR6.out.less HJ.out HJX.out (fun _ hk => .inl hk) (.inr (.inl rfl)) (.inr (.inr rfl)) (fun _ hk => .inl hk)⟩
      case measure => simp [intOf]; omega
    ·obtain rfl : k = m.f.places.length := by omega
     have hN := HRA.out
     rw [P1_next hlt] at hN
     have HN := Lib.hid hN
     clear hN
     go_wp2
     go_roundw
     case rel => exact ⟨t + 1, by omega, by go_num, HN.out⟩
     case measure => simp [intOf]; omega
  ·have ht2 : (t : Int) = m.f.ticks + 1 := by omega
   have hN := HRA.out
   rw [P2_0 ht2] at hN
   clear HRA
   have HRA := Lib.hid hN
   clear hN
   obtain ⟨s0, s1, s2, s3⟩ := fe_cells (HRA.out.shape HMS.out HC.out)
   have zs := cell_lt s0
   go_wp2
   clear s0 s1 s2 s3 zs
   go_loopw [55] (fun v55 wr => ∃ t : Nat, (t : Int) ≤ m.f.ticks ∧ v55 = .int .i64 t ∧ Ra J Jx lp (By + 1) By mine W (fun k => mine k ∨ k = By + 1 ∨ k = By) (P2 m.f t 0) wr) (fun v55 _ => m.f.ticks.toNat - (intOf v55).toNat)
   case atStart => exact ⟨0, by omega, rfl, HRA.out⟩
   case round =>
    clear HRA
    obtain ⟨t, ht, rfl, hR⟩ := hrel
    have HRA := Lib.hid hR
    obtain ⟨s0, s1, s2, s3⟩ := fe_cells (HRA.out.shape HMS.out HC.out)
    have zs := cell_lt s0
    clear hR
    by_cases hlt : (t : Int) < m.f.ticks
    ·go_wp2
     clear s0 s1 s2 s3 zs
     go_loopw [62] (fun v62 wr => ∃ k : Nat, k ≤ m.f.places.length ∧ v62 = .int .i64 k ∧ Ra J Jx lp (By + 1) By mine W (fun k => mine k ∨ k = By + 1 ∨ k = By) (P2 m.f t k) wr) (fun v62 _ => m.f.places.length - (intOf v62).toNat)
     case atStart => exact ⟨0, by omega, rfl, HRA.out⟩
     case round =>
      obtain ⟨k, hk, rfl, hR⟩ := hrel
      clear HRA
      have HRA := Lib.hid hR
      clear hR
      by_cases hlk : k < m.f.places.length
      ·obtain ⟨x, hx⟩ := some_at hlk
       obtain ⟨b, o, hpa, hat⟩ := (HRA.out.mem HPA.out HGA.out HM.out).pl.at hx
       obtain ⟨y0, y1⟩ := pl_cells hat
       have zb := cell_lt y0
       obtain ⟨s0, s1, s2, s3⟩ := fe_cells (HRA.out.shape HMS.out HC.out)
       have zs := cell_lt s0
       have hi1 : ¬ (k : Int) < 0 := by omega
       have hi2 : (k : Int) < (m.f.places.length : Int) := by omega
       have HX := Lib.hid hx
       rw [hpa]
       clear hat hx hpa
       go_upto_region 18 with (fail)
       have hxk : By + 1 < wr.heap.size := HRA.out.rt.lt _ HRA.out.rt.xm
       go_name_world W2 hW2
       have hb2 : Below wr.heap.size wr W2 := by subst hW2; go_grown
       have hz2 : W2.heap.size = wr.heap.size + 1 := by subst hW2; simp
       have xb : W2.cell? ⟨wr.heap.size, 0, none⟩ = some (.string x.name) := by subst hW2; go_simp
       have hR2 := HRA.out.more HJ.out HJX.out hb2 wr.heap.size (Nat.le_refl _) (by omega)
       have HR2 := Lib.hid hR2
       clear hW2 s0 s1 s2 s3 zs y0 y1 zb hR2 HRA hb2 hz2
       have hp4 := P2_pre hlt (k + 1)
       rw [P2_step HX.out] at hp4
       have hp3 := pre_of hp4
       have hp2 := pre_of hp3
       have hp1 := pre_of hp2
       have hp0 := pre_of hp1
       have HQ0 := Lib.hid hp0
       have HQ1 := Lib.hid hp1
       have HQ2 := Lib.hid hp2
       have HQ3 := Lib.hid hp3
       have HQ4 := Lib.hid hp4
       clear hp0 hp1 hp2 hp3 hp4
       obtain ⟨s0, s1, s2, s3⟩ := fe_cells (HR2.out.shape HMS.out HC.out)
       have zs := cell_lt s0
       refine wp_region_sink 9 W2 (by kernel_rfl) (by kernel_rfl) (Below.refl _ _) ?_
       simp only [List.take_succ_cons, List.take_zero, List.drop_succ_cons, List.drop_zero]
       have k0 := later_cell s0
       have k1 := later_cell s1
       have k2 := later_cell s2
       have k3 := later_cell s3
       repeat (go_big_quiet_step (first | (go_at_call 148; with_reducible exact in_region (HNT.out k t _ (by omega) (by omega) (by omega) (by omega))) | (go_at_call 148; with_reducible exact in_region (HNF.out k (t + 1) _ (by omega) (by omega) (by omega) (by omega)))))
       refine wpQuiet_nil ?_
       rintro ⟨W3, hB3⟩
       dsimp only
       have HR3 := Lib.hid (HR2.out.same HJ.out HJX.out hB3)
       have xb3 := ((bcell hB3).1 _ _ (cell_lt xb)).trans xb
       clear xb
       have xb := xb3
       clear xb3 k0 k1 k2 k3 s0 s1 s2 s3 zs hB3 HR2
       obtain ⟨s0, s1, s2, s3⟩ := fe_cells (HR3.out.shape HMS.out HC.out)
       have zs := cell_lt s0
       go_wp2_with fail
       generalize hA : World.alloc W3 (Obj.cells _ _) = A
       have hal : Below W3.heap.size W3 A := by subst hA; go_grown
       have hbk : WordsAt A W3.heap.size (wyOf (nodeN m.f k t + 1) (nodeN m.f k (t + 1)) 1000 wRest x.name k t) := by subst hA; exact World.alloc_heap_new _ _
       have xbA := ((bcell hal).1 _ _ (cell_lt xb)).trans xb
       have hRA := HR3.out.same HJ.out HJX.out hal
       have hsz := HR3.out.sz
       refine (HP.out _ _ (wyOf (nodeN m.f k t + 1) (nodeN m.f k (t + 1)) 1000 wRest x.name k t) _ _ hRA (HQ0.out) hsz hbk).mono ?_
       rintro e W10 ⟨rfl, hR6, hfr, hz6⟩
       have HR10 := Lib.hid hR6
       clear s0 s1 s2 s3 zs xb
       have xb := (cell_same (hfr wr.heap.size (.inr rfl) (by omega))).trans xbA
       clear hR6 hfr hz6 hbk hal hRA hsz hA xbA
       obtain ⟨s0, s1, s2, s3⟩ := fe_cells (HR10.out.shape HMS.out HC.out)
       have zs := cell_lt s0
       go_wp2_with fail
       generalize hA : World.alloc W10 (Obj.cells _ _) = A
       have hal : Below W10.heap.size W10 A := by subst hA; go_grown
       have hbk : WordsAt A W10.heap.size (wyOf 0 (nodeN m.f k (t + 1)) m.f.yields wBorn x.name k t) := by subst hA; exact World.alloc_heap_new _ _
       have xbA := ((bcell hal).1 _ _ (cell_lt xb)).trans xb
       have hRA := HR10.out.same HJ.out HJX.out hal
       have hsz := HR10.out.sz
       refine (HP.out _ _ (wyOf 0 (nodeN m.f k (t + 1)) m.f.yields wBorn x.name k t) _ _ hRA (HQ1.out) hsz hbk).mono ?_
       rintro e W11 ⟨rfl, hR6, hfr, hz6⟩
       have HR11 := Lib.hid hR6
       clear s0 s1 s2 s3 zs xb
       have xb := (cell_same (hfr wr.heap.size (.inr rfl) (by omega))).trans xbA
       clear hR6 hfr hz6 hbk hal hRA hsz hA xbA
       obtain ⟨s0, s1, s2, s3⟩ := fe_cells (HR11.out.shape HMS.out HC.out)
       have zs := cell_lt s0
       go_wp2_with fail
       generalize hA : World.alloc W11 (Obj.cells _ _) = A
       have hal : Below W11.heap.size W11 A := by subst hA; go_grown
       have hbk : WordsAt A W11.heap.size (wyOf (nodeN m.f k t + 1) 0 m.f.yields wDead x.name k t) := by subst hA; exact World.alloc_heap_new _ _
       have xbA := ((bcell hal).1 _ _ (cell_lt xb)).trans xb
       have hRA := HR11.out.same HJ.out HJX.out hal
       have hsz := HR11.out.sz
       refine (HP.out _ _ (wyOf (nodeN m.f k t + 1) 0 m.f.yields wDead x.name k t) _ _ hRA (HQ2.out) hsz hbk).mono ?_
       rintro e W12 ⟨rfl, hR6, hfr, hz6⟩
       have HR12 := Lib.hid hR6
       clear s0 s1 s2 s3 zs xb
       have xb := (cell_same (hfr wr.heap.size (.inr rfl) (by omega))).trans xbA
       clear hR6 hfr hz6 hbk hal hRA hsz hA xbA
       obtain ⟨s0, s1, s2, s3⟩ := fe_cells (HR12.out.shape HMS.out HC.out)
       have zs := cell_lt s0
       go_wp2_with fail
       generalize hA : World.alloc W12 (Obj.cells _ _) = A
       have hal : Below W12.heap.size W12 A := by subst hA; go_grown
       have hbk : WordsAt A W12.heap.size (wyOf 0 (nodeN m.f k (t + 1)) m.f.yields wBought x.name k t) := by subst hA; exact World.alloc_heap_new _ _
       have xbA := ((bcell hal).1 _ _ (cell_lt xb)).trans xb
       have hRA := HR12.out.same HJ.out HJX.out hal
       have hsz := HR12.out.sz
       refine (HP.out _ _ (wyOf 0 (nodeN m.f k (t + 1)) m.f.yields wBought x.name k t) _ _ hRA (HQ3.out) hsz hbk).mono ?_
       rintro e W13 ⟨rfl, hR6, hfr, hz6⟩
       have HR13 := Lib.hid hR6
       clear s0 s1 s2 s3 zs xb
       have xb := (cell_same (hfr wr.heap.size (.inr rfl) (by omega))).trans xbA
       clear hR6 hfr hz6 hbk hal hRA hsz hA xbA
       obtain ⟨s0, s1, s2, s3⟩ := fe_cells (HR13.out.shape HMS.out HC.out)
       have zs := cell_lt s0
       go_wp2_with fail
       generalize hA : World.alloc W13 (Obj.cells _ _) = A
       have hal : Below W13.heap.size W13 A := by subst hA; go_grown
       have hbk : WordsAt A W13.heap.size (wyOf (nodeN m.f k t + 1) 0 m.f.yields wSold x.name k t) := by subst hA; exact World.alloc_heap_new _ _
       have xbA := ((bcell hal).1 _ _ (cell_lt xb)).trans xb
       have hRA := HR13.out.same HJ.out HJX.out hal
       have hsz := HR13.out.sz
       refine (HP.out _ _ (wyOf (nodeN m.f k t + 1) 0 m.f.yields wSold x.name k t) _ _ hRA (HQ4.out) hsz hbk).mono ?_
       rintro e W14 ⟨rfl, hR6, hfr, hz6⟩
       have HR14 := Lib.hid hR6
       clear s0 s1 s2 s3 zs xb
       have xb := (cell_same (hfr wr.heap.size (.inr rfl) (by omega))).trans xbA
       clear hR6 hfr hz6 hbk hal hRA hsz hA xbA
       go_wp2
       go_roundw
       case rel => exact ⟨k + 1, by omega, by go_num, by rw [P2_step HX.out]; exact HR14.out.less HJ.out HJX.out (fun _ hk => .inl hk) (.inr (.inl rfl)) (.inr (.inr rfl)) (fun _ hk => .inl hk)⟩
       case measure => simp [intOf]; omega
      ·obtain rfl : k = m.f.places.length := by omega
       have hN := HRA.out
       rw [P3_0] at hN
       clear HRA
       have HRA := Lib.hid hN
       clear hN
       obtain ⟨s0, s1, s2, s3⟩ := fe_cells (HRA.out.shape HMS.out HC.out)
       have zs := cell_lt s0
       go_wp2
       clear s0 s1 s2 s3 zs
       go_loopw [129] (fun v129 wr => ∃ i : Nat, i ≤ m.f.gates.length ∧ v129 = .int .i64 i ∧ Ra J Jx lp (By + 1) By mine W (fun k => mine k ∨ k = By + 1 ∨ k = By) (P3 m.f t i) wr) (fun v129 _ => m.f.gates.length - (intOf v129).toNat)
       case atStart => exact ⟨0, by omega, rfl, HRA.out⟩
       case round =>
        obtain ⟨i, hk, rfl, hR⟩ := hrel
        clear HRA
        have HRA := Lib.hid hR
        clear hR
        by_cases hlk : i < m.f.gates.length
        ·obtain ⟨g, hx⟩ := some_at hlk
         obtain ⟨hga0, hgb0⟩ := ends_of HR.out (some_mem hx)
         obtain ⟨b, o, hpa, hat⟩ := (HRA.out.mem HPA.out HGA.out HM.out).gt.at hx
         obtain ⟨y0, y1, y2, y3⟩ := gt_cells hat
         have zb := cell_lt y0
         obtain ⟨s0, s1, s2, s3⟩ := fe_cells (HRA.out.shape HMS.out HC.out)
         have zs := cell_lt s0
         have hi1 : ¬ (i : Int) < 0 := by omega
         have hi2 : (i : Int) < (m.f.gates.length : Int) := by omega
         have HX := Lib.hid hx
         rw [hpa]
         clear hat hx hpa
         go_upto_region 28 with (fail)
         have hxk : By + 1 < wr.heap.size := HRA.out.rt.lt _ HRA.out.rt.xm
         go_name_world W2 hW2
         have hb2 : Below wr.heap.size wr W2 := by subst hW2; go_grown
         have hz2 : W2.heap.size = wr.heap.size + 1 := by subst hW2; simp
         have xb : W2.cell? ⟨wr.heap.size, 0, none⟩ = some (.string g.name) := by subst hW2; go_simp
         have xa : W2.cell? ⟨wr.heap.size, 1, none⟩ = some (.int .i64 g.a) := by subst hW2; go_simp
         have xc : W2.cell? ⟨wr.heap.size, 2, none⟩ = some (.int .i64 g.b) := by subst hW2; go_simp
         have xd : W2.cell? ⟨wr.heap.size, 3, none⟩ = some (.int .i64 g.most) := by subst hW2; go_simp
         have hR2 := HRA.out.more HJ.out HJX.out hb2 wr.heap.size (Nat.le_refl _) (by omega)
         have HR2 := Lib.hid hR2
         clear hW2 s0 s1 s2 s3 zs y0 y1 y2 y3 zb hR2 HRA hb2 hz2
         have hp1 := P3_pre hlt (i + 1)
         rw [P3_step HX.out] at hp1
         have hp0 := pre_of hp1
         have HQ0 := Lib.hid hp0
         have HQ1 := Lib.hid hp1
         clear hp0 hp1
         refine wp_region_maker 17 W2 (Words W2 wPass g.name) (by kernel_rfl) (by kernel_rfl) (by kernel_rfl) (by rfl) (by rfl) (Below.refl _ _) (fun u W ⟨_, _, _, _, h⟩ => h) (fun u W W' h hb => words_later h hb) (e := ?e20) ?hq ?hmk ?ht
         case hq =>
          intro W5 hB5
          obtain ⟨s0, s1, s2, s3⟩ := fe_cells ((HR2.out.shape HMS.out HC.out).later hB5)
          have k0 := later_cell s0
          have k1 := later_cell s1
          have k2 := later_cell s2
          have k3 := later_cell s3
          have k4 := later_cell (((bcell hB5).1 _ _ (cell_lt xb)).trans xb)
          have k5 := later_cell (((bcell hB5).1 _ _ (cell_lt xa)).trans xa)
          have k6 := later_cell (((bcell hB5).1 _ _ (cell_lt xc)).trans xc)
          have k7 := later_cell (((bcell hB5).1 _ _ (cell_lt xd)).trans xd)
          simp only [List.take_succ_cons, List.take_zero]
          repeat (go_big_quiet_step (first | (go_at_call 148; with_reducible exact in_region (HNT.out g.a t _ (by omega) (by omega) (by omega) (by omega))) | (go_at_call 148; with_reducible exact in_region (HNF.out g.b (t + 1) _ (by omega) (by omega) (by omega) (by omega)))))
          refine wpQuiet_nil ?_
          rfl
         case hmk =>
          intro W5 hB5
          exact ⟨_, _, by go_simp; rfl, words_made wPass g.name hB5⟩
         case ht =>
          rintro u W5 ⟨bw, rfl, hbw, hwd, hB5⟩
          simp only [List.drop_succ_cons, List.drop_zero]
          have hR5 := HR2.out.same HJ.out HJX.out hB5
          have HR5 := Lib.hid hR5
          have HWD := Lib.hid hwd
          have xb5 := ((bcell hB5).1 _ _ (cell_lt xb)).trans xb
          have xa5 := ((bcell hB5).1 _ _ (cell_lt xa)).trans xa
          have xc5 := ((bcell hB5).1 _ _ (cell_lt xc)).trans xc
          have xd5 := ((bcell hB5).1 _ _ (cell_lt xd)).trans xd
          clear hR5 hwd hB5 xb xa xc xd
          go_wp2_with fail
          refine (HP.out _ _ (wyOf (nodeN m.f g.a t + 1) (nodeN m.f g.b (t + 1)) g.most wPass g.name i t) _ _ HR5.out (HQ0.out) (by have := HR2.out.sz; omega) HWD.out).mono ?_
          rintro e W20 ⟨rfl, hR6, hfr, hz6⟩
          have HR20 := Lib.hid hR6
          have xb := (cell_same (hfr wr.heap.size (.inr rfl) (by omega))).trans xb5
          have xa := (cell_same (hfr wr.heap.size (.inr rfl) (by omega))).trans xa5
          have xc := (cell_same (hfr wr.heap.size (.inr rfl) (by omega))).trans xc5
          have xd := (cell_same (hfr wr.heap.size (.inr rfl) (by omega))).trans xd5
          clear hR6 hfr hz6 HR5 HWD xb5 xa5 xc5 xd5
          go_upto_region 29 with (fail)
          refine wp_region_maker 17 W20 (Words W20 wBack g.name) (by kernel_rfl) (by kernel_rfl) (by kernel_rfl) (by rfl) (by rfl) (Below.refl _ _) (fun u W ⟨_, _, _, _, h⟩ => h) (fun u W W' h hb => words_later h hb) (e := ?e21) ?hq ?hmk ?ht
          case hq =>
           intro W5 hB5
           obtain ⟨s0, s1, s2, s3⟩ := fe_cells ((HR20.out.shape HMS.out HC.out).later hB5)
           have k0 := later_cell s0
           have k1 := later_cell s1
           have k2 := later_cell s2
           have k3 := later_cell s3
           have k4 := later_cell (((bcell hB5).1 _ _ (cell_lt xb)).trans xb)
           have k5 := later_cell (((bcell hB5).1 _ _ (cell_lt xa)).trans xa)
           have k6 := later_cell (((bcell hB5).1 _ _ (cell_lt xc)).trans xc)
           have k7 := later_cell (((bcell hB5).1 _ _ (cell_lt xd)).trans xd)
           simp only [List.take_succ_cons, List.take_zero]
           repeat (go_big_quiet_step (first | (go_at_call 148; with_reducible exact in_region (HNT.out g.b t _ (by omega) (by omega) (by omega) (by omega))) | (go_at_call 148; with_reducible exact in_region (HNF.out g.a (t + 1) _ (by omega) (by omega) (by omega) (by omega)))))
           refine wpQuiet_nil ?_
           rfl
          case hmk =>
           intro W5 hB5
           exact ⟨_, _, by go_simp; rfl, words_made wBack g.name hB5⟩
          case ht =>
           rintro u W5 ⟨bw, rfl, hbw, hwd, hB5⟩
           simp only [List.drop_succ_cons, List.drop_zero]
           have hR5 := HR20.out.same HJ.out HJX.out hB5
           have HR5 := Lib.hid hR5
           have HWD := Lib.hid hwd
           have xb5 := ((bcell hB5).1 _ _ (cell_lt xb)).trans xb
           have xa5 := ((bcell hB5).1 _ _ (cell_lt xa)).trans xa
           have xc5 := ((bcell hB5).1 _ _ (cell_lt xc)).trans xc
           have xd5 := ((bcell hB5).1 _ _ (cell_lt xd)).trans xd
           clear hR5 hwd hB5 xb xa xc xd
           go_wp2_with fail
           refine (HP.out _ _ (wyOf (nodeN m.f g.b t + 1) (nodeN m.f g.a (t + 1)) g.most wBack g.name i t) _ _ HR5.out (HQ1.out) (by have := HR20.out.sz; omega) HWD.out).mono ?_
           rintro e W21 ⟨rfl, hR6, hfr, hz6⟩
           have HR21 := Lib.hid hR6
           clear hR6 hfr hz6 HR5 HWD xb5 xa5 xc5 xd5
           go_wp2
           go_roundw
           case rel => exact ⟨i + 1, by omega, by go_num, by rw [P3_step HX.out]; exact HR21.out.less HJ.out HJX.out (fun _ hk => .inl hk) (.inr (.inl rfl)) (.inr (.inr rfl)) (fun _ hk => .inl hk)⟩
           case measure => simp [intOf]; omega
        ·obtain rfl : i = m.f.gates.length := by omega
         have hN := HRA.out
         rw [P3_next hlt] at hN
         have HN := Lib.hid hN
         clear hN
         go_wp2
         go_roundw
         case rel => exact ⟨t + 1, by omega, by go_num, HN.out⟩
         case measure => simp [intOf]; omega
    ·have ht2 : (t : Int) = m.f.ticks := by omega
     have hN := HRA.out
     rw [P4_0 ht2] at hN
     clear HRA
     have HRA := Lib.hid hN
     clear hN
     go_wp2
     clear s0 s1 s2 s3 zs
     go_loopw [177] (fun v177 wr => ∃ k : Nat, k ≤ m.f.places.length ∧ v177 = .int .i64 k ∧ Ra J Jx lp (By + 1) By mine W (fun k => mine k ∨ k = By + 1 ∨ k = By) (P4 m.f k) wr) (fun v177 _ => m.f.places.length - (intOf v177).toNat)
     case atStart => exact ⟨0, by omega, rfl, HRA.out⟩
     case round =>
      obtain ⟨k, hk, rfl, hR⟩ := hrel
      clear HRA
      have HRA := Lib.hid hR
      clear hR
      by_cases hlk : k < m.f.places.length
      ·obtain ⟨x, hx⟩ := some_at hlk
       obtain ⟨b, o, hpa, hat⟩ := (HRA.out.mem HPA.out HGA.out HM.out).pl.at hx
       obtain ⟨y0, y1⟩ := pl_cells hat
       have zb := cell_lt y0
       obtain ⟨s0, s1, s2, s3⟩ := fe_cells (HRA.out.shape HMS.out HC.out)
       have zs := cell_lt s0
       have hi1 : ¬ (k : Int) < 0 := by omega
       have hi2 : (k : Int) < (m.f.places.length : Int) := by omega
       have HX := Lib.hid hx
       rw [hpa]
       clear hat hx hpa
       go_upto_region 35 with (fail)
       have hxk : By + 1 < wr.heap.size := HRA.out.rt.lt _ HRA.out.rt.xm
       go_name_world W2 hW2
       have hb2 : Below wr.heap.size wr W2 := by subst hW2; go_grown
       have hz2 : W2.heap.size = wr.heap.size + 1 := by subst hW2; simp
       have xb : W2.cell? ⟨wr.heap.size, 0, none⟩ = some (.string x.name) := by subst hW2; go_simp
       have hR2 := HRA.out.more HJ.out HJX.out hb2 wr.heap.size (Nat.le_refl _) (by omega)
       have HR2 := Lib.hid hR2
       clear hW2 s0 s1 s2 s3 zs y0 y1 zb hR2 HRA hb2 hz2
       refine wp_region_maker 6 W2 (Words W2 wBegin x.name) (by kernel_rfl) (by kernel_rfl) (by kernel_rfl) (by rfl) (by rfl) (Below.refl _ _) (fun u W ⟨_, _, _, _, h⟩ => h) (fun u W W' h hb => words_later h hb) (e := ?e30) ?hq ?hmk ?ht
       case hq =>
        intro W5 hB5
        obtain ⟨s0, s1, s2, s3⟩ := fe_cells ((HR2.out.shape HMS.out HC.out).later hB5)
        have k0 := later_cell s0
        have k1 := later_cell s1
        have k2 := later_cell s2
        have k3 := later_cell s3
        have k4 := later_cell (((bcell hB5).1 _ _ (cell_lt xb)).trans xb)
        simp only [List.take_succ_cons, List.take_zero]
        repeat (go_big_quiet_step (first | (go_at_call 148; with_reducible exact in_region (HNF.out k 0 _ (by omega) (by omega) (by omega) (by omega)))))
        refine wpQuiet_nil ?_
        rfl
       case hmk =>
        intro W5 hB5
        exact ⟨_, _, by go_simp; rfl, words_made wBegin x.name hB5⟩
       case ht =>
        rintro u W5 ⟨bw, rfl, hbw, hwd, hB5⟩
        simp only [List.drop_succ_cons, List.drop_zero]
        have hR5 := HR2.out.same HJ.out HJX.out hB5
        have HR5 := Lib.hid hR5
        have HWD := Lib.hid hwd
        have xb5 := ((bcell hB5).1 _ _ (cell_lt xb)).trans xb
        clear hR5 hwd hB5 xb
        go_wp2_with fail
        refine (HP.out _ _ (wyOf 0 (nodeN m.f k 0) 1000 wBegin x.name k (-1)) _ _ HR5.out (by rw [← P4_step HX.out]; exact P4_pre _ _) (by have := HR2.out.sz; omega) HWD.out).mono ?_
        rintro e W30 ⟨rfl, hR6, hfr, hz6⟩
        have HR30 := Lib.hid hR6
        clear hR6 hfr hz6 HR5 HWD xb5
        go_wp2
        go_roundw
        case rel => exact ⟨k + 1, by omega, by go_num, by rw [P4_step HX.out]; exact HR30.out.less HJ.out HJX.out (fun _ hk => .inl hk) (.inr (.inl rfl)) (.inr (.inr rfl)) (fun _ hk => .inl hk)⟩
        case measure => simp [intOf]; omega
      ·obtain rfl : k = m.f.places.length := by omega
       have hN := HRA.out
       rw [P5_0] at hN
       clear HRA
       have HRA := Lib.hid hN
       clear hN
       obtain ⟨s0, s1, s2, s3⟩ := fe_cells (HRA.out.shape HMS.out HC.out)
       have zs := cell_lt s0
       go_wp2
       clear s0 s1 s2 s3 zs
       go_loopw [195] (fun v195 wr => ∃ k : Nat, k ≤ m.f.places.length ∧ v195 = .int .i64 k ∧ Ra J Jx lp (By + 1) By mine W (fun k => mine k ∨ k = By + 1 ∨ k = By) (P5 m.f k) wr) (fun v195 _ => m.f.places.length - (intOf v195).toNat)
       case atStart => exact ⟨0, by omega, rfl, HRA.out⟩
       case round =>
        obtain ⟨k, hk, rfl, hR⟩ := hrel
        clear HRA
        have HRA := Lib.hid hR
        clear hR
        by_cases hlk : k < m.f.places.length
        ·obtain ⟨x, hx⟩ := some_at hlk
         obtain ⟨b, o, hpa, hat⟩ := (HRA.out.mem HPA.out HGA.out HM.out).pl.at hx
         obtain ⟨y0, y1⟩ := pl_cells hat
         have zb := cell_lt y0
         obtain ⟨s0, s1, s2, s3⟩ := fe_cells (HRA.out.shape HMS.out HC.out)
         have zs := cell_lt s0
         have hi1 : ¬ (k : Int) < 0 := by omega
         have hi2 : (k : Int) < (m.f.places.length : Int) := by omega
         have HX := Lib.hid hx
         rw [hpa]
         clear hat hx hpa
         go_upto_region 40 with (fail)
         have hxk : By + 1 < wr.heap.size := HRA.out.rt.lt _ HRA.out.rt.xm
         go_name_world W2 hW2
         have hb2 : Below wr.heap.size wr W2 := by subst hW2; go_grown
         have hz2 : W2.heap.size = wr.heap.size + 1 := by subst hW2; simp
         have xb : W2.cell? ⟨wr.heap.size, 0, none⟩ = some (.string x.name) := by subst hW2; go_simp
         have hR2 := HRA.out.more HJ.out HJX.out hb2 wr.heap.size (Nat.le_refl _) (by omega)
         have HR2 := Lib.hid hR2
         clear hW2 s0 s1 s2 s3 zs y0 y1 zb hR2 HRA hb2 hz2
         refine wp_region_maker 9 W2 (Words W2 wEnd x.name) (by kernel_rfl) (by kernel_rfl) (by kernel_rfl) (by rfl) (by rfl) (Below.refl _ _) (fun u W ⟨_, _, _, _, h⟩ => h) (fun u W W' h hb => words_later h hb) (e := ?e40) ?hq ?hmk ?ht
         case hq =>
          intro W5 hB5
          obtain ⟨s0, s1, s2, s3⟩ := fe_cells ((HR2.out.shape HMS.out HC.out).later hB5)
          have k0 := later_cell s0
          have k1 := later_cell s1
          have k2 := later_cell s2
          have k3 := later_cell s3
          have k4 := later_cell (((bcell hB5).1 _ _ (cell_lt xb)).trans xb)
          simp only [List.take_succ_cons, List.take_zero]
          repeat (go_big_quiet_step (first | (go_at_call 148; with_reducible exact in_region (HNT.out k m.f.ticks _ (by omega) (by omega) (by omega) (by omega)))))
          refine wpQuiet_nil ?_
          rfl
         case hmk =>
          intro W5 hB5
          exact ⟨_, _, by go_simp; rfl, words_made wEnd x.name hB5⟩
         case ht =>
          rintro u W5 ⟨bw, rfl, hbw, hwd, hB5⟩
          simp only [List.drop_succ_cons, List.drop_zero]
          have hR5 := HR2.out.same HJ.out HJX.out hB5
          have HR5 := Lib.hid hR5
          have HWD := Lib.hid hwd
          have xb5 := ((bcell hB5).1 _ _ (cell_lt xb)).trans xb
          clear hR5 hwd hB5 xb
          go_wp2_with fail
          refine (HP.out _ _ (wyOf (nodeN m.f k m.f.ticks + 1) 0 1000 wEnd x.name k (-1)) _ _ HR5.out (by rw [← P5_step HX.out]; exact P5_pre _ _) (by have := HR2.out.sz; omega) HWD.out).mono ?_
          rintro e W40 ⟨rfl, hR6, hfr, hz6⟩
          have HR40 := Lib.hid hR6
          clear hR6 hfr hz6 HR5 HWD xb5
          go_wp2
          go_roundw
          case rel => exact ⟨k + 1, by omega, by go_num, by rw [P5_step HX.out]; exact HR40.out.less HJ.out HJX.out (fun _ hk => .inl hk) (.inr (.inl rfl)) (.inr (.inr rfl)) (fun _ hk => .inl hk)⟩
          case measure => simp [intOf]; omega
        ·obtain rfl : k = m.f.places.length := by omega
         have hN := HRA.out.rt.st
         rw [P5_all] at hN
         have HN := Lib.hid hN
         clear hN
         go_wp2
         go_end0
         rcases HN.out with ⟨_, O, hj, _⟩ | ⟨_, O, hj⟩
         ·exact ⟨⟨_, rfl⟩, O, .inl hj⟩
         ·exact ⟨⟨_, rfl⟩, O, .inr hj⟩
end Go.Proofs.YtlppdgaogdpajaaGreatDoor
