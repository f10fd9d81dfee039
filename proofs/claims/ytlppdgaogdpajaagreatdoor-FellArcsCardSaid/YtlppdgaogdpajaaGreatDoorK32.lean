/- This text is a part of the proof: Alive, OpenFell. -/
import Derived.Test.YtlppdgaogdpajaaGreatDoorK31
set_option maxRecDepth 100000
set_option maxHeartbeats 16000000
namespace Go.Proofs.YtlppdgaogdpajaaGreatDoor
open Go.RowKit Go.Shelf
attribute [local go_sem] Oper.semAt_some
theorem c_alive (w : World) (hl : LibW w) : Calls Tryz.prog 20 #[] w fun e w' => e = .returned (.bool true) ∧ Below w.heap.size w w' := by
 have HL := Lib.hid hl
 go_enter Tryz.func20, Tryz.ntmps20
 go_wp2_with fail
 refine (k_Parse _ hl).mono ?_
 rintro e W1 ⟨⟨m, hf, rfl, hm⟩, hB⟩
 have HB1 := Lib.hid hB
 have HF := Lib.hid hf
 have HM := Lib.hid hm
 have HLL := Lib.hid (fun (W : World) (hb : Below W1.heap.size W1 W) => HL.out.later (bthen HB1.out hb))
 clear hl HL hf hm hB
 go_upto_region 2 with (fail)
 go_name_world W2 hW2
 have hb0 : Below W1.heap.size W1 W2 := by subst hW2; go_grown
 obtain ⟨q0, q1, q2, q3⟩ := (show QB m W2 W1.heap.size from by subst hW2; and_intros <;> go_simp)
 have t0 : W2.cell? ⟨W1.heap.size + 1, 0, none⟩ = some (.int .i64 0) := by subst hW2; go_simp
 have t1 : W2.cell? ⟨W1.heap.size + 1, 1, none⟩ = some (.int .i64 0) := by subst hW2; go_simp
 clear hW2 
 go_wp2_with fail
 refine (via (w0 := W2) (by go_grown) (k_Print m HF.out _ (HM.out.later hb0) (HLL.out _ hb0))).mono ?_
 rintro e W3 ⟨rfl, hc, hf, hz, hB⟩
 have zz := cy6 hc q0 q1 q2 q3 t0 t1
 clear q0 q1 q2 q3 t0 t1
 obtain ⟨q0, q1, q2, q3, t0, t1⟩ := zz
 replace hb0 : Below W1.heap.size W1 W3 := bthen hb0 hB
 have hzW3 : W2.heap.size ≤ W3.heap.size := hz
 clear hc hf hB hz
 clear t0 t1
 go_wp2_with fail
 refine (via (w0 := W3) (by go_grown) (k_Nodes m HF.out _ (HM.out.later hb0))).mono ?_
 rintro e W4 ⟨rfl, hc, hf, hz, hB⟩
 have zz := cy4 hc q0 q1 q2 q3
 clear q0 q1 q2 q3
 obtain ⟨q0, q1, q2, q3⟩ := zz
 replace hb0 : Below W1.heap.size W1 W4 := bthen hb0 hB
 have hzW4 : W3.heap.size ≤ W4.heap.size := hz
 clear hc hf hB hz
 go_wp2_with fail
 refine (via (w0 := W4) (by go_grown) (k_Arcs m HF.out _ (HM.out.later hb0))).mono ?_
 rintro e W5 ⟨rfl, hc, hf, hz, hB⟩
 have zz := cy4 hc q0 q1 q2 q3
 clear q0 q1 q2 q3
 obtain ⟨q0, q1, q2, q3⟩ := zz
 replace hb0 : Below W1.heap.size W1 W5 := bthen hb0 hB
 have hzW5 : W4.heap.size ≤ W5.heap.size := hz
 clear hc hf hB hz
 go_upto_region 5 with (fail)
 have hq := (show CellsAt W5 W1.heap.size 0 (feC m) from cells_4 q0 q1 q2 q3)
 clear q0 q1 q2 q3
 go_wp2
 have hst : Strs (W5.alloc (.cells (cellsL strC [lnB0, lnB1, lnB2]).toArray 9)) (some ⟨W5.heap.size, 0, none⟩) [lnB0, lnB1, lnB2] := Lst.new strC_len W5 [lnB0, lnB1, lnB2] 9 (by decide)
 have HST := Lib.hid hst
 have HBA := Lib.hid (show Below W1.heap.size W1 (W5.alloc (.cells (cellsL strC [lnB0, lnB1, lnB2]).toArray 9)) from hb0.alloc hb0.size _)
 have HQA := Lib.hid (hq.later (show Below W5.heap.size W5 (W5.alloc (.cells (cellsL strC [lnB0, lnB1, lnB2]).toArray 9)) from by go_grown))
 obtain ⟨B, hBB⟩ : ∃ B, W5.heap.size = B := ⟨_, rfl⟩
 rw [hBB] at HST ⊢
 clear hq hb0 hst hBB
 go_loopw [3, 46] (fun v3 v46 wr => ∃ k : Nat, ∃ a c, k ≤ 3 ∧ v46 = .int .i64 k ∧ v3 = .slice a k c ∧ k ≤ c ∧ (a = none → c = 0) ∧ Rps wr a ([x0, x1, x2].take k) ∧ Strs wr (some ⟨B, 0, none⟩) [lnB0, lnB1, lnB2] ∧ CellsAt wr W1.heap.size 0 (feC m) ∧ Below W1.heap.size W1 wr) (fun _ v46 _ => 3 - (intOf v46).toNat)
 case atStart => exact ⟨0, none, 0, by omega, rfl, rfl, Nat.le_refl _, fun _ => rfl, Lst.nil _ _, HST.out, HQA.out, HBA.out⟩
 case round =>
  clear HST HQA HBA
  obtain ⟨k, a, c, hk, rfl, rfl, hkc, hac, hrp, hsts, hq, hb0⟩ := hrel
  have HQ := Lib.hid hq
  have HST := Lib.hid hsts
  have HRP := Lib.hid hrp
  have HAC := Lib.hid hac
  obtain ⟨q0, q1, q2, q3⟩ := fe_cells hq
  clear hq hrp hac
  by_cases hlt : k < 3
  ·obtain ⟨s, x, hs, hx, hrd, hap, hok, hsz⟩ := k_round hlt
   have hi1 : ¬ (k : Int) < 0 := by omega
   have hi2 : (k : Int) < 3 := by omega
   have hR := fun W (hb : Below W1.heap.size W1 W) => k_Read m HF.out hrd (by omega) W (HM.out.later hb) (HLL.out _ hb)
   have hA := fun W (hb : Below W1.heap.size W1 W) (hl : Rps W a ([x0, x1, x2].take k)) => k_App m HF.out hap hok (k_len hk) hk (x0_ok k) hkc HAC.out W (HM.out.later hb) hl
   obtain ⟨g, o, hg, hat⟩ := hsts.at hs
   cases hg
   have ls := str_cell hat
   rw [Nat.mul_one, Nat.zero_add] at ls
   have HR := Lib.hid hR
   have HA := Lib.hid hA
   clear hR hA hrd hap hat hsts hs hx
   go_wp2_with fail
   refine (HR.out _ hb0).mono ?_
   rintro e W5 ⟨rfl, hB⟩
   have zz := cl4 hB q0 q1 q2 q3
   clear q0 q1 q2 q3
   obtain ⟨q0, q1, q2, q3⟩ := zz
   have HRP5 := Lib.hid (HRP.out.later hB)
   have HST5 := Lib.hid (HST.out.later hB)
   have HQ5 := Lib.hid (HQ.out.later hB)
   have hb5 := bthen hb0 hB
   clear hb0 hB HQ HST HRP ls HR
   go_upto_region 9 with (fail)
   go_name_world W6 hW6
   have hB : Below W5.heap.size W5 W6 := by subst hW6; go_grown
   obtain ⟨r0, r1, r2, r3, r4, r5, r6, r7, r8, r9⟩ := (show RC x W6 W5.heap.size from by subst hW6; and_intros <;> go_simp)
   clear hW6
   have zz := cl4 hB q0 q1 q2 q3
   clear q0 q1 q2 q3
   obtain ⟨q0, q1, q2, q3⟩ := zz
   have HRP6 := Lib.hid (HRP5.out.later hB)
   have HST6 := Lib.hid (HST5.out.later hB)
   have HQ6 := Lib.hid (HQ5.out.later hB)
   have hb6 := bthen hb5 hB
   clear hb5 hB HQ5 HST5 HRP5
   go_wp2_with fail
   refine (HA.out _ hb6 HRP6.out).mono ?_
   rintro e W7 ⟨⟨a2, c2, rfl, hc2, ha2, hr2⟩, hB⟩
   have HR2 := Lib.hid hr2
   have HA2 := Lib.hid ha2
   have HST7 := Lib.hid (HST6.out.later hB)
   have HQ7 := Lib.hid (HQ6.out.later hB)
   have HB7 := Lib.hid (bthen hb6 hB)
   clear hb6 hB HQ6 HST6 HRP6 hr2 ha2 q0 q1 q2 q3 r0 r1 r2 r3 r4 r5 r6 r7 r8 r9 HA
   go_wp2
   go_roundw
   case rel => exact ⟨k + 1, a2, c2, by omega, by go_num, rfl, hc2, HA2.out, HR2.out, HST7.out, HQ7.out, HB7.out⟩
   case measure => simp [intOf]; omega
  ·obtain rfl : k = 3 := by omega
   have hrp := HRP.out
   rw [show [x0, x1, x2].take 3 = [x0, x1, x2] from rfl] at hrp
   have hi3 : ¬ ((3 : Nat) : Int) < 3 := by omega
   have HRS := Lib.hid (fun (W : World) (hb : Below wr.heap.size wr W) => hrp.later hb)
   clear hrp HRP HST hsts HQ hk hlt HAC
   have hbr := Below.refl wr.heap.size wr
   go_wp2_with fail
   refine (k_Net m HF.out _ (HM.out.later hb0) a c (HRS.out _ hbr) hkc 3 9 1 v_net3).mono ?_
   rintro e W11 ⟨⟨g1, c1, n1, rfl, ha1⟩, hB⟩
   have zz := cl4 hB q0 q1 q2 q3
   clear q0 q1 q2 q3
   obtain ⟨q0, q1, q2, q3⟩ := zz
   replace hb0 := bthen hb0 hB
   replace hbr := bthen hbr hB
   clear hB
   go_upto_region 15 with (fail)
   go_name_world W12 hW12
   have hB : Below W11.heap.size W11 W12 := by subst hW12; go_grown
   have y10 : W12.cell? ⟨W11.heap.size, 0, none⟩ = some (.int .i64 n1) := by subst hW12; go_simp
   have y11 : W12.cell? ⟨W11.heap.size, 1, none⟩ = some (.slice (some ⟨g1, 0, none⟩) 53 c1) := by subst hW12; go_simp
   clear hW12
   have zz := cl4 hB q0 q1 q2 q3
   clear q0 q1 q2 q3
   obtain ⟨q0, q1, q2, q3⟩ := zz
   replace ha1 := ha1.later hB
   replace hb0 := bthen hb0 hB
   replace hbr := bthen hbr hB
   clear hB
   go_wp2_with fail
   refine (k_Net m HF.out _ (HM.out.later hb0) a c (HRS.out _ hbr) hkc 4 20 0 v_net4).mono ?_
   rintro e W13 ⟨⟨g2, c2, n2, rfl, ha2⟩, hB⟩
   have zz := cl6 hB q0 q1 q2 q3 y10 y11
   clear q0 q1 q2 q3 y10 y11
   obtain ⟨q0, q1, q2, q3, y10, y11⟩ := zz
   replace ha1 := ha1.later hB
   replace hb0 := bthen hb0 hB
   replace hbr := bthen hbr hB
   clear hB
   go_upto_region 16 with (fail)
   go_name_world W14 hW14
   have hB : Below W13.heap.size W13 W14 := by subst hW14; go_grown
   have y20 : W14.cell? ⟨W13.heap.size, 0, none⟩ = some (.int .i64 n2) := by subst hW14; go_simp
   have y21 : W14.cell? ⟨W13.heap.size, 1, none⟩ = some (.slice (some ⟨g2, 0, none⟩) 53 c2) := by subst hW14; go_simp
   clear hW14
   have zz := cl6 hB q0 q1 q2 q3 y10 y11
   clear q0 q1 q2 q3 y10 y11
   obtain ⟨q0, q1, q2, q3, y10, y11⟩ := zz
   replace ha1 := ha1.later hB
   replace ha2 := ha2.later hB
   replace hb0 := bthen hb0 hB
   replace hbr := bthen hbr hB
   clear hB
   obtain ⟨ga, oa, hga, hat⟩ := (HRS.out _ hbr).at (k := 0) (x := x0) rfl
   rw [hga]
   obtain ⟨r0, r1, r2, r3, r4, r5, r6, r7, r8, r9⟩ := rp_cells hat
   rw [Nat.zero_mul, Nat.add_zero] at r0 r1 r2 r3 r4 r5 r6 r7 r8 r9
   clear hat
   refine wp_region_assert 9 W14 (fun i => ([Stays.val (m.v), Stays.val (.slice (some ⟨ga, oa, none⟩) 3 c), Stays.val (.pointer (some ⟨ga, oa, none⟩)), Stays.val (x0.v), Stays.val (.tuple #[.int .i64 24, .int .i64 0]), Stays.val (.tuple #[.int .i64 24, .int .i64 0]), Stays.val (.int .i64 24), Stays.val (.int .i64 0), Stays.val (.int .i64 24)] : List Stays)[i]?.getD Stays.any) (by kernel_rfl) (by kernel_rfl) (by kernel_rfl) (Below.refl _ _) ?hstep ?htail
   case hstep =>
    intro fr hfr hfd
    simp only [List.take_succ_cons, List.take_zero] at hfr ⊢
    refine ⟨?_, ?_⟩
    ·intro vs W hW hd
     have e1 : (fr vs).tmps[1]?.getD undef = .pointer (some ⟨W1.heap.size, 0, none⟩) := (hfr.out vs 1).trans rfl
     have kq0 := later_of hW q0
     have kq1 := later_of hW q1
     have kq2 := later_of hW q2
     have kq3 := later_of hW q3
     exact sv (m.v)
    refine ⟨?_, ?_⟩
    ·intro vs W hW hd
     have e3 : (fr vs).tmps[3]?.getD undef = .slice (some ⟨ga, oa, none⟩) 3 c := (hfr.out vs 3).trans rfl
     exact sv (.slice (some ⟨ga, oa, none⟩) 3 c)
    refine ⟨?_, ?_⟩
    ·intro vs W hW hd
     have e85 : (fr vs).tmps[85]?.getD undef = .slice (some ⟨ga, oa, none⟩) 3 c := (hfr.out vs 85).trans (by show vs 1 = _; exact hd.1 rfl)
     exact sv (.pointer (some ⟨ga, oa, none⟩))
    refine ⟨?_, ?_⟩
    ·intro vs W hW hd
     have e86 : (fr vs).tmps[86]?.getD undef = .pointer (some ⟨ga, oa, none⟩) := (hfr.out vs 86).trans (by show vs 2 = _; exact hd.1 rfl)
     have kr0 := later_of hW r0
     have kr1 := later_of hW r1
     have kr2 := later_of hW r2
     have kr3 := later_of hW r3
     have kr4 := later_of hW r4
     have kr5 := later_of hW r5
     have kr6 := later_of hW r6
     have kr7 := later_of hW r7
     have kr8 := later_of hW r8
     have kr9 := later_of hW r9
     exact sv (x0.v)
    refine ⟨?_, ?_⟩
    ·intro vs W hW hd
     have e84 : (fr vs).tmps[84]?.getD undef = m.v := (hfr.out vs 84).trans (by show vs 0 = _; exact hd.1 rfl)
     have e87 : (fr vs).tmps[87]?.getD undef = x0.v := (hfr.out vs 87).trans (by show vs 3 = _; exact hd.2.1 rfl)
     exact step_call (R := fun v w' => v = .tuple #[.int .i64 24, .int .i64 0] ∧ Below W.heap.size W w') (f := 39) (args := #[m.v, x0.v]) (W' := W) (by simp only [execOp]; go_simp) ((k_Move m HF.out W (HM.out.later (bthen hb0 hW))).mono fun e w' ⟨h1, h2⟩ => ⟨_, h1, rfl, h2⟩) fun v w' h => ⟨v, rfl, h⟩
    refine ⟨?_, ?_⟩
    ·intro vs W hW hd
     have e88 : (fr vs).tmps[88]?.getD undef = .tuple #[.int .i64 24, .int .i64 0] := (hfr.out vs 88).trans (by show vs 4 = _; exact hd.1 rfl)
     exact sv (.tuple #[.int .i64 24, .int .i64 0])
    refine ⟨?_, ?_⟩
    ·intro vs W hW hd
     have e83 : (fr vs).tmps[83]?.getD undef = .tuple #[.int .i64 24, .int .i64 0] := (hfr.out vs 83).trans (by show vs 5 = _; exact hd.1 rfl)
     exact sv (.int .i64 24)
    refine ⟨?_, ?_⟩
    ·intro vs W hW hd
     have e83 : (fr vs).tmps[83]?.getD undef = .tuple #[.int .i64 24, .int .i64 0] := (hfr.out vs 83).trans (by show vs 5 = _; exact hd.1 rfl)
     exact sv (.int .i64 0)
    refine ⟨?_, ?_⟩
    ·intro vs W hW hd
     have e89 : (fr vs).tmps[89]?.getD undef = .int .i64 24 := (hfr.out vs 89).trans (by show vs 6 = _; exact hd.1 rfl)
     exact sv (.int .i64 24)
    trivial
   case htail =>
    intro vs V hB hv
    have v6 : vs 6 = .int .i64 24 := hv.2.2.2.2.2.2.1
    have v7 : vs 7 = .int .i64 0 := hv.2.2.2.2.2.2.2.1
    have v8 : vs 8 = .int .i64 24 := hv.2.2.2.2.2.2.2.2.1
    clear hv
    simp only [List.take_succ_cons, List.take_zero, List.drop_succ_cons, List.drop_zero, frameV, Act.put, List.setIfInBounds_toArray, List.set_cons_zero, List.set_cons_succ, v6, v7, v8]
    clear r0 r1 r2 r3 r4 r5 r6 r7 r8 r9
    have zz := cl8 hB q0 q1 q2 q3 y10 y11 y20 y21
    clear q0 q1 q2 q3 y10 y11 y20 y21
    obtain ⟨q0, q1, q2, q3, y10, y11, y20, y21⟩ := zz
    replace ha1 := ha1.later hB
    replace ha2 := ha2.later hB
    replace hb0 := bthen hb0 hB
    replace hbr := bthen hbr hB
    clear hB
    go_wp2_with fail
    refine (k_Name m HF.out _ (HM.out.later hb0) (HLL.out _ hb0)).mono ?_
    rintro e W16 ⟨rfl, hB⟩
    have zz := cl8 hB q0 q1 q2 q3 y10 y11 y20 y21
    clear q0 q1 q2 q3 y10 y11 y20 y21
    obtain ⟨q0, q1, q2, q3, y10, y11, y20, y21⟩ := zz
    replace ha1 := ha1.later hB
    replace ha2 := ha2.later hB
    replace hb0 := bthen hb0 hB
    replace hbr := bthen hbr hB
    clear hB
    go_wp2_with fail
    refine (k_On m HF.out _ (HM.out.later hb0)).mono ?_
    rintro e W17 ⟨⟨go, co, rfl, o3, o4, o5⟩, hB⟩
    have zz := cl8 hB q0 q1 q2 q3 y10 y11 y20 y21
    clear q0 q1 q2 q3 y10 y11 y20 y21
    obtain ⟨q0, q1, q2, q3, y10, y11, y20, y21⟩ := zz
    replace ha1 := ha1.later hB
    replace ha2 := ha2.later hB
    replace hb0 := bthen hb0 hB
    replace hbr := bthen hbr hB
    clear hB
    go_wp2_with fail
    refine (k_Ways m HF.out _ (HM.out.later hb0)).mono ?_
    rintro e W18 ⟨rfl, hB⟩
    have zz := cl11 hB q0 q1 q2 q3 y10 y11 y20 y21 o3 o4 o5
    clear q0 q1 q2 q3 y10 y11 y20 y21 o3 o4 o5
    obtain ⟨q0, q1, q2, q3, y10, y11, y20, y21, o3, o4, o5⟩ := zz
    replace ha1 := ha1.later hB
    replace ha2 := ha2.later hB
    replace hb0 := bthen hb0 hB
    replace hbr := bthen hbr hB
    clear hB
    obtain ⟨b0, b1, b2, b3, b4, b5⟩ := ar_cells ha1
    obtain ⟨d0, d1, d2, d3, d4, d5⟩ := ar_cells ha2
    clear ha1 ha2
    go_wp2
    go_ret
    exact ⟨rfl, bthen HB1.out (by have hbz := hb0.size; go_grown)⟩
end Go.Proofs.YtlppdgaogdpajaaGreatDoor
namespace Go.Proofs.YtlppdgaogdpajaaGreatDoor
open Go.Joins Go.ChangeShapes Go.WideShapes Go.RowKit Go.Deep
structure SlArg {α : Type} (enc : α → List Value) (n : Nat) (ok : α → Prop) (W : World) (l : List α) (a : Option Addr) (cap : Nat) : Prop where
 lst : l.length ≤ 1000000000000 → Lst enc n W a l
 most : l.length ≤ maxLen
 room : l.length ≤ cap
 none : a = Option.none → cap = 0
 all : ∀ x ∈ l, ok x
theorem list_some {α : Type} {n : Nat} {p : Nat → α → Prop} (h : ∀ i, i < n → ∃ x, p i x) : ∃ l : List α, l.length = n ∧ ∀ (i : Nat) x, l[i]? = some x → p i x := by
 classical
 by_cases hn : n = 0
 ·subst hn
  exact ⟨[], rfl, fun i x hx => by simp at hx⟩
 ·obtain ⟨x0, _⟩ := h 0 (by omega)
  have : Inhabited α := ⟨x0⟩
  obtain ⟨l, hl, hat⟩ := list_of h
  refine ⟨l, hl, fun i x hx => ?_⟩
  have := hat i (by rw [← hl]; exact some_lt hx)
  rwa [hx] at this
section
variable {H : Type} {enc : TypeId × Value → H} {P : Program} {w : World} {base : Nat} {spare : Nat → Bool} {held : Bool}
theorem open_agg4 {r : Reach} {b0 : Nat} {t : TypeId} {f0 f1 f2 f3 : Field} {v : Value} {d : DataW H} {p : List MemPlace} (hs : P.underlying t = some (.struct #[f0, f1, f2, f3])) (hone : oneCellFields P #[f0, f1, f2, f3] = true) (hC : P.cellsOf t = 4)
  (hv : Value.okWide P w r b0 t v) (h : DataW.Trod enc P w base spare held t v d p) :
  ∃ (v0 v1 v2 v3 : Value) (y0 y1 y2 y3 : DataW H × List MemPlace) (n : Nat), v = .agg #[v0, v1, v2, v3] ∧ d = .agg [y0.1, y1.1, y2.1, y3.1] ∧ p = y0.2 ++ (y1.2 ++ (y2.2 ++ (y3.2))) ∧
   DataW.trod enc P w base spare held n f0.type [v0] = some y0 ∧ DataW.trod enc P w base spare held n f1.type [v1] = some y1 ∧ DataW.trod enc P w base spare held n f2.type [v2] = some y2 ∧ DataW.trod enc P w base spare held n f3.type [v3] = some y3 := by
 obtain ⟨cs, rfl, hsz⟩ := okWide_struct hs hv
 obtain ⟨l⟩ := cs
 match l, hsz.trans hC with
 | [c0, c1, c2, c3], _ =>
  obtain ⟨fuel, hf⟩ := h
  obtain ⟨xs, n, _, hx, _, hlen, hg⟩ := DataW.trod_struct hs hf
  obtain ⟨o0, k0⟩ := hone_of hone 0 f0 rfl
  obtain ⟨o1, k1⟩ := hone_of hone 1 f1 rfl
  obtain ⟨o2, k2⟩ := hone_of hone 2 f2 rfl
  obtain ⟨o3, k3⟩ := hone_of hone 3 f3 rfl
  match xs, hlen with
  | [y0, y1, y2, y3], _ =>
   simp only [Prod.mk.injEq] at hx
   exact ⟨c0, c1, c2, c3, y0, y1, y2, y3, n, rfl, by simpa using hx.1, by simpa using hx.2, by simpa [Value.cells, o0, k0] using hg 0 f0 rfl, by simpa [Value.cells, o1, k1] using hg 1 f1 rfl, by simpa [Value.cells, o2, k2] using hg 2 f2 rfl, by simpa [Value.cells, o3, k3] using hg 3 f3 rfl⟩
end
section
variable {H : Type} {enc : TypeId × Value → H} {P : Program} {w : World} {base : Nat} {spare : Nat → Bool} {held : Bool}
theorem open_agg10 {r : Reach} {b0 : Nat} {t : TypeId} {f0 f1 f2 f3 f4 f5 f6 f7 f8 f9 : Field} {v : Value} {d : DataW H} {p : List MemPlace} (hs : P.underlying t = some (.struct #[f0, f1, f2, f3, f4, f5, f6, f7, f8, f9])) (hone : oneCellFields P #[f0, f1, f2, f3, f4, f5, f6, f7, f8, f9] = true) (hC : P.cellsOf t = 10)
  (hv : Value.okWide P w r b0 t v) (h : DataW.Trod enc P w base spare held t v d p) :
  ∃ (v0 v1 v2 v3 v4 v5 v6 v7 v8 v9 : Value) (y0 y1 y2 y3 y4 y5 y6 y7 y8 y9 : DataW H × List MemPlace) (n : Nat), v = .agg #[v0, v1, v2, v3, v4, v5, v6, v7, v8, v9] ∧ d = .agg [y0.1, y1.1, y2.1, y3.1, y4.1, y5.1, y6.1, y7.1, y8.1, y9.1] ∧ p = y0.2 ++ (y1.2 ++ (y2.2 ++ (y3.2 ++ (y4.2 ++ (y5.2 ++ (y6.2 ++ (y7.2 ++ (y8.2 ++ (y9.2))))))))) ∧
   DataW.trod enc P w base spare held n f0.type [v0] = some y0 ∧ DataW.trod enc P w base spare held n f1.type [v1] = some y1 ∧ DataW.trod enc P w base spare held n f2.type [v2] = some y2 ∧ DataW.trod enc P w base spare held n f3.type [v3] = some y3 ∧ DataW.trod enc P w base spare held n f4.type [v4] = some y4 ∧ DataW.trod enc P w base spare held n f5.type [v5] = some y5 ∧ DataW.trod enc P w base spare held n f6.type [v6] = some y6 ∧ DataW.trod enc P w base spare held n f7.type [v7] = some y7 ∧ DataW.trod enc P w base spare held n f8.type [v8] = some y8 ∧ DataW.trod enc P w base spare held n f9.type [v9] = some y9 := by
 obtain ⟨cs, rfl, hsz⟩ := okWide_struct hs hv
 obtain ⟨l⟩ := cs
 match l, hsz.trans hC with
 | [c0, c1, c2, c3, c4, c5, c6, c7, c8, c9], _ =>
  obtain ⟨fuel, hf⟩ := h
  obtain ⟨xs, n, _, hx, _, hlen, hg⟩ := DataW.trod_struct hs hf
  obtain ⟨o0, k0⟩ := hone_of hone 0 f0 rfl
  obtain ⟨o1, k1⟩ := hone_of hone 1 f1 rfl
  obtain ⟨o2, k2⟩ := hone_of hone 2 f2 rfl
  obtain ⟨o3, k3⟩ := hone_of hone 3 f3 rfl
  obtain ⟨o4, k4⟩ := hone_of hone 4 f4 rfl
  obtain ⟨o5, k5⟩ := hone_of hone 5 f5 rfl
  obtain ⟨o6, k6⟩ := hone_of hone 6 f6 rfl
  obtain ⟨o7, k7⟩ := hone_of hone 7 f7 rfl
  obtain ⟨o8, k8⟩ := hone_of hone 8 f8 rfl
  obtain ⟨o9, k9⟩ := hone_of hone 9 f9 rfl
  match xs, hlen with
  | [y0, y1, y2, y3, y4, y5, y6, y7, y8, y9], _ =>
   simp only [Prod.mk.injEq] at hx
   exact ⟨c0, c1, c2, c3, c4, c5, c6, c7, c8, c9, y0, y1, y2, y3, y4, y5, y6, y7, y8, y9, n, rfl, by simpa using hx.1, by simpa using hx.2, by simpa [Value.cells, o0, k0] using hg 0 f0 rfl, by simpa [Value.cells, o1, k1] using hg 1 f1 rfl, by simpa [Value.cells, o2, k2] using hg 2 f2 rfl, by simpa [Value.cells, o3, k3] using hg 3 f3 rfl, by simpa [Value.cells, o4, k4] using hg 4 f4 rfl, by simpa [Value.cells, o5, k5] using hg 5 f5 rfl, by simpa [Value.cells, o6, k6] using hg 6 f6 rfl, by simpa [Value.cells, o7, k7] using hg 7 f7 rfl, by simpa [Value.cells, o8, k8] using hg 8 f8 rfl, by simpa [Value.cells, o9, k9] using hg 9 f9 rfl⟩
end
section
variable {H : Type} {enc : TypeId × Value → H} {W : World}
def PlOk (x : Pl) : Prop := x.name.size ≤ maxLen ∧ (Lit.int .u8 x.kind).wf = true
theorem open_pls_run {fuel : Nat} {sp : Nat → Bool} {held : Bool} {cs : List Value} {x : DataW H × List MemPlace} (hf : DataW.trod enc Tryz.prog W 0 sp held fuel 22 cs = some x) :
  ∃ (a : Option Addr) (l : List Pl) (cap : Nat), cs = [.slice a l.length cap] ∧ SlArg plC 2 PlOk W l a cap := by
 rcases open_slice_fields Tryz.underlying22 Tryz.underlying62 (by kernel_rfl) (by kernel_rfl) hf with ⟨hc, hx⟩ | ⟨a, len0, cap0, mm, D, Pq, hc, _, hl, hcap, hm, hx, hi⟩
 ·exact ⟨none, [], 0, hc, ⟨fun _ => Lst.nil _ _, by simp, by simp, fun _ => rfl, fun x hx => by cases hx⟩⟩
 ·have hml : len0 ≤ mm := by rw [hm]; split <;> omega
  have hall : ∀ i, i < len0 → ∃ x : Pl, (W.cell? (a.add (i * 2 + 0)) = some (.string x.name) ∧ W.cell? (a.add (i * 2 + 1)) = some (.int .u8 x.kind)) ∧ PlOk x := by
   intro i hi0
   obtain ⟨ys, n, _, _, _, hf⟩ := hi i (by omega)
   obtain ⟨v0, y0, c0, _, r0⟩ := hf 0 _ rfl
   obtain ⟨z0, e0, _, k0⟩ := DataW.trod_string Tryz.underlying9 r0
   simp only [List.cons.injEq, and_true] at e0
   subst e0
   obtain ⟨v1, y1, c1, _, r1⟩ := hf 1 _ rfl
   obtain ⟨z1, e1, _, k1⟩ := DataW.trod_int Tryz.underlying5 r1
   simp only [List.cons.injEq, and_true] at e1
   subst e1
   exact ⟨⟨z0, z1⟩, ⟨c0, c1⟩, k0, k1⟩
  obtain ⟨l, hlen, hat⟩ := list_some hall
  subst hlen
  refine ⟨some a, l, _, hc, ⟨fun hb => ⟨hb, fun hne => ?_⟩, by omega, hl, (fun e => by cases e), fun x hx => ?_⟩⟩
  ·have h0 : 0 < l.length := List.length_pos_iff.2 hne
   obtain ⟨x0, hx0⟩ := some_at h0
   have hs := spot_of a W _ (by simpa using (hat 0 x0 hx0).1.1)
   refine ⟨a.block, a.off, by rw [← hs], fun k x hk => ?_⟩
   obtain ⟨c0, c1⟩ := (hat k x hk).1
   intro j u hj
   match j, hj with
   | 0, hj => exact (Option.some.inj hj) ▸ add_cell2 a _ _ _ 0 W _ hs c0
   | 1, hj => exact (Option.some.inj hj) ▸ add_cell2 a _ _ _ 1 W _ hs c1
   | j + 2, hj => simp [plC] at hj
  ·obtain ⟨i, hi⟩ := List.mem_iff_getElem?.1 hx
   exact (hat i x hi).2
def GtOk (x : Gt) : Prop := x.name.size ≤ maxLen ∧ (Lit.int .i64 x.a).wf = true ∧ (Lit.int .i64 x.b).wf = true ∧ (Lit.int .i64 x.most).wf = true
theorem open_gts_run {fuel : Nat} {sp : Nat → Bool} {held : Bool} {cs : List Value} {x : DataW H × List MemPlace} (hf : DataW.trod enc Tryz.prog W 0 sp held fuel 23 cs = some x) :
  ∃ (a : Option Addr) (l : List Gt) (cap : Nat), cs = [.slice a l.length cap] ∧ SlArg gtC 4 GtOk W l a cap := by
 rcases open_slice_fields Tryz.underlying23 Tryz.underlying65 (by kernel_rfl) (by kernel_rfl) hf with ⟨hc, hx⟩ | ⟨a, len0, cap0, mm, D, Pq, hc, _, hl, hcap, hm, hx, hi⟩
 ·exact ⟨none, [], 0, hc, ⟨fun _ => Lst.nil _ _, by simp, by simp, fun _ => rfl, fun x hx => by cases hx⟩⟩
 ·have hml : len0 ≤ mm := by rw [hm]; split <;> omega
  have hall : ∀ i, i < len0 → ∃ x : Gt, (W.cell? (a.add (i * 4 + 0)) = some (.string x.name) ∧ W.cell? (a.add (i * 4 + 1)) = some (.int .i64 x.a) ∧ W.cell? (a.add (i * 4 + 2)) = some (.int .i64 x.b) ∧ W.cell? (a.add (i * 4 + 3)) = some (.int .i64 x.most)) ∧ GtOk x := by
   intro i hi0
   obtain ⟨ys, n, _, _, _, hf⟩ := hi i (by omega)
   obtain ⟨v0, y0, c0, _, r0⟩ := hf 0 _ rfl
   obtain ⟨z0, e0, _, k0⟩ := DataW.trod_string Tryz.underlying9 r0
   simp only [List.cons.injEq, and_true] at e0
   subst e0
   obtain ⟨v1, y1, c1, _, r1⟩ := hf 1 _ rfl
   obtain ⟨z1, e1, _, k1⟩ := DataW.trod_int Tryz.underlying3 r1
   simp only [List.cons.injEq, and_true] at e1
   subst e1
   obtain ⟨v2, y2, c2, _, r2⟩ := hf 2 _ rfl
   obtain ⟨z2, e2, _, k2⟩ := DataW.trod_int Tryz.underlying3 r2
   simp only [List.cons.injEq, and_true] at e2
   subst e2
   obtain ⟨v3, y3, c3, _, r3⟩ := hf 3 _ rfl
   obtain ⟨z3, e3, _, k3⟩ := DataW.trod_int Tryz.underlying3 r3
   simp only [List.cons.injEq, and_true] at e3
   subst e3
   exact ⟨⟨z0, z1, z2, z3⟩, ⟨c0, c1, c2, c3⟩, k0, k1, k2, k3⟩
  obtain ⟨l, hlen, hat⟩ := list_some hall
  subst hlen
  refine ⟨some a, l, _, hc, ⟨fun hb => ⟨hb, fun hne => ?_⟩, by omega, hl, (fun e => by cases e), fun x hx => ?_⟩⟩
  ·have h0 : 0 < l.length := List.length_pos_iff.2 hne
   obtain ⟨x0, hx0⟩ := some_at h0
   have hs := spot_of a W _ (by simpa using (hat 0 x0 hx0).1.1)
   refine ⟨a.block, a.off, by rw [← hs], fun k x hk => ?_⟩
   obtain ⟨c0, c1, c2, c3⟩ := (hat k x hk).1
   intro j u hj
   match j, hj with
   | 0, hj => exact (Option.some.inj hj) ▸ add_cell2 a _ _ _ 0 W _ hs c0
   | 1, hj => exact (Option.some.inj hj) ▸ add_cell2 a _ _ _ 1 W _ hs c1
   | 2, hj => exact (Option.some.inj hj) ▸ add_cell2 a _ _ _ 2 W _ hs c2
   | 3, hj => exact (Option.some.inj hj) ▸ add_cell2 a _ _ _ 3 W _ hs c3
   | j + 4, hj => simp [gtC] at hj
  ·obtain ⟨i, hi⟩ := List.mem_iff_getElem?.1 hx
   exact (hat i x hi).2
def RpW (x : Rp) : Prop := (Lit.int .i64 x.id).wf = true ∧ (Lit.int .i64 x.known).wf = true ∧ (Lit.int .u8 x.kind).wf = true ∧ (Lit.int .i64 x.owner).wf = true ∧ x.sort.size ≤ maxLen ∧ (Lit.int .i64 x.plc).wf = true ∧ (Lit.int .i64 x.tick).wf = true ∧ (Lit.int .i64 x.low).wf = true ∧ (Lit.int .i64 x.high).wf = true ∧ (Lit.int .i64 x.void).wf = true
theorem open_rps_run {fuel : Nat} {sp : Nat → Bool} {held : Bool} {cs : List Value} {x : DataW H × List MemPlace} (hf : DataW.trod enc Tryz.prog W 0 sp held fuel 37 cs = some x) :
  ∃ (a : Option Addr) (l : List Rp) (cap : Nat), cs = [.slice a l.length cap] ∧ SlArg rpC 10 RpW W l a cap := by
 rcases open_slice_fields Tryz.underlying37 Tryz.underlying39 (by kernel_rfl) (by kernel_rfl) hf with ⟨hc, hx⟩ | ⟨a, len0, cap0, mm, D, Pq, hc, _, hl, hcap, hm, hx, hi⟩
 ·exact ⟨none, [], 0, hc, ⟨fun _ => Lst.nil _ _, by simp, by simp, fun _ => rfl, fun x hx => by cases hx⟩⟩
 ·have hml : len0 ≤ mm := by rw [hm]; split <;> omega
  have hall : ∀ i, i < len0 → ∃ x : Rp, (W.cell? (a.add (i * 10 + 0)) = some (.int .i64 x.id) ∧ W.cell? (a.add (i * 10 + 1)) = some (.int .i64 x.known) ∧ W.cell? (a.add (i * 10 + 2)) = some (.int .u8 x.kind) ∧ W.cell? (a.add (i * 10 + 3)) = some (.int .i64 x.owner) ∧ W.cell? (a.add (i * 10 + 4)) = some (.string x.sort) ∧ W.cell? (a.add (i * 10 + 5)) = some (.int .i64 x.plc) ∧ W.cell? (a.add (i * 10 + 6)) = some (.int .i64 x.tick) ∧ W.cell? (a.add (i * 10 + 7)) = some (.int .i64 x.low) ∧ W.cell? (a.add (i * 10 + 8)) = some (.int .i64 x.high) ∧ W.cell? (a.add (i * 10 + 9)) = some (.int .i64 x.void)) ∧ RpW x := by
   intro i hi0
   obtain ⟨ys, n, _, _, _, hf⟩ := hi i (by omega)
   obtain ⟨v0, y0, c0, _, r0⟩ := hf 0 _ rfl
   obtain ⟨z0, e0, _, k0⟩ := DataW.trod_int Tryz.underlying3 r0
   simp only [List.cons.injEq, and_true] at e0
   subst e0
   obtain ⟨v1, y1, c1, _, r1⟩ := hf 1 _ rfl
   obtain ⟨z1, e1, _, k1⟩ := DataW.trod_int Tryz.underlying3 r1
   simp only [List.cons.injEq, and_true] at e1
   subst e1
   obtain ⟨v2, y2, c2, _, r2⟩ := hf 2 _ rfl
   obtain ⟨z2, e2, _, k2⟩ := DataW.trod_int Tryz.underlying5 r2
   simp only [List.cons.injEq, and_true] at e2
   subst e2
   obtain ⟨v3, y3, c3, _, r3⟩ := hf 3 _ rfl
   obtain ⟨z3, e3, _, k3⟩ := DataW.trod_int Tryz.underlying3 r3
   simp only [List.cons.injEq, and_true] at e3
   subst e3
   obtain ⟨v4, y4, c4, _, r4⟩ := hf 4 _ rfl
   obtain ⟨z4, e4, _, k4⟩ := DataW.trod_string Tryz.underlying9 r4
   simp only [List.cons.injEq, and_true] at e4
   subst e4
   obtain ⟨v5, y5, c5, _, r5⟩ := hf 5 _ rfl
   obtain ⟨z5, e5, _, k5⟩ := DataW.trod_int Tryz.underlying3 r5
   simp only [List.cons.injEq, and_true] at e5
   subst e5
   obtain ⟨v6, y6, c6, _, r6⟩ := hf 6 _ rfl
   obtain ⟨z6, e6, _, k6⟩ := DataW.trod_int Tryz.underlying3 r6
   simp only [List.cons.injEq, and_true] at e6
   subst e6
   obtain ⟨v7, y7, c7, _, r7⟩ := hf 7 _ rfl
   obtain ⟨z7, e7, _, k7⟩ := DataW.trod_int Tryz.underlying3 r7
   simp only [List.cons.injEq, and_true] at e7
   subst e7
   obtain ⟨v8, y8, c8, _, r8⟩ := hf 8 _ rfl
   obtain ⟨z8, e8, _, k8⟩ := DataW.trod_int Tryz.underlying3 r8
   simp only [List.cons.injEq, and_true] at e8
   subst e8
   obtain ⟨v9, y9, c9, _, r9⟩ := hf 9 _ rfl
   obtain ⟨z9, e9, _, k9⟩ := DataW.trod_int Tryz.underlying3 r9
   simp only [List.cons.injEq, and_true] at e9
   subst e9
   exact ⟨⟨z0, z1, z2, z3, z4, z5, z6, z7, z8, z9⟩, ⟨c0, c1, c2, c3, c4, c5, c6, c7, c8, c9⟩, k0, k1, k2, k3, k4, k5, k6, k7, k8, k9⟩
  obtain ⟨l, hlen, hat⟩ := list_some hall
  subst hlen
  refine ⟨some a, l, _, hc, ⟨fun hb => ⟨hb, fun hne => ?_⟩, by omega, hl, (fun e => by cases e), fun x hx => ?_⟩⟩
  ·have h0 : 0 < l.length := List.length_pos_iff.2 hne
   obtain ⟨x0, hx0⟩ := some_at h0
   have hs := spot_of a W _ (by simpa using (hat 0 x0 hx0).1.1)
   refine ⟨a.block, a.off, by rw [← hs], fun k x hk => ?_⟩
   obtain ⟨c0, c1, c2, c3, c4, c5, c6, c7, c8, c9⟩ := (hat k x hk).1
   intro j u hj
   match j, hj with
   | 0, hj => exact (Option.some.inj hj) ▸ add_cell2 a _ _ _ 0 W _ hs c0
   | 1, hj => exact (Option.some.inj hj) ▸ add_cell2 a _ _ _ 1 W _ hs c1
   | 2, hj => exact (Option.some.inj hj) ▸ add_cell2 a _ _ _ 2 W _ hs c2
   | 3, hj => exact (Option.some.inj hj) ▸ add_cell2 a _ _ _ 3 W _ hs c3
   | 4, hj => exact (Option.some.inj hj) ▸ add_cell2 a _ _ _ 4 W _ hs c4
   | 5, hj => exact (Option.some.inj hj) ▸ add_cell2 a _ _ _ 5 W _ hs c5
   | 6, hj => exact (Option.some.inj hj) ▸ add_cell2 a _ _ _ 6 W _ hs c6
   | 7, hj => exact (Option.some.inj hj) ▸ add_cell2 a _ _ _ 7 W _ hs c7
   | 8, hj => exact (Option.some.inj hj) ▸ add_cell2 a _ _ _ 8 W _ hs c8
   | 9, hj => exact (Option.some.inj hj) ▸ add_cell2 a _ _ _ 9 W _ hs c9
   | j + 10, hj => simp [rpC] at hj
  ·obtain ⟨i, hi⟩ := List.mem_iff_getElem?.1 hx
   exact (hat i x hi).2
theorem open_log {base : Nat} {v : Value} {d : DataW H} {p : List MemPlace} (hv : Value.okWide Tryz.prog W .any base 37 v) (h : DataW.Trod enc Tryz.prog W 0 (fun _ => true) true 37 v d p) :
  ∃ (a : Option Addr) (l : List Rp) (cap : Nat), v = .slice a l.length cap ∧ SlArg rpC 10 RpW W l a cap := by
 obtain ⟨a0, len0, cap0, rfl⟩ := okWide_slice Tryz.underlying37 hv
 obtain ⟨fuel, hf⟩ := h
 obtain ⟨a, l, cap, hc, ha⟩ := open_rps_run hf
 refine ⟨a, l, cap, ?_, ha⟩
 simpa [Value.cells] using hc
structure Fm.Arg (m : Fm) (W : World) : Prop where
 pl : SlArg plC 2 PlOk W m.f.places m.pa m.pc
 gt : SlArg gtC 4 GtOk W m.f.gates m.ga m.gc
 t : (Lit.int .i64 m.f.ticks).wf = true
 y : (Lit.int .i64 m.f.yields).wf = true
theorem open_fell {base : Nat} {v : Value} {d : DataW H} {p : List MemPlace} (hv : Value.okWide Tryz.prog W .any base 25 v) (h : DataW.Trod enc Tryz.prog W 0 (fun _ => true) true 25 v d p) :
  ∃ m : Fm, v = m.v ∧ m.Arg W := by
 obtain ⟨v0, v1, v2, v3, y0, y1, y2, y3, n, rfl, _, _, h0, h1, h2, h3⟩ := open_agg4 Tryz.underlying25 (by kernel_rfl) (by kernel_rfl) hv h
 obtain ⟨z0, e0, _, k0⟩ := DataW.trod_int Tryz.underlying3 h0
 obtain ⟨z1, e1, _, k1⟩ := DataW.trod_int Tryz.underlying3 h1
 obtain ⟨pa, pl, pc, e2, hp⟩ := open_pls_run h2
 obtain ⟨ga, gt, gc, e3, hg⟩ := open_gts_run h3
 simp only [List.cons.injEq, and_true] at e0 e1 e2 e3
 subst e0 e1 e2 e3
 exact ⟨⟨⟨z0, z1, pl, gt⟩, pa, pc, ga, gc⟩, rfl, hp, hg, k0, k1⟩
theorem open_report {base : Nat} {v : Value} {d : DataW H} {p : List MemPlace} (hv : Value.okWide Tryz.prog W .any base 39 v) (h : DataW.Trod enc Tryz.prog W 0 (fun _ => true) true 39 v d p) :
  ∃ x : Rp, v = x.v ∧ RpW x ∧ p = [] := by
 obtain ⟨v0, v1, v2, v3, v4, v5, v6, v7, v8, v9, y0, y1, y2, y3, y4, y5, y6, y7, y8, y9, n, rfl, _, hp, h0, h1, h2, h3, h4, h5, h6, h7, h8, h9⟩ := open_agg10 Tryz.underlying39 (by kernel_rfl) (by kernel_rfl) hv h
 obtain ⟨z0, e0, d0, k0⟩ := DataW.trod_int Tryz.underlying3 h0
 obtain ⟨z1, e1, d1, k1⟩ := DataW.trod_int Tryz.underlying3 h1
 obtain ⟨z2, e2, d2, k2⟩ := DataW.trod_int Tryz.underlying5 h2
 obtain ⟨z3, e3, d3, k3⟩ := DataW.trod_int Tryz.underlying3 h3
 obtain ⟨z4, e4, d4, k4⟩ := DataW.trod_string Tryz.underlying9 h4
 obtain ⟨z5, e5, d5, k5⟩ := DataW.trod_int Tryz.underlying3 h5
 obtain ⟨z6, e6, d6, k6⟩ := DataW.trod_int Tryz.underlying3 h6
 obtain ⟨z7, e7, d7, k7⟩ := DataW.trod_int Tryz.underlying3 h7
 obtain ⟨z8, e8, d8, k8⟩ := DataW.trod_int Tryz.underlying3 h8
 obtain ⟨z9, e9, d9, k9⟩ := DataW.trod_int Tryz.underlying3 h9
 simp only [List.cons.injEq, and_true] at e0 e1 e2 e3 e4 e5 e6 e7 e8 e9
 subst e0 e1 e2 e3 e4 e5 e6 e7 e8 e9 d0 d1 d2 d3 d4 d5 d6 d7 d8 d9
 exact ⟨⟨z0, z1, z2, z3, z4, z5, z6, z7, z8, z9⟩, rfl, ⟨k0, k1, k2, k3, k4, k5, k6, k7, k8, k9⟩, hp⟩
theorem nums_of {a : Option Addr} {l : List Int} (h : Ints W a l) : Nums W a l := ⟨h.1, fun hne => by
 obtain ⟨b, o, ha, hk⟩ := h.2 hne
 refine ⟨b, o, ha, fun k x hx j u hj => ?_⟩
 have hl := some_lt hx
 have e : it l k = x := by simp [it, hx]
 have h0 : j = 0 := by have := (List.getElem?_eq_some_iff.1 hj).1; simp [numC] at this; omega
 subst h0
 simp [numC] at hj
 subst hj
 have := hk k hl
 rw [e] at this
 simpa using this⟩
theorem slarg_later {α : Type} {e : α → List Value} {n : Nat} {ok : α → Prop} {W' : World} {l : List α} {a : Option Addr} {cap : Nat} (h : SlArg e n ok W l a cap) (hb : Below W.heap.size W W') : SlArg e n ok W' l a cap :=
 ⟨fun hl => (h.lst hl).later hb, h.most, h.room, h.none, h.all⟩
theorem Fm.Arg.later {m : Fm} {W' : World} (h : m.Arg W) (hb : Below W.heap.size W W') : m.Arg W' :=
 ⟨⟨fun hl => (h.pl.lst hl).later hb, h.pl.most, h.pl.room, h.pl.none, h.pl.all⟩, ⟨fun hl => (h.gt.lst hl).later hb, h.gt.most, h.gt.room, h.gt.none, h.gt.all⟩, h.t, h.y⟩
theorem rpW_ok {x : Rp} (h : RpW x) : 0 ≤ x.kind ∧ x.kind ≤ 255 := by
 have h2 := h.2.2.1
 unfold Lit.wf at h2
 simp only [Bool.and_eq_true, decide_eq_true_eq] at h2
 exact h2
end
end Go.Proofs.YtlppdgaogdpajaaGreatDoor
