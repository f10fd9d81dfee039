/- This text is a part of the proof: RefCounting, RefCountTop, RefInsert, RefSorts, RefSame, EqualI, SizedOf. -/
import Derived.Test.YtlppdgaogdpajaaGreatDoorLCounting3
set_option maxRecDepth 100000
set_option maxHeartbeats 8000000
namespace Go.Proofs.YtlppdgaogdpajaaGreatDoor
open Go.RowKit Go.Shelf
attribute [local go_sem] Oper.semAt_some
theorem c_rcounting (l : List Rp) (a : Option Addr) (cap : Nat) (known : Int) (w : World) (hl : Rps w a l) (hs : l.length ≤ 100000) : Calls Tryz.prog 128 #[.slice a l.length cap, .int .i64 known] w fun e w' => ∃ v, e = .returned v ∧ OwnR w' w.heap.size v (countL l known) ∧ Below w.heap.size w w' := by
 have HL := Lib.hid hl
 obtain ⟨i0, hi0, hz0, hz1, hz2⟩ := info_parts rp_info
 clear hl
 go_enter Tryz.func128, Tryz.ntmps128
 go_wp2
 go_loopw [5, 6] (fun v5 v6 wr => ∃ k : Nat, k ≤ l.length ∧ v6 = .int .i64 k ∧ OwnR wr w.heap.size v5 (rcountK l known k) ∧ Below w.heap.size w wr) (fun _ v6 _ => l.length - (intOf v6).toNat)
 case atStart => exact ⟨0, by omega, rfl, World.ownsRow_nil _ _ _ _, by go_grown⟩
 case round =>
  obtain ⟨k, hk, rfl, hown, hb⟩ := hrel
  have HO := Lib.hid hown
  have HB := Lib.hid hb
  obtain ⟨W7, hW7⟩ : ∃ x, x = wr := ⟨_, rfl⟩
  subst hW7
  clear hown
  by_cases hlt : k < l.length
  ·obtain ⟨x, hx⟩ := some_at hlt
   obtain ⟨b, o, rfl, hat⟩ := (HL.out.later hb).at hx
   obtain ⟨r0, r1, r2, r3, r4, r5, r6, r7, r8, r9⟩ := rp_cells hat
   have hi1 : ¬ (k : Int) < 0 := by omega
   have hi2 : (k : Int) < (l.length : Int) := by omega
   have hst := rcountK_step (known := known) hx
   have HST := Lib.hid hst
   have HAT := Lib.hid hat
   have h0 := cntK_0 l known x
   have hst2 := fun (y : Rp) (j : Nat) (hy : l[j]? = some y) => cntK_step (known := known) (x := x) hy
   have hal := cntK_all l known x
   generalize hC : cntK l known x = C at *
   obtain ⟨d1, hd1⟩ : ∃ d, (x.kind != 8) = d := ⟨_, rfl⟩
   obtain ⟨d2, hd2⟩ : ∃ d, decide (x.known ≤ known) = d := ⟨_, rfl⟩
   rw [hd1, hd2] at h0
   have H0 := Lib.hid h0
   have H2 := Lib.hid hst2
   have HAL := Lib.hid hal
   have hck := rcountK_len l known k
   clear hx hat hst h0 hst2 hal hC hb
   have hC0 : C 0 = (d1 && d2) := H0.out
   have hd3 : (d1 && d2) = C 0 := hC0.symm
   have HD3 := Lib.hid hd3
   clear hC0 hd3
   cases d1 <;> cases d2
   all_goals
    go_wp2
    go_loopw [7, 8] (fun v7 v8 wi => ∃ j : Nat, j ≤ l.length ∧ v8 = .int .i64 j ∧ v7 = .bool (C j) ∧ Below W7.heap.size W7 wi) (fun _ v8 _ => l.length - (intOf v8).toNat)
    case atStart => exact ⟨0, by omega, rfl, by rw [← HD3.out]; rfl, Below.refl _ _⟩
    case round =>
     obtain ⟨j, hj, rfl, rfl, hb0⟩ := hrel
     obtain ⟨c, hc⟩ : ∃ c, C j = c := ⟨_, rfl⟩
     rw [hc]
     have hat := HAT.out.later hb0
     obtain ⟨r0, r1, r2, r3, r4, r5, r6, r7, r8, r9⟩ := rp_cells hat
     by_cases hlj : j < l.length
     ·obtain ⟨y, hy⟩ := some_at hlj
      obtain ⟨bb, oo, hbb, hyt⟩ := (HL.out.later (bthen HB.out hb0)).at hy
      cases hbb
      obtain ⟨y0, y1, y2, y3, y4, y5, y6, y7, y8, y9⟩ := rp_cells hyt
      have hj1 : ¬ (j : Int) < 0 := by omega
      have hj2 : (j : Int) < (l.length : Int) := by omega
      have hst := H2.out y j hy
      rw [hc] at hst
      unfold voidB at hst
      obtain ⟨e1, he1⟩ : ∃ d, (y.kind == 8) = d := ⟨_, rfl⟩
      obtain ⟨e2, he2⟩ : ∃ d, (y.void == x.id) = d := ⟨_, rfl⟩
      obtain ⟨e3, he3⟩ : ∃ d, decide (y.known ≤ known) = d := ⟨_, rfl⟩
      rw [he1, he2, he3] at hst
      have HS := Lib.hid hst
      clear hy hyt hst hat hc
      cases e1 <;> cases e2 <;> cases e3
      all_goals
       go_upto_region 9 with (fail)
       have kr0 := later_cell r0
       have ky1 := later_cell y1
       have ky2 := later_cell y2
       have ky9 := later_cell y9
       refine wp_region_later wr (by kernel_rfl) (by kernel_rfl) (Below.refl _ _) ?_
       repeat (go_big_quiet_step (fail))
       refine wpQuiet_nil ?_
       rintro ⟨W21, hB⟩
       dsimp only
       have hc := (bcell hB).1
       have hf := (bcell hB).2
       have hz := hB.size
       clear kr0 ky1 ky2 ky9
       have zz := cy4 hc r0 y1 y2 y9
       clear r0 y1 y2 y9
       obtain ⟨r0, y1, y2, y9⟩ := zz
       replace hb0 : Below W7.heap.size W7 W21 := bthen hb0 hB
       have hzW21 : wr.heap.size ≤ W21.heap.size := hz
       clear hc hf hB hz
       have HB2 := Lib.hid hb0
       clear r0 y1 y2 y9 hb0
       go_wp2
       go_roundw
       case rel => exact ⟨j + 1, by omega, by go_num, by rw [HS.out]; cases c <;> rfl, HB2.out⟩
       case measure => simp [intOf]; omega
     ·obtain rfl : j = l.length := by omega
      have hj2 : ¬ (l.length : Int) < (l.length : Int) := by omega
      have hst := HST.out
      rw [← HAL.out, hc] at hst
      have HST2 := Lib.hid hst
      clear hst hc
      cases c
      ·have HB3 := Lib.hid hb0
       clear r0 r1 r2 r3 r4 r5 r6 r7 r8 r9 hat hb0
       go_wp2
       go_roundw
       case rel => exact ⟨k + 1, by omega, by go_num, by rw [HST2.out, if_neg Bool.false_ne_true]; exact own_below HO.out HB3.out, bthen HB.out HB3.out⟩
       case measure => simp [intOf]; omega
      ·have hown := own_below HO.out hb0
       have hb2 := bthen HB.out hb0
       have HO2 := Lib.hid hown
       have hzb := hb2.size
       have zr := cell_lt r0
       clear hown hat
       go_wp2_with (at_builtin; refine stuckHere ?_)
       refine unHid ?_
       refine wpList_append_own_at _ rfl _ _ 37 rfl w.heap.size 39 i0 _ 10 88 Tryz.underlying37 hi0 hz0 hz1 hz2 rfl (by decide) _ _ _ rfl (HO2.out.alloc _) ⟨_, 0, none⟩ 1 1 (rpC x) rfl rfl (cells_new _ #[_, _, _, _, _, _, _, _, _, _] _) (rpC_one1 x) (by unfold maxLen; omega) (by omega) (by simp; omega) ?_
       intro v' w1 hown' hgrow _ hat
       have hbb : Below w.heap.size w w1 := (hb2.alloc hb2.size _).trans ((kept_of_grown hgrow).below (by simp; omega) (fun j hj => (HO2.out.lt j hj).1))
       have HB2 := Lib.hid hbb
       have HW2 := Lib.hid (ownR_snoc hown')
       clear hown' hgrow hat hbb hb2 hb0 r0 r1 r2 r3 r4 r5 r6 r7 r8 r9
       go_wp2
       go_roundw
       case rel => exact ⟨k + 1, by omega, by go_num, by rw [HST2.out, if_pos trivial]; exact HW2.out, HB2.out⟩
       case measure => simp [intOf]; omega
  ·obtain rfl : k = l.length := by omega
   have hi2 : ¬ (l.length : Int) < (l.length : Int) := by omega
   clear hb
   go_wp2
   go_ret
   exact ⟨_, rfl, by have := HO.out; rw [rcountK_all] at this; exact this, HB.out⟩
theorem c_rCounting_no (m : Fm) (l : List Rp) (a : Option Addr) (cap : Nat) (known : Int) (w : World) (hm : m.In w) (hs : Sized m.f) (hl : Rps w a l) (hok : ∀ y ∈ l, RpOk y) (hz : ∀ y ∈ l, y.sort.size ≤ 1000000) (hcap : l.length ≤ cap) (h : (checkV m.f l).2 ≠ 0) : Calls Tryz.prog 74 #[m.v, .slice a l.length cap, .int .i64 known] w (GivesR ([], (checkV m.f l).2) w) := by
 have hC := fun W (hb : Below w.heap.size w W) => c_rCheckLog m l a cap W (hm.later hb) hs (hl.later hb) hok hz hcap
 generalize checkV m.f l = R at *
 obtain ⟨i, E⟩ := R
 dsimp only at h hC ⊢
 have he : (E != 0) = true := bne_iff_ne.2 h
 have HC := Lib.hid hC
 clear hC h hm hs hl hok hz hcap
 go_enter Tryz.func74, Tryz.ntmps74
 go_upto_region 1 with (fail)
 go_name_world W1 hW1
 have hb0 : Below w.heap.size w W1 := by subst hW1; go_grown
 obtain ⟨q0, q1, q2, q3⟩ := (show QB m W1 w.heap.size from by subst hW1; and_intros <;> go_simp)
 clear hW1 
 go_wp2_with fail
 refine (HC.out _ hb0).mono ?_
 rintro E W2 ⟨rfl, hB⟩
 have hc := (bcell hB).1
 have zz := cy4 hc q0 q1 q2 q3
 clear q0 q1 q2 q3
 obtain ⟨q0, q1, q2, q3⟩ := zz
 replace hb0 := bthen hb0 hB
 clear hc hB
 go_wp2
 go_ret2
 exact ⟨_, rfl, World.ownsRow_nil _ _ _ _, hb0⟩
theorem c_rCounting_ok (m : Fm) (l : List Rp) (a : Option Addr) (cap : Nat) (known : Int) (w : World) (hm : m.In w) (hs : Sized m.f) (hl : Rps w a l) (hok : ∀ y ∈ l, RpOk y) (hz : ∀ y ∈ l, y.sort.size ≤ 1000000) (hcap : l.length ≤ cap) (h : (checkV m.f l).2 = 0) (hsm : l.length ≤ 100000) : Calls Tryz.prog 74 #[m.v, .slice a l.length cap, .int .i64 known] w (GivesR (countL l known, 0) w) := by
 have hC := fun W (hb : Below w.heap.size w W) => c_rCheckLog m l a cap W (hm.later hb) hs (hl.later hb) hok hz hcap
 have hN := fun W (hb : Below w.heap.size w W) => c_rcounting l a cap known W (hl.later hb) hsm
 generalize checkV m.f l = R at *
 obtain ⟨i, E⟩ := R
 dsimp only at h hC ⊢
 subst h
 have HC := Lib.hid hC
 have HN := Lib.hid hN
 clear hC hN hm hs hl hok hz hcap hsm
 go_enter Tryz.func74, Tryz.ntmps74
 go_upto_region 1 with (fail)
 go_name_world W1 hW1
 have hb0 : Below w.heap.size w W1 := by subst hW1; go_grown
 obtain ⟨q0, q1, q2, q3⟩ := (show QB m W1 w.heap.size from by subst hW1; and_intros <;> go_simp)
 clear hW1 
 go_wp2_with fail
 refine (HC.out _ hb0).mono ?_
 rintro E W2 ⟨rfl, hB⟩
 have hc := (bcell hB).1
 have zz := cy4 hc q0 q1 q2 q3
 clear q0 q1 q2 q3
 obtain ⟨q0, q1, q2, q3⟩ := zz
 replace hb0 := bthen hb0 hB
 clear hc hB
 go_wp2_with fail
 refine (HN.out _ hb0).mono ?_
 rintro E W3 ⟨cv, rfl, ho, hB⟩
 have hc := (bcell hB).1
 have zz := cy4 hc q0 q1 q2 q3
 clear q0 q1 q2 q3
 obtain ⟨q0, q1, q2, q3⟩ := zz
 have hzb := hb0.size
 replace ho : OwnR W3 w.heap.size cv (countL l known) := ownsRow_base ho hzb
 replace hb0 := bthen hb0 hB
 clear hc hB hzb
 have HO := Lib.hid ho
 clear ho q0 q1 q2 q3
 go_wp2
 go_ret2
 exact ⟨_, rfl, HO.out, hb0⟩
theorem c_rOwners_no (m : Fm) (l : List Rp) (a : Option Addr) (cap : Nat) (known : Int) (w : World) (hm : m.In w) (hs : Sized m.f) (hl : Rps w a l) (hok : ∀ y ∈ l, RpOk y) (hz : ∀ y ∈ l, y.sort.size ≤ 1000000) (hcap : l.length ≤ cap) (h : (checkV m.f l).2 ≠ 0) : Calls Tryz.prog 76 #[m.v, .slice a l.length cap, .int .i64 known] w (GivesN ([], (checkV m.f l).2) w) := by
 have hC := fun W (hb : Below w.heap.size w W) => c_rCheckLog m l a cap W (hm.later hb) hs (hl.later hb) hok hz hcap
 generalize checkV m.f l = R at *
 obtain ⟨i, E⟩ := R
 dsimp only at h hC ⊢
 have he : (E != 0) = true := bne_iff_ne.2 h
 have HC := Lib.hid hC
 clear hC h hm hs hl hok hz hcap
 go_enter Tryz.func76, Tryz.ntmps76
 go_upto_region 1 with (fail)
 go_name_world W1 hW1
 have hb0 : Below w.heap.size w W1 := by subst hW1; go_grown
 obtain ⟨q0, q1, q2, q3⟩ := (show QB m W1 w.heap.size from by subst hW1; and_intros <;> go_simp)
 clear hW1 
 go_wp2_with fail
 refine (HC.out _ hb0).mono ?_
 rintro E W2 ⟨rfl, hB⟩
 have hc := (bcell hB).1
 have zz := cy4 hc q0 q1 q2 q3
 clear q0 q1 q2 q3
 obtain ⟨q0, q1, q2, q3⟩ := zz
 replace hb0 := bthen hb0 hB
 clear hc hB
 go_wp2
 go_ret2
 exact ⟨_, rfl, World.ownsRow_nil _ _ _ _, hb0⟩
theorem c_rOwners_ok (m : Fm) (l : List Rp) (a : Option Addr) (cap : Nat) (known : Int) (w : World) (hm : m.In w) (hs : Sized m.f) (hl : Rps w a l) (hok : ∀ y ∈ l, RpOk y) (hz : ∀ y ∈ l, y.sort.size ≤ 1000000) (hcap : l.length ≤ cap) (h : (checkV m.f l).2 = 0) (hsm : l.length ≤ 100000) : Calls Tryz.prog 76 #[m.v, .slice a l.length cap, .int .i64 known] w (GivesN (rownK (countL l known) 40, 0) w) := by
 have hC := fun W (hb : Below w.heap.size w W) => c_rCheckLog m l a cap W (hm.later hb) hs (hl.later hb) hok hz hcap
 have hN := fun W (hb : Below w.heap.size w W) => c_rcounting l a cap known W (hl.later hb) hsm
 generalize checkV m.f l = R at *
 obtain ⟨i, E⟩ := R
 dsimp only at h hC ⊢
 subst h
 have hLL : (countL l known).length ≤ 100000 := Nat.le_trans (List.length_filter_le _ _) hsm
 obtain ⟨i0, hi0, hz0, hz1, hz2⟩ := info_parts num_info
 have HC := Lib.hid hC
 have HN := Lib.hid hN
 clear hC hN hm hs hl hok hz hcap hsm
 go_enter Tryz.func76, Tryz.ntmps76
 go_upto_region 1 with (fail)
 go_name_world W1 hW1
 have hb0 : Below w.heap.size w W1 := by subst hW1; go_grown
 obtain ⟨q0, q1, q2, q3⟩ := (show QB m W1 w.heap.size from by subst hW1; and_intros <;> go_simp)
 clear hW1 
 go_wp2_with fail
 refine (HC.out _ hb0).mono ?_
 rintro E W2 ⟨rfl, hB⟩
 have hc := (bcell hB).1
 have zz := cy4 hc q0 q1 q2 q3
 clear q0 q1 q2 q3
 obtain ⟨q0, q1, q2, q3⟩ := zz
 replace hb0 := bthen hb0 hB
 clear hc hB
 go_wp2_with fail
 refine (HN.out _ hb0).mono ?_
 rintro E W3 ⟨cv, rfl, ho, hB⟩
 have hc := (bcell hB).1
 have zz := cy4 hc q0 q1 q2 q3
 clear q0 q1 q2 q3
 obtain ⟨q0, q1, q2, q3⟩ := zz
 have hzb := hb0.size
 replace ho : OwnR W3 w.heap.size cv (countL l known) := ownsRow_base ho hzb
 replace hb0 := bthen hb0 hB
 clear hc hB hzb
 obtain ⟨L, hL⟩ : ∃ L, countL l known = L := ⟨_, rfl⟩
 rw [hL] at ho hLL
 have HLE := Lib.hid hL
 obtain ⟨lb, lc, rfl, _, _, hll, _⟩ := Lst.own rpC_len ho
 have HLL := Lib.hid (hll (by omega))
 have HB0 := Lib.hid hb0
 have hzW := hb0.size
 clear ho hll q0 q1 q2 q3 hb0 hL
 go_wp2
 go_loopw [11, 12] (fun v11 v12 wr => ∃ k : Nat, k ≤ 40 ∧ v12 = .int .i64 ((k : Int) + 1) ∧ OwnN wr W3.heap.size v11 (rownK L k) ∧ Below W3.heap.size W3 wr) (fun _ v12 _ => 41 - (intOf v12).toNat)
 case atStart => exact ⟨0, by omega, rfl, World.ownsRow_nil _ _ _ _, Below.refl _ _⟩
 case round =>
  obtain ⟨k, hk, rfl, hown, hb⟩ := hrel
  have HO := Lib.hid hown
  have HB := Lib.hid hb
  obtain ⟨W7, hW7⟩ : ∃ x, x = wr := ⟨_, rfl⟩
  subst hW7
  clear hown hb
  by_cases hlt : k < 40
  ·have hi1 : (k : Int) + 1 ≤ 40 := by omega
   have hst := rownK_step L k
   have hlk := rownK_len L k
   have h2 := fun (y : Rp) (j : Nat) (hy : L[j]? = some y) => hasO_step (o := (k : Int) + 1) hy
   have h0 : hasO L ((k : Int) + 1) 0 = false := by simp [hasO]
   generalize hC : hasO L ((k : Int) + 1) = C at *
   have HST := Lib.hid hst
   have H2 := Lib.hid h2
   have H0 := Lib.hid h0
   clear hst h2 h0 hC
   go_wp2
   go_loopw [13, 14] (fun v13 v14 wi => ∃ j : Nat, j ≤ L.length ∧ v14 = .int .i64 j ∧ v13 = .bool (C j) ∧ Below W7.heap.size W7 wi) (fun _ v14 _ => L.length - (intOf v14).toNat)
   case atStart => exact ⟨0, by omega, rfl, by rw [H0.out], Below.refl _ _⟩
   case round =>
    obtain ⟨j, hj, rfl, rfl, hb0⟩ := hrel
    obtain ⟨c, hc⟩ : ∃ c, C j = c := ⟨_, rfl⟩
    rw [hc]
    by_cases hlj : j < L.length
    ·obtain ⟨y, hy⟩ := some_at hlj
     obtain ⟨bb, oo, rfl, hyt⟩ := (HLL.out.later (bthen HB.out hb0)).at hy
     obtain ⟨y0, y1, y2, y3, y4, y5, y6, y7, y8, y9⟩ := rp_cells hyt
     have hj1 : ¬ (j : Int) < 0 := by omega
     have hj2 : (j : Int) < (L.length : Int) := by omega
     have hst := H2.out y j hy
     obtain ⟨e1, he1⟩ : ∃ d, (y.owner == (k : Int) + 1) = d := ⟨_, rfl⟩
     rw [hc, he1] at hst
     have HS := Lib.hid hst
     have HB2 := Lib.hid hb0
     clear hy hyt hst hc hb0 y0 y1 y2 y4 y5 y6 y7 y8 y9
     cases c
     ·cases e1
      all_goals
       go_wp2
       go_roundw
       case rel => exact ⟨j + 1, by omega, by go_num, by rw [HS.out]; rfl, HB2.out⟩
       case measure => simp [intOf]; omega
     ·clear he1 y3
      go_wp2
      go_roundw
      case rel => exact ⟨j + 1, by omega, by go_num, by rw [HS.out]; rfl, HB2.out⟩
      case measure => simp [intOf]; omega
    ·obtain rfl : j = L.length := by omega
     have hj2 : ¬ (L.length : Int) < (L.length : Int) := by omega
     have hst := HST.out
     rw [hc] at hst
     have HST2 := Lib.hid hst
     clear hst hc
     cases c
     ·have HB3 := Lib.hid hb0
      clear hb0
      go_wp2
      go_roundw
      case rel => exact ⟨k + 1, by omega, by go_num, by rw [HST2.out, if_neg Bool.false_ne_true]; exact own_below HO.out HB3.out, bthen HB.out HB3.out⟩
      case measure => simp [intOf]; omega
     ·have HO2 := Lib.hid (own_below HO.out hb0)
      have hb2 := bthen HB.out hb0
      have hzb := hb2.size
      go_wp2_with (at_builtin; refine stuckHere ?_)
      refine unHid ?_
      refine wpList_append_own_at _ rfl _ _ 75 rfl W3.heap.size 3 i0 _ 1 8 Tryz.underlying75 hi0 hz0 hz1 hz2 rfl (by decide) _ _ _ rfl (HO2.out.alloc _) ⟨_, 0, none⟩ 1 1 [.int .i64 ((k : Int) + 1)] rfl rfl (cells_new _ #[_] _) (by simp [Value.oneCell']) (by unfold maxLen; omega) (by omega) (by simp; omega) ?_
      intro v' w1 hown' hgrow _ hat
      have hown2 : OwnN w1 W3.heap.size v' (rownK L (k + 1)) := by
       rw [HST2.out, if_pos trivial]
       unfold OwnN
       rw [List.length_append, cellsL_snoc]
       exact hown'
      have hbb : Below W3.heap.size W3 w1 := (hb2.alloc hb2.size _).trans ((kept_of_grown hgrow).below (by simp; omega) (fun j hj => (HO2.out.lt j hj).1))
      have HBB := Lib.hid hbb
      have HW2 := Lib.hid hown2
      clear hown' hgrow hat hown2 hbb hb2 hb0
      go_wp2
      go_roundw
      case rel => exact ⟨k + 1, by omega, by go_num, HW2.out, HBB.out⟩
      case measure => simp [intOf]; omega
  ·obtain rfl : k = 40 := by omega
   go_wp2
   go_ret2
   exact ⟨_, rfl, by show OwnN _ _ _ (rownK (countL l known) 40); rw [HLE.out]; exact ownsRow_base HO.out hzW, bthen HB0.out HB.out⟩
theorem c_rCounting (m : Fm) (l : List Rp) (a : Option Addr) (cap : Nat) (known : Int) (w : World) (hm : m.In w) (hs : Sized m.f) (hl : Rps w a l) (hok : ∀ y ∈ l, RpOk y) (hz : ∀ y ∈ l, y.sort.size ≤ 1000000) (hcap : l.length ≤ cap) (hsm : l.length ≤ 100000) :
  Calls Tryz.prog 74 #[m.v, .slice a l.length cap, .int .i64 known] w (GivesR (countV m.f l known) w) := by
 unfold countV
 by_cases h : (checkV m.f l).2 = 0
 ·rw [if_neg (by omega)]; exact c_rCounting_ok m l a cap known w hm hs hl hok hz hcap h hsm
 ·rw [if_pos h]; exact c_rCounting_no m l a cap known w hm hs hl hok hz hcap h
theorem owners_in {f : Fe} {l : List Rp} {known : Int} (h : (checkV f l).2 = 0) : ∀ x ∈ countL l known, 1 ≤ x.owner ∧ x.owner ≤ 40 := by
 intro x hx
 have hl := check_ok h
 unfold countL at hx
 obtain ⟨h1, h2⟩ := List.mem_filter.1 hx
 have hj := hl.judged x h1
 unfold countsB at h2
 simp only [Bool.and_eq_true, bne_iff_ne] at h2
 exact (hj.tells h2.1.1).owner
theorem c_rOwners (m : Fm) (l : List Rp) (a : Option Addr) (cap : Nat) (known : Int) (w : World) (hm : m.In w) (hs : Sized m.f) (hl : Rps w a l) (hok : ∀ y ∈ l, RpOk y) (hz : ∀ y ∈ l, y.sort.size ≤ 1000000) (hcap : l.length ≤ cap) (hsm : l.length ≤ 100000) :
  Calls Tryz.prog 76 #[m.v, .slice a l.length cap, .int .i64 known] w (GivesN (ownersV m.f l known) w) := by
 unfold ownersV
 rw [countV_2]
 by_cases h : (checkV m.f l).2 = 0
 ·rw [if_neg (by omega), owners_ref (owners_in h)]; exact c_rOwners_ok m l a cap known w hm hs hl hok hz hcap h hsm
 ·rw [if_pos h]; exact c_rOwners_no m l a cap known w hm hs hl hok hz hcap h
theorem pos_true {s : ByteArray} : ∀ {l : List ByteArray} {k : Nat} {x : ByteArray}, l[k]? = some x → k < posS l s → ltS x s = true
 | [], _, _, h, _ => by simp at h
 | y :: l, k, x, h1, h2 => by
  unfold posS at h2
  rw [List.takeWhile_cons] at h2
  by_cases hy : ltS y s = true
  ·rw [if_pos hy] at h2
   cases k with
   | zero =>
    simp only [List.getElem?_cons_zero, Option.some.injEq] at h1
    subst h1
    exact hy
   | succ k => exact pos_true (l := l) (k := k) (by simpa using h1) (by unfold posS; simpa using h2)
  ·rw [if_neg hy] at h2
   simp at h2
theorem pos_false {s : ByteArray} : ∀ {l : List ByteArray} {x : ByteArray}, l[posS l s]? = some x → ltS x s = false
 | [], _, h => by simp at h
 | y :: l, x, h => by
  by_cases hy : ltS y s = true
  ·have hp : posS (y :: l) s = posS l s + 1 := by unfold posS; rw [List.takeWhile_cons, if_pos hy]; rfl
   rw [hp, List.getElem?_cons_succ] at h
   exact pos_false h
  ·have hp : posS (y :: l) s = 0 := by unfold posS; rw [List.takeWhile_cons, if_neg hy]; rfl
   rw [hp, List.getElem?_cons_zero, Option.some.injEq] at h
   subst h
   simpa using hy
theorem Lst.drop1 {α : Type} {enc : α → List Value} {w : World} {g o : Nat} {l : List α} (h : Lst enc 1 w (some ⟨g, o, none⟩) l) (k : Nat) : Lst enc 1 w (some ⟨g, o + k, none⟩) (l.drop k) :=
  ⟨by rw [List.length_drop]; exact Nat.le_trans (Nat.sub_le _ _) h.1, fun hl => by
    obtain ⟨b, o', ha, hk⟩ := h.2 (fun e => hl (by rw [e]; simp))
    cases ha
    refine ⟨g, o + k, rfl, fun j x hx => ?_⟩
    rw [List.getElem?_drop] at hx
    have := hk (k + j) x hx
    rw [Nat.mul_one] at this
    rw [Nat.mul_one, Nat.add_assoc]
    exact this⟩
theorem Lst.drop0 {α : Type} {enc : α → List Value} {w : World} {g : Nat} {l : List α} (h : Lst enc 1 w (some ⟨g, 0, none⟩) l) (k : Nat) : Lst enc 1 w (some ⟨g, k, none⟩) (l.drop k) := by
 have := h.drop1 k
 rwa [Nat.zero_add] at this
theorem strC_one1 (x : ByteArray) : ∀ u ∈ strC x, u.oneCell' = true := by
 intro u hu
 simp only [strC, List.mem_cons, List.not_mem_nil, or_false] at hu
 subst hu
 rfl
theorem str_info3 : (Tryz.prog.info? 9).map (fun i => (i.zero, i.size, i.bytes)) = some (some (.string ByteArray.empty), 1, 16) := by kernel_rfl
theorem ins_own {w : World} {n m k : Nat} {v : Value} {l : List ByteArray} {s : ByteArray} (h : w.ownsRow n 9 1 v (k + 1 + m) (cellsL strC (l.take k) ++ strC s ++ cellsL strC (l.drop k))) (he : insR s l = l.take k ++ [s] ++ l.drop k) (hk : k + m = l.length) : OwnS w n v (insR s l) := by
 have e1 : (insR s l).length = k + 1 + m := by rw [he]; simp; omega
 have e2 : cellsL strC (insR s l) = cellsL strC (l.take k) ++ strC s ++ cellsL strC (l.drop k) := by
  rw [he]
  unfold cellsL
  rw [List.flatMap_append, List.flatMap_append]
  simp
 unfold OwnS
 rw [e1, e2]
 exact h
theorem c_rInsert_nil (s : ByteArray) (w : World) : Calls Tryz.prog 159 #[.slice none 0 0, .string s] w fun e w' => ∃ v, e = .returned v ∧ OwnS w' w.heap.size v (insR s []) ∧ Below w.heap.size w w' := by
  obtain ⟨i0, hi0, hz0, hz1, hz2⟩ := info_parts str_info3
  go_enter Tryz.func159, Tryz.ntmps159
  go_wp2
  go_loopw [5] (fun v5 wr => v5 = .int .i64 0 ∧ Below w.heap.size w wr) (fun _ _ => 0)
  case atStart => exact ⟨rfl, by go_grown⟩
  case round =>
    obtain ⟨rfl, hb⟩ := hrel
    have HB := Lib.hid hb
    have HE := Lib.hid (show insR s [] = ([] : List ByteArray).take 0 ++ [s] ++ ([] : List ByteArray).drop 0 from rfl)
    have hz := hb.size
    go_upto_region 6 with (fail)
    go_region_law (first
      | (refine step_append_lst rfl (.tmp 33) (.tmp 36) 93 rfl w.heap.size 9 i0 _ 1 16 Tryz.underlying93 hi0 hz0 hz1 hz2 rfl (by decide) strC_len strC_one1 (.slice (some ⟨_, 0, none⟩) 0 0) 0 [] rfl (by first | exact own_litB _ _ _ _ _ (by first | rfl | simp) (by first | omega | (simp; omega)) | exact (own_litB _ _ _ _ _ (by first | rfl | simp) (by first | omega | (simp; omega))).alloc _) none ([] : List ByteArray) 0 _ rfl rfl (Lst.nil _ _) (by unfold maxLen; omega) (by omega) (by first | omega | (simp; omega)) ?_
         intro v' w1 hown hgrow
         have HO := Lib.hid (show w1.ownsRow w.heap.size 9 1 v' 0 (cellsL strC ([] : List ByteArray)) from by rw [Nat.zero_add, List.nil_append] at hown; exact hown)
         have HBW := Lib.hid ((show Below w.heap.size w _ from by have hb0 := HB.out; go_grown).trans ((kept_of_grown hgrow).below (by first | omega | (simp; omega)) (fun j hj => by simp [Value.ownBlock] at hj; omega)))
         have HG := Lib.hid hgrow
         clear hown hgrow)
      | (refine step_append_lies _ rfl (.tmp 37) (.tmp 39) 93 rfl w.heap.size 9 i0 _ 1 16 Tryz.underlying93 hi0 hz0 hz1 hz2 rfl (by decide) _ 0 (cellsL strC ([] : List ByteArray)) rfl (by first | exact HO.out | exact HO.out.alloc _) ⟨_, 0, none⟩ 1 1 (strC s) rfl rfl (by first | exact news_B _ #[_] _ _ (by first | rfl | simp) | exact news_grown (news_B _ #[_] _ _ (by first | rfl | simp)) HG.out (by simp [Value.ownBlock]) | exact news_grown (news_Bd _ #[_] _ _ (by first | rfl | simp)) HG.out (by simp [Value.ownBlock]) | exact news_grown (news_later (news_Bd wr #[_] _ _ (by first | rfl | simp)) (by go_grown)) HG.out (by simp [Value.ownBlock]) | exact news_grown (news_later (news_B wr #[_] _ _ (by first | rfl | simp)) (by go_grown)) HG.out (by simp [Value.ownBlock])) (strC_one1 s) (by omega) (by unfold maxLen; omega) (by omega) (by have := HBW.out.size; first | exact this | (simp; omega)) _ rfl ?_
         intro g2 cap2 w2 hown hgrow _ _
         have HO2 := Lib.hid hown
         have HBW2 := Lib.hid ((show Below w.heap.size w _ from by have hbw := HBW.out; have hbz := hbw.size; go_grown).trans ((kept_of_grown hgrow).below (by have := HBW.out.size; first | exact this | (simp; omega)) (fun j hj => (HO.out.lt j hj).1)))
         clear hown hgrow)
      | (refine step_append_lst rfl (.tmp 40) (.tmp 43) 93 rfl w.heap.size 9 i0 _ 1 16 Tryz.underlying93 hi0 hz0 hz1 hz2 rfl (by decide) strC_len strC_one1 _ _ _ rfl (by first | exact HO2.out | exact HO2.out.alloc _) none ([] : List ByteArray) (0) _ rfl rfl (Lst.nil _ _) (by unfold maxLen; omega) (by omega) (by have := HBW2.out.size; first | exact this | (simp; omega)) ?_
         intro v3 w3 hown hgrow
         have HO3 := Lib.hid hown
         have HBW3 := Lib.hid ((show Below w.heap.size w _ from by have hbw := HBW2.out; have hbz := hbw.size; go_grown).trans ((kept_of_grown hgrow).below (by have := HBW2.out.size; first | exact this | (simp; omega)) (fun j hj => (HO2.out.lt j hj).1)))
         clear hown hgrow))
    all_goals
      go_wp2
      all_goals
        go_ret
        exact ⟨_, rfl, ins_own HO3.out HE.out (by first | omega | simp), HBW3.out⟩
theorem c_rInsert_some (l : List ByteArray) (g c base : Nat) (s : ByteArray) (w : World) (how : OwnS w base (.slice (some ⟨g, 0, none⟩) l.length c) l) (hbase : base ≤ w.heap.size) (hl : l.length ≤ 1000) (hc : l.length ≤ c) (hn : Strs w (some ⟨g, 0, none⟩) l) :
    Calls Tryz.prog 159 #[.slice (some ⟨g, 0, none⟩) l.length c, .string s] w fun e w' => ∃ v, e = .returned v ∧ OwnS w' base v (insR s l) ∧ Below w.heap.size w w' := by
  obtain ⟨i0, hi0, hz0, hz1, hz2⟩ := info_parts str_info3
  have HOW := Lib.hid how
  have HN := Lib.hid hn
  clear how hn
  go_enter Tryz.func159, Tryz.ntmps159
  go_wp2
  go_loopw [5] (fun v5 wr => ∃ k : Nat, v5 = .int .i64 k ∧ k ≤ posS l s ∧ Below w.heap.size w wr) (fun v5 _ => l.length - (intOf v5).toNat)
  case atStart => exact ⟨0, rfl, Nat.zero_le _, by go_grown⟩
  case round =>
    obtain ⟨k, rfl, hk, hb⟩ := hrel
    have HB := Lib.hid hb
    have hz := hb.size
    have hpl := posS_le l s
    have hkl : k ≤ l.length := by omega
    have hkc : k ≤ c := by omega
    by_cases hlt : k < l.length
    · obtain ⟨x, hx⟩ := some_at hlt
      obtain ⟨b, o, hbo, hat⟩ := (HN.out.later hb).at hx
      cases hbo
      rw [Nat.mul_one, Nat.zero_add] at hat
      have y0 := str_cell hat
      have hi1 : ¬ (k : Int) < 0 := by omega
      have hi2 : (k : Int) < (l.length : Int) := by omega
      have hck : ¬ c = k := by omega
      obtain ⟨d, hd⟩ : ∃ d, Op.bytesLess x.toList s.toList = d := ⟨_, rfl⟩
      cases d
      case true =>
        have hk2 : k + 1 ≤ posS l s := by
          rcases Nat.lt_or_eq_of_le hk with h | h
          · exact h
          · rw [h] at hx
            have := pos_false hx
            unfold ltS at this
            rw [hd] at this
            cases this
        clear hx hat hb
        go_wp2
        go_roundw
        case rel => exact ⟨k + 1, by go_num, hk2, HB.out⟩
        case measure => simp [intOf]; omega
      case false =>
        have hkp : k = posS l s := by
          rcases Nat.lt_or_eq_of_le hk with h | h
          · have := pos_true hx h
            unfold ltS at this
            rw [hd] at this
            cases this
          · exact h
        have hin := insR_pos s l
        rw [← hkp, hx] at hin
        obtain ⟨e, he⟩ : ∃ e, (x.toList == s.toList) = e := ⟨_, rfl⟩
        cases e
        case true =>
          have hxs : x = s := toList_inj (beq_iff_eq.1 he)
          rw [if_pos (by rw [hxs])] at hin
          have HE := Lib.hid hin
          clear hin hxs hx hat hkp hpl
          go_wp2
          go_ret
          exact ⟨_, rfl, by rw [HE.out]; exact own_below HOW.out HB.out, HB.out⟩
        case false =>
          have hxs : ¬ x = s := fun h => by rw [h] at he; simp at he
          rw [if_neg (by simpa using hxs)] at hin
          have HE := Lib.hid hin
          clear hin hxs hx hat hkp hpl
          go_upto_region 6 with (fail)
          go_region_law (first
            | (refine step_append_lst rfl (.tmp 33) (.tmp 36) 93 rfl w.heap.size 9 i0 _ 1 16 Tryz.underlying93 hi0 hz0 hz1 hz2 rfl (by decide) strC_len strC_one1 (.slice (some ⟨_, 0, none⟩) 0 0) 0 [] rfl (by first | exact own_litB _ _ _ _ _ (by first | rfl | simp) (by first | omega | (simp; omega)) | exact (own_litB _ _ _ _ _ (by first | rfl | simp) (by first | omega | (simp; omega))).alloc _) (some ⟨g, 0, none⟩) (l.take k) k _ (List.length_take_of_le hkl) rfl ((HN.out.take k).later (by have hb0 := HB.out; go_grown)) (by unfold maxLen; omega) (by omega) (by first | omega | (simp; omega)) ?_
               intro v' w1 hown hgrow
               have HO := Lib.hid (show w1.ownsRow w.heap.size 9 1 v' k (cellsL strC (l.take k)) from by rw [Nat.zero_add, List.nil_append] at hown; exact hown)
               have HBW := Lib.hid ((show Below w.heap.size w _ from by have hb0 := HB.out; go_grown).trans ((kept_of_grown hgrow).below (by first | omega | (simp; omega)) (fun j hj => by simp [Value.ownBlock] at hj; omega)))
               have HG := Lib.hid hgrow
               clear hown hgrow)
            | (refine step_append_lies _ rfl (.tmp 37) (.tmp 39) 93 rfl w.heap.size 9 i0 _ 1 16 Tryz.underlying93 hi0 hz0 hz1 hz2 rfl (by decide) _ k (cellsL strC (l.take k)) rfl (by first | exact HO.out | exact HO.out.alloc _) ⟨_, 0, none⟩ 1 1 (strC s) rfl rfl (by first | exact news_B _ #[_] _ _ (by first | rfl | simp) | exact news_grown (news_B _ #[_] _ _ (by first | rfl | simp)) HG.out (by simp [Value.ownBlock]) | exact news_grown (news_Bd _ #[_] _ _ (by first | rfl | simp)) HG.out (by simp [Value.ownBlock]) | exact news_grown (news_later (news_Bd wr #[_] _ _ (by first | rfl | simp)) (by go_grown)) HG.out (by simp [Value.ownBlock]) | exact news_grown (news_later (news_B wr #[_] _ _ (by first | rfl | simp)) (by go_grown)) HG.out (by simp [Value.ownBlock])) (strC_one1 s) (by omega) (by unfold maxLen; omega) (by omega) (by have := HBW.out.size; first | exact this | (simp; omega)) _ rfl ?_
               intro g2 cap2 w2 hown hgrow _ _
               have HO2 := Lib.hid hown
               have HBW2 := Lib.hid ((show Below w.heap.size w _ from by have hbw := HBW.out; have hbz := hbw.size; go_grown).trans ((kept_of_grown hgrow).below (by have := HBW.out.size; first | exact this | (simp; omega)) (fun j hj => (HO.out.lt j hj).1)))
               clear hown hgrow)
            | (refine step_append_lst rfl (.tmp 40) (.tmp 43) 93 rfl w.heap.size 9 i0 _ 1 16 Tryz.underlying93 hi0 hz0 hz1 hz2 rfl (by decide) strC_len strC_one1 _ _ _ rfl (by first | exact HO2.out | exact HO2.out.alloc _) (some ⟨g, k, none⟩) (l.drop k) (l.length - k) _ (List.length_drop) rfl ((HN.out.drop0 k).later HBW2.out) (by unfold maxLen; omega) (by omega) (by have := HBW2.out.size; first | exact this | (simp; omega)) ?_
               intro v3 w3 hown hgrow
               have HO3 := Lib.hid hown
               have HBW3 := Lib.hid ((show Below w.heap.size w _ from by have hbw := HBW2.out; have hbz := hbw.size; go_grown).trans ((kept_of_grown hgrow).below (by have := HBW2.out.size; first | exact this | (simp; omega)) (fun j hj => (HO2.out.lt j hj).1)))
               clear hown hgrow))
          all_goals
            go_wp2
            all_goals
              go_ret
              exact ⟨_, rfl, ownsRow_base (ins_own HO3.out HE.out (by first | omega | simp)) (by omega), HBW3.out⟩
    · obtain rfl : k = l.length := by omega
      have hkp : posS l s = l.length := by omega
      have hi2 : ¬ (l.length : Int) < (l.length : Int) := by omega
      have hin := insR_pos s l
      rw [hkp, List.getElem?_eq_none (Nat.le_refl _), if_neg (by simp)] at hin
      have HE := Lib.hid hin
      clear hin hkp hpl
      go_upto_region 6 with (fail)
      go_region_law (first
        | (refine step_append_lst rfl (.tmp 33) (.tmp 36) 93 rfl w.heap.size 9 i0 _ 1 16 Tryz.underlying93 hi0 hz0 hz1 hz2 rfl (by decide) strC_len strC_one1 (.slice (some ⟨_, 0, none⟩) 0 0) 0 [] rfl (by first | exact own_litB _ _ _ _ _ (by first | rfl | simp) (by first | omega | (simp; omega)) | exact (own_litB _ _ _ _ _ (by first | rfl | simp) (by first | omega | (simp; omega))).alloc _) (some ⟨g, 0, none⟩) (l.take l.length) l.length _ (List.length_take_of_le (Nat.le_refl _)) rfl ((HN.out.take l.length).later (by have hb0 := HB.out; go_grown)) (by unfold maxLen; omega) (by omega) (by first | omega | (simp; omega)) ?_
           intro v' w1 hown hgrow
           have HO := Lib.hid (show w1.ownsRow w.heap.size 9 1 v' l.length (cellsL strC (l.take l.length)) from by rw [Nat.zero_add, List.nil_append] at hown; exact hown)
           have HBW := Lib.hid ((show Below w.heap.size w _ from by have hb0 := HB.out; go_grown).trans ((kept_of_grown hgrow).below (by first | omega | (simp; omega)) (fun j hj => by simp [Value.ownBlock] at hj; omega)))
           have HG := Lib.hid hgrow
           clear hown hgrow)
        | (refine step_append_lies _ rfl (.tmp 37) (.tmp 39) 93 rfl w.heap.size 9 i0 _ 1 16 Tryz.underlying93 hi0 hz0 hz1 hz2 rfl (by decide) _ l.length (cellsL strC (l.take l.length)) rfl (by first | exact HO.out | exact HO.out.alloc _) ⟨_, 0, none⟩ 1 1 (strC s) rfl rfl (by first | exact news_B _ #[_] _ _ (by first | rfl | simp) | exact news_grown (news_B _ #[_] _ _ (by first | rfl | simp)) HG.out (by simp [Value.ownBlock]) | exact news_grown (news_Bd _ #[_] _ _ (by first | rfl | simp)) HG.out (by simp [Value.ownBlock]) | exact news_grown (news_later (news_Bd wr #[_] _ _ (by first | rfl | simp)) (by go_grown)) HG.out (by simp [Value.ownBlock]) | exact news_grown (news_later (news_B wr #[_] _ _ (by first | rfl | simp)) (by go_grown)) HG.out (by simp [Value.ownBlock])) (strC_one1 s) (by omega) (by unfold maxLen; omega) (by omega) (by have := HBW.out.size; first | exact this | (simp; omega)) _ rfl ?_
           intro g2 cap2 w2 hown hgrow _ _
           have HO2 := Lib.hid hown
           have HBW2 := Lib.hid ((show Below w.heap.size w _ from by have hbw := HBW.out; have hbz := hbw.size; go_grown).trans ((kept_of_grown hgrow).below (by have := HBW.out.size; first | exact this | (simp; omega)) (fun j hj => (HO.out.lt j hj).1)))
           clear hown hgrow)
        | (refine step_append_lst rfl (.tmp 40) (.tmp 43) 93 rfl w.heap.size 9 i0 _ 1 16 Tryz.underlying93 hi0 hz0 hz1 hz2 rfl (by decide) strC_len strC_one1 _ _ _ rfl (by first | exact HO2.out | exact HO2.out.alloc _) (if c = l.length then some ⟨g, 0, none⟩ else some ⟨g, l.length, none⟩) (l.drop l.length) (0) _ (by simp) rfl (by rw [List.drop_length]; exact Lst.nil _ _) (by unfold maxLen; omega) (by omega) (by have := HBW2.out.size; first | exact this | (simp; omega)) ?_
           intro v3 w3 hown hgrow
           have HO3 := Lib.hid hown
           have HBW3 := Lib.hid ((show Below w.heap.size w _ from by have hbw := HBW2.out; have hbz := hbw.size; go_grown).trans ((kept_of_grown hgrow).below (by have := HBW2.out.size; first | exact this | (simp; omega)) (fun j hj => (HO2.out.lt j hj).1)))
           clear hown hgrow))
      all_goals
        go_wp2
        all_goals
          go_ret
          exact ⟨_, rfl, ownsRow_base (ins_own HO3.out HE.out (by first | omega | simp)) (by omega), HBW3.out⟩
theorem c_rInsert (l : List ByteArray) (v : Value) (base : Nat) (s : ByteArray) (w : World) (how : OwnS w base v l) (hbase : base ≤ w.heap.size) (hl : l.length ≤ 1000) :
  Calls Tryz.prog 159 #[v, .string s] w fun e w' => ∃ v', e = .returned v' ∧ OwnS w' base v' (insR s l) ∧ Below w.heap.size w w' := by
 rcases how.2 with ⟨rfl, h0⟩ | ⟨g, cap, cur, rfl, hbg, hg, hcap, _⟩
 ·obtain rfl : l = [] := List.length_eq_zero_iff.1 h0
  refine (c_rInsert_nil s w).mono ?_
  rintro e w' ⟨v, rfl, h1, h2⟩
  exact ⟨v, rfl, ownsRow_base h1 hbase, h2⟩
 ·obtain ⟨b, c, e, _, _, hn, _⟩ := Lst.own strC_len how
  injection e with e1 _ _
  subst e1
  exact c_rInsert_some l g cap base s w how hbase hl hcap (hn (by omega))
theorem c_rSorts_no (m : Fm) (l : List Rp) (a : Option Addr) (cap : Nat) (known owner : Int) (w : World) (hm : m.In w) (hs : Sized m.f) (hl : Rps w a l) (hok : ∀ y ∈ l, RpOk y) (hz : ∀ y ∈ l, y.sort.size ≤ 1000000) (hcap : l.length ≤ cap) (h : (checkV m.f l).2 ≠ 0) : Calls Tryz.prog 78 #[m.v, .slice a l.length cap, .int .i64 known, .int .i64 owner] w (GivesS2 ([], (checkV m.f l).2) w) := by
 have hC := fun W (hb : Below w.heap.size w W) => c_rCheckLog m l a cap W (hm.later hb) hs (hl.later hb) hok hz hcap
 generalize checkV m.f l = R at *
 obtain ⟨i, E⟩ := R
 dsimp only at h hC ⊢
 have he : (E != 0) = true := bne_iff_ne.2 h
 have HC := Lib.hid hC
 clear hC h hm hs hl hok hz hcap
 go_enter Tryz.func78, Tryz.ntmps78
 go_upto_region 1 with (fail)
 go_name_world W1 hW1
 have hb0 : Below w.heap.size w W1 := by subst hW1; go_grown
 obtain ⟨q0, q1, q2, q3⟩ := (show QB m W1 w.heap.size from by subst hW1; and_intros <;> go_simp)
 clear hW1 
 go_wp2_with fail
 refine (HC.out _ hb0).mono ?_
 rintro E W2 ⟨rfl, hB⟩
 have hc := (bcell hB).1
 have zz := cy4 hc q0 q1 q2 q3
 clear q0 q1 q2 q3
 obtain ⟨q0, q1, q2, q3⟩ := zz
 replace hb0 := bthen hb0 hB
 clear hc hB
 go_wp2
 go_ret2
 exact ⟨_, rfl, World.ownsRow_nil _ _ _ _, hb0⟩
theorem c_rSorts_ok (m : Fm) (l : List Rp) (a : Option Addr) (cap : Nat) (known owner : Int) (w : World) (hm : m.In w) (hs : Sized m.f) (hl : Rps w a l) (hok : ∀ y ∈ l, RpOk y) (hz : ∀ y ∈ l, y.sort.size ≤ 1000000) (hcap : l.length ≤ cap) (h : (checkV m.f l).2 = 0) (hsm : l.length ≤ 1000) : Calls Tryz.prog 78 #[m.v, .slice a l.length cap, .int .i64 known, .int .i64 owner] w (GivesS2 (rsortsL owner (countL l known), 0) w) := by
 have hC := fun W (hb : Below w.heap.size w W) => c_rCheckLog m l a cap W (hm.later hb) hs (hl.later hb) hok hz hcap
 have hN := fun W (hb : Below w.heap.size w W) => c_rcounting l a cap known W (hl.later hb) (by omega)
 generalize checkV m.f l = R at *
 obtain ⟨i, E⟩ := R
 dsimp only at h hC ⊢
 subst h
 have hLL : (countL l known).length ≤ 1000 := Nat.le_trans (List.length_filter_le _ _) hsm
 have HC := Lib.hid hC
 have HN := Lib.hid hN
 clear hC hN hm hs hl hok hz hcap hsm
 go_enter Tryz.func78, Tryz.ntmps78
 go_upto_region 1 with (fail)
 go_name_world W1 hW1
 have hb0 : Below w.heap.size w W1 := by subst hW1; go_grown
 obtain ⟨q0, q1, q2, q3⟩ := (show QB m W1 w.heap.size from by subst hW1; and_intros <;> go_simp)
 clear hW1 
 go_wp2_with fail
 refine (HC.out _ hb0).mono ?_
 rintro E W2 ⟨rfl, hB⟩
 have hc := (bcell hB).1
 have zz := cy4 hc q0 q1 q2 q3
 clear q0 q1 q2 q3
 obtain ⟨q0, q1, q2, q3⟩ := zz
 replace hb0 := bthen hb0 hB
 clear hc hB
 go_wp2_with fail
 refine (HN.out _ hb0).mono ?_
 rintro E W3 ⟨cv, rfl, ho, hB⟩
 have hc := (bcell hB).1
 have zz := cy4 hc q0 q1 q2 q3
 clear q0 q1 q2 q3
 obtain ⟨q0, q1, q2, q3⟩ := zz
 have hzb := hb0.size
 replace ho : OwnR W3 w.heap.size cv (countL l known) := ownsRow_base ho hzb
 replace hb0 := bthen hb0 hB
 clear hc hB hzb
 obtain ⟨L, hL⟩ : ∃ L, countL l known = L := ⟨_, rfl⟩
 rw [hL] at ho hLL
 have HLE := Lib.hid hL
 obtain ⟨lb, lc, rfl, _, _, hll, _⟩ := Lst.own rpC_len ho
 have HLL := Lib.hid (hll (by omega))
 have HB0 := Lib.hid hb0
 have hzW := hb0.size
 clear ho hll q0 q1 q2 q3 hb0 hL
 go_wp2
 go_loopw [13, 14] (fun v13 v14 wr => ∃ k : Nat, k ≤ L.length ∧ v14 = .int .i64 k ∧ OwnS wr W3.heap.size v13 (rsortsL owner (L.take k)) ∧ Below W3.heap.size W3 wr) (fun _ v14 _ => L.length - (intOf v14).toNat)
 case atStart => exact ⟨0, by omega, rfl, World.ownsRow_nil _ _ _ _, Below.refl _ _⟩
 case round =>
  obtain ⟨k, hk, rfl, hown, hb⟩ := hrel
  have HO := Lib.hid hown
  have HB := Lib.hid hb
  clear hown
  by_cases hlt : k < L.length
  ·obtain ⟨x, hx⟩ := some_at hlt
   obtain ⟨b, o, hbo, hat⟩ := (HLL.out.later hb).at hx
   cases hbo
   obtain ⟨r0, r1, r2, r3, r4, r5, r6, r7, r8, r9⟩ := rp_cells hat
   have hi1 : ¬ (k : Int) < 0 := by omega
   have hi2 : (k : Int) < (L.length : Int) := by omega
   have hst := rsorts_step (owner := owner) hx
   have hle := rsorts_len owner (L.take k)
   rw [List.length_take] at hle
   have HST := Lib.hid hst
   have hI := c_rInsert (rsortsL owner (L.take k)) _ W3.heap.size x.sort wr HO.out hb.size (by omega)
   have HI := Lib.hid hI
   have hzr := hb.size
   clear hx hat hst hI r0 r1 r2 r5 r6 r7 r8 r9 hb
   by_cases he : x.owner = owner
   ·have hd : (x.owner == owner) = true := beq_iff_eq.2 he
    have hst := HST.out
    rw [if_pos he] at hst
    have HST2 := Lib.hid hst
    clear he hst
    go_wp2_with fail
    refine HI.out.mono ?_
    rintro E W20 ⟨v', rfl, hown, hB⟩
    have HO2 := Lib.hid hown
    have HB2 := Lib.hid (bthen HB.out hB)
    clear hown hB r3 r4 hd
    go_wp2
    go_roundw
    case rel => exact ⟨k + 1, by omega, by go_num, by rw [HST2.out]; exact HO2.out, HB2.out⟩
    case measure => simp [intOf]; omega
   ·have hd : (x.owner == owner) = false := beq_eq_false_iff_ne.2 he
    have hst := HST.out
    rw [if_neg he] at hst
    have HST2 := Lib.hid hst
    clear he hst
    go_wp2
    go_roundw
    case rel => exact ⟨k + 1, by omega, by go_num, by rw [HST2.out]; exact HO.out, HB.out⟩
    case measure => simp [intOf]; omega
  ·obtain rfl : k = L.length := by omega
   have hi2 : ¬ (L.length : Int) < (L.length : Int) := by omega
   clear hb
   go_wp2
   go_ret2
   exact ⟨_, rfl, by show OwnS _ _ _ (rsortsL owner (countL l known)); rw [HLE.out]; have := HO.out; rw [List.take_length] at this; exact ownsRow_base this hzW, bthen HB0.out HB.out⟩
theorem c_rSorts (m : Fm) (l : List Rp) (a : Option Addr) (cap : Nat) (known owner : Int) (w : World) (hm : m.In w) (hs : Sized m.f) (hl : Rps w a l) (hok : ∀ y ∈ l, RpOk y) (hz : ∀ y ∈ l, y.sort.size ≤ 1000000) (hcap : l.length ≤ cap) (hsm : l.length ≤ 1000) :
  Calls Tryz.prog 78 #[m.v, .slice a l.length cap, .int .i64 known, .int .i64 owner] w (GivesS2 (sortsV m.f l known owner) w) := by
 unfold sortsV
 rw [countV_2]
 by_cases h : (checkV m.f l).2 = 0
 ·rw [if_neg (by omega), sorts_ref]; exact c_rSorts_ok m l a cap known owner w hm hs hl hok hz hcap h hsm
 ·rw [if_pos h]; exact c_rSorts_no m l a cap known owner w hm hs hl hok hz hcap h
theorem c_rSame (l : List Rp) (a : Option Addr) (c : Nat) (b : Option Addr) (d : Nat) (w : World) (ha : Rps w a l) (hb : Rps w b l) (hs : l.length ≤ 100000) : Calls Tryz.prog 33 #[.slice a l.length c, .slice b l.length d] w fun e w' => e = .returned (.bool true) ∧ Below w.heap.size w w' := by
 have HA := Lib.hid ha
 have HBB := Lib.hid hb
 clear ha hb
 go_enter Tryz.func33, Tryz.ntmps33
 go_wp2
 go_loopw [5] (fun v wr => ∃ k : Nat, k ≤ l.length ∧ v = .int .i64 k ∧ Below w.heap.size w wr) (fun v _ => l.length - (intOf v).toNat)
 case atStart => exact ⟨0, by omega, rfl, by go_grown⟩
 case round =>
  obtain ⟨k, hk, rfl, hb0⟩ := hrel
  by_cases hlt : k < l.length
  ·obtain ⟨x, hx⟩ := some_at hlt
   obtain ⟨ab, ao, hpa, hat⟩ := (HA.out.later hb0).at hx
   obtain ⟨bb, bo, hpb, hbt⟩ := (HBB.out.later hb0).at hx
   obtain ⟨r0, r1, r2, r3, r4, r5, r6, r7, r8, r9⟩ := rp_cells hat
   obtain ⟨y0, y1, y2, y3, y4, y5, y6, y7, y8, y9⟩ := rp_cells hbt
   rw [hpa, hpb]
   have i0 : ¬ ((k : Int) < 0) := by omega
   have i1 : (k : Int) < (l.length : Int) := by omega
   clear hx hat hbt hpa hpb
   go_upto_region 6 with (fail)
   have kr0 := later_cell r0
   have kr1 := later_cell r1
   have kr2 := later_cell r2
   have kr3 := later_cell r3
   have kr4 := later_cell r4
   have kr5 := later_cell r5
   have kr6 := later_cell r6
   have kr7 := later_cell r7
   have kr8 := later_cell r8
   have kr9 := later_cell r9
   have ky0 := later_cell y0
   have ky1 := later_cell y1
   have ky2 := later_cell y2
   have ky3 := later_cell y3
   have ky4 := later_cell y4
   have ky5 := later_cell y5
   have ky6 := later_cell y6
   have ky7 := later_cell y7
   have ky8 := later_cell y8
   have ky9 := later_cell y9
   refine wp_region_later wr (by kernel_rfl) (by kernel_rfl) (Below.refl _ _) ?_
   repeat (go_big_quiet_step (fail))
   refine wpQuiet_nil ?_
   rintro ⟨W21, hB⟩
   dsimp only
   have hc := (bcell hB).1
   have hf := (bcell hB).2
   have hz := hB.size
   clear kr0 kr1 kr2 kr3 kr4 kr5 kr6 kr7 kr8 kr9 ky0 ky1 ky2 ky3 ky4 ky5 ky6 ky7 ky8 ky9
   have zz := cy16 hc r0 r1 r2 r3 r4 r5 r6 r7 r8 r9 y0 y1 y2 y3 y4 y5
   clear r0 r1 r2 r3 r4 r5 r6 r7 r8 r9 y0 y1 y2 y3 y4 y5
   obtain ⟨r0, r1, r2, r3, r4, r5, r6, r7, r8, r9, y0, y1, y2, y3, y4, y5⟩ := zz
   have zz := cy4 hc y6 y7 y8 y9
   clear y6 y7 y8 y9
   obtain ⟨y6, y7, y8, y9⟩ := zz
   replace hb0 : Below w.heap.size w W21 := bthen hb0 hB
   have hzW21 : wr.heap.size ≤ W21.heap.size := hz
   clear hc hf hB hz
   clear r0 r1 r2 r3 r4 r5 r6 r7 r8 r9 y0 y1 y2 y3 y4 y5 y6 y7 y8 y9
   have HB0 := Lib.hid hb0
   clear hb0
   go_wp2
   go_roundw
   case rel => exact ⟨k + 1, by omega, by go_num, HB0.out⟩
   case measure => simp [intOf]; omega
  ·obtain rfl : k = l.length := by omega
   have i1 : ¬ (l.length : Int) < (l.length : Int) := by omega
   go_wp2
   go_ret
   exact ⟨rfl, hb0⟩
theorem c_equalI (l : List Int) (a : Option Addr) (c : Nat) (b : Option Addr) (d : Nat) (w : World) (ha : Nums w a l) (hb : Nums w b l) (hs : l.length ≤ 100000) : Calls Tryz.prog 70 #[.slice a l.length c, .slice b l.length d] w fun e w' => e = .returned (.bool true) ∧ Below w.heap.size w w' := by
 have HA := Lib.hid ha
 have HBB := Lib.hid hb
 clear ha hb
 go_enter Tryz.func70, Tryz.ntmps70
 go_wp2
 go_loopw [13] (fun v wr => ∃ k : Nat, k ≤ l.length ∧ v = .int .i64 k ∧ Below w.heap.size w wr) (fun v _ => l.length - (intOf v).toNat)
 case atStart => exact ⟨0, by omega, rfl, by go_grown⟩
 case round =>
  obtain ⟨k, hk, rfl, hb0⟩ := hrel
  by_cases hlt : k < l.length
  ·obtain ⟨x, hx⟩ := some_at hlt
   obtain ⟨ab, ao, hpa, hat⟩ := (HA.out.later hb0).at hx
   obtain ⟨bb, bo, hpb, hbt⟩ := (HBB.out.later hb0).at hx
   rw [Nat.mul_one] at hat hbt
   have y0 := num_cell hat
   have y1 := num_cell hbt
   rw [hpa, hpb]
   have i0 : ¬ ((k : Int) < 0) := by omega
   have i1 : (k : Int) < (l.length : Int) := by omega
   clear hx hat hbt hpa hpb
   go_upto_region 6 with (fail)
   have ky0 := later_cell y0
   have ky1 := later_cell y1
   refine wp_region_later wr (by kernel_rfl) (by kernel_rfl) (Below.refl _ _) ?_
   repeat (go_big_quiet_step (fail))
   refine wpQuiet_nil ?_
   rintro ⟨W21, hB⟩
   dsimp only
   have hc := (bcell hB).1
   have hf := (bcell hB).2
   have hz := hB.size
   clear ky0 ky1
   replace y0 := (hc _ _ (cell_lt y0)).trans y0
   replace y1 := (hc _ _ (cell_lt y1)).trans y1
   replace hb0 : Below w.heap.size w W21 := bthen hb0 hB
   have hzW21 : wr.heap.size ≤ W21.heap.size := hz
   clear hc hf hB hz
   clear y0 y1
   have HB0 := Lib.hid hb0
   clear hb0
   go_wp2
   go_roundw
   case rel => exact ⟨k + 1, by omega, by go_num, HB0.out⟩
   case measure => simp [intOf]; omega
  ·obtain rfl : k = l.length := by omega
   have i1 : ¬ (l.length : Int) < (l.length : Int) := by omega
   go_wp2
   go_ret
   exact ⟨rfl, hb0⟩
theorem c_equalS (l : List ByteArray) (a : Option Addr) (c : Nat) (b : Option Addr) (d : Nat) (w : World) (ha : Strs w a l) (hb : Strs w b l) (hs : l.length ≤ 100000) : Calls Tryz.prog 79 #[.slice a l.length c, .slice b l.length d] w fun e w' => e = .returned (.bool true) ∧ Below w.heap.size w w' := by
 have HA := Lib.hid ha
 have HBB := Lib.hid hb
 clear ha hb
 go_enter Tryz.func79, Tryz.ntmps79
 go_wp2
 go_loopw [13] (fun v wr => ∃ k : Nat, k ≤ l.length ∧ v = .int .i64 k ∧ Below w.heap.size w wr) (fun v _ => l.length - (intOf v).toNat)
 case atStart => exact ⟨0, by omega, rfl, by go_grown⟩
 case round =>
  obtain ⟨k, hk, rfl, hb0⟩ := hrel
  by_cases hlt : k < l.length
  ·obtain ⟨x, hx⟩ := some_at hlt
   obtain ⟨ab, ao, hpa, hat⟩ := (HA.out.later hb0).at hx
   obtain ⟨bb, bo, hpb, hbt⟩ := (HBB.out.later hb0).at hx
   rw [Nat.mul_one] at hat hbt
   have y0 := str_cell hat
   have y1 := str_cell hbt
   rw [hpa, hpb]
   have i0 : ¬ ((k : Int) < 0) := by omega
   have i1 : (k : Int) < (l.length : Int) := by omega
   clear hx hat hbt hpa hpb
   go_upto_region 6 with (fail)
   have ky0 := later_cell y0
   have ky1 := later_cell y1
   refine wp_region_later wr (by kernel_rfl) (by kernel_rfl) (Below.refl _ _) ?_
   repeat (go_big_quiet_step (fail))
   refine wpQuiet_nil ?_
   rintro ⟨W21, hB⟩
   dsimp only
   have hc := (bcell hB).1
   have hf := (bcell hB).2
   have hz := hB.size
   clear ky0 ky1
   replace y0 := (hc _ _ (cell_lt y0)).trans y0
   replace y1 := (hc _ _ (cell_lt y1)).trans y1
   replace hb0 : Below w.heap.size w W21 := bthen hb0 hB
   have hzW21 : wr.heap.size ≤ W21.heap.size := hz
   clear hc hf hB hz
   clear y0 y1
   have HB0 := Lib.hid hb0
   clear hb0
   go_wp2
   go_roundw
   case rel => exact ⟨k + 1, by omega, by go_num, HB0.out⟩
   case measure => simp [intOf]; omega
  ·obtain rfl : k = l.length := by omega
   have i1 : ¬ (l.length : Int) < (l.length : Int) := by omega
   go_wp2
   go_ret
   exact ⟨rfl, hb0⟩
end Go.Proofs.YtlppdgaogdpajaaGreatDoor
namespace Go.Proofs.YtlppdgaogdpajaaGreatDoor
theorem short_sized {f : Fe} (h : shortV f = true) : Sized f := by
 unfold shortV shortB at h
 simp only [Bool.and_eq_true, List.all_eq_true, decide_eq_true_eq] at h
 refine ⟨fun s hs => ?_, fun s hs => ?_⟩
 ·unfold plNames at hs
  obtain ⟨p, hp, rfl⟩ := List.mem_map.1 hs
  have := h.2.1 p hp
  omega
 ·unfold gtNames at hs
  obtain ⟨p, hp, rfl⟩ := List.mem_map.1 hs
  have := h.2.2 p hp
  omega
end Go.Proofs.YtlppdgaogdpajaaGreatDoor
