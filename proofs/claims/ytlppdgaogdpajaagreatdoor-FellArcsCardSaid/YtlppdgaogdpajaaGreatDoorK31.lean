/- This text is a part of the proof: WaysTop, AliveK. -/
import Derived.Test.YtlppdgaogdpajaaGreatDoorK29
import Derived.Test.YtlppdgaogdpajaaGreatDoorK30
set_option maxRecDepth 100000
set_option maxHeartbeats 8000000
namespace Go.Proofs.YtlppdgaogdpajaaGreatDoor
open Go.RowKit Go.Shelf
attribute [local go_sem] Oper.semAt_some
theorem c_askedTwo (m : Fm) (p q : Int) (w : World) (hm : m.In w) :
  Calls Tryz.prog 141 #[m.v, .slice (some ⟨w.heap.size, 0, none⟩) 2 2] (w.alloc (.cells #[.int .i64 p, .int .i64 q] 3)) fun e w' => e = .returned (.int .i64 (askedE m.f [p, q])) ∧ Below (w.alloc (.cells #[.int .i64 p, .int .i64 q] 3)).heap.size (w.alloc (.cells #[.int .i64 p, .int .i64 q] 3)) w' :=
 c_asked m [p, q] (some ⟨w.heap.size, 0, none⟩) 2 _ (hm.later (show Below w.heap.size w _ from by go_grown)) (Lst.new numC_len w [p, q] 3 (by simp))
theorem asked_ok {f : Fe} {p q : Int} (h : askedE f [p, q] = 0) : (0 ≤ p ∧ p ≤ (f.places.length : Int) - 1) ∧ 0 ≤ q ∧ q ≤ (f.places.length : Int) - 1 := by
 have hc := asked_right h
 unfold askedE offB at h
 rw [if_neg (by omega)] at h
 simp only [List.any_cons, List.any_nil, Bool.or_false] at h
 cases hp : rg 0 ((f.places.length : Int) - 1) p
 ·rw [hp] at h; simp at h
 ·cases hq : rg 0 ((f.places.length : Int) - 1) q
  ·rw [hp, hq] at h; simp at h
  ·exact ⟨rg_iff.1 hp, rg_iff.1 hq⟩
theorem Srch.more {P : Nat} {B B' : Int} {S : Int → Option Int} {row : List Int} (h : Srch P B S row) (hb : B ≤ B') : Srch P B' S row := ⟨fun t n ht => by have := h.num t n ht; omega, h.inn, h.mark⟩
theorem Srch.get {P : Nat} {B : Int} {S : Int → Option Int} {row : List Int} (h : Srch P B S row) (hb : 0 ≤ B) (p : Int) : 0 ≤ (S p).getD 0 ∧ (S p).getD 0 ≤ B := by
 cases e : S p with
 | none => exact ⟨Int.le_refl _, hb⟩
 | some n => exact h.num p n e
theorem c_Ways_no (m : Fm) (p q : Int) (w : World) (hm : m.In w) (h : askedE m.f [p, q] ≠ 0) :
  Calls Tryz.prog 50 #[m.v, .int .i64 p, .int .i64 q] w fun e w' => e = .returned (pairV (0, askedE m.f [p, q])) ∧ Below w.heap.size w w' := by
 have hA2 : ∀ W (hb : Below w.heap.size w W), Calls Tryz.prog 141 #[m.v, .slice (some ⟨W.heap.size, 0, none⟩) 2 2] (W.alloc (.cells #[.int .i64 p, .int .i64 q] 3)) fun e w' => e = .returned (.int .i64 (askedE m.f [p, q])) ∧ Below (W.alloc (.cells #[.int .i64 p, .int .i64 q] 3)).heap.size (W.alloc (.cells #[.int .i64 p, .int .i64 q] 3)) w' := fun W hb => c_askedTwo m p q W (hm.later hb)
 generalize askedE m.f [p, q] = E at *
 have he : (E != 0) = true := bne_iff_ne.2 h
 have HA := Lib.hid hA2
 clear hA2 h hm
 go_enter Tryz.func50, Tryz.ntmps50
 go_wp2_with fail
 refine wp_scope_straight ?_
 go_upto_region 1 with (fail)
 go_name_world W1 hW1
 have hb0 : Below w.heap.size w W1 := by subst hW1; go_grown
 obtain ⟨q0, q1, q2, q3⟩ := (show QB m W1 w.heap.size from by subst hW1; and_intros <;> go_simp)
 clear hW1 
 go_wp2_with fail
 refine (via (w0 := W1) (by go_grown) (HA.out _ hb0)).mono ?_
 rintro e W2 ⟨rfl, hc, hf, hz, hB⟩
 have zz := cy4 hc q0 q1 q2 q3
 clear q0 q1 q2 q3
 obtain ⟨q0, q1, q2, q3⟩ := zz
 replace hb0 : Below w.heap.size w W2 := bthen hb0 hB
 have hzW2 : W1.heap.size ≤ W2.heap.size := hz
 clear hc hf hB hz
 go_wp2_with fail
 simp only [Exit.noGoto]
 go_ret2
 exact ⟨rfl, by have hbz := hb0.size; go_grown⟩
theorem c_Ways_ok (m : Fm) (p q : Int) (w : World) (hm : m.In w) (h : askedE m.f [p, q] = 0) :
    Calls Tryz.prog 50 #[m.v, .int .i64 p, .int .i64 q] w fun e w' => e = .returned (pairV (waysV m.f p q)) ∧ Below w.heap.size w w' := by
  have hA2 : ∀ W (hb : Below w.heap.size w W), Calls Tryz.prog 141 #[m.v, .slice (some ⟨W.heap.size, 0, none⟩) 2 2] (W.alloc (.cells #[.int .i64 p, .int .i64 q] 3)) fun e w' => e = .returned (.int .i64 (askedE m.f [p, q])) ∧ Below (W.alloc (.cells #[.int .i64 p, .int .i64 q] 3)).heap.size (W.alloc (.cells #[.int .i64 p, .int .i64 q] 3)) w' := fun W hb => c_askedTwo m p q W (hm.later hb)
  have hr := right_of (asked_right h)
  have hs : Small m.f := hr.small
  obtain ⟨hp, hq⟩ := asked_ok h
  have hB := fun (z : Int) W (hb : Below w.heap.size w W) => c_beside m z W (hm.later hb) hs
  have hfin : ∀ S, bfs m.f q m.f.places.length (bfs0 p) [p] = S → waysV m.f p q = match S q with | some n => (n, 0) | none => (0, 5) := fun S hS => by
    unfold waysV
    rw [if_neg (by omega), hS]
    rfl
  rw [h] at hA2
  have hP := hs.p8
  have hG := hs.g12
  obtain ⟨i0, hi0, hz0, hz1, hz2⟩ := info_parts num_info
  have HA := Lib.hid hA2
  have HB := Lib.hid hB
  have HR := Lib.hid hr
  have HF := Lib.hid hfin
  clear hA2 h hm hB hs hr hfin
  have hmm := @run_makeMap Tryz.prog
  go_enter Tryz.func50, Tryz.ntmps50
  go_wp2_with fail
  refine wp_scope_straight ?_
  go_upto_region 1 with (fail)
  go_name_world W1 hW1
  have hb0 : Below w.heap.size w W1 := by subst hW1; go_grown
  obtain ⟨q0, q1, q2, q3⟩ := (show QB m W1 w.heap.size from by subst hW1; and_intros <;> go_simp)
  clear hW1 
  go_wp2_with fail
  refine (via (w0 := W1) (by go_grown) (HA.out _ hb0)).mono ?_
  rintro e W2 ⟨rfl, hc, hf, hz, hB⟩
  have zz := cy4 hc q0 q1 q2 q3
  clear q0 q1 q2 q3
  obtain ⟨q0, q1, q2, q3⟩ := zz
  replace hb0 : Below w.heap.size w W2 := bthen hb0 hB
  have hzW2 : W1.heap.size ≤ W2.heap.size := hz
  clear hc hf hB hz
  have zq := cell_lt q0
  go_wp2_with (with_reducible refine atInsert ?_; refine stuckHere ?_)
  refine unHid ?_
  refine (MapI.made W2).put (by decide) (by rfl) _ _ _ (.inr (by rfl)) (by rfl) p ⟨by omega, by omega⟩ (by rfl) 0 ⟨by decide, by decide⟩ (by rfl) ?_
  intro w1 hmap hgrow
  have hk1 : Kept (fun _ => False) W2 w1 := ((Kept.refl (fun _ => False) W2).alloc _).trans (kept_of_grown hgrow) (fun j hj e => by cases e; omega)
  have hmap1 : MapI w1 W2.heap.size 1 (bfs0 p) := hmap
  have hlt := hmap1.lt
  have hb1 : Below w.heap.size w w1 := bthen hb0 (hk1.below (Nat.le_refl _) (fun _ h => h.elim))
  have q0n := hk1.cell (fun h => h) q0
  have q1n := hk1.cell (fun h => h) q1
  have q2n := hk1.cell (fun h => h) q2
  have q3n := hk1.cell (fun h => h) q3
  have HMP := Lib.hid hmap1
  have zw2 := hb0.size
  have zf : w.heap.size < W2.heap.size := zq
  have hk2 : Kept (fun j => W2.heap.size ≤ j) W2 (w1.alloc (.cells #[.int .i64 p] 3)) := (hk1.wider (O' := fun j => W2.heap.size ≤ j) (fun _ _ h => h.elim)).alloc _
  have hrow0 := RowQ.one w1 (W2.heap.size + 1) p hlt
  have HROW := Lib.hid hrow0
  have HK2 := Lib.hid hk2
  have HMP2 := Lib.hid (hmap1.later (show Below w1.heap.size w1 (w1.alloc (.cells #[.int .i64 p] 3)) from by go_grown))
  have HB0 := Lib.hid hb0
  have HQ := Lib.hid (show CellsAt W2 w.heap.size 0 (feC m) from cells_4 q0 q1 q2 q3)
  clear hmap hgrow hk1 hmap1 hb0 hk2 hrow0 q0n q1n q2n q3n hb1 HMP
  go_wp2
  refine wp_label ?_
  go_wp2
  obtain ⟨P, hPP⟩ : ∃ P, m.f.places.length = P := ⟨_, rfl⟩
  rw [hPP] at hp hq hP
  have HPP := Lib.hid hPP
  have HF2 := HF
  clear hPP HF
  go_loopg [10] P (fun gk v10 wr => ∃ (S : Int → Option Int) (row : List Int) (n : Nat) (B : Int), bfs m.f q gk S row = bfs m.f q m.f.places.length (bfs0 p) [p] ∧ row.length + unm P S ≤ gk ∧ gk ≤ 8 ∧ Srch P B S row ∧ 0 ≤ B ∧ B + gk ≤ 9 ∧ n + 100 * gk ≤ 900 ∧ MapI wr W2.heap.size n S ∧ RowQ wr (W2.heap.size + 1) v10 row ∧ Kept (fun j => W2.heap.size ≤ j) W2 wr)
  case atStart => exact ⟨bfs0 p, [p], 1, 0, by rw [HPP.out], by have := unm_0 (P := P) (q := p) (by omega) (by omega); simp; omega, by omega, Srch.start (by omega) (by omega), by omega, by omega, by omega, HMP2.out, HROW.out, HK2.out⟩
  case round =>
    clear HMP2 HROW HK2 q0 q1 q2 q3
    obtain ⟨S, row, n, B, hbf, hms, hg8, hsr, hB0, hBg, hng, hmp, hrow, hK⟩ := hrel
    have hzk := hK.size
    have HM := Lib.hid hmp
    have HK := Lib.hid hK
    have HBF := Lib.hid hbf
    have HS := Lib.hid hsr
    cases row with
    | nil =>
      obtain ⟨g, off, cap, rfl, hbg, hcap, _⟩ := hrow
      have hS : waysV m.f p q = match S q with | some n => (n, 0) | none => (0, 5) := HF2.out S (by rw [← HBF.out, bfs_nil])
      have hl2 := HM.out.look2 q ⟨by omega, by omega⟩
      have hbe : Below w.heap.size w wr := ((Kept.of_below (O := fun j => w.heap.size ≤ j) HB0.out).trans HK.out (fun j _ e => by omega)).below (Nat.le_refl _) (fun _ h => h)
      have HBE := Lib.hid hbe
      have HW := Lib.hid hS
      clear hmp hK hbf hsr hS hbe hms
      cases hSq : S q with
      | none =>
        rw [hSq] at hl2
        have HSQ := Lib.hid hSq
        clear hSq
        dsimp only [Option.getD, Option.isSome] at hl2
        go_wp2
        simp only [Exit.noGoto]
        go_ret2
        exact ⟨by rw [HW.out, HSQ.out]; rfl, HBE.out⟩
      | some v =>
        rw [hSq] at hl2
        have HSQ := Lib.hid hSq
        clear hSq
        dsimp only [Option.getD, Option.isSome] at hl2
        go_wp2
        simp only [Exit.noGoto]
        go_ret2
        exact ⟨by rw [HW.out, HSQ.out]; rfl, HBE.out⟩
    | cons p0 r =>
      have hms2 : r.length + 1 + unm P S ≤ gk := by simpa using hms
      obtain ⟨g, off, cap, rfl, c0, hcap, hbg, hpop⟩ := hrow.pop
      have hp0 := hsr.inn p0 (by simp)
      have hmark := hsr.mark p0 (by simp)
      have hsl := slice_tail g off r.length cap hcap.1 hcap.2
      obtain ⟨off2, ho2⟩ : ∃ o2, (if cap = 1 then off else off + 1) = o2 := ⟨_, rfl⟩
      obtain ⟨cap2, hc2⟩ : ∃ c2, cap - 1 = c2 := ⟨_, rfl⟩
      rw [ho2, hc2] at hsl hpop
      have hcap1 := hcap.1
      obtain ⟨q0, q1, q2, q3⟩ := fe_cells (HQ.out.kept HK.out (by omega))
      clear ho2 hc2 hcap
      have zg := cell_lt c0
      have HPOP := Lib.hid hpop
      have hgt : ((r.length : Int) + 1 > 0) := by omega
      obtain ⟨gk', rfl⟩ : ∃ gk', gk = gk' + 1 := ⟨gk - 1, by omega⟩
      by_cases e : p0 = q
      · have hpe : (p0 == q) = true := beq_iff_eq.2 e
        have hS : waysV m.f p q = match S q with | some n => (n, 0) | none => (0, 5) := HF2.out S (by rw [← HBF.out]; show (if p0 = q then S else _) = S; rw [if_pos e])
        have hl2 := HM.out.look2 q ⟨by omega, by omega⟩
        have hbe : Below w.heap.size w wr := ((Kept.of_below (O := fun j => w.heap.size ≤ j) HB0.out).trans HK.out (fun j _ e => by omega)).below (Nat.le_refl _) (fun _ h => h)
        have HBE := Lib.hid hbe
        have HW := Lib.hid hS
        clear hmp hK hbf hsr hS hbe hms hrow hpop e q0 q1 q2 q3
        cases hSq : S q with
        | none =>
          rw [hSq] at hl2
          have HSQ := Lib.hid hSq
          clear hSq
          dsimp only [Option.getD, Option.isSome] at hl2
          go_wp2
          simp only [Exit.noGoto]
          go_ret2
          exact ⟨by rw [HW.out, HSQ.out]; rfl, HBE.out⟩
        | some v =>
          rw [hSq] at hl2
          have HSQ := Lib.hid hSq
          clear hSq
          dsimp only [Option.getD, Option.isSome] at hl2
          go_wp2
          simp only [Exit.noGoto]
          go_ret2
          exact ⟨by rw [HW.out, HSQ.out]; rfl, HBE.out⟩
      · have hpe : (p0 == q) = false := beq_eq_false_iff_ne.2 e
        have hnext : bfs m.f q gk' (visits p0 (besideV m.f p0) (S, r)).1 (visits p0 (besideV m.f p0) (S, r)).2 = bfs m.f q m.f.places.length (bfs0 p) [p] := by
          rw [← HBF.out]
          show _ = (if p0 = q then S else _)
          rw [if_neg e]
        have HNX := Lib.hid hnext
        have hbe : Below w.heap.size w wr := ((Kept.of_below (O := fun j => w.heap.size ≤ j) HB0.out).trans HK.out (fun j _ e => by omega)).below (Nat.le_refl _) (fun _ h => h)
        have HBE := Lib.hid hbe
        clear hmp hK hbf hsr hrow hpop e hms hnext hbe
        go_wp2_with fail
        refine (HB.out p0 wr HBE.out).mono ?_
        rintro e Wb ⟨v, rfl, hob, hbb⟩
        obtain ⟨lb, lc, rfl, _, _, hnums, hblk⟩ := Lst.own numC_len hob
        have hlen := beside_len hG p0
        have hin := fun z (hz : z ∈ besideV m.f p0) => beside_in HR.out hz
        have hnm := hnums (by omega)
        obtain ⟨L, hL⟩ : ∃ L, besideV m.f p0 = L := ⟨_, rfl⟩
        rw [hL] at hlen hin hnm HNX ⊢
        have HNM := Lib.hid hnm
        have HIN := Lib.hid hin
        have HBL := Lib.hid hblk
        have hzb := hbb.size
        have HMb := Lib.hid (HM.out.later hbb)
        have HPb := Lib.hid (HPOP.out.kept (O := fun _ => False) (Kept.of_below hbb) (fun _ h => h.elim))
        have HKb := Lib.hid (HK.out.trans (Kept.of_below (O := fun _ => False) hbb) (fun _ _ h => h.elim))
        clear hob hbb hnums hblk hnm hin hL q0 q1 q2 q3 c0 hsl
        go_wp2
        go_loopw [10, 46] (fun v10 v46 wi => ∃ (i n1 : Nat) (S1 : Int → Option Int) (row1 : List Int), i ≤ L.length ∧ v46 = .int .i64 i ∧ visits p0 (L.take i) (S, r) = (S1, row1) ∧ row1.length + unm P S1 ≤ r.length + unm P S ∧ Srch P (B + 1) S1 row1 ∧ S1 p0 = S p0 ∧ n1 ≤ n + i ∧ MapI wi W2.heap.size n1 S1 ∧ RowQ wi (W2.heap.size + 1) v10 row1 ∧ Nums wi lb L ∧ Kept (fun j => W2.heap.size ≤ j) W2 wi ∧ (∀ g' b o, v10.ownBlock = some g' → lb = some ⟨b, o, none⟩ → b ≠ g')) (fun _ v46 _ => L.length - (intOf v46).toNat)
        case atStart => exact ⟨0, n, S, r, by omega, rfl, rfl, Nat.le_refl _, ⟨fun t z ht => by have := HS.out.num t z ht; omega, fun z hz => HS.out.inn z (by simp [hz]), fun z hz => HS.out.mark z (by simp [hz])⟩, rfl, by omega, HMb.out, HPb.out, HNM.out, HKb.out, fun g' b o h1 h2 => by
          have e1 : g = g' := by simpa [Value.ownBlock] using h1
          have := (HBL.out b o h2).1
          omega⟩
        case round =>
          clear HMb HPb HKb HNM
          obtain ⟨i, n1, S1, row1, hi, rfl, hvis, hlen1, hsr1, hkeep, hn1, hmp1, hrow1, hnm1, hK1, hneb⟩ := hrel
          have hzi := hK1.size
          have HM1 := Lib.hid hmp1
          have HR1 := Lib.hid hrow1
          have HN1 := Lib.hid hnm1
          have HK1 := Lib.hid hK1
          have HS1 := Lib.hid hsr1
          have HV := Lib.hid hvis
          have HE := Lib.hid hneb
          have hmlt := hmp1.lt
          by_cases hlt : i < L.length
          · obtain ⟨x, hx⟩ := some_at hlt
            have hxin := HIN.out x (some_mem hx)
            rw [HPP.out] at hxin
            obtain ⟨b, o, rfl, hat⟩ := HN1.out.at hx
            rw [Nat.mul_one] at hat
            have y0 := num_cell hat
            have zb := cell_lt y0
            have hidx : ¬ ((i : Int) < 0) := by omega
            have hidx2 : (i : Int) < (L.length : Int) := by omega
            have hsn := visits_snoc p0 hx (S, r)
            rw [hvis] at hsn
            have HSN := Lib.hid hsn
            have hl2 := HM1.out.look2 x ⟨by omega, by omega⟩
            have hl1 := HM1.out.look p0 ⟨by omega, by omega⟩
            have hget := HS.out.get hB0 p0
            rw [← hkeep] at hget
            have hvl := visit_less (P := P) (S := S1) (row := row1) (p := p0) (q := x) ⟨by omega, by omega⟩
            have hsv := HS1.out.visit (p := p0) (q := x) ⟨hget.2, hget.1⟩ ⟨by omega, by omega⟩
            have hkp : (visit1 p0 (S1, row1) x).1 p0 = S p0 := by
              rw [visit_keep (by rw [hkeep]; exact hmark)]
              exact hkeep
            clear hmp1 hrow1 hnm1 hK1 hsr1 hvis hneb hat hsn hx
            have hn100 : n1 < 1000000 := by omega
            have hrl : row1.length ≤ 1000 := by omega
            cases hSx : S1 x with
            | some z =>
              rw [hSx] at hl2
              dsimp only [Option.getD, Option.isSome] at hl2
              have hv1 : visit1 p0 (S1, row1) x = (S1, row1) := by unfold visit1; dsimp only; rw [if_pos (by rw [hSx]; rfl)]
              rw [hv1] at hvl hsv hkp
              have HV1 := Lib.hid (HSN.out.trans hv1)
              have HSV := Lib.hid hsv
              have HKP := Lib.hid hkp
              clear hv1 hSx hl1 hsv hkp
              go_wp2
              go_roundw
              case rel => exact ⟨i + 1, n1, S1, row1, by omega, by go_num, HV1.out, by omega, HSV.out, HKP.out, by omega, HM1.out, HR1.out, HN1.out, HK1.out, HE.out⟩
              case measure => simp [intOf]; omega
            | none =>
              rw [hSx] at hl2
              dsimp only [Option.getD, Option.isSome] at hl2
              have hv1 : visit1 p0 (S1, row1) x = (upd S1 x ((S1 p0).getD 0 + 1), row1 ++ [x]) := by unfold visit1; dsimp only; rw [if_neg (by rw [hSx]; simp)]
              rw [hv1] at hvl hsv hkp
              have HV1 := Lib.hid (HSN.out.trans hv1)
              have HSV := Lib.hid hsv
              have HKP := Lib.hid hkp
              obtain ⟨d, hd⟩ : ∃ d, (S1 p0).getD 0 = d := ⟨_, rfl⟩
              rw [hd] at hl1 hget HV1 HSV HKP hvl
              clear hv1 hSx hsv hkp hd
              go_wp2_with (at_mapUpdate; refine stuckHere ?_)
              refine unHid ?_
              refine HM1.out.put hn100 (by rfl) _ _ _ (.inl (by rfl)) (by rfl) x ⟨by omega, by omega⟩ (by rfl) (d + 1) ⟨by omega, by omega⟩ (by rfl) ?_
              intro w3 hm3 hg3
              have hkg3 : Kept (fun j => j = W2.heap.size) wr w3 := (kept_of_grown hg3).wider (fun j _ h => by cases h; rfl)
              have hm3' : MapI w3 W2.heap.size (n1 + 1) (upd S1 x (d + 1)) := hm3
              have HM3 := Lib.hid hm3'
              have HR3 := Lib.hid (HR1.out.kept hkg3 (fun g' e => by omega))
              have HN3 := Lib.hid (HN1.out.kept hkg3 (fun b' o' e1 e2 => by
                cases e1
                have := HBL.out b o rfl
                omega))
              have HK3 := Lib.hid (HK1.out.trans hkg3 (fun j hj e => by omega))
              have hz3 := hkg3.size
              clear hm3 hg3 hkg3 hm3' y0
              go_wp2_with (at_builtin; refine stuckHere ?_)
              refine unHid ?_
              have hk4 : Kept (fun _ => False) w3 (w3.alloc (.cells #[.int .i64 x] 3)) := (Kept.refl _ _).alloc _
              refine (HR3.out.kept hk4 (fun _ e => e.elim)).push hrl (by simp; omega) (by rfl) _ _ (by rfl) (by rfl) ⟨w3.heap.size, 0, none⟩ 1 x (by rfl) (news_at _ #[_] _ _ (by simp)) hi0 hz0 hz1 hz2 ?_
              intro v' w4 hr4 hk5 hv5
              have hk6 := HK3.out.trans (hk4.wider (O' := fun j => W2.heap.size ≤ j) (fun _ _ e => e.elim)) (fun j hj e => e)
              have hk7 := hk6.trans (hk5.wider (O' := fun j => W2.heap.size ≤ j) (fun j hj e => by have := (HR3.out.ge e).1; omega)) (fun j hj e => e)
              have hm4 := (HM3.out.kept hk4 (fun e => e.elim)).kept hk5 (fun e => by have := (HR3.out.ge e).1; omega)
              have hn4 := (HN3.out.kept hk4 (fun _ _ _ e => e.elim)).kept hk5 (fun b' o' e1 e2 => HE.out _ b' o' e2 e1 rfl)
              have hne4 : ∀ g' b' o', v'.ownBlock = some g' → some (⟨b, o, none⟩ : Addr) = some ⟨b', o', none⟩ → b' ≠ g' := fun g' b' o' e1 e2 => by
                rcases hv5 with h5 | ⟨g'', h5, h6⟩
                · exact HE.out g' b' o' (h5 ▸ e1) e2
                · rw [h5] at e1
                  cases e1
                  cases e2
                  simp at h6
                  omega
              have HM4 := Lib.hid hm4
              have HR4 := Lib.hid hr4
              have HN4 := Lib.hid hn4
              have HK4 := Lib.hid hk7
              have HE4 := Lib.hid hne4
              clear hr4 hk5 hv5 hk6 hk7 hm4 hn4 hne4 hk4
              go_wp2
              go_roundw
              case rel => exact ⟨i + 1, n1 + 1, _, _, by omega, by go_num, HV1.out, by omega, HSV.out, HKP.out, by omega, HM4.out, HR4.out, HN4.out, HK4.out, HE4.out⟩
              case measure => simp [intOf]; omega
          · obtain rfl : i = L.length := by omega
            have hv := HV.out
            rw [List.take_length] at hv
            have hnx := HNX.out
            rw [hv] at hnx
            have HNX2 := Lib.hid hnx
            clear hv hnx hmp1 hrow1 hnm1 hK1 hsr1 hvis hneb
            go_wp2
            go_roundg gk'
            case measure => omega
            case rel => exact ⟨S1, row1, n1, B + 1, HNX2.out, by omega, by omega, HS1.out, by omega, by omega, by omega, HM1.out, HR1.out, HK1.out⟩
theorem c_Ways (m : Fm) (p q : Int) (w : World) (hm : m.In w) : Calls Tryz.prog 50 #[m.v, .int .i64 p, .int .i64 q] w fun e w' => e = .returned (pairV (waysV m.f p q)) ∧ Below w.heap.size w w' := by
 by_cases h : askedE m.f [p, q] = 0
 ·exact c_Ways_ok m p q w hm h
 ·have e : waysV m.f p q = (0, askedE m.f [p, q]) := by
   unfold waysV
   rw [if_pos h]
  rw [e]
  exact c_Ways_no m p q w hm h
end Go.Proofs.YtlppdgaogdpajaaGreatDoor
namespace Go.Proofs.YtlppdgaogdpajaaGreatDoor
open Go.RowKit Go.Shelf
theorem k_Parse (w : World) (hl : LibW w) : Calls Tryz.prog 21 #[.string srcB] w fun e w' => (∃ m : Fm, m.f = f0 ∧ e = .returned (.tuple #[m.v, .agg #[.int .i64 0, .int .i64 0]]) ∧ m.In w') ∧ Below w.heap.size w w' := by
 refine (c_ParseFell srcB w hl).mono fun e w' ⟨h, hb⟩ => ⟨?_, hb⟩
 rw [v_parse] at h
 obtain ⟨m, hf, he, hp, hg, _⟩ := h
 refine ⟨m, hf, he, ?_, ?_⟩
 ·obtain ⟨b, c, hv, _, _, hl, _⟩ := Lst.own plC_len hp
  have e : m.pa = b := by simpa using (Value.slice.inj hv).1
  rw [e]
  exact hl (by rw [hf]; decide)
 ·obtain ⟨b, c, hv, _, _, hl, _⟩ := Lst.own gtC_len hg
  have e : m.ga = b := by simpa using (Value.slice.inj hv).1
  rw [e]
  exact hl (by rw [hf]; decide)
section
variable (m : Fm) (hf : m.f = f0) (w : World) (hm : m.In w)
include hf hm
theorem k_Print (hl : LibW w) : Calls Tryz.prog 23 #[m.v] w fun e w' => e = .returned (.string ⟨#[102, 101, 108, 108, 32, 50, 32, 53, 48, 10, 104, 101, 97, 102, 32, 104, 105, 103, 104, 10, 104, 101, 97, 102, 32, 108, 111, 119, 10, 102, 111, 108, 100, 32, 121, 97, 114, 100, 10, 103, 97, 116, 101, 32, 103, 97, 112, 32, 104, 105, 103, 104, 32, 108, 111, 119, 32, 50, 48, 10, 103, 97, 116, 101, 32, 108, 97, 110, 101, 32, 108, 111, 119, 32, 121, 97, 114, 100, 32, 49, 48, 48, 48, 10]⟩) ∧ Below w.heap.size w w' := by
 have h := c_PrintFell m w hm hl
 rw [hf, v_print] at h
 exact h
theorem k_Nodes : Calls Tryz.prog 58 #[m.v] w fun e w' => e = .returned (.int .i64 19) ∧ Below w.heap.size w w' := by
 have h := c_Nodes_ok m w hm (by rw [hf]; exact v_right)
 rw [hf, v_nodes] at h
 exact h
theorem k_Arcs : Calls Tryz.prog 60 #[m.v] w fun e w' => e = .returned (.int .i64 53) ∧ Below w.heap.size w w' := by
 have h := c_Arcs_ok m w hm (by rw [hf]; exact v_right)
 rw [hf, v_arcs] at h
 exact h
theorem k_Name (hl : LibW w) : Calls Tryz.prog 56 #[m.v, .int .i64 47] w fun e w' => e = .returned (.tuple #[.string ⟨#[98, 101, 103, 105, 110, 32, 104, 105, 103, 104]⟩, .int .i64 0]) ∧ Below w.heap.size w w' := by
 have h := c_NameArc m 47 w hm hl
 rw [hf, v_name] at h
 exact h
theorem k_Ways : Calls Tryz.prog 50 #[m.v, .int .i64 0, .int .i64 2] w fun e w' => e = .returned (.tuple #[.int .i64 2, .int .i64 0]) ∧ Below w.heap.size w w' := by
 have h := c_Ways m 0 2 w hm
 rw [hf, v_ways] at h
 exact h
theorem k_Move : Calls Tryz.prog 39 #[m.v, x0.v] w fun e w' => e = .returned (.tuple #[.int .i64 24, .int .i64 0]) ∧ Below w.heap.size w w' := by
 have h := c_MoveArc m x0 w hm ⟨by decide, by decide⟩
 rw [hf, v_move] at h
 exact h
theorem k_On : Calls Tryz.prog 82 #[m.v, .int .i64 1] w fun e w' => (∃ g c, e = .returned (.tuple #[.slice (some ⟨g, 0, none⟩) 53 c, .int .i64 0]) ∧ w'.cell? ⟨g, 3, none⟩ = some (.int .i64 1) ∧ w'.cell? ⟨g, 4, none⟩ = some (.int .i64 1) ∧ w'.cell? ⟨g, 5, none⟩ = some (.int .i64 0)) ∧ Below w.heap.size w w' := by
 refine (c_OnFell m 1 w hm).mono fun e w' ⟨v, he, ho, hb⟩ => ⟨?_, hb⟩
 rw [hf] at he ho
 obtain ⟨h0, h1, h3, h4, h5⟩ := v_on
 rw [h0] at he
 generalize (onFellV f0 1).1 = L at h1 h3 h4 h5 ho
 obtain ⟨b, c, rfl, _, _, hL, _⟩ := Lst.own numC_len ho
 have hL := hL (by omega)
 have at' : ∀ k x, L[k]? = some x → ∃ g o, b = some ⟨g, o, none⟩ ∧ w'.cell? ⟨g, o + k, none⟩ = some (.int .i64 x) := fun k x hk => by
  obtain ⟨g, o, hb, hc⟩ := hL.at hk
  exact ⟨g, o, hb, by simpa using num_cell hc⟩
 obtain ⟨g, hbg⟩ : ∃ g, b = some ⟨g, 0, none⟩ := by
  rcases ho.2 with ⟨_, h0⟩ | ⟨g, _, _, hv, _⟩
  ·omega
  ·exact ⟨g, by simpa using (Value.slice.inj hv).1⟩
 subst hbg
 rw [h1] at he
 refine ⟨g, c, he, ?_, ?_, ?_⟩
 ·obtain ⟨g2, o, e, hc⟩ := at' 3 1 h3
  cases e
  simpa using hc
 ·obtain ⟨g2, o, e, hc⟩ := at' 4 1 h4
  cases e
  simpa using hc
 ·obtain ⟨g2, o, e, hc⟩ := at' 5 0 h5
  cases e
  simpa using hc
theorem k_Net (a : Option Addr) (cap : Nat) (hl : Rps w a [x0, x1, x2]) (hcap : 3 ≤ cap) (known hi by' : Int) (hn : (netV f0 [x0, x1, x2] known 7 bSheep).2 = 0 ∧ (netV f0 [x0, x1, x2] known 7 bSheep).1.arcs.length = 53 ∧ (netV f0 [x0, x1, x2] known 7 bSheep).1.arcs[24]? = some ⟨2, 9, 7, hi, 2, by'⟩) :
  Calls Tryz.prog 37 #[m.v, .slice a 3 cap, .int .i64 known, .int .i64 7, .string bSheep] w fun e w' => (∃ g c n, e = .returned (.tuple #[.agg #[.int .i64 n, .slice (some ⟨g, 0, none⟩) 53 c], .int .i64 0]) ∧ CellsAt w' g 144 (arC ⟨2, 9, 7, hi, 2, by'⟩)) ∧ Below w.heap.size w w' := by
 have hok : ∀ y ∈ [x0, x1, x2], RpOk y := by
  intro y hy
  simp only [List.mem_cons, List.not_mem_nil, or_false] at hy
  rcases hy with rfl | rfl | rfl <;> exact ⟨by decide, by decide⟩
 refine (c_NetOf m [x0, x1, x2] a cap known 7 bSheep w hm hl hok hcap).mono fun e w' ⟨v, he, ho, hb⟩ => ⟨?_, hb⟩
 rw [hf] at he ho
 obtain ⟨h0, h1, h3⟩ := hn
 rw [h0] at he
 generalize (netV f0 [x0, x1, x2] known 7 bSheep).1 = N at h1 h3 ho he
 obtain ⟨n, L⟩ := N
 dsimp only at h1 h3 ho he
 obtain ⟨g, hbg⟩ : ∃ g, ∃ c, v = .slice (some ⟨g, 0, none⟩) L.length c := by
  rcases ho.2 with ⟨_, h0⟩ | ⟨g, c, _, hv, _⟩
  ·omega
  ·exact ⟨g, c, hv⟩
 obtain ⟨c, rfl⟩ := hbg
 rw [h1] at he
 exact ⟨g, c, n, he, (own_arc ho h3).1⟩
end
theorem k_round {k : Nat} (hk : k < 3) : ∃ s x, [lnB0, lnB1, lnB2][k]? = some s ∧ [x0, x1, x2][k]? = some x ∧ readV f0 s = (x, 0) ∧ appendV f0 ([x0, x1, x2].take k) x = ([x0, x1, x2].take (k + 1), 0) ∧ RpOk x ∧ s.size ≤ 100 := by
 have h : k = 0 ∨ k = 1 ∨ k = 2 := by omega
 rcases h with rfl | rfl | rfl
 ·exact ⟨_, _, rfl, rfl, v_read0, v_app0, ⟨by decide, by decide⟩, by decide⟩
 ·exact ⟨_, _, rfl, rfl, v_read1, v_app1, ⟨by decide, by decide⟩, by decide⟩
 ·exact ⟨_, _, rfl, rfl, v_read2, v_app2, ⟨by decide, by decide⟩, by decide⟩
theorem k_Read (m : Fm) (hf : m.f = f0) {s : ByteArray} {x : Rp} (h : readV f0 s = (x, 0)) (hs : s.size ≤ 1000000) (w : World) (hm : m.In w) (hl : LibW w) : Calls Tryz.prog 46 #[m.v, .string s] w fun e w' => e = .returned (.tuple #[x.v, .int .i64 0]) ∧ Below w.heap.size w w' := by
 have h2 := c_Read m s w hm hl hs
 rw [hf, h] at h2
 exact h2
theorem k_len {k : Nat} (h : k ≤ 3) : ([x0, x1, x2].take k).length = k := by simp; omega
theorem x0_ok (k : Nat) : ∀ y ∈ [x0, x1, x2].take k, RpOk y := by
 intro y hy
 have hy := List.mem_of_mem_take hy
 simp only [List.mem_cons, List.not_mem_nil, or_false] at hy
 rcases hy with rfl | rfl | rfl <;> exact ⟨by decide, by decide⟩
theorem app_eq {f : Fe} {l l2 : List Rp} {x : Rp} (h : appendV f l x = (l2, 0)) : l2 = l ++ [x] := by
 unfold appendV at h
 by_cases h1 : (checkV f l).2 = 0
 ·rw [if_neg (by omega)] at h
  by_cases h2 : followE f l x = 0
  ·rw [if_neg (by omega)] at h
   exact (Prod.mk.inj h).1.symm
  ·rw [if_pos h2] at h
   exact absurd (Prod.mk.inj h).2 h2
 ·rw [if_pos h1] at h
  exact absurd (Prod.mk.inj h).2 h1
theorem k_App (m : Fm) (hf : m.f = f0) {l l2 : List Rp} {x : Rp} {k : Nat} (h : appendV f0 l x = (l2, 0)) (ok : RpOk x) (hk : l.length = k) (hk3 : k ≤ 3) (hok : ∀ y ∈ l, RpOk y) {a : Option Addr} {cap : Nat} (hcap : k ≤ cap) (ha : a = none → cap = 0) (w : World) (hm : m.In w) (hl : Rps w a l) :
  Calls Tryz.prog 31 #[m.v, .slice a k cap, x.v] w fun e w' => (∃ a2 c2, e = .returned (.tuple #[.slice a2 (k + 1) c2, .int .i64 0]) ∧ k + 1 ≤ c2 ∧ (a2 = none → c2 = 0) ∧ Rps w' a2 l2) ∧ Below w.heap.size w w' := by
 subst hk
 have hl2 := app_eq h
 refine (c_Append m l a cap x w hm hl hok ok hcap ha).mono fun e w' ⟨v, he, ho, hb⟩ => ⟨?_, hb⟩
 rw [hf, h] at he ho
 dsimp only at he ho
 subst hl2
 obtain ⟨b, c, rfl, hc, _, hL, _⟩ := Lst.own rpC_len ho
 have hlen : (l ++ [x]).length = l.length + 1 := by simp
 rw [hlen] at he hc hL
 have hLL := hL (by omega)
 refine ⟨b, c, he, hc, fun e => ?_, hLL⟩
 obtain ⟨g, o, hg, _⟩ := hLL.2 (by simp)
 rw [e] at hg
 cases hg
end Go.Proofs.YtlppdgaogdpajaaGreatDoor
