/- This text is a part of the proof: OnFell, Sorted, Beside, Queue. -/
import Derived.Test.YtlppdgaogdpajaaGreatDoorK12
set_option maxRecDepth 100000
set_option maxHeartbeats 4000000
namespace Go.Proofs.YtlppdgaogdpajaaGreatDoor
open Go.RowKit Go.Shelf
attribute [local go_sem] Oper.semAt_some
abbrev OwnN (w' : World) (base : Nat) (v : Value) (l : List Int) : Prop := w'.ownsRow base 3 1 v l.length (cellsL numC l)
abbrev RowAt (w' : World) (base G N : Nat) (l : List Int) : Prop := w'.ownsRow base 3 1 (.slice (some ⟨G, 0, none⟩) N N) N (l.map fun n => .int .i64 n)
def GivesN (r : List Int × Int) (w : World) (e : Ending) (w' : World) : Prop := ∃ v, e = .returned (.tuple #[v, .int .i64 r.2]) ∧ OwnN w' w.heap.size v r.1 ∧ Below w.heap.size w w'
theorem num_info : (Tryz.prog.info? 3).map (fun i => (i.zero, i.size, i.bytes)) = some (some (.int .i64 0), 1, 8) := by kernel_rfl
theorem count_bd {f : Fe} (h : Small f) : 0 ≤ countN f ∧ countN f ≤ 7300 := by
 have a := first_bd h (t := f.ticks) h.t0 (by have := h.t24; omega)
 have := h.p8
 unfold countN
 omega
theorem cellsL_num (l : List Int) : cellsL numC l = l.map (fun n => .int .i64 n) := by
 unfold cellsL numC
 induction l with
 | nil => rfl
 | cons x r ih => rw [List.flatMap_cons, ih]; rfl
theorem c_OnFell_no (m : Fm) (t : Int) (w : World) (hm : m.In w) (h : checkE m.f ≠ 0) : Calls Tryz.prog 82 #[m.v, .int .i64 t] w (GivesN ([], checkE m.f) w) := by
 have hC := fun W (hb : Below w.heap.size w W) => c_CheckFell m W (hm.later hb)
 generalize checkE m.f = E at *
 have he : (E != 0) = true := bne_iff_ne.2 h
 have HC := Lib.hid hC
 clear hC h hm
 go_enter Tryz.func82, Tryz.ntmps82
 go_upto_region 1 with (fail)
 go_name_world W1 hW1
 have hb0 : Below w.heap.size w W1 := by subst hW1; go_grown
 obtain ⟨q0, q1, q2, q3⟩ := (show QB m W1 w.heap.size from by subst hW1; and_intros <;> go_simp)
 clear hW1 
 go_wp2_with fail
 refine (via (w0 := W1) (by go_grown) (HC.out _ hb0)).mono ?_
 rintro e W2 ⟨rfl, hc, hf, hz, hB⟩
 have zz := cy4 hc q0 q1 q2 q3
 clear q0 q1 q2 q3
 obtain ⟨q0, q1, q2, q3⟩ := zz
 replace hb0 : Below w.heap.size w W2 := bthen hb0 hB
 have hzW2 : W1.heap.size ≤ W2.heap.size := hz
 clear hc hf hB hz
 go_wp2_with fail
 go_ret2
 exact ⟨_, rfl, World.ownsRow_nil _ _ _ _, by have hbz := hb0.size; go_grown⟩
theorem c_OnFell_tick (m : Fm) (t : Int) (w : World) (hm : m.In w) (h : checkE m.f = 0) (h2 : rg 0 m.f.ticks t = false) : Calls Tryz.prog 82 #[m.v, .int .i64 t] w (GivesN ([], 1) w) := by
 have hC := fun W (hb : Below w.heap.size w W) => c_CheckFell m W (hm.later hb)
 rw [h] at hC
 have HC := Lib.hid hC
 have HT := Lib.hid (fun W => c_tick_f m t W h2)
 clear hC h hm h2
 go_enter Tryz.func82, Tryz.ntmps82
 go_upto_region 1 with (fail)
 go_name_world W1 hW1
 have hb0 : Below w.heap.size w W1 := by subst hW1; go_grown
 obtain ⟨q0, q1, q2, q3⟩ := (show QB m W1 w.heap.size from by subst hW1; and_intros <;> go_simp)
 clear hW1 
 go_wp2_with fail
 refine (via (w0 := W1) (by go_grown) (HC.out _ hb0)).mono ?_
 rintro e W2 ⟨rfl, hc, hf, hz, hB⟩
 have zz := cy4 hc q0 q1 q2 q3
 clear q0 q1 q2 q3
 obtain ⟨q0, q1, q2, q3⟩ := zz
 replace hb0 : Below w.heap.size w W2 := bthen hb0 hB
 have hzW2 : W1.heap.size ≤ W2.heap.size := hz
 clear hc hf hB hz
 go_wp2_with fail
 refine (via (w0 := W2) (by go_grown) (HT.out _)).mono ?_
 rintro e W3 ⟨rfl, hc, hf, hz, hB⟩
 have zz := cy4 hc q0 q1 q2 q3
 clear q0 q1 q2 q3
 obtain ⟨q0, q1, q2, q3⟩ := zz
 replace hb0 : Below w.heap.size w W3 := bthen hb0 hB
 have hzW3 : W2.heap.size ≤ W3.heap.size := hz
 clear hc hf hB hz
 go_wp2_with fail
 go_ret2
 exact ⟨_, rfl, World.ownsRow_nil _ _ _ _, by have hbz := hb0.size; go_grown⟩
theorem c_OnFell_ok (m : Fm) (t : Int) (w : World) (hm : m.In w) (h : checkE m.f = 0) (h2 : rg 0 m.f.ticks t = true) : Calls Tryz.prog 82 #[m.v, .int .i64 t] w (GivesN (onFellL m.f t, 0) w) := by
 have hC := fun W (hb : Below w.heap.size w W) => c_CheckFell m W (hm.later hb)
 rw [h] at hC
 have HC := Lib.hid hC
 have HT := Lib.hid (fun W => c_tick_t m t W h2)
 have hs := (right_of h).small
 have hn := fun W => c_count m W hs
 have HN := Lib.hid hn
 have HS := Lib.hid hs
 have HM := Lib.hid hm
 have HR := Lib.hid h2
 obtain ⟨i0, hi0, hz0, hz1, hz2⟩ := info_parts num_info
 clear hC h hm h2 hn hs
 go_enter Tryz.func82, Tryz.ntmps82
 go_upto_region 1 with (fail)
 go_name_world W1 hW1
 have hb0 : Below w.heap.size w W1 := by subst hW1; go_grown
 obtain ⟨q0, q1, q2, q3⟩ := (show QB m W1 w.heap.size from by subst hW1; and_intros <;> go_simp)
 clear hW1 
 go_wp2_with fail
 refine (via (w0 := W1) (by go_grown) (HC.out _ hb0)).mono ?_
 rintro e W2 ⟨rfl, hc, hf, hz, hB⟩
 have zz := cy4 hc q0 q1 q2 q3
 clear q0 q1 q2 q3
 obtain ⟨q0, q1, q2, q3⟩ := zz
 replace hb0 : Below w.heap.size w W2 := bthen hb0 hB
 have hzW2 : W1.heap.size ≤ W2.heap.size := hz
 clear hc hf hB hz
 go_wp2_with fail
 refine (via (w0 := W2) (by go_grown) (HT.out _)).mono ?_
 rintro e W3 ⟨rfl, hc, hf, hz, hB⟩
 have zz := cy4 hc q0 q1 q2 q3
 clear q0 q1 q2 q3
 obtain ⟨q0, q1, q2, q3⟩ := zz
 replace hb0 : Below w.heap.size w W3 := bthen hb0 hB
 have hzW3 : W2.heap.size ≤ W3.heap.size := hz
 clear hc hf hB hz
 go_upto_region 8 with (fail)
 go_name_world W4 hW4
 have hbz := hb0.size
 replace hb0 : Below w.heap.size w W4 := by subst hW4; go_grown
 clear hbz
 have hbk : Below W3.heap.size W3 W4 := by subst hW4; go_grown
 have zz := cl4 hbk q0 q1 q2 q3
 clear q0 q1 q2 q3
 obtain ⟨q0, q1, q2, q3⟩ := zz
 clear hbk
 obtain ⟨s0, s1, s2, s3⟩ := (show QB m W4 W3.heap.size from by subst hW4; and_intros <;> go_simp)
 clear hW4
 go_wp2_with fail
 refine (via (w0 := W4) (by go_grown) (HN.out _)).mono ?_
 rintro e W5 ⟨rfl, hc, hf, hz, hB⟩
 have zz := cy8 hc q0 q1 q2 q3 s0 s1 s2 s3
 clear q0 q1 q2 q3 s0 s1 s2 s3
 obtain ⟨q0, q1, q2, q3, s0, s1, s2, s3⟩ := zz
 replace hb0 : Below w.heap.size w W5 := bthen hb0 hB
 have hzW5 : W4.heap.size ≤ W5.heap.size := hz
 clear hc hf hB hz
 go_wp2_with (at_make; refine stuckHere ?_)
 refine unHid ?_
 obtain ⟨c0, c1⟩ := count_bd HS.out
 obtain ⟨N, hN⟩ : ∃ N : Nat, countN m.f = (N : Int) := ⟨(countN m.f).toNat, by omega⟩
 refine wpList_make_full _ rfl (.tmp 26) (.tmp 26) 75 rfl w.heap.size 3 i0 _ 1 Tryz.underlying75 hi0 hz0 hz1 .i64 .i64 _ _ N rfl rfl hN hN (by rw [hz2]; omega) (by unfold maxLen; omega) hb0.size ?_
 intro w1 hown hgrow
 have hown2 : RowAt w1 w.heap.size W5.heap.size N (rowK m.f t 0) := by
  rw [rowK_zero, show (countN m.f).toNat = N from by omega]
  unfold RowAt
  rw [List.map_replicate]
  rw [Nat.mul_one] at hown
  exact (toList_madeCells_one (.int .i64 0) N) ▸ hown
 have hB := (kept_of_grown hgrow).below (Nat.le_refl _) (fun j hj => by cases hj)
 have hc := (bcell hB).1
 obtain ⟨G, hG⟩ : ∃ G, W5.heap.size = G := ⟨_, rfl⟩
 have zs : W3.heap.size < G := hG ▸ cell_lt s0
 rw [hG] at hown2 ⊢
 have s0n := (hc _ _ (cell_lt s0)).trans s0
 have s1n := (hc _ _ (cell_lt s1)).trans s1
 have s2n := (hc _ _ (cell_lt s2)).trans s2
 have s3n := (hc _ _ (cell_lt s3)).trans s3
 have q2n := (hc _ _ (cell_lt q2)).trans q2
 have HSC := Lib.hid (cells_4 s0n s1n s2n s3n)
 have hb1 := bthen hb0 hB
 have HO := Lib.hid hown2
 have zg : w.heap.size < G := hG ▸ cell_lt q0
 obtain ⟨S, hS⟩ : ∃ S, W3.heap.size = S := ⟨_, rfl⟩
 rw [hS] at zs HSC ⊢
 have ht := rg_iff.1 HR.out
 have hP8 := HS.out.p8
 clear hown hgrow hown2 hB hc s0 s1 s2 s3 q0 q1 q2 q3 s0n s1n s2n s3n hG hb0 hS
 go_wp2
 go_loopw [31] (fun v31 wr => ∃ k : Nat, k ≤ m.f.places.length ∧ v31 = .int .i64 k ∧ RowAt wr w.heap.size G N (rowK m.f t k) ∧ CellsAt wr S 0 (feC m) ∧ Below w.heap.size w wr ∧ G < wr.heap.size) (fun v31 _ => m.f.places.length - (intOf v31).toNat)
 case atStart => exact ⟨0, by omega, rfl, HO.out, HSC.out, hb1, (HO.out.lt G rfl).2⟩
 case round =>
  clear HSC HO hb1 q2n
  obtain ⟨k, hk, rfl, hown, hsc, hb, hzg⟩ := hrel
  have HO := Lib.hid hown
  clear hown
  obtain ⟨s0, s1, s2, s3⟩ := fe_cells hsc
  clear hsc
  by_cases hlt : k < m.f.places.length
  ·obtain ⟨x, hx⟩ := some_at hlt
   obtain ⟨b, o, hpa, hat⟩ := (HM.out.later hb).pl.at hx
   obtain ⟨y0, y1⟩ := pl_cells hat
   have zb := cell_lt y0
   have hi1 : ¬ (k : Int) < 0 := by omega
   have hi2 : (k : Int) < (m.f.places.length : Int) := by omega
   have HX := Lib.hid hx
   clear hat hx
   rw [hpa]
   clear hpa
   cases h1 : (x.kind == 1)
   ·have HR1 := Lib.hid (rowK_no (t := t) HX.out h1)
    go_wp2
    go_roundw
    case rel => exact ⟨k + 1, by omega, by go_num, by rw [HR1.out]; exact HO.out.alloc _, (cells_4 s0 s1 s2 s3).later (by go_grown), by go_grown, by simp; omega⟩
    case measure => simp [intOf]; omega
   ·have hpx : 0 ≤ (k : Int) ∧ (k : Int) ≤ (m.f.places.length : Int) - 1 := by omega
    obtain ⟨i0, i1⟩ := idx_small HS.out hpx ht
    obtain ⟨j, hj⟩ : ∃ j : Nat, idxN m.f 1 k t = (j : Int) := ⟨_, (Int.toNat_of_nonneg i0).symm⟩
    have hkv : t * (m.f.places.length : Int) + k = (j : Int) := by rw [← hj]; unfold idxN; simp
    have hNb : ∀ W, Calls Tryz.prog 145 #[m.v, (⟨0, 0, 0, 0, ⟨#[]⟩, k, t, 0, 0, 0⟩ : Rp).v] W fun e w' => e = .returned (.int .i64 j) ∧ Below W.heap.size W w' := fun W => by
     rw [← hkv]
     exact c_number m ⟨0, 0, 0, 0, ⟨#[]⟩, k, t, 0, 0, 0⟩ W hP8 hpx.1 (show (k : Int) ≤ 100 by omega) ht.1 (show t ≤ 100 by have := HS.out.t24; omega)
    have HNb := Lib.hid hNb
    have zsl := cell_lt s0
    have hjN : j < N := by omega
    have hj0 : ¬ (j : Int) < 0 := by omega
    have hj1 : (j : Int) < (N : Int) := by omega
    obtain ⟨v, hv⟩ := some_at (show j < (rowK m.f t k).length by rw [rowK_len]; omega)
    have y9 : wr.cell? ⟨G, j, none⟩ = some (.int .i64 v) := (HO.out.cellAt j (by omega)).trans (by rw [List.getElem?_map, hv]; rfl)
    have fy9 : wr.frozen? ⟨G, j, none⟩ = false := HO.out.frozenAt j
    have HR1 := Lib.hid (rowK_yes (t := t) HX.out h1 i0)
    have HJ := Lib.hid hj
    clear hNb hv hkv hj i0 i1
    go_wp2_with fail
    refine (via (w0 := wr) (by go_grown) (HNb.out _)).mono ?_
    rintro e Wn ⟨rfl, hc, hf, hz, hB⟩
    have HO3 := Lib.hid (own_below HO.out hB)
    have y9n := (hc _ _ (cell_lt y9)).trans y9
    have fy9n := (hf _ _ (cell_lt y9)).trans fy9
    have HSC := Lib.hid ((cells_4 s0 s1 s2 s3).later hB)
    have hbn := bthen hb hB
    have hzn : G < Wn.heap.size := Nat.lt_of_lt_of_le hzg hz
    clear y9 fy9 s0 s1 s2 s3 hc hf hB hz y0 y1 zb zsl
    go_wp2
    go_roundw
    case rel =>
     obtain ⟨ho1, hg1⟩ := HO3.out.stored j (.int .i64 1)
     refine ⟨k + 1, by omega, by go_num, ?_, ?_, ?_, ?_⟩
     ·rw [HR1.out, HJ.out, Int.toNat_natCast]
      unfold RowAt
      rw [List.map_set]
      exact ho1
     ·exact HSC.out.kept ((Kept.refl (fun q => q = G) Wn).setCell (.inl rfl) _) (fun e => by omega)
     ·exact ((Kept.of_below (O := fun q => q = G) hbn).setCell (.inl rfl) _).below (Nat.le_refl _) (fun q e => by omega)
     ·exact Nat.lt_of_lt_of_le hzn ((Kept.refl (fun q => q = G) Wn).setCell (.inl rfl) _).size
    case measure => simp [intOf]; omega
  ·obtain rfl : k = m.f.places.length := by omega
   have ho := HO.out
   rw [rowK_all] at ho
   have ho2 : OwnN wr w.heap.size (.slice (some ⟨G, 0, none⟩) N N) (onFellL m.f t) := by
    have hlen : (onFellL m.f t).length = N := by rw [← rowK_all, rowK_len]; omega
    unfold OwnN
    rw [hlen, cellsL_num]
    exact ho
   have HO2 := Lib.hid ho2
   clear ho2
   clear ho
   go_wp2
   go_ret2
   exact ⟨_, rfl, HO2.out, hb⟩
theorem c_OnFell (m : Fm) (t : Int) (w : World) (hm : m.In w) : Calls Tryz.prog 82 #[m.v, .int .i64 t] w (GivesN (onFellV m.f t) w) := by
 unfold onFellV
 by_cases h : checkE m.f = 0
 ·rw [if_neg (by omega)]
  by_cases h2 : rg 0 m.f.ticks t = false
  ·rw [if_pos h2]; exact c_OnFell_tick m t w hm h h2
  ·rw [if_neg h2]; exact c_OnFell_ok m t w hm h (by simpa using h2)
 ·rw [if_pos h]; exact c_OnFell_no m t w hm h
end Go.Proofs.YtlppdgaogdpajaaGreatDoor
namespace Go.Proofs.YtlppdgaogdpajaaGreatDoor
open Go.RowKit Go.Sort
def leI (x y : Int) : Bool := decide (x ≤ y)
def sortI (l : List Int) : List Int := l.mergeSort leI
def setI (l : List Int) : List Int := Lib.compact (sortI l)
theorem compact_le {α : Type} [Inhabited α] [DecidableEq α] (l : List α) : (Lib.compact l).length ≤ l.length := by
 unfold Lib.compact Lib.compactUpTo
 rw [List.length_map]
 exact Nat.le_trans (List.length_filter_le _ _) (by simp)
theorem row_take {w : World} {base : Nat} {e : TypeId} {g n cap m : Nat} {xs ys : List Value} (h : w.ownsRow base e 1 (.slice (some ⟨g, 0, none⟩) n cap) n (xs ++ ys)) (hm : xs.length = m) (hn : m ≤ n) : w.ownsRow base e 1 (.slice (some ⟨g, 0, none⟩) m cap) m xs := by
 rcases h.2 with ⟨h', _⟩ | ⟨g', cap', cur, h', hb, hg, hnc, hcm, hcs, ht⟩
 ·simp at h'
 ·simp only [Value.slice.injEq, Option.some.injEq, Addr.mk.injEq, and_true, true_and] at h'
  obtain ⟨rfl, rfl⟩ := h'
  refine ⟨by omega, .inr ⟨g, cap, cur, rfl, hb, hg, by omega, hcm, hcs, ?_⟩⟩
  have h2 : (cur.toList.take (n * 1)).take (m * 1) = xs := by rw [ht, List.take_append_of_le_length (by omega), List.take_of_length_le (by omega)]
  rw [List.take_take, Nat.min_eq_left (by omega)] at h2
  exact h2
theorem c_sortI (l : List Int) (v : Value) (base : Nat) (w : World) (h : OwnN w base v l) (hl : l.length ≤ 1000000) :
  Calls Tryz.prog 155 #[v] w fun e w' => e = .returned (.tuple #[]) ∧ OwnN w' base v (sortI l) ∧ Kept (fun k => v.ownBlock = some k) w w' := by
 unfold OwnN at h ⊢
 rcases h.2 with ⟨rfl, h0⟩ | ⟨g, cap, cur, rfl, hbg, hg, h1, h2, h3, h4⟩
 ·obtain rfl : l = [] := List.length_eq_zero_iff.1 h0
  refine (Tryz.slices_Sort_int_none none 0 w).mono ?_
  rintro e w' ⟨rfl, rfl⟩
  exact ⟨rfl, by rw [show sortI [] = [] from by simp [sortI]]; exact h, Kept.refl _ _⟩
 ·rw [cellsL_num, Nat.mul_one] at h4
  refine (Tryz.slices_Sort_int g 0 cap l w (holds_of_blockI hg h4) (Array.getElem?_eq_some_iff.1 hg).1 (by omega)).mono ?_
  rintro e w' ⟨rfl, n, os, rfl⟩
  refine ⟨rfl, ?_, kept_of_grown (grownBy_sortedI _)⟩
  have hs : (sortI l).length = l.length := List.length_mergeSort l
  rw [cellsL_num, hs]
  exact ownsRow_sortedI (n := n) (os := os) (ts := sortI l) hs hbg hg h1 h2 h3
theorem c_compactI (l : List Int) (v : Value) (base : Nat) (w : World) (h : OwnN w base v l) (hl : l.length ≤ 1000000) :
  Calls Tryz.prog 156 #[v] w fun e w' => (∃ v', e = .returned v' ∧ OwnN w' base v' (Lib.compact l)) ∧ Kept (fun k => v.ownBlock = some k) w w' := by
 unfold OwnN at h ⊢
 rcases h.2 with ⟨rfl, h0⟩ | ⟨g, cap, cur, rfl, hbg, hg, h1, h2, h3, h4⟩
 ·obtain rfl : l = [] := List.length_eq_zero_iff.1 h0
  refine (Tryz.slices_Compact_int_empty none 0 w).mono ?_
  rintro e w' ⟨rfl, rfl⟩
  exact ⟨⟨_, rfl, h⟩, Kept.refl _ _⟩
 ·rw [cellsL_num, Nat.mul_one] at h4
  refine (Tryz.slices_Compact_int g 0 cap l w (holds_of_blockI hg h4) (by omega) h1).mono ?_
  rintro e w' ⟨rfl, n, rfl⟩
  have hle := compact_le l
  have hk := kept_of_grown (grownBy_sortedI (w := w) (g := g) (n := n) (os := #[]) (Lib.compact l ++ List.replicate (l.length - (Lib.compact l).length) 0).toArray)
  rw [grow_empty] at hk
  have hown := ownsRow_sortedI (w := w) (n := n) (os := #[]) (ss := l) (ts := Lib.compact l ++ List.replicate (l.length - (Lib.compact l).length) 0) (by simp; omega) hbg hg h1 h2 h3
  rw [grow_empty, List.map_append] at hown
  refine ⟨⟨_, rfl, ?_⟩, hk⟩
  rw [cellsL_num]
  exact row_take hown (by simp) hle
abbrev OwnS (w' : World) (base : Nat) (v : Value) (l : List ByteArray) : Prop := w'.ownsRow base 9 1 v l.length (cellsL strC l)
end Go.Proofs.YtlppdgaogdpajaaGreatDoor
namespace Go.Proofs.YtlppdgaogdpajaaGreatDoor
open Go.RowKit Go.Shelf
attribute [local go_sem] Oper.semAt_some
def endO (p : Int) (g : Gt) : Option Int := if g.a = p then some g.b else if g.b = p then some g.a else none
def besK (f : Fe) (p : Int) (k : Nat) : List Int := (f.gates.take k).filterMap (endO p)
theorem besK_yes {f : Fe} {p : Int} {k : Nat} {g : Gt} {y : Int} (h : f.gates[k]? = some g) (hy : endO p g = some y) : besK f p (k + 1) = besK f p k ++ [y] := by
 unfold besK
 rw [take_some h, List.filterMap_append, List.filterMap_cons, hy, List.filterMap_nil]
theorem besK_no {f : Fe} {p : Int} {k : Nat} {g : Gt} (h : f.gates[k]? = some g) (hy : endO p g = none) : besK f p (k + 1) = besK f p k := by
 unfold besK
 rw [take_some h, List.filterMap_append, List.filterMap_cons, hy, List.filterMap_nil, List.append_nil]
theorem besK_all (f : Fe) (p : Int) : besK f p f.gates.length = besideL f p := by
 unfold besK besideL endO
 rw [List.take_length]
theorem besK_len (f : Fe) (p : Int) (k : Nat) (h : f.gates.length ≤ 12) : (besK f p k).length ≤ 12 := by
 unfold besK
 refine Nat.le_trans (List.length_filterMap_le _ _) ?_
 rw [List.length_take]
 omega
theorem asked_right {f : Fe} {l : List Int} (h : askedE f l = 0) : checkE f = 0 := by
 unfold askedE at h
 by_cases h2 : checkE f = 0
 ·exact h2
 ·rw [if_pos h2] at h; exact h
def besideV (f : Fe) (p : Int) : List Int := setI (besideL f p)
theorem c_beside (m : Fm) (p : Int) (w : World) (hm : m.In w) (hs : Small m.f) :
  Calls Tryz.prog 142 #[m.v, .int .i64 p] w fun e w' => ∃ v, e = .returned v ∧ OwnN w' w.heap.size v (besideV m.f p) ∧ Below w.heap.size w w' := by
 have HM := Lib.hid hm
 have hG := hs.g12
 obtain ⟨i0, hi0, hz0, hz1, hz2⟩ := info_parts num_info
 clear hm hs
 go_enter Tryz.func142, Tryz.ntmps142
 go_upto_region 2 with (fail)
 go_name_world W1 hW1
 have hb0 : Below w.heap.size w W1 := by subst hW1; go_grown
 obtain ⟨q0, q1, q2, q3⟩ := (show QB m W1 w.heap.size from by subst hW1; and_intros <;> go_simp)
 clear hW1 
 go_wp2
 have hz1' := hb0.size
 have hzb := cell_lt q0
 clear q0 q1 q2 q3
 go_loopw [5, 11] (fun v5 v11 wr => ∃ k : Nat, k ≤ m.f.gates.length ∧ v11 = .int .i64 k ∧ OwnN wr w.heap.size v5 (besK m.f p k) ∧ Below w.heap.size w wr) (fun _ v11 _ => m.f.gates.length - (intOf v11).toNat)
 case atStart => exact ⟨0, by omega, rfl, World.ownsRow_nil _ _ _ _, hb0⟩
 case round =>
  obtain ⟨k, hk, rfl, hown, hb⟩ := hrel
  have HO := Lib.hid hown
  have hzw := hb.size
  clear hown
  by_cases hlt : k < m.f.gates.length
  ·obtain ⟨x, hx⟩ := some_at hlt
   obtain ⟨b, o, hga, hat⟩ := (HM.out.later hb).gt.at hx
   obtain ⟨y0, y1, y2, y3⟩ := gt_cells hat
   have zb := cell_lt y0
   have hi1 : ¬ (k : Int) < 0 := by omega
   have hi2 : (k : Int) < (m.f.gates.length : Int) := by omega
   have hbl := besK_len m.f p k hG
   rw [hga]
   by_cases e1 : x.a = p
   ·have he1 : (p == x.a) = true := beq_iff_eq.2 e1.symm
    have HN := Lib.hid (besK_yes (y := x.b) hx (by unfold endO; rw [if_pos e1]))
    clear hat hx hga e1
    go_wp2_with (at_builtin; refine stuckHere ?_)
    refine unHid ?_
    refine wpList_append_own_at _ rfl _ _ 75 rfl w.heap.size 3 i0 _ 1 8 Tryz.underlying75 hi0 hz0 hz1 hz2 rfl (by decide) _ _ _ rfl ((HO.out.alloc _).alloc _) ⟨_, 0, none⟩ 1 1 [.int .i64 x.b] rfl rfl (news_at _ #[_] _ _ (by simp)) (by simp [Value.oneCell']) (by unfold maxLen; omega) (by omega) (by simp; omega) ?_
    intro v' w1 hown' hgrow _ hat
    have hown2 : OwnN w1 w.heap.size v' (besK m.f p (k + 1)) := by
     rw [HN.out]
     unfold OwnN
     rw [List.length_append, cellsL_snoc]
     exact hown'
    have hbb : Below w.heap.size w w1 := (show Below w.heap.size w _ from by go_grown).trans ((kept_of_grown hgrow).below (by simp; omega) (fun j hj => (HO.out.lt j hj).1))
    have HB := Lib.hid hbb
    have HW2 := Lib.hid hown2
    clear hown' hgrow hat hown2 hbb
    go_wp2
    go_roundw
    case rel => exact ⟨k + 1, by omega, by go_num, HW2.out, HB.out⟩
    case measure => simp [intOf]; omega
   ·have he1 : (p == x.a) = false := beq_eq_false_iff_ne.2 (Ne.symm e1)
    by_cases e2 : x.b = p
    ·have he2 : (p == x.b) = true := beq_iff_eq.2 e2.symm
     have HN := Lib.hid (besK_yes (y := x.a) hx (by unfold endO; rw [if_neg e1, if_pos e2]))
     clear hat hx hga e1 e2
     go_wp2_with (at_builtin; refine stuckHere ?_)
     refine unHid ?_
     refine wpList_append_own_at _ rfl _ _ 75 rfl w.heap.size 3 i0 _ 1 8 Tryz.underlying75 hi0 hz0 hz1 hz2 rfl (by decide) _ _ _ rfl ((HO.out.alloc _).alloc _) ⟨_, 0, none⟩ 1 1 [.int .i64 x.a] rfl rfl (news_at _ #[_] _ _ (by simp)) (by simp [Value.oneCell']) (by unfold maxLen; omega) (by omega) (by simp; omega) ?_
     intro v' w1 hown' hgrow _ hat
     have hown2 : OwnN w1 w.heap.size v' (besK m.f p (k + 1)) := by
      rw [HN.out]
      unfold OwnN
      rw [List.length_append, cellsL_snoc]
      exact hown'
     have hbb : Below w.heap.size w w1 := (show Below w.heap.size w _ from by go_grown).trans ((kept_of_grown hgrow).below (by simp; omega) (fun j hj => (HO.out.lt j hj).1))
     have HB := Lib.hid hbb
     have HW2 := Lib.hid hown2
     clear hown' hgrow hat hown2 hbb
     go_wp2
     go_roundw
     case rel => exact ⟨k + 1, by omega, by go_num, HW2.out, HB.out⟩
     case measure => simp [intOf]; omega
    ·have he2 : (p == x.b) = false := beq_eq_false_iff_ne.2 (Ne.symm e2)
     have HN := Lib.hid (besK_no hx (by unfold endO; rw [if_neg e1, if_neg e2]))
     clear hat hx hga e1 e2
     go_wp2
     go_roundw
     case rel => exact ⟨k + 1, by omega, by go_num, by rw [HN.out]; exact HO.out.alloc _, by go_grown⟩
     case measure => simp [intOf]; omega
  ·obtain rfl : k = m.f.gates.length := by omega
   have hbl := besK_len m.f p m.f.gates.length hG
   have ho := HO.out
   rw [besK_all] at ho hbl
   have HO2 := Lib.hid ho
   clear ho HO
   go_wp2_with fail
   refine (c_sortI _ _ _ _ HO2.out (by omega)).mono ?_
   rintro e W1 ⟨rfl, ho1, hk1⟩
   have hb1 := hk1.below hzw (fun j hj => (HO2.out.lt j hj).1)
   have HO3 := Lib.hid ho1
   have hs1 : (sortI (besideL m.f p)).length ≤ 12 := by unfold sortI; rw [List.length_mergeSort]; exact hbl
   have hbw := hb.trans hb1
   clear ho1 hk1 hb1 hb
   go_wp2_with fail
   refine (c_compactI _ _ _ _ HO3.out (by omega)).mono ?_
   rintro e W2 ⟨⟨v', rfl, ho2⟩, hk2⟩
   have hb2 := hk2.below hbw.size (fun j hj => (HO3.out.lt j hj).1)
   have HO4 := Lib.hid ho2
   have hbw2 := hbw.trans hb2
   clear ho2 hk2 hb2 hbw
   go_wp2
   go_ret
   exact ⟨_, rfl, HO4.out, hbw2⟩
end Go.Proofs.YtlppdgaogdpajaaGreatDoor
namespace Go.Proofs.YtlppdgaogdpajaaGreatDoor
open Go.RowKit Go.Maps
theorem zero_int (w : World) : (zeroValue 3).run Tryz.prog w = .ok (.int .i64 0) w := by kernel_rfl
def In64 (s : Int) : Prop := -9223372036854775808 ≤ s ∧ s ≤ 9223372036854775807
def MapI (w : World) (b n : Nat) (S : Int → Option Int) : Prop :=
 ∃ D : DataW Unit, w.ownsMap Tryz.prog 3 (plainElem Tryz.prog 3) b n D ∧ ∀ s : Int, In64 s → Maps.has D (.int .i64 s) = (S s).isSome ∧ D.atKey (.int .i64 s) (.lit (.int .i64 0)) = .lit (.int .i64 ((S s).getD 0))
theorem MapI.made (w : World) : MapI (w.alloc (.map #[] 0)) w.heap.size 0 (fun _ => none) := ⟨_, World.ownsMap_made _ _ _ _, fun _ _ => ⟨rfl, rfl⟩⟩
theorem MapI.later {w w1 : World} {b n : Nat} {S : Int → Option Int} (h : MapI w b n S) (hb : Below w.heap.size w w1) : MapI w1 b n S := by
 obtain ⟨D, ⟨es, clock, hh, F, hs, hD⟩, hat⟩ := h
 have hlt : b < w.heap.size := (Array.getElem?_eq_some_iff.1 hh).1
 exact ⟨D, ⟨es, clock, (hb.block b hlt).trans hh, F, hs, hD⟩, hat⟩
theorem MapI.lt {w : World} {b n : Nat} {S : Int → Option Int} (h : MapI w b n S) : b < w.heap.size := by
 obtain ⟨D, ⟨es, clock, hh, F, hs, hD⟩, hat⟩ := h
 exact (Array.getElem?_eq_some_iff.1 hh).1
theorem MapI.kept {O : Nat → Prop} {w w1 : World} {b n : Nat} {S : Int → Option Int} (h : MapI w b n S) (hk : Kept O w w1) (hn : ¬ O b) : MapI w1 b n S := by
 obtain ⟨D, ⟨es, clock, hh, F, hs, hD⟩, hat⟩ := h
 have hlt : b < w.heap.size := (Array.getElem?_eq_some_iff.1 hh).1
 exact ⟨D, ⟨es, clock, (hk.block b hlt hn).trans hh, F, hs, hD⟩, hat⟩
theorem MapI.look {w : World} {b n : Nat} {S : Int → Option Int} (h : MapI w b n S) (s : Int) (hs : In64 s) : (Instr.lookup 104 (.map (some b)) (.int .i64 s) false).run Tryz.prog w = .ok (.int .i64 ((S s).getD 0)) w := by
 obtain ⟨D, hown, hat⟩ := h
 obtain ⟨c, hrun, hv, _⟩ := hown.lookup_int lawSetI Tryz.underlying104 Tryz.underlying3 (zero_int w) (keySetI hs)
 rw [(hat s hs).2] at hv
 simp only [DataW.lit.injEq, Lit.int.injEq, true_and] at hv
 rw [hrun, hv]
theorem MapI.look2 {w : World} {b n : Nat} {S : Int → Option Int} (h : MapI w b n S) (s : Int) (hs : In64 s) : (Instr.lookup 104 (.map (some b)) (.int .i64 s) true).run Tryz.prog w = .ok (.tuple #[.int .i64 ((S s).getD 0), .bool (S s).isSome]) w := by
 obtain ⟨D, hown, hat⟩ := h
 have hw0 : (Lit.int .i64 0).wf = true := by decide
 obtain ⟨v, ps, hrun, hv⟩ := hown.look_ok lawSetI Tryz.underlying104 (zero_int w) (zd := .lit (.int .i64 0)) (zp := []) (plainElem_int Tryz.underlying3 hw0) (keySetI hs)
 obtain ⟨c, rfl, hc, _⟩ := plainElem_int_inv Tryz.underlying3 hv
 simp only [Prod.mk.injEq] at hc
 have h2 := hc.1
 rw [(hat s hs).2] at h2
 simp only [DataW.lit.injEq, Lit.int.injEq, true_and] at h2
 rw [hrun, (hat s hs).1, ← h2]
theorem MapI.put {w : World} {ops : Array Oper} {rest : List Oper} {o : Oper} {a : Act} {Q : Exit → Act → World → Prop} {b n : Nat} {S : Int → Option Int} (h : MapI w b n S) (hn : n < 1000000)
  (hg : o.guard = none) (m x v : Operand) (hop : o.op = Op.mapUpdate 104 m x v ∨ o.op = Op.insert 104 m x v) (hm : a.eval m = .map (some b)) (s : Int) (hs : In64 s) (hx : a.eval x = .int .i64 s) (y : Int) (hy : In64 y) (hv : a.eval v = .int .i64 y)
  (hK : ∀ w', MapI w' b (n + 1) (fun t => if t = s then some y else S t) → w.grownBy w' (some b) → wpList Tryz.prog ops Q rest (a.put o.dst undef) w') : wpList Tryz.prog ops Q (o :: rest) a w := by
 obtain ⟨D, hown, hat⟩ := h
 obtain ⟨w', hrun, h1, h2⟩ := hown.update lawSetI Tryz.underlying104 (by unfold maxLen; omega) (keySetI hs) (plainElem_int Tryz.underlying3 (WalkArith.wf_i64 hy))
 refine wpList_plain hg fun K' hK' => ?_
 have hM : MapI w' b (n + 1) (fun t => if t = s then some y else S t) := by
  refine ⟨_, h1, fun t ht => ?_⟩
  by_cases hne : t = s
  ·subst hne
   dsimp only
   rw [if_pos rfl]
   exact ⟨has_put_same hown.isMap (show WideAt.IsKeyLit (.int .i64 t) from trivial) _, atKey_put_same (k := .int .i64 t) hown.isMap (show WideAt.IsKeyLit (.int .i64 t) from trivial) _ _⟩
  ·dsimp only
   rw [if_neg hne, ← (hat t ht).1, ← (hat t ht).2]
   exact ⟨has_put_other (fun e => hne (by simpa using e)) _, atKey_put_other (fun e => hne (by simpa using e)) _ _⟩
 unfold Oper.wp
 rcases hop with hop | hop <;> simp [execOp, hop, hm, hx, hv, hrun, Result.andThen] <;> exact hK' _ _ (hK w' hM h2)
def RowQ (W : World) (base : Nat) (v : Value) (l : List Int) : Prop :=
 ∃ g off cap, v = .slice (some ⟨g, off, none⟩) l.length cap ∧ base ≤ g ∧ (l.length ≤ cap ∧ cap ≤ maxLen) ∧ ∃ cur, W.heap[g]? = some (.cells cur 3 (0, 0)) ∧ off + cap ≤ cur.size ∧ ∀ i x, l[i]? = some x → cur[off + i]? = some (.int .i64 x)
theorem RowQ.ge {W : World} {base : Nat} {v : Value} {l : List Int} (h : RowQ W base v l) {g : Nat} (hg : v.ownBlock = some g) : base ≤ g ∧ g < W.heap.size := by
 obtain ⟨g', off, cap, rfl, e2, e3, cur, e4, _⟩ := h
 have e : g' = g := Option.some.inj hg
 subst e
 exact ⟨e2, (Array.getElem?_eq_some_iff.1 e4).1⟩
theorem RowQ.kept {O : Nat → Prop} {W W' : World} {base : Nat} {v : Value} {l : List Int} (h : RowQ W base v l) (hk : Kept O W W') (hn : ∀ g, O g → g < base) : RowQ W' base v l := by
 obtain ⟨g, off, cap, e1, e2, e3, cur, e4, e5, e6⟩ := h
 exact ⟨g, off, cap, e1, e2, e3, cur, (hk.block g (Array.getElem?_eq_some_iff.1 e4).1 (fun h => by have := hn g h; omega)).trans e4, e5, e6⟩
theorem RowQ.one (W : World) (base : Nat) (x : Int) (hb : base ≤ W.heap.size) : RowQ (W.alloc (.cells #[.int .i64 x] 3)) base (.slice (some ⟨W.heap.size, 0, none⟩) 1 1) [x] :=
  ⟨W.heap.size, 0, 1, rfl, hb, ⟨Nat.le_refl _, by unfold maxLen; omega⟩, _, World.alloc_heap_new W _, by simp, fun i y hy => by
    have h0 : i = 0 := by have := (List.getElem?_eq_some_iff.1 hy).1; simpa using this
    subst h0
    cases hy
    rfl⟩
theorem RowQ.own {W : World} {base : Nat} {v : Value} {l : List Int} (h : W.ownsRow base 3 1 v l.length (cellsL numC l)) (hne : l ≠ []) : RowQ W base v l := by
 rcases h.2 with ⟨_, h0⟩ | ⟨g, cap, cur, rfl, hbg, hg, h1, hmx, h3, h4⟩
 ·exact (hne (List.length_eq_zero_iff.1 h0)).elim
 ·refine ⟨g, 0, cap, rfl, hbg, ⟨h1, hmx⟩, cur, hg, by omega, fun i x hx => ?_⟩
  rw [cellsL_num, Nat.mul_one] at h4
  have hi := (List.getElem?_eq_some_iff.1 hx).1
  have h5 : (cur.toList.take l.length)[i]? = (l.map fun n => Value.int .i64 n)[i]? := by rw [h4]
  rw [List.getElem?_take_of_lt hi, List.getElem?_map, hx, Array.getElem?_toList] at h5
  rw [Nat.zero_add]
  exact h5
end Go.Proofs.YtlppdgaogdpajaaGreatDoor
