/- This text proves what the reference's True, OfCount, Gathered, Fits and Shown return, for every rate, count and tally. -/
import Derived.Test.YtokpjaodchcheaaTrue
import Derived.Test.YtokpjaodchcheaaRefChecks
namespace Go.Proofs.Ytokpjaodchcheaa
open Go.RowKit

theorem mid2 (i j : Nat) (h : i < j) : ((i : Int) - 1 + (j : Int)) / 2 = ((i + j - 1) / 2 : Nat) := by omega

set_option maxHeartbeats 1600000 in
theorem c_rleast (m d c : Int) (w : World) (hm : 0 ≤ d ∧ d ≤ 1000) (_hc : 0 ≤ c ∧ c ≤ 1000000) :
    Calls Try.prog 80 #[.agg #[.int .i64 m, .int .i64 d], .int .i64 c] w fun e w' => e = .returned (.int .i64 (fromG d c)) ∧ Below w.heap.size w w' := by
  have hr := rises_high (d := d) (c := c) hm.1 100001
  have HR := Lib.hid hr
  clear hr
  go_enter Try.func80, Try.ntmps80
  go_wp2
  go_name_world W0 hW0
  have hb0 : Below w.heap.size w W0 := by subst hW0; go_grown
  have k3 : W0.cell? ⟨w.heap.size, 0, none⟩ = some (.int .i64 m) := by subst hW0; go_simp
  have k4 : W0.cell? ⟨w.heap.size, 1, none⟩ = some (.int .i64 d) := by subst hW0; go_simp
  clear hW0
  go_loopw [5, 6] (fun v5 v6 wr => ∃ i j : Nat, i ≤ j ∧ j ≤ 100001 ∧ v5 = .int .i64 ((i : Int) - 1) ∧ v6 = .int .i64 j ∧ SInv (fun n => decide (c ≤ highN d n)) 100001 i j ∧ Below W0.heap.size W0 wr) (fun v5 v6 _ => ((intOf v6) - (intOf v5)).toNat)
  case atStart => exact ⟨0, 100001, by omega, by omega, by go_num, by go_num, ⟨fun k _ => by omega, fun k _ _ => by omega⟩, Below.refl _ _⟩
  case round =>
    obtain ⟨i, j, hij, hj, rfl, rfl, hs, hb⟩ := hrel
    have c3 : wr.cell? ⟨w.heap.size, 0, none⟩ = some (.int .i64 m) := ((bcell hb).1 _ _ (cell_lt k3)).trans k3
    have c4 : wr.cell? ⟨w.heap.size, 1, none⟩ = some (.int .i64 d) := ((bcell hb).1 _ _ (cell_lt k4)).trans k4
    by_cases hlt : i < j
    · have hltz : (1 : Int) < (j : Int) - ((i : Int) - 1) := by omega
      go_wp2_with fail
      rw [mid2 i j hlt]
      have hm1 : i ≤ (i + j - 1) / 2 := by omega
      have hm2 : (i + j - 1) / 2 < j := by omega
      generalize (i + j - 1) / 2 = h at hm1 hm2
      refine (c_high m d h _ (by omega) hm).mono ?_
      rintro e w' ⟨rfl, hb'⟩
      cases hq : decide (c ≤ highN d h) with
      | true =>
        have hs2 : SInv (fun n => decide (c ≤ highN d n)) 100001 i h := ⟨hs.1, fun k h1 h2 => HR.out h k h1 h2 hq⟩
        have hq' : c ≤ highN d h := by have := of_decide_eq_true hq; omega
        clear hq
        go_wp2_with fail
        go_roundw
        case rel => exact ⟨i, h, by omega, by omega, rfl, rfl, hs2, bthen hb hb'⟩
        case measure => simp [intOf]; omega
      | false =>
        have hs1 : ∀ k : Nat, k < h + 1 → decide (c ≤ highN d k) = false := by
          intro k h1
          cases hk : decide (c ≤ highN d k) with
          | false => rfl
          | true =>
            have := HR.out k h (by omega) (by omega) hk
            simp only [] at this
            rw [hq] at this; cases this
        have hs2 : SInv (fun n => decide (c ≤ highN d n)) 100001 (h + 1) j := ⟨hs1, hs.2⟩
        clear hs1
        have hq' : highN d h < c := by have := of_decide_eq_false hq; omega
        clear hq
        go_wp2_with fail
        go_roundw
        case rel => exact ⟨h + 1, j, by omega, by omega, by go_num, rfl, hs2, bthen hb hb'⟩
        case measure => simp [intOf]; omega
    · have hf : fromG d c = i := ft_eq _ 100001 i (by omega) hs.1 (fun h => hs.2 i (by omega) h)
      have HF := Lib.hid hf
      clear hf
      have hltz : ¬ (1 : Int) < (j : Int) - ((i : Int) - 1) := by omega
      go_wp2
      go_ret
      exact ⟨ret_int (by rw [HF.out]; omega), bthen hb0 hb⟩

set_option maxHeartbeats 1600000 in
theorem c_rgreatest (m d c : Int) (w : World) (hm : 0 ≤ m ∧ m ≤ 1000) (_hc : 0 ≤ c ∧ c ≤ 1000000) :
    Calls Try.prog 81 #[.agg #[.int .i64 m, .int .i64 d], .int .i64 c] w fun e w' => e = .returned (.int .i64 ((fromL m (c + 1) : Int) - 1)) ∧ Below w.heap.size w w' := by
  have hr := rises_low (m := m) (c := c + 1) hm 100001
  have HR := Lib.hid hr
  clear hr
  go_enter Try.func81, Try.ntmps81
  go_wp2
  go_name_world W0 hW0
  have hb0 : Below w.heap.size w W0 := by subst hW0; go_grown
  have k3 : W0.cell? ⟨w.heap.size, 0, none⟩ = some (.int .i64 m) := by subst hW0; go_simp
  have k4 : W0.cell? ⟨w.heap.size, 1, none⟩ = some (.int .i64 d) := by subst hW0; go_simp
  clear hW0
  go_loopw [5, 6] (fun v5 v6 wr => ∃ i j : Nat, i ≤ j ∧ j ≤ 100001 ∧ v5 = .int .i64 ((i : Int) - 1) ∧ v6 = .int .i64 j ∧ SInv (fun n => decide (c + 1 ≤ lowN m n)) 100001 i j ∧ Below W0.heap.size W0 wr) (fun v5 v6 _ => ((intOf v6) - (intOf v5)).toNat)
  case atStart => exact ⟨0, 100001, by omega, by omega, by go_num, by go_num, ⟨fun k _ => by omega, fun k _ _ => by omega⟩, Below.refl _ _⟩
  case round =>
    obtain ⟨i, j, hij, hj, rfl, rfl, hs, hb⟩ := hrel
    have c3 : wr.cell? ⟨w.heap.size, 0, none⟩ = some (.int .i64 m) := ((bcell hb).1 _ _ (cell_lt k3)).trans k3
    have c4 : wr.cell? ⟨w.heap.size, 1, none⟩ = some (.int .i64 d) := ((bcell hb).1 _ _ (cell_lt k4)).trans k4
    by_cases hlt : i < j
    · have hltz : (1 : Int) < (j : Int) - ((i : Int) - 1) := by omega
      go_wp2_with fail
      rw [mid2 i j hlt]
      have hm1 : i ≤ (i + j - 1) / 2 := by omega
      have hm2 : (i + j - 1) / 2 < j := by omega
      generalize (i + j - 1) / 2 = h at hm1 hm2
      refine (c_low m d h _ (by omega) hm).mono ?_
      rintro e w' ⟨rfl, hb'⟩
      cases hq : decide (c + 1 ≤ lowN m h) with
      | true =>
        have hs2 : SInv (fun n => decide (c + 1 ≤ lowN m n)) 100001 i h := ⟨hs.1, fun k h1 h2 => HR.out h k h1 h2 hq⟩
        have hq' : c < lowN m h := by have := of_decide_eq_true hq; omega
        clear hq
        go_wp2_with fail
        go_roundw
        case rel => exact ⟨i, h, by omega, by omega, rfl, rfl, hs2, bthen hb hb'⟩
        case measure => simp [intOf]; omega
      | false =>
        have hs1 : ∀ k : Nat, k < h + 1 → decide (c + 1 ≤ lowN m k) = false := by
          intro k h1
          cases hk : decide (c + 1 ≤ lowN m k) with
          | false => rfl
          | true =>
            have := HR.out k h (by omega) (by omega) hk
            simp only [] at this
            rw [hq] at this; cases this
        have hs2 : SInv (fun n => decide (c + 1 ≤ lowN m n)) 100001 (h + 1) j := ⟨hs1, hs.2⟩
        clear hs1
        have hq' : lowN m h ≤ c := by have := of_decide_eq_false hq; omega
        clear hq
        go_wp2_with fail
        go_roundw
        case rel => exact ⟨h + 1, j, by omega, by omega, by go_num, rfl, hs2, bthen hb hb'⟩
        case measure => simp [intOf]; omega
    · have hf : fromL m (c + 1) = i := ft_eq _ 100001 i (by omega) hs.1 (fun h => hs.2 i (by omega) h)
      have HF := Lib.hid hf
      clear hf
      have hltz : ¬ (1 : Int) < (j : Int) - ((i : Int) - 1) := by omega
      go_wp2
      go_ret
      exact ⟨ret_int (by rw [HF.out]), bthen hb0 hb⟩

theorem c_rspan (a b : Int) (w : World) : Calls Try.prog 79 #[.int .i64 a, .int .i64 b] w fun e w' => e = .returned (betw a b).v ∧ Below w.heap.size w w' := by
  by_cases h : b < a
  · have hx : betw a b = ⟨0, 0, false⟩ := if_pos h
    rw [hx]
    clear hx
    go_enter Try.func79, Try.ntmps79
    go_wp2
    go_returns
    exact ⟨rfl, by go_grown⟩
  · have hx : betw a b = ⟨a, b, true⟩ := if_neg h
    rw [hx]
    clear hx
    go_enter Try.func79, Try.ntmps79
    go_wp2
    go_returns
    exact ⟨rfl, by go_grown⟩

set_option maxHeartbeats 1000000 in
theorem c_rShown (m d n : Int) (w : World) :
    Calls Try.prog 36 #[.agg #[.int .i64 m, .int .i64 d], .int .i64 n] w fun e w' =>
      e = .returned (if okN m d n then .tuple #[.int .i64 (lowN m n), .int .i64 (highN d n), .int .i64 0] else .tuple #[.int .i64 0, .int .i64 0, .int .i64 1]) ∧ Below w.heap.size w w' := by
  unfold okN
  cases h1 : rateB m d
  · go_enter Try.func36, Try.ntmps36
    go_upto_region 1 with (fail)
    go_name_world W1 hW1
    have hbn : Below w.heap.size w W1 := by subst hW1; go_grown
    have hb0 := hbn
    clear hbn
    have qman : W1.cell? ⟨w.heap.size, 0, none⟩ = some (.int .i64 m) := by subst hW1; go_simp
    have qdan : W1.cell? ⟨w.heap.size, 1, none⟩ = some (.int .i64 d) := by subst hW1; go_simp
    clear hW1 
    have qma := qman
    have qda := qdan
    clear qman qdan 
    go_wp2_with fail
    refine (via (w0 := W1) (by go_grown) (c_rCheckRate m d _)).mono ?_
    rw [h1, errB_false]
    rintro e W2 ⟨rfl, hc, hf, hz, hB⟩
    have qman : W2.cell? ⟨w.heap.size, 0, none⟩ = some (.int .i64 m) := (hc _ _ (cell_lt qma)).trans qma
    clear qma
    have qma := qman
    clear qman
    have qdan : W2.cell? ⟨w.heap.size, 1, none⟩ = some (.int .i64 d) := (hc _ _ (cell_lt qda)).trans qda
    clear qda
    have qda := qdan
    clear qdan
    have hbn : Below w.heap.size w W2 := bthen hb0 hB
    clear hb0
    have hb0 := hbn
    clear hbn
    have hzW2 : W1.heap.size ≤ W2.heap.size := hz
    clear hc hf hB hz
    go_wp2_with fail
    go_ret3
    exact ⟨rfl, by have hbz := hb0.size; go_grown⟩
  cases h2 : inR 0 100000 n
  · go_enter Try.func36, Try.ntmps36
    go_upto_region 1 with (fail)
    go_name_world W1 hW1
    have hbn : Below w.heap.size w W1 := by subst hW1; go_grown
    have hb0 := hbn
    clear hbn
    have qman : W1.cell? ⟨w.heap.size, 0, none⟩ = some (.int .i64 m) := by subst hW1; go_simp
    have qdan : W1.cell? ⟨w.heap.size, 1, none⟩ = some (.int .i64 d) := by subst hW1; go_simp
    clear hW1 
    have qma := qman
    have qda := qdan
    clear qman qdan 
    go_wp2_with fail
    refine (via (w0 := W1) (by go_grown) (c_rCheckRate m d _)).mono ?_
    rw [h1, errB_true]
    rintro e W2 ⟨rfl, hc, hf, hz, hB⟩
    have qman : W2.cell? ⟨w.heap.size, 0, none⟩ = some (.int .i64 m) := (hc _ _ (cell_lt qma)).trans qma
    clear qma
    have qma := qman
    clear qman
    have qdan : W2.cell? ⟨w.heap.size, 1, none⟩ = some (.int .i64 d) := (hc _ _ (cell_lt qda)).trans qda
    clear qda
    have qda := qdan
    clear qdan
    have hbn : Below w.heap.size w W2 := bthen hb0 hB
    clear hb0
    have hb0 := hbn
    clear hbn
    have hzW2 : W1.heap.size ≤ W2.heap.size := hz
    clear hc hf hB hz
    go_wp2_with fail
    refine (via (w0 := W2) (by go_grown) (c_rnumber n _)).mono ?_
    rw [h2]
    rintro e W3 ⟨rfl, hc, hf, hz, hB⟩
    have qman : W3.cell? ⟨w.heap.size, 0, none⟩ = some (.int .i64 m) := (hc _ _ (cell_lt qma)).trans qma
    clear qma
    have qma := qman
    clear qman
    have qdan : W3.cell? ⟨w.heap.size, 1, none⟩ = some (.int .i64 d) := (hc _ _ (cell_lt qda)).trans qda
    clear qda
    have qda := qdan
    clear qdan
    have hbn : Below w.heap.size w W3 := bthen hb0 hB
    clear hb0
    have hb0 := hbn
    clear hbn
    have hzW3 : W2.heap.size ≤ W3.heap.size := hz
    clear hc hf hB hz
    go_wp2_with fail
    go_ret3
    exact ⟨rfl, by have hbz := hb0.size; go_grown⟩
  have hm := (rateB_iff.1 h1).1
  have hd := (rateB_iff.1 h1).2
  have hn := inR_iff.1 h2
  have hL := fun W => c_low m d n W (by omega) (by omega)
  have HL := Lib.hid hL
  clear hL
  have hG := fun W => c_high m d n W (by omega) (by omega)
  have HG := Lib.hid hG
  clear hG
  go_enter Try.func36, Try.ntmps36
  go_upto_region 1 with (fail)
  go_name_world W1 hW1
  have hbn : Below w.heap.size w W1 := by subst hW1; go_grown
  have hb0 := hbn
  clear hbn
  have qman : W1.cell? ⟨w.heap.size, 0, none⟩ = some (.int .i64 m) := by subst hW1; go_simp
  have qdan : W1.cell? ⟨w.heap.size, 1, none⟩ = some (.int .i64 d) := by subst hW1; go_simp
  clear hW1 
  have qma := qman
  have qda := qdan
  clear qman qdan 
  go_wp2_with fail
  refine (via (w0 := W1) (by go_grown) (c_rCheckRate m d _)).mono ?_
  rw [h1, errB_true]
  rintro e W2 ⟨rfl, hc, hf, hz, hB⟩
  have qman : W2.cell? ⟨w.heap.size, 0, none⟩ = some (.int .i64 m) := (hc _ _ (cell_lt qma)).trans qma
  clear qma
  have qma := qman
  clear qman
  have qdan : W2.cell? ⟨w.heap.size, 1, none⟩ = some (.int .i64 d) := (hc _ _ (cell_lt qda)).trans qda
  clear qda
  have qda := qdan
  clear qdan
  have hbn : Below w.heap.size w W2 := bthen hb0 hB
  clear hb0
  have hb0 := hbn
  clear hbn
  have hzW2 : W1.heap.size ≤ W2.heap.size := hz
  clear hc hf hB hz
  go_wp2_with fail
  refine (via (w0 := W2) (by go_grown) (c_rnumber n _)).mono ?_
  rw [h2]
  rintro e W3 ⟨rfl, hc, hf, hz, hB⟩
  have qman : W3.cell? ⟨w.heap.size, 0, none⟩ = some (.int .i64 m) := (hc _ _ (cell_lt qma)).trans qma
  clear qma
  have qma := qman
  clear qman
  have qdan : W3.cell? ⟨w.heap.size, 1, none⟩ = some (.int .i64 d) := (hc _ _ (cell_lt qda)).trans qda
  clear qda
  have qda := qdan
  clear qdan
  have hbn : Below w.heap.size w W3 := bthen hb0 hB
  clear hb0
  have hb0 := hbn
  clear hbn
  have hzW3 : W2.heap.size ≤ W3.heap.size := hz
  clear hc hf hB hz
  go_wp2_with fail
  have kqma := later_cell qma
  have kqda := later_cell qda
  refine wp_region_later W3 (by kernel_rfl) (by kernel_rfl) (Below.refl _ _) ?_
  repeat (go_big_quiet_step (first | (go_at_call 63; with_reducible exact in_region (HL.out _)) | (go_at_call 66; with_reducible exact in_region (HG.out _))))
  refine wpQuiet_nil ?_
  rintro ⟨W4, hB⟩
  dsimp only
  have hc := (bcell hB).1
  have hf := (bcell hB).2
  have hz := hB.size
  clear kqma kqda
  have qman : W4.cell? ⟨w.heap.size, 0, none⟩ = some (.int .i64 m) := (hc _ _ (cell_lt qma)).trans qma
  clear qma
  have qma := qman
  clear qman
  have qdan : W4.cell? ⟨w.heap.size, 1, none⟩ = some (.int .i64 d) := (hc _ _ (cell_lt qda)).trans qda
  clear qda
  have qda := qdan
  clear qdan
  have hbn : Below w.heap.size w W4 := bthen hb0 hB
  clear hb0
  have hb0 := hbn
  clear hbn
  have hzW4 : W3.heap.size ≤ W4.heap.size := hz
  clear hc hf hB hz
  go_wp2_with fail
  go_ret3
  exact ⟨rfl, by have hbz := hb0.size; go_grown⟩

set_option maxHeartbeats 2000000 in
theorem c_rFits (m d n c : Int) (w : World) :
    Calls Try.prog 35 #[.agg #[.int .i64 m, .int .i64 d], .int .i64 n, .int .i64 c] w fun e w' =>
      e = .returned (if okNC m d n c then .tuple #[.bool (fitsB m d n c), .int .i64 0] else .tuple #[.bool false, .int .i64 1]) ∧ Below w.heap.size w w' := by
  unfold okNC
  cases h1 : rateB m d
  · go_enter Try.func35, Try.ntmps35
    go_upto_region 1 with (fail)
    go_name_world W1 hW1
    have hbn : Below w.heap.size w W1 := by subst hW1; go_grown
    have hb0 := hbn
    clear hbn
    have qman : W1.cell? ⟨w.heap.size, 0, none⟩ = some (.int .i64 m) := by subst hW1; go_simp
    have qdan : W1.cell? ⟨w.heap.size, 1, none⟩ = some (.int .i64 d) := by subst hW1; go_simp
    clear hW1 
    have qma := qman
    have qda := qdan
    clear qman qdan 
    go_wp2_with fail
    refine (via (w0 := W1) (by go_grown) (c_rCheckRate m d _)).mono ?_
    rw [h1, errB_false]
    rintro e W2 ⟨rfl, hc, hf, hz, hB⟩
    have qman : W2.cell? ⟨w.heap.size, 0, none⟩ = some (.int .i64 m) := (hc _ _ (cell_lt qma)).trans qma
    clear qma
    have qma := qman
    clear qman
    have qdan : W2.cell? ⟨w.heap.size, 1, none⟩ = some (.int .i64 d) := (hc _ _ (cell_lt qda)).trans qda
    clear qda
    have qda := qdan
    clear qdan
    have hbn : Below w.heap.size w W2 := bthen hb0 hB
    clear hb0
    have hb0 := hbn
    clear hbn
    have hzW2 : W1.heap.size ≤ W2.heap.size := hz
    clear hc hf hB hz
    go_wp2_with fail
    go_ret2
    exact ⟨rfl, by have hbz := hb0.size; go_grown⟩
  cases h2 : inR 0 100000 n
  · go_enter Try.func35, Try.ntmps35
    go_upto_region 1 with (fail)
    go_name_world W1 hW1
    have hbn : Below w.heap.size w W1 := by subst hW1; go_grown
    have hb0 := hbn
    clear hbn
    have qman : W1.cell? ⟨w.heap.size, 0, none⟩ = some (.int .i64 m) := by subst hW1; go_simp
    have qdan : W1.cell? ⟨w.heap.size, 1, none⟩ = some (.int .i64 d) := by subst hW1; go_simp
    clear hW1 
    have qma := qman
    have qda := qdan
    clear qman qdan 
    go_wp2_with fail
    refine (via (w0 := W1) (by go_grown) (c_rCheckRate m d _)).mono ?_
    rw [h1, errB_true]
    rintro e W2 ⟨rfl, hc, hf, hz, hB⟩
    have qman : W2.cell? ⟨w.heap.size, 0, none⟩ = some (.int .i64 m) := (hc _ _ (cell_lt qma)).trans qma
    clear qma
    have qma := qman
    clear qman
    have qdan : W2.cell? ⟨w.heap.size, 1, none⟩ = some (.int .i64 d) := (hc _ _ (cell_lt qda)).trans qda
    clear qda
    have qda := qdan
    clear qdan
    have hbn : Below w.heap.size w W2 := bthen hb0 hB
    clear hb0
    have hb0 := hbn
    clear hbn
    have hzW2 : W1.heap.size ≤ W2.heap.size := hz
    clear hc hf hB hz
    go_wp2_with fail
    refine (via (w0 := W2) (by go_grown) (c_rnumber n _)).mono ?_
    rw [h2]
    rintro e W3 ⟨rfl, hc, hf, hz, hB⟩
    have qman : W3.cell? ⟨w.heap.size, 0, none⟩ = some (.int .i64 m) := (hc _ _ (cell_lt qma)).trans qma
    clear qma
    have qma := qman
    clear qman
    have qdan : W3.cell? ⟨w.heap.size, 1, none⟩ = some (.int .i64 d) := (hc _ _ (cell_lt qda)).trans qda
    clear qda
    have qda := qdan
    clear qdan
    have hbn : Below w.heap.size w W3 := bthen hb0 hB
    clear hb0
    have hb0 := hbn
    clear hbn
    have hzW3 : W2.heap.size ≤ W3.heap.size := hz
    clear hc hf hB hz
    go_wp2_with fail
    go_ret2
    exact ⟨rfl, by have hbz := hb0.size; go_grown⟩
  cases h3 : inR 0 200000 c
  · go_enter Try.func35, Try.ntmps35
    go_upto_region 1 with (fail)
    go_name_world W1 hW1
    have hbn : Below w.heap.size w W1 := by subst hW1; go_grown
    have hb0 := hbn
    clear hbn
    have qman : W1.cell? ⟨w.heap.size, 0, none⟩ = some (.int .i64 m) := by subst hW1; go_simp
    have qdan : W1.cell? ⟨w.heap.size, 1, none⟩ = some (.int .i64 d) := by subst hW1; go_simp
    clear hW1 
    have qma := qman
    have qda := qdan
    clear qman qdan 
    go_wp2_with fail
    refine (via (w0 := W1) (by go_grown) (c_rCheckRate m d _)).mono ?_
    rw [h1, errB_true]
    rintro e W2 ⟨rfl, hc, hf, hz, hB⟩
    have qman : W2.cell? ⟨w.heap.size, 0, none⟩ = some (.int .i64 m) := (hc _ _ (cell_lt qma)).trans qma
    clear qma
    have qma := qman
    clear qman
    have qdan : W2.cell? ⟨w.heap.size, 1, none⟩ = some (.int .i64 d) := (hc _ _ (cell_lt qda)).trans qda
    clear qda
    have qda := qdan
    clear qdan
    have hbn : Below w.heap.size w W2 := bthen hb0 hB
    clear hb0
    have hb0 := hbn
    clear hbn
    have hzW2 : W1.heap.size ≤ W2.heap.size := hz
    clear hc hf hB hz
    go_wp2_with fail
    refine (via (w0 := W2) (by go_grown) (c_rnumber n _)).mono ?_
    rw [h2]
    rintro e W3 ⟨rfl, hc, hf, hz, hB⟩
    have qman : W3.cell? ⟨w.heap.size, 0, none⟩ = some (.int .i64 m) := (hc _ _ (cell_lt qma)).trans qma
    clear qma
    have qma := qman
    clear qman
    have qdan : W3.cell? ⟨w.heap.size, 1, none⟩ = some (.int .i64 d) := (hc _ _ (cell_lt qda)).trans qda
    clear qda
    have qda := qdan
    clear qdan
    have hbn : Below w.heap.size w W3 := bthen hb0 hB
    clear hb0
    have hb0 := hbn
    clear hbn
    have hzW3 : W2.heap.size ≤ W3.heap.size := hz
    clear hc hf hB hz
    go_wp2_with fail
    refine (via (w0 := W3) (by go_grown) (c_rcount c _)).mono ?_
    rw [h3]
    rintro e W4 ⟨rfl, hc, hf, hz, hB⟩
    have qman : W4.cell? ⟨w.heap.size, 0, none⟩ = some (.int .i64 m) := (hc _ _ (cell_lt qma)).trans qma
    clear qma
    have qma := qman
    clear qman
    have qdan : W4.cell? ⟨w.heap.size, 1, none⟩ = some (.int .i64 d) := (hc _ _ (cell_lt qda)).trans qda
    clear qda
    have qda := qdan
    clear qdan
    have hbn : Below w.heap.size w W4 := bthen hb0 hB
    clear hb0
    have hb0 := hbn
    clear hbn
    have hzW4 : W3.heap.size ≤ W4.heap.size := hz
    clear hc hf hB hz
    go_wp2_with fail
    go_ret2
    exact ⟨rfl, by have hbz := hb0.size; go_grown⟩
  have hm := (rateB_iff.1 h1).1
  have hd := (rateB_iff.1 h1).2
  have hn := inR_iff.1 h2
  by_cases h4 : lowN m n ≤ c
  · rw [fitsB_hi h4]
    go_enter Try.func35, Try.ntmps35
    go_upto_region 1 with (fail)
    go_name_world W1 hW1
    have hbn : Below w.heap.size w W1 := by subst hW1; go_grown
    have hb0 := hbn
    clear hbn
    have qman : W1.cell? ⟨w.heap.size, 0, none⟩ = some (.int .i64 m) := by subst hW1; go_simp
    have qdan : W1.cell? ⟨w.heap.size, 1, none⟩ = some (.int .i64 d) := by subst hW1; go_simp
    clear hW1 
    have qma := qman
    have qda := qdan
    clear qman qdan 
    go_wp2_with fail
    refine (via (w0 := W1) (by go_grown) (c_rCheckRate m d _)).mono ?_
    rw [h1, errB_true]
    rintro e W2 ⟨rfl, hc, hf, hz, hB⟩
    have qman : W2.cell? ⟨w.heap.size, 0, none⟩ = some (.int .i64 m) := (hc _ _ (cell_lt qma)).trans qma
    clear qma
    have qma := qman
    clear qman
    have qdan : W2.cell? ⟨w.heap.size, 1, none⟩ = some (.int .i64 d) := (hc _ _ (cell_lt qda)).trans qda
    clear qda
    have qda := qdan
    clear qdan
    have hbn : Below w.heap.size w W2 := bthen hb0 hB
    clear hb0
    have hb0 := hbn
    clear hbn
    have hzW2 : W1.heap.size ≤ W2.heap.size := hz
    clear hc hf hB hz
    go_wp2_with fail
    refine (via (w0 := W2) (by go_grown) (c_rnumber n _)).mono ?_
    rw [h2]
    rintro e W3 ⟨rfl, hc, hf, hz, hB⟩
    have qman : W3.cell? ⟨w.heap.size, 0, none⟩ = some (.int .i64 m) := (hc _ _ (cell_lt qma)).trans qma
    clear qma
    have qma := qman
    clear qman
    have qdan : W3.cell? ⟨w.heap.size, 1, none⟩ = some (.int .i64 d) := (hc _ _ (cell_lt qda)).trans qda
    clear qda
    have qda := qdan
    clear qdan
    have hbn : Below w.heap.size w W3 := bthen hb0 hB
    clear hb0
    have hb0 := hbn
    clear hbn
    have hzW3 : W2.heap.size ≤ W3.heap.size := hz
    clear hc hf hB hz
    go_wp2_with fail
    refine (via (w0 := W3) (by go_grown) (c_rcount c _)).mono ?_
    rw [h3]
    rintro e W4 ⟨rfl, hc, hf, hz, hB⟩
    have qman : W4.cell? ⟨w.heap.size, 0, none⟩ = some (.int .i64 m) := (hc _ _ (cell_lt qma)).trans qma
    clear qma
    have qma := qman
    clear qman
    have qdan : W4.cell? ⟨w.heap.size, 1, none⟩ = some (.int .i64 d) := (hc _ _ (cell_lt qda)).trans qda
    clear qda
    have qda := qdan
    clear qdan
    have hbn : Below w.heap.size w W4 := bthen hb0 hB
    clear hb0
    have hb0 := hbn
    clear hbn
    have hzW4 : W3.heap.size ≤ W4.heap.size := hz
    clear hc hf hB hz
    go_wp2_with fail
    refine (via (w0 := W4) (by go_grown) (c_low m d n _ (by omega) (by omega))).mono ?_
    rintro e W5 ⟨rfl, hc, hf, hz, hB⟩
    have qman : W5.cell? ⟨w.heap.size, 0, none⟩ = some (.int .i64 m) := (hc _ _ (cell_lt qma)).trans qma
    clear qma
    have qma := qman
    clear qman
    have qdan : W5.cell? ⟨w.heap.size, 1, none⟩ = some (.int .i64 d) := (hc _ _ (cell_lt qda)).trans qda
    clear qda
    have qda := qdan
    clear qdan
    have hbn : Below w.heap.size w W5 := bthen hb0 hB
    clear hb0
    have hb0 := hbn
    clear hbn
    have hzW5 : W4.heap.size ≤ W5.heap.size := hz
    clear hc hf hB hz
    go_wp2_with fail
    refine (via (w0 := W5) (by go_grown) (c_high m d n _ (by omega) (by omega))).mono ?_
    rintro e W6 ⟨rfl, hc, hf, hz, hB⟩
    have qman : W6.cell? ⟨w.heap.size, 0, none⟩ = some (.int .i64 m) := (hc _ _ (cell_lt qma)).trans qma
    clear qma
    have qma := qman
    clear qman
    have qdan : W6.cell? ⟨w.heap.size, 1, none⟩ = some (.int .i64 d) := (hc _ _ (cell_lt qda)).trans qda
    clear qda
    have qda := qdan
    clear qdan
    have hbn : Below w.heap.size w W6 := bthen hb0 hB
    clear hb0
    have hb0 := hbn
    clear hbn
    have hzW6 : W5.heap.size ≤ W6.heap.size := hz
    clear hc hf hB hz
    go_wp2_with fail
    go_ret2
    exact ⟨rfl, by have hbz := hb0.size; go_grown⟩
  · rw [fitsB_lo h4]
    have h5 : decide (lowN m n ≤ c) = false := by simpa using h4
    clear h4
    go_enter Try.func35, Try.ntmps35
    go_upto_region 1 with (fail)
    go_name_world W1 hW1
    have hbn : Below w.heap.size w W1 := by subst hW1; go_grown
    have hb0 := hbn
    clear hbn
    have qman : W1.cell? ⟨w.heap.size, 0, none⟩ = some (.int .i64 m) := by subst hW1; go_simp
    have qdan : W1.cell? ⟨w.heap.size, 1, none⟩ = some (.int .i64 d) := by subst hW1; go_simp
    clear hW1 
    have qma := qman
    have qda := qdan
    clear qman qdan 
    go_wp2_with fail
    refine (via (w0 := W1) (by go_grown) (c_rCheckRate m d _)).mono ?_
    rw [h1, errB_true]
    rintro e W2 ⟨rfl, hc, hf, hz, hB⟩
    have qman : W2.cell? ⟨w.heap.size, 0, none⟩ = some (.int .i64 m) := (hc _ _ (cell_lt qma)).trans qma
    clear qma
    have qma := qman
    clear qman
    have qdan : W2.cell? ⟨w.heap.size, 1, none⟩ = some (.int .i64 d) := (hc _ _ (cell_lt qda)).trans qda
    clear qda
    have qda := qdan
    clear qdan
    have hbn : Below w.heap.size w W2 := bthen hb0 hB
    clear hb0
    have hb0 := hbn
    clear hbn
    have hzW2 : W1.heap.size ≤ W2.heap.size := hz
    clear hc hf hB hz
    go_wp2_with fail
    refine (via (w0 := W2) (by go_grown) (c_rnumber n _)).mono ?_
    rw [h2]
    rintro e W3 ⟨rfl, hc, hf, hz, hB⟩
    have qman : W3.cell? ⟨w.heap.size, 0, none⟩ = some (.int .i64 m) := (hc _ _ (cell_lt qma)).trans qma
    clear qma
    have qma := qman
    clear qman
    have qdan : W3.cell? ⟨w.heap.size, 1, none⟩ = some (.int .i64 d) := (hc _ _ (cell_lt qda)).trans qda
    clear qda
    have qda := qdan
    clear qdan
    have hbn : Below w.heap.size w W3 := bthen hb0 hB
    clear hb0
    have hb0 := hbn
    clear hbn
    have hzW3 : W2.heap.size ≤ W3.heap.size := hz
    clear hc hf hB hz
    go_wp2_with fail
    refine (via (w0 := W3) (by go_grown) (c_rcount c _)).mono ?_
    rw [h3]
    rintro e W4 ⟨rfl, hc, hf, hz, hB⟩
    have qman : W4.cell? ⟨w.heap.size, 0, none⟩ = some (.int .i64 m) := (hc _ _ (cell_lt qma)).trans qma
    clear qma
    have qma := qman
    clear qman
    have qdan : W4.cell? ⟨w.heap.size, 1, none⟩ = some (.int .i64 d) := (hc _ _ (cell_lt qda)).trans qda
    clear qda
    have qda := qdan
    clear qdan
    have hbn : Below w.heap.size w W4 := bthen hb0 hB
    clear hb0
    have hb0 := hbn
    clear hbn
    have hzW4 : W3.heap.size ≤ W4.heap.size := hz
    clear hc hf hB hz
    go_wp2_with fail
    refine (via (w0 := W4) (by go_grown) (c_low m d n _ (by omega) (by omega))).mono ?_
    rintro e W5 ⟨rfl, hc, hf, hz, hB⟩
    have qman : W5.cell? ⟨w.heap.size, 0, none⟩ = some (.int .i64 m) := (hc _ _ (cell_lt qma)).trans qma
    clear qma
    have qma := qman
    clear qman
    have qdan : W5.cell? ⟨w.heap.size, 1, none⟩ = some (.int .i64 d) := (hc _ _ (cell_lt qda)).trans qda
    clear qda
    have qda := qdan
    clear qdan
    have hbn : Below w.heap.size w W5 := bthen hb0 hB
    clear hb0
    have hb0 := hbn
    clear hbn
    have hzW5 : W4.heap.size ≤ W5.heap.size := hz
    clear hc hf hB hz
    go_wp2_with fail
    go_ret2
    exact ⟨rfl, by have hbz := hb0.size; go_grown⟩

set_option maxHeartbeats 2000000 in
theorem c_rTrue (m d c : Int) (w : World) :
    Calls Try.prog 41 #[.agg #[.int .i64 m, .int .i64 d], .int .i64 c] w fun e w' =>
      e = .returned (if okTC m d c then .tuple #[(fitIv m d c c).v, .int .i64 0] else .tuple #[Iv.none.v, .int .i64 1]) ∧ Below w.heap.size w w' := by
  unfold okTC
  cases h1 : rateB m d
  · go_enter Try.func41, Try.ntmps41
    go_upto_region 1 with (fail)
    go_name_world W1 hW1
    have hbn : Below w.heap.size w W1 := by subst hW1; go_grown
    have hb0 := hbn
    clear hbn
    have qman : W1.cell? ⟨w.heap.size, 0, none⟩ = some (.int .i64 m) := by subst hW1; go_simp
    have qdan : W1.cell? ⟨w.heap.size, 1, none⟩ = some (.int .i64 d) := by subst hW1; go_simp
    have r0n : W1.cell? ⟨w.heap.size + 1, 0, none⟩ = some (.int .i64 0) := by subst hW1; go_simp
    have fr0n : W1.frozen? ⟨w.heap.size + 1, 0, none⟩ = false := by subst hW1; go_simp
    have r1n : W1.cell? ⟨w.heap.size + 1, 1, none⟩ = some (.int .i64 0) := by subst hW1; go_simp
    have fr1n : W1.frozen? ⟨w.heap.size + 1, 1, none⟩ = false := by subst hW1; go_simp
    have r2n : W1.cell? ⟨w.heap.size + 1, 2, none⟩ = some (.bool false) := by subst hW1; go_simp
    have fr2n : W1.frozen? ⟨w.heap.size + 1, 2, none⟩ = false := by subst hW1; go_simp
    clear hW1 
    have qma := qman
    have qda := qdan
    have r0 := r0n
    have fr0 := fr0n
    have r1 := r1n
    have fr1 := fr1n
    have r2 := r2n
    have fr2 := fr2n
    clear qman qdan r0n r1n r2n fr0n fr1n fr2n
    go_wp2_with fail
    refine (via (w0 := W1) (by go_grown) (c_rCheckRate m d _)).mono ?_
    rw [h1, errB_false]
    rintro e W2 ⟨rfl, hc, hf, hz, hB⟩
    have qman : W2.cell? ⟨w.heap.size, 0, none⟩ = some (.int .i64 m) := (hc _ _ (cell_lt qma)).trans qma
    clear qma
    have qma := qman
    clear qman
    have qdan : W2.cell? ⟨w.heap.size, 1, none⟩ = some (.int .i64 d) := (hc _ _ (cell_lt qda)).trans qda
    clear qda
    have qda := qdan
    clear qdan
    have fr0n : W2.frozen? ⟨w.heap.size + 1, 0, none⟩ = false := (hf _ _ (cell_lt r0)).trans fr0
    clear fr0
    have fr0 := fr0n
    clear fr0n
    have r0n : W2.cell? ⟨w.heap.size + 1, 0, none⟩ = some (.int .i64 0) := (hc _ _ (cell_lt r0)).trans r0
    clear r0
    have r0 := r0n
    clear r0n
    have fr1n : W2.frozen? ⟨w.heap.size + 1, 1, none⟩ = false := (hf _ _ (cell_lt r1)).trans fr1
    clear fr1
    have fr1 := fr1n
    clear fr1n
    have r1n : W2.cell? ⟨w.heap.size + 1, 1, none⟩ = some (.int .i64 0) := (hc _ _ (cell_lt r1)).trans r1
    clear r1
    have r1 := r1n
    clear r1n
    have fr2n : W2.frozen? ⟨w.heap.size + 1, 2, none⟩ = false := (hf _ _ (cell_lt r2)).trans fr2
    clear fr2
    have fr2 := fr2n
    clear fr2n
    have r2n : W2.cell? ⟨w.heap.size + 1, 2, none⟩ = some (.bool false) := (hc _ _ (cell_lt r2)).trans r2
    clear r2
    have r2 := r2n
    clear r2n
    have hbn : Below w.heap.size w W2 := bthen hb0 hB
    clear hb0
    have hb0 := hbn
    clear hbn
    have hzW2 : W1.heap.size ≤ W2.heap.size := hz
    clear hc hf hB hz
    go_wp2_with fail
    refine bodyPost_ret (v := .tuple #[Iv.none.v, .int .i64 1]) (by simp [results, Try.results41, go_sem, r0, r1, r2, Iv.none]) rfl ⟨rfl, by have hbz := hb0.size; go_grown⟩
  cases h2 : inR 0 200000 c
  · go_enter Try.func41, Try.ntmps41
    go_upto_region 1 with (fail)
    go_name_world W1 hW1
    have hbn : Below w.heap.size w W1 := by subst hW1; go_grown
    have hb0 := hbn
    clear hbn
    have qman : W1.cell? ⟨w.heap.size, 0, none⟩ = some (.int .i64 m) := by subst hW1; go_simp
    have qdan : W1.cell? ⟨w.heap.size, 1, none⟩ = some (.int .i64 d) := by subst hW1; go_simp
    have r0n : W1.cell? ⟨w.heap.size + 1, 0, none⟩ = some (.int .i64 0) := by subst hW1; go_simp
    have fr0n : W1.frozen? ⟨w.heap.size + 1, 0, none⟩ = false := by subst hW1; go_simp
    have r1n : W1.cell? ⟨w.heap.size + 1, 1, none⟩ = some (.int .i64 0) := by subst hW1; go_simp
    have fr1n : W1.frozen? ⟨w.heap.size + 1, 1, none⟩ = false := by subst hW1; go_simp
    have r2n : W1.cell? ⟨w.heap.size + 1, 2, none⟩ = some (.bool false) := by subst hW1; go_simp
    have fr2n : W1.frozen? ⟨w.heap.size + 1, 2, none⟩ = false := by subst hW1; go_simp
    clear hW1 
    have qma := qman
    have qda := qdan
    have r0 := r0n
    have fr0 := fr0n
    have r1 := r1n
    have fr1 := fr1n
    have r2 := r2n
    have fr2 := fr2n
    clear qman qdan r0n r1n r2n fr0n fr1n fr2n
    go_wp2_with fail
    refine (via (w0 := W1) (by go_grown) (c_rCheckRate m d _)).mono ?_
    rw [h1, errB_true]
    rintro e W2 ⟨rfl, hc, hf, hz, hB⟩
    have qman : W2.cell? ⟨w.heap.size, 0, none⟩ = some (.int .i64 m) := (hc _ _ (cell_lt qma)).trans qma
    clear qma
    have qma := qman
    clear qman
    have qdan : W2.cell? ⟨w.heap.size, 1, none⟩ = some (.int .i64 d) := (hc _ _ (cell_lt qda)).trans qda
    clear qda
    have qda := qdan
    clear qdan
    have fr0n : W2.frozen? ⟨w.heap.size + 1, 0, none⟩ = false := (hf _ _ (cell_lt r0)).trans fr0
    clear fr0
    have fr0 := fr0n
    clear fr0n
    have r0n : W2.cell? ⟨w.heap.size + 1, 0, none⟩ = some (.int .i64 0) := (hc _ _ (cell_lt r0)).trans r0
    clear r0
    have r0 := r0n
    clear r0n
    have fr1n : W2.frozen? ⟨w.heap.size + 1, 1, none⟩ = false := (hf _ _ (cell_lt r1)).trans fr1
    clear fr1
    have fr1 := fr1n
    clear fr1n
    have r1n : W2.cell? ⟨w.heap.size + 1, 1, none⟩ = some (.int .i64 0) := (hc _ _ (cell_lt r1)).trans r1
    clear r1
    have r1 := r1n
    clear r1n
    have fr2n : W2.frozen? ⟨w.heap.size + 1, 2, none⟩ = false := (hf _ _ (cell_lt r2)).trans fr2
    clear fr2
    have fr2 := fr2n
    clear fr2n
    have r2n : W2.cell? ⟨w.heap.size + 1, 2, none⟩ = some (.bool false) := (hc _ _ (cell_lt r2)).trans r2
    clear r2
    have r2 := r2n
    clear r2n
    have hbn : Below w.heap.size w W2 := bthen hb0 hB
    clear hb0
    have hb0 := hbn
    clear hbn
    have hzW2 : W1.heap.size ≤ W2.heap.size := hz
    clear hc hf hB hz
    go_wp2_with fail
    refine (via (w0 := W2) (by go_grown) (c_rcount c _)).mono ?_
    rw [h2]
    rintro e W3 ⟨rfl, hc, hf, hz, hB⟩
    have qman : W3.cell? ⟨w.heap.size, 0, none⟩ = some (.int .i64 m) := (hc _ _ (cell_lt qma)).trans qma
    clear qma
    have qma := qman
    clear qman
    have qdan : W3.cell? ⟨w.heap.size, 1, none⟩ = some (.int .i64 d) := (hc _ _ (cell_lt qda)).trans qda
    clear qda
    have qda := qdan
    clear qdan
    have fr0n : W3.frozen? ⟨w.heap.size + 1, 0, none⟩ = false := (hf _ _ (cell_lt r0)).trans fr0
    clear fr0
    have fr0 := fr0n
    clear fr0n
    have r0n : W3.cell? ⟨w.heap.size + 1, 0, none⟩ = some (.int .i64 0) := (hc _ _ (cell_lt r0)).trans r0
    clear r0
    have r0 := r0n
    clear r0n
    have fr1n : W3.frozen? ⟨w.heap.size + 1, 1, none⟩ = false := (hf _ _ (cell_lt r1)).trans fr1
    clear fr1
    have fr1 := fr1n
    clear fr1n
    have r1n : W3.cell? ⟨w.heap.size + 1, 1, none⟩ = some (.int .i64 0) := (hc _ _ (cell_lt r1)).trans r1
    clear r1
    have r1 := r1n
    clear r1n
    have fr2n : W3.frozen? ⟨w.heap.size + 1, 2, none⟩ = false := (hf _ _ (cell_lt r2)).trans fr2
    clear fr2
    have fr2 := fr2n
    clear fr2n
    have r2n : W3.cell? ⟨w.heap.size + 1, 2, none⟩ = some (.bool false) := (hc _ _ (cell_lt r2)).trans r2
    clear r2
    have r2 := r2n
    clear r2n
    have hbn : Below w.heap.size w W3 := bthen hb0 hB
    clear hb0
    have hb0 := hbn
    clear hbn
    have hzW3 : W2.heap.size ≤ W3.heap.size := hz
    clear hc hf hB hz
    go_wp2_with fail
    refine bodyPost_ret (v := .tuple #[Iv.none.v, .int .i64 1]) (by simp [results, Try.results41, go_sem, r0, r1, r2, Iv.none]) rfl ⟨rfl, by have hbz := hb0.size; go_grown⟩
  have hm := (rateB_iff.1 h1).1
  have hd := (rateB_iff.1 h1).2
  have hn := inR_iff.1 h2
  have hL := fun W => c_rleast m d c W (by omega) (by omega)
  have HL := Lib.hid hL
  clear hL
  have hG := fun W => c_rgreatest m d c W (by omega) (by omega)
  have HG := Lib.hid hG
  clear hG
  go_enter Try.func41, Try.ntmps41
  go_upto_region 1 with (fail)
  go_name_world W1 hW1
  have hbn : Below w.heap.size w W1 := by subst hW1; go_grown
  have hb0 := hbn
  clear hbn
  have qman : W1.cell? ⟨w.heap.size, 0, none⟩ = some (.int .i64 m) := by subst hW1; go_simp
  have qdan : W1.cell? ⟨w.heap.size, 1, none⟩ = some (.int .i64 d) := by subst hW1; go_simp
  have r0n : W1.cell? ⟨w.heap.size + 1, 0, none⟩ = some (.int .i64 0) := by subst hW1; go_simp
  have fr0n : W1.frozen? ⟨w.heap.size + 1, 0, none⟩ = false := by subst hW1; go_simp
  have r1n : W1.cell? ⟨w.heap.size + 1, 1, none⟩ = some (.int .i64 0) := by subst hW1; go_simp
  have fr1n : W1.frozen? ⟨w.heap.size + 1, 1, none⟩ = false := by subst hW1; go_simp
  have r2n : W1.cell? ⟨w.heap.size + 1, 2, none⟩ = some (.bool false) := by subst hW1; go_simp
  have fr2n : W1.frozen? ⟨w.heap.size + 1, 2, none⟩ = false := by subst hW1; go_simp
  clear hW1 
  have qma := qman
  have qda := qdan
  have r0 := r0n
  have fr0 := fr0n
  have r1 := r1n
  have fr1 := fr1n
  have r2 := r2n
  have fr2 := fr2n
  clear qman qdan r0n r1n r2n fr0n fr1n fr2n
  go_wp2_with fail
  refine (via (w0 := W1) (by go_grown) (c_rCheckRate m d _)).mono ?_
  rw [h1, errB_true]
  rintro e W2 ⟨rfl, hc, hf, hz, hB⟩
  have qman : W2.cell? ⟨w.heap.size, 0, none⟩ = some (.int .i64 m) := (hc _ _ (cell_lt qma)).trans qma
  clear qma
  have qma := qman
  clear qman
  have qdan : W2.cell? ⟨w.heap.size, 1, none⟩ = some (.int .i64 d) := (hc _ _ (cell_lt qda)).trans qda
  clear qda
  have qda := qdan
  clear qdan
  have fr0n : W2.frozen? ⟨w.heap.size + 1, 0, none⟩ = false := (hf _ _ (cell_lt r0)).trans fr0
  clear fr0
  have fr0 := fr0n
  clear fr0n
  have r0n : W2.cell? ⟨w.heap.size + 1, 0, none⟩ = some (.int .i64 0) := (hc _ _ (cell_lt r0)).trans r0
  clear r0
  have r0 := r0n
  clear r0n
  have fr1n : W2.frozen? ⟨w.heap.size + 1, 1, none⟩ = false := (hf _ _ (cell_lt r1)).trans fr1
  clear fr1
  have fr1 := fr1n
  clear fr1n
  have r1n : W2.cell? ⟨w.heap.size + 1, 1, none⟩ = some (.int .i64 0) := (hc _ _ (cell_lt r1)).trans r1
  clear r1
  have r1 := r1n
  clear r1n
  have fr2n : W2.frozen? ⟨w.heap.size + 1, 2, none⟩ = false := (hf _ _ (cell_lt r2)).trans fr2
  clear fr2
  have fr2 := fr2n
  clear fr2n
  have r2n : W2.cell? ⟨w.heap.size + 1, 2, none⟩ = some (.bool false) := (hc _ _ (cell_lt r2)).trans r2
  clear r2
  have r2 := r2n
  clear r2n
  have hbn : Below w.heap.size w W2 := bthen hb0 hB
  clear hb0
  have hb0 := hbn
  clear hbn
  have hzW2 : W1.heap.size ≤ W2.heap.size := hz
  clear hc hf hB hz
  go_wp2_with fail
  refine (via (w0 := W2) (by go_grown) (c_rcount c _)).mono ?_
  rw [h2]
  rintro e W3 ⟨rfl, hc, hf, hz, hB⟩
  have qman : W3.cell? ⟨w.heap.size, 0, none⟩ = some (.int .i64 m) := (hc _ _ (cell_lt qma)).trans qma
  clear qma
  have qma := qman
  clear qman
  have qdan : W3.cell? ⟨w.heap.size, 1, none⟩ = some (.int .i64 d) := (hc _ _ (cell_lt qda)).trans qda
  clear qda
  have qda := qdan
  clear qdan
  have fr0n : W3.frozen? ⟨w.heap.size + 1, 0, none⟩ = false := (hf _ _ (cell_lt r0)).trans fr0
  clear fr0
  have fr0 := fr0n
  clear fr0n
  have r0n : W3.cell? ⟨w.heap.size + 1, 0, none⟩ = some (.int .i64 0) := (hc _ _ (cell_lt r0)).trans r0
  clear r0
  have r0 := r0n
  clear r0n
  have fr1n : W3.frozen? ⟨w.heap.size + 1, 1, none⟩ = false := (hf _ _ (cell_lt r1)).trans fr1
  clear fr1
  have fr1 := fr1n
  clear fr1n
  have r1n : W3.cell? ⟨w.heap.size + 1, 1, none⟩ = some (.int .i64 0) := (hc _ _ (cell_lt r1)).trans r1
  clear r1
  have r1 := r1n
  clear r1n
  have fr2n : W3.frozen? ⟨w.heap.size + 1, 2, none⟩ = false := (hf _ _ (cell_lt r2)).trans fr2
  clear fr2
  have fr2 := fr2n
  clear fr2n
  have r2n : W3.cell? ⟨w.heap.size + 1, 2, none⟩ = some (.bool false) := (hc _ _ (cell_lt r2)).trans r2
  clear r2
  have r2 := r2n
  clear r2n
  have hbn : Below w.heap.size w W3 := bthen hb0 hB
  clear hb0
  have hb0 := hbn
  clear hbn
  have hzW3 : W2.heap.size ≤ W3.heap.size := hz
  clear hc hf hB hz
  go_wp2_with fail
  have kqma := later_cell qma
  have kqda := later_cell qda
  have kr0 := later_cell r0
  have kr1 := later_cell r1
  have kr2 := later_cell r2
  refine wp_region_tail 7 W3 (by kernel_rfl) (by kernel_rfl) (Below.refl _ _) ?_
  simp only [List.take_succ_cons, List.take_zero, List.drop_succ_cons, List.drop_zero]
  repeat (go_big_quiet_step (first | (go_at_call 80; with_reducible exact in_region (HL.out _)) | (go_at_call 81; with_reducible exact in_region (HG.out _)) | (go_at_call 79; with_reducible exact in_region (c_rspan _ _ _))))
  refine wpQuiet_nil ?_
  rintro ⟨W4, hB⟩
  dsimp only
  have hc := (bcell hB).1
  have hf := (bcell hB).2
  have hz := hB.size
  clear kqma kqda kr0 kr1 kr2
  have qman : W4.cell? ⟨w.heap.size, 0, none⟩ = some (.int .i64 m) := (hc _ _ (cell_lt qma)).trans qma
  clear qma
  have qma := qman
  clear qman
  have qdan : W4.cell? ⟨w.heap.size, 1, none⟩ = some (.int .i64 d) := (hc _ _ (cell_lt qda)).trans qda
  clear qda
  have qda := qdan
  clear qdan
  have fr0n : W4.frozen? ⟨w.heap.size + 1, 0, none⟩ = false := (hf _ _ (cell_lt r0)).trans fr0
  clear fr0
  have fr0 := fr0n
  clear fr0n
  have r0n : W4.cell? ⟨w.heap.size + 1, 0, none⟩ = some (.int .i64 0) := (hc _ _ (cell_lt r0)).trans r0
  clear r0
  have r0 := r0n
  clear r0n
  have fr1n : W4.frozen? ⟨w.heap.size + 1, 1, none⟩ = false := (hf _ _ (cell_lt r1)).trans fr1
  clear fr1
  have fr1 := fr1n
  clear fr1n
  have r1n : W4.cell? ⟨w.heap.size + 1, 1, none⟩ = some (.int .i64 0) := (hc _ _ (cell_lt r1)).trans r1
  clear r1
  have r1 := r1n
  clear r1n
  have fr2n : W4.frozen? ⟨w.heap.size + 1, 2, none⟩ = false := (hf _ _ (cell_lt r2)).trans fr2
  clear fr2
  have fr2 := fr2n
  clear fr2n
  have r2n : W4.cell? ⟨w.heap.size + 1, 2, none⟩ = some (.bool false) := (hc _ _ (cell_lt r2)).trans r2
  clear r2
  have r2 := r2n
  clear r2n
  have hbn : Below w.heap.size w W4 := bthen hb0 hB
  clear hb0
  have hb0 := hbn
  clear hbn
  have hzW4 : W3.heap.size ≤ W4.heap.size := hz
  clear hc hf hB hz
  go_wp2_with fail
  refine bodyPost_ret (v := .tuple #[(betw (fromG d c) (fromL m (c + 1) - 1)).v, .int .i64 0]) (by simp [results, Try.results41, go_sem, r0, r1, r2]) rfl ⟨rfl, by have hbz := hb0.size; go_grown⟩

set_option maxHeartbeats 4000000 in
theorem c_rOfCount (m d i da s n wo : Int) (w : World) :
    Calls Try.prog 42 #[.agg #[.int .i64 m, .int .i64 d], .agg #[.int .i64 i, .int .i64 da, .int .i64 s, .int .i64 n, .int .i64 wo]] w fun e w' =>
      e = .returned (if okTT m d i da s n wo then .tuple #[(fitIv m d n (n + wo)).v, .int .i64 0] else .tuple #[Iv.none.v, .int .i64 1]) ∧ Below w.heap.size w w' := by
  unfold okTT
  cases h1 : rateB m d
  · go_enter Try.func42, Try.ntmps42
    go_upto_region 1 with (fail)
    go_name_world W1 hW1
    have hbn : Below w.heap.size w W1 := by subst hW1; go_grown
    have hb0 := hbn
    clear hbn
    have qman : W1.cell? ⟨w.heap.size, 0, none⟩ = some (.int .i64 m) := by subst hW1; go_simp
    have qdan : W1.cell? ⟨w.heap.size, 1, none⟩ = some (.int .i64 d) := by subst hW1; go_simp
    have qcan : W1.cell? ⟨w.heap.size + 1, 0, none⟩ = some (.int .i64 i) := by subst hW1; go_simp
    have qcbn : W1.cell? ⟨w.heap.size + 1, 1, none⟩ = some (.int .i64 da) := by subst hW1; go_simp
    have qcsn : W1.cell? ⟨w.heap.size + 1, 2, none⟩ = some (.int .i64 s) := by subst hW1; go_simp
    have qcnn : W1.cell? ⟨w.heap.size + 1, 3, none⟩ = some (.int .i64 n) := by subst hW1; go_simp
    have qcwn : W1.cell? ⟨w.heap.size + 1, 4, none⟩ = some (.int .i64 wo) := by subst hW1; go_simp
    have r0n : W1.cell? ⟨w.heap.size + 2, 0, none⟩ = some (.int .i64 0) := by subst hW1; go_simp
    have fr0n : W1.frozen? ⟨w.heap.size + 2, 0, none⟩ = false := by subst hW1; go_simp
    have r1n : W1.cell? ⟨w.heap.size + 2, 1, none⟩ = some (.int .i64 0) := by subst hW1; go_simp
    have fr1n : W1.frozen? ⟨w.heap.size + 2, 1, none⟩ = false := by subst hW1; go_simp
    have r2n : W1.cell? ⟨w.heap.size + 2, 2, none⟩ = some (.bool false) := by subst hW1; go_simp
    have fr2n : W1.frozen? ⟨w.heap.size + 2, 2, none⟩ = false := by subst hW1; go_simp
    clear hW1 
    have qma := qman
    have qda := qdan
    have qca := qcan
    have qcb := qcbn
    have qcs := qcsn
    have qcn := qcnn
    have qcw := qcwn
    have r0 := r0n
    have fr0 := fr0n
    have r1 := r1n
    have fr1 := fr1n
    have r2 := r2n
    have fr2 := fr2n
    clear qman qdan qcan qcbn qcsn qcnn qcwn r0n r1n r2n fr0n fr1n fr2n
    go_wp2_with fail
    refine (via (w0 := W1) (by go_grown) (c_rCheckRate m d _)).mono ?_
    rw [h1, errB_false]
    rintro e W2 ⟨rfl, hc, hf, hz, hB⟩
    have qman : W2.cell? ⟨w.heap.size, 0, none⟩ = some (.int .i64 m) := (hc _ _ (cell_lt qma)).trans qma
    clear qma
    have qma := qman
    clear qman
    have qdan : W2.cell? ⟨w.heap.size, 1, none⟩ = some (.int .i64 d) := (hc _ _ (cell_lt qda)).trans qda
    clear qda
    have qda := qdan
    clear qdan
    have qcan : W2.cell? ⟨w.heap.size + 1, 0, none⟩ = some (.int .i64 i) := (hc _ _ (cell_lt qca)).trans qca
    clear qca
    have qca := qcan
    clear qcan
    have qcbn : W2.cell? ⟨w.heap.size + 1, 1, none⟩ = some (.int .i64 da) := (hc _ _ (cell_lt qcb)).trans qcb
    clear qcb
    have qcb := qcbn
    clear qcbn
    have qcsn : W2.cell? ⟨w.heap.size + 1, 2, none⟩ = some (.int .i64 s) := (hc _ _ (cell_lt qcs)).trans qcs
    clear qcs
    have qcs := qcsn
    clear qcsn
    have qcnn : W2.cell? ⟨w.heap.size + 1, 3, none⟩ = some (.int .i64 n) := (hc _ _ (cell_lt qcn)).trans qcn
    clear qcn
    have qcn := qcnn
    clear qcnn
    have qcwn : W2.cell? ⟨w.heap.size + 1, 4, none⟩ = some (.int .i64 wo) := (hc _ _ (cell_lt qcw)).trans qcw
    clear qcw
    have qcw := qcwn
    clear qcwn
    have fr0n : W2.frozen? ⟨w.heap.size + 2, 0, none⟩ = false := (hf _ _ (cell_lt r0)).trans fr0
    clear fr0
    have fr0 := fr0n
    clear fr0n
    have r0n : W2.cell? ⟨w.heap.size + 2, 0, none⟩ = some (.int .i64 0) := (hc _ _ (cell_lt r0)).trans r0
    clear r0
    have r0 := r0n
    clear r0n
    have fr1n : W2.frozen? ⟨w.heap.size + 2, 1, none⟩ = false := (hf _ _ (cell_lt r1)).trans fr1
    clear fr1
    have fr1 := fr1n
    clear fr1n
    have r1n : W2.cell? ⟨w.heap.size + 2, 1, none⟩ = some (.int .i64 0) := (hc _ _ (cell_lt r1)).trans r1
    clear r1
    have r1 := r1n
    clear r1n
    have fr2n : W2.frozen? ⟨w.heap.size + 2, 2, none⟩ = false := (hf _ _ (cell_lt r2)).trans fr2
    clear fr2
    have fr2 := fr2n
    clear fr2n
    have r2n : W2.cell? ⟨w.heap.size + 2, 2, none⟩ = some (.bool false) := (hc _ _ (cell_lt r2)).trans r2
    clear r2
    have r2 := r2n
    clear r2n
    have hbn : Below w.heap.size w W2 := bthen hb0 hB
    clear hb0
    have hb0 := hbn
    clear hbn
    have hzW2 : W1.heap.size ≤ W2.heap.size := hz
    clear hc hf hB hz
    go_wp2_with fail
    refine bodyPost_ret (v := .tuple #[Iv.none.v, .int .i64 1]) (by simp [results, Try.results42, go_sem, r0, r1, r2, Iv.none]) rfl ⟨rfl, by have hbz := hb0.size; go_grown⟩
  cases h2 : countB i da s n wo
  · go_enter Try.func42, Try.ntmps42
    go_upto_region 1 with (fail)
    go_name_world W1 hW1
    have hbn : Below w.heap.size w W1 := by subst hW1; go_grown
    have hb0 := hbn
    clear hbn
    have qman : W1.cell? ⟨w.heap.size, 0, none⟩ = some (.int .i64 m) := by subst hW1; go_simp
    have qdan : W1.cell? ⟨w.heap.size, 1, none⟩ = some (.int .i64 d) := by subst hW1; go_simp
    have qcan : W1.cell? ⟨w.heap.size + 1, 0, none⟩ = some (.int .i64 i) := by subst hW1; go_simp
    have qcbn : W1.cell? ⟨w.heap.size + 1, 1, none⟩ = some (.int .i64 da) := by subst hW1; go_simp
    have qcsn : W1.cell? ⟨w.heap.size + 1, 2, none⟩ = some (.int .i64 s) := by subst hW1; go_simp
    have qcnn : W1.cell? ⟨w.heap.size + 1, 3, none⟩ = some (.int .i64 n) := by subst hW1; go_simp
    have qcwn : W1.cell? ⟨w.heap.size + 1, 4, none⟩ = some (.int .i64 wo) := by subst hW1; go_simp
    have r0n : W1.cell? ⟨w.heap.size + 2, 0, none⟩ = some (.int .i64 0) := by subst hW1; go_simp
    have fr0n : W1.frozen? ⟨w.heap.size + 2, 0, none⟩ = false := by subst hW1; go_simp
    have r1n : W1.cell? ⟨w.heap.size + 2, 1, none⟩ = some (.int .i64 0) := by subst hW1; go_simp
    have fr1n : W1.frozen? ⟨w.heap.size + 2, 1, none⟩ = false := by subst hW1; go_simp
    have r2n : W1.cell? ⟨w.heap.size + 2, 2, none⟩ = some (.bool false) := by subst hW1; go_simp
    have fr2n : W1.frozen? ⟨w.heap.size + 2, 2, none⟩ = false := by subst hW1; go_simp
    clear hW1 
    have qma := qman
    have qda := qdan
    have qca := qcan
    have qcb := qcbn
    have qcs := qcsn
    have qcn := qcnn
    have qcw := qcwn
    have r0 := r0n
    have fr0 := fr0n
    have r1 := r1n
    have fr1 := fr1n
    have r2 := r2n
    have fr2 := fr2n
    clear qman qdan qcan qcbn qcsn qcnn qcwn r0n r1n r2n fr0n fr1n fr2n
    go_wp2_with fail
    refine (via (w0 := W1) (by go_grown) (c_rCheckRate m d _)).mono ?_
    rw [h1, errB_true]
    rintro e W2 ⟨rfl, hc, hf, hz, hB⟩
    have qman : W2.cell? ⟨w.heap.size, 0, none⟩ = some (.int .i64 m) := (hc _ _ (cell_lt qma)).trans qma
    clear qma
    have qma := qman
    clear qman
    have qdan : W2.cell? ⟨w.heap.size, 1, none⟩ = some (.int .i64 d) := (hc _ _ (cell_lt qda)).trans qda
    clear qda
    have qda := qdan
    clear qdan
    have qcan : W2.cell? ⟨w.heap.size + 1, 0, none⟩ = some (.int .i64 i) := (hc _ _ (cell_lt qca)).trans qca
    clear qca
    have qca := qcan
    clear qcan
    have qcbn : W2.cell? ⟨w.heap.size + 1, 1, none⟩ = some (.int .i64 da) := (hc _ _ (cell_lt qcb)).trans qcb
    clear qcb
    have qcb := qcbn
    clear qcbn
    have qcsn : W2.cell? ⟨w.heap.size + 1, 2, none⟩ = some (.int .i64 s) := (hc _ _ (cell_lt qcs)).trans qcs
    clear qcs
    have qcs := qcsn
    clear qcsn
    have qcnn : W2.cell? ⟨w.heap.size + 1, 3, none⟩ = some (.int .i64 n) := (hc _ _ (cell_lt qcn)).trans qcn
    clear qcn
    have qcn := qcnn
    clear qcnn
    have qcwn : W2.cell? ⟨w.heap.size + 1, 4, none⟩ = some (.int .i64 wo) := (hc _ _ (cell_lt qcw)).trans qcw
    clear qcw
    have qcw := qcwn
    clear qcwn
    have fr0n : W2.frozen? ⟨w.heap.size + 2, 0, none⟩ = false := (hf _ _ (cell_lt r0)).trans fr0
    clear fr0
    have fr0 := fr0n
    clear fr0n
    have r0n : W2.cell? ⟨w.heap.size + 2, 0, none⟩ = some (.int .i64 0) := (hc _ _ (cell_lt r0)).trans r0
    clear r0
    have r0 := r0n
    clear r0n
    have fr1n : W2.frozen? ⟨w.heap.size + 2, 1, none⟩ = false := (hf _ _ (cell_lt r1)).trans fr1
    clear fr1
    have fr1 := fr1n
    clear fr1n
    have r1n : W2.cell? ⟨w.heap.size + 2, 1, none⟩ = some (.int .i64 0) := (hc _ _ (cell_lt r1)).trans r1
    clear r1
    have r1 := r1n
    clear r1n
    have fr2n : W2.frozen? ⟨w.heap.size + 2, 2, none⟩ = false := (hf _ _ (cell_lt r2)).trans fr2
    clear fr2
    have fr2 := fr2n
    clear fr2n
    have r2n : W2.cell? ⟨w.heap.size + 2, 2, none⟩ = some (.bool false) := (hc _ _ (cell_lt r2)).trans r2
    clear r2
    have r2 := r2n
    clear r2n
    have hbn : Below w.heap.size w W2 := bthen hb0 hB
    clear hb0
    have hb0 := hbn
    clear hbn
    have hzW2 : W1.heap.size ≤ W2.heap.size := hz
    clear hc hf hB hz
    go_wp2_with fail
    refine (via (w0 := W2) (by go_grown) (c_rCheckCount i da s n wo _)).mono ?_
    rw [h2, errB_false]
    rintro e W3 ⟨rfl, hc, hf, hz, hB⟩
    have qman : W3.cell? ⟨w.heap.size, 0, none⟩ = some (.int .i64 m) := (hc _ _ (cell_lt qma)).trans qma
    clear qma
    have qma := qman
    clear qman
    have qdan : W3.cell? ⟨w.heap.size, 1, none⟩ = some (.int .i64 d) := (hc _ _ (cell_lt qda)).trans qda
    clear qda
    have qda := qdan
    clear qdan
    have qcan : W3.cell? ⟨w.heap.size + 1, 0, none⟩ = some (.int .i64 i) := (hc _ _ (cell_lt qca)).trans qca
    clear qca
    have qca := qcan
    clear qcan
    have qcbn : W3.cell? ⟨w.heap.size + 1, 1, none⟩ = some (.int .i64 da) := (hc _ _ (cell_lt qcb)).trans qcb
    clear qcb
    have qcb := qcbn
    clear qcbn
    have qcsn : W3.cell? ⟨w.heap.size + 1, 2, none⟩ = some (.int .i64 s) := (hc _ _ (cell_lt qcs)).trans qcs
    clear qcs
    have qcs := qcsn
    clear qcsn
    have qcnn : W3.cell? ⟨w.heap.size + 1, 3, none⟩ = some (.int .i64 n) := (hc _ _ (cell_lt qcn)).trans qcn
    clear qcn
    have qcn := qcnn
    clear qcnn
    have qcwn : W3.cell? ⟨w.heap.size + 1, 4, none⟩ = some (.int .i64 wo) := (hc _ _ (cell_lt qcw)).trans qcw
    clear qcw
    have qcw := qcwn
    clear qcwn
    have fr0n : W3.frozen? ⟨w.heap.size + 2, 0, none⟩ = false := (hf _ _ (cell_lt r0)).trans fr0
    clear fr0
    have fr0 := fr0n
    clear fr0n
    have r0n : W3.cell? ⟨w.heap.size + 2, 0, none⟩ = some (.int .i64 0) := (hc _ _ (cell_lt r0)).trans r0
    clear r0
    have r0 := r0n
    clear r0n
    have fr1n : W3.frozen? ⟨w.heap.size + 2, 1, none⟩ = false := (hf _ _ (cell_lt r1)).trans fr1
    clear fr1
    have fr1 := fr1n
    clear fr1n
    have r1n : W3.cell? ⟨w.heap.size + 2, 1, none⟩ = some (.int .i64 0) := (hc _ _ (cell_lt r1)).trans r1
    clear r1
    have r1 := r1n
    clear r1n
    have fr2n : W3.frozen? ⟨w.heap.size + 2, 2, none⟩ = false := (hf _ _ (cell_lt r2)).trans fr2
    clear fr2
    have fr2 := fr2n
    clear fr2n
    have r2n : W3.cell? ⟨w.heap.size + 2, 2, none⟩ = some (.bool false) := (hc _ _ (cell_lt r2)).trans r2
    clear r2
    have r2 := r2n
    clear r2n
    have hbn : Below w.heap.size w W3 := bthen hb0 hB
    clear hb0
    have hb0 := hbn
    clear hbn
    have hzW3 : W2.heap.size ≤ W3.heap.size := hz
    clear hc hf hB hz
    go_wp2_with fail
    refine bodyPost_ret (v := .tuple #[Iv.none.v, .int .i64 1]) (by simp [results, Try.results42, go_sem, r0, r1, r2, Iv.none]) rfl ⟨rfl, by have hbz := hb0.size; go_grown⟩
  have hm := (rateB_iff.1 h1).1
  have hd := (rateB_iff.1 h1).2
  have hn := countB_iff.1 h2
  have hL := fun W => c_rleast m d n W (by omega) (by omega)
  have HL := Lib.hid hL
  clear hL
  have hG := fun W => c_rgreatest m d (n + wo) W (by omega) (by omega)
  have HG := Lib.hid hG
  clear hG
  go_enter Try.func42, Try.ntmps42
  go_upto_region 1 with (fail)
  go_name_world W1 hW1
  have hbn : Below w.heap.size w W1 := by subst hW1; go_grown
  have hb0 := hbn
  clear hbn
  have qman : W1.cell? ⟨w.heap.size, 0, none⟩ = some (.int .i64 m) := by subst hW1; go_simp
  have qdan : W1.cell? ⟨w.heap.size, 1, none⟩ = some (.int .i64 d) := by subst hW1; go_simp
  have qcan : W1.cell? ⟨w.heap.size + 1, 0, none⟩ = some (.int .i64 i) := by subst hW1; go_simp
  have qcbn : W1.cell? ⟨w.heap.size + 1, 1, none⟩ = some (.int .i64 da) := by subst hW1; go_simp
  have qcsn : W1.cell? ⟨w.heap.size + 1, 2, none⟩ = some (.int .i64 s) := by subst hW1; go_simp
  have qcnn : W1.cell? ⟨w.heap.size + 1, 3, none⟩ = some (.int .i64 n) := by subst hW1; go_simp
  have qcwn : W1.cell? ⟨w.heap.size + 1, 4, none⟩ = some (.int .i64 wo) := by subst hW1; go_simp
  have r0n : W1.cell? ⟨w.heap.size + 2, 0, none⟩ = some (.int .i64 0) := by subst hW1; go_simp
  have fr0n : W1.frozen? ⟨w.heap.size + 2, 0, none⟩ = false := by subst hW1; go_simp
  have r1n : W1.cell? ⟨w.heap.size + 2, 1, none⟩ = some (.int .i64 0) := by subst hW1; go_simp
  have fr1n : W1.frozen? ⟨w.heap.size + 2, 1, none⟩ = false := by subst hW1; go_simp
  have r2n : W1.cell? ⟨w.heap.size + 2, 2, none⟩ = some (.bool false) := by subst hW1; go_simp
  have fr2n : W1.frozen? ⟨w.heap.size + 2, 2, none⟩ = false := by subst hW1; go_simp
  clear hW1 
  have qma := qman
  have qda := qdan
  have qca := qcan
  have qcb := qcbn
  have qcs := qcsn
  have qcn := qcnn
  have qcw := qcwn
  have r0 := r0n
  have fr0 := fr0n
  have r1 := r1n
  have fr1 := fr1n
  have r2 := r2n
  have fr2 := fr2n
  clear qman qdan qcan qcbn qcsn qcnn qcwn r0n r1n r2n fr0n fr1n fr2n
  go_wp2_with fail
  refine (via (w0 := W1) (by go_grown) (c_rCheckRate m d _)).mono ?_
  rw [h1, errB_true]
  rintro e W2 ⟨rfl, hc, hf, hz, hB⟩
  have qman : W2.cell? ⟨w.heap.size, 0, none⟩ = some (.int .i64 m) := (hc _ _ (cell_lt qma)).trans qma
  clear qma
  have qma := qman
  clear qman
  have qdan : W2.cell? ⟨w.heap.size, 1, none⟩ = some (.int .i64 d) := (hc _ _ (cell_lt qda)).trans qda
  clear qda
  have qda := qdan
  clear qdan
  have qcan : W2.cell? ⟨w.heap.size + 1, 0, none⟩ = some (.int .i64 i) := (hc _ _ (cell_lt qca)).trans qca
  clear qca
  have qca := qcan
  clear qcan
  have qcbn : W2.cell? ⟨w.heap.size + 1, 1, none⟩ = some (.int .i64 da) := (hc _ _ (cell_lt qcb)).trans qcb
  clear qcb
  have qcb := qcbn
  clear qcbn
  have qcsn : W2.cell? ⟨w.heap.size + 1, 2, none⟩ = some (.int .i64 s) := (hc _ _ (cell_lt qcs)).trans qcs
  clear qcs
  have qcs := qcsn
  clear qcsn
  have qcnn : W2.cell? ⟨w.heap.size + 1, 3, none⟩ = some (.int .i64 n) := (hc _ _ (cell_lt qcn)).trans qcn
  clear qcn
  have qcn := qcnn
  clear qcnn
  have qcwn : W2.cell? ⟨w.heap.size + 1, 4, none⟩ = some (.int .i64 wo) := (hc _ _ (cell_lt qcw)).trans qcw
  clear qcw
  have qcw := qcwn
  clear qcwn
  have fr0n : W2.frozen? ⟨w.heap.size + 2, 0, none⟩ = false := (hf _ _ (cell_lt r0)).trans fr0
  clear fr0
  have fr0 := fr0n
  clear fr0n
  have r0n : W2.cell? ⟨w.heap.size + 2, 0, none⟩ = some (.int .i64 0) := (hc _ _ (cell_lt r0)).trans r0
  clear r0
  have r0 := r0n
  clear r0n
  have fr1n : W2.frozen? ⟨w.heap.size + 2, 1, none⟩ = false := (hf _ _ (cell_lt r1)).trans fr1
  clear fr1
  have fr1 := fr1n
  clear fr1n
  have r1n : W2.cell? ⟨w.heap.size + 2, 1, none⟩ = some (.int .i64 0) := (hc _ _ (cell_lt r1)).trans r1
  clear r1
  have r1 := r1n
  clear r1n
  have fr2n : W2.frozen? ⟨w.heap.size + 2, 2, none⟩ = false := (hf _ _ (cell_lt r2)).trans fr2
  clear fr2
  have fr2 := fr2n
  clear fr2n
  have r2n : W2.cell? ⟨w.heap.size + 2, 2, none⟩ = some (.bool false) := (hc _ _ (cell_lt r2)).trans r2
  clear r2
  have r2 := r2n
  clear r2n
  have hbn : Below w.heap.size w W2 := bthen hb0 hB
  clear hb0
  have hb0 := hbn
  clear hbn
  have hzW2 : W1.heap.size ≤ W2.heap.size := hz
  clear hc hf hB hz
  go_wp2_with fail
  refine (via (w0 := W2) (by go_grown) (c_rCheckCount i da s n wo _)).mono ?_
  rw [h2, errB_true]
  rintro e W3 ⟨rfl, hc, hf, hz, hB⟩
  have qman : W3.cell? ⟨w.heap.size, 0, none⟩ = some (.int .i64 m) := (hc _ _ (cell_lt qma)).trans qma
  clear qma
  have qma := qman
  clear qman
  have qdan : W3.cell? ⟨w.heap.size, 1, none⟩ = some (.int .i64 d) := (hc _ _ (cell_lt qda)).trans qda
  clear qda
  have qda := qdan
  clear qdan
  have qcan : W3.cell? ⟨w.heap.size + 1, 0, none⟩ = some (.int .i64 i) := (hc _ _ (cell_lt qca)).trans qca
  clear qca
  have qca := qcan
  clear qcan
  have qcbn : W3.cell? ⟨w.heap.size + 1, 1, none⟩ = some (.int .i64 da) := (hc _ _ (cell_lt qcb)).trans qcb
  clear qcb
  have qcb := qcbn
  clear qcbn
  have qcsn : W3.cell? ⟨w.heap.size + 1, 2, none⟩ = some (.int .i64 s) := (hc _ _ (cell_lt qcs)).trans qcs
  clear qcs
  have qcs := qcsn
  clear qcsn
  have qcnn : W3.cell? ⟨w.heap.size + 1, 3, none⟩ = some (.int .i64 n) := (hc _ _ (cell_lt qcn)).trans qcn
  clear qcn
  have qcn := qcnn
  clear qcnn
  have qcwn : W3.cell? ⟨w.heap.size + 1, 4, none⟩ = some (.int .i64 wo) := (hc _ _ (cell_lt qcw)).trans qcw
  clear qcw
  have qcw := qcwn
  clear qcwn
  have fr0n : W3.frozen? ⟨w.heap.size + 2, 0, none⟩ = false := (hf _ _ (cell_lt r0)).trans fr0
  clear fr0
  have fr0 := fr0n
  clear fr0n
  have r0n : W3.cell? ⟨w.heap.size + 2, 0, none⟩ = some (.int .i64 0) := (hc _ _ (cell_lt r0)).trans r0
  clear r0
  have r0 := r0n
  clear r0n
  have fr1n : W3.frozen? ⟨w.heap.size + 2, 1, none⟩ = false := (hf _ _ (cell_lt r1)).trans fr1
  clear fr1
  have fr1 := fr1n
  clear fr1n
  have r1n : W3.cell? ⟨w.heap.size + 2, 1, none⟩ = some (.int .i64 0) := (hc _ _ (cell_lt r1)).trans r1
  clear r1
  have r1 := r1n
  clear r1n
  have fr2n : W3.frozen? ⟨w.heap.size + 2, 2, none⟩ = false := (hf _ _ (cell_lt r2)).trans fr2
  clear fr2
  have fr2 := fr2n
  clear fr2n
  have r2n : W3.cell? ⟨w.heap.size + 2, 2, none⟩ = some (.bool false) := (hc _ _ (cell_lt r2)).trans r2
  clear r2
  have r2 := r2n
  clear r2n
  have hbn : Below w.heap.size w W3 := bthen hb0 hB
  clear hb0
  have hb0 := hbn
  clear hbn
  have hzW3 : W2.heap.size ≤ W3.heap.size := hz
  clear hc hf hB hz
  go_wp2_with fail
  have kqma := later_cell qma
  have kqda := later_cell qda
  have kqca := later_cell qca
  have kqcb := later_cell qcb
  have kqcs := later_cell qcs
  have kqcn := later_cell qcn
  have kqcw := later_cell qcw
  have kr0 := later_cell r0
  have kr1 := later_cell r1
  have kr2 := later_cell r2
  refine wp_region_tail 12 W3 (by kernel_rfl) (by kernel_rfl) (Below.refl _ _) ?_
  simp only [List.take_succ_cons, List.take_zero, List.drop_succ_cons, List.drop_zero]
  repeat (go_big_quiet_step (first | (go_at_call 80; with_reducible exact in_region (HL.out _)) | (go_at_call 81; with_reducible exact in_region (HG.out _)) | (go_at_call 79; with_reducible exact in_region (c_rspan _ _ _))))
  refine wpQuiet_nil ?_
  rintro ⟨W4, hB⟩
  dsimp only
  have hc := (bcell hB).1
  have hf := (bcell hB).2
  have hz := hB.size
  clear kqma kqda kqca kqcb kqcs kqcn kqcw kr0 kr1 kr2
  have qman : W4.cell? ⟨w.heap.size, 0, none⟩ = some (.int .i64 m) := (hc _ _ (cell_lt qma)).trans qma
  clear qma
  have qma := qman
  clear qman
  have qdan : W4.cell? ⟨w.heap.size, 1, none⟩ = some (.int .i64 d) := (hc _ _ (cell_lt qda)).trans qda
  clear qda
  have qda := qdan
  clear qdan
  have qcan : W4.cell? ⟨w.heap.size + 1, 0, none⟩ = some (.int .i64 i) := (hc _ _ (cell_lt qca)).trans qca
  clear qca
  have qca := qcan
  clear qcan
  have qcbn : W4.cell? ⟨w.heap.size + 1, 1, none⟩ = some (.int .i64 da) := (hc _ _ (cell_lt qcb)).trans qcb
  clear qcb
  have qcb := qcbn
  clear qcbn
  have qcsn : W4.cell? ⟨w.heap.size + 1, 2, none⟩ = some (.int .i64 s) := (hc _ _ (cell_lt qcs)).trans qcs
  clear qcs
  have qcs := qcsn
  clear qcsn
  have qcnn : W4.cell? ⟨w.heap.size + 1, 3, none⟩ = some (.int .i64 n) := (hc _ _ (cell_lt qcn)).trans qcn
  clear qcn
  have qcn := qcnn
  clear qcnn
  have qcwn : W4.cell? ⟨w.heap.size + 1, 4, none⟩ = some (.int .i64 wo) := (hc _ _ (cell_lt qcw)).trans qcw
  clear qcw
  have qcw := qcwn
  clear qcwn
  have fr0n : W4.frozen? ⟨w.heap.size + 2, 0, none⟩ = false := (hf _ _ (cell_lt r0)).trans fr0
  clear fr0
  have fr0 := fr0n
  clear fr0n
  have r0n : W4.cell? ⟨w.heap.size + 2, 0, none⟩ = some (.int .i64 0) := (hc _ _ (cell_lt r0)).trans r0
  clear r0
  have r0 := r0n
  clear r0n
  have fr1n : W4.frozen? ⟨w.heap.size + 2, 1, none⟩ = false := (hf _ _ (cell_lt r1)).trans fr1
  clear fr1
  have fr1 := fr1n
  clear fr1n
  have r1n : W4.cell? ⟨w.heap.size + 2, 1, none⟩ = some (.int .i64 0) := (hc _ _ (cell_lt r1)).trans r1
  clear r1
  have r1 := r1n
  clear r1n
  have fr2n : W4.frozen? ⟨w.heap.size + 2, 2, none⟩ = false := (hf _ _ (cell_lt r2)).trans fr2
  clear fr2
  have fr2 := fr2n
  clear fr2n
  have r2n : W4.cell? ⟨w.heap.size + 2, 2, none⟩ = some (.bool false) := (hc _ _ (cell_lt r2)).trans r2
  clear r2
  have r2 := r2n
  clear r2n
  have hbn : Below w.heap.size w W4 := bthen hb0 hB
  clear hb0
  have hb0 := hbn
  clear hbn
  have hzW4 : W3.heap.size ≤ W4.heap.size := hz
  clear hc hf hB hz
  go_wp2_with fail
  refine bodyPost_ret (v := .tuple #[(betw (fromG d n) (fromL m (n + wo + 1) - 1)).v, .int .i64 0]) (by simp [results, Try.results42, go_sem, r0, r1, r2]) rfl ⟨rfl, by have hbz := hb0.size; go_grown⟩

theorem okTC_of (m d n : Int) (h1 : rateB m d = true) (h : 0 ≤ n ∧ n ≤ 100000) : okTC m d n = true := by
  have : inR 0 200000 n = true := inR_iff.2 (by omega)
  simp [okTC, h1, this]
set_option maxHeartbeats 4000000 in
theorem c_rGathered (m d i da s n wo : Int) (w : World) :
    Calls Try.prog 43 #[.agg #[.int .i64 m, .int .i64 d], .agg #[.int .i64 i, .int .i64 da, .int .i64 s, .int .i64 n, .int .i64 wo]] w fun e w' =>
      e = .returned (if okTT m d i da s n wo then .tuple #[.int .i64 (fitIv m d n n).lo, .int .i64 0] else .tuple #[.int .i64 0, .int .i64 1]) ∧ Below w.heap.size w w' := by
  unfold okTT
  cases h1 : rateB m d
  · go_enter Try.func43, Try.ntmps43
    go_upto_region 1 with (fail)
    go_name_world W1 hW1
    have hbn : Below w.heap.size w W1 := by subst hW1; go_grown
    have hb0 := hbn
    clear hbn
    have qman : W1.cell? ⟨w.heap.size, 0, none⟩ = some (.int .i64 m) := by subst hW1; go_simp
    have qdan : W1.cell? ⟨w.heap.size, 1, none⟩ = some (.int .i64 d) := by subst hW1; go_simp
    have qcan : W1.cell? ⟨w.heap.size + 1, 0, none⟩ = some (.int .i64 i) := by subst hW1; go_simp
    have qcbn : W1.cell? ⟨w.heap.size + 1, 1, none⟩ = some (.int .i64 da) := by subst hW1; go_simp
    have qcsn : W1.cell? ⟨w.heap.size + 1, 2, none⟩ = some (.int .i64 s) := by subst hW1; go_simp
    have qcnn : W1.cell? ⟨w.heap.size + 1, 3, none⟩ = some (.int .i64 n) := by subst hW1; go_simp
    have qcwn : W1.cell? ⟨w.heap.size + 1, 4, none⟩ = some (.int .i64 wo) := by subst hW1; go_simp
    clear hW1 
    have qma := qman
    have qda := qdan
    have qca := qcan
    have qcb := qcbn
    have qcs := qcsn
    have qcn := qcnn
    have qcw := qcwn
    clear qman qdan qcan qcbn qcsn qcnn qcwn 
    go_wp2_with fail
    refine (via (w0 := W1) (by go_grown) (c_rCheckRate m d _)).mono ?_
    rw [h1, errB_false]
    rintro e W2 ⟨rfl, hc, hf, hz, hB⟩
    have qman : W2.cell? ⟨w.heap.size, 0, none⟩ = some (.int .i64 m) := (hc _ _ (cell_lt qma)).trans qma
    clear qma
    have qma := qman
    clear qman
    have qdan : W2.cell? ⟨w.heap.size, 1, none⟩ = some (.int .i64 d) := (hc _ _ (cell_lt qda)).trans qda
    clear qda
    have qda := qdan
    clear qdan
    have qcan : W2.cell? ⟨w.heap.size + 1, 0, none⟩ = some (.int .i64 i) := (hc _ _ (cell_lt qca)).trans qca
    clear qca
    have qca := qcan
    clear qcan
    have qcbn : W2.cell? ⟨w.heap.size + 1, 1, none⟩ = some (.int .i64 da) := (hc _ _ (cell_lt qcb)).trans qcb
    clear qcb
    have qcb := qcbn
    clear qcbn
    have qcsn : W2.cell? ⟨w.heap.size + 1, 2, none⟩ = some (.int .i64 s) := (hc _ _ (cell_lt qcs)).trans qcs
    clear qcs
    have qcs := qcsn
    clear qcsn
    have qcnn : W2.cell? ⟨w.heap.size + 1, 3, none⟩ = some (.int .i64 n) := (hc _ _ (cell_lt qcn)).trans qcn
    clear qcn
    have qcn := qcnn
    clear qcnn
    have qcwn : W2.cell? ⟨w.heap.size + 1, 4, none⟩ = some (.int .i64 wo) := (hc _ _ (cell_lt qcw)).trans qcw
    clear qcw
    have qcw := qcwn
    clear qcwn
    have hbn : Below w.heap.size w W2 := bthen hb0 hB
    clear hb0
    have hb0 := hbn
    clear hbn
    have hzW2 : W1.heap.size ≤ W2.heap.size := hz
    clear hc hf hB hz
    go_wp2_with fail
    go_ret2
    exact ⟨rfl, by have hbz := hb0.size; go_grown⟩
  cases h2 : countB i da s n wo
  · go_enter Try.func43, Try.ntmps43
    go_upto_region 1 with (fail)
    go_name_world W1 hW1
    have hbn : Below w.heap.size w W1 := by subst hW1; go_grown
    have hb0 := hbn
    clear hbn
    have qman : W1.cell? ⟨w.heap.size, 0, none⟩ = some (.int .i64 m) := by subst hW1; go_simp
    have qdan : W1.cell? ⟨w.heap.size, 1, none⟩ = some (.int .i64 d) := by subst hW1; go_simp
    have qcan : W1.cell? ⟨w.heap.size + 1, 0, none⟩ = some (.int .i64 i) := by subst hW1; go_simp
    have qcbn : W1.cell? ⟨w.heap.size + 1, 1, none⟩ = some (.int .i64 da) := by subst hW1; go_simp
    have qcsn : W1.cell? ⟨w.heap.size + 1, 2, none⟩ = some (.int .i64 s) := by subst hW1; go_simp
    have qcnn : W1.cell? ⟨w.heap.size + 1, 3, none⟩ = some (.int .i64 n) := by subst hW1; go_simp
    have qcwn : W1.cell? ⟨w.heap.size + 1, 4, none⟩ = some (.int .i64 wo) := by subst hW1; go_simp
    clear hW1 
    have qma := qman
    have qda := qdan
    have qca := qcan
    have qcb := qcbn
    have qcs := qcsn
    have qcn := qcnn
    have qcw := qcwn
    clear qman qdan qcan qcbn qcsn qcnn qcwn 
    go_wp2_with fail
    refine (via (w0 := W1) (by go_grown) (c_rCheckRate m d _)).mono ?_
    rw [h1, errB_true]
    rintro e W2 ⟨rfl, hc, hf, hz, hB⟩
    have qman : W2.cell? ⟨w.heap.size, 0, none⟩ = some (.int .i64 m) := (hc _ _ (cell_lt qma)).trans qma
    clear qma
    have qma := qman
    clear qman
    have qdan : W2.cell? ⟨w.heap.size, 1, none⟩ = some (.int .i64 d) := (hc _ _ (cell_lt qda)).trans qda
    clear qda
    have qda := qdan
    clear qdan
    have qcan : W2.cell? ⟨w.heap.size + 1, 0, none⟩ = some (.int .i64 i) := (hc _ _ (cell_lt qca)).trans qca
    clear qca
    have qca := qcan
    clear qcan
    have qcbn : W2.cell? ⟨w.heap.size + 1, 1, none⟩ = some (.int .i64 da) := (hc _ _ (cell_lt qcb)).trans qcb
    clear qcb
    have qcb := qcbn
    clear qcbn
    have qcsn : W2.cell? ⟨w.heap.size + 1, 2, none⟩ = some (.int .i64 s) := (hc _ _ (cell_lt qcs)).trans qcs
    clear qcs
    have qcs := qcsn
    clear qcsn
    have qcnn : W2.cell? ⟨w.heap.size + 1, 3, none⟩ = some (.int .i64 n) := (hc _ _ (cell_lt qcn)).trans qcn
    clear qcn
    have qcn := qcnn
    clear qcnn
    have qcwn : W2.cell? ⟨w.heap.size + 1, 4, none⟩ = some (.int .i64 wo) := (hc _ _ (cell_lt qcw)).trans qcw
    clear qcw
    have qcw := qcwn
    clear qcwn
    have hbn : Below w.heap.size w W2 := bthen hb0 hB
    clear hb0
    have hb0 := hbn
    clear hbn
    have hzW2 : W1.heap.size ≤ W2.heap.size := hz
    clear hc hf hB hz
    go_wp2_with fail
    refine (via (w0 := W2) (by go_grown) (c_rCheckCount i da s n wo _)).mono ?_
    rw [h2, errB_false]
    rintro e W3 ⟨rfl, hc, hf, hz, hB⟩
    have qman : W3.cell? ⟨w.heap.size, 0, none⟩ = some (.int .i64 m) := (hc _ _ (cell_lt qma)).trans qma
    clear qma
    have qma := qman
    clear qman
    have qdan : W3.cell? ⟨w.heap.size, 1, none⟩ = some (.int .i64 d) := (hc _ _ (cell_lt qda)).trans qda
    clear qda
    have qda := qdan
    clear qdan
    have qcan : W3.cell? ⟨w.heap.size + 1, 0, none⟩ = some (.int .i64 i) := (hc _ _ (cell_lt qca)).trans qca
    clear qca
    have qca := qcan
    clear qcan
    have qcbn : W3.cell? ⟨w.heap.size + 1, 1, none⟩ = some (.int .i64 da) := (hc _ _ (cell_lt qcb)).trans qcb
    clear qcb
    have qcb := qcbn
    clear qcbn
    have qcsn : W3.cell? ⟨w.heap.size + 1, 2, none⟩ = some (.int .i64 s) := (hc _ _ (cell_lt qcs)).trans qcs
    clear qcs
    have qcs := qcsn
    clear qcsn
    have qcnn : W3.cell? ⟨w.heap.size + 1, 3, none⟩ = some (.int .i64 n) := (hc _ _ (cell_lt qcn)).trans qcn
    clear qcn
    have qcn := qcnn
    clear qcnn
    have qcwn : W3.cell? ⟨w.heap.size + 1, 4, none⟩ = some (.int .i64 wo) := (hc _ _ (cell_lt qcw)).trans qcw
    clear qcw
    have qcw := qcwn
    clear qcwn
    have hbn : Below w.heap.size w W3 := bthen hb0 hB
    clear hb0
    have hb0 := hbn
    clear hbn
    have hzW3 : W2.heap.size ≤ W3.heap.size := hz
    clear hc hf hB hz
    go_wp2_with fail
    go_ret2
    exact ⟨rfl, by have hbz := hb0.size; go_grown⟩
  have hm := (rateB_iff.1 h1).1
  have hd := (rateB_iff.1 h1).2
  have hn := countB_iff.1 h2
  have hT : ∀ W, Calls Try.prog 41 #[.agg #[.int .i64 m, .int .i64 d], .int .i64 n] W fun e w' => e = .returned (.tuple #[.agg #[.int .i64 (fitIv m d n n).lo, .int .i64 (fitIv m d n n).hi, .bool (fitIv m d n n).some], .int .i64 0]) ∧ Below W.heap.size W w' := by
    intro W
    have := c_rTrue m d n W
    rw [okTC_of m d n h1 (by omega)] at this
    exact this
  have HT := Lib.hid hT
  clear hT
  go_enter Try.func43, Try.ntmps43
  go_upto_region 1 with (fail)
  go_name_world W1 hW1
  have hbn : Below w.heap.size w W1 := by subst hW1; go_grown
  have hb0 := hbn
  clear hbn
  have qman : W1.cell? ⟨w.heap.size, 0, none⟩ = some (.int .i64 m) := by subst hW1; go_simp
  have qdan : W1.cell? ⟨w.heap.size, 1, none⟩ = some (.int .i64 d) := by subst hW1; go_simp
  have qcan : W1.cell? ⟨w.heap.size + 1, 0, none⟩ = some (.int .i64 i) := by subst hW1; go_simp
  have qcbn : W1.cell? ⟨w.heap.size + 1, 1, none⟩ = some (.int .i64 da) := by subst hW1; go_simp
  have qcsn : W1.cell? ⟨w.heap.size + 1, 2, none⟩ = some (.int .i64 s) := by subst hW1; go_simp
  have qcnn : W1.cell? ⟨w.heap.size + 1, 3, none⟩ = some (.int .i64 n) := by subst hW1; go_simp
  have qcwn : W1.cell? ⟨w.heap.size + 1, 4, none⟩ = some (.int .i64 wo) := by subst hW1; go_simp
  clear hW1 
  have qma := qman
  have qda := qdan
  have qca := qcan
  have qcb := qcbn
  have qcs := qcsn
  have qcn := qcnn
  have qcw := qcwn
  clear qman qdan qcan qcbn qcsn qcnn qcwn 
  go_wp2_with fail
  refine (via (w0 := W1) (by go_grown) (c_rCheckRate m d _)).mono ?_
  rw [h1, errB_true]
  rintro e W2 ⟨rfl, hc, hf, hz, hB⟩
  have qman : W2.cell? ⟨w.heap.size, 0, none⟩ = some (.int .i64 m) := (hc _ _ (cell_lt qma)).trans qma
  clear qma
  have qma := qman
  clear qman
  have qdan : W2.cell? ⟨w.heap.size, 1, none⟩ = some (.int .i64 d) := (hc _ _ (cell_lt qda)).trans qda
  clear qda
  have qda := qdan
  clear qdan
  have qcan : W2.cell? ⟨w.heap.size + 1, 0, none⟩ = some (.int .i64 i) := (hc _ _ (cell_lt qca)).trans qca
  clear qca
  have qca := qcan
  clear qcan
  have qcbn : W2.cell? ⟨w.heap.size + 1, 1, none⟩ = some (.int .i64 da) := (hc _ _ (cell_lt qcb)).trans qcb
  clear qcb
  have qcb := qcbn
  clear qcbn
  have qcsn : W2.cell? ⟨w.heap.size + 1, 2, none⟩ = some (.int .i64 s) := (hc _ _ (cell_lt qcs)).trans qcs
  clear qcs
  have qcs := qcsn
  clear qcsn
  have qcnn : W2.cell? ⟨w.heap.size + 1, 3, none⟩ = some (.int .i64 n) := (hc _ _ (cell_lt qcn)).trans qcn
  clear qcn
  have qcn := qcnn
  clear qcnn
  have qcwn : W2.cell? ⟨w.heap.size + 1, 4, none⟩ = some (.int .i64 wo) := (hc _ _ (cell_lt qcw)).trans qcw
  clear qcw
  have qcw := qcwn
  clear qcwn
  have hbn : Below w.heap.size w W2 := bthen hb0 hB
  clear hb0
  have hb0 := hbn
  clear hbn
  have hzW2 : W1.heap.size ≤ W2.heap.size := hz
  clear hc hf hB hz
  go_wp2_with fail
  refine (via (w0 := W2) (by go_grown) (c_rCheckCount i da s n wo _)).mono ?_
  rw [h2, errB_true]
  rintro e W3 ⟨rfl, hc, hf, hz, hB⟩
  have qman : W3.cell? ⟨w.heap.size, 0, none⟩ = some (.int .i64 m) := (hc _ _ (cell_lt qma)).trans qma
  clear qma
  have qma := qman
  clear qman
  have qdan : W3.cell? ⟨w.heap.size, 1, none⟩ = some (.int .i64 d) := (hc _ _ (cell_lt qda)).trans qda
  clear qda
  have qda := qdan
  clear qdan
  have qcan : W3.cell? ⟨w.heap.size + 1, 0, none⟩ = some (.int .i64 i) := (hc _ _ (cell_lt qca)).trans qca
  clear qca
  have qca := qcan
  clear qcan
  have qcbn : W3.cell? ⟨w.heap.size + 1, 1, none⟩ = some (.int .i64 da) := (hc _ _ (cell_lt qcb)).trans qcb
  clear qcb
  have qcb := qcbn
  clear qcbn
  have qcsn : W3.cell? ⟨w.heap.size + 1, 2, none⟩ = some (.int .i64 s) := (hc _ _ (cell_lt qcs)).trans qcs
  clear qcs
  have qcs := qcsn
  clear qcsn
  have qcnn : W3.cell? ⟨w.heap.size + 1, 3, none⟩ = some (.int .i64 n) := (hc _ _ (cell_lt qcn)).trans qcn
  clear qcn
  have qcn := qcnn
  clear qcnn
  have qcwn : W3.cell? ⟨w.heap.size + 1, 4, none⟩ = some (.int .i64 wo) := (hc _ _ (cell_lt qcw)).trans qcw
  clear qcw
  have qcw := qcwn
  clear qcwn
  have hbn : Below w.heap.size w W3 := bthen hb0 hB
  clear hb0
  have hb0 := hbn
  clear hbn
  have hzW3 : W2.heap.size ≤ W3.heap.size := hz
  clear hc hf hB hz
  go_wp2_with fail
  refine (via (w0 := W3) (by go_grown) (HT.out _)).mono ?_
  rintro e W4 ⟨rfl, hc, hf, hz, hB⟩
  have qman : W4.cell? ⟨w.heap.size, 0, none⟩ = some (.int .i64 m) := (hc _ _ (cell_lt qma)).trans qma
  clear qma
  have qma := qman
  clear qman
  have qdan : W4.cell? ⟨w.heap.size, 1, none⟩ = some (.int .i64 d) := (hc _ _ (cell_lt qda)).trans qda
  clear qda
  have qda := qdan
  clear qdan
  have qcan : W4.cell? ⟨w.heap.size + 1, 0, none⟩ = some (.int .i64 i) := (hc _ _ (cell_lt qca)).trans qca
  clear qca
  have qca := qcan
  clear qcan
  have qcbn : W4.cell? ⟨w.heap.size + 1, 1, none⟩ = some (.int .i64 da) := (hc _ _ (cell_lt qcb)).trans qcb
  clear qcb
  have qcb := qcbn
  clear qcbn
  have qcsn : W4.cell? ⟨w.heap.size + 1, 2, none⟩ = some (.int .i64 s) := (hc _ _ (cell_lt qcs)).trans qcs
  clear qcs
  have qcs := qcsn
  clear qcsn
  have qcnn : W4.cell? ⟨w.heap.size + 1, 3, none⟩ = some (.int .i64 n) := (hc _ _ (cell_lt qcn)).trans qcn
  clear qcn
  have qcn := qcnn
  clear qcnn
  have qcwn : W4.cell? ⟨w.heap.size + 1, 4, none⟩ = some (.int .i64 wo) := (hc _ _ (cell_lt qcw)).trans qcw
  clear qcw
  have qcw := qcwn
  clear qcwn
  have hbn : Below w.heap.size w W4 := bthen hb0 hB
  clear hb0
  have hb0 := hbn
  clear hbn
  have hzW4 : W3.heap.size ≤ W4.heap.size := hz
  clear hc hf hB hz
  go_wp2_with fail
  go_ret2
  exact ⟨rfl, by have hbz := hb0.size; go_grown⟩
end Go.Proofs.Ytokpjaodchcheaa
