/- This text proves what Sum of the reference returns, for every list of intervals. -/
import Derived.Test.YtokpjaodchcheaaSum
namespace Go.Proofs.Ytokpjaodchcheaa
open Go.RowKit Go.Shelf
attribute [local go_sem] Oper.semAt_some

theorem valid_one {x : Iv} (h : ivB x = true) : 0 ≤ x.lo ∧ x.lo ≤ x.hi ∧ x.hi ≤ 100000000 := by
  cases hs : x.some
  · rw [ivB_none h hs]; simp [Iv.none]
  · exact ivB_some h hs
theorem valid_bd {l : List Iv} (h : ∀ x ∈ l, ivB x = true) : 0 ≤ lowS l ∧ lowS l ≤ highS l ∧ highS l ≤ 100000000 * l.length := by
  induction l with
  | nil => simp [lowS, highS]
  | cons x l ih =>
    have e := valid_one (h x (by simp))
    have i := ih (fun y hy => h y (by simp [hy]))
    have e1 : lowS (x :: l) = x.lo + lowS l := by simp [lowS]
    have e2 : highS (x :: l) = x.hi + highS l := by simp [highS]
    rw [e1, e2, List.length_cons]
    omega

set_option maxRecDepth 100000 in
set_option maxHeartbeats 8000000 in
theorem c_rSum (l : List Iv) (a : Option Addr) (cap : Nat) (w : World) (hl : Ivs w a l) :
    Calls Try.prog 55 #[.slice a l.length cap] w fun e w' => e = .returned (sumVal (sumV l)) ∧ Below w.heap.size w w' := by
  have hlen := hl.1
  have HL := Lib.hid hl
  clear hl
  by_cases h200 : 200 < l.length
  · have hv : sumV l = (⟨0, 0, false⟩, 2) := by unfold sumV; rw [if_pos h200]; rfl
    have h' : (200 : Int) < (l.length : Int) := by omega
    rw [hv]
    clear hv h200
    go_enter Try.func55, Try.ntmps55
    go_upto_region 1 with (fail)
    go_name_world W1 hW1
    have hbn : Below w.heap.size w W1 := by subst hW1; go_grown
    have hb0 := hbn
    clear hbn
    have s0n : W1.cell? ⟨w.heap.size, 0, none⟩ = some (.int .i64 0) := by subst hW1; go_simp
    have fs0n : W1.frozen? ⟨w.heap.size, 0, none⟩ = false := by subst hW1; go_simp
    have s1n : W1.cell? ⟨w.heap.size, 1, none⟩ = some (.int .i64 0) := by subst hW1; go_simp
    have fs1n : W1.frozen? ⟨w.heap.size, 1, none⟩ = false := by subst hW1; go_simp
    have s2n : W1.cell? ⟨w.heap.size, 2, none⟩ = some (.bool false) := by subst hW1; go_simp
    have fs2n : W1.frozen? ⟨w.heap.size, 2, none⟩ = false := by subst hW1; go_simp
    clear hW1 
    have s0 := s0n
    have fs0 := fs0n
    have s1 := s1n
    have fs1 := fs1n
    have s2 := s2n
    have fs2 := fs2n
    clear s0n s1n s2n fs0n fs1n fs2n
    go_wp2_with fail
    refine bodyPost_ret (v := sumVal (⟨0, 0, false⟩, 2)) (by simp [results, Try.results55, go_sem, s0, s1, s2]) rfl ⟨rfl, by have hbz := hb0.size; go_grown⟩
  have h' : ¬ (200 : Int) < (l.length : Int) := by omega
  go_enter Try.func55, Try.ntmps55
  go_upto_region 1 with (fail)
  go_name_world W1 hW1
  have hbn : Below w.heap.size w W1 := by subst hW1; go_grown
  have hb0 := hbn
  clear hbn
  have s0n : W1.cell? ⟨w.heap.size, 0, none⟩ = some (.int .i64 0) := by subst hW1; go_simp
  have fs0n : W1.frozen? ⟨w.heap.size, 0, none⟩ = false := by subst hW1; go_simp
  have s1n : W1.cell? ⟨w.heap.size, 1, none⟩ = some (.int .i64 0) := by subst hW1; go_simp
  have fs1n : W1.frozen? ⟨w.heap.size, 1, none⟩ = false := by subst hW1; go_simp
  have s2n : W1.cell? ⟨w.heap.size, 2, none⟩ = some (.bool false) := by subst hW1; go_simp
  have fs2n : W1.frozen? ⟨w.heap.size, 2, none⟩ = false := by subst hW1; go_simp
  clear hW1 
  have s0 := s0n
  have fs0 := fs0n
  have s1 := s1n
  have fs1 := fs1n
  have s2 := s2n
  have fs2 := fs2n
  clear s0n s1n s2n fs0n fs1n fs2n
  go_wp2
  go_loopw [4, 5, 6, 7] (fun v4 v5 v6 v7 wr => ∃ k : Nat, k ≤ l.length ∧ v7 = .int .i64 k ∧ (∀ x ∈ l.take k, ivB x = true) ∧ v4 = .int .i64 (lowS (l.take k)) ∧ v5 = .int .i64 (highS (l.take k)) ∧ v6 = .bool (!(l.take k).any noneB) ∧ Below W1.heap.size W1 wr) (fun _ _ _ v7 _ => l.length - (intOf v7).toNat)
  case atStart => exact ⟨0, by omega, rfl, fun x hx => by simp at hx, rfl, rfl, rfl, Below.refl _ _⟩
  case round =>
    obtain ⟨k, hk, rfl, hval, rfl, rfl, rfl, hbr⟩ := hrel
    have hbw := bthen hb0 hbr
    have u0 := ((bcell hbr).1 _ _ (cell_lt s0)).trans s0
    have u1 := ((bcell hbr).1 _ _ (cell_lt s1)).trans s1
    have u2 := ((bcell hbr).1 _ _ (cell_lt s2)).trans s2
    have fu0 := ((bcell hbr).2 _ _ (cell_lt s0)).trans fs0
    have fu1 := ((bcell hbr).2 _ _ (cell_lt s1)).trans fs1
    have fu2 := ((bcell hbr).2 _ _ (cell_lt s2)).trans fs2
    have hbd := valid_bd hval
    have htl : (l.take k).length ≤ 200 := by simp; omega
    have HVAL := Lib.hid hval
    have HBR := Lib.hid hbr
    have HBW := Lib.hid hbw
    clear s0 s1 s2 fs0 fs1 fs2 hval hb0
    by_cases hlt : k < l.length
    · obtain ⟨b, o, rfl, hat⟩ := (HL.out.later hbw).2 (by intro e; rw [e] at hlt; simp at hlt)
      obtain ⟨y1, y2, y3⟩ := hat k hlt
      have hb0 : Below wr.heap.size wr wr := Below.refl _ _
      have hst1 : lowS (l.take (k + 1)) = lowS (l.take k) + (iv l k).lo := by rw [take_iv hlt, lowS_snoc]
      have hst2 : highS (l.take (k + 1)) = highS (l.take k) + (iv l k).hi := by rw [take_iv hlt, highS_snoc]
      have hst3 : (l.take (k + 1)).any noneB = ((l.take k).any noneB || noneB (iv l k)) := by rw [take_iv hlt, List.any_append]; simp
      have hst4 : ivB (iv l k) = true → ∀ x ∈ l.take (k + 1), ivB x = true := fun h x hx => by
        rw [take_iv hlt] at hx
        rcases List.mem_append.1 hx with h1 | h1
        · exact HVAL.out x h1
        · rw [List.mem_singleton.1 h1]; exact h
      have hval2 : ivB (iv l k) = true → 0 ≤ (iv l k).lo ∧ (iv l k).lo ≤ (iv l k).hi ∧ (iv l k).hi ≤ 100000000 := fun h => valid_one h
      have hbad : ivB (iv l k) = false → sumV l = (⟨0, 0, false⟩, 1) := fun h => by
        unfold sumV
        rw [if_neg h200, if_pos (List.any_eq_true.2 ⟨iv l k, iv_mem hlt, by rw [h]; rfl⟩)]
        rfl
      have hnb : noneB (iv l k) = !(iv l k).some := rfl
      have hV := fun W => c_rValid (iv l k) W
      have S1 := Lib.hid hst1
      have S2 := Lib.hid hst2
      have S3 := Lib.hid hst3
      have S4 := Lib.hid hst4
      have HBAD := Lib.hid hbad
      have HNB := Lib.hid hnb
      clear hst1 hst2 hst3 hst4 hbad hnb hat hbr hbw
      have hi1 : ¬ (k : Int) < 0 := by omega
      have hi2 : (k : Int) < (l.length : Int) := by omega
      obtain ⟨xk, hxk⟩ : ∃ x, iv l k = x := ⟨_, rfl⟩
      rw [hxk] at y1 y2 y3 hval2 hV S1 S2 S3 S4 HBAD HNB
      clear hxk
      obtain ⟨d1, d2, d3⟩ := xk
      dsimp only at y1 y2 y3 hval2 S1 S2 HNB
      generalize lowS (l.take k) = p at *
      generalize highS (l.take k) = q at *
      obtain ⟨hbd1, hbd2, hbd3⟩ := hbd
      cases hvv : ivB ⟨d1, d2, d3⟩
      · rw [hvv] at hV
        have HV := Lib.hid hV
        have HB := Lib.hid (HBAD.out hvv)
        clear hV hvv hval2
        go_wp2_with fail
        refine (via (w0 := wr) (by go_grown) (HV.out _)).mono ?_
        rintro e W2 ⟨rfl, hc, hf, hz, hB⟩
        have fu0n : W2.frozen? ⟨w.heap.size, 0, none⟩ = false := (hf _ _ (cell_lt u0)).trans fu0
        clear fu0
        have fu0 := fu0n
        clear fu0n
        have u0n : W2.cell? ⟨w.heap.size, 0, none⟩ = some (.int .i64 0) := (hc _ _ (cell_lt u0)).trans u0
        clear u0
        have u0 := u0n
        clear u0n
        have fu1n : W2.frozen? ⟨w.heap.size, 1, none⟩ = false := (hf _ _ (cell_lt u1)).trans fu1
        clear fu1
        have fu1 := fu1n
        clear fu1n
        have u1n : W2.cell? ⟨w.heap.size, 1, none⟩ = some (.int .i64 0) := (hc _ _ (cell_lt u1)).trans u1
        clear u1
        have u1 := u1n
        clear u1n
        have fu2n : W2.frozen? ⟨w.heap.size, 2, none⟩ = false := (hf _ _ (cell_lt u2)).trans fu2
        clear fu2
        have fu2 := fu2n
        clear fu2n
        have u2n : W2.cell? ⟨w.heap.size, 2, none⟩ = some (.bool false) := (hc _ _ (cell_lt u2)).trans u2
        clear u2
        have u2 := u2n
        clear u2n
        have y1n : W2.cell? ⟨b, o + k * 3, none⟩ = some (.int .i64 d1) := (hc _ _ (cell_lt y1)).trans y1
        clear y1
        have y1 := y1n
        clear y1n
        have y2n : W2.cell? ⟨b, o + k * 3 + 1, none⟩ = some (.int .i64 d2) := (hc _ _ (cell_lt y2)).trans y2
        clear y2
        have y2 := y2n
        clear y2n
        have y3n : W2.cell? ⟨b, o + k * 3 + 2, none⟩ = some (.bool d3) := (hc _ _ (cell_lt y3)).trans y3
        clear y3
        have y3 := y3n
        clear y3n
        have hbn : Below wr.heap.size wr W2 := bthen hb0 hB
        clear hb0
        have hb0 := hbn
        clear hbn
        have hzW2 : wr.heap.size ≤ W2.heap.size := hz
        clear hc hf hB hz
        go_wp2
        refine bodyPost_ret (v := sumVal (⟨0, 0, false⟩, 1)) (by simp [results, Try.results55, go_sem, u0, u1, u2]) rfl ⟨by rw [HB.out], ?_⟩
        have hbz := hb0.size
        have hbz2 := HBW.out.size
        have hbn := bthen HBW.out hb0
        clear hb0
        go_grown
      · rw [hvv] at hV
        have HV := Lib.hid hV
        have H4 := Lib.hid (S4.out hvv)
        obtain ⟨hq1, hq2, hq3⟩ := hval2 hvv
        clear hV hvv hval2
        go_wp2_with fail
        refine (via (w0 := wr) (by go_grown) (HV.out _)).mono ?_
        rintro e W2 ⟨rfl, hc, hf, hz, hB⟩
        have fu0n : W2.frozen? ⟨w.heap.size, 0, none⟩ = false := (hf _ _ (cell_lt u0)).trans fu0
        clear fu0
        have fu0 := fu0n
        clear fu0n
        have u0n : W2.cell? ⟨w.heap.size, 0, none⟩ = some (.int .i64 0) := (hc _ _ (cell_lt u0)).trans u0
        clear u0
        have u0 := u0n
        clear u0n
        have fu1n : W2.frozen? ⟨w.heap.size, 1, none⟩ = false := (hf _ _ (cell_lt u1)).trans fu1
        clear fu1
        have fu1 := fu1n
        clear fu1n
        have u1n : W2.cell? ⟨w.heap.size, 1, none⟩ = some (.int .i64 0) := (hc _ _ (cell_lt u1)).trans u1
        clear u1
        have u1 := u1n
        clear u1n
        have fu2n : W2.frozen? ⟨w.heap.size, 2, none⟩ = false := (hf _ _ (cell_lt u2)).trans fu2
        clear fu2
        have fu2 := fu2n
        clear fu2n
        have u2n : W2.cell? ⟨w.heap.size, 2, none⟩ = some (.bool false) := (hc _ _ (cell_lt u2)).trans u2
        clear u2
        have u2 := u2n
        clear u2n
        have y1n : W2.cell? ⟨b, o + k * 3, none⟩ = some (.int .i64 d1) := (hc _ _ (cell_lt y1)).trans y1
        clear y1
        have y1 := y1n
        clear y1n
        have y2n : W2.cell? ⟨b, o + k * 3 + 1, none⟩ = some (.int .i64 d2) := (hc _ _ (cell_lt y2)).trans y2
        clear y2
        have y2 := y2n
        clear y2n
        have y3n : W2.cell? ⟨b, o + k * 3 + 2, none⟩ = some (.bool d3) := (hc _ _ (cell_lt y3)).trans y3
        clear y3
        have y3 := y3n
        clear y3n
        have hbn : Below wr.heap.size wr W2 := bthen hb0 hB
        clear hb0
        have hb0 := hbn
        clear hbn
        have hzW2 : wr.heap.size ≤ W2.heap.size := hz
        clear hc hf hB hz
        generalize (l.take k).any noneB = nb at *
        cases nb
        · cases d3
          · go_wp2
            go_roundw
            case rel => exact ⟨k + 1, by omega, by go_num, H4.out, by rw [S1.out], by rw [S2.out], by rw [S3.out, HNB.out]; rfl, bthen HBR.out hb0⟩
            case measure => simp [intOf]; omega
          · go_wp2
            go_roundw
            case rel => exact ⟨k + 1, by omega, by go_num, H4.out, by rw [S1.out], by rw [S2.out], by rw [S3.out, HNB.out]; rfl, bthen HBR.out hb0⟩
            case measure => simp [intOf]; omega
        · go_wp2
          go_roundw
          case rel => exact ⟨k + 1, by omega, by go_num, H4.out, by rw [S1.out], by rw [S2.out], by rw [S3.out, HNB.out]; rfl, bthen HBR.out hb0⟩
          case measure => simp [intOf]; omega
    · obtain rfl : k = l.length := by omega
      have hval := HVAL.out
      rw [List.take_length] at hval hbd htl
      rw [List.take_length]
      have hany : l.any (fun x => !ivB x) = false := List.any_eq_false.2 fun x hx => by rw [hval x hx]; decide
      have hv1 : l.any noneB = true → sumV l = (⟨0, 0, false⟩, 0) := fun h => by unfold sumV; rw [if_neg h200, if_neg (by rw [hany]; decide), if_pos h]; rfl
      have hv2 : l.any noneB = false → 100000000 < highS l → sumV l = (⟨0, 0, false⟩, 2) := fun h h3 => by unfold sumV; rw [if_neg h200, if_neg (by rw [hany]; decide), if_neg (by rw [h]; decide), if_neg (by omega)]; rfl
      have hv3 : l.any noneB = false → highS l ≤ 100000000 → sumV l = (⟨lowS l, highS l, true⟩, 0) := fun h h3 => by unfold sumV; rw [if_neg h200, if_neg (by rw [hany]; decide), if_neg (by rw [h]; decide), if_pos h3]
      have HV1 := Lib.hid hv1
      have HV2 := Lib.hid hv2
      have HV3 := Lib.hid hv3
      have hsp := fun W => c_rspan (lowS l) (highS l) W
      rw [show betw (lowS l) (highS l) = ⟨lowS l, highS l, true⟩ from if_neg (by omega)] at hsp
      have HSP := Lib.hid hsp
      clear hval hany hv1 hv2 hv3 hsp hbr
      have hb0 : Below wr.heap.size wr wr := Below.refl _ _
      clear hbw
      generalize lowS l = p at *
      generalize highS l = q at *
      generalize l.any noneB = nb at *
      obtain ⟨hbd1, hbd2, hbd3⟩ := hbd
      cases nb
      · by_cases h3 : q ≤ 100000000
        rotate_left
        · have h3' : (100000000 : Int) < q := by omega
          have HB := Lib.hid (HV2.out rfl h3')
          clear h3
          go_wp2
          refine bodyPost_ret (v := sumVal (⟨0, 0, false⟩, 2)) (by simp [results, Try.results55, go_sem, u0, u1, u2]) rfl ⟨by rw [HB.out], ?_⟩
          have hbz := hb0.size
          have hbz2 := HBW.out.size
          have hbn := bthen HBW.out hb0
          clear hb0
          go_grown
        have h3' : ¬ (100000000 : Int) < q := by omega
        have HB := Lib.hid (HV3.out rfl h3)
        go_wp2_with fail
        refine (via (w0 := wr) (by go_grown) (HSP.out _)).mono ?_
        rintro e W2 ⟨rfl, hc, hf, hz, hB⟩
        have fu0n : W2.frozen? ⟨w.heap.size, 0, none⟩ = false := (hf _ _ (cell_lt u0)).trans fu0
        clear fu0
        have fu0 := fu0n
        clear fu0n
        have u0n : W2.cell? ⟨w.heap.size, 0, none⟩ = some (.int .i64 0) := (hc _ _ (cell_lt u0)).trans u0
        clear u0
        have u0 := u0n
        clear u0n
        have fu1n : W2.frozen? ⟨w.heap.size, 1, none⟩ = false := (hf _ _ (cell_lt u1)).trans fu1
        clear fu1
        have fu1 := fu1n
        clear fu1n
        have u1n : W2.cell? ⟨w.heap.size, 1, none⟩ = some (.int .i64 0) := (hc _ _ (cell_lt u1)).trans u1
        clear u1
        have u1 := u1n
        clear u1n
        have fu2n : W2.frozen? ⟨w.heap.size, 2, none⟩ = false := (hf _ _ (cell_lt u2)).trans fu2
        clear fu2
        have fu2 := fu2n
        clear fu2n
        have u2n : W2.cell? ⟨w.heap.size, 2, none⟩ = some (.bool false) := (hc _ _ (cell_lt u2)).trans u2
        clear u2
        have u2 := u2n
        clear u2n
        have hbn : Below wr.heap.size wr W2 := bthen hb0 hB
        clear hb0
        have hb0 := hbn
        clear hbn
        have hzW2 : wr.heap.size ≤ W2.heap.size := hz
        clear hc hf hB hz
        go_wp2
        refine bodyPost_ret (v := sumVal (⟨p, q, true⟩, 0)) (by simp [results, Try.results55, go_sem, u0, u1, u2]) rfl ⟨by rw [HB.out], ?_⟩
        have hbz := hb0.size
        have hbz2 := HBW.out.size
        have hbn := bthen HBW.out hb0
        clear hb0
        go_grown
      · have HB := Lib.hid (HV1.out rfl)
        clear hbd3
        go_wp2
        refine bodyPost_ret (v := sumVal (⟨0, 0, false⟩, 0)) (by simp [results, Try.results55, go_sem, u0, u1, u2]) rfl ⟨by rw [HB.out], ?_⟩
        have hbz := hb0.size
        have hbz2 := HBW.out.size
        have hbn := bthen HBW.out hb0
        clear hb0
        go_grown
end Go.Proofs.Ytokpjaodchcheaa
