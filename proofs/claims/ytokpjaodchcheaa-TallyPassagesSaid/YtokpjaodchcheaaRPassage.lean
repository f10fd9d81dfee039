/- This text proves what Passage of the reference returns, for every rates and tallies. -/
import Derived.Test.YtokpjaodchcheaaPassage
import Derived.Test.YtokpjaodchcheaaRBoth
namespace Go.Proofs.Ytokpjaodchcheaa
open Go.RowKit Go.Shelf
attribute [local go_sem] Oper.semAt_some

theorem run_field_some (a b : Int) (c : Bool) (w : World) : (Instr.field 33 (.agg #[.int .i64 a, .int .i64 b, .bool c]) 2).run Try.prog w = .ok (.bool c) w := by kernel_rfl
theorem errB_ne (x : Bool) : (errB x != 0) = !x := by cases x <;> rfl

set_option maxRecDepth 100000 in
set_option maxHeartbeats 8000000 in
theorem c_rPassage_many (R : List Rt) (C : List Ct) (a b : Option Addr) (ca cb : Nat) (w : World) (h : 200 < C.length) (hc : C.length ≤ 1000000000000) :
    Calls Try.prog 52 #[.slice a R.length ca, .slice b C.length cb] w (GivesP (passV R C) w) := by
  have hv : passV R C = (Iv.none, [], 2) := by unfold passV; rw [if_pos h]
  have h' : (200 : Int) < (C.length : Int) := by omega
  rw [hv]
  go_enter Try.func52, Try.ntmps52
  go_upto_region 1 with (fail)
  go_name_world W1 hW1
  have hbn : Below w.heap.size w W1 := by subst hW1; go_grown
  have hb0 := hbn
  clear hbn
  have s0n : W1.cell? ⟨w.heap.size, 0, none⟩ = some (.int .i64 0) := by subst hW1; go_simp
  have fs0n : W1.frozen? ⟨w.heap.size, 0, none⟩ = false := by subst hW1; go_simp
  have s1n : W1.cell? ⟨w.heap.size, 1, none⟩ = some (.int .i64 0) := by subst hW1; go_simp
  have fs1n : W1.frozen? ⟨w.heap.size, 1, none⟩ = false := by subst hW1; go_simp
  have s2n : W1.cell? ⟨w.heap.size, 2, none⟩ = some (.bool false) := by subst hW1; go_simp
  have fs2n : W1.frozen? ⟨w.heap.size, 2, none⟩ = false := by subst hW1; go_simp
  clear hW1 
  have s0 := s0n
  have fs0 := fs0n
  have s1 := s1n
  have fs1 := fs1n
  have s2 := s2n
  have fs2 := fs2n
  clear s0n s1n s2n fs0n fs1n fs2n
  go_wp2
  refine bodyPost_ret (v := .tuple #[Iv.none.v, .slice none 0 0, .int .i64 2]) (by simp [results, Try.results52, go_sem, Iv.none, s0, s1, s2]) rfl ⟨⟨_, _, rfl, Ints.nil _⟩, by have hbz := hb0.size; go_grown⟩

set_option maxRecDepth 100000 in
set_option maxHeartbeats 8000000 in
theorem c_rPassage_zero (R : List Rt) (C : List Ct) (a b : Option Addr) (ca cb : Nat) (w : World) (h : C.length = 0) :
    Calls Try.prog 52 #[.slice a R.length ca, .slice b C.length cb] w (GivesP (passV R C) w) := by
  have hv : passV R C = (Iv.none, [], 1) := by unfold passV; rw [if_neg (by omega), if_pos (.inl h)]
  rw [hv, h]
  go_enter Try.func52, Try.ntmps52
  go_upto_region 1 with (fail)
  go_name_world W1 hW1
  have hbn : Below w.heap.size w W1 := by subst hW1; go_grown
  have hb0 := hbn
  clear hbn
  have s0n : W1.cell? ⟨w.heap.size, 0, none⟩ = some (.int .i64 0) := by subst hW1; go_simp
  have fs0n : W1.frozen? ⟨w.heap.size, 0, none⟩ = false := by subst hW1; go_simp
  have s1n : W1.cell? ⟨w.heap.size, 1, none⟩ = some (.int .i64 0) := by subst hW1; go_simp
  have fs1n : W1.frozen? ⟨w.heap.size, 1, none⟩ = false := by subst hW1; go_simp
  have s2n : W1.cell? ⟨w.heap.size, 2, none⟩ = some (.bool false) := by subst hW1; go_simp
  have fs2n : W1.frozen? ⟨w.heap.size, 2, none⟩ = false := by subst hW1; go_simp
  clear hW1 
  have s0 := s0n
  have fs0 := fs0n
  have s1 := s1n
  have fs1 := fs1n
  have s2 := s2n
  have fs2 := fs2n
  clear s0n s1n s2n fs0n fs1n fs2n
  go_wp2
  refine bodyPost_ret (v := .tuple #[Iv.none.v, .slice none 0 0, .int .i64 1]) (by simp [results, Try.results52, go_sem, Iv.none, s0, s1, s2]) rfl ⟨⟨_, _, rfl, Ints.nil _⟩, by have hbz := hb0.size; go_grown⟩

set_option maxRecDepth 100000 in
set_option maxHeartbeats 8000000 in
theorem c_rPassage_len (R : List Rt) (C : List Ct) (a b : Option Addr) (ca cb : Nat) (w : World) (h : ¬ 200 < C.length) (h0 : ¬ C.length = 0) (h1 : ¬ R.length = C.length) (hr : R.length ≤ 1000000000000) :
    Calls Try.prog 52 #[.slice a R.length ca, .slice b C.length cb] w (GivesP (passV R C) w) := by
  have hv : passV R C = (Iv.none, [], 1) := by unfold passV; rw [if_neg h, if_pos (.inr h1)]
  have h' : ¬ (200 : Int) < (C.length : Int) := by omega
  have h0' : ((C.length : Int) == 0) = false := beq_eq_false_iff_ne.2 (by omega)
  have h1' : ((R.length : Int) != (C.length : Int)) = true := bne_iff_ne.2 (by omega)
  rw [hv]
  clear hv h h0 h1 hr
  go_enter Try.func52, Try.ntmps52
  go_upto_region 1 with (fail)
  go_name_world W1 hW1
  have hbn : Below w.heap.size w W1 := by subst hW1; go_grown
  have hb0 := hbn
  clear hbn
  have s0n : W1.cell? ⟨w.heap.size, 0, none⟩ = some (.int .i64 0) := by subst hW1; go_simp
  have fs0n : W1.frozen? ⟨w.heap.size, 0, none⟩ = false := by subst hW1; go_simp
  have s1n : W1.cell? ⟨w.heap.size, 1, none⟩ = some (.int .i64 0) := by subst hW1; go_simp
  have fs1n : W1.frozen? ⟨w.heap.size, 1, none⟩ = false := by subst hW1; go_simp
  have s2n : W1.cell? ⟨w.heap.size, 2, none⟩ = some (.bool false) := by subst hW1; go_simp
  have fs2n : W1.frozen? ⟨w.heap.size, 2, none⟩ = false := by subst hW1; go_simp
  clear hW1 
  have s0 := s0n
  have fs0 := fs0n
  have s1 := s1n
  have fs1 := fs1n
  have s2 := s2n
  have fs2 := fs2n
  clear s0n s1n s2n fs0n fs1n fs2n
  go_wp2
  refine bodyPost_ret (v := .tuple #[Iv.none.v, .slice none 0 0, .int .i64 1]) (by simp [results, Try.results52, go_sem, Iv.none, s0, s1, s2]) rfl ⟨⟨_, _, rfl, Ints.nil _⟩, by have hbz := hb0.size; go_grown⟩

set_option maxRecDepth 100000 in
set_option maxHeartbeats 16000000 in
theorem c_rPassage_main (R : List Rt) (C : List Ct) (a b : Option Addr) (ca cb : Nat) (w : World) (h : ¬ 200 < C.length) (h0 : ¬ C.length = 0) (h1 : R.length = C.length) (hR : Rts w a R) (hC : Cts w b C) :
    Calls Try.prog 52 #[.slice a C.length ca, .slice b C.length cb] w (GivesP (passV R C) w) := by
  have h' : ¬ (200 : Int) < (C.length : Int) := by omega
  have h0' : ¬ (C.length : Int) = 0 := by omega
  have hv : passV R C = if badP R C then (Iv.none, [], 1) else if (allV (ivsP R C)).some then (allV (ivsP R C), [], 0) else (Iv.none, pairV (ivsP R C) 0, 0) := by
    unfold passV; rw [if_neg h, if_neg (by omega)]
  have HV := Lib.hid hv
  have HR := Lib.hid hR
  have HC := Lib.hid hC
  clear hv hR hC
  go_enter Try.func52, Try.ntmps52
  go_upto_region 5 with (fail)
  go_name_world W1 hW1
  have hbn : Below w.heap.size w W1 := by subst hW1; go_grown
  have hb0 := hbn
  clear hbn
  have s0n : W1.cell? ⟨w.heap.size, 0, none⟩ = some (.int .i64 0) := by subst hW1; go_simp
  have fs0n : W1.frozen? ⟨w.heap.size, 0, none⟩ = false := by subst hW1; go_simp
  have s1n : W1.cell? ⟨w.heap.size, 1, none⟩ = some (.int .i64 0) := by subst hW1; go_simp
  have fs1n : W1.frozen? ⟨w.heap.size, 1, none⟩ = false := by subst hW1; go_simp
  have s2n : W1.cell? ⟨w.heap.size, 2, none⟩ = some (.bool false) := by subst hW1; go_simp
  have fs2n : W1.frozen? ⟨w.heap.size, 2, none⟩ = false := by subst hW1; go_simp
  clear hW1 
  have s0 := s0n
  have fs0 := fs0n
  have s1 := s1n
  have fs1 := fs1n
  have s2 := s2n
  have fs2 := fs2n
  clear s0n s1n s2n fs0n fs1n fs2n
  go_wp2
  go_loopw [7] (fun v7 wr => ∃ k : Nat, k ≤ C.length ∧ v7 = .int .i64 k ∧ (∀ j, j < k → okP (rt R j) (ct C j) = true) ∧ Below W1.heap.size W1 wr) (fun v7 _ => C.length - (intOf v7).toNat)
  case atStart => exact ⟨0, by omega, rfl, fun j hj => by omega, Below.refl _ _⟩
  case round =>
    obtain ⟨wp, rfl⟩ : ∃ x : World, x = wr := ⟨_, rfl⟩
    obtain ⟨k, hk, rfl, hok, hbr⟩ := hrel
    have hbw := bthen hb0 hbr
    have HBR := Lib.hid hbr
    have HBW := Lib.hid hbw
    have HOK := Lib.hid hok
    have u0 := ((bcell hbr).1 _ _ (cell_lt s0)).trans s0
    have fu0 := ((bcell hbr).2 _ _ (cell_lt s0)).trans fs0
    have u1 := ((bcell hbr).1 _ _ (cell_lt s1)).trans s1
    have fu1 := ((bcell hbr).2 _ _ (cell_lt s1)).trans fs1
    have u2 := ((bcell hbr).1 _ _ (cell_lt s2)).trans s2
    have fu2 := ((bcell hbr).2 _ _ (cell_lt s2)).trans fs2
    clear s0 s1 s2 fs0 fs1 fs2 hok hb0 hbr
    by_cases hlt : k < C.length
    · obtain ⟨b1, o1, e1, hat1⟩ := (HR.out.later hbw).2 (by intro e; rw [e] at h1; simp at h1; omega)
      obtain ⟨b2, o2, e2, hat2⟩ := (HC.out.later hbw).2 (by intro e; rw [e] at h0; simp at h0)
      cases e1
      cases e2
      obtain ⟨y0, y1⟩ := hat1 k (by omega)
      obtain ⟨q0, q1, q2, q3, q4⟩ := hat2 k (by omega)
      clear hat1 hat2
      have hi1 : ¬ ((k : Nat) : Int) < 0 := by omega
      have hi2 : ((k : Nat) : Int) < (C.length : Int) := by omega
      have hb0 : Below wp.heap.size wp wp := Below.refl _ _
      have hokk : okP (rt R k) (ct C k) = true → ∀ j, j < k + 1 → okP (rt R j) (ct C j) = true := fun h j hj => by
        by_cases e : j = k
        · subst e; exact h
        · exact HOK.out j (by omega)
      have hbad : okP (rt R k) (ct C k) = false → passV R C = (Iv.none, [], 1) := fun h => by rw [HV.out, badP_at hlt h]; rfl
      have ho : okP (rt R k) (ct C k) = (rateB (rt R k).m (rt R k).d && countB (ct C k).i (ct C k).d (ct C k).s (ct C k).n (ct C k).wo) := rfl
      have hA := fun W => c_rCheckRate (rt R k).m (rt R k).d W
      have hB := fun W => c_rCheckCount (ct C k).i (ct C k).d (ct C k).s (ct C k).n (ct C k).wo W
      rw [ho] at hokk hbad
      generalize (rt R k).m = m at *
      generalize (rt R k).d = d at *
      generalize (ct C k).i = c0 at *
      generalize (ct C k).d = c1 at *
      generalize (ct C k).s = c2 at *
      generalize (ct C k).n = c3 at *
      generalize (ct C k).wo = c4 at *
      clear ho hbw
      generalize rateB m d = tr at *
      generalize countB c0 c1 c2 c3 c4 = tc at *
      have HOKK := Lib.hid hokk
      have HBAD := Lib.hid hbad
      clear hokk hbad
      cases tr
      · have HBD := Lib.hid (HBAD.out rfl)
        rw [errB_false] at hA
        have HA := Lib.hid hA
        clear hA hB
        go_wp2_with fail
        refine (via (w0 := wp) (by go_grown) (HA.out _)).mono ?_
        rintro e W2 ⟨rfl, hc, hf, hz, hB⟩
        have fu0n : W2.frozen? ⟨w.heap.size, 0, none⟩ = false := (hf _ _ (cell_lt u0)).trans fu0
        clear fu0
        have fu0 := fu0n
        clear fu0n
        have u0n : W2.cell? ⟨w.heap.size, 0, none⟩ = some (.int .i64 0) := (hc _ _ (cell_lt u0)).trans u0
        clear u0
        have u0 := u0n
        clear u0n
        have fu1n : W2.frozen? ⟨w.heap.size, 1, none⟩ = false := (hf _ _ (cell_lt u1)).trans fu1
        clear fu1
        have fu1 := fu1n
        clear fu1n
        have u1n : W2.cell? ⟨w.heap.size, 1, none⟩ = some (.int .i64 0) := (hc _ _ (cell_lt u1)).trans u1
        clear u1
        have u1 := u1n
        clear u1n
        have fu2n : W2.frozen? ⟨w.heap.size, 2, none⟩ = false := (hf _ _ (cell_lt u2)).trans fu2
        clear fu2
        have fu2 := fu2n
        clear fu2n
        have u2n : W2.cell? ⟨w.heap.size, 2, none⟩ = some (.bool false) := (hc _ _ (cell_lt u2)).trans u2
        clear u2
        have u2 := u2n
        clear u2n
        have y0n : W2.cell? ⟨b1, o1 + k * 2, none⟩ = some (.int .i64 m) := (hc _ _ (cell_lt y0)).trans y0
        clear y0
        have y0 := y0n
        clear y0n
        have y1n : W2.cell? ⟨b1, o1 + k * 2 + 1, none⟩ = some (.int .i64 d) := (hc _ _ (cell_lt y1)).trans y1
        clear y1
        have y1 := y1n
        clear y1n
        have q0n : W2.cell? ⟨b2, o2 + k * 5, none⟩ = some (.int .i64 c0) := (hc _ _ (cell_lt q0)).trans q0
        clear q0
        have q0 := q0n
        clear q0n
        have q1n : W2.cell? ⟨b2, o2 + k * 5 + 1, none⟩ = some (.int .i64 c1) := (hc _ _ (cell_lt q1)).trans q1
        clear q1
        have q1 := q1n
        clear q1n
        have q2n : W2.cell? ⟨b2, o2 + k * 5 + 2, none⟩ = some (.int .i64 c2) := (hc _ _ (cell_lt q2)).trans q2
        clear q2
        have q2 := q2n
        clear q2n
        have q3n : W2.cell? ⟨b2, o2 + k * 5 + 3, none⟩ = some (.int .i64 c3) := (hc _ _ (cell_lt q3)).trans q3
        clear q3
        have q3 := q3n
        clear q3n
        have q4n : W2.cell? ⟨b2, o2 + k * 5 + 4, none⟩ = some (.int .i64 c4) := (hc _ _ (cell_lt q4)).trans q4
        clear q4
        have q4 := q4n
        clear q4n
        have hbn : Below wp.heap.size wp W2 := bthen hb0 hB
        clear hb0
        have hb0 := hbn
        clear hbn
        have hzW2 : wp.heap.size ≤ W2.heap.size := hz
        clear hc hf hB hz
        go_wp2
        refine bodyPost_ret (v := .tuple #[Iv.none.v, .slice none 0 0, .int .i64 1]) (by simp [results, Try.results52, go_sem, Iv.none, u0, u1, u2]) rfl ⟨by rw [HBD.out]; exact ⟨_, _, rfl, Ints.nil _⟩, ?_⟩
        have hbz := hb0.size
        have hbz2 := HBW.out.size
        have hbn := bthen HBW.out hb0
        clear hb0
        go_grown
      · cases tc
        · have HBD := Lib.hid (HBAD.out rfl)
          rw [errB_true] at hA
          rw [errB_false] at hB
          have HA := Lib.hid hA
          have HB := Lib.hid hB
          clear hA hB
          go_wp2_with fail
          refine (via (w0 := wp) (by go_grown) (HA.out _)).mono ?_
          rintro e W2 ⟨rfl, hc, hf, hz, hB⟩
          have fu0n : W2.frozen? ⟨w.heap.size, 0, none⟩ = false := (hf _ _ (cell_lt u0)).trans fu0
          clear fu0
          have fu0 := fu0n
          clear fu0n
          have u0n : W2.cell? ⟨w.heap.size, 0, none⟩ = some (.int .i64 0) := (hc _ _ (cell_lt u0)).trans u0
          clear u0
          have u0 := u0n
          clear u0n
          have fu1n : W2.frozen? ⟨w.heap.size, 1, none⟩ = false := (hf _ _ (cell_lt u1)).trans fu1
          clear fu1
          have fu1 := fu1n
          clear fu1n
          have u1n : W2.cell? ⟨w.heap.size, 1, none⟩ = some (.int .i64 0) := (hc _ _ (cell_lt u1)).trans u1
          clear u1
          have u1 := u1n
          clear u1n
          have fu2n : W2.frozen? ⟨w.heap.size, 2, none⟩ = false := (hf _ _ (cell_lt u2)).trans fu2
          clear fu2
          have fu2 := fu2n
          clear fu2n
          have u2n : W2.cell? ⟨w.heap.size, 2, none⟩ = some (.bool false) := (hc _ _ (cell_lt u2)).trans u2
          clear u2
          have u2 := u2n
          clear u2n
          have y0n : W2.cell? ⟨b1, o1 + k * 2, none⟩ = some (.int .i64 m) := (hc _ _ (cell_lt y0)).trans y0
          clear y0
          have y0 := y0n
          clear y0n
          have y1n : W2.cell? ⟨b1, o1 + k * 2 + 1, none⟩ = some (.int .i64 d) := (hc _ _ (cell_lt y1)).trans y1
          clear y1
          have y1 := y1n
          clear y1n
          have q0n : W2.cell? ⟨b2, o2 + k * 5, none⟩ = some (.int .i64 c0) := (hc _ _ (cell_lt q0)).trans q0
          clear q0
          have q0 := q0n
          clear q0n
          have q1n : W2.cell? ⟨b2, o2 + k * 5 + 1, none⟩ = some (.int .i64 c1) := (hc _ _ (cell_lt q1)).trans q1
          clear q1
          have q1 := q1n
          clear q1n
          have q2n : W2.cell? ⟨b2, o2 + k * 5 + 2, none⟩ = some (.int .i64 c2) := (hc _ _ (cell_lt q2)).trans q2
          clear q2
          have q2 := q2n
          clear q2n
          have q3n : W2.cell? ⟨b2, o2 + k * 5 + 3, none⟩ = some (.int .i64 c3) := (hc _ _ (cell_lt q3)).trans q3
          clear q3
          have q3 := q3n
          clear q3n
          have q4n : W2.cell? ⟨b2, o2 + k * 5 + 4, none⟩ = some (.int .i64 c4) := (hc _ _ (cell_lt q4)).trans q4
          clear q4
          have q4 := q4n
          clear q4n
          have hbn : Below wp.heap.size wp W2 := bthen hb0 hB
          clear hb0
          have hb0 := hbn
          clear hbn
          have hzW2 : wp.heap.size ≤ W2.heap.size := hz
          clear hc hf hB hz
          go_wp2_with fail
          refine (via (w0 := W2) (by go_grown) (HB.out _)).mono ?_
          rintro e W3 ⟨rfl, hc, hf, hz, hB⟩
          have fu0n : W3.frozen? ⟨w.heap.size, 0, none⟩ = false := (hf _ _ (cell_lt u0)).trans fu0
          clear fu0
          have fu0 := fu0n
          clear fu0n
          have u0n : W3.cell? ⟨w.heap.size, 0, none⟩ = some (.int .i64 0) := (hc _ _ (cell_lt u0)).trans u0
          clear u0
          have u0 := u0n
          clear u0n
          have fu1n : W3.frozen? ⟨w.heap.size, 1, none⟩ = false := (hf _ _ (cell_lt u1)).trans fu1
          clear fu1
          have fu1 := fu1n
          clear fu1n
          have u1n : W3.cell? ⟨w.heap.size, 1, none⟩ = some (.int .i64 0) := (hc _ _ (cell_lt u1)).trans u1
          clear u1
          have u1 := u1n
          clear u1n
          have fu2n : W3.frozen? ⟨w.heap.size, 2, none⟩ = false := (hf _ _ (cell_lt u2)).trans fu2
          clear fu2
          have fu2 := fu2n
          clear fu2n
          have u2n : W3.cell? ⟨w.heap.size, 2, none⟩ = some (.bool false) := (hc _ _ (cell_lt u2)).trans u2
          clear u2
          have u2 := u2n
          clear u2n
          have y0n : W3.cell? ⟨b1, o1 + k * 2, none⟩ = some (.int .i64 m) := (hc _ _ (cell_lt y0)).trans y0
          clear y0
          have y0 := y0n
          clear y0n
          have y1n : W3.cell? ⟨b1, o1 + k * 2 + 1, none⟩ = some (.int .i64 d) := (hc _ _ (cell_lt y1)).trans y1
          clear y1
          have y1 := y1n
          clear y1n
          have q0n : W3.cell? ⟨b2, o2 + k * 5, none⟩ = some (.int .i64 c0) := (hc _ _ (cell_lt q0)).trans q0
          clear q0
          have q0 := q0n
          clear q0n
          have q1n : W3.cell? ⟨b2, o2 + k * 5 + 1, none⟩ = some (.int .i64 c1) := (hc _ _ (cell_lt q1)).trans q1
          clear q1
          have q1 := q1n
          clear q1n
          have q2n : W3.cell? ⟨b2, o2 + k * 5 + 2, none⟩ = some (.int .i64 c2) := (hc _ _ (cell_lt q2)).trans q2
          clear q2
          have q2 := q2n
          clear q2n
          have q3n : W3.cell? ⟨b2, o2 + k * 5 + 3, none⟩ = some (.int .i64 c3) := (hc _ _ (cell_lt q3)).trans q3
          clear q3
          have q3 := q3n
          clear q3n
          have q4n : W3.cell? ⟨b2, o2 + k * 5 + 4, none⟩ = some (.int .i64 c4) := (hc _ _ (cell_lt q4)).trans q4
          clear q4
          have q4 := q4n
          clear q4n
          have hbn : Below wp.heap.size wp W3 := bthen hb0 hB
          clear hb0
          have hb0 := hbn
          clear hbn
          have hzW3 : W2.heap.size ≤ W3.heap.size := hz
          clear hc hf hB hz
          go_wp2
          refine bodyPost_ret (v := .tuple #[Iv.none.v, .slice none 0 0, .int .i64 1]) (by simp [results, Try.results52, go_sem, Iv.none, u0, u1, u2]) rfl ⟨by rw [HBD.out]; exact ⟨_, _, rfl, Ints.nil _⟩, ?_⟩
          have hbz := hb0.size
          have hbz2 := HBW.out.size
          have hbn := bthen HBW.out hb0
          clear hb0
          go_grown
        · have H4 := Lib.hid (HOKK.out rfl)
          rw [errB_true] at hA
          rw [errB_true] at hB
          have HA := Lib.hid hA
          have HB := Lib.hid hB
          clear hA hB
          go_wp2_with fail
          refine (via (w0 := wp) (by go_grown) (HA.out _)).mono ?_
          rintro e W2 ⟨rfl, hc, hf, hz, hB⟩
          have fu0n : W2.frozen? ⟨w.heap.size, 0, none⟩ = false := (hf _ _ (cell_lt u0)).trans fu0
          clear fu0
          have fu0 := fu0n
          clear fu0n
          have u0n : W2.cell? ⟨w.heap.size, 0, none⟩ = some (.int .i64 0) := (hc _ _ (cell_lt u0)).trans u0
          clear u0
          have u0 := u0n
          clear u0n
          have fu1n : W2.frozen? ⟨w.heap.size, 1, none⟩ = false := (hf _ _ (cell_lt u1)).trans fu1
          clear fu1
          have fu1 := fu1n
          clear fu1n
          have u1n : W2.cell? ⟨w.heap.size, 1, none⟩ = some (.int .i64 0) := (hc _ _ (cell_lt u1)).trans u1
          clear u1
          have u1 := u1n
          clear u1n
          have fu2n : W2.frozen? ⟨w.heap.size, 2, none⟩ = false := (hf _ _ (cell_lt u2)).trans fu2
          clear fu2
          have fu2 := fu2n
          clear fu2n
          have u2n : W2.cell? ⟨w.heap.size, 2, none⟩ = some (.bool false) := (hc _ _ (cell_lt u2)).trans u2
          clear u2
          have u2 := u2n
          clear u2n
          have y0n : W2.cell? ⟨b1, o1 + k * 2, none⟩ = some (.int .i64 m) := (hc _ _ (cell_lt y0)).trans y0
          clear y0
          have y0 := y0n
          clear y0n
          have y1n : W2.cell? ⟨b1, o1 + k * 2 + 1, none⟩ = some (.int .i64 d) := (hc _ _ (cell_lt y1)).trans y1
          clear y1
          have y1 := y1n
          clear y1n
          have q0n : W2.cell? ⟨b2, o2 + k * 5, none⟩ = some (.int .i64 c0) := (hc _ _ (cell_lt q0)).trans q0
          clear q0
          have q0 := q0n
          clear q0n
          have q1n : W2.cell? ⟨b2, o2 + k * 5 + 1, none⟩ = some (.int .i64 c1) := (hc _ _ (cell_lt q1)).trans q1
          clear q1
          have q1 := q1n
          clear q1n
          have q2n : W2.cell? ⟨b2, o2 + k * 5 + 2, none⟩ = some (.int .i64 c2) := (hc _ _ (cell_lt q2)).trans q2
          clear q2
          have q2 := q2n
          clear q2n
          have q3n : W2.cell? ⟨b2, o2 + k * 5 + 3, none⟩ = some (.int .i64 c3) := (hc _ _ (cell_lt q3)).trans q3
          clear q3
          have q3 := q3n
          clear q3n
          have q4n : W2.cell? ⟨b2, o2 + k * 5 + 4, none⟩ = some (.int .i64 c4) := (hc _ _ (cell_lt q4)).trans q4
          clear q4
          have q4 := q4n
          clear q4n
          have hbn : Below wp.heap.size wp W2 := bthen hb0 hB
          clear hb0
          have hb0 := hbn
          clear hbn
          have hzW2 : wp.heap.size ≤ W2.heap.size := hz
          clear hc hf hB hz
          go_wp2_with fail
          refine (via (w0 := W2) (by go_grown) (HB.out _)).mono ?_
          rintro e W3 ⟨rfl, hc, hf, hz, hB⟩
          have fu0n : W3.frozen? ⟨w.heap.size, 0, none⟩ = false := (hf _ _ (cell_lt u0)).trans fu0
          clear fu0
          have fu0 := fu0n
          clear fu0n
          have u0n : W3.cell? ⟨w.heap.size, 0, none⟩ = some (.int .i64 0) := (hc _ _ (cell_lt u0)).trans u0
          clear u0
          have u0 := u0n
          clear u0n
          have fu1n : W3.frozen? ⟨w.heap.size, 1, none⟩ = false := (hf _ _ (cell_lt u1)).trans fu1
          clear fu1
          have fu1 := fu1n
          clear fu1n
          have u1n : W3.cell? ⟨w.heap.size, 1, none⟩ = some (.int .i64 0) := (hc _ _ (cell_lt u1)).trans u1
          clear u1
          have u1 := u1n
          clear u1n
          have fu2n : W3.frozen? ⟨w.heap.size, 2, none⟩ = false := (hf _ _ (cell_lt u2)).trans fu2
          clear fu2
          have fu2 := fu2n
          clear fu2n
          have u2n : W3.cell? ⟨w.heap.size, 2, none⟩ = some (.bool false) := (hc _ _ (cell_lt u2)).trans u2
          clear u2
          have u2 := u2n
          clear u2n
          have y0n : W3.cell? ⟨b1, o1 + k * 2, none⟩ = some (.int .i64 m) := (hc _ _ (cell_lt y0)).trans y0
          clear y0
          have y0 := y0n
          clear y0n
          have y1n : W3.cell? ⟨b1, o1 + k * 2 + 1, none⟩ = some (.int .i64 d) := (hc _ _ (cell_lt y1)).trans y1
          clear y1
          have y1 := y1n
          clear y1n
          have q0n : W3.cell? ⟨b2, o2 + k * 5, none⟩ = some (.int .i64 c0) := (hc _ _ (cell_lt q0)).trans q0
          clear q0
          have q0 := q0n
          clear q0n
          have q1n : W3.cell? ⟨b2, o2 + k * 5 + 1, none⟩ = some (.int .i64 c1) := (hc _ _ (cell_lt q1)).trans q1
          clear q1
          have q1 := q1n
          clear q1n
          have q2n : W3.cell? ⟨b2, o2 + k * 5 + 2, none⟩ = some (.int .i64 c2) := (hc _ _ (cell_lt q2)).trans q2
          clear q2
          have q2 := q2n
          clear q2n
          have q3n : W3.cell? ⟨b2, o2 + k * 5 + 3, none⟩ = some (.int .i64 c3) := (hc _ _ (cell_lt q3)).trans q3
          clear q3
          have q3 := q3n
          clear q3n
          have q4n : W3.cell? ⟨b2, o2 + k * 5 + 4, none⟩ = some (.int .i64 c4) := (hc _ _ (cell_lt q4)).trans q4
          clear q4
          have q4 := q4n
          clear q4n
          have hbn : Below wp.heap.size wp W3 := bthen hb0 hB
          clear hb0
          have hb0 := hbn
          clear hbn
          have hzW3 : W2.heap.size ≤ W3.heap.size := hz
          clear hc hf hB hz
          go_wp2
          go_roundw
          case rel => exact ⟨k + 1, by omega, by go_num, H4.out, bthen HBR.out hb0⟩
          case measure => simp [intOf]; omega
    · obtain rfl : k = C.length := by omega
      have hlen := ivsP_len R C
      have hfine := fine_ivsP R C
      have hbf : badP R C = false := badP_not HOK.out
      have hval : passV R C = if (allV (ivsP R C)).some then (allV (ivsP R C), [], 0) else (Iv.none, pairV (ivsP R C) 0, 0) := by rw [HV.out, hbf]; rfl
      have HVAL := Lib.hid hval
      have HLEN := Lib.hid hlen
      have HFINE := Lib.hid hfine
      have hT := fun (k : Nat) (hk : k < C.length) (W : World) => c_rOfCount (rt R k).m (rt R k).d (ct C k).i (ct C k).d (ct C k).s (ct C k).n (ct C k).wo W
      have hT2 : ∀ (k : Nat), k < C.length → ∀ (W : World), Calls Try.prog 42 #[.agg #[.int .i64 (rt R k).m, .int .i64 (rt R k).d], .agg #[.int .i64 (ct C k).i, .int .i64 (ct C k).d, .int .i64 (ct C k).s, .int .i64 (ct C k).n, .int .i64 (ct C k).wo]] W fun e w' =>
          e = .returned (.tuple #[.agg #[.int .i64 (iv (ivsP R C) k).lo, .int .i64 (iv (ivsP R C) k).hi, .bool (iv (ivsP R C) k).some], .int .i64 0]) ∧ Below W.heap.size W w' := fun k hk W => by
        have h := hT k hk W
        have ho : okTT (rt R k).m (rt R k).d (ct C k).i (ct C k).d (ct C k).s (ct C k).n (ct C k).wo = true := HOK.out k hk
        rw [if_pos ho] at h
        rw [ivsP_at hk]
        exact h
      have HT := Lib.hid hT2
      have hlt' : ¬ (C.length : Int) < (C.length : Int) := by omega
      clear hval hbf hlt hT hT2 hlen hfine hbw
      have hb0 : Below wp.heap.size wp wp := Below.refl _ _
      go_upto_region 10 with (fail)
      go_wp2
      go_loopw [9] (fun v9 wr => ∃ k : Nat, k ≤ C.length ∧ v9 = .int .i64 k ∧ IvAt wr wp.heap.size 0 (((ivsP R C).take k).foldl bothV ⟨0, 100000, true⟩) ∧ (∀ j, j < 3 → wr.frozen? ⟨wp.heap.size, j, none⟩ = false) ∧ Below wp.heap.size wp wr) (fun v9 _ => C.length - (intOf v9).toNat)
      case atStart => exact ⟨0, by omega, rfl, ⟨by go_simp, by go_simp, by go_simp⟩, fun j hj => by (have : j = 0 ∨ j = 1 ∨ j = 2 := by omega); (rcases this with rfl | rfl | rfl) <;> go_simp, by go_grown⟩
      case round =>
        obtain ⟨wq, rfl⟩ : ∃ x : World, x = wr := ⟨_, rfl⟩
        obtain ⟨k, hk, rfl, hacc, hfz, hbq⟩ := hrel
        have hbw := bthen HBW.out hbq
        have HBQ := Lib.hid hbq
        have HBQW := Lib.hid hbw
        obtain ⟨m0, m1, m2⟩ := hacc
        have fm0 := hfz 0 (by omega)
        have fm1 := hfz 1 (by omega)
        have fm2 := hfz 2 (by omega)
        have hmlt := cell_lt m0
        have hzq := hbq.size
        have u0q := ((bcell hbq).1 _ _ (cell_lt u0)).trans u0
        have fu0q := ((bcell hbq).2 _ _ (cell_lt u0)).trans fu0
        have u1q := ((bcell hbq).1 _ _ (cell_lt u1)).trans u1
        have fu1q := ((bcell hbq).2 _ _ (cell_lt u1)).trans fu1
        have u2q := ((bcell hbq).1 _ _ (cell_lt u2)).trans u2
        have fu2q := ((bcell hbq).2 _ _ (cell_lt u2)).trans fu2
        clear u0 u1 u2 fu0 fu1 fu2 hbq hb0 hfz
        have u0 := u0q
        clear u0q
        have fu0 := fu0q
        clear fu0q
        have u1 := u1q
        clear u1q
        have fu1 := fu1q
        clear fu1q
        have u2 := u2q
        clear u2q
        have fu2 := fu2q
        clear fu2q
        have hb0 : Below wq.heap.size wq wq := Below.refl _ _
        by_cases hlt : k < C.length
        · obtain ⟨b1, o1, e1, hat1⟩ := (HR.out.later hbw).2 (by intro e; rw [e] at h1; simp at h1; omega)
          obtain ⟨b2, o2, e2, hat2⟩ := (HC.out.later hbw).2 (by intro e; rw [e] at h0; simp at h0)
          cases e1
          cases e2
          obtain ⟨y0, y1⟩ := hat1 k (by omega)
          obtain ⟨q0, q1, q2, q3, q4⟩ := hat2 k (by omega)
          clear hat1 hat2
          have hi1 : ¬ ((k : Nat) : Int) < 0 := by omega
          have hi2 : ((k : Nat) : Int) < (C.length : Int) := by omega
          have hT := HT.out k hlt
          have hst : ((ivsP R C).take (k + 1)).foldl bothV ⟨0, 100000, true⟩ = bothV (((ivsP R C).take k).foldl bothV ⟨0, 100000, true⟩) (iv (ivsP R C) k) := by rw [take_iv (by rw [HLEN.out]; exact hlt), List.foldl_append]; rfl
          have hBo := fun W => c_rBoth (((ivsP R C).take k).foldl bothV ⟨0, 100000, true⟩) (iv (ivsP R C) k) W
          dsimp only [Iv.v] at hBo
          have HST := Lib.hid hst
          obtain ⟨acc, hacc⟩ : ∃ x, ((ivsP R C).take k).foldl bothV ⟨0, 100000, true⟩ = x := ⟨_, rfl⟩
          rw [hacc] at m0 m1 m2 hBo HST
          obtain ⟨xv, hxv⟩ : ∃ x, iv (ivsP R C) k = x := ⟨_, rfl⟩
          rw [hxv] at hT hBo HST
          clear hacc hxv hst hbw
          obtain ⟨nw, hnw⟩ : ∃ x, bothV acc xv = x := ⟨_, rfl⟩
          rw [hnw] at hBo HST
          clear hnw
          obtain ⟨p0, p1, p2⟩ := acc
          obtain ⟨r0, r1, r2⟩ := xv
          obtain ⟨n0, n1, n2⟩ := nw
          dsimp only at m0 m1 m2 hT hBo
          generalize (rt R k).m = m at *
          generalize (rt R k).d = d at *
          generalize (ct C k).i = c0 at *
          generalize (ct C k).d = c1 at *
          generalize (ct C k).s = c2 at *
          generalize (ct C k).n = c3 at *
          generalize (ct C k).wo = c4 at *
          have HTK := Lib.hid hT
          have HBO := Lib.hid hBo
          clear hT hBo
          as_aux_lemma =>
          go_upto_region 14 with (fail)
          refine wp_region_alloc 12 wq (.cells #[.int .i64 0, .int .i64 0, .bool false] 33) (by rfl) (by rfl) ⟨by rfl, fun _ _ => by simp [go_sem]⟩ ⟨by rfl, by rfl, _, _, _, by rfl⟩ (by kernel_rfl) (Below.refl _ _) ?_
          intro V2 hB
          have hc := (bcell hB).1
          have hf := (bcell hB).2
          have hz := hB.size
          have fu0n : V2.frozen? ⟨w.heap.size, 0, none⟩ = false := (hf _ _ (cell_lt u0)).trans fu0
          clear fu0
          have fu0 := fu0n
          clear fu0n
          have u0n : V2.cell? ⟨w.heap.size, 0, none⟩ = some (.int .i64 0) := (hc _ _ (cell_lt u0)).trans u0
          clear u0
          have u0 := u0n
          clear u0n
          have fu1n : V2.frozen? ⟨w.heap.size, 1, none⟩ = false := (hf _ _ (cell_lt u1)).trans fu1
          clear fu1
          have fu1 := fu1n
          clear fu1n
          have u1n : V2.cell? ⟨w.heap.size, 1, none⟩ = some (.int .i64 0) := (hc _ _ (cell_lt u1)).trans u1
          clear u1
          have u1 := u1n
          clear u1n
          have fu2n : V2.frozen? ⟨w.heap.size, 2, none⟩ = false := (hf _ _ (cell_lt u2)).trans fu2
          clear fu2
          have fu2 := fu2n
          clear fu2n
          have u2n : V2.cell? ⟨w.heap.size, 2, none⟩ = some (.bool false) := (hc _ _ (cell_lt u2)).trans u2
          clear u2
          have u2 := u2n
          clear u2n
          have fm0n : V2.frozen? ⟨wp.heap.size, 0, none⟩ = false := (hf _ _ (cell_lt m0)).trans fm0
          clear fm0
          have fm0 := fm0n
          clear fm0n
          have m0n : V2.cell? ⟨wp.heap.size, 0, none⟩ = some (.int .i64 p0) := (hc _ _ (cell_lt m0)).trans m0
          clear m0
          have m0 := m0n
          clear m0n
          have fm1n : V2.frozen? ⟨wp.heap.size, 1, none⟩ = false := (hf _ _ (cell_lt m1)).trans fm1
          clear fm1
          have fm1 := fm1n
          clear fm1n
          have m1n : V2.cell? ⟨wp.heap.size, 1, none⟩ = some (.int .i64 p1) := (hc _ _ (cell_lt m1)).trans m1
          clear m1
          have m1 := m1n
          clear m1n
          have fm2n : V2.frozen? ⟨wp.heap.size, 2, none⟩ = false := (hf _ _ (cell_lt m2)).trans fm2
          clear fm2
          have fm2 := fm2n
          clear fm2n
          have m2n : V2.cell? ⟨wp.heap.size, 2, none⟩ = some (.bool p2) := (hc _ _ (cell_lt m2)).trans m2
          clear m2
          have m2 := m2n
          clear m2n
          have y0n : V2.cell? ⟨b1, o1 + k * 2, none⟩ = some (.int .i64 m) := (hc _ _ (cell_lt y0)).trans y0
          clear y0
          have y0 := y0n
          clear y0n
          have y1n : V2.cell? ⟨b1, o1 + k * 2 + 1, none⟩ = some (.int .i64 d) := (hc _ _ (cell_lt y1)).trans y1
          clear y1
          have y1 := y1n
          clear y1n
          have q0n : V2.cell? ⟨b2, o2 + k * 5, none⟩ = some (.int .i64 c0) := (hc _ _ (cell_lt q0)).trans q0
          clear q0
          have q0 := q0n
          clear q0n
          have q1n : V2.cell? ⟨b2, o2 + k * 5 + 1, none⟩ = some (.int .i64 c1) := (hc _ _ (cell_lt q1)).trans q1
          clear q1
          have q1 := q1n
          clear q1n
          have q2n : V2.cell? ⟨b2, o2 + k * 5 + 2, none⟩ = some (.int .i64 c2) := (hc _ _ (cell_lt q2)).trans q2
          clear q2
          have q2 := q2n
          clear q2n
          have q3n : V2.cell? ⟨b2, o2 + k * 5 + 3, none⟩ = some (.int .i64 c3) := (hc _ _ (cell_lt q3)).trans q3
          clear q3
          have q3 := q3n
          clear q3n
          have q4n : V2.cell? ⟨b2, o2 + k * 5 + 4, none⟩ = some (.int .i64 c4) := (hc _ _ (cell_lt q4)).trans q4
          clear q4
          have q4 := q4n
          clear q4n
          have hbn : Below wq.heap.size wq V2 := bthen hb0 hB
          clear hb0
          have hb0 := hbn
          clear hbn
          have hzV2 : wq.heap.size ≤ V2.heap.size := hz
          clear hc hf hB hz
          simp only [List.take_succ_cons, List.take_zero, List.drop_succ_cons, List.drop_zero]
          have ku0 := later_cell u0
          have ku1 := later_cell u1
          have ku2 := later_cell u2
          have km0 := later_cell m0
          have km1 := later_cell m1
          have km2 := later_cell m2
          have ky0 := later_cell y0
          have ky1 := later_cell y1
          have kq0 := later_cell q0
          have kq1 := later_cell q1
          have kq2 := later_cell q2
          have kq3 := later_cell q3
          have kq4 := later_cell q4
          repeat (go_big_quiet_step (first | (go_at_call 42; with_reducible exact in_region (HTK.out _))))
          refine wpQuiet_nil ?_
          clear ku0 ku1 ku2 km0 km1 km2 ky0 ky1 kq0 kq1 kq2 kq3 kq4
          intro U2 X2 hA hB2
          have hx : Below V2.heap.size V2 X2 := bthen (hA.alloc hA.size _) hB2
          have hg : V2.heap.size ≤ U2.heap.size := hA.size
          have z0 : X2.cell? ⟨U2.heap.size, 0, none⟩ = some (.int .i64 0) := ((bcell hB2).1 _ _ (by simp)).trans (by go_simp)
          have fz0 : X2.frozen? ⟨U2.heap.size, 0, none⟩ = false := ((bcell hB2).2 _ _ (by simp)).trans (by go_simp)
          have z1 : X2.cell? ⟨U2.heap.size, 1, none⟩ = some (.int .i64 0) := ((bcell hB2).1 _ _ (by simp)).trans (by go_simp)
          have fz1 : X2.frozen? ⟨U2.heap.size, 1, none⟩ = false := ((bcell hB2).2 _ _ (by simp)).trans (by go_simp)
          have z2 : X2.cell? ⟨U2.heap.size, 2, none⟩ = some (.bool false) := ((bcell hB2).1 _ _ (by simp)).trans (by go_simp)
          have fz2 : X2.frozen? ⟨U2.heap.size, 2, none⟩ = false := ((bcell hB2).2 _ _ (by simp)).trans (by go_simp)
          clear hA hB2
          obtain ⟨g2, hgg⟩ : ∃ g, U2.heap.size = g := ⟨_, rfl⟩
          rw [hgg] at hg z0 fz0 z1 fz1 z2 fz2
          rw [hgg]
          clear hgg U2
          go_wp2
          refine ⟨rfl, by go_grown, ?_⟩
          intro Y2 hB hE
          have hc := (bcell hB).1
          have hf := (bcell hB).2
          have hz := hB.size
          have fu0n : Y2.frozen? ⟨w.heap.size, 0, none⟩ = false := (hf _ _ (cell_lt u0)).trans fu0
          clear fu0
          have fu0 := fu0n
          clear fu0n
          have u0n : Y2.cell? ⟨w.heap.size, 0, none⟩ = some (.int .i64 0) := (hc _ _ (cell_lt u0)).trans u0
          clear u0
          have u0 := u0n
          clear u0n
          have fu1n : Y2.frozen? ⟨w.heap.size, 1, none⟩ = false := (hf _ _ (cell_lt u1)).trans fu1
          clear fu1
          have fu1 := fu1n
          clear fu1n
          have u1n : Y2.cell? ⟨w.heap.size, 1, none⟩ = some (.int .i64 0) := (hc _ _ (cell_lt u1)).trans u1
          clear u1
          have u1 := u1n
          clear u1n
          have fu2n : Y2.frozen? ⟨w.heap.size, 2, none⟩ = false := (hf _ _ (cell_lt u2)).trans fu2
          clear fu2
          have fu2 := fu2n
          clear fu2n
          have u2n : Y2.cell? ⟨w.heap.size, 2, none⟩ = some (.bool false) := (hc _ _ (cell_lt u2)).trans u2
          clear u2
          have u2 := u2n
          clear u2n
          have fm0n : Y2.frozen? ⟨wp.heap.size, 0, none⟩ = false := (hf _ _ (cell_lt m0)).trans fm0
          clear fm0
          have fm0 := fm0n
          clear fm0n
          have m0n : Y2.cell? ⟨wp.heap.size, 0, none⟩ = some (.int .i64 p0) := (hc _ _ (cell_lt m0)).trans m0
          clear m0
          have m0 := m0n
          clear m0n
          have fm1n : Y2.frozen? ⟨wp.heap.size, 1, none⟩ = false := (hf _ _ (cell_lt m1)).trans fm1
          clear fm1
          have fm1 := fm1n
          clear fm1n
          have m1n : Y2.cell? ⟨wp.heap.size, 1, none⟩ = some (.int .i64 p1) := (hc _ _ (cell_lt m1)).trans m1
          clear m1
          have m1 := m1n
          clear m1n
          have fm2n : Y2.frozen? ⟨wp.heap.size, 2, none⟩ = false := (hf _ _ (cell_lt m2)).trans fm2
          clear fm2
          have fm2 := fm2n
          clear fm2n
          have m2n : Y2.cell? ⟨wp.heap.size, 2, none⟩ = some (.bool p2) := (hc _ _ (cell_lt m2)).trans m2
          clear m2
          have m2 := m2n
          clear m2n
          have y0n : Y2.cell? ⟨b1, o1 + k * 2, none⟩ = some (.int .i64 m) := (hc _ _ (cell_lt y0)).trans y0
          clear y0
          have y0 := y0n
          clear y0n
          have y1n : Y2.cell? ⟨b1, o1 + k * 2 + 1, none⟩ = some (.int .i64 d) := (hc _ _ (cell_lt y1)).trans y1
          clear y1
          have y1 := y1n
          clear y1n
          have q0n : Y2.cell? ⟨b2, o2 + k * 5, none⟩ = some (.int .i64 c0) := (hc _ _ (cell_lt q0)).trans q0
          clear q0
          have q0 := q0n
          clear q0n
          have q1n : Y2.cell? ⟨b2, o2 + k * 5 + 1, none⟩ = some (.int .i64 c1) := (hc _ _ (cell_lt q1)).trans q1
          clear q1
          have q1 := q1n
          clear q1n
          have q2n : Y2.cell? ⟨b2, o2 + k * 5 + 2, none⟩ = some (.int .i64 c2) := (hc _ _ (cell_lt q2)).trans q2
          clear q2
          have q2 := q2n
          clear q2n
          have q3n : Y2.cell? ⟨b2, o2 + k * 5 + 3, none⟩ = some (.int .i64 c3) := (hc _ _ (cell_lt q3)).trans q3
          clear q3
          have q3 := q3n
          clear q3n
          have q4n : Y2.cell? ⟨b2, o2 + k * 5 + 4, none⟩ = some (.int .i64 c4) := (hc _ _ (cell_lt q4)).trans q4
          clear q4
          have q4 := q4n
          clear q4n
          have x0 : Y2.cell? ⟨g2, 0, none⟩ = some (.int .i64 r0) := later_of hE (by go_simp)
          have x1 : Y2.cell? ⟨g2, 1, none⟩ = some (.int .i64 r1) := later_of hE (by go_simp)
          have x2 : Y2.cell? ⟨g2, 2, none⟩ = some (.bool r2) := later_of hE (by go_simp)
          clear z0 fz0 z1 fz1 z2 fz2 hE hx
          have hzY2 : V2.heap.size ≤ Y2.heap.size := hz
          have hgg2 : V2.heap.size ≤ g2 := hg
          have hbn : Below wq.heap.size wq Y2 := bthen hb0 hB
          clear hb0
          have hb0 := hbn
          clear hbn hc hf hB hz hg
          go_wp2_with fail
          refine (via (w0 := Y2) (by go_grown) (HBO.out _)).mono ?_
          rintro e W3 ⟨rfl, hc, hf, hz, hB⟩
          have fu0n : W3.frozen? ⟨w.heap.size, 0, none⟩ = false := (hf _ _ (cell_lt u0)).trans fu0
          clear fu0
          have fu0 := fu0n
          clear fu0n
          have u0n : W3.cell? ⟨w.heap.size, 0, none⟩ = some (.int .i64 0) := (hc _ _ (cell_lt u0)).trans u0
          clear u0
          have u0 := u0n
          clear u0n
          have fu1n : W3.frozen? ⟨w.heap.size, 1, none⟩ = false := (hf _ _ (cell_lt u1)).trans fu1
          clear fu1
          have fu1 := fu1n
          clear fu1n
          have u1n : W3.cell? ⟨w.heap.size, 1, none⟩ = some (.int .i64 0) := (hc _ _ (cell_lt u1)).trans u1
          clear u1
          have u1 := u1n
          clear u1n
          have fu2n : W3.frozen? ⟨w.heap.size, 2, none⟩ = false := (hf _ _ (cell_lt u2)).trans fu2
          clear fu2
          have fu2 := fu2n
          clear fu2n
          have u2n : W3.cell? ⟨w.heap.size, 2, none⟩ = some (.bool false) := (hc _ _ (cell_lt u2)).trans u2
          clear u2
          have u2 := u2n
          clear u2n
          have fm0n : W3.frozen? ⟨wp.heap.size, 0, none⟩ = false := (hf _ _ (cell_lt m0)).trans fm0
          clear fm0
          have fm0 := fm0n
          clear fm0n
          have m0n : W3.cell? ⟨wp.heap.size, 0, none⟩ = some (.int .i64 p0) := (hc _ _ (cell_lt m0)).trans m0
          clear m0
          have m0 := m0n
          clear m0n
          have fm1n : W3.frozen? ⟨wp.heap.size, 1, none⟩ = false := (hf _ _ (cell_lt m1)).trans fm1
          clear fm1
          have fm1 := fm1n
          clear fm1n
          have m1n : W3.cell? ⟨wp.heap.size, 1, none⟩ = some (.int .i64 p1) := (hc _ _ (cell_lt m1)).trans m1
          clear m1
          have m1 := m1n
          clear m1n
          have fm2n : W3.frozen? ⟨wp.heap.size, 2, none⟩ = false := (hf _ _ (cell_lt m2)).trans fm2
          clear fm2
          have fm2 := fm2n
          clear fm2n
          have m2n : W3.cell? ⟨wp.heap.size, 2, none⟩ = some (.bool p2) := (hc _ _ (cell_lt m2)).trans m2
          clear m2
          have m2 := m2n
          clear m2n
          have y0n : W3.cell? ⟨b1, o1 + k * 2, none⟩ = some (.int .i64 m) := (hc _ _ (cell_lt y0)).trans y0
          clear y0
          have y0 := y0n
          clear y0n
          have y1n : W3.cell? ⟨b1, o1 + k * 2 + 1, none⟩ = some (.int .i64 d) := (hc _ _ (cell_lt y1)).trans y1
          clear y1
          have y1 := y1n
          clear y1n
          have q0n : W3.cell? ⟨b2, o2 + k * 5, none⟩ = some (.int .i64 c0) := (hc _ _ (cell_lt q0)).trans q0
          clear q0
          have q0 := q0n
          clear q0n
          have q1n : W3.cell? ⟨b2, o2 + k * 5 + 1, none⟩ = some (.int .i64 c1) := (hc _ _ (cell_lt q1)).trans q1
          clear q1
          have q1 := q1n
          clear q1n
          have q2n : W3.cell? ⟨b2, o2 + k * 5 + 2, none⟩ = some (.int .i64 c2) := (hc _ _ (cell_lt q2)).trans q2
          clear q2
          have q2 := q2n
          clear q2n
          have q3n : W3.cell? ⟨b2, o2 + k * 5 + 3, none⟩ = some (.int .i64 c3) := (hc _ _ (cell_lt q3)).trans q3
          clear q3
          have q3 := q3n
          clear q3n
          have q4n : W3.cell? ⟨b2, o2 + k * 5 + 4, none⟩ = some (.int .i64 c4) := (hc _ _ (cell_lt q4)).trans q4
          clear q4
          have q4 := q4n
          clear q4n
          have x0n : W3.cell? ⟨g2, 0, none⟩ = some (.int .i64 r0) := (hc _ _ (cell_lt x0)).trans x0
          clear x0
          have x0 := x0n
          clear x0n
          have x1n : W3.cell? ⟨g2, 1, none⟩ = some (.int .i64 r1) := (hc _ _ (cell_lt x1)).trans x1
          clear x1
          have x1 := x1n
          clear x1n
          have x2n : W3.cell? ⟨g2, 2, none⟩ = some (.bool r2) := (hc _ _ (cell_lt x2)).trans x2
          clear x2
          have x2 := x2n
          clear x2n
          have hbn : Below wq.heap.size wq W3 := bthen hb0 hB
          clear hb0
          have hb0 := hbn
          clear hbn
          have hzW3 : Y2.heap.size ≤ W3.heap.size := hz
          clear hc hf hB hz
          have hbz := hb0.size
          have hlt9 := cell_lt m0
          go_wp2
          go_roundw
          case rel => exact ⟨k + 1, by omega, by go_num, by rw [HST.out]; exact ⟨by go_simp, by go_simp, by go_simp⟩, fun j hj => by (have : j = 0 ∨ j = 1 ∨ j = 2 := by omega); (rcases this with rfl | rfl | rfl) <;> go_simp, by have hh := bthen HBQ.out hb0; clear hb0; go_grown⟩
          case measure => simp [intOf]; omega
        · obtain rfl : k = C.length := by omega
          have hfo := fold_all HFINE.out (by rw [HLEN.out]; omega)
          have hfa := fine_all HFINE.out (by rw [HLEN.out]; omega)
          rw [List.take_of_length_le (by rw [HLEN.out]; omega), hfo] at m0 m1 m2
          obtain ⟨⟨lo, hi, so⟩, hxx⟩ : ∃ x, allV (ivsP R C) = x := ⟨_, rfl⟩
          rw [hxx] at m0 m1 m2 hfa HVAL
          dsimp only at m0 m1 m2
          clear hfo hxx hlt
          cases so
          · have HP : Hid (passV R C = (Iv.none, pairV (ivsP R C) 0, 0)) := Lib.hid (by rw [HVAL.out]; rfl)
            go_wp2
            go_loopw [12] (fun v12 wr => ∃ i : Nat, i ≤ C.length ∧ v12 = .int .i64 i ∧ pairV (ivsP R C) 0 = pairV ((ivsP R C).drop i) i ∧ Below wq.heap.size wq wr) (fun v12 _ => C.length - (intOf v12).toNat)
            case atStart => exact ⟨0, by omega, rfl, rfl, Below.refl _ _⟩
            case round =>
              obtain ⟨ws, rfl⟩ : ∃ x : World, x = wr := ⟨_, rfl⟩
              obtain ⟨i, hi, rfl, hpv, hbs⟩ := hrel
              have hbw := bthen HBQW.out hbs
              have HPV := Lib.hid hpv
              have HBS := Lib.hid hbs
              have HBSW := Lib.hid hbw
              have u0q := ((bcell hbs).1 _ _ (cell_lt u0)).trans u0
              have fu0q := ((bcell hbs).2 _ _ (cell_lt u0)).trans fu0
              have u1q := ((bcell hbs).1 _ _ (cell_lt u1)).trans u1
              have fu1q := ((bcell hbs).2 _ _ (cell_lt u1)).trans fu1
              have u2q := ((bcell hbs).1 _ _ (cell_lt u2)).trans u2
              have fu2q := ((bcell hbs).2 _ _ (cell_lt u2)).trans fu2
              clear u0 u1 u2 fu0 fu1 fu2 m0 m1 m2 fm0 fm1 fm2 hbs hpv hb0 hfa
              have u0 := u0q
              clear u0q
              have fu0 := fu0q
              clear fu0q
              have u1 := u1q
              clear u1q
              have fu1 := fu1q
              clear fu1q
              have u2 := u2q
              clear u2q
              have fu2 := fu2q
              clear fu2q
              have hb0 : Below ws.heap.size ws ws := Below.refl _ _
              by_cases hlt2 : i < C.length
              · have HST := Lib.hid (pairV_step (l := ivsP R C) (i := i) (by rw [HLEN.out]; exact hlt2))
                clear hbw
                go_wp2
                go_loopw [13] (fun v13 wr => ∃ j : Nat, i ≤ j ∧ j ≤ C.length ∧ v13 = .int .i64 j ∧ idxV (meetB (iv (ivsP R C) i)) ((ivsP R C).drop i) i = idxV (meetB (iv (ivsP R C) i)) ((ivsP R C).drop j) j ∧ Below ws.heap.size ws wr) (fun v13 _ => C.length - (intOf v13).toNat)
                case atStart => exact ⟨i, by omega, by omega, rfl, rfl, Below.refl _ _⟩
                case round =>
                  obtain ⟨wi, rfl⟩ : ∃ x : World, x = wr := ⟨_, rfl⟩
                  obtain ⟨j, hij, hj, rfl, hix, hbi⟩ := hrel
                  have hbw := bthen HBSW.out hbi
                  have HIX := Lib.hid hix
                  have HBI := Lib.hid hbi
                  have HBIW := Lib.hid hbw
                  have u0q := ((bcell hbi).1 _ _ (cell_lt u0)).trans u0
                  have fu0q := ((bcell hbi).2 _ _ (cell_lt u0)).trans fu0
                  have u1q := ((bcell hbi).1 _ _ (cell_lt u1)).trans u1
                  have fu1q := ((bcell hbi).2 _ _ (cell_lt u1)).trans fu1
                  have u2q := ((bcell hbi).1 _ _ (cell_lt u2)).trans u2
                  have fu2q := ((bcell hbi).2 _ _ (cell_lt u2)).trans fu2
                  clear u0 u1 u2 fu0 fu1 fu2 hbi hix hb0
                  have u0 := u0q
                  clear u0q
                  have fu0 := fu0q
                  clear fu0q
                  have u1 := u1q
                  clear u1q
                  have fu1 := fu1q
                  clear fu1q
                  have u2 := u2q
                  clear u2q
                  have fu2 := fu2q
                  clear fu2q
                  have hb0 : Below wi.heap.size wi wi := Below.refl _ _
                  by_cases hlt3 : j < C.length
                  · obtain ⟨b1, o1, e1, hat1⟩ := (HR.out.later hbw).2 (by intro e; rw [e] at h1; simp at h1; omega)
                    obtain ⟨b2, o2, e2, hat2⟩ := (HC.out.later hbw).2 (by intro e; rw [e] at h0; simp at h0)
                    cases e1
                    cases e2
                    obtain ⟨y0, y1⟩ := hat1 i (by omega)
                    obtain ⟨q0, q1, q2, q3, q4⟩ := hat2 i (by omega)
                    obtain ⟨jm, jd⟩ := hat1 j (by omega)
                    obtain ⟨r0, r1, r2, r3, r4⟩ := hat2 j (by omega)
                    have hi1 : ¬ (i : Int) < 0 := by omega
                    have hi2 : (i : Int) < (C.length : Int) := by omega
                    have hj1 : ¬ (j : Int) < 0 := by omega
                    have hj2 : (j : Int) < (C.length : Int) := by omega
                    have hTi := HT.out i hlt2
                    have hTj := HT.out j hlt3
                    have hjst := idxV_step (meetB (iv (ivsP R C) i)) (ivsP R C) j (by rw [HLEN.out]; exact hlt3)
                    have hBo := fun W => c_rBoth (iv (ivsP R C) i) (iv (ivsP R C) j) W
                    dsimp only [Iv.v] at hBo
                    have hmb : meetB (iv (ivsP R C) i) (iv (ivsP R C) j) = !(bothV (iv (ivsP R C) i) (iv (ivsP R C) j)).some := rfl
                    obtain ⟨⟨t0, t1, t2⟩, hbv⟩ : ∃ x, bothV (iv (ivsP R C) i) (iv (ivsP R C) j) = x := ⟨_, rfl⟩
                    rw [hbv] at hBo hmb
                    dsimp only at hBo hmb
                    have HJST := Lib.hid hjst
                    have HMB := Lib.hid hmb
                    clear hbv hat1 hat2 hbw hjst hmb
                    generalize (iv (ivsP R C) i).lo = a0 at hTi hBo
                    generalize (iv (ivsP R C) i).hi = a1 at hTi hBo
                    generalize (iv (ivsP R C) i).some = a2 at hTi hBo
                    generalize (iv (ivsP R C) j).lo = b0 at hTj hBo
                    generalize (iv (ivsP R C) j).hi = b1' at hTj hBo
                    generalize (iv (ivsP R C) j).some = b2' at hTj hBo
                    generalize (rt R i).m = m at *
                    generalize (rt R i).d = d at *
                    generalize (ct C i).i = c0 at *
                    generalize (ct C i).d = c1 at *
                    generalize (ct C i).s = c2 at *
                    generalize (ct C i).n = c3 at *
                    generalize (ct C i).wo = c4 at *
                    generalize (rt R j).m = m' at *
                    generalize (rt R j).d = d' at *
                    generalize (ct C j).i = c0' at *
                    generalize (ct C j).d = c1' at *
                    generalize (ct C j).s = c2' at *
                    generalize (ct C j).n = c3' at *
                    generalize (ct C j).wo = c4' at *
                    have HTI := Lib.hid hTi
                    have HTJ := Lib.hid hTj
                    have HBO := Lib.hid hBo
                    have hfld := run_field_some
                    clear hTi hTj hBo
                    as_aux_lemma =>
                    go_upto_region 24 with (fail)
                    refine wp_region_alloc 12 wi (.cells #[.int .i64 0, .int .i64 0, .bool false] 33) (by rfl) (by rfl) ⟨by rfl, fun _ _ => by simp [go_sem]⟩ ⟨by rfl, by rfl, _, _, _, by rfl⟩ (by kernel_rfl) (Below.refl _ _) ?_
                    intro V2 hB
                    have hc := (bcell hB).1
                    have hf := (bcell hB).2
                    have hz := hB.size
                    have fu0n : V2.frozen? ⟨w.heap.size, 0, none⟩ = false := (hf _ _ (cell_lt u0)).trans fu0
                    clear fu0
                    have fu0 := fu0n
                    clear fu0n
                    have u0n : V2.cell? ⟨w.heap.size, 0, none⟩ = some (.int .i64 0) := (hc _ _ (cell_lt u0)).trans u0
                    clear u0
                    have u0 := u0n
                    clear u0n
                    have fu1n : V2.frozen? ⟨w.heap.size, 1, none⟩ = false := (hf _ _ (cell_lt u1)).trans fu1
                    clear fu1
                    have fu1 := fu1n
                    clear fu1n
                    have u1n : V2.cell? ⟨w.heap.size, 1, none⟩ = some (.int .i64 0) := (hc _ _ (cell_lt u1)).trans u1
                    clear u1
                    have u1 := u1n
                    clear u1n
                    have fu2n : V2.frozen? ⟨w.heap.size, 2, none⟩ = false := (hf _ _ (cell_lt u2)).trans fu2
                    clear fu2
                    have fu2 := fu2n
                    clear fu2n
                    have u2n : V2.cell? ⟨w.heap.size, 2, none⟩ = some (.bool false) := (hc _ _ (cell_lt u2)).trans u2
                    clear u2
                    have u2 := u2n
                    clear u2n
                    have y0n : V2.cell? ⟨b1, o1 + i * 2, none⟩ = some (.int .i64 m) := (hc _ _ (cell_lt y0)).trans y0
                    clear y0
                    have y0 := y0n
                    clear y0n
                    have y1n : V2.cell? ⟨b1, o1 + i * 2 + 1, none⟩ = some (.int .i64 d) := (hc _ _ (cell_lt y1)).trans y1
                    clear y1
                    have y1 := y1n
                    clear y1n
                    have q0n : V2.cell? ⟨b2, o2 + i * 5, none⟩ = some (.int .i64 c0) := (hc _ _ (cell_lt q0)).trans q0
                    clear q0
                    have q0 := q0n
                    clear q0n
                    have q1n : V2.cell? ⟨b2, o2 + i * 5 + 1, none⟩ = some (.int .i64 c1) := (hc _ _ (cell_lt q1)).trans q1
                    clear q1
                    have q1 := q1n
                    clear q1n
                    have q2n : V2.cell? ⟨b2, o2 + i * 5 + 2, none⟩ = some (.int .i64 c2) := (hc _ _ (cell_lt q2)).trans q2
                    clear q2
                    have q2 := q2n
                    clear q2n
                    have q3n : V2.cell? ⟨b2, o2 + i * 5 + 3, none⟩ = some (.int .i64 c3) := (hc _ _ (cell_lt q3)).trans q3
                    clear q3
                    have q3 := q3n
                    clear q3n
                    have q4n : V2.cell? ⟨b2, o2 + i * 5 + 4, none⟩ = some (.int .i64 c4) := (hc _ _ (cell_lt q4)).trans q4
                    clear q4
                    have q4 := q4n
                    clear q4n
                    have jmn : V2.cell? ⟨b1, o1 + j * 2, none⟩ = some (.int .i64 m') := (hc _ _ (cell_lt jm)).trans jm
                    clear jm
                    have jm := jmn
                    clear jmn
                    have jdn : V2.cell? ⟨b1, o1 + j * 2 + 1, none⟩ = some (.int .i64 d') := (hc _ _ (cell_lt jd)).trans jd
                    clear jd
                    have jd := jdn
                    clear jdn
                    have r0n : V2.cell? ⟨b2, o2 + j * 5, none⟩ = some (.int .i64 c0') := (hc _ _ (cell_lt r0)).trans r0
                    clear r0
                    have r0 := r0n
                    clear r0n
                    have r1n : V2.cell? ⟨b2, o2 + j * 5 + 1, none⟩ = some (.int .i64 c1') := (hc _ _ (cell_lt r1)).trans r1
                    clear r1
                    have r1 := r1n
                    clear r1n
                    have r2n : V2.cell? ⟨b2, o2 + j * 5 + 2, none⟩ = some (.int .i64 c2') := (hc _ _ (cell_lt r2)).trans r2
                    clear r2
                    have r2 := r2n
                    clear r2n
                    have r3n : V2.cell? ⟨b2, o2 + j * 5 + 3, none⟩ = some (.int .i64 c3') := (hc _ _ (cell_lt r3)).trans r3
                    clear r3
                    have r3 := r3n
                    clear r3n
                    have r4n : V2.cell? ⟨b2, o2 + j * 5 + 4, none⟩ = some (.int .i64 c4') := (hc _ _ (cell_lt r4)).trans r4
                    clear r4
                    have r4 := r4n
                    clear r4n
                    have hbn : Below wi.heap.size wi V2 := bthen hb0 hB
                    clear hb0
                    have hb0 := hbn
                    clear hbn
                    have hzV2 : wi.heap.size ≤ V2.heap.size := hz
                    clear hc hf hB hz
                    simp only [List.take_succ_cons, List.take_zero, List.drop_succ_cons, List.drop_zero]
                    have ku0 := later_cell u0
                    have ku1 := later_cell u1
                    have ku2 := later_cell u2
                    have ky0 := later_cell y0
                    have ky1 := later_cell y1
                    have kq0 := later_cell q0
                    have kq1 := later_cell q1
                    have kq2 := later_cell q2
                    have kq3 := later_cell q3
                    have kq4 := later_cell q4
                    have kjm := later_cell jm
                    have kjd := later_cell jd
                    have kr0 := later_cell r0
                    have kr1 := later_cell r1
                    have kr2 := later_cell r2
                    have kr3 := later_cell r3
                    have kr4 := later_cell r4
                    repeat (go_big_quiet_step (first | (go_at_call 42; with_reducible exact in_region (HTI.out _))))
                    refine wpQuiet_nil ?_
                    clear ku0 ku1 ku2 ky0 ky1 kq0 kq1 kq2 kq3 kq4 kjm kjd kr0 kr1 kr2 kr3 kr4
                    intro U2 X2 hA hB2
                    have hx : Below V2.heap.size V2 X2 := bthen (hA.alloc hA.size _) hB2
                    have hg : V2.heap.size ≤ U2.heap.size := hA.size
                    have z0 : X2.cell? ⟨U2.heap.size, 0, none⟩ = some (.int .i64 0) := ((bcell hB2).1 _ _ (by simp)).trans (by go_simp)
                    have fz0 : X2.frozen? ⟨U2.heap.size, 0, none⟩ = false := ((bcell hB2).2 _ _ (by simp)).trans (by go_simp)
                    have z1 : X2.cell? ⟨U2.heap.size, 1, none⟩ = some (.int .i64 0) := ((bcell hB2).1 _ _ (by simp)).trans (by go_simp)
                    have fz1 : X2.frozen? ⟨U2.heap.size, 1, none⟩ = false := ((bcell hB2).2 _ _ (by simp)).trans (by go_simp)
                    have z2 : X2.cell? ⟨U2.heap.size, 2, none⟩ = some (.bool false) := ((bcell hB2).1 _ _ (by simp)).trans (by go_simp)
                    have fz2 : X2.frozen? ⟨U2.heap.size, 2, none⟩ = false := ((bcell hB2).2 _ _ (by simp)).trans (by go_simp)
                    clear hA hB2
                    obtain ⟨g2, hgg⟩ : ∃ g, U2.heap.size = g := ⟨_, rfl⟩
                    rw [hgg] at hg z0 fz0 z1 fz1 z2 fz2
                    rw [hgg]
                    clear hgg U2
                    go_wp2
                    refine ⟨rfl, by go_grown, ?_⟩
                    intro Y2 hB hE
                    have hc := (bcell hB).1
                    have hf := (bcell hB).2
                    have hz := hB.size
                    have fu0n : Y2.frozen? ⟨w.heap.size, 0, none⟩ = false := (hf _ _ (cell_lt u0)).trans fu0
                    clear fu0
                    have fu0 := fu0n
                    clear fu0n
                    have u0n : Y2.cell? ⟨w.heap.size, 0, none⟩ = some (.int .i64 0) := (hc _ _ (cell_lt u0)).trans u0
                    clear u0
                    have u0 := u0n
                    clear u0n
                    have fu1n : Y2.frozen? ⟨w.heap.size, 1, none⟩ = false := (hf _ _ (cell_lt u1)).trans fu1
                    clear fu1
                    have fu1 := fu1n
                    clear fu1n
                    have u1n : Y2.cell? ⟨w.heap.size, 1, none⟩ = some (.int .i64 0) := (hc _ _ (cell_lt u1)).trans u1
                    clear u1
                    have u1 := u1n
                    clear u1n
                    have fu2n : Y2.frozen? ⟨w.heap.size, 2, none⟩ = false := (hf _ _ (cell_lt u2)).trans fu2
                    clear fu2
                    have fu2 := fu2n
                    clear fu2n
                    have u2n : Y2.cell? ⟨w.heap.size, 2, none⟩ = some (.bool false) := (hc _ _ (cell_lt u2)).trans u2
                    clear u2
                    have u2 := u2n
                    clear u2n
                    have y0n : Y2.cell? ⟨b1, o1 + i * 2, none⟩ = some (.int .i64 m) := (hc _ _ (cell_lt y0)).trans y0
                    clear y0
                    have y0 := y0n
                    clear y0n
                    have y1n : Y2.cell? ⟨b1, o1 + i * 2 + 1, none⟩ = some (.int .i64 d) := (hc _ _ (cell_lt y1)).trans y1
                    clear y1
                    have y1 := y1n
                    clear y1n
                    have q0n : Y2.cell? ⟨b2, o2 + i * 5, none⟩ = some (.int .i64 c0) := (hc _ _ (cell_lt q0)).trans q0
                    clear q0
                    have q0 := q0n
                    clear q0n
                    have q1n : Y2.cell? ⟨b2, o2 + i * 5 + 1, none⟩ = some (.int .i64 c1) := (hc _ _ (cell_lt q1)).trans q1
                    clear q1
                    have q1 := q1n
                    clear q1n
                    have q2n : Y2.cell? ⟨b2, o2 + i * 5 + 2, none⟩ = some (.int .i64 c2) := (hc _ _ (cell_lt q2)).trans q2
                    clear q2
                    have q2 := q2n
                    clear q2n
                    have q3n : Y2.cell? ⟨b2, o2 + i * 5 + 3, none⟩ = some (.int .i64 c3) := (hc _ _ (cell_lt q3)).trans q3
                    clear q3
                    have q3 := q3n
                    clear q3n
                    have q4n : Y2.cell? ⟨b2, o2 + i * 5 + 4, none⟩ = some (.int .i64 c4) := (hc _ _ (cell_lt q4)).trans q4
                    clear q4
                    have q4 := q4n
                    clear q4n
                    have jmn : Y2.cell? ⟨b1, o1 + j * 2, none⟩ = some (.int .i64 m') := (hc _ _ (cell_lt jm)).trans jm
                    clear jm
                    have jm := jmn
                    clear jmn
                    have jdn : Y2.cell? ⟨b1, o1 + j * 2 + 1, none⟩ = some (.int .i64 d') := (hc _ _ (cell_lt jd)).trans jd
                    clear jd
                    have jd := jdn
                    clear jdn
                    have r0n : Y2.cell? ⟨b2, o2 + j * 5, none⟩ = some (.int .i64 c0') := (hc _ _ (cell_lt r0)).trans r0
                    clear r0
                    have r0 := r0n
                    clear r0n
                    have r1n : Y2.cell? ⟨b2, o2 + j * 5 + 1, none⟩ = some (.int .i64 c1') := (hc _ _ (cell_lt r1)).trans r1
                    clear r1
                    have r1 := r1n
                    clear r1n
                    have r2n : Y2.cell? ⟨b2, o2 + j * 5 + 2, none⟩ = some (.int .i64 c2') := (hc _ _ (cell_lt r2)).trans r2
                    clear r2
                    have r2 := r2n
                    clear r2n
                    have r3n : Y2.cell? ⟨b2, o2 + j * 5 + 3, none⟩ = some (.int .i64 c3') := (hc _ _ (cell_lt r3)).trans r3
                    clear r3
                    have r3 := r3n
                    clear r3n
                    have r4n : Y2.cell? ⟨b2, o2 + j * 5 + 4, none⟩ = some (.int .i64 c4') := (hc _ _ (cell_lt r4)).trans r4
                    clear r4
                    have r4 := r4n
                    clear r4n
                    have x0 : Y2.cell? ⟨g2, 0, none⟩ = some (.int .i64 a0) := later_of hE (by go_simp)
                    have x1 : Y2.cell? ⟨g2, 1, none⟩ = some (.int .i64 a1) := later_of hE (by go_simp)
                    have x2 : Y2.cell? ⟨g2, 2, none⟩ = some (.bool a2) := later_of hE (by go_simp)
                    clear z0 fz0 z1 fz1 z2 fz2 hE hx
                    have hzY2 : V2.heap.size ≤ Y2.heap.size := hz
                    have hgg2 : V2.heap.size ≤ g2 := hg
                    have hbn : Below wi.heap.size wi Y2 := bthen hb0 hB
                    clear hb0
                    have hb0 := hbn
                    clear hbn hc hf hB hz hg
                    go_upto_region 25 with (fail)
                    refine wp_region_alloc 12 Y2 (.cells #[.int .i64 0, .int .i64 0, .bool false] 33) (by rfl) (by rfl) ⟨by rfl, fun _ _ => by simp [go_sem]⟩ ⟨by rfl, by rfl, _, _, _, by rfl⟩ (by kernel_rfl) (Below.refl _ _) ?_
                    intro V3 hB
                    have hc := (bcell hB).1
                    have hf := (bcell hB).2
                    have hz := hB.size
                    have fu0n : V3.frozen? ⟨w.heap.size, 0, none⟩ = false := (hf _ _ (cell_lt u0)).trans fu0
                    clear fu0
                    have fu0 := fu0n
                    clear fu0n
                    have u0n : V3.cell? ⟨w.heap.size, 0, none⟩ = some (.int .i64 0) := (hc _ _ (cell_lt u0)).trans u0
                    clear u0
                    have u0 := u0n
                    clear u0n
                    have fu1n : V3.frozen? ⟨w.heap.size, 1, none⟩ = false := (hf _ _ (cell_lt u1)).trans fu1
                    clear fu1
                    have fu1 := fu1n
                    clear fu1n
                    have u1n : V3.cell? ⟨w.heap.size, 1, none⟩ = some (.int .i64 0) := (hc _ _ (cell_lt u1)).trans u1
                    clear u1
                    have u1 := u1n
                    clear u1n
                    have fu2n : V3.frozen? ⟨w.heap.size, 2, none⟩ = false := (hf _ _ (cell_lt u2)).trans fu2
                    clear fu2
                    have fu2 := fu2n
                    clear fu2n
                    have u2n : V3.cell? ⟨w.heap.size, 2, none⟩ = some (.bool false) := (hc _ _ (cell_lt u2)).trans u2
                    clear u2
                    have u2 := u2n
                    clear u2n
                    have y0n : V3.cell? ⟨b1, o1 + i * 2, none⟩ = some (.int .i64 m) := (hc _ _ (cell_lt y0)).trans y0
                    clear y0
                    have y0 := y0n
                    clear y0n
                    have y1n : V3.cell? ⟨b1, o1 + i * 2 + 1, none⟩ = some (.int .i64 d) := (hc _ _ (cell_lt y1)).trans y1
                    clear y1
                    have y1 := y1n
                    clear y1n
                    have q0n : V3.cell? ⟨b2, o2 + i * 5, none⟩ = some (.int .i64 c0) := (hc _ _ (cell_lt q0)).trans q0
                    clear q0
                    have q0 := q0n
                    clear q0n
                    have q1n : V3.cell? ⟨b2, o2 + i * 5 + 1, none⟩ = some (.int .i64 c1) := (hc _ _ (cell_lt q1)).trans q1
                    clear q1
                    have q1 := q1n
                    clear q1n
                    have q2n : V3.cell? ⟨b2, o2 + i * 5 + 2, none⟩ = some (.int .i64 c2) := (hc _ _ (cell_lt q2)).trans q2
                    clear q2
                    have q2 := q2n
                    clear q2n
                    have q3n : V3.cell? ⟨b2, o2 + i * 5 + 3, none⟩ = some (.int .i64 c3) := (hc _ _ (cell_lt q3)).trans q3
                    clear q3
                    have q3 := q3n
                    clear q3n
                    have q4n : V3.cell? ⟨b2, o2 + i * 5 + 4, none⟩ = some (.int .i64 c4) := (hc _ _ (cell_lt q4)).trans q4
                    clear q4
                    have q4 := q4n
                    clear q4n
                    have jmn : V3.cell? ⟨b1, o1 + j * 2, none⟩ = some (.int .i64 m') := (hc _ _ (cell_lt jm)).trans jm
                    clear jm
                    have jm := jmn
                    clear jmn
                    have jdn : V3.cell? ⟨b1, o1 + j * 2 + 1, none⟩ = some (.int .i64 d') := (hc _ _ (cell_lt jd)).trans jd
                    clear jd
                    have jd := jdn
                    clear jdn
                    have r0n : V3.cell? ⟨b2, o2 + j * 5, none⟩ = some (.int .i64 c0') := (hc _ _ (cell_lt r0)).trans r0
                    clear r0
                    have r0 := r0n
                    clear r0n
                    have r1n : V3.cell? ⟨b2, o2 + j * 5 + 1, none⟩ = some (.int .i64 c1') := (hc _ _ (cell_lt r1)).trans r1
                    clear r1
                    have r1 := r1n
                    clear r1n
                    have r2n : V3.cell? ⟨b2, o2 + j * 5 + 2, none⟩ = some (.int .i64 c2') := (hc _ _ (cell_lt r2)).trans r2
                    clear r2
                    have r2 := r2n
                    clear r2n
                    have r3n : V3.cell? ⟨b2, o2 + j * 5 + 3, none⟩ = some (.int .i64 c3') := (hc _ _ (cell_lt r3)).trans r3
                    clear r3
                    have r3 := r3n
                    clear r3n
                    have r4n : V3.cell? ⟨b2, o2 + j * 5 + 4, none⟩ = some (.int .i64 c4') := (hc _ _ (cell_lt r4)).trans r4
                    clear r4
                    have r4 := r4n
                    clear r4n
                    have x0n : V3.cell? ⟨g2, 0, none⟩ = some (.int .i64 a0) := (hc _ _ (cell_lt x0)).trans x0
                    clear x0
                    have x0 := x0n
                    clear x0n
                    have x1n : V3.cell? ⟨g2, 1, none⟩ = some (.int .i64 a1) := (hc _ _ (cell_lt x1)).trans x1
                    clear x1
                    have x1 := x1n
                    clear x1n
                    have x2n : V3.cell? ⟨g2, 2, none⟩ = some (.bool a2) := (hc _ _ (cell_lt x2)).trans x2
                    clear x2
                    have x2 := x2n
                    clear x2n
                    have hbn : Below wi.heap.size wi V3 := bthen hb0 hB
                    clear hb0
                    have hb0 := hbn
                    clear hbn
                    have hzV3 : Y2.heap.size ≤ V3.heap.size := hz
                    clear hc hf hB hz
                    simp only [List.take_succ_cons, List.take_zero, List.drop_succ_cons, List.drop_zero]
                    have ku0 := later_cell u0
                    have ku1 := later_cell u1
                    have ku2 := later_cell u2
                    have ky0 := later_cell y0
                    have ky1 := later_cell y1
                    have kq0 := later_cell q0
                    have kq1 := later_cell q1
                    have kq2 := later_cell q2
                    have kq3 := later_cell q3
                    have kq4 := later_cell q4
                    have kjm := later_cell jm
                    have kjd := later_cell jd
                    have kr0 := later_cell r0
                    have kr1 := later_cell r1
                    have kr2 := later_cell r2
                    have kr3 := later_cell r3
                    have kr4 := later_cell r4
                    have kx0 := later_cell x0
                    have kx1 := later_cell x1
                    have kx2 := later_cell x2
                    repeat (go_big_quiet_step (first | (go_at_call 42; with_reducible exact in_region (HTJ.out _))))
                    refine wpQuiet_nil ?_
                    clear ku0 ku1 ku2 ky0 ky1 kq0 kq1 kq2 kq3 kq4 kjm kjd kr0 kr1 kr2 kr3 kr4 kx0 kx1 kx2
                    intro U3 X3 hA hB2
                    have hx : Below V3.heap.size V3 X3 := bthen (hA.alloc hA.size _) hB2
                    have hg : V3.heap.size ≤ U3.heap.size := hA.size
                    have z0 : X3.cell? ⟨U3.heap.size, 0, none⟩ = some (.int .i64 0) := ((bcell hB2).1 _ _ (by simp)).trans (by go_simp)
                    have fz0 : X3.frozen? ⟨U3.heap.size, 0, none⟩ = false := ((bcell hB2).2 _ _ (by simp)).trans (by go_simp)
                    have z1 : X3.cell? ⟨U3.heap.size, 1, none⟩ = some (.int .i64 0) := ((bcell hB2).1 _ _ (by simp)).trans (by go_simp)
                    have fz1 : X3.frozen? ⟨U3.heap.size, 1, none⟩ = false := ((bcell hB2).2 _ _ (by simp)).trans (by go_simp)
                    have z2 : X3.cell? ⟨U3.heap.size, 2, none⟩ = some (.bool false) := ((bcell hB2).1 _ _ (by simp)).trans (by go_simp)
                    have fz2 : X3.frozen? ⟨U3.heap.size, 2, none⟩ = false := ((bcell hB2).2 _ _ (by simp)).trans (by go_simp)
                    clear hA hB2
                    obtain ⟨g3, hgg⟩ : ∃ g, U3.heap.size = g := ⟨_, rfl⟩
                    rw [hgg] at hg z0 fz0 z1 fz1 z2 fz2
                    rw [hgg]
                    clear hgg U3
                    go_wp2
                    refine ⟨rfl, by go_grown, ?_⟩
                    intro Y3 hB hE
                    have hc := (bcell hB).1
                    have hf := (bcell hB).2
                    have hz := hB.size
                    have fu0n : Y3.frozen? ⟨w.heap.size, 0, none⟩ = false := (hf _ _ (cell_lt u0)).trans fu0
                    clear fu0
                    have fu0 := fu0n
                    clear fu0n
                    have u0n : Y3.cell? ⟨w.heap.size, 0, none⟩ = some (.int .i64 0) := (hc _ _ (cell_lt u0)).trans u0
                    clear u0
                    have u0 := u0n
                    clear u0n
                    have fu1n : Y3.frozen? ⟨w.heap.size, 1, none⟩ = false := (hf _ _ (cell_lt u1)).trans fu1
                    clear fu1
                    have fu1 := fu1n
                    clear fu1n
                    have u1n : Y3.cell? ⟨w.heap.size, 1, none⟩ = some (.int .i64 0) := (hc _ _ (cell_lt u1)).trans u1
                    clear u1
                    have u1 := u1n
                    clear u1n
                    have fu2n : Y3.frozen? ⟨w.heap.size, 2, none⟩ = false := (hf _ _ (cell_lt u2)).trans fu2
                    clear fu2
                    have fu2 := fu2n
                    clear fu2n
                    have u2n : Y3.cell? ⟨w.heap.size, 2, none⟩ = some (.bool false) := (hc _ _ (cell_lt u2)).trans u2
                    clear u2
                    have u2 := u2n
                    clear u2n
                    have y0n : Y3.cell? ⟨b1, o1 + i * 2, none⟩ = some (.int .i64 m) := (hc _ _ (cell_lt y0)).trans y0
                    clear y0
                    have y0 := y0n
                    clear y0n
                    have y1n : Y3.cell? ⟨b1, o1 + i * 2 + 1, none⟩ = some (.int .i64 d) := (hc _ _ (cell_lt y1)).trans y1
                    clear y1
                    have y1 := y1n
                    clear y1n
                    have q0n : Y3.cell? ⟨b2, o2 + i * 5, none⟩ = some (.int .i64 c0) := (hc _ _ (cell_lt q0)).trans q0
                    clear q0
                    have q0 := q0n
                    clear q0n
                    have q1n : Y3.cell? ⟨b2, o2 + i * 5 + 1, none⟩ = some (.int .i64 c1) := (hc _ _ (cell_lt q1)).trans q1
                    clear q1
                    have q1 := q1n
                    clear q1n
                    have q2n : Y3.cell? ⟨b2, o2 + i * 5 + 2, none⟩ = some (.int .i64 c2) := (hc _ _ (cell_lt q2)).trans q2
                    clear q2
                    have q2 := q2n
                    clear q2n
                    have q3n : Y3.cell? ⟨b2, o2 + i * 5 + 3, none⟩ = some (.int .i64 c3) := (hc _ _ (cell_lt q3)).trans q3
                    clear q3
                    have q3 := q3n
                    clear q3n
                    have q4n : Y3.cell? ⟨b2, o2 + i * 5 + 4, none⟩ = some (.int .i64 c4) := (hc _ _ (cell_lt q4)).trans q4
                    clear q4
                    have q4 := q4n
                    clear q4n
                    have jmn : Y3.cell? ⟨b1, o1 + j * 2, none⟩ = some (.int .i64 m') := (hc _ _ (cell_lt jm)).trans jm
                    clear jm
                    have jm := jmn
                    clear jmn
                    have jdn : Y3.cell? ⟨b1, o1 + j * 2 + 1, none⟩ = some (.int .i64 d') := (hc _ _ (cell_lt jd)).trans jd
                    clear jd
                    have jd := jdn
                    clear jdn
                    have r0n : Y3.cell? ⟨b2, o2 + j * 5, none⟩ = some (.int .i64 c0') := (hc _ _ (cell_lt r0)).trans r0
                    clear r0
                    have r0 := r0n
                    clear r0n
                    have r1n : Y3.cell? ⟨b2, o2 + j * 5 + 1, none⟩ = some (.int .i64 c1') := (hc _ _ (cell_lt r1)).trans r1
                    clear r1
                    have r1 := r1n
                    clear r1n
                    have r2n : Y3.cell? ⟨b2, o2 + j * 5 + 2, none⟩ = some (.int .i64 c2') := (hc _ _ (cell_lt r2)).trans r2
                    clear r2
                    have r2 := r2n
                    clear r2n
                    have r3n : Y3.cell? ⟨b2, o2 + j * 5 + 3, none⟩ = some (.int .i64 c3') := (hc _ _ (cell_lt r3)).trans r3
                    clear r3
                    have r3 := r3n
                    clear r3n
                    have r4n : Y3.cell? ⟨b2, o2 + j * 5 + 4, none⟩ = some (.int .i64 c4') := (hc _ _ (cell_lt r4)).trans r4
                    clear r4
                    have r4 := r4n
                    clear r4n
                    have x0n : Y3.cell? ⟨g2, 0, none⟩ = some (.int .i64 a0) := (hc _ _ (cell_lt x0)).trans x0
                    clear x0
                    have x0 := x0n
                    clear x0n
                    have x1n : Y3.cell? ⟨g2, 1, none⟩ = some (.int .i64 a1) := (hc _ _ (cell_lt x1)).trans x1
                    clear x1
                    have x1 := x1n
                    clear x1n
                    have x2n : Y3.cell? ⟨g2, 2, none⟩ = some (.bool a2) := (hc _ _ (cell_lt x2)).trans x2
                    clear x2
                    have x2 := x2n
                    clear x2n
                    have v0 : Y3.cell? ⟨g3, 0, none⟩ = some (.int .i64 b0) := later_of hE (by go_simp)
                    have v1 : Y3.cell? ⟨g3, 1, none⟩ = some (.int .i64 b1') := later_of hE (by go_simp)
                    have v2 : Y3.cell? ⟨g3, 2, none⟩ = some (.bool b2') := later_of hE (by go_simp)
                    clear z0 fz0 z1 fz1 z2 fz2 hE hx
                    have hzY3 : V3.heap.size ≤ Y3.heap.size := hz
                    have hgg3 : V3.heap.size ≤ g3 := hg
                    have hbn : Below wi.heap.size wi Y3 := bthen hb0 hB
                    clear hb0
                    have hb0 := hbn
                    clear hbn hc hf hB hz hg
                    go_wp2_with fail
                    refine (via (w0 := Y3) (by go_grown) (HBO.out _)).mono ?_
                    rintro e W4 ⟨rfl, hc, hf, hz, hB⟩
                    have fu0n : W4.frozen? ⟨w.heap.size, 0, none⟩ = false := (hf _ _ (cell_lt u0)).trans fu0
                    clear fu0
                    have fu0 := fu0n
                    clear fu0n
                    have u0n : W4.cell? ⟨w.heap.size, 0, none⟩ = some (.int .i64 0) := (hc _ _ (cell_lt u0)).trans u0
                    clear u0
                    have u0 := u0n
                    clear u0n
                    have fu1n : W4.frozen? ⟨w.heap.size, 1, none⟩ = false := (hf _ _ (cell_lt u1)).trans fu1
                    clear fu1
                    have fu1 := fu1n
                    clear fu1n
                    have u1n : W4.cell? ⟨w.heap.size, 1, none⟩ = some (.int .i64 0) := (hc _ _ (cell_lt u1)).trans u1
                    clear u1
                    have u1 := u1n
                    clear u1n
                    have fu2n : W4.frozen? ⟨w.heap.size, 2, none⟩ = false := (hf _ _ (cell_lt u2)).trans fu2
                    clear fu2
                    have fu2 := fu2n
                    clear fu2n
                    have u2n : W4.cell? ⟨w.heap.size, 2, none⟩ = some (.bool false) := (hc _ _ (cell_lt u2)).trans u2
                    clear u2
                    have u2 := u2n
                    clear u2n
                    have y0n : W4.cell? ⟨b1, o1 + i * 2, none⟩ = some (.int .i64 m) := (hc _ _ (cell_lt y0)).trans y0
                    clear y0
                    have y0 := y0n
                    clear y0n
                    have y1n : W4.cell? ⟨b1, o1 + i * 2 + 1, none⟩ = some (.int .i64 d) := (hc _ _ (cell_lt y1)).trans y1
                    clear y1
                    have y1 := y1n
                    clear y1n
                    have q0n : W4.cell? ⟨b2, o2 + i * 5, none⟩ = some (.int .i64 c0) := (hc _ _ (cell_lt q0)).trans q0
                    clear q0
                    have q0 := q0n
                    clear q0n
                    have q1n : W4.cell? ⟨b2, o2 + i * 5 + 1, none⟩ = some (.int .i64 c1) := (hc _ _ (cell_lt q1)).trans q1
                    clear q1
                    have q1 := q1n
                    clear q1n
                    have q2n : W4.cell? ⟨b2, o2 + i * 5 + 2, none⟩ = some (.int .i64 c2) := (hc _ _ (cell_lt q2)).trans q2
                    clear q2
                    have q2 := q2n
                    clear q2n
                    have q3n : W4.cell? ⟨b2, o2 + i * 5 + 3, none⟩ = some (.int .i64 c3) := (hc _ _ (cell_lt q3)).trans q3
                    clear q3
                    have q3 := q3n
                    clear q3n
                    have q4n : W4.cell? ⟨b2, o2 + i * 5 + 4, none⟩ = some (.int .i64 c4) := (hc _ _ (cell_lt q4)).trans q4
                    clear q4
                    have q4 := q4n
                    clear q4n
                    have jmn : W4.cell? ⟨b1, o1 + j * 2, none⟩ = some (.int .i64 m') := (hc _ _ (cell_lt jm)).trans jm
                    clear jm
                    have jm := jmn
                    clear jmn
                    have jdn : W4.cell? ⟨b1, o1 + j * 2 + 1, none⟩ = some (.int .i64 d') := (hc _ _ (cell_lt jd)).trans jd
                    clear jd
                    have jd := jdn
                    clear jdn
                    have r0n : W4.cell? ⟨b2, o2 + j * 5, none⟩ = some (.int .i64 c0') := (hc _ _ (cell_lt r0)).trans r0
                    clear r0
                    have r0 := r0n
                    clear r0n
                    have r1n : W4.cell? ⟨b2, o2 + j * 5 + 1, none⟩ = some (.int .i64 c1') := (hc _ _ (cell_lt r1)).trans r1
                    clear r1
                    have r1 := r1n
                    clear r1n
                    have r2n : W4.cell? ⟨b2, o2 + j * 5 + 2, none⟩ = some (.int .i64 c2') := (hc _ _ (cell_lt r2)).trans r2
                    clear r2
                    have r2 := r2n
                    clear r2n
                    have r3n : W4.cell? ⟨b2, o2 + j * 5 + 3, none⟩ = some (.int .i64 c3') := (hc _ _ (cell_lt r3)).trans r3
                    clear r3
                    have r3 := r3n
                    clear r3n
                    have r4n : W4.cell? ⟨b2, o2 + j * 5 + 4, none⟩ = some (.int .i64 c4') := (hc _ _ (cell_lt r4)).trans r4
                    clear r4
                    have r4 := r4n
                    clear r4n
                    have x0n : W4.cell? ⟨g2, 0, none⟩ = some (.int .i64 a0) := (hc _ _ (cell_lt x0)).trans x0
                    clear x0
                    have x0 := x0n
                    clear x0n
                    have x1n : W4.cell? ⟨g2, 1, none⟩ = some (.int .i64 a1) := (hc _ _ (cell_lt x1)).trans x1
                    clear x1
                    have x1 := x1n
                    clear x1n
                    have x2n : W4.cell? ⟨g2, 2, none⟩ = some (.bool a2) := (hc _ _ (cell_lt x2)).trans x2
                    clear x2
                    have x2 := x2n
                    clear x2n
                    have v0n : W4.cell? ⟨g3, 0, none⟩ = some (.int .i64 b0) := (hc _ _ (cell_lt v0)).trans v0
                    clear v0
                    have v0 := v0n
                    clear v0n
                    have v1n : W4.cell? ⟨g3, 1, none⟩ = some (.int .i64 b1') := (hc _ _ (cell_lt v1)).trans v1
                    clear v1
                    have v1 := v1n
                    clear v1n
                    have v2n : W4.cell? ⟨g3, 2, none⟩ = some (.bool b2') := (hc _ _ (cell_lt v2)).trans v2
                    clear v2
                    have v2 := v2n
                    clear v2n
                    have hbn : Below wi.heap.size wi W4 := bthen hb0 hB
                    clear hb0
                    have hb0 := hbn
                    clear hbn
                    have hzW4 : Y3.heap.size ≤ W4.heap.size := hz
                    clear hc hf hB hz
                    have hlt9 := cell_lt u0
                    as_aux_lemma =>
                    cases t2
                    · have HP2 : Hid (passV R C = (Iv.none, [(i : Int), (j : Int)], 0)) := Lib.hid (by
                        have e : idxV (meetB (iv (ivsP R C) i)) ((ivsP R C).drop i) i = (j : Int) := by rw [HIX.out, HJST.out, HMB.out]; rfl
                        rw [HP.out, HPV.out, HST.out, e, if_pos (by omega)])
                      clear h h0 h1 h0' h' hlt' hmlt hzq hi hlt2 hij hj hlt3 hi1 hi2 hj1 hj2 hzV2 hzY2 hgg2 hzV3 hzY3 hgg3 hzW4 y0 y1 q0 q1 q2 q3 q4 jm jd r0 r1 r2 r3 r4 x0 x1 x2 v0 v1 v2
                      go_wp2
                      refine bodyPost_ret (v := .tuple #[Iv.none.v, .slice (some ⟨W4.heap.size, 0, none⟩) 2 2, .int .i64 0]) (by simp [results, Try.results52, go_sem, Iv.none, u0, u1, u2, hlt9]) rfl ⟨by rw [HP2.out]; exact ⟨_, _, rfl, ints_two (by go_simp) (by go_simp)⟩, ?_⟩
                      have hbz := hb0.size
                      have hbz2 := HBIW.out.size
                      have hbn := bthen HBIW.out hb0
                      clear hb0
                      go_grown
                    · have HN := HMB
                      go_wp2
                      go_roundw
                      case rel => exact ⟨j + 1, by omega, by omega, by go_num, by rw [HIX.out, HJST.out, HN.out]; rfl, bthen HBI.out hb0⟩
                      case measure => simp [intOf]; omega
                  · obtain rfl : j = C.length := by omega
                    have HPN : Hid (pairV (ivsP R C) 0 = pairV ((ivsP R C).drop (i + 1)) (i + 1)) := Lib.hid (by
                      rw [HPV.out, HST.out, HIX.out, idxV_end _ _ (by rw [HLEN.out]; omega), if_neg (by omega)])
                    go_wp2
                    go_roundw
                    case rel => exact ⟨i + 1, by omega, by go_num, HPN.out, bthen HBS.out HBI.out⟩
                    case measure => simp [intOf]; omega
              · obtain rfl : i = C.length := by omega
                have HP2 : Hid (passV R C = (Iv.none, [], 0)) := Lib.hid (by rw [HP.out, HPV.out, pairV_end _ (by rw [HLEN.out]; omega)])
                go_wp2
                refine bodyPost_ret (v := .tuple #[Iv.none.v, .slice none 0 0, .int .i64 0]) (by simp [results, Try.results52, go_sem, Iv.none, u0, u1, u2]) rfl ⟨by rw [HP2.out]; exact ⟨_, _, rfl, Ints.nil _⟩, ?_⟩
                clear hb0
                have hb0 := HBSW.out
                have hbz := hb0.size
                go_grown
          · have HP : Hid (passV R C = (⟨lo, hi, true⟩, [], 0)) := Lib.hid (by rw [HVAL.out]; rfl)
            go_wp2
            refine bodyPost_ret (v := .tuple #[.agg #[.int .i64 lo, .int .i64 hi, .bool true], .slice none 0 0, .int .i64 0]) (by simp [results, Try.results52, go_sem, u0, u1, u2]) rfl ⟨by rw [HP.out]; exact ⟨_, _, rfl, Ints.nil _⟩, ?_⟩
            clear hb0
            have hb0 := HBQW.out
            have hbz := hb0.size
            go_grown

theorem c_rPassage (R : List Rt) (C : List Ct) (a b : Option Addr) (ca cb : Nat) (w : World) (hR : Rts w a R) (hC : Cts w b C) :
    Calls Try.prog 52 #[.slice a R.length ca, .slice b C.length cb] w (GivesP (passV R C) w) := by
  by_cases h : 200 < C.length
  · exact c_rPassage_many R C a b ca cb w h hC.1
  by_cases h0 : C.length = 0
  · exact c_rPassage_zero R C a b ca cb w h0
  by_cases h1 : R.length = C.length
  · have := c_rPassage_main R C a b ca cb w h h0 h1 hR hC
    rwa [← h1] at this ⊢
  · exact c_rPassage_len R C a b ca cb w h h0 h1 hR.1
end Go.Proofs.Ytokpjaodchcheaa
