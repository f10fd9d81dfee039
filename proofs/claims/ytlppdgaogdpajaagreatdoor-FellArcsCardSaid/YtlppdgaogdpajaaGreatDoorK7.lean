/- This text is a part of the proof: Judge. -/
import Derived.Test.YtlppdgaogdpajaaGreatDoorK6
set_option maxRecDepth 100000
set_option maxHeartbeats 8000000
namespace Go.Proofs.YtlppdgaogdpajaaGreatDoor
open Go.RowKit Go.Shelf
attribute [local go_sem] Oper.semAt_some
abbrev givesUp (E : Int) : List PanicEntry := [{ v := .iface 181 (.agg #[.int .i64 E]), recovered := false }]
def endV (E : Int) : Ending := if E = 0 then .returned (.tuple #[]) else .panicked (givesUp E)
theorem endV_0 : endV 0 = .returned (.tuple #[]) := rfl
theorem endV_no {E : Int} (h : E ≠ 0) : endV E = .panicked (givesUp E) := if_neg h
theorem c_unless_t (E : Int) (w : World) : Calls Tryz.prog 89 #[.bool true, .int .i64 E] w fun e w' => e = .returned (.tuple #[]) ∧ w = w' := by
 go_enter Tryz.func89, Tryz.ntmps89
 go_wp2
 go_end0
 exact ⟨rfl, rfl⟩
theorem c_unless_f (E : Int) (w : World) : Calls Tryz.prog 89 #[.bool false, .int .i64 E] w fun e w' => e = .panicked (givesUp E) ∧ w = w' := by
 go_enter Tryz.func89, Tryz.ntmps89
 go_wp2
 exact ⟨rfl, rfl, rfl⟩
theorem c_in_b {n lo hi : Int} {b : Bool} (h : rg lo hi n = b) (w : World) : Calls Tryz.prog 100 #[.int .i64 n, .int .i64 lo, .int .i64 hi] w fun e w' => e = .returned (.bool b) ∧ w = w' := by
 rw [← h]
 exact c_in n lo hi w
theorem c_isName_b {s : ByteArray} {b : Bool} (h : nameB s = b) (w : World) : Calls Tryz.prog 98 #[.string s] w fun e w' => e = .returned (.bool b) ∧ Below w.heap.size w w' := by
 rw [← h]
 exact c_isName s w
theorem nilB : (⟨#[]⟩ : ByteArray).toList = [] := by rw [ByteArray.toList_eq]
theorem c_zero (x : Rp) (hk : x.kind = 8) (w : World) : Calls Tryz.prog 183 #[x.v] w fun e w' => e = .returned (.bool (zeroB x)) ∧ Below w.heap.size w w' := by
 obtain ⟨id, known, kind, owner, sort, plc, tick, low, high, void⟩ := x
 dsimp only at hk
 subst hk
 have hs : (decide (sort = ⟨#[]⟩)) = decide (sort.toList = []) := by
  refine decide_eq_decide.2 ⟨fun h => by rw [h]; exact nilB, fun h => toList_inj (h.trans nilB.symm)⟩
 unfold zeroB
 dsimp only
 rw [hs]
 clear hs
 go_enter Tryz.func183, Tryz.ntmps183
 go_wp2
 all_goals go_ret
 all_goals refine ⟨?_, by go_grown⟩
 all_goals show Ending.returned (Value.bool _) = Ending.returned (Value.bool _)
 all_goals simp_all
structure RpOk (x : Rp) : Prop where
 k0 : 0 ≤ x.kind
 k1 : x.kind ≤ 255
theorem c_judge_8 (m : Fm) (id known owner plc tick low high void : Int) (sort : ByteArray) (w : World) (hs : Small m.f) :
  Calls Tryz.prog 121 #[m.v, (⟨id, known, 8, owner, sort, plc, tick, low, high, void⟩ : Rp).v] w fun e w' => e = endV (judgeE m.f (⟨id, known, 8, owner, sort, plc, tick, low, high, void⟩ : Rp)) ∧ Below w.heap.size w w' := by
 have hT := hs.t0
 have hT2 := hs.t24
 have hP := hs.p8
 have hG := hs.g12
 obtain ⟨E, hE⟩ : ∃ E, judgeE m.f (⟨id, known, 8, owner, sort, plc, tick, low, high, void⟩ : Rp) = E := ⟨_, rfl⟩
 rw [hE]
 have HE := Lib.hid hE
 clear hs hE
 have hZ := fun W => c_zero (⟨id, known, 8, owner, sort, plc, tick, low, high, void⟩ : Rp) rfl W
 obtain ⟨Z, hZ0⟩ : ∃ Z, zeroB (⟨id, known, 8, owner, sort, plc, tick, low, high, void⟩ : Rp) = Z := ⟨_, rfl⟩
 rw [hZ0] at hZ
 have HZ := Lib.hid hZ
 have HZ0 := Lib.hid hZ0
 clear hZ hZ0
 go_enter Tryz.func121, Tryz.ntmps121
 go_upto_region 1 with (fail)
 go_name_world W1 hW1
 have hb0 : Below w.heap.size w W1 := by subst hW1; go_grown
 obtain ⟨q0, q1, q2, q3⟩ := (show QB m W1 w.heap.size from by subst hW1; and_intros <;> go_simp)
 obtain ⟨r0, r1, r2, r3, r4, r5, r6, r7, r8, r9⟩ := (show RB id known 8 owner sort plc tick low high void W1 (w.heap.size + 1) from by subst hW1; and_intros <;> go_simp)
 clear hW1 
 cases h1 : rg 1 1000000 id
 ·go_wp2_with fail
  refine (c_in_b (h1) _).mono ?_
  rintro e w2 ⟨rfl, rfl⟩
  go_wp2_with fail
  refine (c_unless_f _ _).mono ?_
  rintro e w2 ⟨rfl, rfl⟩
  go_wp2
  exact ⟨rfl, by rw [← HE.out, show judgeE m.f (⟨id, known, 8, owner, sort, plc, tick, low, high, void⟩ : Rp) = 1 from by unfold judgeE; simp [h1]]; rfl, by have hbz := hb0.size; go_grown⟩
 ·go_wp2_with fail
  refine (c_in_b (h1) _).mono ?_
  rintro e w2 ⟨rfl, rfl⟩
  cases h2 : rg 0 100000 known
  ·go_wp2_with fail
   refine (c_in_b (h2) _).mono ?_
   rintro e w2 ⟨rfl, rfl⟩
   go_wp2_with fail
   refine (c_unless_f _ _).mono ?_
   rintro e w2 ⟨rfl, rfl⟩
   go_wp2
   exact ⟨rfl, by rw [← HE.out, show judgeE m.f (⟨id, known, 8, owner, sort, plc, tick, low, high, void⟩ : Rp) = 1 from by unfold judgeE; simp [h1, h2]]; rfl, by have hbz := hb0.size; go_grown⟩
  ·go_wp2_with fail
   refine (c_in_b (h2) _).mono ?_
   rintro e w2 ⟨rfl, rfl⟩
   go_wp2_with fail
   refine (c_in_b (show rg 1 8 8 = true from rfl) _).mono ?_
   rintro e w2 ⟨rfl, rfl⟩
   go_wp2_with fail
   refine (c_unless_t _ _).mono ?_
   rintro e w2 ⟨rfl, rfl⟩
   cases Z
   ·go_wp2_with fail
    refine (via (w0 := W1) (by go_grown) (HZ.out _)).mono ?_
    rintro e W2 ⟨rfl, hc, hf, hz, hB⟩
    have zz := cy14 hc q0 q1 q2 q3 r0 r1 r2 r3 r4 r5 r6 r7 r8 r9
    clear q0 q1 q2 q3 r0 r1 r2 r3 r4 r5 r6 r7 r8 r9
    obtain ⟨q0, q1, q2, q3, r0, r1, r2, r3, r4, r5, r6, r7, r8, r9⟩ := zz
    replace hb0 : Below w.heap.size w W2 := bthen hb0 hB
    have hzW2 : W1.heap.size ≤ W2.heap.size := hz
    clear hc hf hB hz
    go_wp2_with fail
    refine (c_unless_f _ _).mono ?_
    rintro e w2 ⟨rfl, rfl⟩
    go_wp2
    exact ⟨rfl, by rw [← HE.out, show judgeE m.f (⟨id, known, 8, owner, sort, plc, tick, low, high, void⟩ : Rp) = 1 from by unfold judgeE; simp [h1, h2, (show rg 1 8 8 = true from rfl), HZ0.out]]; rfl, by have hbz := hb0.size; go_grown⟩
   ·go_wp2_with fail
    refine (via (w0 := W1) (by go_grown) (HZ.out _)).mono ?_
    rintro e W2 ⟨rfl, hc, hf, hz, hB⟩
    have zz := cy14 hc q0 q1 q2 q3 r0 r1 r2 r3 r4 r5 r6 r7 r8 r9
    clear q0 q1 q2 q3 r0 r1 r2 r3 r4 r5 r6 r7 r8 r9
    obtain ⟨q0, q1, q2, q3, r0, r1, r2, r3, r4, r5, r6, r7, r8, r9⟩ := zz
    replace hb0 : Below w.heap.size w W2 := bthen hb0 hB
    have hzW2 : W1.heap.size ≤ W2.heap.size := hz
    clear hc hf hB hz
    cases h4 : rg 1 1000000 void
    ·go_wp2_with fail
     refine (c_in_b (h4) _).mono ?_
     rintro e w2 ⟨rfl, rfl⟩
     go_wp2_with fail
     refine (c_unless_f _ _).mono ?_
     rintro e w2 ⟨rfl, rfl⟩
     go_wp2
     exact ⟨rfl, by rw [← HE.out, show judgeE m.f (⟨id, known, 8, owner, sort, plc, tick, low, high, void⟩ : Rp) = 1 from by unfold judgeE; simp [h1, h2, (show rg 1 8 8 = true from rfl), HZ0.out, h4]]; rfl, by have hbz := hb0.size; go_grown⟩
    ·go_wp2_with fail
     refine (c_in_b (h4) _).mono ?_
     rintro e w2 ⟨rfl, rfl⟩
     go_wp2_with fail
     refine (c_unless_t _ _).mono ?_
     rintro e w2 ⟨rfl, rfl⟩
     go_wp2_with fail
     refine bodyPost_ret (results_none rfl _ _ _) rfl ?_
     exact ⟨by rw [← HE.out, show judgeE m.f (⟨id, known, 8, owner, sort, plc, tick, low, high, void⟩ : Rp) = 0 from by unfold judgeE; simp [h1, h2, (show rg 1 8 8 = true from rfl), HZ0.out, h4]]; rfl, by have hbz := hb0.size; go_grown⟩
theorem c_judge_1 (m : Fm) (id known owner plc tick low high void : Int) (sort : ByteArray) (w : World) (hs : Small m.f) :
  Calls Tryz.prog 121 #[m.v, (⟨id, known, 1, owner, sort, plc, tick, low, high, void⟩ : Rp).v] w fun e w' => e = endV (judgeE m.f (⟨id, known, 1, owner, sort, plc, tick, low, high, void⟩ : Rp)) ∧ Below w.heap.size w w' := by
 have hT := hs.t0
 have hT2 := hs.t24
 have hP := hs.p8
 have hG := hs.g12
 obtain ⟨E, hE⟩ : ∃ E, judgeE m.f (⟨id, known, 1, owner, sort, plc, tick, low, high, void⟩ : Rp) = E := ⟨_, rfl⟩
 rw [hE]
 have HE := Lib.hid hE
 clear hs hE
 go_enter Tryz.func121, Tryz.ntmps121
 go_upto_region 1 with (fail)
 go_name_world W1 hW1
 have hb0 : Below w.heap.size w W1 := by subst hW1; go_grown
 obtain ⟨q0, q1, q2, q3⟩ := (show QB m W1 w.heap.size from by subst hW1; and_intros <;> go_simp)
 obtain ⟨r0, r1, r2, r3, r4, r5, r6, r7, r8, r9⟩ := (show RB id known 1 owner sort plc tick low high void W1 (w.heap.size + 1) from by subst hW1; and_intros <;> go_simp)
 clear hW1 
 cases h1 : rg 1 1000000 id
 ·go_wp2_with fail
  refine (c_in_b (h1) _).mono ?_
  rintro e w2 ⟨rfl, rfl⟩
  go_wp2_with fail
  refine (c_unless_f _ _).mono ?_
  rintro e w2 ⟨rfl, rfl⟩
  go_wp2
  exact ⟨rfl, by rw [← HE.out, show judgeE m.f (⟨id, known, 1, owner, sort, plc, tick, low, high, void⟩ : Rp) = 1 from by unfold judgeE; simp [h1]]; rfl, by have hbz := hb0.size; go_grown⟩
 ·go_wp2_with fail
  refine (c_in_b (h1) _).mono ?_
  rintro e w2 ⟨rfl, rfl⟩
  cases h2 : rg 0 100000 known
  ·go_wp2_with fail
   refine (c_in_b (h2) _).mono ?_
   rintro e w2 ⟨rfl, rfl⟩
   go_wp2_with fail
   refine (c_unless_f _ _).mono ?_
   rintro e w2 ⟨rfl, rfl⟩
   go_wp2
   exact ⟨rfl, by rw [← HE.out, show judgeE m.f (⟨id, known, 1, owner, sort, plc, tick, low, high, void⟩ : Rp) = 1 from by unfold judgeE; simp [h1, h2]]; rfl, by have hbz := hb0.size; go_grown⟩
  ·go_wp2_with fail
   refine (c_in_b (h2) _).mono ?_
   rintro e w2 ⟨rfl, rfl⟩
   go_wp2_with fail
   refine (c_in_b (show rg 1 8 1 = true from rfl) _).mono ?_
   rintro e w2 ⟨rfl, rfl⟩
   go_wp2_with fail
   refine (c_unless_t _ _).mono ?_
   rintro e w2 ⟨rfl, rfl⟩
   go_upto_region 4 with (fail)
   clear r0 r1 
   have kq0 := later_cell q0
   have kq1 := later_cell q1
   have kq2 := later_cell q2
   have kq3 := later_cell q3
   have kr2 := later_cell r2
   have kr3 := later_cell r3
   have kr4 := later_cell r4
   have kr5 := later_cell r5
   have kr6 := later_cell r6
   have kr7 := later_cell r7
   have kr8 := later_cell r8
   have kr9 := later_cell r9
   refine wp_region_later W1 (by kernel_rfl) (by kernel_rfl) (Below.refl _ _) ?_
   repeat (go_big_quiet_step (fail))
   refine wpQuiet_nil ?_
   rintro ⟨W2, hB⟩
   dsimp only
   have hc := (bcell hB).1
   have hf := (bcell hB).2
   have hz := hB.size
   clear kq0 kq1 kq2 kq3 kr2 kr3 kr4 kr5 kr6 kr7 kr8 kr9
   have zz := cy12 hc q0 q1 q2 q3 r2 r3 r4 r5 r6 r7 r8 r9
   clear q0 q1 q2 q3 r2 r3 r4 r5 r6 r7 r8 r9
   obtain ⟨q0, q1, q2, q3, r2, r3, r4, r5, r6, r7, r8, r9⟩ := zz
   replace hb0 : Below w.heap.size w W2 := bthen hb0 hB
   have hzW2 : W1.heap.size ≤ W2.heap.size := hz
   clear hc hf hB hz
   go_upto_region 11 with (fail)
   cases h4 : rg 1 40 owner
   ·go_wp2_with fail
    refine (c_in_b (h4) _).mono ?_
    rintro e w2 ⟨rfl, rfl⟩
    go_wp2_with fail
    refine (c_unless_f _ _).mono ?_
    rintro e w2 ⟨rfl, rfl⟩
    go_wp2
    exact ⟨rfl, by rw [← HE.out, show judgeE m.f (⟨id, known, 1, owner, sort, plc, tick, low, high, void⟩ : Rp) = 1 from by unfold judgeE; simp [h1, h2, (show rg 1 8 1 = true from rfl), (show lastT m.f 1 = m.f.ticks from by unfold lastT; simp), h4]]; rfl, by have hbz := hb0.size; go_grown⟩
   ·go_wp2_with fail
    refine (c_in_b (h4) _).mono ?_
    rintro e w2 ⟨rfl, rfl⟩
    cases h5 : nameB sort
    ·go_wp2_with fail
     refine (via (w0 := W2) (by go_grown) (c_isName_b h5 _)).mono ?_
     rintro e W3 ⟨rfl, hc, hf, hz, hB⟩
     have zz := cy12 hc q0 q1 q2 q3 r2 r3 r4 r5 r6 r7 r8 r9
     clear q0 q1 q2 q3 r2 r3 r4 r5 r6 r7 r8 r9
     obtain ⟨q0, q1, q2, q3, r2, r3, r4, r5, r6, r7, r8, r9⟩ := zz
     replace hb0 : Below w.heap.size w W3 := bthen hb0 hB
     have hzW3 : W2.heap.size ≤ W3.heap.size := hz
     clear hc hf hB hz
     go_wp2_with fail
     refine (c_unless_f _ _).mono ?_
     rintro e w2 ⟨rfl, rfl⟩
     go_wp2
     exact ⟨rfl, by rw [← HE.out, show judgeE m.f (⟨id, known, 1, owner, sort, plc, tick, low, high, void⟩ : Rp) = 1 from by unfold judgeE; simp [h1, h2, (show rg 1 8 1 = true from rfl), (show lastT m.f 1 = m.f.ticks from by unfold lastT; simp), h4, h5]]; rfl, by have hbz := hb0.size; go_grown⟩
    ·go_wp2_with fail
     refine (via (w0 := W2) (by go_grown) (c_isName_b h5 _)).mono ?_
     rintro e W3 ⟨rfl, hc, hf, hz, hB⟩
     have zz := cy12 hc q0 q1 q2 q3 r2 r3 r4 r5 r6 r7 r8 r9
     clear q0 q1 q2 q3 r2 r3 r4 r5 r6 r7 r8 r9
     obtain ⟨q0, q1, q2, q3, r2, r3, r4, r5, r6, r7, r8, r9⟩ := zz
     replace hb0 : Below w.heap.size w W3 := bthen hb0 hB
     have hzW3 : W2.heap.size ≤ W3.heap.size := hz
     clear hc hf hB hz
     cases h6 : rg 0 high low
     ·go_wp2_with fail
      refine (c_in_b (h6) _).mono ?_
      rintro e w2 ⟨rfl, rfl⟩
      go_wp2_with fail
      refine (c_unless_f _ _).mono ?_
      rintro e w2 ⟨rfl, rfl⟩
      go_wp2
      exact ⟨rfl, by rw [← HE.out, show judgeE m.f (⟨id, known, 1, owner, sort, plc, tick, low, high, void⟩ : Rp) = 1 from by unfold judgeE; simp [h1, h2, (show rg 1 8 1 = true from rfl), (show lastT m.f 1 = m.f.ticks from by unfold lastT; simp), h4, h5, h6]]; rfl, by have hbz := hb0.size; go_grown⟩
     ·go_wp2_with fail
      refine (c_in_b (h6) _).mono ?_
      rintro e w2 ⟨rfl, rfl⟩
      cases h7 : decide (high ≤ 1000)
      ·go_wp2_with fail
       refine (c_unless_f _ _).mono ?_
       rintro e w2 ⟨rfl, rfl⟩
       go_wp2
       exact ⟨rfl, by rw [← HE.out, show judgeE m.f (⟨id, known, 1, owner, sort, plc, tick, low, high, void⟩ : Rp) = 1 from by unfold judgeE; simp [h1, h2, (show rg 1 8 1 = true from rfl), (show lastT m.f 1 = m.f.ticks from by unfold lastT; simp), h4, h5, h6, h7]]; rfl, by have hbz := hb0.size; go_grown⟩
      ·cases h8 : void == 0
       ·go_wp2_with fail
        refine (c_unless_f _ _).mono ?_
        rintro e w2 ⟨rfl, rfl⟩
        go_wp2
        exact ⟨rfl, by rw [← HE.out, show judgeE m.f (⟨id, known, 1, owner, sort, plc, tick, low, high, void⟩ : Rp) = 1 from by unfold judgeE; simp [h1, h2, (show rg 1 8 1 = true from rfl), (show lastT m.f 1 = m.f.ticks from by unfold lastT; simp), h4, h5, h6, h7, h8]]; rfl, by have hbz := hb0.size; go_grown⟩
       ·cases h9 : rg 0 (m.f.ticks) tick
        ·go_wp2_with fail
         refine (c_in_b (h9) _).mono ?_
         rintro e w2 ⟨rfl, rfl⟩
         go_wp2_with fail
         refine (c_unless_f _ _).mono ?_
         rintro e w2 ⟨rfl, rfl⟩
         go_wp2
         exact ⟨rfl, by rw [← HE.out, show judgeE m.f (⟨id, known, 1, owner, sort, plc, tick, low, high, void⟩ : Rp) = 1 from by unfold judgeE; simp [h1, h2, (show rg 1 8 1 = true from rfl), (show lastT m.f 1 = m.f.ticks from by unfold lastT; simp), h4, h5, h6, h7, h8, h9]]; rfl, by have hbz := hb0.size; go_grown⟩
        ·go_wp2_with fail
         refine (c_in_b (h9) _).mono ?_
         rintro e w2 ⟨rfl, rfl⟩
         go_wp2_with fail
         refine (c_unless_t _ _).mono ?_
         rintro e w2 ⟨rfl, rfl⟩
         cases h11 : rg 0 ((m.f.places.length : Int) - 1) plc
         ·go_wp2_with fail
          refine (c_in_b (h11) _).mono ?_
          rintro e w2 ⟨rfl, rfl⟩
          go_wp2_with fail
          refine (c_unless_f _ _).mono ?_
          rintro e w2 ⟨rfl, rfl⟩
          go_wp2
          exact ⟨rfl, by rw [← HE.out, show judgeE m.f (⟨id, known, 1, owner, sort, plc, tick, low, high, void⟩ : Rp) = 50 from by unfold judgeE; simp [h1, h2, (show rg 1 8 1 = true from rfl), (show lastT m.f 1 = m.f.ticks from by unfold lastT; simp), h4, h5, h6, h7, h8, h9, (show thingsN m.f 1 = (m.f.places.length : Int) from by unfold thingsN; simp), h11]]; rfl, by have hbz := hb0.size; go_grown⟩
         ·go_wp2_with fail
          refine (c_in_b (h11) _).mono ?_
          rintro e w2 ⟨rfl, rfl⟩
          go_wp2_with fail
          refine (c_unless_t _ _).mono ?_
          rintro e w2 ⟨rfl, rfl⟩
          go_wp2_with fail
          go_end0
          exact ⟨by rw [← HE.out, show judgeE m.f (⟨id, known, 1, owner, sort, plc, tick, low, high, void⟩ : Rp) = 0 from by unfold judgeE; simp [h1, h2, (show rg 1 8 1 = true from rfl), (show lastT m.f 1 = m.f.ticks from by unfold lastT; simp), h4, h5, h6, h7, h8, h9, (show thingsN m.f 1 = (m.f.places.length : Int) from by unfold thingsN; simp), h11]]; rfl, by have hbz := hb0.size; go_grown⟩
theorem c_judge_2 (m : Fm) (id known owner plc tick low high void : Int) (sort : ByteArray) (w : World) (hs : Small m.f) :
  Calls Tryz.prog 121 #[m.v, (⟨id, known, 2, owner, sort, plc, tick, low, high, void⟩ : Rp).v] w fun e w' => e = endV (judgeE m.f (⟨id, known, 2, owner, sort, plc, tick, low, high, void⟩ : Rp)) ∧ Below w.heap.size w w' := by
 have hT := hs.t0
 have hT2 := hs.t24
 have hP := hs.p8
 have hG := hs.g12
 obtain ⟨E, hE⟩ : ∃ E, judgeE m.f (⟨id, known, 2, owner, sort, plc, tick, low, high, void⟩ : Rp) = E := ⟨_, rfl⟩
 rw [hE]
 have HE := Lib.hid hE
 clear hs hE
 go_enter Tryz.func121, Tryz.ntmps121
 go_upto_region 1 with (fail)
 go_name_world W1 hW1
 have hb0 : Below w.heap.size w W1 := by subst hW1; go_grown
 obtain ⟨q0, q1, q2, q3⟩ := (show QB m W1 w.heap.size from by subst hW1; and_intros <;> go_simp)
 obtain ⟨r0, r1, r2, r3, r4, r5, r6, r7, r8, r9⟩ := (show RB id known 2 owner sort plc tick low high void W1 (w.heap.size + 1) from by subst hW1; and_intros <;> go_simp)
 clear hW1 
 cases h1 : rg 1 1000000 id
 ·go_wp2_with fail
  refine (c_in_b (h1) _).mono ?_
  rintro e w2 ⟨rfl, rfl⟩
  go_wp2_with fail
  refine (c_unless_f _ _).mono ?_
  rintro e w2 ⟨rfl, rfl⟩
  go_wp2
  exact ⟨rfl, by rw [← HE.out, show judgeE m.f (⟨id, known, 2, owner, sort, plc, tick, low, high, void⟩ : Rp) = 1 from by unfold judgeE; simp [h1]]; rfl, by have hbz := hb0.size; go_grown⟩
 ·go_wp2_with fail
  refine (c_in_b (h1) _).mono ?_
  rintro e w2 ⟨rfl, rfl⟩
  cases h2 : rg 0 100000 known
  ·go_wp2_with fail
   refine (c_in_b (h2) _).mono ?_
   rintro e w2 ⟨rfl, rfl⟩
   go_wp2_with fail
   refine (c_unless_f _ _).mono ?_
   rintro e w2 ⟨rfl, rfl⟩
   go_wp2
   exact ⟨rfl, by rw [← HE.out, show judgeE m.f (⟨id, known, 2, owner, sort, plc, tick, low, high, void⟩ : Rp) = 1 from by unfold judgeE; simp [h1, h2]]; rfl, by have hbz := hb0.size; go_grown⟩
  ·go_wp2_with fail
   refine (c_in_b (h2) _).mono ?_
   rintro e w2 ⟨rfl, rfl⟩
   go_wp2_with fail
   refine (c_in_b (show rg 1 8 2 = true from rfl) _).mono ?_
   rintro e w2 ⟨rfl, rfl⟩
   go_wp2_with fail
   refine (c_unless_t _ _).mono ?_
   rintro e w2 ⟨rfl, rfl⟩
   go_upto_region 4 with (fail)
   clear r0 r1 
   have kq0 := later_cell q0
   have kq1 := later_cell q1
   have kq2 := later_cell q2
   have kq3 := later_cell q3
   have kr2 := later_cell r2
   have kr3 := later_cell r3
   have kr4 := later_cell r4
   have kr5 := later_cell r5
   have kr6 := later_cell r6
   have kr7 := later_cell r7
   have kr8 := later_cell r8
   have kr9 := later_cell r9
   refine wp_region_later W1 (by kernel_rfl) (by kernel_rfl) (Below.refl _ _) ?_
   repeat (go_big_quiet_step (fail))
   refine wpQuiet_nil ?_
   rintro ⟨W2, hB⟩
   dsimp only
   have hc := (bcell hB).1
   have hf := (bcell hB).2
   have hz := hB.size
   clear kq0 kq1 kq2 kq3 kr2 kr3 kr4 kr5 kr6 kr7 kr8 kr9
   have zz := cy12 hc q0 q1 q2 q3 r2 r3 r4 r5 r6 r7 r8 r9
   clear q0 q1 q2 q3 r2 r3 r4 r5 r6 r7 r8 r9
   obtain ⟨q0, q1, q2, q3, r2, r3, r4, r5, r6, r7, r8, r9⟩ := zz
   replace hb0 : Below w.heap.size w W2 := bthen hb0 hB
   have hzW2 : W1.heap.size ≤ W2.heap.size := hz
   clear hc hf hB hz
   go_upto_region 11 with (fail)
   cases h4 : rg 1 40 owner
   ·go_wp2_with fail
    refine (c_in_b (h4) _).mono ?_
    rintro e w2 ⟨rfl, rfl⟩
    go_wp2_with fail
    refine (c_unless_f _ _).mono ?_
    rintro e w2 ⟨rfl, rfl⟩
    go_wp2
    exact ⟨rfl, by rw [← HE.out, show judgeE m.f (⟨id, known, 2, owner, sort, plc, tick, low, high, void⟩ : Rp) = 1 from by unfold judgeE; simp [h1, h2, (show rg 1 8 2 = true from rfl), (show lastT m.f 2 = m.f.ticks - 1 from by unfold lastT; simp), h4]]; rfl, by have hbz := hb0.size; go_grown⟩
   ·go_wp2_with fail
    refine (c_in_b (h4) _).mono ?_
    rintro e w2 ⟨rfl, rfl⟩
    cases h5 : nameB sort
    ·go_wp2_with fail
     refine (via (w0 := W2) (by go_grown) (c_isName_b h5 _)).mono ?_
     rintro e W3 ⟨rfl, hc, hf, hz, hB⟩
     have zz := cy12 hc q0 q1 q2 q3 r2 r3 r4 r5 r6 r7 r8 r9
     clear q0 q1 q2 q3 r2 r3 r4 r5 r6 r7 r8 r9
     obtain ⟨q0, q1, q2, q3, r2, r3, r4, r5, r6, r7, r8, r9⟩ := zz
     replace hb0 : Below w.heap.size w W3 := bthen hb0 hB
     have hzW3 : W2.heap.size ≤ W3.heap.size := hz
     clear hc hf hB hz
     go_wp2_with fail
     refine (c_unless_f _ _).mono ?_
     rintro e w2 ⟨rfl, rfl⟩
     go_wp2
     exact ⟨rfl, by rw [← HE.out, show judgeE m.f (⟨id, known, 2, owner, sort, plc, tick, low, high, void⟩ : Rp) = 1 from by unfold judgeE; simp [h1, h2, (show rg 1 8 2 = true from rfl), (show lastT m.f 2 = m.f.ticks - 1 from by unfold lastT; simp), h4, h5]]; rfl, by have hbz := hb0.size; go_grown⟩
    ·go_wp2_with fail
     refine (via (w0 := W2) (by go_grown) (c_isName_b h5 _)).mono ?_
     rintro e W3 ⟨rfl, hc, hf, hz, hB⟩
     have zz := cy12 hc q0 q1 q2 q3 r2 r3 r4 r5 r6 r7 r8 r9
     clear q0 q1 q2 q3 r2 r3 r4 r5 r6 r7 r8 r9
     obtain ⟨q0, q1, q2, q3, r2, r3, r4, r5, r6, r7, r8, r9⟩ := zz
     replace hb0 : Below w.heap.size w W3 := bthen hb0 hB
     have hzW3 : W2.heap.size ≤ W3.heap.size := hz
     clear hc hf hB hz
     cases h6 : rg 0 high low
     ·go_wp2_with fail
      refine (c_in_b (h6) _).mono ?_
      rintro e w2 ⟨rfl, rfl⟩
      go_wp2_with fail
      refine (c_unless_f _ _).mono ?_
      rintro e w2 ⟨rfl, rfl⟩
      go_wp2
      exact ⟨rfl, by rw [← HE.out, show judgeE m.f (⟨id, known, 2, owner, sort, plc, tick, low, high, void⟩ : Rp) = 1 from by unfold judgeE; simp [h1, h2, (show rg 1 8 2 = true from rfl), (show lastT m.f 2 = m.f.ticks - 1 from by unfold lastT; simp), h4, h5, h6]]; rfl, by have hbz := hb0.size; go_grown⟩
     ·go_wp2_with fail
      refine (c_in_b (h6) _).mono ?_
      rintro e w2 ⟨rfl, rfl⟩
      cases h7 : decide (high ≤ 1000)
      ·go_wp2_with fail
       refine (c_unless_f _ _).mono ?_
       rintro e w2 ⟨rfl, rfl⟩
       go_wp2
       exact ⟨rfl, by rw [← HE.out, show judgeE m.f (⟨id, known, 2, owner, sort, plc, tick, low, high, void⟩ : Rp) = 1 from by unfold judgeE; simp [h1, h2, (show rg 1 8 2 = true from rfl), (show lastT m.f 2 = m.f.ticks - 1 from by unfold lastT; simp), h4, h5, h6, h7]]; rfl, by have hbz := hb0.size; go_grown⟩
      ·cases h8 : void == 0
       ·go_wp2_with fail
        refine (c_unless_f _ _).mono ?_
        rintro e w2 ⟨rfl, rfl⟩
        go_wp2
        exact ⟨rfl, by rw [← HE.out, show judgeE m.f (⟨id, known, 2, owner, sort, plc, tick, low, high, void⟩ : Rp) = 1 from by unfold judgeE; simp [h1, h2, (show rg 1 8 2 = true from rfl), (show lastT m.f 2 = m.f.ticks - 1 from by unfold lastT; simp), h4, h5, h6, h7, h8]]; rfl, by have hbz := hb0.size; go_grown⟩
       ·cases h9 : rg 0 (m.f.ticks - 1) tick
        ·go_wp2_with fail
         refine (c_in_b (h9) _).mono ?_
         rintro e w2 ⟨rfl, rfl⟩
         go_wp2_with fail
         refine (c_unless_f _ _).mono ?_
         rintro e w2 ⟨rfl, rfl⟩
         go_wp2
         exact ⟨rfl, by rw [← HE.out, show judgeE m.f (⟨id, known, 2, owner, sort, plc, tick, low, high, void⟩ : Rp) = 1 from by unfold judgeE; simp [h1, h2, (show rg 1 8 2 = true from rfl), (show lastT m.f 2 = m.f.ticks - 1 from by unfold lastT; simp), h4, h5, h6, h7, h8, h9]]; rfl, by have hbz := hb0.size; go_grown⟩
        ·go_wp2_with fail
         refine (c_in_b (h9) _).mono ?_
         rintro e w2 ⟨rfl, rfl⟩
         go_wp2_with fail
         refine (c_unless_t _ _).mono ?_
         rintro e w2 ⟨rfl, rfl⟩
         cases h11 : rg 0 ((m.f.gates.length : Int) - 1) plc
         ·go_wp2_with fail
          refine (c_in_b (h11) _).mono ?_
          rintro e w2 ⟨rfl, rfl⟩
          go_wp2_with fail
          refine (c_unless_f _ _).mono ?_
          rintro e w2 ⟨rfl, rfl⟩
          go_wp2
          exact ⟨rfl, by rw [← HE.out, show judgeE m.f (⟨id, known, 2, owner, sort, plc, tick, low, high, void⟩ : Rp) = 50 from by unfold judgeE; simp [h1, h2, (show rg 1 8 2 = true from rfl), (show lastT m.f 2 = m.f.ticks - 1 from by unfold lastT; simp), h4, h5, h6, h7, h8, h9, (show thingsN m.f 2 = (m.f.gates.length : Int) from by unfold thingsN; simp), h11]]; rfl, by have hbz := hb0.size; go_grown⟩
         ·go_wp2_with fail
          refine (c_in_b (h11) _).mono ?_
          rintro e w2 ⟨rfl, rfl⟩
          go_wp2_with fail
          refine (c_unless_t _ _).mono ?_
          rintro e w2 ⟨rfl, rfl⟩
          go_wp2_with fail
          go_end0
          exact ⟨by rw [← HE.out, show judgeE m.f (⟨id, known, 2, owner, sort, plc, tick, low, high, void⟩ : Rp) = 0 from by unfold judgeE; simp [h1, h2, (show rg 1 8 2 = true from rfl), (show lastT m.f 2 = m.f.ticks - 1 from by unfold lastT; simp), h4, h5, h6, h7, h8, h9, (show thingsN m.f 2 = (m.f.gates.length : Int) from by unfold thingsN; simp), h11]]; rfl, by have hbz := hb0.size; go_grown⟩
theorem c_judge_3 (m : Fm) (id known owner plc tick low high void : Int) (sort : ByteArray) (w : World) (hs : Small m.f) :
  Calls Tryz.prog 121 #[m.v, (⟨id, known, 3, owner, sort, plc, tick, low, high, void⟩ : Rp).v] w fun e w' => e = endV (judgeE m.f (⟨id, known, 3, owner, sort, plc, tick, low, high, void⟩ : Rp)) ∧ Below w.heap.size w w' := by
 have hT := hs.t0
 have hT2 := hs.t24
 have hP := hs.p8
 have hG := hs.g12
 obtain ⟨E, hE⟩ : ∃ E, judgeE m.f (⟨id, known, 3, owner, sort, plc, tick, low, high, void⟩ : Rp) = E := ⟨_, rfl⟩
 rw [hE]
 have HE := Lib.hid hE
 clear hs hE
 go_enter Tryz.func121, Tryz.ntmps121
 go_upto_region 1 with (fail)
 go_name_world W1 hW1
 have hb0 : Below w.heap.size w W1 := by subst hW1; go_grown
 obtain ⟨q0, q1, q2, q3⟩ := (show QB m W1 w.heap.size from by subst hW1; and_intros <;> go_simp)
 obtain ⟨r0, r1, r2, r3, r4, r5, r6, r7, r8, r9⟩ := (show RB id known 3 owner sort plc tick low high void W1 (w.heap.size + 1) from by subst hW1; and_intros <;> go_simp)
 clear hW1 
 cases h1 : rg 1 1000000 id
 ·go_wp2_with fail
  refine (c_in_b (h1) _).mono ?_
  rintro e w2 ⟨rfl, rfl⟩
  go_wp2_with fail
  refine (c_unless_f _ _).mono ?_
  rintro e w2 ⟨rfl, rfl⟩
  go_wp2
  exact ⟨rfl, by rw [← HE.out, show judgeE m.f (⟨id, known, 3, owner, sort, plc, tick, low, high, void⟩ : Rp) = 1 from by unfold judgeE; simp [h1]]; rfl, by have hbz := hb0.size; go_grown⟩
 ·go_wp2_with fail
  refine (c_in_b (h1) _).mono ?_
  rintro e w2 ⟨rfl, rfl⟩
  cases h2 : rg 0 100000 known
  ·go_wp2_with fail
   refine (c_in_b (h2) _).mono ?_
   rintro e w2 ⟨rfl, rfl⟩
   go_wp2_with fail
   refine (c_unless_f _ _).mono ?_
   rintro e w2 ⟨rfl, rfl⟩
   go_wp2
   exact ⟨rfl, by rw [← HE.out, show judgeE m.f (⟨id, known, 3, owner, sort, plc, tick, low, high, void⟩ : Rp) = 1 from by unfold judgeE; simp [h1, h2]]; rfl, by have hbz := hb0.size; go_grown⟩
  ·go_wp2_with fail
   refine (c_in_b (h2) _).mono ?_
   rintro e w2 ⟨rfl, rfl⟩
   go_wp2_with fail
   refine (c_in_b (show rg 1 8 3 = true from rfl) _).mono ?_
   rintro e w2 ⟨rfl, rfl⟩
   go_wp2_with fail
   refine (c_unless_t _ _).mono ?_
   rintro e w2 ⟨rfl, rfl⟩
   go_upto_region 4 with (fail)
   clear r0 r1 
   have kq0 := later_cell q0
   have kq1 := later_cell q1
   have kq2 := later_cell q2
   have kq3 := later_cell q3
   have kr2 := later_cell r2
   have kr3 := later_cell r3
   have kr4 := later_cell r4
   have kr5 := later_cell r5
   have kr6 := later_cell r6
   have kr7 := later_cell r7
   have kr8 := later_cell r8
   have kr9 := later_cell r9
   refine wp_region_later W1 (by kernel_rfl) (by kernel_rfl) (Below.refl _ _) ?_
   repeat (go_big_quiet_step (fail))
   refine wpQuiet_nil ?_
   rintro ⟨W2, hB⟩
   dsimp only
   have hc := (bcell hB).1
   have hf := (bcell hB).2
   have hz := hB.size
   clear kq0 kq1 kq2 kq3 kr2 kr3 kr4 kr5 kr6 kr7 kr8 kr9
   have zz := cy12 hc q0 q1 q2 q3 r2 r3 r4 r5 r6 r7 r8 r9
   clear q0 q1 q2 q3 r2 r3 r4 r5 r6 r7 r8 r9
   obtain ⟨q0, q1, q2, q3, r2, r3, r4, r5, r6, r7, r8, r9⟩ := zz
   replace hb0 : Below w.heap.size w W2 := bthen hb0 hB
   have hzW2 : W1.heap.size ≤ W2.heap.size := hz
   clear hc hf hB hz
   go_upto_region 11 with (fail)
   cases h4 : rg 1 40 owner
   ·go_wp2_with fail
    refine (c_in_b (h4) _).mono ?_
    rintro e w2 ⟨rfl, rfl⟩
    go_wp2_with fail
    refine (c_unless_f _ _).mono ?_
    rintro e w2 ⟨rfl, rfl⟩
    go_wp2
    exact ⟨rfl, by rw [← HE.out, show judgeE m.f (⟨id, known, 3, owner, sort, plc, tick, low, high, void⟩ : Rp) = 1 from by unfold judgeE; simp [h1, h2, (show rg 1 8 3 = true from rfl), (show lastT m.f 3 = m.f.ticks - 1 from by unfold lastT; simp), h4]]; rfl, by have hbz := hb0.size; go_grown⟩
   ·go_wp2_with fail
    refine (c_in_b (h4) _).mono ?_
    rintro e w2 ⟨rfl, rfl⟩
    cases h5 : nameB sort
    ·go_wp2_with fail
     refine (via (w0 := W2) (by go_grown) (c_isName_b h5 _)).mono ?_
     rintro e W3 ⟨rfl, hc, hf, hz, hB⟩
     have zz := cy12 hc q0 q1 q2 q3 r2 r3 r4 r5 r6 r7 r8 r9
     clear q0 q1 q2 q3 r2 r3 r4 r5 r6 r7 r8 r9
     obtain ⟨q0, q1, q2, q3, r2, r3, r4, r5, r6, r7, r8, r9⟩ := zz
     replace hb0 : Below w.heap.size w W3 := bthen hb0 hB
     have hzW3 : W2.heap.size ≤ W3.heap.size := hz
     clear hc hf hB hz
     go_wp2_with fail
     refine (c_unless_f _ _).mono ?_
     rintro e w2 ⟨rfl, rfl⟩
     go_wp2
     exact ⟨rfl, by rw [← HE.out, show judgeE m.f (⟨id, known, 3, owner, sort, plc, tick, low, high, void⟩ : Rp) = 1 from by unfold judgeE; simp [h1, h2, (show rg 1 8 3 = true from rfl), (show lastT m.f 3 = m.f.ticks - 1 from by unfold lastT; simp), h4, h5]]; rfl, by have hbz := hb0.size; go_grown⟩
    ·go_wp2_with fail
     refine (via (w0 := W2) (by go_grown) (c_isName_b h5 _)).mono ?_
     rintro e W3 ⟨rfl, hc, hf, hz, hB⟩
     have zz := cy12 hc q0 q1 q2 q3 r2 r3 r4 r5 r6 r7 r8 r9
     clear q0 q1 q2 q3 r2 r3 r4 r5 r6 r7 r8 r9
     obtain ⟨q0, q1, q2, q3, r2, r3, r4, r5, r6, r7, r8, r9⟩ := zz
     replace hb0 : Below w.heap.size w W3 := bthen hb0 hB
     have hzW3 : W2.heap.size ≤ W3.heap.size := hz
     clear hc hf hB hz
     cases h6 : rg 0 high low
     ·go_wp2_with fail
      refine (c_in_b (h6) _).mono ?_
      rintro e w2 ⟨rfl, rfl⟩
      go_wp2_with fail
      refine (c_unless_f _ _).mono ?_
      rintro e w2 ⟨rfl, rfl⟩
      go_wp2
      exact ⟨rfl, by rw [← HE.out, show judgeE m.f (⟨id, known, 3, owner, sort, plc, tick, low, high, void⟩ : Rp) = 1 from by unfold judgeE; simp [h1, h2, (show rg 1 8 3 = true from rfl), (show lastT m.f 3 = m.f.ticks - 1 from by unfold lastT; simp), h4, h5, h6]]; rfl, by have hbz := hb0.size; go_grown⟩
     ·go_wp2_with fail
      refine (c_in_b (h6) _).mono ?_
      rintro e w2 ⟨rfl, rfl⟩
      cases h7 : decide (high ≤ 1000)
      ·go_wp2_with fail
       refine (c_unless_f _ _).mono ?_
       rintro e w2 ⟨rfl, rfl⟩
       go_wp2
       exact ⟨rfl, by rw [← HE.out, show judgeE m.f (⟨id, known, 3, owner, sort, plc, tick, low, high, void⟩ : Rp) = 1 from by unfold judgeE; simp [h1, h2, (show rg 1 8 3 = true from rfl), (show lastT m.f 3 = m.f.ticks - 1 from by unfold lastT; simp), h4, h5, h6, h7]]; rfl, by have hbz := hb0.size; go_grown⟩
      ·cases h8 : void == 0
       ·go_wp2_with fail
        refine (c_unless_f _ _).mono ?_
        rintro e w2 ⟨rfl, rfl⟩
        go_wp2
        exact ⟨rfl, by rw [← HE.out, show judgeE m.f (⟨id, known, 3, owner, sort, plc, tick, low, high, void⟩ : Rp) = 1 from by unfold judgeE; simp [h1, h2, (show rg 1 8 3 = true from rfl), (show lastT m.f 3 = m.f.ticks - 1 from by unfold lastT; simp), h4, h5, h6, h7, h8]]; rfl, by have hbz := hb0.size; go_grown⟩
       ·cases h9 : rg 0 (m.f.ticks - 1) tick
        ·go_wp2_with fail
         refine (c_in_b (h9) _).mono ?_
         rintro e w2 ⟨rfl, rfl⟩
         go_wp2_with fail
         refine (c_unless_f _ _).mono ?_
         rintro e w2 ⟨rfl, rfl⟩
         go_wp2
         exact ⟨rfl, by rw [← HE.out, show judgeE m.f (⟨id, known, 3, owner, sort, plc, tick, low, high, void⟩ : Rp) = 1 from by unfold judgeE; simp [h1, h2, (show rg 1 8 3 = true from rfl), (show lastT m.f 3 = m.f.ticks - 1 from by unfold lastT; simp), h4, h5, h6, h7, h8, h9]]; rfl, by have hbz := hb0.size; go_grown⟩
        ·go_wp2_with fail
         refine (c_in_b (h9) _).mono ?_
         rintro e w2 ⟨rfl, rfl⟩
         go_wp2_with fail
         refine (c_unless_t _ _).mono ?_
         rintro e w2 ⟨rfl, rfl⟩
         cases h11 : rg 0 ((m.f.gates.length : Int) - 1) plc
         ·go_wp2_with fail
          refine (c_in_b (h11) _).mono ?_
          rintro e w2 ⟨rfl, rfl⟩
          go_wp2_with fail
          refine (c_unless_f _ _).mono ?_
          rintro e w2 ⟨rfl, rfl⟩
          go_wp2
          exact ⟨rfl, by rw [← HE.out, show judgeE m.f (⟨id, known, 3, owner, sort, plc, tick, low, high, void⟩ : Rp) = 50 from by unfold judgeE; simp [h1, h2, (show rg 1 8 3 = true from rfl), (show lastT m.f 3 = m.f.ticks - 1 from by unfold lastT; simp), h4, h5, h6, h7, h8, h9, (show thingsN m.f 3 = (m.f.gates.length : Int) from by unfold thingsN; simp), h11]]; rfl, by have hbz := hb0.size; go_grown⟩
         ·go_wp2_with fail
          refine (c_in_b (h11) _).mono ?_
          rintro e w2 ⟨rfl, rfl⟩
          go_wp2_with fail
          refine (c_unless_t _ _).mono ?_
          rintro e w2 ⟨rfl, rfl⟩
          go_wp2_with fail
          go_end0
          exact ⟨by rw [← HE.out, show judgeE m.f (⟨id, known, 3, owner, sort, plc, tick, low, high, void⟩ : Rp) = 0 from by unfold judgeE; simp [h1, h2, (show rg 1 8 3 = true from rfl), (show lastT m.f 3 = m.f.ticks - 1 from by unfold lastT; simp), h4, h5, h6, h7, h8, h9, (show thingsN m.f 3 = (m.f.gates.length : Int) from by unfold thingsN; simp), h11]]; rfl, by have hbz := hb0.size; go_grown⟩
theorem c_judge_o (m : Fm) (id known kind owner plc tick low high void : Int) (sort : ByteArray) (w : World) (hs : Small m.f) (k0 : 0 ≤ kind) (k1 : kind ≤ 255) (n1 : ¬ kind = 1) (n2 : ¬ kind = 2) (n3 : ¬ kind = 3) (n8 : ¬ kind = 8) :
  Calls Tryz.prog 121 #[m.v, (⟨id, known, kind, owner, sort, plc, tick, low, high, void⟩ : Rp).v] w fun e w' => e = endV (judgeE m.f (⟨id, known, kind, owner, sort, plc, tick, low, high, void⟩ : Rp)) ∧ Below w.heap.size w w' := by
 have hT := hs.t0
 have hT2 := hs.t24
 have hP := hs.p8
 have hG := hs.g12
 obtain ⟨E, hE⟩ : ∃ E, judgeE m.f (⟨id, known, kind, owner, sort, plc, tick, low, high, void⟩ : Rp) = E := ⟨_, rfl⟩
 rw [hE]
 have HE := Lib.hid hE
 clear hs hE
 have u1 : IntKind.i64.wrap kind = kind := IntWalk.i64_in _ (by omega)
 have N1 := Lib.hid n1
 have N2 := Lib.hid n2
 have N3 := Lib.hid n3
 have N8 := Lib.hid n8
 have e1 : (kind == 1) = false := beq_eq_false_iff_ne.2 n1
 have e2 : (kind == 2) = false := beq_eq_false_iff_ne.2 n2
 have e3 : (kind == 3) = false := beq_eq_false_iff_ne.2 n3
 have e8 : (kind == 8) = false := beq_eq_false_iff_ne.2 n8
 go_enter Tryz.func121, Tryz.ntmps121
 go_upto_region 1 with (fail)
 go_name_world W1 hW1
 have hb0 : Below w.heap.size w W1 := by subst hW1; go_grown
 obtain ⟨q0, q1, q2, q3⟩ := (show QB m W1 w.heap.size from by subst hW1; and_intros <;> go_simp)
 obtain ⟨r0, r1, r2, r3, r4, r5, r6, r7, r8, r9⟩ := (show RB id known kind owner sort plc tick low high void W1 (w.heap.size + 1) from by subst hW1; and_intros <;> go_simp)
 clear hW1 
 cases h1 : rg 1 1000000 id
 ·go_wp2_with fail
  refine (c_in_b (h1) _).mono ?_
  rintro e w2 ⟨rfl, rfl⟩
  go_wp2_with fail
  refine (c_unless_f _ _).mono ?_
  rintro e w2 ⟨rfl, rfl⟩
  go_wp2
  exact ⟨rfl, by rw [← HE.out, show judgeE m.f (⟨id, known, kind, owner, sort, plc, tick, low, high, void⟩ : Rp) = 1 from by unfold judgeE; simp [h1]]; rfl, by have hbz := hb0.size; go_grown⟩
 ·go_wp2_with fail
  refine (c_in_b (h1) _).mono ?_
  rintro e w2 ⟨rfl, rfl⟩
  cases h2 : rg 0 100000 known
  ·go_wp2_with fail
   refine (c_in_b (h2) _).mono ?_
   rintro e w2 ⟨rfl, rfl⟩
   go_wp2_with fail
   refine (c_unless_f _ _).mono ?_
   rintro e w2 ⟨rfl, rfl⟩
   go_wp2
   exact ⟨rfl, by rw [← HE.out, show judgeE m.f (⟨id, known, kind, owner, sort, plc, tick, low, high, void⟩ : Rp) = 1 from by unfold judgeE; simp [h1, h2]]; rfl, by have hbz := hb0.size; go_grown⟩
  ·go_wp2_with fail
   refine (c_in_b (h2) _).mono ?_
   rintro e w2 ⟨rfl, rfl⟩
   cases h3 : rg 1 8 kind
   ·go_wp2_with fail
    refine (c_in_b (h3) _).mono ?_
    rintro e w2 ⟨rfl, rfl⟩
    go_wp2_with fail
    refine (c_unless_f _ _).mono ?_
    rintro e w2 ⟨rfl, rfl⟩
    go_wp2
    exact ⟨rfl, by rw [← HE.out, show judgeE m.f (⟨id, known, kind, owner, sort, plc, tick, low, high, void⟩ : Rp) = 1 from by unfold judgeE; simp [h1, h2, h3]]; rfl, by have hbz := hb0.size; go_grown⟩
   ·go_wp2_with fail
    refine (c_in_b (h3) _).mono ?_
    rintro e w2 ⟨rfl, rfl⟩
    go_wp2_with fail
    refine (c_unless_t _ _).mono ?_
    rintro e w2 ⟨rfl, rfl⟩
    go_upto_region 4 with (fail)
    clear r0 r1 
    have kq0 := later_cell q0
    have kq1 := later_cell q1
    have kq2 := later_cell q2
    have kq3 := later_cell q3
    have kr2 := later_cell r2
    have kr3 := later_cell r3
    have kr4 := later_cell r4
    have kr5 := later_cell r5
    have kr6 := later_cell r6
    have kr7 := later_cell r7
    have kr8 := later_cell r8
    have kr9 := later_cell r9
    refine wp_region_later W1 (by kernel_rfl) (by kernel_rfl) (Below.refl _ _) ?_
    repeat (go_big_quiet_step (fail))
    refine wpQuiet_nil ?_
    rintro ⟨W2, hB⟩
    dsimp only
    have hc := (bcell hB).1
    have hf := (bcell hB).2
    have hz := hB.size
    clear kq0 kq1 kq2 kq3 kr2 kr3 kr4 kr5 kr6 kr7 kr8 kr9
    have zz := cy12 hc q0 q1 q2 q3 r2 r3 r4 r5 r6 r7 r8 r9
    clear q0 q1 q2 q3 r2 r3 r4 r5 r6 r7 r8 r9
    obtain ⟨q0, q1, q2, q3, r2, r3, r4, r5, r6, r7, r8, r9⟩ := zz
    replace hb0 : Below w.heap.size w W2 := bthen hb0 hB
    have hzW2 : W1.heap.size ≤ W2.heap.size := hz
    clear hc hf hB hz
    go_upto_region 11 with (fail)
    cases h4 : rg 1 40 owner
    ·go_wp2_with fail
     refine (c_in_b (h4) _).mono ?_
     rintro e w2 ⟨rfl, rfl⟩
     go_wp2_with fail
     refine (c_unless_f _ _).mono ?_
     rintro e w2 ⟨rfl, rfl⟩
     go_wp2
     exact ⟨rfl, by rw [← HE.out, show judgeE m.f (⟨id, known, kind, owner, sort, plc, tick, low, high, void⟩ : Rp) = 1 from by unfold judgeE; simp [h1, h2, h3, N8.out, (show lastT m.f kind = m.f.ticks - 1 from by unfold lastT; simp [N1.out]), h4]]; rfl, by have hbz := hb0.size; go_grown⟩
    ·go_wp2_with fail
     refine (c_in_b (h4) _).mono ?_
     rintro e w2 ⟨rfl, rfl⟩
     cases h5 : nameB sort
     ·go_wp2_with fail
      refine (via (w0 := W2) (by go_grown) (c_isName_b h5 _)).mono ?_
      rintro e W3 ⟨rfl, hc, hf, hz, hB⟩
      have zz := cy12 hc q0 q1 q2 q3 r2 r3 r4 r5 r6 r7 r8 r9
      clear q0 q1 q2 q3 r2 r3 r4 r5 r6 r7 r8 r9
      obtain ⟨q0, q1, q2, q3, r2, r3, r4, r5, r6, r7, r8, r9⟩ := zz
      replace hb0 : Below w.heap.size w W3 := bthen hb0 hB
      have hzW3 : W2.heap.size ≤ W3.heap.size := hz
      clear hc hf hB hz
      go_wp2_with fail
      refine (c_unless_f _ _).mono ?_
      rintro e w2 ⟨rfl, rfl⟩
      go_wp2
      exact ⟨rfl, by rw [← HE.out, show judgeE m.f (⟨id, known, kind, owner, sort, plc, tick, low, high, void⟩ : Rp) = 1 from by unfold judgeE; simp [h1, h2, h3, N8.out, (show lastT m.f kind = m.f.ticks - 1 from by unfold lastT; simp [N1.out]), h4, h5]]; rfl, by have hbz := hb0.size; go_grown⟩
     ·go_wp2_with fail
      refine (via (w0 := W2) (by go_grown) (c_isName_b h5 _)).mono ?_
      rintro e W3 ⟨rfl, hc, hf, hz, hB⟩
      have zz := cy12 hc q0 q1 q2 q3 r2 r3 r4 r5 r6 r7 r8 r9
      clear q0 q1 q2 q3 r2 r3 r4 r5 r6 r7 r8 r9
      obtain ⟨q0, q1, q2, q3, r2, r3, r4, r5, r6, r7, r8, r9⟩ := zz
      replace hb0 : Below w.heap.size w W3 := bthen hb0 hB
      have hzW3 : W2.heap.size ≤ W3.heap.size := hz
      clear hc hf hB hz
      cases h6 : rg 0 high low
      ·go_wp2_with fail
       refine (c_in_b (h6) _).mono ?_
       rintro e w2 ⟨rfl, rfl⟩
       go_wp2_with fail
       refine (c_unless_f _ _).mono ?_
       rintro e w2 ⟨rfl, rfl⟩
       go_wp2
       exact ⟨rfl, by rw [← HE.out, show judgeE m.f (⟨id, known, kind, owner, sort, plc, tick, low, high, void⟩ : Rp) = 1 from by unfold judgeE; simp [h1, h2, h3, N8.out, (show lastT m.f kind = m.f.ticks - 1 from by unfold lastT; simp [N1.out]), h4, h5, h6]]; rfl, by have hbz := hb0.size; go_grown⟩
      ·go_wp2_with fail
       refine (c_in_b (h6) _).mono ?_
       rintro e w2 ⟨rfl, rfl⟩
       cases h7 : decide (high ≤ 1000)
       ·go_wp2_with fail
        refine (c_unless_f _ _).mono ?_
        rintro e w2 ⟨rfl, rfl⟩
        go_wp2
        exact ⟨rfl, by rw [← HE.out, show judgeE m.f (⟨id, known, kind, owner, sort, plc, tick, low, high, void⟩ : Rp) = 1 from by unfold judgeE; simp [h1, h2, h3, N8.out, (show lastT m.f kind = m.f.ticks - 1 from by unfold lastT; simp [N1.out]), h4, h5, h6, h7]]; rfl, by have hbz := hb0.size; go_grown⟩
       ·cases h8 : void == 0
        ·go_wp2_with fail
         refine (c_unless_f _ _).mono ?_
         rintro e w2 ⟨rfl, rfl⟩
         go_wp2
         exact ⟨rfl, by rw [← HE.out, show judgeE m.f (⟨id, known, kind, owner, sort, plc, tick, low, high, void⟩ : Rp) = 1 from by unfold judgeE; simp [h1, h2, h3, N8.out, (show lastT m.f kind = m.f.ticks - 1 from by unfold lastT; simp [N1.out]), h4, h5, h6, h7, h8]]; rfl, by have hbz := hb0.size; go_grown⟩
        ·cases h9 : rg 0 (m.f.ticks - 1) tick
         ·go_wp2_with fail
          refine (c_in_b (h9) _).mono ?_
          rintro e w2 ⟨rfl, rfl⟩
          go_wp2_with fail
          refine (c_unless_f _ _).mono ?_
          rintro e w2 ⟨rfl, rfl⟩
          go_wp2
          exact ⟨rfl, by rw [← HE.out, show judgeE m.f (⟨id, known, kind, owner, sort, plc, tick, low, high, void⟩ : Rp) = 1 from by unfold judgeE; simp [h1, h2, h3, N8.out, (show lastT m.f kind = m.f.ticks - 1 from by unfold lastT; simp [N1.out]), h4, h5, h6, h7, h8, h9]]; rfl, by have hbz := hb0.size; go_grown⟩
         ·go_wp2_with fail
          refine (c_in_b (h9) _).mono ?_
          rintro e w2 ⟨rfl, rfl⟩
          go_wp2_with fail
          refine (c_unless_t _ _).mono ?_
          rintro e w2 ⟨rfl, rfl⟩
          cases h11 : rg 0 ((m.f.places.length : Int) - 1) plc
          ·go_wp2_with fail
           refine (c_in_b (h11) _).mono ?_
           rintro e w2 ⟨rfl, rfl⟩
           go_wp2_with fail
           refine (c_unless_f _ _).mono ?_
           rintro e w2 ⟨rfl, rfl⟩
           go_wp2
           exact ⟨rfl, by rw [← HE.out, show judgeE m.f (⟨id, known, kind, owner, sort, plc, tick, low, high, void⟩ : Rp) = 50 from by unfold judgeE; simp [h1, h2, h3, N8.out, (show lastT m.f kind = m.f.ticks - 1 from by unfold lastT; simp [N1.out]), h4, h5, h6, h7, h8, h9, (show thingsN m.f kind = (m.f.places.length : Int) from by unfold thingsN; simp [N2.out, N3.out]), h11]]; rfl, by have hbz := hb0.size; go_grown⟩
          ·go_wp2_with fail
           refine (c_in_b (h11) _).mono ?_
           rintro e w2 ⟨rfl, rfl⟩
           go_wp2_with fail
           refine (c_unless_t _ _).mono ?_
           rintro e w2 ⟨rfl, rfl⟩
           go_wp2_with fail
           go_end0
           exact ⟨by rw [← HE.out, show judgeE m.f (⟨id, known, kind, owner, sort, plc, tick, low, high, void⟩ : Rp) = 0 from by unfold judgeE; simp [h1, h2, h3, N8.out, (show lastT m.f kind = m.f.ticks - 1 from by unfold lastT; simp [N1.out]), h4, h5, h6, h7, h8, h9, (show thingsN m.f kind = (m.f.places.length : Int) from by unfold thingsN; simp [N2.out, N3.out]), h11]]; rfl, by have hbz := hb0.size; go_grown⟩
theorem c_judge (m : Fm) (x : Rp) (w : World) (hs : Small m.f) (ok : RpOk x) : Calls Tryz.prog 121 #[m.v, x.v] w fun e w' => e = endV (judgeE m.f x) ∧ Below w.heap.size w w' := by
 obtain ⟨k0, k1⟩ := ok
 obtain ⟨id, known, kind, owner, sort, plc, tick, low, high, void⟩ := x
 dsimp only at k0 k1
 by_cases n1 : kind = 1
 ·subst n1; exact c_judge_1 m id known owner plc tick low high void sort w hs
 by_cases n2 : kind = 2
 ·subst n2; exact c_judge_2 m id known owner plc tick low high void sort w hs
 by_cases n3 : kind = 3
 ·subst n3; exact c_judge_3 m id known owner plc tick low high void sort w hs
 by_cases n8 : kind = 8
 ·subst n8; exact c_judge_8 m id known owner plc tick low high void sort w hs
 exact c_judge_o m id known kind owner plc tick low high void sort w hs k0 k1 n1 n2 n3 n8
end Go.Proofs.YtlppdgaogdpajaaGreatDoor
