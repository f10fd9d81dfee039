/- This text is a part of the proof: Asked, MoveArc, At, Idx, Row. -/
import Derived.Test.YtlppdgaogdpajaaGreatDoorK11
set_option maxRecDepth 100000
set_option maxHeartbeats 4000000
namespace Go.Proofs.YtlppdgaogdpajaaGreatDoor
open Go.RowKit Go.Shelf
attribute [local go_sem] Oper.semAt_some
theorem c_offPlace (n : Int) (fb P pc : Nat) (pa : Option Addr) (w : World) (hP : P ≤ 1000000) (h : w.cell? ⟨fb, 2, none⟩ = some (.slice pa P pc)) :
  Calls Tryz.prog 191 #[.int .i64 n, .pointer (some ⟨fb, 0, none⟩)] w fun e w' => e = .returned (.bool (!rg 0 ((P : Int) - 1) n)) ∧ Below w.heap.size w w' := by
 obtain ⟨B, hB⟩ : ∃ B, rg 0 ((P : Int) - 1) n = B := ⟨_, rfl⟩
 rw [hB]
 have HC := Lib.hid (fun W => c_in_b hB W)
 clear hB
 cases B
 all_goals
  go_enter Tryz.func191, Tryz.ntmps191
  go_wp2_with fail
  refine (HC.out _).mono ?_
  rintro e w' ⟨rfl, rfl⟩
  go_wp2
  go_ret
  exact ⟨rfl, Below.refl _ _⟩
def offB (f : Fe) (p : Int) : Bool := !rg 0 ((f.places.length : Int) - 1) p
def askedE (f : Fe) (l : List Int) : Int := if checkE f ≠ 0 then checkE f else if l.any (offB f) = true then 50 else 0
theorem c_tick_t (m : Fm) (t : Int) (w : World) (h : rg 0 m.f.ticks t = true) : Calls Tryz.prog 144 #[m.v, .int .i64 t] w fun e w' => e = .returned (.int .i64 0) ∧ Below w.heap.size w w' := by
 have HC := Lib.hid (fun W => c_in_b h W)
 clear h
 go_enter Tryz.func144, Tryz.ntmps144
 go_upto_region 1 with (fail)
 go_name_world W1 hW1
 have hb0 : Below w.heap.size w W1 := by subst hW1; go_grown
 obtain ⟨q0, q1, q2, q3⟩ := (show QB m W1 w.heap.size from by subst hW1; and_intros <;> go_simp)
 clear hW1 
 go_wp2_with fail
 refine (HC.out _).mono ?_
 rintro e w2 ⟨rfl, rfl⟩
 go_wp2_with fail
 go_ret
 exact ⟨rfl, by have hbz := hb0.size; go_grown⟩
theorem c_tick_f (m : Fm) (t : Int) (w : World) (h : rg 0 m.f.ticks t = false) : Calls Tryz.prog 144 #[m.v, .int .i64 t] w fun e w' => e = .returned (.int .i64 1) ∧ Below w.heap.size w w' := by
 have HC := Lib.hid (fun W => c_in_b h W)
 clear h
 go_enter Tryz.func144, Tryz.ntmps144
 go_upto_region 1 with (fail)
 go_name_world W1 hW1
 have hb0 : Below w.heap.size w W1 := by subst hW1; go_grown
 obtain ⟨q0, q1, q2, q3⟩ := (show QB m W1 w.heap.size from by subst hW1; and_intros <;> go_simp)
 clear hW1 
 go_wp2_with fail
 refine (HC.out _).mono ?_
 rintro e w2 ⟨rfl, rfl⟩
 go_wp2_with fail
 go_ret
 exact ⟨rfl, by have hbz := hb0.size; go_grown⟩
theorem c_asked_no (m : Fm) (l : List Int) (a : Option Addr) (cap : Nat) (w : World) (hm : m.In w) (h : checkE m.f ≠ 0) :
  Calls Tryz.prog 141 #[m.v, .slice a l.length cap] w fun e w' => e = .returned (.int .i64 (checkE m.f)) ∧ Below w.heap.size w w' := by
 have hC := fun W (hb : Below w.heap.size w W) => c_CheckFell m W (hm.later hb)
 generalize checkE m.f = E at *
 have he : (E != 0) = true := bne_iff_ne.2 h
 have HC := Lib.hid hC
 clear hC h hm
 go_enter Tryz.func141, Tryz.ntmps141
 go_upto_region 1 with (fail)
 go_name_world W1 hW1
 have hb0 : Below w.heap.size w W1 := by subst hW1; go_grown
 obtain ⟨q0, q1, q2, q3⟩ := (show QB m W1 w.heap.size from by subst hW1; and_intros <;> go_simp)
 clear hW1 
 go_wp2_with fail
 refine (via (w0 := W1) (by go_grown) (HC.out _ hb0)).mono ?_
 rintro e W2 ⟨rfl, hc, hf, hz, hB⟩
 have zz := cy4 hc q0 q1 q2 q3
 clear q0 q1 q2 q3
 obtain ⟨q0, q1, q2, q3⟩ := zz
 replace hb0 : Below w.heap.size w W2 := bthen hb0 hB
 have hzW2 : W1.heap.size ≤ W2.heap.size := hz
 clear hc hf hB hz
 go_wp2_with fail
 go_ret
 exact ⟨rfl, by have hbz := hb0.size; go_grown⟩
theorem c_asked_off (m : Fm) (l : List Int) (a : Option Addr) (cap : Nat) (w : World) (hm : m.In w) (hl : Nums w a l) (h : checkE m.f = 0) (h2 : l.any (offB m.f) = true) :
  Calls Tryz.prog 141 #[m.v, .slice a l.length cap] w fun e w' => e = .returned (.int .i64 50) ∧ Below w.heap.size w w' := by
 have hmf : ∀ (fn : Fn) (first cap : Array Value) (w : World), (Instr.makeFunc fn first cap).run Tryz.prog w = .ok (.func fn first cap) w := fun _ _ _ _ => rfl
 have hC := fun W (hb : Below w.heap.size w W) => c_CheckFell m W (hm.later hb)
 rw [h] at hC
 have hP := (right_of h).small.p8
 have eg : Ent 191 := enters_of Tryz.func191 (by kernel_rfl) rfl
 have hA := fun W (hb : Below w.heap.size w W) (hc : W.cell? ⟨w.heap.size, 2, none⟩ = some (.slice m.pa m.f.places.length m.pc)) =>
  c_anyNum 191 eg #[.pointer (some ⟨w.heap.size, 0, none⟩)] (offB m.f) l a cap W (fun V y _ hv => c_offPlace y _ _ _ _ V (by omega) (((bcell hv).1 _ _ (cell_lt hc)).trans hc)) (hl.later hb)
 rw [h2] at hA
 have HC := Lib.hid hC
 have HA := Lib.hid hA
 clear hC h hm hA h2 hl hP
 go_enter Tryz.func141, Tryz.ntmps141
 go_upto_region 1 with (fail)
 go_name_world W1 hW1
 have hb0 : Below w.heap.size w W1 := by subst hW1; go_grown
 obtain ⟨q0, q1, q2, q3⟩ := (show QB m W1 w.heap.size from by subst hW1; and_intros <;> go_simp)
 clear hW1 
 go_wp2_with fail
 refine (via (w0 := W1) (by go_grown) (HC.out _ hb0)).mono ?_
 rintro e W2 ⟨rfl, hc, hf, hz, hB⟩
 have zz := cy4 hc q0 q1 q2 q3
 clear q0 q1 q2 q3
 obtain ⟨q0, q1, q2, q3⟩ := zz
 replace hb0 : Below w.heap.size w W2 := bthen hb0 hB
 have hzW2 : W1.heap.size ≤ W2.heap.size := hz
 clear hc hf hB hz
 go_wp2_with fail
 refine (via (w0 := W2) (by go_grown) (HA.out _ hb0 q2)).mono ?_
 rintro e W3 ⟨rfl, hc, hf, hz, hB⟩
 have zz := cy4 hc q0 q1 q2 q3
 clear q0 q1 q2 q3
 obtain ⟨q0, q1, q2, q3⟩ := zz
 replace hb0 : Below w.heap.size w W3 := bthen hb0 hB
 have hzW3 : W2.heap.size ≤ W3.heap.size := hz
 clear hc hf hB hz
 go_wp2_with fail
 go_ret
 exact ⟨rfl, by have hbz := hb0.size; go_grown⟩
theorem c_asked_ok (m : Fm) (l : List Int) (a : Option Addr) (cap : Nat) (w : World) (hm : m.In w) (hl : Nums w a l) (h : checkE m.f = 0) (h2 : l.any (offB m.f) = false) :
  Calls Tryz.prog 141 #[m.v, .slice a l.length cap] w fun e w' => e = .returned (.int .i64 0) ∧ Below w.heap.size w w' := by
 have hmf : ∀ (fn : Fn) (first cap : Array Value) (w : World), (Instr.makeFunc fn first cap).run Tryz.prog w = .ok (.func fn first cap) w := fun _ _ _ _ => rfl
 have hC := fun W (hb : Below w.heap.size w W) => c_CheckFell m W (hm.later hb)
 rw [h] at hC
 have hP := (right_of h).small.p8
 have eg : Ent 191 := enters_of Tryz.func191 (by kernel_rfl) rfl
 have hA := fun W (hb : Below w.heap.size w W) (hc : W.cell? ⟨w.heap.size, 2, none⟩ = some (.slice m.pa m.f.places.length m.pc)) =>
  c_anyNum 191 eg #[.pointer (some ⟨w.heap.size, 0, none⟩)] (offB m.f) l a cap W (fun V y _ hv => c_offPlace y _ _ _ _ V (by omega) (((bcell hv).1 _ _ (cell_lt hc)).trans hc)) (hl.later hb)
 rw [h2] at hA
 have HC := Lib.hid hC
 have HA := Lib.hid hA
 clear hC h hm hA h2 hl hP
 go_enter Tryz.func141, Tryz.ntmps141
 go_upto_region 1 with (fail)
 go_name_world W1 hW1
 have hb0 : Below w.heap.size w W1 := by subst hW1; go_grown
 obtain ⟨q0, q1, q2, q3⟩ := (show QB m W1 w.heap.size from by subst hW1; and_intros <;> go_simp)
 clear hW1 
 go_wp2_with fail
 refine (via (w0 := W1) (by go_grown) (HC.out _ hb0)).mono ?_
 rintro e W2 ⟨rfl, hc, hf, hz, hB⟩
 have zz := cy4 hc q0 q1 q2 q3
 clear q0 q1 q2 q3
 obtain ⟨q0, q1, q2, q3⟩ := zz
 replace hb0 : Below w.heap.size w W2 := bthen hb0 hB
 have hzW2 : W1.heap.size ≤ W2.heap.size := hz
 clear hc hf hB hz
 go_wp2_with fail
 refine (via (w0 := W2) (by go_grown) (HA.out _ hb0 q2)).mono ?_
 rintro e W3 ⟨rfl, hc, hf, hz, hB⟩
 have zz := cy4 hc q0 q1 q2 q3
 clear q0 q1 q2 q3
 obtain ⟨q0, q1, q2, q3⟩ := zz
 replace hb0 : Below w.heap.size w W3 := bthen hb0 hB
 have hzW3 : W2.heap.size ≤ W3.heap.size := hz
 clear hc hf hB hz
 go_wp2_with fail
 go_ret
 exact ⟨rfl, by have hbz := hb0.size; go_grown⟩
theorem c_asked (m : Fm) (l : List Int) (a : Option Addr) (cap : Nat) (w : World) (hm : m.In w) (hl : Nums w a l) :
  Calls Tryz.prog 141 #[m.v, .slice a l.length cap] w fun e w' => e = .returned (.int .i64 (askedE m.f l)) ∧ Below w.heap.size w w' := by
 unfold askedE
 by_cases h : checkE m.f = 0
 ·rw [if_neg (by omega)]
  by_cases h2 : l.any (offB m.f) = true
  ·rw [if_pos h2]; exact c_asked_off m l a cap w hm hl h h2
  ·rw [if_neg h2]; exact c_asked_ok m l a cap w hm hl h (by simpa using h2)
 ·rw [if_pos h]; exact c_asked_no m l a cap w hm h
theorem c_arcOf (w : World) : Calls Tryz.prog 125 #[] w fun e w' => e = .returned (.agg #[.nilFunc, .func (.func 145) #[] #[], .func (.func 184) #[] #[], .func (.func 184) #[] #[], .func (.func 185) #[] #[], .func (.func 185) #[] #[], .func (.func 185) #[] #[], .func (.func 185) #[] #[]]) ∧ Below w.heap.size w w' := by
 go_enter Tryz.func125, Tryz.ntmps125
 go_wp2
 refine bodyPost_ret (v := .agg #[.nilFunc, .func (.func 145) #[] #[], .func (.func 184) #[] #[], .func (.func 184) #[] #[], .func (.func 185) #[] #[], .func (.func 185) #[] #[], .func (.func 185) #[] #[], .func (.func 185) #[] #[]]) (by simp [results, Tryz.results125, go_sem]) rfl ⟨rfl, by go_grown⟩
theorem report_ok {f : Fe} {x : Rp} (h : reportE f x = 0) : Right f ∧ JOk f x := by
 unfold reportE at h
 by_cases hc : checkE f = 0
 ·rw [if_neg (by omega)] at h
  exact ⟨right_of hc, judge_ok h⟩
 ·rw [if_pos hc] at h; exact absurd h hc
theorem JOk.ends {f : Fe} {x : Rp} (h : JOk f x) (hr : Small f) (h8 : ¬ x.kind = 8) : 0 ≤ x.plc ∧ x.plc ≤ 100 ∧ 0 ≤ x.tick ∧ x.tick ≤ 100 := by
 have t := h.tells h8
 have h1 := t.tick
 have h2 := t.plc
 have a := hr.p8
 have b := hr.g12
 have c := hr.t24
 unfold lastT at h1
 unfold thingsN at h2
 split at h1 <;> split at h2 <;> omega
def arcTab : Value := .agg #[.nilFunc, .func (.func 145) #[] #[], .func (.func 184) #[] #[], .func (.func 184) #[] #[], .func (.func 185) #[] #[], .func (.func 185) #[] #[], .func (.func 185) #[] #[], .func (.func 185) #[] #[]]
theorem arc_fn (m : Fm) (x : Rp) (hs : Small m.f) (h : JOk m.f x) (h8 : ¬ x.kind = 8) : ∃ F, Ent F ∧ (∀ W, (Instr.index 141 arcTab (.int .u8 x.kind)).run Tryz.prog W = .ok (.func (.func F) #[] #[]) W) ∧
  ∀ W, Calls Tryz.prog F #[m.v, x.v] W fun e w' => e = .returned (.int .i64 (idxN m.f x.kind x.plc x.tick)) ∧ Below W.heap.size W w' := by
 obtain ⟨p0, p1, t0, t1⟩ := h.ends hs h8
 have hk := h.kind
 obtain ⟨id, known, kind, owner, sort, plc, tick, low, high, void⟩ := x
 dsimp only at p0 p1 t0 t1 hk h8
 obtain rfl | rfl | rfl | rfl | rfl | rfl | rfl : kind = 1 ∨ kind = 2 ∨ kind = 3 ∨ kind = 4 ∨ kind = 5 ∨ kind = 6 ∨ kind = 7 := by omega
 ·refine ⟨145, enters_of Tryz.func145 (by kernel_rfl) rfl, fun _ => by kernel_rfl, fun W => ?_⟩
  rw [show idxN m.f 1 plc tick = tick * (m.f.places.length : Int) + plc from by unfold idxN; simp]
  exact c_number m _ W hs.p8 p0 p1 t0 t1
 ·refine ⟨184, enters_of Tryz.func184 (by kernel_rfl) rfl, fun _ => by kernel_rfl, fun W => ?_⟩
  rw [show idxN m.f 2 plc tick = firstN m.f tick + 5 * (m.f.places.length : Int) + 2 * plc + (2 - 2) from by unfold idxN; simp]
  exact c_pass m _ W hs (by show (2 : Int) ≤ 2; decide) (by show (2 : Int) ≤ 3; decide) p0 p1 t0 t1
 ·refine ⟨184, enters_of Tryz.func184 (by kernel_rfl) rfl, fun _ => by kernel_rfl, fun W => ?_⟩
  rw [show idxN m.f 3 plc tick = firstN m.f tick + 5 * (m.f.places.length : Int) + 2 * plc + (3 - 2) from by unfold idxN; simp]
  exact c_pass m _ W hs (by show (2 : Int) ≤ 3; decide) (by show (3 : Int) ≤ 3; decide) p0 p1 t0 t1
 ·refine ⟨185, enters_of Tryz.func185 (by kernel_rfl) rfl, fun _ => by kernel_rfl, fun W => ?_⟩
  rw [show idxN m.f 4 plc tick = firstN m.f tick + 5 * plc + (4 - 4) + 1 from by unfold idxN; simp]
  exact c_move m _ W hs (by show (4 : Int) ≤ 4; decide) (by show (4 : Int) ≤ 7; decide) p0 p1 t0 t1
 ·refine ⟨185, enters_of Tryz.func185 (by kernel_rfl) rfl, fun _ => by kernel_rfl, fun W => ?_⟩
  rw [show idxN m.f 5 plc tick = firstN m.f tick + 5 * plc + (5 - 4) + 1 from by unfold idxN; simp]
  exact c_move m _ W hs (by show (4 : Int) ≤ 5; decide) (by show (5 : Int) ≤ 7; decide) p0 p1 t0 t1
 ·refine ⟨185, enters_of Tryz.func185 (by kernel_rfl) rfl, fun _ => by kernel_rfl, fun W => ?_⟩
  rw [show idxN m.f 6 plc tick = firstN m.f tick + 5 * plc + (6 - 4) + 1 from by unfold idxN; simp]
  exact c_move m _ W hs (by show (4 : Int) ≤ 6; decide) (by show (6 : Int) ≤ 7; decide) p0 p1 t0 t1
 ·refine ⟨185, enters_of Tryz.func185 (by kernel_rfl) rfl, fun _ => by kernel_rfl, fun W => ?_⟩
  rw [show idxN m.f 7 plc tick = firstN m.f tick + 5 * plc + (7 - 4) + 1 from by unfold idxN; simp]
  exact c_move m _ W hs (by show (4 : Int) ≤ 7; decide) (by show (7 : Int) ≤ 7; decide) p0 p1 t0 t1
theorem c_MoveArc_no (m : Fm) (id known kind owner plc tick low high void : Int) (sort : ByteArray) (w : World) (hm : m.In w) (ok : RpOk (⟨id, known, kind, owner, sort, plc, tick, low, high, void⟩ : Rp)) (h : reportE m.f (⟨id, known, kind, owner, sort, plc, tick, low, high, void⟩ : Rp) ≠ 0) :
  Calls Tryz.prog 39 #[m.v, (⟨id, known, kind, owner, sort, plc, tick, low, high, void⟩ : Rp).v] w fun e w' => e = .returned (pairV (0, reportE m.f (⟨id, known, kind, owner, sort, plc, tick, low, high, void⟩ : Rp))) ∧ Below w.heap.size w w' := by
 have hC := fun W (hb : Below w.heap.size w W) => c_CheckReport m (⟨id, known, kind, owner, sort, plc, tick, low, high, void⟩ : Rp) W (hm.later hb) ok
 generalize reportE m.f (⟨id, known, kind, owner, sort, plc, tick, low, high, void⟩ : Rp) = E at *
 have he : (E != 0) = true := bne_iff_ne.2 h
 have HC := Lib.hid hC
 clear hC h hm ok
 go_enter Tryz.func39, Tryz.ntmps39
 go_upto_region 1 with (fail)
 go_name_world W1 hW1
 have hb0 : Below w.heap.size w W1 := by subst hW1; go_grown
 obtain ⟨q0, q1, q2, q3⟩ := (show QB m W1 w.heap.size from by subst hW1; and_intros <;> go_simp)
 obtain ⟨r0, r1, r2, r3, r4, r5, r6, r7, r8, r9⟩ := (show RB id known kind owner sort plc tick low high void W1 (w.heap.size + 1) from by subst hW1; and_intros <;> go_simp)
 clear hW1 
 go_wp2_with fail
 refine (via (w0 := W1) (by go_grown) (HC.out _ hb0)).mono ?_
 rintro e W2 ⟨rfl, hc, hf, hz, hB⟩
 have zz := cy14 hc q0 q1 q2 q3 r0 r1 r2 r3 r4 r5 r6 r7 r8 r9
 clear q0 q1 q2 q3 r0 r1 r2 r3 r4 r5 r6 r7 r8 r9
 obtain ⟨q0, q1, q2, q3, r0, r1, r2, r3, r4, r5, r6, r7, r8, r9⟩ := zz
 replace hb0 : Below w.heap.size w W2 := bthen hb0 hB
 have hzW2 : W1.heap.size ≤ W2.heap.size := hz
 clear hc hf hB hz
 go_wp2_with fail
 go_ret2
 exact ⟨rfl, by have hbz := hb0.size; go_grown⟩
theorem c_MoveArc_v (m : Fm) (id known owner plc tick low high void : Int) (sort : ByteArray) (w : World) (hm : m.In w) (ok : RpOk (⟨id, known, 8, owner, sort, plc, tick, low, high, void⟩ : Rp)) (h : reportE m.f (⟨id, known, 8, owner, sort, plc, tick, low, high, void⟩ : Rp) = 0) :
  Calls Tryz.prog 39 #[m.v, (⟨id, known, 8, owner, sort, plc, tick, low, high, void⟩ : Rp).v] w fun e w' => e = .returned (pairV (0, 1)) ∧ Below w.heap.size w w' := by
 have hC := fun W (hb : Below w.heap.size w W) => c_CheckReport m (⟨id, known, 8, owner, sort, plc, tick, low, high, void⟩ : Rp) W (hm.later hb) ok
 rw [h] at hC
 have HC := Lib.hid hC
 clear hC h hm ok
 go_enter Tryz.func39, Tryz.ntmps39
 go_upto_region 1 with (fail)
 go_name_world W1 hW1
 have hb0 : Below w.heap.size w W1 := by subst hW1; go_grown
 obtain ⟨q0, q1, q2, q3⟩ := (show QB m W1 w.heap.size from by subst hW1; and_intros <;> go_simp)
 obtain ⟨r0, r1, r2, r3, r4, r5, r6, r7, r8, r9⟩ := (show RB id known 8 owner sort plc tick low high void W1 (w.heap.size + 1) from by subst hW1; and_intros <;> go_simp)
 clear hW1 
 go_wp2_with fail
 refine (via (w0 := W1) (by go_grown) (HC.out _ hb0)).mono ?_
 rintro e W2 ⟨rfl, hc, hf, hz, hB⟩
 have zz := cy14 hc q0 q1 q2 q3 r0 r1 r2 r3 r4 r5 r6 r7 r8 r9
 clear q0 q1 q2 q3 r0 r1 r2 r3 r4 r5 r6 r7 r8 r9
 obtain ⟨q0, q1, q2, q3, r0, r1, r2, r3, r4, r5, r6, r7, r8, r9⟩ := zz
 replace hb0 : Below w.heap.size w W2 := bthen hb0 hB
 have hzW2 : W1.heap.size ≤ W2.heap.size := hz
 clear hc hf hB hz
 go_wp2_with fail
 go_ret2
 exact ⟨rfl, by have hbz := hb0.size; go_grown⟩
theorem c_MoveArc_k (m : Fm) (id known kd owner plc tick low high void : Int) (sort : ByteArray) (w : World) (h8 : ¬ kd = 8) (hm : m.In w) (ok : RpOk (⟨id, known, kd, owner, sort, plc, tick, low, high, void⟩ : Rp)) (h : reportE m.f (⟨id, known, kd, owner, sort, plc, tick, low, high, void⟩ : Rp) = 0) :
  Calls Tryz.prog 39 #[m.v, (⟨id, known, kd, owner, sort, plc, tick, low, high, void⟩ : Rp).v] w fun e w' => e = .returned (pairV (idxN m.f kd plc tick, 0)) ∧ Below w.heap.size w w' := by
 have hC := fun W (hb : Below w.heap.size w W) => c_CheckReport m (⟨id, known, kd, owner, sort, plc, tick, low, high, void⟩ : Rp) W (hm.later hb) ok
 rw [h] at hC
 have hrj := report_ok h
 have hs := hrj.1.small
 obtain ⟨F, eg, hix0, hN2⟩ := arc_fn m (⟨id, known, kd, owner, sort, plc, tick, low, high, void⟩ : Rp) hs hrj.2 h8
 have e8 : (kd == 8) = false := beq_eq_false_iff_ne.2 h8
 dsimp only at hN2 hix0
 have hix : ∀ W, (Instr.index 141 (.agg #[.nilFunc, .func (.func 145) #[] #[], .func (.func 184) #[] #[], .func (.func 184) #[] #[], .func (.func 185) #[] #[], .func (.func 185) #[] #[], .func (.func 185) #[] #[], .func (.func 185) #[] #[]]) (.int .u8 kd)).run Tryz.prog W = .ok (.func (.func F) #[] #[]) W := hix0
 clear hix0
 generalize idxN m.f kd plc tick = V at *
 have HN := Lib.hid hN2
 have HC := Lib.hid hC
 clear hC h hm ok hrj hs hN2 h8
 go_enter Tryz.func39, Tryz.ntmps39
 go_upto_region 1 with (fail)
 go_name_world W1 hW1
 have hb0 : Below w.heap.size w W1 := by subst hW1; go_grown
 obtain ⟨q0, q1, q2, q3⟩ := (show QB m W1 w.heap.size from by subst hW1; and_intros <;> go_simp)
 obtain ⟨r0, r1, r2, r3, r4, r5, r6, r7, r8, r9⟩ := (show RB id known kd owner sort plc tick low high void W1 (w.heap.size + 1) from by subst hW1; and_intros <;> go_simp)
 clear hW1 
 go_wp2_with fail
 refine (via (w0 := W1) (by go_grown) (HC.out _ hb0)).mono ?_
 rintro e W2 ⟨rfl, hc, hf, hz, hB⟩
 have zz := cy14 hc q0 q1 q2 q3 r0 r1 r2 r3 r4 r5 r6 r7 r8 r9
 clear q0 q1 q2 q3 r0 r1 r2 r3 r4 r5 r6 r7 r8 r9
 obtain ⟨q0, q1, q2, q3, r0, r1, r2, r3, r4, r5, r6, r7, r8, r9⟩ := zz
 replace hb0 : Below w.heap.size w W2 := bthen hb0 hB
 have hzW2 : W1.heap.size ≤ W2.heap.size := hz
 clear hc hf hB hz
 go_upto_region 6 with (fail)
 have kq0 := later_cell q0
 have kq1 := later_cell q1
 have kq2 := later_cell q2
 have kq3 := later_cell q3
 have kr0 := later_cell r0
 have kr1 := later_cell r1
 have kr2 := later_cell r2
 have kr3 := later_cell r3
 have kr4 := later_cell r4
 have kr5 := later_cell r5
 have kr6 := later_cell r6
 have kr7 := later_cell r7
 have kr8 := later_cell r8
 have kr9 := later_cell r9
 refine wp_region_later W2 (by kernel_rfl) (by kernel_rfl) (Below.refl _ _) ?_
 repeat (go_big_quiet_step (first | (go_at_call 125; with_reducible exact in_region (c_arcOf _)) | (with_reducible exact in_region (HN.out _))))
 refine wpQuiet_nil ?_
 rintro ⟨W3, hB⟩
 dsimp only
 have hc := (bcell hB).1
 have hf := (bcell hB).2
 have hz := hB.size
 clear kq0 kq1 kq2 kq3 kr0 kr1 kr2 kr3 kr4 kr5 kr6 kr7 kr8 kr9
 have zz := cy14 hc q0 q1 q2 q3 r0 r1 r2 r3 r4 r5 r6 r7 r8 r9
 clear q0 q1 q2 q3 r0 r1 r2 r3 r4 r5 r6 r7 r8 r9
 obtain ⟨q0, q1, q2, q3, r0, r1, r2, r3, r4, r5, r6, r7, r8, r9⟩ := zz
 replace hb0 : Below w.heap.size w W3 := bthen hb0 hB
 have hzW3 : W2.heap.size ≤ W3.heap.size := hz
 clear hc hf hB hz
 go_wp2_with fail
 go_ret2
 exact ⟨rfl, by have hbz := hb0.size; go_grown⟩
theorem c_MoveArc (m : Fm) (x : Rp) (w : World) (hm : m.In w) (ok : RpOk x) :
  Calls Tryz.prog 39 #[m.v, x.v] w fun e w' => e = .returned (pairV (moveV m.f x)) ∧ Below w.heap.size w w' := by
 unfold moveV
 obtain ⟨id, known, kind, owner, sort, plc, tick, low, high, void⟩ := x
 by_cases h : reportE m.f ⟨id, known, kind, owner, sort, plc, tick, low, high, void⟩ = 0
 ·rw [if_neg (by omega)]
  have hk := (report_ok h).2.kind
  dsimp only at hk ⊢
  by_cases h8 : kind = 8
  ·subst h8; rw [if_pos rfl]; exact c_MoveArc_v m id known owner plc tick low high void sort w hm ok h
  ·rw [if_neg h8]; exact c_MoveArc_k m id known kind owner plc tick low high void sort w h8 hm ok h
 ·rw [if_pos h]; exact c_MoveArc_no m id known kind owner plc tick low high void sort w hm ok h
theorem idx_small {f : Fe} {p t : Int} (hs : Small f) (hp : 0 ≤ p ∧ p ≤ (f.places.length : Int) - 1) (ht : 0 ≤ t ∧ t ≤ f.ticks) : 0 ≤ idxN f 1 p t ∧ idxN f 1 p t < countN f := by
 have e : idxN f 1 p t = t * f.places.length + p := by unfold idxN; simp
 have h0 : 0 ≤ t * (f.places.length : Int) := Int.mul_nonneg ht.1 (by omega)
 have h1 : t * (f.places.length : Int) ≤ f.ticks * (f.places.length : Int) := Int.mul_le_mul_of_nonneg_right ht.2 (by omega)
 have h2 : (f.ticks + 1) * (f.places.length : Int) = f.ticks * f.places.length + f.places.length := by rw [Int.add_mul, Int.one_mul]
 have h3 : 0 ≤ f.ticks * stepN f := Int.mul_nonneg hs.t0 (step_bd hs).1
 rw [e]
 unfold countN firstN
 omega
end Go.Proofs.YtlppdgaogdpajaaGreatDoor
namespace Go.Proofs.YtlppdgaogdpajaaGreatDoor
theorem idx_lt {f : Fe} {x : Rp} (hs : Small f) (h : JOk f x) (h8 : ¬ x.kind = 8) : 0 ≤ idxN f x.kind x.plc x.tick ∧ idxN f x.kind x.plc x.tick < countN f := by
 have ht := (h.tells h8).tick
 have hp := (h.tells h8).plc
 have hk := h.kind
 obtain ⟨id, known, kind, owner, sort, plc, tick, low, high, void⟩ := x
 dsimp only at *
 by_cases h1 : kind = 1
 ·subst h1
  exact idx_small hs (by unfold thingsN at hp; simp at hp; omega) (by unfold lastT at ht; simp at ht; omega)
 have hl : lastT f kind = f.ticks - 1 := by unfold lastT; rw [if_neg h1]
 rw [hl] at ht
 obtain ⟨s0, s1⟩ := step_bd hs
 have e1 : 0 ≤ tick * stepN f := Int.mul_nonneg ht.1 s0
 have e2 : tick * stepN f ≤ (f.ticks - 1) * stepN f := Int.mul_le_mul_of_nonneg_right ht.2 s0
 have e3 : (f.ticks - 1) * stepN f = f.ticks * stepN f - stepN f := by rw [Int.sub_mul, Int.one_mul]
 have e4 : 0 ≤ (f.ticks + 1) * (f.places.length : Int) := Int.mul_nonneg (by have := hs.t0; omega) (by omega)
 have es : stepN f = 5 * (f.places.length : Int) + 2 * (f.gates.length : Int) := rfl
 unfold countN firstN idxN
 rw [if_neg h1]
 by_cases h2 : kind = 2 ∨ kind = 3
 ·rw [if_pos h2]
  have hg : thingsN f kind = f.gates.length := by unfold thingsN; rw [if_pos h2]
  rw [hg] at hp
  unfold firstN
  omega
 ·rw [if_neg h2]
  have hg : thingsN f kind = f.places.length := by unfold thingsN; rw [if_neg h2]
  rw [hg] at hp
  unfold firstN
  omega
def heafK (f : Fe) (t : Int) (k : Nat) (i : Int) : Bool := ((numbered f.places).take k).any fun (p, x) => x.kind == 1 && idxN f 1 p t == i
def rowK (f : Fe) (t : Int) (k : Nat) : List Int := (upTo (countN f)).map fun i => if heafK f t k i then 1 else 0
theorem rowK_len (f : Fe) (t : Int) (k : Nat) : (rowK f t k).length = (countN f).toNat := by simp [rowK, upTo]
theorem rowK_zero (f : Fe) (t : Int) : rowK f t 0 = List.replicate (countN f).toNat 0 := by
 have e : ∀ i, heafK f t 0 i = false := fun i => by simp [heafK]
 have e2 : ∀ i : Int, (if heafK f t 0 i then (1 : Int) else 0) = 0 := fun i => by rw [e]; rfl
 unfold rowK upTo
 rw [List.map_map]
 have e3 : ((fun i => if heafK f t 0 i then (1 : Int) else 0) ∘ fun (k : Nat) => (k : Int)) = fun _ => 0 := funext fun (k : Nat) => e2 (k : Int)
 rw [e3, List.map_const', List.length_range]
theorem numbered_take {α : Type} {l : List α} {k : Nat} {x : α} (h : l[k]? = some x) : (numbered l).take (k + 1) = (numbered l).take k ++ [((k : Int), x)] := by
 have hk : (numbered l)[k]? = some ((k : Int), x) := by
  unfold numbered
  rw [List.getElem?_map, List.getElem?_zipIdx, h]
  simp
 rw [List.take_add_one, hk]
 rfl
theorem heafK_step {f : Fe} {t : Int} {k : Nat} {x : Pl} (h : f.places[k]? = some x) (i : Int) : heafK f t (k + 1) i = (heafK f t k i || (x.kind == 1 && idxN f 1 k t == i)) := by
 unfold heafK
 rw [numbered_take h, List.any_append, List.any_cons, List.any_nil, Bool.or_false]
theorem rowK_no {f : Fe} {t : Int} {k : Nat} {x : Pl} (h : f.places[k]? = some x) (hk : (x.kind == 1) = false) : rowK f t (k + 1) = rowK f t k := by
 unfold rowK
 congr 1
 funext i
 rw [heafK_step h, hk, Bool.false_and, Bool.or_false]
theorem rowK_yes {f : Fe} {t : Int} {k : Nat} {x : Pl} (h : f.places[k]? = some x) (hk : (x.kind == 1) = true) (h0 : 0 ≤ idxN f 1 k t) : rowK f t (k + 1) = (rowK f t k).set (idxN f 1 k t).toNat 1 := by
 apply List.ext_getElem?
 intro j
 rw [List.getElem?_set, rowK_len]
 unfold rowK upTo
 rw [List.map_map, List.map_map, List.getElem?_map, List.getElem?_map]
 by_cases hj : j < (countN f).toNat
 ·rw [List.getElem?_range hj]
  simp only [Option.map_some, Function.comp_apply]
  rw [heafK_step h, hk, Bool.true_and]
  by_cases e : (idxN f 1 k t).toNat = j
  ·have e2 : (idxN f 1 k t == (j : Int)) = true := beq_iff_eq.2 (by omega)
   rw [if_pos e, e2, Bool.or_true]
   simp
   omega
  ·have e2 : (idxN f 1 k t == (j : Int)) = false := beq_eq_false_iff_ne.2 (by omega)
   rw [if_neg e, e2, Bool.or_false]
 ·have hn : (List.range (countN f).toNat)[j]? = none := List.getElem?_eq_none (by simp; omega)
  rw [hn]
  by_cases e : (idxN f 1 k t).toNat = j
  ·rw [if_pos e, if_neg (by omega)]; rfl
  ·rw [if_neg e]; rfl
theorem rowK_all (f : Fe) (t : Int) : rowK f t f.places.length = onFellL f t := by
 unfold rowK onFellL heafK
 rw [List.take_of_length_le (by simp [numbered])]
end Go.Proofs.YtlppdgaogdpajaaGreatDoor
