/- This text is a part of the proof: RefCheck, RefPlaces, WaysLaw, RefBeside. -/
import Derived.Test.YtlppdgaogdpajaaGreatDoorLPlaces1
namespace Go.Proofs.YtlppdgaogdpajaaGreatDoor
open Go.RowKit Go.Shelf
attribute [local go_sem] Oper.semAt_some
structure Sized (f : Fe) : Prop where
 p : ∀ s ∈ plNames f.places, s.size ≤ 1000000
 g : ∀ s ∈ gtNames f.gates, s.size ≤ 1000000
def kindsK (f : Fe) (k : Nat) : Bool := (f.places.take k).all fun p => p.kind == 1 || p.kind == 2
def mostsK (f : Fe) (k : Nat) : Bool := (f.gates.take k).all fun g => rg 0 1000 g.most
def endsK (f : Fe) (k : Nat) : Bool := (f.gates.take k).any (endsBad f.places.length)
theorem kindsK_step {f : Fe} {k : Nat} {x : Pl} (h : f.places[k]? = some x) : kindsK f (k + 1) = (kindsK f k && (x.kind == 1 || x.kind == 2)) := by
 unfold kindsK
 rw [take_some h, List.all_append]
 simp
theorem mostsK_step {f : Fe} {k : Nat} {x : Gt} (h : f.gates[k]? = some x) : mostsK f (k + 1) = (mostsK f k && rg 0 1000 x.most) := by
 unfold mostsK
 rw [take_some h, List.all_append]
 simp
theorem endsK_step {f : Fe} {k : Nat} {x : Gt} (h : f.gates[k]? = some x) : endsK f (k + 1) = (endsK f k || endsBad f.places.length x) := by
 unfold endsK
 rw [take_some h, List.any_append]
 simp
theorem endsK_mono {f : Fe} {k : Nat} (h : endsK f k = true) : f.gates.any (endsBad f.places.length) = true := by
 unfold endsK at h
 obtain ⟨x, hx, hb⟩ := List.any_eq_true.1 h
 exact List.any_eq_true.2 ⟨x, List.mem_of_mem_take hx, hb⟩
def restE (f : Fe) : Int := if (rg 0 1000 f.yields && kindsK f f.places.length && mostsK f f.gates.length) = false then 1 else if f.gates.any (endsBad f.places.length) then 50 else 0
theorem rest_check {f : Fe} (ha : ¬ (8 < f.places.length ∨ 12 < f.gates.length ∨ 24 < f.ticks)) (hb : ¬ (f.places.length = 0 ∨ f.ticks < 1)) :
  checkE f = if ((plNames f.places).all nameB && (gtNames f.gates).all nameB) = false then 4 else if (twiceB (plNames f.places) || twiceB (gtNames f.gates)) = true then 6 else restE f := by
 unfold checkE restE kindsK mostsK
 rw [if_neg ha, if_neg hb, List.take_length, List.take_length, ends_any]
 have e1 : ∀ l : List ByteArray, l.any (fun s => !nameB s) = !l.all nameB := fun l => by rw [List.not_all_eq_any_not]
 have e2 : f.places.any (fun p => p.kind != 1 && p.kind != 2) = !f.places.all (fun p => p.kind == 1 || p.kind == 2) := by
  rw [List.not_all_eq_any_not]
  congr 1
  funext p
  rw [Bool.not_or]
  rfl
 have e3 : f.gates.any (fun g => !rg 0 1000 g.most) = !f.gates.all (fun g => rg 0 1000 g.most) := by rw [List.not_all_eq_any_not]
 rw [e1, e1, e2, e3]
 cases (plNames f.places).all nameB <;> cases (gtNames f.gates).all nameB <;> cases twiceB (plNames f.places) <;> cases twiceB (gtNames f.gates) <;> cases rg 0 1000 f.yields <;> cases f.places.all (fun p => p.kind == 1 || p.kind == 2) <;> cases f.gates.all (fun g => rg 0 1000 g.most) <;> simp
set_option maxRecDepth 100000 in
set_option maxHeartbeats 4000000 in
theorem c_rCheck_A1 (m : Fm) (w : World) (h : 8 < m.f.places.length) (hl : m.f.places.length ≤ 1000000000000) : Calls Tryz.prog 25 #[m.v] w fun e w' => e = .returned (.int .i64 2) ∧ Below w.heap.size w w' := by
 have h1 : (8 : Int) < (m.f.places.length : Int) := by omega
 go_enter Tryz.func25, Tryz.ntmps25
 go_upto_region 1 with (fail)
 go_name_world W1 hW1
 have hb0 : Below w.heap.size w W1 := by subst hW1; go_grown
 obtain ⟨q0, q1, q2, q3⟩ := (show QB m W1 w.heap.size from by subst hW1; refine ⟨?_, ?_, ?_, ?_⟩ <;> go_simp)
 clear hW1 
 go_wp2_with fail
 go_ret
 exact ⟨rfl, by have hbz := hb0.size; go_grown⟩
set_option maxRecDepth 100000 in
set_option maxHeartbeats 4000000 in
theorem c_rCheck_A2 (m : Fm) (w : World) (h : m.f.places.length ≤ 8) (h2 : 12 < m.f.gates.length) (hl : m.f.gates.length ≤ 1000000000000) : Calls Tryz.prog 25 #[m.v] w fun e w' => e = .returned (.int .i64 2) ∧ Below w.heap.size w w' := by
 have h1 : ¬ (8 : Int) < (m.f.places.length : Int) := by omega
 have h3 : (12 : Int) < (m.f.gates.length : Int) := by omega
 go_enter Tryz.func25, Tryz.ntmps25
 go_upto_region 1 with (fail)
 go_name_world W1 hW1
 have hb0 : Below w.heap.size w W1 := by subst hW1; go_grown
 obtain ⟨q0, q1, q2, q3⟩ := (show QB m W1 w.heap.size from by subst hW1; refine ⟨?_, ?_, ?_, ?_⟩ <;> go_simp)
 clear hW1 
 go_wp2_with fail
 go_ret
 exact ⟨rfl, by have hbz := hb0.size; go_grown⟩
set_option maxRecDepth 100000 in
set_option maxHeartbeats 4000000 in
theorem c_rCheck_A3 (m : Fm) (w : World) (h : m.f.places.length ≤ 8) (h2 : m.f.gates.length ≤ 12) (h5 : 24 < m.f.ticks) : Calls Tryz.prog 25 #[m.v] w fun e w' => e = .returned (.int .i64 2) ∧ Below w.heap.size w w' := by
 have h1 : ¬ (8 : Int) < (m.f.places.length : Int) := by omega
 have h3 : ¬ (12 : Int) < (m.f.gates.length : Int) := by omega
 go_enter Tryz.func25, Tryz.ntmps25
 go_upto_region 1 with (fail)
 go_name_world W1 hW1
 have hb0 : Below w.heap.size w W1 := by subst hW1; go_grown
 obtain ⟨q0, q1, q2, q3⟩ := (show QB m W1 w.heap.size from by subst hW1; refine ⟨?_, ?_, ?_, ?_⟩ <;> go_simp)
 clear hW1 
 go_wp2_with fail
 go_ret
 exact ⟨rfl, by have hbz := hb0.size; go_grown⟩
set_option maxRecDepth 100000 in
set_option maxHeartbeats 4000000 in
theorem c_rCheck_B1 (m : Fm) (w : World) (h2 : m.f.gates.length ≤ 12) (h5 : ¬ 24 < m.f.ticks) (hb : m.f.places.length = 0) : Calls Tryz.prog 25 #[m.v] w fun e w' => e = .returned (.int .i64 5) ∧ Below w.heap.size w w' := by
 have h1 : ¬ (8 : Int) < (m.f.places.length : Int) := by omega
 have h3 : ¬ (12 : Int) < (m.f.gates.length : Int) := by omega
 have h6 : ((m.f.places.length : Int) == 0) = true := beq_iff_eq.2 (by omega)
 go_enter Tryz.func25, Tryz.ntmps25
 go_upto_region 1 with (fail)
 go_name_world W1 hW1
 have hb0 : Below w.heap.size w W1 := by subst hW1; go_grown
 obtain ⟨q0, q1, q2, q3⟩ := (show QB m W1 w.heap.size from by subst hW1; refine ⟨?_, ?_, ?_, ?_⟩ <;> go_simp)
 clear hW1 
 go_wp2_with fail
 go_ret
 exact ⟨rfl, by have hbz := hb0.size; go_grown⟩
set_option maxRecDepth 100000 in
set_option maxHeartbeats 4000000 in
theorem c_rCheck_B2 (m : Fm) (w : World) (h : m.f.places.length ≤ 8) (h2 : m.f.gates.length ≤ 12) (h5 : ¬ 24 < m.f.ticks) (hb : m.f.places.length ≠ 0) (h7 : m.f.ticks < 1) : Calls Tryz.prog 25 #[m.v] w fun e w' => e = .returned (.int .i64 5) ∧ Below w.heap.size w w' := by
 have h1 : ¬ (8 : Int) < (m.f.places.length : Int) := by omega
 have h3 : ¬ (12 : Int) < (m.f.gates.length : Int) := by omega
 have h6 : ((m.f.places.length : Int) == 0) = false := beq_eq_false_iff_ne.2 (by omega)
 go_enter Tryz.func25, Tryz.ntmps25
 go_upto_region 1 with (fail)
 go_name_world W1 hW1
 have hb0 : Below w.heap.size w W1 := by subst hW1; go_grown
 obtain ⟨q0, q1, q2, q3⟩ := (show QB m W1 w.heap.size from by subst hW1; refine ⟨?_, ?_, ?_, ?_⟩ <;> go_simp)
 clear hW1 
 go_wp2_with fail
 go_ret
 exact ⟨rfl, by have hbz := hb0.size; go_grown⟩
set_option maxRecDepth 100000 in
set_option maxHeartbeats 4000000 in
theorem c_rCheck_C (m : Fm) (w : World) (hm : m.In w) (hz : Sized m.f) (h : m.f.places.length ≤ 8) (h2 : m.f.gates.length ≤ 12) (h5 : ¬ 24 < m.f.ticks) (hb : m.f.places.length ≠ 0) (h7 : ¬ m.f.ticks < 1) : Calls Tryz.prog 25 #[m.v] w fun e w' => e = .returned (.int .i64 (if ((plNames m.f.places).all nameB && (gtNames m.f.gates).all nameB) = false then 4 else if (twiceB (plNames m.f.places) || twiceB (gtNames m.f.gates)) = true then 6 else restE m.f)) ∧ Below w.heap.size w w' := by
 have h1 : ¬ (8 : Int) < (m.f.places.length : Int) := by omega
 have h3 : ¬ (12 : Int) < (m.f.gates.length : Int) := by omega
 have h6 : ((m.f.places.length : Int) == 0) = false := beq_eq_false_iff_ne.2 (by omega)
 have hN := fun W (hb : Below w.heap.size w W) => c_rNames m W (hm.later hb)
 have hn1 := fun a c W (hl : Strs W a (plNames m.f.places)) => c_rNamed (plNames m.f.places) a c W hl hz.p
 have hn2 := fun a c W (hl : Strs W a (gtNames m.f.gates)) => c_rNamed (gtNames m.f.gates) a c W hl hz.g
 have ht1 := fun a c W (hl : Strs W a (plNames m.f.places)) => c_rTwice (plNames m.f.places) a c W hl
 have ht2 := fun a c W (hl : Strs W a (gtNames m.f.gates)) => c_rTwice (gtNames m.f.gates) a c W hl
 generalize hP : plNames m.f.places = P at *
 generalize hG : gtNames m.f.gates = G at *
 generalize P.all nameB = n1 at *
 generalize G.all nameB = n2 at *
 generalize twiceB P = t1 at *
 generalize twiceB G = t2 at *
 have HN := Lib.hid hN
 have N1 := Lib.hid hn1
 have N2 := Lib.hid hn2
 have T1 := Lib.hid ht1
 have T2 := Lib.hid ht2
 have HM := Lib.hid hm
 clear hN hn1 hn2 ht1 ht2 hm hz hb hP hG
 go_enter Tryz.func25, Tryz.ntmps25
 go_upto_region 1 with (fail)
 go_name_world W1 hW1
 have hb0 : Below w.heap.size w W1 := by subst hW1; go_grown
 obtain ⟨q0, q1, q2, q3⟩ := (show QB m W1 w.heap.size from by subst hW1; refine ⟨?_, ?_, ?_, ?_⟩ <;> go_simp)
 clear hW1 
 go_wp2_with fail
 refine (HN.out _ hb0).mono ?_
 rintro E W2 ⟨⟨b1, c1, b2, c2, rfl, s1, s2⟩, hB⟩
 have hc := (bcell hB).1
 have zz := cy4 hc q0 q1 q2 q3
 clear q0 q1 q2 q3
 obtain ⟨q0, q1, q2, q3⟩ := zz
 replace hb0 := bthen hb0 hB
 clear hc hB
 go_wp2_with fail
 refine (N1.out _ _ _ s1).mono ?_
 rintro E W3 ⟨rfl, hB⟩
 have hc := (bcell hB).1
 have zz := cy4 hc q0 q1 q2 q3
 clear q0 q1 q2 q3
 obtain ⟨q0, q1, q2, q3⟩ := zz
 replace s1 := s1.later hB
 replace s2 := s2.later hB
 replace hb0 := bthen hb0 hB
 clear hc hB
 go_wp2_with fail
 refine (N2.out _ _ _ s2).mono ?_
 rintro E W4 ⟨rfl, hB⟩
 have hc := (bcell hB).1
 have zz := cy4 hc q0 q1 q2 q3
 clear q0 q1 q2 q3
 obtain ⟨q0, q1, q2, q3⟩ := zz
 replace s1 := s1.later hB
 replace s2 := s2.later hB
 replace hb0 := bthen hb0 hB
 clear hc hB
 cases n1
 ·clear s1 s2
  go_wp2
  go_ret
  exact ⟨rfl, hb0⟩
 cases n2
 ·clear s1 s2
  go_wp2
  go_ret
  exact ⟨rfl, hb0⟩
 go_wp2_with fail
 refine (T1.out _ _ _ s1).mono ?_
 rintro E W5 ⟨rfl, hB⟩
 have hc := (bcell hB).1
 have zz := cy4 hc q0 q1 q2 q3
 clear q0 q1 q2 q3
 obtain ⟨q0, q1, q2, q3⟩ := zz
 replace s1 := s1.later hB
 replace s2 := s2.later hB
 replace hb0 := bthen hb0 hB
 clear hc hB
 go_wp2_with fail
 refine (T2.out _ _ _ s2).mono ?_
 rintro E W6 ⟨rfl, hB⟩
 have hc := (bcell hB).1
 have zz := cy4 hc q0 q1 q2 q3
 clear q0 q1 q2 q3
 obtain ⟨q0, q1, q2, q3⟩ := zz
 replace hb0 := bthen hb0 hB
 clear hc hB
 clear s1 s2 HN N1 N2 T1 T2
 cases t1
 case true =>
  go_wp2
  go_ret
  exact ⟨rfl, hb0⟩
 cases t2
 case true =>
  go_wp2
  go_ret
  exact ⟨rfl, hb0⟩
 go_wp2_with fail
 refine (c_rWithin _ _ _ _).mono ?_
 rintro E W7 ⟨rfl, hB⟩
 have hc := (bcell hB).1
 have zz := cy4 hc q0 q1 q2 q3
 clear q0 q1 q2 q3
 obtain ⟨q0, q1, q2, q3⟩ := zz
 replace hb0 := bthen hb0 hB
 clear hc hB
 have HQ0 := Lib.hid (show CellsAt W7 w.heap.size 0 (feC m) from cells_4 q0 q1 q2 q3)
 obtain ⟨y0, hy0⟩ : ∃ t, rg 0 1000 m.f.yields = t := ⟨_, rfl⟩
 rw [hy0]
 have hre : restE m.f = if (y0 && kindsK m.f m.f.places.length && mostsK m.f m.f.gates.length) = false then 1 else if m.f.gates.any (endsBad m.f.places.length) then 50 else 0 := by unfold restE; rw [hy0]
 have HRE := Lib.hid hre
 clear q0 q1 q2 q3 hy0 hre
 go_wp2
 go_loopw [7, 8] (fun v7 v8 wr => ∃ k : Nat, k ≤ m.f.places.length ∧ v8 = .int .i64 k ∧ v7 = .bool (y0 && kindsK m.f k) ∧ Below w.heap.size w wr ∧ CellsAt wr w.heap.size 0 (feC m)) (fun _ v8 _ => m.f.places.length - (intOf v8).toNat)
 case atStart => exact ⟨0, by omega, rfl, by rw [show kindsK m.f 0 = true from rfl, Bool.and_true], hb0, HQ0.out⟩
 case round =>
  obtain ⟨k, hk, rfl, rfl, hb, hq⟩ := hrel
  have HQ := Lib.hid hq
  obtain ⟨q0, q1, q2, q3⟩ := fe_cells hq
  clear hq
  by_cases hlt : k < m.f.places.length
  ·obtain ⟨x, hx⟩ := some_at hlt
   have hi1 : ¬ (k : Int) < 0 := by omega
   have hi2 : (k : Int) < (m.f.places.length : Int) := by omega
   obtain ⟨b, o, hpa, hat⟩ := (HM.out.later hb).pl.at hx
   rw [hpa] at q2
   obtain ⟨z0, z1⟩ := pl_cells hat
   have hst := kindsK_step hx
   obtain ⟨kk, hkk⟩ : ∃ t, (y0 && kindsK m.f k) = t := ⟨_, rfl⟩
   have hst2 : (y0 && kindsK m.f (k + 1)) = (kk && (x.kind == 1 || x.kind == 2)) := by rw [hst, ← Bool.and_assoc, hkk]
   rw [hkk]
   clear hx hat hpa hst hkk z0
   cases kk
   ·have HS := Lib.hid hst2
    clear hst2 z1
    go_wp2
    go_roundw
    case rel => exact ⟨k + 1, by omega, by go_num, by first | (rw [HS.out]; rfl) | rw [HS.out], hb, HQ.out⟩
    case measure => simp [intOf]; omega
   ·obtain ⟨d1, hd1⟩ : ∃ t, (x.kind == 1) = t := ⟨_, rfl⟩
    obtain ⟨d2, hd2⟩ : ∃ t, (x.kind == 2) = t := ⟨_, rfl⟩
    rw [hd1, hd2] at hst2
    have HS := Lib.hid hst2
    clear hst2
    cases d1
    ·cases d2
     ·go_wp2
      go_roundw
      case rel => exact ⟨k + 1, by omega, by go_num, by first | (rw [HS.out]; rfl) | rw [HS.out], hb, HQ.out⟩
      case measure => simp [intOf]; omega
     ·go_wp2
      go_roundw
      case rel => exact ⟨k + 1, by omega, by go_num, by first | (rw [HS.out]; rfl) | rw [HS.out], hb, HQ.out⟩
      case measure => simp [intOf]; omega
    ·go_wp2
     go_roundw
     case rel => exact ⟨k + 1, by omega, by go_num, by first | (rw [HS.out]; rfl) | rw [HS.out], hb, HQ.out⟩
     case measure => simp [intOf]; omega
  ·obtain rfl : k = m.f.places.length := by omega
   have hi2 : ¬ (m.f.places.length : Int) < (m.f.places.length : Int) := by omega
   obtain ⟨Y, hYd⟩ : ∃ t, (y0 && kindsK m.f m.f.places.length) = t := ⟨_, rfl⟩
   rw [hYd]
   go_wp2
   clear q0 q1 q2 q3
   go_loopw [7, 9] (fun v7 v9 wr => ∃ k : Nat, k ≤ m.f.gates.length ∧ v9 = .int .i64 k ∧ v7 = .bool (Y && mostsK m.f k) ∧ Below w.heap.size w wr ∧ CellsAt wr w.heap.size 0 (feC m)) (fun _ v9 _ => m.f.gates.length - (intOf v9).toNat)
   case atStart => exact ⟨0, by omega, rfl, by rw [show mostsK m.f 0 = true from rfl, Bool.and_true], hb, HQ.out⟩
   case round =>
    obtain ⟨k, hk, rfl, rfl, hb, hq⟩ := hrel
    have HQ := Lib.hid hq
    obtain ⟨q0, q1, q2, q3⟩ := fe_cells hq
    clear hq
    by_cases hlt : k < m.f.gates.length
    ·obtain ⟨x, hx⟩ := some_at hlt
     have hi1 : ¬ (k : Int) < 0 := by omega
     have hi2 : (k : Int) < (m.f.gates.length : Int) := by omega
     obtain ⟨b, o, hpa, hat⟩ := (HM.out.later hb).gt.at hx
     rw [hpa] at q3
     obtain ⟨y0, y1, y2, y3⟩ := gt_cells hat
     have hst := mostsK_step hx
     obtain ⟨mk, hmk⟩ : ∃ t, (Y && mostsK m.f k) = t := ⟨_, rfl⟩
     have hst2 : (Y && mostsK m.f (k + 1)) = (mk && rg 0 1000 x.most) := by rw [hst, ← Bool.and_assoc, hmk]
     rw [hmk]
     have HS := Lib.hid hst2
     clear hx hat hpa hst hst2 hmk y0 y1 y2
     cases mk
     ·clear y3
      go_wp2
      go_roundw
      case rel => exact ⟨k + 1, by omega, by go_num, by first | (rw [HS.out]; rfl) | rw [HS.out], hb, HQ.out⟩
      case measure => simp [intOf]; omega
     ·go_wp2_with fail
      refine (c_rWithin _ _ _ _).mono ?_
      rintro E W19 ⟨rfl, hB⟩
      replace hb := bthen hb hB
      have HQ2 := Lib.hid (HQ.out.later hB)
      obtain ⟨q0, q1, q2, q3⟩ := fe_cells HQ2.out
      clear hB y3 HQ
      have HQ := HQ2
      clear HQ2
      go_wp2
      go_roundw
      case rel => exact ⟨k + 1, by omega, by go_num, by first | (rw [HS.out]; rfl) | rw [HS.out], hb, HQ.out⟩
      case measure => simp [intOf]; omega
    ·obtain rfl : k = m.f.gates.length := by omega
     have hi2 : ¬ (m.f.gates.length : Int) < (m.f.gates.length : Int) := by omega
     obtain ⟨V, hV⟩ : ∃ t, (Y && mostsK m.f m.f.gates.length) = t := ⟨_, rfl⟩
     rw [hV]
     have hrv := HRE.out
     rw [hYd, hV] at hrv
     have HRV := Lib.hid hrv
     clear hrv hYd hV HRE
     cases V
     ·go_wp2
      go_ret
      exact ⟨by rw [HRV.out]; rfl, hb⟩
     ·go_wp2
      clear q0 q1 q2 q3
      go_loopw [10] (fun v10 wr => ∃ k : Nat, k ≤ m.f.gates.length ∧ v10 = .int .i64 k ∧ endsK m.f k = false ∧ Below w.heap.size w wr ∧ CellsAt wr w.heap.size 0 (feC m)) (fun v10 _ => m.f.gates.length - (intOf v10).toNat)
      case atStart => exact ⟨0, by omega, rfl, rfl, hb, HQ.out⟩
      case round =>
       obtain ⟨k, hk, rfl, he, hb, hq⟩ := hrel
       have HQ := Lib.hid hq
       obtain ⟨q0, q1, q2, q3⟩ := fe_cells hq
       clear hq
       by_cases hlt : k < m.f.gates.length
       ·obtain ⟨x, hx⟩ := some_at hlt
        have hi1 : ¬ (k : Int) < 0 := by omega
        have hi2 : (k : Int) < (m.f.gates.length : Int) := by omega
        obtain ⟨b, o, hpa, hat⟩ := (HM.out.later hb).gt.at hx
        rw [hpa] at q3
        obtain ⟨y0, y1, y2, y3⟩ := gt_cells hat
        have hst := endsK_step hx
        rw [he, Bool.false_or] at hst
        have hmo := fun h => endsK_mono (f := m.f) (k := k + 1) h
        unfold endsBad at hst
        obtain ⟨r1, hr1⟩ : ∃ t, rg 0 ((m.f.places.length : Int) - 1) x.a = t := ⟨_, rfl⟩
        obtain ⟨r2, hr2⟩ : ∃ t, rg 0 ((m.f.places.length : Int) - 1) x.b = t := ⟨_, rfl⟩
        obtain ⟨r3, hr3⟩ : ∃ t, (x.a == x.b) = t := ⟨_, rfl⟩
        have hc1 := fun W => c_rWithin x.a 0 ((m.f.places.length : Int) - 1) W
        have hc2 := fun W => c_rWithin x.b 0 ((m.f.places.length : Int) - 1) W
        rw [hr1, hr2, hr3] at hst
        simp only [hr1] at hc1
        simp only [hr2] at hc2
        have C1 := Lib.hid hc1
        have C2 := Lib.hid hc2
        have h50 : ∀ (h : (!r1 || !r2 || r3) = true), restE m.f = 50 := fun h => by rw [HRV.out, hmo (hst.trans h)]; rfl
        have H50 := Lib.hid h50
        have HS := Lib.hid hst
        clear hx hat hpa hst he hmo hc1 hc2 h50 hr1 hr2
        go_upto_region 29 with (fail)
        go_name_world W20 hW20
        have hB : Below wr.heap.size wr W20 := by subst hW20; go_grown
        have g1 : W20.cell? ⟨wr.heap.size, 1, none⟩ = some (.int .i64 x.a) := by subst hW20; go_simp
        have g2 : W20.cell? ⟨wr.heap.size, 2, none⟩ = some (.int .i64 x.b) := by subst hW20; go_simp
        clear hW20 y0 y1 y2 y3 q0 q1 q3
        replace q2 := later_of hB q2
        replace hb := bthen hb hB
        have HQ2 := Lib.hid (HQ.out.later hB)
        clear hB HQ
        go_wp2_with fail
        refine (C1.out _).mono ?_
        rintro E W21 ⟨rfl, hB⟩
        have zz := cl3 hB q2 g1 g2
        clear q2 g1 g2
        obtain ⟨q2, g1, g2⟩ := zz
        replace hb := bthen hb hB
        have HQ3 := Lib.hid (HQ2.out.later hB)
        clear hB HQ2 C1
        cases r1
        ·go_wp2
         go_ret
         exact ⟨by rw [H50.out rfl]; rfl, hb⟩
        ·go_wp2_with fail
         refine (C2.out _).mono ?_
         rintro E W22 ⟨rfl, hB⟩
         replace g1 := later_of hB g1
         replace g2 := later_of hB g2
         replace hb := bthen hb hB
         have HQ := Lib.hid (HQ3.out.later hB)
         clear hB HQ3 C2 q2
         cases r2
         ·go_wp2
          go_ret
          exact ⟨by rw [H50.out rfl]; rfl, hb⟩
         ·cases r3
          ·go_wp2
           go_roundw
           case rel => exact ⟨k + 1, by omega, by go_num, by rw [HS.out]; rfl, hb, HQ.out⟩
           case measure => simp [intOf]; omega
          ·go_wp2
           go_ret
           exact ⟨by rw [H50.out rfl]; rfl, hb⟩
       ·obtain rfl : k = m.f.gates.length := by omega
        have hi2 : ¬ (m.f.gates.length : Int) < (m.f.gates.length : Int) := by omega
        have HE := Lib.hid he
        clear he
        go_wp2
        go_ret
        refine ⟨?_, hb⟩
        have := HE.out
        unfold endsK at this
        rw [List.take_length] at this
        rw [HRV.out, this]
        rfl
 
theorem c_rCheck (m : Fm) (w : World) (hm : m.In w) (hz : Sized m.f) : Calls Tryz.prog 25 #[m.v] w fun e w' => e = .returned (.int .i64 (checkE m.f)) ∧ Below w.heap.size w w' := by
 by_cases ha : 8 < m.f.places.length ∨ 12 < m.f.gates.length ∨ 24 < m.f.ticks
 ·rw [show checkE m.f = 2 from if_pos ha]
  by_cases ha1 : 8 < m.f.places.length
  ·exact c_rCheck_A1 m w ha1 hm.pl.1
  ·by_cases ha2 : 12 < m.f.gates.length
   ·exact c_rCheck_A2 m w (by omega) ha2 hm.gt.1
   ·exact c_rCheck_A3 m w (by omega) (by omega) (by omega)
 ·by_cases hb : m.f.places.length = 0 ∨ m.f.ticks < 1
  ·rw [show checkE m.f = 5 from (if_neg ha).trans (if_pos hb)]
   by_cases hb1 : m.f.places.length = 0
   ·exact c_rCheck_B1 m w (by omega) (by omega) hb1
   ·exact c_rCheck_B2 m w (by omega) (by omega) (by omega) hb1 (by omega)
  ·rw [rest_check ha hb]
   exact c_rCheck_C m w hm hz (by omega) (by omega) (by omega) (by omega) (by omega)
end Go.Proofs.YtlppdgaogdpajaaGreatDoor
namespace Go.Proofs.YtlppdgaogdpajaaGreatDoor
open Go.RowKit Go.Shelf
attribute [local go_sem] Oper.semAt_some
set_option maxRecDepth 100000 in
set_option maxHeartbeats 2000000 in
theorem c_rPlaceOf_no (m : Fm) (s : ByteArray) (w : World) (hm : m.In w) (hs : Sized m.f) (h : checkE m.f ≠ 0) : Calls Tryz.prog 65 #[m.v, .string s] w fun e w' => e = .returned (pairV (0, checkE m.f)) ∧ Below w.heap.size w w' := by
 have hC := fun W (hb : Below w.heap.size w W) => c_rCheck m W (hm.later hb) hs
 generalize checkE m.f = E at *
 have he : (E != 0) = true := bne_iff_ne.2 h
 have HC := Lib.hid hC
 clear hC h hm hs
 go_enter Tryz.func65, Tryz.ntmps65
 go_upto_region 1 with (fail)
 go_name_world W1 hW1
 have hb0 : Below w.heap.size w W1 := by subst hW1; go_grown
 obtain ⟨q0, q1, q2, q3⟩ := (show QB m W1 w.heap.size from by subst hW1; refine ⟨?_, ?_, ?_, ?_⟩ <;> go_simp)
 clear hW1 
 go_wp2_with fail
 refine (HC.out _ hb0).mono ?_
 rintro E W2 ⟨rfl, hB⟩
 have hc := (bcell hB).1
 have zz := cy4 hc q0 q1 q2 q3
 clear q0 q1 q2 q3
 obtain ⟨q0, q1, q2, q3⟩ := zz
 replace hb0 := bthen hb0 hB
 clear hc hB
 go_wp2
 go_ret2
 exact ⟨rfl, hb0⟩
set_option maxRecDepth 100000 in
set_option maxHeartbeats 2000000 in
theorem c_rPlaceOf_ok (m : Fm) (s : ByteArray) (w : World) (hm : m.In w) (hs : Sized m.f) (h : checkE m.f = 0) : Calls Tryz.prog 65 #[m.v, .string s] w fun e w' => e = .returned (pairV (if idxS (plNames m.f.places) s < 0 then (0, 5) else (idxS (plNames m.f.places) s, 0))) ∧ Below w.heap.size w w' := by
 have hC := fun W (hb : Below w.heap.size w W) => c_rCheck m W (hm.later hb) hs
 rw [h] at hC
 have hN := fun W (hb : Below w.heap.size w W) => c_rNames m W (hm.later hb)
 have hI := fun a c W (hl : Strs W a (plNames m.f.places)) => c_rIndex s (plNames m.f.places) a c W hl
 obtain ⟨i, hi⟩ : ∃ i, idxS (plNames m.f.places) s = i := ⟨_, rfl⟩
 rw [hi]
 simp only [hi] at hI
 have HC := Lib.hid hC
 have HN := Lib.hid hN
 have HI := Lib.hid hI
 clear hC hN hI h hm hs hi
 obtain ⟨R, hR⟩ : ∃ R : Int × Int, (if i < 0 then (0, 5) else (i, 0)) = R := ⟨_, rfl⟩
 rw [hR]
 have HR := Lib.hid hR
 clear hR
 go_enter Tryz.func65, Tryz.ntmps65
 go_upto_region 1 with (fail)
 go_name_world W1 hW1
 have hb0 : Below w.heap.size w W1 := by subst hW1; go_grown
 obtain ⟨q0, q1, q2, q3⟩ := (show QB m W1 w.heap.size from by subst hW1; refine ⟨?_, ?_, ?_, ?_⟩ <;> go_simp)
 clear hW1 
 go_wp2_with fail
 refine (HC.out _ hb0).mono ?_
 rintro E W2 ⟨rfl, hB⟩
 have hc := (bcell hB).1
 have zz := cy4 hc q0 q1 q2 q3
 clear q0 q1 q2 q3
 obtain ⟨q0, q1, q2, q3⟩ := zz
 replace hb0 := bthen hb0 hB
 clear hc hB
 go_wp2_with fail
 refine (HN.out _ hb0).mono ?_
 rintro E W3 ⟨⟨b1, c1, b2, c2, rfl, s1, s2⟩, hB⟩
 have hc := (bcell hB).1
 have zz := cy4 hc q0 q1 q2 q3
 clear q0 q1 q2 q3
 obtain ⟨q0, q1, q2, q3⟩ := zz
 replace hb0 := bthen hb0 hB
 clear hc hB
 go_wp2_with fail
 refine (HI.out _ _ _ s1).mono ?_
 rintro E W4 ⟨rfl, hB⟩
 have hc := (bcell hB).1
 have zz := cy4 hc q0 q1 q2 q3
 clear q0 q1 q2 q3
 obtain ⟨q0, q1, q2, q3⟩ := zz
 replace hb0 := bthen hb0 hB
 clear hc hB
 clear s1 s2 HN HI HC
 by_cases hn : i < 0
 ·have hr := HR.out
  rw [if_pos hn] at hr
  subst hr
  go_wp2
  go_ret2
  exact ⟨rfl, hb0⟩
 ·have hr := HR.out
  rw [if_neg hn] at hr
  subst hr
  go_wp2
  go_ret2
  exact ⟨rfl, hb0⟩
theorem c_rPlaceOf (m : Fm) (s : ByteArray) (w : World) (hm : m.In w) (hs : Sized m.f) : Calls Tryz.prog 65 #[m.v, .string s] w fun e w' => e = .returned (pairV (indexV m.f (plNames m.f.places) s)) ∧ Below w.heap.size w w' := by
 unfold indexV
 by_cases h : checkE m.f = 0
 ·rw [if_neg (fun k => k h)]; exact c_rPlaceOf_ok m s w hm hs h
 ·rw [if_pos h]; exact c_rPlaceOf_no m s w hm hs h
set_option maxRecDepth 100000 in
set_option maxHeartbeats 2000000 in
theorem c_rGateOf_no (m : Fm) (s : ByteArray) (w : World) (hm : m.In w) (hs : Sized m.f) (h : checkE m.f ≠ 0) : Calls Tryz.prog 67 #[m.v, .string s] w fun e w' => e = .returned (pairV (0, checkE m.f)) ∧ Below w.heap.size w w' := by
 have hC := fun W (hb : Below w.heap.size w W) => c_rCheck m W (hm.later hb) hs
 generalize checkE m.f = E at *
 have he : (E != 0) = true := bne_iff_ne.2 h
 have HC := Lib.hid hC
 clear hC h hm hs
 go_enter Tryz.func67, Tryz.ntmps67
 go_upto_region 1 with (fail)
 go_name_world W1 hW1
 have hb0 : Below w.heap.size w W1 := by subst hW1; go_grown
 obtain ⟨q0, q1, q2, q3⟩ := (show QB m W1 w.heap.size from by subst hW1; refine ⟨?_, ?_, ?_, ?_⟩ <;> go_simp)
 clear hW1 
 go_wp2_with fail
 refine (HC.out _ hb0).mono ?_
 rintro E W2 ⟨rfl, hB⟩
 have hc := (bcell hB).1
 have zz := cy4 hc q0 q1 q2 q3
 clear q0 q1 q2 q3
 obtain ⟨q0, q1, q2, q3⟩ := zz
 replace hb0 := bthen hb0 hB
 clear hc hB
 go_wp2
 go_ret2
 exact ⟨rfl, hb0⟩
set_option maxRecDepth 100000 in
set_option maxHeartbeats 2000000 in
theorem c_rGateOf_ok (m : Fm) (s : ByteArray) (w : World) (hm : m.In w) (hs : Sized m.f) (h : checkE m.f = 0) : Calls Tryz.prog 67 #[m.v, .string s] w fun e w' => e = .returned (pairV (if idxS (gtNames m.f.gates) s < 0 then (0, 5) else (idxS (gtNames m.f.gates) s, 0))) ∧ Below w.heap.size w w' := by
 have hC := fun W (hb : Below w.heap.size w W) => c_rCheck m W (hm.later hb) hs
 rw [h] at hC
 have hN := fun W (hb : Below w.heap.size w W) => c_rNames m W (hm.later hb)
 have hI := fun a c W (hl : Strs W a (gtNames m.f.gates)) => c_rIndex s (gtNames m.f.gates) a c W hl
 obtain ⟨i, hi⟩ : ∃ i, idxS (gtNames m.f.gates) s = i := ⟨_, rfl⟩
 rw [hi]
 simp only [hi] at hI
 have HC := Lib.hid hC
 have HN := Lib.hid hN
 have HI := Lib.hid hI
 clear hC hN hI h hm hs hi
 obtain ⟨R, hR⟩ : ∃ R : Int × Int, (if i < 0 then (0, 5) else (i, 0)) = R := ⟨_, rfl⟩
 rw [hR]
 have HR := Lib.hid hR
 clear hR
 go_enter Tryz.func67, Tryz.ntmps67
 go_upto_region 1 with (fail)
 go_name_world W1 hW1
 have hb0 : Below w.heap.size w W1 := by subst hW1; go_grown
 obtain ⟨q0, q1, q2, q3⟩ := (show QB m W1 w.heap.size from by subst hW1; refine ⟨?_, ?_, ?_, ?_⟩ <;> go_simp)
 clear hW1 
 go_wp2_with fail
 refine (HC.out _ hb0).mono ?_
 rintro E W2 ⟨rfl, hB⟩
 have hc := (bcell hB).1
 have zz := cy4 hc q0 q1 q2 q3
 clear q0 q1 q2 q3
 obtain ⟨q0, q1, q2, q3⟩ := zz
 replace hb0 := bthen hb0 hB
 clear hc hB
 go_wp2_with fail
 refine (HN.out _ hb0).mono ?_
 rintro E W3 ⟨⟨b1, c1, b2, c2, rfl, s1, s2⟩, hB⟩
 have hc := (bcell hB).1
 have zz := cy4 hc q0 q1 q2 q3
 clear q0 q1 q2 q3
 obtain ⟨q0, q1, q2, q3⟩ := zz
 replace hb0 := bthen hb0 hB
 clear hc hB
 go_wp2_with fail
 refine (HI.out _ _ _ s2).mono ?_
 rintro E W4 ⟨rfl, hB⟩
 have hc := (bcell hB).1
 have zz := cy4 hc q0 q1 q2 q3
 clear q0 q1 q2 q3
 obtain ⟨q0, q1, q2, q3⟩ := zz
 replace hb0 := bthen hb0 hB
 clear hc hB
 clear s1 s2 HN HI HC
 by_cases hn : i < 0
 ·have hr := HR.out
  rw [if_pos hn] at hr
  subst hr
  go_wp2
  go_ret2
  exact ⟨rfl, hb0⟩
 ·have hr := HR.out
  rw [if_neg hn] at hr
  subst hr
  go_wp2
  go_ret2
  exact ⟨rfl, hb0⟩
theorem c_rGateOf (m : Fm) (s : ByteArray) (w : World) (hm : m.In w) (hs : Sized m.f) : Calls Tryz.prog 67 #[m.v, .string s] w fun e w' => e = .returned (pairV (indexV m.f (gtNames m.f.gates) s)) ∧ Below w.heap.size w w' := by
 unfold indexV
 by_cases h : checkE m.f = 0
 ·rw [if_neg (fun k => k h)]; exact c_rGateOf_ok m s w hm hs h
 ·rw [if_pos h]; exact c_rGateOf_no m s w hm hs h
end Go.Proofs.YtlppdgaogdpajaaGreatDoor
namespace Go.Proofs.YtlppdgaogdpajaaGreatDoor
theorem compact_mem {α : Type} [Inhabited α] [DecidableEq α] {l : List α} {x : α} (h : x ∈ l) : x ∈ Lib.compact l := by
 have key : ∀ i : Nat, l[i]? = some x → x ∈ Lib.compact l := by
  intro i
  induction i with
  | zero =>
   intro hi
   have hlt := (List.getElem?_eq_some_iff.1 hi).1
   unfold Lib.compact Lib.compactUpTo
   refine List.mem_map.2 ⟨0, List.mem_filter.2 ⟨List.mem_range.2 hlt, by simp [Lib.keeps]⟩, ?_⟩
   simp [List.getElem!_eq_getElem?_getD, hi]
  | succ i ih =>
   intro hi
   have hlt := (List.getElem?_eq_some_iff.1 hi).1
   by_cases hp : l[i]? = some x
   ·exact ih hp
   ·unfold Lib.compact Lib.compactUpTo
    refine List.mem_map.2 ⟨i + 1, List.mem_filter.2 ⟨List.mem_range.2 hlt, Lib.keeps_pos ?_⟩, ?_⟩
    ·intro e
     apply hp
     have e1 : l.toArray[i + 1]! = x := by simp [List.getElem!_eq_getElem?_getD, hi]
     have h2 : l[i]? = some l[i] := by simp
     have e2 : l.toArray[i + 1 - 1]! = l[i] := by simp [List.getElem!_eq_getElem?_getD, h2]
     rw [e1, e2] at e
     rw [h2, ← e]
    ·simp [List.getElem!_eq_getElem?_getD, hi]
 obtain ⟨i, hi⟩ := List.mem_iff_getElem?.1 h
 exact key i hi
theorem mem_setI {l : List Int} {x : Int} : x ∈ setI l ↔ x ∈ l := by
 unfold setI sortI
 exact ⟨fun h => List.mem_mergeSort.1 (mem_compact h), fun h => compact_mem (List.mem_mergeSort.2 h)⟩
def joinB (f : Fe) (a b : Int) : Prop := ∃ g ∈ f.gates, (g.a = a ∧ g.b = b) ∨ (g.b = a ∧ g.a = b)
theorem ends_ne {f : Fe} (h : checkE f = 0) {g : Gt} (hg : g ∈ f.gates) : g.a ≠ g.b := by
 have hr := right_of h
 have := List.any_eq_false.1 hr.en g hg
 unfold endsBad at this
 simp at this
 exact this.2
theorem mem_beside {f : Fe} (h : checkE f = 0) {p q : Int} : q ∈ besideV f p ↔ joinB f p q := by
 unfold besideV
 rw [mem_setI]
 unfold besideL joinB
 rw [List.mem_filterMap]
 constructor
 ·rintro ⟨g, hg, he⟩
  refine ⟨g, hg, ?_⟩
  by_cases e1 : g.a = p
  ·rw [if_pos e1] at he; cases he; exact .inl ⟨e1, rfl⟩
  ·rw [if_neg e1] at he
   by_cases e2 : g.b = p
   ·rw [if_pos e2] at he; cases he; exact .inr ⟨e2, rfl⟩
   ·rw [if_neg e2] at he; cases he
 ·rintro ⟨g, hg, he⟩
  refine ⟨g, hg, ?_⟩
  have hn := ends_ne h hg
  rcases he with ⟨e1, e2⟩ | ⟨e1, e2⟩
  ·rw [if_pos e1, e2]
  ·rw [if_neg (fun e => hn (e.trans e1.symm)), if_pos e1, e2]
def Path (f : Fe) (s : Int) : Nat → Int → Prop
 | 0, t => t = s
 | n + 1, t => ∃ p, Path f s n p ∧ joinB f p t
def Dist (f : Fe) (s t : Int) (n : Nat) : Prop := Path f s n t ∧ ∀ m, Path f s m t → n ≤ m
theorem dist_one {f : Fe} {a b : Int} {n m : Nat} (h : Dist f a b n) (k : Dist f a b m) : n = m := Nat.le_antisymm (h.2 m k.1) (k.2 n h.1)
theorem dist_of {f : Fe} {a b : Int} : ∀ n, Path f a n b → ∃ k, k ≤ n ∧ Dist f a b k := by
 intro n
 induction n using Nat.strongRecOn with
 | _ n ih =>
  intro h
  by_cases hm : ∃ m, m < n ∧ Path f a m b
  ·obtain ⟨m, hmn, hp⟩ := hm
   obtain ⟨k, hk, hd⟩ := ih m hmn hp
   exact ⟨k, by omega, hd⟩
  ·exact ⟨n, Nat.le_refl _, h, fun m hp => Nat.le_of_not_lt fun hlt => hm ⟨m, hlt, hp⟩⟩
structure BInv (f : Fe) (s : Int) (S : Int → Option Int) (l1 l2 : List Int) (d : Nat) : Prop where
 ex : ∀ t n, S t = some n → ∃ k : Nat, n = k ∧ Dist f s t k
 h1 : ∀ q ∈ l1, S q = some (d : Int)
 h2 : ∀ q ∈ l2, S q = some ((d : Int) + 1)
 near : ∀ t k, Dist f s t k → k ≤ d → (S t).isSome = true
 done : ∀ t, (S t).isSome = true → t ∉ l1 → t ∉ l2 → ∀ q, joinB f t q → (S q).isSome = true
theorem BInv.turn {f : Fe} {s : Int} {S : Int → Option Int} {l2 : List Int} {d : Nat} (h : BInv f s S [] l2 d) : BInv f s S l2 [] (d + 1) where
 ex := h.ex
 h1 q hq := by rw [h.h2 q hq]; rfl
 h2 q hq := by cases hq
 near t k hd hk := by
  by_cases hk2 : k ≤ d
  ·exact h.near t k hd hk2
  ·obtain rfl : k = d + 1 := by omega
   obtain ⟨p, hp, hj⟩ := hd.1
   obtain ⟨k2, hk2, hd2⟩ := dist_of d hp
   have hm := h.near p k2 hd2 hk2
   refine h.done p hm (by simp) (fun hin => ?_) t hj
   have e := h.h2 p hin
   obtain ⟨k3, e3, hd3⟩ := h.ex p _ e
   have := dist_one hd2 hd3
   omega
 done t ht h1 _ := h.done t ht (by simp) h1
theorem BInv.visit {f : Fe} {s : Int} {S : Int → Option Int} {p q : Int} {r l2 : List Int} {d : Nat} (h : BInv f s S (p :: r) l2 d) (hj : joinB f p q) :
  ∃ l3, (visit1 p (S, r ++ l2) q).2 = r ++ l3 ∧ BInv f s (visit1 p (S, r ++ l2) q).1 (p :: r) l3 d ∧ ((visit1 p (S, r ++ l2) q).1 q).isSome = true ∧ ∀ t, (S t).isSome = true → ((visit1 p (S, r ++ l2) q).1 t).isSome = true := by
 unfold visit1
 dsimp only
 by_cases e : (S q).isSome = true
 ·rw [if_pos e]
  exact ⟨l2, rfl, h, e, fun t ht => ht⟩
 ·rw [if_neg e]
  have e0 : S q = none := by simpa using e
  have hp := h.h1 p (by simp)
  have hu : ∀ t, t ≠ q → upd S q ((S p).getD 0 + 1) t = S t := fun t ht => by unfold upd; rw [if_neg ht]
  have huq : upd S q ((S p).getD 0 + 1) q = some ((d : Int) + 1) := by unfold upd; rw [if_pos rfl, hp]; rfl
  have hne : ∀ t, (S t).isSome = true → t ≠ q := fun t ht e2 => by rw [e2, e0] at ht; cases ht
  have hdp : Dist f s p d := by
   obtain ⟨k, e1, hd⟩ := h.ex p _ hp
   obtain rfl : d = k := by omega
   exact hd
  refine ⟨l2 ++ [q], by rw [List.append_assoc], ⟨?_, ?_, ?_, ?_, ?_⟩, by dsimp only; rw [huq]; rfl, fun t ht => by dsimp only; rw [hu t (hne t ht)]; exact ht⟩
  ·intro t n ht
   dsimp only at ht
   by_cases e2 : t = q
   ·subst e2
    rw [huq] at ht
    cases ht
    refine ⟨d + 1, by simp, ⟨p, hdp.1, hj⟩, fun m hm => ?_⟩
    obtain ⟨k, hk, hd⟩ := dist_of m hm
    by_cases hkd : k ≤ d
    ·exact absurd (h.near _ _ hd hkd) e
    ·omega
   ·rw [hu t e2] at ht
    exact h.ex t n ht
  ·intro t ht
   dsimp only
   have := h.h1 t ht
   rw [hu t (hne t (by rw [this]; rfl))]
   exact this
  ·intro t ht
   dsimp only
   rcases List.mem_append.1 ht with ht | ht
   ·have := h.h2 t ht
    rw [hu t (hne t (by rw [this]; rfl))]
    exact this
   ·simp only [List.mem_cons, List.not_mem_nil, or_false] at ht
    subst ht
    exact huq
  ·intro t k hd hk
   dsimp only
   have := h.near t k hd hk
   rw [hu t (hne t this)]
   exact this
  ·intro t ht n1 n2 z hz
   dsimp only at ht ⊢
   have n3 : t ≠ q := fun e2 => n2 (by simp [e2])
   rw [hu t n3] at ht
   have := h.done t ht n1 (fun hin => n2 (by simp [hin])) z hz
   rw [hu z (hne z this)]
   exact this
theorem BInv.visits {f : Fe} {s p : Int} {r : List Int} {d : Nat} : ∀ (B : List Int) {S : Int → Option Int} {l2 : List Int}, (∀ q ∈ B, joinB f p q) → BInv f s S (p :: r) l2 d →
  ∃ l3, (visits p B (S, r ++ l2)).2 = r ++ l3 ∧ BInv f s (visits p B (S, r ++ l2)).1 (p :: r) l3 d ∧ (∀ q ∈ B, ((visits p B (S, r ++ l2)).1 q).isSome = true) ∧ ∀ t, (S t).isSome = true → ((visits p B (S, r ++ l2)).1 t).isSome = true := by
 intro B
 induction B with
 | nil => intro S l2 _ h; exact ⟨l2, rfl, h, fun q hq => (by cases hq), fun t ht => ht⟩
 | cons q B ih =>
  intro S l2 hB h
  obtain ⟨l3, e1, h1, m1, k1⟩ := h.visit (hB q (by simp))
  have e : Go.Proofs.YtlppdgaogdpajaaGreatDoor.visits p (q :: B) (S, r ++ l2) = Go.Proofs.YtlppdgaogdpajaaGreatDoor.visits p B ((visit1 p (S, r ++ l2) q).1, r ++ l3) := by
   rw [← e1]
   rfl
  rw [e]
  obtain ⟨l4, e2, h2, m2, k2⟩ := ih (fun z hz => hB z (by simp [hz])) h1
  refine ⟨l4, e2, h2, fun z hz => ?_, fun t ht => k2 t (k1 t ht)⟩
  rcases List.mem_cons.1 hz with rfl | hz
  ·exact k2 _ m1
  ·exact m2 z hz
theorem visits_less {P : Nat} {p : Int} : ∀ (B : List Int) (st : (Int → Option Int) × List Int), (∀ q ∈ B, 0 ≤ q ∧ q < P) → (visits p B st).2.length + unm P (visits p B st).1 ≤ st.2.length + unm P st.1 := by
 intro B
 induction B with
 | nil => intro st _; exact Nat.le_refl _
 | cons q B ih =>
  intro st hB
  have h1 := visit_less (P := P) (S := st.1) (row := st.2) (p := p) (hB q (by simp))
  have h2 := ih (visit1 p st q) (fun z hz => hB z (by simp [hz]))
  exact Nat.le_trans h2 h1
theorem BInv.closed {f : Fe} {s : Int} {S : Int → Option Int} {d : Nat} (h : BInv f s S [] [] d) : ∀ (n : Nat) (t : Int), Path f s n t → (S t).isSome = true := by
 intro n
 induction n with
 | zero =>
  intro t ht
  cases ht
  exact h.near s 0 ⟨rfl, fun _ _ => Nat.zero_le _⟩ (Nat.zero_le _)
 | succ n ih =>
  rintro t ⟨p, hp, hj⟩
  exact h.done p (ih p hp) (by simp) (by simp) t hj
def Found (f : Fe) (s t : Int) (o : Option Int) : Prop := (∀ n, o = some n → ∃ k : Nat, n = k ∧ Dist f s t k) ∧ (o = none → ∀ n, ¬ Path f s n t)
theorem BInv.found {f : Fe} {s : Int} {S : Int → Option Int} {d : Nat} (h : BInv f s S [] [] d) (t : Int) : Found f s t (S t) :=
 ⟨fun n hn => h.ex t n hn, fun hn n hp => by have := h.closed n t hp; rw [hn] at this; cases this⟩
theorem bfs_found {f : Fe} (hc : checkE f = 0) {s dest : Int} : ∀ (k : Nat) (S : Int → Option Int) (l1 l2 : List Int) (d : Nat), BInv f s S l1 l2 d → (l1 ++ l2).length + unm f.places.length S ≤ k → Found f s dest (bfs f dest k S (l1 ++ l2) dest) := by
 intro k
 induction k with
 | zero =>
  intro S l1 l2 d h hk
  rw [List.length_append] at hk
  have e1 : l1 = [] := List.length_eq_zero_iff.1 (by omega)
  have e2 : l2 = [] := List.length_eq_zero_iff.1 (by omega)
  subst e1 e2
  exact h.found dest
 | succ k ih =>
  have go : ∀ (S : Int → Option Int) (p : Int) (r l2 : List Int) (d : Nat), BInv f s S (p :: r) l2 d → (p :: r ++ l2).length + unm f.places.length S ≤ k + 1 → Found f s dest (bfs f dest (k + 1) S (p :: r ++ l2) dest) := by
   intro S p r l2 d h hk
   rw [List.cons_append, bfs]
   by_cases e : p = dest
   ·rw [if_pos e]
    subst e
    have hp := h.h1 p (by simp)
    refine ⟨fun n hn => h.ex p n hn, fun hn => ?_⟩
    rw [hp] at hn
    cases hn
   ·rw [if_neg e]
    obtain ⟨l3, e1, h1, m1, k1⟩ := BInv.visits (f := f) (s := s) (besideV f p) (fun q hq => (mem_beside hc).1 hq) h
    rw [e1]
    have hless := visits_less (P := f.places.length) (p := p) (besideV f p) (S, r ++ l2) (fun q hq => by have := beside_in (right_of hc) hq; omega)
    rw [e1] at hless
    dsimp only at hless
    refine ih _ r l3 d ⟨h1.ex, fun q hq => h1.h1 q (by simp [hq]), h1.h2, h1.near, fun t ht n1 n2 q hq => ?_⟩ (by simp at hk hless ⊢; omega)
    by_cases e2 : t = p
    ·subst e2
     exact m1 q ((mem_beside hc).2 hq)
    ·exact h1.done t ht (by simp [e2, n1]) n2 q hq
  intro S l1 l2 d h hk
  cases l1 with
  | cons p r => exact go S p r l2 d h hk
  | nil =>
   cases l2 with
   | nil => rw [List.append_nil, bfs_nil]; exact h.found dest
   | cons p r =>
    have h2 := h.turn
    have := go S p r [] (d + 1) h2 (by simpa using hk)
    simpa using this
theorem ways_found {f : Fe} {s t : Int} (h : askedE f [s, t] = 0) : Found f s t (bfs f t f.places.length (bfs0 s) [s] t) := by
 have hc := asked_right h
 have hs : 0 ≤ s ∧ s < f.places.length := by
  unfold askedE at h
  rw [if_neg (by omega)] at h
  by_cases e : [s, t].any (offB f) = true
  ·rw [if_pos e] at h; cases h
  ·simp [offB, rg] at e
   omega
 have h0 := unm_0 (P := f.places.length) hs.1 hs.2
 have hst : BInv f s (bfs0 s) [s] [] 0 := by
  have e0 : bfs0 s s = some 0 := by unfold bfs0 upd; rw [if_pos rfl]
  have en : ∀ t, t ≠ s → bfs0 s t = none := fun t ht => by unfold bfs0 upd; rw [if_neg ht]
  refine ⟨fun t n ht => ?_, fun q hq => ?_, fun q hq => (by cases hq), fun t k hd hk => ?_, fun t ht n1 _ q hq => ?_⟩
  ·by_cases e : t = s
   ·subst e
    rw [e0] at ht
    cases ht
    exact ⟨0, rfl, rfl, fun _ _ => Nat.zero_le _⟩
   ·rw [en t e] at ht; cases ht
  ·simp only [List.mem_cons, List.not_mem_nil, or_false] at hq
   subst hq
   exact e0
  ·obtain rfl : k = 0 := by omega
   have := hd.1
   cases this
   rw [e0]; rfl
  ·by_cases e : t = s
   ·exact absurd (by simp [e]) n1
   ·rw [en t e] at ht; cases ht
 exact bfs_found hc f.places.length (bfs0 s) [s] [] 0 hst (by simpa using (by omega : 1 + unm f.places.length (bfs0 s) ≤ f.places.length))
theorem ways_some {f : Fe} {s t : Int} (h : (waysV f s t).2 = 0) : askedE f [s, t] = 0 ∧ ∃ k : Nat, (waysV f s t).1 = k ∧ Dist f s t k := by
 unfold waysV at h ⊢
 by_cases ha : askedE f [s, t] = 0
 ·refine ⟨ha, ?_⟩
  rw [if_neg (by omega)] at h ⊢
  have hf := ways_found ha
  cases e : bfs f t f.places.length (bfs0 s) [s] t with
  | none => rw [e] at h; cases h
  | some n => exact hf.1 n e
 ·rw [if_pos ha] at h; exact absurd h ha
theorem ways_five {f : Fe} {s t : Int} (ha : askedE f [s, t] = 0) (h : (waysV f s t).2 ≠ 0) : waysV f s t = (0, 5) ∧ ∀ n, ¬ Path f s n t := by
 unfold waysV at h ⊢
 rw [if_neg (by omega)] at h ⊢
 have hf := ways_found ha
 cases e : bfs f t f.places.length (bfs0 s) [s] t with
 | none => exact ⟨rfl, hf.2 e⟩
 | some n => rw [e] at h; exact absurd rfl h
theorem join_in {f : Fe} (hc : checkE f = 0) {a b : Int} (h : joinB f a b) : 0 ≤ b ∧ b ≤ (f.places.length : Int) - 1 := beside_in (right_of hc) ((mem_beside hc).2 h)
theorem path_in {f : Fe} (hc : checkE f = 0) {s t : Int} (hs : 0 ≤ s ∧ s ≤ (f.places.length : Int) - 1) {n : Nat} (h : Path f s n t) : 0 ≤ t ∧ t ≤ (f.places.length : Int) - 1 := by
 cases n with
 | zero => cases h; exact hs
 | succ n => obtain ⟨p, _, hj⟩ := h; exact join_in hc hj
theorem dist_prev {f : Fe} {s t : Int} {n : Nat} (h : Dist f s t (n + 1)) : ∃ p, Dist f s p n := by
 obtain ⟨p, hp, hj⟩ := h.1
 refine ⟨p, hp, fun m hm => ?_⟩
 have := h.2 (m + 1) ⟨p, hm, hj⟩
 omega
theorem dist_all {f : Fe} {s : Int} : ∀ (n : Nat) (t : Int), Dist f s t n → ∀ k, k ≤ n → ∃ p, Dist f s p k := by
 intro n
 induction n with
 | zero =>
  intro t h k hk
  obtain rfl : k = 0 := by omega
  exact ⟨t, h⟩
 | succ n ih =>
  intro t h k hk
  by_cases e : k = n + 1
  ·subst e; exact ⟨t, h⟩
  ·obtain ⟨p, hp⟩ := dist_prev h
   exact ih p hp k (by omega)
noncomputable def reachB (f : Fe) (s : Int) (k : Nat) (i : Int) : Bool := @decide (∃ j, j ≤ k ∧ Path f s j i) (Classical.propDecidable _)
theorem reach_iff {f : Fe} {s : Int} {k : Nat} {i : Int} : reachB f s k i = true ↔ ∃ j, j ≤ k ∧ Path f s j i := by
 unfold reachB
 exact @decide_eq_true_iff _ (Classical.propDecidable _)
theorem dist_lt {f : Fe} (hc : checkE f = 0) {s t : Int} (hs : 0 ≤ s ∧ s ≤ (f.places.length : Int) - 1) {n : Nat} (h : Dist f s t n) : n < f.places.length := by
 have key : ∀ k, k ≤ n → k + 1 ≤ ((List.range f.places.length).filter fun (i : Nat) => reachB f s k (i : Int)).length := by
  intro k
  induction k with
  | zero =>
   intro _
   have : ((List.range f.places.length).filter fun (i : Nat) => false).length + 1 ≤ ((List.range f.places.length).filter fun (i : Nat) => reachB f s 0 (i : Int)).length := by
    refine filter_less (y := s.toNat) (fun x _ hx => by cases hx) (List.mem_range.2 (by omega)) ?_ rfl
    rw [reach_iff, Int.toNat_of_nonneg hs.1]
    exact ⟨0, Nat.le_refl _, rfl⟩
   rw [show ((List.range f.places.length).filter fun (i : Nat) => false).length = 0 from by simp] at this
   exact this
  | succ k ih =>
   intro hk
   have h1 := ih (by omega)
   obtain ⟨p, hp⟩ := dist_all n t h (k + 1) hk
   have hin := path_in hc hs hp.1
   have h2 : ((List.range f.places.length).filter fun (i : Nat) => reachB f s k (i : Int)).length + 1 ≤ ((List.range f.places.length).filter fun (i : Nat) => reachB f s (k + 1) (i : Int)).length := by
    refine filter_less (y := p.toNat) (fun x _ hx => ?_) (List.mem_range.2 (by omega)) ?_ ?_
    ·rw [reach_iff] at hx ⊢
     obtain ⟨j, hj, hp⟩ := hx
     exact ⟨j, by omega, hp⟩
    ·rw [reach_iff, Int.toNat_of_nonneg hin.1]
     exact ⟨k + 1, Nat.le_refl _, hp.1⟩
    ·rw [Bool.eq_false_iff]
     intro e
     rw [reach_iff, Int.toNat_of_nonneg hin.1] at e
     obtain ⟨j, hj, hq⟩ := e
     have := hp.2 j hq
     omega
   omega
 have h1 := key n (Nat.le_refl _)
 have h2 := List.length_filter_le (fun (i : Nat) => reachB f s n (i : Int)) (List.range f.places.length)
 rw [List.length_range] at h2
 omega
end Go.Proofs.YtlppdgaogdpajaaGreatDoor
namespace Go.Proofs.YtlppdgaogdpajaaGreatDoor
open Go.RowKit Go.Shelf
attribute [local go_sem] Oper.semAt_some
def joinG (a b : Int) (g : Gt) : Bool := (g.a == a && g.b == b) || (g.a == b && g.b == a)
def joinD (f : Fe) (a b : Int) : Bool := f.gates.any (joinG a b)
theorem any_drop {α : Type} {p : α → Bool} {l : List α} {k : Nat} {x : α} (h : l[k]? = some x) : (l.drop k).any p = (p x || (l.drop (k + 1)).any p) := by
 rw [drop_some h, List.any_cons]
set_option maxRecDepth 100000 in
set_option maxHeartbeats 4000000 in
theorem c_rJoined (m : Fm) (a b : Int) (w : World) (hm : m.In w) : Calls Tryz.prog 152 #[m.v, .int .i64 a, .int .i64 b] w fun e w' => e = .returned (.bool (joinD m.f a b)) ∧ Below w.heap.size w w' := by
  have HM := Lib.hid hm
  have hlg := hm.gt.1
  clear hm
  go_enter Tryz.func152, Tryz.ntmps152
  go_upto_region 1 with (fail)
  go_name_world W1 hW1
  have hb0 : Below w.heap.size w W1 := by subst hW1; go_grown
  obtain ⟨q0, q1, q2, q3⟩ := (show QB m W1 w.heap.size from by subst hW1; refine ⟨?_, ?_, ?_, ?_⟩ <;> go_simp)
  clear hW1 
  have HQ0 := Lib.hid (show CellsAt W1 w.heap.size 0 (feC m) from cells_4 q0 q1 q2 q3)
  have HB0 := Lib.hid hb0
  clear q0 q1 q2 q3 hb0
  go_wp2
  go_loopw [7] (fun v7 wr => ∃ k : Nat, k ≤ m.f.gates.length ∧ v7 = .int .i64 k ∧ joinD m.f a b = (m.f.gates.drop k).any (joinG a b) ∧ Below W1.heap.size W1 wr) (fun v7 _ => m.f.gates.length - (intOf v7).toNat)
  case atStart => exact ⟨0, by omega, rfl, rfl, Below.refl _ _⟩
  case round =>
    obtain ⟨k, hk, rfl, hf, hb⟩ := hrel
    have HF := Lib.hid hf
    clear hf
    obtain ⟨q0, q1, q2, q3⟩ := fe_cells (HQ0.out.later hb)
    clear q0 q1 q2
    simp only [Nat.zero_add] at q3
    by_cases hlt : k < m.f.gates.length
    · obtain ⟨x, hx⟩ := some_at hlt
      have hi1 : ¬ (k : Int) < 0 := by omega
      have hi2 : (k : Int) < (m.f.gates.length : Int) := by omega
      obtain ⟨gb, o, hpa, hat⟩ := (HM.out.later (bthen HB0.out hb)).gt.at hx
      obtain ⟨y0, y1, y2, y3⟩ := gt_cells hat
      rw [hpa] at q3
      have hst : (m.f.gates.drop k).any (joinG a b) = (((x.a == a && x.b == b) || (x.a == b && x.b == a)) || (m.f.gates.drop (k + 1)).any (joinG a b)) := any_drop (p := joinG a b) hx
      obtain ⟨d1, hd1⟩ : ∃ t, (x.a == a) = t := ⟨_, rfl⟩
      obtain ⟨d2, hd2⟩ : ∃ t, (x.b == b) = t := ⟨_, rfl⟩
      obtain ⟨d3, hd3⟩ : ∃ t, (x.a == b) = t := ⟨_, rfl⟩
      obtain ⟨d4, hd4⟩ : ∃ t, (x.b == a) = t := ⟨_, rfl⟩
      rw [hd1, hd2, hd3, hd4] at hst
      have HS := Lib.hid hst
      clear hx hat hpa hst
      go_upto_region 5 with (fail)
      go_name_world W20 hW20
      have hB : Below wr.heap.size wr W20 := by subst hW20; go_grown
      have g1 : W20.cell? ⟨wr.heap.size, 1, none⟩ = some (.int .i64 x.a) := by subst hW20; go_simp
      have g2 : W20.cell? ⟨wr.heap.size, 2, none⟩ = some (.int .i64 x.b) := by subst hW20; go_simp
      clear hW20 y0 y1 y2 y3 q3
      have HB := Lib.hid (bthen hb hB)
      clear hB hb
      cases d1 <;> cases d2 <;> cases d3 <;> cases d4
      all_goals
        first
          | (go_wp2
             go_ret
             exact ⟨by rw [HF.out, HS.out]; rfl, bthen HB0.out HB.out⟩)
          | (go_wp2
             go_roundw
             case rel => exact ⟨k + 1, by omega, by go_num, by rw [HF.out, HS.out]; rfl, HB.out⟩
             case measure => simp [intOf]; omega)
    · obtain rfl : k = m.f.gates.length := by omega
      have hi2 : ¬ (m.f.gates.length : Int) < (m.f.gates.length : Int) := by omega
      go_wp2
      go_ret
      exact ⟨by rw [HF.out, List.drop_length]; rfl, bthen HB0.out hb⟩
def rbesK (f : Fe) (p : Int) (k : Nat) : List Int := ((List.range k).filter fun (i : Nat) => joinD f p i).map fun (i : Nat) => (i : Int)
theorem rbesK_step (f : Fe) (p : Int) (k : Nat) : rbesK f p (k + 1) = if joinD f p k = true then rbesK f p k ++ [(k : Int)] else rbesK f p k := by
 unfold rbesK
 rw [List.range_succ, List.filter_append, List.map_append]
 cases h : joinD f p k <;> simp [h]
theorem rbesK_len (f : Fe) (p : Int) (k : Nat) : (rbesK f p k).length ≤ k := by
 unfold rbesK
 rw [List.length_map]
 exact Nat.le_trans (List.length_filter_le _ _) (by simp)
def rbesV (f : Fe) (p : Int) : List Int × Int := if checkE f ≠ 0 then ([], checkE f) else if p < 0 ∨ (f.places.length : Int) ≤ p then ([], 50) else (rbesK f p f.places.length, 0)
set_option maxRecDepth 100000 in
set_option maxHeartbeats 4000000 in
theorem c_rBeside_no (m : Fm) (p : Int) (w : World) (hm : m.In w) (hs : Sized m.f) (h : checkE m.f ≠ 0) : Calls Tryz.prog 68 #[m.v, .int .i64 p] w (GivesN ([], checkE m.f) w) := by
 have hC := fun W (hb : Below w.heap.size w W) => c_rCheck m W (hm.later hb) hs
 generalize checkE m.f = E at *
 have he : (E != 0) = true := bne_iff_ne.2 h
 have HC := Lib.hid hC
 clear hC h hm hs
 go_enter Tryz.func68, Tryz.ntmps68
 go_upto_region 1 with (fail)
 go_name_world W1 hW1
 have hb0 : Below w.heap.size w W1 := by subst hW1; go_grown
 obtain ⟨q0, q1, q2, q3⟩ := (show QB m W1 w.heap.size from by subst hW1; refine ⟨?_, ?_, ?_, ?_⟩ <;> go_simp)
 clear hW1 
 go_wp2_with fail
 refine (HC.out _ hb0).mono ?_
 rintro E W2 ⟨rfl, hB⟩
 have hc := (bcell hB).1
 have zz := cy4 hc q0 q1 q2 q3
 clear q0 q1 q2 q3
 obtain ⟨q0, q1, q2, q3⟩ := zz
 replace hb0 := bthen hb0 hB
 clear hc hB
 go_wp2
 go_ret2
 exact ⟨_, rfl, World.ownsRow_nil _ _ _ _, hb0⟩
set_option maxRecDepth 100000 in
set_option maxHeartbeats 4000000 in
theorem c_rBeside_lo (m : Fm) (p : Int) (w : World) (hm : m.In w) (hs : Sized m.f) (h : checkE m.f = 0) (h2 : p < 0) : Calls Tryz.prog 68 #[m.v, .int .i64 p] w (GivesN ([], 50) w) := by
 have hC := fun W (hb : Below w.heap.size w W) => c_rCheck m W (hm.later hb) hs
 rw [h] at hC
 have HC := Lib.hid hC
 clear hC h hm hs
 go_enter Tryz.func68, Tryz.ntmps68
 go_upto_region 1 with (fail)
 go_name_world W1 hW1
 have hb0 : Below w.heap.size w W1 := by subst hW1; go_grown
 obtain ⟨q0, q1, q2, q3⟩ := (show QB m W1 w.heap.size from by subst hW1; refine ⟨?_, ?_, ?_, ?_⟩ <;> go_simp)
 clear hW1 
 go_wp2_with fail
 refine (HC.out _ hb0).mono ?_
 rintro E W2 ⟨rfl, hB⟩
 have hc := (bcell hB).1
 have zz := cy4 hc q0 q1 q2 q3
 clear q0 q1 q2 q3
 obtain ⟨q0, q1, q2, q3⟩ := zz
 replace hb0 := bthen hb0 hB
 clear hc hB
 go_wp2
 go_ret2
 exact ⟨_, rfl, World.ownsRow_nil _ _ _ _, hb0⟩
set_option maxRecDepth 100000 in
set_option maxHeartbeats 4000000 in
theorem c_rBeside_hi (m : Fm) (p : Int) (w : World) (hm : m.In w) (hs : Sized m.f) (h : checkE m.f = 0) (h2 : ¬ p < 0) (h3 : (m.f.places.length : Int) ≤ p) : Calls Tryz.prog 68 #[m.v, .int .i64 p] w (GivesN ([], 50) w) := by
 have hC := fun W (hb : Below w.heap.size w W) => c_rCheck m W (hm.later hb) hs
 rw [h] at hC
 have HC := Lib.hid hC
 clear hC h hm hs
 go_enter Tryz.func68, Tryz.ntmps68
 go_upto_region 1 with (fail)
 go_name_world W1 hW1
 have hb0 : Below w.heap.size w W1 := by subst hW1; go_grown
 obtain ⟨q0, q1, q2, q3⟩ := (show QB m W1 w.heap.size from by subst hW1; refine ⟨?_, ?_, ?_, ?_⟩ <;> go_simp)
 clear hW1 
 go_wp2_with fail
 refine (HC.out _ hb0).mono ?_
 rintro E W2 ⟨rfl, hB⟩
 have hc := (bcell hB).1
 have zz := cy4 hc q0 q1 q2 q3
 clear q0 q1 q2 q3
 obtain ⟨q0, q1, q2, q3⟩ := zz
 replace hb0 := bthen hb0 hB
 clear hc hB
 go_wp2
 go_ret2
 exact ⟨_, rfl, World.ownsRow_nil _ _ _ _, hb0⟩
set_option maxRecDepth 100000 in
set_option maxHeartbeats 4000000 in
theorem c_rBeside_ok (m : Fm) (p : Int) (w : World) (hm : m.In w) (hs : Sized m.f) (h : checkE m.f = 0) (h2 : ¬ p < 0) (h3 : ¬ (m.f.places.length : Int) ≤ p) : Calls Tryz.prog 68 #[m.v, .int .i64 p] w (GivesN (rbesK m.f p m.f.places.length, 0) w) := by
 have hC := fun W (hb : Below w.heap.size w W) => c_rCheck m W (hm.later hb) hs
 rw [h] at hC
 have hp8 := (right_of h).p8
 have hJ := fun (k : Int) W (hb : Below w.heap.size w W) => c_rJoined m p k W (hm.later hb)
 obtain ⟨i0, hi0, hz0, hz1, hz2⟩ := info_parts num_info
 have HC := Lib.hid hC
 have HJ := Lib.hid hJ
 clear hC hJ h hm hs
 go_enter Tryz.func68, Tryz.ntmps68
 go_upto_region 1 with (fail)
 go_name_world W1 hW1
 have hb0 : Below w.heap.size w W1 := by subst hW1; go_grown
 obtain ⟨q0, q1, q2, q3⟩ := (show QB m W1 w.heap.size from by subst hW1; refine ⟨?_, ?_, ?_, ?_⟩ <;> go_simp)
 clear hW1 
 go_wp2_with fail
 refine (HC.out _ hb0).mono ?_
 rintro E W2 ⟨rfl, hB⟩
 have hc := (bcell hB).1
 have zz := cy4 hc q0 q1 q2 q3
 clear q0 q1 q2 q3
 obtain ⟨q0, q1, q2, q3⟩ := zz
 replace hb0 := bthen hb0 hB
 clear hc hB
 go_wp2
 have HQ0 := Lib.hid (show CellsAt W2 w.heap.size 0 (feC m) from cells_4 q0 q1 q2 q3)
 have HB0 := Lib.hid hb0
 have hzW := hb0.size
 clear q0 q1 q2 q3 hb0
 go_loopw [7, 8] (fun v7 v8 wr => ∃ k : Nat, k ≤ m.f.places.length ∧ v8 = .int .i64 k ∧ OwnN wr W2.heap.size v7 (rbesK m.f p k) ∧ Below W2.heap.size W2 wr) (fun _ v8 _ => m.f.places.length - (intOf v8).toNat)
 case atStart => exact ⟨0, by omega, rfl, World.ownsRow_nil _ _ _ _, Below.refl _ _⟩
 case round =>
  obtain ⟨k, hk, rfl, hown, hb⟩ := hrel
  have HO := Lib.hid hown
  clear hown
  obtain ⟨q0, q1, q2, q3⟩ := fe_cells (HQ0.out.later hb)
  simp only [Nat.zero_add] at q0 q1 q2 q3
  by_cases hlt : k < m.f.places.length
  ·have hi2 : (k : Int) < (m.f.places.length : Int) := by omega
   have hlk := rbesK_len m.f p k
   have hst := rbesK_step m.f p k
   have hJ := HJ.out k wr (bthen HB0.out hb)
   obtain ⟨jb, hjb⟩ : ∃ t, joinD m.f p k = t := ⟨_, rfl⟩
   rw [hjb] at hst hJ
   have HS := Lib.hid hst
   have HJJ := Lib.hid hJ
   clear hst hJ hjb
   go_wp2_with fail
   refine HJJ.out.mono ?_
   rintro E W20 ⟨rfl, hB⟩
   have hown := own_below HO.out hB
   have hb2 := bthen hb hB
   have HO2 := Lib.hid hown
   have hzb := hb2.size
   clear hB hb q0 q1 q2 q3 hown HO HJJ
   cases jb
   ·have HB := Lib.hid hb2
    clear hb2
    go_wp2
    go_roundw
    case rel => exact ⟨k + 1, by omega, by go_num, by rw [HS.out, if_neg Bool.false_ne_true]; exact HO2.out, HB.out⟩
    case measure => simp [intOf]; omega
   ·go_wp2_with (at_builtin; refine stuckHere ?_)
    refine unHid ?_
    refine wpList_append_own_at _ rfl _ _ 75 rfl W2.heap.size 3 i0 _ 1 8 Tryz.underlying75 hi0 hz0 hz1 hz2 rfl (by decide) _ _ _ rfl (HO2.out.alloc _) ⟨_, 0, none⟩ 1 1 [.int .i64 k] rfl rfl (cells_new _ #[_] _) (by simp [Value.oneCell']) (by unfold maxLen; omega) (by omega) (by simp; omega) ?_
    intro v' w1 hown' hgrow _ hat
    have hown2 : OwnN w1 W2.heap.size v' (rbesK m.f p (k + 1)) := by
     rw [HS.out]
     simp only [if_true]
     unfold OwnN
     rw [List.length_append, cellsL_snoc]
     exact hown'
    have hbb : Below W2.heap.size W2 w1 := (hb2.alloc hb2.size _).trans ((kept_of_grown hgrow).below (by simp; omega) (fun j hj => (HO2.out.lt j hj).1))
    have HB := Lib.hid hbb
    have HW2 := Lib.hid hown2
    clear hown' hgrow hat hown2 hbb hb2
    go_wp2
    go_roundw
    case rel => exact ⟨k + 1, by omega, by go_num, HW2.out, HB.out⟩
    case measure => simp [intOf]; omega
  ·obtain rfl : k = m.f.places.length := by omega
   have hi2 : ¬ (m.f.places.length : Int) < (m.f.places.length : Int) := by omega
   go_wp2
   go_ret2
   exact ⟨_, rfl, ownsRow_base HO.out hzW, bthen HB0.out hb⟩
theorem c_rBeside (m : Fm) (p : Int) (w : World) (hm : m.In w) (hs : Sized m.f) : Calls Tryz.prog 68 #[m.v, .int .i64 p] w (GivesN (rbesV m.f p) w) := by
 unfold rbesV
 by_cases h : checkE m.f = 0
 ·rw [if_neg (fun k => k h)]
  by_cases h2 : p < 0
  ·rw [if_pos (.inl h2)]; exact c_rBeside_lo m p w hm hs h h2
  ·by_cases h3 : (m.f.places.length : Int) ≤ p
   ·rw [if_pos (.inr h3)]; exact c_rBeside_hi m p w hm hs h h2 h3
   ·rw [if_neg (by omega)]; exact c_rBeside_ok m p w hm hs h h2 h3
 ·rw [if_pos h]; exact c_rBeside_no m p w hm hs h
end Go.Proofs.YtlppdgaogdpajaaGreatDoor
