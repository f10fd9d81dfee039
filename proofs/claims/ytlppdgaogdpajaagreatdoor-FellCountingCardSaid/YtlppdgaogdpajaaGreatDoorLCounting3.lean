/- This text is a part of the proof: RefFollow, RefLog, AppendL, WaysLaw, BesideLaw, CountLaw, CountsBd. -/
import Derived.Test.YtlppdgaogdpajaaGreatDoorLCounting2
import Derived.Deep.Upon
set_option maxRecDepth 100000
set_option maxHeartbeats 8000000
namespace Go.Proofs.YtlppdgaogdpajaaGreatDoor
open Go.RowKit Go.Shelf
attribute [local go_sem] Oper.semAt_some
def dupK (l : List Rp) (x : Rp) (k : Nat) : Bool := (l.take k).any fun y => y.id == x.id
def fndK (l : List Rp) (x : Rp) (k : Nat) : Bool := (l.take k).any fun y => y.id == x.void && y.kind != 8
def gonK (l : List Rp) (x : Rp) (k : Nat) : Bool := (l.take k).any fun y => y.kind == 8 && y.void == x.void
theorem any_step {α : Type} {p : α → Bool} {l : List α} {k : Nat} {y : α} (h : l[k]? = some y) : (l.take (k + 1)).any p = ((l.take k).any p || p y) := by
 rw [take_some h, List.any_append]
 simp
theorem any_more {α : Type} {p : α → Bool} {l : List α} {k : Nat} (h : (l.take k).any p = true) : l.any p = true := by
 obtain ⟨x, hx, hb⟩ := List.any_eq_true.1 h
 exact List.any_eq_true.2 ⟨x, List.mem_of_mem_take hx, hb⟩
def lateB (l : List Rp) (x : Rp) : Bool := l.any (fun _ => true) && decide (x.known < (l.getLast?.map (·.known)).getD 0)
theorem late_last {l : List Rp} {x z : Rp} (h : l[l.length - 1]? = some z) : lateB l x = decide (x.known < z.known) := by
 unfold lateB
 rw [List.getLast?_eq_getElem?, h]
 have : l.any (fun _ => true) = true := List.any_eq_true.2 ⟨z, List.mem_of_getElem? h, rfl⟩
 rw [this]
 rfl
theorem follow_as {f : Fe} {l : List Rp} {x : Rp} (h : ¬ 300 ≤ l.length) (hj : judgeE f x = 0) : followE f l x = if dupK l x l.length = true then 6 else if lateB l x = true then 7 else if x.kind = 8 then (if fndK l x l.length = false then 5 else if gonK l x l.length = true then 6 else 0) else 0 := by
 unfold followE dupK fndK gonK lateB
 rw [if_neg h, if_neg (fun k => k hj), List.take_length]
theorem c_rRefused_many (m : Fm) (l : List Rp) (a : Option Addr) (cap : Nat) (x : Rp) (w : World) (h : 300 ≤ l.length) : Calls Tryz.prog 117 #[m.v, .slice a l.length cap, x.v] w fun e w' => e = .returned (.int .i64 2) ∧ Below w.heap.size w w' := by
 have h1 : (300 : Int) ≤ (l.length : Int) := by omega
 go_enter Tryz.func117, Tryz.ntmps117
 go_upto_region 1 with (fail)
 go_name_world W1 hW1
 have hb0 : Below w.heap.size w W1 := by subst hW1; go_grown
 obtain ⟨q0, q1, q2, q3⟩ := (show QB m W1 w.heap.size from by subst hW1; and_intros <;> go_simp)
 obtain ⟨r0, r1, r2, r3, r4, r5, r6, r7, r8, r9⟩ := (show RC x W1 ((w.heap.size + 1)) from by subst hW1; and_intros <;> go_simp)
 clear hW1 
 go_wp2
 all_goals go_ret
 all_goals exact ⟨rfl, hb0⟩
theorem c_rRefused_no (m : Fm) (l : List Rp) (a : Option Addr) (cap : Nat) (x : Rp) (w : World) (hm : m.In w) (hs : Sized m.f) (hc : checkE m.f = 0) (ok : RpOk x) (hz : x.sort.size ≤ 1000000) (h : ¬ 300 ≤ l.length) (hj : judgeE m.f x ≠ 0) : Calls Tryz.prog 117 #[m.v, .slice a l.length cap, x.v] w fun e w' => e = .returned (.int .i64 (judgeE m.f x)) ∧ Below w.heap.size w w' := by
 have h1 : ¬ (300 : Int) ≤ (l.length : Int) := by omega
 have hR := fun W (hb : Below w.heap.size w W) => c_rReport m x W (hm.later hb) hs ok hz
 have hre : reportE m.f x = judgeE m.f x := if_neg (fun k => k hc)
 rw [hre] at hR
 generalize judgeE m.f x = E at *
 have he : (E != 0) = true := bne_iff_ne.2 hj
 have HR := Lib.hid hR
 clear hR hj hre hm hs hc ok hz
 go_enter Tryz.func117, Tryz.ntmps117
 go_upto_region 1 with (fail)
 go_name_world W1 hW1
 have hb0 : Below w.heap.size w W1 := by subst hW1; go_grown
 obtain ⟨q0, q1, q2, q3⟩ := (show QB m W1 w.heap.size from by subst hW1; and_intros <;> go_simp)
 obtain ⟨r0, r1, r2, r3, r4, r5, r6, r7, r8, r9⟩ := (show RC x W1 ((w.heap.size + 1)) from by subst hW1; and_intros <;> go_simp)
 clear hW1 
 go_wp2_with fail
 refine (HR.out _ hb0).mono ?_
 rintro E W2 ⟨rfl, hB⟩
 have hc := (bcell hB).1
 have zz := cy14 hc q0 q1 q2 q3 r0 r1 r2 r3 r4 r5 r6 r7 r8 r9
 clear q0 q1 q2 q3 r0 r1 r2 r3 r4 r5 r6 r7 r8 r9
 obtain ⟨q0, q1, q2, q3, r0, r1, r2, r3, r4, r5, r6, r7, r8, r9⟩ := zz
 replace hb0 := bthen hb0 hB
 clear hc hB
 go_wp2
 all_goals go_ret
 all_goals exact ⟨rfl, hb0⟩
theorem c_rRefused_ok (m : Fm) (l : List Rp) (a : Option Addr) (cap : Nat) (x : Rp) (w : World) (hm : m.In w) (hs : Sized m.f) (hc : checkE m.f = 0) (ok : RpOk x) (hz : x.sort.size ≤ 1000000) (h : ¬ 300 ≤ l.length) (hl : Rps w a l) (hj : judgeE m.f x = 0) : Calls Tryz.prog 117 #[m.v, .slice a l.length cap, x.v] w fun e w' => e = .returned (.int .i64 (followE m.f l x)) ∧ Below w.heap.size w w' := by
 have h1 : ¬ (300 : Int) ≤ (l.length : Int) := by omega
 have hR := fun W (hb : Below w.heap.size w W) => c_rReport m x W (hm.later hb) hs ok hz
 have hre : reportE m.f x = judgeE m.f x := if_neg (fun k => k hc)
 rw [hre] at hR
 rw [hj] at hR
 have hfo := follow_as h hj
 have hDm := fun (k : Nat) (hd : dupK l x k = true) => (show dupK l x l.length = true from by unfold dupK; rw [List.take_length]; exact any_more hd)
 have HR := Lib.hid hR
 have FO := Lib.hid hfo
 have DM := Lib.hid hDm
 have HL := Lib.hid hl
 clear hR hj hre hm hs hc ok hz hfo hDm hl
 go_enter Tryz.func117, Tryz.ntmps117
 go_upto_region 1 with (fail)
 go_name_world W1 hW1
 have hb0 : Below w.heap.size w W1 := by subst hW1; go_grown
 obtain ⟨q0, q1, q2, q3⟩ := (show QB m W1 w.heap.size from by subst hW1; and_intros <;> go_simp)
 obtain ⟨r0, r1, r2, r3, r4, r5, r6, r7, r8, r9⟩ := (show RC x W1 ((w.heap.size + 1)) from by subst hW1; and_intros <;> go_simp)
 clear hW1 
 go_wp2_with fail
 refine (HR.out _ hb0).mono ?_
 rintro E W2 ⟨rfl, hB⟩
 have hc := (bcell hB).1
 have zz := cy14 hc q0 q1 q2 q3 r0 r1 r2 r3 r4 r5 r6 r7 r8 r9
 clear q0 q1 q2 q3 r0 r1 r2 r3 r4 r5 r6 r7 r8 r9
 obtain ⟨q0, q1, q2, q3, r0, r1, r2, r3, r4, r5, r6, r7, r8, r9⟩ := zz
 replace hb0 := bthen hb0 hB
 clear hc hB
 go_wp2
 have HX := Lib.hid (show CellsAt W2 (w.heap.size + 1) 0 (rpC x) from cells_10 r0 r1 r2 r3 r4 r5 r6 r7 r8 r9)
 have HB0 := Lib.hid hb0
 clear q0 q1 q2 q3 r0 r1 r2 r3 r4 r5 r6 r7 r8 r9 hb0
 go_loopw [8, 9, 10] (fun v8 v9 v10 wr => ∃ k : Nat, k ≤ l.length ∧ v10 = .int .i64 k ∧ v8 = .bool (fndK l x k) ∧ v9 = .bool (gonK l x k) ∧ dupK l x k = false ∧ Below W2.heap.size W2 wr) (fun _ _ v10 _ => l.length - (intOf v10).toNat)
 case atStart => exact ⟨0, by omega, rfl, rfl, rfl, rfl, Below.refl _ _⟩
 case round =>
  obtain ⟨k, hk, rfl, rfl, rfl, hd, hb0⟩ := hrel
  obtain ⟨r0, r1, r2, r3, r4, r5, r6, r7, r8, r9⟩ := rp_cells (HX.out.later hb0)
  clear r3 r4 r5 r6 r7 r8
  simp only [Nat.zero_add] at r0 r1 r2 r9
  by_cases hlt : k < l.length
  ·obtain ⟨y, hy⟩ := some_at hlt
   obtain ⟨gb, go', hga, hat⟩ := (HL.out.later (bthen HB0.out hb0)).at hy
   obtain ⟨y0, y1, y2, y3, y4, y5, y6, y7, y8, y9⟩ := rp_cells hat
   clear y1 y3 y4 y5 y6 y7 y8
   have hi1 : ¬ (k : Int) < 0 := by omega
   have hi2 : (k : Int) < (l.length : Int) := by omega
   have s1 : dupK l x (k + 1) = (dupK l x k || y.id == x.id) := any_step hy
   have s2 : fndK l x (k + 1) = (fndK l x k || (y.id == x.void && y.kind != 8)) := any_step hy
   have s3 : gonK l x (k + 1) = (gonK l x k || (y.kind == 8 && y.void == x.void)) := any_step hy
   rw [hd, Bool.false_or] at s1
   obtain ⟨D, hD⟩ : ∃ t, (y.id == x.id) = t := ⟨_, rfl⟩
   obtain ⟨F, hF⟩ : ∃ t, fndK l x k = t := ⟨_, rfl⟩
   obtain ⟨G, hG⟩ : ∃ t, gonK l x k = t := ⟨_, rfl⟩
   obtain ⟨k8, hk8⟩ : ∃ t, (y.kind == 8) = t := ⟨_, rfl⟩
   obtain ⟨n8, hn8⟩ : ∃ t, (y.kind != 8) = t := ⟨_, rfl⟩
   obtain ⟨i, hi⟩ : ∃ t, (y.id == x.void) = t := ⟨_, rfl⟩
   obtain ⟨j, hj⟩ : ∃ t, (y.void == x.void) = t := ⟨_, rfl⟩
   have hnk : n8 = !k8 := by rw [← hn8, ← hk8]; rfl
   rw [hD] at s1
   rw [hF, hi, hn8, hnk] at s2
   rw [hG, hk8, hj] at s3
   rw [hF, hG]
   subst hnk
   have S1 := Lib.hid s1
   have S2 := Lib.hid s2
   have S3 := Lib.hid s3
   have DM2 := Lib.hid (DM.out (k + 1))
   clear hd s1 s2 s3 hy hat hF hG
   rw [hga]
   clear hga
   go_upto_region 11 with (fail)
 
   have kr0 := later_cell r0
   have kr1 := later_cell r1
   have kr2 := later_cell r2
   have kr9 := later_cell r9
   have ky0 := later_cell y0
   have ky2 := later_cell y2
   have ky9 := later_cell y9
   refine wp_region_later wr (by kernel_rfl) (by kernel_rfl) (Below.refl _ _) ?_
   repeat (go_big_quiet_step (fail))
   refine wpQuiet_nil ?_
   rintro ⟨W21, hB⟩
   dsimp only
   have hc := (bcell hB).1
   have hf := (bcell hB).2
   have hz := hB.size
   clear kr0 kr1 kr2 kr9 ky0 ky2 ky9
   have zz := cy7 hc r0 r1 r2 r9 y0 y2 y9
   clear r0 r1 r2 r9 y0 y2 y9
   obtain ⟨r0, r1, r2, r9, y0, y2, y9⟩ := zz
   replace hb0 : Below W2.heap.size W2 W21 := bthen hb0 hB
   have hzW21 : wr.heap.size ≤ W21.heap.size := hz
   clear hc hf hB hz
   cases D
   case true =>
    go_wp2
    go_ret
    have hd := DM2.out S1.out
    exact ⟨by rw [FO.out, if_pos hd]; rfl, bthen HB0.out hb0⟩
   clear DM2
   cases F <;> cases k8 <;> cases i <;> cases G <;> cases j
   all_goals
    go_upto_region 13 with (fail)
    have kr0 := later_cell r0
    have kr1 := later_cell r1
    have kr2 := later_cell r2
    have kr9 := later_cell r9
    have ky0 := later_cell y0
    have ky2 := later_cell y2
    have ky9 := later_cell y9
    refine wp_region_sink 19 W21 (by kernel_rfl) (by kernel_rfl) (Below.refl _ _) ?_
    simp only [List.take_succ_cons, List.take_zero, List.drop_succ_cons, List.drop_zero]
    repeat (go_big_quiet_step (fail))
    refine wpQuiet_nil ?_
    rintro ⟨W22, hB⟩
    dsimp only
    have hc := (bcell hB).1
    have hf := (bcell hB).2
    have hz := hB.size
    clear kr0 kr1 kr2 kr9 ky0 ky2 ky9
    have zz := cy7 hc r0 r1 r2 r9 y0 y2 y9
    clear r0 r1 r2 r9 y0 y2 y9
    obtain ⟨r0, r1, r2, r9, y0, y2, y9⟩ := zz
    replace hb0 : Below W2.heap.size W2 W22 := bthen hb0 hB
    have hzW22 : W21.heap.size ≤ W22.heap.size := hz
    clear hc hf hB hz
    go_upto_region 14 with (fail)
    have kr0 := later_cell r0
    have kr1 := later_cell r1
    have kr2 := later_cell r2
    have kr9 := later_cell r9
    have ky0 := later_cell y0
    have ky2 := later_cell y2
    have ky9 := later_cell y9
    refine wp_region_sink 19 W22 (by kernel_rfl) (by kernel_rfl) (Below.refl _ _) ?_
    simp only [List.take_succ_cons, List.take_zero, List.drop_succ_cons, List.drop_zero]
    repeat (go_big_quiet_step (fail))
    refine wpQuiet_nil ?_
    rintro ⟨W23, hB⟩
    dsimp only
    have hc := (bcell hB).1
    have hf := (bcell hB).2
    have hz := hB.size
    clear kr0 kr1 kr2 kr9 ky0 ky2 ky9
    have zz := cy7 hc r0 r1 r2 r9 y0 y2 y9
    clear r0 r1 r2 r9 y0 y2 y9
    obtain ⟨r0, r1, r2, r9, y0, y2, y9⟩ := zz
    replace hb0 : Below W2.heap.size W2 W23 := bthen hb0 hB
    have hzW23 : W22.heap.size ≤ W23.heap.size := hz
    clear hc hf hB hz
    go_wp2
    have HBR := Lib.hid hb0
    go_roundw
    case rel => exact ⟨k + 1, by omega, by go_num, by rw [S2.out]; rfl, by rw [S3.out]; rfl, S1.out, HBR.out⟩
    case measure => simp [intOf]; omega
  ·obtain rfl : k = l.length := by omega
   have hi2 : ¬ (l.length : Int) < (l.length : Int) := by omega
   have fo := FO.out
   obtain ⟨LB, hLB⟩ : ∃ t, lateB l x = t := ⟨_, rfl⟩
   obtain ⟨F, hF⟩ : ∃ t, fndK l x l.length = t := ⟨_, rfl⟩
   obtain ⟨G, hG⟩ : ∃ t, gonK l x l.length = t := ⟨_, rfl⟩
   rw [hF, hG]
   rw [hd, hLB, hF, hG, if_neg Bool.false_ne_true] at fo
   clear FO HR DM hd hF hG
   have FO := Lib.hid fo
   clear fo r0 r9
   rcases Nat.eq_zero_or_pos l.length with hz0 | hz0
   ·obtain rfl : LB = false := hLB.symm.trans (by rw [List.length_eq_zero_iff.1 hz0]; rfl)
    clear hLB
    obtain rfl : l = [] := List.length_eq_zero_iff.1 hz0
    clear hz0
    go_upto_region 15 with (fail)
    have kr1 := later_cell r1
    have kr2 := later_cell r2
    refine wp_region_later wr (by kernel_rfl) (by kernel_rfl) (Below.refl _ _) ?_
    repeat (go_big_quiet_step (fail))
    refine wpQuiet_nil ?_
    rintro ⟨W43, hB⟩
    dsimp only
    have hc := (bcell hB).1
    have hf := (bcell hB).2
    have hz := hB.size
    clear kr1 kr2
    replace r1 := (hc _ _ (cell_lt r1)).trans r1
    replace r2 := (hc _ _ (cell_lt r2)).trans r2
    replace hb0 : Below W2.heap.size W2 W43 := bthen hb0 hB
    have hzW43 : wr.heap.size ≤ W43.heap.size := hz
    clear hc hf hB hz
    clear r1
    obtain ⟨k8, hk8⟩ : ∃ t, (x.kind == 8) = t := ⟨_, rfl⟩
    cases k8
    case false =>
     have fo := FO.out
     rw [if_neg (beq_eq_false_iff_ne.1 hk8)] at fo
     clear FO
     have FO := Lib.hid fo
     clear fo
     go_wp2
     go_ret
     exact ⟨by rw [FO.out]; rfl, bthen HB0.out hb0⟩
    have fo := FO.out
    rw [if_pos (beq_iff_eq.1 hk8)] at fo
    clear FO
    have FO := Lib.hid fo
    clear fo
    cases F
    ·go_wp2
     go_ret
     exact ⟨by rw [FO.out]; rfl, bthen HB0.out hb0⟩
    ·cases G
     all_goals
      go_wp2
      go_ret
      exact ⟨by rw [FO.out]; rfl, bthen HB0.out hb0⟩
   ·obtain ⟨z, hz⟩ := some_at (l := l) (k := l.length - 1) (by omega)
    rw [late_last hz] at hLB
    obtain ⟨gb, go', hga, hat⟩ := (HL.out.later (bthen HB0.out hb0)).at hz
    obtain ⟨z0, z1, z2, z3, z4, z5, z6, z7, z8, z9⟩ := rp_cells hat
    have g1 : (0 : Int) < (l.length : Int) := by omega
    have g6 : 0 < l.length := hz0
    have g7 : ¬ l = [] := fun e => by rw [e] at hz0; exact absurd hz0 (by decide)
    have g2 : ¬ (l.length : Int) - 1 < 0 := by omega
    have g3 : (l.length : Int) - 1 < (l.length : Int) := by omega
    have g4 : ((l.length : Int) - 1).toNat = l.length - 1 := by omega
    rw [hga]
    clear z0 z2 z3 z4 z5 z6 z7 z8 z9 hat hga hz hz0
    go_upto_region 15 with (fail)
    cases LB
    ·have g5 := of_decide_eq_false hLB
     clear hLB
     have kr1 := later_cell r1
     have kr2 := later_cell r2
     have kz1 := later_cell z1
     refine wp_region_later wr (by kernel_rfl) (by kernel_rfl) (Below.refl _ _) ?_
     repeat (go_big_quiet_step (fail))
     refine wpQuiet_nil ?_
     rintro ⟨W45, hB⟩
     dsimp only
     have hc := (bcell hB).1
     have hf := (bcell hB).2
     have hz := hB.size
     clear kr1 kr2 kz1
     have zz := cy3 hc r1 r2 z1
     clear r1 r2 z1
     obtain ⟨r1, r2, z1⟩ := zz
     replace hb0 : Below W2.heap.size W2 W45 := bthen hb0 hB
     have hzW45 : wr.heap.size ≤ W45.heap.size := hz
     clear hc hf hB hz
     clear r1 z1 g1 g2 g3 g4 g5 g6 g7
     obtain ⟨k8, hk8⟩ : ∃ t, (x.kind == 8) = t := ⟨_, rfl⟩
     cases k8
     case false =>
      have fo := FO.out
      rw [if_neg (beq_eq_false_iff_ne.1 hk8)] at fo
      clear FO
      have FO := Lib.hid fo
      clear fo
      go_wp2
      go_ret
      exact ⟨by rw [FO.out]; rfl, bthen HB0.out hb0⟩
     have fo := FO.out
     rw [if_pos (beq_iff_eq.1 hk8)] at fo
     clear FO
     have FO := Lib.hid fo
     clear fo
     cases F
     ·go_wp2
      go_ret
      exact ⟨by rw [FO.out]; rfl, bthen HB0.out hb0⟩
     ·cases G
      all_goals
       go_wp2
       go_ret
       exact ⟨by rw [FO.out]; rfl, bthen HB0.out hb0⟩
    ·have g5 := of_decide_eq_true hLB
     clear hLB
     have kr1 := later_cell r1
     have kr2 := later_cell r2
     have kz1 := later_cell z1
     refine wp_region_later wr (by kernel_rfl) (by kernel_rfl) (Below.refl _ _) ?_
     repeat (go_big_quiet_step (fail))
     refine wpQuiet_nil ?_
     rintro ⟨W47, hB⟩
     dsimp only
     have hc := (bcell hB).1
     have hf := (bcell hB).2
     have hz := hB.size
     clear kr1 kr2 kz1
     have zz := cy3 hc r1 r2 z1
     clear r1 r2 z1
     obtain ⟨r1, r2, z1⟩ := zz
     replace hb0 : Below W2.heap.size W2 W47 := bthen hb0 hB
     have hzW47 : wr.heap.size ≤ W47.heap.size := hz
     clear hc hf hB hz
     go_wp2
     go_ret
     exact ⟨by rw [FO.out]; rfl, bthen HB0.out hb0⟩
theorem c_rRefused (m : Fm) (l : List Rp) (a : Option Addr) (cap : Nat) (x : Rp) (w : World) (hm : m.In w) (hs : Sized m.f) (hc : checkE m.f = 0) (ok : RpOk x) (hz : x.sort.size ≤ 1000000) (hl : Rps w a l) :
  Calls Tryz.prog 117 #[m.v, .slice a l.length cap, x.v] w fun e w' => e = .returned (.int .i64 (followE m.f l x)) ∧ Below w.heap.size w w' := by
 by_cases h : 300 ≤ l.length
 ·rw [show followE m.f l x = 2 from if_pos h]
  exact c_rRefused_many m l a cap x w h
 ·by_cases hj : judgeE m.f x = 0
  ·exact c_rRefused_ok m l a cap x w hm hs hc ok hz h hl hj
  ·rw [show followE m.f l x = judgeE m.f x from (if_neg h).trans (if_pos hj)]
   exact c_rRefused_no m l a cap x w hm hs hc ok hz h hj
theorem c_rCheckLog_no (m : Fm) (l : List Rp) (a : Option Addr) (cap : Nat) (w : World) (hm : m.In w) (hs : Sized m.f) (h : checkE m.f ≠ 0) : Calls Tryz.prog 30 #[m.v, .slice a l.length cap] w fun e w' => e = .returned (pairV (0, checkE m.f)) ∧ Below w.heap.size w w' := by
 have hC := fun W (hb : Below w.heap.size w W) => c_rCheck m W (hm.later hb) hs
 generalize checkE m.f = E at *
 have he : (E != 0) = true := bne_iff_ne.2 h
 have HC := Lib.hid hC
 clear hC h hm hs
 go_enter Tryz.func30, Tryz.ntmps30
 go_upto_region 1 with (fail)
 go_name_world W1 hW1
 have hb0 : Below w.heap.size w W1 := by subst hW1; go_grown
 obtain ⟨q0, q1, q2, q3⟩ := (show QB m W1 w.heap.size from by subst hW1; and_intros <;> go_simp)
 clear hW1 
 go_wp2_with fail
 refine (HC.out _ hb0).mono ?_
 rintro E W2 ⟨rfl, hB⟩
 have hc := (bcell hB).1
 have zz := cy4 hc q0 q1 q2 q3
 clear q0 q1 q2 q3
 obtain ⟨q0, q1, q2, q3⟩ := zz
 replace hb0 := bthen hb0 hB
 clear hc hB
 go_wp2
 go_ret2
 exact ⟨rfl, hb0⟩
theorem c_rCheckLog_ok (m : Fm) (l : List Rp) (a : Option Addr) (cap : Nat) (w : World) (hm : m.In w) (hs : Sized m.f) (h : checkE m.f = 0) (hl : Rps w a l) (hok : ∀ x ∈ l, RpOk x) (hz : ∀ x ∈ l, x.sort.size ≤ 1000000) (hcap : l.length ≤ cap) : Calls Tryz.prog 30 #[m.v, .slice a l.length cap] w fun e w' => e = .returned (pairV (checkFrom m.f [] l)) ∧ Below w.heap.size w w' := by
 have hC := fun W (hb : Below w.heap.size w W) => c_rCheck m W (hm.later hb) hs
 rw [h] at hC
 have hR := fun (i : Nat) (x : Rp) (hx : x ∈ l) (hi : i ≤ l.length) W (hb : Below w.heap.size w W) => show Calls Tryz.prog 117 #[m.v, .slice a i cap, x.v] W fun e w' => e = .returned (.int .i64 (followE m.f (l.take i) x)) ∧ Below W.heap.size W w' from by
  have := c_rRefused m (l.take i) a cap x W (hm.later hb) hs h (hok x hx) (hz x hx) ((hl.take i).later hb)
  rw [show (l.take i).length = i from by rw [List.length_take]; omega] at this
  exact this
 have hlen := hl.1
 have HC := Lib.hid hC
 have HR := Lib.hid hR
 have HL := Lib.hid hl
 clear hC hR hl hm hs h hok hz
 go_enter Tryz.func30, Tryz.ntmps30
 go_upto_region 1 with (fail)
 go_name_world W1 hW1
 have hb0 : Below w.heap.size w W1 := by subst hW1; go_grown
 obtain ⟨q0, q1, q2, q3⟩ := (show QB m W1 w.heap.size from by subst hW1; and_intros <;> go_simp)
 clear hW1 
 go_wp2_with fail
 refine (HC.out _ hb0).mono ?_
 rintro E W2 ⟨rfl, hB⟩
 have hc := (bcell hB).1
 have zz := cy4 hc q0 q1 q2 q3
 clear q0 q1 q2 q3
 obtain ⟨q0, q1, q2, q3⟩ := zz
 replace hb0 := bthen hb0 hB
 clear hc hB
 go_wp2
 have HQ0 := Lib.hid (show CellsAt W2 w.heap.size 0 (feC m) from cells_4 q0 q1 q2 q3)
 have HB0 := Lib.hid hb0
 clear q0 q1 q2 q3 hb0
 go_loopw [7] (fun v7 wr => ∃ k : Nat, k ≤ l.length ∧ v7 = .int .i64 k ∧ checkFrom m.f [] l = checkFrom m.f (l.take k) (l.drop k) ∧ Below W2.heap.size W2 wr) (fun v7 _ => l.length - (intOf v7).toNat)
 case atStart => exact ⟨0, by omega, rfl, rfl, Below.refl _ _⟩
 case round =>
  obtain ⟨k, hk, rfl, hf, hb0⟩ := hrel
  have HF := Lib.hid hf
  clear hf
  obtain ⟨q0, q1, q2, q3⟩ := fe_cells (HQ0.out.later hb0)
  simp only [Nat.zero_add] at q0 q1 q2 q3
  by_cases hlt : k < l.length
  ·obtain ⟨x, hx⟩ := some_at hlt
   obtain ⟨gb, go', hga, hat⟩ := (HL.out.later (bthen HB0.out hb0)).at hx
   obtain ⟨r0, r1, r2, r3, r4, r5, r6, r7, r8, r9⟩ := rp_cells hat
   have hR := HR.out k x (some_mem hx) (by omega)
   have hst := from_step (f := m.f) hx
   rw [hga] at hR ⊢
   obtain ⟨E, hE⟩ : ∃ E, followE m.f (l.take k) x = E := ⟨_, rfl⟩
   rw [hE] at hst
   simp only [hE] at hR
   have i0 : ¬ ((k : Int) < 0) := by omega
   have i1 : k ≤ cap := by omega
   have i2 : (k : Int) ≤ (cap : Int) := by omega
   have i3 : (k : Int) < (l.length : Int) := by omega
   have i4 : (k : Int) ≤ (l.length : Int) := by omega
   have HS := Lib.hid hst
   have HRR := Lib.hid (fun (x1 : Later wr) => hR x1.1 (bthen (bthen HB0.out hb0) x1.2))
   clear hR hst hE hx hat hga
   go_upto_region 7 with (fail)
 
   have kq0 := later_cell q0
   have kq1 := later_cell q1
   have kq2 := later_cell q2
   have kq3 := later_cell q3
   have kr0 := later_cell r0
   have kr1 := later_cell r1
   have kr2 := later_cell r2
   have kr3 := later_cell r3
   have kr4 := later_cell r4
   have kr5 := later_cell r5
   have kr6 := later_cell r6
   have kr7 := later_cell r7
   have kr8 := later_cell r8
   have kr9 := later_cell r9
   refine wp_region_sink 9 wr (by kernel_rfl) (by kernel_rfl) (Below.refl _ _) ?_
   simp only [List.take_succ_cons, List.take_zero, List.drop_succ_cons, List.drop_zero]
   repeat (go_big_quiet_step (first | (go_at_call 117; with_reducible exact in_region (HRR.out _))))
   refine wpQuiet_nil ?_
   rintro ⟨W21, hB⟩
   dsimp only
   have hc := (bcell hB).1
   have hf := (bcell hB).2
   have hz := hB.size
   clear kq0 kq1 kq2 kq3 kr0 kr1 kr2 kr3 kr4 kr5 kr6 kr7 kr8 kr9
   have zz := cy14 hc q0 q1 q2 q3 r0 r1 r2 r3 r4 r5 r6 r7 r8 r9
   clear q0 q1 q2 q3 r0 r1 r2 r3 r4 r5 r6 r7 r8 r9
   obtain ⟨q0, q1, q2, q3, r0, r1, r2, r3, r4, r5, r6, r7, r8, r9⟩ := zz
   replace hb0 : Below W2.heap.size W2 W21 := bthen hb0 hB
   have hzW21 : wr.heap.size ≤ W21.heap.size := hz
   clear hc hf hB hz
   by_cases he : E = 0
   ·subst he
    have HB := Lib.hid hb0
    clear q0 q1 q2 q3 r0 r1 r2 r3 r4 r5 r6 r7 r8 r9 hb0
    go_wp2
    go_roundw
    case rel => exact ⟨k + 1, by omega, by go_num, by rw [HF.out, HS.out, if_neg (fun h => h rfl)], HB.out⟩
    case measure => simp [intOf]; omega
   ·have h2 : (E != 0) = true := bne_iff_ne.2 he
    have hres : checkFrom m.f [] l = ((k : Int), E) := by rw [HF.out, HS.out, if_pos he]
    have HRS := Lib.hid hres
    clear he hres
    go_wp2
    go_ret2
    exact ⟨by rw [HRS.out]; rfl, bthen HB0.out hb0⟩
  ·obtain rfl : k = l.length := by omega
   have hi2 : ¬ (l.length : Int) < (l.length : Int) := by omega
   go_wp2
   go_ret2
   exact ⟨by rw [HF.out, from_end]; rfl, bthen HB0.out hb0⟩
theorem c_rCheckLog (m : Fm) (l : List Rp) (a : Option Addr) (cap : Nat) (w : World) (hm : m.In w) (hs : Sized m.f) (hl : Rps w a l) (hok : ∀ x ∈ l, RpOk x) (hz : ∀ x ∈ l, x.sort.size ≤ 1000000) (hcap : l.length ≤ cap) :
  Calls Tryz.prog 30 #[m.v, .slice a l.length cap] w fun e w' => e = .returned (pairV (checkV m.f l)) ∧ Below w.heap.size w w' := by
 unfold checkV
 by_cases h : checkE m.f = 0
 ·rw [if_neg (by omega)]; exact c_rCheckLog_ok m l a cap w hm hs h hl hok hz hcap
 ·rw [if_pos h]; exact c_rCheckLog_no m l a cap w hm hs h
end Go.Proofs.YtlppdgaogdpajaaGreatDoor
namespace Go.Proofs.YtlppdgaogdpajaaGreatDoor
open Go Go.RowKit Go.Shelf
section
variable {P : Program}
theorem run_append_lst (w : World) (base : Nat) (t ty e : TypeId) (i : TypeInfo) (z : Value) (size bytes : Nat) (ht : P.underlying t = some (.slice e)) (hi : P.info? e = some i) (hz : i.zero = some z)
  (hsize : i.size = size) (hby : i.bytes = bytes) (hzs : z.cells.size = size) (hsz : 0 < size) {α : Type} {enc : α → List Value} (hn : ∀ x, (enc x).length = size) (h1 : ∀ x, ∀ u ∈ enc x, u.oneCell' = true)
  (v : Value) (n : Nat) (xs : List Value) (hown : w.ownsRow base e size v n xs) (a : Option Addr) (l : List α) (m c : Nat) (hm : l.length = m) (hl : Lst enc size w a l)
  (h63 : n + m ≤ maxLen) (hbytes : (n + m) * bytes ≤ 140737488355328) (hbase : base ≤ w.heap.size) :
  ∃ v' w', (Builtin.append_ #[t, t] ty #[v, .slice a m c]).run P w = .ok v' w' ∧ w'.ownsRow base e size v' (n + m) (xs ++ cellsL enc l) ∧ w.grownBy w' v.ownBlock := by
 subst hm
 cases a with
 | some ad =>
  obtain ⟨v', w', hr, h2, h3, _, _⟩ := run_append_own_at (P := P) w base t ty e i z size bytes ht hi hz hsize hby hzs hsz v n xs hown ad l.length c (cellsL enc l) (cellsL_len hn l) (hl.cells' hn hsz)
   (fun u hu => by obtain ⟨x, _, hx⟩ := List.mem_flatMap.1 hu; exact h1 x u hx) h63 hbytes hbase
  exact ⟨v', w', hr, h2, h3⟩
 | none =>
  have hnil : l = [] := by
   by_cases h : l = []
   ·exact h
   ·obtain ⟨b, o, h, _⟩ := hl.2 h; cases h
  subst hnil
  refine ⟨v, w, ?_, by rw [show cellsL enc ([] : List α) = [] from rfl, List.append_nil]; exact hown, World.grownBy.refl _ _⟩
  rcases hown.2 with ⟨rfl, _⟩ | ⟨g, cap, cur, rfl, _, _, hle, _⟩
  ·exact run_append_nothing w t t ty e i ht hi none 0 0 (Nat.le_refl _) _ (Src.ofNil w ht c)
  ·exact run_append_nothing w t t ty e i ht hi _ n cap hle _ (Src.ofNil w ht c)
theorem step_append_lst {ops : Array Oper} {o : Oper} {a : Act} {w : World} {K : Act → World → Prop} {Q : Exit → Act → World → Prop} {E : Prop} (hgd : o.guard = none) (s x : Operand) (t : TypeId)
  (ho : o.op = .call { callee := .builtin .append, args := #[s, x], argTypes := #[t, t] })
  (base : Nat) (e : TypeId) (i : TypeInfo) (z : Value) (size bytes : Nat) (ht : P.underlying t = some (.slice e)) (hi : P.info? e = some i) (hz : i.zero = some z)
  (hsize : i.size = size) (hby : i.bytes = bytes) (hzs : z.cells.size = size) (hsz : 0 < size) {α : Type} {enc : α → List Value} (hn : ∀ x, (enc x).length = size) (h1 : ∀ x, ∀ u ∈ enc x, u.oneCell' = true)
  (v : Value) (n : Nat) (xs : List Value) (hs : a.eval s = v) (hown : w.ownsRow base e size v n xs)
  (ad : Option Addr) (l : List α) (m c : Nat) (hm : l.length = m) (hx : a.eval x = .slice ad m c) (hl : Lst enc size w ad l)
  (h63 : n + m ≤ maxLen) (hbytes : (n + m) * bytes ≤ 140737488355328) (hbase : base ≤ w.heap.size)
  (h : ∀ v' w', w'.ownsRow base e size v' (n + m) (xs ++ cellsL enc l) → w.grownBy w' v.ownBlock → K (a.put o.dst v') w') :
  if Region.wanted o (yielded ops a.tmps) = true then Oper.wp P o a w K Q else E := by
 have hw : Region.wanted o (yielded ops a.tmps) = true := by simp [Region.wanted, hgd]
 rw [if_pos hw]
 obtain ⟨v', w', hr, h2, h3⟩ := run_append_lst (P := P) w base t o.type e i z size bytes ht hi hz hsize hby hzs hsz hn h1 v n xs hown ad l m c hm hl h63 hbytes hbase
 unfold Oper.wp execOp
 simp only [ho, resolve, invoke, builtin, Sem.run_bind, Sem.run_pure, Result.andThen_ok, List.map_toArray, List.map_cons, List.map_nil, hs, hx, hr]
 exact h v' w' h2 h3
end
theorem own_lit0 (w : World) (base : Nat) (e : TypeId) (size : Nat) (hb : base ≤ w.heap.size) : (w.alloc (.cells #[] e)).ownsRow base e size (.slice (some ⟨w.heap.size, 0, none⟩) 0 0) 0 [] :=
 World.ownsRow_made w #[] 0 hb (by unfold maxLen; omega) (by simp)
theorem own_litB (w : World) (base : Nat) (e : TypeId) (size B : Nat) (hB : w.heap.size = B) (hb : base ≤ B) : (w.alloc (.cells #[] e)).ownsRow base e size (.slice (some ⟨B, 0, none⟩) 0 0) 0 [] := by
 subst hB
 exact own_lit0 w base e size hb
theorem news_B (w : World) (cs : Array Value) (t : TypeId) (B : Nat) (hB : w.heap.size = B) : ∀ j u, cs.toList[j]? = some u → (w.alloc (.cells cs t)).cell? ((⟨B, 0, none⟩ : Addr).add j) = some u := by
 subst hB
 exact cells_new w cs t
theorem news_Bd (w : World) (cs : Array Value) (t : TypeId) (B : Nat) (hB : w.heap.size = B) : ∀ j u, cs.toList[j]? = some u → (w.alloc (.cells cs t)).drew.cell? ((⟨B, 0, none⟩ : Addr).add j) = some u := news_B w cs t B hB
theorem news_grown {w w1 : World} {B : Nat} {vs : List Value} {row : Option Nat} (h : ∀ j u, vs[j]? = some u → w.cell? ((⟨B, 0, none⟩ : Addr).add j) = some u) (hg : w.grownBy w1 row) (hne : some B ≠ row) :
  ∀ j u, vs[j]? = some u → w1.cell? ((⟨B, 0, none⟩ : Addr).add j) = some u := fun j u hj => hg.cell (h j u hj) (by
 have : ((⟨B, 0, none⟩ : Addr).add j).block = B := by unfold Addr.add; split <;> rfl
 rw [this]
 exact hne)
theorem rpC_one1 (x : Rp) : ∀ u ∈ rpC x, u.oneCell' = true := by
 intro u hu
 simp only [rpC, List.mem_cons, List.not_mem_nil, or_false] at hu
 rcases hu with rfl | rfl | rfl | rfl | rfl | rfl | rfl | rfl | rfl | rfl <;> rfl
end Go.Proofs.YtlppdgaogdpajaaGreatDoor
namespace Go.Proofs.YtlppdgaogdpajaaGreatDoor
theorem compact_mem {α : Type} [Inhabited α] [DecidableEq α] {l : List α} {x : α} (h : x ∈ l) : x ∈ Lib.compact l := by
 have key : ∀ i : Nat, l[i]? = some x → x ∈ Lib.compact l := by
  intro i
  induction i with
  | zero =>
   intro hi
   have hlt := (List.getElem?_eq_some_iff.1 hi).1
   unfold Lib.compact Lib.compactUpTo
   refine List.mem_map.2 ⟨0, List.mem_filter.2 ⟨List.mem_range.2 hlt, by simp [Lib.keeps]⟩, ?_⟩
   simp [List.getElem!_eq_getElem?_getD, hi]
  | succ i ih =>
   intro hi
   have hlt := (List.getElem?_eq_some_iff.1 hi).1
   by_cases hp : l[i]? = some x
   ·exact ih hp
   ·unfold Lib.compact Lib.compactUpTo
    refine List.mem_map.2 ⟨i + 1, List.mem_filter.2 ⟨List.mem_range.2 hlt, Lib.keeps_pos ?_⟩, ?_⟩
    ·intro e
     apply hp
     have e1 : l.toArray[i + 1]! = x := by simp [List.getElem!_eq_getElem?_getD, hi]
     have h2 : l[i]? = some l[i] := by simp
     have e2 : l.toArray[i + 1 - 1]! = l[i] := by simp [List.getElem!_eq_getElem?_getD, h2]
     rw [e1, e2] at e
     rw [h2, ← e]
    ·simp [List.getElem!_eq_getElem?_getD, hi]
 obtain ⟨i, hi⟩ := List.mem_iff_getElem?.1 h
 exact key i hi
theorem mem_setI {l : List Int} {x : Int} : x ∈ setI l ↔ x ∈ l := by
 unfold setI sortI
 exact ⟨fun h => List.mem_mergeSort.1 (mem_compact h), fun h => compact_mem (List.mem_mergeSort.2 h)⟩
def joinB (f : Fe) (a b : Int) : Prop := ∃ g ∈ f.gates, (g.a = a ∧ g.b = b) ∨ (g.b = a ∧ g.a = b)
def Path (f : Fe) (s : Int) : Nat → Int → Prop
 | 0, t => t = s
 | n + 1, t => ∃ p, Path f s n p ∧ joinB f p t
def Dist (f : Fe) (s t : Int) (n : Nat) : Prop := Path f s n t ∧ ∀ m, Path f s m t → n ≤ m
theorem dist_of {f : Fe} {a b : Int} : ∀ n, Path f a n b → ∃ k, k ≤ n ∧ Dist f a b k := by
 intro n
 induction n using Nat.strongRecOn with
 | _ n ih =>
  intro h
  by_cases hm : ∃ m, m < n ∧ Path f a m b
  ·obtain ⟨m, hmn, hp⟩ := hm
   obtain ⟨k, hk, hd⟩ := ih m hmn hp
   exact ⟨k, by omega, hd⟩
  ·exact ⟨n, Nat.le_refl _, h, fun m hp => Nat.le_of_not_lt fun hlt => hm ⟨m, hlt, hp⟩⟩
structure BInv (f : Fe) (s : Int) (S : Int → Option Int) (l1 l2 : List Int) (d : Nat) : Prop where
 ex : ∀ t n, S t = some n → ∃ k : Nat, n = k ∧ Dist f s t k
 h1 : ∀ q ∈ l1, S q = some (d : Int)
 h2 : ∀ q ∈ l2, S q = some ((d : Int) + 1)
 near : ∀ t k, Dist f s t k → k ≤ d → (S t).isSome = true
 done : ∀ t, (S t).isSome = true → t ∉ l1 → t ∉ l2 → ∀ q, joinB f t q → (S q).isSome = true
theorem BInv.visit {f : Fe} {s : Int} {S : Int → Option Int} {p q : Int} {r l2 : List Int} {d : Nat} (h : BInv f s S (p :: r) l2 d) (hj : joinB f p q) :
  ∃ l3, (visit1 p (S, r ++ l2) q).2 = r ++ l3 ∧ BInv f s (visit1 p (S, r ++ l2) q).1 (p :: r) l3 d ∧ ((visit1 p (S, r ++ l2) q).1 q).isSome = true ∧ ∀ t, (S t).isSome = true → ((visit1 p (S, r ++ l2) q).1 t).isSome = true := by
 unfold visit1
 dsimp only
 by_cases e : (S q).isSome = true
 ·rw [if_pos e]
  exact ⟨l2, rfl, h, e, fun t ht => ht⟩
 ·rw [if_neg e]
  have e0 : S q = none := by simpa using e
  have hp := h.h1 p (by simp)
  have hu : ∀ t, t ≠ q → upd S q ((S p).getD 0 + 1) t = S t := fun t ht => by unfold upd; rw [if_neg ht]
  have huq : upd S q ((S p).getD 0 + 1) q = some ((d : Int) + 1) := by unfold upd; rw [if_pos rfl, hp]; rfl
  have hne : ∀ t, (S t).isSome = true → t ≠ q := fun t ht e2 => by rw [e2, e0] at ht; cases ht
  have hdp : Dist f s p d := by
   obtain ⟨k, e1, hd⟩ := h.ex p _ hp
   obtain rfl : d = k := by omega
   exact hd
  refine ⟨l2 ++ [q], by rw [List.append_assoc], ⟨?_, ?_, ?_, ?_, ?_⟩, by dsimp only; rw [huq]; rfl, fun t ht => by dsimp only; rw [hu t (hne t ht)]; exact ht⟩
  ·intro t n ht
   dsimp only at ht
   by_cases e2 : t = q
   ·subst e2
    rw [huq] at ht
    cases ht
    refine ⟨d + 1, by simp, ⟨p, hdp.1, hj⟩, fun m hm => ?_⟩
    obtain ⟨k, hk, hd⟩ := dist_of m hm
    by_cases hkd : k ≤ d
    ·exact absurd (h.near _ _ hd hkd) e
    ·omega
   ·rw [hu t e2] at ht
    exact h.ex t n ht
  ·intro t ht
   dsimp only
   have := h.h1 t ht
   rw [hu t (hne t (by rw [this]; rfl))]
   exact this
  ·intro t ht
   dsimp only
   rcases List.mem_append.1 ht with ht | ht
   ·have := h.h2 t ht
    rw [hu t (hne t (by rw [this]; rfl))]
    exact this
   ·simp only [List.mem_cons, List.not_mem_nil, or_false] at ht
    subst ht
    exact huq
  ·intro t k hd hk
   dsimp only
   have := h.near t k hd hk
   rw [hu t (hne t this)]
   exact this
  ·intro t ht n1 n2 z hz
   dsimp only at ht ⊢
   have n3 : t ≠ q := fun e2 => n2 (by simp [e2])
   rw [hu t n3] at ht
   have := h.done t ht n1 (fun hin => n2 (by simp [hin])) z hz
   rw [hu z (hne z this)]
   exact this
theorem BInv.visits {f : Fe} {s p : Int} {r : List Int} {d : Nat} : ∀ (B : List Int) {S : Int → Option Int} {l2 : List Int}, (∀ q ∈ B, joinB f p q) → BInv f s S (p :: r) l2 d →
  ∃ l3, (visits p B (S, r ++ l2)).2 = r ++ l3 ∧ BInv f s (visits p B (S, r ++ l2)).1 (p :: r) l3 d ∧ (∀ q ∈ B, ((visits p B (S, r ++ l2)).1 q).isSome = true) ∧ ∀ t, (S t).isSome = true → ((visits p B (S, r ++ l2)).1 t).isSome = true := by
 intro B
 induction B with
 | nil => intro S l2 _ h; exact ⟨l2, rfl, h, fun q hq => (by cases hq), fun t ht => ht⟩
 | cons q B ih =>
  intro S l2 hB h
  obtain ⟨l3, e1, h1, m1, k1⟩ := h.visit (hB q (by simp))
  have e : Go.Proofs.YtlppdgaogdpajaaGreatDoor.visits p (q :: B) (S, r ++ l2) = Go.Proofs.YtlppdgaogdpajaaGreatDoor.visits p B ((visit1 p (S, r ++ l2) q).1, r ++ l3) := by
   rw [← e1]
   rfl
  rw [e]
  obtain ⟨l4, e2, h2, m2, k2⟩ := ih (fun z hz => hB z (by simp [hz])) h1
  refine ⟨l4, e2, h2, fun z hz => ?_, fun t ht => k2 t (k1 t ht)⟩
  rcases List.mem_cons.1 hz with rfl | hz
  ·exact k2 _ m1
  ·exact m2 z hz
theorem BInv.closed {f : Fe} {s : Int} {S : Int → Option Int} {d : Nat} (h : BInv f s S [] [] d) : ∀ (n : Nat) (t : Int), Path f s n t → (S t).isSome = true := by
 intro n
 induction n with
 | zero =>
  intro t ht
  cases ht
  exact h.near s 0 ⟨rfl, fun _ _ => Nat.zero_le _⟩ (Nat.zero_le _)
 | succ n ih =>
  rintro t ⟨p, hp, hj⟩
  exact h.done p (ih p hp) (by simp) (by simp) t hj
def Found (f : Fe) (s t : Int) (o : Option Int) : Prop := (∀ n, o = some n → ∃ k : Nat, n = k ∧ Dist f s t k) ∧ (o = none → ∀ n, ¬ Path f s n t)
theorem BInv.found {f : Fe} {s : Int} {S : Int → Option Int} {d : Nat} (h : BInv f s S [] [] d) (t : Int) : Found f s t (S t) :=
 ⟨fun n hn => h.ex t n hn, fun hn n hp => by have := h.closed n t hp; rw [hn] at this; cases this⟩
theorem eq_of_lt : ∀ {l r : List Int}, l.Pairwise (· < ·) → r.Pairwise (· < ·) → (∀ x, x ∈ l ↔ x ∈ r) → l = r
 | [], [], _, _, _ => rfl
 | [], y :: r, _, _, h => absurd ((h y).2 (by simp)) (by simp)
 | x :: l, [], _, _, h => absurd ((h x).1 (by simp)) (by simp)
 | x :: l, y :: r, hl, hr, h => by
  obtain ⟨h1, h2⟩ := List.pairwise_cons.1 hl
  obtain ⟨h3, h4⟩ := List.pairwise_cons.1 hr
  have e : x = y := by
   rcases List.mem_cons.1 ((h x).1 (by simp)) with e | e
   ·exact e
   ·rcases List.mem_cons.1 ((h y).2 (by simp)) with e2 | e2
    ·exact e2.symm
    ·have := h3 x e
     have := h1 y e2
     omega
  subst e
  congr 1
  refine eq_of_lt h2 h4 fun z => ?_
  constructor
  ·intro hz
   rcases List.mem_cons.1 ((h z).1 (List.mem_cons_of_mem _ hz)) with e | e
   ·have := h1 z hz
    omega
   ·exact e
  ·intro hz
   rcases List.mem_cons.1 ((h z).2 (List.mem_cons_of_mem _ hz)) with e | e
   ·have := h3 z hz
    omega
   ·exact e
theorem compact_lt {l : List Int} (h : l.Pairwise (· ≤ ·)) : (Lib.compact l).Pairwise (· < ·) := by
 unfold Lib.compact Lib.compactUpTo
 rw [List.pairwise_map]
 have hr : ((List.range l.length).filter (Lib.keeps l.toArray)).Pairwise fun a b => a < b := List.Pairwise.filter _ List.pairwise_lt_range
 refine List.Pairwise.imp_of_mem (fun {a b} ha hb hab => ?_) hr
 obtain ⟨hb1, hk⟩ := List.mem_filter.1 hb
 have hbl := List.mem_range.1 hb1
 have g : ∀ i (hi : i < l.length), l.toArray[i]! = l[i] := fun i hi => by simp [hi]
 have hle : ∀ i j (hij : i ≤ j) (hj : j < l.length), l[i]'(by omega) ≤ l[j] := fun i j hij hj => by
  rcases Nat.lt_or_ge i j with h1 | h1
  ·exact List.pairwise_iff_getElem.1 h i j (by omega) hj h1
  ·obtain rfl : i = j := by omega
   exact Int.le_refl _
 rw [g a (by omega), g b hbl]
 have h1 := hle a (b - 1) (by omega) (by omega)
 have h2 := hle (b - 1) b (by omega) hbl
 have h3 : l[b - 1]'(by omega) ≠ l[b] := by
  unfold Lib.keeps at hk
  rw [g b hbl, g (b - 1) (by omega)] at hk
  simp at hk
  intro e
  rcases hk with hk | hk
  ·omega
  ·exact hk e.symm
 omega
theorem setI_lt (l : List Int) : (setI l).Pairwise (· < ·) := by
 unfold setI sortI
 refine compact_lt ?_
 have := List.pairwise_mergeSort (le := leI) (fun a b c h1 h2 => by unfold leI at *; simp at *; omega) (fun a b => by unfold leI; simp; omega) l
 exact this.imp fun h => by unfold leI at h; simpa using h
end Go.Proofs.YtlppdgaogdpajaaGreatDoor
namespace Go.Proofs.YtlppdgaogdpajaaGreatDoor
open Go
def voidB (known : Int) (x y : Rp) : Bool := y.kind == 8 && y.void == x.id && decide (y.known ≤ known)
def cntK (l : List Rp) (known : Int) (x : Rp) (k : Nat) : Bool := (x.kind != 8 && decide (x.known ≤ known)) && !(l.take k).any (voidB known x)
theorem cntK_0 (l : List Rp) (known : Int) (x : Rp) : cntK l known x 0 = (x.kind != 8 && decide (x.known ≤ known)) := by simp [cntK]
theorem cntK_step {l : List Rp} {known : Int} {x y : Rp} {k : Nat} (h : l[k]? = some y) : cntK l known x (k + 1) = (cntK l known x k && !voidB known x y) := by
 unfold cntK
 rw [take_some h, List.any_append, List.any_cons, List.any_nil, Bool.or_false, Bool.not_or]
 simp only [Bool.and_assoc]
theorem cntK_all (l : List Rp) (known : Int) (x : Rp) : cntK l known x l.length = countsB l known x := by
 unfold cntK countsB
 rw [List.take_length]
 congr 2
 refine congrArg (fun p => l.any p) (funext fun y => ?_)
 unfold voidB
 cases (y.kind == 8) <;> cases (y.void == x.id) <;> cases (decide (y.known ≤ known)) <;> rfl
def rcountK (l : List Rp) (known : Int) (k : Nat) : List Rp := (l.take k).filter (countsB l known)
theorem rcountK_step {l : List Rp} {known : Int} {x : Rp} {k : Nat} (h : l[k]? = some x) : rcountK l known (k + 1) = if countsB l known x = true then rcountK l known k ++ [x] else rcountK l known k := by
 unfold rcountK
 rw [take_some h, List.filter_append]
 cases e : countsB l known x <;> simp [e]
theorem rcountK_all (l : List Rp) (known : Int) : rcountK l known l.length = countL l known := by
 unfold rcountK countL
 rw [List.take_length]
theorem rcountK_len (l : List Rp) (known : Int) (k : Nat) : (rcountK l known k).length ≤ l.length := by
 unfold rcountK
 exact Nat.le_trans (List.length_filter_le _ _) (List.length_take_le' _ _)
def hasO (L : List Rp) (o : Int) (k : Nat) : Bool := (L.take k).any fun x => x.owner == o
theorem hasO_step {L : List Rp} {o : Int} {k : Nat} {x : Rp} (h : L[k]? = some x) : hasO L o (k + 1) = (hasO L o k || x.owner == o) := by
 unfold hasO
 rw [take_some h, List.any_append, List.any_cons, List.any_nil, Bool.or_false]
def rownK (L : List Rp) (k : Nat) : List Int := ((List.range k).filter fun (i : Nat) => hasO L ((i : Int) + 1) L.length).map fun (i : Nat) => (i : Int) + 1
theorem rownK_step (L : List Rp) (k : Nat) : rownK L (k + 1) = if hasO L ((k : Int) + 1) L.length = true then rownK L k ++ [(k : Int) + 1] else rownK L k := by
 unfold rownK
 rw [List.range_succ, List.filter_append, List.map_append]
 cases h : hasO L ((k : Int) + 1) L.length <;> simp [h]
theorem rownK_len (L : List Rp) (k : Nat) : (rownK L k).length ≤ k := by
 unfold rownK
 rw [List.length_map]
 exact Nat.le_trans (List.length_filter_le _ _) (by simp)
theorem owners_ref {L : List Rp} (h : ∀ x ∈ L, 1 ≤ x.owner ∧ x.owner ≤ 40) : setI (L.map (·.owner)) = rownK L 40 := by
 refine eq_of_lt (setI_lt _) ?_ fun q => ?_
 ·unfold rownK
  rw [List.pairwise_map]
  exact (List.Pairwise.filter _ List.pairwise_lt_range).imp fun h => by omega
 ·rw [mem_setI]
  unfold rownK
  constructor
  ·intro hq
   obtain ⟨x, hx, rfl⟩ := List.mem_map.1 hq
   have hb := h x hx
   refine List.mem_map.2 ⟨(x.owner - 1).toNat, List.mem_filter.2 ⟨List.mem_range.2 (by omega), ?_⟩, by omega⟩
   unfold hasO
   rw [List.take_length, List.any_eq_true]
   exact ⟨x, hx, by rw [beq_iff_eq]; omega⟩
  ·intro hq
   obtain ⟨i, hi, rfl⟩ := List.mem_map.1 hq
   have h2 := (List.mem_filter.1 hi).2
   unfold hasO at h2
   rw [List.take_length, List.any_eq_true] at h2
   obtain ⟨x, hx, he⟩ := h2
   rw [beq_iff_eq] at he
   exact List.mem_map.2 ⟨x, hx, he⟩
theorem eq_of_R {α : Type} {R : α → α → Prop} (hs : ∀ a b, R a b → R b a → False) : ∀ {l r : List α}, l.Pairwise R → r.Pairwise R → (∀ x, x ∈ l ↔ x ∈ r) → l = r
 | [], [], _, _, _ => rfl
 | [], y :: r, _, _, h => absurd ((h y).2 (by simp)) (by simp)
 | x :: l, [], _, _, h => absurd ((h x).1 (by simp)) (by simp)
 | x :: l, y :: r, hl, hr, h => by
  obtain ⟨h1, h2⟩ := List.pairwise_cons.1 hl
  obtain ⟨h3, h4⟩ := List.pairwise_cons.1 hr
  have e : x = y := by
   rcases List.mem_cons.1 ((h x).1 (by simp)) with e | e
   ·exact e
   ·rcases List.mem_cons.1 ((h y).2 (by simp)) with e2 | e2
    ·exact e2.symm
    ·exact (hs _ _ (h3 x e) (h1 y e2)).elim
  subst e
  congr 1
  refine eq_of_R hs h2 h4 fun z => ?_
  constructor
  ·intro hz
   rcases List.mem_cons.1 ((h z).1 (List.mem_cons_of_mem _ hz)) with e | e
   ·subst e
    exact (hs _ _ (h1 _ hz) (h1 _ hz)).elim
   ·exact e
  ·intro hz
   rcases List.mem_cons.1 ((h z).2 (List.mem_cons_of_mem _ hz)) with e | e
   ·subst e
    exact (hs _ _ (h3 _ hz) (h3 _ hz)).elim
   ·exact e
theorem compact_R {α : Type} [Inhabited α] [DecidableEq α] {le : α → α → Prop} (rf : ∀ a, le a a) (tr : ∀ a b c, le a b → le b c → le a c) (an : ∀ a b, le a b → le b a → a = b) {l : List α} (h : l.Pairwise le) :
  (Lib.compact l).Pairwise fun a b => le a b ∧ a ≠ b := by
 unfold Lib.compact Lib.compactUpTo
 rw [List.pairwise_map]
 have hr : ((List.range l.length).filter (Lib.keeps l.toArray)).Pairwise fun a b => a < b := List.Pairwise.filter _ List.pairwise_lt_range
 refine List.Pairwise.imp_of_mem (fun {a b} ha hb hab => ?_) hr
 obtain ⟨hb1, hk⟩ := List.mem_filter.1 hb
 have hbl := List.mem_range.1 hb1
 have g : ∀ i (hi : i < l.length), l.toArray[i]! = l[i] := fun i hi => by simp [hi]
 have hle : ∀ i j (hij : i ≤ j) (hj : j < l.length), le (l[i]'(by omega)) l[j] := fun i j hij hj => by
  rcases Nat.lt_or_ge i j with h1 | h1
  ·exact List.pairwise_iff_getElem.1 h i j (by omega) hj h1
  ·obtain rfl : i = j := by omega
   exact rf _
 rw [g a (by omega), g b hbl]
 have h1 := hle a (b - 1) (by omega) (by omega)
 have h2 := hle (b - 1) b (by omega) hbl
 have h3 : l[b - 1]'(by omega) ≠ l[b] := by
  unfold Lib.keeps at hk
  rw [g b hbl, g (b - 1) (by omega)] at hk
  simp at hk
  intro e
  rcases hk with hk | hk
  ·omega
  ·exact hk e.symm
 exact ⟨tr _ _ _ h1 h2, fun e => h3 (an _ _ h2 (e ▸ h1))⟩
def ltS (a b : ByteArray) : Bool := Op.bytesLess a.toList b.toList
def RS (a b : ByteArray) : Prop := a.data.toList ≤ b.data.toList ∧ a ≠ b
theorem ltS_iff {a b : ByteArray} : ltS a b = true ↔ a.data.toList < b.data.toList := by
 unfold ltS
 rw [bytesLess_eq, ByteArray.toList_eq, ByteArray.toList_eq, decide_eq_true_eq]
theorem data_inj {a b : ByteArray} (h : a.data.toList = b.data.toList) : a = b := by
 cases a
 cases b
 simpa using h
theorem RS_of {a b : ByteArray} (h : ltS a b = true) : RS a b := by
 have h1 := ltS_iff.1 h
 refine ⟨List.le_of_lt h1, fun e => ?_⟩
 subst e
 exact List.lt_irrefl _ h1
theorem RS_no {a b : ByteArray} (h : ltS a b = false) (hn : a ≠ b) : RS b a := by
 refine ⟨?_, Ne.symm hn⟩
 rw [← List.not_lt]
 intro h2
 rw [ltS_iff.2 h2] at h
 cases h
theorem RS_as (a b : ByteArray) (h1 : RS a b) (h2 : RS b a) : False := h1.2 (data_inj (List.le_antisymm h1.1 h2.1))
theorem RS_tr {a b c : ByteArray} (h1 : RS a b) (h2 : RS b c) : RS a c := ⟨List.le_trans h1.1 h2.1, fun e => by subst e; exact RS_as _ _ h1 h2⟩
def insR (s : ByteArray) : List ByteArray → List ByteArray
 | [] => [s]
 | x :: r => if ltS x s = true then x :: insR s r else if x = s then x :: r else s :: x :: r
theorem insR_mem {s y : ByteArray} : ∀ {l : List ByteArray}, y ∈ insR s l ↔ y ∈ l ∨ y = s
 | [] => by simp [insR]
 | x :: r => by
  rw [insR]
  by_cases h1 : ltS x s = true
  ·rw [if_pos h1, List.mem_cons, insR_mem, List.mem_cons, or_assoc]
  ·rw [if_neg h1]
   by_cases h2 : x = s
   ·rw [if_pos h2]
    subst h2
    simp
    intro e
    exact .inl e
   ·rw [if_neg h2]
    simp only [List.mem_cons]
    constructor
    ·rintro (h | h)
     ·exact .inr h
     ·exact .inl h
    ·rintro (h | h)
     ·exact .inr h
     ·exact .inl h
theorem insR_sorted {s : ByteArray} : ∀ {l : List ByteArray}, l.Pairwise RS → (insR s l).Pairwise RS
 | [], _ => by simp [insR]
 | x :: r, h => by
  obtain ⟨h1, h2⟩ := List.pairwise_cons.1 h
  rw [insR]
  by_cases e1 : ltS x s = true
  ·rw [if_pos e1]
   refine List.pairwise_cons.2 ⟨fun y hy => ?_, insR_sorted h2⟩
   rcases insR_mem.1 hy with hy | hy
   ·exact h1 y hy
   ·subst hy; exact RS_of e1
  ·rw [if_neg e1]
   by_cases e2 : x = s
   ·rw [if_pos e2]; exact h
   ·rw [if_neg e2]
    have hs := RS_no (by simpa using e1) e2
    refine List.pairwise_cons.2 ⟨fun y hy => ?_, h⟩
    rcases List.mem_cons.1 hy with hy | hy
    ·subst hy; exact hs
    ·exact RS_tr hs (h1 y hy)
def posS (l : List ByteArray) (s : ByteArray) : Nat := (l.takeWhile fun x => ltS x s).length
theorem posS_le (l : List ByteArray) (s : ByteArray) : posS l s ≤ l.length := (List.takeWhile_prefix _).length_le
theorem insR_pos (s : ByteArray) : ∀ l : List ByteArray, insR s l = if l[posS l s]? = some s then l else l.take (posS l s) ++ [s] ++ l.drop (posS l s)
 | [] => by simp [insR, posS]
 | x :: r => by
  rw [insR]
  by_cases e1 : ltS x s = true
  ·have hp : posS (x :: r) s = posS r s + 1 := by unfold posS; rw [List.takeWhile_cons, if_pos e1]; rfl
   rw [if_pos e1, hp, List.getElem?_cons_succ, List.take_succ_cons, List.drop_succ_cons, insR_pos s r]
   by_cases e : r[posS r s]? = some s
   ·rw [if_pos e, if_pos e]
   ·rw [if_neg e, if_neg e]
    simp
  ·have hp : posS (x :: r) s = 0 := by unfold posS; rw [List.takeWhile_cons, if_neg e1]; rfl
   rw [if_neg e1, hp]
   by_cases e2 : x = s
   ·rw [if_pos e2, if_pos (by simp [e2])]
   ·rw [if_neg e2, if_neg (by simpa using e2)]
    simp
def rsortsL (owner : Int) (c : List Rp) : List ByteArray := (c.filterMap (sortO owner)).foldl (fun out s => insR s out) []
theorem rsorts_step {owner : Int} {c : List Rp} {k : Nat} {x : Rp} (h : c[k]? = some x) : rsortsL owner (c.take (k + 1)) = if x.owner = owner then insR x.sort (rsortsL owner (c.take k)) else rsortsL owner (c.take k) := by
 unfold rsortsL
 rw [take_some h, List.filterMap_append, List.foldl_append]
 by_cases e : x.owner = owner
 ·simp [sortO, e]
 ·simp [sortO, e]
theorem fold_ins : ∀ (l : List ByteArray) (out : List ByteArray), out.Pairwise RS → (l.foldl (fun out s => insR s out) out).Pairwise RS ∧ ∀ y, y ∈ l.foldl (fun out s => insR s out) out ↔ y ∈ out ∨ y ∈ l
 | [], out, h => ⟨h, fun y => by simp⟩
 | s :: l, out, h => by
  obtain ⟨h1, h2⟩ := fold_ins l (insR s out) (insR_sorted h)
  rw [List.foldl_cons]
  refine ⟨h1, fun y => ?_⟩
  rw [h2, insR_mem, List.mem_cons, or_assoc]
theorem rsorts_len (owner : Int) (c : List Rp) : (rsortsL owner c).length ≤ c.length := by
 unfold rsortsL
 have key : ∀ (l out : List ByteArray), (l.foldl (fun out s => insR s out) out).length ≤ out.length + l.length := by
  intro l
  induction l with
  | nil => intro out; simp
  | cons s l ih =>
   intro out
   have h1 := ih (insR s out)
   have h2 : ∀ o : List ByteArray, (insR s o).length ≤ o.length + 1 := by
    intro o
    induction o with
    | nil => simp [insR]
    | cons x r ih2 =>
     rw [insR]
     split
     ·simp only [List.length_cons]; omega
     ·split <;> simp
   have h3 := h2 out
   rw [List.foldl_cons, List.length_cons]
   omega
 have h1 := key (c.filterMap (sortO owner)) []
 have h2 := List.length_filterMap_le (sortO owner) c
 simp only [List.length_nil] at h1
 omega
theorem mem_setS {l : List ByteArray} {y : ByteArray} : y ∈ setS l ↔ y ∈ l := by
 have e1 : ∀ (m : List (List UInt8)), y ∈ ofDatas m ↔ y.data.toList ∈ m := by
  intro m
  unfold ofDatas
  rw [List.mem_map]
  constructor
  ·rintro ⟨x, hx, rfl⟩; simpa using hx
  ·intro h; exact ⟨_, h, data_inj (by simp)⟩
 have e2 : ∀ (m : List ByteArray), y.data.toList ∈ datas m ↔ y ∈ m := by
  intro m
  unfold datas
  rw [List.mem_map]
  constructor
  ·rintro ⟨x, hx, h⟩; rwa [← data_inj h]
  ·intro h; exact ⟨y, h, rfl⟩
 unfold setS
 rw [e1]
 unfold sortS
 rw [datas_ofDatas]
 constructor
 ·intro h; exact (e2 l).1 (List.mem_mergeSort.1 (mem_compact h))
 ·intro h; exact compact_mem (List.mem_mergeSort.2 ((e2 l).2 h))
theorem setS_sorted (l : List ByteArray) : (setS l).Pairwise RS := by
 unfold setS sortS
 rw [datas_ofDatas]
 unfold ofDatas
 rw [List.pairwise_map]
 have hs : ((datas l).mergeSort fun x y => decide (x ≤ y)).Pairwise fun a b => a ≤ b := by
  have := List.pairwise_mergeSort (le := fun (x y : List UInt8) => decide (x ≤ y)) (fun a b c h1 h2 => by simp only [decide_eq_true_eq] at *; exact List.le_trans h1 h2) (fun a b => by simp only [Bool.or_eq_true, decide_eq_true_eq]; exact List.le_total a b) (datas l)
  exact this.imp fun h => by simpa using h
 refine (compact_R (fun a => List.le_refl a) (fun a b c h1 h2 => List.le_trans h1 h2) (fun a b h1 h2 => List.le_antisymm h1 h2) hs).imp fun {a b} h => ⟨by simpa using h.1, fun e => h.2 ?_⟩
 have : (⟨a.toArray⟩ : ByteArray).data.toList = (⟨b.toArray⟩ : ByteArray).data.toList := by rw [e]
 simpa using this
theorem sorts_ref (owner : Int) (c : List Rp) : setS (c.filterMap (sortO owner)) = rsortsL owner c := by
 obtain ⟨h1, h2⟩ := fold_ins (c.filterMap (sortO owner)) [] List.Pairwise.nil
 refine eq_of_R RS_as (setS_sorted _) h1 fun y => ?_
 rw [mem_setS]
 exact ((h2 y).trans (by simp)).symm
end Go.Proofs.YtlppdgaogdpajaaGreatDoor
namespace Go.Proofs.YtlppdgaogdpajaaGreatDoor
theorem count_lens (f : Fe) (l : List Rp) (known owner : Int) (h : l.length ≤ 40) : (countV f l known).1.length ≤ 40 ∧ (ownersV f l known).1.length ≤ 40 ∧ (sortsV f l known owner).1.length ≤ 40 := by
 have hc : (countL l known).length ≤ 40 := Nat.le_trans (List.length_filter_le _ _) h
 refine ⟨?_, ?_, ?_⟩
 ·unfold countV
  split
  ·simp
  ·exact hc
 ·unfold ownersV
  split
  ·simp
  ·show (setI ((countL l known).map (·.owner))).length ≤ 40
   unfold setI
   refine Nat.le_trans (compact_le _) ?_
   unfold sortI
   rw [List.length_mergeSort, List.length_map]
   exact hc
 ·unfold sortsV
  split
  ·simp
  ·show (setS ((countL l known).filterMap (sortO owner))).length ≤ 40
   unfold setS
   rw [ofDatas_len]
   refine Nat.le_trans (compact_le _) ?_
   rw [datas_len]
   unfold sortS
   rw [ofDatas_len, List.length_mergeSort, datas_len]
   exact Nat.le_trans (List.length_filterMap_le _ _) hc
end Go.Proofs.YtlppdgaogdpajaaGreatDoor
