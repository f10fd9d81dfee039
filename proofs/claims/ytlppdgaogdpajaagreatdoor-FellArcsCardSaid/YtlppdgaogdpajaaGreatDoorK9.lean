/- This text is a part of the proof: Follow. -/
import Derived.Test.YtlppdgaogdpajaaGreatDoorK8
set_option maxRecDepth 100000
set_option maxHeartbeats 8000000
namespace Go.Proofs.YtlppdgaogdpajaaGreatDoor
open Go.RowKit Go.Shelf
attribute [local go_sem] Oper.semAt_some
def feC (m : Fm) : List Value := [.int .i64 m.f.ticks, .int .i64 m.f.yields, .slice m.pa m.f.places.length m.pc, .slice m.ga m.f.gates.length m.gc]
theorem fe_cells {w : World} {b o : Nat} {m : Fm} (h : CellsAt w b o (feC m)) : w.cell? ⟨b, o, none⟩ = some (.int .i64 m.f.ticks) ∧ w.cell? ⟨b, o + 1, none⟩ = some (.int .i64 m.f.yields) ∧ w.cell? ⟨b, o + 2, none⟩ = some (.slice m.pa m.f.places.length m.pc) ∧ w.cell? ⟨b, o + 3, none⟩ = some (.slice m.ga m.f.gates.length m.gc) :=
 ⟨h 0 _ rfl, h 1 _ rfl, h 2 _ rfl, h 3 _ rfl⟩
theorem cells_later {w w1 : World} {b o : Nat} {vs : List Value} (h : CellsAt w b o vs) (hb : Below w.heap.size w w1) : CellsAt w1 b o vs :=
 h.kept (Kept.of_below (O := fun _ => False) hb) (fun h => h)
theorem cells_4 {w : World} {b : Nat} {u0 u1 u2 u3 : Value} (h0 : w.cell? ⟨b, 0, none⟩ = some u0) (h1 : w.cell? ⟨b, 1, none⟩ = some u1) (h2 : w.cell? ⟨b, 2, none⟩ = some u2) (h3 : w.cell? ⟨b, 3, none⟩ = some u3) : CellsAt w b 0 [u0, u1, u2, u3]
 | 0, _, h => (Option.some.inj h) ▸ h0
 | 1, _, h => (Option.some.inj h) ▸ h1
 | 2, _, h => (Option.some.inj h) ▸ h2
 | 3, _, h => (Option.some.inj h) ▸ h3
theorem cells_10 {w : World} {b : Nat} {u0 u1 u2 u3 u4 u5 u6 u7 u8 u9 : Value} (h0 : w.cell? ⟨b, 0, none⟩ = some u0) (h1 : w.cell? ⟨b, 1, none⟩ = some u1) (h2 : w.cell? ⟨b, 2, none⟩ = some u2) (h3 : w.cell? ⟨b, 3, none⟩ = some u3)
  (h4 : w.cell? ⟨b, 4, none⟩ = some u4) (h5 : w.cell? ⟨b, 5, none⟩ = some u5) (h6 : w.cell? ⟨b, 6, none⟩ = some u6) (h7 : w.cell? ⟨b, 7, none⟩ = some u7) (h8 : w.cell? ⟨b, 8, none⟩ = some u8) (h9 : w.cell? ⟨b, 9, none⟩ = some u9) : CellsAt w b 0 [u0, u1, u2, u3, u4, u5, u6, u7, u8, u9]
 | 0, _, h => (Option.some.inj h) ▸ h0
 | 1, _, h => (Option.some.inj h) ▸ h1
 | 2, _, h => (Option.some.inj h) ▸ h2
 | 3, _, h => (Option.some.inj h) ▸ h3
 | 4, _, h => (Option.some.inj h) ▸ h4
 | 5, _, h => (Option.some.inj h) ▸ h5
 | 6, _, h => (Option.some.inj h) ▸ h6
 | 7, _, h => (Option.some.inj h) ▸ h7
 | 8, _, h => (Option.some.inj h) ▸ h8
 | 9, _, h => (Option.some.inj h) ▸ h9
theorem c_judges (m : Fm) (x : Rp) (fb xb : Nat) (w : World) (hs : Small m.f) (ok : RpOk x) (hf : CellsAt w fb 0 (feC m)) (hx : CellsAt w xb 0 (rpC x)) :
  Calls Tryz.prog 120 #[.pointer (some ⟨fb, 0, none⟩), .pointer (some ⟨xb, 0, none⟩)] w fun e w' => e = endV (judgeE m.f x) ∧ Below w.heap.size w w' := by
 obtain ⟨q0, q1, q2, q3⟩ := fe_cells hf
 obtain ⟨r0, r1, r2, r3, r4, r5, r6, r7, r8, r9⟩ := rp_cells hx
 have hj := fun W => c_judge m x W hs ok
 clear hf hx hs ok
 by_cases h : judgeE m.f x = 0
 ·rw [h] at hj ⊢
  rw [endV_0] at hj ⊢
  have HJ := Lib.hid hj
  clear hj h
  go_enter Tryz.func120, Tryz.ntmps120
  go_wp2_with fail
  refine (via (w0 := w) (by go_grown) (HJ.out _)).mono ?_
  rintro e W1 ⟨rfl, hc, hf, hz, hB⟩
  clear hc hf
  go_wp2
  go_end0
  exact ⟨rfl, hB⟩
 ·rw [endV_no h] at hj ⊢
  have HJ := Lib.hid hj
  clear hj h
  go_enter Tryz.func120, Tryz.ntmps120
  go_wp2_with fail
  refine (via (w0 := w) (by go_grown) (HJ.out _)).mono ?_
  rintro e W1 ⟨rfl, hc, hf, hz, hB⟩
  clear hc hf
  go_wp2
  exact ⟨rfl, rfl, hB⟩
theorem c_tried (F : FuncId) (eg : Ent F) (cap : Array Value) (E : Int) (w : World)
  (hF : ∀ W, Below w.heap.size w W → Calls Tryz.prog F cap W fun e w' => e = endV E ∧ Below W.heap.size W w') :
  Calls Tryz.prog 87 #[.func (.func F) #[] cap] w fun e w' => e = .returned (.int .i64 E) ∧ Below w.heap.size w w' := by
 have hst : ∀ W W', Kept (fun k => k = w.heap.size) W W' → (Below w.heap.size w W) → Below w.heap.size w W' := fun W W' hk hb => hb.trans (hk.below hb.size (fun k hk => by omega))
 by_cases h : E = 0
 ·subst h
  exact c_tried_ok F eg cap (fun W => Below w.heap.size w W) (fun _ => False) w (fun W hb => (hF W hb).mono fun e w' h => ⟨h.1, Kept.of_below h.2, bthen hb h.2⟩) (fun _ h => h.elim) hst
 ·rw [endV_no h] at hF
  exact c_tried_err F eg cap (fun W => Below w.heap.size w W) (fun _ => False) E w (fun W hb => (hF W hb).mono fun e w' h => ⟨h.1, Kept.of_below h.2, bthen hb h.2⟩) (fun _ h => h.elim) hst
theorem c_CheckReport_no (m : Fm) (x : Rp) (w : World) (hm : m.In w) (ok : RpOk x) (h : checkE m.f ≠ 0) : Calls Tryz.prog 34 #[m.v, x.v] w fun e w' => e = .returned (.int .i64 (checkE m.f)) ∧ Below w.heap.size w w' := by
 have hmf : ∀ (fn : Fn) (first cap : Array Value) (w : World), (Instr.makeFunc fn first cap).run Tryz.prog w = .ok (.func fn first cap) w := fun _ _ _ _ => rfl
 have hC := fun W (hb : Below w.heap.size w W) => c_CheckFell m W (hm.later hb)
 obtain ⟨id, known, kind, owner, sort, plc, tick, low, high, void⟩ := x
 generalize checkE m.f = E at *
 have he : (E != 0) = true := bne_iff_ne.2 h
 have HC := Lib.hid hC
 clear hC h hm ok
 go_enter Tryz.func34, Tryz.ntmps34
 go_upto_region 1 with (fail)
 go_name_world W1 hW1
 have hb0 : Below w.heap.size w W1 := by subst hW1; go_grown
 obtain ⟨q0, q1, q2, q3⟩ := (show QB m W1 w.heap.size from by subst hW1; and_intros <;> go_simp)
 obtain ⟨r0, r1, r2, r3, r4, r5, r6, r7, r8, r9⟩ := (show RB id known kind owner sort plc tick low high void W1 (w.heap.size + 1) from by subst hW1; and_intros <;> go_simp)
 clear hW1 
 go_wp2_with fail
 refine (via (w0 := W1) (by go_grown) (HC.out _ hb0)).mono ?_
 rintro e W2 ⟨rfl, hc, hf, hz, hB⟩
 have zz := cy14 hc q0 q1 q2 q3 r0 r1 r2 r3 r4 r5 r6 r7 r8 r9
 clear q0 q1 q2 q3 r0 r1 r2 r3 r4 r5 r6 r7 r8 r9
 obtain ⟨q0, q1, q2, q3, r0, r1, r2, r3, r4, r5, r6, r7, r8, r9⟩ := zz
 replace hb0 : Below w.heap.size w W2 := bthen hb0 hB
 have hzW2 : W1.heap.size ≤ W2.heap.size := hz
 clear hc hf hB hz
 go_wp2_with fail
 go_ret
 exact ⟨rfl, by have hbz := hb0.size; go_grown⟩
theorem c_CheckReport_ok (m : Fm) (x : Rp) (w : World) (hm : m.In w) (ok : RpOk x) (h : checkE m.f = 0) : Calls Tryz.prog 34 #[m.v, x.v] w fun e w' => e = .returned (.int .i64 (judgeE m.f x)) ∧ Below w.heap.size w w' := by
 have hmf : ∀ (fn : Fn) (first cap : Array Value) (w : World), (Instr.makeFunc fn first cap).run Tryz.prog w = .ok (.func fn first cap) w := fun _ _ _ _ => rfl
 have hC := fun W (hb : Below w.heap.size w W) => c_CheckFell m W (hm.later hb)
 have hs := (right_of h).small
 rw [h] at hC
 have eg : Ent 120 := enters_of Tryz.func120 (by kernel_rfl) rfl
 have HT := Lib.hid (fun W (hf : CellsAt W w.heap.size 0 (feC m)) (hx : CellsAt W (w.heap.size + 1) 0 (rpC x)) => c_tried 120 eg #[.pointer (some ⟨w.heap.size, 0, none⟩), .pointer (some ⟨w.heap.size + 1, 0, none⟩)] (judgeE m.f x) W fun V hb => c_judges m x _ _ V hs ok (cells_later hf hb) (cells_later hx hb))
 have HC := Lib.hid hC
 obtain ⟨id, known, kind, owner, sort, plc, tick, low, high, void⟩ := x
 clear hC hs ok h hm
 go_enter Tryz.func34, Tryz.ntmps34
 go_upto_region 1 with (fail)
 go_name_world W1 hW1
 have hb0 : Below w.heap.size w W1 := by subst hW1; go_grown
 obtain ⟨q0, q1, q2, q3⟩ := (show QB m W1 w.heap.size from by subst hW1; and_intros <;> go_simp)
 obtain ⟨r0, r1, r2, r3, r4, r5, r6, r7, r8, r9⟩ := (show RB id known kind owner sort plc tick low high void W1 (w.heap.size + 1) from by subst hW1; and_intros <;> go_simp)
 clear hW1 
 go_wp2_with fail
 refine (via (w0 := W1) (by go_grown) (HC.out _ hb0)).mono ?_
 rintro e W2 ⟨rfl, hc, hf, hz, hB⟩
 have zz := cy14 hc q0 q1 q2 q3 r0 r1 r2 r3 r4 r5 r6 r7 r8 r9
 clear q0 q1 q2 q3 r0 r1 r2 r3 r4 r5 r6 r7 r8 r9
 obtain ⟨q0, q1, q2, q3, r0, r1, r2, r3, r4, r5, r6, r7, r8, r9⟩ := zz
 replace hb0 : Below w.heap.size w W2 := bthen hb0 hB
 have hzW2 : W1.heap.size ≤ W2.heap.size := hz
 clear hc hf hB hz
 go_wp2_with fail
 refine (via (w0 := W2) (by go_grown) (HT.out _ (cells_4 q0 q1 q2 q3) (cells_10 r0 r1 r2 r3 r4 r5 r6 r7 r8 r9))).mono ?_
 rintro e W3 ⟨rfl, hc, hf, hz, hB⟩
 have zz := cy14 hc q0 q1 q2 q3 r0 r1 r2 r3 r4 r5 r6 r7 r8 r9
 clear q0 q1 q2 q3 r0 r1 r2 r3 r4 r5 r6 r7 r8 r9
 obtain ⟨q0, q1, q2, q3, r0, r1, r2, r3, r4, r5, r6, r7, r8, r9⟩ := zz
 replace hb0 : Below w.heap.size w W3 := bthen hb0 hB
 have hzW3 : W2.heap.size ≤ W3.heap.size := hz
 clear hc hf hB hz
 go_wp2_with fail
 go_ret
 exact ⟨rfl, by have hbz := hb0.size; go_grown⟩
theorem c_CheckReport (m : Fm) (x : Rp) (w : World) (hm : m.In w) (ok : RpOk x) : Calls Tryz.prog 34 #[m.v, x.v] w fun e w' => e = .returned (.int .i64 (reportE m.f x)) ∧ Below w.heap.size w w' := by
 unfold reportE
 by_cases h : checkE m.f = 0
 ·rw [if_neg (by omega)]; exact c_CheckReport_ok m x w hm ok h
 ·rw [if_pos h]; exact c_CheckReport_no m x w hm ok h
theorem c_sameId (y : Rp) (v : Int) (xb : Nat) (w : World) (h : w.cell? ⟨xb, 0, none⟩ = some (.int .i64 v)) :
  Calls Tryz.prog 180 #[y.v, .pointer (some ⟨xb, 0, none⟩)] w fun e w' => e = .returned (.bool (y.id == v)) ∧ Below w.heap.size w w' := by
 have zx := cell_lt h
 go_enter Tryz.func180, Tryz.ntmps180
 go_wp2
 go_ret
 exact ⟨rfl, by go_grown⟩
def meansB (v : Int) (y : Rp) : Bool := y.id == v && y.kind != 8
def voidsB (v : Int) (y : Rp) : Bool := y.kind == 8 && y.void == v
theorem c_means (y : Rp) (v : Int) (xb : Nat) (w : World) (h : w.cell? ⟨xb, 9, none⟩ = some (.int .i64 v)) :
  Calls Tryz.prog 181 #[y.v, .pointer (some ⟨xb, 0, none⟩)] w fun e w' => e = .returned (.bool (meansB v y)) ∧ Below w.heap.size w w' := by
 have zx := cell_lt h
 unfold meansB
 cases hi : (y.id == v)
 all_goals
  go_enter Tryz.func181, Tryz.ntmps181
  go_wp2
  go_ret
  exact ⟨rfl, by go_grown⟩
theorem c_voids (y : Rp) (v : Int) (xb : Nat) (w : World) (h : w.cell? ⟨xb, 9, none⟩ = some (.int .i64 v)) :
  Calls Tryz.prog 182 #[y.v, .pointer (some ⟨xb, 0, none⟩)] w fun e w' => e = .returned (.bool (voidsB v y)) ∧ Below w.heap.size w w' := by
 have zx := cell_lt h
 unfold voidsB
 cases hi : (y.kind == 8)
 all_goals
  go_enter Tryz.func182, Tryz.ntmps182
  go_wp2
  go_ret
  exact ⟨rfl, by go_grown⟩
def earlyB (l : List Rp) (known : Int) : Bool := l.any (fun _ => true) && decide (known < (l.getLast?.map (·.known)).getD 0)
theorem early_nil (k : Int) : earlyB [] k = false := rfl
theorem early_last {l : List Rp} {z : Rp} (k : Int) (h : l[l.length - 1]? = some z) : earlyB l k = decide (k < z.known) := by
 have hp : l ≠ [] := fun e => by subst e; simp at h
 have hz : l.getLast? = some z := by rw [List.getLast?_eq_getElem?]; exact h
 have ha : l.any (fun _ => true) = true := by
  cases l with
  | nil => exact absurd rfl hp
  | cons => rfl
 unfold earlyB
 rw [ha, hz]
 rfl
theorem follow_eq (f : Fe) (l : List Rp) (x : Rp) : followE f l x =
  if 300 ≤ l.length then 2 else if judgeE f x ≠ 0 then judgeE f x else if l.any (fun y => y.id == x.id) = true then 6 else if earlyB l x.known = true then 7
   else if x.kind = 8 then (if l.any (meansB x.void) = false then 5 else if l.any (voidsB x.void) = true then 6 else 0) else 0 := rfl
theorem c_follow_v (m : Fm) (l : List Rp) (a : Option Addr) (cap : Nat) (id known owner plc tick low high void : Int) (sort : ByteArray) (w : World) (hs : Small m.f) (ok : RpOk (⟨id, known, 8, owner, sort, plc, tick, low, high, void⟩ : Rp)) (hl : Rps w a l) :
  Calls Tryz.prog 116 #[m.v, .slice a l.length cap, (⟨id, known, 8, owner, sort, plc, tick, low, high, void⟩ : Rp).v] w fun e w' => e = endV (followE m.f l (⟨id, known, 8, owner, sort, plc, tick, low, high, void⟩ : Rp)) ∧ Below w.heap.size w w' := by
 have hmf : ∀ (fn : Fn) (first cap : Array Value) (w : World), (Instr.makeFunc fn first cap).run Tryz.prog w = .ok (.func fn first cap) w := fun _ _ _ _ => rfl
 obtain ⟨E, hE⟩ : ∃ E, followE m.f l (⟨id, known, 8, owner, sort, plc, tick, low, high, void⟩ : Rp) = E := ⟨_, rfl⟩
 rw [hE]
 have HE := Lib.hid hE
 have hlen := hl.1
 have hJ := fun W => c_judge m (⟨id, known, 8, owner, sort, plc, tick, low, high, void⟩ : Rp) W hs ok
 obtain ⟨J, hj⟩ : ∃ J, judgeE m.f (⟨id, known, 8, owner, sort, plc, tick, low, high, void⟩ : Rp) = J := ⟨_, rfl⟩
 rw [hj] at hJ
 have HJ := Lib.hid hJ
 have Hj := Lib.hid hj
 have HL := Lib.hid hl
 have eg1 : Ent 180 := enters_of Tryz.func180 (by kernel_rfl) rfl
 have hA1 := fun W (hb : Below w.heap.size w W) (hc : W.cell? ⟨w.heap.size + 1, 0, none⟩ = some (.int .i64 id)) =>
  c_anyRp 180 eg1 #[.pointer (some ⟨w.heap.size + 1, 0, none⟩)] (fun y => y.id == id) l a cap W (fun V y _ hv => c_sameId y id _ V (((bcell hv).1 _ _ (cell_lt hc)).trans hc)) (hl.later hb)
 obtain ⟨B1, h1⟩ : ∃ B, l.any (fun y => y.id == id) = B := ⟨_, rfl⟩
 rw [h1] at hA1
 have HA1 := Lib.hid hA1
 have H1 := Lib.hid h1
 have eg2 : Ent 181 := enters_of Tryz.func181 (by kernel_rfl) rfl
 have hA2 := fun W (hb : Below w.heap.size w W) (hc : W.cell? ⟨w.heap.size + 1, 9, none⟩ = some (.int .i64 void)) =>
  c_anyRp 181 eg2 #[.pointer (some ⟨w.heap.size + 1, 0, none⟩)] (meansB void) l a cap W (fun V y _ hv => c_means y void _ V (((bcell hv).1 _ _ (cell_lt hc)).trans hc)) (hl.later hb)
 obtain ⟨B2, h2⟩ : ∃ B, l.any (meansB void) = B := ⟨_, rfl⟩
 rw [h2] at hA2
 have HA2 := Lib.hid hA2
 have H2 := Lib.hid h2
 have eg3 : Ent 182 := enters_of Tryz.func182 (by kernel_rfl) rfl
 have hA3 := fun W (hb : Below w.heap.size w W) (hc : W.cell? ⟨w.heap.size + 1, 9, none⟩ = some (.int .i64 void)) =>
  c_anyRp 182 eg3 #[.pointer (some ⟨w.heap.size + 1, 0, none⟩)] (voidsB void) l a cap W (fun V y _ hv => c_voids y void _ V (((bcell hv).1 _ _ (cell_lt hc)).trans hc)) (hl.later hb)
 obtain ⟨B3, h3⟩ : ∃ B, l.any (voidsB void) = B := ⟨_, rfl⟩
 rw [h3] at hA3
 have HA3 := Lib.hid hA3
 have H3 := Lib.hid h3
 clear hA2 h2 hA3 h3
 clear hE hJ hj hA1 h1 hl hs ok
 go_enter Tryz.func116, Tryz.ntmps116
 go_upto_region 1 with (fail)
 go_name_world W1 hW1
 have hb0 : Below w.heap.size w W1 := by subst hW1; go_grown
 obtain ⟨q0, q1, q2, q3⟩ := (show QB m W1 w.heap.size from by subst hW1; and_intros <;> go_simp)
 obtain ⟨r0, r1, r2, r3, r4, r5, r6, r7, r8, r9⟩ := (show RB id known 8 owner sort plc tick low high void W1 (w.heap.size + 1) from by subst hW1; and_intros <;> go_simp)
 clear hW1 
 by_cases hn : 300 ≤ l.length
 ·have hn2 : ¬ ((l.length : Int) < 300) := by omega
  have HN := Lib.hid hn
  clear hn
  go_wp2_with fail
  refine (c_unless_f _ _).mono ?_
  rintro e w2 ⟨rfl, rfl⟩
  go_wp2
  exact ⟨rfl, by rw [← HE.out, follow_eq, if_pos HN.out]; rfl, by have hbz := hb0.size; go_grown⟩
 ·have hn2 : (l.length : Int) < 300 := by omega
  have HN := Lib.hid hn
  clear hn
  go_wp2_with fail
  refine (c_unless_t _ _).mono ?_
  rintro e w2 ⟨rfl, rfl⟩
  by_cases hj0 : J = 0
  ·have hJ2 := HJ.out
   rw [hj0, endV_0] at hJ2
   rw [hj0] at Hj
   have HJ2 := Lib.hid hJ2
   clear hJ2 hj0 HJ
   go_wp2_with fail
   refine (via (w0 := W1) (by go_grown) (HJ2.out _)).mono ?_
   rintro e W2 ⟨rfl, hc, hf, hz, hB⟩
   have zz := cy14 hc q0 q1 q2 q3 r0 r1 r2 r3 r4 r5 r6 r7 r8 r9
   clear q0 q1 q2 q3 r0 r1 r2 r3 r4 r5 r6 r7 r8 r9
   obtain ⟨q0, q1, q2, q3, r0, r1, r2, r3, r4, r5, r6, r7, r8, r9⟩ := zz
   replace hb0 : Below w.heap.size w W2 := bthen hb0 hB
   have hzW2 : W1.heap.size ≤ W2.heap.size := hz
   clear hc hf hB hz
   cases B1
   ·go_wp2_with fail
    refine (via (w0 := W2) (by go_grown) (HA1.out _ hb0 r0)).mono ?_
    rintro e W3 ⟨rfl, hc, hf, hz, hB⟩
    have zz := cy14 hc q0 q1 q2 q3 r0 r1 r2 r3 r4 r5 r6 r7 r8 r9
    clear q0 q1 q2 q3 r0 r1 r2 r3 r4 r5 r6 r7 r8 r9
    obtain ⟨q0, q1, q2, q3, r0, r1, r2, r3, r4, r5, r6, r7, r8, r9⟩ := zz
    replace hb0 : Below w.heap.size w W3 := bthen hb0 hB
    have hzW3 : W2.heap.size ≤ W3.heap.size := hz
    clear hc hf hB hz
    go_wp2_with fail
    refine (c_unless_t _ _).mono ?_
    rintro e w2 ⟨rfl, rfl⟩
    go_upto_region 4 with (fail)
    rcases Nat.eq_zero_or_pos l.length with hz0 | hz0
    ·have hz1 : ((l.length : Int) == 0) = true := beq_iff_eq.2 (by omega)
     have hnil : l = [] := List.length_eq_zero_iff.1 hz0
     have HNL := Lib.hid hnil
     clear hnil hz0
     have kq0 := later_cell q0
     have kq1 := later_cell q1
     have kq2 := later_cell q2
     have kq3 := later_cell q3
     have kr0 := later_cell r0
     have kr1 := later_cell r1
     have kr2 := later_cell r2
     have kr3 := later_cell r3
     have kr4 := later_cell r4
     have kr5 := later_cell r5
     have kr6 := later_cell r6
     have kr7 := later_cell r7
     have kr8 := later_cell r8
     have kr9 := later_cell r9
     refine wp_region_sink 15 W3 (by kernel_rfl) (by kernel_rfl) (Below.refl _ _) ?_
     simp only [List.take_succ_cons, List.take_zero, List.drop_succ_cons, List.drop_zero]
     repeat (go_big_quiet_step (fail))
     refine wpQuiet_nil ?_
     rintro ⟨W4, hB⟩
     dsimp only
     have hc := (bcell hB).1
     have hf := (bcell hB).2
     have hz := hB.size
     clear kq0 kq1 kq2 kq3 kr0 kr1 kr2 kr3 kr4 kr5 kr6 kr7 kr8 kr9
     have zz := cy14 hc q0 q1 q2 q3 r0 r1 r2 r3 r4 r5 r6 r7 r8 r9
     clear q0 q1 q2 q3 r0 r1 r2 r3 r4 r5 r6 r7 r8 r9
     obtain ⟨q0, q1, q2, q3, r0, r1, r2, r3, r4, r5, r6, r7, r8, r9⟩ := zz
     replace hb0 : Below w.heap.size w W4 := bthen hb0 hB
     have hzW4 : W3.heap.size ≤ W4.heap.size := hz
     clear hc hf hB hz
     go_wp2_with fail
     refine (c_unless_t _ _).mono ?_
     rintro e w2 ⟨rfl, rfl⟩
     cases B2
     ·go_wp2_with fail
      refine (via (w0 := W4) (by go_grown) (HA2.out _ hb0 r9)).mono ?_
      rintro e W5 ⟨rfl, hc, hf, hz, hB⟩
      have zz := cy14 hc q0 q1 q2 q3 r0 r1 r2 r3 r4 r5 r6 r7 r8 r9
      clear q0 q1 q2 q3 r0 r1 r2 r3 r4 r5 r6 r7 r8 r9
      obtain ⟨q0, q1, q2, q3, r0, r1, r2, r3, r4, r5, r6, r7, r8, r9⟩ := zz
      replace hb0 : Below w.heap.size w W5 := bthen hb0 hB
      have hzW5 : W4.heap.size ≤ W5.heap.size := hz
      clear hc hf hB hz
      go_wp2_with fail
      refine (c_unless_f _ _).mono ?_
      rintro e w2 ⟨rfl, rfl⟩
      go_wp2
      exact ⟨rfl, by rw [← HE.out, follow_eq, if_neg HN.out, if_neg (show ¬ (judgeE m.f (⟨id, known, 8, owner, sort, plc, tick, low, high, void⟩ : Rp) ≠ 0) from fun h => h Hj.out), if_neg (show ¬ (l.any (fun y => y.id == id) = true) from by rw [H1.out]; decide), if_neg (show ¬ (earlyB l known = true) from by rw [HNL.out, early_nil]; simp), if_pos rfl, if_pos H2.out]; rfl, by have hbz := hb0.size; go_grown⟩
     ·go_wp2_with fail
      refine (via (w0 := W4) (by go_grown) (HA2.out _ hb0 r9)).mono ?_
      rintro e W5 ⟨rfl, hc, hf, hz, hB⟩
      have zz := cy14 hc q0 q1 q2 q3 r0 r1 r2 r3 r4 r5 r6 r7 r8 r9
      clear q0 q1 q2 q3 r0 r1 r2 r3 r4 r5 r6 r7 r8 r9
      obtain ⟨q0, q1, q2, q3, r0, r1, r2, r3, r4, r5, r6, r7, r8, r9⟩ := zz
      replace hb0 : Below w.heap.size w W5 := bthen hb0 hB
      have hzW5 : W4.heap.size ≤ W5.heap.size := hz
      clear hc hf hB hz
      go_wp2_with fail
      refine (c_unless_t _ _).mono ?_
      rintro e w2 ⟨rfl, rfl⟩
      cases B3
      ·go_wp2_with fail
       refine (via (w0 := W5) (by go_grown) (HA3.out _ hb0 r9)).mono ?_
       rintro e W6 ⟨rfl, hc, hf, hz, hB⟩
       have zz := cy14 hc q0 q1 q2 q3 r0 r1 r2 r3 r4 r5 r6 r7 r8 r9
       clear q0 q1 q2 q3 r0 r1 r2 r3 r4 r5 r6 r7 r8 r9
       obtain ⟨q0, q1, q2, q3, r0, r1, r2, r3, r4, r5, r6, r7, r8, r9⟩ := zz
       replace hb0 : Below w.heap.size w W6 := bthen hb0 hB
       have hzW6 : W5.heap.size ≤ W6.heap.size := hz
       clear hc hf hB hz
       go_wp2_with fail
       refine (c_unless_t _ _).mono ?_
       rintro e w2 ⟨rfl, rfl⟩
       go_wp2_with fail
       go_end0
       exact ⟨by rw [← HE.out, follow_eq, if_neg HN.out, if_neg (show ¬ (judgeE m.f (⟨id, known, 8, owner, sort, plc, tick, low, high, void⟩ : Rp) ≠ 0) from fun h => h Hj.out), if_neg (show ¬ (l.any (fun y => y.id == id) = true) from by rw [H1.out]; decide), if_neg (show ¬ (earlyB l known = true) from by rw [HNL.out, early_nil]; simp), if_pos rfl, if_neg (show ¬ (l.any (meansB void) = false) from by rw [H2.out]; decide), if_neg (show ¬ (l.any (voidsB void) = true) from by rw [H3.out]; decide)]; rfl, by have hbz := hb0.size; go_grown⟩
      ·go_wp2_with fail
       refine (via (w0 := W5) (by go_grown) (HA3.out _ hb0 r9)).mono ?_
       rintro e W6 ⟨rfl, hc, hf, hz, hB⟩
       have zz := cy14 hc q0 q1 q2 q3 r0 r1 r2 r3 r4 r5 r6 r7 r8 r9
       clear q0 q1 q2 q3 r0 r1 r2 r3 r4 r5 r6 r7 r8 r9
       obtain ⟨q0, q1, q2, q3, r0, r1, r2, r3, r4, r5, r6, r7, r8, r9⟩ := zz
       replace hb0 : Below w.heap.size w W6 := bthen hb0 hB
       have hzW6 : W5.heap.size ≤ W6.heap.size := hz
       clear hc hf hB hz
       go_wp2_with fail
       refine (c_unless_f _ _).mono ?_
       rintro e w2 ⟨rfl, rfl⟩
       go_wp2
       exact ⟨rfl, by rw [← HE.out, follow_eq, if_neg HN.out, if_neg (show ¬ (judgeE m.f (⟨id, known, 8, owner, sort, plc, tick, low, high, void⟩ : Rp) ≠ 0) from fun h => h Hj.out), if_neg (show ¬ (l.any (fun y => y.id == id) = true) from by rw [H1.out]; decide), if_neg (show ¬ (earlyB l known = true) from by rw [HNL.out, early_nil]; simp), if_pos rfl, if_neg (show ¬ (l.any (meansB void) = false) from by rw [H2.out]; decide), if_pos H3.out]; rfl, by have hbz := hb0.size; go_grown⟩
    ·obtain ⟨z, hz⟩ := some_at (show l.length - 1 < l.length by omega)
     obtain ⟨b, o, rfl, hat⟩ := (HL.out.later hb0).at hz
     obtain ⟨_, z1, _⟩ := rp_cells hat
     have hz1 : ((l.length : Int) == 0) = false := beq_eq_false_iff_ne.2 (by omega)
     obtain ⟨k, hk⟩ : ∃ k, l.length - 1 = k := ⟨_, rfl⟩
     rw [hk] at z1
     have v1 : IntKind.i64.wrap ((l.length : Int) - 1) = (k : Int) := by rw [IntWalk.i64_in _ (by omega)]; omega
     have hk1 : ¬ ((k : Int) < 0) := by omega
     have hk2 : (k : Int) < (l.length : Int) := by omega
     have HZ := Lib.hid (early_last known hz)
     clear hz hat hk hz0
     cases hearly : decide (z.known ≤ known)
     ·have HD := Lib.hid hearly
      have kq0 := later_cell q0
      have kq1 := later_cell q1
      have kq2 := later_cell q2
      have kq3 := later_cell q3
      have kr0 := later_cell r0
      have kr1 := later_cell r1
      have kr2 := later_cell r2
      have kr3 := later_cell r3
      have kr4 := later_cell r4
      have kr5 := later_cell r5
      have kr6 := later_cell r6
      have kr7 := later_cell r7
      have kr8 := later_cell r8
      have kr9 := later_cell r9
      have kz1 := later_cell z1
      refine wp_region_sink 15 W3 (by kernel_rfl) (by kernel_rfl) (Below.refl _ _) ?_
      simp only [List.take_succ_cons, List.take_zero, List.drop_succ_cons, List.drop_zero]
      repeat (go_big_quiet_step (fail))
      refine wpQuiet_nil ?_
      rintro ⟨W4, hB⟩
      dsimp only
      have hc := (bcell hB).1
      have hf := (bcell hB).2
      have hz := hB.size
      clear kq0 kq1 kq2 kq3 kr0 kr1 kr2 kr3 kr4 kr5 kr6 kr7 kr8 kr9 kz1
      have zz := cy15 hc q0 q1 q2 q3 r0 r1 r2 r3 r4 r5 r6 r7 r8 r9 z1
      clear q0 q1 q2 q3 r0 r1 r2 r3 r4 r5 r6 r7 r8 r9 z1
      obtain ⟨q0, q1, q2, q3, r0, r1, r2, r3, r4, r5, r6, r7, r8, r9, z1⟩ := zz
      replace hb0 : Below w.heap.size w W4 := bthen hb0 hB
      have hzW4 : W3.heap.size ≤ W4.heap.size := hz
      clear hc hf hB hz
      go_wp2_with fail
      refine (c_unless_f _ _).mono ?_
      rintro e w2 ⟨rfl, rfl⟩
      go_wp2
      exact ⟨rfl, by rw [← HE.out, follow_eq, if_neg HN.out, if_neg (show ¬ (judgeE m.f (⟨id, known, 8, owner, sort, plc, tick, low, high, void⟩ : Rp) ≠ 0) from fun h => h Hj.out), if_neg (show ¬ (l.any (fun y => y.id == id) = true) from by rw [H1.out]; decide), if_pos (show earlyB l known = true from by rw [HZ.out]; have := HD.out; simp at this; simp; omega)]; rfl, by have hbz := hb0.size; go_grown⟩
     ·have HD := Lib.hid hearly
      have kq0 := later_cell q0
      have kq1 := later_cell q1
      have kq2 := later_cell q2
      have kq3 := later_cell q3
      have kr0 := later_cell r0
      have kr1 := later_cell r1
      have kr2 := later_cell r2
      have kr3 := later_cell r3
      have kr4 := later_cell r4
      have kr5 := later_cell r5
      have kr6 := later_cell r6
      have kr7 := later_cell r7
      have kr8 := later_cell r8
      have kr9 := later_cell r9
      have kz1 := later_cell z1
      refine wp_region_sink 15 W3 (by kernel_rfl) (by kernel_rfl) (Below.refl _ _) ?_
      simp only [List.take_succ_cons, List.take_zero, List.drop_succ_cons, List.drop_zero]
      repeat (go_big_quiet_step (fail))
      refine wpQuiet_nil ?_
      rintro ⟨W4, hB⟩
      dsimp only
      have hc := (bcell hB).1
      have hf := (bcell hB).2
      have hz := hB.size
      clear kq0 kq1 kq2 kq3 kr0 kr1 kr2 kr3 kr4 kr5 kr6 kr7 kr8 kr9 kz1
      have zz := cy15 hc q0 q1 q2 q3 r0 r1 r2 r3 r4 r5 r6 r7 r8 r9 z1
      clear q0 q1 q2 q3 r0 r1 r2 r3 r4 r5 r6 r7 r8 r9 z1
      obtain ⟨q0, q1, q2, q3, r0, r1, r2, r3, r4, r5, r6, r7, r8, r9, z1⟩ := zz
      replace hb0 : Below w.heap.size w W4 := bthen hb0 hB
      have hzW4 : W3.heap.size ≤ W4.heap.size := hz
      clear hc hf hB hz
      go_wp2_with fail
      refine (c_unless_t _ _).mono ?_
      rintro e w2 ⟨rfl, rfl⟩
      cases B2
      ·go_wp2_with fail
       refine (via (w0 := W4) (by go_grown) (HA2.out _ hb0 r9)).mono ?_
       rintro e W5 ⟨rfl, hc, hf, hz, hB⟩
       have zz := cy15 hc q0 q1 q2 q3 r0 r1 r2 r3 r4 r5 r6 r7 r8 r9 z1
       clear q0 q1 q2 q3 r0 r1 r2 r3 r4 r5 r6 r7 r8 r9 z1
       obtain ⟨q0, q1, q2, q3, r0, r1, r2, r3, r4, r5, r6, r7, r8, r9, z1⟩ := zz
       replace hb0 : Below w.heap.size w W5 := bthen hb0 hB
       have hzW5 : W4.heap.size ≤ W5.heap.size := hz
       clear hc hf hB hz
       go_wp2_with fail
       refine (c_unless_f _ _).mono ?_
       rintro e w2 ⟨rfl, rfl⟩
       go_wp2
       exact ⟨rfl, by rw [← HE.out, follow_eq, if_neg HN.out, if_neg (show ¬ (judgeE m.f (⟨id, known, 8, owner, sort, plc, tick, low, high, void⟩ : Rp) ≠ 0) from fun h => h Hj.out), if_neg (show ¬ (l.any (fun y => y.id == id) = true) from by rw [H1.out]; decide), if_neg (show ¬ (earlyB l known = true) from by rw [HZ.out]; have := HD.out; simp at this; simp; omega), if_pos rfl, if_pos H2.out]; rfl, by have hbz := hb0.size; go_grown⟩
      ·go_wp2_with fail
       refine (via (w0 := W4) (by go_grown) (HA2.out _ hb0 r9)).mono ?_
       rintro e W5 ⟨rfl, hc, hf, hz, hB⟩
       have zz := cy15 hc q0 q1 q2 q3 r0 r1 r2 r3 r4 r5 r6 r7 r8 r9 z1
       clear q0 q1 q2 q3 r0 r1 r2 r3 r4 r5 r6 r7 r8 r9 z1
       obtain ⟨q0, q1, q2, q3, r0, r1, r2, r3, r4, r5, r6, r7, r8, r9, z1⟩ := zz
       replace hb0 : Below w.heap.size w W5 := bthen hb0 hB
       have hzW5 : W4.heap.size ≤ W5.heap.size := hz
       clear hc hf hB hz
       go_wp2_with fail
       refine (c_unless_t _ _).mono ?_
       rintro e w2 ⟨rfl, rfl⟩
       cases B3
       ·go_wp2_with fail
        refine (via (w0 := W5) (by go_grown) (HA3.out _ hb0 r9)).mono ?_
        rintro e W6 ⟨rfl, hc, hf, hz, hB⟩
        have zz := cy15 hc q0 q1 q2 q3 r0 r1 r2 r3 r4 r5 r6 r7 r8 r9 z1
        clear q0 q1 q2 q3 r0 r1 r2 r3 r4 r5 r6 r7 r8 r9 z1
        obtain ⟨q0, q1, q2, q3, r0, r1, r2, r3, r4, r5, r6, r7, r8, r9, z1⟩ := zz
        replace hb0 : Below w.heap.size w W6 := bthen hb0 hB
        have hzW6 : W5.heap.size ≤ W6.heap.size := hz
        clear hc hf hB hz
        go_wp2_with fail
        refine (c_unless_t _ _).mono ?_
        rintro e w2 ⟨rfl, rfl⟩
        go_wp2_with fail
        go_end0
        exact ⟨by rw [← HE.out, follow_eq, if_neg HN.out, if_neg (show ¬ (judgeE m.f (⟨id, known, 8, owner, sort, plc, tick, low, high, void⟩ : Rp) ≠ 0) from fun h => h Hj.out), if_neg (show ¬ (l.any (fun y => y.id == id) = true) from by rw [H1.out]; decide), if_neg (show ¬ (earlyB l known = true) from by rw [HZ.out]; have := HD.out; simp at this; simp; omega), if_pos rfl, if_neg (show ¬ (l.any (meansB void) = false) from by rw [H2.out]; decide), if_neg (show ¬ (l.any (voidsB void) = true) from by rw [H3.out]; decide)]; rfl, by have hbz := hb0.size; go_grown⟩
       ·go_wp2_with fail
        refine (via (w0 := W5) (by go_grown) (HA3.out _ hb0 r9)).mono ?_
        rintro e W6 ⟨rfl, hc, hf, hz, hB⟩
        have zz := cy15 hc q0 q1 q2 q3 r0 r1 r2 r3 r4 r5 r6 r7 r8 r9 z1
        clear q0 q1 q2 q3 r0 r1 r2 r3 r4 r5 r6 r7 r8 r9 z1
        obtain ⟨q0, q1, q2, q3, r0, r1, r2, r3, r4, r5, r6, r7, r8, r9, z1⟩ := zz
        replace hb0 : Below w.heap.size w W6 := bthen hb0 hB
        have hzW6 : W5.heap.size ≤ W6.heap.size := hz
        clear hc hf hB hz
        go_wp2_with fail
        refine (c_unless_f _ _).mono ?_
        rintro e w2 ⟨rfl, rfl⟩
        go_wp2
        exact ⟨rfl, by rw [← HE.out, follow_eq, if_neg HN.out, if_neg (show ¬ (judgeE m.f (⟨id, known, 8, owner, sort, plc, tick, low, high, void⟩ : Rp) ≠ 0) from fun h => h Hj.out), if_neg (show ¬ (l.any (fun y => y.id == id) = true) from by rw [H1.out]; decide), if_neg (show ¬ (earlyB l known = true) from by rw [HZ.out]; have := HD.out; simp at this; simp; omega), if_pos rfl, if_neg (show ¬ (l.any (meansB void) = false) from by rw [H2.out]; decide), if_pos H3.out]; rfl, by have hbz := hb0.size; go_grown⟩
   ·go_wp2_with fail
    refine (via (w0 := W2) (by go_grown) (HA1.out _ hb0 r0)).mono ?_
    rintro e W3 ⟨rfl, hc, hf, hz, hB⟩
    have zz := cy14 hc q0 q1 q2 q3 r0 r1 r2 r3 r4 r5 r6 r7 r8 r9
    clear q0 q1 q2 q3 r0 r1 r2 r3 r4 r5 r6 r7 r8 r9
    obtain ⟨q0, q1, q2, q3, r0, r1, r2, r3, r4, r5, r6, r7, r8, r9⟩ := zz
    replace hb0 : Below w.heap.size w W3 := bthen hb0 hB
    have hzW3 : W2.heap.size ≤ W3.heap.size := hz
    clear hc hf hB hz
    go_wp2_with fail
    refine (c_unless_f _ _).mono ?_
    rintro e w2 ⟨rfl, rfl⟩
    go_wp2
    exact ⟨rfl, by rw [← HE.out, follow_eq, if_neg HN.out, if_neg (show ¬ (judgeE m.f (⟨id, known, 8, owner, sort, plc, tick, low, high, void⟩ : Rp) ≠ 0) from fun h => h Hj.out), if_pos H1.out]; rfl, by have hbz := hb0.size; go_grown⟩
  ·have hJ2 := HJ.out
   rw [endV_no hj0] at hJ2
   have HJ2 := Lib.hid hJ2
   have HJ0 := Lib.hid hj0
   clear hJ2 hj0 HJ
   go_wp2_with fail
   refine (via (w0 := W1) (by go_grown) (HJ2.out _)).mono ?_
   rintro e W2 ⟨rfl, hc, hf, hz, hB⟩
   have zz := cy14 hc q0 q1 q2 q3 r0 r1 r2 r3 r4 r5 r6 r7 r8 r9
   clear q0 q1 q2 q3 r0 r1 r2 r3 r4 r5 r6 r7 r8 r9
   obtain ⟨q0, q1, q2, q3, r0, r1, r2, r3, r4, r5, r6, r7, r8, r9⟩ := zz
   replace hb0 : Below w.heap.size w W2 := bthen hb0 hB
   have hzW2 : W1.heap.size ≤ W2.heap.size := hz
   clear hc hf hB hz
   go_wp2
   exact ⟨rfl, by rw [← HE.out, follow_eq, if_neg HN.out, if_pos (show judgeE m.f (⟨id, known, 8, owner, sort, plc, tick, low, high, void⟩ : Rp) ≠ 0 from fun h => HJ0.out (Hj.out.symm.trans h)), Hj.out, endV_no HJ0.out], by have hbz := hb0.size; go_grown⟩
theorem c_follow_o (m : Fm) (l : List Rp) (a : Option Addr) (cap : Nat) (id known kind owner plc tick low high void : Int) (sort : ByteArray) (w : World) (hs : Small m.f) (ok : RpOk (⟨id, known, kind, owner, sort, plc, tick, low, high, void⟩ : Rp)) (hl : Rps w a l) (n8 : ¬ kind = 8) :
  Calls Tryz.prog 116 #[m.v, .slice a l.length cap, (⟨id, known, kind, owner, sort, plc, tick, low, high, void⟩ : Rp).v] w fun e w' => e = endV (followE m.f l (⟨id, known, kind, owner, sort, plc, tick, low, high, void⟩ : Rp)) ∧ Below w.heap.size w w' := by
 have hmf : ∀ (fn : Fn) (first cap : Array Value) (w : World), (Instr.makeFunc fn first cap).run Tryz.prog w = .ok (.func fn first cap) w := fun _ _ _ _ => rfl
 obtain ⟨E, hE⟩ : ∃ E, followE m.f l (⟨id, known, kind, owner, sort, plc, tick, low, high, void⟩ : Rp) = E := ⟨_, rfl⟩
 rw [hE]
 have HE := Lib.hid hE
 have hlen := hl.1
 have hJ := fun W => c_judge m (⟨id, known, kind, owner, sort, plc, tick, low, high, void⟩ : Rp) W hs ok
 obtain ⟨J, hj⟩ : ∃ J, judgeE m.f (⟨id, known, kind, owner, sort, plc, tick, low, high, void⟩ : Rp) = J := ⟨_, rfl⟩
 rw [hj] at hJ
 have HJ := Lib.hid hJ
 have Hj := Lib.hid hj
 have HL := Lib.hid hl
 have eg1 : Ent 180 := enters_of Tryz.func180 (by kernel_rfl) rfl
 have hA1 := fun W (hb : Below w.heap.size w W) (hc : W.cell? ⟨w.heap.size + 1, 0, none⟩ = some (.int .i64 id)) =>
  c_anyRp 180 eg1 #[.pointer (some ⟨w.heap.size + 1, 0, none⟩)] (fun y => y.id == id) l a cap W (fun V y _ hv => c_sameId y id _ V (((bcell hv).1 _ _ (cell_lt hc)).trans hc)) (hl.later hb)
 obtain ⟨B1, h1⟩ : ∃ B, l.any (fun y => y.id == id) = B := ⟨_, rfl⟩
 rw [h1] at hA1
 have HA1 := Lib.hid hA1
 have H1 := Lib.hid h1
 have N8 := Lib.hid n8
 have e8 : (kind == 8) = false := beq_eq_false_iff_ne.2 n8
 clear n8
 clear hE hJ hj hA1 h1 hl hs ok
 go_enter Tryz.func116, Tryz.ntmps116
 go_upto_region 1 with (fail)
 go_name_world W1 hW1
 have hb0 : Below w.heap.size w W1 := by subst hW1; go_grown
 obtain ⟨q0, q1, q2, q3⟩ := (show QB m W1 w.heap.size from by subst hW1; and_intros <;> go_simp)
 obtain ⟨r0, r1, r2, r3, r4, r5, r6, r7, r8, r9⟩ := (show RB id known kind owner sort plc tick low high void W1 (w.heap.size + 1) from by subst hW1; and_intros <;> go_simp)
 clear hW1 
 by_cases hn : 300 ≤ l.length
 ·have hn2 : ¬ ((l.length : Int) < 300) := by omega
  have HN := Lib.hid hn
  clear hn
  go_wp2_with fail
  refine (c_unless_f _ _).mono ?_
  rintro e w2 ⟨rfl, rfl⟩
  go_wp2
  exact ⟨rfl, by rw [← HE.out, follow_eq, if_pos HN.out]; rfl, by have hbz := hb0.size; go_grown⟩
 ·have hn2 : (l.length : Int) < 300 := by omega
  have HN := Lib.hid hn
  clear hn
  go_wp2_with fail
  refine (c_unless_t _ _).mono ?_
  rintro e w2 ⟨rfl, rfl⟩
  by_cases hj0 : J = 0
  ·have hJ2 := HJ.out
   rw [hj0, endV_0] at hJ2
   rw [hj0] at Hj
   have HJ2 := Lib.hid hJ2
   clear hJ2 hj0 HJ
   go_wp2_with fail
   refine (via (w0 := W1) (by go_grown) (HJ2.out _)).mono ?_
   rintro e W2 ⟨rfl, hc, hf, hz, hB⟩
   have zz := cy14 hc q0 q1 q2 q3 r0 r1 r2 r3 r4 r5 r6 r7 r8 r9
   clear q0 q1 q2 q3 r0 r1 r2 r3 r4 r5 r6 r7 r8 r9
   obtain ⟨q0, q1, q2, q3, r0, r1, r2, r3, r4, r5, r6, r7, r8, r9⟩ := zz
   replace hb0 : Below w.heap.size w W2 := bthen hb0 hB
   have hzW2 : W1.heap.size ≤ W2.heap.size := hz
   clear hc hf hB hz
   cases B1
   ·go_wp2_with fail
    refine (via (w0 := W2) (by go_grown) (HA1.out _ hb0 r0)).mono ?_
    rintro e W3 ⟨rfl, hc, hf, hz, hB⟩
    have zz := cy14 hc q0 q1 q2 q3 r0 r1 r2 r3 r4 r5 r6 r7 r8 r9
    clear q0 q1 q2 q3 r0 r1 r2 r3 r4 r5 r6 r7 r8 r9
    obtain ⟨q0, q1, q2, q3, r0, r1, r2, r3, r4, r5, r6, r7, r8, r9⟩ := zz
    replace hb0 : Below w.heap.size w W3 := bthen hb0 hB
    have hzW3 : W2.heap.size ≤ W3.heap.size := hz
    clear hc hf hB hz
    go_wp2_with fail
    refine (c_unless_t _ _).mono ?_
    rintro e w2 ⟨rfl, rfl⟩
    go_upto_region 4 with (fail)
    rcases Nat.eq_zero_or_pos l.length with hz0 | hz0
    ·have hz1 : ((l.length : Int) == 0) = true := beq_iff_eq.2 (by omega)
     have hnil : l = [] := List.length_eq_zero_iff.1 hz0
     have HNL := Lib.hid hnil
     clear hnil hz0
     have kq0 := later_cell q0
     have kq1 := later_cell q1
     have kq2 := later_cell q2
     have kq3 := later_cell q3
     have kr0 := later_cell r0
     have kr1 := later_cell r1
     have kr2 := later_cell r2
     have kr3 := later_cell r3
     have kr4 := later_cell r4
     have kr5 := later_cell r5
     have kr6 := later_cell r6
     have kr7 := later_cell r7
     have kr8 := later_cell r8
     have kr9 := later_cell r9
     refine wp_region_sink 15 W3 (by kernel_rfl) (by kernel_rfl) (Below.refl _ _) ?_
     simp only [List.take_succ_cons, List.take_zero, List.drop_succ_cons, List.drop_zero]
     repeat (go_big_quiet_step (fail))
     refine wpQuiet_nil ?_
     rintro ⟨W4, hB⟩
     dsimp only
     have hc := (bcell hB).1
     have hf := (bcell hB).2
     have hz := hB.size
     clear kq0 kq1 kq2 kq3 kr0 kr1 kr2 kr3 kr4 kr5 kr6 kr7 kr8 kr9
     have zz := cy14 hc q0 q1 q2 q3 r0 r1 r2 r3 r4 r5 r6 r7 r8 r9
     clear q0 q1 q2 q3 r0 r1 r2 r3 r4 r5 r6 r7 r8 r9
     obtain ⟨q0, q1, q2, q3, r0, r1, r2, r3, r4, r5, r6, r7, r8, r9⟩ := zz
     replace hb0 : Below w.heap.size w W4 := bthen hb0 hB
     have hzW4 : W3.heap.size ≤ W4.heap.size := hz
     clear hc hf hB hz
     go_wp2_with fail
     refine (c_unless_t _ _).mono ?_
     rintro e w2 ⟨rfl, rfl⟩
     go_wp2_with fail
     go_end0
     exact ⟨by rw [← HE.out, follow_eq, if_neg HN.out, if_neg (show ¬ (judgeE m.f (⟨id, known, kind, owner, sort, plc, tick, low, high, void⟩ : Rp) ≠ 0) from fun h => h Hj.out), if_neg (show ¬ (l.any (fun y => y.id == id) = true) from by rw [H1.out]; decide), if_neg (show ¬ (earlyB l known = true) from by rw [HNL.out, early_nil]; simp), if_neg N8.out]; rfl, by have hbz := hb0.size; go_grown⟩
    ·obtain ⟨z, hz⟩ := some_at (show l.length - 1 < l.length by omega)
     obtain ⟨b, o, rfl, hat⟩ := (HL.out.later hb0).at hz
     obtain ⟨_, z1, _⟩ := rp_cells hat
     have hz1 : ((l.length : Int) == 0) = false := beq_eq_false_iff_ne.2 (by omega)
     obtain ⟨k, hk⟩ : ∃ k, l.length - 1 = k := ⟨_, rfl⟩
     rw [hk] at z1
     have v1 : IntKind.i64.wrap ((l.length : Int) - 1) = (k : Int) := by rw [IntWalk.i64_in _ (by omega)]; omega
     have hk1 : ¬ ((k : Int) < 0) := by omega
     have hk2 : (k : Int) < (l.length : Int) := by omega
     have HZ := Lib.hid (early_last known hz)
     clear hz hat hk hz0
     cases hearly : decide (z.known ≤ known)
     ·have HD := Lib.hid hearly
      have kq0 := later_cell q0
      have kq1 := later_cell q1
      have kq2 := later_cell q2
      have kq3 := later_cell q3
      have kr0 := later_cell r0
      have kr1 := later_cell r1
      have kr2 := later_cell r2
      have kr3 := later_cell r3
      have kr4 := later_cell r4
      have kr5 := later_cell r5
      have kr6 := later_cell r6
      have kr7 := later_cell r7
      have kr8 := later_cell r8
      have kr9 := later_cell r9
      have kz1 := later_cell z1
      refine wp_region_sink 15 W3 (by kernel_rfl) (by kernel_rfl) (Below.refl _ _) ?_
      simp only [List.take_succ_cons, List.take_zero, List.drop_succ_cons, List.drop_zero]
      repeat (go_big_quiet_step (fail))
      refine wpQuiet_nil ?_
      rintro ⟨W4, hB⟩
      dsimp only
      have hc := (bcell hB).1
      have hf := (bcell hB).2
      have hz := hB.size
      clear kq0 kq1 kq2 kq3 kr0 kr1 kr2 kr3 kr4 kr5 kr6 kr7 kr8 kr9 kz1
      have zz := cy15 hc q0 q1 q2 q3 r0 r1 r2 r3 r4 r5 r6 r7 r8 r9 z1
      clear q0 q1 q2 q3 r0 r1 r2 r3 r4 r5 r6 r7 r8 r9 z1
      obtain ⟨q0, q1, q2, q3, r0, r1, r2, r3, r4, r5, r6, r7, r8, r9, z1⟩ := zz
      replace hb0 : Below w.heap.size w W4 := bthen hb0 hB
      have hzW4 : W3.heap.size ≤ W4.heap.size := hz
      clear hc hf hB hz
      go_wp2_with fail
      refine (c_unless_f _ _).mono ?_
      rintro e w2 ⟨rfl, rfl⟩
      go_wp2
      exact ⟨rfl, by rw [← HE.out, follow_eq, if_neg HN.out, if_neg (show ¬ (judgeE m.f (⟨id, known, kind, owner, sort, plc, tick, low, high, void⟩ : Rp) ≠ 0) from fun h => h Hj.out), if_neg (show ¬ (l.any (fun y => y.id == id) = true) from by rw [H1.out]; decide), if_pos (show earlyB l known = true from by rw [HZ.out]; have := HD.out; simp at this; simp; omega)]; rfl, by have hbz := hb0.size; go_grown⟩
     ·have HD := Lib.hid hearly
      have kq0 := later_cell q0
      have kq1 := later_cell q1
      have kq2 := later_cell q2
      have kq3 := later_cell q3
      have kr0 := later_cell r0
      have kr1 := later_cell r1
      have kr2 := later_cell r2
      have kr3 := later_cell r3
      have kr4 := later_cell r4
      have kr5 := later_cell r5
      have kr6 := later_cell r6
      have kr7 := later_cell r7
      have kr8 := later_cell r8
      have kr9 := later_cell r9
      have kz1 := later_cell z1
      refine wp_region_sink 15 W3 (by kernel_rfl) (by kernel_rfl) (Below.refl _ _) ?_
      simp only [List.take_succ_cons, List.take_zero, List.drop_succ_cons, List.drop_zero]
      repeat (go_big_quiet_step (fail))
      refine wpQuiet_nil ?_
      rintro ⟨W4, hB⟩
      dsimp only
      have hc := (bcell hB).1
      have hf := (bcell hB).2
      have hz := hB.size
      clear kq0 kq1 kq2 kq3 kr0 kr1 kr2 kr3 kr4 kr5 kr6 kr7 kr8 kr9 kz1
      have zz := cy15 hc q0 q1 q2 q3 r0 r1 r2 r3 r4 r5 r6 r7 r8 r9 z1
      clear q0 q1 q2 q3 r0 r1 r2 r3 r4 r5 r6 r7 r8 r9 z1
      obtain ⟨q0, q1, q2, q3, r0, r1, r2, r3, r4, r5, r6, r7, r8, r9, z1⟩ := zz
      replace hb0 : Below w.heap.size w W4 := bthen hb0 hB
      have hzW4 : W3.heap.size ≤ W4.heap.size := hz
      clear hc hf hB hz
      go_wp2_with fail
      refine (c_unless_t _ _).mono ?_
      rintro e w2 ⟨rfl, rfl⟩
      go_wp2_with fail
      go_end0
      exact ⟨by rw [← HE.out, follow_eq, if_neg HN.out, if_neg (show ¬ (judgeE m.f (⟨id, known, kind, owner, sort, plc, tick, low, high, void⟩ : Rp) ≠ 0) from fun h => h Hj.out), if_neg (show ¬ (l.any (fun y => y.id == id) = true) from by rw [H1.out]; decide), if_neg (show ¬ (earlyB l known = true) from by rw [HZ.out]; have := HD.out; simp at this; simp; omega), if_neg N8.out]; rfl, by have hbz := hb0.size; go_grown⟩
   ·go_wp2_with fail
    refine (via (w0 := W2) (by go_grown) (HA1.out _ hb0 r0)).mono ?_
    rintro e W3 ⟨rfl, hc, hf, hz, hB⟩
    have zz := cy14 hc q0 q1 q2 q3 r0 r1 r2 r3 r4 r5 r6 r7 r8 r9
    clear q0 q1 q2 q3 r0 r1 r2 r3 r4 r5 r6 r7 r8 r9
    obtain ⟨q0, q1, q2, q3, r0, r1, r2, r3, r4, r5, r6, r7, r8, r9⟩ := zz
    replace hb0 : Below w.heap.size w W3 := bthen hb0 hB
    have hzW3 : W2.heap.size ≤ W3.heap.size := hz
    clear hc hf hB hz
    go_wp2_with fail
    refine (c_unless_f _ _).mono ?_
    rintro e w2 ⟨rfl, rfl⟩
    go_wp2
    exact ⟨rfl, by rw [← HE.out, follow_eq, if_neg HN.out, if_neg (show ¬ (judgeE m.f (⟨id, known, kind, owner, sort, plc, tick, low, high, void⟩ : Rp) ≠ 0) from fun h => h Hj.out), if_pos H1.out]; rfl, by have hbz := hb0.size; go_grown⟩
  ·have hJ2 := HJ.out
   rw [endV_no hj0] at hJ2
   have HJ2 := Lib.hid hJ2
   have HJ0 := Lib.hid hj0
   clear hJ2 hj0 HJ
   go_wp2_with fail
   refine (via (w0 := W1) (by go_grown) (HJ2.out _)).mono ?_
   rintro e W2 ⟨rfl, hc, hf, hz, hB⟩
   have zz := cy14 hc q0 q1 q2 q3 r0 r1 r2 r3 r4 r5 r6 r7 r8 r9
   clear q0 q1 q2 q3 r0 r1 r2 r3 r4 r5 r6 r7 r8 r9
   obtain ⟨q0, q1, q2, q3, r0, r1, r2, r3, r4, r5, r6, r7, r8, r9⟩ := zz
   replace hb0 : Below w.heap.size w W2 := bthen hb0 hB
   have hzW2 : W1.heap.size ≤ W2.heap.size := hz
   clear hc hf hB hz
   go_wp2
   exact ⟨rfl, by rw [← HE.out, follow_eq, if_neg HN.out, if_pos (show judgeE m.f (⟨id, known, kind, owner, sort, plc, tick, low, high, void⟩ : Rp) ≠ 0 from fun h => HJ0.out (Hj.out.symm.trans h)), Hj.out, endV_no HJ0.out], by have hbz := hb0.size; go_grown⟩
end Go.Proofs.YtlppdgaogdpajaaGreatDoor
