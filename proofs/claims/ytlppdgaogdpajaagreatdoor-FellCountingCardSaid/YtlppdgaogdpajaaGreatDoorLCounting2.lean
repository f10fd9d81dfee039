/- This text is a part of the proof: RefNames, RefCheck, RefReport. -/
import Derived.Test.YtlppdgaogdpajaaGreatDoorLCounting1
set_option maxRecDepth 100000
set_option maxHeartbeats 4000000
namespace Go.Proofs.YtlppdgaogdpajaaGreatDoor
open Go.RowKit Go.Shelf
attribute [local go_sem] Oper.semAt_some
theorem drop_some {α : Type} {l : List α} {k : Nat} {x : α} (h : l[k]? = some x) : l.drop k = x :: l.drop (k + 1) := by
 obtain ⟨hk, rfl⟩ := List.getElem?_eq_some_iff.1 h
 exact List.drop_eq_getElem_cons hk
theorem refTwice_step {l : List ByteArray} {k : Nat} {s : ByteArray} (h : l[k]? = some s) : refTwice l (k + 1) = (refTwice l k || decide (idxS l s < k)) := by
 rw [refTwice, h]
theorem refTwice_mono {l : List ByteArray} {k : Nat} (h : refTwice l k = true) : ∀ {n : Nat}, k ≤ n → refTwice l n = true
 | 0, hk => by
  obtain rfl : k = 0 := by omega
  exact h
 | n + 1, hk => by
  by_cases e : k = n + 1
  ·subst e; exact h
  ·rw [refTwice, refTwice_mono h (by omega), Bool.true_or]
theorem c_rNames (m : Fm) (w : World) (hm : m.In w) : Calls Tryz.prog 110 #[m.v] w fun e w' => (∃ b1 c1 b2 c2, e = .returned (.tuple #[.slice b1 (plNames m.f.places).length c1, .slice b2 (gtNames m.f.gates).length c2]) ∧ Strs w' b1 (plNames m.f.places) ∧ Strs w' b2 (gtNames m.f.gates)) ∧ Below w.heap.size w w' := by
 have HM := Lib.hid hm
 have hlp := hm.pl.1
 have hlg := hm.gt.1
 obtain ⟨i0, hi0, hz0, hz1, hz2⟩ := info_parts str_info
 clear hm
 go_enter Tryz.func110, Tryz.ntmps110
 go_upto_region 1 with (fail)
 go_name_world W1 hW1
 have hb0 : Below w.heap.size w W1 := by subst hW1; go_grown
 obtain ⟨q0, q1, q2, q3⟩ := (show QB m W1 w.heap.size from by subst hW1; and_intros <;> go_simp)
 clear hW1 
 have HQ1 := Lib.hid (show CellsAt W1 w.heap.size 0 (feC m) from cells_4 q0 q1 q2 q3)
 have HB1 := Lib.hid hb0
 clear q0 q1 q2 q3 hb0
 go_wp2
 go_loopw [4, 6] (fun v4 v6 wr => ∃ k : Nat, k ≤ m.f.places.length ∧ v6 = .int .i64 k ∧ wr.ownsRow W1.heap.size 9 1 v4 (plNames (m.f.places.take k)).length (cellsL strC (plNames (m.f.places.take k))) ∧ Below W1.heap.size W1 wr) (fun _ v6 _ => m.f.places.length - (intOf v6).toNat)
 case atStart => exact ⟨0, by omega, rfl, own_nil _ _ _ _, Below.refl _ _⟩
 case round =>
  obtain ⟨k, hk, rfl, hown, hb⟩ := hrel
  have HO := Lib.hid hown
  clear hown
  obtain ⟨q0, q1, q2, q3⟩ := fe_cells (HQ1.out.later hb)
  clear q0 q1
  have hbw := bthen HB1.out hb
  have hzb := hb.size
  by_cases hlt : k < m.f.places.length
  ·obtain ⟨x, hx⟩ := some_at hlt
   obtain ⟨b, o, hpa, hat⟩ := (HM.out.later hbw).pl.at hx
   have y0 := (pl_cells hat).1
   have hlk : (plNames (m.f.places.take k)).length ≤ k := by unfold plNames; rw [List.length_map]; exact List.length_take_le _ _
   have HX := Lib.hid (pl_take hx)
   have hi1 : ¬ (k : Int) < 0 := by omega
   have hi2 : (k : Int) < (m.f.places.length : Int) := by omega
   rw [hpa] at q2
   clear hat hx hpa hbw q3
   go_wp2_with (at_builtin; refine stuckHere ?_)
   refine unHid ?_
   refine wpList_append_own_at _ rfl _ _ 93 rfl W1.heap.size 9 i0 _ 1 16 Tryz.underlying93 hi0 hz0 hz1 hz2 rfl (by decide) _ _ _ rfl (HO.out.alloc _) ⟨_, 0, none⟩ 1 1 [.string x.name] rfl rfl (cells_new _ #[_] _) (by simp [Value.oneCell']) (by unfold maxLen; omega) (by omega) (by simp; omega) ?_
   intro v' w1 hown' hgrow _ hat
   have hown2 : w1.ownsRow W1.heap.size 9 1 v' (plNames (m.f.places.take (k + 1))).length (cellsL strC (plNames (m.f.places.take (k + 1)))) := by
    rw [HX.out, cellsL_snoc, List.length_append]
    exact hown'
   have hbb : Below W1.heap.size W1 w1 := (hb.alloc hb.size _).trans ((kept_of_grown hgrow).below (by simp; omega) (fun j hj => (HO.out.lt j hj).1))
   have HB := Lib.hid hbb
   have HW2 := Lib.hid hown2
   clear hown' hgrow hat hown2 hbb hb q2 y0
   go_wp2
   go_roundw
   case rel => exact ⟨k + 1, by omega, by go_num, HW2.out, HB.out⟩
   case measure => simp [intOf]; omega
  ·obtain rfl : k = m.f.places.length := by omega
   have hi2 : ¬ (m.f.places.length : Int) < (m.f.places.length : Int) := by omega
   have hown := HO.out
   rw [List.take_length] at hown
   obtain ⟨b1, c1, rfl, hcap, _, hr, hnew⟩ := Lst.own strC_len hown
   have hr' := hr (by unfold plNames; rw [List.length_map]; omega)
   have HR1 := Lib.hid hr'
   clear hcap hnew hr hr' hown HO
   have HQ2 := Lib.hid (HQ1.out.later hb)
   have HB2 := Lib.hid hbw
   clear hb hbw hzb
   go_wp2
   clear q2 q3
   obtain ⟨W7, h7⟩ : ∃ x, x = wr := ⟨_, rfl⟩
   subst h7
   go_loopw [5, 7] (fun v5 v7 wr => ∃ k : Nat, k ≤ m.f.gates.length ∧ v7 = .int .i64 k ∧ wr.ownsRow W7.heap.size 9 1 v5 (gtNames (m.f.gates.take k)).length (cellsL strC (gtNames (m.f.gates.take k))) ∧ Below W7.heap.size W7 wr) (fun _ v7 _ => m.f.gates.length - (intOf v7).toNat)
   case atStart => exact ⟨0, by omega, rfl, own_nil _ _ _ _, Below.refl _ _⟩
   case round =>
    obtain ⟨k, hk, rfl, hown, hb⟩ := hrel
    have HO := Lib.hid hown
    clear hown
    obtain ⟨q0, q1, q2, q3⟩ := fe_cells (HQ2.out.later hb)
    clear q0 q1
    have hbw := bthen HB2.out hb
    have hzb := hb.size
    by_cases hlt : k < m.f.gates.length
    ·obtain ⟨x, hx⟩ := some_at hlt
     obtain ⟨b, o, hpa, hat⟩ := (HM.out.later hbw).gt.at hx
     have y0 := (gt_cells hat).1
     have hlk : (gtNames (m.f.gates.take k)).length ≤ k := by unfold gtNames; rw [List.length_map]; exact List.length_take_le _ _
     have HX := Lib.hid (gt_take hx)
     have hi1 : ¬ (k : Int) < 0 := by omega
     have hi2 : (k : Int) < (m.f.gates.length : Int) := by omega
     rw [hpa] at q3
     clear hat hx hpa hbw q2
     go_wp2_with (at_builtin; refine stuckHere ?_)
     refine unHid ?_
     refine wpList_append_own_at _ rfl _ _ 93 rfl W7.heap.size 9 i0 _ 1 16 Tryz.underlying93 hi0 hz0 hz1 hz2 rfl (by decide) _ _ _ rfl (HO.out.alloc _) ⟨_, 0, none⟩ 1 1 [.string x.name] rfl rfl (cells_new _ #[_] _) (by simp [Value.oneCell']) (by unfold maxLen; omega) (by omega) (by simp; omega) ?_
     intro v' w1 hown' hgrow _ hat
     have hown2 : w1.ownsRow W7.heap.size 9 1 v' (gtNames (m.f.gates.take (k + 1))).length (cellsL strC (gtNames (m.f.gates.take (k + 1)))) := by
      rw [HX.out, cellsL_snoc, List.length_append]
      exact hown'
     have hbb : Below W7.heap.size W7 w1 := (hb.alloc hb.size _).trans ((kept_of_grown hgrow).below (by simp; omega) (fun j hj => (HO.out.lt j hj).1))
     have HB := Lib.hid hbb
     have HW2 := Lib.hid hown2
     clear hown' hgrow hat hown2 hbb hb q3 y0
     go_wp2
     go_roundw
     case rel => exact ⟨k + 1, by omega, by go_num, HW2.out, HB.out⟩
     case measure => simp [intOf]; omega
    ·obtain rfl : k = m.f.gates.length := by omega
     have hi2 : ¬ (m.f.gates.length : Int) < (m.f.gates.length : Int) := by omega
     have hown := HO.out
     rw [List.take_length] at hown
     obtain ⟨b2, c2, rfl, hcap, _, hr, hnew⟩ := Lst.own strC_len hown
     have hr' := hr (by unfold gtNames; rw [List.length_map]; omega)
     have HR2 := Lib.hid hr'
     clear hcap hnew hr hr' hown HO
     have HR3 := Lib.hid (HR1.out.later hb)
     go_wp2
     go_ret2
     exact ⟨⟨_, _, _, ⟨_, rfl⟩, HR3.out, HR2.out⟩, hbw⟩
 
theorem c_rNamed (l : List ByteArray) (a : Option Addr) (cap : Nat) (w : World) (hl : Strs w a l) (hs : ∀ s ∈ l, s.size ≤ 1000000) :
  Calls Tryz.prog 111 #[.slice a l.length cap] w fun e w' => e = .returned (.bool (l.all nameB)) ∧ Below w.heap.size w w' := by
 have hlen := hl.1
 have HL := Lib.hid hl
 clear hl
 go_enter Tryz.func111, Tryz.ntmps111
 go_wp2
 go_loopw [3] (fun v3 wr => ∃ k : Nat, k ≤ l.length ∧ v3 = .int .i64 k ∧ l.all nameB = (l.drop k).all nameB ∧ Below w.heap.size w wr) (fun v3 _ => l.length - (intOf v3).toNat)
 case atStart => exact ⟨0, by omega, rfl, rfl, by go_grown⟩
 case round =>
  obtain ⟨k, hk, rfl, hi, hb⟩ := hrel
  have HI := Lib.hid hi
  clear hi
  by_cases hlt : k < l.length
  ·obtain ⟨x, hx⟩ := some_at hlt
   obtain ⟨b, o, rfl, hat⟩ := (HL.out.later hb).at hx
   rw [Nat.mul_one] at hat
   have y0 := str_cell hat
   have hst : (l.drop k).all nameB = (nameB x && (l.drop (k + 1)).all nameB) := by rw [drop_some hx, List.all_cons]
   have HS := Lib.hid hst
   have hi1 : ¬ (k : Int) < 0 := by omega
   have hi2 : (k : Int) < (l.length : Int) := by omega
   have hN := fun W => c_rName x W (hs x (some_mem hx))
   generalize hnb : nameB x = nb at *
   have HN := Lib.hid hN
   clear hx hat hst hN hs hnb
   go_wp2_with fail
   refine (HN.out _).mono ?_
   rintro e W1 ⟨rfl, hB⟩
   have HB := Lib.hid (bthen hb hB)
   clear hb hB y0
   cases nb
   ·go_wp2
    go_ret
    exact ⟨by rw [HI.out, HS.out]; rfl, HB.out⟩
   ·go_wp2
    go_roundw
    case rel => exact ⟨k + 1, by omega, by go_num, by rw [HI.out, HS.out, Bool.true_and], HB.out⟩
    case measure => simp [intOf]; omega
  ·obtain rfl : k = l.length := by omega
   have hi2 : ¬ (l.length : Int) < (l.length : Int) := by omega
   go_wp2
   go_ret
   exact ⟨by rw [HI.out, List.drop_length]; rfl, hb⟩
theorem c_rTwice (l : List ByteArray) (a : Option Addr) (cap : Nat) (w : World) (hl : Strs w a l) :
  Calls Tryz.prog 112 #[.slice a l.length cap] w fun e w' => e = .returned (.bool (twiceB l)) ∧ Below w.heap.size w w' := by
 have hlen := hl.1
 have HL := Lib.hid hl
 clear hl
 rw [← refTwice_all]
 go_enter Tryz.func112, Tryz.ntmps112
 go_wp2
 go_loopw [3] (fun v3 wr => ∃ k : Nat, k ≤ l.length ∧ v3 = .int .i64 k ∧ refTwice l k = false ∧ Below w.heap.size w wr) (fun v3 _ => l.length - (intOf v3).toNat)
 case atStart => exact ⟨0, by omega, rfl, rfl, by go_grown⟩
 case round =>
  obtain ⟨k, hk, rfl, hi, hb⟩ := hrel
  have HI := Lib.hid hi
  clear hi
  by_cases hlt : k < l.length
  ·obtain ⟨x, hx⟩ := some_at hlt
   have hst : refTwice l (k + 1) = (refTwice l k || decide (idxS l x < k)) := refTwice_step hx
   have hmo := fun h (hk : k + 1 ≤ l.length) => refTwice_mono (l := l) (k := k + 1) (n := l.length) h hk
   have hal := HL.out.later hb
   have hIX := fun W (hb2 : Below w.heap.size w W) => c_rIndex x l a cap W (HL.out.later hb2)
   obtain ⟨b, o, rfl, hat⟩ := hal.at hx
   rw [Nat.mul_one] at hat
   have y0 := str_cell hat
   have hi1 : ¬ (k : Int) < 0 := by omega
   have hi2 : (k : Int) < (l.length : Int) := by omega
   rw [HI.out, Bool.false_or] at hst
   generalize idxS l x = ix at *
   have HS := Lib.hid hst
   have HX := Lib.hid hIX
   have HMO := Lib.hid hmo
   clear hx hat hst hIX hal hmo
   go_wp2_with fail
   refine (HX.out _ hb).mono ?_
   rintro e W1 ⟨rfl, hB⟩
   have HB := Lib.hid (bthen hb hB)
   clear hb hB y0
   by_cases h0 : ix < (k : Int)
   ·go_wp2
    go_ret
    exact ⟨by rw [HMO.out (by rw [HS.out]; exact decide_eq_true h0) (by omega)]; rfl, HB.out⟩
   ·go_wp2
    go_roundw
    case rel => exact ⟨k + 1, by omega, by go_num, by rw [HS.out]; exact decide_eq_false (by omega), HB.out⟩
    case measure => simp [intOf]; omega
  ·obtain rfl : k = l.length := by omega
   have hi2 : ¬ (l.length : Int) < (l.length : Int) := by omega
   go_wp2
   go_ret
   exact ⟨by rw [HI.out]; rfl, hb⟩
structure Sized (f : Fe) : Prop where
 p : ∀ s ∈ plNames f.places, s.size ≤ 1000000
 g : ∀ s ∈ gtNames f.gates, s.size ≤ 1000000
def kindsK (f : Fe) (k : Nat) : Bool := (f.places.take k).all fun p => p.kind == 1 || p.kind == 2
def mostsK (f : Fe) (k : Nat) : Bool := (f.gates.take k).all fun g => rg 0 1000 g.most
def endsK (f : Fe) (k : Nat) : Bool := (f.gates.take k).any (endsBad f.places.length)
theorem kindsK_step {f : Fe} {k : Nat} {x : Pl} (h : f.places[k]? = some x) : kindsK f (k + 1) = (kindsK f k && (x.kind == 1 || x.kind == 2)) := by
 unfold kindsK
 rw [take_some h, List.all_append]
 simp
theorem mostsK_step {f : Fe} {k : Nat} {x : Gt} (h : f.gates[k]? = some x) : mostsK f (k + 1) = (mostsK f k && rg 0 1000 x.most) := by
 unfold mostsK
 rw [take_some h, List.all_append]
 simp
theorem endsK_step {f : Fe} {k : Nat} {x : Gt} (h : f.gates[k]? = some x) : endsK f (k + 1) = (endsK f k || endsBad f.places.length x) := by
 unfold endsK
 rw [take_some h, List.any_append]
 simp
theorem endsK_mono {f : Fe} {k : Nat} (h : endsK f k = true) : f.gates.any (endsBad f.places.length) = true := by
 unfold endsK at h
 obtain ⟨x, hx, hb⟩ := List.any_eq_true.1 h
 exact List.any_eq_true.2 ⟨x, List.mem_of_mem_take hx, hb⟩
def restE (f : Fe) : Int := if (rg 0 1000 f.yields && kindsK f f.places.length && mostsK f f.gates.length) = false then 1 else if f.gates.any (endsBad f.places.length) then 50 else 0
theorem rest_check {f : Fe} (ha : ¬ (8 < f.places.length ∨ 12 < f.gates.length ∨ 24 < f.ticks)) (hb : ¬ (f.places.length = 0 ∨ f.ticks < 1)) :
  checkE f = if ((plNames f.places).all nameB && (gtNames f.gates).all nameB) = false then 4 else if (twiceB (plNames f.places) || twiceB (gtNames f.gates)) = true then 6 else restE f := by
 unfold checkE restE kindsK mostsK
 rw [if_neg ha, if_neg hb, List.take_length, List.take_length, ends_any]
 have e1 : ∀ l : List ByteArray, l.any (fun s => !nameB s) = !l.all nameB := fun l => by rw [List.not_all_eq_any_not]
 have e2 : f.places.any (fun p => p.kind != 1 && p.kind != 2) = !f.places.all (fun p => p.kind == 1 || p.kind == 2) := by
  rw [List.not_all_eq_any_not]
  congr 1
  funext p
  rw [Bool.not_or]
  rfl
 have e3 : f.gates.any (fun g => !rg 0 1000 g.most) = !f.gates.all (fun g => rg 0 1000 g.most) := by rw [List.not_all_eq_any_not]
 rw [e1, e1, e2, e3]
 cases (plNames f.places).all nameB <;> cases (gtNames f.gates).all nameB <;> cases twiceB (plNames f.places) <;> cases twiceB (gtNames f.gates) <;> cases rg 0 1000 f.yields <;> cases f.places.all (fun p => p.kind == 1 || p.kind == 2) <;> cases f.gates.all (fun g => rg 0 1000 g.most) <;> simp
theorem c_rCheck_A1 (m : Fm) (w : World) (h : 8 < m.f.places.length) (hl : m.f.places.length ≤ 1000000000000) : Calls Tryz.prog 25 #[m.v] w fun e w' => e = .returned (.int .i64 2) ∧ Below w.heap.size w w' := by
 have h1 : (8 : Int) < (m.f.places.length : Int) := by omega
 go_enter Tryz.func25, Tryz.ntmps25
 go_upto_region 1 with (fail)
 go_name_world W1 hW1
 have hb0 : Below w.heap.size w W1 := by subst hW1; go_grown
 obtain ⟨q0, q1, q2, q3⟩ := (show QB m W1 w.heap.size from by subst hW1; and_intros <;> go_simp)
 clear hW1 
 go_wp2_with fail
 go_ret
 exact ⟨rfl, by have hbz := hb0.size; go_grown⟩
theorem c_rCheck_A2 (m : Fm) (w : World) (h : m.f.places.length ≤ 8) (h2 : 12 < m.f.gates.length) (hl : m.f.gates.length ≤ 1000000000000) : Calls Tryz.prog 25 #[m.v] w fun e w' => e = .returned (.int .i64 2) ∧ Below w.heap.size w w' := by
 have h1 : ¬ (8 : Int) < (m.f.places.length : Int) := by omega
 have h3 : (12 : Int) < (m.f.gates.length : Int) := by omega
 go_enter Tryz.func25, Tryz.ntmps25
 go_upto_region 1 with (fail)
 go_name_world W1 hW1
 have hb0 : Below w.heap.size w W1 := by subst hW1; go_grown
 obtain ⟨q0, q1, q2, q3⟩ := (show QB m W1 w.heap.size from by subst hW1; and_intros <;> go_simp)
 clear hW1 
 go_wp2_with fail
 go_ret
 exact ⟨rfl, by have hbz := hb0.size; go_grown⟩
theorem c_rCheck_A3 (m : Fm) (w : World) (h : m.f.places.length ≤ 8) (h2 : m.f.gates.length ≤ 12) (h5 : 24 < m.f.ticks) : Calls Tryz.prog 25 #[m.v] w fun e w' => e = .returned (.int .i64 2) ∧ Below w.heap.size w w' := by
 have h1 : ¬ (8 : Int) < (m.f.places.length : Int) := by omega
 have h3 : ¬ (12 : Int) < (m.f.gates.length : Int) := by omega
 go_enter Tryz.func25, Tryz.ntmps25
 go_upto_region 1 with (fail)
 go_name_world W1 hW1
 have hb0 : Below w.heap.size w W1 := by subst hW1; go_grown
 obtain ⟨q0, q1, q2, q3⟩ := (show QB m W1 w.heap.size from by subst hW1; and_intros <;> go_simp)
 clear hW1 
 go_wp2_with fail
 go_ret
 exact ⟨rfl, by have hbz := hb0.size; go_grown⟩
theorem c_rCheck_B1 (m : Fm) (w : World) (h2 : m.f.gates.length ≤ 12) (h5 : ¬ 24 < m.f.ticks) (hb : m.f.places.length = 0) : Calls Tryz.prog 25 #[m.v] w fun e w' => e = .returned (.int .i64 5) ∧ Below w.heap.size w w' := by
 have h1 : ¬ (8 : Int) < (m.f.places.length : Int) := by omega
 have h3 : ¬ (12 : Int) < (m.f.gates.length : Int) := by omega
 have h6 : ((m.f.places.length : Int) == 0) = true := beq_iff_eq.2 (by omega)
 go_enter Tryz.func25, Tryz.ntmps25
 go_upto_region 1 with (fail)
 go_name_world W1 hW1
 have hb0 : Below w.heap.size w W1 := by subst hW1; go_grown
 obtain ⟨q0, q1, q2, q3⟩ := (show QB m W1 w.heap.size from by subst hW1; and_intros <;> go_simp)
 clear hW1 
 go_wp2_with fail
 go_ret
 exact ⟨rfl, by have hbz := hb0.size; go_grown⟩
theorem c_rCheck_B2 (m : Fm) (w : World) (h : m.f.places.length ≤ 8) (h2 : m.f.gates.length ≤ 12) (h5 : ¬ 24 < m.f.ticks) (hb : m.f.places.length ≠ 0) (h7 : m.f.ticks < 1) : Calls Tryz.prog 25 #[m.v] w fun e w' => e = .returned (.int .i64 5) ∧ Below w.heap.size w w' := by
 have h1 : ¬ (8 : Int) < (m.f.places.length : Int) := by omega
 have h3 : ¬ (12 : Int) < (m.f.gates.length : Int) := by omega
 have h6 : ((m.f.places.length : Int) == 0) = false := beq_eq_false_iff_ne.2 (by omega)
 go_enter Tryz.func25, Tryz.ntmps25
 go_upto_region 1 with (fail)
 go_name_world W1 hW1
 have hb0 : Below w.heap.size w W1 := by subst hW1; go_grown
 obtain ⟨q0, q1, q2, q3⟩ := (show QB m W1 w.heap.size from by subst hW1; and_intros <;> go_simp)
 clear hW1 
 go_wp2_with fail
 go_ret
 exact ⟨rfl, by have hbz := hb0.size; go_grown⟩
theorem c_rCheck_C (m : Fm) (w : World) (hm : m.In w) (hz : Sized m.f) (h : m.f.places.length ≤ 8) (h2 : m.f.gates.length ≤ 12) (h5 : ¬ 24 < m.f.ticks) (hb : m.f.places.length ≠ 0) (h7 : ¬ m.f.ticks < 1) : Calls Tryz.prog 25 #[m.v] w fun e w' => e = .returned (.int .i64 (if ((plNames m.f.places).all nameB && (gtNames m.f.gates).all nameB) = false then 4 else if (twiceB (plNames m.f.places) || twiceB (gtNames m.f.gates)) = true then 6 else restE m.f)) ∧ Below w.heap.size w w' := by
 have h1 : ¬ (8 : Int) < (m.f.places.length : Int) := by omega
 have h3 : ¬ (12 : Int) < (m.f.gates.length : Int) := by omega
 have h6 : ((m.f.places.length : Int) == 0) = false := beq_eq_false_iff_ne.2 (by omega)
 have hN := fun W (hb : Below w.heap.size w W) => c_rNames m W (hm.later hb)
 have hn1 := fun a c W (hl : Strs W a (plNames m.f.places)) => c_rNamed (plNames m.f.places) a c W hl hz.p
 have hn2 := fun a c W (hl : Strs W a (gtNames m.f.gates)) => c_rNamed (gtNames m.f.gates) a c W hl hz.g
 have ht1 := fun a c W (hl : Strs W a (plNames m.f.places)) => c_rTwice (plNames m.f.places) a c W hl
 have ht2 := fun a c W (hl : Strs W a (gtNames m.f.gates)) => c_rTwice (gtNames m.f.gates) a c W hl
 generalize hP : plNames m.f.places = P at *
 generalize hG : gtNames m.f.gates = G at *
 generalize P.all nameB = n1 at *
 generalize G.all nameB = n2 at *
 generalize twiceB P = t1 at *
 generalize twiceB G = t2 at *
 have HN := Lib.hid hN
 have N1 := Lib.hid hn1
 have N2 := Lib.hid hn2
 have T1 := Lib.hid ht1
 have T2 := Lib.hid ht2
 have HM := Lib.hid hm
 clear hN hn1 hn2 ht1 ht2 hm hz hb hP hG
 go_enter Tryz.func25, Tryz.ntmps25
 go_upto_region 1 with (fail)
 go_name_world W1 hW1
 have hb0 : Below w.heap.size w W1 := by subst hW1; go_grown
 obtain ⟨q0, q1, q2, q3⟩ := (show QB m W1 w.heap.size from by subst hW1; and_intros <;> go_simp)
 clear hW1 
 go_wp2_with fail
 refine (HN.out _ hb0).mono ?_
 rintro E W2 ⟨⟨b1, c1, b2, c2, rfl, s1, s2⟩, hB⟩
 have hc := (bcell hB).1
 have zz := cy4 hc q0 q1 q2 q3
 clear q0 q1 q2 q3
 obtain ⟨q0, q1, q2, q3⟩ := zz
 replace hb0 := bthen hb0 hB
 clear hc hB
 go_wp2_with fail
 refine (N1.out _ _ _ s1).mono ?_
 rintro E W3 ⟨rfl, hB⟩
 have hc := (bcell hB).1
 have zz := cy4 hc q0 q1 q2 q3
 clear q0 q1 q2 q3
 obtain ⟨q0, q1, q2, q3⟩ := zz
 replace s1 := s1.later hB
 replace s2 := s2.later hB
 replace hb0 := bthen hb0 hB
 clear hc hB
 go_wp2_with fail
 refine (N2.out _ _ _ s2).mono ?_
 rintro E W4 ⟨rfl, hB⟩
 have hc := (bcell hB).1
 have zz := cy4 hc q0 q1 q2 q3
 clear q0 q1 q2 q3
 obtain ⟨q0, q1, q2, q3⟩ := zz
 replace s1 := s1.later hB
 replace s2 := s2.later hB
 replace hb0 := bthen hb0 hB
 clear hc hB
 cases n1
 ·clear s1 s2
  go_wp2
  go_ret
  exact ⟨rfl, hb0⟩
 cases n2
 ·clear s1 s2
  go_wp2
  go_ret
  exact ⟨rfl, hb0⟩
 go_wp2_with fail
 refine (T1.out _ _ _ s1).mono ?_
 rintro E W5 ⟨rfl, hB⟩
 have hc := (bcell hB).1
 have zz := cy4 hc q0 q1 q2 q3
 clear q0 q1 q2 q3
 obtain ⟨q0, q1, q2, q3⟩ := zz
 replace s1 := s1.later hB
 replace s2 := s2.later hB
 replace hb0 := bthen hb0 hB
 clear hc hB
 go_wp2_with fail
 refine (T2.out _ _ _ s2).mono ?_
 rintro E W6 ⟨rfl, hB⟩
 have hc := (bcell hB).1
 have zz := cy4 hc q0 q1 q2 q3
 clear q0 q1 q2 q3
 obtain ⟨q0, q1, q2, q3⟩ := zz
 replace hb0 := bthen hb0 hB
 clear hc hB
 clear s1 s2 HN N1 N2 T1 T2
 cases t1
 case true =>
  go_wp2
  go_ret
  exact ⟨rfl, hb0⟩
 cases t2
 case true =>
  go_wp2
  go_ret
  exact ⟨rfl, hb0⟩
 go_wp2_with fail
 refine (c_rWithin _ _ _ _).mono ?_
 rintro E W7 ⟨rfl, hB⟩
 have hc := (bcell hB).1
 have zz := cy4 hc q0 q1 q2 q3
 clear q0 q1 q2 q3
 obtain ⟨q0, q1, q2, q3⟩ := zz
 replace hb0 := bthen hb0 hB
 clear hc hB
 have HQ0 := Lib.hid (show CellsAt W7 w.heap.size 0 (feC m) from cells_4 q0 q1 q2 q3)
 obtain ⟨y0, hy0⟩ : ∃ t, rg 0 1000 m.f.yields = t := ⟨_, rfl⟩
 rw [hy0]
 have hre : restE m.f = if (y0 && kindsK m.f m.f.places.length && mostsK m.f m.f.gates.length) = false then 1 else if m.f.gates.any (endsBad m.f.places.length) then 50 else 0 := by unfold restE; rw [hy0]
 have HRE := Lib.hid hre
 clear q0 q1 q2 q3 hy0 hre
 go_wp2
 go_loopw [7, 8] (fun v7 v8 wr => ∃ k : Nat, k ≤ m.f.places.length ∧ v8 = .int .i64 k ∧ v7 = .bool (y0 && kindsK m.f k) ∧ Below w.heap.size w wr ∧ CellsAt wr w.heap.size 0 (feC m)) (fun _ v8 _ => m.f.places.length - (intOf v8).toNat)
 case atStart => exact ⟨0, by omega, rfl, by rw [show kindsK m.f 0 = true from rfl, Bool.and_true], hb0, HQ0.out⟩
 case round =>
  obtain ⟨k, hk, rfl, rfl, hb, hq⟩ := hrel
  have HQ := Lib.hid hq
  obtain ⟨q0, q1, q2, q3⟩ := fe_cells hq
  clear hq
  by_cases hlt : k < m.f.places.length
  ·obtain ⟨x, hx⟩ := some_at hlt
   have hi1 : ¬ (k : Int) < 0 := by omega
   have hi2 : (k : Int) < (m.f.places.length : Int) := by omega
   obtain ⟨b, o, hpa, hat⟩ := (HM.out.later hb).pl.at hx
   rw [hpa] at q2
   obtain ⟨z0, z1⟩ := pl_cells hat
   have hst := kindsK_step hx
   obtain ⟨kk, hkk⟩ : ∃ t, (y0 && kindsK m.f k) = t := ⟨_, rfl⟩
   have hst2 : (y0 && kindsK m.f (k + 1)) = (kk && (x.kind == 1 || x.kind == 2)) := by rw [hst, ← Bool.and_assoc, hkk]
   rw [hkk]
   clear hx hat hpa hst hkk z0
   cases kk
   ·have HS := Lib.hid hst2
    clear hst2 z1
    go_wp2
    go_roundw
    case rel => exact ⟨k + 1, by omega, by go_num, by first | (rw [HS.out]; rfl) | rw [HS.out], hb, HQ.out⟩
    case measure => simp [intOf]; omega
   ·obtain ⟨d1, hd1⟩ : ∃ t, (x.kind == 1) = t := ⟨_, rfl⟩
    obtain ⟨d2, hd2⟩ : ∃ t, (x.kind == 2) = t := ⟨_, rfl⟩
    rw [hd1, hd2] at hst2
    have HS := Lib.hid hst2
    clear hst2
    cases d1
    ·cases d2
     ·go_wp2
      go_roundw
      case rel => exact ⟨k + 1, by omega, by go_num, by first | (rw [HS.out]; rfl) | rw [HS.out], hb, HQ.out⟩
      case measure => simp [intOf]; omega
     ·go_wp2
      go_roundw
      case rel => exact ⟨k + 1, by omega, by go_num, by first | (rw [HS.out]; rfl) | rw [HS.out], hb, HQ.out⟩
      case measure => simp [intOf]; omega
    ·go_wp2
     go_roundw
     case rel => exact ⟨k + 1, by omega, by go_num, by first | (rw [HS.out]; rfl) | rw [HS.out], hb, HQ.out⟩
     case measure => simp [intOf]; omega
  ·obtain rfl : k = m.f.places.length := by omega
   have hi2 : ¬ (m.f.places.length : Int) < (m.f.places.length : Int) := by omega
   obtain ⟨Y, hYd⟩ : ∃ t, (y0 && kindsK m.f m.f.places.length) = t := ⟨_, rfl⟩
   rw [hYd]
   go_wp2
   clear q0 q1 q2 q3
   go_loopw [7, 9] (fun v7 v9 wr => ∃ k : Nat, k ≤ m.f.gates.length ∧ v9 = .int .i64 k ∧ v7 = .bool (Y && mostsK m.f k) ∧ Below w.heap.size w wr ∧ CellsAt wr w.heap.size 0 (feC m)) (fun _ v9 _ => m.f.gates.length - (intOf v9).toNat)
   case atStart => exact ⟨0, by omega, rfl, by rw [show mostsK m.f 0 = true from rfl, Bool.and_true], hb, HQ.out⟩
   case round =>
    obtain ⟨k, hk, rfl, rfl, hb, hq⟩ := hrel
    have HQ := Lib.hid hq
    obtain ⟨q0, q1, q2, q3⟩ := fe_cells hq
    clear hq
    by_cases hlt : k < m.f.gates.length
    ·obtain ⟨x, hx⟩ := some_at hlt
     have hi1 : ¬ (k : Int) < 0 := by omega
     have hi2 : (k : Int) < (m.f.gates.length : Int) := by omega
     obtain ⟨b, o, hpa, hat⟩ := (HM.out.later hb).gt.at hx
     rw [hpa] at q3
     obtain ⟨y0, y1, y2, y3⟩ := gt_cells hat
     have hst := mostsK_step hx
     obtain ⟨mk, hmk⟩ : ∃ t, (Y && mostsK m.f k) = t := ⟨_, rfl⟩
     have hst2 : (Y && mostsK m.f (k + 1)) = (mk && rg 0 1000 x.most) := by rw [hst, ← Bool.and_assoc, hmk]
     rw [hmk]
     have HS := Lib.hid hst2
     clear hx hat hpa hst hst2 hmk y0 y1 y2
     cases mk
     ·clear y3
      go_wp2
      go_roundw
      case rel => exact ⟨k + 1, by omega, by go_num, by first | (rw [HS.out]; rfl) | rw [HS.out], hb, HQ.out⟩
      case measure => simp [intOf]; omega
     ·go_wp2_with fail
      refine (c_rWithin _ _ _ _).mono ?_
      rintro E W19 ⟨rfl, hB⟩
      replace hb := bthen hb hB
      have HQ2 := Lib.hid (HQ.out.later hB)
      obtain ⟨q0, q1, q2, q3⟩ := fe_cells HQ2.out
      clear hB y3 HQ
      have HQ := HQ2
      clear HQ2
      go_wp2
      go_roundw
      case rel => exact ⟨k + 1, by omega, by go_num, by first | (rw [HS.out]; rfl) | rw [HS.out], hb, HQ.out⟩
      case measure => simp [intOf]; omega
    ·obtain rfl : k = m.f.gates.length := by omega
     have hi2 : ¬ (m.f.gates.length : Int) < (m.f.gates.length : Int) := by omega
     obtain ⟨V, hV⟩ : ∃ t, (Y && mostsK m.f m.f.gates.length) = t := ⟨_, rfl⟩
     rw [hV]
     have hrv := HRE.out
     rw [hYd, hV] at hrv
     have HRV := Lib.hid hrv
     clear hrv hYd hV HRE
     cases V
     ·go_wp2
      go_ret
      exact ⟨by rw [HRV.out]; rfl, hb⟩
     ·go_wp2
      clear q0 q1 q2 q3
      go_loopw [10] (fun v10 wr => ∃ k : Nat, k ≤ m.f.gates.length ∧ v10 = .int .i64 k ∧ endsK m.f k = false ∧ Below w.heap.size w wr ∧ CellsAt wr w.heap.size 0 (feC m)) (fun v10 _ => m.f.gates.length - (intOf v10).toNat)
      case atStart => exact ⟨0, by omega, rfl, rfl, hb, HQ.out⟩
      case round =>
       obtain ⟨k, hk, rfl, he, hb, hq⟩ := hrel
       have HQ := Lib.hid hq
       obtain ⟨q0, q1, q2, q3⟩ := fe_cells hq
       clear hq
       by_cases hlt : k < m.f.gates.length
       ·obtain ⟨x, hx⟩ := some_at hlt
        have hi1 : ¬ (k : Int) < 0 := by omega
        have hi2 : (k : Int) < (m.f.gates.length : Int) := by omega
        obtain ⟨b, o, hpa, hat⟩ := (HM.out.later hb).gt.at hx
        rw [hpa] at q3
        obtain ⟨y0, y1, y2, y3⟩ := gt_cells hat
        have hst := endsK_step hx
        rw [he, Bool.false_or] at hst
        have hmo := fun h => endsK_mono (f := m.f) (k := k + 1) h
        unfold endsBad at hst
        obtain ⟨r1, hr1⟩ : ∃ t, rg 0 ((m.f.places.length : Int) - 1) x.a = t := ⟨_, rfl⟩
        obtain ⟨r2, hr2⟩ : ∃ t, rg 0 ((m.f.places.length : Int) - 1) x.b = t := ⟨_, rfl⟩
        obtain ⟨r3, hr3⟩ : ∃ t, (x.a == x.b) = t := ⟨_, rfl⟩
        have hc1 := fun W => c_rWithin x.a 0 ((m.f.places.length : Int) - 1) W
        have hc2 := fun W => c_rWithin x.b 0 ((m.f.places.length : Int) - 1) W
        rw [hr1, hr2, hr3] at hst
        simp only [hr1] at hc1
        simp only [hr2] at hc2
        have C1 := Lib.hid hc1
        have C2 := Lib.hid hc2
        have h50 : ∀ (h : (!r1 || !r2 || r3) = true), restE m.f = 50 := fun h => by rw [HRV.out, hmo (hst.trans h)]; rfl
        have H50 := Lib.hid h50
        have HS := Lib.hid hst
        clear hx hat hpa hst he hmo hc1 hc2 h50 hr1 hr2
        go_upto_region 29 with (fail)
        go_name_world W20 hW20
        have hB : Below wr.heap.size wr W20 := by subst hW20; go_grown
        have g1 : W20.cell? ⟨wr.heap.size, 1, none⟩ = some (.int .i64 x.a) := by subst hW20; go_simp
        have g2 : W20.cell? ⟨wr.heap.size, 2, none⟩ = some (.int .i64 x.b) := by subst hW20; go_simp
        clear hW20 y0 y1 y2 y3 q0 q1 q3
        replace q2 := later_of hB q2
        replace hb := bthen hb hB
        have HQ2 := Lib.hid (HQ.out.later hB)
        clear hB HQ
        go_wp2_with fail
        refine (C1.out _).mono ?_
        rintro E W21 ⟨rfl, hB⟩
        have zz := cl3 hB q2 g1 g2
        clear q2 g1 g2
        obtain ⟨q2, g1, g2⟩ := zz
        replace hb := bthen hb hB
        have HQ3 := Lib.hid (HQ2.out.later hB)
        clear hB HQ2 C1
        cases r1
        ·go_wp2
         go_ret
         exact ⟨by rw [H50.out rfl]; rfl, hb⟩
        ·go_wp2_with fail
         refine (C2.out _).mono ?_
         rintro E W22 ⟨rfl, hB⟩
         replace g1 := later_of hB g1
         replace g2 := later_of hB g2
         replace hb := bthen hb hB
         have HQ := Lib.hid (HQ3.out.later hB)
         clear hB HQ3 C2 q2
         cases r2
         ·go_wp2
          go_ret
          exact ⟨by rw [H50.out rfl]; rfl, hb⟩
         ·cases r3
          ·go_wp2
           go_roundw
           case rel => exact ⟨k + 1, by omega, by go_num, by rw [HS.out]; rfl, hb, HQ.out⟩
           case measure => simp [intOf]; omega
          ·go_wp2
           go_ret
           exact ⟨by rw [H50.out rfl]; rfl, hb⟩
       ·obtain rfl : k = m.f.gates.length := by omega
        have hi2 : ¬ (m.f.gates.length : Int) < (m.f.gates.length : Int) := by omega
        have HE := Lib.hid he
        clear he
        go_wp2
        go_ret
        refine ⟨?_, hb⟩
        have := HE.out
        unfold endsK at this
        rw [List.take_length] at this
        rw [HRV.out, this]
        rfl
 
theorem c_rCheck (m : Fm) (w : World) (hm : m.In w) (hz : Sized m.f) : Calls Tryz.prog 25 #[m.v] w fun e w' => e = .returned (.int .i64 (checkE m.f)) ∧ Below w.heap.size w w' := by
 by_cases ha : 8 < m.f.places.length ∨ 12 < m.f.gates.length ∨ 24 < m.f.ticks
 ·rw [show checkE m.f = 2 from if_pos ha]
  by_cases ha1 : 8 < m.f.places.length
  ·exact c_rCheck_A1 m w ha1 hm.pl.1
  ·by_cases ha2 : 12 < m.f.gates.length
   ·exact c_rCheck_A2 m w (by omega) ha2 hm.gt.1
   ·exact c_rCheck_A3 m w (by omega) (by omega) (by omega)
 ·by_cases hb : m.f.places.length = 0 ∨ m.f.ticks < 1
  ·rw [show checkE m.f = 5 from (if_neg ha).trans (if_pos hb)]
   by_cases hb1 : m.f.places.length = 0
   ·exact c_rCheck_B1 m w (by omega) (by omega) hb1
   ·exact c_rCheck_B2 m w (by omega) (by omega) (by omega) hb1 (by omega)
  ·rw [rest_check ha hb]
   exact c_rCheck_C m w hm hz (by omega) (by omega) (by omega) (by omega) (by omega)
def formedB (f : Fe) (x : Rp) : Bool :=
 if (rg 1 1000000 x.id && rg 0 100000 x.known && rg 1 8 x.kind) = false then false
 else if x.kind = 8 then rg 1 1000000 x.void && (x.owner == 0 && (decide (x.sort = ⟨#[]⟩) && (x.plc == 0 && (x.tick == 0 && (x.low == 0 && x.high == 0)))))
 else nameB x.sort && (rg 1 40 x.owner && (decide (0 ≤ x.low) && (decide (x.low ≤ x.high) && (decide (x.high ≤ 1000) && (x.void == 0 && rg 0 (lastT f x.kind) x.tick)))))
def badPlace (f : Fe) (x : Rp) : Bool := decide (x.plc < 0) || (decide (thingsN f x.kind ≤ x.plc) && x.kind != 8)
theorem rg_eq (lo hi n : Int) : rg lo hi n = (decide (lo ≤ n) && decide (n ≤ hi)) := by
 rw [Bool.eq_iff_iff, rg_iff]
 simp
theorem judge_formed (f : Fe) (x : Rp) : judgeE f x = if formedB f x = false then 1 else if badPlace f x = true then 50 else 0 := by
 unfold judgeE formedB badPlace zeroB
 by_cases h1 : (rg 1 1000000 x.id && rg 0 100000 x.known && rg 1 8 x.kind) = false
 ·rw [if_pos h1, if_pos h1]; simp
 ·rw [if_neg h1, if_neg h1]
  by_cases h8 : x.kind = 8
  ·rw [if_pos h8, if_pos h8, h8]
   cases hv : rg 1 1000000 x.void
   ·simp
   ·by_cases hp : x.plc = 0
    ·rw [hp]
     cases x.owner == 0 <;> cases decide (x.sort = ⟨#[]⟩) <;> cases x.tick == 0 <;> cases x.low == 0 <;> cases x.high == 0 <;> simp
    ·have : (x.plc == 0) = false := beq_eq_false_iff_ne.2 hp
     rw [this]
     cases x.owner == 0 <;> cases decide (x.sort = ⟨#[]⟩) <;> simp
  ·rw [if_neg h8, if_neg h8]
   have hb : (x.kind != 8) = true := bne_iff_ne.2 h8
   have hg : (rg 0 (thingsN f x.kind - 1) x.plc = false) ↔ ((decide (x.plc < 0) || (decide (thingsN f x.kind ≤ x.plc) && x.kind != 8)) = true) := by
    rw [hb, rg_eq]
    simp
    omega
   rw [rg_eq 0 x.high x.low]
   by_cases hp : rg 0 (thingsN f x.kind - 1) x.plc = false
   ·rw [if_pos hp, if_pos (hg.1 hp)]
    cases rg 1 40 x.owner <;> cases nameB x.sort <;> cases decide (0 ≤ x.low) <;> cases decide (x.low ≤ x.high) <;> cases decide (x.high ≤ 1000) <;> cases x.void == 0 <;> cases rg 0 (lastT f x.kind) x.tick <;> rfl
   ·rw [if_neg hp, if_neg (fun h => hp (hg.2 h))]
    cases rg 1 40 x.owner <;> cases nameB x.sort <;> cases decide (0 ≤ x.low) <;> cases decide (x.low ≤ x.high) <;> cases decide (x.high ≤ 1000) <;> cases x.void == 0 <;> cases rg 0 (lastT f x.kind) x.tick <;> rfl
theorem c_rAtGate (k : Int) (w : World) : Calls Tryz.prog 123 #[.int .u8 k] w fun e w' => e = .returned (.bool (k == 2 || k == 3)) ∧ Below w.heap.size w w' := by
 obtain ⟨b2, h2⟩ : ∃ t, (k == 2) = t := ⟨_, rfl⟩
 obtain ⟨b3, h3⟩ : ∃ t, (k == 3) = t := ⟨_, rfl⟩
 rw [h2, h3]
 cases b2
 all_goals
  go_enter Tryz.func123, Tryz.ntmps123
  go_wp2
  go_ret
  exact ⟨rfl, by go_grown⟩
theorem within_as {n lo hi : Int} {r : Bool} (h : rg lo hi n = r) (w : World) : Calls Tryz.prog 113 #[.int .i64 n, .int .i64 lo, .int .i64 hi] w fun e w' => e = .returned (.bool r) ∧ Below w.heap.size w w' := h ▸ c_rWithin n lo hi w
theorem c_rFormed_8 (m : Fm) (x : Rp) (w : World) (hk : x.kind = 8) : Calls Tryz.prog 122 #[m.v, x.v] w fun e w' => e = .returned (.bool (if (rg 1 1000000 x.id && rg 0 100000 x.known && rg 1 8 x.kind) = false then false else rg 1 1000000 x.void && (x.owner == 0 && (decide (x.sort = ⟨#[]⟩) && (x.plc == 0 && (x.tick == 0 && (x.low == 0 && x.high == 0))))))) ∧ Below w.heap.size w w' := by
 obtain ⟨a1, ha1⟩ : ∃ t, (rg 1 1000000 x.id) = t := ⟨_, rfl⟩
 rw [ha1]
 obtain ⟨a2, ha2⟩ : ∃ t, (rg 0 100000 x.known) = t := ⟨_, rfl⟩
 rw [ha2]
 obtain ⟨a3, ha3⟩ : ∃ t, (rg 1 8 x.kind) = t := ⟨_, rfl⟩
 rw [ha3]
 obtain ⟨a4, ha4⟩ : ∃ t, (rg 1 1000000 x.void) = t := ⟨_, rfl⟩
 rw [ha4]
 obtain ⟨b1, hb1⟩ : ∃ t, (x.owner == 0) = t := ⟨_, rfl⟩
 rw [hb1]
 obtain ⟨b2, hb2⟩ : ∃ t, (decide (x.sort = ⟨#[]⟩)) = t := ⟨_, rfl⟩
 rw [hb2]
 obtain ⟨b3, hb3⟩ : ∃ t, (x.plc == 0) = t := ⟨_, rfl⟩
 rw [hb3]
 obtain ⟨b4, hb4⟩ : ∃ t, (x.tick == 0) = t := ⟨_, rfl⟩
 rw [hb4]
 obtain ⟨b5, hb5⟩ : ∃ t, (x.low == 0) = t := ⟨_, rfl⟩
 rw [hb5]
 obtain ⟨b6, hb6⟩ : ∃ t, (x.high == 0) = t := ⟨_, rfl⟩
 rw [hb6]
 have hb2' : x.sort.toList.isEmpty = b2 := by
  rw [← hb2, ← toList_eqB, show (⟨#[]⟩ : ByteArray).toList = [] from by kernel_rfl]
  cases x.sort.toList <;> rfl
 obtain ⟨id, known, kind, owner, sort, plc, tick, low, high, void⟩ := x
 dsimp only at *
 subst hk
 have Ka4 := Lib.hid ha4
 have Kb := Lib.hid (And.intro hb1 (And.intro hb2' (And.intro hb3 (And.intro hb4 (And.intro hb5 hb6)))))
 clear ha4 hb1 hb2 hb2' hb3 hb4 hb5 hb6
 go_enter Tryz.func122, Tryz.ntmps122
 go_upto_region 1 with (fail)
 go_name_world W1 hW1
 have hb0 : Below w.heap.size w W1 := by subst hW1; go_grown
 obtain ⟨q0, q1, q2, q3⟩ := (show QB m W1 w.heap.size from by subst hW1; and_intros <;> go_simp)
 obtain ⟨r0, r1, r2, r3, r4, r5, r6, r7, r8, r9⟩ := (show RB id known 8 owner sort plc tick low high void W1 ((w.heap.size + 1)) from by subst hW1; and_intros <;> go_simp)
 clear hW1 
 have Ka1 := Lib.hid ha1
 clear ha1
 have Ka2 := Lib.hid ha2
 clear ha2
 have Ka3 := Lib.hid ha3
 clear ha3
 go_wp2_with fail
 refine (within_as Ka1.out _).mono ?_
 rintro E W2 ⟨rfl, hB⟩
 have hc := (bcell hB).1
 have zz := cy14 hc q0 q1 q2 q3 r0 r1 r2 r3 r4 r5 r6 r7 r8 r9
 clear q0 q1 q2 q3 r0 r1 r2 r3 r4 r5 r6 r7 r8 r9
 obtain ⟨q0, q1, q2, q3, r0, r1, r2, r3, r4, r5, r6, r7, r8, r9⟩ := zz
 replace hb0 := bthen hb0 hB
 clear hc hB
 cases a1
 ·go_wp2
  all_goals go_ret
  all_goals exact ⟨rfl, hb0⟩
 go_wp2_with fail
 refine (within_as Ka2.out _).mono ?_
 rintro E W3 ⟨rfl, hB⟩
 have hc := (bcell hB).1
 have zz := cy14 hc q0 q1 q2 q3 r0 r1 r2 r3 r4 r5 r6 r7 r8 r9
 clear q0 q1 q2 q3 r0 r1 r2 r3 r4 r5 r6 r7 r8 r9
 obtain ⟨q0, q1, q2, q3, r0, r1, r2, r3, r4, r5, r6, r7, r8, r9⟩ := zz
 replace hb0 := bthen hb0 hB
 clear hc hB
 cases a2
 ·go_wp2
  all_goals go_ret
  all_goals exact ⟨rfl, hb0⟩
 go_wp2_with fail
 refine (within_as Ka3.out _).mono ?_
 rintro E W4 ⟨rfl, hB⟩
 have hc := (bcell hB).1
 have zz := cy14 hc q0 q1 q2 q3 r0 r1 r2 r3 r4 r5 r6 r7 r8 r9
 clear q0 q1 q2 q3 r0 r1 r2 r3 r4 r5 r6 r7 r8 r9
 obtain ⟨q0, q1, q2, q3, r0, r1, r2, r3, r4, r5, r6, r7, r8, r9⟩ := zz
 replace hb0 := bthen hb0 hB
 clear hc hB
 cases a3
 ·go_wp2
  all_goals go_ret
  all_goals exact ⟨rfl, hb0⟩
 go_wp2_with fail
 refine (within_as Ka4.out _).mono ?_
 rintro E W5 ⟨rfl, hB⟩
 have hc := (bcell hB).1
 have zz := cy14 hc q0 q1 q2 q3 r0 r1 r2 r3 r4 r5 r6 r7 r8 r9
 clear q0 q1 q2 q3 r0 r1 r2 r3 r4 r5 r6 r7 r8 r9
 obtain ⟨q0, q1, q2, q3, r0, r1, r2, r3, r4, r5, r6, r7, r8, r9⟩ := zz
 replace hb0 := bthen hb0 hB
 clear hc hB
 cases a4
 ·go_wp2
  all_goals go_ret
  all_goals exact ⟨rfl, hb0⟩
 obtain ⟨hb1, hb2, hb3, hb4, hb5, hb6⟩ := Kb.out
 clear Kb
 cases b1
 ·go_wp2
  all_goals go_ret
  all_goals exact ⟨rfl, hb0⟩
 cases b2
 ·go_wp2
  all_goals go_ret
  all_goals exact ⟨rfl, hb0⟩
 cases b3
 ·go_wp2
  all_goals go_ret
  all_goals exact ⟨rfl, hb0⟩
 cases b4
 ·go_wp2
  all_goals go_ret
  all_goals exact ⟨rfl, hb0⟩
 cases b5
 ·go_wp2
  all_goals go_ret
  all_goals exact ⟨rfl, hb0⟩
 cases b6
 ·go_wp2
  all_goals go_ret
  all_goals exact ⟨rfl, hb0⟩
 go_wp2
 all_goals go_ret
 all_goals exact ⟨rfl, hb0⟩
theorem c_rFormed_no (m : Fm) (x : Rp) (w : World) (ok : RpOk x) (hk : x.kind ≠ 8) (hz : x.sort.size ≤ 1000000) (ht : -1000000 ≤ m.f.ticks ∧ m.f.ticks ≤ 1000000) : Calls Tryz.prog 122 #[m.v, x.v] w fun e w' => e = .returned (.bool (if (rg 1 1000000 x.id && rg 0 100000 x.known && rg 1 8 x.kind) = false then false else nameB x.sort && (rg 1 40 x.owner && (decide (0 ≤ x.low) && (decide (x.low ≤ x.high) && (decide (x.high ≤ 1000) && (x.void == 0 && rg 0 (lastT m.f x.kind) x.tick))))))) ∧ Below w.heap.size w w' := by
 have hk0 := ok.k0
 have hk1 := ok.k1
 have hk8 : (x.kind == 8) = false := beq_eq_false_iff_ne.2 hk
 have hN := fun W => c_rName x.sort W hz
 obtain ⟨a1, ha1⟩ : ∃ t, (rg 1 1000000 x.id) = t := ⟨_, rfl⟩
 rw [ha1]
 obtain ⟨a2, ha2⟩ : ∃ t, (rg 0 100000 x.known) = t := ⟨_, rfl⟩
 rw [ha2]
 obtain ⟨a3, ha3⟩ : ∃ t, (rg 1 8 x.kind) = t := ⟨_, rfl⟩
 rw [ha3]
 obtain ⟨a4, ha4⟩ : ∃ t, (rg 1 40 x.owner) = t := ⟨_, rfl⟩
 rw [ha4]
 obtain ⟨a5, ha5⟩ : ∃ t, (rg 0 (lastT m.f x.kind) x.tick) = t := ⟨_, rfl⟩
 rw [ha5]
 obtain ⟨b6, hb6⟩ : ∃ t, (x.void == 0) = t := ⟨_, rfl⟩
 rw [hb6]
 obtain ⟨c1, hc1⟩ : ∃ t, (decide (0 ≤ x.low)) = t := ⟨_, rfl⟩
 rw [hc1]
 obtain ⟨c2, hc2⟩ : ∃ t, (decide (x.low ≤ x.high)) = t := ⟨_, rfl⟩
 rw [hc2]
 obtain ⟨c3, hc3⟩ : ∃ t, (decide (x.high ≤ 1000)) = t := ⟨_, rfl⟩
 rw [hc3]
 obtain ⟨n, hn⟩ : ∃ t, (nameB x.sort) = t := ⟨_, rfl⟩
 rw [hn]
 rw [hn] at hN
 have HN := Lib.hid hN
 obtain ⟨id, known, kind, owner, sort, plc, tick, low, high, void⟩ := x
 dsimp only at *
 have Ka4 := Lib.hid ha4
 have Kb := Lib.hid hb6
 have Kc1 := Lib.hid hc1
 have Kc2 := Lib.hid hc2
 have Kc3 := Lib.hid hc3
 clear ha4 hb6 hc1 hc2 hc3 hn hN hk hz ok
 unfold lastT at ha5
 obtain ⟨k1, hk3⟩ : ∃ t, (kind == 1) = t := ⟨_, rfl⟩
 go_enter Tryz.func122, Tryz.ntmps122
 go_upto_region 1 with (fail)
 go_name_world W1 hW1
 have hb0 : Below w.heap.size w W1 := by subst hW1; go_grown
 obtain ⟨q0, q1, q2, q3⟩ := (show QB m W1 w.heap.size from by subst hW1; and_intros <;> go_simp)
 obtain ⟨r0, r1, r2, r3, r4, r5, r6, r7, r8, r9⟩ := (show RB id known kind owner sort plc tick low high void W1 ((w.heap.size + 1)) from by subst hW1; and_intros <;> go_simp)
 clear hW1 
 have Ka5 := Lib.hid ha5
 clear ha5
 have Ka1 := Lib.hid ha1
 clear ha1
 have Ka2 := Lib.hid ha2
 clear ha2
 have Ka3 := Lib.hid ha3
 clear ha3
 go_wp2_with fail
 refine (within_as Ka1.out _).mono ?_
 rintro E W2 ⟨rfl, hB⟩
 have hc := (bcell hB).1
 have zz := cy14 hc q0 q1 q2 q3 r0 r1 r2 r3 r4 r5 r6 r7 r8 r9
 clear q0 q1 q2 q3 r0 r1 r2 r3 r4 r5 r6 r7 r8 r9
 obtain ⟨q0, q1, q2, q3, r0, r1, r2, r3, r4, r5, r6, r7, r8, r9⟩ := zz
 replace hb0 := bthen hb0 hB
 clear hc hB
 cases a1
 ·go_wp2
  all_goals go_ret
  all_goals exact ⟨rfl, hb0⟩
 go_wp2_with fail
 refine (within_as Ka2.out _).mono ?_
 rintro E W3 ⟨rfl, hB⟩
 have hc := (bcell hB).1
 have zz := cy14 hc q0 q1 q2 q3 r0 r1 r2 r3 r4 r5 r6 r7 r8 r9
 clear q0 q1 q2 q3 r0 r1 r2 r3 r4 r5 r6 r7 r8 r9
 obtain ⟨q0, q1, q2, q3, r0, r1, r2, r3, r4, r5, r6, r7, r8, r9⟩ := zz
 replace hb0 := bthen hb0 hB
 clear hc hB
 cases a2
 ·go_wp2
  all_goals go_ret
  all_goals exact ⟨rfl, hb0⟩
 go_wp2_with fail
 refine (within_as Ka3.out _).mono ?_
 rintro E W4 ⟨rfl, hB⟩
 have hc := (bcell hB).1
 have zz := cy14 hc q0 q1 q2 q3 r0 r1 r2 r3 r4 r5 r6 r7 r8 r9
 clear q0 q1 q2 q3 r0 r1 r2 r3 r4 r5 r6 r7 r8 r9
 obtain ⟨q0, q1, q2, q3, r0, r1, r2, r3, r4, r5, r6, r7, r8, r9⟩ := zz
 replace hb0 := bthen hb0 hB
 clear hc hB
 cases a3
 ·go_wp2
  all_goals go_ret
  all_goals exact ⟨rfl, hb0⟩
 cases k1
 ·have ha5 := Ka5.out
  rw [if_neg (beq_eq_false_iff_ne.1 hk3)] at ha5
  clear Ka5
  have Ka5 := Lib.hid ha5
  clear ha5
  go_wp2_with fail
  refine (HN.out _).mono ?_
  rintro E W5 ⟨rfl, hB⟩
  have hc := (bcell hB).1
  have zz := cy14 hc q0 q1 q2 q3 r0 r1 r2 r3 r4 r5 r6 r7 r8 r9
  clear q0 q1 q2 q3 r0 r1 r2 r3 r4 r5 r6 r7 r8 r9
  obtain ⟨q0, q1, q2, q3, r0, r1, r2, r3, r4, r5, r6, r7, r8, r9⟩ := zz
  replace hb0 := bthen hb0 hB
  clear hc hB
  cases n
  ·go_wp2
   all_goals go_ret
   all_goals exact ⟨rfl, hb0⟩
  go_wp2_with fail
  refine (within_as Ka4.out _).mono ?_
  rintro E W6 ⟨rfl, hB⟩
  have hc := (bcell hB).1
  have zz := cy14 hc q0 q1 q2 q3 r0 r1 r2 r3 r4 r5 r6 r7 r8 r9
  clear q0 q1 q2 q3 r0 r1 r2 r3 r4 r5 r6 r7 r8 r9
  obtain ⟨q0, q1, q2, q3, r0, r1, r2, r3, r4, r5, r6, r7, r8, r9⟩ := zz
  replace hb0 := bthen hb0 hB
  clear hc hB
  cases a4
  ·go_wp2
   all_goals go_ret
   all_goals exact ⟨rfl, hb0⟩
  have hb6 := Kb.out
  clear Kb
  cases c1
  ·have gc1 := of_decide_eq_false Kc1.out
   go_wp2
   all_goals go_ret
   all_goals exact ⟨rfl, hb0⟩
  have gc1 := of_decide_eq_true Kc1.out
  cases c2
  ·have gc2 := of_decide_eq_false Kc2.out
   go_wp2
   all_goals go_ret
   all_goals exact ⟨rfl, hb0⟩
  have gc2 := of_decide_eq_true Kc2.out
  cases c3
  ·have gc3 := of_decide_eq_false Kc3.out
   go_wp2
   all_goals go_ret
   all_goals exact ⟨rfl, hb0⟩
  have gc3 := of_decide_eq_true Kc3.out
  cases b6
  ·go_wp2
   all_goals go_ret
   all_goals exact ⟨rfl, hb0⟩
  go_wp2_with fail
  refine (within_as Ka5.out _).mono ?_
  rintro E W7 ⟨rfl, hB⟩
  have hc := (bcell hB).1
  have zz := cy14 hc q0 q1 q2 q3 r0 r1 r2 r3 r4 r5 r6 r7 r8 r9
  clear q0 q1 q2 q3 r0 r1 r2 r3 r4 r5 r6 r7 r8 r9
  obtain ⟨q0, q1, q2, q3, r0, r1, r2, r3, r4, r5, r6, r7, r8, r9⟩ := zz
  replace hb0 := bthen hb0 hB
  clear hc hB
  go_wp2
  all_goals go_ret
  all_goals exact ⟨rfl, hb0⟩
 ·have ha5 := Ka5.out
  rw [if_pos (beq_iff_eq.1 hk3)] at ha5
  clear Ka5
  have Ka5 := Lib.hid ha5
  clear ha5
  go_wp2_with fail
  refine (HN.out _).mono ?_
  rintro E W5 ⟨rfl, hB⟩
  have hc := (bcell hB).1
  have zz := cy14 hc q0 q1 q2 q3 r0 r1 r2 r3 r4 r5 r6 r7 r8 r9
  clear q0 q1 q2 q3 r0 r1 r2 r3 r4 r5 r6 r7 r8 r9
  obtain ⟨q0, q1, q2, q3, r0, r1, r2, r3, r4, r5, r6, r7, r8, r9⟩ := zz
  replace hb0 := bthen hb0 hB
  clear hc hB
  cases n
  ·go_wp2
   all_goals go_ret
   all_goals exact ⟨rfl, hb0⟩
  go_wp2_with fail
  refine (within_as Ka4.out _).mono ?_
  rintro E W6 ⟨rfl, hB⟩
  have hc := (bcell hB).1
  have zz := cy14 hc q0 q1 q2 q3 r0 r1 r2 r3 r4 r5 r6 r7 r8 r9
  clear q0 q1 q2 q3 r0 r1 r2 r3 r4 r5 r6 r7 r8 r9
  obtain ⟨q0, q1, q2, q3, r0, r1, r2, r3, r4, r5, r6, r7, r8, r9⟩ := zz
  replace hb0 := bthen hb0 hB
  clear hc hB
  cases a4
  ·go_wp2
   all_goals go_ret
   all_goals exact ⟨rfl, hb0⟩
  have hb6 := Kb.out
  clear Kb
  cases c1
  ·have gc1 := of_decide_eq_false Kc1.out
   go_wp2
   all_goals go_ret
   all_goals exact ⟨rfl, hb0⟩
  have gc1 := of_decide_eq_true Kc1.out
  cases c2
  ·have gc2 := of_decide_eq_false Kc2.out
   go_wp2
   all_goals go_ret
   all_goals exact ⟨rfl, hb0⟩
  have gc2 := of_decide_eq_true Kc2.out
  cases c3
  ·have gc3 := of_decide_eq_false Kc3.out
   go_wp2
   all_goals go_ret
   all_goals exact ⟨rfl, hb0⟩
  have gc3 := of_decide_eq_true Kc3.out
  cases b6
  ·go_wp2
   all_goals go_ret
   all_goals exact ⟨rfl, hb0⟩
  go_wp2_with fail
  refine (within_as Ka5.out _).mono ?_
  rintro E W7 ⟨rfl, hB⟩
  have hc := (bcell hB).1
  have zz := cy14 hc q0 q1 q2 q3 r0 r1 r2 r3 r4 r5 r6 r7 r8 r9
  clear q0 q1 q2 q3 r0 r1 r2 r3 r4 r5 r6 r7 r8 r9
  obtain ⟨q0, q1, q2, q3, r0, r1, r2, r3, r4, r5, r6, r7, r8, r9⟩ := zz
  replace hb0 := bthen hb0 hB
  clear hc hB
  go_wp2
  all_goals go_ret
  all_goals exact ⟨rfl, hb0⟩
theorem c_rFormed (m : Fm) (x : Rp) (w : World) (ok : RpOk x) (hz : x.sort.size ≤ 1000000) (ht : -1000000 ≤ m.f.ticks ∧ m.f.ticks ≤ 1000000) : Calls Tryz.prog 122 #[m.v, x.v] w fun e w' => e = .returned (.bool (formedB m.f x)) ∧ Below w.heap.size w w' := by
 by_cases hk : x.kind = 8
 ·have h := c_rFormed_8 m x w hk
  unfold formedB
  rw [if_pos hk]
  exact h
 ·have h := c_rFormed_no m x w ok hk hz ht
  unfold formedB
  rw [if_neg hk]
  exact h
def gateB (x : Rp) : Bool := x.kind == 2 || x.kind == 3
theorem things_gate (f : Fe) (x : Rp) : thingsN f x.kind = if gateB x = true then (f.gates.length : Int) else f.places.length := by
 unfold thingsN gateB
 by_cases h : x.kind = 2 ∨ x.kind = 3
 ·rw [if_pos h, if_pos (by simpa using h)]
 ·rw [if_neg h, if_neg (by simpa using h)]
theorem c_rReport_no (m : Fm) (x : Rp) (w : World) (hm : m.In w) (hs : Sized m.f) (h : checkE m.f ≠ 0) : Calls Tryz.prog 35 #[m.v, x.v] w fun e w' => e = .returned (.int .i64 (checkE m.f)) ∧ Below w.heap.size w w' := by
 have hC := fun W (hb : Below w.heap.size w W) => c_rCheck m W (hm.later hb) hs
 generalize checkE m.f = E at *
 have he : (E != 0) = true := bne_iff_ne.2 h
 have HC := Lib.hid hC
 clear hC h hm hs
 go_enter Tryz.func35, Tryz.ntmps35
 go_upto_region 1 with (fail)
 go_name_world W1 hW1
 have hb0 : Below w.heap.size w W1 := by subst hW1; go_grown
 obtain ⟨q0, q1, q2, q3⟩ := (show QB m W1 w.heap.size from by subst hW1; and_intros <;> go_simp)
 obtain ⟨r0, r1, r2, r3, r4, r5, r6, r7, r8, r9⟩ := (show RC x W1 ((w.heap.size + 1)) from by subst hW1; and_intros <;> go_simp)
 clear hW1 
 go_wp2_with fail
 refine (HC.out _ hb0).mono ?_
 rintro E W2 ⟨rfl, hB⟩
 have hc := (bcell hB).1
 have zz := cy14 hc q0 q1 q2 q3 r0 r1 r2 r3 r4 r5 r6 r7 r8 r9
 clear q0 q1 q2 q3 r0 r1 r2 r3 r4 r5 r6 r7 r8 r9
 obtain ⟨q0, q1, q2, q3, r0, r1, r2, r3, r4, r5, r6, r7, r8, r9⟩ := zz
 replace hb0 := bthen hb0 hB
 clear hc hB
 go_wp2
 all_goals go_ret
 all_goals exact ⟨rfl, hb0⟩
theorem c_rReport_ok (m : Fm) (x : Rp) (w : World) (hm : m.In w) (hs : Sized m.f) (h : checkE m.f = 0) (ok : RpOk x) (hz : x.sort.size ≤ 1000000) : Calls Tryz.prog 35 #[m.v, x.v] w fun e w' => e = .returned (.int .i64 (if formedB m.f x = false then 1 else if badPlace m.f x = true then 50 else 0)) ∧ Below w.heap.size w w' := by
 have hC := fun W (hb : Below w.heap.size w W) => c_rCheck m W (hm.later hb) hs
 rw [h] at hC
 have hp8 := (right_of h).p8
 have hg12 := (right_of h).g12
 have ht1 := (right_of h).t1
 have ht2 := (right_of h).t24
 have hF := fun W => c_rFormed m x W ok hz ⟨by omega, by omega⟩
 have hG := fun W => c_rAtGate x.kind W
 unfold badPlace
 rw [things_gate]
 unfold gateB
 obtain ⟨fb, hfb⟩ : ∃ t, formedB m.f x = t := ⟨_, rfl⟩
 obtain ⟨gb, hgb⟩ : ∃ t, (x.kind == 2 || x.kind == 3) = t := ⟨_, rfl⟩
 obtain ⟨k8, hk8⟩ : ∃ t, (x.kind != 8) = t := ⟨_, rfl⟩
 simp only [hfb] at hF
 simp only [hgb] at hG
 rw [hfb, hgb, hk8]
 obtain ⟨d1, hd1⟩ : ∃ t, decide (x.plc < 0) = t := ⟨_, rfl⟩
 obtain ⟨d2, hd2⟩ : ∃ t, decide ((if gb = true then (m.f.gates.length : Int) else m.f.places.length) ≤ x.plc) = t := ⟨_, rfl⟩
 rw [hd1, hd2]
 have HC := Lib.hid hC
 have HF := Lib.hid hF
 have HG := Lib.hid hG
 have K8 := Lib.hid hk8
 have D1 := Lib.hid hd1
 have D2 := Lib.hid hd2
 clear hC hm hs h hF hG hfb hgb hk8 hd1 hd2 ht1 ht2 ok hz
 go_enter Tryz.func35, Tryz.ntmps35
 go_upto_region 1 with (fail)
 go_name_world W1 hW1
 have hb0 : Below w.heap.size w W1 := by subst hW1; go_grown
 obtain ⟨q0, q1, q2, q3⟩ := (show QB m W1 w.heap.size from by subst hW1; and_intros <;> go_simp)
 obtain ⟨r0, r1, r2, r3, r4, r5, r6, r7, r8, r9⟩ := (show RC x W1 ((w.heap.size + 1)) from by subst hW1; and_intros <;> go_simp)
 clear hW1 
 go_wp2_with fail
 refine (HC.out _ hb0).mono ?_
 rintro E W2 ⟨rfl, hB⟩
 have hc := (bcell hB).1
 have zz := cy14 hc q0 q1 q2 q3 r0 r1 r2 r3 r4 r5 r6 r7 r8 r9
 clear q0 q1 q2 q3 r0 r1 r2 r3 r4 r5 r6 r7 r8 r9
 obtain ⟨q0, q1, q2, q3, r0, r1, r2, r3, r4, r5, r6, r7, r8, r9⟩ := zz
 replace hb0 := bthen hb0 hB
 clear hc hB
 go_wp2_with fail
 refine (HF.out _).mono ?_
 rintro E W3 ⟨rfl, hB⟩
 have hc := (bcell hB).1
 have zz := cy14 hc q0 q1 q2 q3 r0 r1 r2 r3 r4 r5 r6 r7 r8 r9
 clear q0 q1 q2 q3 r0 r1 r2 r3 r4 r5 r6 r7 r8 r9
 obtain ⟨q0, q1, q2, q3, r0, r1, r2, r3, r4, r5, r6, r7, r8, r9⟩ := zz
 replace hb0 := bthen hb0 hB
 clear hc hB
 cases fb
 ·go_wp2
  all_goals go_ret
  all_goals exact ⟨rfl, hb0⟩
 go_wp2_with fail
 refine (HG.out _).mono ?_
 rintro E W4 ⟨rfl, hB⟩
 have hc := (bcell hB).1
 have zz := cy14 hc q0 q1 q2 q3 r0 r1 r2 r3 r4 r5 r6 r7 r8 r9
 clear q0 q1 q2 q3 r0 r1 r2 r3 r4 r5 r6 r7 r8 r9
 obtain ⟨q0, q1, q2, q3, r0, r1, r2, r3, r4, r5, r6, r7, r8, r9⟩ := zz
 replace hb0 := bthen hb0 hB
 clear hc hB
 cases gb
 case false =>
  cases d1
  case true =>
   have g1 := of_decide_eq_true D1.out
   go_wp2
   all_goals go_ret
   all_goals exact ⟨rfl, hb0⟩
  have g1 := of_decide_eq_false D1.out
  cases d2
  case false =>
   have g2 := of_decide_eq_false D2.out
   first | rw [if_neg (by decide)] at g2 | rw [if_pos rfl] at g2
   go_wp2
   all_goals go_ret
   all_goals exact ⟨rfl, hb0⟩
  have g2 := of_decide_eq_true D2.out
  first | rw [if_neg (by decide)] at g2 | rw [if_pos rfl] at g2
  have hk8 := K8.out
  cases k8
  all_goals
   go_wp2
   all_goals go_ret
   all_goals exact ⟨rfl, hb0⟩
 case true =>
  cases d1
  case true =>
   have g1 := of_decide_eq_true D1.out
   go_wp2
   all_goals go_ret
   all_goals exact ⟨rfl, hb0⟩
  have g1 := of_decide_eq_false D1.out
  cases d2
  case false =>
   have g2 := of_decide_eq_false D2.out
   first | rw [if_neg (by decide)] at g2 | rw [if_pos rfl] at g2
   go_wp2
   all_goals go_ret
   all_goals exact ⟨rfl, hb0⟩
  have g2 := of_decide_eq_true D2.out
  first | rw [if_neg (by decide)] at g2 | rw [if_pos rfl] at g2
  have hk8 := K8.out
  cases k8
  all_goals
   go_wp2
   all_goals go_ret
   all_goals exact ⟨rfl, hb0⟩
theorem c_rReport (m : Fm) (x : Rp) (w : World) (hm : m.In w) (hs : Sized m.f) (ok : RpOk x) (hz : x.sort.size ≤ 1000000) : Calls Tryz.prog 35 #[m.v, x.v] w fun e w' => e = .returned (.int .i64 (reportE m.f x)) ∧ Below w.heap.size w w' := by
 unfold reportE
 by_cases h : checkE m.f = 0
 ·rw [if_neg (fun k => k h), judge_formed]
  exact c_rReport_ok m x w hm hs h ok hz
 ·rw [if_pos h]
  exact c_rReport_no m x w hm hs h
end Go.Proofs.YtlppdgaogdpajaaGreatDoor
