/- This text is a part of the proof: Append, Counting, CountingTop. -/
import Derived.Test.YtlppdgaogdpajaaGreatDoorK10
import Derived.Deep.AppendLies
set_option maxRecDepth 100000
set_option maxHeartbeats 8000000
namespace Go.Proofs.YtlppdgaogdpajaaGreatDoor
open Go.RowKit Go.Shelf
attribute [local go_sem] Oper.semAt_some
theorem ownsRow_base {w : World} {n n0 : Nat} {e : TypeId} {size : Nat} {v : Value} {k : Nat} {xs : List Value} (h : w.ownsRow n e size v k xs) (hn : n0 ≤ n) : w.ownsRow n0 e size v k xs := by
 refine ⟨h.1, ?_⟩
 rcases h.2 with h | ⟨g, cap, cur, hv, hb, r⟩
 ·exact .inl h
 ·exact .inr ⟨g, cap, cur, hv, Nat.le_trans hn hb, r⟩
theorem ownR_snoc {w : World} {n : Nat} {v : Value} {l : List Rp} {x : Rp} (h : w.ownsRow n 39 10 v (l.length + 1) (cellsL rpC l ++ rpC x)) : OwnR w n v (l ++ [x]) := by
 unfold OwnR
 rw [show (l ++ [x]).length = l.length + 1 from by simp, cellsL_snoc]
 exact h
theorem news_drew (w : World) (cs : Array Value) (t : TypeId) : ∀ j u, cs.toList[j]? = some u → (w.alloc (.cells cs t)).drew.cell? ((⟨w.heap.size, 0, none⟩ : Addr).add j) = some u := fun j u hj => cells_new w cs t j u hj
theorem news_later {w w1 : World} {B : Nat} {vs : List Value} (h : ∀ j u, vs[j]? = some u → w.cell? ((⟨B, 0, none⟩ : Addr).add j) = some u) (hb : Below w.heap.size w w1) :
  ∀ j u, vs[j]? = some u → w1.cell? ((⟨B, 0, none⟩ : Addr).add j) = some u := by
 intro j u hj
 have h1 := h j u hj
 have e : (⟨B, 0, none⟩ : Addr).add j = ⟨B, j, none⟩ := by unfold Addr.add; split <;> simp_all
 rw [e] at h1 ⊢
 exact ((bcell hb).1 _ _ (cell_lt h1)).trans h1
theorem c_follows2 (m : Fm) (l : List Rp) (a : Option Addr) (cap : Nat) (x : Rp) (fb lb xb : Nat) (w : World) (hs : Small m.f) (ok : RpOk x) (hl : Rps w a l)
  (hf : CellsAt w fb 0 (feC m)) (hla : w.cell? ⟨lb, 0, none⟩ = some (.slice a l.length cap)) (hx : CellsAt w xb 0 (rpC x)) :
  Calls Tryz.prog 118 #[.pointer (some ⟨fb, 0, none⟩), .pointer (some ⟨lb, 0, none⟩), .pointer (some ⟨xb, 0, none⟩)] w fun e w' => e = endV (followE m.f l x) ∧ Below w.heap.size w w' := by
 obtain ⟨q0, q1, q2, q3⟩ := fe_cells hf
 obtain ⟨r0, r1, r2, r3, r4, r5, r6, r7, r8, r9⟩ := rp_cells hx
 have hj := fun W (hb : Below w.heap.size w W) => c_follow m l a cap x W hs ok (hl.later hb)
 obtain ⟨E, hE⟩ : ∃ E, followE m.f l x = E := ⟨_, rfl⟩
 rw [hE] at hj ⊢
 clear hf hx hs ok hl hE
 obtain ⟨id, known, kind, owner, sort, plc, tick, low, high, void⟩ := x
 dsimp only at r0 r1 r2 r3 r4 r5 r6 r7 r8 r9
 by_cases h : E = 0
 ·subst h
  rw [endV_0] at hj ⊢
  have HJ := Lib.hid hj
  clear hj
  go_enter Tryz.func118, Tryz.ntmps118
  go_wp2_with fail
  refine (via (w0 := w) (by go_grown) (HJ.out _ (by go_grown))).mono ?_
  rintro e W1 ⟨rfl, hc, hf, hz, hB⟩
  clear hc hf
  go_wp2
  go_end0
  exact ⟨rfl, hB⟩
 ·rw [endV_no h] at hj ⊢
  have HJ := Lib.hid hj
  clear hj h
  go_enter Tryz.func118, Tryz.ntmps118
  go_wp2_with fail
  refine (via (w0 := w) (by go_grown) (HJ.out _ (by go_grown))).mono ?_
  rintro e W1 ⟨rfl, hc, hf, hz, hB⟩
  clear hc hf
  go_wp2
  exact ⟨rfl, rfl, hB⟩
def GivesR (r : List Rp × Int) (w : World) (e : Ending) (w' : World) : Prop := ∃ v, e = .returned (.tuple #[v, .int .i64 r.2]) ∧ OwnR w' w.heap.size v r.1 ∧ Below w.heap.size w w'
theorem c_Append_no (m : Fm) (l : List Rp) (a : Option Addr) (cap : Nat) (x : Rp) (w : World) (hm : m.In w) (hl : Rps w a l) (hok : ∀ y ∈ l, RpOk y) (hcap : l.length ≤ cap) (h : (checkV m.f l).2 ≠ 0) :
  Calls Tryz.prog 31 #[m.v, .slice a l.length cap, x.v] w (GivesR ([], (checkV m.f l).2) w) := by
 have hmf : ∀ (fn : Fn) (first cap : Array Value) (w : World), (Instr.makeFunc fn first cap).run Tryz.prog w = .ok (.func fn first cap) w := fun _ _ _ _ => rfl
 have hC := fun W (hb : Below w.heap.size w W) => c_Check m l a cap W (hm.later hb) (hl.later hb) hok hcap
 generalize checkV m.f l = R at *
 obtain ⟨i, E⟩ := R
 dsimp only at h hC ⊢
 have he : (E != 0) = true := bne_iff_ne.2 h
 obtain ⟨id, known, kind, owner, sort, plc, tick, low, high, void⟩ := x
 have HC := Lib.hid hC
 clear hC h hm hl hok hcap
 go_enter Tryz.func31, Tryz.ntmps31
 go_upto_region 1 with (fail)
 go_name_world W1 hW1
 have hb0 : Below w.heap.size w W1 := by subst hW1; go_grown
 obtain ⟨q0, q1, q2, q3⟩ := (show QB m W1 w.heap.size from by subst hW1; and_intros <;> go_simp)
 have la : W1.cell? ⟨w.heap.size + 1, 0, none⟩ = some (.slice a l.length cap) := by subst hW1; go_simp
 obtain ⟨r0, r1, r2, r3, r4, r5, r6, r7, r8, r9⟩ := (show RB id known kind owner sort plc tick low high void W1 (w.heap.size + 1 + 1) from by subst hW1; and_intros <;> go_simp)
 clear hW1 
 go_wp2_with fail
 refine (via (w0 := W1) (by go_grown) (HC.out _ hb0)).mono ?_
 rintro e W2 ⟨rfl, hc, hf, hz, hB⟩
 have zz := cy15 hc q0 q1 q2 q3 la r0 r1 r2 r3 r4 r5 r6 r7 r8 r9
 clear q0 q1 q2 q3 la r0 r1 r2 r3 r4 r5 r6 r7 r8 r9
 obtain ⟨q0, q1, q2, q3, la, r0, r1, r2, r3, r4, r5, r6, r7, r8, r9⟩ := zz
 replace hb0 : Below w.heap.size w W2 := bthen hb0 hB
 have hzW2 : W1.heap.size ≤ W2.heap.size := hz
 clear hc hf hB hz
 go_wp2_with fail
 go_ret2
 exact ⟨_, rfl, World.ownsRow_nil _ _ _ _, by have hbz := hb0.size; go_grown⟩
theorem c_Append_er (m : Fm) (l : List Rp) (a : Option Addr) (cap : Nat) (x : Rp) (w : World) (hm : m.In w) (hl : Rps w a l) (hok : ∀ y ∈ l, RpOk y) (ok : RpOk x) (hcap : l.length ≤ cap) (h : (checkV m.f l).2 = 0) (h2 : followE m.f l x ≠ 0) :
  Calls Tryz.prog 31 #[m.v, .slice a l.length cap, x.v] w (GivesR ([], followE m.f l x) w) := by
 have hmf : ∀ (fn : Fn) (first cap : Array Value) (w : World), (Instr.makeFunc fn first cap).run Tryz.prog w = .ok (.func fn first cap) w := fun _ _ _ _ => rfl
 have hC := fun W (hb : Below w.heap.size w W) => c_Check m l a cap W (hm.later hb) (hl.later hb) hok hcap
 have hch : checkE m.f = 0 := by
  unfold checkV at h
  by_cases hc : checkE m.f = 0
  ·exact hc
  ·rw [if_pos hc] at h; exact absurd h hc
 have hs := (right_of hch).small
 clear hch
 have eg : Ent 118 := enters_of Tryz.func118 (by kernel_rfl) rfl
 have hT := fun (W : World) (hb : Below w.heap.size w W) (hf : CellsAt W w.heap.size 0 (feC m)) (hla : W.cell? ⟨w.heap.size + 1, 0, none⟩ = some (.slice a l.length cap)) (hx : CellsAt W (w.heap.size + 2) 0 (rpC x)) =>
  c_tried 118 eg #[.pointer (some ⟨w.heap.size, 0, none⟩), .pointer (some ⟨w.heap.size + 1, 0, none⟩), .pointer (some ⟨w.heap.size + 2, 0, none⟩)] (followE m.f l x) W fun V hv =>
   c_follows2 m l a cap x _ _ _ V hs ok (hl.later (bthen hb hv)) (cells_later hf hv) (((bcell hv).1 _ _ (cell_lt hla)).trans hla) (cells_later hx hv)
 generalize followE m.f l x = F at *
 have hf0 : (F != 0) = true := bne_iff_ne.2 h2
 have HT := Lib.hid hT
 clear hT
 generalize checkV m.f l = R at *
 obtain ⟨i, E⟩ := R
 dsimp only at h hC ⊢
 subst h
 obtain ⟨id, known, kind, owner, sort, plc, tick, low, high, void⟩ := x
 have HC := Lib.hid hC
 clear hC hm ok hl hok hcap hs h2
 go_enter Tryz.func31, Tryz.ntmps31
 go_upto_region 1 with (fail)
 go_name_world W1 hW1
 have hb0 : Below w.heap.size w W1 := by subst hW1; go_grown
 obtain ⟨q0, q1, q2, q3⟩ := (show QB m W1 w.heap.size from by subst hW1; and_intros <;> go_simp)
 have la : W1.cell? ⟨w.heap.size + 1, 0, none⟩ = some (.slice a l.length cap) := by subst hW1; go_simp
 obtain ⟨r0, r1, r2, r3, r4, r5, r6, r7, r8, r9⟩ := (show RB id known kind owner sort plc tick low high void W1 (w.heap.size + 1 + 1) from by subst hW1; and_intros <;> go_simp)
 clear hW1 
 go_wp2_with fail
 refine (via (w0 := W1) (by go_grown) (HC.out _ hb0)).mono ?_
 rintro e W2 ⟨rfl, hc, hf, hz, hB⟩
 have zz := cy15 hc q0 q1 q2 q3 la r0 r1 r2 r3 r4 r5 r6 r7 r8 r9
 clear q0 q1 q2 q3 la r0 r1 r2 r3 r4 r5 r6 r7 r8 r9
 obtain ⟨q0, q1, q2, q3, la, r0, r1, r2, r3, r4, r5, r6, r7, r8, r9⟩ := zz
 replace hb0 : Below w.heap.size w W2 := bthen hb0 hB
 have hzW2 : W1.heap.size ≤ W2.heap.size := hz
 clear hc hf hB hz
 go_wp2_with fail
 refine (via (w0 := W2) (by go_grown) (HT.out _ hb0 (cells_4 q0 q1 q2 q3) la (cells_10 r0 r1 r2 r3 r4 r5 r6 r7 r8 r9))).mono ?_
 rintro e W3 ⟨rfl, hc, hf, hz, hB⟩
 have zz := cy15 hc q0 q1 q2 q3 la r0 r1 r2 r3 r4 r5 r6 r7 r8 r9
 clear q0 q1 q2 q3 la r0 r1 r2 r3 r4 r5 r6 r7 r8 r9
 obtain ⟨q0, q1, q2, q3, la, r0, r1, r2, r3, r4, r5, r6, r7, r8, r9⟩ := zz
 replace hb0 : Below w.heap.size w W3 := bthen hb0 hB
 have hzW3 : W2.heap.size ≤ W3.heap.size := hz
 clear hc hf hB hz
 go_wp2_with fail
 go_ret2
 exact ⟨_, rfl, World.ownsRow_nil _ _ _ _, by have hbz := hb0.size; go_grown⟩
theorem c_Append_ok (m : Fm) (l : List Rp) (a : Option Addr) (cap : Nat) (x : Rp) (w : World) (hm : m.In w) (hl : Rps w a l) (hok : ∀ y ∈ l, RpOk y) (ok : RpOk x) (hcap : l.length ≤ cap) (ha : a = none → cap = 0) (h : (checkV m.f l).2 = 0) (h2 : followE m.f l x = 0) :
    Calls Tryz.prog 31 #[m.v, .slice a l.length cap, x.v] w (GivesR (l ++ [x], 0) w) := by
  have hmf : ∀ (fn : Fn) (first cap : Array Value) (w : World), (Instr.makeFunc fn first cap).run Tryz.prog w = .ok (.func fn first cap) w := fun _ _ _ _ => rfl
  have hC := fun W (hb : Below w.heap.size w W) => c_Check m l a cap W (hm.later hb) (hl.later hb) hok hcap
  have hch : checkE m.f = 0 := by
    unfold checkV at h
    by_cases hc : checkE m.f = 0
    · exact hc
    · rw [if_pos hc] at h; exact absurd h hc
  have hs := (right_of hch).small
  clear hch
  have eg : Ent 118 := enters_of Tryz.func118 (by kernel_rfl) rfl
  have hT := fun (W : World) (hb : Below w.heap.size w W) (hf : CellsAt W w.heap.size 0 (feC m)) (hla : W.cell? ⟨w.heap.size + 1, 0, none⟩ = some (.slice a l.length cap)) (hx : CellsAt W (w.heap.size + 2) 0 (rpC x)) =>
    c_tried 118 eg #[.pointer (some ⟨w.heap.size, 0, none⟩), .pointer (some ⟨w.heap.size + 1, 0, none⟩), .pointer (some ⟨w.heap.size + 2, 0, none⟩)] (followE m.f l x) W fun V hv =>
      c_follows2 m l a cap x _ _ _ V hs ok (hl.later (bthen hb hv)) (cells_later hf hv) (((bcell hv).1 _ _ (cell_lt hla)).trans hla) (cells_later hx hv)
  have hlen : l.length < 300 := by
    rw [follow_eq] at h2
    by_cases hn : 300 ≤ l.length
    · rw [if_pos hn] at h2; cases h2
    · omega
  rw [h2] at hT
  have HT := Lib.hid hT
  clear hT
  generalize checkV m.f l = R at *
  obtain ⟨i, E⟩ := R
  dsimp only at h hC ⊢
  subst h
  have hCl := fun W (hb : Below w.heap.size w W) => (c_CloneRp l a cap W (hl.later hb) (by omega) ha).mono fun e w' (h : ∃ v, e = .returned v ∧ OwnR w' W.heap.size v l ∧ Below W.heap.size W w') => (show ∃ v, e = .returned v ∧ OwnR w' w.heap.size v l ∧ Below W.heap.size W w' from by obtain ⟨v, h1, h2, h3⟩ := h; exact ⟨v, h1, ownsRow_base h2 hb.size, h3⟩)
  have HCl := Lib.hid hCl
  clear hCl
  obtain ⟨i0, hi0, hz0, hz1, hz2⟩ := info_parts rp_info
  obtain ⟨id, known, kind, owner, sort, plc, tick, low, high, void⟩ := x
  have HC := Lib.hid hC
  clear hC hm ok hl hok hcap hs h2
  clear ha
  go_enter Tryz.func31, Tryz.ntmps31
  go_upto_region 1 with (fail)
  go_name_world W1 hW1
  have hb0 : Below w.heap.size w W1 := by subst hW1; go_grown
  obtain ⟨q0, q1, q2, q3⟩ := (show QB m W1 w.heap.size from by subst hW1; and_intros <;> go_simp)
  have la : W1.cell? ⟨w.heap.size + 1, 0, none⟩ = some (.slice a l.length cap) := by subst hW1; go_simp
  obtain ⟨r0, r1, r2, r3, r4, r5, r6, r7, r8, r9⟩ := (show RB id known kind owner sort plc tick low high void W1 (w.heap.size + 1 + 1) from by subst hW1; and_intros <;> go_simp)
  clear hW1 
  go_wp2_with fail
  refine (via (w0 := W1) (by go_grown) (HC.out _ hb0)).mono ?_
  rintro e W2 ⟨rfl, hc, hf, hz, hB⟩
  have zz := cy15 hc q0 q1 q2 q3 la r0 r1 r2 r3 r4 r5 r6 r7 r8 r9
  clear q0 q1 q2 q3 la r0 r1 r2 r3 r4 r5 r6 r7 r8 r9
  obtain ⟨q0, q1, q2, q3, la, r0, r1, r2, r3, r4, r5, r6, r7, r8, r9⟩ := zz
  replace hb0 : Below w.heap.size w W2 := bthen hb0 hB
  have hzW2 : W1.heap.size ≤ W2.heap.size := hz
  clear hc hf hB hz
  go_wp2_with fail
  refine (via (w0 := W2) (by go_grown) (HT.out _ hb0 (cells_4 q0 q1 q2 q3) la (cells_10 r0 r1 r2 r3 r4 r5 r6 r7 r8 r9))).mono ?_
  rintro e W3 ⟨rfl, hc, hf, hz, hB⟩
  have zz := cy15 hc q0 q1 q2 q3 la r0 r1 r2 r3 r4 r5 r6 r7 r8 r9
  clear q0 q1 q2 q3 la r0 r1 r2 r3 r4 r5 r6 r7 r8 r9
  obtain ⟨q0, q1, q2, q3, la, r0, r1, r2, r3, r4, r5, r6, r7, r8, r9⟩ := zz
  replace hb0 : Below w.heap.size w W3 := bthen hb0 hB
  have hzW3 : W2.heap.size ≤ W3.heap.size := hz
  clear hc hf hB hz
  go_upto_region 7 with (fail)
  have HL0 := Lib.hid hb0
  have zr := cell_lt r0
  have zla := cell_lt la
  go_region_law (first
    | (go_simp
       go_at_call 119
       refine (HCl.out _ (by have hbz := HL0.out.size; have hb0 := HL0.out; go_grown)).mono ?_
       rintro e WC ⟨v, rfl, hO, hB⟩
       have c0 : WC.cell? ⟨w.heap.size + 1 + 1, 0, none⟩ = some (.int .i64 id) := ((bcell hB).1 _ _ (by simp; omega)).trans (by go_simp)
       have c1 : WC.cell? ⟨w.heap.size + 1 + 1, 1, none⟩ = some (.int .i64 known) := ((bcell hB).1 _ _ (by simp; omega)).trans (by go_simp)
       have c2 : WC.cell? ⟨w.heap.size + 1 + 1, 2, none⟩ = some (.int .u8 kind) := ((bcell hB).1 _ _ (by simp; omega)).trans (by go_simp)
       have c3 : WC.cell? ⟨w.heap.size + 1 + 1, 3, none⟩ = some (.int .i64 owner) := ((bcell hB).1 _ _ (by simp; omega)).trans (by go_simp)
       have c4 : WC.cell? ⟨w.heap.size + 1 + 1, 4, none⟩ = some (.string sort) := ((bcell hB).1 _ _ (by simp; omega)).trans (by go_simp)
       have c5 : WC.cell? ⟨w.heap.size + 1 + 1, 5, none⟩ = some (.int .i64 plc) := ((bcell hB).1 _ _ (by simp; omega)).trans (by go_simp)
       have c6 : WC.cell? ⟨w.heap.size + 1 + 1, 6, none⟩ = some (.int .i64 tick) := ((bcell hB).1 _ _ (by simp; omega)).trans (by go_simp)
       have c7 : WC.cell? ⟨w.heap.size + 1 + 1, 7, none⟩ = some (.int .i64 low) := ((bcell hB).1 _ _ (by simp; omega)).trans (by go_simp)
       have c8 : WC.cell? ⟨w.heap.size + 1 + 1, 8, none⟩ = some (.int .i64 high) := ((bcell hB).1 _ _ (by simp; omega)).trans (by go_simp)
       have c9 : WC.cell? ⟨w.heap.size + 1 + 1, 9, none⟩ = some (.int .i64 void) := ((bcell hB).1 _ _ (by simp; omega)).trans (by go_simp)
       have HBW := Lib.hid (bthen (show Below w.heap.size w _ from by have hbz := HL0.out.size; have hb0 := HL0.out; go_grown) hB)
       have HO := Lib.hid hO
       have HB := Lib.hid hB
       clear hO hB)
    | (refine step_append_lies _ rfl (.tmp 26) (.tmp 28) 37 rfl w.heap.size 39 i0 _ 10 88 Tryz.underlying37 hi0 hz0 hz1 hz2 rfl (by decide) _ l.length (cellsL rpC l) rfl (by first | exact HO.out | exact HO.out.alloc _) ⟨_, 0, none⟩ 1 1 (rpC ⟨id, known, kind, owner, sort, plc, tick, low, high, void⟩) rfl rfl (by first | exact cells_new _ #[_, _, _, _, _, _, _, _, _, _] _ | exact news_later (news_drew W3 #[_, _, _, _, _, _, _, _, _, _] _) HB.out) (by simp [rpC, Value.oneCell']) (by omega) (by unfold maxLen; omega) (by omega) (by have := HBW.out.size; first | exact this | (simp; omega)) _ rfl ?_
       intro g cap' w' hown hgrow _ _
       have HOF := Lib.hid hown
       have HBF := Lib.hid ((show Below w.heap.size w _ from by have hbw := HBW.out; have hbz := hbw.size; go_grown).trans ((kept_of_grown hgrow).below (by have := HBW.out.size; first | exact this | (simp; omega)) (fun j hj => (HO.out.lt j hj).1)))
       clear hown hgrow))
  all_goals
    go_wp2
    go_ret2
    exact ⟨_, rfl, ownR_snoc HOF.out, HBF.out⟩
theorem c_Append (m : Fm) (l : List Rp) (a : Option Addr) (cap : Nat) (x : Rp) (w : World) (hm : m.In w) (hl : Rps w a l) (hok : ∀ y ∈ l, RpOk y) (ok : RpOk x) (hcap : l.length ≤ cap) (ha : a = none → cap = 0) :
  Calls Tryz.prog 31 #[m.v, .slice a l.length cap, x.v] w (GivesR (appendV m.f l x) w) := by
 unfold appendV
 by_cases h : (checkV m.f l).2 = 0
 ·rw [if_neg (by omega)]
  by_cases h2 : followE m.f l x = 0
  ·rw [if_neg (by omega)]; exact c_Append_ok m l a cap x w hm hl hok ok hcap ha h h2
  ·rw [if_pos h2]; exact c_Append_er m l a cap x w hm hl hok ok hcap h h2
 ·rw [if_pos h]; exact c_Append_no m l a cap x w hm hl hok hcap h
theorem news_at (w : World) (cs : Array Value) (t : TypeId) (B : Nat) (hB : B = w.heap.size) : ∀ j u, cs.toList[j]? = some u → (w.alloc (.cells cs t)).cell? ((⟨B, 0, none⟩ : Addr).add j) = some u := by
 subst hB
 exact cells_new w cs t
def voidK (l : List Rp) (known t : Int) : Bool := l.any fun y => y.kind == 8 && decide (y.known ≤ known) && y.void == t
theorem voidK_no {l : List Rp} {k : Nat} {x : Rp} {known : Int} (hx : l[k]? = some x) (h : (x.kind == 8 && decide (x.known ≤ known)) = false) : voidK (l.take (k + 1)) known = voidK (l.take k) known := by
 funext t
 rw [take_some hx]
 unfold voidK
 rw [List.any_append, List.any_cons, h]
 simp
theorem voidK_yes {l : List Rp} {k : Nat} {x : Rp} {known : Int} (hx : l[k]? = some x) (h : (x.kind == 8 && decide (x.known ≤ known)) = true) : voidK (l.take (k + 1)) known = fun t => if t = x.void then true else voidK (l.take k) known t := by
 funext t
 rw [take_some hx]
 unfold voidK
 rw [List.any_append, List.any_cons, h, Bool.true_and, List.any_nil, Bool.or_false]
 by_cases e : t = x.void
 ·subst e; simp
 ·have : (x.void == t) = false := beq_eq_false_iff_ne.2 (fun h => e h.symm)
  rw [this, if_neg e, Bool.or_false]
def countK (l : List Rp) (known : Int) (k : Nat) : List Rp := (l.take k).filter (countsB l known)
theorem countsB_eq (l : List Rp) (known : Int) (x : Rp) : countsB l known x = (x.kind != 8 && decide (x.known ≤ known) && !voidK l known x.id) := rfl
theorem countK_no {l : List Rp} {k : Nat} {x : Rp} {known : Int} (hx : l[k]? = some x) (h : countsB l known x = false) : countK l known (k + 1) = countK l known k := by
 unfold countK
 rw [take_some hx, List.filter_append, List.filter_cons, h]
 simp
theorem countK_yes {l : List Rp} {k : Nat} {x : Rp} {known : Int} (hx : l[k]? = some x) (h : countsB l known x = true) : countK l known (k + 1) = countK l known k ++ [x] := by
 unfold countK
 rw [take_some hx, List.filter_append, List.filter_cons, h]
 simp
theorem countK_all (l : List Rp) (known : Int) : countK l known l.length = countL l known := by
 unfold countK countL
 rw [List.take_length]
theorem countK_len (l : List Rp) (known : Int) (k : Nat) : (countK l known k).length ≤ k := by
 unfold countK
 exact Nat.le_trans (List.length_filter_le _ _) (by rw [List.length_take]; omega)
theorem c_counting (l : List Rp) (a : Option Addr) (cap : Nat) (known : Int) (w : World) (hl : Rps w a l) (hlen : l.length ≤ 10000) (hr : ∀ x ∈ l, 0 ≤ x.id ∧ x.id ≤ 1000000 ∧ 0 ≤ x.void ∧ x.void ≤ 1000000) :
  Calls Tryz.prog 126 #[.slice a l.length cap, .int .i64 known] w fun e w' => ∃ v, e = .returned v ∧ OwnR w' w.heap.size v (countL l known) ∧ Below w.heap.size w w' := by
 have HL := Lib.hid hl
 have HR := Lib.hid hr
 clear hl hr
 obtain ⟨i0, hi0, hz0, hz1, hz2⟩ := info_parts rp_info
 have hmm := @run_makeMap Tryz.prog
 go_enter Tryz.func126, Tryz.ntmps126
 go_wp2
 go_loopw [14] (fun v14 wr => ∃ k n : Nat, k ≤ l.length ∧ n ≤ k ∧ v14 = .int .i64 k ∧ SetI wr w.heap.size n (voidK (l.take k) known) ∧ Below w.heap.size w wr ∧ w.heap.size < wr.heap.size) (fun v14 _ => l.length - (intOf v14).toNat)
 case atStart => exact ⟨0, 0, by omega, by omega, rfl, SetI.made w, (Below.refl _ _).alloc (Nat.le_refl _) _, by simp⟩
 case round =>
  obtain ⟨k, n, hk, hn, rfl, hm, hb, hz⟩ := hrel
  have HM := Lib.hid hm
  clear hm hmm
  by_cases hlt : k < l.length
  ·obtain ⟨x, hx⟩ := some_at hlt
   obtain ⟨b, o, rfl, hat⟩ := (HL.out.later hb).at hx
   obtain ⟨y0, y1, y2, y3, y4, y5, y6, y7, y8, y9⟩ := rp_cells hat
   have hsz := HR.out x (some_mem hx)
   have HX := Lib.hid hx
   have hidx : ¬ ((k : Int) < 0) := by omega
   have hidx2 : (k : Int) < (l.length : Int) := by omega
   have zb := cell_lt y0
   clear hat hx
   cases h8 : (x.kind == 8)
   ·have HN := Lib.hid (voidK_no (known := known) HX.out (by rw [h8]; rfl))
    go_wp2
    go_roundw
    case rel => exact ⟨k + 1, n, by omega, by omega, by go_num, by rw [HN.out]; exact HM.out.later (by go_grown), by go_grown, by simp; omega⟩
    case measure => simp [intOf]; omega
   ·cases hkn : decide (x.known ≤ known)
    ·have HN := Lib.hid (voidK_no (known := known) HX.out (by rw [h8, hkn]; rfl))
     go_wp2
     go_roundw
     case rel => exact ⟨k + 1, n, by omega, by omega, by go_num, by rw [HN.out]; exact HM.out.later (by go_grown), by go_grown, by simp; omega⟩
     case measure => simp [intOf]; omega
    ·have HN := Lib.hid (voidK_yes (known := known) HX.out (by rw [h8, hkn]; rfl))
     go_wp2_with (at_mapUpdate; refine stuckHere ?_)
     refine unHid ?_
     refine (HM.out.later (show Below wr.heap.size wr _ from by go_grown)).put (by omega) rfl _ _ _ rfl rfl x.void (by omega) rfl true rfl ?_
     intro w1 hm1 hgrow
     have hbb : Below w.heap.size w w1 := (show Below w.heap.size w _ from by go_grown).trans ((kept_of_grown hgrow).below (by simp; omega) (fun j hj => by cases hj; exact Nat.le_refl _))
     have hz1 : w.heap.size < w1.heap.size := Nat.lt_of_lt_of_le (by simp; omega) (kept_of_grown hgrow).size
     have HM2 := Lib.hid hm1
     have HB := Lib.hid hbb
     clear hm1 hgrow hbb
     go_wp2
     go_roundw
     case rel => exact ⟨k + 1, n + 1, by omega, by omega, by go_num, by rw [HN.out]; exact HM2.out, HB.out, hz1⟩
     case measure => simp [intOf]; omega
  ·obtain rfl : k = l.length := by omega
   have hm := HM.out
   rw [List.take_length] at hm
   have HM2 := Lib.hid hm
   clear hm HM
   go_wp2
   go_loopw [8, 33] (fun v8 v33 wr => ∃ k : Nat, k ≤ l.length ∧ v33 = .int .i64 k ∧ wr.ownsRow (w.heap.size + 1) 39 10 v8 (countK l known k).length (cellsL rpC (countK l known k)) ∧ SetI wr w.heap.size n (voidK l known) ∧ Below w.heap.size w wr ∧ w.heap.size < wr.heap.size) (fun _ v33 _ => l.length - (intOf v33).toNat)
   case atStart => exact ⟨0, by omega, rfl, World.ownsRow_nil _ _ _ _, HM2.out, hb, hz⟩
   case round =>
    clear HM2 hb hz hn
    obtain ⟨k, hk, rfl, hown, hm, hb, hz⟩ := hrel
    have HM := Lib.hid hm
    have HO := Lib.hid hown
    clear hm hown
    by_cases hlt : k < l.length
    ·obtain ⟨x, hx⟩ := some_at hlt
     obtain ⟨b, o, rfl, hat⟩ := (HL.out.later hb).at hx
     obtain ⟨y0, y1, y2, y3, y4, y5, y6, y7, y8, y9⟩ := rp_cells hat
     have hsz := HR.out x (some_mem hx)
     have HX := Lib.hid hx
     have hidx : ¬ ((k : Int) < 0) := by omega
     have hidx2 : (k : Int) < (l.length : Int) := by omega
     have zb := cell_lt y0
     have hkl := countK_len l known k
     have hlook := (HM.out.later (show Below wr.heap.size wr (wr.alloc (.cells #[.int .i64 x.id, .int .i64 x.known, .int .u8 x.kind, .int .i64 x.owner, .string x.sort, .int .i64 x.plc, .int .i64 x.tick, .int .i64 x.low, .int .i64 x.high, .int .i64 x.void] 39)) from by go_grown)).look x.id (by omega)
     clear hat hx
     cases h8 : (x.kind != 8)
     ·have HN := Lib.hid (countK_no (known := known) HX.out (by rw [countsB_eq, h8]; rfl))
      go_wp2
      go_roundw
      case rel => exact ⟨k + 1, by omega, by go_num, by rw [HN.out]; exact HO.out.alloc _, HM.out.later (by go_grown), by go_grown, by simp; omega⟩
      case measure => simp [intOf]; omega
     ·cases hkn : decide (x.known ≤ known)
      ·have HN := Lib.hid (countK_no (known := known) HX.out (by rw [countsB_eq, h8, hkn]; rfl))
       go_wp2
       go_roundw
       case rel => exact ⟨k + 1, by omega, by go_num, by rw [HN.out]; exact HO.out.alloc _, HM.out.later (by go_grown), by go_grown, by simp; omega⟩
       case measure => simp [intOf]; omega
      ·cases hv : voidK l known x.id
       ·rw [hv] at hlook
        have HN := Lib.hid (countK_yes (known := known) HX.out (by rw [countsB_eq, h8, hkn, hv]; rfl))
        have HV := Lib.hid hv
        clear hv
        go_wp2_with (at_builtin; refine stuckHere ?_)
        refine unHid ?_
        refine wpList_append_own_at _ rfl _ _ 37 rfl (w.heap.size + 1) 39 i0 _ 10 88 Tryz.underlying37 hi0 hz0 hz1 hz2 rfl (by decide) _ _ _ rfl ((HO.out.alloc _).alloc _) ⟨_, 0, none⟩ 1 1 (rpC x) rfl rfl (news_at _ #[_, _, _, _, _, _, _, _, _, _] _ _ (by simp)) (by simp [rpC, Value.oneCell']) (by unfold maxLen; omega) (by omega) (by simp; omega) ?_
        intro v' w1 hown' hgrow _ hat
        have hown2 : w1.ownsRow (w.heap.size + 1) 39 10 v' (countK l known (k + 1)).length (cellsL rpC (countK l known (k + 1))) := by
         rw [HN.out, List.length_append, cellsL_snoc]
         exact hown'
        have hbb : Below w.heap.size w w1 := (show Below w.heap.size w _ from by go_grown).trans ((kept_of_grown hgrow).below (by simp; omega) (fun j hj => Nat.le_of_succ_le (HO.out.lt j hj).1))
        have hm1 : SetI w1 w.heap.size n (voidK l known) := (HM.out.later (show Below wr.heap.size wr _ from by go_grown)).kept (kept_of_grown hgrow) (fun h => by have := (HO.out.lt _ h).1; omega)
        have hz1 : w.heap.size < w1.heap.size := Nat.lt_of_lt_of_le (by simp; omega) (kept_of_grown hgrow).size
        have HB := Lib.hid hbb
        have HM2 := Lib.hid hm1
        have HW2 := Lib.hid hown2
        clear hown' hgrow hat hown2 hbb hm1
        go_wp2
        go_roundw
        case rel => exact ⟨k + 1, by omega, by go_num, HW2.out, HM2.out, HB.out, hz1⟩
        case measure => simp [intOf]; omega
       ·rw [hv] at hlook
        have HN := Lib.hid (countK_no (known := known) HX.out (by rw [countsB_eq, h8, hkn, hv]; rfl))
        have HV := Lib.hid hv
        clear hv
        go_wp2
        go_roundw
        case rel => exact ⟨k + 1, by omega, by go_num, by rw [HN.out]; exact HO.out.alloc _, HM.out.later (by go_grown), by go_grown, by simp; omega⟩
        case measure => simp [intOf]; omega
    ·obtain rfl : k = l.length := by omega
     have ho := HO.out
     rw [countK_all] at ho
     have HO2 := Lib.hid (ownsRow_base ho (Nat.le_succ _))
     clear ho HO HM
     go_wp2
     go_ret
     exact ⟨_, rfl, HO2.out, hb⟩
def countV (f : Fe) (l : List Rp) (known : Int) : List Rp × Int := if (checkV f l).2 ≠ 0 then ([], (checkV f l).2) else (countL l known, 0)
theorem c_Counting_no (m : Fm) (l : List Rp) (a : Option Addr) (cap : Nat) (known : Int) (w : World) (hm : m.In w) (hl : Rps w a l) (hok : ∀ y ∈ l, RpOk y) (hcap : l.length ≤ cap) (h : (checkV m.f l).2 ≠ 0) :
  Calls Tryz.prog 38 #[m.v, .slice a l.length cap, .int .i64 known] w (GivesR ([], (checkV m.f l).2) w) := by
 have hC := fun W (hb : Below w.heap.size w W) => c_Check m l a cap W (hm.later hb) (hl.later hb) hok hcap
 generalize checkV m.f l = R at *
 obtain ⟨i, E⟩ := R
 dsimp only at h hC ⊢
 have he : (E != 0) = true := bne_iff_ne.2 h
 have HC := Lib.hid hC
 clear hC h hm hl hok hcap
 go_enter Tryz.func38, Tryz.ntmps38
 go_upto_region 1 with (fail)
 go_name_world W1 hW1
 have hb0 : Below w.heap.size w W1 := by subst hW1; go_grown
 obtain ⟨q0, q1, q2, q3⟩ := (show QB m W1 w.heap.size from by subst hW1; and_intros <;> go_simp)
 clear hW1 
 go_wp2_with fail
 refine (via (w0 := W1) (by go_grown) (HC.out _ hb0)).mono ?_
 rintro e W2 ⟨rfl, hc, hf, hz, hB⟩
 have zz := cy4 hc q0 q1 q2 q3
 clear q0 q1 q2 q3
 obtain ⟨q0, q1, q2, q3⟩ := zz
 replace hb0 : Below w.heap.size w W2 := bthen hb0 hB
 have hzW2 : W1.heap.size ≤ W2.heap.size := hz
 clear hc hf hB hz
 go_wp2_with fail
 go_ret2
 exact ⟨_, rfl, World.ownsRow_nil _ _ _ _, by have hbz := hb0.size; go_grown⟩
theorem c_Counting_ok (m : Fm) (l : List Rp) (a : Option Addr) (cap : Nat) (known : Int) (w : World) (hm : m.In w) (hl : Rps w a l) (hok : ∀ y ∈ l, RpOk y) (hcap : l.length ≤ cap) (h : (checkV m.f l).2 = 0) :
  Calls Tryz.prog 38 #[m.v, .slice a l.length cap, .int .i64 known] w (GivesR (countL l known, 0) w) := by
 have hC := fun W (hb : Below w.heap.size w W) => c_Check m l a cap W (hm.later hb) (hl.later hb) hok hcap
 have hlg := check_ok h
 have hN := fun W (hb : Below w.heap.size w W) => (c_counting l a cap known W (hl.later hb) (by have := hlg.few; omega) (fun x hx => (hlg.judged x hx).nums)).mono fun e w' (h : ∃ v, e = .returned v ∧ OwnR w' W.heap.size v (countL l known) ∧ Below W.heap.size W w') => (show ∃ v, e = .returned v ∧ OwnR w' w.heap.size v (countL l known) ∧ Below W.heap.size W w' from by obtain ⟨v, h1, h2, h3⟩ := h; exact ⟨v, h1, ownsRow_base h2 hb.size, h3⟩)
 generalize checkV m.f l = R at *
 obtain ⟨i, E⟩ := R
 dsimp only at h hC ⊢
 subst h
 have HC := Lib.hid hC
 have HN := Lib.hid hN
 clear hC hm hl hok hcap hN hlg
 go_enter Tryz.func38, Tryz.ntmps38
 go_upto_region 1 with (fail)
 go_name_world W1 hW1
 have hb0 : Below w.heap.size w W1 := by subst hW1; go_grown
 obtain ⟨q0, q1, q2, q3⟩ := (show QB m W1 w.heap.size from by subst hW1; and_intros <;> go_simp)
 clear hW1 
 go_wp2_with fail
 refine (via (w0 := W1) (by go_grown) (HC.out _ hb0)).mono ?_
 rintro e W2 ⟨rfl, hc, hf, hz, hB⟩
 have zz := cy4 hc q0 q1 q2 q3
 clear q0 q1 q2 q3
 obtain ⟨q0, q1, q2, q3⟩ := zz
 replace hb0 : Below w.heap.size w W2 := bthen hb0 hB
 have hzW2 : W1.heap.size ≤ W2.heap.size := hz
 clear hc hf hB hz
 go_wp2_with fail
 refine (HN.out _ hb0).mono ?_
 rintro e W3 ⟨v, rfl, hO, hB⟩
 have HO := Lib.hid hO
 have hbn := bthen hb0 hB
 clear hO hB
 go_wp2
 go_ret2
 exact ⟨_, rfl, HO.out, hbn⟩
theorem c_Counting (m : Fm) (l : List Rp) (a : Option Addr) (cap : Nat) (known : Int) (w : World) (hm : m.In w) (hl : Rps w a l) (hok : ∀ y ∈ l, RpOk y) (hcap : l.length ≤ cap) : Calls Tryz.prog 38 #[m.v, .slice a l.length cap, .int .i64 known] w (GivesR (countV m.f l known) w) := by
 unfold countV
 by_cases h : (checkV m.f l).2 = 0
 ·rw [if_neg (by omega)]; exact c_Counting_ok m l a cap known w hm hl hok hcap h
 ·rw [if_pos h]; exact c_Counting_no m l a cap known w hm hl hok hcap h
end Go.Proofs.YtlppdgaogdpajaaGreatDoor
