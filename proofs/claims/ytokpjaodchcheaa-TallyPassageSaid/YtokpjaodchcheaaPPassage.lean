/- This text proves that the law TallyPassage holds: for every list of rates, list of tallies and integer it returns true, and they read behind the call as they read before. -/
import Derived.Test.YtokpjaodchcheaaShut
import Derived.Test.YtokpjaodchcheaaRows
import Derived.Test.YtokpjaodchcheaaPassage
import Derived.Test.YtokpjaodchcheaaCounted
import Derived.Test.YtokpjaodchcheaaOpen
namespace Go.Proofs.Ytokpjaodchcheaa.tallyPassage
open Go.ChangeShapes Go.WideShapes Go.ChangeAt Go.RowKit Go.Joins Go.Deep

theorem pass_err {R : List Rt} {C : List Ct} {x : Iv} {pr : List Int} {e : Int} (h : passV R C = (x, pr, e)) (he : ¬ e = 0) : x = Iv.none ∧ pr = [] := by
  unfold passV at h
  split at h
  · cases h; exact ⟨rfl, rfl⟩
  split at h
  · cases h; exact ⟨rfl, rfl⟩
  split at h
  · cases h; exact ⟨rfl, rfl⟩
  split at h
  · simp only [Prod.mk.injEq] at h; exact absurd h.2.2.symm he
  · simp only [Prod.mk.injEq] at h; exact absurd h.2.2.symm he
theorem pass_ok {R : List Rt} {C : List Ct} {x : Iv} {pr : List Int} (h : passV R C = (x, pr, 0)) :
    0 < C.length ∧ R.length = C.length ∧ (∀ k, k < C.length → okP (rt R k) (ct C k) = true) ∧ x = allV (ivsP R C) ∧ (x.some = true → pr = []) ∧ (x.some = false → pr = pairV (ivsP R C) 0) := by
  unfold passV at h
  split at h
  · simp only [Prod.mk.injEq] at h; exact absurd h.2.2 (by decide)
  split at h
  · simp only [Prod.mk.injEq] at h; exact absurd h.2.2 (by decide)
  rename_i h1
  split at h
  · simp only [Prod.mk.injEq] at h; exact absurd h.2.2 (by decide)
  rename_i h2
  have hn : 0 < C.length := by omega
  have hok := fun k hk => badP_ok (R := R) (C := C) (by simpa using h2) (k := k) hk
  have hfa := fine_all (fine_ivsP R C) (by rw [ivsP_len]; exact hn)
  split at h
  · rename_i h3
    simp only [Prod.mk.injEq, and_true] at h
    obtain ⟨rfl, rfl⟩ := h
    exact ⟨hn, by omega, hok, rfl, fun _ => rfl, fun e => by rw [h3] at e; cases e⟩
  · rename_i h3
    simp only [Prod.mk.injEq, and_true] at h
    obtain ⟨rfl, rfl⟩ := h
    exact ⟨hn, by omega, hok, (hfa.2 (by simpa using h3)).symm, fun e => absurd e (by decide), fun _ => rfl⟩
/-- Is a number one of a fell, and do the first k tallies allow it? -/
def accF (l : List Iv) (z : Int) (k : Nat) : Bool := inR 0 100000 z && (l.take k).all fun y => inB y z
theorem accF_zero (l : List Iv) (z : Int) : accF l z 0 = inR 0 100000 z := by simp [accF]
theorem accF_succ {l : List Iv} {k : Nat} (hk : k < l.length) (z : Int) : accF l z (k + 1) = (accF l z k && inB (iv l k) z) := by
  unfold accF
  rw [take_iv hk, List.all_append]
  simp [Bool.and_assoc]
theorem accF_all {l : List Iv} (hl : ∀ y ∈ l, Fine y) (hn : 0 < l.length) (z : Int) : accF l z l.length = inB (allV l) z := by
  unfold accF
  rw [List.take_length, in_all hn]
  cases h : l.all fun y => inB y z
  · simp
  · have := in_fine (fine_iv hl hn) (List.all_eq_true.1 h _ (iv_mem hn))
    rw [this]; rfl
theorem run_field_some' (a b : Int) (c : Bool) (w : World) : (Instr.field 33 (.agg #[.int .i64 a, .int .i64 b, .bool c]) 2).run Try.prog w = .ok (.bool c) w := by kernel_rfl
theorem row5 {w : World} {a : Nat} {x0 x1 x2 x3 x4 : Int} (h0 : w.cell? ⟨a, 0, none⟩ = some (.int .i64 x0)) (h1 : w.cell? ⟨a, 1, none⟩ = some (.int .i64 x1)) (h2 : w.cell? ⟨a, 2, none⟩ = some (.int .i64 x2)) (h3 : w.cell? ⟨a, 3, none⟩ = some (.int .i64 x3)) (h4 : w.cell? ⟨a, 4, none⟩ = some (.int .i64 x4)) : Row w a [x0, x1, x2, x3, x4] :=
  ⟨cell_lt h0, fun i hi => by
    have : i = 0 ∨ i = 1 ∨ i = 2 ∨ i = 3 ∨ i = 4 := by simp at hi; omega
    rcases this with rfl | rfl | rfl | rfl | rfl
    · simpa using h0
    · simpa using h1
    · simpa using h2
    · simpa using h3
    · simpa using h4⟩

set_option maxRecDepth 100000 in
set_option maxHeartbeats 16000000 in
theorem walk_skip1 {w : World} (R : List Rt) (a : Option Addr) (ca : Nat) (C : List Ct) (b : Option Addr) (cb : Nat) (n : Int) (h : 20 < R.length) :
    Calls Try.prog 13 #[.slice a R.length ca, .slice b C.length cb, .int .i64 n] w fun e w' => e = .returned (.bool true) ∧ Below w.heap.size w w' := by
  have h1 : (20 : Int) < (R.length : Int) := by omega
  go_enter Try.func13, Try.ntmps13
  go_wp2_with fail
  refine (via (w0 := w) (by go_grown) (c_counted _)).mono ?_
  rintro e W1 ⟨rfl, hc, hf, hz, hB⟩
  have hb0 := hB
  have hzW1 : w.heap.size ≤ W1.heap.size := hz
  clear hc hf hB hz
  go_wp2_with fail
  go_ret
  exact ⟨rfl, by have hbz := hb0.size; go_grown⟩

set_option maxRecDepth 100000 in
set_option maxHeartbeats 16000000 in
theorem walk_skip2 {w : World} (R : List Rt) (a : Option Addr) (ca : Nat) (C : List Ct) (b : Option Addr) (cb : Nat) (n : Int) (g : ¬ 20 < R.length) (h : 20 < C.length) :
    Calls Try.prog 13 #[.slice a R.length ca, .slice b C.length cb, .int .i64 n] w fun e w' => e = .returned (.bool true) ∧ Below w.heap.size w w' := by
  have h1 : ¬ (20 : Int) < (R.length : Int) := by omega
  have h2 : (20 : Int) < (C.length : Int) := by omega
  go_enter Try.func13, Try.ntmps13
  go_wp2_with fail
  refine (via (w0 := w) (by go_grown) (c_counted _)).mono ?_
  rintro e W1 ⟨rfl, hc, hf, hz, hB⟩
  have hb0 := hB
  have hzW1 : w.heap.size ≤ W1.heap.size := hz
  clear hc hf hB hz
  go_wp2_with fail
  go_ret
  exact ⟨rfl, by have hbz := hb0.size; go_grown⟩

set_option maxRecDepth 100000 in
set_option maxHeartbeats 16000000 in
theorem walk_err {w : World} (R : List Rt) (a : Option Addr) (ca : Nat) (C : List Ct) (b : Option Addr) (cb : Nat) (n : Int) (f : ¬ 20 < R.length) (g : ¬ 20 < C.length) (hR : Rts w a R) (hC : Cts w b C) (e : Int) (hp : passV R C = (⟨0, 0, false⟩, [], e)) (he : ¬ e = 0) :
    Calls Try.prog 13 #[.slice a R.length ca, .slice b C.length cb, .int .i64 n] w fun e w' => e = .returned (.bool true) ∧ Below w.heap.size w w' := by
  have h1 : ¬ (20 : Int) < (R.length : Int) := by omega
  have h2 : ¬ (20 : Int) < (C.length : Int) := by omega
  have e1 : (e == 0) = false := by simpa using he
  have e1n : (e != 0) = true := by simpa using he
  have hA := fun W (hb : Below w.heap.size w W) => c_Passage R C a b ca cb W (hR.later hb) (hC.later hb)
  rw [hp] at hA
  have HA := Lib.hid hA
  clear hA hR hC hp he
  go_enter Try.func13, Try.ntmps13
  go_upto_region 3 with (fail)
  go_wp2_with fail
  refine (HA.out _ (Below.refl _ _)).mono ?_
  rintro e W1 ⟨⟨bx, cx, rfl, hix⟩, hb0⟩
  dsimp only at hix
  have Ix := Lib.hid hix
  clear hix
  go_upto_region 4 with (fail)
  go_name_world W2 hW2
  have Ixn := Lib.hid (Ix.out.later (w1 := W2) (by subst hW2; go_grown))
  clear Ix
  have hbz := hb0.size
  have hbn : Below w.heap.size w W2 := by subst hW2; go_grown
  clear hb0 hbz
  have hb0 := hbn
  clear hbn
  have x0n : W2.cell? ⟨W1.heap.size, 0, none⟩ = some (.int .i64 0) := by subst hW2; go_simp
  have x1n : W2.cell? ⟨W1.heap.size, 1, none⟩ = some (.int .i64 0) := by subst hW2; go_simp
  have x2n : W2.cell? ⟨W1.heap.size, 2, none⟩ = some (.bool false) := by subst hW2; go_simp
  clear hW2 
  have x0 := x0n
  have x1 := x1n
  have x2 := x2n
  clear x0n x1n x2n 
  have Ix := Ixn
  clear Ixn
  go_wp2_with fail
  refine (via (w0 := W2) (by go_grown) (c_counted _)).mono ?_
  rintro e W3 ⟨rfl, hc, hf, hz, hB⟩
  have x0n : W3.cell? ⟨W1.heap.size, 0, none⟩ = some (.int .i64 0) := (hc _ _ (cell_lt x0)).trans x0
  clear x0
  have x0 := x0n
  clear x0n
  have x1n : W3.cell? ⟨W1.heap.size, 1, none⟩ = some (.int .i64 0) := (hc _ _ (cell_lt x1)).trans x1
  clear x1
  have x1 := x1n
  clear x1n
  have x2n : W3.cell? ⟨W1.heap.size, 2, none⟩ = some (.bool false) := (hc _ _ (cell_lt x2)).trans x2
  clear x2
  have x2 := x2n
  clear x2n
  have hbn : Below w.heap.size w W3 := bthen hb0 hB
  clear hb0
  have hb0 := hbn
  clear hbn
  have hzW3 : W2.heap.size ≤ W3.heap.size := hz
  clear hc hf hB hz
  go_wp2_with fail
  go_ret
  exact ⟨rfl, by have hbz := hb0.size; go_grown⟩

set_option maxRecDepth 100000 in
set_option maxHeartbeats 16000000 in
theorem walk_some {w : World} (R : List Rt) (a : Option Addr) (ca : Nat) (C : List Ct) (b : Option Addr) (cb : Nat) (n : Int) (f : ¬ 20 < R.length) (g : ¬ 20 < C.length) (hR : Rts w a R) (hC : Cts w b C) (lo hi : Int) (hp : passV R C = (⟨lo, hi, true⟩, [], 0)) :
    Calls Try.prog 13 #[.slice a R.length ca, .slice b C.length cb, .int .i64 n] w fun e w' => e = .returned (.bool true) ∧ Below w.heap.size w w' := by
  have h1 : ¬ (20 : Int) < (R.length : Int) := by omega
  have h2 : ¬ (20 : Int) < (C.length : Int) := by omega
  have hA := fun W (hb : Below w.heap.size w W) => c_Passage R C a b ca cb W (hR.later hb) (hC.later hb)
  rw [hp] at hA
  obtain ⟨hn0, hRC, hok, hall, -, -⟩ := pass_ok hp
  have hfine := fine_ivsP R C
  have hlen := ivsP_len R C
  have hfa : Fine ⟨lo, hi, true⟩ := by rw [hall]; exact fine_all hfine (by omega)
  obtain ⟨hb1, hb2, hb3⟩ : 0 ≤ lo ∧ lo ≤ hi ∧ hi ≤ 100000 := hfa.1 rfl
  have hacc : ∀ z, accF (ivsP R C) z C.length = inB ⟨lo, hi, true⟩ z := fun z => by
    rw [hall, ← accF_all hfine (by omega), hlen]
  have hsucc : ∀ k z, k < C.length → accF (ivsP R C) z (k + 1) = (accF (ivsP R C) z k && inB (iv (ivsP R C) k) z) := fun k z hk => accF_succ (by omega) z
  have hT : ∀ (k : Nat), k < C.length → ∀ (W : World), Calls Try.prog 23 #[.agg #[.int .i64 (rt R k).m, .int .i64 (rt R k).d], .agg #[.int .i64 (ct C k).i, .int .i64 (ct C k).d, .int .i64 (ct C k).s, .int .i64 (ct C k).n, .int .i64 (ct C k).wo]] W fun e w' =>
      e = .returned (.tuple #[.agg #[.int .i64 (iv (ivsP R C) k).lo, .int .i64 (iv (ivsP R C) k).hi, .bool (iv (ivsP R C) k).some], .int .i64 0]) ∧ Below W.heap.size W w' := fun k hk W => by
    have h := c_OfCount (rt R k).m (rt R k).d (ct C k).i (ct C k).d (ct C k).s (ct C k).n (ct C k).wo W
    have ho : okTT (rt R k).m (rt R k).d (ct C k).i (ct C k).d (ct C k).s (ct C k).n (ct C k).wo = true := hok k hk
    rw [if_pos ho] at h
    rw [ivsP_at hk]
    exact h
  generalize ivsP R C = l at *
  have HRC := Lib.hid hRC
  have HA := Lib.hid hA
  have HT := Lib.hid hT
  have HACC := Lib.hid hacc
  have HSUCC := Lib.hid hsucc
  have HR := Lib.hid hR
  have HC := Lib.hid hC
  clear hA hT hacc hsucc hR hC hp hall hok hfine hfa hRC hlen
  go_enter Try.func13, Try.ntmps13
  go_upto_region 3 with (fail)
  go_wp2_with fail
  refine (HA.out _ (Below.refl _ _)).mono ?_
  rintro e W1 ⟨⟨bx, cx, rfl, hix⟩, hb0⟩
  dsimp only at hix
  have Ix := Lib.hid hix
  clear hix
  go_upto_region 4 with (fail)
  go_name_world W2 hW2
  have Ixn := Lib.hid (Ix.out.later (w1 := W2) (by subst hW2; go_grown))
  clear Ix
  have hbz := hb0.size
  have hbn : Below w.heap.size w W2 := by subst hW2; go_grown
  clear hb0 hbz
  have hb0 := hbn
  clear hbn
  have x0n : W2.cell? ⟨W1.heap.size, 0, none⟩ = some (.int .i64 lo) := by subst hW2; go_simp
  have x1n : W2.cell? ⟨W1.heap.size, 1, none⟩ = some (.int .i64 hi) := by subst hW2; go_simp
  have x2n : W2.cell? ⟨W1.heap.size, 2, none⟩ = some (.bool true) := by subst hW2; go_simp
  clear hW2 
  have x0 := x0n
  have x1 := x1n
  have x2 := x2n
  clear x0n x1n x2n 
  have Ix := Ixn
  clear Ixn
  go_upto_region 7 with (fail)
  go_name_world W3 hW3
  have Ixn := Lib.hid (Ix.out.later (w1 := W3) (by subst hW3; go_grown))
  clear Ix
  have hbz := hb0.size
  have hbn : Below w.heap.size w W3 := by subst hW3; go_grown
  clear hb0 hbz
  have hb0 := hbn
  clear hbn
  have hbk : Below W2.heap.size W2 W3 := by subst hW3; go_grown
  have x0n : W3.cell? ⟨W1.heap.size, 0, none⟩ = some (.int .i64 lo) := ((bcell hbk).1 _ _ (cell_lt x0)).trans x0
  have x1n : W3.cell? ⟨W1.heap.size, 1, none⟩ = some (.int .i64 hi) := ((bcell hbk).1 _ _ (cell_lt x1)).trans x1
  have x2n : W3.cell? ⟨W1.heap.size, 2, none⟩ = some (.bool true) := ((bcell hbk).1 _ _ (cell_lt x2)).trans x2
  clear hbk
  have n0n : W3.cell? ⟨W2.heap.size, 0, none⟩ = some (.int .i64 n) := by subst hW3; go_simp
  have n1n : W3.cell? ⟨W2.heap.size, 1, none⟩ = some (.int .i64 (lo - 1)) := by subst hW3; go_simp
  have n2n : W3.cell? ⟨W2.heap.size, 2, none⟩ = some (.int .i64 lo) := by subst hW3; go_simp
  have n3n : W3.cell? ⟨W2.heap.size, 3, none⟩ = some (.int .i64 hi) := by subst hW3; go_simp
  have n4n : W3.cell? ⟨W2.heap.size, 4, none⟩ = some (.int .i64 (hi + 1)) := by subst hW3; go_simp
  clear hW3 x0 x1 x2
  have x0 := x0n
  have x1 := x1n
  have x2 := x2n
  have n0 := n0n
  have n1 := n1n
  have n2 := n2n
  have n3 := n3n
  have n4 := n4n
  clear x0n x1n x2n n0n n1n n2n n3n n4n 
  have Ix := Ixn
  clear Ixn
  have hrow := row5 n0 n1 n2 n3 n4
  have HROW := Lib.hid hrow
  clear hrow n0 n1 n2 n3 n4
  go_wp2
  go_loopw [11] (fun v11 wr => ∃ k : Nat, k ≤ 5 ∧ v11 = .int .i64 k ∧ Below W3.heap.size W3 wr) (fun v11 _ => 5 - (intOf v11).toNat)
  case atStart => exact ⟨0, by omega, rfl, Below.refl _ _⟩
  case round =>
    obtain ⟨k, hk, rfl, hbk⟩ := hrel
    have hbw : Below w.heap.size w wr := bthen hb0 hbk
    have HBK := Lib.hid hbk
    have hrow := HROW.out.later hbk
    have x0' := ((bcell hbk).1 _ _ (cell_lt x0)).trans x0
    have x1' := ((bcell hbk).1 _ _ (cell_lt x1)).trans x1
    have x2' := ((bcell hbk).1 _ _ (cell_lt x2)).trans x2
    clear hb0 x0 x1 x2
    have HBW := Lib.hid hbw
    clear hbw hbk
    obtain ⟨Wr, rfl⟩ : ∃ Wr : World, Wr = wr := ⟨_, rfl⟩
    have hb0 : Below Wr.heap.size Wr Wr := Below.refl _ _
    have x0 := x0'
    clear x0'
    have x1 := x1'
    clear x1'
    have x2 := x2'
    clear x2'
    by_cases hlt : k < 5
    · have nv := hrow.2 k hlt
      clear hrow
      generalize ([n, (lo - 1), lo, hi, (hi + 1)] : List Int)[k]?.getD 0 = z at nv
      have hN := fun W => c_lnumber z W
      rw [← accF_zero l z] at hN
      have HN := Lib.hid hN
      have i2 : ¬ (k : Int) < 0 := by omega
      have i3 : (k : Int) < 5 := by omega
      clear hN
      go_wp2_with fail
      refine (via (w0 := Wr) (by go_grown) (HN.out _)).mono ?_
      rintro e W4 ⟨rfl, hc, hf, hz, hB⟩
      have x0n : W4.cell? ⟨W1.heap.size, 0, none⟩ = some (.int .i64 lo) := (hc _ _ (cell_lt x0)).trans x0
      clear x0
      have x0 := x0n
      clear x0n
      have x1n : W4.cell? ⟨W1.heap.size, 1, none⟩ = some (.int .i64 hi) := (hc _ _ (cell_lt x1)).trans x1
      clear x1
      have x1 := x1n
      clear x1n
      have x2n : W4.cell? ⟨W1.heap.size, 2, none⟩ = some (.bool true) := (hc _ _ (cell_lt x2)).trans x2
      clear x2
      have x2 := x2n
      clear x2n
      have nvn : W4.cell? ⟨W2.heap.size, k, none⟩ = some (.int .i64 z) := (hc _ _ (cell_lt nv)).trans nv
      clear nv
      have nv := nvn
      clear nvn
      have hbn : Below Wr.heap.size Wr W4 := bthen hb0 hB
      clear hb0
      have hb0 := hbn
      clear hbn
      have hzW4 : Wr.heap.size ≤ W4.heap.size := hz
      clear hc hf hB hz
      go_wp2
      go_loopw [12, 13] (fun v12 v13 wq => ∃ j : Nat, j ≤ C.length ∧ v13 = .int .i64 j ∧ v12 = .bool (accF l z j) ∧ Below W4.heap.size W4 wq) (fun _ v13 _ => C.length - (intOf v13).toNat)
      case atStart => exact ⟨0, by omega, rfl, rfl, Below.refl _ _⟩
      case round =>
        obtain ⟨j, hj, rfl, rfl, hbq⟩ := hrel
        have hbn := bthen hb0 hbq
        have HBQ := Lib.hid hbq
        have x0' := ((bcell hbq).1 _ _ (cell_lt x0)).trans x0
        have x1' := ((bcell hbq).1 _ _ (cell_lt x1)).trans x1
        have x2' := ((bcell hbq).1 _ _ (cell_lt x2)).trans x2
        have nv' := ((bcell hbq).1 _ _ (cell_lt nv)).trans nv
        clear hb0 hbq x0 x1 x2 nv
        have x0 := x0'
        clear x0'
        have x1 := x1'
        clear x1'
        have x2 := x2'
        clear x2'
        have nv := nv'
        clear nv'
        have hb0 := hbn
        clear hbn
        have HB0 := Lib.hid (bthen HBW.out hb0)
        have HBX := Lib.hid hb0
        obtain ⟨Wq, rfl⟩ : ∃ Wq : World, Wq = wr := ⟨_, rfl⟩
        by_cases hjw : j < C.length
        · clear hb0
          obtain ⟨b1, o1, e1, hat1⟩ := (HR.out.later HB0.out).2 (by have hRC := HRC.out; intro e; rw [e] at hRC; simp at hRC; omega)
          obtain ⟨b2, o2, e2, hat2⟩ := (HC.out.later HB0.out).2 (by intro e; rw [e] at hjw; simp at hjw)
          cases e1
          cases e2
          obtain ⟨y0, y1⟩ := hat1 j (by have := HRC.out; omega)
          obtain ⟨q0, q1, q2, q3, q4⟩ := hat2 j (by omega)
          clear hat1 hat2
          have hb0 : Below Wq.heap.size Wq Wq := Below.refl _ _
          have j1 : ¬ (j : Int) < 0 := by omega
          have j2 : (j : Int) < (C.length : Int) := by omega
          have j3 : (j : Int) < (R.length : Int) := by have := HRC.out; omega
          have hT := HT.out j hjw
          have hs := HSUCC.out j z hjw
          have hI := fun W => c_lin (iv l j) z W
          dsimp only [Iv.v] at hI
          obtain ⟨xv, hxv⟩ : ∃ x, iv l j = x := ⟨_, rfl⟩
          rw [hxv] at hT hs hI
          clear hxv
          obtain ⟨r0, r1, r2⟩ := xv
          dsimp only at hT hI
          generalize inB ⟨r0, r1, r2⟩ z = ib at hs hI
          generalize (rt R j).m = m at *
          generalize (rt R j).d = d at *
          generalize (ct C j).i = c0 at *
          generalize (ct C j).d = c1 at *
          generalize (ct C j).s = c2 at *
          generalize (ct C j).n = c3 at *
          generalize (ct C j).wo = c4 at *
          generalize accF l z j = ab at *
          have HTJ := Lib.hid hT
          have HS := Lib.hid hs
          have HI := Lib.hid hI
          clear hT hs hI
          as_aux_lemma =>
          go_upto_region 14 with (fail)
          refine wp_region_alloc 12 Wq (.cells #[.int .i64 0, .int .i64 0, .bool false] 33) (by rfl) (by rfl) ⟨by rfl, fun _ _ => by simp [go_sem]⟩ ⟨by rfl, by rfl, _, _, _, by rfl⟩ (by kernel_rfl) (Below.refl _ _) ?_
          intro V5 hB
          have hc := (bcell hB).1
          have hf := (bcell hB).2
          have hz := hB.size
          have x0n : V5.cell? ⟨W1.heap.size, 0, none⟩ = some (.int .i64 lo) := (hc _ _ (cell_lt x0)).trans x0
          clear x0
          have x0 := x0n
          clear x0n
          have x1n : V5.cell? ⟨W1.heap.size, 1, none⟩ = some (.int .i64 hi) := (hc _ _ (cell_lt x1)).trans x1
          clear x1
          have x1 := x1n
          clear x1n
          have x2n : V5.cell? ⟨W1.heap.size, 2, none⟩ = some (.bool true) := (hc _ _ (cell_lt x2)).trans x2
          clear x2
          have x2 := x2n
          clear x2n
          have nvn : V5.cell? ⟨W2.heap.size, k, none⟩ = some (.int .i64 z) := (hc _ _ (cell_lt nv)).trans nv
          clear nv
          have nv := nvn
          clear nvn
          have y0n : V5.cell? ⟨b1, o1 + j * 2, none⟩ = some (.int .i64 m) := (hc _ _ (cell_lt y0)).trans y0
          clear y0
          have y0 := y0n
          clear y0n
          have y1n : V5.cell? ⟨b1, o1 + j * 2 + 1, none⟩ = some (.int .i64 d) := (hc _ _ (cell_lt y1)).trans y1
          clear y1
          have y1 := y1n
          clear y1n
          have q0n : V5.cell? ⟨b2, o2 + j * 5, none⟩ = some (.int .i64 c0) := (hc _ _ (cell_lt q0)).trans q0
          clear q0
          have q0 := q0n
          clear q0n
          have q1n : V5.cell? ⟨b2, o2 + j * 5 + 1, none⟩ = some (.int .i64 c1) := (hc _ _ (cell_lt q1)).trans q1
          clear q1
          have q1 := q1n
          clear q1n
          have q2n : V5.cell? ⟨b2, o2 + j * 5 + 2, none⟩ = some (.int .i64 c2) := (hc _ _ (cell_lt q2)).trans q2
          clear q2
          have q2 := q2n
          clear q2n
          have q3n : V5.cell? ⟨b2, o2 + j * 5 + 3, none⟩ = some (.int .i64 c3) := (hc _ _ (cell_lt q3)).trans q3
          clear q3
          have q3 := q3n
          clear q3n
          have q4n : V5.cell? ⟨b2, o2 + j * 5 + 4, none⟩ = some (.int .i64 c4) := (hc _ _ (cell_lt q4)).trans q4
          clear q4
          have q4 := q4n
          clear q4n
          have hbn : Below Wq.heap.size Wq V5 := bthen hb0 hB
          clear hb0
          have hb0 := hbn
          clear hbn
          have hzV5 : Wq.heap.size ≤ V5.heap.size := hz
          clear hc hf hB hz
          simp only [List.take_succ_cons, List.take_zero, List.drop_succ_cons, List.drop_zero]
          have kx0 := later_cell x0
          have kx1 := later_cell x1
          have kx2 := later_cell x2
          have knv := later_cell nv
          have ky0 := later_cell y0
          have ky1 := later_cell y1
          have kq0 := later_cell q0
          have kq1 := later_cell q1
          have kq2 := later_cell q2
          have kq3 := later_cell q3
          have kq4 := later_cell q4
          repeat (go_big_quiet_step (first | (go_at_call 23; with_reducible exact in_region (HTJ.out _))))
          refine wpQuiet_nil ?_
          clear kx0 kx1 kx2 knv ky0 ky1 kq0 kq1 kq2 kq3 kq4
          intro U5 X5 hA hB2
          have hx : Below V5.heap.size V5 X5 := bthen (hA.alloc hA.size _) hB2
          have hg : V5.heap.size ≤ U5.heap.size := hA.size
          have z0 : X5.cell? ⟨U5.heap.size, 0, none⟩ = some (.int .i64 0) := ((bcell hB2).1 _ _ (by simp)).trans (by go_simp)
          have fz0 : X5.frozen? ⟨U5.heap.size, 0, none⟩ = false := ((bcell hB2).2 _ _ (by simp)).trans (by go_simp)
          have z1 : X5.cell? ⟨U5.heap.size, 1, none⟩ = some (.int .i64 0) := ((bcell hB2).1 _ _ (by simp)).trans (by go_simp)
          have fz1 : X5.frozen? ⟨U5.heap.size, 1, none⟩ = false := ((bcell hB2).2 _ _ (by simp)).trans (by go_simp)
          have z2 : X5.cell? ⟨U5.heap.size, 2, none⟩ = some (.bool false) := ((bcell hB2).1 _ _ (by simp)).trans (by go_simp)
          have fz2 : X5.frozen? ⟨U5.heap.size, 2, none⟩ = false := ((bcell hB2).2 _ _ (by simp)).trans (by go_simp)
          clear hA hB2
          obtain ⟨g5, hgg⟩ : ∃ g, U5.heap.size = g := ⟨_, rfl⟩
          rw [hgg] at hg z0 fz0 z1 fz1 z2 fz2
          rw [hgg]
          clear hgg U5
          go_wp2
          refine ⟨rfl, by go_grown, ?_⟩
          intro Y5 hB hE
          have hc := (bcell hB).1
          have hf := (bcell hB).2
          have hz := hB.size
          have x0n : Y5.cell? ⟨W1.heap.size, 0, none⟩ = some (.int .i64 lo) := (hc _ _ (cell_lt x0)).trans x0
          clear x0
          have x0 := x0n
          clear x0n
          have x1n : Y5.cell? ⟨W1.heap.size, 1, none⟩ = some (.int .i64 hi) := (hc _ _ (cell_lt x1)).trans x1
          clear x1
          have x1 := x1n
          clear x1n
          have x2n : Y5.cell? ⟨W1.heap.size, 2, none⟩ = some (.bool true) := (hc _ _ (cell_lt x2)).trans x2
          clear x2
          have x2 := x2n
          clear x2n
          have nvn : Y5.cell? ⟨W2.heap.size, k, none⟩ = some (.int .i64 z) := (hc _ _ (cell_lt nv)).trans nv
          clear nv
          have nv := nvn
          clear nvn
          have y0n : Y5.cell? ⟨b1, o1 + j * 2, none⟩ = some (.int .i64 m) := (hc _ _ (cell_lt y0)).trans y0
          clear y0
          have y0 := y0n
          clear y0n
          have y1n : Y5.cell? ⟨b1, o1 + j * 2 + 1, none⟩ = some (.int .i64 d) := (hc _ _ (cell_lt y1)).trans y1
          clear y1
          have y1 := y1n
          clear y1n
          have q0n : Y5.cell? ⟨b2, o2 + j * 5, none⟩ = some (.int .i64 c0) := (hc _ _ (cell_lt q0)).trans q0
          clear q0
          have q0 := q0n
          clear q0n
          have q1n : Y5.cell? ⟨b2, o2 + j * 5 + 1, none⟩ = some (.int .i64 c1) := (hc _ _ (cell_lt q1)).trans q1
          clear q1
          have q1 := q1n
          clear q1n
          have q2n : Y5.cell? ⟨b2, o2 + j * 5 + 2, none⟩ = some (.int .i64 c2) := (hc _ _ (cell_lt q2)).trans q2
          clear q2
          have q2 := q2n
          clear q2n
          have q3n : Y5.cell? ⟨b2, o2 + j * 5 + 3, none⟩ = some (.int .i64 c3) := (hc _ _ (cell_lt q3)).trans q3
          clear q3
          have q3 := q3n
          clear q3n
          have q4n : Y5.cell? ⟨b2, o2 + j * 5 + 4, none⟩ = some (.int .i64 c4) := (hc _ _ (cell_lt q4)).trans q4
          clear q4
          have q4 := q4n
          clear q4n
          have u0 : Y5.cell? ⟨g5, 0, none⟩ = some (.int .i64 r0) := later_of hE (by go_simp)
          have u1 : Y5.cell? ⟨g5, 1, none⟩ = some (.int .i64 r1) := later_of hE (by go_simp)
          have u2 : Y5.cell? ⟨g5, 2, none⟩ = some (.bool r2) := later_of hE (by go_simp)
          clear z0 fz0 z1 fz1 z2 fz2 hE hx
          have hzY5 : V5.heap.size ≤ Y5.heap.size := hz
          have hgg5 : V5.heap.size ≤ g5 := hg
          have hbn : Below Wq.heap.size Wq Y5 := bthen hb0 hB
          clear hb0
          have hb0 := hbn
          clear hbn hc hf hB hz hg
          go_upto_region 17 with (fail)
          cases ab
          · have kx0 := later_cell x0
            have kx1 := later_cell x1
            have kx2 := later_cell x2
            have knv := later_cell nv
            have ky0 := later_cell y0
            have ky1 := later_cell y1
            have kq0 := later_cell q0
            have kq1 := later_cell q1
            have kq2 := later_cell q2
            have kq3 := later_cell q3
            have kq4 := later_cell q4
            have ku0 := later_cell u0
            have ku1 := later_cell u1
            have ku2 := later_cell u2
            refine wp_region_later Y5 (by kernel_rfl) (by kernel_rfl) (Below.refl _ _) ?_
            repeat (go_big_quiet_step (first | (go_at_call 24; with_reducible exact in_region (HI.out _))))
            refine wpQuiet_nil ?_
            rintro ⟨W6, hB⟩
            dsimp only
            have hc := (bcell hB).1
            have hf := (bcell hB).2
            have hz := hB.size
            clear kx0 kx1 kx2 knv ky0 ky1 kq0 kq1 kq2 kq3 kq4 ku0 ku1 ku2
            have x0n : W6.cell? ⟨W1.heap.size, 0, none⟩ = some (.int .i64 lo) := (hc _ _ (cell_lt x0)).trans x0
            clear x0
            have x0 := x0n
            clear x0n
            have x1n : W6.cell? ⟨W1.heap.size, 1, none⟩ = some (.int .i64 hi) := (hc _ _ (cell_lt x1)).trans x1
            clear x1
            have x1 := x1n
            clear x1n
            have x2n : W6.cell? ⟨W1.heap.size, 2, none⟩ = some (.bool true) := (hc _ _ (cell_lt x2)).trans x2
            clear x2
            have x2 := x2n
            clear x2n
            have nvn : W6.cell? ⟨W2.heap.size, k, none⟩ = some (.int .i64 z) := (hc _ _ (cell_lt nv)).trans nv
            clear nv
            have nv := nvn
            clear nvn
            have y0n : W6.cell? ⟨b1, o1 + j * 2, none⟩ = some (.int .i64 m) := (hc _ _ (cell_lt y0)).trans y0
            clear y0
            have y0 := y0n
            clear y0n
            have y1n : W6.cell? ⟨b1, o1 + j * 2 + 1, none⟩ = some (.int .i64 d) := (hc _ _ (cell_lt y1)).trans y1
            clear y1
            have y1 := y1n
            clear y1n
            have q0n : W6.cell? ⟨b2, o2 + j * 5, none⟩ = some (.int .i64 c0) := (hc _ _ (cell_lt q0)).trans q0
            clear q0
            have q0 := q0n
            clear q0n
            have q1n : W6.cell? ⟨b2, o2 + j * 5 + 1, none⟩ = some (.int .i64 c1) := (hc _ _ (cell_lt q1)).trans q1
            clear q1
            have q1 := q1n
            clear q1n
            have q2n : W6.cell? ⟨b2, o2 + j * 5 + 2, none⟩ = some (.int .i64 c2) := (hc _ _ (cell_lt q2)).trans q2
            clear q2
            have q2 := q2n
            clear q2n
            have q3n : W6.cell? ⟨b2, o2 + j * 5 + 3, none⟩ = some (.int .i64 c3) := (hc _ _ (cell_lt q3)).trans q3
            clear q3
            have q3 := q3n
            clear q3n
            have q4n : W6.cell? ⟨b2, o2 + j * 5 + 4, none⟩ = some (.int .i64 c4) := (hc _ _ (cell_lt q4)).trans q4
            clear q4
            have q4 := q4n
            clear q4n
            have u0n : W6.cell? ⟨g5, 0, none⟩ = some (.int .i64 r0) := (hc _ _ (cell_lt u0)).trans u0
            clear u0
            have u0 := u0n
            clear u0n
            have u1n : W6.cell? ⟨g5, 1, none⟩ = some (.int .i64 r1) := (hc _ _ (cell_lt u1)).trans u1
            clear u1
            have u1 := u1n
            clear u1n
            have u2n : W6.cell? ⟨g5, 2, none⟩ = some (.bool r2) := (hc _ _ (cell_lt u2)).trans u2
            clear u2
            have u2 := u2n
            clear u2n
            have hbn : Below Wq.heap.size Wq W6 := bthen hb0 hB
            clear hb0
            have hb0 := hbn
            clear hbn
            have hzW6 : Y5.heap.size ≤ W6.heap.size := hz
            clear hc hf hB hz
            go_wp2
            go_roundw
            case rel => exact ⟨j + 1, by omega, by go_num, by rw [HS.out]; rfl, bthen HBQ.out hb0⟩
            case measure => simp [intOf]; omega
          · have kx0 := later_cell x0
            have kx1 := later_cell x1
            have kx2 := later_cell x2
            have knv := later_cell nv
            have ky0 := later_cell y0
            have ky1 := later_cell y1
            have kq0 := later_cell q0
            have kq1 := later_cell q1
            have kq2 := later_cell q2
            have kq3 := later_cell q3
            have kq4 := later_cell q4
            have ku0 := later_cell u0
            have ku1 := later_cell u1
            have ku2 := later_cell u2
            refine wp_region_later Y5 (by kernel_rfl) (by kernel_rfl) (Below.refl _ _) ?_
            repeat (go_big_quiet_step (first | (go_at_call 24; with_reducible exact in_region (HI.out _))))
            refine wpQuiet_nil ?_
            rintro ⟨W6, hB⟩
            dsimp only
            have hc := (bcell hB).1
            have hf := (bcell hB).2
            have hz := hB.size
            clear kx0 kx1 kx2 knv ky0 ky1 kq0 kq1 kq2 kq3 kq4 ku0 ku1 ku2
            have x0n : W6.cell? ⟨W1.heap.size, 0, none⟩ = some (.int .i64 lo) := (hc _ _ (cell_lt x0)).trans x0
            clear x0
            have x0 := x0n
            clear x0n
            have x1n : W6.cell? ⟨W1.heap.size, 1, none⟩ = some (.int .i64 hi) := (hc _ _ (cell_lt x1)).trans x1
            clear x1
            have x1 := x1n
            clear x1n
            have x2n : W6.cell? ⟨W1.heap.size, 2, none⟩ = some (.bool true) := (hc _ _ (cell_lt x2)).trans x2
            clear x2
            have x2 := x2n
            clear x2n
            have nvn : W6.cell? ⟨W2.heap.size, k, none⟩ = some (.int .i64 z) := (hc _ _ (cell_lt nv)).trans nv
            clear nv
            have nv := nvn
            clear nvn
            have y0n : W6.cell? ⟨b1, o1 + j * 2, none⟩ = some (.int .i64 m) := (hc _ _ (cell_lt y0)).trans y0
            clear y0
            have y0 := y0n
            clear y0n
            have y1n : W6.cell? ⟨b1, o1 + j * 2 + 1, none⟩ = some (.int .i64 d) := (hc _ _ (cell_lt y1)).trans y1
            clear y1
            have y1 := y1n
            clear y1n
            have q0n : W6.cell? ⟨b2, o2 + j * 5, none⟩ = some (.int .i64 c0) := (hc _ _ (cell_lt q0)).trans q0
            clear q0
            have q0 := q0n
            clear q0n
            have q1n : W6.cell? ⟨b2, o2 + j * 5 + 1, none⟩ = some (.int .i64 c1) := (hc _ _ (cell_lt q1)).trans q1
            clear q1
            have q1 := q1n
            clear q1n
            have q2n : W6.cell? ⟨b2, o2 + j * 5 + 2, none⟩ = some (.int .i64 c2) := (hc _ _ (cell_lt q2)).trans q2
            clear q2
            have q2 := q2n
            clear q2n
            have q3n : W6.cell? ⟨b2, o2 + j * 5 + 3, none⟩ = some (.int .i64 c3) := (hc _ _ (cell_lt q3)).trans q3
            clear q3
            have q3 := q3n
            clear q3n
            have q4n : W6.cell? ⟨b2, o2 + j * 5 + 4, none⟩ = some (.int .i64 c4) := (hc _ _ (cell_lt q4)).trans q4
            clear q4
            have q4 := q4n
            clear q4n
            have u0n : W6.cell? ⟨g5, 0, none⟩ = some (.int .i64 r0) := (hc _ _ (cell_lt u0)).trans u0
            clear u0
            have u0 := u0n
            clear u0n
            have u1n : W6.cell? ⟨g5, 1, none⟩ = some (.int .i64 r1) := (hc _ _ (cell_lt u1)).trans u1
            clear u1
            have u1 := u1n
            clear u1n
            have u2n : W6.cell? ⟨g5, 2, none⟩ = some (.bool r2) := (hc _ _ (cell_lt u2)).trans u2
            clear u2
            have u2 := u2n
            clear u2n
            have hbn : Below Wq.heap.size Wq W6 := bthen hb0 hB
            clear hb0
            have hb0 := hbn
            clear hbn
            have hzW6 : Y5.heap.size ≤ W6.heap.size := hz
            clear hc hf hB hz
            go_wp2
            go_roundw
            case rel => exact ⟨j + 1, by omega, by go_num, by rw [HS.out]; rfl, bthen HBQ.out hb0⟩
            case measure => simp [intOf]; omega
        · obtain rfl : j = C.length := by omega
          rw [HACC.out]
          have hI := fun W => c_lin ⟨lo, hi, true⟩ z W
          generalize inB ⟨lo, hi, true⟩ z = ib at *
          have HI := Lib.hid hI
          clear hI
          as_aux_lemma =>
          go_upto_region 18 with (fail)
          have kx0 := later_cell x0
          have kx1 := later_cell x1
          have kx2 := later_cell x2
          have knv := later_cell nv
          refine wp_region_later Wq (by kernel_rfl) (by kernel_rfl) (Below.refl _ _) ?_
          repeat (go_big_quiet_step (first | (go_at_call 24; with_reducible exact in_region (HI.out _))))
          refine wpQuiet_nil ?_
          rintro ⟨W5, hB⟩
          dsimp only
          have hc := (bcell hB).1
          have hf := (bcell hB).2
          have hz := hB.size
          clear kx0 kx1 kx2 knv
          have x0n : W5.cell? ⟨W1.heap.size, 0, none⟩ = some (.int .i64 lo) := (hc _ _ (cell_lt x0)).trans x0
          clear x0
          have x0 := x0n
          clear x0n
          have x1n : W5.cell? ⟨W1.heap.size, 1, none⟩ = some (.int .i64 hi) := (hc _ _ (cell_lt x1)).trans x1
          clear x1
          have x1 := x1n
          clear x1n
          have x2n : W5.cell? ⟨W1.heap.size, 2, none⟩ = some (.bool true) := (hc _ _ (cell_lt x2)).trans x2
          clear x2
          have x2 := x2n
          clear x2n
          have nvn : W5.cell? ⟨W2.heap.size, k, none⟩ = some (.int .i64 z) := (hc _ _ (cell_lt nv)).trans nv
          clear nv
          have nv := nvn
          clear nvn
          have hbn : Below Wr.heap.size Wr W5 := bthen hb0 hB
          clear hb0
          have hb0 := hbn
          clear hbn
          have hzW5 : Wq.heap.size ≤ W5.heap.size := hz
          clear hc hf hB hz
          cases ib
          · go_wp2
            go_roundw
            case rel => exact ⟨k + 1, by omega, by go_num, bthen HBK.out hb0⟩
            case measure => simp [intOf]; omega
          · go_wp2
            go_roundw
            case rel => exact ⟨k + 1, by omega, by go_num, bthen HBK.out hb0⟩
            case measure => simp [intOf]; omega
    · obtain rfl : k = 5 := by omega
      have Iz := Lib.hid (Ix.out.later HBK.out)
      clear hrow Ix
      have hb0n := HBW.out
      clear hb0
      have hb0 := hb0n
      clear hb0n
      go_wp2_with fail
      refine (via (w0 := Wr) (by go_grown) (c_counted _)).mono ?_
      rintro e W4 ⟨rfl, hc, hf, hz, hB⟩
      have x0n : W4.cell? ⟨W1.heap.size, 0, none⟩ = some (.int .i64 lo) := (hc _ _ (cell_lt x0)).trans x0
      clear x0
      have x0 := x0n
      clear x0n
      have x1n : W4.cell? ⟨W1.heap.size, 1, none⟩ = some (.int .i64 hi) := (hc _ _ (cell_lt x1)).trans x1
      clear x1
      have x1 := x1n
      clear x1n
      have x2n : W4.cell? ⟨W1.heap.size, 2, none⟩ = some (.bool true) := (hc _ _ (cell_lt x2)).trans x2
      clear x2
      have x2 := x2n
      clear x2n
      have hbn : Below w.heap.size w W4 := bthen hb0 hB
      clear hb0
      have hb0 := hbn
      clear hbn
      have hzW4 : Wr.heap.size ≤ W4.heap.size := hz
      clear hc hf hB hz
      go_wp2_with fail
      go_ret
      exact ⟨rfl, by have hbz := hb0.size; go_grown⟩

set_option maxRecDepth 100000 in
set_option maxHeartbeats 16000000 in
theorem walk_none {w : World} (R : List Rt) (a : Option Addr) (ca : Nat) (C : List Ct) (b : Option Addr) (cb : Nat) (n : Int) (f : ¬ 20 < R.length) (g : ¬ 20 < C.length) (hR : Rts w a R) (hC : Cts w b C) (p q : Nat) (hpq : p ≤ q) (hq : q < C.length) (hp : passV R C = (⟨0, 0, false⟩, [(p : Int), (q : Int)], 0)) (hno : (bothV (iv (ivsP R C) p) (iv (ivsP R C) q)).some = false) :
    Calls Try.prog 13 #[.slice a R.length ca, .slice b C.length cb, .int .i64 n] w fun e w' => e = .returned (.bool true) ∧ Below w.heap.size w w' := by
  have h1 : ¬ (20 : Int) < (R.length : Int) := by omega
  have h2 : ¬ (20 : Int) < (C.length : Int) := by omega
  have hA := fun W (hb : Below w.heap.size w W) => c_Passage R C a b ca cb W (hR.later hb) (hC.later hb)
  rw [hp] at hA
  obtain ⟨hn0, hRC, hok, hall, -, -⟩ := pass_ok hp
  have hfine := fine_ivsP R C
  have hlen := ivsP_len R C
  have hfa : Fine ⟨0, 0, false⟩ := by rw [hall]; exact fine_all hfine (by omega)
  have hacc : ∀ z, accF (ivsP R C) z C.length = inB ⟨0, 0, false⟩ z := fun z => by
    rw [hall, ← accF_all hfine (by omega), hlen]
  have hsucc : ∀ k z, k < C.length → accF (ivsP R C) z (k + 1) = (accF (ivsP R C) z k && inB (iv (ivsP R C) k) z) := fun k z hk => accF_succ (by omega) z
  have hT : ∀ (k : Nat), k < C.length → ∀ (W : World), Calls Try.prog 23 #[.agg #[.int .i64 (rt R k).m, .int .i64 (rt R k).d], .agg #[.int .i64 (ct C k).i, .int .i64 (ct C k).d, .int .i64 (ct C k).s, .int .i64 (ct C k).n, .int .i64 (ct C k).wo]] W fun e w' =>
      e = .returned (.tuple #[.agg #[.int .i64 (iv (ivsP R C) k).lo, .int .i64 (iv (ivsP R C) k).hi, .bool (iv (ivsP R C) k).some], .int .i64 0]) ∧ Below W.heap.size W w' := fun k hk W => by
    have h := c_OfCount (rt R k).m (rt R k).d (ct C k).i (ct C k).d (ct C k).s (ct C k).n (ct C k).wo W
    have ho : okTT (rt R k).m (rt R k).d (ct C k).i (ct C k).d (ct C k).s (ct C k).n (ct C k).wo = true := hok k hk
    rw [if_pos ho] at h
    rw [ivsP_at hk]
    exact h
  have hBo := fun W => c_Both (iv (ivsP R C) p) (iv (ivsP R C) q) W
  dsimp only [Iv.v] at hBo
  rw [hno] at hBo
  have HBO := Lib.hid hBo
  clear hBo hno
  generalize ivsP R C = l at *
  have HRC := Lib.hid hRC
  have HA := Lib.hid hA
  have HT := Lib.hid hT
  have HACC := Lib.hid hacc
  have HSUCC := Lib.hid hsucc
  have HR := Lib.hid hR
  have HC := Lib.hid hC
  clear hA hT hacc hsucc hR hC hp hall hok hfine hfa hRC hlen
  go_enter Try.func13, Try.ntmps13
  go_upto_region 3 with (fail)
  go_wp2_with fail
  refine (HA.out _ (Below.refl _ _)).mono ?_
  rintro e W1 ⟨⟨bx, cx, rfl, hix⟩, hb0⟩
  dsimp only at hix
  have Ix := Lib.hid hix
  clear hix
  go_upto_region 4 with (fail)
  go_name_world W2 hW2
  have Ixn := Lib.hid (Ix.out.later (w1 := W2) (by subst hW2; go_grown))
  clear Ix
  have hbz := hb0.size
  have hbn : Below w.heap.size w W2 := by subst hW2; go_grown
  clear hb0 hbz
  have hb0 := hbn
  clear hbn
  have x0n : W2.cell? ⟨W1.heap.size, 0, none⟩ = some (.int .i64 0) := by subst hW2; go_simp
  have x1n : W2.cell? ⟨W1.heap.size, 1, none⟩ = some (.int .i64 0) := by subst hW2; go_simp
  have x2n : W2.cell? ⟨W1.heap.size, 2, none⟩ = some (.bool false) := by subst hW2; go_simp
  clear hW2 
  have x0 := x0n
  have x1 := x1n
  have x2 := x2n
  clear x0n x1n x2n 
  have Ix := Ixn
  clear Ixn
  go_upto_region 7 with (fail)
  go_name_world W3 hW3
  have Ixn := Lib.hid (Ix.out.later (w1 := W3) (by subst hW3; go_grown))
  clear Ix
  have hbz := hb0.size
  have hbn : Below w.heap.size w W3 := by subst hW3; go_grown
  clear hb0 hbz
  have hb0 := hbn
  clear hbn
  have hbk : Below W2.heap.size W2 W3 := by subst hW3; go_grown
  have x0n : W3.cell? ⟨W1.heap.size, 0, none⟩ = some (.int .i64 0) := ((bcell hbk).1 _ _ (cell_lt x0)).trans x0
  have x1n : W3.cell? ⟨W1.heap.size, 1, none⟩ = some (.int .i64 0) := ((bcell hbk).1 _ _ (cell_lt x1)).trans x1
  have x2n : W3.cell? ⟨W1.heap.size, 2, none⟩ = some (.bool false) := ((bcell hbk).1 _ _ (cell_lt x2)).trans x2
  clear hbk
  have n0n : W3.cell? ⟨W2.heap.size, 0, none⟩ = some (.int .i64 n) := by subst hW3; go_simp
  have n1n : W3.cell? ⟨W2.heap.size, 1, none⟩ = some (.int .i64 (-1)) := by subst hW3; go_simp
  have n2n : W3.cell? ⟨W2.heap.size, 2, none⟩ = some (.int .i64 0) := by subst hW3; go_simp
  have n3n : W3.cell? ⟨W2.heap.size, 3, none⟩ = some (.int .i64 0) := by subst hW3; go_simp
  have n4n : W3.cell? ⟨W2.heap.size, 4, none⟩ = some (.int .i64 1) := by subst hW3; go_simp
  clear hW3 x0 x1 x2
  have x0 := x0n
  have x1 := x1n
  have x2 := x2n
  have n0 := n0n
  have n1 := n1n
  have n2 := n2n
  have n3 := n3n
  have n4 := n4n
  clear x0n x1n x2n n0n n1n n2n n3n n4n 
  have Ix := Ixn
  clear Ixn
  have hrow := row5 n0 n1 n2 n3 n4
  have HROW := Lib.hid hrow
  clear hrow n0 n1 n2 n3 n4
  go_wp2
  go_loopw [11] (fun v11 wr => ∃ k : Nat, k ≤ 5 ∧ v11 = .int .i64 k ∧ Below W3.heap.size W3 wr) (fun v11 _ => 5 - (intOf v11).toNat)
  case atStart => exact ⟨0, by omega, rfl, Below.refl _ _⟩
  case round =>
    obtain ⟨k, hk, rfl, hbk⟩ := hrel
    have hbw : Below w.heap.size w wr := bthen hb0 hbk
    have HBK := Lib.hid hbk
    have hrow := HROW.out.later hbk
    have x0' := ((bcell hbk).1 _ _ (cell_lt x0)).trans x0
    have x1' := ((bcell hbk).1 _ _ (cell_lt x1)).trans x1
    have x2' := ((bcell hbk).1 _ _ (cell_lt x2)).trans x2
    clear hb0 x0 x1 x2
    have HBW := Lib.hid hbw
    clear hbw hbk
    obtain ⟨Wr, rfl⟩ : ∃ Wr : World, Wr = wr := ⟨_, rfl⟩
    have hb0 : Below Wr.heap.size Wr Wr := Below.refl _ _
    have x0 := x0'
    clear x0'
    have x1 := x1'
    clear x1'
    have x2 := x2'
    clear x2'
    by_cases hlt : k < 5
    · have nv := hrow.2 k hlt
      clear hrow
      generalize ([n, (-1), 0, 0, 1] : List Int)[k]?.getD 0 = z at nv
      have hN := fun W => c_lnumber z W
      rw [← accF_zero l z] at hN
      have HN := Lib.hid hN
      have i2 : ¬ (k : Int) < 0 := by omega
      have i3 : (k : Int) < 5 := by omega
      clear hN
      go_wp2_with fail
      refine (via (w0 := Wr) (by go_grown) (HN.out _)).mono ?_
      rintro e W4 ⟨rfl, hc, hf, hz, hB⟩
      have x0n : W4.cell? ⟨W1.heap.size, 0, none⟩ = some (.int .i64 0) := (hc _ _ (cell_lt x0)).trans x0
      clear x0
      have x0 := x0n
      clear x0n
      have x1n : W4.cell? ⟨W1.heap.size, 1, none⟩ = some (.int .i64 0) := (hc _ _ (cell_lt x1)).trans x1
      clear x1
      have x1 := x1n
      clear x1n
      have x2n : W4.cell? ⟨W1.heap.size, 2, none⟩ = some (.bool false) := (hc _ _ (cell_lt x2)).trans x2
      clear x2
      have x2 := x2n
      clear x2n
      have nvn : W4.cell? ⟨W2.heap.size, k, none⟩ = some (.int .i64 z) := (hc _ _ (cell_lt nv)).trans nv
      clear nv
      have nv := nvn
      clear nvn
      have hbn : Below Wr.heap.size Wr W4 := bthen hb0 hB
      clear hb0
      have hb0 := hbn
      clear hbn
      have hzW4 : Wr.heap.size ≤ W4.heap.size := hz
      clear hc hf hB hz
      go_wp2
      go_loopw [12, 13] (fun v12 v13 wq => ∃ j : Nat, j ≤ C.length ∧ v13 = .int .i64 j ∧ v12 = .bool (accF l z j) ∧ Below W4.heap.size W4 wq) (fun _ v13 _ => C.length - (intOf v13).toNat)
      case atStart => exact ⟨0, by omega, rfl, rfl, Below.refl _ _⟩
      case round =>
        obtain ⟨j, hj, rfl, rfl, hbq⟩ := hrel
        have hbn := bthen hb0 hbq
        have HBQ := Lib.hid hbq
        have x0' := ((bcell hbq).1 _ _ (cell_lt x0)).trans x0
        have x1' := ((bcell hbq).1 _ _ (cell_lt x1)).trans x1
        have x2' := ((bcell hbq).1 _ _ (cell_lt x2)).trans x2
        have nv' := ((bcell hbq).1 _ _ (cell_lt nv)).trans nv
        clear hb0 hbq x0 x1 x2 nv
        have x0 := x0'
        clear x0'
        have x1 := x1'
        clear x1'
        have x2 := x2'
        clear x2'
        have nv := nv'
        clear nv'
        have hb0 := hbn
        clear hbn
        have HB0 := Lib.hid (bthen HBW.out hb0)
        have HBX := Lib.hid hb0
        obtain ⟨Wq, rfl⟩ : ∃ Wq : World, Wq = wr := ⟨_, rfl⟩
        by_cases hjw : j < C.length
        · clear hb0
          obtain ⟨b1, o1, e1, hat1⟩ := (HR.out.later HB0.out).2 (by have hRC := HRC.out; intro e; rw [e] at hRC; simp at hRC; omega)
          obtain ⟨b2, o2, e2, hat2⟩ := (HC.out.later HB0.out).2 (by intro e; rw [e] at hjw; simp at hjw)
          cases e1
          cases e2
          obtain ⟨y0, y1⟩ := hat1 j (by have := HRC.out; omega)
          obtain ⟨q0, q1, q2, q3, q4⟩ := hat2 j (by omega)
          clear hat1 hat2
          have hb0 : Below Wq.heap.size Wq Wq := Below.refl _ _
          have j1 : ¬ (j : Int) < 0 := by omega
          have j2 : (j : Int) < (C.length : Int) := by omega
          have j3 : (j : Int) < (R.length : Int) := by have := HRC.out; omega
          have hT := HT.out j hjw
          have hs := HSUCC.out j z hjw
          have hI := fun W => c_lin (iv l j) z W
          dsimp only [Iv.v] at hI
          obtain ⟨xv, hxv⟩ : ∃ x, iv l j = x := ⟨_, rfl⟩
          rw [hxv] at hT hs hI
          clear hxv
          obtain ⟨r0, r1, r2⟩ := xv
          dsimp only at hT hI
          generalize inB ⟨r0, r1, r2⟩ z = ib at hs hI
          generalize (rt R j).m = m at *
          generalize (rt R j).d = d at *
          generalize (ct C j).i = c0 at *
          generalize (ct C j).d = c1 at *
          generalize (ct C j).s = c2 at *
          generalize (ct C j).n = c3 at *
          generalize (ct C j).wo = c4 at *
          generalize accF l z j = ab at *
          have HTJ := Lib.hid hT
          have HS := Lib.hid hs
          have HI := Lib.hid hI
          clear hT hs hI
          as_aux_lemma =>
          go_upto_region 14 with (fail)
          refine wp_region_alloc 12 Wq (.cells #[.int .i64 0, .int .i64 0, .bool false] 33) (by rfl) (by rfl) ⟨by rfl, fun _ _ => by simp [go_sem]⟩ ⟨by rfl, by rfl, _, _, _, by rfl⟩ (by kernel_rfl) (Below.refl _ _) ?_
          intro V5 hB
          have hc := (bcell hB).1
          have hf := (bcell hB).2
          have hz := hB.size
          have x0n : V5.cell? ⟨W1.heap.size, 0, none⟩ = some (.int .i64 0) := (hc _ _ (cell_lt x0)).trans x0
          clear x0
          have x0 := x0n
          clear x0n
          have x1n : V5.cell? ⟨W1.heap.size, 1, none⟩ = some (.int .i64 0) := (hc _ _ (cell_lt x1)).trans x1
          clear x1
          have x1 := x1n
          clear x1n
          have x2n : V5.cell? ⟨W1.heap.size, 2, none⟩ = some (.bool false) := (hc _ _ (cell_lt x2)).trans x2
          clear x2
          have x2 := x2n
          clear x2n
          have nvn : V5.cell? ⟨W2.heap.size, k, none⟩ = some (.int .i64 z) := (hc _ _ (cell_lt nv)).trans nv
          clear nv
          have nv := nvn
          clear nvn
          have y0n : V5.cell? ⟨b1, o1 + j * 2, none⟩ = some (.int .i64 m) := (hc _ _ (cell_lt y0)).trans y0
          clear y0
          have y0 := y0n
          clear y0n
          have y1n : V5.cell? ⟨b1, o1 + j * 2 + 1, none⟩ = some (.int .i64 d) := (hc _ _ (cell_lt y1)).trans y1
          clear y1
          have y1 := y1n
          clear y1n
          have q0n : V5.cell? ⟨b2, o2 + j * 5, none⟩ = some (.int .i64 c0) := (hc _ _ (cell_lt q0)).trans q0
          clear q0
          have q0 := q0n
          clear q0n
          have q1n : V5.cell? ⟨b2, o2 + j * 5 + 1, none⟩ = some (.int .i64 c1) := (hc _ _ (cell_lt q1)).trans q1
          clear q1
          have q1 := q1n
          clear q1n
          have q2n : V5.cell? ⟨b2, o2 + j * 5 + 2, none⟩ = some (.int .i64 c2) := (hc _ _ (cell_lt q2)).trans q2
          clear q2
          have q2 := q2n
          clear q2n
          have q3n : V5.cell? ⟨b2, o2 + j * 5 + 3, none⟩ = some (.int .i64 c3) := (hc _ _ (cell_lt q3)).trans q3
          clear q3
          have q3 := q3n
          clear q3n
          have q4n : V5.cell? ⟨b2, o2 + j * 5 + 4, none⟩ = some (.int .i64 c4) := (hc _ _ (cell_lt q4)).trans q4
          clear q4
          have q4 := q4n
          clear q4n
          have hbn : Below Wq.heap.size Wq V5 := bthen hb0 hB
          clear hb0
          have hb0 := hbn
          clear hbn
          have hzV5 : Wq.heap.size ≤ V5.heap.size := hz
          clear hc hf hB hz
          simp only [List.take_succ_cons, List.take_zero, List.drop_succ_cons, List.drop_zero]
          have kx0 := later_cell x0
          have kx1 := later_cell x1
          have kx2 := later_cell x2
          have knv := later_cell nv
          have ky0 := later_cell y0
          have ky1 := later_cell y1
          have kq0 := later_cell q0
          have kq1 := later_cell q1
          have kq2 := later_cell q2
          have kq3 := later_cell q3
          have kq4 := later_cell q4
          repeat (go_big_quiet_step (first | (go_at_call 23; with_reducible exact in_region (HTJ.out _))))
          refine wpQuiet_nil ?_
          clear kx0 kx1 kx2 knv ky0 ky1 kq0 kq1 kq2 kq3 kq4
          intro U5 X5 hA hB2
          have hx : Below V5.heap.size V5 X5 := bthen (hA.alloc hA.size _) hB2
          have hg : V5.heap.size ≤ U5.heap.size := hA.size
          have z0 : X5.cell? ⟨U5.heap.size, 0, none⟩ = some (.int .i64 0) := ((bcell hB2).1 _ _ (by simp)).trans (by go_simp)
          have fz0 : X5.frozen? ⟨U5.heap.size, 0, none⟩ = false := ((bcell hB2).2 _ _ (by simp)).trans (by go_simp)
          have z1 : X5.cell? ⟨U5.heap.size, 1, none⟩ = some (.int .i64 0) := ((bcell hB2).1 _ _ (by simp)).trans (by go_simp)
          have fz1 : X5.frozen? ⟨U5.heap.size, 1, none⟩ = false := ((bcell hB2).2 _ _ (by simp)).trans (by go_simp)
          have z2 : X5.cell? ⟨U5.heap.size, 2, none⟩ = some (.bool false) := ((bcell hB2).1 _ _ (by simp)).trans (by go_simp)
          have fz2 : X5.frozen? ⟨U5.heap.size, 2, none⟩ = false := ((bcell hB2).2 _ _ (by simp)).trans (by go_simp)
          clear hA hB2
          obtain ⟨g5, hgg⟩ : ∃ g, U5.heap.size = g := ⟨_, rfl⟩
          rw [hgg] at hg z0 fz0 z1 fz1 z2 fz2
          rw [hgg]
          clear hgg U5
          go_wp2
          refine ⟨rfl, by go_grown, ?_⟩
          intro Y5 hB hE
          have hc := (bcell hB).1
          have hf := (bcell hB).2
          have hz := hB.size
          have x0n : Y5.cell? ⟨W1.heap.size, 0, none⟩ = some (.int .i64 0) := (hc _ _ (cell_lt x0)).trans x0
          clear x0
          have x0 := x0n
          clear x0n
          have x1n : Y5.cell? ⟨W1.heap.size, 1, none⟩ = some (.int .i64 0) := (hc _ _ (cell_lt x1)).trans x1
          clear x1
          have x1 := x1n
          clear x1n
          have x2n : Y5.cell? ⟨W1.heap.size, 2, none⟩ = some (.bool false) := (hc _ _ (cell_lt x2)).trans x2
          clear x2
          have x2 := x2n
          clear x2n
          have nvn : Y5.cell? ⟨W2.heap.size, k, none⟩ = some (.int .i64 z) := (hc _ _ (cell_lt nv)).trans nv
          clear nv
          have nv := nvn
          clear nvn
          have y0n : Y5.cell? ⟨b1, o1 + j * 2, none⟩ = some (.int .i64 m) := (hc _ _ (cell_lt y0)).trans y0
          clear y0
          have y0 := y0n
          clear y0n
          have y1n : Y5.cell? ⟨b1, o1 + j * 2 + 1, none⟩ = some (.int .i64 d) := (hc _ _ (cell_lt y1)).trans y1
          clear y1
          have y1 := y1n
          clear y1n
          have q0n : Y5.cell? ⟨b2, o2 + j * 5, none⟩ = some (.int .i64 c0) := (hc _ _ (cell_lt q0)).trans q0
          clear q0
          have q0 := q0n
          clear q0n
          have q1n : Y5.cell? ⟨b2, o2 + j * 5 + 1, none⟩ = some (.int .i64 c1) := (hc _ _ (cell_lt q1)).trans q1
          clear q1
          have q1 := q1n
          clear q1n
          have q2n : Y5.cell? ⟨b2, o2 + j * 5 + 2, none⟩ = some (.int .i64 c2) := (hc _ _ (cell_lt q2)).trans q2
          clear q2
          have q2 := q2n
          clear q2n
          have q3n : Y5.cell? ⟨b2, o2 + j * 5 + 3, none⟩ = some (.int .i64 c3) := (hc _ _ (cell_lt q3)).trans q3
          clear q3
          have q3 := q3n
          clear q3n
          have q4n : Y5.cell? ⟨b2, o2 + j * 5 + 4, none⟩ = some (.int .i64 c4) := (hc _ _ (cell_lt q4)).trans q4
          clear q4
          have q4 := q4n
          clear q4n
          have u0 : Y5.cell? ⟨g5, 0, none⟩ = some (.int .i64 r0) := later_of hE (by go_simp)
          have u1 : Y5.cell? ⟨g5, 1, none⟩ = some (.int .i64 r1) := later_of hE (by go_simp)
          have u2 : Y5.cell? ⟨g5, 2, none⟩ = some (.bool r2) := later_of hE (by go_simp)
          clear z0 fz0 z1 fz1 z2 fz2 hE hx
          have hzY5 : V5.heap.size ≤ Y5.heap.size := hz
          have hgg5 : V5.heap.size ≤ g5 := hg
          have hbn : Below Wq.heap.size Wq Y5 := bthen hb0 hB
          clear hb0
          have hb0 := hbn
          clear hbn hc hf hB hz hg
          go_upto_region 17 with (fail)
          cases ab
          · have kx0 := later_cell x0
            have kx1 := later_cell x1
            have kx2 := later_cell x2
            have knv := later_cell nv
            have ky0 := later_cell y0
            have ky1 := later_cell y1
            have kq0 := later_cell q0
            have kq1 := later_cell q1
            have kq2 := later_cell q2
            have kq3 := later_cell q3
            have kq4 := later_cell q4
            have ku0 := later_cell u0
            have ku1 := later_cell u1
            have ku2 := later_cell u2
            refine wp_region_later Y5 (by kernel_rfl) (by kernel_rfl) (Below.refl _ _) ?_
            repeat (go_big_quiet_step (first | (go_at_call 24; with_reducible exact in_region (HI.out _))))
            refine wpQuiet_nil ?_
            rintro ⟨W6, hB⟩
            dsimp only
            have hc := (bcell hB).1
            have hf := (bcell hB).2
            have hz := hB.size
            clear kx0 kx1 kx2 knv ky0 ky1 kq0 kq1 kq2 kq3 kq4 ku0 ku1 ku2
            have x0n : W6.cell? ⟨W1.heap.size, 0, none⟩ = some (.int .i64 0) := (hc _ _ (cell_lt x0)).trans x0
            clear x0
            have x0 := x0n
            clear x0n
            have x1n : W6.cell? ⟨W1.heap.size, 1, none⟩ = some (.int .i64 0) := (hc _ _ (cell_lt x1)).trans x1
            clear x1
            have x1 := x1n
            clear x1n
            have x2n : W6.cell? ⟨W1.heap.size, 2, none⟩ = some (.bool false) := (hc _ _ (cell_lt x2)).trans x2
            clear x2
            have x2 := x2n
            clear x2n
            have nvn : W6.cell? ⟨W2.heap.size, k, none⟩ = some (.int .i64 z) := (hc _ _ (cell_lt nv)).trans nv
            clear nv
            have nv := nvn
            clear nvn
            have y0n : W6.cell? ⟨b1, o1 + j * 2, none⟩ = some (.int .i64 m) := (hc _ _ (cell_lt y0)).trans y0
            clear y0
            have y0 := y0n
            clear y0n
            have y1n : W6.cell? ⟨b1, o1 + j * 2 + 1, none⟩ = some (.int .i64 d) := (hc _ _ (cell_lt y1)).trans y1
            clear y1
            have y1 := y1n
            clear y1n
            have q0n : W6.cell? ⟨b2, o2 + j * 5, none⟩ = some (.int .i64 c0) := (hc _ _ (cell_lt q0)).trans q0
            clear q0
            have q0 := q0n
            clear q0n
            have q1n : W6.cell? ⟨b2, o2 + j * 5 + 1, none⟩ = some (.int .i64 c1) := (hc _ _ (cell_lt q1)).trans q1
            clear q1
            have q1 := q1n
            clear q1n
            have q2n : W6.cell? ⟨b2, o2 + j * 5 + 2, none⟩ = some (.int .i64 c2) := (hc _ _ (cell_lt q2)).trans q2
            clear q2
            have q2 := q2n
            clear q2n
            have q3n : W6.cell? ⟨b2, o2 + j * 5 + 3, none⟩ = some (.int .i64 c3) := (hc _ _ (cell_lt q3)).trans q3
            clear q3
            have q3 := q3n
            clear q3n
            have q4n : W6.cell? ⟨b2, o2 + j * 5 + 4, none⟩ = some (.int .i64 c4) := (hc _ _ (cell_lt q4)).trans q4
            clear q4
            have q4 := q4n
            clear q4n
            have u0n : W6.cell? ⟨g5, 0, none⟩ = some (.int .i64 r0) := (hc _ _ (cell_lt u0)).trans u0
            clear u0
            have u0 := u0n
            clear u0n
            have u1n : W6.cell? ⟨g5, 1, none⟩ = some (.int .i64 r1) := (hc _ _ (cell_lt u1)).trans u1
            clear u1
            have u1 := u1n
            clear u1n
            have u2n : W6.cell? ⟨g5, 2, none⟩ = some (.bool r2) := (hc _ _ (cell_lt u2)).trans u2
            clear u2
            have u2 := u2n
            clear u2n
            have hbn : Below Wq.heap.size Wq W6 := bthen hb0 hB
            clear hb0
            have hb0 := hbn
            clear hbn
            have hzW6 : Y5.heap.size ≤ W6.heap.size := hz
            clear hc hf hB hz
            go_wp2
            go_roundw
            case rel => exact ⟨j + 1, by omega, by go_num, by rw [HS.out]; rfl, bthen HBQ.out hb0⟩
            case measure => simp [intOf]; omega
          · have kx0 := later_cell x0
            have kx1 := later_cell x1
            have kx2 := later_cell x2
            have knv := later_cell nv
            have ky0 := later_cell y0
            have ky1 := later_cell y1
            have kq0 := later_cell q0
            have kq1 := later_cell q1
            have kq2 := later_cell q2
            have kq3 := later_cell q3
            have kq4 := later_cell q4
            have ku0 := later_cell u0
            have ku1 := later_cell u1
            have ku2 := later_cell u2
            refine wp_region_later Y5 (by kernel_rfl) (by kernel_rfl) (Below.refl _ _) ?_
            repeat (go_big_quiet_step (first | (go_at_call 24; with_reducible exact in_region (HI.out _))))
            refine wpQuiet_nil ?_
            rintro ⟨W6, hB⟩
            dsimp only
            have hc := (bcell hB).1
            have hf := (bcell hB).2
            have hz := hB.size
            clear kx0 kx1 kx2 knv ky0 ky1 kq0 kq1 kq2 kq3 kq4 ku0 ku1 ku2
            have x0n : W6.cell? ⟨W1.heap.size, 0, none⟩ = some (.int .i64 0) := (hc _ _ (cell_lt x0)).trans x0
            clear x0
            have x0 := x0n
            clear x0n
            have x1n : W6.cell? ⟨W1.heap.size, 1, none⟩ = some (.int .i64 0) := (hc _ _ (cell_lt x1)).trans x1
            clear x1
            have x1 := x1n
            clear x1n
            have x2n : W6.cell? ⟨W1.heap.size, 2, none⟩ = some (.bool false) := (hc _ _ (cell_lt x2)).trans x2
            clear x2
            have x2 := x2n
            clear x2n
            have nvn : W6.cell? ⟨W2.heap.size, k, none⟩ = some (.int .i64 z) := (hc _ _ (cell_lt nv)).trans nv
            clear nv
            have nv := nvn
            clear nvn
            have y0n : W6.cell? ⟨b1, o1 + j * 2, none⟩ = some (.int .i64 m) := (hc _ _ (cell_lt y0)).trans y0
            clear y0
            have y0 := y0n
            clear y0n
            have y1n : W6.cell? ⟨b1, o1 + j * 2 + 1, none⟩ = some (.int .i64 d) := (hc _ _ (cell_lt y1)).trans y1
            clear y1
            have y1 := y1n
            clear y1n
            have q0n : W6.cell? ⟨b2, o2 + j * 5, none⟩ = some (.int .i64 c0) := (hc _ _ (cell_lt q0)).trans q0
            clear q0
            have q0 := q0n
            clear q0n
            have q1n : W6.cell? ⟨b2, o2 + j * 5 + 1, none⟩ = some (.int .i64 c1) := (hc _ _ (cell_lt q1)).trans q1
            clear q1
            have q1 := q1n
            clear q1n
            have q2n : W6.cell? ⟨b2, o2 + j * 5 + 2, none⟩ = some (.int .i64 c2) := (hc _ _ (cell_lt q2)).trans q2
            clear q2
            have q2 := q2n
            clear q2n
            have q3n : W6.cell? ⟨b2, o2 + j * 5 + 3, none⟩ = some (.int .i64 c3) := (hc _ _ (cell_lt q3)).trans q3
            clear q3
            have q3 := q3n
            clear q3n
            have q4n : W6.cell? ⟨b2, o2 + j * 5 + 4, none⟩ = some (.int .i64 c4) := (hc _ _ (cell_lt q4)).trans q4
            clear q4
            have q4 := q4n
            clear q4n
            have u0n : W6.cell? ⟨g5, 0, none⟩ = some (.int .i64 r0) := (hc _ _ (cell_lt u0)).trans u0
            clear u0
            have u0 := u0n
            clear u0n
            have u1n : W6.cell? ⟨g5, 1, none⟩ = some (.int .i64 r1) := (hc _ _ (cell_lt u1)).trans u1
            clear u1
            have u1 := u1n
            clear u1n
            have u2n : W6.cell? ⟨g5, 2, none⟩ = some (.bool r2) := (hc _ _ (cell_lt u2)).trans u2
            clear u2
            have u2 := u2n
            clear u2n
            have hbn : Below Wq.heap.size Wq W6 := bthen hb0 hB
            clear hb0
            have hb0 := hbn
            clear hbn
            have hzW6 : Y5.heap.size ≤ W6.heap.size := hz
            clear hc hf hB hz
            go_wp2
            go_roundw
            case rel => exact ⟨j + 1, by omega, by go_num, by rw [HS.out]; rfl, bthen HBQ.out hb0⟩
            case measure => simp [intOf]; omega
        · obtain rfl : j = C.length := by omega
          rw [HACC.out]
          have hI := fun W => c_lin ⟨0, 0, false⟩ z W
          generalize inB ⟨0, 0, false⟩ z = ib at *
          have HI := Lib.hid hI
          clear hI
          as_aux_lemma =>
          go_upto_region 18 with (fail)
          have kx0 := later_cell x0
          have kx1 := later_cell x1
          have kx2 := later_cell x2
          have knv := later_cell nv
          refine wp_region_later Wq (by kernel_rfl) (by kernel_rfl) (Below.refl _ _) ?_
          repeat (go_big_quiet_step (first | (go_at_call 24; with_reducible exact in_region (HI.out _))))
          refine wpQuiet_nil ?_
          rintro ⟨W5, hB⟩
          dsimp only
          have hc := (bcell hB).1
          have hf := (bcell hB).2
          have hz := hB.size
          clear kx0 kx1 kx2 knv
          have x0n : W5.cell? ⟨W1.heap.size, 0, none⟩ = some (.int .i64 0) := (hc _ _ (cell_lt x0)).trans x0
          clear x0
          have x0 := x0n
          clear x0n
          have x1n : W5.cell? ⟨W1.heap.size, 1, none⟩ = some (.int .i64 0) := (hc _ _ (cell_lt x1)).trans x1
          clear x1
          have x1 := x1n
          clear x1n
          have x2n : W5.cell? ⟨W1.heap.size, 2, none⟩ = some (.bool false) := (hc _ _ (cell_lt x2)).trans x2
          clear x2
          have x2 := x2n
          clear x2n
          have nvn : W5.cell? ⟨W2.heap.size, k, none⟩ = some (.int .i64 z) := (hc _ _ (cell_lt nv)).trans nv
          clear nv
          have nv := nvn
          clear nvn
          have hbn : Below Wr.heap.size Wr W5 := bthen hb0 hB
          clear hb0
          have hb0 := hbn
          clear hbn
          have hzW5 : Wq.heap.size ≤ W5.heap.size := hz
          clear hc hf hB hz
          cases ib
          · go_wp2
            go_roundw
            case rel => exact ⟨k + 1, by omega, by go_num, bthen HBK.out hb0⟩
            case measure => simp [intOf]; omega
          · go_wp2
            go_roundw
            case rel => exact ⟨k + 1, by omega, by go_num, bthen HBK.out hb0⟩
            case measure => simp [intOf]; omega
    · obtain rfl : k = 5 := by omega
      have Iz := Lib.hid (Ix.out.later HBK.out)
      clear hrow Ix
      have hb0n := HBW.out
      clear hb0
      have hb0 := hb0n
      clear hb0n
      obtain ⟨bp, op, e, hat⟩ := Iz.out.2 (by simp)
      subst e
      have t0 := hat 0 (by simp)
      have t1 := hat 1 (by simp)
      have e0 : it [(p : Int), (q : Int)] 0 = p := rfl
      have e1 : it [(p : Int), (q : Int)] 1 = q := rfl
      rw [e0] at t0
      rw [e1] at t1
      simp only [Nat.add_zero] at t0
      clear hat e0 e1 hlt Iz
      obtain ⟨b1, o1, e1, hat1⟩ := (HR.out.later hb0).2 (by have hRC := HRC.out; intro e; rw [e] at hRC; simp at hRC; omega)
      obtain ⟨b2, o2, e2, hat2⟩ := (HC.out.later hb0).2 (by intro e; rw [e] at hn0; simp at hn0)
      cases e1
      cases e2
      obtain ⟨y0, y1⟩ := hat1 p (by have := HRC.out; omega)
      obtain ⟨q0, q1, q2, q3, q4⟩ := hat2 p (by omega)
      obtain ⟨jm, jd⟩ := hat1 q (by have := HRC.out; omega)
      obtain ⟨r0, r1, r2, r3, r4⟩ := hat2 q (by omega)
      clear hat1 hat2
      have hTp := HT.out p (by omega)
      have hTq := HT.out q (by omega)
      have hBo := HBO.out
      generalize (iv l p).lo = a0 at hTp hBo
      generalize (iv l p).hi = a1 at hTp hBo
      generalize (iv l p).some = a2 at hTp hBo
      generalize (iv l q).lo = b0 at hTq hBo
      generalize (iv l q).hi = b1' at hTq hBo
      generalize (iv l q).some = b2' at hTq hBo
      obtain ⟨s0, hs0⟩ : ∃ x, (bothV (iv l p) (iv l q)).lo = x := ⟨_, rfl⟩
      obtain ⟨s1, hs1⟩ : ∃ x, (bothV (iv l p) (iv l q)).hi = x := ⟨_, rfl⟩
      rw [hs0, hs1] at hBo
      generalize (rt R p).m = m at *
      generalize (rt R p).d = d at *
      generalize (ct C p).i = c0 at *
      generalize (ct C p).d = c1 at *
      generalize (ct C p).s = c2 at *
      generalize (ct C p).n = c3 at *
      generalize (ct C p).wo = c4 at *
      generalize (rt R q).m = m' at *
      generalize (rt R q).d = d' at *
      generalize (ct C q).i = c0' at *
      generalize (ct C q).d = c1' at *
      generalize (ct C q).s = c2' at *
      generalize (ct C q).n = c3' at *
      generalize (ct C q).wo = c4' at *
      have HTP := Lib.hid hTp
      have HTQ := Lib.hid hTq
      have HB2 := Lib.hid hBo
      have hfld := run_field_some'
      have d1 : decide ((p : Int) < 0) = false := decide_eq_false (by omega)
      have d2 : decide ((q : Int) < (p : Int)) = false := decide_eq_false (by omega)
      have d3 : decide ((C.length : Int) ≤ (q : Int)) = false := decide_eq_false (by omega)
      have d4 : decide (q < p) = false := decide_eq_false (by omega)
      have d5 : decide (C.length ≤ q) = false := decide_eq_false (by omega)
      have d6 : ¬ q < p := by omega
      have d7 : ¬ C.length ≤ q := by omega
      clear hTp hTq hBo hs0 hs1 HBO HT HA HACC HSUCC HR HC HROW HBK HBW
      as_aux_lemma =>
      go_upto_region 22 with (fail)
      have kx0 := later_cell x0
      have kx1 := later_cell x1
      have kx2 := later_cell x2
      have kt0 := later_cell t0
      have kt1 := later_cell t1
      have ky0 := later_cell y0
      have ky1 := later_cell y1
      have kq0 := later_cell q0
      have kq1 := later_cell q1
      have kq2 := later_cell q2
      have kq3 := later_cell q3
      have kq4 := later_cell q4
      have kjm := later_cell jm
      have kjd := later_cell jd
      have kr0 := later_cell r0
      have kr1 := later_cell r1
      have kr2 := later_cell r2
      have kr3 := later_cell r3
      have kr4 := later_cell r4
      refine wp_region_later Wr (by kernel_rfl) (by kernel_rfl) (Below.refl _ _) ?_
      repeat (go_big_quiet_step (fail))
      refine wpQuiet_nil ?_
      rintro ⟨W4, hB⟩
      dsimp only
      have hc := (bcell hB).1
      have hf := (bcell hB).2
      have hz := hB.size
      clear kx0 kx1 kx2 kt0 kt1 ky0 ky1 kq0 kq1 kq2 kq3 kq4 kjm kjd kr0 kr1 kr2 kr3 kr4
      have x0n : W4.cell? ⟨W1.heap.size, 0, none⟩ = some (.int .i64 0) := (hc _ _ (cell_lt x0)).trans x0
      clear x0
      have x0 := x0n
      clear x0n
      have x1n : W4.cell? ⟨W1.heap.size, 1, none⟩ = some (.int .i64 0) := (hc _ _ (cell_lt x1)).trans x1
      clear x1
      have x1 := x1n
      clear x1n
      have x2n : W4.cell? ⟨W1.heap.size, 2, none⟩ = some (.bool false) := (hc _ _ (cell_lt x2)).trans x2
      clear x2
      have x2 := x2n
      clear x2n
      have t0n : W4.cell? ⟨bp, op, none⟩ = some (.int .i64 p) := (hc _ _ (cell_lt t0)).trans t0
      clear t0
      have t0 := t0n
      clear t0n
      have t1n : W4.cell? ⟨bp, op + 1, none⟩ = some (.int .i64 q) := (hc _ _ (cell_lt t1)).trans t1
      clear t1
      have t1 := t1n
      clear t1n
      have y0n : W4.cell? ⟨b1, o1 + p * 2, none⟩ = some (.int .i64 m) := (hc _ _ (cell_lt y0)).trans y0
      clear y0
      have y0 := y0n
      clear y0n
      have y1n : W4.cell? ⟨b1, o1 + p * 2 + 1, none⟩ = some (.int .i64 d) := (hc _ _ (cell_lt y1)).trans y1
      clear y1
      have y1 := y1n
      clear y1n
      have q0n : W4.cell? ⟨b2, o2 + p * 5, none⟩ = some (.int .i64 c0) := (hc _ _ (cell_lt q0)).trans q0
      clear q0
      have q0 := q0n
      clear q0n
      have q1n : W4.cell? ⟨b2, o2 + p * 5 + 1, none⟩ = some (.int .i64 c1) := (hc _ _ (cell_lt q1)).trans q1
      clear q1
      have q1 := q1n
      clear q1n
      have q2n : W4.cell? ⟨b2, o2 + p * 5 + 2, none⟩ = some (.int .i64 c2) := (hc _ _ (cell_lt q2)).trans q2
      clear q2
      have q2 := q2n
      clear q2n
      have q3n : W4.cell? ⟨b2, o2 + p * 5 + 3, none⟩ = some (.int .i64 c3) := (hc _ _ (cell_lt q3)).trans q3
      clear q3
      have q3 := q3n
      clear q3n
      have q4n : W4.cell? ⟨b2, o2 + p * 5 + 4, none⟩ = some (.int .i64 c4) := (hc _ _ (cell_lt q4)).trans q4
      clear q4
      have q4 := q4n
      clear q4n
      have jmn : W4.cell? ⟨b1, o1 + q * 2, none⟩ = some (.int .i64 m') := (hc _ _ (cell_lt jm)).trans jm
      clear jm
      have jm := jmn
      clear jmn
      have jdn : W4.cell? ⟨b1, o1 + q * 2 + 1, none⟩ = some (.int .i64 d') := (hc _ _ (cell_lt jd)).trans jd
      clear jd
      have jd := jdn
      clear jdn
      have r0n : W4.cell? ⟨b2, o2 + q * 5, none⟩ = some (.int .i64 c0') := (hc _ _ (cell_lt r0)).trans r0
      clear r0
      have r0 := r0n
      clear r0n
      have r1n : W4.cell? ⟨b2, o2 + q * 5 + 1, none⟩ = some (.int .i64 c1') := (hc _ _ (cell_lt r1)).trans r1
      clear r1
      have r1 := r1n
      clear r1n
      have r2n : W4.cell? ⟨b2, o2 + q * 5 + 2, none⟩ = some (.int .i64 c2') := (hc _ _ (cell_lt r2)).trans r2
      clear r2
      have r2 := r2n
      clear r2n
      have r3n : W4.cell? ⟨b2, o2 + q * 5 + 3, none⟩ = some (.int .i64 c3') := (hc _ _ (cell_lt r3)).trans r3
      clear r3
      have r3 := r3n
      clear r3n
      have r4n : W4.cell? ⟨b2, o2 + q * 5 + 4, none⟩ = some (.int .i64 c4') := (hc _ _ (cell_lt r4)).trans r4
      clear r4
      have r4 := r4n
      clear r4n
      have hbn : Below w.heap.size w W4 := bthen hb0 hB
      clear hb0
      have hb0 := hbn
      clear hbn
      have hzW4 : Wr.heap.size ≤ W4.heap.size := hz
      clear hc hf hB hz
      go_upto_region 24 with (fail)
      clear d1 d2 d3 d4 d5 d6 d7
      have i1 : ¬ (p : Int) < 0 := by omega
      have i2 : (p : Int) < (C.length : Int) := by omega
      have i3 : (p : Int) < (R.length : Int) := by have := HRC.out; omega
      have i4 : ¬ (q : Int) < 0 := by omega
      have i5 : (q : Int) < (C.length : Int) := by omega
      have i6 : (q : Int) < (R.length : Int) := by have := HRC.out; omega
      refine wp_region_alloc 16 W4 (.cells #[.int .i64 0, .int .i64 0, .bool false] 33) (by rfl) (by rfl) ⟨by rfl, fun _ _ => by simp [go_sem]⟩ ⟨by rfl, by rfl, _, _, _, by rfl⟩ (by kernel_rfl) (Below.refl _ _) ?_
      intro V5 hB
      have hc := (bcell hB).1
      have hf := (bcell hB).2
      have hz := hB.size
      have x0n : V5.cell? ⟨W1.heap.size, 0, none⟩ = some (.int .i64 0) := (hc _ _ (cell_lt x0)).trans x0
      clear x0
      have x0 := x0n
      clear x0n
      have x1n : V5.cell? ⟨W1.heap.size, 1, none⟩ = some (.int .i64 0) := (hc _ _ (cell_lt x1)).trans x1
      clear x1
      have x1 := x1n
      clear x1n
      have x2n : V5.cell? ⟨W1.heap.size, 2, none⟩ = some (.bool false) := (hc _ _ (cell_lt x2)).trans x2
      clear x2
      have x2 := x2n
      clear x2n
      have t0n : V5.cell? ⟨bp, op, none⟩ = some (.int .i64 p) := (hc _ _ (cell_lt t0)).trans t0
      clear t0
      have t0 := t0n
      clear t0n
      have t1n : V5.cell? ⟨bp, op + 1, none⟩ = some (.int .i64 q) := (hc _ _ (cell_lt t1)).trans t1
      clear t1
      have t1 := t1n
      clear t1n
      have y0n : V5.cell? ⟨b1, o1 + p * 2, none⟩ = some (.int .i64 m) := (hc _ _ (cell_lt y0)).trans y0
      clear y0
      have y0 := y0n
      clear y0n
      have y1n : V5.cell? ⟨b1, o1 + p * 2 + 1, none⟩ = some (.int .i64 d) := (hc _ _ (cell_lt y1)).trans y1
      clear y1
      have y1 := y1n
      clear y1n
      have q0n : V5.cell? ⟨b2, o2 + p * 5, none⟩ = some (.int .i64 c0) := (hc _ _ (cell_lt q0)).trans q0
      clear q0
      have q0 := q0n
      clear q0n
      have q1n : V5.cell? ⟨b2, o2 + p * 5 + 1, none⟩ = some (.int .i64 c1) := (hc _ _ (cell_lt q1)).trans q1
      clear q1
      have q1 := q1n
      clear q1n
      have q2n : V5.cell? ⟨b2, o2 + p * 5 + 2, none⟩ = some (.int .i64 c2) := (hc _ _ (cell_lt q2)).trans q2
      clear q2
      have q2 := q2n
      clear q2n
      have q3n : V5.cell? ⟨b2, o2 + p * 5 + 3, none⟩ = some (.int .i64 c3) := (hc _ _ (cell_lt q3)).trans q3
      clear q3
      have q3 := q3n
      clear q3n
      have q4n : V5.cell? ⟨b2, o2 + p * 5 + 4, none⟩ = some (.int .i64 c4) := (hc _ _ (cell_lt q4)).trans q4
      clear q4
      have q4 := q4n
      clear q4n
      have jmn : V5.cell? ⟨b1, o1 + q * 2, none⟩ = some (.int .i64 m') := (hc _ _ (cell_lt jm)).trans jm
      clear jm
      have jm := jmn
      clear jmn
      have jdn : V5.cell? ⟨b1, o1 + q * 2 + 1, none⟩ = some (.int .i64 d') := (hc _ _ (cell_lt jd)).trans jd
      clear jd
      have jd := jdn
      clear jdn
      have r0n : V5.cell? ⟨b2, o2 + q * 5, none⟩ = some (.int .i64 c0') := (hc _ _ (cell_lt r0)).trans r0
      clear r0
      have r0 := r0n
      clear r0n
      have r1n : V5.cell? ⟨b2, o2 + q * 5 + 1, none⟩ = some (.int .i64 c1') := (hc _ _ (cell_lt r1)).trans r1
      clear r1
      have r1 := r1n
      clear r1n
      have r2n : V5.cell? ⟨b2, o2 + q * 5 + 2, none⟩ = some (.int .i64 c2') := (hc _ _ (cell_lt r2)).trans r2
      clear r2
      have r2 := r2n
      clear r2n
      have r3n : V5.cell? ⟨b2, o2 + q * 5 + 3, none⟩ = some (.int .i64 c3') := (hc _ _ (cell_lt r3)).trans r3
      clear r3
      have r3 := r3n
      clear r3n
      have r4n : V5.cell? ⟨b2, o2 + q * 5 + 4, none⟩ = some (.int .i64 c4') := (hc _ _ (cell_lt r4)).trans r4
      clear r4
      have r4 := r4n
      clear r4n
      have hbn : Below w.heap.size w V5 := bthen hb0 hB
      clear hb0
      have hb0 := hbn
      clear hbn
      have hzV5 : W4.heap.size ≤ V5.heap.size := hz
      clear hc hf hB hz
      simp only [List.take_succ_cons, List.take_zero, List.drop_succ_cons, List.drop_zero]
      have kx0 := later_cell x0
      have kx1 := later_cell x1
      have kx2 := later_cell x2
      have kt0 := later_cell t0
      have kt1 := later_cell t1
      have ky0 := later_cell y0
      have ky1 := later_cell y1
      have kq0 := later_cell q0
      have kq1 := later_cell q1
      have kq2 := later_cell q2
      have kq3 := later_cell q3
      have kq4 := later_cell q4
      have kjm := later_cell jm
      have kjd := later_cell jd
      have kr0 := later_cell r0
      have kr1 := later_cell r1
      have kr2 := later_cell r2
      have kr3 := later_cell r3
      have kr4 := later_cell r4
      repeat (go_big_quiet_step (first | (go_at_call 23; with_reducible exact in_region (HTP.out _))))
      refine wpQuiet_nil ?_
      clear kx0 kx1 kx2 kt0 kt1 ky0 ky1 kq0 kq1 kq2 kq3 kq4 kjm kjd kr0 kr1 kr2 kr3 kr4
      intro U5 X5 hA hB2
      have hx : Below V5.heap.size V5 X5 := bthen (hA.alloc hA.size _) hB2
      have hg : V5.heap.size ≤ U5.heap.size := hA.size
      have z0 : X5.cell? ⟨U5.heap.size, 0, none⟩ = some (.int .i64 0) := ((bcell hB2).1 _ _ (by simp)).trans (by go_simp)
      have fz0 : X5.frozen? ⟨U5.heap.size, 0, none⟩ = false := ((bcell hB2).2 _ _ (by simp)).trans (by go_simp)
      have z1 : X5.cell? ⟨U5.heap.size, 1, none⟩ = some (.int .i64 0) := ((bcell hB2).1 _ _ (by simp)).trans (by go_simp)
      have fz1 : X5.frozen? ⟨U5.heap.size, 1, none⟩ = false := ((bcell hB2).2 _ _ (by simp)).trans (by go_simp)
      have z2 : X5.cell? ⟨U5.heap.size, 2, none⟩ = some (.bool false) := ((bcell hB2).1 _ _ (by simp)).trans (by go_simp)
      have fz2 : X5.frozen? ⟨U5.heap.size, 2, none⟩ = false := ((bcell hB2).2 _ _ (by simp)).trans (by go_simp)
      clear hA hB2
      obtain ⟨g5, hgg⟩ : ∃ g, U5.heap.size = g := ⟨_, rfl⟩
      rw [hgg] at hg z0 fz0 z1 fz1 z2 fz2
      rw [hgg]
      clear hgg U5
      go_wp2
      refine ⟨rfl, by go_grown, ?_⟩
      intro Y5 hB hE
      have hc := (bcell hB).1
      have hf := (bcell hB).2
      have hz := hB.size
      have x0n : Y5.cell? ⟨W1.heap.size, 0, none⟩ = some (.int .i64 0) := (hc _ _ (cell_lt x0)).trans x0
      clear x0
      have x0 := x0n
      clear x0n
      have x1n : Y5.cell? ⟨W1.heap.size, 1, none⟩ = some (.int .i64 0) := (hc _ _ (cell_lt x1)).trans x1
      clear x1
      have x1 := x1n
      clear x1n
      have x2n : Y5.cell? ⟨W1.heap.size, 2, none⟩ = some (.bool false) := (hc _ _ (cell_lt x2)).trans x2
      clear x2
      have x2 := x2n
      clear x2n
      have t0n : Y5.cell? ⟨bp, op, none⟩ = some (.int .i64 p) := (hc _ _ (cell_lt t0)).trans t0
      clear t0
      have t0 := t0n
      clear t0n
      have t1n : Y5.cell? ⟨bp, op + 1, none⟩ = some (.int .i64 q) := (hc _ _ (cell_lt t1)).trans t1
      clear t1
      have t1 := t1n
      clear t1n
      have y0n : Y5.cell? ⟨b1, o1 + p * 2, none⟩ = some (.int .i64 m) := (hc _ _ (cell_lt y0)).trans y0
      clear y0
      have y0 := y0n
      clear y0n
      have y1n : Y5.cell? ⟨b1, o1 + p * 2 + 1, none⟩ = some (.int .i64 d) := (hc _ _ (cell_lt y1)).trans y1
      clear y1
      have y1 := y1n
      clear y1n
      have q0n : Y5.cell? ⟨b2, o2 + p * 5, none⟩ = some (.int .i64 c0) := (hc _ _ (cell_lt q0)).trans q0
      clear q0
      have q0 := q0n
      clear q0n
      have q1n : Y5.cell? ⟨b2, o2 + p * 5 + 1, none⟩ = some (.int .i64 c1) := (hc _ _ (cell_lt q1)).trans q1
      clear q1
      have q1 := q1n
      clear q1n
      have q2n : Y5.cell? ⟨b2, o2 + p * 5 + 2, none⟩ = some (.int .i64 c2) := (hc _ _ (cell_lt q2)).trans q2
      clear q2
      have q2 := q2n
      clear q2n
      have q3n : Y5.cell? ⟨b2, o2 + p * 5 + 3, none⟩ = some (.int .i64 c3) := (hc _ _ (cell_lt q3)).trans q3
      clear q3
      have q3 := q3n
      clear q3n
      have q4n : Y5.cell? ⟨b2, o2 + p * 5 + 4, none⟩ = some (.int .i64 c4) := (hc _ _ (cell_lt q4)).trans q4
      clear q4
      have q4 := q4n
      clear q4n
      have jmn : Y5.cell? ⟨b1, o1 + q * 2, none⟩ = some (.int .i64 m') := (hc _ _ (cell_lt jm)).trans jm
      clear jm
      have jm := jmn
      clear jmn
      have jdn : Y5.cell? ⟨b1, o1 + q * 2 + 1, none⟩ = some (.int .i64 d') := (hc _ _ (cell_lt jd)).trans jd
      clear jd
      have jd := jdn
      clear jdn
      have r0n : Y5.cell? ⟨b2, o2 + q * 5, none⟩ = some (.int .i64 c0') := (hc _ _ (cell_lt r0)).trans r0
      clear r0
      have r0 := r0n
      clear r0n
      have r1n : Y5.cell? ⟨b2, o2 + q * 5 + 1, none⟩ = some (.int .i64 c1') := (hc _ _ (cell_lt r1)).trans r1
      clear r1
      have r1 := r1n
      clear r1n
      have r2n : Y5.cell? ⟨b2, o2 + q * 5 + 2, none⟩ = some (.int .i64 c2') := (hc _ _ (cell_lt r2)).trans r2
      clear r2
      have r2 := r2n
      clear r2n
      have r3n : Y5.cell? ⟨b2, o2 + q * 5 + 3, none⟩ = some (.int .i64 c3') := (hc _ _ (cell_lt r3)).trans r3
      clear r3
      have r3 := r3n
      clear r3n
      have r4n : Y5.cell? ⟨b2, o2 + q * 5 + 4, none⟩ = some (.int .i64 c4') := (hc _ _ (cell_lt r4)).trans r4
      clear r4
      have r4 := r4n
      clear r4n
      have g0 : Y5.cell? ⟨g5, 0, none⟩ = some (.int .i64 a0) := later_of hE (by go_simp)
      have g1 : Y5.cell? ⟨g5, 1, none⟩ = some (.int .i64 a1) := later_of hE (by go_simp)
      have g2 : Y5.cell? ⟨g5, 2, none⟩ = some (.bool a2) := later_of hE (by go_simp)
      clear z0 fz0 z1 fz1 z2 fz2 hE hx
      have hzY5 : V5.heap.size ≤ Y5.heap.size := hz
      have hgg5 : V5.heap.size ≤ g5 := hg
      have hbn : Below w.heap.size w Y5 := bthen hb0 hB
      clear hb0
      have hb0 := hbn
      clear hbn hc hf hB hz hg
      go_upto_region 25 with (fail)
      refine wp_region_alloc 16 Y5 (.cells #[.int .i64 0, .int .i64 0, .bool false] 33) (by rfl) (by rfl) ⟨by rfl, fun _ _ => by simp [go_sem]⟩ ⟨by rfl, by rfl, _, _, _, by rfl⟩ (by kernel_rfl) (Below.refl _ _) ?_
      intro V6 hB
      have hc := (bcell hB).1
      have hf := (bcell hB).2
      have hz := hB.size
      have x0n : V6.cell? ⟨W1.heap.size, 0, none⟩ = some (.int .i64 0) := (hc _ _ (cell_lt x0)).trans x0
      clear x0
      have x0 := x0n
      clear x0n
      have x1n : V6.cell? ⟨W1.heap.size, 1, none⟩ = some (.int .i64 0) := (hc _ _ (cell_lt x1)).trans x1
      clear x1
      have x1 := x1n
      clear x1n
      have x2n : V6.cell? ⟨W1.heap.size, 2, none⟩ = some (.bool false) := (hc _ _ (cell_lt x2)).trans x2
      clear x2
      have x2 := x2n
      clear x2n
      have t0n : V6.cell? ⟨bp, op, none⟩ = some (.int .i64 p) := (hc _ _ (cell_lt t0)).trans t0
      clear t0
      have t0 := t0n
      clear t0n
      have t1n : V6.cell? ⟨bp, op + 1, none⟩ = some (.int .i64 q) := (hc _ _ (cell_lt t1)).trans t1
      clear t1
      have t1 := t1n
      clear t1n
      have y0n : V6.cell? ⟨b1, o1 + p * 2, none⟩ = some (.int .i64 m) := (hc _ _ (cell_lt y0)).trans y0
      clear y0
      have y0 := y0n
      clear y0n
      have y1n : V6.cell? ⟨b1, o1 + p * 2 + 1, none⟩ = some (.int .i64 d) := (hc _ _ (cell_lt y1)).trans y1
      clear y1
      have y1 := y1n
      clear y1n
      have q0n : V6.cell? ⟨b2, o2 + p * 5, none⟩ = some (.int .i64 c0) := (hc _ _ (cell_lt q0)).trans q0
      clear q0
      have q0 := q0n
      clear q0n
      have q1n : V6.cell? ⟨b2, o2 + p * 5 + 1, none⟩ = some (.int .i64 c1) := (hc _ _ (cell_lt q1)).trans q1
      clear q1
      have q1 := q1n
      clear q1n
      have q2n : V6.cell? ⟨b2, o2 + p * 5 + 2, none⟩ = some (.int .i64 c2) := (hc _ _ (cell_lt q2)).trans q2
      clear q2
      have q2 := q2n
      clear q2n
      have q3n : V6.cell? ⟨b2, o2 + p * 5 + 3, none⟩ = some (.int .i64 c3) := (hc _ _ (cell_lt q3)).trans q3
      clear q3
      have q3 := q3n
      clear q3n
      have q4n : V6.cell? ⟨b2, o2 + p * 5 + 4, none⟩ = some (.int .i64 c4) := (hc _ _ (cell_lt q4)).trans q4
      clear q4
      have q4 := q4n
      clear q4n
      have jmn : V6.cell? ⟨b1, o1 + q * 2, none⟩ = some (.int .i64 m') := (hc _ _ (cell_lt jm)).trans jm
      clear jm
      have jm := jmn
      clear jmn
      have jdn : V6.cell? ⟨b1, o1 + q * 2 + 1, none⟩ = some (.int .i64 d') := (hc _ _ (cell_lt jd)).trans jd
      clear jd
      have jd := jdn
      clear jdn
      have r0n : V6.cell? ⟨b2, o2 + q * 5, none⟩ = some (.int .i64 c0') := (hc _ _ (cell_lt r0)).trans r0
      clear r0
      have r0 := r0n
      clear r0n
      have r1n : V6.cell? ⟨b2, o2 + q * 5 + 1, none⟩ = some (.int .i64 c1') := (hc _ _ (cell_lt r1)).trans r1
      clear r1
      have r1 := r1n
      clear r1n
      have r2n : V6.cell? ⟨b2, o2 + q * 5 + 2, none⟩ = some (.int .i64 c2') := (hc _ _ (cell_lt r2)).trans r2
      clear r2
      have r2 := r2n
      clear r2n
      have r3n : V6.cell? ⟨b2, o2 + q * 5 + 3, none⟩ = some (.int .i64 c3') := (hc _ _ (cell_lt r3)).trans r3
      clear r3
      have r3 := r3n
      clear r3n
      have r4n : V6.cell? ⟨b2, o2 + q * 5 + 4, none⟩ = some (.int .i64 c4') := (hc _ _ (cell_lt r4)).trans r4
      clear r4
      have r4 := r4n
      clear r4n
      have g0n : V6.cell? ⟨g5, 0, none⟩ = some (.int .i64 a0) := (hc _ _ (cell_lt g0)).trans g0
      clear g0
      have g0 := g0n
      clear g0n
      have g1n : V6.cell? ⟨g5, 1, none⟩ = some (.int .i64 a1) := (hc _ _ (cell_lt g1)).trans g1
      clear g1
      have g1 := g1n
      clear g1n
      have g2n : V6.cell? ⟨g5, 2, none⟩ = some (.bool a2) := (hc _ _ (cell_lt g2)).trans g2
      clear g2
      have g2 := g2n
      clear g2n
      have hbn : Below w.heap.size w V6 := bthen hb0 hB
      clear hb0
      have hb0 := hbn
      clear hbn
      have hzV6 : Y5.heap.size ≤ V6.heap.size := hz
      clear hc hf hB hz
      simp only [List.take_succ_cons, List.take_zero, List.drop_succ_cons, List.drop_zero]
      have kx0 := later_cell x0
      have kx1 := later_cell x1
      have kx2 := later_cell x2
      have kt0 := later_cell t0
      have kt1 := later_cell t1
      have ky0 := later_cell y0
      have ky1 := later_cell y1
      have kq0 := later_cell q0
      have kq1 := later_cell q1
      have kq2 := later_cell q2
      have kq3 := later_cell q3
      have kq4 := later_cell q4
      have kjm := later_cell jm
      have kjd := later_cell jd
      have kr0 := later_cell r0
      have kr1 := later_cell r1
      have kr2 := later_cell r2
      have kr3 := later_cell r3
      have kr4 := later_cell r4
      have kg0 := later_cell g0
      have kg1 := later_cell g1
      have kg2 := later_cell g2
      repeat (go_big_quiet_step (first | (go_at_call 23; with_reducible exact in_region (HTQ.out _))))
      refine wpQuiet_nil ?_
      clear kx0 kx1 kx2 kt0 kt1 ky0 ky1 kq0 kq1 kq2 kq3 kq4 kjm kjd kr0 kr1 kr2 kr3 kr4 kg0 kg1 kg2
      intro U6 X6 hA hB2
      have hx : Below V6.heap.size V6 X6 := bthen (hA.alloc hA.size _) hB2
      have hg : V6.heap.size ≤ U6.heap.size := hA.size
      have z0 : X6.cell? ⟨U6.heap.size, 0, none⟩ = some (.int .i64 0) := ((bcell hB2).1 _ _ (by simp)).trans (by go_simp)
      have fz0 : X6.frozen? ⟨U6.heap.size, 0, none⟩ = false := ((bcell hB2).2 _ _ (by simp)).trans (by go_simp)
      have z1 : X6.cell? ⟨U6.heap.size, 1, none⟩ = some (.int .i64 0) := ((bcell hB2).1 _ _ (by simp)).trans (by go_simp)
      have fz1 : X6.frozen? ⟨U6.heap.size, 1, none⟩ = false := ((bcell hB2).2 _ _ (by simp)).trans (by go_simp)
      have z2 : X6.cell? ⟨U6.heap.size, 2, none⟩ = some (.bool false) := ((bcell hB2).1 _ _ (by simp)).trans (by go_simp)
      have fz2 : X6.frozen? ⟨U6.heap.size, 2, none⟩ = false := ((bcell hB2).2 _ _ (by simp)).trans (by go_simp)
      clear hA hB2
      obtain ⟨g6, hgg⟩ : ∃ g, U6.heap.size = g := ⟨_, rfl⟩
      rw [hgg] at hg z0 fz0 z1 fz1 z2 fz2
      rw [hgg]
      clear hgg U6
      go_wp2
      refine ⟨rfl, by go_grown, ?_⟩
      intro Y6 hB hE
      have hc := (bcell hB).1
      have hf := (bcell hB).2
      have hz := hB.size
      have x0n : Y6.cell? ⟨W1.heap.size, 0, none⟩ = some (.int .i64 0) := (hc _ _ (cell_lt x0)).trans x0
      clear x0
      have x0 := x0n
      clear x0n
      have x1n : Y6.cell? ⟨W1.heap.size, 1, none⟩ = some (.int .i64 0) := (hc _ _ (cell_lt x1)).trans x1
      clear x1
      have x1 := x1n
      clear x1n
      have x2n : Y6.cell? ⟨W1.heap.size, 2, none⟩ = some (.bool false) := (hc _ _ (cell_lt x2)).trans x2
      clear x2
      have x2 := x2n
      clear x2n
      have t0n : Y6.cell? ⟨bp, op, none⟩ = some (.int .i64 p) := (hc _ _ (cell_lt t0)).trans t0
      clear t0
      have t0 := t0n
      clear t0n
      have t1n : Y6.cell? ⟨bp, op + 1, none⟩ = some (.int .i64 q) := (hc _ _ (cell_lt t1)).trans t1
      clear t1
      have t1 := t1n
      clear t1n
      have y0n : Y6.cell? ⟨b1, o1 + p * 2, none⟩ = some (.int .i64 m) := (hc _ _ (cell_lt y0)).trans y0
      clear y0
      have y0 := y0n
      clear y0n
      have y1n : Y6.cell? ⟨b1, o1 + p * 2 + 1, none⟩ = some (.int .i64 d) := (hc _ _ (cell_lt y1)).trans y1
      clear y1
      have y1 := y1n
      clear y1n
      have q0n : Y6.cell? ⟨b2, o2 + p * 5, none⟩ = some (.int .i64 c0) := (hc _ _ (cell_lt q0)).trans q0
      clear q0
      have q0 := q0n
      clear q0n
      have q1n : Y6.cell? ⟨b2, o2 + p * 5 + 1, none⟩ = some (.int .i64 c1) := (hc _ _ (cell_lt q1)).trans q1
      clear q1
      have q1 := q1n
      clear q1n
      have q2n : Y6.cell? ⟨b2, o2 + p * 5 + 2, none⟩ = some (.int .i64 c2) := (hc _ _ (cell_lt q2)).trans q2
      clear q2
      have q2 := q2n
      clear q2n
      have q3n : Y6.cell? ⟨b2, o2 + p * 5 + 3, none⟩ = some (.int .i64 c3) := (hc _ _ (cell_lt q3)).trans q3
      clear q3
      have q3 := q3n
      clear q3n
      have q4n : Y6.cell? ⟨b2, o2 + p * 5 + 4, none⟩ = some (.int .i64 c4) := (hc _ _ (cell_lt q4)).trans q4
      clear q4
      have q4 := q4n
      clear q4n
      have jmn : Y6.cell? ⟨b1, o1 + q * 2, none⟩ = some (.int .i64 m') := (hc _ _ (cell_lt jm)).trans jm
      clear jm
      have jm := jmn
      clear jmn
      have jdn : Y6.cell? ⟨b1, o1 + q * 2 + 1, none⟩ = some (.int .i64 d') := (hc _ _ (cell_lt jd)).trans jd
      clear jd
      have jd := jdn
      clear jdn
      have r0n : Y6.cell? ⟨b2, o2 + q * 5, none⟩ = some (.int .i64 c0') := (hc _ _ (cell_lt r0)).trans r0
      clear r0
      have r0 := r0n
      clear r0n
      have r1n : Y6.cell? ⟨b2, o2 + q * 5 + 1, none⟩ = some (.int .i64 c1') := (hc _ _ (cell_lt r1)).trans r1
      clear r1
      have r1 := r1n
      clear r1n
      have r2n : Y6.cell? ⟨b2, o2 + q * 5 + 2, none⟩ = some (.int .i64 c2') := (hc _ _ (cell_lt r2)).trans r2
      clear r2
      have r2 := r2n
      clear r2n
      have r3n : Y6.cell? ⟨b2, o2 + q * 5 + 3, none⟩ = some (.int .i64 c3') := (hc _ _ (cell_lt r3)).trans r3
      clear r3
      have r3 := r3n
      clear r3n
      have r4n : Y6.cell? ⟨b2, o2 + q * 5 + 4, none⟩ = some (.int .i64 c4') := (hc _ _ (cell_lt r4)).trans r4
      clear r4
      have r4 := r4n
      clear r4n
      have g0n : Y6.cell? ⟨g5, 0, none⟩ = some (.int .i64 a0) := (hc _ _ (cell_lt g0)).trans g0
      clear g0
      have g0 := g0n
      clear g0n
      have g1n : Y6.cell? ⟨g5, 1, none⟩ = some (.int .i64 a1) := (hc _ _ (cell_lt g1)).trans g1
      clear g1
      have g1 := g1n
      clear g1n
      have g2n : Y6.cell? ⟨g5, 2, none⟩ = some (.bool a2) := (hc _ _ (cell_lt g2)).trans g2
      clear g2
      have g2 := g2n
      clear g2n
      have v0 : Y6.cell? ⟨g6, 0, none⟩ = some (.int .i64 b0) := later_of hE (by go_simp)
      have v1 : Y6.cell? ⟨g6, 1, none⟩ = some (.int .i64 b1') := later_of hE (by go_simp)
      have v2 : Y6.cell? ⟨g6, 2, none⟩ = some (.bool b2') := later_of hE (by go_simp)
      clear z0 fz0 z1 fz1 z2 fz2 hE hx
      have hzY6 : V6.heap.size ≤ Y6.heap.size := hz
      have hgg6 : V6.heap.size ≤ g6 := hg
      have hbn : Below w.heap.size w Y6 := bthen hb0 hB
      clear hb0
      have hb0 := hbn
      clear hbn hc hf hB hz hg
      go_wp2_with fail
      refine (via (w0 := Y6) (by go_grown) (c_counted _)).mono ?_
      rintro e W7 ⟨rfl, hc, hf, hz, hB⟩
      have x0n : W7.cell? ⟨W1.heap.size, 0, none⟩ = some (.int .i64 0) := (hc _ _ (cell_lt x0)).trans x0
      clear x0
      have x0 := x0n
      clear x0n
      have x1n : W7.cell? ⟨W1.heap.size, 1, none⟩ = some (.int .i64 0) := (hc _ _ (cell_lt x1)).trans x1
      clear x1
      have x1 := x1n
      clear x1n
      have x2n : W7.cell? ⟨W1.heap.size, 2, none⟩ = some (.bool false) := (hc _ _ (cell_lt x2)).trans x2
      clear x2
      have x2 := x2n
      clear x2n
      have t0n : W7.cell? ⟨bp, op, none⟩ = some (.int .i64 p) := (hc _ _ (cell_lt t0)).trans t0
      clear t0
      have t0 := t0n
      clear t0n
      have t1n : W7.cell? ⟨bp, op + 1, none⟩ = some (.int .i64 q) := (hc _ _ (cell_lt t1)).trans t1
      clear t1
      have t1 := t1n
      clear t1n
      have y0n : W7.cell? ⟨b1, o1 + p * 2, none⟩ = some (.int .i64 m) := (hc _ _ (cell_lt y0)).trans y0
      clear y0
      have y0 := y0n
      clear y0n
      have y1n : W7.cell? ⟨b1, o1 + p * 2 + 1, none⟩ = some (.int .i64 d) := (hc _ _ (cell_lt y1)).trans y1
      clear y1
      have y1 := y1n
      clear y1n
      have q0n : W7.cell? ⟨b2, o2 + p * 5, none⟩ = some (.int .i64 c0) := (hc _ _ (cell_lt q0)).trans q0
      clear q0
      have q0 := q0n
      clear q0n
      have q1n : W7.cell? ⟨b2, o2 + p * 5 + 1, none⟩ = some (.int .i64 c1) := (hc _ _ (cell_lt q1)).trans q1
      clear q1
      have q1 := q1n
      clear q1n
      have q2n : W7.cell? ⟨b2, o2 + p * 5 + 2, none⟩ = some (.int .i64 c2) := (hc _ _ (cell_lt q2)).trans q2
      clear q2
      have q2 := q2n
      clear q2n
      have q3n : W7.cell? ⟨b2, o2 + p * 5 + 3, none⟩ = some (.int .i64 c3) := (hc _ _ (cell_lt q3)).trans q3
      clear q3
      have q3 := q3n
      clear q3n
      have q4n : W7.cell? ⟨b2, o2 + p * 5 + 4, none⟩ = some (.int .i64 c4) := (hc _ _ (cell_lt q4)).trans q4
      clear q4
      have q4 := q4n
      clear q4n
      have jmn : W7.cell? ⟨b1, o1 + q * 2, none⟩ = some (.int .i64 m') := (hc _ _ (cell_lt jm)).trans jm
      clear jm
      have jm := jmn
      clear jmn
      have jdn : W7.cell? ⟨b1, o1 + q * 2 + 1, none⟩ = some (.int .i64 d') := (hc _ _ (cell_lt jd)).trans jd
      clear jd
      have jd := jdn
      clear jdn
      have r0n : W7.cell? ⟨b2, o2 + q * 5, none⟩ = some (.int .i64 c0') := (hc _ _ (cell_lt r0)).trans r0
      clear r0
      have r0 := r0n
      clear r0n
      have r1n : W7.cell? ⟨b2, o2 + q * 5 + 1, none⟩ = some (.int .i64 c1') := (hc _ _ (cell_lt r1)).trans r1
      clear r1
      have r1 := r1n
      clear r1n
      have r2n : W7.cell? ⟨b2, o2 + q * 5 + 2, none⟩ = some (.int .i64 c2') := (hc _ _ (cell_lt r2)).trans r2
      clear r2
      have r2 := r2n
      clear r2n
      have r3n : W7.cell? ⟨b2, o2 + q * 5 + 3, none⟩ = some (.int .i64 c3') := (hc _ _ (cell_lt r3)).trans r3
      clear r3
      have r3 := r3n
      clear r3n
      have r4n : W7.cell? ⟨b2, o2 + q * 5 + 4, none⟩ = some (.int .i64 c4') := (hc _ _ (cell_lt r4)).trans r4
      clear r4
      have r4 := r4n
      clear r4n
      have g0n : W7.cell? ⟨g5, 0, none⟩ = some (.int .i64 a0) := (hc _ _ (cell_lt g0)).trans g0
      clear g0
      have g0 := g0n
      clear g0n
      have g1n : W7.cell? ⟨g5, 1, none⟩ = some (.int .i64 a1) := (hc _ _ (cell_lt g1)).trans g1
      clear g1
      have g1 := g1n
      clear g1n
      have g2n : W7.cell? ⟨g5, 2, none⟩ = some (.bool a2) := (hc _ _ (cell_lt g2)).trans g2
      clear g2
      have g2 := g2n
      clear g2n
      have v0n : W7.cell? ⟨g6, 0, none⟩ = some (.int .i64 b0) := (hc _ _ (cell_lt v0)).trans v0
      clear v0
      have v0 := v0n
      clear v0n
      have v1n : W7.cell? ⟨g6, 1, none⟩ = some (.int .i64 b1') := (hc _ _ (cell_lt v1)).trans v1
      clear v1
      have v1 := v1n
      clear v1n
      have v2n : W7.cell? ⟨g6, 2, none⟩ = some (.bool b2') := (hc _ _ (cell_lt v2)).trans v2
      clear v2
      have v2 := v2n
      clear v2n
      have hbn : Below w.heap.size w W7 := bthen hb0 hB
      clear hb0
      have hb0 := hbn
      clear hbn
      have hzW7 : Y6.heap.size ≤ W7.heap.size := hz
      clear hc hf hB hz
      go_wp2_with fail
      refine (via (w0 := W7) (by go_grown) (HB2.out _)).mono ?_
      rintro e W8 ⟨rfl, hc, hf, hz, hB⟩
      have x0n : W8.cell? ⟨W1.heap.size, 0, none⟩ = some (.int .i64 0) := (hc _ _ (cell_lt x0)).trans x0
      clear x0
      have x0 := x0n
      clear x0n
      have x1n : W8.cell? ⟨W1.heap.size, 1, none⟩ = some (.int .i64 0) := (hc _ _ (cell_lt x1)).trans x1
      clear x1
      have x1 := x1n
      clear x1n
      have x2n : W8.cell? ⟨W1.heap.size, 2, none⟩ = some (.bool false) := (hc _ _ (cell_lt x2)).trans x2
      clear x2
      have x2 := x2n
      clear x2n
      have t0n : W8.cell? ⟨bp, op, none⟩ = some (.int .i64 p) := (hc _ _ (cell_lt t0)).trans t0
      clear t0
      have t0 := t0n
      clear t0n
      have t1n : W8.cell? ⟨bp, op + 1, none⟩ = some (.int .i64 q) := (hc _ _ (cell_lt t1)).trans t1
      clear t1
      have t1 := t1n
      clear t1n
      have y0n : W8.cell? ⟨b1, o1 + p * 2, none⟩ = some (.int .i64 m) := (hc _ _ (cell_lt y0)).trans y0
      clear y0
      have y0 := y0n
      clear y0n
      have y1n : W8.cell? ⟨b1, o1 + p * 2 + 1, none⟩ = some (.int .i64 d) := (hc _ _ (cell_lt y1)).trans y1
      clear y1
      have y1 := y1n
      clear y1n
      have q0n : W8.cell? ⟨b2, o2 + p * 5, none⟩ = some (.int .i64 c0) := (hc _ _ (cell_lt q0)).trans q0
      clear q0
      have q0 := q0n
      clear q0n
      have q1n : W8.cell? ⟨b2, o2 + p * 5 + 1, none⟩ = some (.int .i64 c1) := (hc _ _ (cell_lt q1)).trans q1
      clear q1
      have q1 := q1n
      clear q1n
      have q2n : W8.cell? ⟨b2, o2 + p * 5 + 2, none⟩ = some (.int .i64 c2) := (hc _ _ (cell_lt q2)).trans q2
      clear q2
      have q2 := q2n
      clear q2n
      have q3n : W8.cell? ⟨b2, o2 + p * 5 + 3, none⟩ = some (.int .i64 c3) := (hc _ _ (cell_lt q3)).trans q3
      clear q3
      have q3 := q3n
      clear q3n
      have q4n : W8.cell? ⟨b2, o2 + p * 5 + 4, none⟩ = some (.int .i64 c4) := (hc _ _ (cell_lt q4)).trans q4
      clear q4
      have q4 := q4n
      clear q4n
      have jmn : W8.cell? ⟨b1, o1 + q * 2, none⟩ = some (.int .i64 m') := (hc _ _ (cell_lt jm)).trans jm
      clear jm
      have jm := jmn
      clear jmn
      have jdn : W8.cell? ⟨b1, o1 + q * 2 + 1, none⟩ = some (.int .i64 d') := (hc _ _ (cell_lt jd)).trans jd
      clear jd
      have jd := jdn
      clear jdn
      have r0n : W8.cell? ⟨b2, o2 + q * 5, none⟩ = some (.int .i64 c0') := (hc _ _ (cell_lt r0)).trans r0
      clear r0
      have r0 := r0n
      clear r0n
      have r1n : W8.cell? ⟨b2, o2 + q * 5 + 1, none⟩ = some (.int .i64 c1') := (hc _ _ (cell_lt r1)).trans r1
      clear r1
      have r1 := r1n
      clear r1n
      have r2n : W8.cell? ⟨b2, o2 + q * 5 + 2, none⟩ = some (.int .i64 c2') := (hc _ _ (cell_lt r2)).trans r2
      clear r2
      have r2 := r2n
      clear r2n
      have r3n : W8.cell? ⟨b2, o2 + q * 5 + 3, none⟩ = some (.int .i64 c3') := (hc _ _ (cell_lt r3)).trans r3
      clear r3
      have r3 := r3n
      clear r3n
      have r4n : W8.cell? ⟨b2, o2 + q * 5 + 4, none⟩ = some (.int .i64 c4') := (hc _ _ (cell_lt r4)).trans r4
      clear r4
      have r4 := r4n
      clear r4n
      have g0n : W8.cell? ⟨g5, 0, none⟩ = some (.int .i64 a0) := (hc _ _ (cell_lt g0)).trans g0
      clear g0
      have g0 := g0n
      clear g0n
      have g1n : W8.cell? ⟨g5, 1, none⟩ = some (.int .i64 a1) := (hc _ _ (cell_lt g1)).trans g1
      clear g1
      have g1 := g1n
      clear g1n
      have g2n : W8.cell? ⟨g5, 2, none⟩ = some (.bool a2) := (hc _ _ (cell_lt g2)).trans g2
      clear g2
      have g2 := g2n
      clear g2n
      have v0n : W8.cell? ⟨g6, 0, none⟩ = some (.int .i64 b0) := (hc _ _ (cell_lt v0)).trans v0
      clear v0
      have v0 := v0n
      clear v0n
      have v1n : W8.cell? ⟨g6, 1, none⟩ = some (.int .i64 b1') := (hc _ _ (cell_lt v1)).trans v1
      clear v1
      have v1 := v1n
      clear v1n
      have v2n : W8.cell? ⟨g6, 2, none⟩ = some (.bool b2') := (hc _ _ (cell_lt v2)).trans v2
      clear v2
      have v2 := v2n
      clear v2n
      have hbn : Below w.heap.size w W8 := bthen hb0 hB
      clear hb0
      have hb0 := hbn
      clear hbn
      have hzW8 : W7.heap.size ≤ W8.heap.size := hz
      clear hc hf hB hz
      go_wp2_with fail
      go_ret
      exact ⟨rfl, by have hbz := hb0.size; go_grown⟩

theorem walk {w : World} (R : List Rt) (a : Option Addr) (ca : Nat) (_hmR : R.length ≤ maxLen) (hR : R.length ≤ 1000000000000 → Rts w a R) (C : List Ct) (b : Option Addr) (cb : Nat) (_hmC : C.length ≤ maxLen) (hC : C.length ≤ 1000000000000 → Cts w b C) (n : Int) :
    Calls Try.prog 13 #[.slice a R.length ca, .slice b C.length cb, .int .i64 n] w fun e w' => e = .returned (.bool true) ∧ Below w.heap.size w w' := by
  by_cases h1 : 20 < R.length
  · exact walk_skip1 R a ca C b cb n h1
  by_cases h2 : 20 < C.length
  · exact walk_skip2 R a ca C b cb n h1 h2
  have hR' := hR (by omega)
  have hC' := hC (by omega)
  obtain ⟨⟨x, pr, e⟩, hp⟩ : ∃ r, passV R C = r := ⟨_, rfl⟩
  by_cases he : e = 0
  · subst he
    obtain ⟨hn0, hRC, hok, hall, g1, g2⟩ := pass_ok hp
    have hfine := fine_ivsP R C
    have hlen := ivsP_len R C
    have hfa : Fine x := by rw [hall]; exact fine_all hfine (by omega)
    cases hs : x.some
    · obtain ⟨p, q, hpq, hq, hpair, hno⟩ := pair_of hfine (by omega) (by rw [← hall]; exact hs)
      have hx := hfa.2 hs
      have hpr := g2 hs
      rw [hpair] at hpr
      subst hx hpr
      exact walk_none R a ca C b cb n h1 h2 hR' hC' p q hpq (by omega) hp hno
    · have hpr := g1 hs
      subst hpr
      obtain ⟨lo, hi, so⟩ := x
      simp only at hs
      subst hs
      exact walk_some R a ca C b cb n h1 h2 hR' hC' lo hi hp
  · obtain ⟨rfl, rfl⟩ := pass_err hp he
    exact walk_err R a ca C b cb n h1 h2 hR' hC' e hp he


set_option maxRecDepth 100000 in
theorem lifted (os : Os) (started : os.Started) (H : Type) (enc : TypeId × Value → H) :
    ReturnsInHanded {} Try.checked os 13 .any (Rows.tallyPassageSpec.pre6 enc Try.prog Try.f13 Rows.tallyPassageRow.domain false) (Rows.tallyPassageSpec.post enc Try.prog Try.f13 false true false false) := by
  refine returnsInHanded_of_change (C := Try.checked) own started (by kernel_rfl) Try.func13
    (ChangeSpec.witness6 (enc := enc) (C := Try.checked) false ⟨#[], #[.slice none 0 0, .slice none 0 0, .int .i64 0], []⟩ 8 (by kernel_rfl) (by kernel_rfl) (by kernel_rfl) (by kernel_rfl)) ?_
  intro W base args ds gs before hval0 hW _ _
  have hval : ∀ (j : Nat) t v, Try.f13.params[j]? = some t → args[j]? = some v → Value.okWide Try.prog W .any base t v := hval0
  have hW' := hW
  obtain ⟨p, q, hA0, hV, rfl, _, _⟩ := hW
  have hA : DataW.TrodAll enc Try.prog W 0 (fun _ => true) true Try.f13.params.toList args.toList ds p := hA0
  rw [Try.params13] at hA hval
  obtain ⟨v0, vs0, d0, ds0, p0, q0, hargs, rfl, rfl, h0, r0⟩ := trodAll_cons hA
  obtain ⟨v1, vs1, d1, ds1, p1, q1, rfl, rfl, rfl, h1, r1⟩ := trodAll_cons r0
  obtain ⟨v2, vs2, d2, ds2, p2, q2, rfl, rfl, rfl, h2, r2⟩ := trodAll_cons r1
  obtain ⟨rfl, rfl, rfl⟩ := trodAll_nil r2
  obtain rfl : args = #[v0, v1, v2] := by cases args; simp_all
  obtain ⟨rfl, rfl⟩ := trodVars_none hV
  obtain ⟨b0, l0, k0, rfl, m0, e0⟩ := open_rts (fun _ _ => hval 0 67 v0 rfl rfl) h0
  obtain ⟨b1, l1, k1, rfl, m1, e1⟩ := open_cts (fun _ _ => hval 1 68 v1 rfl rfl) h1
  obtain ⟨a2, rfl, rfl, rfl, w2⟩ := open_int Try.underlying3 (hval 2 3 v2 rfl rfl) h2
  clear hA0 hval0
  have s2 := stays h2 (by kernel_rfl) (by kernel_rfl)
  refine (walk l0 b0 k0 m0 e0 l1 b1 k1 m1 e1 a2).mono fun e W' ⟨he, hg⟩ => ?_
  subst he
  have hlt := fun x hx => hW'.lt x hx
  exact ⟨_, rfl, post_of_below (pa := (p0 ++ (p1 ++ ([] ++ [])))) (pv := []) hW' (fun _ _ _ => (trodAll_cons_mk (shut_bool Try.underlying4 _) trodAll_mk0)) (fun sp hsp => (trodAll_cons_mk (staysB h0 (by kernel_rfl) (by kernel_rfl) hg hlt (fun x hx => by simp [hx]) sp hsp) (trodAll_cons_mk (staysB h1 (by kernel_rfl) (by kernel_rfl) hg hlt (fun x hx => by simp [hx]) sp hsp) (trodAll_cons_mk (s2 _ _) trodAll_mk0)))) (fun _ _ => rfl) rfl
    hg (ok_one (by kernel_rfl) rfl (okWide_bool_mk Try.underlying4 _))⟩

theorem over : Rows.tallyPassageRow.holds Try.pinned (OpenSpec.ofChange Rows.tallyPassageSpec) :=
  OpenClaim.holds_of_wide 13 Try.f13 rfl rfl rfl rfl rfl rfl rfl ⟨rfl, rfl, rfl, rfl, rfl⟩ rfl rfl rfl rfl rfl (by kernel_rfl) Try.func13 (by kernel_rfl)
    (of_decide_eq_true (by kernel_rfl)) (by unfold Func.isWrapper; first | (rw [if_pos (by decide +kernel)]; kernel_rfl) | (rw [if_neg (by decide +kernel)]; exact ⟨rfl, rfl⟩))
    (fun os started H enc _ => lifted os started H enc)

theorem proved : Rows.TallyPassageSaid :=
  over
end Go.Proofs.Ytokpjaodchcheaa.tallyPassage
