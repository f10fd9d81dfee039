/- This text proves that the law TallySums holds: for every list of intervals and of integers, two intervals and two integers it returns true, and they read behind the call as they read before. -/
import Derived.Test.YtokpjaodchcheaaShut
import Derived.Test.YtokpjaodchcheaaRows
import Derived.Test.YtokpjaodchcheaaRefSum
import Derived.Test.YtokpjaodchcheaaExact
import Derived.Deep.CutBlock
import Derived.IntWalk
import Derived.Test.YtokpjaodchcheaaOpen
namespace Go.Proofs.Ytokpjaodchcheaa.tallySums
open Go.ChangeShapes Go.WideShapes Go.ChangeAt Go.RowKit Go.Joins Go.Deep

theorem u64_nonneg (n : Int) : 0 ≤ IntKind.u64.wrap n := by
  unfold IntKind.wrap
  simp [IntKind.bits, IntKind.signed]
  omega
theorem sumV_some {l : List Iv} {X : Iv} (h : sumV l = (X, 0)) (hs : X.some = true) : X = ⟨lowS l, highS l, true⟩ ∧ Good l ∧ highS l ≤ 100000000 := by
  unfold sumV at h
  split at h
  · simp at h
  · split at h
    · simp at h
    · split at h
      · simp only [Prod.mk.injEq, and_true] at h
        rw [← h] at hs
        simp [Iv.none] at hs
      · split at h
        · rename_i h1 h2 h3
          simp only [Prod.mk.injEq, and_true] at h
          refine ⟨h.symm, fun x hx => ⟨?_, ?_⟩, h3⟩
          · have := List.any_eq_false.1 (by simpa only [Bool.not_eq_true] using h1) x hx
            simpa using this
          · have := List.any_eq_false.1 (by simpa only [Bool.not_eq_true] using h2) x hx
            simpa [noneB] using this
        · simp at h
theorem both_self {x : Iv} (h : ivB x = true) (hs : x.some = true) : bothV x x = x := by
  have e := ivB_some h hs
  unfold bothV meet betw
  rw [h, hs]
  simp only [Bool.and_self, if_true]
  rw [if_neg (by omega)]
  obtain ⟨lo, hi, so⟩ := x
  simp only at hs
  subst hs
  simp
theorem both_bad {x : Iv} (h : ivB x = false) : bothV x x = Iv.none := by unfold bothV; rw [h]; rfl
theorem lessV_some {x y : Iv} (h : (lessV x y).some = true) : lessV x y = ⟨max 0 (x.lo - y.hi), x.hi - y.lo, true⟩ ∧ (0 ≤ x.lo ∧ x.lo ≤ x.hi ∧ x.hi ≤ 100000000) ∧ (0 ≤ y.lo ∧ y.lo ≤ y.hi ∧ y.hi ≤ 100000000) := by
  unfold lessV at *
  cases h1 : ivB x
  · rw [h1] at h; simp [Iv.none] at h
  · cases h2 : ivB y
    · rw [h1, h2] at h; simp [Iv.none] at h
    · rw [h1, h2] at h
      simp only [Bool.and_self, if_true] at h ⊢
      cases h3 : x.some
      · rw [h3] at h; simp [Iv.none] at h
      · cases h4 : y.some
        · rw [h3, h4] at h; simp [Iv.none] at h
        · rw [h3, h4] at h
          simp only [Bool.and_self, if_true] at h ⊢
          unfold betw at *
          split at h
          · simp at h
          · rename_i hc
            rw [if_neg hc]
            exact ⟨rfl, ivB_some h1 h3, ivB_some h2 h4⟩
theorem bothV_some {x y : Iv} (h : (bothV x y).some = true) : bothV x y = ⟨max x.lo y.lo, min x.hi y.hi, true⟩ := by
  unfold bothV at *
  cases h1 : (ivB x && ivB y)
  · rw [h1] at h; simp [Iv.none] at h
  · rw [h1] at h
    simp only [if_true] at h ⊢
    unfold meet at *
    cases h2 : (x.some && y.some)
    · rw [h2] at h; simp [Iv.none] at h
    · rw [h2] at h
      simp only [if_true] at h ⊢
      unfold betw at *
      split at h
      · simp at h
      · rename_i hc
        rw [if_neg hc]
theorem less_in {x y : Iv} {n m : Int} (h1 : ivB x = true) (h2 : ivB y = true) (i1 : inB x n = true) (i2 : inB y m = true) (h : m ≤ n) : inB (lessV x y) (n - m) = true := by
  unfold inB at i1 i2
  simp only [Bool.and_eq_true, decide_eq_true_eq] at i1 i2
  unfold lessV
  rw [h1, h2, i1.1.1, i2.1.1]
  simp only [Bool.and_self, if_true]
  unfold betw
  rw [if_neg (by omega)]
  simp [inB]
  omega
theorem in_bd {x : Iv} {n : Int} (h1 : ivB x = true) (i1 : inB x n = true) : 0 ≤ n ∧ n ≤ 100000000 := by
  unfold inB at i1
  simp only [Bool.and_eq_true, decide_eq_true_eq] at i1
  have := ivB_some h1 i1.1.1
  omega

set_option maxRecDepth 100000 in
set_option maxHeartbeats 16000000 in
theorem walk_many {w : World} (l : List Iv) (a : Option Addr) (cap : Nat) (hm : l.length ≤ maxLen) (ps : List Int) (pa : Option Addr) (pc : Nat) (_hpm : ps.length ≤ maxLen) (a1 a2 : Int) (a3 : Bool) (b1 b2 : Int) (b3 : Bool) (n m : Int) (h : 20 < l.length) :
    Calls Try.prog 15 #[.slice a l.length cap, .slice pa ps.length pc, .agg #[.int .i64 a1, .int .i64 a2, .bool a3], .agg #[.int .i64 b1, .int .i64 b2, .bool b3], .int .i64 n, .int .i64 m] w fun e w' => e = .returned (.bool true) ∧ Below w.heap.size w w' := by
  unfold maxLen at hm
  have h' : (20 : Int) < (l.length : Int) := by omega
  go_enter Try.func15, Try.ntmps15
  go_upto_region 1 with (fail)
  go_name_world W1 hW1
  have hbn : Below w.heap.size w W1 := by subst hW1; go_grown
  have hb0 := hbn
  clear hbn
  have p0n : W1.cell? ⟨w.heap.size, 0, none⟩ = some (.int .i64 a1) := by subst hW1; go_simp
  have p1n : W1.cell? ⟨w.heap.size, 1, none⟩ = some (.int .i64 a2) := by subst hW1; go_simp
  have p2n : W1.cell? ⟨w.heap.size, 2, none⟩ = some (.bool a3) := by subst hW1; go_simp
  have q0n : W1.cell? ⟨w.heap.size + 1, 0, none⟩ = some (.int .i64 b1) := by subst hW1; go_simp
  have q1n : W1.cell? ⟨w.heap.size + 1, 1, none⟩ = some (.int .i64 b2) := by subst hW1; go_simp
  have q2n : W1.cell? ⟨w.heap.size + 1, 2, none⟩ = some (.bool b3) := by subst hW1; go_simp
  clear hW1 
  have p0 := p0n
  have p1 := p1n
  have p2 := p2n
  have q0 := q0n
  have q1 := q1n
  have q2 := q2n
  clear p0n p1n p2n q0n q1n q2n 
  go_wp2_with fail
  refine (via (w0 := W1) (by go_grown) (c_counted _)).mono ?_
  rintro e W2 ⟨rfl, hc, hf, hz, hB⟩
  have p0n : W2.cell? ⟨w.heap.size, 0, none⟩ = some (.int .i64 a1) := (hc _ _ (cell_lt p0)).trans p0
  clear p0
  have p0 := p0n
  clear p0n
  have p1n : W2.cell? ⟨w.heap.size, 1, none⟩ = some (.int .i64 a2) := (hc _ _ (cell_lt p1)).trans p1
  clear p1
  have p1 := p1n
  clear p1n
  have p2n : W2.cell? ⟨w.heap.size, 2, none⟩ = some (.bool a3) := (hc _ _ (cell_lt p2)).trans p2
  clear p2
  have p2 := p2n
  clear p2n
  have q0n : W2.cell? ⟨w.heap.size + 1, 0, none⟩ = some (.int .i64 b1) := (hc _ _ (cell_lt q0)).trans q0
  clear q0
  have q0 := q0n
  clear q0n
  have q1n : W2.cell? ⟨w.heap.size + 1, 1, none⟩ = some (.int .i64 b2) := (hc _ _ (cell_lt q1)).trans q1
  clear q1
  have q1 := q1n
  clear q1n
  have q2n : W2.cell? ⟨w.heap.size + 1, 2, none⟩ = some (.bool b3) := (hc _ _ (cell_lt q2)).trans q2
  clear q2
  have q2 := q2n
  clear q2n
  have hbn : Below w.heap.size w W2 := bthen hb0 hB
  clear hb0
  have hb0 := hbn
  clear hbn
  have hzW2 : W1.heap.size ≤ W2.heap.size := hz
  clear hc hf hB hz
  go_wp2_with fail
  go_ret
  exact ⟨rfl, by have hbz := hb0.size; go_grown⟩

set_option maxRecDepth 100000 in
set_option maxHeartbeats 16000000 in
theorem walk_ok {w : World} (l : List Iv) (a : Option Addr) (cap : Nat) (hm : l.length ≤ maxLen) (ps : List Int) (pa : Option Addr) (pc : Nat) (_hpm : ps.length ≤ maxLen) (a1 a2 : Int) (a3 : Bool) (b1 b2 : Int) (b3 : Bool) (n m : Int) (h : ¬ 20 < l.length) (hl : Ivs w a l) (hpl : IntsX w pa ps) :
    Calls Try.prog 15 #[.slice a l.length cap, .slice pa ps.length pc, .agg #[.int .i64 a1, .int .i64 a2, .bool a3], .agg #[.int .i64 b1, .int .i64 b2, .bool b3], .int .i64 n, .int .i64 m] w fun e w' => e = .returned (.bool true) ∧ Below w.heap.size w w' := by
  unfold maxLen at hm
  have h' : ¬ (20 : Int) < (l.length : Int) := by omega
  have hA := fun W (hb : Below w.heap.size w W) => c_Sum l a cap W (hl.later hb)
  have hsm := fun X (h1 : sumV l = (X, 0)) (h2 : X.some = true) => sumV_some h1 h2
  generalize sumV l = sv at hA hsm
  obtain ⟨⟨s1, s2, s3⟩, s4⟩ := sv
  have hE := fun W => c_Less ⟨a1, a2, a3⟩ ⟨b1, b2, b3⟩ W
  have hls := lessV_some (x := ⟨a1, a2, a3⟩) (y := ⟨b1, b2, b3⟩)
  have hli := fun n m => less_in (x := ⟨a1, a2, a3⟩) (y := ⟨b1, b2, b3⟩) (n := n) (m := m)
  have hC := fun W => c_Both ⟨a1, a2, a3⟩ ⟨b1, b2, b3⟩ W
  have hbs := bothV_some (x := ⟨a1, a2, a3⟩) (y := ⟨b1, b2, b3⟩)
  generalize lessV ⟨a1, a2, a3⟩ ⟨b1, b2, b3⟩ = lv at *
  generalize bothV ⟨a1, a2, a3⟩ ⟨b1, b2, b3⟩ = bv at *
  obtain ⟨u1, u2, u3⟩ := lv
  obtain ⟨v1, v2, v3⟩ := bv
  have HA := Lib.hid hA
  have HSM := Lib.hid hsm
  have HE := Lib.hid hE
  have HLS := Lib.hid hls
  have HLI := Lib.hid hli
  have HC := Lib.hid hC
  have HBS := Lib.hid hbs
  have HL := Lib.hid hl
  have HPL := Lib.hid hpl
  clear hA hsm hE hls hli hC hbs hl hpl
  go_enter Try.func15, Try.ntmps15
  go_upto_region 1 with (fail)
  go_name_world W1 hW1
  have hbn : Below w.heap.size w W1 := by subst hW1; go_grown
  have hb0 := hbn
  clear hbn
  have p0n : W1.cell? ⟨w.heap.size, 0, none⟩ = some (.int .i64 a1) := by subst hW1; go_simp
  have p1n : W1.cell? ⟨w.heap.size, 1, none⟩ = some (.int .i64 a2) := by subst hW1; go_simp
  have p2n : W1.cell? ⟨w.heap.size, 2, none⟩ = some (.bool a3) := by subst hW1; go_simp
  have q0n : W1.cell? ⟨w.heap.size + 1, 0, none⟩ = some (.int .i64 b1) := by subst hW1; go_simp
  have q1n : W1.cell? ⟨w.heap.size + 1, 1, none⟩ = some (.int .i64 b2) := by subst hW1; go_simp
  have q2n : W1.cell? ⟨w.heap.size + 1, 2, none⟩ = some (.bool b3) := by subst hW1; go_simp
  clear hW1 
  have p0 := p0n
  have p1 := p1n
  have p2 := p2n
  have q0 := q0n
  have q1 := q1n
  have q2 := q2n
  clear p0n p1n p2n q0n q1n q2n 
  go_wp2_with fail
  refine (via (w0 := W1) (by go_grown) (HA.out _ hb0)).mono ?_
  rintro e W2 ⟨rfl, hc, hf, hz, hB⟩
  have p0n : W2.cell? ⟨w.heap.size, 0, none⟩ = some (.int .i64 a1) := (hc _ _ (cell_lt p0)).trans p0
  clear p0
  have p0 := p0n
  clear p0n
  have p1n : W2.cell? ⟨w.heap.size, 1, none⟩ = some (.int .i64 a2) := (hc _ _ (cell_lt p1)).trans p1
  clear p1
  have p1 := p1n
  clear p1n
  have p2n : W2.cell? ⟨w.heap.size, 2, none⟩ = some (.bool a3) := (hc _ _ (cell_lt p2)).trans p2
  clear p2
  have p2 := p2n
  clear p2n
  have q0n : W2.cell? ⟨w.heap.size + 1, 0, none⟩ = some (.int .i64 b1) := (hc _ _ (cell_lt q0)).trans q0
  clear q0
  have q0 := q0n
  clear q0n
  have q1n : W2.cell? ⟨w.heap.size + 1, 1, none⟩ = some (.int .i64 b2) := (hc _ _ (cell_lt q1)).trans q1
  clear q1
  have q1 := q1n
  clear q1n
  have q2n : W2.cell? ⟨w.heap.size + 1, 2, none⟩ = some (.bool b3) := (hc _ _ (cell_lt q2)).trans q2
  clear q2
  have q2 := q2n
  clear q2n
  have hbn : Below w.heap.size w W2 := bthen hb0 hB
  clear hb0
  have hb0 := hbn
  clear hbn
  have hzW2 : W1.heap.size ≤ W2.heap.size := hz
  clear hc hf hB hz
  go_upto_region 4 with (fail)
  go_name_world W3 hW3
  have hbz := hb0.size
  have hbn : Below w.heap.size w W3 := by subst hW3; go_grown
  clear hb0 hbz
  have hb0 := hbn
  clear hbn
  have hbk : Below W2.heap.size W2 W3 := by subst hW3; go_grown
  have p0n : W3.cell? ⟨w.heap.size, 0, none⟩ = some (.int .i64 a1) := ((bcell hbk).1 _ _ (cell_lt p0)).trans p0
  have p1n : W3.cell? ⟨w.heap.size, 1, none⟩ = some (.int .i64 a2) := ((bcell hbk).1 _ _ (cell_lt p1)).trans p1
  have p2n : W3.cell? ⟨w.heap.size, 2, none⟩ = some (.bool a3) := ((bcell hbk).1 _ _ (cell_lt p2)).trans p2
  have q0n : W3.cell? ⟨w.heap.size + 1, 0, none⟩ = some (.int .i64 b1) := ((bcell hbk).1 _ _ (cell_lt q0)).trans q0
  have q1n : W3.cell? ⟨w.heap.size + 1, 1, none⟩ = some (.int .i64 b2) := ((bcell hbk).1 _ _ (cell_lt q1)).trans q1
  have q2n : W3.cell? ⟨w.heap.size + 1, 2, none⟩ = some (.bool b3) := ((bcell hbk).1 _ _ (cell_lt q2)).trans q2
  clear hbk
  have x0n : W3.cell? ⟨W2.heap.size, 0, none⟩ = some (.int .i64 s1) := by subst hW3; go_simp
  have x1n : W3.cell? ⟨W2.heap.size, 1, none⟩ = some (.int .i64 s2) := by subst hW3; go_simp
  have x2n : W3.cell? ⟨W2.heap.size, 2, none⟩ = some (.bool s3) := by subst hW3; go_simp
  clear hW3 p0 p1 p2 q0 q1 q2
  have p0 := p0n
  have p1 := p1n
  have p2 := p2n
  have q0 := q0n
  have q1 := q1n
  have q2 := q2n
  have x0 := x0n
  have x1 := x1n
  have x2 := x2n
  clear p0n p1n p2n q0n q1n q2n x0n x1n x2n 
  obtain ⟨ok, hok⟩ : ∃ ok, ((s4 == 0) && s3) = ok := ⟨_, rfl⟩
  have HOK := Lib.hid hok
  clear hok
  go_cut [36] (fun s36 wx => s36 = .bool ok ∧ wx = W3)
  case first =>
    cases hz : (s4 == 0)
    · go_wp2
      go_meet
      exact ⟨by rw [← HOK.out, hz]; rfl, rfl⟩
    · go_wp2
      go_meet
      exact ⟨by rw [← HOK.out, hz]; rfl, rfl⟩
  case rest =>
  obtain ⟨rfl, hwc⟩ := hcut
  obtain rfl : W3 = wc := hwc.symm
  go_upto_if 36 with (fail)
  go_cut [15, 16] (fun _s15 _s16 wx => Below W3.heap.size W3 wx)
  case first =>
    as_aux_lemma =>
    cases ok
    · go_wp2
      go_meet
      exact Below.refl _ _
    · have hok := HOK.out
      rw [Bool.and_eq_true, beq_iff_eq] at hok
      obtain ⟨rfl, rfl⟩ := hok
      obtain ⟨hX, hg, hmx⟩ := HSM.out _ rfl rfl
      simp only [Iv.mk.injEq, and_true] at hX
      obtain ⟨rfl, rfl⟩ := hX
      have HG := Lib.hid hg
      have HB0 := Lib.hid hb0
      clear hg HSM HA HE HLS HLI HC HBS
      go_wp2
      go_loopw [15, 16, 17, 18] (fun v15 v16 v17 v18 wr => ∃ (k : Nat) (s : Int), k ≤ l.length ∧ v18 = .int .i64 k ∧ v15 = .int .i64 (lowS (l.take k)) ∧ v16 = .int .i64 (highS (l.take k)) ∧ v17 = .int .i64 s ∧ lowS (l.take k) ≤ s ∧ s ≤ highS (l.take k) ∧ Below W3.heap.size W3 wr) (fun _ _ _ v18 _ => l.length - (intOf v18).toNat)
      case atStart => exact ⟨0, 0, by omega, rfl, rfl, rfl, rfl, by simp [lowS], by simp [highS], Below.refl _ _⟩
      case round =>
        obtain ⟨k, s, hk, rfl, rfl, rfl, rfl, hs1, hs2, hbr⟩ := hrel
        have HBR := Lib.hid hbr
        have hgk : Good (l.take k) := fun x hx => HG.out x (List.mem_of_mem_take hx)
        have hbd := good_bd hgk
        have htl : (l.take k).length ≤ 20 := by simp; omega
        clear hgk
        by_cases hlt : k < l.length
        · obtain ⟨b, o, rfl, hat⟩ := (HL.out.later (bthen HB0.out hbr)).2 (by intro e; rw [e] at hlt; simp at hlt)
          obtain ⟨y1, y2, y3⟩ := hat k hlt
          obtain ⟨g1, g2⟩ := HG.out _ (iv_mem hlt)
          have eb := ivB_some g1 g2
          have hst1 : lowS (l.take (k + 1)) = lowS (l.take k) + (iv l k).lo := by rw [take_iv hlt, lowS_snoc]
          have hst2 : highS (l.take (k + 1)) = highS (l.take k) + (iv l k).hi := by rw [take_iv hlt, highS_snoc]
          have S1 := Lib.hid hst1
          have S2 := Lib.hid hst2
          have hi1 : ¬ (k : Int) < 0 := by omega
          have hi2 : (k : Int) < (l.length : Int) := by omega
          clear hat y3 g1 g2 hst1 hst2
          generalize (iv l k).lo = d1 at *
          generalize (iv l k).hi = d2 at *
          generalize lowS (l.take k) = p at *
          generalize highS (l.take k) = q at *
          obtain ⟨hbd1, hbd2, hbd3⟩ := hbd
          obtain ⟨eb1, eb2, eb3⟩ := eb
          obtain ⟨Wr, rfl⟩ : ∃ Wr : World, Wr = wr := ⟨_, rfl⟩
          clear hbr p0 p1 p2 q0 q1 q2 hb0
          by_cases hpk : k < ps.length
          · obtain ⟨bp, op, rfl, hpt⟩ := HPL.out (by intro e; rw [e] at hpk; simp at hpk)
            have yp0 := hpt k hpk
            have yp := ((bcell (bthen HB0.out HBR.out)).1 _ _ (cell_lt yp0)).trans yp0
            clear yp0
            clear hpt
            have hp2 : (k : Int) < (ps.length : Int) := by omega
            generalize it ps k = pk at *
            have f1 : IntKind.i64.wrap (d2 - d1) = d2 - d1 := IntWalk.i64_in _ (by omega)
            have f2 : IntKind.i64.wrap (d2 - d1 + 1) = d2 - d1 + 1 := IntWalk.i64_in _ (by omega)
            have f3 : 0 ≤ d2 - d1 := by omega
            have f4 : 0 ≤ d2 - d1 + 1 := by omega
            have f5 : ((d2 - d1 + 1) == 0) = false := by simp; omega
            go_wp2_with fail
            have ky1 := later_cell y1
            have ky2 := later_cell y2
            have kyp := later_cell yp
            refine wp_region_later Wr (by kernel_rfl) (by kernel_rfl) (Below.refl _ _) ?_
            repeat (go_big_quiet_step (fail))
            refine wpQuiet_nil ?_
            rintro ⟨W6, hB⟩
            dsimp only
            have hHB := Lib.hid hB
            have hu : 0 ≤ IntKind.u64.wrap pk := u64_nonneg pk
            have hkk1 : 0 ≤ (IntKind.u64.wrap pk).tmod (d2 - d1 + 1) := by rw [Int.tmod_eq_emod_of_nonneg hu]; exact Int.emod_nonneg _ (by omega)
            have hkk2 : (IntKind.u64.wrap pk).tmod (d2 - d1 + 1) < d2 - d1 + 1 := by rw [Int.tmod_eq_emod_of_nonneg hu]; exact Int.emod_lt_of_pos _ (by omega)
            clear hu f1 f2 f3 f4 f5 ky1 ky2 kyp yp
            generalize (IntKind.u64.wrap pk).tmod (d2 - d1 + 1) = kk at *
            have y1n := ((bcell hHB.out).1 _ _ (cell_lt y1)).trans y1
            have y2n := ((bcell hHB.out).1 _ _ (cell_lt y2)).trans y2
            clear y1 y2 hB
            rw [Go.IntWalk.wrap64_in kk ⟨by omega, by omega⟩]
            go_wp2
            go_roundw
            case rel => exact ⟨k + 1, s + d1 + kk, by omega, by go_num, by rw [S1.out], by rw [S2.out], by go_num, by rw [S1.out]; omega, by rw [S2.out]; omega, bthen HBR.out hHB.out⟩
            case measure => simp [intOf]; omega
          · have hp2 : ¬ (k : Int) < (ps.length : Int) := by omega
            go_wp2
            go_roundw
            case rel => exact ⟨k + 1, s + d1, by omega, by go_num, by rw [S1.out], by rw [S2.out], by go_num, by rw [S1.out]; omega, by rw [S2.out]; omega, HBR.out⟩
            case measure => simp [intOf]; omega
        · obtain rfl : k = l.length := by omega
          rw [List.take_length] at hs1 hs2 hbd
          rw [List.take_length]
          have z0 := ((bcell hbr).1 _ _ (cell_lt x0)).trans x0
          have z1 := ((bcell hbr).1 _ _ (cell_lt x1)).trans x1
          have z2 := ((bcell hbr).1 _ _ (cell_lt x2)).trans x2
          have hi := fun W => c_lin ⟨lowS l, highS l, true⟩ s W
          rw [show inB ⟨lowS l, highS l, true⟩ s = true from by simp [inB]; omega] at hi
          have HI := Lib.hid hi
          clear x0 x1 x2 hi hbr HG
          have hb0 : Below wr.heap.size wr wr := Below.refl _ _
          generalize lowS l = p at *
          generalize highS l = q at *
          go_wp2_with fail
          refine (via (w0 := wr) (by go_grown) (HI.out _)).mono ?_
          rintro e W7 ⟨rfl, hc, hf, hz, hB⟩
          have HB7 := Lib.hid hB
          clear hc hf hz hB
          go_wp2
          go_meet
          exact bthen HBR.out HB7.out
  case rest =>
  as_aux_lemma =>
  have hbw4 : Below W3.heap.size W3 wc := hcut
  have p0n := ((bcell hbw4).1 _ _ (cell_lt p0)).trans p0
  clear p0
  have p0 := p0n
  clear p0n
  have p1n := ((bcell hbw4).1 _ _ (cell_lt p1)).trans p1
  clear p1
  have p1 := p1n
  clear p1n
  have p2n := ((bcell hbw4).1 _ _ (cell_lt p2)).trans p2
  clear p2
  have p2 := p2n
  clear p2n
  have q0n := ((bcell hbw4).1 _ _ (cell_lt q0)).trans q0
  clear q0
  have q0 := q0n
  clear q0n
  have q1n := ((bcell hbw4).1 _ _ (cell_lt q1)).trans q1
  clear q1
  have q1 := q1n
  clear q1n
  have q2n := ((bcell hbw4).1 _ _ (cell_lt q2)).trans q2
  clear q2
  have q2 := q2n
  clear q2n
  clear x0
  clear x1
  clear x2
  have hbn := bthen hb0 hbw4
  clear hb0
  have hb0 := hbn
  clear hbn hcut hbw4 HSM HOK HA HL HPL
  go_wp2_with fail
  refine (via (w0 := wc) (by go_grown) (HE.out _)).mono ?_
  rintro e W5 ⟨rfl, hc, hf, hz, hB⟩
  have p0n : W5.cell? ⟨w.heap.size, 0, none⟩ = some (.int .i64 a1) := (hc _ _ (cell_lt p0)).trans p0
  clear p0
  have p0 := p0n
  clear p0n
  have p1n : W5.cell? ⟨w.heap.size, 1, none⟩ = some (.int .i64 a2) := (hc _ _ (cell_lt p1)).trans p1
  clear p1
  have p1 := p1n
  clear p1n
  have p2n : W5.cell? ⟨w.heap.size, 2, none⟩ = some (.bool a3) := (hc _ _ (cell_lt p2)).trans p2
  clear p2
  have p2 := p2n
  clear p2n
  have q0n : W5.cell? ⟨w.heap.size + 1, 0, none⟩ = some (.int .i64 b1) := (hc _ _ (cell_lt q0)).trans q0
  clear q0
  have q0 := q0n
  clear q0n
  have q1n : W5.cell? ⟨w.heap.size + 1, 1, none⟩ = some (.int .i64 b2) := (hc _ _ (cell_lt q1)).trans q1
  clear q1
  have q1 := q1n
  clear q1n
  have q2n : W5.cell? ⟨w.heap.size + 1, 2, none⟩ = some (.bool b3) := (hc _ _ (cell_lt q2)).trans q2
  clear q2
  have q2 := q2n
  clear q2n
  have hbn : Below w.heap.size w W5 := bthen hb0 hB
  clear hb0
  have hb0 := hbn
  clear hbn
  have hzW5 : wc.heap.size ≤ W5.heap.size := hz
  clear hc hf hB hz
  go_upto_region 20 with (fail)
  go_name_world W6 hW6
  have hbz := hb0.size
  have hbn : Below w.heap.size w W6 := by subst hW6; go_grown
  clear hb0 hbz
  have hb0 := hbn
  clear hbn
  have hbk : Below W5.heap.size W5 W6 := by subst hW6; go_grown
  have p0n : W6.cell? ⟨w.heap.size, 0, none⟩ = some (.int .i64 a1) := ((bcell hbk).1 _ _ (cell_lt p0)).trans p0
  have p1n : W6.cell? ⟨w.heap.size, 1, none⟩ = some (.int .i64 a2) := ((bcell hbk).1 _ _ (cell_lt p1)).trans p1
  have p2n : W6.cell? ⟨w.heap.size, 2, none⟩ = some (.bool a3) := ((bcell hbk).1 _ _ (cell_lt p2)).trans p2
  have q0n : W6.cell? ⟨w.heap.size + 1, 0, none⟩ = some (.int .i64 b1) := ((bcell hbk).1 _ _ (cell_lt q0)).trans q0
  have q1n : W6.cell? ⟨w.heap.size + 1, 1, none⟩ = some (.int .i64 b2) := ((bcell hbk).1 _ _ (cell_lt q1)).trans q1
  have q2n : W6.cell? ⟨w.heap.size + 1, 2, none⟩ = some (.bool b3) := ((bcell hbk).1 _ _ (cell_lt q2)).trans q2
  clear hbk
  have y0n : W6.cell? ⟨W5.heap.size, 0, none⟩ = some (.int .i64 u1) := by subst hW6; go_simp
  have y1n : W6.cell? ⟨W5.heap.size, 1, none⟩ = some (.int .i64 u2) := by subst hW6; go_simp
  have y2n : W6.cell? ⟨W5.heap.size, 2, none⟩ = some (.bool u3) := by subst hW6; go_simp
  clear hW6 p0 p1 p2 q0 q1 q2
  have p0 := p0n
  have p1 := p1n
  have p2 := p2n
  have q0 := q0n
  have q1 := q1n
  have q2 := q2n
  have y0 := y0n
  have y1 := y1n
  have y2 := y2n
  clear p0n p1n p2n q0n q1n q2n y0n y1n y2n 
  go_wp2_with fail
  refine (via (w0 := W6) (by go_grown) (HC.out _)).mono ?_
  rintro e W7 ⟨rfl, hc, hf, hz, hB⟩
  have p0n : W7.cell? ⟨w.heap.size, 0, none⟩ = some (.int .i64 a1) := (hc _ _ (cell_lt p0)).trans p0
  clear p0
  have p0 := p0n
  clear p0n
  have p1n : W7.cell? ⟨w.heap.size, 1, none⟩ = some (.int .i64 a2) := (hc _ _ (cell_lt p1)).trans p1
  clear p1
  have p1 := p1n
  clear p1n
  have p2n : W7.cell? ⟨w.heap.size, 2, none⟩ = some (.bool a3) := (hc _ _ (cell_lt p2)).trans p2
  clear p2
  have p2 := p2n
  clear p2n
  have q0n : W7.cell? ⟨w.heap.size + 1, 0, none⟩ = some (.int .i64 b1) := (hc _ _ (cell_lt q0)).trans q0
  clear q0
  have q0 := q0n
  clear q0n
  have q1n : W7.cell? ⟨w.heap.size + 1, 1, none⟩ = some (.int .i64 b2) := (hc _ _ (cell_lt q1)).trans q1
  clear q1
  have q1 := q1n
  clear q1n
  have q2n : W7.cell? ⟨w.heap.size + 1, 2, none⟩ = some (.bool b3) := (hc _ _ (cell_lt q2)).trans q2
  clear q2
  have q2 := q2n
  clear q2n
  have y0n : W7.cell? ⟨W5.heap.size, 0, none⟩ = some (.int .i64 u1) := (hc _ _ (cell_lt y0)).trans y0
  clear y0
  have y0 := y0n
  clear y0n
  have y1n : W7.cell? ⟨W5.heap.size, 1, none⟩ = some (.int .i64 u2) := (hc _ _ (cell_lt y1)).trans y1
  clear y1
  have y1 := y1n
  clear y1n
  have y2n : W7.cell? ⟨W5.heap.size, 2, none⟩ = some (.bool u3) := (hc _ _ (cell_lt y2)).trans y2
  clear y2
  have y2 := y2n
  clear y2n
  have hbn : Below w.heap.size w W7 := bthen hb0 hB
  clear hb0
  have hb0 := hbn
  clear hbn
  have hzW7 : W6.heap.size ≤ W7.heap.size := hz
  clear hc hf hB hz
  go_upto_region 21 with (fail)
  go_name_world W8 hW8
  have hbz := hb0.size
  have hbn : Below w.heap.size w W8 := by subst hW8; go_grown
  clear hb0 hbz
  have hb0 := hbn
  clear hbn
  have hbk : Below W7.heap.size W7 W8 := by subst hW8; go_grown
  have p0n : W8.cell? ⟨w.heap.size, 0, none⟩ = some (.int .i64 a1) := ((bcell hbk).1 _ _ (cell_lt p0)).trans p0
  have p1n : W8.cell? ⟨w.heap.size, 1, none⟩ = some (.int .i64 a2) := ((bcell hbk).1 _ _ (cell_lt p1)).trans p1
  have p2n : W8.cell? ⟨w.heap.size, 2, none⟩ = some (.bool a3) := ((bcell hbk).1 _ _ (cell_lt p2)).trans p2
  have q0n : W8.cell? ⟨w.heap.size + 1, 0, none⟩ = some (.int .i64 b1) := ((bcell hbk).1 _ _ (cell_lt q0)).trans q0
  have q1n : W8.cell? ⟨w.heap.size + 1, 1, none⟩ = some (.int .i64 b2) := ((bcell hbk).1 _ _ (cell_lt q1)).trans q1
  have q2n : W8.cell? ⟨w.heap.size + 1, 2, none⟩ = some (.bool b3) := ((bcell hbk).1 _ _ (cell_lt q2)).trans q2
  have y0n : W8.cell? ⟨W5.heap.size, 0, none⟩ = some (.int .i64 u1) := ((bcell hbk).1 _ _ (cell_lt y0)).trans y0
  have y1n : W8.cell? ⟨W5.heap.size, 1, none⟩ = some (.int .i64 u2) := ((bcell hbk).1 _ _ (cell_lt y1)).trans y1
  have y2n : W8.cell? ⟨W5.heap.size, 2, none⟩ = some (.bool u3) := ((bcell hbk).1 _ _ (cell_lt y2)).trans y2
  clear hbk
  have z0n : W8.cell? ⟨W7.heap.size, 0, none⟩ = some (.int .i64 v1) := by subst hW8; go_simp
  have z1n : W8.cell? ⟨W7.heap.size, 1, none⟩ = some (.int .i64 v2) := by subst hW8; go_simp
  have z2n : W8.cell? ⟨W7.heap.size, 2, none⟩ = some (.bool v3) := by subst hW8; go_simp
  clear hW8 p0 p1 p2 q0 q1 q2 y0 y1 y2
  have p0 := p0n
  have p1 := p1n
  have p2 := p2n
  have q0 := q0n
  have q1 := q1n
  have q2 := q2n
  have y0 := y0n
  have y1 := y1n
  have y2 := y2n
  have z0 := z0n
  have z1 := z1n
  have z2 := z2n
  clear p0n p1n p2n q0n q1n q2n y0n y1n y2n z0n z1n z2n 
  go_cut [146] (fun s146 wx => s146 = .bool false ∧ Below W8.heap.size W8 wx)
  case first =>
    as_aux_lemma =>
    have hi1 := fun W => c_lin ⟨a1, a2, a3⟩ n W
    have hi2 := fun W => c_lin ⟨b1, b2, b3⟩ m W
    have hHB := Lib.hid hb0
    clear hb0
    have hb0 : Below W8.heap.size W8 W8 := Below.refl _ _
    cases c1 : inB ⟨a1, a2, a3⟩ n
    · rw [c1] at hi1
      have HI1 := Lib.hid hi1
      clear hi1
      clear hi2 c1
      have kp0 := later_cell p0
      have kp1 := later_cell p1
      have kp2 := later_cell p2
      have kq0 := later_cell q0
      have kq1 := later_cell q1
      have kq2 := later_cell q2
      have ky0 := later_cell y0
      have ky1 := later_cell y1
      have ky2 := later_cell y2
      have kz0 := later_cell z0
      have kz1 := later_cell z1
      have kz2 := later_cell z2
      refine wp_region_later W8 (by kernel_rfl) (by kernel_rfl) (Below.refl _ _) ?_
      repeat (go_big_quiet_step (first | (go_at_call 24; with_reducible exact in_region (HI1.out _))))
      refine wpQuiet_nil ?_
      rintro ⟨W9, hB⟩
      dsimp only
      have hc := (bcell hB).1
      have hf := (bcell hB).2
      have hz := hB.size
      clear kp0 kp1 kp2 kq0 kq1 kq2 ky0 ky1 ky2 kz0 kz1 kz2
      have p0n : W9.cell? ⟨w.heap.size, 0, none⟩ = some (.int .i64 a1) := (hc _ _ (cell_lt p0)).trans p0
      clear p0
      have p0 := p0n
      clear p0n
      have p1n : W9.cell? ⟨w.heap.size, 1, none⟩ = some (.int .i64 a2) := (hc _ _ (cell_lt p1)).trans p1
      clear p1
      have p1 := p1n
      clear p1n
      have p2n : W9.cell? ⟨w.heap.size, 2, none⟩ = some (.bool a3) := (hc _ _ (cell_lt p2)).trans p2
      clear p2
      have p2 := p2n
      clear p2n
      have q0n : W9.cell? ⟨w.heap.size + 1, 0, none⟩ = some (.int .i64 b1) := (hc _ _ (cell_lt q0)).trans q0
      clear q0
      have q0 := q0n
      clear q0n
      have q1n : W9.cell? ⟨w.heap.size + 1, 1, none⟩ = some (.int .i64 b2) := (hc _ _ (cell_lt q1)).trans q1
      clear q1
      have q1 := q1n
      clear q1n
      have q2n : W9.cell? ⟨w.heap.size + 1, 2, none⟩ = some (.bool b3) := (hc _ _ (cell_lt q2)).trans q2
      clear q2
      have q2 := q2n
      clear q2n
      have y0n : W9.cell? ⟨W5.heap.size, 0, none⟩ = some (.int .i64 u1) := (hc _ _ (cell_lt y0)).trans y0
      clear y0
      have y0 := y0n
      clear y0n
      have y1n : W9.cell? ⟨W5.heap.size, 1, none⟩ = some (.int .i64 u2) := (hc _ _ (cell_lt y1)).trans y1
      clear y1
      have y1 := y1n
      clear y1n
      have y2n : W9.cell? ⟨W5.heap.size, 2, none⟩ = some (.bool u3) := (hc _ _ (cell_lt y2)).trans y2
      clear y2
      have y2 := y2n
      clear y2n
      have z0n : W9.cell? ⟨W7.heap.size, 0, none⟩ = some (.int .i64 v1) := (hc _ _ (cell_lt z0)).trans z0
      clear z0
      have z0 := z0n
      clear z0n
      have z1n : W9.cell? ⟨W7.heap.size, 1, none⟩ = some (.int .i64 v2) := (hc _ _ (cell_lt z1)).trans z1
      clear z1
      have z1 := z1n
      clear z1n
      have z2n : W9.cell? ⟨W7.heap.size, 2, none⟩ = some (.bool v3) := (hc _ _ (cell_lt z2)).trans z2
      clear z2
      have z2 := z2n
      clear z2n
      have hbn : Below W8.heap.size W8 W9 := bthen hb0 hB
      clear hb0
      have hb0 := hbn
      clear hbn
      have hzW9 : W8.heap.size ≤ W9.heap.size := hz
      clear hc hf hB hz
      go_wp2
      go_meet
      exact ⟨rfl, hb0⟩
    have ha3 : a3 = true := by unfold inB at c1; simp only [Bool.and_eq_true] at c1; exact c1.1.1
    subst ha3
    cases c2 : inB ⟨b1, b2, b3⟩ m
    · rw [c1] at hi1
      rw [c2] at hi2
      have HI1 := Lib.hid hi1
      have HI2 := Lib.hid hi2
      clear hi1 hi2
      clear c1 c2
      have kp0 := later_cell p0
      have kp1 := later_cell p1
      have kp2 := later_cell p2
      have kq0 := later_cell q0
      have kq1 := later_cell q1
      have kq2 := later_cell q2
      have ky0 := later_cell y0
      have ky1 := later_cell y1
      have ky2 := later_cell y2
      have kz0 := later_cell z0
      have kz1 := later_cell z1
      have kz2 := later_cell z2
      refine wp_region_later W8 (by kernel_rfl) (by kernel_rfl) (Below.refl _ _) ?_
      repeat (go_big_quiet_step (first | (go_at_call 24; with_reducible exact in_region (HI1.out _)) | (go_at_call 24; with_reducible exact in_region (HI2.out _))))
      refine wpQuiet_nil ?_
      rintro ⟨W9, hB⟩
      dsimp only
      have hc := (bcell hB).1
      have hf := (bcell hB).2
      have hz := hB.size
      clear kp0 kp1 kp2 kq0 kq1 kq2 ky0 ky1 ky2 kz0 kz1 kz2
      have p0n : W9.cell? ⟨w.heap.size, 0, none⟩ = some (.int .i64 a1) := (hc _ _ (cell_lt p0)).trans p0
      clear p0
      have p0 := p0n
      clear p0n
      have p1n : W9.cell? ⟨w.heap.size, 1, none⟩ = some (.int .i64 a2) := (hc _ _ (cell_lt p1)).trans p1
      clear p1
      have p1 := p1n
      clear p1n
      have p2n : W9.cell? ⟨w.heap.size, 2, none⟩ = some (.bool true) := (hc _ _ (cell_lt p2)).trans p2
      clear p2
      have p2 := p2n
      clear p2n
      have q0n : W9.cell? ⟨w.heap.size + 1, 0, none⟩ = some (.int .i64 b1) := (hc _ _ (cell_lt q0)).trans q0
      clear q0
      have q0 := q0n
      clear q0n
      have q1n : W9.cell? ⟨w.heap.size + 1, 1, none⟩ = some (.int .i64 b2) := (hc _ _ (cell_lt q1)).trans q1
      clear q1
      have q1 := q1n
      clear q1n
      have q2n : W9.cell? ⟨w.heap.size + 1, 2, none⟩ = some (.bool b3) := (hc _ _ (cell_lt q2)).trans q2
      clear q2
      have q2 := q2n
      clear q2n
      have y0n : W9.cell? ⟨W5.heap.size, 0, none⟩ = some (.int .i64 u1) := (hc _ _ (cell_lt y0)).trans y0
      clear y0
      have y0 := y0n
      clear y0n
      have y1n : W9.cell? ⟨W5.heap.size, 1, none⟩ = some (.int .i64 u2) := (hc _ _ (cell_lt y1)).trans y1
      clear y1
      have y1 := y1n
      clear y1n
      have y2n : W9.cell? ⟨W5.heap.size, 2, none⟩ = some (.bool u3) := (hc _ _ (cell_lt y2)).trans y2
      clear y2
      have y2 := y2n
      clear y2n
      have z0n : W9.cell? ⟨W7.heap.size, 0, none⟩ = some (.int .i64 v1) := (hc _ _ (cell_lt z0)).trans z0
      clear z0
      have z0 := z0n
      clear z0n
      have z1n : W9.cell? ⟨W7.heap.size, 1, none⟩ = some (.int .i64 v2) := (hc _ _ (cell_lt z1)).trans z1
      clear z1
      have z1 := z1n
      clear z1n
      have z2n : W9.cell? ⟨W7.heap.size, 2, none⟩ = some (.bool v3) := (hc _ _ (cell_lt z2)).trans z2
      clear z2
      have z2 := z2n
      clear z2n
      have hbn : Below W8.heap.size W8 W9 := bthen hb0 hB
      clear hb0
      have hb0 := hbn
      clear hbn
      have hzW9 : W8.heap.size ≤ W9.heap.size := hz
      clear hc hf hB hz
      go_wp2
      go_meet
      exact ⟨rfl, hb0⟩
    have hb3 : b3 = true := by unfold inB at c2; simp only [Bool.and_eq_true] at c2; exact c2.1.1
    subst hb3
    by_cases c3 : m ≤ n
    rotate_left
    · have c3d : decide (m ≤ n) = false := decide_eq_false c3
      rw [c1] at hi1
      rw [c2] at hi2
      have HI1 := Lib.hid hi1
      have HI2 := Lib.hid hi2
      clear hi1 hi2
      clear c1 c2 c3
      have kp0 := later_cell p0
      have kp1 := later_cell p1
      have kp2 := later_cell p2
      have kq0 := later_cell q0
      have kq1 := later_cell q1
      have kq2 := later_cell q2
      have ky0 := later_cell y0
      have ky1 := later_cell y1
      have ky2 := later_cell y2
      have kz0 := later_cell z0
      have kz1 := later_cell z1
      have kz2 := later_cell z2
      refine wp_region_later W8 (by kernel_rfl) (by kernel_rfl) (Below.refl _ _) ?_
      repeat (go_big_quiet_step (first | (go_at_call 24; with_reducible exact in_region (HI1.out _)) | (go_at_call 24; with_reducible exact in_region (HI2.out _))))
      refine wpQuiet_nil ?_
      rintro ⟨W9, hB⟩
      dsimp only
      have hc := (bcell hB).1
      have hf := (bcell hB).2
      have hz := hB.size
      clear kp0 kp1 kp2 kq0 kq1 kq2 ky0 ky1 ky2 kz0 kz1 kz2
      have p0n : W9.cell? ⟨w.heap.size, 0, none⟩ = some (.int .i64 a1) := (hc _ _ (cell_lt p0)).trans p0
      clear p0
      have p0 := p0n
      clear p0n
      have p1n : W9.cell? ⟨w.heap.size, 1, none⟩ = some (.int .i64 a2) := (hc _ _ (cell_lt p1)).trans p1
      clear p1
      have p1 := p1n
      clear p1n
      have p2n : W9.cell? ⟨w.heap.size, 2, none⟩ = some (.bool true) := (hc _ _ (cell_lt p2)).trans p2
      clear p2
      have p2 := p2n
      clear p2n
      have q0n : W9.cell? ⟨w.heap.size + 1, 0, none⟩ = some (.int .i64 b1) := (hc _ _ (cell_lt q0)).trans q0
      clear q0
      have q0 := q0n
      clear q0n
      have q1n : W9.cell? ⟨w.heap.size + 1, 1, none⟩ = some (.int .i64 b2) := (hc _ _ (cell_lt q1)).trans q1
      clear q1
      have q1 := q1n
      clear q1n
      have q2n : W9.cell? ⟨w.heap.size + 1, 2, none⟩ = some (.bool true) := (hc _ _ (cell_lt q2)).trans q2
      clear q2
      have q2 := q2n
      clear q2n
      have y0n : W9.cell? ⟨W5.heap.size, 0, none⟩ = some (.int .i64 u1) := (hc _ _ (cell_lt y0)).trans y0
      clear y0
      have y0 := y0n
      clear y0n
      have y1n : W9.cell? ⟨W5.heap.size, 1, none⟩ = some (.int .i64 u2) := (hc _ _ (cell_lt y1)).trans y1
      clear y1
      have y1 := y1n
      clear y1n
      have y2n : W9.cell? ⟨W5.heap.size, 2, none⟩ = some (.bool u3) := (hc _ _ (cell_lt y2)).trans y2
      clear y2
      have y2 := y2n
      clear y2n
      have z0n : W9.cell? ⟨W7.heap.size, 0, none⟩ = some (.int .i64 v1) := (hc _ _ (cell_lt z0)).trans z0
      clear z0
      have z0 := z0n
      clear z0n
      have z1n : W9.cell? ⟨W7.heap.size, 1, none⟩ = some (.int .i64 v2) := (hc _ _ (cell_lt z1)).trans z1
      clear z1
      have z1 := z1n
      clear z1n
      have z2n : W9.cell? ⟨W7.heap.size, 2, none⟩ = some (.bool v3) := (hc _ _ (cell_lt z2)).trans z2
      clear z2
      have z2 := z2n
      clear z2n
      have hbn : Below W8.heap.size W8 W9 := bthen hb0 hB
      clear hb0
      have hb0 := hbn
      clear hbn
      have hzW9 : W8.heap.size ≤ W9.heap.size := hz
      clear hc hf hB hz
      go_wp2
      go_meet
      exact ⟨rfl, hb0⟩
    have c3d : decide (m ≤ n) = true := decide_eq_true c3
    have hB1 := fun W => c_Both ⟨a1, a2, true⟩ ⟨a1, a2, true⟩ W
    have hB2 := fun W => c_Both ⟨b1, b2, true⟩ ⟨b1, b2, true⟩ W
    cases c4 : ivB ⟨a1, a2, true⟩
    · rw [both_bad c4] at hB1
      simp only [Iv.none] at hB1
      rw [c1] at hi1
      rw [c2] at hi2
      have HI1 := Lib.hid hi1
      have HI2 := Lib.hid hi2
      have HB1 := Lib.hid hB1
      clear hi1 hi2 hB1
      clear c1 c2 c3 hB2 c4
      have kp0 := later_cell p0
      have kp1 := later_cell p1
      have kp2 := later_cell p2
      have kq0 := later_cell q0
      have kq1 := later_cell q1
      have kq2 := later_cell q2
      have ky0 := later_cell y0
      have ky1 := later_cell y1
      have ky2 := later_cell y2
      have kz0 := later_cell z0
      have kz1 := later_cell z1
      have kz2 := later_cell z2
      refine wp_region_later W8 (by kernel_rfl) (by kernel_rfl) (Below.refl _ _) ?_
      repeat (go_big_quiet_step (first | (go_at_call 24; with_reducible exact in_region (HI1.out _)) | (go_at_call 24; with_reducible exact in_region (HI2.out _)) | (go_at_call 53; with_reducible exact in_region (HB1.out _))))
      refine wpQuiet_nil ?_
      rintro ⟨W9, hB⟩
      dsimp only
      have hc := (bcell hB).1
      have hf := (bcell hB).2
      have hz := hB.size
      clear kp0 kp1 kp2 kq0 kq1 kq2 ky0 ky1 ky2 kz0 kz1 kz2
      have p0n : W9.cell? ⟨w.heap.size, 0, none⟩ = some (.int .i64 a1) := (hc _ _ (cell_lt p0)).trans p0
      clear p0
      have p0 := p0n
      clear p0n
      have p1n : W9.cell? ⟨w.heap.size, 1, none⟩ = some (.int .i64 a2) := (hc _ _ (cell_lt p1)).trans p1
      clear p1
      have p1 := p1n
      clear p1n
      have p2n : W9.cell? ⟨w.heap.size, 2, none⟩ = some (.bool true) := (hc _ _ (cell_lt p2)).trans p2
      clear p2
      have p2 := p2n
      clear p2n
      have q0n : W9.cell? ⟨w.heap.size + 1, 0, none⟩ = some (.int .i64 b1) := (hc _ _ (cell_lt q0)).trans q0
      clear q0
      have q0 := q0n
      clear q0n
      have q1n : W9.cell? ⟨w.heap.size + 1, 1, none⟩ = some (.int .i64 b2) := (hc _ _ (cell_lt q1)).trans q1
      clear q1
      have q1 := q1n
      clear q1n
      have q2n : W9.cell? ⟨w.heap.size + 1, 2, none⟩ = some (.bool true) := (hc _ _ (cell_lt q2)).trans q2
      clear q2
      have q2 := q2n
      clear q2n
      have y0n : W9.cell? ⟨W5.heap.size, 0, none⟩ = some (.int .i64 u1) := (hc _ _ (cell_lt y0)).trans y0
      clear y0
      have y0 := y0n
      clear y0n
      have y1n : W9.cell? ⟨W5.heap.size, 1, none⟩ = some (.int .i64 u2) := (hc _ _ (cell_lt y1)).trans y1
      clear y1
      have y1 := y1n
      clear y1n
      have y2n : W9.cell? ⟨W5.heap.size, 2, none⟩ = some (.bool u3) := (hc _ _ (cell_lt y2)).trans y2
      clear y2
      have y2 := y2n
      clear y2n
      have z0n : W9.cell? ⟨W7.heap.size, 0, none⟩ = some (.int .i64 v1) := (hc _ _ (cell_lt z0)).trans z0
      clear z0
      have z0 := z0n
      clear z0n
      have z1n : W9.cell? ⟨W7.heap.size, 1, none⟩ = some (.int .i64 v2) := (hc _ _ (cell_lt z1)).trans z1
      clear z1
      have z1 := z1n
      clear z1n
      have z2n : W9.cell? ⟨W7.heap.size, 2, none⟩ = some (.bool v3) := (hc _ _ (cell_lt z2)).trans z2
      clear z2
      have z2 := z2n
      clear z2n
      have hbn : Below W8.heap.size W8 W9 := bthen hb0 hB
      clear hb0
      have hb0 := hbn
      clear hbn
      have hzW9 : W8.heap.size ≤ W9.heap.size := hz
      clear hc hf hB hz
      go_wp2
      go_meet
      exact ⟨rfl, hb0⟩
    rw [both_self c4 rfl] at hB1
    cases c5 : ivB ⟨b1, b2, true⟩
    · rw [both_bad c5] at hB2
      simp only [Iv.none] at hB2
      rw [c1] at hi1
      rw [c2] at hi2
      have HI1 := Lib.hid hi1
      have HI2 := Lib.hid hi2
      have HB1 := Lib.hid hB1
      have HB2 := Lib.hid hB2
      clear hi1 hi2 hB1 hB2
      clear c1 c2 c3 c4 c5
      have kp0 := later_cell p0
      have kp1 := later_cell p1
      have kp2 := later_cell p2
      have kq0 := later_cell q0
      have kq1 := later_cell q1
      have kq2 := later_cell q2
      have ky0 := later_cell y0
      have ky1 := later_cell y1
      have ky2 := later_cell y2
      have kz0 := later_cell z0
      have kz1 := later_cell z1
      have kz2 := later_cell z2
      refine wp_region_later W8 (by kernel_rfl) (by kernel_rfl) (Below.refl _ _) ?_
      repeat (go_big_quiet_step (first | (go_at_call 24; with_reducible exact in_region (HI1.out _)) | (go_at_call 24; with_reducible exact in_region (HI2.out _)) | (go_at_call 53; with_reducible exact in_region (HB1.out _)) | (go_at_call 53; with_reducible exact in_region (HB2.out _))))
      refine wpQuiet_nil ?_
      rintro ⟨W9, hB⟩
      dsimp only
      have hc := (bcell hB).1
      have hf := (bcell hB).2
      have hz := hB.size
      clear kp0 kp1 kp2 kq0 kq1 kq2 ky0 ky1 ky2 kz0 kz1 kz2
      have p0n : W9.cell? ⟨w.heap.size, 0, none⟩ = some (.int .i64 a1) := (hc _ _ (cell_lt p0)).trans p0
      clear p0
      have p0 := p0n
      clear p0n
      have p1n : W9.cell? ⟨w.heap.size, 1, none⟩ = some (.int .i64 a2) := (hc _ _ (cell_lt p1)).trans p1
      clear p1
      have p1 := p1n
      clear p1n
      have p2n : W9.cell? ⟨w.heap.size, 2, none⟩ = some (.bool true) := (hc _ _ (cell_lt p2)).trans p2
      clear p2
      have p2 := p2n
      clear p2n
      have q0n : W9.cell? ⟨w.heap.size + 1, 0, none⟩ = some (.int .i64 b1) := (hc _ _ (cell_lt q0)).trans q0
      clear q0
      have q0 := q0n
      clear q0n
      have q1n : W9.cell? ⟨w.heap.size + 1, 1, none⟩ = some (.int .i64 b2) := (hc _ _ (cell_lt q1)).trans q1
      clear q1
      have q1 := q1n
      clear q1n
      have q2n : W9.cell? ⟨w.heap.size + 1, 2, none⟩ = some (.bool true) := (hc _ _ (cell_lt q2)).trans q2
      clear q2
      have q2 := q2n
      clear q2n
      have y0n : W9.cell? ⟨W5.heap.size, 0, none⟩ = some (.int .i64 u1) := (hc _ _ (cell_lt y0)).trans y0
      clear y0
      have y0 := y0n
      clear y0n
      have y1n : W9.cell? ⟨W5.heap.size, 1, none⟩ = some (.int .i64 u2) := (hc _ _ (cell_lt y1)).trans y1
      clear y1
      have y1 := y1n
      clear y1n
      have y2n : W9.cell? ⟨W5.heap.size, 2, none⟩ = some (.bool u3) := (hc _ _ (cell_lt y2)).trans y2
      clear y2
      have y2 := y2n
      clear y2n
      have z0n : W9.cell? ⟨W7.heap.size, 0, none⟩ = some (.int .i64 v1) := (hc _ _ (cell_lt z0)).trans z0
      clear z0
      have z0 := z0n
      clear z0n
      have z1n : W9.cell? ⟨W7.heap.size, 1, none⟩ = some (.int .i64 v2) := (hc _ _ (cell_lt z1)).trans z1
      clear z1
      have z1 := z1n
      clear z1n
      have z2n : W9.cell? ⟨W7.heap.size, 2, none⟩ = some (.bool v3) := (hc _ _ (cell_lt z2)).trans z2
      clear z2
      have z2 := z2n
      clear z2n
      have hbn : Below W8.heap.size W8 W9 := bthen hb0 hB
      clear hb0
      have hb0 := hbn
      clear hbn
      have hzW9 : W8.heap.size ≤ W9.heap.size := hz
      clear hc hf hB hz
      go_wp2
      go_meet
      exact ⟨rfl, hb0⟩
    rw [both_self c5 rfl] at hB2
    have r1 := in_bd c4 c1
    have r2 := in_bd c5 c2
    have f1 : IntKind.i64.wrap (n - m) = n - m := IntWalk.i64_in _ (by omega)
    have hi3 := fun W => c_lin ⟨u1, u2, u3⟩ (n - m) W
    rw [HLI.out n m c4 c5 c1 c2 c3] at hi3
    obtain ⟨r1a, r1b⟩ := r1
    obtain ⟨r2a, r2b⟩ := r2
    rw [c1] at hi1
    rw [c2] at hi2
    have HI1 := Lib.hid hi1
    have HI2 := Lib.hid hi2
    have HI3 := Lib.hid hi3
    have HB1 := Lib.hid hB1
    have HB2 := Lib.hid hB2
    clear hi1 hi2 hi3 hB1 hB2
    clear c1 c2 c3 c4 c5
    have kp0 := later_cell p0
    have kp1 := later_cell p1
    have kp2 := later_cell p2
    have kq0 := later_cell q0
    have kq1 := later_cell q1
    have kq2 := later_cell q2
    have ky0 := later_cell y0
    have ky1 := later_cell y1
    have ky2 := later_cell y2
    have kz0 := later_cell z0
    have kz1 := later_cell z1
    have kz2 := later_cell z2
    refine wp_region_later W8 (by kernel_rfl) (by kernel_rfl) (Below.refl _ _) ?_
    repeat (go_big_quiet_step (first | (go_at_call 24; with_reducible exact in_region (HI1.out _)) | (go_at_call 24; with_reducible exact in_region (HI2.out _)) | (go_at_call 24; with_reducible exact in_region (HI3.out _)) | (go_at_call 53; with_reducible exact in_region (HB1.out _)) | (go_at_call 53; with_reducible exact in_region (HB2.out _))))
    refine wpQuiet_nil ?_
    rintro ⟨W9, hB⟩
    dsimp only
    have hc := (bcell hB).1
    have hf := (bcell hB).2
    have hz := hB.size
    clear kp0 kp1 kp2 kq0 kq1 kq2 ky0 ky1 ky2 kz0 kz1 kz2
    have p0n : W9.cell? ⟨w.heap.size, 0, none⟩ = some (.int .i64 a1) := (hc _ _ (cell_lt p0)).trans p0
    clear p0
    have p0 := p0n
    clear p0n
    have p1n : W9.cell? ⟨w.heap.size, 1, none⟩ = some (.int .i64 a2) := (hc _ _ (cell_lt p1)).trans p1
    clear p1
    have p1 := p1n
    clear p1n
    have p2n : W9.cell? ⟨w.heap.size, 2, none⟩ = some (.bool true) := (hc _ _ (cell_lt p2)).trans p2
    clear p2
    have p2 := p2n
    clear p2n
    have q0n : W9.cell? ⟨w.heap.size + 1, 0, none⟩ = some (.int .i64 b1) := (hc _ _ (cell_lt q0)).trans q0
    clear q0
    have q0 := q0n
    clear q0n
    have q1n : W9.cell? ⟨w.heap.size + 1, 1, none⟩ = some (.int .i64 b2) := (hc _ _ (cell_lt q1)).trans q1
    clear q1
    have q1 := q1n
    clear q1n
    have q2n : W9.cell? ⟨w.heap.size + 1, 2, none⟩ = some (.bool true) := (hc _ _ (cell_lt q2)).trans q2
    clear q2
    have q2 := q2n
    clear q2n
    have y0n : W9.cell? ⟨W5.heap.size, 0, none⟩ = some (.int .i64 u1) := (hc _ _ (cell_lt y0)).trans y0
    clear y0
    have y0 := y0n
    clear y0n
    have y1n : W9.cell? ⟨W5.heap.size, 1, none⟩ = some (.int .i64 u2) := (hc _ _ (cell_lt y1)).trans y1
    clear y1
    have y1 := y1n
    clear y1n
    have y2n : W9.cell? ⟨W5.heap.size, 2, none⟩ = some (.bool u3) := (hc _ _ (cell_lt y2)).trans y2
    clear y2
    have y2 := y2n
    clear y2n
    have z0n : W9.cell? ⟨W7.heap.size, 0, none⟩ = some (.int .i64 v1) := (hc _ _ (cell_lt z0)).trans z0
    clear z0
    have z0 := z0n
    clear z0n
    have z1n : W9.cell? ⟨W7.heap.size, 1, none⟩ = some (.int .i64 v2) := (hc _ _ (cell_lt z1)).trans z1
    clear z1
    have z1 := z1n
    clear z1n
    have z2n : W9.cell? ⟨W7.heap.size, 2, none⟩ = some (.bool v3) := (hc _ _ (cell_lt z2)).trans z2
    clear z2
    have z2 := z2n
    clear z2n
    have hbn : Below W8.heap.size W8 W9 := bthen hb0 hB
    clear hb0
    have hb0 := hbn
    clear hbn
    have hzW9 : W8.heap.size ≤ W9.heap.size := hz
    clear hc hf hB hz
    go_wp2
    go_meet
    exact ⟨rfl, hb0⟩
  case rest =>
  as_aux_lemma =>
  obtain ⟨rfl, hcut⟩ := hcut
  have p0n := ((bcell hcut).1 _ _ (cell_lt p0)).trans p0
  clear p0
  have p0 := p0n
  clear p0n
  have p1n := ((bcell hcut).1 _ _ (cell_lt p1)).trans p1
  clear p1
  have p1 := p1n
  clear p1n
  have p2n := ((bcell hcut).1 _ _ (cell_lt p2)).trans p2
  clear p2
  have p2 := p2n
  clear p2n
  have q0n := ((bcell hcut).1 _ _ (cell_lt q0)).trans q0
  clear q0
  have q0 := q0n
  clear q0n
  have q1n := ((bcell hcut).1 _ _ (cell_lt q1)).trans q1
  clear q1
  have q1 := q1n
  clear q1n
  have q2n := ((bcell hcut).1 _ _ (cell_lt q2)).trans q2
  clear q2
  have q2 := q2n
  clear q2n
  have y0n := ((bcell hcut).1 _ _ (cell_lt y0)).trans y0
  clear y0
  have y0 := y0n
  clear y0n
  have y1n := ((bcell hcut).1 _ _ (cell_lt y1)).trans y1
  clear y1
  have y1 := y1n
  clear y1n
  have y2n := ((bcell hcut).1 _ _ (cell_lt y2)).trans y2
  clear y2
  have y2 := y2n
  clear y2n
  have z0n := ((bcell hcut).1 _ _ (cell_lt z0)).trans z0
  clear z0
  have z0 := z0n
  clear z0n
  have z1n := ((bcell hcut).1 _ _ (cell_lt z1)).trans z1
  clear z1
  have z1 := z1n
  clear z1n
  have z2n := ((bcell hcut).1 _ _ (cell_lt z2)).trans z2
  clear z2
  have z2 := z2n
  clear z2n
  have hbn := bthen hb0 hcut
  clear hb0
  have hb0 := hbn
  clear hbn hcut HE HC HLI
  obtain ⟨wd, rfl⟩ : ∃ wd : World, wd = wc := ⟨_, rfl⟩
  go_upto_region 23 with (fail)
  go_cut [169] (fun s169 wx => s169 = .bool false ∧ wx = wd)
  case first =>
    cases u3
    · go_wp2
      go_meet
      exact ⟨rfl, rfl⟩
    · obtain ⟨hu, ⟨e1, e2, e3⟩, e4, e5, e6⟩ := HLS.out rfl
      simp only [Iv.mk.injEq, and_true] at hu
      obtain ⟨rfl, rfl⟩ := hu
      go_wp2
      go_meet
      exact ⟨by simp, rfl⟩
  case rest =>
  obtain ⟨rfl, hwc⟩ := hcut
  obtain rfl : wd = wc := hwc.symm
  cases v3
  · skip
    go_wp2_with fail
    refine (via (w0 := wd) (by go_grown) (c_counted _)).mono ?_
    rintro e W10 ⟨rfl, hc, hf, hz, hB⟩
    have p0n : W10.cell? ⟨w.heap.size, 0, none⟩ = some (.int .i64 a1) := (hc _ _ (cell_lt p0)).trans p0
    clear p0
    have p0 := p0n
    clear p0n
    have p1n : W10.cell? ⟨w.heap.size, 1, none⟩ = some (.int .i64 a2) := (hc _ _ (cell_lt p1)).trans p1
    clear p1
    have p1 := p1n
    clear p1n
    have p2n : W10.cell? ⟨w.heap.size, 2, none⟩ = some (.bool a3) := (hc _ _ (cell_lt p2)).trans p2
    clear p2
    have p2 := p2n
    clear p2n
    have q0n : W10.cell? ⟨w.heap.size + 1, 0, none⟩ = some (.int .i64 b1) := (hc _ _ (cell_lt q0)).trans q0
    clear q0
    have q0 := q0n
    clear q0n
    have q1n : W10.cell? ⟨w.heap.size + 1, 1, none⟩ = some (.int .i64 b2) := (hc _ _ (cell_lt q1)).trans q1
    clear q1
    have q1 := q1n
    clear q1n
    have q2n : W10.cell? ⟨w.heap.size + 1, 2, none⟩ = some (.bool b3) := (hc _ _ (cell_lt q2)).trans q2
    clear q2
    have q2 := q2n
    clear q2n
    have y0n : W10.cell? ⟨W5.heap.size, 0, none⟩ = some (.int .i64 u1) := (hc _ _ (cell_lt y0)).trans y0
    clear y0
    have y0 := y0n
    clear y0n
    have y1n : W10.cell? ⟨W5.heap.size, 1, none⟩ = some (.int .i64 u2) := (hc _ _ (cell_lt y1)).trans y1
    clear y1
    have y1 := y1n
    clear y1n
    have y2n : W10.cell? ⟨W5.heap.size, 2, none⟩ = some (.bool u3) := (hc _ _ (cell_lt y2)).trans y2
    clear y2
    have y2 := y2n
    clear y2n
    have z0n : W10.cell? ⟨W7.heap.size, 0, none⟩ = some (.int .i64 v1) := (hc _ _ (cell_lt z0)).trans z0
    clear z0
    have z0 := z0n
    clear z0n
    have z1n : W10.cell? ⟨W7.heap.size, 1, none⟩ = some (.int .i64 v2) := (hc _ _ (cell_lt z1)).trans z1
    clear z1
    have z1 := z1n
    clear z1n
    have z2n : W10.cell? ⟨W7.heap.size, 2, none⟩ = some (.bool false) := (hc _ _ (cell_lt z2)).trans z2
    clear z2
    have z2 := z2n
    clear z2n
    have hbn : Below w.heap.size w W10 := bthen hb0 hB
    clear hb0
    have hb0 := hbn
    clear hbn
    have hzW10 : wd.heap.size ≤ W10.heap.size := hz
    clear hc hf hB hz
    go_wp2_with fail
    go_ret
    exact ⟨rfl, by have hbz := hb0.size; go_grown⟩
  · have hb := HBS.out rfl
    simp only [Iv.mk.injEq, and_true] at hb
    obtain ⟨hb1, hb2⟩ := hb
    have g1 : a1 ≤ v1 := by omega
    have g2 : b1 ≤ v1 := by omega
    have g3 : v2 ≤ a2 := by omega
    have g4 : v2 ≤ b2 := by omega
    clear hb1 hb2
    go_wp2_with fail
    refine (via (w0 := wd) (by go_grown) (c_counted _)).mono ?_
    rintro e W10 ⟨rfl, hc, hf, hz, hB⟩
    have p0n : W10.cell? ⟨w.heap.size, 0, none⟩ = some (.int .i64 a1) := (hc _ _ (cell_lt p0)).trans p0
    clear p0
    have p0 := p0n
    clear p0n
    have p1n : W10.cell? ⟨w.heap.size, 1, none⟩ = some (.int .i64 a2) := (hc _ _ (cell_lt p1)).trans p1
    clear p1
    have p1 := p1n
    clear p1n
    have p2n : W10.cell? ⟨w.heap.size, 2, none⟩ = some (.bool a3) := (hc _ _ (cell_lt p2)).trans p2
    clear p2
    have p2 := p2n
    clear p2n
    have q0n : W10.cell? ⟨w.heap.size + 1, 0, none⟩ = some (.int .i64 b1) := (hc _ _ (cell_lt q0)).trans q0
    clear q0
    have q0 := q0n
    clear q0n
    have q1n : W10.cell? ⟨w.heap.size + 1, 1, none⟩ = some (.int .i64 b2) := (hc _ _ (cell_lt q1)).trans q1
    clear q1
    have q1 := q1n
    clear q1n
    have q2n : W10.cell? ⟨w.heap.size + 1, 2, none⟩ = some (.bool b3) := (hc _ _ (cell_lt q2)).trans q2
    clear q2
    have q2 := q2n
    clear q2n
    have y0n : W10.cell? ⟨W5.heap.size, 0, none⟩ = some (.int .i64 u1) := (hc _ _ (cell_lt y0)).trans y0
    clear y0
    have y0 := y0n
    clear y0n
    have y1n : W10.cell? ⟨W5.heap.size, 1, none⟩ = some (.int .i64 u2) := (hc _ _ (cell_lt y1)).trans y1
    clear y1
    have y1 := y1n
    clear y1n
    have y2n : W10.cell? ⟨W5.heap.size, 2, none⟩ = some (.bool u3) := (hc _ _ (cell_lt y2)).trans y2
    clear y2
    have y2 := y2n
    clear y2n
    have z0n : W10.cell? ⟨W7.heap.size, 0, none⟩ = some (.int .i64 v1) := (hc _ _ (cell_lt z0)).trans z0
    clear z0
    have z0 := z0n
    clear z0n
    have z1n : W10.cell? ⟨W7.heap.size, 1, none⟩ = some (.int .i64 v2) := (hc _ _ (cell_lt z1)).trans z1
    clear z1
    have z1 := z1n
    clear z1n
    have z2n : W10.cell? ⟨W7.heap.size, 2, none⟩ = some (.bool true) := (hc _ _ (cell_lt z2)).trans z2
    clear z2
    have z2 := z2n
    clear z2n
    have hbn : Below w.heap.size w W10 := bthen hb0 hB
    clear hb0
    have hb0 := hbn
    clear hbn
    have hzW10 : wd.heap.size ≤ W10.heap.size := hz
    clear hc hf hB hz
    go_wp2_with fail
    go_ret
    exact ⟨rfl, by have hbz := hb0.size; go_grown⟩

set_option maxRecDepth 100000 in
theorem walk {w : World} (l : List Iv) (a : Option Addr) (cap : Nat) (hm : l.length ≤ maxLen) (hl : l.length ≤ 1000000000000 → Ivs w a l) (ps : List Int) (pa : Option Addr) (pc : Nat) (hpm : ps.length ≤ maxLen) (hpl : IntsX w pa ps) (a1 a2 : Int) (a3 : Bool) (b1 b2 : Int) (b3 : Bool) (n m : Int) :
    Calls Try.prog 15 #[.slice a l.length cap, .slice pa ps.length pc, .agg #[.int .i64 a1, .int .i64 a2, .bool a3], .agg #[.int .i64 b1, .int .i64 b2, .bool b3], .int .i64 n, .int .i64 m] w fun e w' => e = .returned (.bool true) ∧ Below w.heap.size w w' := by
  by_cases h : 20 < l.length
  · exact walk_many l a cap hm ps pa pc hpm a1 a2 a3 b1 b2 b3 n m h
  · exact walk_ok l a cap hm ps pa pc hpm a1 a2 a3 b1 b2 b3 n m h (hl (by omega)) hpl


set_option maxRecDepth 100000 in
theorem lifted (os : Os) (started : os.Started) (H : Type) (enc : TypeId × Value → H) :
    ReturnsInHanded {} Try.checked os 15 .any (Rows.tallySumsSpec.pre6 enc Try.prog Try.f15 Rows.tallySumsRow.domain false) (Rows.tallySumsSpec.post enc Try.prog Try.f15 false true false false) := by
  refine returnsInHanded_of_change (C := Try.checked) own started (by kernel_rfl) Try.func15
    (ChangeSpec.witness6 (enc := enc) (C := Try.checked) false ⟨#[], #[.slice none 0 0, .slice none 0 0, .agg #[.int .i64 0, .int .i64 0, .bool false], .agg #[.int .i64 0, .int .i64 0, .bool false], .int .i64 0, .int .i64 0], []⟩ 8 (by kernel_rfl) (by kernel_rfl) (by kernel_rfl) (by kernel_rfl)) ?_
  intro W base args ds gs before hval0 hW _ _
  have hval : ∀ (j : Nat) t v, Try.f15.params[j]? = some t → args[j]? = some v → Value.okWide Try.prog W .any base t v := hval0
  have hW' := hW
  obtain ⟨p, q, hA0, hV, rfl, _, _⟩ := hW
  have hA : DataW.TrodAll enc Try.prog W 0 (fun _ => true) true Try.f15.params.toList args.toList ds p := hA0
  rw [Try.params15] at hA hval
  obtain ⟨v0, vs0, d0, ds0, p0, q0, hargs, rfl, rfl, h0, r0⟩ := trodAll_cons hA
  obtain ⟨v1, vs1, d1, ds1, p1, q1, rfl, rfl, rfl, h1, r1⟩ := trodAll_cons r0
  obtain ⟨v2, vs2, d2, ds2, p2, q2, rfl, rfl, rfl, h2, r2⟩ := trodAll_cons r1
  obtain ⟨v3, vs3, d3, ds3, p3, q3, rfl, rfl, rfl, h3, r3⟩ := trodAll_cons r2
  obtain ⟨v4, vs4, d4, ds4, p4, q4, rfl, rfl, rfl, h4, r4⟩ := trodAll_cons r3
  obtain ⟨v5, vs5, d5, ds5, p5, q5, rfl, rfl, rfl, h5, r5⟩ := trodAll_cons r4
  obtain ⟨rfl, rfl, rfl⟩ := trodAll_nil r5
  obtain rfl : args = #[v0, v1, v2, v3, v4, v5] := by cases args; simp_all
  obtain ⟨rfl, rfl⟩ := trodVars_none hV
  obtain ⟨b0, l0, k0, rfl, m0, e0⟩ := open_ivs (fun _ _ => hval 0 74 v0 rfl rfl) h0
  obtain ⟨b1, l1, k1, rfl, m1, e1⟩ := open_numsx (fun _ _ => hval 1 46 v1 rfl rfl) h1
  obtain ⟨c2x0, c2x1, c2x2, y2x0, y2x1, y2x2, m2, rfl, rfl, rfl, hy2x0, hy2x1, hy2x2⟩ := open_agg3 Try.underlying33 (by kernel_rfl) (by kernel_rfl) (hval 2 33 v2 rfl rfl) h2
  obtain ⟨a2x0, e2x0, rfl, w2x0⟩ := DataW.trod_int Try.underlying3 hy2x0
  obtain ⟨a2x1, e2x1, rfl, w2x1⟩ := DataW.trod_int Try.underlying3 hy2x1
  obtain ⟨a2x2, e2x2, rfl⟩ := DataW.trod_bool Try.underlying4 hy2x2
  simp only [List.cons.injEq, and_true] at e2x0 e2x1 e2x2
  subst e2x0 e2x1 e2x2
  obtain ⟨c3x0, c3x1, c3x2, y3x0, y3x1, y3x2, m3, rfl, rfl, rfl, hy3x0, hy3x1, hy3x2⟩ := open_agg3 Try.underlying33 (by kernel_rfl) (by kernel_rfl) (hval 3 33 v3 rfl rfl) h3
  obtain ⟨a3x0, e3x0, rfl, w3x0⟩ := DataW.trod_int Try.underlying3 hy3x0
  obtain ⟨a3x1, e3x1, rfl, w3x1⟩ := DataW.trod_int Try.underlying3 hy3x1
  obtain ⟨a3x2, e3x2, rfl⟩ := DataW.trod_bool Try.underlying4 hy3x2
  simp only [List.cons.injEq, and_true] at e3x0 e3x1 e3x2
  subst e3x0 e3x1 e3x2
  obtain ⟨a4, rfl, rfl, rfl, w4⟩ := open_int Try.underlying3 (hval 4 3 v4 rfl rfl) h4
  obtain ⟨a5, rfl, rfl, rfl, w5⟩ := open_int Try.underlying3 (hval 5 3 v5 rfl rfl) h5
  clear hA0 hval0
  have s2 := stays h2 (by kernel_rfl) (by kernel_rfl)
  have s3 := stays h3 (by kernel_rfl) (by kernel_rfl)
  have s4 := stays h4 (by kernel_rfl) (by kernel_rfl)
  have s5 := stays h5 (by kernel_rfl) (by kernel_rfl)
  refine (walk l0 b0 k0 m0 e0 l1 b1 k1 m1 e1 a2x0 a2x1 a2x2 a3x0 a3x1 a3x2 a4 a5).mono fun e W' ⟨he, hg⟩ => ?_
  subst he
  have hlt := fun x hx => hW'.lt x hx
  exact ⟨_, rfl, post_of_below (pa := (p0 ++ (p1 ++ ([] ++ ([] ++ ([] ++ ([] ++ []))))))) (pv := []) hW' (fun _ _ _ => (trodAll_cons_mk (shut_bool Try.underlying4 _) trodAll_mk0)) (fun sp hsp => (trodAll_cons_mk (staysB h0 (by kernel_rfl) (by kernel_rfl) hg hlt (fun x hx => by simp [hx]) sp hsp) (trodAll_cons_mk (staysB h1 (by kernel_rfl) (by kernel_rfl) hg hlt (fun x hx => by simp [hx]) sp hsp) (trodAll_cons_mk (s2 _ _) (trodAll_cons_mk (s3 _ _) (trodAll_cons_mk (s4 _ _) (trodAll_cons_mk (s5 _ _) trodAll_mk0))))))) (fun _ _ => rfl) rfl
    hg (ok_one (by kernel_rfl) rfl (okWide_bool_mk Try.underlying4 _))⟩

theorem over : Rows.tallySumsRow.holds Try.pinned (OpenSpec.ofChange Rows.tallySumsSpec) :=
  OpenClaim.holds_of_wide 15 Try.f15 rfl rfl rfl rfl rfl rfl rfl ⟨rfl, rfl, rfl, rfl, rfl⟩ rfl rfl rfl rfl rfl (by kernel_rfl) Try.func15 (by kernel_rfl)
    (of_decide_eq_true (by kernel_rfl)) (by unfold Func.isWrapper; first | (rw [if_pos (by decide +kernel)]; kernel_rfl) | (rw [if_neg (by decide +kernel)]; exact ⟨rfl, rfl⟩))
    (fun os started H enc _ => lifted os started H enc)

theorem proved : Rows.TallySumsSaid :=
  over
end Go.Proofs.Ytokpjaodchcheaa.tallySums
