/- This text proves what the reference's CheckRecounts returns for every list of re-counts. -/
import Derived.Test.YtokpjaodchcheaaRecs
namespace Go.Proofs.Ytokpjaodchcheaa
open Go.RowKit

set_option maxHeartbeats 8000000 in
theorem c_rCheckRecounts (l : List Rc) (a : Option Addr) (cap : Nat) (w : World) (hl : Recs w a l) :
    Calls Try.prog 30 #[.slice a l.length cap] w fun e w' => e = .returned (.tuple #[.int .i64 (crec l).1, .int .i64 (crec l).2]) ∧ Below w.heap.size w w' := by
  have hlen := hl.1
  have HL := Lib.hid hl
  clear hl
  go_enter Try.func30, Try.ntmps30
  go_wp2
  go_loopw [4] (fun v8 wr => ∃ k : Nat, k ≤ l.length ∧ v8 = .int .i64 k ∧ crec l = crecF l k (l.length - k) ∧ Below w.heap.size w wr) (fun v8 _ => l.length - (intOf v8).toNat)
  case atStart => exact ⟨0, by omega, rfl, rfl, Below.refl _ _⟩
  case round =>
    obtain ⟨k, hk, rfl, hc, hb⟩ := hrel
    have HC := Lib.hid hc
    clear hc
    by_cases hlt : k < l.length
    · obtain ⟨b, o, rfl, hat⟩ := (HL.out.later hb).2 (by intro e; rw [e] at hlt; simp at hlt)
      obtain ⟨x1, x2, x3, x4, x5, x6⟩ := hat k hlt
      have HAT := Lib.hid hat
      clear hat
      have hb0 := hb
      have hidx : ¬ ((k : Int) < 0) := by omega
      have hidx2 : (k : Int) < (l.length : Int) := by omega
      by_cases h200 : 200 ≤ k
      · have e1 : crec l = ((k : Int), 2) := by rw [HC.out, crecF_err (by omega) (cerr_limit h200) (by decide)]
        have E1 := Lib.hid e1
        clear e1
        have h200' : (200 : Int) ≤ (k : Int) := by omega
        go_wp2_with fail
        go_ret2
        exact ⟨by rw [E1.out]; rfl, hb0⟩
      have h200' : ¬ (200 : Int) ≤ (k : Int) := by omega
      cases hok : (rc l k).ok with
      | false =>
        have e1 : crec l = ((k : Int), 1) := by rw [HC.out, crecF_err (by omega) (cerr_bad h200 hok) (by decide)]
        have E1 := Lib.hid e1
        clear e1
        have hR : ∀ W, Calls Try.prog 74 #[(rc l k).v] W fun e w' => e = .returned (.int .i64 1) ∧ Below W.heap.size W w' := by
          intro W
          have := c_rcheckRecount (rc l k).i (rc l k).d (rc l k).k (rc l k).s (rc l k).t (rc l k).n W
          unfold Rc.ok at hok
          rw [hok] at this
          exact this
        have HR := Lib.hid hR
        clear hR hok
        go_wp2_with fail
        have kx1 := later_cell x1
        have kx2 := later_cell x2
        have kx3 := later_cell x3
        have kx4 := later_cell x4
        have kx5 := later_cell x5
        have kx6 := later_cell x6
        refine wp_region_later wr (by kernel_rfl) (by kernel_rfl) (Below.refl _ _) ?_
        repeat (go_big_quiet_step (first | (go_at_call 74; with_reducible exact in_region (HR.out _))))
        refine wpQuiet_nil ?_
        clear kx1 kx2 kx3 kx4 kx5 kx6
        rintro ⟨W2, hB⟩
        dsimp only
        have hc := (bcell hB).1
        have x1n := (hc _ _ (cell_lt x1)).trans x1
        clear x1
        have x1 := x1n
        clear x1n
        have x2n := (hc _ _ (cell_lt x2)).trans x2
        clear x2
        have x2 := x2n
        clear x2n
        have x3n := (hc _ _ (cell_lt x3)).trans x3
        clear x3
        have x3 := x3n
        clear x3n
        have x4n := (hc _ _ (cell_lt x4)).trans x4
        clear x4
        have x4 := x4n
        clear x4n
        have x5n := (hc _ _ (cell_lt x5)).trans x5
        clear x5
        have x5 := x5n
        clear x5n
        have x6n := (hc _ _ (cell_lt x6)).trans x6
        clear x6
        have x6 := x6n
        clear x6n
        have hbn : Below w.heap.size w W2 := bthen hb0 hB
        clear hb0 hc hB
        have hb0 := hbn
        clear hbn
        go_wp2_with fail
        go_ret2
        exact ⟨by rw [E1.out]; rfl, hb0⟩
      | true =>
        have hR : ∀ W, Calls Try.prog 74 #[(rc l k).v] W fun e w' => e = .returned (.int .i64 0) ∧ Below W.heap.size W w' := by
          intro W
          have := c_rcheckRecount (rc l k).i (rc l k).d (rc l k).k (rc l k).s (rc l k).t (rc l k).n W
          unfold Rc.ok at hok
          rw [hok] at this
          exact this
        have HR := Lib.hid hR
        have HOK := Lib.hid hok
        clear hR hok
        by_cases h0 : 0 < k
        · obtain ⟨p1, _, p3, _, _, _⟩ := HAT.out (k - 1) (by omega)
          have h0' : (0 : Int) < (k : Int) := by omega
          have hsub : ((k : Int) - 1).toNat = k - 1 := by omega
          have hsub2 : ¬ ((k : Int) - 1 < 0) := by omega
          have hsub3 : ((k : Int) - 1 < (l.length : Int)) := by omega
          by_cases hi : (rc l k).i ≤ (rc l (k - 1)).i
          · have e1 : crec l = ((k : Int), 1) := by rw [HC.out, crecF_err (by omega) (cerr_id h200 h0 hi) (by decide)]
            have E1 := Lib.hid e1
            clear e1
            go_wp2_with fail
            have kx1 := later_cell x1
            have kx2 := later_cell x2
            have kx3 := later_cell x3
            have kx4 := later_cell x4
            have kx5 := later_cell x5
            have kx6 := later_cell x6
            have kp1 := later_cell p1
            have kp3 := later_cell p3
            refine wp_region_later wr (by kernel_rfl) (by kernel_rfl) (Below.refl _ _) ?_
            repeat (go_big_quiet_step (first | (go_at_call 74; with_reducible exact in_region (HR.out _))))
            refine wpQuiet_nil ?_
            clear kx1 kx2 kx3 kx4 kx5 kx6 kp1 kp3
            rintro ⟨W2, hB⟩
            dsimp only
            have hc := (bcell hB).1
            have x1n := (hc _ _ (cell_lt x1)).trans x1
            clear x1
            have x1 := x1n
            clear x1n
            have x2n := (hc _ _ (cell_lt x2)).trans x2
            clear x2
            have x2 := x2n
            clear x2n
            have x3n := (hc _ _ (cell_lt x3)).trans x3
            clear x3
            have x3 := x3n
            clear x3n
            have x4n := (hc _ _ (cell_lt x4)).trans x4
            clear x4
            have x4 := x4n
            clear x4n
            have x5n := (hc _ _ (cell_lt x5)).trans x5
            clear x5
            have x5 := x5n
            clear x5n
            have x6n := (hc _ _ (cell_lt x6)).trans x6
            clear x6
            have x6 := x6n
            clear x6n
            have p1n := (hc _ _ (cell_lt p1)).trans p1
            clear p1
            have p1 := p1n
            clear p1n
            have p3n := (hc _ _ (cell_lt p3)).trans p3
            clear p3
            have p3 := p3n
            clear p3n
            have hbn : Below w.heap.size w W2 := bthen hb0 hB
            clear hb0 hc hB
            have hb0 := hbn
            clear hbn
            go_wp2_with fail
            go_ret2
            exact ⟨by rw [E1.out]; rfl, hb0⟩
          · have hi' : decide ((rc l k).i ≤ (rc l (k - 1)).i) = false := by simpa using hi
            by_cases ht : (rc l k).k < (rc l (k - 1)).k
            · have e1 : crec l = ((k : Int), 7) := by rw [HC.out, crecF_err (by omega) (cerr_time h200 HOK.out h0 hi ht) (by decide)]
              have E1 := Lib.hid e1
              clear e1
              go_wp2_with fail
              have kx1 := later_cell x1
              have kx2 := later_cell x2
              have kx3 := later_cell x3
              have kx4 := later_cell x4
              have kx5 := later_cell x5
              have kx6 := later_cell x6
              have kp1 := later_cell p1
              have kp3 := later_cell p3
              refine wp_region_later wr (by kernel_rfl) (by kernel_rfl) (Below.refl _ _) ?_
              repeat (go_big_quiet_step (first | (go_at_call 74; with_reducible exact in_region (HR.out _))))
              refine wpQuiet_nil ?_
              clear kx1 kx2 kx3 kx4 kx5 kx6 kp1 kp3
              rintro ⟨W2, hB⟩
              dsimp only
              have hc := (bcell hB).1
              have x1n := (hc _ _ (cell_lt x1)).trans x1
              clear x1
              have x1 := x1n
              clear x1n
              have x2n := (hc _ _ (cell_lt x2)).trans x2
              clear x2
              have x2 := x2n
              clear x2n
              have x3n := (hc _ _ (cell_lt x3)).trans x3
              clear x3
              have x3 := x3n
              clear x3n
              have x4n := (hc _ _ (cell_lt x4)).trans x4
              clear x4
              have x4 := x4n
              clear x4n
              have x5n := (hc _ _ (cell_lt x5)).trans x5
              clear x5
              have x5 := x5n
              clear x5n
              have x6n := (hc _ _ (cell_lt x6)).trans x6
              clear x6
              have x6 := x6n
              clear x6n
              have p1n := (hc _ _ (cell_lt p1)).trans p1
              clear p1
              have p1 := p1n
              clear p1n
              have p3n := (hc _ _ (cell_lt p3)).trans p3
              clear p3
              have p3 := p3n
              clear p3n
              have hbn : Below w.heap.size w W2 := bthen hb0 hB
              clear hb0 hc hB
              have hb0 := hbn
              clear hbn
              go_wp2_with fail
              have kx1 := later_cell x1
              have kx2 := later_cell x2
              have kx3 := later_cell x3
              have kx4 := later_cell x4
              have kx5 := later_cell x5
              have kx6 := later_cell x6
              have kp1 := later_cell p1
              have kp3 := later_cell p3
              refine wp_region_later W2 (by kernel_rfl) (by kernel_rfl) (Below.refl _ _) ?_
              repeat (go_big_quiet_step (fail))
              refine wpQuiet_nil ?_
              clear kx1 kx2 kx3 kx4 kx5 kx6 kp1 kp3
              rintro ⟨W3, hB⟩
              dsimp only
              have hc := (bcell hB).1
              have x1n := (hc _ _ (cell_lt x1)).trans x1
              clear x1
              have x1 := x1n
              clear x1n
              have x2n := (hc _ _ (cell_lt x2)).trans x2
              clear x2
              have x2 := x2n
              clear x2n
              have x3n := (hc _ _ (cell_lt x3)).trans x3
              clear x3
              have x3 := x3n
              clear x3n
              have x4n := (hc _ _ (cell_lt x4)).trans x4
              clear x4
              have x4 := x4n
              clear x4n
              have x5n := (hc _ _ (cell_lt x5)).trans x5
              clear x5
              have x5 := x5n
              clear x5n
              have x6n := (hc _ _ (cell_lt x6)).trans x6
              clear x6
              have x6 := x6n
              clear x6n
              have p1n := (hc _ _ (cell_lt p1)).trans p1
              clear p1
              have p1 := p1n
              clear p1n
              have p3n := (hc _ _ (cell_lt p3)).trans p3
              clear p3
              have p3 := p3n
              clear p3n
              have hbn : Below w.heap.size w W3 := bthen hb0 hB
              clear hb0 hc hB
              have hb0 := hbn
              clear hbn
              go_wp2_with fail
              go_ret2
              exact ⟨by rw [E1.out]; rfl, hb0⟩
            · have ht' : decide ((rc l k).k < (rc l (k - 1)).k) = false := by simpa using ht
              have e1 : crec l = crecF l (k + 1) (l.length - (k + 1)) := by rw [HC.out, crecF_ok (by omega) (cerr_none h200 HOK.out hi ht)]; rfl
              have E1 := Lib.hid e1
              clear e1
              go_wp2_with fail
              have kx1 := later_cell x1
              have kx2 := later_cell x2
              have kx3 := later_cell x3
              have kx4 := later_cell x4
              have kx5 := later_cell x5
              have kx6 := later_cell x6
              have kp1 := later_cell p1
              have kp3 := later_cell p3
              refine wp_region_later wr (by kernel_rfl) (by kernel_rfl) (Below.refl _ _) ?_
              repeat (go_big_quiet_step (first | (go_at_call 74; with_reducible exact in_region (HR.out _))))
              refine wpQuiet_nil ?_
              clear kx1 kx2 kx3 kx4 kx5 kx6 kp1 kp3
              rintro ⟨W2, hB⟩
              dsimp only
              have hc := (bcell hB).1
              have x1n := (hc _ _ (cell_lt x1)).trans x1
              clear x1
              have x1 := x1n
              clear x1n
              have x2n := (hc _ _ (cell_lt x2)).trans x2
              clear x2
              have x2 := x2n
              clear x2n
              have x3n := (hc _ _ (cell_lt x3)).trans x3
              clear x3
              have x3 := x3n
              clear x3n
              have x4n := (hc _ _ (cell_lt x4)).trans x4
              clear x4
              have x4 := x4n
              clear x4n
              have x5n := (hc _ _ (cell_lt x5)).trans x5
              clear x5
              have x5 := x5n
              clear x5n
              have x6n := (hc _ _ (cell_lt x6)).trans x6
              clear x6
              have x6 := x6n
              clear x6n
              have p1n := (hc _ _ (cell_lt p1)).trans p1
              clear p1
              have p1 := p1n
              clear p1n
              have p3n := (hc _ _ (cell_lt p3)).trans p3
              clear p3
              have p3 := p3n
              clear p3n
              have hbn : Below w.heap.size w W2 := bthen hb0 hB
              clear hb0 hc hB
              have hb0 := hbn
              clear hbn
              go_wp2_with fail
              have kx1 := later_cell x1
              have kx2 := later_cell x2
              have kx3 := later_cell x3
              have kx4 := later_cell x4
              have kx5 := later_cell x5
              have kx6 := later_cell x6
              have kp1 := later_cell p1
              have kp3 := later_cell p3
              refine wp_region_later W2 (by kernel_rfl) (by kernel_rfl) (Below.refl _ _) ?_
              repeat (go_big_quiet_step (fail))
              refine wpQuiet_nil ?_
              clear kx1 kx2 kx3 kx4 kx5 kx6 kp1 kp3
              rintro ⟨W3, hB⟩
              dsimp only
              have hc := (bcell hB).1
              have x1n := (hc _ _ (cell_lt x1)).trans x1
              clear x1
              have x1 := x1n
              clear x1n
              have x2n := (hc _ _ (cell_lt x2)).trans x2
              clear x2
              have x2 := x2n
              clear x2n
              have x3n := (hc _ _ (cell_lt x3)).trans x3
              clear x3
              have x3 := x3n
              clear x3n
              have x4n := (hc _ _ (cell_lt x4)).trans x4
              clear x4
              have x4 := x4n
              clear x4n
              have x5n := (hc _ _ (cell_lt x5)).trans x5
              clear x5
              have x5 := x5n
              clear x5n
              have x6n := (hc _ _ (cell_lt x6)).trans x6
              clear x6
              have x6 := x6n
              clear x6n
              have p1n := (hc _ _ (cell_lt p1)).trans p1
              clear p1
              have p1 := p1n
              clear p1n
              have p3n := (hc _ _ (cell_lt p3)).trans p3
              clear p3
              have p3 := p3n
              clear p3n
              have hbn : Below w.heap.size w W3 := bthen hb0 hB
              clear hb0 hc hB
              have hb0 := hbn
              clear hbn
              go_wp2_with fail
              go_roundw
              case rel => exact ⟨k + 1, by omega, by go_num, E1.out, hb0⟩
              case measure => simp [intOf]; omega
        · have h0' : decide ((0 : Int) < (k : Int)) = false := by simp; omega
          have h0n : decide (0 < k) = false := by simp; omega
          have e1 : crec l = crecF l (k + 1) (l.length - (k + 1)) := by rw [HC.out, crecF_ok (by omega) (cerr_first (by omega) HOK.out)]; rfl
          have E1 := Lib.hid e1
          clear e1
          go_wp2_with fail
          have kx1 := later_cell x1
          have kx2 := later_cell x2
          have kx3 := later_cell x3
          have kx4 := later_cell x4
          have kx5 := later_cell x5
          have kx6 := later_cell x6
          refine wp_region_later wr (by kernel_rfl) (by kernel_rfl) (Below.refl _ _) ?_
          repeat (go_big_quiet_step (first | (go_at_call 74; with_reducible exact in_region (HR.out _))))
          refine wpQuiet_nil ?_
          clear kx1 kx2 kx3 kx4 kx5 kx6
          rintro ⟨W2, hB⟩
          dsimp only
          have hc := (bcell hB).1
          have x1n := (hc _ _ (cell_lt x1)).trans x1
          clear x1
          have x1 := x1n
          clear x1n
          have x2n := (hc _ _ (cell_lt x2)).trans x2
          clear x2
          have x2 := x2n
          clear x2n
          have x3n := (hc _ _ (cell_lt x3)).trans x3
          clear x3
          have x3 := x3n
          clear x3n
          have x4n := (hc _ _ (cell_lt x4)).trans x4
          clear x4
          have x4 := x4n
          clear x4n
          have x5n := (hc _ _ (cell_lt x5)).trans x5
          clear x5
          have x5 := x5n
          clear x5n
          have x6n := (hc _ _ (cell_lt x6)).trans x6
          clear x6
          have x6 := x6n
          clear x6n
          have hbn : Below w.heap.size w W2 := bthen hb0 hB
          clear hb0 hc hB
          have hb0 := hbn
          clear hbn
          go_wp2_with fail
          have kx1 := later_cell x1
          have kx2 := later_cell x2
          have kx3 := later_cell x3
          have kx4 := later_cell x4
          have kx5 := later_cell x5
          have kx6 := later_cell x6
          refine wp_region_later W2 (by kernel_rfl) (by kernel_rfl) (Below.refl _ _) ?_
          repeat (go_big_quiet_step (fail))
          refine wpQuiet_nil ?_
          clear kx1 kx2 kx3 kx4 kx5 kx6
          rintro ⟨W3, hB⟩
          dsimp only
          have hc := (bcell hB).1
          have x1n := (hc _ _ (cell_lt x1)).trans x1
          clear x1
          have x1 := x1n
          clear x1n
          have x2n := (hc _ _ (cell_lt x2)).trans x2
          clear x2
          have x2 := x2n
          clear x2n
          have x3n := (hc _ _ (cell_lt x3)).trans x3
          clear x3
          have x3 := x3n
          clear x3n
          have x4n := (hc _ _ (cell_lt x4)).trans x4
          clear x4
          have x4 := x4n
          clear x4n
          have x5n := (hc _ _ (cell_lt x5)).trans x5
          clear x5
          have x5 := x5n
          clear x5n
          have x6n := (hc _ _ (cell_lt x6)).trans x6
          clear x6
          have x6 := x6n
          clear x6n
          have hbn : Below w.heap.size w W3 := bthen hb0 hB
          clear hb0 hc hB
          have hb0 := hbn
          clear hbn
          go_wp2_with fail
          go_roundw
          case rel => exact ⟨k + 1, by omega, by go_num, E1.out, hb0⟩
          case measure => simp [intOf]; omega
    · have e1 : crec l = (0, 0) := by rw [HC.out, show l.length - k = 0 by omega]; rfl
      have E1 := Lib.hid e1
      clear e1
      have hltz : ¬ (k : Int) < (l.length : Int) := by omega
      go_wp2_with fail
      go_ret2
      exact ⟨by rw [E1.out]; rfl, hb⟩
end Go.Proofs.Ytokpjaodchcheaa
