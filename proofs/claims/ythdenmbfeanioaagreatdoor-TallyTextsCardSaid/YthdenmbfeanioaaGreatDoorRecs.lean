/- This text proves what CheckRecounts, of package tally and of its reference, returns for every list of re-counts. -/
import Derived.Test.YthdenmbfeanioaaGreatDoorRefChecks
namespace Go.Proofs.YthdenmbfeanioaaGreatDoor
open Go.RowKit

structure Rc where
  i : Int
  d : Int
  k : Int
  s : Int
  t : Int
  n : Int
deriving DecidableEq, Inhabited
abbrev Rc.v (x : Rc) : Value := .agg #[.int .i64 x.i, .int .i64 x.d, .int .i64 x.k, .int .i64 x.s, .int .i64 x.t, .int .i64 x.n]
def Rc.ok (x : Rc) : Bool := recountB x.i x.d x.k x.s x.t x.n

structure RcAt (w : World) (b o : Nat) (x : Rc) : Prop where
  i : w.cell? ⟨b, o, none⟩ = some (.int .i64 x.i)
  d : w.cell? ⟨b, o + 1, none⟩ = some (.int .i64 x.d)
  k : w.cell? ⟨b, o + 2, none⟩ = some (.int .i64 x.k)
  s : w.cell? ⟨b, o + 3, none⟩ = some (.int .i64 x.s)
  t : w.cell? ⟨b, o + 4, none⟩ = some (.int .i64 x.t)
  n : w.cell? ⟨b, o + 5, none⟩ = some (.int .i64 x.n)
theorem RcAt.later {w w1 : World} {b o : Nat} {x : Rc} (h : RcAt w b o x) (hb : Below w.heap.size w w1) : RcAt w1 b o x :=
  have k := (bcell hb).1 b
  ⟨(k _ (cell_lt h.i)).trans h.i, (k _ (cell_lt h.i)).trans h.d, (k _ (cell_lt h.i)).trans h.k, (k _ (cell_lt h.i)).trans h.s, (k _ (cell_lt h.i)).trans h.t, (k _ (cell_lt h.i)).trans h.n⟩

def rc (l : List Rc) (k : Nat) : Rc := l[k]?.getD default
/-- A slice's cells: a list of re-counts. -/
def Recs (w : World) (a : Option Addr) (l : List Rc) : Prop := l.length ≤ 1000000000000 ∧ (l ≠ [] → ∃ b o, a = some ⟨b, o, none⟩ ∧ ∀ k, k < l.length → RcAt w b (o + k * 6) (rc l k))
theorem Recs.later {w w1 : World} {a : Option Addr} {l : List Rc} (h : Recs w a l) (hb : Below w.heap.size w w1) : Recs w1 a l :=
  ⟨h.1, fun hl => by obtain ⟨b, o, ha, hk⟩ := h.2 hl; exact ⟨b, o, ha, fun k hk' => (hk k hk').later hb⟩⟩

/-- The error of the k-th re-count of a list: 0 if there is none. -/
def cerr (l : List Rc) (k : Nat) : Int :=
  if 200 ≤ k then 2 else if !(rc l k).ok || (decide (0 < k) && decide ((rc l k).i ≤ (rc l (k - 1)).i)) then 1 else if decide (0 < k) && decide ((rc l k).k < (rc l (k - 1)).k) then 7 else 0
def crecF (l : List Rc) : Nat → Nat → Int × Int
  | _, 0 => (0, 0)
  | k, fuel + 1 => if cerr l k = 0 then crecF l (k + 1) fuel else ((k : Int), cerr l k)
def crec (l : List Rc) : Int × Int := crecF l 0 l.length
theorem crecF_ok {l : List Rc} {k f : Nat} (hf : 0 < f) (h : cerr l k = 0) : crecF l k f = crecF l (k + 1) (f - 1) := by
  obtain ⟨f, rfl⟩ : ∃ g, f = g + 1 := ⟨f - 1, by omega⟩
  rw [crecF, if_pos h]; rfl
theorem crecF_err {l : List Rc} {k f : Nat} {e : Int} (hf : 0 < f) (h : cerr l k = e) (he : e ≠ 0) : crecF l k f = ((k : Int), e) := by
  obtain ⟨f, rfl⟩ : ∃ g, f = g + 1 := ⟨f - 1, by omega⟩
  rw [crecF, h, if_neg he]
theorem cerr_limit {l : List Rc} {k : Nat} (h : 200 ≤ k) : cerr l k = 2 := if_pos h
theorem cerr_bad {l : List Rc} {k : Nat} (h : ¬ 200 ≤ k) (hx : (rc l k).ok = false) : cerr l k = 1 := by unfold cerr; rw [if_neg h, if_pos (by simp [hx])]
theorem cerr_id {l : List Rc} {k : Nat} (h : ¬ 200 ≤ k) (h0 : 0 < k) (hx : (rc l k).i ≤ (rc l (k - 1)).i) : cerr l k = 1 := by unfold cerr; rw [if_neg h, if_pos (by simp [h0, hx])]
theorem cerr_time {l : List Rc} {k : Nat} (h : ¬ 200 ≤ k) (hx : (rc l k).ok = true) (h0 : 0 < k) (hi : ¬ (rc l k).i ≤ (rc l (k - 1)).i) (hk : (rc l k).k < (rc l (k - 1)).k) : cerr l k = 7 := by
  unfold cerr; rw [if_neg h, if_neg (by simp [hx, hi]), if_pos (by simp [h0, hk])]
theorem cerr_none {l : List Rc} {k : Nat} (h : ¬ 200 ≤ k) (hx : (rc l k).ok = true) (hi : ¬ (rc l k).i ≤ (rc l (k - 1)).i) (hk : ¬ (rc l k).k < (rc l (k - 1)).k) : cerr l k = 0 := by
  unfold cerr; rw [if_neg h, if_neg (by simp [hx, hi]), if_neg (by simp [hk])]
theorem cerr_first {l : List Rc} {k : Nat} (h0 : k = 0) (hx : (rc l k).ok = true) : cerr l k = 0 := by
  subst h0; unfold cerr; rw [if_neg (by omega), if_neg (by simp [hx]), if_neg (by simp)]

theorem rc_at {w w1 : World} {b o : Nat} {l : List Rc} (h : ∀ k, k < l.length → RcAt w b (o + k * 6) (rc l k)) (hb : Below w.heap.size w w1) : ∀ k, k < l.length → RcAt w1 b (o + k * 6) (rc l k) := fun k hk => (h k hk).later hb

set_option maxHeartbeats 8000000 in
theorem c_CheckRecounts (l : List Rc) (a : Option Addr) (cap : Nat) (w : World) (hl : Recs w a l) :
    Calls Tryz.prog 45 #[.slice a l.length cap] w fun e w' => e = .returned (.tuple #[.int .i64 (crec l).1, .int .i64 (crec l).2]) ∧ Below w.heap.size w w' := by
  have hlen := hl.1
  have HL := Lib.hid hl
  clear hl
  go_enter Tryz.func45, Tryz.ntmps45
  go_wp2
  go_loopw [8] (fun v8 wr => ∃ k : Nat, k ≤ l.length ∧ v8 = .int .i64 k ∧ crec l = crecF l k (l.length - k) ∧ Below w.heap.size w wr) (fun v8 _ => l.length - (intOf v8).toNat)
  case atStart => exact ⟨0, by omega, rfl, rfl, Below.refl _ _⟩
  case round =>
    obtain ⟨k, hk, rfl, hc, hb⟩ := hrel
    have HC := Lib.hid hc
    clear hc
    by_cases hlt : k < l.length
    · obtain ⟨b, o, rfl, hat⟩ := (HL.out.later hb).2 (by intro e; rw [e] at hlt; simp at hlt)
      obtain ⟨x1, x2, x3, x4, x5, x6⟩ := hat k hlt
      have HAT := Lib.hid hat
      clear hat
      go_upto_region 4 with (fail)
      go_name_world W1 hW1
      have hb1 : Below wr.heap.size wr W1 := by subst hW1; go_grown
      have y1 : W1.cell? ⟨wr.heap.size, 0, none⟩ = some (.int .i64 (rc l k).i) := by subst hW1; go_simp
      have y2 : W1.cell? ⟨wr.heap.size, 1, none⟩ = some (.int .i64 (rc l k).d) := by subst hW1; go_simp
      have y3 : W1.cell? ⟨wr.heap.size, 2, none⟩ = some (.int .i64 (rc l k).k) := by subst hW1; go_simp
      have y4 : W1.cell? ⟨wr.heap.size, 3, none⟩ = some (.int .i64 (rc l k).s) := by subst hW1; go_simp
      have y5 : W1.cell? ⟨wr.heap.size, 4, none⟩ = some (.int .i64 (rc l k).t) := by subst hW1; go_simp
      have y6 : W1.cell? ⟨wr.heap.size, 5, none⟩ = some (.int .i64 (rc l k).n) := by subst hW1; go_simp
      have hb0 := bthen hb hb1
      clear x1 x2 x3 x4 x5 x6 hW1
      by_cases h200 : 200 ≤ k
      · have e1 : crec l = ((k : Int), 2) := by rw [HC.out, crecF_err (by omega) (cerr_limit h200) (by decide)]
        have E1 := Lib.hid e1
        clear e1
        have h200' : (200 : Int) ≤ (k : Int) := by omega
        go_wp2_with fail
        go_ret2
        exact ⟨by rw [E1.out]; rfl, hb0⟩
      have h200' : ¬ (200 : Int) ≤ (k : Int) := by omega
      cases hok : (rc l k).ok with
      | false =>
        have e1 : crec l = ((k : Int), 1) := by rw [HC.out, crecF_err (by omega) (cerr_bad h200 hok) (by decide)]
        have E1 := Lib.hid e1
        clear e1
        have hR : ∀ W, Calls Tryz.prog 30 #[(rc l k).v] W fun e w' => e = .returned (.bool false) ∧ Below W.heap.size W w' := by
          intro W
          have := c_isRecount (rc l k).i (rc l k).d (rc l k).k (rc l k).s (rc l k).t (rc l k).n W
          unfold Rc.ok at hok
          rw [hok] at this
          exact this
        have HR := Lib.hid hR
        clear hR hok
        go_wp2_with fail
        have ky1 := later_cell y1
        have ky2 := later_cell y2
        have ky3 := later_cell y3
        have ky4 := later_cell y4
        have ky5 := later_cell y5
        have ky6 := later_cell y6
        refine wp_region_later W1 (by kernel_rfl) (by kernel_rfl) (Below.refl _ _) ?_
        repeat (go_big_quiet_step (first | (go_at_call 30; with_reducible exact in_region (HR.out _))))
        refine wpQuiet_nil ?_
        clear ky1 ky2 ky3 ky4 ky5 ky6
        rintro ⟨W2, hB⟩
        dsimp only
        have hc := (bcell hB).1
        have y1n := (hc _ _ (cell_lt y1)).trans y1
        clear y1
        have y1 := y1n
        clear y1n
        have y2n := (hc _ _ (cell_lt y2)).trans y2
        clear y2
        have y2 := y2n
        clear y2n
        have y3n := (hc _ _ (cell_lt y3)).trans y3
        clear y3
        have y3 := y3n
        clear y3n
        have y4n := (hc _ _ (cell_lt y4)).trans y4
        clear y4
        have y4 := y4n
        clear y4n
        have y5n := (hc _ _ (cell_lt y5)).trans y5
        clear y5
        have y5 := y5n
        clear y5n
        have y6n := (hc _ _ (cell_lt y6)).trans y6
        clear y6
        have y6 := y6n
        clear y6n
        have hbn : Below w.heap.size w W2 := bthen hb0 hB
        clear hb0 hc hB
        have hb0 := hbn
        clear hbn
        go_wp2_with fail
        go_ret2
        exact ⟨by rw [E1.out]; rfl, hb0⟩
      | true =>
        have hR : ∀ W, Calls Tryz.prog 30 #[(rc l k).v] W fun e w' => e = .returned (.bool true) ∧ Below W.heap.size W w' := by
          intro W
          have := c_isRecount (rc l k).i (rc l k).d (rc l k).k (rc l k).s (rc l k).t (rc l k).n W
          unfold Rc.ok at hok
          rw [hok] at this
          exact this
        have HR := Lib.hid hR
        have HOK := Lib.hid hok
        clear hR hok
        by_cases h0 : 0 < k
        · obtain ⟨p1, _, p3, _, _, _⟩ := rc_at HAT.out hb1 (k - 1) (by omega)
          have h0' : (0 : Int) < (k : Int) := by omega
          have hsub : ((k : Int) - 1).toNat = k - 1 := by omega
          have hsub2 : ¬ ((k : Int) - 1 < 0) := by omega
          have hsub3 : ((k : Int) - 1 < (l.length : Int)) := by omega
          by_cases hi : (rc l k).i ≤ (rc l (k - 1)).i
          · have e1 : crec l = ((k : Int), 1) := by rw [HC.out, crecF_err (by omega) (cerr_id h200 h0 hi) (by decide)]
            have E1 := Lib.hid e1
            clear e1
            go_wp2_with fail
            have ky1 := later_cell y1
            have ky2 := later_cell y2
            have ky3 := later_cell y3
            have ky4 := later_cell y4
            have ky5 := later_cell y5
            have ky6 := later_cell y6
            have kp1 := later_cell p1
            have kp3 := later_cell p3
            refine wp_region_later W1 (by kernel_rfl) (by kernel_rfl) (Below.refl _ _) ?_
            repeat (go_big_quiet_step (first | (go_at_call 30; with_reducible exact in_region (HR.out _))))
            refine wpQuiet_nil ?_
            clear ky1 ky2 ky3 ky4 ky5 ky6 kp1 kp3
            rintro ⟨W2, hB⟩
            dsimp only
            have hc := (bcell hB).1
            have y1n := (hc _ _ (cell_lt y1)).trans y1
            clear y1
            have y1 := y1n
            clear y1n
            have y2n := (hc _ _ (cell_lt y2)).trans y2
            clear y2
            have y2 := y2n
            clear y2n
            have y3n := (hc _ _ (cell_lt y3)).trans y3
            clear y3
            have y3 := y3n
            clear y3n
            have y4n := (hc _ _ (cell_lt y4)).trans y4
            clear y4
            have y4 := y4n
            clear y4n
            have y5n := (hc _ _ (cell_lt y5)).trans y5
            clear y5
            have y5 := y5n
            clear y5n
            have y6n := (hc _ _ (cell_lt y6)).trans y6
            clear y6
            have y6 := y6n
            clear y6n
            have p1n := (hc _ _ (cell_lt p1)).trans p1
            clear p1
            have p1 := p1n
            clear p1n
            have p3n := (hc _ _ (cell_lt p3)).trans p3
            clear p3
            have p3 := p3n
            clear p3n
            have hbn : Below w.heap.size w W2 := bthen hb0 hB
            clear hb0 hc hB
            have hb0 := hbn
            clear hbn
            go_wp2_with fail
            go_ret2
            exact ⟨by rw [E1.out]; rfl, hb0⟩
          · have hi' : decide ((rc l k).i ≤ (rc l (k - 1)).i) = false := by simpa using hi
            by_cases ht : (rc l k).k < (rc l (k - 1)).k
            · have e1 : crec l = ((k : Int), 7) := by rw [HC.out, crecF_err (by omega) (cerr_time h200 HOK.out h0 hi ht) (by decide)]
              have E1 := Lib.hid e1
              clear e1
              go_wp2_with fail
              have ky1 := later_cell y1
              have ky2 := later_cell y2
              have ky3 := later_cell y3
              have ky4 := later_cell y4
              have ky5 := later_cell y5
              have ky6 := later_cell y6
              have kp1 := later_cell p1
              have kp3 := later_cell p3
              refine wp_region_later W1 (by kernel_rfl) (by kernel_rfl) (Below.refl _ _) ?_
              repeat (go_big_quiet_step (first | (go_at_call 30; with_reducible exact in_region (HR.out _))))
              refine wpQuiet_nil ?_
              clear ky1 ky2 ky3 ky4 ky5 ky6 kp1 kp3
              rintro ⟨W2, hB⟩
              dsimp only
              have hc := (bcell hB).1
              have y1n := (hc _ _ (cell_lt y1)).trans y1
              clear y1
              have y1 := y1n
              clear y1n
              have y2n := (hc _ _ (cell_lt y2)).trans y2
              clear y2
              have y2 := y2n
              clear y2n
              have y3n := (hc _ _ (cell_lt y3)).trans y3
              clear y3
              have y3 := y3n
              clear y3n
              have y4n := (hc _ _ (cell_lt y4)).trans y4
              clear y4
              have y4 := y4n
              clear y4n
              have y5n := (hc _ _ (cell_lt y5)).trans y5
              clear y5
              have y5 := y5n
              clear y5n
              have y6n := (hc _ _ (cell_lt y6)).trans y6
              clear y6
              have y6 := y6n
              clear y6n
              have p1n := (hc _ _ (cell_lt p1)).trans p1
              clear p1
              have p1 := p1n
              clear p1n
              have p3n := (hc _ _ (cell_lt p3)).trans p3
              clear p3
              have p3 := p3n
              clear p3n
              have hbn : Below w.heap.size w W2 := bthen hb0 hB
              clear hb0 hc hB
              have hb0 := hbn
              clear hbn
              go_wp2_with fail
              have ky1 := later_cell y1
              have ky2 := later_cell y2
              have ky3 := later_cell y3
              have ky4 := later_cell y4
              have ky5 := later_cell y5
              have ky6 := later_cell y6
              have kp1 := later_cell p1
              have kp3 := later_cell p3
              refine wp_region_later W2 (by kernel_rfl) (by kernel_rfl) (Below.refl _ _) ?_
              repeat (go_big_quiet_step (fail))
              refine wpQuiet_nil ?_
              clear ky1 ky2 ky3 ky4 ky5 ky6 kp1 kp3
              rintro ⟨W3, hB⟩
              dsimp only
              have hc := (bcell hB).1
              have y1n := (hc _ _ (cell_lt y1)).trans y1
              clear y1
              have y1 := y1n
              clear y1n
              have y2n := (hc _ _ (cell_lt y2)).trans y2
              clear y2
              have y2 := y2n
              clear y2n
              have y3n := (hc _ _ (cell_lt y3)).trans y3
              clear y3
              have y3 := y3n
              clear y3n
              have y4n := (hc _ _ (cell_lt y4)).trans y4
              clear y4
              have y4 := y4n
              clear y4n
              have y5n := (hc _ _ (cell_lt y5)).trans y5
              clear y5
              have y5 := y5n
              clear y5n
              have y6n := (hc _ _ (cell_lt y6)).trans y6
              clear y6
              have y6 := y6n
              clear y6n
              have p1n := (hc _ _ (cell_lt p1)).trans p1
              clear p1
              have p1 := p1n
              clear p1n
              have p3n := (hc _ _ (cell_lt p3)).trans p3
              clear p3
              have p3 := p3n
              clear p3n
              have hbn : Below w.heap.size w W3 := bthen hb0 hB
              clear hb0 hc hB
              have hb0 := hbn
              clear hbn
              go_wp2_with fail
              go_ret2
              exact ⟨by rw [E1.out]; rfl, hb0⟩
            · have ht' : decide ((rc l k).k < (rc l (k - 1)).k) = false := by simpa using ht
              have e1 : crec l = crecF l (k + 1) (l.length - (k + 1)) := by rw [HC.out, crecF_ok (by omega) (cerr_none h200 HOK.out hi ht)]; rfl
              have E1 := Lib.hid e1
              clear e1
              go_wp2_with fail
              have ky1 := later_cell y1
              have ky2 := later_cell y2
              have ky3 := later_cell y3
              have ky4 := later_cell y4
              have ky5 := later_cell y5
              have ky6 := later_cell y6
              have kp1 := later_cell p1
              have kp3 := later_cell p3
              refine wp_region_later W1 (by kernel_rfl) (by kernel_rfl) (Below.refl _ _) ?_
              repeat (go_big_quiet_step (first | (go_at_call 30; with_reducible exact in_region (HR.out _))))
              refine wpQuiet_nil ?_
              clear ky1 ky2 ky3 ky4 ky5 ky6 kp1 kp3
              rintro ⟨W2, hB⟩
              dsimp only
              have hc := (bcell hB).1
              have y1n := (hc _ _ (cell_lt y1)).trans y1
              clear y1
              have y1 := y1n
              clear y1n
              have y2n := (hc _ _ (cell_lt y2)).trans y2
              clear y2
              have y2 := y2n
              clear y2n
              have y3n := (hc _ _ (cell_lt y3)).trans y3
              clear y3
              have y3 := y3n
              clear y3n
              have y4n := (hc _ _ (cell_lt y4)).trans y4
              clear y4
              have y4 := y4n
              clear y4n
              have y5n := (hc _ _ (cell_lt y5)).trans y5
              clear y5
              have y5 := y5n
              clear y5n
              have y6n := (hc _ _ (cell_lt y6)).trans y6
              clear y6
              have y6 := y6n
              clear y6n
              have p1n := (hc _ _ (cell_lt p1)).trans p1
              clear p1
              have p1 := p1n
              clear p1n
              have p3n := (hc _ _ (cell_lt p3)).trans p3
              clear p3
              have p3 := p3n
              clear p3n
              have hbn : Below w.heap.size w W2 := bthen hb0 hB
              clear hb0 hc hB
              have hb0 := hbn
              clear hbn
              go_wp2_with fail
              have ky1 := later_cell y1
              have ky2 := later_cell y2
              have ky3 := later_cell y3
              have ky4 := later_cell y4
              have ky5 := later_cell y5
              have ky6 := later_cell y6
              have kp1 := later_cell p1
              have kp3 := later_cell p3
              refine wp_region_later W2 (by kernel_rfl) (by kernel_rfl) (Below.refl _ _) ?_
              repeat (go_big_quiet_step (fail))
              refine wpQuiet_nil ?_
              clear ky1 ky2 ky3 ky4 ky5 ky6 kp1 kp3
              rintro ⟨W3, hB⟩
              dsimp only
              have hc := (bcell hB).1
              have y1n := (hc _ _ (cell_lt y1)).trans y1
              clear y1
              have y1 := y1n
              clear y1n
              have y2n := (hc _ _ (cell_lt y2)).trans y2
              clear y2
              have y2 := y2n
              clear y2n
              have y3n := (hc _ _ (cell_lt y3)).trans y3
              clear y3
              have y3 := y3n
              clear y3n
              have y4n := (hc _ _ (cell_lt y4)).trans y4
              clear y4
              have y4 := y4n
              clear y4n
              have y5n := (hc _ _ (cell_lt y5)).trans y5
              clear y5
              have y5 := y5n
              clear y5n
              have y6n := (hc _ _ (cell_lt y6)).trans y6
              clear y6
              have y6 := y6n
              clear y6n
              have p1n := (hc _ _ (cell_lt p1)).trans p1
              clear p1
              have p1 := p1n
              clear p1n
              have p3n := (hc _ _ (cell_lt p3)).trans p3
              clear p3
              have p3 := p3n
              clear p3n
              have hbn : Below w.heap.size w W3 := bthen hb0 hB
              clear hb0 hc hB
              have hb0 := hbn
              clear hbn
              go_wp2_with fail
              go_roundw
              case rel => exact ⟨k + 1, by omega, by go_num, E1.out, hb0⟩
              case measure => simp [intOf]; omega
        · have h0' : decide ((0 : Int) < (k : Int)) = false := by simp; omega
          have h0n : decide (0 < k) = false := by simp; omega
          have e1 : crec l = crecF l (k + 1) (l.length - (k + 1)) := by rw [HC.out, crecF_ok (by omega) (cerr_first (by omega) HOK.out)]; rfl
          have E1 := Lib.hid e1
          clear e1
          go_wp2_with fail
          have ky1 := later_cell y1
          have ky2 := later_cell y2
          have ky3 := later_cell y3
          have ky4 := later_cell y4
          have ky5 := later_cell y5
          have ky6 := later_cell y6
          refine wp_region_later W1 (by kernel_rfl) (by kernel_rfl) (Below.refl _ _) ?_
          repeat (go_big_quiet_step (first | (go_at_call 30; with_reducible exact in_region (HR.out _))))
          refine wpQuiet_nil ?_
          clear ky1 ky2 ky3 ky4 ky5 ky6
          rintro ⟨W2, hB⟩
          dsimp only
          have hc := (bcell hB).1
          have y1n := (hc _ _ (cell_lt y1)).trans y1
          clear y1
          have y1 := y1n
          clear y1n
          have y2n := (hc _ _ (cell_lt y2)).trans y2
          clear y2
          have y2 := y2n
          clear y2n
          have y3n := (hc _ _ (cell_lt y3)).trans y3
          clear y3
          have y3 := y3n
          clear y3n
          have y4n := (hc _ _ (cell_lt y4)).trans y4
          clear y4
          have y4 := y4n
          clear y4n
          have y5n := (hc _ _ (cell_lt y5)).trans y5
          clear y5
          have y5 := y5n
          clear y5n
          have y6n := (hc _ _ (cell_lt y6)).trans y6
          clear y6
          have y6 := y6n
          clear y6n
          have hbn : Below w.heap.size w W2 := bthen hb0 hB
          clear hb0 hc hB
          have hb0 := hbn
          clear hbn
          go_wp2_with fail
          have ky1 := later_cell y1
          have ky2 := later_cell y2
          have ky3 := later_cell y3
          have ky4 := later_cell y4
          have ky5 := later_cell y5
          have ky6 := later_cell y6
          refine wp_region_later W2 (by kernel_rfl) (by kernel_rfl) (Below.refl _ _) ?_
          repeat (go_big_quiet_step (fail))
          refine wpQuiet_nil ?_
          clear ky1 ky2 ky3 ky4 ky5 ky6
          rintro ⟨W3, hB⟩
          dsimp only
          have hc := (bcell hB).1
          have y1n := (hc _ _ (cell_lt y1)).trans y1
          clear y1
          have y1 := y1n
          clear y1n
          have y2n := (hc _ _ (cell_lt y2)).trans y2
          clear y2
          have y2 := y2n
          clear y2n
          have y3n := (hc _ _ (cell_lt y3)).trans y3
          clear y3
          have y3 := y3n
          clear y3n
          have y4n := (hc _ _ (cell_lt y4)).trans y4
          clear y4
          have y4 := y4n
          clear y4n
          have y5n := (hc _ _ (cell_lt y5)).trans y5
          clear y5
          have y5 := y5n
          clear y5n
          have y6n := (hc _ _ (cell_lt y6)).trans y6
          clear y6
          have y6 := y6n
          clear y6n
          have hbn : Below w.heap.size w W3 := bthen hb0 hB
          clear hb0 hc hB
          have hb0 := hbn
          clear hbn
          go_wp2_with fail
          go_roundw
          case rel => exact ⟨k + 1, by omega, by go_num, E1.out, hb0⟩
          case measure => simp [intOf]; omega
    · have e1 : crec l = (0, 0) := by rw [HC.out, show l.length - k = 0 by omega]; rfl
      have E1 := Lib.hid e1
      clear e1
      have hltz : ¬ (k : Int) < (l.length : Int) := by omega
      go_wp2_with fail
      go_ret2
      exact ⟨by rw [E1.out]; rfl, hb⟩
end Go.Proofs.YthdenmbfeanioaaGreatDoor
