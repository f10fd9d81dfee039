/- This text proves what Sum of package tally returns, for every list of intervals: it gives up by a panic of its own, which it recovers. -/
import Derived.Test.YtokpjaodchcheaaLess
import Derived.Defers
import Derived.Recover
namespace Go.Proofs.Ytokpjaodchcheaa
open Go.RowKit Go.Shelf
attribute [local go_sem] Oper.semAt_some

abbrev tooMuchP : List PanicEntry := [{ v := .iface 110 (.agg #[]), recovered := false }]
theorem c_unless_t (w : World) : Calls Try.prog 110 #[.bool true] w fun e w' => e = .returned (.tuple #[]) ∧ w = w' := by
  go_enter Try.func110, Try.ntmps110
  go_wp2
  go_end0
  exact ⟨rfl, rfl⟩
theorem c_unless_f (w : World) : Calls Try.prog 110 #[.bool false] w fun e w' => e = .panicked tooMuchP ∧ w = w' := by
  go_enter Try.func110, Try.ntmps110
  go_wp2
  exact ⟨rfl, rfl, rfl⟩
theorem c_plus_p (a1 a2 b1 b2 : Int) (w : World) (h2 : 0 ≤ a2 ∧ a2 ≤ 100000000) (h4 : 0 ≤ b2 ∧ b2 ≤ 100000000) (h : 100000000 < a2 + b2) : Calls Try.prog 91 #[.agg #[.int .i64 a1, .int .i64 a2, .bool true], .agg #[.int .i64 b1, .int .i64 b2, .bool true]] w fun e w' => e = .panicked tooMuchP ∧ Below w.heap.size w w' := by
  have hd : decide (a2 + b2 ≤ 100000000) = false := by simp; omega
  go_enter Try.func91, Try.ntmps91
  go_wp2_with (go_at_call 110; refine (c_unless_f _).mono ?_; rintro e w' ⟨rfl, rfl⟩)
  exact ⟨rfl, rfl, by go_grown⟩
theorem c_plus_r (a1 a2 b1 b2 : Int) (w : World) (h1 : 0 ≤ a1 ∧ a1 ≤ a2) (h2 : a2 ≤ 100000000) (h3 : 0 ≤ b1 ∧ b1 ≤ b2) (h4 : b2 ≤ 100000000) (h : a2 + b2 ≤ 100000000) : Calls Try.prog 91 #[.agg #[.int .i64 a1, .int .i64 a2, .bool true], .agg #[.int .i64 b1, .int .i64 b2, .bool true]] w fun e w' => e = .returned (.agg #[.int .i64 (a1 + b1), .int .i64 (a2 + b2), .bool true]) ∧ Below w.heap.size w w' := by
  have hd : decide (a2 + b2 ≤ 100000000) = true := by simp; omega
  obtain ⟨h1, h1b⟩ := h1
  obtain ⟨h3, h3b⟩ := h3
  have hb : ∀ W, Calls Try.prog 92 #[.int .i64 (a1 + b1), .int .i64 (a2 + b2)] W fun e w' => e = .returned (.agg #[.int .i64 (a1 + b1), .int .i64 (a2 + b2), .bool true]) ∧ Below W.heap.size W w' := fun W => by
    have := c_between (a1 + b1) (a2 + b2) W
    rwa [show betw (a1 + b1) (a2 + b2) = ⟨a1 + b1, a2 + b2, true⟩ from if_neg (by omega)] at this
  have HB := Lib.hid hb
  clear hb
  go_enter Try.func91, Try.ntmps91
  go_upto_region 3 with (fail)
  go_name_world W1 hW1
  have hbn : Below w.heap.size w W1 := by subst hW1; go_grown
  have hb0 := hbn
  clear hbn
  have p0n : W1.cell? ⟨w.heap.size, 0, none⟩ = some (.int .i64 a1) := by subst hW1; go_simp
  have p1n : W1.cell? ⟨w.heap.size, 1, none⟩ = some (.int .i64 a2) := by subst hW1; go_simp
  have p2n : W1.cell? ⟨w.heap.size, 2, none⟩ = some (.bool true) := by subst hW1; go_simp
  have q0n : W1.cell? ⟨w.heap.size + 1, 0, none⟩ = some (.int .i64 b1) := by subst hW1; go_simp
  have q1n : W1.cell? ⟨w.heap.size + 1, 1, none⟩ = some (.int .i64 b2) := by subst hW1; go_simp
  have q2n : W1.cell? ⟨w.heap.size + 1, 2, none⟩ = some (.bool true) := by subst hW1; go_simp
  have s0n : W1.cell? ⟨w.heap.size + 2, 0, none⟩ = some (.int .i64 0) := by subst hW1; go_simp
  have fs0n : W1.frozen? ⟨w.heap.size + 2, 0, none⟩ = false := by subst hW1; go_simp
  have s1n : W1.cell? ⟨w.heap.size + 2, 1, none⟩ = some (.int .i64 0) := by subst hW1; go_simp
  have fs1n : W1.frozen? ⟨w.heap.size + 2, 1, none⟩ = false := by subst hW1; go_simp
  have s2n : W1.cell? ⟨w.heap.size + 2, 2, none⟩ = some (.bool false) := by subst hW1; go_simp
  have fs2n : W1.frozen? ⟨w.heap.size + 2, 2, none⟩ = false := by subst hW1; go_simp
  clear hW1 
  have p0 := p0n
  have p1 := p1n
  have p2 := p2n
  have q0 := q0n
  have q1 := q1n
  have q2 := q2n
  have s0 := s0n
  have fs0 := fs0n
  have s1 := s1n
  have fs1 := fs1n
  have s2 := s2n
  have fs2 := fs2n
  clear p0n p1n p2n q0n q1n q2n s0n s1n s2n fs0n fs1n fs2n
  go_wp2_with (go_at_call 110; refine (c_unless_t _).mono ?_; rintro e w1 ⟨rfl, rfl⟩)
  refine (via (w0 := W1) (by go_grown) (HB.out _)).mono ?_
  rintro e W2 ⟨rfl, hc, hf, hz, hB⟩
  have p0n : W2.cell? ⟨w.heap.size, 0, none⟩ = some (.int .i64 a1) := (hc _ _ (cell_lt p0)).trans p0
  clear p0
  have p0 := p0n
  clear p0n
  have p1n : W2.cell? ⟨w.heap.size, 1, none⟩ = some (.int .i64 a2) := (hc _ _ (cell_lt p1)).trans p1
  clear p1
  have p1 := p1n
  clear p1n
  have p2n : W2.cell? ⟨w.heap.size, 2, none⟩ = some (.bool true) := (hc _ _ (cell_lt p2)).trans p2
  clear p2
  have p2 := p2n
  clear p2n
  have q0n : W2.cell? ⟨w.heap.size + 1, 0, none⟩ = some (.int .i64 b1) := (hc _ _ (cell_lt q0)).trans q0
  clear q0
  have q0 := q0n
  clear q0n
  have q1n : W2.cell? ⟨w.heap.size + 1, 1, none⟩ = some (.int .i64 b2) := (hc _ _ (cell_lt q1)).trans q1
  clear q1
  have q1 := q1n
  clear q1n
  have q2n : W2.cell? ⟨w.heap.size + 1, 2, none⟩ = some (.bool true) := (hc _ _ (cell_lt q2)).trans q2
  clear q2
  have q2 := q2n
  clear q2n
  have fs0n : W2.frozen? ⟨w.heap.size + 2, 0, none⟩ = false := (hf _ _ (cell_lt s0)).trans fs0
  clear fs0
  have fs0 := fs0n
  clear fs0n
  have s0n : W2.cell? ⟨w.heap.size + 2, 0, none⟩ = some (.int .i64 0) := (hc _ _ (cell_lt s0)).trans s0
  clear s0
  have s0 := s0n
  clear s0n
  have fs1n : W2.frozen? ⟨w.heap.size + 2, 1, none⟩ = false := (hf _ _ (cell_lt s1)).trans fs1
  clear fs1
  have fs1 := fs1n
  clear fs1n
  have s1n : W2.cell? ⟨w.heap.size + 2, 1, none⟩ = some (.int .i64 0) := (hc _ _ (cell_lt s1)).trans s1
  clear s1
  have s1 := s1n
  clear s1n
  have fs2n : W2.frozen? ⟨w.heap.size + 2, 2, none⟩ = false := (hf _ _ (cell_lt s2)).trans fs2
  clear fs2
  have fs2 := fs2n
  clear fs2n
  have s2n : W2.cell? ⟨w.heap.size + 2, 2, none⟩ = some (.bool false) := (hc _ _ (cell_lt s2)).trans s2
  clear s2
  have s2 := s2n
  clear s2n
  have hbn : Below w.heap.size w W2 := bthen hb0 hB
  clear hb0
  have hb0 := hbn
  clear hbn
  have hzW2 : W1.heap.size ≤ W2.heap.size := hz
  clear hc hf hB hz
  go_wp2_with fail
  refine bodyPost_ret (v := .agg #[.int .i64 (a1 + b1), .int .i64 (a2 + b2), .bool true]) (by simp [results, Try.results91, go_sem, s0, s1, s2]) rfl ⟨rfl, by have hbz := hb0.size; go_grown⟩

/-- The sums of the low and of the high ends. -/
def lowS (l : List Iv) : Int := (l.map Iv.lo).sum
def highS (l : List Iv) : Int := (l.map Iv.hi).sum
theorem lowS_snoc (l : List Iv) (x : Iv) : lowS (l ++ [x]) = lowS l + x.lo := by simp [lowS]
theorem highS_snoc (l : List Iv) (x : Iv) : highS (l ++ [x]) = highS l + x.hi := by simp [highS]
def Good (l : List Iv) : Prop := ∀ x ∈ l, ivB x = true ∧ x.some = true
theorem good_bd {l : List Iv} (h : Good l) : 0 ≤ lowS l ∧ lowS l ≤ highS l ∧ highS l ≤ 100000000 * l.length := by
  induction l with
  | nil => simp [lowS, highS]
  | cons x l ih =>
    obtain ⟨h1, h2⟩ := h x (by simp)
    have e := ivB_some h1 h2
    have i := ih (fun y hy => h y (by simp [hy]))
    have e1 : lowS (x :: l) = x.lo + lowS l := by simp [lowS]
    have e2 : highS (x :: l) = x.hi + highS l := by simp [highS]
    rw [e1, e2, List.length_cons]
    omega
theorem iv_mem {l : List Iv} {k : Nat} (hk : k < l.length) : iv l k ∈ l := by
  have : iv l k = l[k] := by simp [iv, hk]
  rw [this]; exact List.getElem_mem hk
theorem high_mono' {l : List Iv} (h : Good l) (k : Nat) : highS (l.take k) ≤ highS l := by
  have e : highS l = highS (l.take k) + highS (l.drop k) := by
    unfold highS
    rw [← List.sum_append, ← List.map_append, List.take_append_drop]
  have := (good_bd (l := l.drop k) (fun x hx => h x (List.mem_of_mem_drop hx)))
  omega

/-- How joined ends by plus. -/
def JP (l : List Iv) (w : World) (e : Ending) (w' : World) : Prop :=
  (highS l ≤ 100000000 → e = .returned (.agg #[.int .i64 (lowS l), .int .i64 (highS l), .bool true])) ∧ (100000000 < highS l → e = .panicked tooMuchP) ∧ Below w.heap.size w w'

set_option maxHeartbeats 8000000 in
theorem c_joined_plus (l : List Iv) (a : Option Addr) (cap : Nat) (w : World) (hl : Ivs w a l) (hg : Good l) :
    Calls Try.prog 84 #[.func (.func 91) #[] #[], .agg #[.int .i64 0, .int .i64 0, .bool true], .slice a l.length cap] w (JP l w) := by
  have hlen := hl.1
  have HL := Lib.hid hl
  have HG := Lib.hid hg
  have eg : Ent 91 := enters_of Try.func91 (by kernel_rfl) rfl
  clear hl hg
  go_enter Try.func84, Try.ntmps84
  go_wp2
  go_loopw [13] (fun v13 wr => ∃ (k : Nat) (acc : Iv), k ≤ l.length ∧ v13 = .int .i64 k ∧ acc = ⟨lowS (l.take k), highS (l.take k), true⟩ ∧ acc.hi ≤ 100000000 ∧ JI w acc wr) (fun v13 _ => l.length - (intOf v13).toNat)
  case atStart => exact ⟨0, ⟨0, 0, true⟩, by omega, rfl, rfl, by simp, ⟨by go_grown, by go_simp, by go_simp, by go_simp, by go_simp, by go_simp, by go_simp, by go_simp, by go_simp, by go_simp, by go_simp, by go_simp, by go_simp⟩⟩
  case round =>
    obtain ⟨k, acc, hk, rfl, hacc, hmx, hj⟩ := hrel
    obtain ⟨hb0, s0, s1, s2, fs0, fs1, fs2, a0, a1, a2, fa0, fa1, fa2⟩ := hj
    have hgk : Good (l.take k) := fun x hx => HG.out x (List.mem_of_mem_take hx)
    have hbd := good_bd hgk
    have r3 : acc.some = true := by rw [hacc]
    have r1 : acc.lo = lowS (l.take k) := by rw [hacc]
    have r2 : acc.hi = highS (l.take k) := by rw [hacc]
    rw [r3] at a2
    have hc1 : 0 ≤ acc.lo ∧ acc.lo ≤ acc.hi := by rw [r1, r2]; exact ⟨hbd.1, hbd.2.1⟩
    have C1 := Lib.hid r1
    have C2 := Lib.hid r2
    clear r1 r2 r3
    generalize acc.lo = c1 at *
    generalize acc.hi = c2 at *
    clear hacc hbd hgk
    by_cases hlt : k < l.length
    · obtain ⟨b, o, rfl, hat⟩ := (HL.out.later hb0).2 (by intro e; rw [e] at hlt; simp at hlt)
      obtain ⟨y1, y2, y3⟩ := hat k hlt
      obtain ⟨g1, g2⟩ := HG.out _ (iv_mem hlt)
      have eb := ivB_some g1 g2
      rw [g2] at y3
      have hst1 : lowS (l.take (k + 1)) = lowS (l.take k) + (iv l k).lo := by rw [take_iv hlt, lowS_snoc]
      have hst2 : highS (l.take (k + 1)) = highS (l.take k) + (iv l k).hi := by rw [take_iv hlt, highS_snoc]
      have hmm := high_mono' HG.out (k + 1)
      rw [hst2, ← C2.out] at hmm
      generalize (iv l k).lo = d1 at *
      generalize (iv l k).hi = d2 at *
      have S1 := Lib.hid hst1
      have S2 := Lib.hid hst2
      have HMM := Lib.hid hmm
      clear hat hst1 hst2 g1 g2 hmm
      go_upto_region 5 with (fail)
      go_name_world W1 hW1
      have hbz := hb0.size
      have hbn : Below w.heap.size w W1 := by subst hW1; go_grown
      clear hb0 hbz
      have hb0 := hbn
      clear hbn
      have hbk : Below wr.heap.size wr W1 := by subst hW1; go_grown
      have s0n : W1.cell? ⟨w.heap.size + 1, 0, none⟩ = some (.int .i64 0) := ((bcell hbk).1 _ _ (cell_lt s0)).trans s0
      have fs0n : W1.frozen? ⟨w.heap.size + 1, 0, none⟩ = false := ((bcell hbk).2 _ _ (cell_lt s0)).trans fs0
      have s1n : W1.cell? ⟨w.heap.size + 1, 1, none⟩ = some (.int .i64 0) := ((bcell hbk).1 _ _ (cell_lt s1)).trans s1
      have fs1n : W1.frozen? ⟨w.heap.size + 1, 1, none⟩ = false := ((bcell hbk).2 _ _ (cell_lt s1)).trans fs1
      have s2n : W1.cell? ⟨w.heap.size + 1, 2, none⟩ = some (.bool false) := ((bcell hbk).1 _ _ (cell_lt s2)).trans s2
      have fs2n : W1.frozen? ⟨w.heap.size + 1, 2, none⟩ = false := ((bcell hbk).2 _ _ (cell_lt s2)).trans fs2
      have a0n : W1.cell? ⟨w.heap.size + 2, 0, none⟩ = some (.int .i64 c1) := ((bcell hbk).1 _ _ (cell_lt a0)).trans a0
      have fa0n : W1.frozen? ⟨w.heap.size + 2, 0, none⟩ = false := ((bcell hbk).2 _ _ (cell_lt a0)).trans fa0
      have a1n : W1.cell? ⟨w.heap.size + 2, 1, none⟩ = some (.int .i64 c2) := ((bcell hbk).1 _ _ (cell_lt a1)).trans a1
      have fa1n : W1.frozen? ⟨w.heap.size + 2, 1, none⟩ = false := ((bcell hbk).2 _ _ (cell_lt a1)).trans fa1
      have a2n : W1.cell? ⟨w.heap.size + 2, 2, none⟩ = some (.bool true) := ((bcell hbk).1 _ _ (cell_lt a2)).trans a2
      have fa2n : W1.frozen? ⟨w.heap.size + 2, 2, none⟩ = false := ((bcell hbk).2 _ _ (cell_lt a2)).trans fa2
      clear hbk
      have e0n : W1.cell? ⟨wr.heap.size, 0, none⟩ = some (.int .i64 d1) := by subst hW1; go_simp
      have e1n : W1.cell? ⟨wr.heap.size, 1, none⟩ = some (.int .i64 d2) := by subst hW1; go_simp
      have e2n : W1.cell? ⟨wr.heap.size, 2, none⟩ = some (.bool true) := by subst hW1; go_simp
      clear hW1 s0 s1 s2 a0 a1 a2 fs0 fs1 fs2 fa0 fa1 fa2
      have s0 := s0n
      have fs0 := fs0n
      have s1 := s1n
      have fs1 := fs1n
      have s2 := s2n
      have fs2 := fs2n
      have a0 := a0n
      have fa0 := fa0n
      have a1 := a1n
      have fa1 := fa1n
      have a2 := a2n
      have fa2 := fa2n
      have e0 := e0n
      have e1 := e1n
      have e2 := e2n
      clear s0n s1n s2n a0n a1n a2n e0n e1n e2n fs0n fs1n fs2n fa0n fa1n fa2n
      clear y1 y2 y3
      by_cases hsum : c2 + d2 ≤ 100000000
      · have hp := fun W => c_plus_r c1 c2 d1 d2 W hc1 hmx ⟨eb.1, eb.2.1⟩ eb.2.2 hsum
        have HP := Lib.hid hp
        clear hp
        go_wp2_with (go_at_fn 91; refine (via (w0 := W1) (by go_grown) (HP.out _)).mono ?_; rintro e W2 ⟨rfl, hc, hf, hz, hB⟩; have fs0n : W2.frozen? ⟨w.heap.size + 1, 0, none⟩ = false := (hf _ _ (cell_lt s0)).trans fs0; clear fs0; have fs0 := fs0n; clear fs0n; have s0n : W2.cell? ⟨w.heap.size + 1, 0, none⟩ = some (.int .i64 0) := (hc _ _ (cell_lt s0)).trans s0; clear s0; have s0 := s0n; clear s0n; have fs1n : W2.frozen? ⟨w.heap.size + 1, 1, none⟩ = false := (hf _ _ (cell_lt s1)).trans fs1; clear fs1; have fs1 := fs1n; clear fs1n; have s1n : W2.cell? ⟨w.heap.size + 1, 1, none⟩ = some (.int .i64 0) := (hc _ _ (cell_lt s1)).trans s1; clear s1; have s1 := s1n; clear s1n; have fs2n : W2.frozen? ⟨w.heap.size + 1, 2, none⟩ = false := (hf _ _ (cell_lt s2)).trans fs2; clear fs2; have fs2 := fs2n; clear fs2n; have s2n : W2.cell? ⟨w.heap.size + 1, 2, none⟩ = some (.bool false) := (hc _ _ (cell_lt s2)).trans s2; clear s2; have s2 := s2n; clear s2n; have fa0n : W2.frozen? ⟨w.heap.size + 2, 0, none⟩ = false := (hf _ _ (cell_lt a0)).trans fa0; clear fa0; have fa0 := fa0n; clear fa0n; have a0n : W2.cell? ⟨w.heap.size + 2, 0, none⟩ = some (.int .i64 c1) := (hc _ _ (cell_lt a0)).trans a0; clear a0; have a0 := a0n; clear a0n; have fa1n : W2.frozen? ⟨w.heap.size + 2, 1, none⟩ = false := (hf _ _ (cell_lt a1)).trans fa1; clear fa1; have fa1 := fa1n; clear fa1n; have a1n : W2.cell? ⟨w.heap.size + 2, 1, none⟩ = some (.int .i64 c2) := (hc _ _ (cell_lt a1)).trans a1; clear a1; have a1 := a1n; clear a1n; have fa2n : W2.frozen? ⟨w.heap.size + 2, 2, none⟩ = false := (hf _ _ (cell_lt a2)).trans fa2; clear fa2; have fa2 := fa2n; clear fa2n; have a2n : W2.cell? ⟨w.heap.size + 2, 2, none⟩ = some (.bool true) := (hc _ _ (cell_lt a2)).trans a2; clear a2; have a2 := a2n; clear a2n; have hbn : Below w.heap.size w W2 := bthen hb0 hB; clear hb0; have hb0 := hbn; clear hbn hc hf hB hz e0 e1 e2)
        go_roundw
        case rel =>
          exact ⟨k + 1, ⟨c1 + d1, c2 + d2, true⟩, by omega, by go_num, by rw [S1.out, S2.out, C1.out, C2.out], hsum, ⟨by have hbz := hb0.size; go_grown, by go_simp, by go_simp, by go_simp, by go_simp, by go_simp, by go_simp, by go_simp, by go_simp, by go_simp, by go_simp, by go_simp, by go_simp⟩⟩
        case measure => simp [intOf]; omega
      · have hp := fun W => c_plus_p c1 c2 d1 d2 W ⟨by omega, hmx⟩ ⟨by omega, eb.2.2⟩ (by omega)
        have HP := Lib.hid hp
        clear hp
        go_wp2_with (go_at_fn 91; refine (via (w0 := W1) (by go_grown) (HP.out _)).mono ?_; rintro e W2 ⟨rfl, hc, hf, hz, hB⟩; have fs0n : W2.frozen? ⟨w.heap.size + 1, 0, none⟩ = false := (hf _ _ (cell_lt s0)).trans fs0; clear fs0; have fs0 := fs0n; clear fs0n; have s0n : W2.cell? ⟨w.heap.size + 1, 0, none⟩ = some (.int .i64 0) := (hc _ _ (cell_lt s0)).trans s0; clear s0; have s0 := s0n; clear s0n; have fs1n : W2.frozen? ⟨w.heap.size + 1, 1, none⟩ = false := (hf _ _ (cell_lt s1)).trans fs1; clear fs1; have fs1 := fs1n; clear fs1n; have s1n : W2.cell? ⟨w.heap.size + 1, 1, none⟩ = some (.int .i64 0) := (hc _ _ (cell_lt s1)).trans s1; clear s1; have s1 := s1n; clear s1n; have fs2n : W2.frozen? ⟨w.heap.size + 1, 2, none⟩ = false := (hf _ _ (cell_lt s2)).trans fs2; clear fs2; have fs2 := fs2n; clear fs2n; have s2n : W2.cell? ⟨w.heap.size + 1, 2, none⟩ = some (.bool false) := (hc _ _ (cell_lt s2)).trans s2; clear s2; have s2 := s2n; clear s2n; have fa0n : W2.frozen? ⟨w.heap.size + 2, 0, none⟩ = false := (hf _ _ (cell_lt a0)).trans fa0; clear fa0; have fa0 := fa0n; clear fa0n; have a0n : W2.cell? ⟨w.heap.size + 2, 0, none⟩ = some (.int .i64 c1) := (hc _ _ (cell_lt a0)).trans a0; clear a0; have a0 := a0n; clear a0n; have fa1n : W2.frozen? ⟨w.heap.size + 2, 1, none⟩ = false := (hf _ _ (cell_lt a1)).trans fa1; clear fa1; have fa1 := fa1n; clear fa1n; have a1n : W2.cell? ⟨w.heap.size + 2, 1, none⟩ = some (.int .i64 c2) := (hc _ _ (cell_lt a1)).trans a1; clear a1; have a1 := a1n; clear a1n; have fa2n : W2.frozen? ⟨w.heap.size + 2, 2, none⟩ = false := (hf _ _ (cell_lt a2)).trans fa2; clear fa2; have fa2 := fa2n; clear fa2n; have a2n : W2.cell? ⟨w.heap.size + 2, 2, none⟩ = some (.bool true) := (hc _ _ (cell_lt a2)).trans a2; clear a2; have a2 := a2n; clear a2n; have hbn : Below w.heap.size w W2 := bthen hb0 hB; clear hb0; have hb0 := hbn; clear hbn hc hf hB hz e0 e1 e2)
        have := HMM.out
        exact ⟨rfl, fun h => by omega, fun _ => rfl, hb0⟩
    · obtain rfl : k = l.length := by omega
      have k1 := C1.out
      have k2 := C2.out
      rw [List.take_length] at k1 k2
      have K1 := Lib.hid k1
      have K2 := Lib.hid k2
      clear k1 k2
      go_wp2
      refine bodyPost_ret (v := .agg #[.int .i64 c1, .int .i64 c2, .bool true]) (by simp [results, Try.results84, go_sem, s0, s1, s2]) rfl ⟨fun _ => by rw [K1.out, K2.out], fun h => ?_, by have hbz := hb0.size; go_grown⟩
      have := K2.out
      omega
end Go.Proofs.Ytokpjaodchcheaa
