/- This text proves what isInterval, joined and Both of package tally return. -/
import Derived.Test.YthdenmbfeanioaaGreatDoorTrue
import Derived.Lib.MinMax
namespace Go.Proofs.YthdenmbfeanioaaGreatDoor
open Go.RowKit Go.Shelf
attribute [local go_sem] Oper.semAt_some

/-- What isInterval says. -/
def ivB (x : Iv) : Bool := decide (x = Iv.none) || (x.some && decide (0 ≤ x.lo) && decide (x.lo ≤ x.hi) && decide (x.hi ≤ 100000000))

theorem c_isInterval (x : Iv) (w : World) : Calls Tryz.prog 39 #[x.v] w fun e w' => e = .returned (.bool (ivB x)) ∧ Below w.heap.size w w' := by
  obtain ⟨lo, hi, so⟩ := x
  go_enter Tryz.func39, Tryz.ntmps39
  go_wp2
  all_goals (go_ret; refine ⟨ret_bool ?_, by go_grown⟩; simp_all [ivB, Iv.none] <;> omega)

/-- The meet of two spans. -/
def meet (a b : Iv) : Iv := if a.some && b.some then betw (max a.lo b.lo) (min a.hi b.hi) else Iv.none

theorem c_meet (a b : Iv) (w : World) : Calls Tryz.prog 41 #[a.v, b.v] w fun e w' => e = .returned (meet a b).v ∧ Below w.heap.size w w' := by
  obtain ⟨a1, a2, a3⟩ := a
  obtain ⟨b1, b2, b3⟩ := b
  cases a3
  · have hx : meet ⟨a1, a2, false⟩ ⟨b1, b2, b3⟩ = ⟨0, 0, false⟩ := rfl
    rw [hx]
    clear hx
    go_enter Tryz.func41, Tryz.ntmps41
    go_wp2
    go_returns
    exact ⟨rfl, by go_grown⟩
  · cases b3
    · have hx : meet ⟨a1, a2, true⟩ ⟨b1, b2, false⟩ = ⟨0, 0, false⟩ := rfl
      rw [hx]
      clear hx
      go_enter Tryz.func41, Tryz.ntmps41
      go_wp2
      go_returns
      exact ⟨rfl, by go_grown⟩
    · have hx : meet ⟨a1, a2, true⟩ ⟨b1, b2, true⟩ = betw (max a1 b1) (min a2 b2) := rfl
      rw [hx]
      clear hx
      obtain ⟨r, hr⟩ : ∃ r, betw (max a1 b1) (min a2 b2) = r := ⟨_, rfl⟩
      have HB := fun W => c_between (max a1 b1) (min a2 b2) W
      rw [hr] at HB ⊢
      clear hr
      obtain ⟨r1, r2, r3⟩ := r
      have HB' := Lib.hid HB
      clear HB
      have HB := HB'
      clear HB'
      go_enter Tryz.func41, Tryz.ntmps41
      go_upto_region 3 with (fail)
      go_name_world W1 hW1
      have hbn : Below w.heap.size w W1 := by subst hW1; go_grown
      have hb0 := hbn
      clear hbn
      have p1n : W1.cell? ⟨w.heap.size, 0, none⟩ = some (.int .i64 a1) := by subst hW1; go_simp
      have p2n : W1.cell? ⟨w.heap.size, 1, none⟩ = some (.int .i64 a2) := by subst hW1; go_simp
      have q1n : W1.cell? ⟨w.heap.size + 1, 0, none⟩ = some (.int .i64 b1) := by subst hW1; go_simp
      have q2n : W1.cell? ⟨w.heap.size + 1, 1, none⟩ = some (.int .i64 b2) := by subst hW1; go_simp
      have s0n : W1.cell? ⟨w.heap.size + 2, 0, none⟩ = some (.int .i64 0) := by subst hW1; go_simp
      have fs0n : W1.frozen? ⟨w.heap.size + 2, 0, none⟩ = false := by subst hW1; go_simp
      have s1n : W1.cell? ⟨w.heap.size + 2, 1, none⟩ = some (.int .i64 0) := by subst hW1; go_simp
      have fs1n : W1.frozen? ⟨w.heap.size + 2, 1, none⟩ = false := by subst hW1; go_simp
      have s2n : W1.cell? ⟨w.heap.size + 2, 2, none⟩ = some (.bool false) := by subst hW1; go_simp
      have fs2n : W1.frozen? ⟨w.heap.size + 2, 2, none⟩ = false := by subst hW1; go_simp
      clear hW1 
      have p1 := p1n
      have p2 := p2n
      have q1 := q1n
      have q2 := q2n
      have s0 := s0n
      have fs0 := fs0n
      have s1 := s1n
      have fs1 := fs1n
      have s2 := s2n
      have fs2 := fs2n
      clear p1n p2n q1n q2n s0n s1n s2n fs0n fs1n fs2n
      go_wp2_with fail
      refine (via (w0 := W1) (by go_grown) (HB.out _)).mono ?_
      rintro e W2 ⟨rfl, hc, hf, hz, hB⟩
      have p1n : W2.cell? ⟨w.heap.size, 0, none⟩ = some (.int .i64 a1) := (hc _ _ (cell_lt p1)).trans p1
      clear p1
      have p1 := p1n
      clear p1n
      have p2n : W2.cell? ⟨w.heap.size, 1, none⟩ = some (.int .i64 a2) := (hc _ _ (cell_lt p2)).trans p2
      clear p2
      have p2 := p2n
      clear p2n
      have q1n : W2.cell? ⟨w.heap.size + 1, 0, none⟩ = some (.int .i64 b1) := (hc _ _ (cell_lt q1)).trans q1
      clear q1
      have q1 := q1n
      clear q1n
      have q2n : W2.cell? ⟨w.heap.size + 1, 1, none⟩ = some (.int .i64 b2) := (hc _ _ (cell_lt q2)).trans q2
      clear q2
      have q2 := q2n
      clear q2n
      have fs0n : W2.frozen? ⟨w.heap.size + 2, 0, none⟩ = false := (hf _ _ (cell_lt s0)).trans fs0
      clear fs0
      have fs0 := fs0n
      clear fs0n
      have s0n : W2.cell? ⟨w.heap.size + 2, 0, none⟩ = some (.int .i64 0) := (hc _ _ (cell_lt s0)).trans s0
      clear s0
      have s0 := s0n
      clear s0n
      have fs1n : W2.frozen? ⟨w.heap.size + 2, 1, none⟩ = false := (hf _ _ (cell_lt s1)).trans fs1
      clear fs1
      have fs1 := fs1n
      clear fs1n
      have s1n : W2.cell? ⟨w.heap.size + 2, 1, none⟩ = some (.int .i64 0) := (hc _ _ (cell_lt s1)).trans s1
      clear s1
      have s1 := s1n
      clear s1n
      have fs2n : W2.frozen? ⟨w.heap.size + 2, 2, none⟩ = false := (hf _ _ (cell_lt s2)).trans fs2
      clear fs2
      have fs2 := fs2n
      clear fs2n
      have s2n : W2.cell? ⟨w.heap.size + 2, 2, none⟩ = some (.bool false) := (hc _ _ (cell_lt s2)).trans s2
      clear s2
      have s2 := s2n
      clear s2n
      have hbn : Below w.heap.size w W2 := bthen hb0 hB
      clear hb0
      have hb0 := hbn
      clear hbn
      have hzW2 : W1.heap.size ≤ W2.heap.size := hz
      clear hc hf hB hz
      go_wp2_with fail
      refine bodyPost_ret (v := Iv.v ⟨r1, r2, r3⟩) (by simp [results, Tryz.results41, go_sem, s0, s1, s2]) rfl ⟨rfl, by have hbz := hb0.size; go_grown⟩

structure IvAt (w : World) (b o : Nat) (x : Iv) : Prop where
  lo : w.cell? ⟨b, o, none⟩ = some (.int .i64 x.lo)
  hi : w.cell? ⟨b, o + 1, none⟩ = some (.int .i64 x.hi)
  some : w.cell? ⟨b, o + 2, none⟩ = some (.bool x.some)
theorem IvAt.later {w w1 : World} {b o : Nat} {x : Iv} (h : IvAt w b o x) (hb : Below w.heap.size w w1) : IvAt w1 b o x :=
  have k := (bcell hb).1 b
  ⟨(k _ (cell_lt h.lo)).trans h.lo, (k _ (cell_lt h.lo)).trans h.hi, (k _ (cell_lt h.lo)).trans h.some⟩
instance : Inhabited Iv := ⟨Iv.none⟩
def iv (l : List Iv) (k : Nat) : Iv := l[k]?.getD default
/-- A slice's cells: a list of intervals. -/
def Ivs (w : World) (a : Option Addr) (l : List Iv) : Prop := l.length ≤ 1000000000000 ∧ (l ≠ [] → ∃ b o, a = some ⟨b, o, none⟩ ∧ ∀ k, k < l.length → IvAt w b (o + k * 3) (iv l k))
theorem Ivs.later {w w1 : World} {a : Option Addr} {l : List Iv} (h : Ivs w a l) (hb : Below w.heap.size w w1) : Ivs w1 a l :=
  ⟨h.1, fun hl => by obtain ⟨b, o, ha, hk⟩ := h.2 hl; exact ⟨b, o, ha, fun k hk' => (hk k hk').later hb⟩⟩
theorem take_iv {l : List Iv} {k : Nat} (hk : k < l.length) : l.take (k + 1) = l.take k ++ [iv l k] := by
  rw [List.take_succ_eq_append_getElem hk]; simp [iv, hk]

/-- An operation of a function value on two intervals. -/
def Op2 (g : FuncId) (f : Iv → Iv → Iv) : Prop := ∀ x y W, Calls Tryz.prog g #[x.v, y.v] W fun e w' => e = .returned (f x y).v ∧ Below W.heap.size W w'

/-- Between two rounds of joined: what it holds so far, in a block of its own. -/
structure JI (w : World) (acc : Iv) (A : World) : Prop where
  below : Below w.heap.size w A
  s0 : A.cell? ⟨w.heap.size + 1, 0, none⟩ = some (.int .i64 0)
  s1 : A.cell? ⟨w.heap.size + 1, 1, none⟩ = some (.int .i64 0)
  s2 : A.cell? ⟨w.heap.size + 1, 2, none⟩ = some (.bool false)
  fs0 : A.frozen? ⟨w.heap.size + 1, 0, none⟩ = false
  fs1 : A.frozen? ⟨w.heap.size + 1, 1, none⟩ = false
  fs2 : A.frozen? ⟨w.heap.size + 1, 2, none⟩ = false
  a0 : A.cell? ⟨w.heap.size + 2, 0, none⟩ = some (.int .i64 acc.lo)
  a1 : A.cell? ⟨w.heap.size + 2, 1, none⟩ = some (.int .i64 acc.hi)
  a2 : A.cell? ⟨w.heap.size + 2, 2, none⟩ = some (.bool acc.some)
  fa0 : A.frozen? ⟨w.heap.size + 2, 0, none⟩ = false
  fa1 : A.frozen? ⟨w.heap.size + 2, 1, none⟩ = false
  fa2 : A.frozen? ⟨w.heap.size + 2, 2, none⟩ = false

set_option maxHeartbeats 4000000 in
theorem c_joined (g : FuncId) (eg : Ent g) (f : Iv → Iv → Iv) (ho : Op2 g f) (x : Iv) (l : List Iv) (a : Option Addr) (cap : Nat) (w : World) (hl : Ivs w a l) :
    Calls Tryz.prog 40 #[.func (.func g) #[] #[], x.v, .slice a l.length cap] w fun e w' => e = .returned (l.foldl f x).v ∧ Below w.heap.size w w' := by
  have hlen := hl.1
  have HL := Lib.hid hl
  have HO := Lib.hid ho
  clear hl ho
  obtain ⟨x1, x2, x3⟩ := x
  go_enter Tryz.func40, Tryz.ntmps40
  go_wp2
  go_loopw [13] (fun v13 wr => ∃ (k : Nat) (acc : Iv), k ≤ l.length ∧ v13 = .int .i64 k ∧ acc = (l.take k).foldl f ⟨x1, x2, x3⟩ ∧ JI w acc wr) (fun v13 _ => l.length - (intOf v13).toNat)
  case atStart => exact ⟨0, ⟨x1, x2, x3⟩, by omega, rfl, rfl, ⟨by go_grown, by go_simp, by go_simp, by go_simp, by go_simp, by go_simp, by go_simp, by go_simp, by go_simp, by go_simp, by go_simp, by go_simp, by go_simp⟩⟩
  case round =>
    obtain ⟨k, acc, hk, rfl, hacc, hj⟩ := hrel
    obtain ⟨hb0, s0, s1, s2, fs0, fs1, fs2, a0, a1, a2, fa0, fa1, fa2⟩ := hj
    obtain ⟨c1, c2, c3⟩ := acc
    have HA := Lib.hid hacc
    clear hacc
    by_cases hlt : k < l.length
    · have hst : (l.take (k + 1)).foldl f ⟨x1, x2, x3⟩ = f ⟨c1, c2, c3⟩ (iv l k) := by rw [take_iv hlt, List.foldl_append, ← HA.out]; rfl
      obtain ⟨b, o, rfl, hat⟩ := (HL.out.later hb0).2 (by intro e; rw [e] at hlt; simp at hlt)
      obtain ⟨y1, y2, y3⟩ := hat k hlt
      clear hat
      have hop := HO.out ⟨c1, c2, c3⟩ (iv l k)
      generalize hy : iv l k = y at y1 y2 y3 hst hop
      obtain ⟨d1, d2, d3⟩ := y
      obtain ⟨r, hr⟩ : ∃ r, f ⟨c1, c2, c3⟩ ⟨d1, d2, d3⟩ = r := ⟨_, rfl⟩
      rw [hr] at hst hop
      clear hr
      obtain ⟨r1, r2, r3⟩ := r
      have HOP := Lib.hid hop
      have HST := Lib.hid hst
      clear hst hop hy
      go_upto_region 5 with (fail)
      go_name_world W1 hW1
      have hbz := hb0.size
      have hbn : Below w.heap.size w W1 := by subst hW1; go_grown
      clear hb0 hbz
      have hb0 := hbn
      clear hbn
      have hbk : Below wr.heap.size wr W1 := by subst hW1; go_grown
      have s0n : W1.cell? ⟨w.heap.size + 1, 0, none⟩ = some (.int .i64 0) := ((bcell hbk).1 _ _ (cell_lt s0)).trans s0
      have fs0n : W1.frozen? ⟨w.heap.size + 1, 0, none⟩ = false := ((bcell hbk).2 _ _ (cell_lt s0)).trans fs0
      have s1n : W1.cell? ⟨w.heap.size + 1, 1, none⟩ = some (.int .i64 0) := ((bcell hbk).1 _ _ (cell_lt s1)).trans s1
      have fs1n : W1.frozen? ⟨w.heap.size + 1, 1, none⟩ = false := ((bcell hbk).2 _ _ (cell_lt s1)).trans fs1
      have s2n : W1.cell? ⟨w.heap.size + 1, 2, none⟩ = some (.bool false) := ((bcell hbk).1 _ _ (cell_lt s2)).trans s2
      have fs2n : W1.frozen? ⟨w.heap.size + 1, 2, none⟩ = false := ((bcell hbk).2 _ _ (cell_lt s2)).trans fs2
      have a0n : W1.cell? ⟨w.heap.size + 2, 0, none⟩ = some (.int .i64 c1) := ((bcell hbk).1 _ _ (cell_lt a0)).trans a0
      have fa0n : W1.frozen? ⟨w.heap.size + 2, 0, none⟩ = false := ((bcell hbk).2 _ _ (cell_lt a0)).trans fa0
      have a1n : W1.cell? ⟨w.heap.size + 2, 1, none⟩ = some (.int .i64 c2) := ((bcell hbk).1 _ _ (cell_lt a1)).trans a1
      have fa1n : W1.frozen? ⟨w.heap.size + 2, 1, none⟩ = false := ((bcell hbk).2 _ _ (cell_lt a1)).trans fa1
      have a2n : W1.cell? ⟨w.heap.size + 2, 2, none⟩ = some (.bool c3) := ((bcell hbk).1 _ _ (cell_lt a2)).trans a2
      have fa2n : W1.frozen? ⟨w.heap.size + 2, 2, none⟩ = false := ((bcell hbk).2 _ _ (cell_lt a2)).trans fa2
      clear hbk
      have e0n : W1.cell? ⟨wr.heap.size, 0, none⟩ = some (.int .i64 d1) := by subst hW1; go_simp
      have e1n : W1.cell? ⟨wr.heap.size, 1, none⟩ = some (.int .i64 d2) := by subst hW1; go_simp
      have e2n : W1.cell? ⟨wr.heap.size, 2, none⟩ = some (.bool d3) := by subst hW1; go_simp
      clear hW1 s0 s1 s2 a0 a1 a2 fs0 fs1 fs2 fa0 fa1 fa2
      have s0 := s0n
      have fs0 := fs0n
      have s1 := s1n
      have fs1 := fs1n
      have s2 := s2n
      have fs2 := fs2n
      have a0 := a0n
      have fa0 := fa0n
      have a1 := a1n
      have fa1 := fa1n
      have a2 := a2n
      have fa2 := fa2n
      have e0 := e0n
      have e1 := e1n
      have e2 := e2n
      clear s0n s1n s2n a0n a1n a2n e0n e1n e2n fs0n fs1n fs2n fa0n fa1n fa2n
      clear y1 y2 y3
      go_wp2_with (go_at_fn g; refine (via (w0 := W1) (by go_grown) (HOP.out _)).mono ?_; rintro e W2 ⟨rfl, hc, hf, hz, hB⟩; have fs0n : W2.frozen? ⟨w.heap.size + 1, 0, none⟩ = false := (hf _ _ (cell_lt s0)).trans fs0; clear fs0; have fs0 := fs0n; clear fs0n; have s0n : W2.cell? ⟨w.heap.size + 1, 0, none⟩ = some (.int .i64 0) := (hc _ _ (cell_lt s0)).trans s0; clear s0; have s0 := s0n; clear s0n; have fs1n : W2.frozen? ⟨w.heap.size + 1, 1, none⟩ = false := (hf _ _ (cell_lt s1)).trans fs1; clear fs1; have fs1 := fs1n; clear fs1n; have s1n : W2.cell? ⟨w.heap.size + 1, 1, none⟩ = some (.int .i64 0) := (hc _ _ (cell_lt s1)).trans s1; clear s1; have s1 := s1n; clear s1n; have fs2n : W2.frozen? ⟨w.heap.size + 1, 2, none⟩ = false := (hf _ _ (cell_lt s2)).trans fs2; clear fs2; have fs2 := fs2n; clear fs2n; have s2n : W2.cell? ⟨w.heap.size + 1, 2, none⟩ = some (.bool false) := (hc _ _ (cell_lt s2)).trans s2; clear s2; have s2 := s2n; clear s2n; have fa0n : W2.frozen? ⟨w.heap.size + 2, 0, none⟩ = false := (hf _ _ (cell_lt a0)).trans fa0; clear fa0; have fa0 := fa0n; clear fa0n; have a0n : W2.cell? ⟨w.heap.size + 2, 0, none⟩ = some (.int .i64 c1) := (hc _ _ (cell_lt a0)).trans a0; clear a0; have a0 := a0n; clear a0n; have fa1n : W2.frozen? ⟨w.heap.size + 2, 1, none⟩ = false := (hf _ _ (cell_lt a1)).trans fa1; clear fa1; have fa1 := fa1n; clear fa1n; have a1n : W2.cell? ⟨w.heap.size + 2, 1, none⟩ = some (.int .i64 c2) := (hc _ _ (cell_lt a1)).trans a1; clear a1; have a1 := a1n; clear a1n; have fa2n : W2.frozen? ⟨w.heap.size + 2, 2, none⟩ = false := (hf _ _ (cell_lt a2)).trans fa2; clear fa2; have fa2 := fa2n; clear fa2n; have a2n : W2.cell? ⟨w.heap.size + 2, 2, none⟩ = some (.bool c3) := (hc _ _ (cell_lt a2)).trans a2; clear a2; have a2 := a2n; clear a2n; have hbn : Below w.heap.size w W2 := bthen hb0 hB; clear hb0; have hb0 := hbn; clear hbn hc hf hB hz e0 e1 e2)
      go_roundw
      case rel => 
        exact ⟨k + 1, ⟨r1, r2, r3⟩, by omega, by go_num, HST.out.symm, ⟨by have hbz := hb0.size; go_grown, by go_simp, by go_simp, by go_simp, by go_simp, by go_simp, by go_simp, by go_simp, by go_simp, by go_simp, by go_simp, by go_simp, by go_simp⟩⟩
      case measure => simp [intOf]; omega
    · obtain rfl : k = l.length := by omega
      rw [List.take_length] at HA
      go_wp2
      refine bodyPost_ret (v := Iv.v ⟨c1, c2, c3⟩) (by simp [results, Tryz.results40, go_sem, s0, s1, s2]) rfl ⟨by rw [← HA.out], by have hbz := hb0.size; go_grown⟩

theorem op_meet : Op2 41 meet := fun x y W => c_meet x y W
/-- What Both returns. -/
def bothV (a b : Iv) : Iv := if ivB a && ivB b then meet a b else Iv.none

set_option maxHeartbeats 4000000 in
theorem c_Both (a b : Iv) (w : World) : Calls Tryz.prog 18 #[a.v, b.v] w fun e w' => e = .returned (bothV a b).v ∧ Below w.heap.size w w' := by
  have ha := fun W => c_isInterval a W
  have hb := fun W => c_isInterval b W
  cases h1 : ivB a
  · have hx : bothV a b = ⟨0, 0, false⟩ := by simp [bothV, h1, Iv.none]
    rw [hx]
    rw [h1] at ha
    have HA := Lib.hid ha
    clear ha hb hx
    obtain ⟨a1, a2, a3⟩ := a
    obtain ⟨b1, b2, b3⟩ := b
    go_enter Tryz.func18, Tryz.ntmps18
    go_upto_region 1 with (fail)
    go_name_world W1 hW1
    have hbn : Below w.heap.size w W1 := by subst hW1; go_grown
    have hb0 := hbn
    clear hbn
    have p0n : W1.cell? ⟨w.heap.size, 0, none⟩ = some (.int .i64 a1) := by subst hW1; go_simp
    have p1n : W1.cell? ⟨w.heap.size, 1, none⟩ = some (.int .i64 a2) := by subst hW1; go_simp
    have p2n : W1.cell? ⟨w.heap.size, 2, none⟩ = some (.bool a3) := by subst hW1; go_simp
    have q0n : W1.cell? ⟨w.heap.size + 1, 0, none⟩ = some (.int .i64 b1) := by subst hW1; go_simp
    have q1n : W1.cell? ⟨w.heap.size + 1, 1, none⟩ = some (.int .i64 b2) := by subst hW1; go_simp
    have q2n : W1.cell? ⟨w.heap.size + 1, 2, none⟩ = some (.bool b3) := by subst hW1; go_simp
    have s0n : W1.cell? ⟨w.heap.size + 2, 0, none⟩ = some (.int .i64 0) := by subst hW1; go_simp
    have fs0n : W1.frozen? ⟨w.heap.size + 2, 0, none⟩ = false := by subst hW1; go_simp
    have s1n : W1.cell? ⟨w.heap.size + 2, 1, none⟩ = some (.int .i64 0) := by subst hW1; go_simp
    have fs1n : W1.frozen? ⟨w.heap.size + 2, 1, none⟩ = false := by subst hW1; go_simp
    have s2n : W1.cell? ⟨w.heap.size + 2, 2, none⟩ = some (.bool false) := by subst hW1; go_simp
    have fs2n : W1.frozen? ⟨w.heap.size + 2, 2, none⟩ = false := by subst hW1; go_simp
    clear hW1 
    have p0 := p0n
    have p1 := p1n
    have p2 := p2n
    have q0 := q0n
    have q1 := q1n
    have q2 := q2n
    have s0 := s0n
    have fs0 := fs0n
    have s1 := s1n
    have fs1 := fs1n
    have s2 := s2n
    have fs2 := fs2n
    clear p0n p1n p2n q0n q1n q2n s0n s1n s2n fs0n fs1n fs2n
    go_wp2_with fail
    refine (via (w0 := W1) (by go_grown) (HA.out _)).mono ?_
    rintro e W2 ⟨rfl, hc, hf, hz, hB⟩
    have p0n : W2.cell? ⟨w.heap.size, 0, none⟩ = some (.int .i64 a1) := (hc _ _ (cell_lt p0)).trans p0
    clear p0
    have p0 := p0n
    clear p0n
    have p1n : W2.cell? ⟨w.heap.size, 1, none⟩ = some (.int .i64 a2) := (hc _ _ (cell_lt p1)).trans p1
    clear p1
    have p1 := p1n
    clear p1n
    have p2n : W2.cell? ⟨w.heap.size, 2, none⟩ = some (.bool a3) := (hc _ _ (cell_lt p2)).trans p2
    clear p2
    have p2 := p2n
    clear p2n
    have q0n : W2.cell? ⟨w.heap.size + 1, 0, none⟩ = some (.int .i64 b1) := (hc _ _ (cell_lt q0)).trans q0
    clear q0
    have q0 := q0n
    clear q0n
    have q1n : W2.cell? ⟨w.heap.size + 1, 1, none⟩ = some (.int .i64 b2) := (hc _ _ (cell_lt q1)).trans q1
    clear q1
    have q1 := q1n
    clear q1n
    have q2n : W2.cell? ⟨w.heap.size + 1, 2, none⟩ = some (.bool b3) := (hc _ _ (cell_lt q2)).trans q2
    clear q2
    have q2 := q2n
    clear q2n
    have fs0n : W2.frozen? ⟨w.heap.size + 2, 0, none⟩ = false := (hf _ _ (cell_lt s0)).trans fs0
    clear fs0
    have fs0 := fs0n
    clear fs0n
    have s0n : W2.cell? ⟨w.heap.size + 2, 0, none⟩ = some (.int .i64 0) := (hc _ _ (cell_lt s0)).trans s0
    clear s0
    have s0 := s0n
    clear s0n
    have fs1n : W2.frozen? ⟨w.heap.size + 2, 1, none⟩ = false := (hf _ _ (cell_lt s1)).trans fs1
    clear fs1
    have fs1 := fs1n
    clear fs1n
    have s1n : W2.cell? ⟨w.heap.size + 2, 1, none⟩ = some (.int .i64 0) := (hc _ _ (cell_lt s1)).trans s1
    clear s1
    have s1 := s1n
    clear s1n
    have fs2n : W2.frozen? ⟨w.heap.size + 2, 2, none⟩ = false := (hf _ _ (cell_lt s2)).trans fs2
    clear fs2
    have fs2 := fs2n
    clear fs2n
    have s2n : W2.cell? ⟨w.heap.size + 2, 2, none⟩ = some (.bool false) := (hc _ _ (cell_lt s2)).trans s2
    clear s2
    have s2 := s2n
    clear s2n
    have hbn : Below w.heap.size w W2 := bthen hb0 hB
    clear hb0
    have hb0 := hbn
    clear hbn
    have hzW2 : W1.heap.size ≤ W2.heap.size := hz
    clear hc hf hB hz
    go_wp2_with fail
    refine bodyPost_ret (v := Iv.v ⟨0, 0, false⟩) (by simp [results, Tryz.results18, go_sem, s0, s1, s2]) rfl ⟨rfl, by have hbz := hb0.size; go_grown⟩
  cases h2 : ivB b
  · have hx : bothV a b = ⟨0, 0, false⟩ := by simp [bothV, h2, Iv.none]
    rw [hx]
    rw [h1] at ha
    rw [h2] at hb
    have HA := Lib.hid ha
    have HB := Lib.hid hb
    clear ha hb hx
    obtain ⟨a1, a2, a3⟩ := a
    obtain ⟨b1, b2, b3⟩ := b
    go_enter Tryz.func18, Tryz.ntmps18
    go_upto_region 1 with (fail)
    go_name_world W1 hW1
    have hbn : Below w.heap.size w W1 := by subst hW1; go_grown
    have hb0 := hbn
    clear hbn
    have p0n : W1.cell? ⟨w.heap.size, 0, none⟩ = some (.int .i64 a1) := by subst hW1; go_simp
    have p1n : W1.cell? ⟨w.heap.size, 1, none⟩ = some (.int .i64 a2) := by subst hW1; go_simp
    have p2n : W1.cell? ⟨w.heap.size, 2, none⟩ = some (.bool a3) := by subst hW1; go_simp
    have q0n : W1.cell? ⟨w.heap.size + 1, 0, none⟩ = some (.int .i64 b1) := by subst hW1; go_simp
    have q1n : W1.cell? ⟨w.heap.size + 1, 1, none⟩ = some (.int .i64 b2) := by subst hW1; go_simp
    have q2n : W1.cell? ⟨w.heap.size + 1, 2, none⟩ = some (.bool b3) := by subst hW1; go_simp
    have s0n : W1.cell? ⟨w.heap.size + 2, 0, none⟩ = some (.int .i64 0) := by subst hW1; go_simp
    have fs0n : W1.frozen? ⟨w.heap.size + 2, 0, none⟩ = false := by subst hW1; go_simp
    have s1n : W1.cell? ⟨w.heap.size + 2, 1, none⟩ = some (.int .i64 0) := by subst hW1; go_simp
    have fs1n : W1.frozen? ⟨w.heap.size + 2, 1, none⟩ = false := by subst hW1; go_simp
    have s2n : W1.cell? ⟨w.heap.size + 2, 2, none⟩ = some (.bool false) := by subst hW1; go_simp
    have fs2n : W1.frozen? ⟨w.heap.size + 2, 2, none⟩ = false := by subst hW1; go_simp
    clear hW1 
    have p0 := p0n
    have p1 := p1n
    have p2 := p2n
    have q0 := q0n
    have q1 := q1n
    have q2 := q2n
    have s0 := s0n
    have fs0 := fs0n
    have s1 := s1n
    have fs1 := fs1n
    have s2 := s2n
    have fs2 := fs2n
    clear p0n p1n p2n q0n q1n q2n s0n s1n s2n fs0n fs1n fs2n
    go_wp2_with fail
    refine (via (w0 := W1) (by go_grown) (HA.out _)).mono ?_
    rintro e W2 ⟨rfl, hc, hf, hz, hB⟩
    have p0n : W2.cell? ⟨w.heap.size, 0, none⟩ = some (.int .i64 a1) := (hc _ _ (cell_lt p0)).trans p0
    clear p0
    have p0 := p0n
    clear p0n
    have p1n : W2.cell? ⟨w.heap.size, 1, none⟩ = some (.int .i64 a2) := (hc _ _ (cell_lt p1)).trans p1
    clear p1
    have p1 := p1n
    clear p1n
    have p2n : W2.cell? ⟨w.heap.size, 2, none⟩ = some (.bool a3) := (hc _ _ (cell_lt p2)).trans p2
    clear p2
    have p2 := p2n
    clear p2n
    have q0n : W2.cell? ⟨w.heap.size + 1, 0, none⟩ = some (.int .i64 b1) := (hc _ _ (cell_lt q0)).trans q0
    clear q0
    have q0 := q0n
    clear q0n
    have q1n : W2.cell? ⟨w.heap.size + 1, 1, none⟩ = some (.int .i64 b2) := (hc _ _ (cell_lt q1)).trans q1
    clear q1
    have q1 := q1n
    clear q1n
    have q2n : W2.cell? ⟨w.heap.size + 1, 2, none⟩ = some (.bool b3) := (hc _ _ (cell_lt q2)).trans q2
    clear q2
    have q2 := q2n
    clear q2n
    have fs0n : W2.frozen? ⟨w.heap.size + 2, 0, none⟩ = false := (hf _ _ (cell_lt s0)).trans fs0
    clear fs0
    have fs0 := fs0n
    clear fs0n
    have s0n : W2.cell? ⟨w.heap.size + 2, 0, none⟩ = some (.int .i64 0) := (hc _ _ (cell_lt s0)).trans s0
    clear s0
    have s0 := s0n
    clear s0n
    have fs1n : W2.frozen? ⟨w.heap.size + 2, 1, none⟩ = false := (hf _ _ (cell_lt s1)).trans fs1
    clear fs1
    have fs1 := fs1n
    clear fs1n
    have s1n : W2.cell? ⟨w.heap.size + 2, 1, none⟩ = some (.int .i64 0) := (hc _ _ (cell_lt s1)).trans s1
    clear s1
    have s1 := s1n
    clear s1n
    have fs2n : W2.frozen? ⟨w.heap.size + 2, 2, none⟩ = false := (hf _ _ (cell_lt s2)).trans fs2
    clear fs2
    have fs2 := fs2n
    clear fs2n
    have s2n : W2.cell? ⟨w.heap.size + 2, 2, none⟩ = some (.bool false) := (hc _ _ (cell_lt s2)).trans s2
    clear s2
    have s2 := s2n
    clear s2n
    have hbn : Below w.heap.size w W2 := bthen hb0 hB
    clear hb0
    have hb0 := hbn
    clear hbn
    have hzW2 : W1.heap.size ≤ W2.heap.size := hz
    clear hc hf hB hz
    go_wp2_with fail
    refine (via (w0 := W2) (by go_grown) (HB.out _)).mono ?_
    rintro e W3 ⟨rfl, hc, hf, hz, hB⟩
    have p0n : W3.cell? ⟨w.heap.size, 0, none⟩ = some (.int .i64 a1) := (hc _ _ (cell_lt p0)).trans p0
    clear p0
    have p0 := p0n
    clear p0n
    have p1n : W3.cell? ⟨w.heap.size, 1, none⟩ = some (.int .i64 a2) := (hc _ _ (cell_lt p1)).trans p1
    clear p1
    have p1 := p1n
    clear p1n
    have p2n : W3.cell? ⟨w.heap.size, 2, none⟩ = some (.bool a3) := (hc _ _ (cell_lt p2)).trans p2
    clear p2
    have p2 := p2n
    clear p2n
    have q0n : W3.cell? ⟨w.heap.size + 1, 0, none⟩ = some (.int .i64 b1) := (hc _ _ (cell_lt q0)).trans q0
    clear q0
    have q0 := q0n
    clear q0n
    have q1n : W3.cell? ⟨w.heap.size + 1, 1, none⟩ = some (.int .i64 b2) := (hc _ _ (cell_lt q1)).trans q1
    clear q1
    have q1 := q1n
    clear q1n
    have q2n : W3.cell? ⟨w.heap.size + 1, 2, none⟩ = some (.bool b3) := (hc _ _ (cell_lt q2)).trans q2
    clear q2
    have q2 := q2n
    clear q2n
    have fs0n : W3.frozen? ⟨w.heap.size + 2, 0, none⟩ = false := (hf _ _ (cell_lt s0)).trans fs0
    clear fs0
    have fs0 := fs0n
    clear fs0n
    have s0n : W3.cell? ⟨w.heap.size + 2, 0, none⟩ = some (.int .i64 0) := (hc _ _ (cell_lt s0)).trans s0
    clear s0
    have s0 := s0n
    clear s0n
    have fs1n : W3.frozen? ⟨w.heap.size + 2, 1, none⟩ = false := (hf _ _ (cell_lt s1)).trans fs1
    clear fs1
    have fs1 := fs1n
    clear fs1n
    have s1n : W3.cell? ⟨w.heap.size + 2, 1, none⟩ = some (.int .i64 0) := (hc _ _ (cell_lt s1)).trans s1
    clear s1
    have s1 := s1n
    clear s1n
    have fs2n : W3.frozen? ⟨w.heap.size + 2, 2, none⟩ = false := (hf _ _ (cell_lt s2)).trans fs2
    clear fs2
    have fs2 := fs2n
    clear fs2n
    have s2n : W3.cell? ⟨w.heap.size + 2, 2, none⟩ = some (.bool false) := (hc _ _ (cell_lt s2)).trans s2
    clear s2
    have s2 := s2n
    clear s2n
    have hbn : Below w.heap.size w W3 := bthen hb0 hB
    clear hb0
    have hb0 := hbn
    clear hbn
    have hzW3 : W2.heap.size ≤ W3.heap.size := hz
    clear hc hf hB hz
    go_wp2_with fail
    refine bodyPost_ret (v := Iv.v ⟨0, 0, false⟩) (by simp [results, Tryz.results18, go_sem, s0, s1, s2]) rfl ⟨rfl, by have hbz := hb0.size; go_grown⟩
  have hx : bothV a b = meet a b := by simp [bothV, h1, h2]
  rw [hx]
  rw [h1] at ha
  rw [h2] at hb
  have HA := Lib.hid ha
  have HB := Lib.hid hb
  have hj := fun bl cap W hl => c_joined 41 (enters_of Tryz.func41 (by kernel_rfl) rfl) meet op_meet a [b] (some ⟨bl, 0, none⟩) cap W hl
  rw [show [b].foldl meet a = meet a b from rfl] at hj
  have hi : ∀ (W : World) (bl : Nat), W.cell? ⟨bl, 0, none⟩ = some (.int .i64 b.lo) → W.cell? ⟨bl, 1, none⟩ = some (.int .i64 b.hi) → W.cell? ⟨bl, 2, none⟩ = some (.bool b.some) → Ivs W (some ⟨bl, 0, none⟩) [b] := by
    intro W bl h1 h2 h3
    refine ⟨by simp, fun _ => ⟨bl, 0, rfl, fun k hk => ?_⟩⟩
    obtain rfl : k = 0 := by simp at hk; omega
    exact ⟨by simpa [iv] using h1, by simpa [iv] using h2, by simpa [iv] using h3⟩
  generalize meet a b = r at hj ⊢
  obtain ⟨r1, r2, r3⟩ := r
  have HJ := Lib.hid hj
  have HI := Lib.hid hi
  clear ha hb hx hj hi
  obtain ⟨a1, a2, a3⟩ := a
  obtain ⟨b1, b2, b3⟩ := b
  go_enter Tryz.func18, Tryz.ntmps18
  go_upto_region 1 with (fail)
  go_name_world W1 hW1
  have hbn : Below w.heap.size w W1 := by subst hW1; go_grown
  have hb0 := hbn
  clear hbn
  have p0n : W1.cell? ⟨w.heap.size, 0, none⟩ = some (.int .i64 a1) := by subst hW1; go_simp
  have p1n : W1.cell? ⟨w.heap.size, 1, none⟩ = some (.int .i64 a2) := by subst hW1; go_simp
  have p2n : W1.cell? ⟨w.heap.size, 2, none⟩ = some (.bool a3) := by subst hW1; go_simp
  have q0n : W1.cell? ⟨w.heap.size + 1, 0, none⟩ = some (.int .i64 b1) := by subst hW1; go_simp
  have q1n : W1.cell? ⟨w.heap.size + 1, 1, none⟩ = some (.int .i64 b2) := by subst hW1; go_simp
  have q2n : W1.cell? ⟨w.heap.size + 1, 2, none⟩ = some (.bool b3) := by subst hW1; go_simp
  have s0n : W1.cell? ⟨w.heap.size + 2, 0, none⟩ = some (.int .i64 0) := by subst hW1; go_simp
  have fs0n : W1.frozen? ⟨w.heap.size + 2, 0, none⟩ = false := by subst hW1; go_simp
  have s1n : W1.cell? ⟨w.heap.size + 2, 1, none⟩ = some (.int .i64 0) := by subst hW1; go_simp
  have fs1n : W1.frozen? ⟨w.heap.size + 2, 1, none⟩ = false := by subst hW1; go_simp
  have s2n : W1.cell? ⟨w.heap.size + 2, 2, none⟩ = some (.bool false) := by subst hW1; go_simp
  have fs2n : W1.frozen? ⟨w.heap.size + 2, 2, none⟩ = false := by subst hW1; go_simp
  clear hW1 
  have p0 := p0n
  have p1 := p1n
  have p2 := p2n
  have q0 := q0n
  have q1 := q1n
  have q2 := q2n
  have s0 := s0n
  have fs0 := fs0n
  have s1 := s1n
  have fs1 := fs1n
  have s2 := s2n
  have fs2 := fs2n
  clear p0n p1n p2n q0n q1n q2n s0n s1n s2n fs0n fs1n fs2n
  go_wp2_with fail
  refine (via (w0 := W1) (by go_grown) (HA.out _)).mono ?_
  rintro e W2 ⟨rfl, hc, hf, hz, hB⟩
  have p0n : W2.cell? ⟨w.heap.size, 0, none⟩ = some (.int .i64 a1) := (hc _ _ (cell_lt p0)).trans p0
  clear p0
  have p0 := p0n
  clear p0n
  have p1n : W2.cell? ⟨w.heap.size, 1, none⟩ = some (.int .i64 a2) := (hc _ _ (cell_lt p1)).trans p1
  clear p1
  have p1 := p1n
  clear p1n
  have p2n : W2.cell? ⟨w.heap.size, 2, none⟩ = some (.bool a3) := (hc _ _ (cell_lt p2)).trans p2
  clear p2
  have p2 := p2n
  clear p2n
  have q0n : W2.cell? ⟨w.heap.size + 1, 0, none⟩ = some (.int .i64 b1) := (hc _ _ (cell_lt q0)).trans q0
  clear q0
  have q0 := q0n
  clear q0n
  have q1n : W2.cell? ⟨w.heap.size + 1, 1, none⟩ = some (.int .i64 b2) := (hc _ _ (cell_lt q1)).trans q1
  clear q1
  have q1 := q1n
  clear q1n
  have q2n : W2.cell? ⟨w.heap.size + 1, 2, none⟩ = some (.bool b3) := (hc _ _ (cell_lt q2)).trans q2
  clear q2
  have q2 := q2n
  clear q2n
  have fs0n : W2.frozen? ⟨w.heap.size + 2, 0, none⟩ = false := (hf _ _ (cell_lt s0)).trans fs0
  clear fs0
  have fs0 := fs0n
  clear fs0n
  have s0n : W2.cell? ⟨w.heap.size + 2, 0, none⟩ = some (.int .i64 0) := (hc _ _ (cell_lt s0)).trans s0
  clear s0
  have s0 := s0n
  clear s0n
  have fs1n : W2.frozen? ⟨w.heap.size + 2, 1, none⟩ = false := (hf _ _ (cell_lt s1)).trans fs1
  clear fs1
  have fs1 := fs1n
  clear fs1n
  have s1n : W2.cell? ⟨w.heap.size + 2, 1, none⟩ = some (.int .i64 0) := (hc _ _ (cell_lt s1)).trans s1
  clear s1
  have s1 := s1n
  clear s1n
  have fs2n : W2.frozen? ⟨w.heap.size + 2, 2, none⟩ = false := (hf _ _ (cell_lt s2)).trans fs2
  clear fs2
  have fs2 := fs2n
  clear fs2n
  have s2n : W2.cell? ⟨w.heap.size + 2, 2, none⟩ = some (.bool false) := (hc _ _ (cell_lt s2)).trans s2
  clear s2
  have s2 := s2n
  clear s2n
  have hbn : Below w.heap.size w W2 := bthen hb0 hB
  clear hb0
  have hb0 := hbn
  clear hbn
  have hzW2 : W1.heap.size ≤ W2.heap.size := hz
  clear hc hf hB hz
  go_wp2_with fail
  refine (via (w0 := W2) (by go_grown) (HB.out _)).mono ?_
  rintro e W3 ⟨rfl, hc, hf, hz, hB⟩
  have p0n : W3.cell? ⟨w.heap.size, 0, none⟩ = some (.int .i64 a1) := (hc _ _ (cell_lt p0)).trans p0
  clear p0
  have p0 := p0n
  clear p0n
  have p1n : W3.cell? ⟨w.heap.size, 1, none⟩ = some (.int .i64 a2) := (hc _ _ (cell_lt p1)).trans p1
  clear p1
  have p1 := p1n
  clear p1n
  have p2n : W3.cell? ⟨w.heap.size, 2, none⟩ = some (.bool a3) := (hc _ _ (cell_lt p2)).trans p2
  clear p2
  have p2 := p2n
  clear p2n
  have q0n : W3.cell? ⟨w.heap.size + 1, 0, none⟩ = some (.int .i64 b1) := (hc _ _ (cell_lt q0)).trans q0
  clear q0
  have q0 := q0n
  clear q0n
  have q1n : W3.cell? ⟨w.heap.size + 1, 1, none⟩ = some (.int .i64 b2) := (hc _ _ (cell_lt q1)).trans q1
  clear q1
  have q1 := q1n
  clear q1n
  have q2n : W3.cell? ⟨w.heap.size + 1, 2, none⟩ = some (.bool b3) := (hc _ _ (cell_lt q2)).trans q2
  clear q2
  have q2 := q2n
  clear q2n
  have fs0n : W3.frozen? ⟨w.heap.size + 2, 0, none⟩ = false := (hf _ _ (cell_lt s0)).trans fs0
  clear fs0
  have fs0 := fs0n
  clear fs0n
  have s0n : W3.cell? ⟨w.heap.size + 2, 0, none⟩ = some (.int .i64 0) := (hc _ _ (cell_lt s0)).trans s0
  clear s0
  have s0 := s0n
  clear s0n
  have fs1n : W3.frozen? ⟨w.heap.size + 2, 1, none⟩ = false := (hf _ _ (cell_lt s1)).trans fs1
  clear fs1
  have fs1 := fs1n
  clear fs1n
  have s1n : W3.cell? ⟨w.heap.size + 2, 1, none⟩ = some (.int .i64 0) := (hc _ _ (cell_lt s1)).trans s1
  clear s1
  have s1 := s1n
  clear s1n
  have fs2n : W3.frozen? ⟨w.heap.size + 2, 2, none⟩ = false := (hf _ _ (cell_lt s2)).trans fs2
  clear fs2
  have fs2 := fs2n
  clear fs2n
  have s2n : W3.cell? ⟨w.heap.size + 2, 2, none⟩ = some (.bool false) := (hc _ _ (cell_lt s2)).trans s2
  clear s2
  have s2 := s2n
  clear s2n
  have hbn : Below w.heap.size w W3 := bthen hb0 hB
  clear hb0
  have hb0 := hbn
  clear hbn
  have hzW3 : W2.heap.size ≤ W3.heap.size := hz
  clear hc hf hB hz
  go_upto_region 3 with (fail)
  go_wp2_with fail
  refine (via (w0 := W3) (by go_grown) (HJ.out _ _ _ (HI.out _ _ (by go_simp) (by go_simp) (by go_simp)))).mono ?_
  rintro e W4 ⟨rfl, hc, hf, hz, hB⟩
  have p0n : W4.cell? ⟨w.heap.size, 0, none⟩ = some (.int .i64 a1) := (hc _ _ (cell_lt p0)).trans p0
  clear p0
  have p0 := p0n
  clear p0n
  have p1n : W4.cell? ⟨w.heap.size, 1, none⟩ = some (.int .i64 a2) := (hc _ _ (cell_lt p1)).trans p1
  clear p1
  have p1 := p1n
  clear p1n
  have p2n : W4.cell? ⟨w.heap.size, 2, none⟩ = some (.bool a3) := (hc _ _ (cell_lt p2)).trans p2
  clear p2
  have p2 := p2n
  clear p2n
  have q0n : W4.cell? ⟨w.heap.size + 1, 0, none⟩ = some (.int .i64 b1) := (hc _ _ (cell_lt q0)).trans q0
  clear q0
  have q0 := q0n
  clear q0n
  have q1n : W4.cell? ⟨w.heap.size + 1, 1, none⟩ = some (.int .i64 b2) := (hc _ _ (cell_lt q1)).trans q1
  clear q1
  have q1 := q1n
  clear q1n
  have q2n : W4.cell? ⟨w.heap.size + 1, 2, none⟩ = some (.bool b3) := (hc _ _ (cell_lt q2)).trans q2
  clear q2
  have q2 := q2n
  clear q2n
  have fs0n : W4.frozen? ⟨w.heap.size + 2, 0, none⟩ = false := (hf _ _ (cell_lt s0)).trans fs0
  clear fs0
  have fs0 := fs0n
  clear fs0n
  have s0n : W4.cell? ⟨w.heap.size + 2, 0, none⟩ = some (.int .i64 0) := (hc _ _ (cell_lt s0)).trans s0
  clear s0
  have s0 := s0n
  clear s0n
  have fs1n : W4.frozen? ⟨w.heap.size + 2, 1, none⟩ = false := (hf _ _ (cell_lt s1)).trans fs1
  clear fs1
  have fs1 := fs1n
  clear fs1n
  have s1n : W4.cell? ⟨w.heap.size + 2, 1, none⟩ = some (.int .i64 0) := (hc _ _ (cell_lt s1)).trans s1
  clear s1
  have s1 := s1n
  clear s1n
  have fs2n : W4.frozen? ⟨w.heap.size + 2, 2, none⟩ = false := (hf _ _ (cell_lt s2)).trans fs2
  clear fs2
  have fs2 := fs2n
  clear fs2n
  have s2n : W4.cell? ⟨w.heap.size + 2, 2, none⟩ = some (.bool false) := (hc _ _ (cell_lt s2)).trans s2
  clear s2
  have s2 := s2n
  clear s2n
  have hbn : Below w.heap.size w W4 := bthen hb0 hB
  clear hb0
  have hb0 := hbn
  clear hbn
  have hzW4 : W3.heap.size ≤ W4.heap.size := hz
  clear hc hf hB hz
  go_wp2_with fail
  refine bodyPost_ret (v := Iv.v ⟨r1, r2, r3⟩) (by simp [results, Tryz.results18, go_sem, s0, s1, s2]) rfl ⟨rfl, by have hbz := hb0.size; go_grown⟩
end Go.Proofs.YthdenmbfeanioaaGreatDoor
