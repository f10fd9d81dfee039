/- This text proves what Sum of package tally returns, for every list of intervals. -/
import Derived.Test.YtokpjaodchcheaaPlus
namespace Go.Proofs.Ytokpjaodchcheaa
open Go.RowKit Go.Shelf
attribute [local go_sem] Oper.semAt_some

def idxV (p : Iv → Bool) : List Iv → Nat → Int
  | [], _ => -1
  | x :: xs, k => if p x then (k : Int) else idxV p xs (k + 1)
theorem idxV_step (p : Iv → Bool) (xs : List Iv) (k : Nat) (h : k < xs.length) : idxV p (xs.drop k) k = if p (iv xs k) then (k : Int) else idxV p (xs.drop (k+1)) (k+1) := by
  rw [List.drop_eq_getElem_cons h, idxV]
  have : iv xs k = xs[k] := by simp [iv, h]
  rw [this]
theorem idxV_any (p : Iv → Bool) (xs : List Iv) : ∀ k : Nat, decide (0 ≤ idxV p xs k) = xs.any p := by
  induction xs with
  | nil => intro k; simp [idxV]
  | cons x xs ih =>
    intro k
    rw [idxV, List.any_cons]
    cases p x with
    | true => simp
    | false => simpa using ih (k + 1)

theorem c_Sum2 (x : Iv) (w : World) : Calls Try.prog 89 #[x.v] w fun e w' => e = .returned (.bool (!ivB x)) ∧ Below w.heap.size w w' := by
  have hi := fun W => c_isInterval x W
  generalize ivB x = b at hi ⊢
  have HI := Lib.hid hi
  clear hi
  obtain ⟨x1, x2, x3⟩ := x
  go_enter Try.func89, Try.ntmps89
  go_upto_region 1 with (fail)
  go_name_world W1 hW1
  have hbn : Below w.heap.size w W1 := by subst hW1; go_grown
  have hb0 := hbn
  clear hbn
  have p0n : W1.cell? ⟨w.heap.size, 0, none⟩ = some (.int .i64 x1) := by subst hW1; go_simp
  have p1n : W1.cell? ⟨w.heap.size, 1, none⟩ = some (.int .i64 x2) := by subst hW1; go_simp
  have p2n : W1.cell? ⟨w.heap.size, 2, none⟩ = some (.bool x3) := by subst hW1; go_simp
  clear hW1 
  have p0 := p0n
  have p1 := p1n
  have p2 := p2n
  clear p0n p1n p2n 
  go_wp2_with fail
  refine (via (w0 := W1) (by go_grown) (HI.out _)).mono ?_
  rintro e W2 ⟨rfl, hc, hf, hz, hB⟩
  have p0n : W2.cell? ⟨w.heap.size, 0, none⟩ = some (.int .i64 x1) := (hc _ _ (cell_lt p0)).trans p0
  clear p0
  have p0 := p0n
  clear p0n
  have p1n : W2.cell? ⟨w.heap.size, 1, none⟩ = some (.int .i64 x2) := (hc _ _ (cell_lt p1)).trans p1
  clear p1
  have p1 := p1n
  clear p1n
  have p2n : W2.cell? ⟨w.heap.size, 2, none⟩ = some (.bool x3) := (hc _ _ (cell_lt p2)).trans p2
  clear p2
  have p2 := p2n
  clear p2n
  have hbn : Below w.heap.size w W2 := bthen hb0 hB
  clear hb0
  have hb0 := hbn
  clear hbn
  have hzW2 : W1.heap.size ≤ W2.heap.size := hz
  clear hc hf hB hz
  go_wp2_with fail
  go_ret
  exact ⟨rfl, by have hbz := hb0.size; go_grown⟩

/-- A function value of type func(api.Interval) bool that answers p. -/
def PredV (g : FuncId) (p : Iv → Bool) : Prop := ∀ (W : World) (x : Iv), Calls Try.prog g #[x.v] W fun e w' => e = .returned (.bool (p x)) ∧ Below W.heap.size W w'
set_option maxHeartbeats 1000000 in
theorem c_indexV (g : FuncId) (eg : Ent g) (p : Iv → Bool) (xs : List Iv) (a : Option Addr) (cap : Nat) (w : World) (hp : PredV g p) (hl : Ivs w a xs) :
    Calls Try.prog 108 #[.slice a xs.length cap, .func (.func g) #[] #[]] w fun e w' => e = .returned (.int .i64 (idxV p xs 0)) ∧ Below w.heap.size w w' := by
  have hlen := hl.1
  have HL := Lib.hid hl
  have HP := Lib.hid hp
  clear hl hp
  go_enter Try.func108, Try.ntmps108
  go_wp2
  go_loopw [8] (fun v8 wr => ∃ k : Nat, k ≤ xs.length ∧ v8 = .int .i64 k ∧ idxV p xs 0 = idxV p (xs.drop k) k ∧ Below w.heap.size w wr) (fun v8 _ => xs.length - (intOf v8).toNat)
  case atStart => exact ⟨0, by omega, rfl, rfl, Below.refl _ _⟩
  case round =>
    obtain ⟨k, hk, rfl, hi, hb⟩ := hrel
    have HI := Lib.hid hi
    clear hi
    by_cases hlt : k < xs.length
    · obtain ⟨b, o, rfl, hat⟩ := (HL.out.later hb).2 (by intro e; rw [e] at hlt; simp at hlt)
      obtain ⟨y1, y2, y3⟩ := hat k hlt
      clear hat
      have hst := idxV_step p xs k hlt
      have hcall := HP.out wr (iv xs k)
      generalize iv xs k = y at *
      have HS := Lib.hid hst
      have hi1 : ¬ (k : Int) < 0 := by omega
      have hi2 : (k : Int) < (xs.length : Int) := by omega
      cases hq : p y with
      | true =>
        rw [hq] at hcall
        have HQ := Lib.hid hq
        have HC := Lib.hid hcall
        clear hq hcall hst
        go_wp2_with (go_at_fn g; refine HC.out.mono ?_; rintro e w' ⟨rfl, hb'⟩)
        go_ret
        exact ⟨by rw [HI.out, HS.out, HQ.out]; rfl, bthen hb hb'⟩
      | false =>
        rw [hq] at hcall
        have HQ := Lib.hid hq
        have HC := Lib.hid hcall
        clear hq hcall hst
        go_wp2_with (go_at_fn g; refine HC.out.mono ?_; rintro e w' ⟨rfl, hb'⟩)
        go_roundw
        case rel => exact ⟨k + 1, by omega, by go_num, by rw [HI.out, HS.out, HQ.out]; rfl, bthen hb hb'⟩
        case measure => simp [intOf]; omega
    · obtain rfl : k = xs.length := by omega
      go_wp2
      go_ret
      exact ⟨by rw [HI.out]; simp [idxV], hb⟩
theorem c_containsFuncV (g : FuncId) (eg : Ent g) (p : Iv → Bool) (xs : List Iv) (a : Option Addr) (cap : Nat) (w : World) (hp : PredV g p) (hl : Ivs w a xs) :
    Calls Try.prog 88 #[.slice a xs.length cap, .func (.func g) #[] #[]] w fun e w' => e = .returned (.bool (xs.any p)) ∧ Below w.heap.size w w' := by
  rw [← idxV_any p xs 0]
  have hc := c_indexV g eg p xs a cap w hp hl
  have HC := Lib.hid hc
  clear hc hl hp
  go_enter Try.func88, Try.ntmps88
  go_wp2_with (go_at_call 108; refine HC.out.mono ?_; rintro e w' ⟨rfl, hb'⟩)
  go_ret
  exact ⟨rfl, hb'⟩

def noneB (x : Iv) : Bool := !x.some
set_option maxHeartbeats 2000000 in
theorem c_indexNone (xs : List Iv) (a : Option Addr) (cap : Nat) (w : World) (hl : Ivs w a xs) (hv : ∀ x ∈ xs, ivB x = true) :
    Calls Try.prog 109 #[.slice a xs.length cap, .agg #[.int .i64 0, .int .i64 0, .bool false]] w fun e w' => e = .returned (.int .i64 (idxV noneB xs 0)) ∧ Below w.heap.size w w' := by
  have hlen := hl.1
  have HL := Lib.hid hl
  have HV := Lib.hid hv
  clear hl hv
  go_enter Try.func109, Try.ntmps109
  go_upto_region 1 with (fail)
  go_name_world W1 hW1
  have hbn : Below w.heap.size w W1 := by subst hW1; go_grown
  have hb0 := hbn
  clear hbn
  have z0n : W1.cell? ⟨w.heap.size, 0, none⟩ = some (.int .i64 0) := by subst hW1; go_simp
  have z1n : W1.cell? ⟨w.heap.size, 1, none⟩ = some (.int .i64 0) := by subst hW1; go_simp
  have z2n : W1.cell? ⟨w.heap.size, 2, none⟩ = some (.bool false) := by subst hW1; go_simp
  clear hW1 
  have z0 := z0n
  have z1 := z1n
  have z2 := z2n
  clear z0n z1n z2n 
  go_wp2
  go_loopw [8] (fun v8 wr => ∃ k : Nat, k ≤ xs.length ∧ v8 = .int .i64 k ∧ idxV noneB xs 0 = idxV noneB (xs.drop k) k ∧ Below W1.heap.size W1 wr) (fun v8 _ => xs.length - (intOf v8).toNat)
  case atStart => exact ⟨0, by omega, rfl, rfl, Below.refl _ _⟩
  case round =>
    obtain ⟨k, hk, rfl, hi, hb⟩ := hrel
    have HI := Lib.hid hi
    have hbw := bthen hb0 hb
    have HBW := Lib.hid hbw
    clear hi hb0
    by_cases hlt : k < xs.length
    · obtain ⟨b, o, rfl, hat⟩ := (HL.out.later hbw).2 (by intro e; rw [e] at hlt; simp at hlt)
      obtain ⟨y1, y2, y3⟩ := hat k hlt
      have u0 := ((bcell hb).1 _ _ (cell_lt z0)).trans z0
      have u1 := ((bcell hb).1 _ _ (cell_lt z1)).trans z1
      have u2 := ((bcell hb).1 _ _ (cell_lt z2)).trans z2
      have HB := Lib.hid hb
      have hst := idxV_step noneB xs k hlt
      have hvx := HV.out _ (iv_mem hlt)
      clear hat z0 z1 z2 hbw hb
      have hi1 : ¬ (k : Int) < 0 := by omega
      have hi2 : (k : Int) < (xs.length : Int) := by omega
      have hb0 : Below wr.heap.size wr wr := Below.refl _ _
      cases hs : (iv xs k).some
      · have hn := ivB_none hvx hs
        have hq : noneB (iv xs k) = true := by simp [noneB, hs]
        rw [hq] at hst
        have HS := Lib.hid hst
        rw [hn] at y1 y2 y3
        clear hst hvx hs hn hq
        simp only [Iv.none] at y1 y2 y3
        go_wp2_with fail
        have ku0 := later_cell u0
        have ku1 := later_cell u1
        have ku2 := later_cell u2
        have ky1 := later_cell y1
        have ky2 := later_cell y2
        have ky3 := later_cell y3
        refine wp_region_later wr (by kernel_rfl) (by kernel_rfl) (Below.refl _ _) ?_
        repeat (go_big_quiet_step (fail))
        refine wpQuiet_nil ?_
        rintro ⟨W6, hB⟩
        dsimp only
        have hc := (bcell hB).1
        have hf := (bcell hB).2
        have hz := hB.size
        clear ku0 ku1 ku2 ky1 ky2 ky3
        have u0n : W6.cell? ⟨w.heap.size, 0, none⟩ = some (.int .i64 0) := (hc _ _ (cell_lt u0)).trans u0
        clear u0
        have u0 := u0n
        clear u0n
        have u1n : W6.cell? ⟨w.heap.size, 1, none⟩ = some (.int .i64 0) := (hc _ _ (cell_lt u1)).trans u1
        clear u1
        have u1 := u1n
        clear u1n
        have u2n : W6.cell? ⟨w.heap.size, 2, none⟩ = some (.bool false) := (hc _ _ (cell_lt u2)).trans u2
        clear u2
        have u2 := u2n
        clear u2n
        have y1n : W6.cell? ⟨b, o + k * 3, none⟩ = some (.int .i64 0) := (hc _ _ (cell_lt y1)).trans y1
        clear y1
        have y1 := y1n
        clear y1n
        have y2n : W6.cell? ⟨b, o + k * 3 + 1, none⟩ = some (.int .i64 0) := (hc _ _ (cell_lt y2)).trans y2
        clear y2
        have y2 := y2n
        clear y2n
        have y3n : W6.cell? ⟨b, o + k * 3 + 2, none⟩ = some (.bool false) := (hc _ _ (cell_lt y3)).trans y3
        clear y3
        have y3 := y3n
        clear y3n
        have hbn : Below wr.heap.size wr W6 := bthen hb0 hB
        clear hb0
        have hb0 := hbn
        clear hbn
        have hzW6 : wr.heap.size ≤ W6.heap.size := hz
        clear hc hf hB hz
        go_wp2
        go_ret
        exact ⟨by rw [HI.out, HS.out]; rfl, bthen HBW.out hb0⟩
      · have hq : noneB (iv xs k) = false := by simp [noneB, hs]
        rw [hq] at hst
        have HS := Lib.hid hst
        rw [hs] at y3
        clear hst hvx hs hq
        obtain ⟨lo, hlo⟩ : ∃ z, (iv xs k).lo = z := ⟨_, rfl⟩
        obtain ⟨hi, hhi⟩ : ∃ z, (iv xs k).hi = z := ⟨_, rfl⟩
        rw [hlo] at y1
        rw [hhi] at y2
        clear hlo hhi
        go_wp2_with fail
        have ku0 := later_cell u0
        have ku1 := later_cell u1
        have ku2 := later_cell u2
        have ky1 := later_cell y1
        have ky2 := later_cell y2
        have ky3 := later_cell y3
        refine wp_region_later wr (by kernel_rfl) (by kernel_rfl) (Below.refl _ _) ?_
        repeat (go_big_quiet_step (fail))
        refine wpQuiet_nil ?_
        rintro ⟨W6, hB⟩
        dsimp only
        have hc := (bcell hB).1
        have hf := (bcell hB).2
        have hz := hB.size
        clear ku0 ku1 ku2 ky1 ky2 ky3
        have u0n : W6.cell? ⟨w.heap.size, 0, none⟩ = some (.int .i64 0) := (hc _ _ (cell_lt u0)).trans u0
        clear u0
        have u0 := u0n
        clear u0n
        have u1n : W6.cell? ⟨w.heap.size, 1, none⟩ = some (.int .i64 0) := (hc _ _ (cell_lt u1)).trans u1
        clear u1
        have u1 := u1n
        clear u1n
        have u2n : W6.cell? ⟨w.heap.size, 2, none⟩ = some (.bool false) := (hc _ _ (cell_lt u2)).trans u2
        clear u2
        have u2 := u2n
        clear u2n
        have y1n : W6.cell? ⟨b, o + k * 3, none⟩ = some (.int .i64 lo) := (hc _ _ (cell_lt y1)).trans y1
        clear y1
        have y1 := y1n
        clear y1n
        have y2n : W6.cell? ⟨b, o + k * 3 + 1, none⟩ = some (.int .i64 hi) := (hc _ _ (cell_lt y2)).trans y2
        clear y2
        have y2 := y2n
        clear y2n
        have y3n : W6.cell? ⟨b, o + k * 3 + 2, none⟩ = some (.bool true) := (hc _ _ (cell_lt y3)).trans y3
        clear y3
        have y3 := y3n
        clear y3n
        have hbn : Below wr.heap.size wr W6 := bthen hb0 hB
        clear hb0
        have hb0 := hbn
        clear hbn
        have hzW6 : wr.heap.size ≤ W6.heap.size := hz
        clear hc hf hB hz
        go_wp2
        go_roundw
        case rel => exact ⟨k + 1, by omega, by go_num, by rw [HI.out, HS.out]; rfl, bthen HB.out hb0⟩
        case measure => simp [intOf]; omega
    · obtain rfl : k = xs.length := by omega
      clear hb z0 z1 z2
      go_wp2
      go_ret
      exact ⟨by rw [HI.out]; simp [idxV], HBW.out⟩
theorem c_containsNone (xs : List Iv) (a : Option Addr) (cap : Nat) (w : World) (hl : Ivs w a xs) (hv : ∀ x ∈ xs, ivB x = true) :
    Calls Try.prog 90 #[.slice a xs.length cap, .agg #[.int .i64 0, .int .i64 0, .bool false]] w fun e w' => e = .returned (.bool (xs.any noneB)) ∧ Below w.heap.size w w' := by
  rw [← idxV_any noneB xs 0]
  have hc := fun W (hb : Below w.heap.size w W) => c_indexNone xs a cap W (hl.later hb) hv
  have HC := Lib.hid hc
  clear hc hl hv
  go_enter Try.func90, Try.ntmps90
  go_upto_region 1 with (fail)
  go_name_world W1 hW1
  have hbn : Below w.heap.size w W1 := by subst hW1; go_grown
  have hb0 := hbn
  clear hbn
  have z0n : W1.cell? ⟨w.heap.size, 0, none⟩ = some (.int .i64 0) := by subst hW1; go_simp
  have z1n : W1.cell? ⟨w.heap.size, 1, none⟩ = some (.int .i64 0) := by subst hW1; go_simp
  have z2n : W1.cell? ⟨w.heap.size, 2, none⟩ = some (.bool false) := by subst hW1; go_simp
  clear hW1 
  have z0 := z0n
  have z1 := z1n
  have z2 := z2n
  clear z0n z1n z2n 
  go_wp2_with fail
  refine (via (w0 := W1) (by go_grown) (HC.out _ hb0)).mono ?_
  rintro e W2 ⟨rfl, hc, hf, hz, hB⟩
  have z0n : W2.cell? ⟨w.heap.size, 0, none⟩ = some (.int .i64 0) := (hc _ _ (cell_lt z0)).trans z0
  clear z0
  have z0 := z0n
  clear z0n
  have z1n : W2.cell? ⟨w.heap.size, 1, none⟩ = some (.int .i64 0) := (hc _ _ (cell_lt z1)).trans z1
  clear z1
  have z1 := z1n
  clear z1n
  have z2n : W2.cell? ⟨w.heap.size, 2, none⟩ = some (.bool false) := (hc _ _ (cell_lt z2)).trans z2
  clear z2
  have z2 := z2n
  clear z2n
  have hbn : Below w.heap.size w W2 := bthen hb0 hB
  clear hb0
  have hb0 := hbn
  clear hbn
  have hzW2 : W1.heap.size ≤ W2.heap.size := hz
  clear hc hf hB hz
  go_wp2_with fail
  go_ret
  exact ⟨rfl, by have hbz := hb0.size; go_grown⟩

set_option maxRecDepth 100000 in
set_option maxHeartbeats 1000000 in
/-- The deferred call, where Sum gives up: it recovers, and lays the results. -/
theorem catch_p (p q : Nat) (x0 x1 : Int) (x2 : Bool) (x3 : Int) (w : World) (c0 : w.cell? ⟨p, 0, none⟩ = some (.int .i64 x0)) (c1 : w.cell? ⟨p, 1, none⟩ = some (.int .i64 x1)) (c2 : w.cell? ⟨p, 2, none⟩ = some (.bool x2)) (c3 : w.cell? ⟨q, 0, none⟩ = some (.int .i64 x3))
    (f0 : w.frozen? ⟨p, 0, none⟩ = false) (f1 : w.frozen? ⟨p, 1, none⟩ = false) (f2 : w.frozen? ⟨p, 2, none⟩ = false) (f3 : w.frozen? ⟨q, 0, none⟩ = false) (hpq : ¬ p = q) (n : Nat) (hp : n ≤ p) (hq : n ≤ q) (hn : n ≤ w.heap.size) :
    CallsD Try.prog 87 #[.pointer (some ⟨p, 0, none⟩), .pointer (some ⟨q, 0, none⟩)] (.panicking tooMuchP) w fun e u' w' =>
      e = .returned (.tuple #[]) ∧ u' = .panicking [{ v := .iface 110 (.agg #[]), recovered := true }] ∧ w'.cell? ⟨p, 0, none⟩ = some (.int .i64 0) ∧ w'.cell? ⟨p, 1, none⟩ = some (.int .i64 0) ∧ w'.cell? ⟨p, 2, none⟩ = some (.bool false) ∧ w'.cell? ⟨q, 0, none⟩ = some (.int .i64 2) ∧ Below n w w' := by
  have z0 := cell_lt c0
  have z3 := cell_lt c3
  have hta : ∀ w, (Instr.typeAssert (.iface 110 (.agg #[])) 20 110 true).run Try.prog w = .ok (.tuple #[.agg #[], .bool true]) w := fun _ => by kernel_rfl
  refine callsD_of_wpS Try.func87 rfl fun c₀ cs hu => ?_
  simp only [Try.ntmps87, List.size_toArray, List.length_cons, List.length_nil, Nat.reduceAdd, Nat.reduceSub, Array.replicate_succ, Array.replicate_zero, List.push_toArray, List.append_toArray, List.nil_append, List.cons_append]
  apply wpS_seq
  apply wpS_region
  simp [wpOpsS, go_sem, recoverD, hu, Exit.thenS]
  refine wpS_of_wp ?_
  go_wp2
  exact ⟨rfl, _, rfl, _, results_none rfl _ _ _, rfl, rfl, by go_simp, by go_simp, by go_simp, by go_simp, by go_grown⟩
theorem catch_r (p q : Nat) (w : World) :
    CallsD Try.prog 87 #[.pointer (some ⟨p, 0, none⟩), .pointer (some ⟨q, 0, none⟩)] .returning w fun e u' w' => e = .returned (.tuple #[]) ∧ u' = .returning ∧ w' = w := by
  refine callsD_of_wpS Try.func87 rfl fun c₀ cs hu => ?_
  simp only [Try.ntmps87, List.size_toArray, List.length_cons, List.length_nil, Nat.reduceAdd, Nat.reduceSub, Array.replicate_succ, Array.replicate_zero, List.push_toArray, List.append_toArray, List.nil_append, List.cons_append]
  apply wpS_seq
  apply wpS_region
  simp [wpOpsS, go_sem, recoverD, hu, Exit.thenS]
  refine wpS_of_wp ?_
  go_wp2
  cases c₀
  simp_all [bodyPostS, results, Try.results87]

def sumV (l : List Iv) : Iv × Int :=
  if 200 < l.length then (Iv.none, 2) else if l.any (fun x => !ivB x) then (Iv.none, 1) else if l.any noneB then (Iv.none, 0) else
    if highS l ≤ 100000000 then (⟨lowS l, highS l, true⟩, 0) else (Iv.none, 2)
abbrev sumVal (r : Iv × Int) : Value := .tuple #[r.1.v, .int .i64 r.2]

set_option maxRecDepth 100000 in
set_option maxHeartbeats 4000000 in
theorem c_Sum_many (l : List Iv) (a : Option Addr) (cap : Nat) (w : World) (hl : Ivs w a l) (h : 200 < l.length) :
    Calls Try.prog 54 #[.slice a l.length cap] w fun e w' => e = .returned (sumVal (sumV l)) ∧ Below w.heap.size w w' := by
  have hmf : ∀ (fn : Fn) (first cap : Array Value) (w : World), (Instr.makeFunc fn first cap).run Try.prog w = .ok (.func fn first cap) w := fun _ _ _ _ => rfl
  have hlen := hl.1
  have hv : sumV l = (Iv.none, 2) := by unfold sumV; rw [if_pos h]
  have h' : (200 : Int) < (l.length : Int) := by omega
  rw [hv]
  clear hv hl h
  go_enter_defers Try.func54, Try.ntmps54
  go_upto_region 2 with (fail)
  go_name_world W1 hW1
  have hbn : Below w.heap.size w W1 := by subst hW1; go_grown
  have hb0 := hbn
  clear hbn
  have s0n : W1.cell? ⟨w.heap.size, 0, none⟩ = some (.int .i64 0) := by subst hW1; go_simp
  have fs0n : W1.frozen? ⟨w.heap.size, 0, none⟩ = false := by subst hW1; go_simp
  have s1n : W1.cell? ⟨w.heap.size, 1, none⟩ = some (.int .i64 0) := by subst hW1; go_simp
  have fs1n : W1.frozen? ⟨w.heap.size, 1, none⟩ = false := by subst hW1; go_simp
  have s2n : W1.cell? ⟨w.heap.size, 2, none⟩ = some (.bool false) := by subst hW1; go_simp
  have fs2n : W1.frozen? ⟨w.heap.size, 2, none⟩ = false := by subst hW1; go_simp
  have s3n : W1.cell? ⟨w.heap.size + 1, 0, none⟩ = some (.int .i64 0) := by subst hW1; go_simp
  have fs3n : W1.frozen? ⟨w.heap.size + 1, 0, none⟩ = false := by subst hW1; go_simp
  clear hW1 
  have s0 := s0n
  have fs0 := fs0n
  have s1 := s1n
  have fs1 := fs1n
  have s2 := s2n
  have fs2 := fs2n
  have s3 := s3n
  have fs3 := fs3n
  clear s0n s1n s2n s3n fs0n fs1n fs2n fs3n
  go_wp2
  refine leaves_cons (f := 87) (args := #[.pointer (some ⟨w.heap.size, 0, none⟩), .pointer (some ⟨w.heap.size + 1, 0, none⟩)]) (by simp) (by simp [go_sem]) ?_
  refine (catch_r _ _ _).mono ?_
  rintro e u' w'' ⟨rfl, rfl, rfl⟩
  refine ⟨sumVal (Iv.none, 2), by simp [results, Try.results54, go_sem, Iv.none, s0, s1, s2, s3], ?_⟩
  exact ⟨rfl, by have hbz := hb0.size; go_grown⟩

set_option maxRecDepth 100000 in
set_option maxHeartbeats 4000000 in
theorem c_Sum_bad (l : List Iv) (a : Option Addr) (cap : Nat) (w : World) (hl : Ivs w a l) (h : ¬ 200 < l.length) (h1 : l.any (fun x => !ivB x) = true) :
    Calls Try.prog 54 #[.slice a l.length cap] w fun e w' => e = .returned (sumVal (sumV l)) ∧ Below w.heap.size w w' := by
  have hmf : ∀ (fn : Fn) (first cap : Array Value) (w : World), (Instr.makeFunc fn first cap).run Try.prog w = .ok (.func fn first cap) w := fun _ _ _ _ => rfl
  have hlen := hl.1
  have hv : sumV l = (Iv.none, 1) := by unfold sumV; rw [if_neg h, if_pos h1]
  have h' : ¬ (200 : Int) < (l.length : Int) := by omega
  have hA := fun W (hb : Below w.heap.size w W) => c_containsFuncV 89 (enters_of Try.func89 (by kernel_rfl) rfl) (fun x => !ivB x) l a cap W (fun W x => c_Sum2 x W) (hl.later hb)
  rw [h1] at hA
  have HA := Lib.hid hA
  rw [hv]
  clear hv hl h h1 hA
  go_enter_defers Try.func54, Try.ntmps54
  go_upto_region 2 with (fail)
  go_name_world W1 hW1
  have hbn : Below w.heap.size w W1 := by subst hW1; go_grown
  have hb0 := hbn
  clear hbn
  have s0n : W1.cell? ⟨w.heap.size, 0, none⟩ = some (.int .i64 0) := by subst hW1; go_simp
  have fs0n : W1.frozen? ⟨w.heap.size, 0, none⟩ = false := by subst hW1; go_simp
  have s1n : W1.cell? ⟨w.heap.size, 1, none⟩ = some (.int .i64 0) := by subst hW1; go_simp
  have fs1n : W1.frozen? ⟨w.heap.size, 1, none⟩ = false := by subst hW1; go_simp
  have s2n : W1.cell? ⟨w.heap.size, 2, none⟩ = some (.bool false) := by subst hW1; go_simp
  have fs2n : W1.frozen? ⟨w.heap.size, 2, none⟩ = false := by subst hW1; go_simp
  have s3n : W1.cell? ⟨w.heap.size + 1, 0, none⟩ = some (.int .i64 0) := by subst hW1; go_simp
  have fs3n : W1.frozen? ⟨w.heap.size + 1, 0, none⟩ = false := by subst hW1; go_simp
  clear hW1 
  have s0 := s0n
  have fs0 := fs0n
  have s1 := s1n
  have fs1 := fs1n
  have s2 := s2n
  have fs2 := fs2n
  have s3 := s3n
  have fs3 := fs3n
  clear s0n s1n s2n s3n fs0n fs1n fs2n fs3n
  go_wp2_with fail
  refine (via (w0 := W1) (by go_grown) (HA.out _ hb0)).mono ?_
  rintro e W2 ⟨rfl, hc, hf, hz, hB⟩
  have fs0n : W2.frozen? ⟨w.heap.size, 0, none⟩ = false := (hf _ _ (cell_lt s0)).trans fs0
  clear fs0
  have fs0 := fs0n
  clear fs0n
  have s0n : W2.cell? ⟨w.heap.size, 0, none⟩ = some (.int .i64 0) := (hc _ _ (cell_lt s0)).trans s0
  clear s0
  have s0 := s0n
  clear s0n
  have fs1n : W2.frozen? ⟨w.heap.size, 1, none⟩ = false := (hf _ _ (cell_lt s1)).trans fs1
  clear fs1
  have fs1 := fs1n
  clear fs1n
  have s1n : W2.cell? ⟨w.heap.size, 1, none⟩ = some (.int .i64 0) := (hc _ _ (cell_lt s1)).trans s1
  clear s1
  have s1 := s1n
  clear s1n
  have fs2n : W2.frozen? ⟨w.heap.size, 2, none⟩ = false := (hf _ _ (cell_lt s2)).trans fs2
  clear fs2
  have fs2 := fs2n
  clear fs2n
  have s2n : W2.cell? ⟨w.heap.size, 2, none⟩ = some (.bool false) := (hc _ _ (cell_lt s2)).trans s2
  clear s2
  have s2 := s2n
  clear s2n
  have fs3n : W2.frozen? ⟨w.heap.size + 1, 0, none⟩ = false := (hf _ _ (cell_lt s3)).trans fs3
  clear fs3
  have fs3 := fs3n
  clear fs3n
  have s3n : W2.cell? ⟨w.heap.size + 1, 0, none⟩ = some (.int .i64 0) := (hc _ _ (cell_lt s3)).trans s3
  clear s3
  have s3 := s3n
  clear s3n
  have hbn : Below w.heap.size w W2 := bthen hb0 hB
  clear hb0
  have hb0 := hbn
  clear hbn
  have hzW2 : W1.heap.size ≤ W2.heap.size := hz
  clear hc hf hB hz
  go_wp2
  refine leaves_cons (f := 87) (args := #[.pointer (some ⟨w.heap.size, 0, none⟩), .pointer (some ⟨w.heap.size + 1, 0, none⟩)]) (by simp) (by simp [go_sem]) ?_
  refine (catch_r _ _ _).mono ?_
  rintro e u' w'' ⟨rfl, rfl, rfl⟩
  refine ⟨sumVal (Iv.none, 1), by simp [results, Try.results54, go_sem, Iv.none, s0, s1, s2, s3], ?_⟩
  exact ⟨rfl, by have hbz := hb0.size; go_grown⟩

set_option maxRecDepth 100000 in
set_option maxHeartbeats 4000000 in
theorem c_Sum_none (l : List Iv) (a : Option Addr) (cap : Nat) (w : World) (hl : Ivs w a l) (h : ¬ 200 < l.length) (h1 : l.any (fun x => !ivB x) = false) (h2 : l.any noneB = true) :
    Calls Try.prog 54 #[.slice a l.length cap] w fun e w' => e = .returned (sumVal (sumV l)) ∧ Below w.heap.size w w' := by
  have hmf : ∀ (fn : Fn) (first cap : Array Value) (w : World), (Instr.makeFunc fn first cap).run Try.prog w = .ok (.func fn first cap) w := fun _ _ _ _ => rfl
  have hlen := hl.1
  have hv : sumV l = (Iv.none, 0) := by unfold sumV; rw [if_neg h, if_neg (by rw [h1]; decide), if_pos h2]
  have h' : ¬ (200 : Int) < (l.length : Int) := by omega
  have hA := fun W (hb : Below w.heap.size w W) => c_containsFuncV 89 (enters_of Try.func89 (by kernel_rfl) rfl) (fun x => !ivB x) l a cap W (fun W x => c_Sum2 x W) (hl.later hb)
  rw [h1] at hA
  have hall : ∀ x ∈ l, ivB x = true := fun x hx => by
    have := List.any_eq_false.1 h1 x hx
    simpa using this
  have hB := fun W (hb : Below w.heap.size w W) => c_containsNone l a cap W (hl.later hb) hall
  rw [h2] at hB
  have HA := Lib.hid hA
  have HB := Lib.hid hB
  rw [hv]
  clear hv hl h h1 h2 hA hB hall
  go_enter_defers Try.func54, Try.ntmps54
  go_upto_region 2 with (fail)
  go_name_world W1 hW1
  have hbn : Below w.heap.size w W1 := by subst hW1; go_grown
  have hb0 := hbn
  clear hbn
  have s0n : W1.cell? ⟨w.heap.size, 0, none⟩ = some (.int .i64 0) := by subst hW1; go_simp
  have fs0n : W1.frozen? ⟨w.heap.size, 0, none⟩ = false := by subst hW1; go_simp
  have s1n : W1.cell? ⟨w.heap.size, 1, none⟩ = some (.int .i64 0) := by subst hW1; go_simp
  have fs1n : W1.frozen? ⟨w.heap.size, 1, none⟩ = false := by subst hW1; go_simp
  have s2n : W1.cell? ⟨w.heap.size, 2, none⟩ = some (.bool false) := by subst hW1; go_simp
  have fs2n : W1.frozen? ⟨w.heap.size, 2, none⟩ = false := by subst hW1; go_simp
  have s3n : W1.cell? ⟨w.heap.size + 1, 0, none⟩ = some (.int .i64 0) := by subst hW1; go_simp
  have fs3n : W1.frozen? ⟨w.heap.size + 1, 0, none⟩ = false := by subst hW1; go_simp
  clear hW1 
  have s0 := s0n
  have fs0 := fs0n
  have s1 := s1n
  have fs1 := fs1n
  have s2 := s2n
  have fs2 := fs2n
  have s3 := s3n
  have fs3 := fs3n
  clear s0n s1n s2n s3n fs0n fs1n fs2n fs3n
  go_wp2_with fail
  refine (via (w0 := W1) (by go_grown) (HA.out _ hb0)).mono ?_
  rintro e W2 ⟨rfl, hc, hf, hz, hB⟩
  have fs0n : W2.frozen? ⟨w.heap.size, 0, none⟩ = false := (hf _ _ (cell_lt s0)).trans fs0
  clear fs0
  have fs0 := fs0n
  clear fs0n
  have s0n : W2.cell? ⟨w.heap.size, 0, none⟩ = some (.int .i64 0) := (hc _ _ (cell_lt s0)).trans s0
  clear s0
  have s0 := s0n
  clear s0n
  have fs1n : W2.frozen? ⟨w.heap.size, 1, none⟩ = false := (hf _ _ (cell_lt s1)).trans fs1
  clear fs1
  have fs1 := fs1n
  clear fs1n
  have s1n : W2.cell? ⟨w.heap.size, 1, none⟩ = some (.int .i64 0) := (hc _ _ (cell_lt s1)).trans s1
  clear s1
  have s1 := s1n
  clear s1n
  have fs2n : W2.frozen? ⟨w.heap.size, 2, none⟩ = false := (hf _ _ (cell_lt s2)).trans fs2
  clear fs2
  have fs2 := fs2n
  clear fs2n
  have s2n : W2.cell? ⟨w.heap.size, 2, none⟩ = some (.bool false) := (hc _ _ (cell_lt s2)).trans s2
  clear s2
  have s2 := s2n
  clear s2n
  have fs3n : W2.frozen? ⟨w.heap.size + 1, 0, none⟩ = false := (hf _ _ (cell_lt s3)).trans fs3
  clear fs3
  have fs3 := fs3n
  clear fs3n
  have s3n : W2.cell? ⟨w.heap.size + 1, 0, none⟩ = some (.int .i64 0) := (hc _ _ (cell_lt s3)).trans s3
  clear s3
  have s3 := s3n
  clear s3n
  have hbn : Below w.heap.size w W2 := bthen hb0 hB
  clear hb0
  have hb0 := hbn
  clear hbn
  have hzW2 : W1.heap.size ≤ W2.heap.size := hz
  clear hc hf hB hz
  go_wp2_with fail
  refine (via (w0 := W2) (by go_grown) (HB.out _ hb0)).mono ?_
  rintro e W3 ⟨rfl, hc, hf, hz, hB⟩
  have fs0n : W3.frozen? ⟨w.heap.size, 0, none⟩ = false := (hf _ _ (cell_lt s0)).trans fs0
  clear fs0
  have fs0 := fs0n
  clear fs0n
  have s0n : W3.cell? ⟨w.heap.size, 0, none⟩ = some (.int .i64 0) := (hc _ _ (cell_lt s0)).trans s0
  clear s0
  have s0 := s0n
  clear s0n
  have fs1n : W3.frozen? ⟨w.heap.size, 1, none⟩ = false := (hf _ _ (cell_lt s1)).trans fs1
  clear fs1
  have fs1 := fs1n
  clear fs1n
  have s1n : W3.cell? ⟨w.heap.size, 1, none⟩ = some (.int .i64 0) := (hc _ _ (cell_lt s1)).trans s1
  clear s1
  have s1 := s1n
  clear s1n
  have fs2n : W3.frozen? ⟨w.heap.size, 2, none⟩ = false := (hf _ _ (cell_lt s2)).trans fs2
  clear fs2
  have fs2 := fs2n
  clear fs2n
  have s2n : W3.cell? ⟨w.heap.size, 2, none⟩ = some (.bool false) := (hc _ _ (cell_lt s2)).trans s2
  clear s2
  have s2 := s2n
  clear s2n
  have fs3n : W3.frozen? ⟨w.heap.size + 1, 0, none⟩ = false := (hf _ _ (cell_lt s3)).trans fs3
  clear fs3
  have fs3 := fs3n
  clear fs3n
  have s3n : W3.cell? ⟨w.heap.size + 1, 0, none⟩ = some (.int .i64 0) := (hc _ _ (cell_lt s3)).trans s3
  clear s3
  have s3 := s3n
  clear s3n
  have hbn : Below w.heap.size w W3 := bthen hb0 hB
  clear hb0
  have hb0 := hbn
  clear hbn
  have hzW3 : W2.heap.size ≤ W3.heap.size := hz
  clear hc hf hB hz
  go_wp2
  refine leaves_cons (f := 87) (args := #[.pointer (some ⟨w.heap.size, 0, none⟩), .pointer (some ⟨w.heap.size + 1, 0, none⟩)]) (by simp) (by simp [go_sem]) ?_
  refine (catch_r _ _ _).mono ?_
  rintro e u' w'' ⟨rfl, rfl, rfl⟩
  refine ⟨sumVal (Iv.none, 0), by simp [results, Try.results54, go_sem, Iv.none, s0, s1, s2, s3], ?_⟩
  exact ⟨rfl, by have hbz := hb0.size; go_grown⟩

set_option maxRecDepth 100000 in
set_option maxHeartbeats 4000000 in
theorem c_Sum_ok (l : List Iv) (a : Option Addr) (cap : Nat) (w : World) (hl : Ivs w a l) (h : ¬ 200 < l.length) (h1 : l.any (fun x => !ivB x) = false) (h2 : l.any noneB = false) (h3 : highS l ≤ 100000000) :
    Calls Try.prog 54 #[.slice a l.length cap] w fun e w' => e = .returned (sumVal (sumV l)) ∧ Below w.heap.size w w' := by
  have hmf : ∀ (fn : Fn) (first cap : Array Value) (w : World), (Instr.makeFunc fn first cap).run Try.prog w = .ok (.func fn first cap) w := fun _ _ _ _ => rfl
  have hlen := hl.1
  have hv : sumV l = (⟨lowS l, highS l, true⟩, 0) := by unfold sumV; rw [if_neg h, if_neg (by rw [h1]; decide), if_neg (by rw [h2]; decide), if_pos h3]
  have h' : ¬ (200 : Int) < (l.length : Int) := by omega
  have hA := fun W (hb : Below w.heap.size w W) => c_containsFuncV 89 (enters_of Try.func89 (by kernel_rfl) rfl) (fun x => !ivB x) l a cap W (fun W x => c_Sum2 x W) (hl.later hb)
  rw [h1] at hA
  have hall : ∀ x ∈ l, ivB x = true := fun x hx => by
    have := List.any_eq_false.1 h1 x hx
    simpa using this
  have hB := fun W (hb : Below w.heap.size w W) => c_containsNone l a cap W (hl.later hb) hall
  rw [h2] at hB
  have hg : Good l := fun x hx => ⟨hall x hx, by
    have := List.any_eq_false.1 h2 x hx
    simpa [noneB] using this⟩
  have hJ := fun W (hb : Below w.heap.size w W) => c_joined_plus l a cap W (hl.later hb) hg
  have hbw : ∀ W, Calls Try.prog 92 #[.int .i64 0, .int .i64 0] W fun e w' => e = .returned (.agg #[.int .i64 0, .int .i64 0, .bool true]) ∧ Below W.heap.size W w' := fun W => c_between 0 0 W
  have HA := Lib.hid hA
  have HB := Lib.hid hB
  have HBW := Lib.hid hbw
  have HJ : Hid (∀ W, Below w.heap.size w W → Calls Try.prog 84 #[.func (.func 91) #[] #[], .agg #[.int .i64 0, .int .i64 0, .bool true], .slice a l.length cap] W fun e w' => e = .returned (.agg #[.int .i64 (lowS l), .int .i64 (highS l), .bool true]) ∧ Below W.heap.size W w') := fun W hb => (hJ W hb).mono fun e w' h => ⟨h.1 h3, h.2.2⟩
  rw [hv]
  clear hv hl h h1 h2 h3 hA hB hall hJ hg hbw
  go_enter_defers Try.func54, Try.ntmps54
  go_upto_region 2 with (fail)
  go_name_world W1 hW1
  have hbn : Below w.heap.size w W1 := by subst hW1; go_grown
  have hb0 := hbn
  clear hbn
  have s0n : W1.cell? ⟨w.heap.size, 0, none⟩ = some (.int .i64 0) := by subst hW1; go_simp
  have fs0n : W1.frozen? ⟨w.heap.size, 0, none⟩ = false := by subst hW1; go_simp
  have s1n : W1.cell? ⟨w.heap.size, 1, none⟩ = some (.int .i64 0) := by subst hW1; go_simp
  have fs1n : W1.frozen? ⟨w.heap.size, 1, none⟩ = false := by subst hW1; go_simp
  have s2n : W1.cell? ⟨w.heap.size, 2, none⟩ = some (.bool false) := by subst hW1; go_simp
  have fs2n : W1.frozen? ⟨w.heap.size, 2, none⟩ = false := by subst hW1; go_simp
  have s3n : W1.cell? ⟨w.heap.size + 1, 0, none⟩ = some (.int .i64 0) := by subst hW1; go_simp
  have fs3n : W1.frozen? ⟨w.heap.size + 1, 0, none⟩ = false := by subst hW1; go_simp
  clear hW1 
  have s0 := s0n
  have fs0 := fs0n
  have s1 := s1n
  have fs1 := fs1n
  have s2 := s2n
  have fs2 := fs2n
  have s3 := s3n
  have fs3 := fs3n
  clear s0n s1n s2n s3n fs0n fs1n fs2n fs3n
  go_wp2_with fail
  refine (via (w0 := W1) (by go_grown) (HA.out _ hb0)).mono ?_
  rintro e W2 ⟨rfl, hc, hf, hz, hB⟩
  have fs0n : W2.frozen? ⟨w.heap.size, 0, none⟩ = false := (hf _ _ (cell_lt s0)).trans fs0
  clear fs0
  have fs0 := fs0n
  clear fs0n
  have s0n : W2.cell? ⟨w.heap.size, 0, none⟩ = some (.int .i64 0) := (hc _ _ (cell_lt s0)).trans s0
  clear s0
  have s0 := s0n
  clear s0n
  have fs1n : W2.frozen? ⟨w.heap.size, 1, none⟩ = false := (hf _ _ (cell_lt s1)).trans fs1
  clear fs1
  have fs1 := fs1n
  clear fs1n
  have s1n : W2.cell? ⟨w.heap.size, 1, none⟩ = some (.int .i64 0) := (hc _ _ (cell_lt s1)).trans s1
  clear s1
  have s1 := s1n
  clear s1n
  have fs2n : W2.frozen? ⟨w.heap.size, 2, none⟩ = false := (hf _ _ (cell_lt s2)).trans fs2
  clear fs2
  have fs2 := fs2n
  clear fs2n
  have s2n : W2.cell? ⟨w.heap.size, 2, none⟩ = some (.bool false) := (hc _ _ (cell_lt s2)).trans s2
  clear s2
  have s2 := s2n
  clear s2n
  have fs3n : W2.frozen? ⟨w.heap.size + 1, 0, none⟩ = false := (hf _ _ (cell_lt s3)).trans fs3
  clear fs3
  have fs3 := fs3n
  clear fs3n
  have s3n : W2.cell? ⟨w.heap.size + 1, 0, none⟩ = some (.int .i64 0) := (hc _ _ (cell_lt s3)).trans s3
  clear s3
  have s3 := s3n
  clear s3n
  have hbn : Below w.heap.size w W2 := bthen hb0 hB
  clear hb0
  have hb0 := hbn
  clear hbn
  have hzW2 : W1.heap.size ≤ W2.heap.size := hz
  clear hc hf hB hz
  go_wp2_with fail
  refine (via (w0 := W2) (by go_grown) (HB.out _ hb0)).mono ?_
  rintro e W3 ⟨rfl, hc, hf, hz, hB⟩
  have fs0n : W3.frozen? ⟨w.heap.size, 0, none⟩ = false := (hf _ _ (cell_lt s0)).trans fs0
  clear fs0
  have fs0 := fs0n
  clear fs0n
  have s0n : W3.cell? ⟨w.heap.size, 0, none⟩ = some (.int .i64 0) := (hc _ _ (cell_lt s0)).trans s0
  clear s0
  have s0 := s0n
  clear s0n
  have fs1n : W3.frozen? ⟨w.heap.size, 1, none⟩ = false := (hf _ _ (cell_lt s1)).trans fs1
  clear fs1
  have fs1 := fs1n
  clear fs1n
  have s1n : W3.cell? ⟨w.heap.size, 1, none⟩ = some (.int .i64 0) := (hc _ _ (cell_lt s1)).trans s1
  clear s1
  have s1 := s1n
  clear s1n
  have fs2n : W3.frozen? ⟨w.heap.size, 2, none⟩ = false := (hf _ _ (cell_lt s2)).trans fs2
  clear fs2
  have fs2 := fs2n
  clear fs2n
  have s2n : W3.cell? ⟨w.heap.size, 2, none⟩ = some (.bool false) := (hc _ _ (cell_lt s2)).trans s2
  clear s2
  have s2 := s2n
  clear s2n
  have fs3n : W3.frozen? ⟨w.heap.size + 1, 0, none⟩ = false := (hf _ _ (cell_lt s3)).trans fs3
  clear fs3
  have fs3 := fs3n
  clear fs3n
  have s3n : W3.cell? ⟨w.heap.size + 1, 0, none⟩ = some (.int .i64 0) := (hc _ _ (cell_lt s3)).trans s3
  clear s3
  have s3 := s3n
  clear s3n
  have hbn : Below w.heap.size w W3 := bthen hb0 hB
  clear hb0
  have hb0 := hbn
  clear hbn
  have hzW3 : W2.heap.size ≤ W3.heap.size := hz
  clear hc hf hB hz
  go_wp2_with fail
  refine (via (w0 := W3) (by go_grown) (HBW.out _)).mono ?_
  rintro e W4 ⟨rfl, hc, hf, hz, hB⟩
  have fs0n : W4.frozen? ⟨w.heap.size, 0, none⟩ = false := (hf _ _ (cell_lt s0)).trans fs0
  clear fs0
  have fs0 := fs0n
  clear fs0n
  have s0n : W4.cell? ⟨w.heap.size, 0, none⟩ = some (.int .i64 0) := (hc _ _ (cell_lt s0)).trans s0
  clear s0
  have s0 := s0n
  clear s0n
  have fs1n : W4.frozen? ⟨w.heap.size, 1, none⟩ = false := (hf _ _ (cell_lt s1)).trans fs1
  clear fs1
  have fs1 := fs1n
  clear fs1n
  have s1n : W4.cell? ⟨w.heap.size, 1, none⟩ = some (.int .i64 0) := (hc _ _ (cell_lt s1)).trans s1
  clear s1
  have s1 := s1n
  clear s1n
  have fs2n : W4.frozen? ⟨w.heap.size, 2, none⟩ = false := (hf _ _ (cell_lt s2)).trans fs2
  clear fs2
  have fs2 := fs2n
  clear fs2n
  have s2n : W4.cell? ⟨w.heap.size, 2, none⟩ = some (.bool false) := (hc _ _ (cell_lt s2)).trans s2
  clear s2
  have s2 := s2n
  clear s2n
  have fs3n : W4.frozen? ⟨w.heap.size + 1, 0, none⟩ = false := (hf _ _ (cell_lt s3)).trans fs3
  clear fs3
  have fs3 := fs3n
  clear fs3n
  have s3n : W4.cell? ⟨w.heap.size + 1, 0, none⟩ = some (.int .i64 0) := (hc _ _ (cell_lt s3)).trans s3
  clear s3
  have s3 := s3n
  clear s3n
  have hbn : Below w.heap.size w W4 := bthen hb0 hB
  clear hb0
  have hb0 := hbn
  clear hbn
  have hzW4 : W3.heap.size ≤ W4.heap.size := hz
  clear hc hf hB hz
  go_wp2_with fail
  refine (via (w0 := W4) (by go_grown) (HJ.out _ hb0)).mono ?_
  rintro e W5 ⟨rfl, hc, hf, hz, hB⟩
  have fs0n : W5.frozen? ⟨w.heap.size, 0, none⟩ = false := (hf _ _ (cell_lt s0)).trans fs0
  clear fs0
  have fs0 := fs0n
  clear fs0n
  have s0n : W5.cell? ⟨w.heap.size, 0, none⟩ = some (.int .i64 0) := (hc _ _ (cell_lt s0)).trans s0
  clear s0
  have s0 := s0n
  clear s0n
  have fs1n : W5.frozen? ⟨w.heap.size, 1, none⟩ = false := (hf _ _ (cell_lt s1)).trans fs1
  clear fs1
  have fs1 := fs1n
  clear fs1n
  have s1n : W5.cell? ⟨w.heap.size, 1, none⟩ = some (.int .i64 0) := (hc _ _ (cell_lt s1)).trans s1
  clear s1
  have s1 := s1n
  clear s1n
  have fs2n : W5.frozen? ⟨w.heap.size, 2, none⟩ = false := (hf _ _ (cell_lt s2)).trans fs2
  clear fs2
  have fs2 := fs2n
  clear fs2n
  have s2n : W5.cell? ⟨w.heap.size, 2, none⟩ = some (.bool false) := (hc _ _ (cell_lt s2)).trans s2
  clear s2
  have s2 := s2n
  clear s2n
  have fs3n : W5.frozen? ⟨w.heap.size + 1, 0, none⟩ = false := (hf _ _ (cell_lt s3)).trans fs3
  clear fs3
  have fs3 := fs3n
  clear fs3n
  have s3n : W5.cell? ⟨w.heap.size + 1, 0, none⟩ = some (.int .i64 0) := (hc _ _ (cell_lt s3)).trans s3
  clear s3
  have s3 := s3n
  clear s3n
  have hbn : Below w.heap.size w W5 := bthen hb0 hB
  clear hb0
  have hb0 := hbn
  clear hbn
  have hzW5 : W4.heap.size ≤ W5.heap.size := hz
  clear hc hf hB hz
  go_wp2
  refine leaves_cons (f := 87) (args := #[.pointer (some ⟨w.heap.size, 0, none⟩), .pointer (some ⟨w.heap.size + 1, 0, none⟩)]) (by simp) (by simp [go_sem]) ?_
  refine (catch_r _ _ _).mono ?_
  rintro e u' w'' ⟨rfl, rfl, rfl⟩
  refine ⟨sumVal (⟨lowS l, highS l, true⟩, 0), by simp [results, Try.results54, go_sem, s0, s1, s2, s3], ?_⟩
  exact ⟨rfl, by have hbz := hb0.size; go_grown⟩

set_option maxRecDepth 100000 in
set_option maxHeartbeats 4000000 in
theorem c_Sum_much (l : List Iv) (a : Option Addr) (cap : Nat) (w : World) (hl : Ivs w a l) (h : ¬ 200 < l.length) (h1 : l.any (fun x => !ivB x) = false) (h2 : l.any noneB = false) (h3 : 100000000 < highS l) :
    Calls Try.prog 54 #[.slice a l.length cap] w fun e w' => e = .returned (sumVal (sumV l)) ∧ Below w.heap.size w w' := by
  have hmf : ∀ (fn : Fn) (first cap : Array Value) (w : World), (Instr.makeFunc fn first cap).run Try.prog w = .ok (.func fn first cap) w := fun _ _ _ _ => rfl
  have hlen := hl.1
  have hv : sumV l = (Iv.none, 2) := by unfold sumV; rw [if_neg h, if_neg (by rw [h1]; decide), if_neg (by rw [h2]; decide), if_neg (by omega)]
  have h' : ¬ (200 : Int) < (l.length : Int) := by omega
  have hA := fun W (hb : Below w.heap.size w W) => c_containsFuncV 89 (enters_of Try.func89 (by kernel_rfl) rfl) (fun x => !ivB x) l a cap W (fun W x => c_Sum2 x W) (hl.later hb)
  rw [h1] at hA
  have hall : ∀ x ∈ l, ivB x = true := fun x hx => by
    have := List.any_eq_false.1 h1 x hx
    simpa using this
  have hB := fun W (hb : Below w.heap.size w W) => c_containsNone l a cap W (hl.later hb) hall
  rw [h2] at hB
  have hg : Good l := fun x hx => ⟨hall x hx, by
    have := List.any_eq_false.1 h2 x hx
    simpa [noneB] using this⟩
  have hJ := fun W (hb : Below w.heap.size w W) => c_joined_plus l a cap W (hl.later hb) hg
  have hbw : ∀ W, Calls Try.prog 92 #[.int .i64 0, .int .i64 0] W fun e w' => e = .returned (.agg #[.int .i64 0, .int .i64 0, .bool true]) ∧ Below W.heap.size W w' := fun W => c_between 0 0 W
  have HA := Lib.hid hA
  have HB := Lib.hid hB
  have HBW := Lib.hid hbw
  have HJ : Hid (∀ W, Below w.heap.size w W → Calls Try.prog 84 #[.func (.func 91) #[] #[], .agg #[.int .i64 0, .int .i64 0, .bool true], .slice a l.length cap] W fun e w' => e = .panicked tooMuchP ∧ Below W.heap.size W w') := fun W hb => (hJ W hb).mono fun e w' h => ⟨h.2.1 h3, h.2.2⟩
  rw [hv]
  clear hv hl h h1 h2 h3 hA hB hall hJ hg hbw
  go_enter_defers Try.func54, Try.ntmps54
  go_upto_region 2 with (fail)
  go_name_world W1 hW1
  have hbn : Below w.heap.size w W1 := by subst hW1; go_grown
  have hb0 := hbn
  clear hbn
  have s0n : W1.cell? ⟨w.heap.size, 0, none⟩ = some (.int .i64 0) := by subst hW1; go_simp
  have fs0n : W1.frozen? ⟨w.heap.size, 0, none⟩ = false := by subst hW1; go_simp
  have s1n : W1.cell? ⟨w.heap.size, 1, none⟩ = some (.int .i64 0) := by subst hW1; go_simp
  have fs1n : W1.frozen? ⟨w.heap.size, 1, none⟩ = false := by subst hW1; go_simp
  have s2n : W1.cell? ⟨w.heap.size, 2, none⟩ = some (.bool false) := by subst hW1; go_simp
  have fs2n : W1.frozen? ⟨w.heap.size, 2, none⟩ = false := by subst hW1; go_simp
  have s3n : W1.cell? ⟨w.heap.size + 1, 0, none⟩ = some (.int .i64 0) := by subst hW1; go_simp
  have fs3n : W1.frozen? ⟨w.heap.size + 1, 0, none⟩ = false := by subst hW1; go_simp
  clear hW1 
  have s0 := s0n
  have fs0 := fs0n
  have s1 := s1n
  have fs1 := fs1n
  have s2 := s2n
  have fs2 := fs2n
  have s3 := s3n
  have fs3 := fs3n
  clear s0n s1n s2n s3n fs0n fs1n fs2n fs3n
  go_wp2_with fail
  refine (via (w0 := W1) (by go_grown) (HA.out _ hb0)).mono ?_
  rintro e W2 ⟨rfl, hc, hf, hz, hB⟩
  have fs0n : W2.frozen? ⟨w.heap.size, 0, none⟩ = false := (hf _ _ (cell_lt s0)).trans fs0
  clear fs0
  have fs0 := fs0n
  clear fs0n
  have s0n : W2.cell? ⟨w.heap.size, 0, none⟩ = some (.int .i64 0) := (hc _ _ (cell_lt s0)).trans s0
  clear s0
  have s0 := s0n
  clear s0n
  have fs1n : W2.frozen? ⟨w.heap.size, 1, none⟩ = false := (hf _ _ (cell_lt s1)).trans fs1
  clear fs1
  have fs1 := fs1n
  clear fs1n
  have s1n : W2.cell? ⟨w.heap.size, 1, none⟩ = some (.int .i64 0) := (hc _ _ (cell_lt s1)).trans s1
  clear s1
  have s1 := s1n
  clear s1n
  have fs2n : W2.frozen? ⟨w.heap.size, 2, none⟩ = false := (hf _ _ (cell_lt s2)).trans fs2
  clear fs2
  have fs2 := fs2n
  clear fs2n
  have s2n : W2.cell? ⟨w.heap.size, 2, none⟩ = some (.bool false) := (hc _ _ (cell_lt s2)).trans s2
  clear s2
  have s2 := s2n
  clear s2n
  have fs3n : W2.frozen? ⟨w.heap.size + 1, 0, none⟩ = false := (hf _ _ (cell_lt s3)).trans fs3
  clear fs3
  have fs3 := fs3n
  clear fs3n
  have s3n : W2.cell? ⟨w.heap.size + 1, 0, none⟩ = some (.int .i64 0) := (hc _ _ (cell_lt s3)).trans s3
  clear s3
  have s3 := s3n
  clear s3n
  have hbn : Below w.heap.size w W2 := bthen hb0 hB
  clear hb0
  have hb0 := hbn
  clear hbn
  have hzW2 : W1.heap.size ≤ W2.heap.size := hz
  clear hc hf hB hz
  go_wp2_with fail
  refine (via (w0 := W2) (by go_grown) (HB.out _ hb0)).mono ?_
  rintro e W3 ⟨rfl, hc, hf, hz, hB⟩
  have fs0n : W3.frozen? ⟨w.heap.size, 0, none⟩ = false := (hf _ _ (cell_lt s0)).trans fs0
  clear fs0
  have fs0 := fs0n
  clear fs0n
  have s0n : W3.cell? ⟨w.heap.size, 0, none⟩ = some (.int .i64 0) := (hc _ _ (cell_lt s0)).trans s0
  clear s0
  have s0 := s0n
  clear s0n
  have fs1n : W3.frozen? ⟨w.heap.size, 1, none⟩ = false := (hf _ _ (cell_lt s1)).trans fs1
  clear fs1
  have fs1 := fs1n
  clear fs1n
  have s1n : W3.cell? ⟨w.heap.size, 1, none⟩ = some (.int .i64 0) := (hc _ _ (cell_lt s1)).trans s1
  clear s1
  have s1 := s1n
  clear s1n
  have fs2n : W3.frozen? ⟨w.heap.size, 2, none⟩ = false := (hf _ _ (cell_lt s2)).trans fs2
  clear fs2
  have fs2 := fs2n
  clear fs2n
  have s2n : W3.cell? ⟨w.heap.size, 2, none⟩ = some (.bool false) := (hc _ _ (cell_lt s2)).trans s2
  clear s2
  have s2 := s2n
  clear s2n
  have fs3n : W3.frozen? ⟨w.heap.size + 1, 0, none⟩ = false := (hf _ _ (cell_lt s3)).trans fs3
  clear fs3
  have fs3 := fs3n
  clear fs3n
  have s3n : W3.cell? ⟨w.heap.size + 1, 0, none⟩ = some (.int .i64 0) := (hc _ _ (cell_lt s3)).trans s3
  clear s3
  have s3 := s3n
  clear s3n
  have hbn : Below w.heap.size w W3 := bthen hb0 hB
  clear hb0
  have hb0 := hbn
  clear hbn
  have hzW3 : W2.heap.size ≤ W3.heap.size := hz
  clear hc hf hB hz
  go_wp2_with fail
  refine (via (w0 := W3) (by go_grown) (HBW.out _)).mono ?_
  rintro e W4 ⟨rfl, hc, hf, hz, hB⟩
  have fs0n : W4.frozen? ⟨w.heap.size, 0, none⟩ = false := (hf _ _ (cell_lt s0)).trans fs0
  clear fs0
  have fs0 := fs0n
  clear fs0n
  have s0n : W4.cell? ⟨w.heap.size, 0, none⟩ = some (.int .i64 0) := (hc _ _ (cell_lt s0)).trans s0
  clear s0
  have s0 := s0n
  clear s0n
  have fs1n : W4.frozen? ⟨w.heap.size, 1, none⟩ = false := (hf _ _ (cell_lt s1)).trans fs1
  clear fs1
  have fs1 := fs1n
  clear fs1n
  have s1n : W4.cell? ⟨w.heap.size, 1, none⟩ = some (.int .i64 0) := (hc _ _ (cell_lt s1)).trans s1
  clear s1
  have s1 := s1n
  clear s1n
  have fs2n : W4.frozen? ⟨w.heap.size, 2, none⟩ = false := (hf _ _ (cell_lt s2)).trans fs2
  clear fs2
  have fs2 := fs2n
  clear fs2n
  have s2n : W4.cell? ⟨w.heap.size, 2, none⟩ = some (.bool false) := (hc _ _ (cell_lt s2)).trans s2
  clear s2
  have s2 := s2n
  clear s2n
  have fs3n : W4.frozen? ⟨w.heap.size + 1, 0, none⟩ = false := (hf _ _ (cell_lt s3)).trans fs3
  clear fs3
  have fs3 := fs3n
  clear fs3n
  have s3n : W4.cell? ⟨w.heap.size + 1, 0, none⟩ = some (.int .i64 0) := (hc _ _ (cell_lt s3)).trans s3
  clear s3
  have s3 := s3n
  clear s3n
  have hbn : Below w.heap.size w W4 := bthen hb0 hB
  clear hb0
  have hb0 := hbn
  clear hbn
  have hzW4 : W3.heap.size ≤ W4.heap.size := hz
  clear hc hf hB hz
  go_wp2_with fail
  refine (via (w0 := W4) (by go_grown) (HJ.out _ hb0)).mono ?_
  rintro e W5 ⟨rfl, hc, hf, hz, hB⟩
  have fs0n : W5.frozen? ⟨w.heap.size, 0, none⟩ = false := (hf _ _ (cell_lt s0)).trans fs0
  clear fs0
  have fs0 := fs0n
  clear fs0n
  have s0n : W5.cell? ⟨w.heap.size, 0, none⟩ = some (.int .i64 0) := (hc _ _ (cell_lt s0)).trans s0
  clear s0
  have s0 := s0n
  clear s0n
  have fs1n : W5.frozen? ⟨w.heap.size, 1, none⟩ = false := (hf _ _ (cell_lt s1)).trans fs1
  clear fs1
  have fs1 := fs1n
  clear fs1n
  have s1n : W5.cell? ⟨w.heap.size, 1, none⟩ = some (.int .i64 0) := (hc _ _ (cell_lt s1)).trans s1
  clear s1
  have s1 := s1n
  clear s1n
  have fs2n : W5.frozen? ⟨w.heap.size, 2, none⟩ = false := (hf _ _ (cell_lt s2)).trans fs2
  clear fs2
  have fs2 := fs2n
  clear fs2n
  have s2n : W5.cell? ⟨w.heap.size, 2, none⟩ = some (.bool false) := (hc _ _ (cell_lt s2)).trans s2
  clear s2
  have s2 := s2n
  clear s2n
  have fs3n : W5.frozen? ⟨w.heap.size + 1, 0, none⟩ = false := (hf _ _ (cell_lt s3)).trans fs3
  clear fs3
  have fs3 := fs3n
  clear fs3n
  have s3n : W5.cell? ⟨w.heap.size + 1, 0, none⟩ = some (.int .i64 0) := (hc _ _ (cell_lt s3)).trans s3
  clear s3
  have s3 := s3n
  clear s3n
  have hbn : Below w.heap.size w W5 := bthen hb0 hB
  clear hb0
  have hb0 := hbn
  clear hbn
  have hzW5 : W4.heap.size ≤ W5.heap.size := hz
  clear hc hf hB hz
  go_wp2
  refine leaves_cons (f := 87) (args := #[.pointer (some ⟨w.heap.size, 0, none⟩), .pointer (some ⟨w.heap.size + 1, 0, none⟩)]) (by simp) (by simp [go_sem]) ?_
  refine (catch_p _ _ _ _ _ _ _ s0 s1 s2 s3 fs0 fs1 fs2 fs3 (by omega) w.heap.size (by omega) (by omega) (by have := hb0.size; omega)).mono ?_
  rintro e u' w'' ⟨rfl, rfl, t0, t1, t2, t3, hB⟩
  refine ⟨sumVal (Iv.none, 2), by simp [results, Try.results54, go_sem, Iv.none, t0, t1, t2, t3], ?_⟩
  exact ⟨rfl, hb0.trans hB⟩

theorem c_Sum (l : List Iv) (a : Option Addr) (cap : Nat) (w : World) (hl : Ivs w a l) :
    Calls Try.prog 54 #[.slice a l.length cap] w fun e w' => e = .returned (sumVal (sumV l)) ∧ Below w.heap.size w w' := by
  by_cases h : 200 < l.length
  · exact c_Sum_many l a cap w hl h
  cases h1 : l.any (fun x => !ivB x)
  · cases h2 : l.any noneB
    · by_cases h3 : highS l ≤ 100000000
      · exact c_Sum_ok l a cap w hl h h1 h2 h3
      · exact c_Sum_much l a cap w hl h h1 h2 (by omega)
    · exact c_Sum_none l a cap w hl h h1 h2
  · exact c_Sum_bad l a cap w hl h h1
end Go.Proofs.Ytokpjaodchcheaa
