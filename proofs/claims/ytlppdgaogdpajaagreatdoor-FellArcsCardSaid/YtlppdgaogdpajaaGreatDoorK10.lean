/- This text is a part of the proof: Right, Libs, CheckLog, Clone. -/
import Derived.Test.YtlppdgaogdpajaaGreatDoorK9
import Derived.Sort.OwnSortedInts
import Derived.Test.YtlppdgaogdpajaaGreatDoorShelf
set_option maxRecDepth 100000
set_option maxHeartbeats 4000000
namespace Go.Proofs.YtlppdgaogdpajaaGreatDoor
structure Tells (f : Fe) (x : Rp) : Prop where
 owner : 1 ≤ x.owner ∧ x.owner ≤ 40
 sort : nameB x.sort = true
 low : 0 ≤ x.low
 high : x.low ≤ x.high
 most : x.high ≤ 1000
 void : x.void = 0
 tick : 0 ≤ x.tick ∧ x.tick ≤ lastT f x.kind
 plc : 0 ≤ x.plc ∧ x.plc ≤ thingsN f x.kind - 1
structure JOk (f : Fe) (x : Rp) : Prop where
 id : 1 ≤ x.id ∧ x.id ≤ 1000000
 known : 0 ≤ x.known ∧ x.known ≤ 100000
 kind : 1 ≤ x.kind ∧ x.kind ≤ 8
 voids : x.kind = 8 → zeroB x = true ∧ 1 ≤ x.void ∧ x.void ≤ 1000000
 tells : ¬ x.kind = 8 → Tells f x
theorem judge_ok {f : Fe} {x : Rp} (h : judgeE f x = 0) : JOk f x := by
 unfold judgeE at h
 by_cases h1 : (rg 1 1000000 x.id && rg 0 100000 x.known && rg 1 8 x.kind) = false
 ·rw [if_pos h1] at h; cases h
 rw [if_neg h1, Bool.not_eq_false] at *
 simp only [Bool.and_eq_true, rg_iff] at h1
 obtain ⟨⟨hi, hk⟩, hkd⟩ := h1
 by_cases h8 : x.kind = 8
 ·rw [if_pos h8] at h
  by_cases hz : (zeroB x && rg 1 1000000 x.void) = true
  ·simp only [Bool.and_eq_true, rg_iff] at hz
   exact ⟨hi, hk, hkd, fun _ => ⟨hz.1, hz.2⟩, fun h => absurd h8 h⟩
  ·rw [if_neg hz] at h; cases h
 ·rw [if_neg h8] at h
  by_cases h2 : (rg 1 40 x.owner && nameB x.sort && rg 0 x.high x.low && decide (x.high ≤ 1000) && x.void == 0 && rg 0 (lastT f x.kind) x.tick) = false
  ·rw [if_pos h2] at h; cases h
  rw [if_neg h2, Bool.not_eq_false] at *
  simp only [Bool.and_eq_true, rg_iff, decide_eq_true_eq, beq_iff_eq] at h2
  obtain ⟨⟨⟨⟨⟨ho, hs⟩, hl⟩, hm⟩, hv⟩, ht⟩ := h2
  by_cases h3 : rg 0 (thingsN f x.kind - 1) x.plc = false
  ·rw [if_pos h3] at h; cases h
  rw [Bool.not_eq_false, rg_iff] at h3
  exact ⟨hi, hk, hkd, fun h => absurd h h8, fun _ => ⟨ho, hs, hl.1, hl.2, hm, hv, ht, h3⟩⟩
theorem JOk.nums {f : Fe} {x : Rp} (h : JOk f x) : 0 ≤ x.id ∧ x.id ≤ 1000000 ∧ 0 ≤ x.void ∧ x.void ≤ 1000000 := by
 have hi := h.id
 by_cases h8 : x.kind = 8
 ·have := (h.voids h8).2; omega
 ·have := (h.tells h8).void; omega
theorem follow_judge {f : Fe} {l : List Rp} {x : Rp} (h : followE f l x = 0) : judgeE f x = 0 ∧ l.length < 300 := by
 rw [follow_eq] at h
 by_cases hn : 300 ≤ l.length
 ·rw [if_pos hn] at h; cases h
 rw [if_neg hn] at h
 by_cases hj : judgeE f x = 0
 ·exact ⟨hj, by omega⟩
 ·rw [if_pos hj] at h; exact absurd h hj
theorem from_ok {f : Fe} : ∀ (l d : List Rp), (checkFrom f d l).2 = 0 → (∀ x ∈ l, judgeE f x = 0) ∧ (l = [] ∨ d.length + l.length ≤ 300)
 | [], _, _ => ⟨fun _ h => (by cases h), .inl rfl⟩
 | x :: r, d, h => by
  rw [checkFrom] at h
  by_cases hf : followE f d x = 0
  ·rw [if_neg (by omega)] at h
   obtain ⟨h1, h2⟩ := from_ok r (d ++ [x]) h
   obtain ⟨hj, hl⟩ := follow_judge hf
   refine ⟨fun y hy => ?_, .inr ?_⟩
   ·rcases List.mem_cons.1 hy with rfl | hy
    ·exact hj
    ·exact h1 y hy
   ·rw [List.length_append, List.length_singleton] at h2
    rw [List.length_cons]
    rcases h2 with rfl | h2
    ·simp; omega
    ·omega
  ·rw [if_pos hf] at h; exact absurd h hf
structure LogOk (f : Fe) (l : List Rp) : Prop where
 right : Right f
 judged : ∀ x ∈ l, JOk f x
 few : l.length ≤ 300
theorem check_ok {f : Fe} {l : List Rp} (h : (checkV f l).2 = 0) : LogOk f l := by
 unfold checkV at h
 by_cases hc : checkE f = 0
 ·rw [if_neg (by omega)] at h
  obtain ⟨h1, h2⟩ := from_ok l [] h
  refine ⟨right_of hc, fun x hx => judge_ok (h1 x hx), ?_⟩
  rcases h2 with rfl | h2
  ·simp
  ·simpa using h2
 ·rw [if_pos hc] at h; exact absurd h hc
end Go.Proofs.YtlppdgaogdpajaaGreatDoor
namespace Go.Proofs.YtlppdgaogdpajaaGreatDoor
open Go.RowKit
structure LibW (w : World) : Prop where
 tab : Lib.TabIs Tryz.prog w "internal/strconv.uint64pow10" .u64 Lib.pow10Tab
 len : ∃ m, w.cell? ⟨0, 0, none⟩ = some (.int .i64 m)
 syn : ∃ tp p, w.var? Tryz.prog "strconv.ErrSyntax" = some #[.iface tp p]
 rng : ∃ tp p, w.var? Tryz.prog "strconv.ErrRange" = some #[.iface tp p]
theorem g_tab : Tryz.prog.globalNamed "internal/strconv.uint64pow10" = some 1 := by kernel_rfl
theorem g_syn : Tryz.prog.globalNamed "strconv.ErrSyntax" = some 2 := by kernel_rfl
theorem g_rng : Tryz.prog.globalNamed "strconv.ErrRange" = some 3 := by kernel_rfl
theorem LibW.later {w w1 : World} (h : LibW w) (hb : Below w.heap.size w w1) : LibW w1 where
 tab := Joins.var_stays g_tab h.tab hb (Nat.le_refl _)
 len := by obtain ⟨m, hm⟩ := h.len; exact ⟨m, ((bcell hb).1 _ _ (cell_lt hm)).trans hm⟩
 syn := by obtain ⟨t, p, hm⟩ := h.syn; exact ⟨t, p, Joins.var_stays g_syn hm hb (Nat.le_refl _)⟩
 rng := by obtain ⟨t, p, hm⟩ := h.rng; exact ⟨t, p, Joins.var_stays g_rng hm hb (Nat.le_refl _)⟩
def Int64 (n : Int) : Prop := -9223372036854775808 ≤ n ∧ n ≤ 9223372036854775807
theorem below_grow1 (w : World) (k : Nat) (os : Array Obj) : Below w.heap.size w (Go.Sort.grow (w.drewN k) os) := by
 have h := Joins.below_draws w.heap.size w k
 have e : (Go.Sort.grow (w.drewN k) os).heap = w.heap ++ os := rfl
 exact ⟨h.os, h.tape, h.output, by rw [e]; simp, fun j hj => by rw [e, Array.getElem?_append_left hj]⟩
theorem c_Itoa (n : Int) (w : World) (hl : LibW w) (hn : Int64 n) :
  Calls Tryz.prog 95 #[.int .i64 n] w fun e w' => e = .returned (.string (itoaS n)) ∧ Below w.heap.size w w' := by
 refine (Tryz.strconv_Itoa n hn.1 hn.2 w hl.tab).mono ?_
 rintro e w' ⟨rfl, k, os, rfl⟩
 exact ⟨rfl, below_grow1 w k os⟩
theorem c_Atoi_ok (s : ByteArray) (v : Int) (w : World) (hs : s.size ≤ 1000000) (h : Lib.atoiAll s.data.toList = .ok v) :
  Calls Tryz.prog 186 #[.string s] w fun e w' => e = .returned (.tuple #[.int .i64 v, .nilIface]) ∧ Below w.heap.size w w' := by
 refine (Tryz.strconv_Atoi_ok s (by omega) v h w).mono ?_
 rintro e w' ⟨rfl, rfl | ⟨t, rfl⟩⟩
 ·exact ⟨rfl, Below.refl _ _⟩
 ·exact ⟨rfl, Joins.below_bytesWorld _ _ _ _ (Nat.le_refl _)⟩
def FailsInt (w : World) (e : Ending) (w' : World) : Prop := (∃ x t p, e = .returned (.tuple #[.int .i64 x, .iface t p])) ∧ Below w.heap.size w w'
theorem c_Atoi_no (s : ByteArray) (w : World) (hl : LibW w) (hs : s.size ≤ 1000000) (h : ∀ v, Lib.atoiAll s.data.toList ≠ .ok v) :
    Calls Tryz.prog 186 #[.string s] w (FailsInt w) := by
  obtain ⟨t1, p1, h1⟩ := hl.syn
  obtain ⟨t2, p2, h2⟩ := hl.rng
  cases hc : Lib.atoiAll s.data.toList
  all_goals first
    | exact (h _ hc).elim
    | (refine Calls.mono (show Calls Tryz.prog 186 #[.string s] w _ from Any.strconv_Atoi_syntax_var Tryz.laysC172 s (by omega) hc t1 p1 w h1) ?_
       rintro e w' ⟨N, he, _, _, hb⟩
       exact ⟨⟨_, _, _, he⟩, hb⟩)
    | (refine Calls.mono (show Calls Tryz.prog 186 #[.string s] w _ from Any.strconv_Atoi_range_var Tryz.laysC172 s (by omega) hc t2 p2 w h2) ?_
       rintro e w' ⟨N, he, _, _, hb⟩
       exact ⟨⟨_, _, _, he⟩, hb⟩)
theorem c_Join (sep : ByteArray) (l : List ByteArray) (a : Option Addr) (cap : Nat) (w : World) (h : Strs w a l) (hc : l.length ≤ cap) (hlen : (Lib.join (l.map (·.data.toList)) sep.data.toList).length ≤ 140737488355328) :
  Calls Tryz.prog 96 #[.slice a l.length cap, .string sep] w fun e w' => e = .returned (.string ⟨(Lib.join (l.map (·.data.toList)) sep.data.toList).toArray⟩) ∧ Below w.heap.size w w' := by
 by_cases hn : l = []
 ·subst hn
  refine (Tryz.strings_Join_none a cap sep w).mono ?_
  rintro e w' ⟨rfl, rfl⟩
  exact ⟨rfl, Below.refl _ _⟩
 ·obtain ⟨b, o, rfl, hk⟩ := h.2 hn
  obtain ⟨x0, hx0⟩ := some_at (List.length_pos_iff.2 hn)
  refine Tryz.strings_Join b o cap l sep w (fun j x hx => ?_) (cell_lt (by simpa using str_cell (hk 0 x0 hx0))) (by have := h.1; omega) hc hlen
  have := str_cell (hk j x hx)
  simpa using this
theorem splitK_len (sep : List UInt8) (k : Nat) : ∀ (s : List UInt8), ∀ p ∈ Lib.splitK sep 0 k s, p.length ≤ s.length := by
 induction k with
 | zero => intro s p hp; simp [Lib.splitK] at hp; subst hp; exact Nat.le_refl _
 | succ k ih =>
  intro s p hp
  rw [Lib.splitK] at hp
  split at hp
  ·simp at hp; subst hp; exact Nat.le_refl _
  ·rcases List.mem_cons.1 hp with rfl | hp
   ·exact List.length_take_le' _ _
   ·have := ih _ p hp
    simp at this
    omega
theorem pieces_data (c : UInt8) (s : ByteArray) : (piecesC c s).map (·.data.toList) = Lib.split s.data.toList [c] := Lib.splitB_data _ _ _ _
theorem pieces_count (c : UInt8) (s : ByteArray) : (piecesC c s).length = Lib.countB s ⟨#[c]⟩ + 1 := Lib.splitB_all ⟨#[c]⟩ (by simp [ByteArray.size]) 0 _ s rfl
theorem pieces_len (c : UInt8) (s : ByteArray) : (piecesC c s).length ≤ s.size + 1 := by
 rw [pieces_count]
 exact Nat.succ_le_succ (Lib.countB_le ⟨#[c]⟩ (by simp [ByteArray.size]) _ s (Nat.le_refl _))
theorem pieces_each (c : UInt8) (s : ByteArray) (p : ByteArray) (hp : p ∈ piecesC c s) : p.size ≤ s.size := by
 have h : p.data.toList ∈ Lib.split s.data.toList [c] := by rw [← pieces_data]; exact List.mem_map_of_mem hp
 have := splitK_len _ _ _ _ h
 simpa using this
theorem c_Split (c : UInt8) (s : ByteArray) (w : World) (hl : LibW w) (hs : s.size ≤ 1000000) :
  Calls Tryz.prog 73 #[.string s, .string ⟨#[c]⟩] w fun e w' => e = .returned (.slice (some ⟨w.heap.size, 0, none⟩) (piecesC c s).length (piecesC c s).length) ∧ Strs w' (some ⟨w.heap.size, 0, none⟩) (piecesC c s) ∧ Below w.heap.size w w' := by
 obtain ⟨m, hm⟩ := hl.len
 refine (Tryz.strings_Split s ⟨#[c]⟩ m w (by omega) hm (by simp [ByteArray.size])).mono ?_
 rintro e w' ⟨rfl, rfl⟩
 have e1 : ((Lib.splitB ⟨#[c]⟩ 0 (Lib.countB s ⟨#[c]⟩) s).map Value.string) = cellsL strC (piecesC c s) := by
  unfold cellsL strC piecesC
  generalize Lib.splitB ⟨#[c]⟩ 0 (Lib.countB s ⟨#[c]⟩) s = l
  induction l with
  | nil => rfl
  | cons x r ih => rw [List.flatMap_cons, ← ih]; rfl
 rw [e1]
 exact ⟨by rw [pieces_count], Lst.new strC_len w _ 9 (by have := pieces_len c s; omega), by go_grown⟩
end Go.Proofs.YtlppdgaogdpajaaGreatDoor
namespace Go.Proofs.YtlppdgaogdpajaaGreatDoor
open Go.RowKit Go.Shelf
attribute [local go_sem] Oper.semAt_some
theorem c_follow (m : Fm) (l : List Rp) (a : Option Addr) (cap : Nat) (x : Rp) (w : World) (hs : Small m.f) (ok : RpOk x) (hl : Rps w a l) :
  Calls Tryz.prog 116 #[m.v, .slice a l.length cap, x.v] w fun e w' => e = endV (followE m.f l x) ∧ Below w.heap.size w w' := by
 obtain ⟨id, known, kind, owner, sort, plc, tick, low, high, void⟩ := x
 by_cases n8 : kind = 8
 ·subst n8; exact c_follow_v m l a cap id known owner plc tick low high void sort w hs ok hl
 ·exact c_follow_o m l a cap id known kind owner plc tick low high void sort w hs ok hl n8
theorem c_follows (m : Fm) (l : List Rp) (a : Option Addr) (cap i : Nat) (x : Rp) (fb lb ib xb : Nat) (w : World) (hs : Small m.f) (ok : RpOk x) (hl : Rps w a l) (hi : i ≤ l.length) (hcap : l.length ≤ cap)
  (hf : CellsAt w fb 0 (feC m)) (hla : w.cell? ⟨lb, 0, none⟩ = some (.slice a l.length cap)) (hib : w.cell? ⟨ib, 0, none⟩ = some (.int .i64 i)) (hx : CellsAt w xb 0 (rpC x)) :
  Calls Tryz.prog 115 #[.pointer (some ⟨fb, 0, none⟩), .pointer (some ⟨lb, 0, none⟩), .pointer (some ⟨ib, 0, none⟩), .pointer (some ⟨xb, 0, none⟩)] w fun e w' => e = endV (followE m.f (l.take i) x) ∧ Below w.heap.size w w' := by
 obtain ⟨q0, q1, q2, q3⟩ := fe_cells hf
 obtain ⟨r0, r1, r2, r3, r4, r5, r6, r7, r8, r9⟩ := rp_cells hx
 have ht : (l.take i).length = i := by rw [List.length_take]; omega
 have hj := fun W (hb : Below w.heap.size w W) => c_follow m (l.take i) a i x W hs ok ((hl.take i).later hb)
 rw [ht] at hj
 have i0 : ¬ ((i : Int) < 0) := by omega
 have i1 : i ≤ cap := by omega
 have i2 : (i : Int) ≤ (cap : Int) := by omega
 have i3 : (i : Int) ≤ (l.length : Int) := by omega
 obtain ⟨E, hE⟩ : ∃ E, followE m.f (l.take i) x = E := ⟨_, rfl⟩
 rw [hE] at hj ⊢
 clear hf hx hs ok hl hE ht
 obtain ⟨id, known, kind, owner, sort, plc, tick, low, high, void⟩ := x
 dsimp only at r0 r1 r2 r3 r4 r5 r6 r7 r8 r9
 have hb0 := Below.refl w.heap.size w
 by_cases h : E = 0
 ·subst h
  rw [endV_0] at hj ⊢
  have HJ := Lib.hid hj
  clear hj
  go_enter Tryz.func115, Tryz.ntmps115
  have kq0 := later_cell q0
  have kq1 := later_cell q1
  have kq2 := later_cell q2
  have kq3 := later_cell q3
  have kr0 := later_cell r0
  have kr1 := later_cell r1
  have kr2 := later_cell r2
  have kr3 := later_cell r3
  have kr4 := later_cell r4
  have kr5 := later_cell r5
  have kr6 := later_cell r6
  have kr7 := later_cell r7
  have kr8 := later_cell r8
  have kr9 := later_cell r9
  have khla := later_cell hla
  have khib := later_cell hib
  refine wp_region_sink 6 w (by kernel_rfl) (by kernel_rfl) (Below.refl _ _) ?_
  simp only [List.take_succ_cons, List.take_zero, List.drop_succ_cons, List.drop_zero]
  repeat (go_big_quiet_step (fail))
  refine wpQuiet_nil ?_
  rintro ⟨W1, hB⟩
  dsimp only
  have hc := (bcell hB).1
  have hf := (bcell hB).2
  have hz := hB.size
  clear kq0 kq1 kq2 kq3 kr0 kr1 kr2 kr3 kr4 kr5 kr6 kr7 kr8 kr9 khla khib
  have zz := cy16 hc q0 q1 q2 q3 r0 r1 r2 r3 r4 r5 r6 r7 r8 r9 hla hib
  clear q0 q1 q2 q3 r0 r1 r2 r3 r4 r5 r6 r7 r8 r9 hla hib
  obtain ⟨q0, q1, q2, q3, r0, r1, r2, r3, r4, r5, r6, r7, r8, r9, hla, hib⟩ := zz
  replace hb0 : Below w.heap.size w W1 := bthen hb0 hB
  have hzW1 : w.heap.size ≤ W1.heap.size := hz
  clear hc hf hB hz
  go_wp2_with fail
  refine (via (w0 := W1) (by go_grown) (HJ.out _ hb0)).mono ?_
  rintro e W2 ⟨rfl, hc, hf, hz, hB⟩
  have zz := cy16 hc q0 q1 q2 q3 r0 r1 r2 r3 r4 r5 r6 r7 r8 r9 hla hib
  clear q0 q1 q2 q3 r0 r1 r2 r3 r4 r5 r6 r7 r8 r9 hla hib
  obtain ⟨q0, q1, q2, q3, r0, r1, r2, r3, r4, r5, r6, r7, r8, r9, hla, hib⟩ := zz
  replace hb0 : Below w.heap.size w W2 := bthen hb0 hB
  have hzW2 : W1.heap.size ≤ W2.heap.size := hz
  clear hc hf hB hz
  go_wp2
  go_end0
  exact ⟨rfl, hb0⟩
 ·rw [endV_no h] at hj ⊢
  have HJ := Lib.hid hj
  clear hj h
  go_enter Tryz.func115, Tryz.ntmps115
  have kq0 := later_cell q0
  have kq1 := later_cell q1
  have kq2 := later_cell q2
  have kq3 := later_cell q3
  have kr0 := later_cell r0
  have kr1 := later_cell r1
  have kr2 := later_cell r2
  have kr3 := later_cell r3
  have kr4 := later_cell r4
  have kr5 := later_cell r5
  have kr6 := later_cell r6
  have kr7 := later_cell r7
  have kr8 := later_cell r8
  have kr9 := later_cell r9
  have khla := later_cell hla
  have khib := later_cell hib
  refine wp_region_sink 6 w (by kernel_rfl) (by kernel_rfl) (Below.refl _ _) ?_
  simp only [List.take_succ_cons, List.take_zero, List.drop_succ_cons, List.drop_zero]
  repeat (go_big_quiet_step (fail))
  refine wpQuiet_nil ?_
  rintro ⟨W1, hB⟩
  dsimp only
  have hc := (bcell hB).1
  have hf := (bcell hB).2
  have hz := hB.size
  clear kq0 kq1 kq2 kq3 kr0 kr1 kr2 kr3 kr4 kr5 kr6 kr7 kr8 kr9 khla khib
  have zz := cy16 hc q0 q1 q2 q3 r0 r1 r2 r3 r4 r5 r6 r7 r8 r9 hla hib
  clear q0 q1 q2 q3 r0 r1 r2 r3 r4 r5 r6 r7 r8 r9 hla hib
  obtain ⟨q0, q1, q2, q3, r0, r1, r2, r3, r4, r5, r6, r7, r8, r9, hla, hib⟩ := zz
  replace hb0 : Below w.heap.size w W1 := bthen hb0 hB
  have hzW1 : w.heap.size ≤ W1.heap.size := hz
  clear hc hf hB hz
  go_wp2_with fail
  refine (via (w0 := W1) (by go_grown) (HJ.out _ hb0)).mono ?_
  rintro e W2 ⟨rfl, hc, hf, hz, hB⟩
  have zz := cy16 hc q0 q1 q2 q3 r0 r1 r2 r3 r4 r5 r6 r7 r8 r9 hla hib
  clear q0 q1 q2 q3 r0 r1 r2 r3 r4 r5 r6 r7 r8 r9 hla hib
  obtain ⟨q0, q1, q2, q3, r0, r1, r2, r3, r4, r5, r6, r7, r8, r9, hla, hib⟩ := zz
  replace hb0 : Below w.heap.size w W2 := bthen hb0 hB
  have hzW2 : W1.heap.size ≤ W2.heap.size := hz
  clear hc hf hB hz
  go_wp2
  exact ⟨rfl, rfl, hb0⟩
theorem from_step {f : Fe} {l : List Rp} {k : Nat} {x : Rp} (h : l[k]? = some x) :
  checkFrom f (l.take k) (l.drop k) = if followE f (l.take k) x ≠ 0 then ((k : Int), followE f (l.take k) x) else checkFrom f (l.take (k + 1)) (l.drop (k + 1)) := by
 have hk := some_lt h
 have e : l.drop k = x :: l.drop (k + 1) := by
  rw [List.drop_eq_getElem_cons hk]
  have : l[k] = x := by rw [List.getElem?_eq_getElem hk] at h; exact Option.some.inj h
  rw [this]
 have ht : (l.take k).length = k := by rw [List.length_take]; omega
 rw [e, checkFrom, ht, take_some h]
theorem from_end {f : Fe} {l : List Rp} : checkFrom f (l.take l.length) (l.drop l.length) = (0, 0) := by
 rw [List.drop_length]
 rfl
abbrev pairV (r : Int × Int) : Value := .tuple #[.int .i64 r.1, .int .i64 r.2]
theorem c_Check_no (m : Fm) (l : List Rp) (a : Option Addr) (cap : Nat) (w : World) (hm : m.In w) (h : checkE m.f ≠ 0) :
  Calls Tryz.prog 29 #[m.v, .slice a l.length cap] w fun e w' => e = .returned (pairV (0, checkE m.f)) ∧ Below w.heap.size w w' := by
 have hC := fun W (hb : Below w.heap.size w W) => c_CheckFell m W (hm.later hb)
 generalize checkE m.f = E at *
 have he : (E != 0) = true := bne_iff_ne.2 h
 have HC := Lib.hid hC
 clear hC h hm
 go_enter Tryz.func29, Tryz.ntmps29
 go_upto_region 1 with (fail)
 go_name_world W1 hW1
 have hb0 : Below w.heap.size w W1 := by subst hW1; go_grown
 obtain ⟨q0, q1, q2, q3⟩ := (show QB m W1 w.heap.size from by subst hW1; and_intros <;> go_simp)
 clear hW1 
 go_wp2_with fail
 refine (via (w0 := W1) (by go_grown) (HC.out _ hb0)).mono ?_
 rintro e W2 ⟨rfl, hc, hf, hz, hB⟩
 have zz := cy4 hc q0 q1 q2 q3
 clear q0 q1 q2 q3
 obtain ⟨q0, q1, q2, q3⟩ := zz
 replace hb0 : Below w.heap.size w W2 := bthen hb0 hB
 have hzW2 : W1.heap.size ≤ W2.heap.size := hz
 clear hc hf hB hz
 go_wp2_with fail
 go_ret2
 exact ⟨rfl, by have hbz := hb0.size; go_grown⟩
theorem c_Check_ok (m : Fm) (l : List Rp) (a : Option Addr) (cap : Nat) (w : World) (hm : m.In w) (hl : Rps w a l) (hok : ∀ x ∈ l, RpOk x) (hcap : l.length ≤ cap) (h : checkE m.f = 0) :
  Calls Tryz.prog 29 #[m.v, .slice a l.length cap] w fun e w' => e = .returned (pairV (checkFrom m.f [] l)) ∧ Below w.heap.size w w' := by
 have hmf : ∀ (fn : Fn) (first cap : Array Value) (w : World), (Instr.makeFunc fn first cap).run Tryz.prog w = .ok (.func fn first cap) w := fun _ _ _ _ => rfl
 have hC := fun W (hb : Below w.heap.size w W) => c_CheckFell m W (hm.later hb)
 rw [h] at hC
 have hs := (right_of h).small
 have hlen := hl.1
 have eg : Ent 115 := enters_of Tryz.func115 (by kernel_rfl) rfl
 have HT := Lib.hid (fun (W : World) (ib i : Nat) (x : Rp) (hb : Below w.heap.size w W) (ok : RpOk x) (hi : i ≤ l.length) (hf : CellsAt W w.heap.size 0 (feC m)) (hla : W.cell? ⟨w.heap.size + 1, 0, none⟩ = some (.slice a l.length cap)) (hib : W.cell? ⟨ib, 0, none⟩ = some (.int .i64 i)) (hx : CellsAt W (ib + 1) 0 (rpC x)) =>
  c_tried 115 eg #[.pointer (some ⟨w.heap.size, 0, none⟩), .pointer (some ⟨w.heap.size + 1, 0, none⟩), .pointer (some ⟨ib, 0, none⟩), .pointer (some ⟨ib + 1, 0, none⟩)] (followE m.f (l.take i) x) W fun V hv =>
   c_follows m l a cap i x _ _ _ _ V hs ok (hl.later (bthen hb hv)) hi hcap (cells_later hf hv) (((bcell hv).1 _ _ (cell_lt hla)).trans hla) (((bcell hv).1 _ _ (cell_lt hib)).trans hib) (cells_later hx hv))
 have HC := Lib.hid hC
 have HL := Lib.hid hl
 have HOK := Lib.hid hok
 clear hC hs h hm hl hok
 go_enter Tryz.func29, Tryz.ntmps29
 go_upto_region 1 with (fail)
 go_name_world W1 hW1
 have hb0 : Below w.heap.size w W1 := by subst hW1; go_grown
 obtain ⟨q0, q1, q2, q3⟩ := (show QB m W1 w.heap.size from by subst hW1; and_intros <;> go_simp)
 have la : W1.cell? ⟨w.heap.size + 1, 0, none⟩ = some (.slice a l.length cap) := by subst hW1; go_simp
 clear hW1 
 go_wp2_with fail
 refine (via (w0 := W1) (by go_grown) (HC.out _ hb0)).mono ?_
 rintro e W2 ⟨rfl, hc, hf, hz, hB⟩
 have zz := cy5 hc q0 q1 q2 q3 la
 clear q0 q1 q2 q3 la
 obtain ⟨q0, q1, q2, q3, la⟩ := zz
 replace hb0 : Below w.heap.size w W2 := bthen hb0 hB
 have hzW2 : W1.heap.size ≤ W2.heap.size := hz
 clear hc hf hB hz
 go_wp2_with fail
 go_loopw [17] (fun v17 wr => ∃ k : Nat, k ≤ l.length ∧ v17 = .int .i64 k ∧ checkFrom m.f [] l = checkFrom m.f (l.take k) (l.drop k) ∧ Below w.heap.size w wr ∧ CellsAt wr w.heap.size 0 (feC m) ∧ wr.cell? ⟨w.heap.size + 1, 0, none⟩ = some (.slice a l.length cap)) (fun v17 _ => l.length - (intOf v17).toNat)
 case atStart => exact ⟨0, by omega, rfl, rfl, hb0, cells_4 q0 q1 q2 q3, la⟩
 case round =>
  clear q0 q1 q2 q3 la hb0
  obtain ⟨k, hk, rfl, hi, hb0, hq, la⟩ := hrel
  obtain ⟨q0, q1, q2, q3⟩ := fe_cells hq
  clear hq
  have HI := Lib.hid hi
  clear hi
  by_cases hlt : k < l.length
  ·obtain ⟨x, hx⟩ := some_at hlt
   obtain ⟨b, o, rfl, hat⟩ := (HL.out.later hb0).at hx
   have ok := HOK.out x (some_mem hx)
   have HST := Lib.hid (from_step (f := m.f) hx)
   have hi1 : ¬ (k : Int) < 0 := by omega
   have hi2 : (k : Int) < (l.length : Int) := by omega
   clear hx
   obtain ⟨y0, y1, y2, y3, y4, y5, y6, y7, y8, y9⟩ := rp_cells hat
   clear hat
   obtain ⟨E, hE⟩ : ∃ E, followE m.f (l.take k) x = E := ⟨_, rfl⟩
   rw [hE] at HST
   have HT2 := HT.out
   obtain ⟨id, known, kind, owner, sort, plc, tick, low, high, void⟩ := x
   dsimp only at y0 y1 y2 y3 y4 y5 y6 y7 y8 y9
   go_upto_region 7 with (fail)
   go_name_world W3 hW3
   have hbz := hb0.size
   replace hb0 : Below w.heap.size w W3 := by subst hW3; go_grown
   clear hbz
   have hbk : Below wr.heap.size wr W3 := by subst hW3; go_grown
   have zz := cl5 hbk q0 q1 q2 q3 la
   clear q0 q1 q2 q3 la
   obtain ⟨q0, q1, q2, q3, la⟩ := zz
   clear hbk
   have ib : W3.cell? ⟨wr.heap.size, 0, none⟩ = some (.int .i64 k) := by subst hW3; go_simp
   obtain ⟨r0, r1, r2, r3, r4, r5, r6, r7, r8, r9⟩ := (show RB id known kind owner sort plc tick low high void W3 (wr.heap.size + 1) from by subst hW3; and_intros <;> go_simp)
   clear hW3
   have hT := HT.out _ wr.heap.size k ⟨id, known, kind, owner, sort, plc, tick, low, high, void⟩ hb0 ok hk (cells_4 q0 q1 q2 q3) la ib (cells_10 r0 r1 r2 r3 r4 r5 r6 r7 r8 r9)
   rw [hE] at hT
   have HTT := Lib.hid hT
   clear hT hE ok HT2
   by_cases he : E = 0
   ·subst he
    go_wp2_with fail
    refine (via (w0 := W3) (by go_grown) (HTT.out)).mono ?_
    rintro e W4 ⟨rfl, hc, hf, hz, hB⟩
    have zz := cy16 hc q0 q1 q2 q3 la ib r0 r1 r2 r3 r4 r5 r6 r7 r8 r9
    clear q0 q1 q2 q3 la ib r0 r1 r2 r3 r4 r5 r6 r7 r8 r9
    obtain ⟨q0, q1, q2, q3, la, ib, r0, r1, r2, r3, r4, r5, r6, r7, r8, r9⟩ := zz
    replace hb0 : Below w.heap.size w W4 := bthen hb0 hB
    have hzW4 : W3.heap.size ≤ W4.heap.size := hz
    clear hc hf hB hz
    go_wp2
    go_roundw
    case rel => exact ⟨k + 1, by omega, by go_num, HI.out.trans (HST.out.trans (if_neg (by simp))), hb0, cells_4 q0 q1 q2 q3, la⟩
    case measure => simp [intOf]; omega
   ·have he2 : (E != 0) = true := bne_iff_ne.2 he
    have HE0 := Lib.hid he
    clear he
    go_wp2_with fail
    refine (via (w0 := W3) (by go_grown) (HTT.out)).mono ?_
    rintro e W4 ⟨rfl, hc, hf, hz, hB⟩
    have zz := cy16 hc q0 q1 q2 q3 la ib r0 r1 r2 r3 r4 r5 r6 r7 r8 r9
    clear q0 q1 q2 q3 la ib r0 r1 r2 r3 r4 r5 r6 r7 r8 r9
    obtain ⟨q0, q1, q2, q3, la, ib, r0, r1, r2, r3, r4, r5, r6, r7, r8, r9⟩ := zz
    replace hb0 : Below w.heap.size w W4 := bthen hb0 hB
    have hzW4 : W3.heap.size ≤ W4.heap.size := hz
    clear hc hf hB hz
    go_wp2
    go_ret2
    exact ⟨by rw [HI.out, HST.out, if_pos HE0.out]; rfl, hb0⟩
  ·obtain rfl : k = l.length := by omega
   go_wp2
   go_ret2
   exact ⟨by rw [HI.out, from_end]; rfl, hb0⟩
theorem c_Check (m : Fm) (l : List Rp) (a : Option Addr) (cap : Nat) (w : World) (hm : m.In w) (hl : Rps w a l) (hok : ∀ x ∈ l, RpOk x) (hcap : l.length ≤ cap) :
  Calls Tryz.prog 29 #[m.v, .slice a l.length cap] w fun e w' => e = .returned (pairV (checkV m.f l)) ∧ Below w.heap.size w w' := by
 unfold checkV
 by_cases h : checkE m.f = 0
 ·rw [if_neg (by omega)]; exact c_Check_ok m l a cap w hm hl hok hcap h
 ·rw [if_pos h]; exact c_Check_no m l a cap w hm h
end Go.Proofs.YtlppdgaogdpajaaGreatDoor
namespace Go.Proofs.YtlppdgaogdpajaaGreatDoor
open Go Go.RowKit Go.Shelf
attribute [local go_sem] Oper.semAt_some
theorem Lst.cells {α : Type} {enc : α → List Value} {n : Nat} (hn : ∀ x, (enc x).length = n) (h0 : 0 < n) {w : World} {b o : Nat} {l : List α} (h : Lst enc n w (some ⟨b, o, none⟩) l) :
  ∀ j u, (cellsL enc l)[j]? = some u → w.cell? ((⟨b, o, none⟩ : Addr).add j) = some u := by
 intro j u hj
 have hlen : (cellsL enc l).length = l.length * n := by
  clear h hj
  unfold cellsL
  induction l with
  | nil => simp
  | cons x r ih => rw [List.flatMap_cons, List.length_append, ih, hn, List.length_cons, Nat.succ_mul, Nat.add_comm]
 have hlt : j < l.length * n := by rw [← hlen]; exact (List.getElem?_eq_some_iff.1 hj).1
 have hk : j / n < l.length := Nat.div_lt_of_lt_mul (by rw [Nat.mul_comm]; exact hlt)
 obtain ⟨x, hx⟩ := some_at hk
 have hm : j % n < n := Nat.mod_lt _ h0
 have e : j / n * n + j % n = j := by rw [Nat.mul_comm]; exact Nat.div_add_mod j n
 have hg := cellsL_get hn l (j / n) (j % n) hm x hx
 rw [e, hj] at hg
 obtain ⟨b', o', ha, hat⟩ := h.at hx
 cases ha
 have := hat (j % n) u hg.symm
 rw [Nat.add_assoc, e] at this
 by_cases hj0 : j = 0
 ·subst hj0; exact this
 ·have e2 : (⟨b, o, none⟩ : Addr).add j = ⟨b, o + j, none⟩ := if_neg hj0
  rw [e2]; exact this
theorem rpC_one (l : List Rp) : ∀ u ∈ cellsL rpC l, u.oneCell' = true := by
 intro u hu
 obtain ⟨x, _, hx⟩ := List.mem_flatMap.1 hu
 simp only [rpC, List.mem_cons, List.not_mem_nil, or_false] at hx
 rcases hx with rfl | rfl | rfl | rfl | rfl | rfl | rfl | rfl | rfl | rfl <;> rfl
theorem cellsL_len {α : Type} {enc : α → List Value} {n : Nat} (hn : ∀ x, (enc x).length = n) (l : List α) : (cellsL enc l).length = l.length * n := by
 unfold cellsL
 induction l with
 | nil => simp
 | cons x r ih => rw [List.flatMap_cons, List.length_append, ih, hn, List.length_cons, Nat.succ_mul, Nat.add_comm]
theorem rp_info : (Tryz.prog.info? 39).map (fun i => (i.zero, i.size, i.bytes)) = some (some (.agg #[.int .i64 0, .int .i64 0, .int .u8 0, .int .i64 0, .string ByteArray.empty, .int .i64 0, .int .i64 0, .int .i64 0, .int .i64 0, .int .i64 0]), 10, 88) := by kernel_rfl
abbrev OwnR (w' : World) (base : Nat) (v : Value) (l : List Rp) : Prop := w'.ownsRow base 39 10 v l.length (cellsL rpC l)
theorem Lst.cells' {α : Type} {enc : α → List Value} {n : Nat} (hn : ∀ x, (enc x).length = n) (h0 : 0 < n) {w : World} {ad : Addr} {l : List α} (h : Lst enc n w (some ad) l) :
  ∀ j u, (cellsL enc l)[j]? = some u → w.cell? (ad.add j) = some u := by
 by_cases hl : l = []
 ·subst hl; intro j u hj; cases hj
 ·obtain ⟨b, o, ha, _⟩ := h.2 hl
  cases ha
  exact h.cells hn h0
theorem c_CloneRp (l : List Rp) (a : Option Addr) (cap : Nat) (w : World) (hl : Rps w a l) (hsm : l.length ≤ 100000) (ha : a = none → cap = 0) :
  Calls Tryz.prog 119 #[.slice a l.length cap] w fun e w' => ∃ v, e = .returned v ∧ OwnR w' w.heap.size v l ∧ Below w.heap.size w w' := by
 cases a with
 | none =>
  obtain rfl := ha rfl
  have hnil : l = [] := by
   by_cases h : l = []
   ·exact h
   ·obtain ⟨b, o, h, _⟩ := hl.2 h; cases h
  subst hnil
  clear hl ha
  have he : ∀ W, (binOp BinOp.eql 37 (Value.slice none 0 0) (Value.slice none 0 0)).run Tryz.prog W = .ok (.bool true) W := fun _ => by kernel_rfl
  rw [show ([] : List Rp).length = 0 from rfl]
  go_enter Tryz.func119, Tryz.ntmps119
  go_wp2
  go_ret
  exact ⟨_, rfl, World.ownsRow_nil _ _ _ _, Below.refl _ _⟩
 | some ad =>
  clear ha
  obtain ⟨i0, hi0, hz0, hz1, hz2⟩ := info_parts rp_info
  have he : ∀ W, (binOp BinOp.eql 37 (Value.slice (some ad) l.length cap) (Value.slice none 0 0)).run Tryz.prog W = .ok (.bool false) W := fun _ => by kernel_rfl
  have how := World.ownsRow_lit (base := w.heap.size) (e := 39) (size := 10) w #[] 0 (Nat.le_refl _) (by unfold maxLen; omega) rfl
  have HW := Lib.hid how
  have HLT := Lib.hid how.lt
  clear how
  have HN := Lib.hid ((hl.later (show Below w.heap.size w (w.alloc (.cells #[] 39)) from by go_grown)).cells' rpC_len (by omega))
  clear hl
  go_enter Tryz.func119, Tryz.ntmps119
  go_wp2_with (at_builtin; refine stuckHere ?_)
  refine unHid ?_
  refine wpList_append_own_at _ rfl _ _ 37 rfl w.heap.size 39 i0 _ 10 88 Tryz.underlying37 hi0 hz0 hz1 hz2 rfl (by decide) _ 0 [] rfl HW.out ad l.length cap (cellsL rpC l) rfl (cellsL_len rpC_len l) HN.out (rpC_one l) (by unfold maxLen; omega) (by omega) (by simp) ?_
  intro v' w1 hown hgrow _ hat
  have hbb : Below w.heap.size w w1 := (show Below w.heap.size w (w.alloc (.cells #[] 39)) from by go_grown).trans ((kept_of_grown hgrow).below (by simp) (fun j hj => (HLT.out j hj).1))
  rw [Nat.zero_add, List.nil_append] at hown
  have HO := Lib.hid hown
  have HB := Lib.hid hbb
  clear hown hgrow hat hbb HN
  go_wp2
  go_ret
  exact ⟨_, rfl, HO.out, HB.out⟩
end Go.Proofs.YtlppdgaogdpajaaGreatDoor
