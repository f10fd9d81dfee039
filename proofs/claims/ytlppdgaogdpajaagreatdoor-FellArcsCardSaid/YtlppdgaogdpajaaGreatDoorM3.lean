/- This text is a part of the proof: Find, FindLaw, RefPlaced, NumbersLaw, RefFind, RefReport, RefWord, RefArcs, SizedOf. -/
import Derived.Test.YtlppdgaogdpajaaGreatDoorK33
import Derived.Test.YtlppdgaogdpajaaGreatDoorM2
set_option maxRecDepth 100000
set_option maxHeartbeats 4000000
namespace Go.Proofs.YtlppdgaogdpajaaGreatDoor
theorem idxP_of {α : Type} (p : α → Bool) : ∀ (l : List α) (k i : Nat), (∀ (j : Nat) y, l[j]? = some y → p y = true → j = i) → (∃ y, l[i]? = some y ∧ p y = true) → idxP p l k = (k : Int) + i
 | [], k, i, _, h => by obtain ⟨y, h, _⟩ := h; simp at h
 | x :: l, k, i, h1, h2 => by
  rw [idxP]
  cases hx : p x with
  | true =>
   have := h1 0 x rfl hx
   simp
   omega
  | false =>
   obtain ⟨y, hy, hp⟩ := h2
   cases i with
   | zero =>
    simp only [List.getElem?_cons_zero, Option.some.injEq] at hy
    subst hy
    rw [hx] at hp
    cases hp
   | succ i =>
    have := idxP_of p l (k + 1) i (fun j y hj hpy => by have := h1 (j + 1) y (by simpa using hj) hpy; omega) ⟨y, by simpa using hy, hp⟩
    rw [if_neg (by simp), this]
    push_cast
    omega
def sameW (kind : ByteArray) (plc tick : Int) (y : Wy) : Bool := decide (y.kind = kind) && y.plc == plc && y.tick == tick
def findR (f : Fe) (kind : ByteArray) (plc tick : Int) : Int := idxP (sameW kind plc tick) (waysL f) 0
theorem numbered_mem {α : Type} {l : List α} {i : Nat} {x : α} (h : l[i]? = some x) : ((i : Int), x) ∈ numbered l := by
 unfold numbered
 refine List.mem_map.2 ⟨(x, i), ?_, rfl⟩
 exact List.mem_zipIdx_iff_getElem?.2 h
theorem upTo_mem {n t : Int} (h0 : 0 ≤ t) (h1 : t < n) : t ∈ upTo n := by
 unfold upTo
 exact List.mem_map.2 ⟨t.toNat, by simp; omega, by omega⟩
theorem find_at {f : Fe} (h : 0 ≤ f.ticks) {y : Wy} (hy : y ∈ waysL f) : findR f y.kind y.plc y.tick = idxW f y.kind y.plc y.tick ∧ ∃ j : Nat, (waysL f)[j]? = some y ∧ idxW f y.kind y.plc y.tick = j := by
 obtain ⟨j, hj⟩ := List.getElem?_of_mem hy
 have hi := ways_idx f h j y hj
 rw [Int.zero_add] at hi
 refine ⟨?_, j, hj, hi⟩
 unfold findR
 rw [idxP_of _ _ 0 j (fun i z hz hp => ?_) ⟨y, hj, by simp [sameW]⟩]
 ·show _ = gW f y
  rw [hi]
  simp
 ·have hz' := ways_idx f h i z hz
  simp only [sameW, Bool.and_eq_true, beq_iff_eq, decide_eq_true_eq] at hp
  obtain ⟨⟨h1, h2⟩, h3⟩ := hp
  unfold gW at hz' hi
  rw [h1, h2, h3] at hz'
  omega
theorem stay_mem {f : Fe} {t p : Int} (h0 : 0 ≤ t) (h1 : t ≤ f.ticks) (h2 : 0 ≤ p) (h3 : p < f.places.length) : ∃ x, f.places[p.toNat]? = some x ∧ wyOf (nodeN f p t) (nodeN f p t + 1) 1000 wStay x.name p t ∈ waysL f := by
 obtain ⟨x, hx⟩ : ∃ x, f.places[p.toNat]? = some x := ⟨f.places[p.toNat]'(by omega), by simp⟩
 refine ⟨x, hx, List.mem_append_left _ (List.mem_flatMap.2 ⟨t, upTo_mem h0 (by omega), List.mem_map.2 ⟨(p, x), ?_, rfl⟩⟩)⟩
 have := numbered_mem hx
 rwa [show ((p.toNat : Nat) : Int) = p by omega] at this
theorem step_mem {f : Fe} {t : Int} (h0 : 0 ≤ t) (h1 : t < f.ticks) {y : Wy} (hy : y ∈ stepOf f t) : y ∈ waysL f :=
 List.mem_append_right _ (List.mem_append_left _ (List.mem_flatMap.2 ⟨t, upTo_mem h0 h1, hy⟩))
theorem move_mem {f : Fe} {t p : Int} (h0 : 0 ≤ t) (h1 : t < f.ticks) (h2 : 0 ≤ p) (h3 : p < f.places.length) : ∃ x, f.places[p.toNat]? = some x ∧ ∀ y ∈ movesAt f t p x.name, y ∈ waysL f := by
 obtain ⟨x, hx⟩ : ∃ x, f.places[p.toNat]? = some x := ⟨f.places[p.toNat]'(by omega), by simp⟩
 refine ⟨x, hx, fun y hy => step_mem h0 h1 (List.mem_append_left _ (List.mem_flatMap.2 ⟨(p, x), ?_, hy⟩))⟩
 have := numbered_mem hx
 rwa [show ((p.toNat : Nat) : Int) = p by omega] at this
theorem pass_mem {f : Fe} {t i : Int} (h0 : 0 ≤ t) (h1 : t < f.ticks) (h2 : 0 ≤ i) (h3 : i < f.gates.length) : ∃ g, f.gates[i.toNat]? = some g ∧ ∀ y ∈ passesAt f t i g, y ∈ waysL f := by
 obtain ⟨g, hg⟩ : ∃ g, f.gates[i.toNat]? = some g := ⟨f.gates[i.toNat]'(by omega), by simp⟩
 refine ⟨g, hg, fun y hy => step_mem h0 h1 (List.mem_append_right _ (List.mem_flatMap.2 ⟨(i, g), ?_, hy⟩))⟩
 have := numbered_mem hg
 rwa [show ((i.toNat : Nat) : Int) = i by omega] at this
theorem find_stay {f : Fe} {p t : Int} (h0 : 0 ≤ t) (h1 : t ≤ f.ticks) (h2 : 0 ≤ p) (h3 : p < f.places.length) : findR f wStay p t = idxN f 1 p t ∧ ∃ (j : Nat) (x : Pl), idxN f 1 p t = j ∧ f.places[p.toNat]? = some x ∧ (waysL f)[j]? = some (wyOf (nodeN f p t) (nodeN f p t + 1) 1000 wStay x.name p t) := by
 obtain ⟨x, hx, hm⟩ := stay_mem h0 h1 h2 h3
 obtain ⟨he, j, hj, hi⟩ := find_at (by omega) hm
 have e : idxW f wStay p t = idxN f 1 p t := by
  unfold idxW idxN
  rw [if_pos rfl, if_pos rfl]
 rw [← e]
 exact ⟨he, j, x, hi, hx, hj⟩
theorem find_kind {f : Fe} {x : Rp} (h : JOk f x) (h8 : ¬ x.kind = 8) : findR f (wordOf x.kind) x.plc x.tick = idxN f x.kind x.plc x.tick := by
 have ht := (h.tells h8).tick
 have hp := (h.tells h8).plc
 have hk := h.kind
 obtain ⟨id, known, kind, owner, sort, plc, tick, low, high, void⟩ := x
 dsimp only at *
 clear h
 by_cases h1 : kind = 1
 ·subst h1
  have hl : lastT f 1 = f.ticks := by unfold lastT; rw [if_pos rfl]
  have hn : thingsN f 1 = f.places.length := by unfold thingsN; rw [if_neg (by decide)]
  rw [hl] at ht
  rw [hn] at hp
  exact (find_stay ht.1 ht.2 hp.1 (by omega)).1
 ·have hl : lastT f kind = f.ticks - 1 := by unfold lastT; rw [if_neg h1]
  rw [hl] at ht
  obtain ⟨r1, b1, b2, d1, d2, d3, u1, u2, u3, u4, s1, s2, s3, s4, s5⟩ := words_ne
  obtain ⟨p1, p2, p3, p4, p5, p6, c1, c2, c3, c4, c5, c6, c7⟩ := words_ne2
  by_cases h2 : kind = 2 ∨ kind = 3
  ·have hn : thingsN f kind = f.gates.length := by unfold thingsN; rw [if_pos h2]
   rw [hn] at hp
   obtain ⟨g, hg, hm⟩ := pass_mem ht.1 (by omega : tick < f.ticks) hp.1 (by omega : plc < f.gates.length)
   rcases h2 with rfl | rfl
   ·have := (find_at (by omega) (hm _ (by unfold passesAt; exact List.mem_cons_self))).1
    refine Eq.trans this ?_
    show idxW f wPass plc tick = _
    unfold idxW idxN
    rw [if_neg p1, if_neg p2, if_neg p3, if_neg p4, if_neg p5, if_neg p6, if_pos rfl, if_neg (by decide), if_pos (by decide)]
    omega
   ·have := (find_at (by omega) (hm _ (by unfold passesAt; exact List.mem_cons_of_mem _ List.mem_cons_self))).1
    refine Eq.trans this ?_
    show idxW f wBack plc tick = _
    unfold idxW idxN
    rw [if_neg c1, if_neg c2, if_neg c3, if_neg c4, if_neg c5, if_neg c6, if_neg c7, if_pos rfl, if_neg (by decide), if_pos (by decide)]
    omega
  ·have hn : thingsN f kind = f.places.length := by unfold thingsN; rw [if_neg h2]
   rw [hn] at hp
   obtain ⟨y, hy, hm⟩ := move_mem ht.1 (by omega : tick < f.ticks) hp.1 (by omega : plc < f.places.length)
   have hc : kind = 4 ∨ kind = 5 ∨ kind = 6 ∨ kind = 7 := by omega
   rcases hc with rfl | rfl | rfl | rfl
   ·have := (find_at (by omega) (hm (wyOf 0 (nodeN f plc (tick + 1)) f.yields wBorn y.name plc tick) (by unfold movesAt; simp))).1
    refine Eq.trans this ?_
    show idxW f wBorn plc tick = _
    unfold idxW idxN
    rw [if_neg b1, if_neg b2, if_pos rfl, if_neg (by decide), if_neg (by decide)]
    omega
   ·have := (find_at (by omega) (hm (wyOf (nodeN f plc tick + 1) 0 f.yields wDead y.name plc tick) (by unfold movesAt; simp))).1
    refine Eq.trans this ?_
    show idxW f wDead plc tick = _
    unfold idxW idxN
    rw [if_neg d1, if_neg d2, if_neg d3, if_pos rfl, if_neg (by decide), if_neg (by decide)]
    omega
   ·have := (find_at (by omega) (hm (wyOf 0 (nodeN f plc (tick + 1)) f.yields wBought y.name plc tick) (by unfold movesAt; simp))).1
    refine Eq.trans this ?_
    show idxW f wBought plc tick = _
    unfold idxW idxN
    rw [if_neg u1, if_neg u2, if_neg u3, if_neg u4, if_pos rfl, if_neg (by decide), if_neg (by decide)]
    omega
   ·have := (find_at (by omega) (hm (wyOf (nodeN f plc tick + 1) 0 f.yields wSold y.name plc tick) (by unfold movesAt; simp))).1
    refine Eq.trans this ?_
    show idxW f wSold plc tick = _
    unfold idxW idxN
    rw [if_neg s1, if_neg s2, if_neg s3, if_neg s4, if_neg s5, if_pos rfl, if_neg (by decide), if_neg (by decide)]
    omega
end Go.Proofs.YtlppdgaogdpajaaGreatDoor
namespace Go.Proofs.YtlppdgaogdpajaaGreatDoor
open Go.RowKit Go.Shelf
attribute [local go_sem] Oper.semAt_some
def placedE (f : Fe) (p t : Int) : Int := if t < 0 ∨ f.ticks < t then 1 else if p < 0 ∨ (f.places.length : Int) ≤ p then 50 else 0
theorem c_rPlaced_t0 (m : Fm) (p t : Int) (w : World) (h1 : t < 0) : Calls Tryz.prog 146 #[m.v, .int .i64 p, .int .i64 t] w fun e w' => e = .returned (.int .i64 1) ∧ Below w.heap.size w w' := by
 go_enter Tryz.func146, Tryz.ntmps146
 go_upto_region 1 with (fail)
 go_name_world W1 hW1
 have hb0 : Below w.heap.size w W1 := by subst hW1; go_grown
 obtain ⟨q0, q1, q2, q3⟩ := (show QB m W1 w.heap.size from by subst hW1; and_intros <;> go_simp)
 clear hW1 
 go_wp2
 go_ret
 exact ⟨rfl, hb0⟩
theorem c_rPlaced_t1 (m : Fm) (p t : Int) (w : World) (h1 : ¬ t < 0) (h2 : m.f.ticks < t) : Calls Tryz.prog 146 #[m.v, .int .i64 p, .int .i64 t] w fun e w' => e = .returned (.int .i64 1) ∧ Below w.heap.size w w' := by
 go_enter Tryz.func146, Tryz.ntmps146
 go_upto_region 1 with (fail)
 go_name_world W1 hW1
 have hb0 : Below w.heap.size w W1 := by subst hW1; go_grown
 obtain ⟨q0, q1, q2, q3⟩ := (show QB m W1 w.heap.size from by subst hW1; and_intros <;> go_simp)
 clear hW1 
 go_wp2
 go_ret
 exact ⟨rfl, hb0⟩
theorem c_rPlaced_p0 (m : Fm) (p t : Int) (w : World) (h1 : ¬ t < 0) (h2 : ¬ m.f.ticks < t) (h3 : p < 0) : Calls Tryz.prog 146 #[m.v, .int .i64 p, .int .i64 t] w fun e w' => e = .returned (.int .i64 50) ∧ Below w.heap.size w w' := by
 go_enter Tryz.func146, Tryz.ntmps146
 go_upto_region 1 with (fail)
 go_name_world W1 hW1
 have hb0 : Below w.heap.size w W1 := by subst hW1; go_grown
 obtain ⟨q0, q1, q2, q3⟩ := (show QB m W1 w.heap.size from by subst hW1; and_intros <;> go_simp)
 clear hW1 
 go_wp2
 go_ret
 exact ⟨rfl, hb0⟩
theorem c_rPlaced_p1 (m : Fm) (p t : Int) (w : World) (h1 : ¬ t < 0) (h2 : ¬ m.f.ticks < t) (h3 : ¬ p < 0) (h4 : (m.f.places.length : Int) ≤ p) : Calls Tryz.prog 146 #[m.v, .int .i64 p, .int .i64 t] w fun e w' => e = .returned (.int .i64 50) ∧ Below w.heap.size w w' := by
 go_enter Tryz.func146, Tryz.ntmps146
 go_upto_region 1 with (fail)
 go_name_world W1 hW1
 have hb0 : Below w.heap.size w W1 := by subst hW1; go_grown
 obtain ⟨q0, q1, q2, q3⟩ := (show QB m W1 w.heap.size from by subst hW1; and_intros <;> go_simp)
 clear hW1 
 go_wp2
 go_ret
 exact ⟨rfl, hb0⟩
theorem c_rPlaced_ok (m : Fm) (p t : Int) (w : World) (h1 : ¬ t < 0) (h2 : ¬ m.f.ticks < t) (h3 : ¬ p < 0) (h4 : ¬ (m.f.places.length : Int) ≤ p) : Calls Tryz.prog 146 #[m.v, .int .i64 p, .int .i64 t] w fun e w' => e = .returned (.int .i64 0) ∧ Below w.heap.size w w' := by
 go_enter Tryz.func146, Tryz.ntmps146
 go_upto_region 1 with (fail)
 go_name_world W1 hW1
 have hb0 : Below w.heap.size w W1 := by subst hW1; go_grown
 obtain ⟨q0, q1, q2, q3⟩ := (show QB m W1 w.heap.size from by subst hW1; and_intros <;> go_simp)
 clear hW1 
 go_wp2
 go_ret
 exact ⟨rfl, hb0⟩
theorem c_rPlaced (m : Fm) (p t : Int) (w : World) : Calls Tryz.prog 146 #[m.v, .int .i64 p, .int .i64 t] w fun e w' => e = .returned (.int .i64 (placedE m.f p t)) ∧ Below w.heap.size w w' := by
 unfold placedE
 by_cases h1 : t < 0
 ·rw [if_pos (.inl h1)]; exact c_rPlaced_t0 m p t w h1
 ·by_cases h2 : m.f.ticks < t
  ·rw [if_pos (.inr h2)]; exact c_rPlaced_t1 m p t w h1 h2
  ·rw [if_neg (by omega)]
   by_cases h3 : p < 0
   ·rw [if_pos (.inl h3)]; exact c_rPlaced_p0 m p t w h1 h2 h3
   ·by_cases h4 : (m.f.places.length : Int) ≤ p
    ·rw [if_pos (.inr h4)]; exact c_rPlaced_p1 m p t w h1 h2 h3 h4
    ·rw [if_neg (by omega)]; exact c_rPlaced_ok m p t w h1 h2 h3 h4
end Go.Proofs.YtlppdgaogdpajaaGreatDoor
namespace Go.Proofs.YtlppdgaogdpajaaGreatDoor
def rmoveV (f : Fe) (x : Rp) : Int × Int := if reportE f x ≠ 0 then (0, reportE f x) else if x.kind = 8 then (0, 1) else (findR f (wordOf x.kind) x.plc x.tick, 0)
theorem rmove_eq (f : Fe) (x : Rp) : rmoveV f x = moveV f x := by
 unfold rmoveV moveV
 by_cases h : reportE f x = 0
 ·rw [if_neg (c := reportE f x ≠ 0) (by omega), if_neg (c := reportE f x ≠ 0) (by omega)]
  by_cases h8 : x.kind = 8
  ·rw [if_pos h8, if_pos h8]
  ·rw [if_neg h8, if_neg h8, find_kind (report_ok h).2 h8]
 ·rw [if_pos h, if_pos h]
theorem report_check {f : Fe} {x : Rp} (h : reportE f x = 0) : checkE f = 0 := by
 unfold reportE at h
 by_cases hc : checkE f = 0
 ·exact hc
 ·rw [if_pos hc] at h; exact h
def rnumberV (f : Fe) (p t : Int) : Int × Int := if checkE f ≠ 0 then (0, checkE f) else if placedE f p t ≠ 0 then (0, placedE f p t) else (findR f wStay p t, 0)
theorem rnumber_eq (f : Fe) (p t : Int) : rnumberV f p t = numberArcV f p t := by
 unfold rnumberV numberArcV
 by_cases h : checkE f = 0
 ·rw [if_neg (c := checkE f ≠ 0) (by omega), if_neg (c := checkE f ≠ 0) (by omega)]
  unfold placedE
  by_cases h2 : t < 0 ∨ f.ticks < t
  ·have h3 : rg 0 f.ticks t = false := rg_no (by omega)
   rw [if_pos h2, if_pos (by decide), if_pos h3]
  ·have h3 : rg 0 f.ticks t = true := rg_iff.2 (by omega)
   rw [if_neg h2, if_neg (c := rg 0 f.ticks t = false) (by rw [h3]; decide)]
   by_cases h4 : p < 0 ∨ (f.places.length : Int) ≤ p
   ·have h5 : rg 0 ((f.places.length : Int) - 1) p = false := rg_no (by omega)
    rw [if_pos h4, if_pos (by decide), if_pos h5]
   ·have h5 : rg 0 ((f.places.length : Int) - 1) p = true := rg_iff.2 (by omega)
    rw [if_neg h4, if_neg (by decide), if_neg (by rw [h5]; decide), (find_stay (by omega) (by omega) (by omega) (by omega)).1]
 ·rw [if_pos h, if_pos h]
end Go.Proofs.YtlppdgaogdpajaaGreatDoor
namespace Go.Proofs.YtlppdgaogdpajaaGreatDoor
open Go.RowKit Go.Shelf
attribute [local go_sem] Oper.semAt_some
theorem c_rFind (m : Fm) (kind : ByteArray) (plc tick : Int) (w : World) (hm : m.In w) (h : checkE m.f = 0) : Calls Tryz.prog 129 #[m.v, .string kind, .int .i64 plc, .int .i64 tick] w fun e w' => e = .returned (.int .i64 (findR m.f kind plc tick)) ∧ Below w.heap.size w w' := by
  have hlen := ways_small h
  have hY := fun W (hb : Below w.heap.size w W) => c_rWaysOf m W (hm.later hb) h
  unfold findR
  obtain ⟨L, hL⟩ : ∃ L, waysL m.f = L := ⟨_, rfl⟩
  rw [hL] at hlen hY ⊢
  have HY := Lib.hid hY
  clear hY h hm hL
  go_enter Tryz.func129, Tryz.ntmps129
  go_upto_region 1 with (fail)
  go_name_world W1 hW1
  have hb0 : Below w.heap.size w W1 := by subst hW1; go_grown
  obtain ⟨q0, q1, q2, q3⟩ := (show QB m W1 w.heap.size from by subst hW1; and_intros <;> go_simp)
  clear hW1 
  go_wp2_with fail
  refine (HY.out _ hb0).mono ?_
  rintro E W2 ⟨yv, rfl, ho, hB⟩
  have hc := (bcell hB).1
  have zz := cy4 hc q0 q1 q2 q3
  clear q0 q1 q2 q3
  obtain ⟨q0, q1, q2, q3⟩ := zz
  obtain ⟨yb, yc, rfl, _, _, hyl, _⟩ := Lst.own wyC_len ho
  clear ho
  have hy := hyl (by omega)
  clear hyl
  replace hb0 := bthen hb0 hB
  clear hc hB
  have HY2 := Lib.hid hy
  have HB0 := Lib.hid hb0
  clear q0 q1 q2 q3 hy hb0
  go_wp2
  go_loopw [10] (fun v wr => ∃ k : Nat, k ≤ L.length ∧ v = .int .i64 k ∧ idxP (sameW kind plc tick) L 0 = idxP (sameW kind plc tick) (L.drop k) k ∧ Below W2.heap.size W2 wr) (fun v _ => L.length - (intOf v).toNat)
  case atStart => exact ⟨0, by omega, rfl, rfl, Below.refl _ _⟩
  case round =>
    obtain ⟨k, hk, rfl, hi, hb⟩ := hrel
    have HI := Lib.hid hi
    clear hi
    by_cases hlt : k < L.length
    · obtain ⟨y, hx⟩ := some_at hlt
      obtain ⟨b, o, hpa, hat⟩ := (HY2.out.later hb).at hx
      obtain ⟨y0, y1, y2, y3, y4, y5, y6, y7, y8, y9⟩ := wy_cells hat
      have hst := idxP_step (sameW kind plc tick) hx
      have hsw : sameW kind plc tick y = (((y.kind.toList == kind.toList) && y.plc == plc) && y.tick == tick) := by unfold sameW; rw [str_dec]
      obtain ⟨d1, hd1⟩ : ∃ d, (y.kind.toList == kind.toList) = d := ⟨_, rfl⟩
      obtain ⟨d2, hd2⟩ : ∃ d, (y.plc == plc) = d := ⟨_, rfl⟩
      obtain ⟨d3, hd3⟩ : ∃ d, (y.tick == tick) = d := ⟨_, rfl⟩
      rw [hd1, hd2, hd3] at hsw
      rw [hsw] at hst
      have HS := Lib.hid hst
      have hi1 : ¬ (k : Int) < 0 := by omega
      have hi2 : (k : Int) < (L.length : Int) := by omega
      rw [hpa]
      clear hx hat hst hsw hpa y0 y1 y2 y3 y4 y5 y7
      cases d1 <;> cases d2 <;> cases d3
      all_goals
        first
          | (go_wp2
             go_ret
             exact ⟨by rw [HI.out, HS.out]; rfl, bthen HB0.out hb⟩)
          | (clear hd1 hd2 hd3
             go_wp2
             go_roundw
             case rel => exact ⟨k + 1, by omega, by go_num, by rw [HI.out, HS.out]; rfl, hb⟩
             case measure => simp [intOf]; omega)
          | (go_wp2
             go_roundw
             case rel => exact ⟨k + 1, by omega, by go_num, by rw [HI.out, HS.out]; rfl, hb⟩
             case measure => simp [intOf]; omega)
    · obtain rfl : k = L.length := by omega
      have hi2 : ¬ (L.length : Int) < (L.length : Int) := by omega
      go_wp2
      go_ret
      exact ⟨by rw [HI.out]; simp [idxP], bthen HB0.out hb⟩
def formedB (f : Fe) (x : Rp) : Bool :=
 if (rg 1 1000000 x.id && rg 0 100000 x.known && rg 1 8 x.kind) = false then false
 else if x.kind = 8 then rg 1 1000000 x.void && (x.owner == 0 && (decide (x.sort = ⟨#[]⟩) && (x.plc == 0 && (x.tick == 0 && (x.low == 0 && x.high == 0)))))
 else nameB x.sort && (rg 1 40 x.owner && (decide (0 ≤ x.low) && (decide (x.low ≤ x.high) && (decide (x.high ≤ 1000) && (x.void == 0 && rg 0 (lastT f x.kind) x.tick)))))
def badPlace (f : Fe) (x : Rp) : Bool := decide (x.plc < 0) || (decide (thingsN f x.kind ≤ x.plc) && x.kind != 8)
theorem rg_eq (lo hi n : Int) : rg lo hi n = (decide (lo ≤ n) && decide (n ≤ hi)) := by
 rw [Bool.eq_iff_iff, rg_iff]
 simp
theorem judge_formed (f : Fe) (x : Rp) : judgeE f x = if formedB f x = false then 1 else if badPlace f x = true then 50 else 0 := by
 unfold judgeE formedB badPlace zeroB
 by_cases h1 : (rg 1 1000000 x.id && rg 0 100000 x.known && rg 1 8 x.kind) = false
 ·rw [if_pos h1, if_pos h1]; simp
 ·rw [if_neg h1, if_neg h1]
  by_cases h8 : x.kind = 8
  ·rw [if_pos h8, if_pos h8, h8]
   cases hv : rg 1 1000000 x.void
   ·simp
   ·by_cases hp : x.plc = 0
    ·rw [hp]
     cases x.owner == 0 <;> cases decide (x.sort = ⟨#[]⟩) <;> cases x.tick == 0 <;> cases x.low == 0 <;> cases x.high == 0 <;> simp
    ·have : (x.plc == 0) = false := beq_eq_false_iff_ne.2 hp
     rw [this]
     cases x.owner == 0 <;> cases decide (x.sort = ⟨#[]⟩) <;> simp
  ·rw [if_neg h8, if_neg h8]
   have hb : (x.kind != 8) = true := bne_iff_ne.2 h8
   have hg : (rg 0 (thingsN f x.kind - 1) x.plc = false) ↔ ((decide (x.plc < 0) || (decide (thingsN f x.kind ≤ x.plc) && x.kind != 8)) = true) := by
    rw [hb, rg_eq]
    simp
    omega
   rw [rg_eq 0 x.high x.low]
   by_cases hp : rg 0 (thingsN f x.kind - 1) x.plc = false
   ·rw [if_pos hp, if_pos (hg.1 hp)]
    cases rg 1 40 x.owner <;> cases nameB x.sort <;> cases decide (0 ≤ x.low) <;> cases decide (x.low ≤ x.high) <;> cases decide (x.high ≤ 1000) <;> cases x.void == 0 <;> cases rg 0 (lastT f x.kind) x.tick <;> rfl
   ·rw [if_neg hp, if_neg (fun h => hp (hg.2 h))]
    cases rg 1 40 x.owner <;> cases nameB x.sort <;> cases decide (0 ≤ x.low) <;> cases decide (x.low ≤ x.high) <;> cases decide (x.high ≤ 1000) <;> cases x.void == 0 <;> cases rg 0 (lastT f x.kind) x.tick <;> rfl
theorem c_rAtGate (k : Int) (w : World) : Calls Tryz.prog 123 #[.int .u8 k] w fun e w' => e = .returned (.bool (k == 2 || k == 3)) ∧ Below w.heap.size w w' := by
 obtain ⟨b2, h2⟩ : ∃ t, (k == 2) = t := ⟨_, rfl⟩
 obtain ⟨b3, h3⟩ : ∃ t, (k == 3) = t := ⟨_, rfl⟩
 rw [h2, h3]
 cases b2
 all_goals
  go_enter Tryz.func123, Tryz.ntmps123
  go_wp2
  go_ret
  exact ⟨rfl, by go_grown⟩
theorem within_as {n lo hi : Int} {r : Bool} (h : rg lo hi n = r) (w : World) : Calls Tryz.prog 113 #[.int .i64 n, .int .i64 lo, .int .i64 hi] w fun e w' => e = .returned (.bool r) ∧ Below w.heap.size w w' := h ▸ c_rWithin n lo hi w
theorem c_rFormed_8 (m : Fm) (x : Rp) (w : World) (hk : x.kind = 8) : Calls Tryz.prog 122 #[m.v, x.v] w fun e w' => e = .returned (.bool (if (rg 1 1000000 x.id && rg 0 100000 x.known && rg 1 8 x.kind) = false then false else rg 1 1000000 x.void && (x.owner == 0 && (decide (x.sort = ⟨#[]⟩) && (x.plc == 0 && (x.tick == 0 && (x.low == 0 && x.high == 0))))))) ∧ Below w.heap.size w w' := by
 obtain ⟨a1, ha1⟩ : ∃ t, (rg 1 1000000 x.id) = t := ⟨_, rfl⟩
 rw [ha1]
 obtain ⟨a2, ha2⟩ : ∃ t, (rg 0 100000 x.known) = t := ⟨_, rfl⟩
 rw [ha2]
 obtain ⟨a3, ha3⟩ : ∃ t, (rg 1 8 x.kind) = t := ⟨_, rfl⟩
 rw [ha3]
 obtain ⟨a4, ha4⟩ : ∃ t, (rg 1 1000000 x.void) = t := ⟨_, rfl⟩
 rw [ha4]
 obtain ⟨b1, hb1⟩ : ∃ t, (x.owner == 0) = t := ⟨_, rfl⟩
 rw [hb1]
 obtain ⟨b2, hb2⟩ : ∃ t, (decide (x.sort = ⟨#[]⟩)) = t := ⟨_, rfl⟩
 rw [hb2]
 obtain ⟨b3, hb3⟩ : ∃ t, (x.plc == 0) = t := ⟨_, rfl⟩
 rw [hb3]
 obtain ⟨b4, hb4⟩ : ∃ t, (x.tick == 0) = t := ⟨_, rfl⟩
 rw [hb4]
 obtain ⟨b5, hb5⟩ : ∃ t, (x.low == 0) = t := ⟨_, rfl⟩
 rw [hb5]
 obtain ⟨b6, hb6⟩ : ∃ t, (x.high == 0) = t := ⟨_, rfl⟩
 rw [hb6]
 have hb2' : x.sort.toList.isEmpty = b2 := by
  rw [← hb2, ← toList_eqB, show (⟨#[]⟩ : ByteArray).toList = [] from by kernel_rfl]
  cases x.sort.toList <;> rfl
 obtain ⟨id, known, kind, owner, sort, plc, tick, low, high, void⟩ := x
 dsimp only at *
 subst hk
 have Ka4 := Lib.hid ha4
 have Kb := Lib.hid (And.intro hb1 (And.intro hb2' (And.intro hb3 (And.intro hb4 (And.intro hb5 hb6)))))
 clear ha4 hb1 hb2 hb2' hb3 hb4 hb5 hb6
 go_enter Tryz.func122, Tryz.ntmps122
 go_upto_region 1 with (fail)
 go_name_world W1 hW1
 have hb0 : Below w.heap.size w W1 := by subst hW1; go_grown
 obtain ⟨q0, q1, q2, q3⟩ := (show QB m W1 w.heap.size from by subst hW1; and_intros <;> go_simp)
 obtain ⟨r0, r1, r2, r3, r4, r5, r6, r7, r8, r9⟩ := (show RB id known 8 owner sort plc tick low high void W1 ((w.heap.size + 1)) from by subst hW1; and_intros <;> go_simp)
 clear hW1 
 have Ka1 := Lib.hid ha1
 clear ha1
 have Ka2 := Lib.hid ha2
 clear ha2
 have Ka3 := Lib.hid ha3
 clear ha3
 go_wp2_with fail
 refine (within_as Ka1.out _).mono ?_
 rintro E W2 ⟨rfl, hB⟩
 have hc := (bcell hB).1
 have zz := cy14 hc q0 q1 q2 q3 r0 r1 r2 r3 r4 r5 r6 r7 r8 r9
 clear q0 q1 q2 q3 r0 r1 r2 r3 r4 r5 r6 r7 r8 r9
 obtain ⟨q0, q1, q2, q3, r0, r1, r2, r3, r4, r5, r6, r7, r8, r9⟩ := zz
 replace hb0 := bthen hb0 hB
 clear hc hB
 cases a1
 ·go_wp2
  all_goals go_ret
  all_goals exact ⟨rfl, hb0⟩
 go_wp2_with fail
 refine (within_as Ka2.out _).mono ?_
 rintro E W3 ⟨rfl, hB⟩
 have hc := (bcell hB).1
 have zz := cy14 hc q0 q1 q2 q3 r0 r1 r2 r3 r4 r5 r6 r7 r8 r9
 clear q0 q1 q2 q3 r0 r1 r2 r3 r4 r5 r6 r7 r8 r9
 obtain ⟨q0, q1, q2, q3, r0, r1, r2, r3, r4, r5, r6, r7, r8, r9⟩ := zz
 replace hb0 := bthen hb0 hB
 clear hc hB
 cases a2
 ·go_wp2
  all_goals go_ret
  all_goals exact ⟨rfl, hb0⟩
 go_wp2_with fail
 refine (within_as Ka3.out _).mono ?_
 rintro E W4 ⟨rfl, hB⟩
 have hc := (bcell hB).1
 have zz := cy14 hc q0 q1 q2 q3 r0 r1 r2 r3 r4 r5 r6 r7 r8 r9
 clear q0 q1 q2 q3 r0 r1 r2 r3 r4 r5 r6 r7 r8 r9
 obtain ⟨q0, q1, q2, q3, r0, r1, r2, r3, r4, r5, r6, r7, r8, r9⟩ := zz
 replace hb0 := bthen hb0 hB
 clear hc hB
 cases a3
 ·go_wp2
  all_goals go_ret
  all_goals exact ⟨rfl, hb0⟩
 go_wp2_with fail
 refine (within_as Ka4.out _).mono ?_
 rintro E W5 ⟨rfl, hB⟩
 have hc := (bcell hB).1
 have zz := cy14 hc q0 q1 q2 q3 r0 r1 r2 r3 r4 r5 r6 r7 r8 r9
 clear q0 q1 q2 q3 r0 r1 r2 r3 r4 r5 r6 r7 r8 r9
 obtain ⟨q0, q1, q2, q3, r0, r1, r2, r3, r4, r5, r6, r7, r8, r9⟩ := zz
 replace hb0 := bthen hb0 hB
 clear hc hB
 cases a4
 ·go_wp2
  all_goals go_ret
  all_goals exact ⟨rfl, hb0⟩
 obtain ⟨hb1, hb2, hb3, hb4, hb5, hb6⟩ := Kb.out
 clear Kb
 cases b1
 ·go_wp2
  all_goals go_ret
  all_goals exact ⟨rfl, hb0⟩
 cases b2
 ·go_wp2
  all_goals go_ret
  all_goals exact ⟨rfl, hb0⟩
 cases b3
 ·go_wp2
  all_goals go_ret
  all_goals exact ⟨rfl, hb0⟩
 cases b4
 ·go_wp2
  all_goals go_ret
  all_goals exact ⟨rfl, hb0⟩
 cases b5
 ·go_wp2
  all_goals go_ret
  all_goals exact ⟨rfl, hb0⟩
 cases b6
 ·go_wp2
  all_goals go_ret
  all_goals exact ⟨rfl, hb0⟩
 go_wp2
 all_goals go_ret
 all_goals exact ⟨rfl, hb0⟩
theorem c_rFormed_no (m : Fm) (x : Rp) (w : World) (ok : RpOk x) (hk : x.kind ≠ 8) (hz : x.sort.size ≤ 1000000) (ht : -1000000 ≤ m.f.ticks ∧ m.f.ticks ≤ 1000000) : Calls Tryz.prog 122 #[m.v, x.v] w fun e w' => e = .returned (.bool (if (rg 1 1000000 x.id && rg 0 100000 x.known && rg 1 8 x.kind) = false then false else nameB x.sort && (rg 1 40 x.owner && (decide (0 ≤ x.low) && (decide (x.low ≤ x.high) && (decide (x.high ≤ 1000) && (x.void == 0 && rg 0 (lastT m.f x.kind) x.tick))))))) ∧ Below w.heap.size w w' := by
 have hk0 := ok.k0
 have hk1 := ok.k1
 have hk8 : (x.kind == 8) = false := beq_eq_false_iff_ne.2 hk
 have hN := fun W => c_rName x.sort W hz
 obtain ⟨a1, ha1⟩ : ∃ t, (rg 1 1000000 x.id) = t := ⟨_, rfl⟩
 rw [ha1]
 obtain ⟨a2, ha2⟩ : ∃ t, (rg 0 100000 x.known) = t := ⟨_, rfl⟩
 rw [ha2]
 obtain ⟨a3, ha3⟩ : ∃ t, (rg 1 8 x.kind) = t := ⟨_, rfl⟩
 rw [ha3]
 obtain ⟨a4, ha4⟩ : ∃ t, (rg 1 40 x.owner) = t := ⟨_, rfl⟩
 rw [ha4]
 obtain ⟨a5, ha5⟩ : ∃ t, (rg 0 (lastT m.f x.kind) x.tick) = t := ⟨_, rfl⟩
 rw [ha5]
 obtain ⟨b6, hb6⟩ : ∃ t, (x.void == 0) = t := ⟨_, rfl⟩
 rw [hb6]
 obtain ⟨c1, hc1⟩ : ∃ t, (decide (0 ≤ x.low)) = t := ⟨_, rfl⟩
 rw [hc1]
 obtain ⟨c2, hc2⟩ : ∃ t, (decide (x.low ≤ x.high)) = t := ⟨_, rfl⟩
 rw [hc2]
 obtain ⟨c3, hc3⟩ : ∃ t, (decide (x.high ≤ 1000)) = t := ⟨_, rfl⟩
 rw [hc3]
 obtain ⟨n, hn⟩ : ∃ t, (nameB x.sort) = t := ⟨_, rfl⟩
 rw [hn]
 rw [hn] at hN
 have HN := Lib.hid hN
 obtain ⟨id, known, kind, owner, sort, plc, tick, low, high, void⟩ := x
 dsimp only at *
 have Ka4 := Lib.hid ha4
 have Kb := Lib.hid hb6
 have Kc1 := Lib.hid hc1
 have Kc2 := Lib.hid hc2
 have Kc3 := Lib.hid hc3
 clear ha4 hb6 hc1 hc2 hc3 hn hN hk hz ok
 unfold lastT at ha5
 obtain ⟨k1, hk3⟩ : ∃ t, (kind == 1) = t := ⟨_, rfl⟩
 go_enter Tryz.func122, Tryz.ntmps122
 go_upto_region 1 with (fail)
 go_name_world W1 hW1
 have hb0 : Below w.heap.size w W1 := by subst hW1; go_grown
 obtain ⟨q0, q1, q2, q3⟩ := (show QB m W1 w.heap.size from by subst hW1; and_intros <;> go_simp)
 obtain ⟨r0, r1, r2, r3, r4, r5, r6, r7, r8, r9⟩ := (show RB id known kind owner sort plc tick low high void W1 ((w.heap.size + 1)) from by subst hW1; and_intros <;> go_simp)
 clear hW1 
 have Ka5 := Lib.hid ha5
 clear ha5
 have Ka1 := Lib.hid ha1
 clear ha1
 have Ka2 := Lib.hid ha2
 clear ha2
 have Ka3 := Lib.hid ha3
 clear ha3
 go_wp2_with fail
 refine (within_as Ka1.out _).mono ?_
 rintro E W2 ⟨rfl, hB⟩
 have hc := (bcell hB).1
 have zz := cy14 hc q0 q1 q2 q3 r0 r1 r2 r3 r4 r5 r6 r7 r8 r9
 clear q0 q1 q2 q3 r0 r1 r2 r3 r4 r5 r6 r7 r8 r9
 obtain ⟨q0, q1, q2, q3, r0, r1, r2, r3, r4, r5, r6, r7, r8, r9⟩ := zz
 replace hb0 := bthen hb0 hB
 clear hc hB
 cases a1
 ·go_wp2
  all_goals go_ret
  all_goals exact ⟨rfl, hb0⟩
 go_wp2_with fail
 refine (within_as Ka2.out _).mono ?_
 rintro E W3 ⟨rfl, hB⟩
 have hc := (bcell hB).1
 have zz := cy14 hc q0 q1 q2 q3 r0 r1 r2 r3 r4 r5 r6 r7 r8 r9
 clear q0 q1 q2 q3 r0 r1 r2 r3 r4 r5 r6 r7 r8 r9
 obtain ⟨q0, q1, q2, q3, r0, r1, r2, r3, r4, r5, r6, r7, r8, r9⟩ := zz
 replace hb0 := bthen hb0 hB
 clear hc hB
 cases a2
 ·go_wp2
  all_goals go_ret
  all_goals exact ⟨rfl, hb0⟩
 go_wp2_with fail
 refine (within_as Ka3.out _).mono ?_
 rintro E W4 ⟨rfl, hB⟩
 have hc := (bcell hB).1
 have zz := cy14 hc q0 q1 q2 q3 r0 r1 r2 r3 r4 r5 r6 r7 r8 r9
 clear q0 q1 q2 q3 r0 r1 r2 r3 r4 r5 r6 r7 r8 r9
 obtain ⟨q0, q1, q2, q3, r0, r1, r2, r3, r4, r5, r6, r7, r8, r9⟩ := zz
 replace hb0 := bthen hb0 hB
 clear hc hB
 cases a3
 ·go_wp2
  all_goals go_ret
  all_goals exact ⟨rfl, hb0⟩
 cases k1
 ·have ha5 := Ka5.out
  rw [if_neg (beq_eq_false_iff_ne.1 hk3)] at ha5
  clear Ka5
  have Ka5 := Lib.hid ha5
  clear ha5
  go_wp2_with fail
  refine (HN.out _).mono ?_
  rintro E W5 ⟨rfl, hB⟩
  have hc := (bcell hB).1
  have zz := cy14 hc q0 q1 q2 q3 r0 r1 r2 r3 r4 r5 r6 r7 r8 r9
  clear q0 q1 q2 q3 r0 r1 r2 r3 r4 r5 r6 r7 r8 r9
  obtain ⟨q0, q1, q2, q3, r0, r1, r2, r3, r4, r5, r6, r7, r8, r9⟩ := zz
  replace hb0 := bthen hb0 hB
  clear hc hB
  cases n
  ·go_wp2
   all_goals go_ret
   all_goals exact ⟨rfl, hb0⟩
  go_wp2_with fail
  refine (within_as Ka4.out _).mono ?_
  rintro E W6 ⟨rfl, hB⟩
  have hc := (bcell hB).1
  have zz := cy14 hc q0 q1 q2 q3 r0 r1 r2 r3 r4 r5 r6 r7 r8 r9
  clear q0 q1 q2 q3 r0 r1 r2 r3 r4 r5 r6 r7 r8 r9
  obtain ⟨q0, q1, q2, q3, r0, r1, r2, r3, r4, r5, r6, r7, r8, r9⟩ := zz
  replace hb0 := bthen hb0 hB
  clear hc hB
  cases a4
  ·go_wp2
   all_goals go_ret
   all_goals exact ⟨rfl, hb0⟩
  have hb6 := Kb.out
  clear Kb
  cases c1
  ·have gc1 := of_decide_eq_false Kc1.out
   go_wp2
   all_goals go_ret
   all_goals exact ⟨rfl, hb0⟩
  have gc1 := of_decide_eq_true Kc1.out
  cases c2
  ·have gc2 := of_decide_eq_false Kc2.out
   go_wp2
   all_goals go_ret
   all_goals exact ⟨rfl, hb0⟩
  have gc2 := of_decide_eq_true Kc2.out
  cases c3
  ·have gc3 := of_decide_eq_false Kc3.out
   go_wp2
   all_goals go_ret
   all_goals exact ⟨rfl, hb0⟩
  have gc3 := of_decide_eq_true Kc3.out
  cases b6
  ·go_wp2
   all_goals go_ret
   all_goals exact ⟨rfl, hb0⟩
  go_wp2_with fail
  refine (within_as Ka5.out _).mono ?_
  rintro E W7 ⟨rfl, hB⟩
  have hc := (bcell hB).1
  have zz := cy14 hc q0 q1 q2 q3 r0 r1 r2 r3 r4 r5 r6 r7 r8 r9
  clear q0 q1 q2 q3 r0 r1 r2 r3 r4 r5 r6 r7 r8 r9
  obtain ⟨q0, q1, q2, q3, r0, r1, r2, r3, r4, r5, r6, r7, r8, r9⟩ := zz
  replace hb0 := bthen hb0 hB
  clear hc hB
  go_wp2
  all_goals go_ret
  all_goals exact ⟨rfl, hb0⟩
 ·have ha5 := Ka5.out
  rw [if_pos (beq_iff_eq.1 hk3)] at ha5
  clear Ka5
  have Ka5 := Lib.hid ha5
  clear ha5
  go_wp2_with fail
  refine (HN.out _).mono ?_
  rintro E W5 ⟨rfl, hB⟩
  have hc := (bcell hB).1
  have zz := cy14 hc q0 q1 q2 q3 r0 r1 r2 r3 r4 r5 r6 r7 r8 r9
  clear q0 q1 q2 q3 r0 r1 r2 r3 r4 r5 r6 r7 r8 r9
  obtain ⟨q0, q1, q2, q3, r0, r1, r2, r3, r4, r5, r6, r7, r8, r9⟩ := zz
  replace hb0 := bthen hb0 hB
  clear hc hB
  cases n
  ·go_wp2
   all_goals go_ret
   all_goals exact ⟨rfl, hb0⟩
  go_wp2_with fail
  refine (within_as Ka4.out _).mono ?_
  rintro E W6 ⟨rfl, hB⟩
  have hc := (bcell hB).1
  have zz := cy14 hc q0 q1 q2 q3 r0 r1 r2 r3 r4 r5 r6 r7 r8 r9
  clear q0 q1 q2 q3 r0 r1 r2 r3 r4 r5 r6 r7 r8 r9
  obtain ⟨q0, q1, q2, q3, r0, r1, r2, r3, r4, r5, r6, r7, r8, r9⟩ := zz
  replace hb0 := bthen hb0 hB
  clear hc hB
  cases a4
  ·go_wp2
   all_goals go_ret
   all_goals exact ⟨rfl, hb0⟩
  have hb6 := Kb.out
  clear Kb
  cases c1
  ·have gc1 := of_decide_eq_false Kc1.out
   go_wp2
   all_goals go_ret
   all_goals exact ⟨rfl, hb0⟩
  have gc1 := of_decide_eq_true Kc1.out
  cases c2
  ·have gc2 := of_decide_eq_false Kc2.out
   go_wp2
   all_goals go_ret
   all_goals exact ⟨rfl, hb0⟩
  have gc2 := of_decide_eq_true Kc2.out
  cases c3
  ·have gc3 := of_decide_eq_false Kc3.out
   go_wp2
   all_goals go_ret
   all_goals exact ⟨rfl, hb0⟩
  have gc3 := of_decide_eq_true Kc3.out
  cases b6
  ·go_wp2
   all_goals go_ret
   all_goals exact ⟨rfl, hb0⟩
  go_wp2_with fail
  refine (within_as Ka5.out _).mono ?_
  rintro E W7 ⟨rfl, hB⟩
  have hc := (bcell hB).1
  have zz := cy14 hc q0 q1 q2 q3 r0 r1 r2 r3 r4 r5 r6 r7 r8 r9
  clear q0 q1 q2 q3 r0 r1 r2 r3 r4 r5 r6 r7 r8 r9
  obtain ⟨q0, q1, q2, q3, r0, r1, r2, r3, r4, r5, r6, r7, r8, r9⟩ := zz
  replace hb0 := bthen hb0 hB
  clear hc hB
  go_wp2
  all_goals go_ret
  all_goals exact ⟨rfl, hb0⟩
theorem c_rFormed (m : Fm) (x : Rp) (w : World) (ok : RpOk x) (hz : x.sort.size ≤ 1000000) (ht : -1000000 ≤ m.f.ticks ∧ m.f.ticks ≤ 1000000) : Calls Tryz.prog 122 #[m.v, x.v] w fun e w' => e = .returned (.bool (formedB m.f x)) ∧ Below w.heap.size w w' := by
 by_cases hk : x.kind = 8
 ·have h := c_rFormed_8 m x w hk
  unfold formedB
  rw [if_pos hk]
  exact h
 ·have h := c_rFormed_no m x w ok hk hz ht
  unfold formedB
  rw [if_neg hk]
  exact h
def gateB (x : Rp) : Bool := x.kind == 2 || x.kind == 3
theorem things_gate (f : Fe) (x : Rp) : thingsN f x.kind = if gateB x = true then (f.gates.length : Int) else f.places.length := by
 unfold thingsN gateB
 by_cases h : x.kind = 2 ∨ x.kind = 3
 ·rw [if_pos h, if_pos (by simpa using h)]
 ·rw [if_neg h, if_neg (by simpa using h)]
theorem c_rReport_no (m : Fm) (x : Rp) (w : World) (hm : m.In w) (hs : Sized m.f) (h : checkE m.f ≠ 0) : Calls Tryz.prog 35 #[m.v, x.v] w fun e w' => e = .returned (.int .i64 (checkE m.f)) ∧ Below w.heap.size w w' := by
 have hC := fun W (hb : Below w.heap.size w W) => c_rCheck m W (hm.later hb) hs
 generalize checkE m.f = E at *
 have he : (E != 0) = true := bne_iff_ne.2 h
 have HC := Lib.hid hC
 clear hC h hm hs
 go_enter Tryz.func35, Tryz.ntmps35
 go_upto_region 1 with (fail)
 go_name_world W1 hW1
 have hb0 : Below w.heap.size w W1 := by subst hW1; go_grown
 obtain ⟨q0, q1, q2, q3⟩ := (show QB m W1 w.heap.size from by subst hW1; and_intros <;> go_simp)
 obtain ⟨r0, r1, r2, r3, r4, r5, r6, r7, r8, r9⟩ := (show RC x W1 ((w.heap.size + 1)) from by subst hW1; and_intros <;> go_simp)
 clear hW1 
 go_wp2_with fail
 refine (HC.out _ hb0).mono ?_
 rintro E W2 ⟨rfl, hB⟩
 have hc := (bcell hB).1
 have zz := cy14 hc q0 q1 q2 q3 r0 r1 r2 r3 r4 r5 r6 r7 r8 r9
 clear q0 q1 q2 q3 r0 r1 r2 r3 r4 r5 r6 r7 r8 r9
 obtain ⟨q0, q1, q2, q3, r0, r1, r2, r3, r4, r5, r6, r7, r8, r9⟩ := zz
 replace hb0 := bthen hb0 hB
 clear hc hB
 go_wp2
 all_goals go_ret
 all_goals exact ⟨rfl, hb0⟩
theorem c_rReport_ok (m : Fm) (x : Rp) (w : World) (hm : m.In w) (hs : Sized m.f) (h : checkE m.f = 0) (ok : RpOk x) (hz : x.sort.size ≤ 1000000) : Calls Tryz.prog 35 #[m.v, x.v] w fun e w' => e = .returned (.int .i64 (if formedB m.f x = false then 1 else if badPlace m.f x = true then 50 else 0)) ∧ Below w.heap.size w w' := by
 have hC := fun W (hb : Below w.heap.size w W) => c_rCheck m W (hm.later hb) hs
 rw [h] at hC
 have hp8 := (right_of h).p8
 have hg12 := (right_of h).g12
 have ht1 := (right_of h).t1
 have ht2 := (right_of h).t24
 have hF := fun W => c_rFormed m x W ok hz ⟨by omega, by omega⟩
 have hG := fun W => c_rAtGate x.kind W
 unfold badPlace
 rw [things_gate]
 unfold gateB
 obtain ⟨fb, hfb⟩ : ∃ t, formedB m.f x = t := ⟨_, rfl⟩
 obtain ⟨gb, hgb⟩ : ∃ t, (x.kind == 2 || x.kind == 3) = t := ⟨_, rfl⟩
 obtain ⟨k8, hk8⟩ : ∃ t, (x.kind != 8) = t := ⟨_, rfl⟩
 simp only [hfb] at hF
 simp only [hgb] at hG
 rw [hfb, hgb, hk8]
 obtain ⟨d1, hd1⟩ : ∃ t, decide (x.plc < 0) = t := ⟨_, rfl⟩
 obtain ⟨d2, hd2⟩ : ∃ t, decide ((if gb = true then (m.f.gates.length : Int) else m.f.places.length) ≤ x.plc) = t := ⟨_, rfl⟩
 rw [hd1, hd2]
 have HC := Lib.hid hC
 have HF := Lib.hid hF
 have HG := Lib.hid hG
 have K8 := Lib.hid hk8
 have D1 := Lib.hid hd1
 have D2 := Lib.hid hd2
 clear hC hm hs h hF hG hfb hgb hk8 hd1 hd2 ht1 ht2 ok hz
 go_enter Tryz.func35, Tryz.ntmps35
 go_upto_region 1 with (fail)
 go_name_world W1 hW1
 have hb0 : Below w.heap.size w W1 := by subst hW1; go_grown
 obtain ⟨q0, q1, q2, q3⟩ := (show QB m W1 w.heap.size from by subst hW1; and_intros <;> go_simp)
 obtain ⟨r0, r1, r2, r3, r4, r5, r6, r7, r8, r9⟩ := (show RC x W1 ((w.heap.size + 1)) from by subst hW1; and_intros <;> go_simp)
 clear hW1 
 go_wp2_with fail
 refine (HC.out _ hb0).mono ?_
 rintro E W2 ⟨rfl, hB⟩
 have hc := (bcell hB).1
 have zz := cy14 hc q0 q1 q2 q3 r0 r1 r2 r3 r4 r5 r6 r7 r8 r9
 clear q0 q1 q2 q3 r0 r1 r2 r3 r4 r5 r6 r7 r8 r9
 obtain ⟨q0, q1, q2, q3, r0, r1, r2, r3, r4, r5, r6, r7, r8, r9⟩ := zz
 replace hb0 := bthen hb0 hB
 clear hc hB
 go_wp2_with fail
 refine (HF.out _).mono ?_
 rintro E W3 ⟨rfl, hB⟩
 have hc := (bcell hB).1
 have zz := cy14 hc q0 q1 q2 q3 r0 r1 r2 r3 r4 r5 r6 r7 r8 r9
 clear q0 q1 q2 q3 r0 r1 r2 r3 r4 r5 r6 r7 r8 r9
 obtain ⟨q0, q1, q2, q3, r0, r1, r2, r3, r4, r5, r6, r7, r8, r9⟩ := zz
 replace hb0 := bthen hb0 hB
 clear hc hB
 cases fb
 ·go_wp2
  all_goals go_ret
  all_goals exact ⟨rfl, hb0⟩
 go_wp2_with fail
 refine (HG.out _).mono ?_
 rintro E W4 ⟨rfl, hB⟩
 have hc := (bcell hB).1
 have zz := cy14 hc q0 q1 q2 q3 r0 r1 r2 r3 r4 r5 r6 r7 r8 r9
 clear q0 q1 q2 q3 r0 r1 r2 r3 r4 r5 r6 r7 r8 r9
 obtain ⟨q0, q1, q2, q3, r0, r1, r2, r3, r4, r5, r6, r7, r8, r9⟩ := zz
 replace hb0 := bthen hb0 hB
 clear hc hB
 cases gb
 case false =>
  cases d1
  case true =>
   have g1 := of_decide_eq_true D1.out
   go_wp2
   all_goals go_ret
   all_goals exact ⟨rfl, hb0⟩
  have g1 := of_decide_eq_false D1.out
  cases d2
  case false =>
   have g2 := of_decide_eq_false D2.out
   first | rw [if_neg (by decide)] at g2 | rw [if_pos rfl] at g2
   go_wp2
   all_goals go_ret
   all_goals exact ⟨rfl, hb0⟩
  have g2 := of_decide_eq_true D2.out
  first | rw [if_neg (by decide)] at g2 | rw [if_pos rfl] at g2
  have hk8 := K8.out
  cases k8
  all_goals
   go_wp2
   all_goals go_ret
   all_goals exact ⟨rfl, hb0⟩
 case true =>
  cases d1
  case true =>
   have g1 := of_decide_eq_true D1.out
   go_wp2
   all_goals go_ret
   all_goals exact ⟨rfl, hb0⟩
  have g1 := of_decide_eq_false D1.out
  cases d2
  case false =>
   have g2 := of_decide_eq_false D2.out
   first | rw [if_neg (by decide)] at g2 | rw [if_pos rfl] at g2
   go_wp2
   all_goals go_ret
   all_goals exact ⟨rfl, hb0⟩
  have g2 := of_decide_eq_true D2.out
  first | rw [if_neg (by decide)] at g2 | rw [if_pos rfl] at g2
  have hk8 := K8.out
  cases k8
  all_goals
   go_wp2
   all_goals go_ret
   all_goals exact ⟨rfl, hb0⟩
theorem c_rReport (m : Fm) (x : Rp) (w : World) (hm : m.In w) (hs : Sized m.f) (ok : RpOk x) (hz : x.sort.size ≤ 1000000) : Calls Tryz.prog 35 #[m.v, x.v] w fun e w' => e = .returned (.int .i64 (reportE m.f x)) ∧ Below w.heap.size w w' := by
 unfold reportE
 by_cases h : checkE m.f = 0
 ·rw [if_neg (fun k => k h), judge_formed]
  exact c_rReport_ok m x w hm hs h ok hz
 ·rw [if_pos h]
  exact c_rReport_no m x w hm hs h
theorem c_rWord (k : Int) (w : World) (h : 1 ≤ k ∧ k ≤ 8) : Calls Tryz.prog 130 #[.int .u8 k] w fun e w' => e = .returned (.string (wordOf k)) ∧ Below w.heap.size w w' := by
 have h2 : k = 1 ∨ k = 2 ∨ k = 3 ∨ k = 4 ∨ k = 5 ∨ k = 6 ∨ k = 7 ∨ k = 8 := by omega
 clear h
 rcases h2 with rfl | rfl | rfl | rfl | rfl | rfl | rfl | rfl
 all_goals
  go_enter Tryz.func130, Tryz.ntmps130
  go_wp2
  go_ret
  exact ⟨rfl, by go_grown⟩
theorem c_rNumberArc_no (m : Fm) (p t : Int) (w : World) (hm : m.In w) (hs : Sized m.f) (h : checkE m.f ≠ 0) : Calls Tryz.prog 54 #[m.v, .int .i64 p, .int .i64 t] w fun e w' => e = .returned (.tuple #[.int .i64 0, .int .i64 (checkE m.f)]) ∧ Below w.heap.size w w' := by
 have hC := fun W (hb : Below w.heap.size w W) => c_rCheck m W (hm.later hb) hs
 generalize checkE m.f = E at *
 have he : (E != 0) = true := bne_iff_ne.2 h
 have HC := Lib.hid hC
 clear hC h hm hs
 go_enter Tryz.func54, Tryz.ntmps54
 go_upto_region 1 with (fail)
 go_name_world W1 hW1
 have hb0 : Below w.heap.size w W1 := by subst hW1; go_grown
 obtain ⟨q0, q1, q2, q3⟩ := (show QB m W1 w.heap.size from by subst hW1; and_intros <;> go_simp)
 clear hW1 
 go_wp2_with fail
 refine (HC.out _ hb0).mono ?_
 rintro E W2 ⟨rfl, hB⟩
 have hc := (bcell hB).1
 have zz := cy4 hc q0 q1 q2 q3
 clear q0 q1 q2 q3
 obtain ⟨q0, q1, q2, q3⟩ := zz
 replace hb0 := bthen hb0 hB
 clear hc hB
 go_wp2
 go_ret2
 exact ⟨rfl, hb0⟩
theorem c_rNumberArc_pl (m : Fm) (p t : Int) (w : World) (hm : m.In w) (hs : Sized m.f) (h : checkE m.f = 0) (h2 : placedE m.f p t ≠ 0) : Calls Tryz.prog 54 #[m.v, .int .i64 p, .int .i64 t] w fun e w' => e = .returned (.tuple #[.int .i64 0, .int .i64 (placedE m.f p t)]) ∧ Below w.heap.size w w' := by
 have hC := fun W (hb : Below w.heap.size w W) => c_rCheck m W (hm.later hb) hs
 rw [h] at hC
 have hP := fun W (_hb : Below w.heap.size w W) => c_rPlaced m p t W
 generalize placedE m.f p t = E at *
 have he : (E != 0) = true := bne_iff_ne.2 h2
 have HC := Lib.hid hC
 have HP := Lib.hid hP
 clear hC hP h h2 hm hs
 go_enter Tryz.func54, Tryz.ntmps54
 go_upto_region 1 with (fail)
 go_name_world W1 hW1
 have hb0 : Below w.heap.size w W1 := by subst hW1; go_grown
 obtain ⟨q0, q1, q2, q3⟩ := (show QB m W1 w.heap.size from by subst hW1; and_intros <;> go_simp)
 clear hW1 
 go_wp2_with fail
 refine (HC.out _ hb0).mono ?_
 rintro E W2 ⟨rfl, hB⟩
 have hc := (bcell hB).1
 have zz := cy4 hc q0 q1 q2 q3
 clear q0 q1 q2 q3
 obtain ⟨q0, q1, q2, q3⟩ := zz
 replace hb0 := bthen hb0 hB
 clear hc hB
 go_wp2_with fail
 refine (HP.out _ hb0).mono ?_
 rintro E W3 ⟨rfl, hB⟩
 have hc := (bcell hB).1
 have zz := cy4 hc q0 q1 q2 q3
 clear q0 q1 q2 q3
 obtain ⟨q0, q1, q2, q3⟩ := zz
 replace hb0 := bthen hb0 hB
 clear hc hB
 go_wp2
 go_ret2
 exact ⟨rfl, hb0⟩
theorem c_rNumberArc_ok (m : Fm) (p t : Int) (w : World) (hm : m.In w) (hs : Sized m.f) (h : checkE m.f = 0) (h2 : placedE m.f p t = 0) : Calls Tryz.prog 54 #[m.v, .int .i64 p, .int .i64 t] w fun e w' => e = .returned (.tuple #[.int .i64 (findR m.f wStay p t), .int .i64 0]) ∧ Below w.heap.size w w' := by
 have hC := fun W (hb : Below w.heap.size w W) => c_rCheck m W (hm.later hb) hs
 rw [h] at hC
 have hP := fun W (_hb : Below w.heap.size w W) => c_rPlaced m p t W
 rw [h2] at hP
 have hF := fun W (hb : Below w.heap.size w W) => c_rFind m wStay p t W (hm.later hb) h
 generalize findR m.f wStay p t = n at *
 have HC := Lib.hid hC
 have HP := Lib.hid hP
 have HF := Lib.hid hF
 clear hC hP hF h h2 hm hs
 go_enter Tryz.func54, Tryz.ntmps54
 go_upto_region 1 with (fail)
 go_name_world W1 hW1
 have hb0 : Below w.heap.size w W1 := by subst hW1; go_grown
 obtain ⟨q0, q1, q2, q3⟩ := (show QB m W1 w.heap.size from by subst hW1; and_intros <;> go_simp)
 clear hW1 
 go_wp2_with fail
 refine (HC.out _ hb0).mono ?_
 rintro E W2 ⟨rfl, hB⟩
 have hc := (bcell hB).1
 have zz := cy4 hc q0 q1 q2 q3
 clear q0 q1 q2 q3
 obtain ⟨q0, q1, q2, q3⟩ := zz
 replace hb0 := bthen hb0 hB
 clear hc hB
 go_wp2_with fail
 refine (HP.out _ hb0).mono ?_
 rintro E W3 ⟨rfl, hB⟩
 have hc := (bcell hB).1
 have zz := cy4 hc q0 q1 q2 q3
 clear q0 q1 q2 q3
 obtain ⟨q0, q1, q2, q3⟩ := zz
 replace hb0 := bthen hb0 hB
 clear hc hB
 go_wp2_with fail
 refine (HF.out _ hb0).mono ?_
 rintro E W4 ⟨rfl, hB⟩
 have hc := (bcell hB).1
 have zz := cy4 hc q0 q1 q2 q3
 clear q0 q1 q2 q3
 obtain ⟨q0, q1, q2, q3⟩ := zz
 replace hb0 := bthen hb0 hB
 clear hc hB
 go_wp2
 go_ret2
 exact ⟨rfl, hb0⟩
theorem c_rNumberArc (m : Fm) (p t : Int) (w : World) (hm : m.In w) (hs : Sized m.f) : Calls Tryz.prog 54 #[m.v, .int .i64 p, .int .i64 t] w fun e w' => e = .returned (pairV (numberArcV m.f p t)) ∧ Below w.heap.size w w' := by
 rw [← rnumber_eq]
 unfold rnumberV
 by_cases h : checkE m.f = 0
 ·rw [if_neg (by omega)]
  by_cases h2 : placedE m.f p t = 0
  ·rw [if_neg (by omega)]; exact c_rNumberArc_ok m p t w hm hs h h2
  ·rw [if_pos h2]; exact c_rNumberArc_pl m p t w hm hs h h2
 ·rw [if_pos h]; exact c_rNumberArc_no m p t w hm hs h
theorem c_rMoveArc_no (m : Fm) (x : Rp) (w : World) (hm : m.In w) (hs : Sized m.f) (ok : RpOk x) (hz : x.sort.size ≤ 1000000) (h : reportE m.f x ≠ 0) : Calls Tryz.prog 55 #[m.v, x.v] w fun e w' => e = .returned (.tuple #[.int .i64 0, .int .i64 (reportE m.f x)]) ∧ Below w.heap.size w w' := by
 have hC := fun W (hb : Below w.heap.size w W) => c_rReport m x W (hm.later hb) hs ok hz
 generalize reportE m.f x = E at *
 have he : (E != 0) = true := bne_iff_ne.2 h
 have HC := Lib.hid hC
 clear hC h hm hs ok hz
 go_enter Tryz.func55, Tryz.ntmps55
 go_upto_region 1 with (fail)
 go_name_world W1 hW1
 have hb0 : Below w.heap.size w W1 := by subst hW1; go_grown
 obtain ⟨q0, q1, q2, q3⟩ := (show QB m W1 w.heap.size from by subst hW1; and_intros <;> go_simp)
 obtain ⟨r0, r1, r2, r3, r4, r5, r6, r7, r8, r9⟩ := (show RC x W1 ((w.heap.size + 1)) from by subst hW1; and_intros <;> go_simp)
 clear hW1 
 go_wp2_with fail
 refine (HC.out _ hb0).mono ?_
 rintro E W2 ⟨rfl, hB⟩
 have hc := (bcell hB).1
 have zz := cy14 hc q0 q1 q2 q3 r0 r1 r2 r3 r4 r5 r6 r7 r8 r9
 clear q0 q1 q2 q3 r0 r1 r2 r3 r4 r5 r6 r7 r8 r9
 obtain ⟨q0, q1, q2, q3, r0, r1, r2, r3, r4, r5, r6, r7, r8, r9⟩ := zz
 replace hb0 := bthen hb0 hB
 clear hc hB
 go_wp2
 go_ret2
 exact ⟨rfl, hb0⟩
theorem c_rMoveArc_8 (m : Fm) (x : Rp) (w : World) (hm : m.In w) (hs : Sized m.f) (ok : RpOk x) (hz : x.sort.size ≤ 1000000) (h : reportE m.f x = 0) (h8 : x.kind = 8) : Calls Tryz.prog 55 #[m.v, x.v] w fun e w' => e = .returned (.tuple #[.int .i64 0, .int .i64 1]) ∧ Below w.heap.size w w' := by
 have hC := fun W (hb : Below w.heap.size w W) => c_rReport m x W (hm.later hb) hs ok hz
 rw [h] at hC
 have he : (x.kind == 8) = true := beq_iff_eq.2 h8
 have HC := Lib.hid hC
 clear hC h hm hs ok hz h8
 go_enter Tryz.func55, Tryz.ntmps55
 go_upto_region 1 with (fail)
 go_name_world W1 hW1
 have hb0 : Below w.heap.size w W1 := by subst hW1; go_grown
 obtain ⟨q0, q1, q2, q3⟩ := (show QB m W1 w.heap.size from by subst hW1; and_intros <;> go_simp)
 obtain ⟨r0, r1, r2, r3, r4, r5, r6, r7, r8, r9⟩ := (show RC x W1 ((w.heap.size + 1)) from by subst hW1; and_intros <;> go_simp)
 clear hW1 
 go_wp2_with fail
 refine (HC.out _ hb0).mono ?_
 rintro E W2 ⟨rfl, hB⟩
 have hc := (bcell hB).1
 have zz := cy14 hc q0 q1 q2 q3 r0 r1 r2 r3 r4 r5 r6 r7 r8 r9
 clear q0 q1 q2 q3 r0 r1 r2 r3 r4 r5 r6 r7 r8 r9
 obtain ⟨q0, q1, q2, q3, r0, r1, r2, r3, r4, r5, r6, r7, r8, r9⟩ := zz
 replace hb0 := bthen hb0 hB
 clear hc hB
 go_wp2
 go_ret2
 exact ⟨rfl, hb0⟩
theorem c_rMoveArc_ok (m : Fm) (x : Rp) (w : World) (hm : m.In w) (hs : Sized m.f) (ok : RpOk x) (hz : x.sort.size ≤ 1000000) (h : reportE m.f x = 0) (h8 : ¬ x.kind = 8) : Calls Tryz.prog 55 #[m.v, x.v] w fun e w' => e = .returned (.tuple #[.int .i64 (findR m.f (wordOf x.kind) x.plc x.tick), .int .i64 0]) ∧ Below w.heap.size w w' := by
 have hC := fun W (hb : Below w.heap.size w W) => c_rReport m x W (hm.later hb) hs ok hz
 rw [h] at hC
 have hk := (report_ok h).2.kind
 have hc := report_check h
 have hW := fun W (_hb : Below w.heap.size w W) => c_rWord x.kind W (by omega)
 have hF := fun W (hb : Below w.heap.size w W) => c_rFind m (wordOf x.kind) x.plc x.tick W (hm.later hb) hc
 have he : (x.kind == 8) = false := beq_eq_false_iff_ne.2 h8
 generalize findR m.f (wordOf x.kind) x.plc x.tick = n at *
 have HC := Lib.hid hC
 have HW := Lib.hid hW
 have HF := Lib.hid hF
 clear hC hW hF h hm hs ok hz h8 hk hc
 go_enter Tryz.func55, Tryz.ntmps55
 go_upto_region 1 with (fail)
 go_name_world W1 hW1
 have hb0 : Below w.heap.size w W1 := by subst hW1; go_grown
 obtain ⟨q0, q1, q2, q3⟩ := (show QB m W1 w.heap.size from by subst hW1; and_intros <;> go_simp)
 obtain ⟨r0, r1, r2, r3, r4, r5, r6, r7, r8, r9⟩ := (show RC x W1 ((w.heap.size + 1)) from by subst hW1; and_intros <;> go_simp)
 clear hW1 
 go_wp2_with fail
 refine (HC.out _ hb0).mono ?_
 rintro E W2 ⟨rfl, hB⟩
 have hc := (bcell hB).1
 have zz := cy14 hc q0 q1 q2 q3 r0 r1 r2 r3 r4 r5 r6 r7 r8 r9
 clear q0 q1 q2 q3 r0 r1 r2 r3 r4 r5 r6 r7 r8 r9
 obtain ⟨q0, q1, q2, q3, r0, r1, r2, r3, r4, r5, r6, r7, r8, r9⟩ := zz
 replace hb0 := bthen hb0 hB
 clear hc hB
 have HW2 := Lib.hid (fun (x1 : Later W2) => HW.out x1.1 (bthen hb0 x1.2))
 have HF2 := Lib.hid (fun (x1 : Later W2) => HF.out x1.1 (bthen hb0 x1.2))
 go_upto_region 6 with (fail)
 have kq0 := later_cell q0
 have kq1 := later_cell q1
 have kq2 := later_cell q2
 have kq3 := later_cell q3
 have kr0 := later_cell r0
 have kr1 := later_cell r1
 have kr2 := later_cell r2
 have kr3 := later_cell r3
 have kr4 := later_cell r4
 have kr5 := later_cell r5
 have kr6 := later_cell r6
 have kr7 := later_cell r7
 have kr8 := later_cell r8
 have kr9 := later_cell r9
 refine wp_region_sink 9 W2 (by kernel_rfl) (by kernel_rfl) (Below.refl _ _) ?_
 simp only [List.take_succ_cons, List.take_zero, List.drop_succ_cons, List.drop_zero]
 repeat (go_big_quiet_step (first | (go_at_call 130; with_reducible exact in_region (HW2.out _)) | (go_at_call 129; with_reducible exact in_region (HF2.out _))))
 refine wpQuiet_nil ?_
 rintro ⟨W3, hB⟩
 dsimp only
 have hc := (bcell hB).1
 have hf := (bcell hB).2
 have hz := hB.size
 clear kq0 kq1 kq2 kq3 kr0 kr1 kr2 kr3 kr4 kr5 kr6 kr7 kr8 kr9
 have zz := cy14 hc q0 q1 q2 q3 r0 r1 r2 r3 r4 r5 r6 r7 r8 r9
 clear q0 q1 q2 q3 r0 r1 r2 r3 r4 r5 r6 r7 r8 r9
 obtain ⟨q0, q1, q2, q3, r0, r1, r2, r3, r4, r5, r6, r7, r8, r9⟩ := zz
 replace hb0 : Below w.heap.size w W3 := bthen hb0 hB
 have hzW3 : W2.heap.size ≤ W3.heap.size := hz
 clear hc hf hB hz
 go_wp2
 go_ret2
 exact ⟨rfl, hb0⟩
theorem c_rMoveArc (m : Fm) (x : Rp) (w : World) (hm : m.In w) (hs : Sized m.f) (ok : RpOk x) (hz : x.sort.size ≤ 1000000) : Calls Tryz.prog 55 #[m.v, x.v] w fun e w' => e = .returned (pairV (moveV m.f x)) ∧ Below w.heap.size w w' := by
 rw [← rmove_eq]
 unfold rmoveV
 by_cases h : reportE m.f x = 0
 ·rw [if_neg (by omega)]
  by_cases h8 : x.kind = 8
  ·rw [if_pos h8]; exact c_rMoveArc_8 m x w hm hs ok hz h h8
  ·rw [if_neg h8]; exact c_rMoveArc_ok m x w hm hs ok hz h h8
 ·rw [if_pos h]; exact c_rMoveArc_no m x w hm hs ok hz h
end Go.Proofs.YtlppdgaogdpajaaGreatDoor
namespace Go.Proofs.YtlppdgaogdpajaaGreatDoor
theorem short_sized {f : Fe} (h : shortV f = true) : Sized f := by
 unfold shortV shortB at h
 simp only [Bool.and_eq_true, List.all_eq_true, decide_eq_true_eq] at h
 refine ⟨fun s hs => ?_, fun s hs => ?_⟩
 ·unfold plNames at hs
  obtain ⟨p, hp, rfl⟩ := List.mem_map.1 hs
  have := h.2.1 p hp
  omega
 ·unfold gtNames at hs
  obtain ⟨p, hp, rfl⟩ := List.mem_map.1 hs
  have := h.2.2 p hp
  omega
end Go.Proofs.YtlppdgaogdpajaaGreatDoor
