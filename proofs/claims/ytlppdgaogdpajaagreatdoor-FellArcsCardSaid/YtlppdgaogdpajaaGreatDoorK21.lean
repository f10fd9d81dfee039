/- This text is a part of the proof: Line. -/
import Derived.Test.YtlppdgaogdpajaaGreatDoorK19
import Derived.Test.YtlppdgaogdpajaaGreatDoorK20
set_option maxRecDepth 100000
set_option maxHeartbeats 4000000
namespace Go.Proofs.YtlppdgaogdpajaaGreatDoor
open Go.RowKit Go.Shelf
attribute [local go_sem] Oper.semAt_some
def Stays.strs (l : List ByteArray) : Stays := ⟨fun v W => ∃ b c, v = .slice b l.length c ∧ True ∧ Strs W b l, fun _ _ _ ⟨b, c, e, hc, h⟩ hb => ⟨b, c, e, hc, h.later hb⟩⟩
def Stays.full (l : List ByteArray) : Stays := ⟨fun v W => ∃ b, v = .slice b l.length l.length ∧ Strs W b l, fun _ _ _ ⟨b, e, h⟩ hb => ⟨b, e, h.later hb⟩⟩
theorem wd_some {l : List ByteArray} {k : Nat} (h : k < l.length) : l[k]? = some (wd l k) := by
 unfold wd
 rw [List.getElem?_eq_getElem h]
 rfl
theorem itoa_small {n : Int} (h0 : 0 ≤ n) (h1 : n ≤ 1000000) : (itoaS n).size ≤ 100 := by
 have := Lib.itoa_length_le n (by omega) (by omega)
 unfold itoaS
 show (Lib.itoa n).toArray.size ≤ 100
 simp
 omega
theorem c_line_void (m : Fm) (x : Rp) (w : World) (hl : LibW w) (hj : JOk m.f x) (h8 : x.kind = 8) :
    Calls Tryz.prog 131 #[m.v, x.v] w fun e w' => e = .returned (.string (lineV m.f x)) ∧ Below w.heap.size w w' := by
  have hk : (x.kind == 8) = true := beq_iff_eq.2 h8
  have hI := fun n (hn : Int64 n) W (hb : Below w.heap.size w W) => c_Itoa n W (hl.later hb) hn
  have i1 := hj.id
  have i2 := hj.known
  have i3 := (hj.voids h8).2
  have hJ : (Lib.join (([itoaS x.id, itoaS x.known, wVoid, itoaS x.void] : List ByteArray).map (·.data.toList)) (⟨#[32]⟩ : ByteArray).data.toList).length ≤ 140737488355328 := Nat.le_trans (joined_small (show 4 ≤ 10 from by decide) (by
    intro y hy
    simp only [List.mem_cons, List.not_mem_nil, or_false] at hy
    rcases hy with rfl | rfl | rfl | rfl <;> first | exact itoa_small (by omega) (by omega) | decide)) (by decide)
  have HJ := Lib.hid hJ
  have hV : lineV m.f x = joinS [itoaS x.id, itoaS x.known, wVoid, itoaS x.void] := by
    unfold lineV lineL
    rw [if_pos h8]
  rw [hV]
  have HI := Lib.hid hI
  clear hl hI hj hJ hV h8
  go_enter Tryz.func131, Tryz.ntmps131
  go_upto_region 2 with (fail)
  go_name_world W1 hW1
  have hb0 : Below w.heap.size w W1 := by subst hW1; go_grown
  obtain ⟨q0, q1, q2, q3⟩ := (show QB m W1 w.heap.size from by subst hW1; and_intros <;> go_simp)
  obtain ⟨r0, r1, r2, r3, r4, r5, r6, r7, r8, r9⟩ := (show RC x W1 (w.heap.size + 1) from by subst hW1; and_intros <;> go_simp)
  clear hW1 
  go_upto_region 3 with (fail)
  refine wp_region_assert 14 W1 (fun i => ([Stays.val (.func (.func 95) #[] #[]), Stays.val (.pointer (some ⟨w.heap.size + 1, 0, none⟩)), Stays.val (.int .i64 x.id), Stays.val (.string (itoaS x.id)), Stays.val (.func (.func 95) #[] #[]), Stays.val (.pointer (some ⟨w.heap.size + 1, 1, none⟩)), Stays.val (.int .i64 x.known), Stays.val (.string (itoaS x.known)), Stays.val (.func (.func 95) #[] #[]), Stays.val (.pointer (some ⟨w.heap.size + 1, 9, none⟩)), Stays.val (.int .i64 x.void), Stays.val (.string (itoaS x.void)), Stays.full ([itoaS x.id, itoaS x.known, wVoid, itoaS x.void]), Stays.val (.string (joinS [itoaS x.id, itoaS x.known, wVoid, itoaS x.void]))] : List Stays)[i]?.getD Stays.any) (by kernel_rfl) (by kernel_rfl) (by kernel_rfl) (Below.refl _ _) ?hstep ?htail
  case hstep =>
    intro fr hfr hfd
    simp only [List.take_succ_cons, List.take_zero] at hfr ⊢
    refine ⟨?_, ?_⟩
    · intro vs W hW hd
      have e5 : (fr vs).tmps[5]?.getD undef = .func (.func 95) #[] #[] := (hfr.out vs 5).trans rfl
      exact sv (.func (.func 95) #[] #[])
    refine ⟨?_, ?_⟩
    · intro vs W hW hd
      have e3 : (fr vs).tmps[3]?.getD undef = .pointer (some ⟨w.heap.size + 1, 0, none⟩) := (hfr.out vs 3).trans rfl
      exact sv (.pointer (some ⟨w.heap.size + 1, 0, none⟩))
    refine ⟨?_, ?_⟩
    · intro vs W hW hd
      have e10 : (fr vs).tmps[10]?.getD undef = .pointer (some ⟨w.heap.size + 1, 0, none⟩) := (hfr.out vs 10).trans (by show vs 1 = _; exact hd.1 rfl)
      have kr0 := later_of hW r0
      exact sv (.int .i64 x.id)
    refine ⟨?_, ?_⟩
    · intro vs W hW hd
      have e9 : (fr vs).tmps[9]?.getD undef = .func (.func 95) #[] #[] := (hfr.out vs 9).trans (by show vs 0 = _; exact hd.1 rfl)
      have e11 : (fr vs).tmps[11]?.getD undef = .int .i64 x.id := (hfr.out vs 11).trans (by show vs 2 = _; exact hd.2.1 rfl)
      exact step_call (R := fun v w' => v = .string (itoaS x.id) ∧ Below W.heap.size W w') (f := 95) (args := #[.int .i64 x.id]) (W' := W) (by simp only [execOp]; go_simp) ((HI.out (x.id) (by unfold Int64; omega) W (bthen hb0 hW)).mono fun e w' ⟨h1, h2⟩ => ⟨_, h1, rfl, h2⟩) fun v w' h => ⟨v, rfl, h⟩
    refine ⟨?_, ?_⟩
    · intro vs W hW hd
      have e5 : (fr vs).tmps[5]?.getD undef = .func (.func 95) #[] #[] := (hfr.out vs 5).trans rfl
      exact sv (.func (.func 95) #[] #[])
    refine ⟨?_, ?_⟩
    · intro vs W hW hd
      have e3 : (fr vs).tmps[3]?.getD undef = .pointer (some ⟨w.heap.size + 1, 0, none⟩) := (hfr.out vs 3).trans rfl
      exact sv (.pointer (some ⟨w.heap.size + 1, 1, none⟩))
    refine ⟨?_, ?_⟩
    · intro vs W hW hd
      have e14 : (fr vs).tmps[14]?.getD undef = .pointer (some ⟨w.heap.size + 1, 1, none⟩) := (hfr.out vs 14).trans (by show vs 5 = _; exact hd.1 rfl)
      have kr1 := later_of hW r1
      exact sv (.int .i64 x.known)
    refine ⟨?_, ?_⟩
    · intro vs W hW hd
      have e13 : (fr vs).tmps[13]?.getD undef = .func (.func 95) #[] #[] := (hfr.out vs 13).trans (by show vs 4 = _; exact hd.1 rfl)
      have e15 : (fr vs).tmps[15]?.getD undef = .int .i64 x.known := (hfr.out vs 15).trans (by show vs 6 = _; exact hd.2.1 rfl)
      exact step_call (R := fun v w' => v = .string (itoaS x.known) ∧ Below W.heap.size W w') (f := 95) (args := #[.int .i64 x.known]) (W' := W) (by simp only [execOp]; go_simp) ((HI.out (x.known) (by unfold Int64; omega) W (bthen hb0 hW)).mono fun e w' ⟨h1, h2⟩ => ⟨_, h1, rfl, h2⟩) fun v w' h => ⟨v, rfl, h⟩
    refine ⟨?_, ?_⟩
    · intro vs W hW hd
      have e5 : (fr vs).tmps[5]?.getD undef = .func (.func 95) #[] #[] := (hfr.out vs 5).trans rfl
      exact sv (.func (.func 95) #[] #[])
    refine ⟨?_, ?_⟩
    · intro vs W hW hd
      have e3 : (fr vs).tmps[3]?.getD undef = .pointer (some ⟨w.heap.size + 1, 0, none⟩) := (hfr.out vs 3).trans rfl
      exact sv (.pointer (some ⟨w.heap.size + 1, 9, none⟩))
    refine ⟨?_, ?_⟩
    · intro vs W hW hd
      have e18 : (fr vs).tmps[18]?.getD undef = .pointer (some ⟨w.heap.size + 1, 9, none⟩) := (hfr.out vs 18).trans (by show vs 9 = _; exact hd.1 rfl)
      have kr9 := later_of hW r9
      exact sv (.int .i64 x.void)
    refine ⟨?_, ?_⟩
    · intro vs W hW hd
      have e17 : (fr vs).tmps[17]?.getD undef = .func (.func 95) #[] #[] := (hfr.out vs 17).trans (by show vs 8 = _; exact hd.1 rfl)
      have e19 : (fr vs).tmps[19]?.getD undef = .int .i64 x.void := (hfr.out vs 19).trans (by show vs 10 = _; exact hd.2.1 rfl)
      exact step_call (R := fun v w' => v = .string (itoaS x.void) ∧ Below W.heap.size W w') (f := 95) (args := #[.int .i64 x.void]) (W' := W) (by simp only [execOp]; go_simp) ((HI.out (x.void) (by unfold Int64; omega) W (bthen hb0 hW)).mono fun e w' ⟨h1, h2⟩ => ⟨_, h1, rfl, h2⟩) fun v w' h => ⟨v, rfl, h⟩
    refine ⟨?_, ?_⟩
    · intro vs W hW hd
      have e12 : (fr vs).tmps[12]?.getD undef = .string (itoaS x.id) := (hfr.out vs 12).trans (by show vs 3 = _; exact hd.1 rfl)
      have e16 : (fr vs).tmps[16]?.getD undef = .string (itoaS x.known) := (hfr.out vs 16).trans (by show vs 7 = _; exact hd.2.1 rfl)
      have e20 : (fr vs).tmps[20]?.getD undef = .string (itoaS x.void) := (hfr.out vs 20).trans (by show vs 11 = _; exact hd.2.2.1 rfl)
      have hs := Lst.new strC_len W ([itoaS x.id, itoaS x.known, wVoid, itoaS x.void]) 9 (Nat.le_of_ble_eq_true rfl)
      exact step_val _ (W' := _) (by simp only [execOp]; go_simp; rfl) ⟨_, rfl, ⟨_, rfl, hs⟩, by go_grown⟩
    refine ⟨?_, ?_⟩
    · intro vs W hW hd
      obtain ⟨b, hv, hs⟩ := hd.1 rfl
      have e21 : (fr vs).tmps[21]?.getD undef = .slice b ([itoaS x.id, itoaS x.known, wVoid, itoaS x.void]).length ([itoaS x.id, itoaS x.known, wVoid, itoaS x.void]).length := (hfr.out vs 21).trans (by show vs 12 = _; exact hv)
      exact step_call (R := fun v w' => v = .string (joinS [itoaS x.id, itoaS x.known, wVoid, itoaS x.void]) ∧ Below W.heap.size W w') (f := 96) (args := #[.slice b ([itoaS x.id, itoaS x.known, wVoid, itoaS x.void]).length ([itoaS x.id, itoaS x.known, wVoid, itoaS x.void]).length, .string ⟨#[32]⟩]) (W' := W) (by simp only [execOp]; go_simp) ((c_Join ⟨#[32]⟩ _ b _ W hs (Nat.le_refl _) HJ.out).mono fun e w' ⟨h1, h2⟩ => ⟨_, h1, rfl, h2⟩) fun v w' h => ⟨v, rfl, h⟩
    trivial
  case htail =>
    intro vs W hW hv
    have v13 : vs 13 = .string (joinS [itoaS x.id, itoaS x.known, wVoid, itoaS x.void]) := hv.2.2.2.2.2.2.2.2.2.2.2.2.2.1
    clear hv
    simp only [List.take_succ_cons, List.take_zero, List.drop_succ_cons, List.drop_zero, frameV, Act.put, List.setIfInBounds_toArray, List.set_cons_zero, List.set_cons_succ, v13]
    have hbw := bthen hb0 hW
    go_wp2
    go_ret
    exact ⟨rfl, hbw⟩
theorem c_line_tells (m : Fm) (x : Rp) (w : World) (hm : m.In w) (hl : LibW w) (hf : checkE m.f = 0) (hj : JOk m.f x) (h8 : ¬ x.kind = 8) :
    Calls Tryz.prog 131 #[m.v, x.v] w fun e w' => e = .returned (.string (lineV m.f x)) ∧ Below w.heap.size w w' := by
  have hk : (x.kind == 8) = false := beq_eq_false_iff_ne.2 h8
  have hI := fun n (hn : Int64 n) W (hb : Below w.heap.size w W) => c_Itoa n W (hl.later hb) hn
  have hT := fun W (hb : Below w.heap.size w W) => c_things m x.kind W (hm.later hb)
  have hR := right_of hf
  have ht := hj.tells h8
  have i1 := hj.id
  have i2 := hj.known
  have i3 := hj.kind
  have i4 := ht.owner
  have i5 : 0 ≤ x.tick ∧ x.tick ≤ 100 := by
    have h1 := ht.tick
    have h2 : lastT m.f x.kind ≤ m.f.ticks := by unfold lastT; split <;> omega
    have := hR.t24
    omega
  have i6 := ht.low
  have i7 := ht.high
  have i8 := ht.most
  have i9 : x.plc.toNat < (thingsL m.f x.kind).length := by
    have h1 := ht.plc
    have h2 := thingsN_len m.f x.kind
    omega
  have i10 := ht.plc.1
  have hn : ∀ y ∈ thingsL m.f x.kind, y.size ≤ 100 := fun y hy => by
    have h1 : nameB y = true := by
      unfold thingsL at hy
      split at hy
      · have := List.any_eq_false.1 hR.gn y hy; simpa using this
      · have := List.any_eq_false.1 hR.pn y hy; simpa using this
    exact Nat.le_trans (nameB_size h1).2 (by decide)
  have hJ : (Lib.join (([itoaS x.id, itoaS x.known, wd kindsL x.kind.toNat, itoaS x.owner, x.sort, wd (thingsL m.f x.kind) x.plc.toNat, itoaS x.tick, itoaS x.low, itoaS x.high] : List ByteArray).map (·.data.toList)) (⟨#[32]⟩ : ByteArray).data.toList).length ≤ 140737488355328 := Nat.le_trans (joined_small (show 9 ≤ 10 from by decide) (by
    intro y hy
    simp only [List.mem_cons, List.not_mem_nil, or_false] at hy
    rcases hy with rfl | rfl | rfl | rfl | rfl | rfl | rfl | rfl | rfl
    · exact itoa_small (by omega) (by omega)
    · exact itoa_small (by omega) (by omega)
    · have h1 : x.kind.toNat < kindsL.length := by show x.kind.toNat < 9; omega
      have h2 : ∀ y ∈ kindsL, y.size ≤ 100 := by decide
      exact h2 _ (List.mem_of_getElem? (wd_some h1))
    · exact itoa_small (by omega) (by omega)
    · exact Nat.le_trans (nameB_size ht.sort).2 (by decide)
    · exact hn _ (List.mem_of_getElem? (wd_some i9))
    · exact itoa_small (by omega) (by omega)
    · exact itoa_small (by omega) (by omega)
    · exact itoa_small (by omega) (by omega))) (by decide)
  have HJ := Lib.hid hJ
  have hV : lineV m.f x = joinS [itoaS x.id, itoaS x.known, wd kindsL x.kind.toNat, itoaS x.owner, x.sort, wd (thingsL m.f x.kind) x.plc.toNat, itoaS x.tick, itoaS x.low, itoaS x.high] := by
    unfold lineV lineL
    rw [if_neg h8]
    rfl
  rw [hV]
  have HI := Lib.hid hI
  have HT := Lib.hid hT
  clear hl hI hj hJ hV h8 hm hT hf hR ht hn
  go_enter Tryz.func131, Tryz.ntmps131
  go_upto_region 2 with (fail)
  go_name_world W1 hW1
  have hb0 : Below w.heap.size w W1 := by subst hW1; go_grown
  obtain ⟨q0, q1, q2, q3⟩ := (show QB m W1 w.heap.size from by subst hW1; and_intros <;> go_simp)
  obtain ⟨r0, r1, r2, r3, r4, r5, r6, r7, r8, r9⟩ := (show RC x W1 (w.heap.size + 1) from by subst hW1; and_intros <;> go_simp)
  clear hW1 
  go_upto_region 4 with (fail)
  refine wp_region_assert 41 W1 (fun i => ([Stays.val (.func (.func 95) #[] #[]), Stays.val (.pointer (some ⟨w.heap.size + 1, 0, none⟩)), Stays.val (.int .i64 x.id), Stays.val (.string (itoaS x.id)), Stays.val (.func (.func 95) #[] #[]), Stays.val (.pointer (some ⟨w.heap.size + 1, 1, none⟩)), Stays.val (.int .i64 x.known), Stays.val (.string (itoaS x.known)), Stays.strs kindsL, Stays.val (.pointer (some ⟨w.heap.size + 1, 2, none⟩)), Stays.val (.int .u8 x.kind), Stays.ptr (.string (wd (kindsL) (x.kind.toNat))), Stays.val (.string (wd (kindsL) (x.kind.toNat))), Stays.val (.func (.func 95) #[] #[]), Stays.val (.pointer (some ⟨w.heap.size + 1, 3, none⟩)), Stays.val (.int .i64 x.owner), Stays.val (.string (itoaS x.owner)), Stays.val (.pointer (some ⟨w.heap.size + 1, 4, none⟩)), Stays.val (.string x.sort), Stays.val (m.v), Stays.val (.pointer (some ⟨w.heap.size + 1, 2, none⟩)), Stays.val (.int .u8 x.kind), Stays.strs (thingsL m.f x.kind), Stays.val (.pointer (some ⟨w.heap.size + 1, 5, none⟩)), Stays.val (.int .i64 x.plc), Stays.ptr (.string (wd (thingsL m.f x.kind) (x.plc.toNat))), Stays.val (.string (wd (thingsL m.f x.kind) (x.plc.toNat))), Stays.val (.func (.func 95) #[] #[]), Stays.val (.pointer (some ⟨w.heap.size + 1, 6, none⟩)), Stays.val (.int .i64 x.tick), Stays.val (.string (itoaS x.tick)), Stays.val (.func (.func 95) #[] #[]), Stays.val (.pointer (some ⟨w.heap.size + 1, 7, none⟩)), Stays.val (.int .i64 x.low), Stays.val (.string (itoaS x.low)), Stays.val (.func (.func 95) #[] #[]), Stays.val (.pointer (some ⟨w.heap.size + 1, 8, none⟩)), Stays.val (.int .i64 x.high), Stays.val (.string (itoaS x.high)), Stays.full ([itoaS x.id, itoaS x.known, wd kindsL x.kind.toNat, itoaS x.owner, x.sort, wd (thingsL m.f x.kind) x.plc.toNat, itoaS x.tick, itoaS x.low, itoaS x.high]), Stays.val (.string (joinS [itoaS x.id, itoaS x.known, wd kindsL x.kind.toNat, itoaS x.owner, x.sort, wd (thingsL m.f x.kind) x.plc.toNat, itoaS x.tick, itoaS x.low, itoaS x.high]))] : List Stays)[i]?.getD Stays.any) (by kernel_rfl) (by kernel_rfl) (by kernel_rfl) (Below.refl _ _) ?hstep ?htail
  case hstep =>
    intro fr hfr hfd
    simp only [List.take_succ_cons, List.take_zero] at hfr ⊢
    refine ⟨?_, ?_⟩
    · intro vs W hW hd
      have e5 : (fr vs).tmps[5]?.getD undef = .func (.func 95) #[] #[] := (hfr.out vs 5).trans rfl
      exact sv (.func (.func 95) #[] #[])
    refine ⟨?_, ?_⟩
    · intro vs W hW hd
      have e3 : (fr vs).tmps[3]?.getD undef = .pointer (some ⟨w.heap.size + 1, 0, none⟩) := (hfr.out vs 3).trans rfl
      exact sv (.pointer (some ⟨w.heap.size + 1, 0, none⟩))
    refine ⟨?_, ?_⟩
    · intro vs W hW hd
      have e24 : (fr vs).tmps[24]?.getD undef = .pointer (some ⟨w.heap.size + 1, 0, none⟩) := (hfr.out vs 24).trans (by show vs 1 = _; exact hd.1 rfl)
      have kr0 := later_of hW r0
      exact sv (.int .i64 x.id)
    refine ⟨?_, ?_⟩
    · intro vs W hW hd
      have e23 : (fr vs).tmps[23]?.getD undef = .func (.func 95) #[] #[] := (hfr.out vs 23).trans (by show vs 0 = _; exact hd.1 rfl)
      have e25 : (fr vs).tmps[25]?.getD undef = .int .i64 x.id := (hfr.out vs 25).trans (by show vs 2 = _; exact hd.2.1 rfl)
      exact step_call (R := fun v w' => v = .string (itoaS x.id) ∧ Below W.heap.size W w') (f := 95) (args := #[.int .i64 x.id]) (W' := W) (by simp only [execOp]; go_simp) ((HI.out (x.id) (by unfold Int64; omega) W (bthen hb0 hW)).mono fun e w' ⟨h1, h2⟩ => ⟨_, h1, rfl, h2⟩) fun v w' h => ⟨v, rfl, h⟩
    refine ⟨?_, ?_⟩
    · intro vs W hW hd
      have e5 : (fr vs).tmps[5]?.getD undef = .func (.func 95) #[] #[] := (hfr.out vs 5).trans rfl
      exact sv (.func (.func 95) #[] #[])
    refine ⟨?_, ?_⟩
    · intro vs W hW hd
      have e3 : (fr vs).tmps[3]?.getD undef = .pointer (some ⟨w.heap.size + 1, 0, none⟩) := (hfr.out vs 3).trans rfl
      exact sv (.pointer (some ⟨w.heap.size + 1, 1, none⟩))
    refine ⟨?_, ?_⟩
    · intro vs W hW hd
      have e28 : (fr vs).tmps[28]?.getD undef = .pointer (some ⟨w.heap.size + 1, 1, none⟩) := (hfr.out vs 28).trans (by show vs 5 = _; exact hd.1 rfl)
      have kr1 := later_of hW r1
      exact sv (.int .i64 x.known)
    refine ⟨?_, ?_⟩
    · intro vs W hW hd
      have e27 : (fr vs).tmps[27]?.getD undef = .func (.func 95) #[] #[] := (hfr.out vs 27).trans (by show vs 4 = _; exact hd.1 rfl)
      have e29 : (fr vs).tmps[29]?.getD undef = .int .i64 x.known := (hfr.out vs 29).trans (by show vs 6 = _; exact hd.2.1 rfl)
      exact step_call (R := fun v w' => v = .string (itoaS x.known) ∧ Below W.heap.size W w') (f := 95) (args := #[.int .i64 x.known]) (W' := W) (by simp only [execOp]; go_simp) ((HI.out (x.known) (by unfold Int64; omega) W (bthen hb0 hW)).mono fun e w' ⟨h1, h2⟩ => ⟨_, h1, rfl, h2⟩) fun v w' h => ⟨v, rfl, h⟩
    refine ⟨?_, ?_⟩
    · intro vs W hW hd
      exact step_call (R := fun v w' => (Stays.strs kindsL).p v w' ∧ Below W.heap.size W w') (f := 135) (args := #[]) (W' := W) (by simp only [execOp]; go_simp) ((c_kinds W).mono fun e w' ⟨h1, h2, h3⟩ => ⟨_, h1, ⟨_, _, rfl, trivial, h2⟩, h3⟩) fun v w' h => ⟨v, rfl, h⟩
    refine ⟨?_, ?_⟩
    · intro vs W hW hd
      have e3 : (fr vs).tmps[3]?.getD undef = .pointer (some ⟨w.heap.size + 1, 0, none⟩) := (hfr.out vs 3).trans rfl
      exact sv (.pointer (some ⟨w.heap.size + 1, 2, none⟩))
    refine ⟨?_, ?_⟩
    · intro vs W hW hd
      have e32 : (fr vs).tmps[32]?.getD undef = .pointer (some ⟨w.heap.size + 1, 2, none⟩) := (hfr.out vs 32).trans (by show vs 9 = _; exact hd.1 rfl)
      have kr2 := later_of hW r2
      exact sv (.int .u8 x.kind)
    refine ⟨?_, ?_⟩
    · intro vs W hW hd
      obtain ⟨b31, c31, hv31, hc31, hs31⟩ := hd.1 rfl
      have e31 : (fr vs).tmps[31]?.getD undef = .slice b31 (kindsL).length c31 := (hfr.out vs 31).trans (by show vs 8 = _; exact hv31)
      have e33 : (fr vs).tmps[33]?.getD undef = .int .u8 x.kind := (hfr.out vs 33).trans (by show vs 10 = _; exact hd.2.1 rfl)
      obtain ⟨g, o, rfl, hg⟩ := hs31.at (wd_some (show x.kind.toNat < kindsL.length from by show x.kind.toNat < 9; omega))
      have hg1 := str_cell hg
      rw [Nat.mul_one] at hg1
      have g2 : (x.kind.toNat : Nat) < (kindsL).length := (show x.kind.toNat < kindsL.length from by show x.kind.toNat < 9; omega)
      exact step_val (.pointer (some ⟨g, o + x.kind.toNat, none⟩)) (W' := W) (by simp only [execOp]; go_simp; intros; exfalso; omega) ⟨_, rfl, ⟨_, _, rfl, hg1⟩, Below.refl _ _⟩
    refine ⟨?_, ?_⟩
    · intro vs W hW hd
      obtain ⟨b34, o34, hv34, hk34⟩ := hd.1 rfl
      have e34 : (fr vs).tmps[34]?.getD undef = .pointer (some ⟨b34, o34, none⟩) := (hfr.out vs 34).trans (by show vs 11 = _; exact hv34)
      exact sv (.string (wd (kindsL) (x.kind.toNat)))
    refine ⟨?_, ?_⟩
    · intro vs W hW hd
      have e5 : (fr vs).tmps[5]?.getD undef = .func (.func 95) #[] #[] := (hfr.out vs 5).trans rfl
      exact sv (.func (.func 95) #[] #[])
    refine ⟨?_, ?_⟩
    · intro vs W hW hd
      have e3 : (fr vs).tmps[3]?.getD undef = .pointer (some ⟨w.heap.size + 1, 0, none⟩) := (hfr.out vs 3).trans rfl
      exact sv (.pointer (some ⟨w.heap.size + 1, 3, none⟩))
    refine ⟨?_, ?_⟩
    · intro vs W hW hd
      have e37 : (fr vs).tmps[37]?.getD undef = .pointer (some ⟨w.heap.size + 1, 3, none⟩) := (hfr.out vs 37).trans (by show vs 14 = _; exact hd.1 rfl)
      have kr3 := later_of hW r3
      exact sv (.int .i64 x.owner)
    refine ⟨?_, ?_⟩
    · intro vs W hW hd
      have e36 : (fr vs).tmps[36]?.getD undef = .func (.func 95) #[] #[] := (hfr.out vs 36).trans (by show vs 13 = _; exact hd.1 rfl)
      have e38 : (fr vs).tmps[38]?.getD undef = .int .i64 x.owner := (hfr.out vs 38).trans (by show vs 15 = _; exact hd.2.1 rfl)
      exact step_call (R := fun v w' => v = .string (itoaS x.owner) ∧ Below W.heap.size W w') (f := 95) (args := #[.int .i64 x.owner]) (W' := W) (by simp only [execOp]; go_simp) ((HI.out (x.owner) (by unfold Int64; omega) W (bthen hb0 hW)).mono fun e w' ⟨h1, h2⟩ => ⟨_, h1, rfl, h2⟩) fun v w' h => ⟨v, rfl, h⟩
    refine ⟨?_, ?_⟩
    · intro vs W hW hd
      have e3 : (fr vs).tmps[3]?.getD undef = .pointer (some ⟨w.heap.size + 1, 0, none⟩) := (hfr.out vs 3).trans rfl
      exact sv (.pointer (some ⟨w.heap.size + 1, 4, none⟩))
    refine ⟨?_, ?_⟩
    · intro vs W hW hd
      have e40 : (fr vs).tmps[40]?.getD undef = .pointer (some ⟨w.heap.size + 1, 4, none⟩) := (hfr.out vs 40).trans (by show vs 17 = _; exact hd.1 rfl)
      have kr4 := later_of hW r4
      exact sv (.string x.sort)
    refine ⟨?_, ?_⟩
    · intro vs W hW hd
      have e2 : (fr vs).tmps[2]?.getD undef = .pointer (some ⟨w.heap.size, 0, none⟩) := (hfr.out vs 2).trans rfl
      have kq0 := later_of hW q0
      have kq1 := later_of hW q1
      have kq2 := later_of hW q2
      have kq3 := later_of hW q3
      exact sv (m.v)
    refine ⟨?_, ?_⟩
    · intro vs W hW hd
      have e3 : (fr vs).tmps[3]?.getD undef = .pointer (some ⟨w.heap.size + 1, 0, none⟩) := (hfr.out vs 3).trans rfl
      exact sv (.pointer (some ⟨w.heap.size + 1, 2, none⟩))
    refine ⟨?_, ?_⟩
    · intro vs W hW hd
      have e43 : (fr vs).tmps[43]?.getD undef = .pointer (some ⟨w.heap.size + 1, 2, none⟩) := (hfr.out vs 43).trans (by show vs 20 = _; exact hd.1 rfl)
      have kr2 := later_of hW r2
      exact sv (.int .u8 x.kind)
    refine ⟨?_, ?_⟩
    · intro vs W hW hd
      have e42 : (fr vs).tmps[42]?.getD undef = m.v := (hfr.out vs 42).trans (by show vs 19 = _; exact hd.1 rfl)
      have e44 : (fr vs).tmps[44]?.getD undef = .int .u8 x.kind := (hfr.out vs 44).trans (by show vs 21 = _; exact hd.2.1 rfl)
      exact step_call (R := fun v w' => (Stays.strs (thingsL m.f x.kind)).p v w' ∧ Below W.heap.size W w') (f := 136) (args := #[m.v, .int .u8 x.kind]) (W' := W) (by simp only [execOp]; go_simp) ((HT.out W (bthen hb0 hW)).mono fun e w' ⟨⟨b, c, h1, h2⟩, h3⟩ => ⟨_, h1, ⟨_, _, rfl, trivial, h2⟩, h3⟩) fun v w' h => ⟨v, rfl, h⟩
    refine ⟨?_, ?_⟩
    · intro vs W hW hd
      have e3 : (fr vs).tmps[3]?.getD undef = .pointer (some ⟨w.heap.size + 1, 0, none⟩) := (hfr.out vs 3).trans rfl
      exact sv (.pointer (some ⟨w.heap.size + 1, 5, none⟩))
    refine ⟨?_, ?_⟩
    · intro vs W hW hd
      have e46 : (fr vs).tmps[46]?.getD undef = .pointer (some ⟨w.heap.size + 1, 5, none⟩) := (hfr.out vs 46).trans (by show vs 23 = _; exact hd.1 rfl)
      have kr5 := later_of hW r5
      exact sv (.int .i64 x.plc)
    refine ⟨?_, ?_⟩
    · intro vs W hW hd
      obtain ⟨b45, c45, hv45, hc45, hs45⟩ := hd.1 rfl
      have e45 : (fr vs).tmps[45]?.getD undef = .slice b45 (thingsL m.f x.kind).length c45 := (hfr.out vs 45).trans (by show vs 22 = _; exact hv45)
      have e47 : (fr vs).tmps[47]?.getD undef = .int .i64 x.plc := (hfr.out vs 47).trans (by show vs 24 = _; exact hd.2.1 rfl)
      obtain ⟨g, o, rfl, hg⟩ := hs45.at (wd_some i9)
      have hg1 := str_cell hg
      rw [Nat.mul_one] at hg1
      have g2 : (x.plc.toNat : Nat) < (thingsL m.f x.kind).length := i9
      exact step_val (.pointer (some ⟨g, o + x.plc.toNat, none⟩)) (W' := W) (by simp only [execOp]; go_simp; intros; exfalso; omega) ⟨_, rfl, ⟨_, _, rfl, hg1⟩, Below.refl _ _⟩
    refine ⟨?_, ?_⟩
    · intro vs W hW hd
      obtain ⟨b48, o48, hv48, hk48⟩ := hd.1 rfl
      have e48 : (fr vs).tmps[48]?.getD undef = .pointer (some ⟨b48, o48, none⟩) := (hfr.out vs 48).trans (by show vs 25 = _; exact hv48)
      exact sv (.string (wd (thingsL m.f x.kind) (x.plc.toNat)))
    refine ⟨?_, ?_⟩
    · intro vs W hW hd
      have e5 : (fr vs).tmps[5]?.getD undef = .func (.func 95) #[] #[] := (hfr.out vs 5).trans rfl
      exact sv (.func (.func 95) #[] #[])
    refine ⟨?_, ?_⟩
    · intro vs W hW hd
      have e3 : (fr vs).tmps[3]?.getD undef = .pointer (some ⟨w.heap.size + 1, 0, none⟩) := (hfr.out vs 3).trans rfl
      exact sv (.pointer (some ⟨w.heap.size + 1, 6, none⟩))
    refine ⟨?_, ?_⟩
    · intro vs W hW hd
      have e51 : (fr vs).tmps[51]?.getD undef = .pointer (some ⟨w.heap.size + 1, 6, none⟩) := (hfr.out vs 51).trans (by show vs 28 = _; exact hd.1 rfl)
      have kr6 := later_of hW r6
      exact sv (.int .i64 x.tick)
    refine ⟨?_, ?_⟩
    · intro vs W hW hd
      have e50 : (fr vs).tmps[50]?.getD undef = .func (.func 95) #[] #[] := (hfr.out vs 50).trans (by show vs 27 = _; exact hd.1 rfl)
      have e52 : (fr vs).tmps[52]?.getD undef = .int .i64 x.tick := (hfr.out vs 52).trans (by show vs 29 = _; exact hd.2.1 rfl)
      exact step_call (R := fun v w' => v = .string (itoaS x.tick) ∧ Below W.heap.size W w') (f := 95) (args := #[.int .i64 x.tick]) (W' := W) (by simp only [execOp]; go_simp) ((HI.out (x.tick) (by unfold Int64; omega) W (bthen hb0 hW)).mono fun e w' ⟨h1, h2⟩ => ⟨_, h1, rfl, h2⟩) fun v w' h => ⟨v, rfl, h⟩
    refine ⟨?_, ?_⟩
    · intro vs W hW hd
      have e5 : (fr vs).tmps[5]?.getD undef = .func (.func 95) #[] #[] := (hfr.out vs 5).trans rfl
      exact sv (.func (.func 95) #[] #[])
    refine ⟨?_, ?_⟩
    · intro vs W hW hd
      have e3 : (fr vs).tmps[3]?.getD undef = .pointer (some ⟨w.heap.size + 1, 0, none⟩) := (hfr.out vs 3).trans rfl
      exact sv (.pointer (some ⟨w.heap.size + 1, 7, none⟩))
    refine ⟨?_, ?_⟩
    · intro vs W hW hd
      have e55 : (fr vs).tmps[55]?.getD undef = .pointer (some ⟨w.heap.size + 1, 7, none⟩) := (hfr.out vs 55).trans (by show vs 32 = _; exact hd.1 rfl)
      have kr7 := later_of hW r7
      exact sv (.int .i64 x.low)
    refine ⟨?_, ?_⟩
    · intro vs W hW hd
      have e54 : (fr vs).tmps[54]?.getD undef = .func (.func 95) #[] #[] := (hfr.out vs 54).trans (by show vs 31 = _; exact hd.1 rfl)
      have e56 : (fr vs).tmps[56]?.getD undef = .int .i64 x.low := (hfr.out vs 56).trans (by show vs 33 = _; exact hd.2.1 rfl)
      exact step_call (R := fun v w' => v = .string (itoaS x.low) ∧ Below W.heap.size W w') (f := 95) (args := #[.int .i64 x.low]) (W' := W) (by simp only [execOp]; go_simp) ((HI.out (x.low) (by unfold Int64; omega) W (bthen hb0 hW)).mono fun e w' ⟨h1, h2⟩ => ⟨_, h1, rfl, h2⟩) fun v w' h => ⟨v, rfl, h⟩
    refine ⟨?_, ?_⟩
    · intro vs W hW hd
      have e5 : (fr vs).tmps[5]?.getD undef = .func (.func 95) #[] #[] := (hfr.out vs 5).trans rfl
      exact sv (.func (.func 95) #[] #[])
    refine ⟨?_, ?_⟩
    · intro vs W hW hd
      have e3 : (fr vs).tmps[3]?.getD undef = .pointer (some ⟨w.heap.size + 1, 0, none⟩) := (hfr.out vs 3).trans rfl
      exact sv (.pointer (some ⟨w.heap.size + 1, 8, none⟩))
    refine ⟨?_, ?_⟩
    · intro vs W hW hd
      have e59 : (fr vs).tmps[59]?.getD undef = .pointer (some ⟨w.heap.size + 1, 8, none⟩) := (hfr.out vs 59).trans (by show vs 36 = _; exact hd.1 rfl)
      have kr8 := later_of hW r8
      exact sv (.int .i64 x.high)
    refine ⟨?_, ?_⟩
    · intro vs W hW hd
      have e58 : (fr vs).tmps[58]?.getD undef = .func (.func 95) #[] #[] := (hfr.out vs 58).trans (by show vs 35 = _; exact hd.1 rfl)
      have e60 : (fr vs).tmps[60]?.getD undef = .int .i64 x.high := (hfr.out vs 60).trans (by show vs 37 = _; exact hd.2.1 rfl)
      exact step_call (R := fun v w' => v = .string (itoaS x.high) ∧ Below W.heap.size W w') (f := 95) (args := #[.int .i64 x.high]) (W' := W) (by simp only [execOp]; go_simp) ((HI.out (x.high) (by unfold Int64; omega) W (bthen hb0 hW)).mono fun e w' ⟨h1, h2⟩ => ⟨_, h1, rfl, h2⟩) fun v w' h => ⟨v, rfl, h⟩
    refine ⟨?_, ?_⟩
    · intro vs W hW hd
      have e26 : (fr vs).tmps[26]?.getD undef = .string (itoaS x.id) := (hfr.out vs 26).trans (by show vs 3 = _; exact hd.1 rfl)
      have e30 : (fr vs).tmps[30]?.getD undef = .string (itoaS x.known) := (hfr.out vs 30).trans (by show vs 7 = _; exact hd.2.1 rfl)
      have e35 : (fr vs).tmps[35]?.getD undef = .string (wd (kindsL) (x.kind.toNat)) := (hfr.out vs 35).trans (by show vs 12 = _; exact hd.2.2.1 rfl)
      have e39 : (fr vs).tmps[39]?.getD undef = .string (itoaS x.owner) := (hfr.out vs 39).trans (by show vs 16 = _; exact hd.2.2.2.1 rfl)
      have e41 : (fr vs).tmps[41]?.getD undef = .string x.sort := (hfr.out vs 41).trans (by show vs 18 = _; exact hd.2.2.2.2.1 rfl)
      have e49 : (fr vs).tmps[49]?.getD undef = .string (wd (thingsL m.f x.kind) (x.plc.toNat)) := (hfr.out vs 49).trans (by show vs 26 = _; exact hd.2.2.2.2.2.1 rfl)
      have e53 : (fr vs).tmps[53]?.getD undef = .string (itoaS x.tick) := (hfr.out vs 53).trans (by show vs 30 = _; exact hd.2.2.2.2.2.2.1 rfl)
      have e57 : (fr vs).tmps[57]?.getD undef = .string (itoaS x.low) := (hfr.out vs 57).trans (by show vs 34 = _; exact hd.2.2.2.2.2.2.2.1 rfl)
      have e61 : (fr vs).tmps[61]?.getD undef = .string (itoaS x.high) := (hfr.out vs 61).trans (by show vs 38 = _; exact hd.2.2.2.2.2.2.2.2.1 rfl)
      have hs := Lst.new strC_len W ([itoaS x.id, itoaS x.known, wd kindsL x.kind.toNat, itoaS x.owner, x.sort, wd (thingsL m.f x.kind) x.plc.toNat, itoaS x.tick, itoaS x.low, itoaS x.high]) 9 (Nat.le_of_ble_eq_true rfl)
      exact step_val _ (W' := _) (by simp only [execOp]; go_simp; rfl) ⟨_, rfl, ⟨_, rfl, hs⟩, by go_grown⟩
    refine ⟨?_, ?_⟩
    · intro vs W hW hd
      obtain ⟨b, hv, hs⟩ := hd.1 rfl
      have e62 : (fr vs).tmps[62]?.getD undef = .slice b ([itoaS x.id, itoaS x.known, wd kindsL x.kind.toNat, itoaS x.owner, x.sort, wd (thingsL m.f x.kind) x.plc.toNat, itoaS x.tick, itoaS x.low, itoaS x.high]).length ([itoaS x.id, itoaS x.known, wd kindsL x.kind.toNat, itoaS x.owner, x.sort, wd (thingsL m.f x.kind) x.plc.toNat, itoaS x.tick, itoaS x.low, itoaS x.high]).length := (hfr.out vs 62).trans (by show vs 39 = _; exact hv)
      exact step_call (R := fun v w' => v = .string (joinS [itoaS x.id, itoaS x.known, wd kindsL x.kind.toNat, itoaS x.owner, x.sort, wd (thingsL m.f x.kind) x.plc.toNat, itoaS x.tick, itoaS x.low, itoaS x.high]) ∧ Below W.heap.size W w') (f := 96) (args := #[.slice b ([itoaS x.id, itoaS x.known, wd kindsL x.kind.toNat, itoaS x.owner, x.sort, wd (thingsL m.f x.kind) x.plc.toNat, itoaS x.tick, itoaS x.low, itoaS x.high]).length ([itoaS x.id, itoaS x.known, wd kindsL x.kind.toNat, itoaS x.owner, x.sort, wd (thingsL m.f x.kind) x.plc.toNat, itoaS x.tick, itoaS x.low, itoaS x.high]).length, .string ⟨#[32]⟩]) (W' := W) (by simp only [execOp]; go_simp) ((c_Join ⟨#[32]⟩ _ b _ W hs (Nat.le_refl _) HJ.out).mono fun e w' ⟨h1, h2⟩ => ⟨_, h1, rfl, h2⟩) fun v w' h => ⟨v, rfl, h⟩
    trivial
  case htail =>
    intro vs W hW hv
    have v40 : vs 40 = .string (joinS [itoaS x.id, itoaS x.known, wd kindsL x.kind.toNat, itoaS x.owner, x.sort, wd (thingsL m.f x.kind) x.plc.toNat, itoaS x.tick, itoaS x.low, itoaS x.high]) := hv.2.2.2.2.2.2.2.2.2.2.2.2.2.2.2.2.2.2.2.2.2.2.2.2.2.2.2.2.2.2.2.2.2.2.2.2.2.2.2.2.1
    clear hv
    simp only [List.take_succ_cons, List.take_zero, List.drop_succ_cons, List.drop_zero, frameV, Act.put, List.setIfInBounds_toArray, List.set_cons_zero, List.set_cons_succ, v40]
    have hbw := bthen hb0 hW
    go_wp2
    go_ret
    exact ⟨rfl, hbw⟩
theorem c_line (m : Fm) (x : Rp) (w : World) (hm : m.In w) (hl : LibW w) (hf : checkE m.f = 0) (hj : JOk m.f x) :
  Calls Tryz.prog 131 #[m.v, x.v] w fun e w' => e = .returned (.string (lineV m.f x)) ∧ Below w.heap.size w w' := by
 by_cases h8 : x.kind = 8
 ·exact c_line_void m x w hl hj h8
 ·exact c_line_tells m x w hm hl hf hj h8
end Go.Proofs.YtlppdgaogdpajaaGreatDoor
