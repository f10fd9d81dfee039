/- This text is a part of the proof: PFCounting. -/
import Derived.Test.YtlppdgaogdpajaaGreatDoorLCounting4
set_option maxRecDepth 100000
set_option maxHeartbeats 8000000
namespace Go.Proofs.YtlppdgaogdpajaaGreatDoor.fellCounting
open Go.ChangeShapes Go.WideShapes Go.ChangeAt Go.RowKit Go.Joins Go.Deep
open Go.ChangeMaps (open_string shut_string)
theorem walk_s (m : Fm) (l : List Rp) (a : Option Addr) (cap : Nat) (known owner : Int) {w : World} (hm : m.Arg w) (hl : SlArg rpC 10 RpW w l a cap) (hs : (shortV m.f && fewV l 40) = false) (hL : LibW w) :
  Calls Tryz.prog 15 #[m.v, .slice a l.length cap, .int .i64 known, .int .i64 owner] w fun e w' => e = .returned (.bool true) ∧ Below w.heap.size w w' := by
 have hF := fun W (hb : Below w.heap.size w W) => c_few m l a cap W (hm.later hb) (slarg_later hl hb)
 rw [hs] at hF
 have HF := Lib.hid hF
 have HL := Lib.hid hL
 clear hF hL hm hl
 go_enter Tryz.func15, Tryz.ntmps15
 go_upto_region 1 with (fail)
 go_name_world W1 hW1
 have hb0 : Below w.heap.size w W1 := by subst hW1; go_grown
 obtain ⟨q0, q1, q2, q3⟩ := (show QB m W1 w.heap.size from by subst hW1; and_intros <;> go_simp)
 clear hW1 
 go_wp2_with fail
 refine (HF.out _ hb0).mono ?_
 rintro E W2 ⟨rfl, hB⟩
 have hc := (bcell hB).1
 have zz := cy4 hc q0 q1 q2 q3
 clear q0 q1 q2 q3
 obtain ⟨q0, q1, q2, q3⟩ := zz
 replace hb0 := bthen hb0 hB
 clear hc hB
 go_wp2_with fail
 refine (c_alive _ (HL.out.later hb0)).mono ?_
 rintro E W3 ⟨rfl, hB⟩
 have hc := (bcell hB).1
 have zz := cy4 hc q0 q1 q2 q3
 clear q0 q1 q2 q3
 obtain ⟨q0, q1, q2, q3⟩ := zz
 replace hb0 := bthen hb0 hB
 clear hc hB
 go_wp2
 go_ret
 exact ⟨rfl, hb0⟩
theorem walk_ok (m : Fm) (l : List Rp) (a : Option Addr) (cap : Nat) (known owner : Int) {w : World} (hm : m.Arg w) (hl : SlArg rpC 10 RpW w l a cap) (hs : (shortV m.f && fewV l 40) = true) (hmi : m.In w) (hz : Sized m.f) (hr : Rps w a l) (hok : ∀ y ∈ l, RpOk y) (hsz : ∀ y ∈ l, y.sort.size ≤ 1000000) (hlen : l.length ≤ 40) (hL : LibW w) :
  Calls Tryz.prog 15 #[m.v, .slice a l.length cap, .int .i64 known, .int .i64 owner] w fun e w' => e = .returned (.bool true) ∧ Below w.heap.size w w' := by
 have hF := fun W (hb : Below w.heap.size w W) => c_few m l a cap W (hm.later hb) (slarg_later hl hb)
 rw [hs] at hF
 have HF := Lib.hid hF
 have HL := Lib.hid hL
 have hI1 := fun W (hb : Below w.heap.size w W) => c_Counting m l a cap known W (hmi.later hb) (hr.later hb) hok hl.room
 have hI2 := fun W (hb : Below w.heap.size w W) => c_rCounting m l a cap known W (hmi.later hb) hz (hr.later hb) hok hsz hl.room (by omega)
 have hO1 := fun W (hb : Below w.heap.size w W) => c_Owners m l a cap known W (hmi.later hb) (hr.later hb) hok hl.room
 have hO2 := fun W (hb : Below w.heap.size w W) => c_rOwners m l a cap known W (hmi.later hb) hz (hr.later hb) hok hsz hl.room (by omega)
 have hT1 := fun W (hb : Below w.heap.size w W) => c_Sorts m l a cap known owner W (hmi.later hb) (hr.later hb) hok hl.room
 have hT2 := fun W (hb : Below w.heap.size w W) => c_rSorts m l a cap known owner W (hmi.later hb) hz (hr.later hb) hok hsz hl.room (by omega)
 obtain ⟨n1, n2, n3⟩ := count_lens m.f l known owner hlen
 obtain ⟨⟨L1, e1⟩, hE1⟩ : ∃ R, countV m.f l known = R := ⟨_, rfl⟩
 obtain ⟨⟨L2, e2⟩, hE2⟩ : ∃ R, ownersV m.f l known = R := ⟨_, rfl⟩
 obtain ⟨⟨L3, e3⟩, hE3⟩ : ∃ R, sortsV m.f l known owner = R := ⟨_, rfl⟩
 rw [hE1] at hI1 hI2 n1
 rw [hE2] at hO1 hO2 n2
 rw [hE3] at hT1 hT2 n3
 dsimp only at n1 n2 n3
 have I1 := Lib.hid hI1
 have I2 := Lib.hid hI2
 have O1 := Lib.hid hO1
 have O2 := Lib.hid hO2
 have T1 := Lib.hid hT1
 have T2 := Lib.hid hT2
 clear hF hL hm hmi hz hs hl hr hok hsz hlen hI1 hI2 hO1 hO2 hT1 hT2 hE1 hE2 hE3
 go_enter Tryz.func15, Tryz.ntmps15
 go_upto_region 1 with (fail)
 go_name_world W1 hW1
 have hb0 : Below w.heap.size w W1 := by subst hW1; go_grown
 obtain ⟨q0, q1, q2, q3⟩ := (show QB m W1 w.heap.size from by subst hW1; and_intros <;> go_simp)
 clear hW1 
 go_wp2_with fail
 refine (HF.out _ hb0).mono ?_
 rintro E W2 ⟨rfl, hB⟩
 have hc := (bcell hB).1
 have zz := cy4 hc q0 q1 q2 q3
 clear q0 q1 q2 q3
 obtain ⟨q0, q1, q2, q3⟩ := zz
 replace hb0 := bthen hb0 hB
 clear hc hB
 go_wp2_with fail
 refine (I1.out _ hb0).mono ?_
 rintro E W3 ⟨v1, rfl, ho1, hB⟩
 dsimp only at ho1 ⊢
 have hc := (bcell hB).1
 obtain ⟨b1, c1, rfl, _, _, hl1, _⟩ := Lst.own rpC_len ho1
 clear ho1
 have ha1 := hl1 (by omega)
 clear hl1
 have zz := cy4 hc q0 q1 q2 q3
 clear q0 q1 q2 q3
 obtain ⟨q0, q1, q2, q3⟩ := zz
 replace hb0 := bthen hb0 hB
 clear hc hB
 go_wp2_with fail
 refine (I2.out _ hb0).mono ?_
 rintro E W4 ⟨v2, rfl, ho2, hB⟩
 dsimp only at ho2 ⊢
 have hc := (bcell hB).1
 obtain ⟨b2, c2, rfl, _, _, hl2, _⟩ := Lst.own rpC_len ho2
 clear ho2
 have ha2 := hl2 (by omega)
 clear hl2
 have zz := cy4 hc q0 q1 q2 q3
 clear q0 q1 q2 q3
 obtain ⟨q0, q1, q2, q3⟩ := zz
 replace ha1 := ha1.later hB
 replace hb0 := bthen hb0 hB
 clear hc hB
 go_wp2_with fail
 refine (O1.out _ hb0).mono ?_
 rintro E W5 ⟨v3, rfl, ho3, hB⟩
 dsimp only at ho3 ⊢
 have hc := (bcell hB).1
 obtain ⟨b3, c3, rfl, _, _, hl3, _⟩ := Lst.own numC_len ho3
 clear ho3
 have ha3 := hl3 (by omega)
 clear hl3
 have zz := cy4 hc q0 q1 q2 q3
 clear q0 q1 q2 q3
 obtain ⟨q0, q1, q2, q3⟩ := zz
 replace ha1 := ha1.later hB
 replace ha2 := ha2.later hB
 replace hb0 := bthen hb0 hB
 clear hc hB
 go_wp2_with fail
 refine (O2.out _ hb0).mono ?_
 rintro E W6 ⟨v4, rfl, ho4, hB⟩
 dsimp only at ho4 ⊢
 have hc := (bcell hB).1
 obtain ⟨b4, c4, rfl, _, _, hl4, _⟩ := Lst.own numC_len ho4
 clear ho4
 have ha4 := hl4 (by omega)
 clear hl4
 have zz := cy4 hc q0 q1 q2 q3
 clear q0 q1 q2 q3
 obtain ⟨q0, q1, q2, q3⟩ := zz
 replace ha1 := ha1.later hB
 replace ha2 := ha2.later hB
 replace ha3 := ha3.later hB
 replace hb0 := bthen hb0 hB
 clear hc hB
 go_wp2_with fail
 refine (T1.out _ hb0).mono ?_
 rintro E W7 ⟨v5, rfl, ho5, hB⟩
 dsimp only at ho5 ⊢
 have hc := (bcell hB).1
 obtain ⟨b5, c5, rfl, _, _, hl5, _⟩ := Lst.own strC_len ho5
 clear ho5
 have ha5 := hl5 (by omega)
 clear hl5
 have zz := cy4 hc q0 q1 q2 q3
 clear q0 q1 q2 q3
 obtain ⟨q0, q1, q2, q3⟩ := zz
 replace ha1 := ha1.later hB
 replace ha2 := ha2.later hB
 replace ha3 := ha3.later hB
 replace ha4 := ha4.later hB
 replace hb0 := bthen hb0 hB
 clear hc hB
 go_wp2_with fail
 refine (T2.out _ hb0).mono ?_
 rintro E W8 ⟨v6, rfl, ho6, hB⟩
 dsimp only at ho6 ⊢
 have hc := (bcell hB).1
 obtain ⟨b6, c6, rfl, _, _, hl6, _⟩ := Lst.own strC_len ho6
 clear ho6
 have ha6 := hl6 (by omega)
 clear hl6
 have zz := cy4 hc q0 q1 q2 q3
 clear q0 q1 q2 q3
 obtain ⟨q0, q1, q2, q3⟩ := zz
 replace ha1 := ha1.later hB
 replace ha2 := ha2.later hB
 replace ha3 := ha3.later hB
 replace ha4 := ha4.later hB
 replace ha5 := ha5.later hB
 replace hb0 := bthen hb0 hB
 clear hc hB
 go_wp2_with fail
 refine (c_alive _ (HL.out.later hb0)).mono ?_
 rintro E W9 ⟨rfl, hB⟩
 have hc := (bcell hB).1
 have zz := cy4 hc q0 q1 q2 q3
 clear q0 q1 q2 q3
 obtain ⟨q0, q1, q2, q3⟩ := zz
 replace ha1 := ha1.later hB
 replace ha2 := ha2.later hB
 replace ha3 := ha3.later hB
 replace ha4 := ha4.later hB
 replace ha5 := ha5.later hB
 replace ha6 := ha6.later hB
 replace hb0 := bthen hb0 hB
 clear hc hB
 go_wp2_with fail
 refine (c_rSame L1 b1 c1 b2 c2 _ ha1 ha2 (by omega)).mono ?_
 rintro E W10 ⟨rfl, hB⟩
 have hc := (bcell hB).1
 have zz := cy4 hc q0 q1 q2 q3
 clear q0 q1 q2 q3
 obtain ⟨q0, q1, q2, q3⟩ := zz
 replace ha3 := ha3.later hB
 replace ha4 := ha4.later hB
 replace ha5 := ha5.later hB
 replace ha6 := ha6.later hB
 replace hb0 := bthen hb0 hB
 clear hc hB
 go_wp2_with fail
 refine (c_equalI L2 b3 c3 b4 c4 _ ha3 ha4 (by omega)).mono ?_
 rintro E W11 ⟨rfl, hB⟩
 have hc := (bcell hB).1
 have zz := cy4 hc q0 q1 q2 q3
 clear q0 q1 q2 q3
 obtain ⟨q0, q1, q2, q3⟩ := zz
 replace ha5 := ha5.later hB
 replace ha6 := ha6.later hB
 replace hb0 := bthen hb0 hB
 clear hc hB
 go_wp2_with fail
 refine (c_equalS L3 b5 c5 b6 c6 _ ha5 ha6 (by omega)).mono ?_
 rintro E W12 ⟨rfl, hB⟩
 have hc := (bcell hB).1
 have zz := cy4 hc q0 q1 q2 q3
 clear q0 q1 q2 q3
 obtain ⟨q0, q1, q2, q3⟩ := zz
 replace hb0 := bthen hb0 hB
 clear hc hB
 go_wp2
 go_ret
 exact ⟨rfl, hb0⟩
theorem walk {w : World} (m : Fm) (hm : m.Arg w) (l : List Rp) (a : Option Addr) (cap : Nat) (hl : SlArg rpC 10 RpW w l a cap) (known owner : Int) (hL : LibW w) : Calls Tryz.prog 15 #[m.v, .slice a l.length cap, .int .i64 known, .int .i64 owner] w fun e w' => e = .returned (.bool true) ∧ Below w.heap.size w w' := by
 cases hs : shortV m.f && fewV l 40 with
 | false => exact walk_s m l a cap known owner hm hl hs hL
 | true =>
  have hs2 := hs
  simp only [Bool.and_eq_true] at hs2
  have h3 := hs2.2
  unfold fewV fewB at h3
  simp only [Bool.and_eq_true, decide_eq_true_eq, List.all_eq_true] at h3
  exact walk_ok m l a cap known owner hm hl hs (short_in hm hs2.1) (short_sized hs2.1) (hl.lst (by omega)) (fun y hy => ⟨(rpW_ok (hl.all y hy)).1, (rpW_ok (hl.all y hy)).2⟩) (fun y hy => by have := h3.2 y hy; omega) h3.1 hL
theorem contract (H : Type) (enc : TypeId × Value → H) (W : World) (base : Nat) (args : Array Value) (ds gs : List (DataW H)) (before : List MemPlace)
    (hval : ∀ (j : Nat) t v, Tryz.f15.params[j]? = some t → args[j]? = some v → Value.okWide Tryz.prog W .any base t v)
    (hW : DataW.Whole enc Tryz.prog Tryz.f15.params.toList Rows.fellCountingSpec.vars false W args.toList ds gs before) (hL : LibW W) :
    Calls Tryz.prog 15 args W fun e W' => ∃ v, e = .returned v ∧ Rows.fellCountingSpec.post enc Tryz.prog Tryz.f15 false true false false W args v W' := by
  have hW' := hW
  obtain ⟨p, q, hA0, hV, rfl, _, _⟩ := hW
  have hA : DataW.TrodAll enc Tryz.prog W 0 (fun _ => true) true Tryz.f15.params.toList args.toList ds p := hA0
  rw [Tryz.params15] at hA hval
  obtain ⟨v0, vs0, d0, ds0, p0, q0, hargs, rfl, rfl, h0, r0⟩ := trodAll_cons hA
  obtain ⟨v1, vs1, d1, ds1, p1, q1, rfl, rfl, rfl, h1, r1⟩ := trodAll_cons r0
  obtain ⟨v2, vs2, d2, ds2, p2, q2, rfl, rfl, rfl, h2, r2⟩ := trodAll_cons r1
  obtain ⟨v3, vs3, d3, ds3, p3, q3, rfl, rfl, rfl, h3, r3⟩ := trodAll_cons r2
  obtain ⟨rfl, rfl, rfl⟩ := trodAll_nil r3
  obtain rfl : args = #[v0, v1, v2, v3] := by cases args; simp_all
  obtain ⟨rfl, rfl⟩ := trodVars_none hV
  obtain ⟨m0, rfl, e0⟩ := open_fell (hval 0 25 v0 rfl rfl) h0
  obtain ⟨b1, l1, k1, rfl, e1⟩ := open_log (hval 1 37 v1 rfl rfl) h1
  obtain ⟨a2, rfl, rfl, rfl, w2⟩ := open_int Tryz.underlying3 (hval 2 3 v2 rfl rfl) h2
  obtain ⟨a3, rfl, rfl, rfl, w3⟩ := open_int Tryz.underlying3 (hval 3 3 v3 rfl rfl) h3
  clear hA0
  have s2 := stays h2 (by kernel_rfl) (by kernel_rfl)
  have s3 := stays h3 (by kernel_rfl) (by kernel_rfl)
  refine (walk m0 e0 l1 b1 k1 e1 a2 a3 hL).mono fun e W' ⟨he, hg⟩ => ?_
  subst he
  have hlt := fun x hx => hW'.lt x hx
  exact ⟨_, rfl, post_of_below (pa := (p0 ++ (p1 ++ ([] ++ ([] ++ []))))) (pv := []) hW' (fun _ _ _ => (trodAll_cons_mk (shut_bool Tryz.underlying4 _) trodAll_mk0)) (fun sp hsp => (trodAll_cons_mk (staysB h0 (by kernel_rfl) (by kernel_rfl) hg hlt (fun x hx => by simp [hx]) sp hsp) (trodAll_cons_mk (staysB h1 (by kernel_rfl) (by kernel_rfl) hg hlt (fun x hx => by simp [hx]) sp hsp) (trodAll_cons_mk (s2 _ _) (trodAll_cons_mk (s3 _ _) trodAll_mk0))))) (fun _ _ => rfl) rfl
    hg (ok_one (by kernel_rfl) rfl (okWide_bool_mk Tryz.underlying4 _))⟩
theorem reads (os : Os) {H : Type} (enc : TypeId × Value → H) : ∃ places, DataW.whole enc Tryz.prog ((laidWorld os).forCall (fun _ _ => 0) ⟨#[], #[.agg #[.int .i64 0, .int .i64 0, .slice none 0 0, .slice none 0 0], .slice none 0 0, .int .i64 0, .int .i64 0], []⟩).memory Tryz.f15.params.toList Rows.fellCountingSpec.vars false (Array.toList #[.agg #[.int .i64 0, .int .i64 0, .slice none 0 0, .slice none 0 0], .slice none 0 0, .int .i64 0, .int .i64 0]) 8 = some ([.agg [.lit (.int .i64 0), .lit (.int .i64 0), .nil, .nil], .nil, .lit (.int .i64 0), .lit (.int .i64 0)], [], places) :=
 ⟨[], by kernel_rfl⟩
theorem lifted (os : Os) (started : os.Started) (H : Type) (enc : TypeId × Value → H) (F : Stop.Interp) :
    ReturnsInHanded {} Tryz.checked os 15 .any ((OpenSpec.ofChange Rows.fellCountingSpec).preRow enc Tryz.prog Tryz.f15 Rows.fellCountingRow.domain false Rows.fellCountingRow.laid) (((OpenSpec.ofChange Rows.fellCountingSpec).at F).post enc Tryz.prog Tryz.f15 false true false false) := by
  obtain ⟨places, hx⟩ := reads os enc
  refine returnsInHanded_of_row (C := Tryz.checked) (s := OpenSpec.ofChange Rows.fellCountingSpec) own started (by kernel_rfl) Tryz.func15
    (witness_row_atRef (enc := enc) (C := Tryz.checked) false (laidWorld os) #[.agg #[.int .i64 0, .int .i64 0, .slice none 0 0, .slice none 0 0], .slice none 0 0, .int .i64 0, .int .i64 0] rfl (by kernel_rfl) (by kernel_rfl) (by kernel_rfl)
      (OpenSpec.preRow_of_cond 8 hx (by kernel_rfl) (fun k hk => by cases hk) (by kernel_rfl) (laidWorld_met os _))) ?_
  intro W base args ds gs before hval hW _ _ _ hL hsh _
  exact contract H enc W base args ds gs before hval hW (libW_of hL hsh)
theorem said : Rows.FellCountingSaid :=
 OpenClaim.holds_of_cond 15 Tryz.f15 rfl rfl rfl rfl rfl rfl rfl ⟨rfl, rfl, rfl, rfl, rfl⟩ rfl rfl rfl rfl rfl (by as_aux_lemma => kernel_rfl) Tryz.func15 facts
  (of_decide_eq_true (by as_aux_lemma => kernel_rfl)) (by unfold Func.isWrapper; first | (rw [if_pos (by decide +kernel)]; kernel_rfl) | (rw [if_neg (by decide +kernel)]; exact ⟨rfl, rfl⟩))
  (fun os started H enc _ F => by rw [OpenClaim.pre_eq_preRow]; exact lifted os started H enc F)
theorem proved : Rows.FellCountingCardSaid := tied said
end Go.Proofs.YtlppdgaogdpajaaGreatDoor.fellCounting
