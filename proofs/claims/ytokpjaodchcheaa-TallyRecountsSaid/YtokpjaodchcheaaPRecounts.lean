/- This text proves that the law TallyRecounts holds: for every list of re-counts and day of knowledge it returns true, and they read behind the call as they read before. -/
import Derived.Test.YtokpjaodchcheaaShut
import Derived.Test.YtokpjaodchcheaaRows
import Derived.Test.YtokpjaodchcheaaCounting
import Derived.Test.YtokpjaodchcheaaRecsR
import Derived.Test.YtokpjaodchcheaaOpen
namespace Go.Proofs.Ytokpjaodchcheaa.tallyRecounts
open Go.ChangeShapes Go.WideShapes Go.ChangeAt Go.RowKit Go.Joins Go.Deep


set_option maxRecDepth 100000 in
set_option maxHeartbeats 8000000 in
theorem walk_many {w : World} (l : List Rc) (a : Option Addr) (cap : Nat) (hm : l.length ≤ maxLen) (known : Int) (h : 220 < l.length) :
    Calls Try.prog 7 #[.slice a l.length cap, .int .i64 known] w fun e w' => e = .returned (.bool true) ∧ Below w.heap.size w w' := by
  unfold maxLen at hm
  have h' : (220 : Int) < (l.length : Int) := by omega
  go_enter Try.func7, Try.ntmps7
  go_wp2_with fail
  refine (c_counted _).mono ?_
  rintro e W1 ⟨rfl, hb0⟩
  go_wp2
  go_ret
  exact ⟨rfl, hb0⟩

set_option maxRecDepth 100000 in
set_option maxHeartbeats 8000000 in
theorem walk_ok {w : World} (l : List Rc) (a : Option Addr) (cap : Nat) (hm : l.length ≤ maxLen) (hl : Recs w a l) (known : Int) (h : ¬ 220 < l.length) :
    Calls Try.prog 7 #[.slice a l.length cap, .int .i64 known] w fun e w' => e = .returned (.bool true) ∧ Below w.heap.size w w' := by
  unfold maxLen at hm
  have h' : ¬ (220 : Int) < (l.length : Int) := by omega
  have HL := Lib.hid hl
  clear hl
  have hA := fun W (hb : Below w.heap.size w W) => c_CheckRecounts l a cap W (HL.out.later hb)
  have hB := fun W (hb : Below w.heap.size w W) => c_rCheckRecounts l a cap W (HL.out.later hb)
  generalize crec l = cr at hA hB
  obtain ⟨r1, r2⟩ := cr
  have HA := Lib.hid hA
  have HB := Lib.hid hB
  clear hA hB
  go_enter Try.func7, Try.ntmps7
  go_wp2_with fail
  refine (HA.out _ (by go_grown)).mono ?_
  rintro e W1 ⟨rfl, hb1⟩
  go_wp2_with fail
  refine (HB.out _ hb1).mono ?_
  rintro e W2 ⟨rfl, hb2⟩
  have hb3 := bthen hb1 hb2
  clear hb1 hb2
  go_wp2_with fail
  refine (c_counted _).mono ?_
  rintro e W3 ⟨rfl, hb⟩
  have hb4 := bthen hb3 hb
  clear hb3 hb
  go_wp2_with fail
  refine (c_Counting l a cap known _ (HL.out.later hb4)).mono ?_
  rintro e W4 ⟨⟨b1, k1, rfl, hr1⟩, hb⟩
  have hb5 := bthen hb4 hb
  have HR1 := Lib.hid hr1
  clear hb4 hb hr1
  go_wp2_with fail
  refine (c_rCounting l a cap known _ (HL.out.later hb5)).mono ?_
  rintro e W5 ⟨⟨b2, k2, rfl, hr2⟩, hb⟩
  have hb6 := bthen hb5 hb
  have HR2 := Lib.hid hr2
  have HR3 := Lib.hid (HR1.out.later hb)
  clear hb5 hb hr2
  have hs := c_SameRecounts (cnt known l) (cnt known l) b1 b2 k1 k2 W5 HR3.out HR2.out
  rw [show decide (cnt known l = cnt known l) = true from by simp] at hs
  have HS := Lib.hid hs
  clear hs
  go_wp2_with fail
  refine HS.out.mono ?_
  rintro e W6 ⟨rfl, hb⟩
  have hb7 := bthen hb6 hb
  clear hb hb6
  go_wp2
  go_ret
  exact ⟨rfl, hb7⟩

set_option maxRecDepth 100000 in
set_option maxHeartbeats 8000000 in
theorem walk {w : World} (l : List Rc) (a : Option Addr) (cap : Nat) (hm : l.length ≤ maxLen) (hl : l.length ≤ 1000000000000 → Recs w a l) (known : Int) :
    Calls Try.prog 7 #[.slice a l.length cap, .int .i64 known] w fun e w' => e = .returned (.bool true) ∧ Below w.heap.size w w' := by
  by_cases h : 220 < l.length
  · exact walk_many l a cap hm known h
  · exact walk_ok l a cap hm (hl (by omega)) known h


set_option maxRecDepth 100000 in
theorem lifted (os : Os) (started : os.Started) (H : Type) (enc : TypeId × Value → H) :
    ReturnsInHanded {} Try.checked os 7 .any (Rows.tallyRecountsSpec.pre6 enc Try.prog Try.f7 Rows.tallyRecountsRow.domain false) (Rows.tallyRecountsSpec.post enc Try.prog Try.f7 false true false false) := by
  refine returnsInHanded_of_change (C := Try.checked) own started (by kernel_rfl) Try.func7
    (ChangeSpec.witness6 (enc := enc) (C := Try.checked) false ⟨#[], #[.slice none 0 0, .int .i64 0], []⟩ 8 (by kernel_rfl) (by kernel_rfl) (by kernel_rfl) (by kernel_rfl)) ?_
  intro W base args ds gs before hval0 hW _ _
  have hval : ∀ (j : Nat) t v, Try.f7.params[j]? = some t → args[j]? = some v → Value.okWide Try.prog W .any base t v := hval0
  have hW' := hW
  obtain ⟨p, q, hA0, hV, rfl, _, _⟩ := hW
  have hA : DataW.TrodAll enc Try.prog W 0 (fun _ => true) true Try.f7.params.toList args.toList ds p := hA0
  rw [Try.params7] at hA hval
  obtain ⟨v0, vs0, d0, ds0, p0, q0, hargs, rfl, rfl, h0, r0⟩ := trodAll_cons hA
  obtain ⟨v1, vs1, d1, ds1, p1, q1, rfl, rfl, rfl, h1, r1⟩ := trodAll_cons r0
  obtain ⟨rfl, rfl, rfl⟩ := trodAll_nil r1
  obtain rfl : args = #[v0, v1] := by cases args; simp_all
  obtain ⟨rfl, rfl⟩ := trodVars_none hV
  obtain ⟨b0, l0, k0, rfl, m0, e0⟩ := open_recs (fun _ _ => hval 0 39 v0 rfl rfl) h0
  obtain ⟨a1, rfl, rfl, rfl, w1⟩ := open_int Try.underlying3 (hval 1 3 v1 rfl rfl) h1
  clear hA0 hval0
  have s1 := stays h1 (by kernel_rfl) (by kernel_rfl)
  refine (walk l0 b0 k0 m0 e0 a1).mono fun e W' ⟨he, hg⟩ => ?_
  subst he
  have hlt := fun x hx => hW'.lt x hx
  exact ⟨_, rfl, post_of_below (pa := (p0 ++ ([] ++ []))) (pv := []) hW' (fun _ _ _ => (trodAll_cons_mk (shut_bool Try.underlying4 _) trodAll_mk0)) (fun sp hsp => (trodAll_cons_mk (staysB h0 (by kernel_rfl) (by kernel_rfl) hg hlt (fun x hx => by simp [hx]) sp hsp) (trodAll_cons_mk (s1 _ _) trodAll_mk0))) (fun _ _ => rfl) rfl
    hg (ok_one (by kernel_rfl) rfl (okWide_bool_mk Try.underlying4 _))⟩

theorem over : Rows.tallyRecountsRow.holds Try.pinned (OpenSpec.ofChange Rows.tallyRecountsSpec) :=
  OpenClaim.holds_of_wide 7 Try.f7 rfl rfl rfl rfl rfl rfl rfl ⟨rfl, rfl, rfl, rfl, rfl⟩ rfl rfl rfl rfl rfl (by kernel_rfl) Try.func7 (by kernel_rfl)
    (of_decide_eq_true (by kernel_rfl)) (by unfold Func.isWrapper; first | (rw [if_pos (by decide +kernel)]; kernel_rfl) | (rw [if_neg (by decide +kernel)]; exact ⟨rfl, rfl⟩))
    (fun os started H enc _ => lifted os started H enc)

theorem proved : Rows.TallyRecountsSaid :=
  over
end Go.Proofs.Ytokpjaodchcheaa.tallyRecounts
