/- This text proves what Wrong returns, of package tally and of its reference, for every rate, list of re-counts, shepherd and day of knowledge. -/
import Derived.Test.YtokpjaodchcheaaCounting
import Derived.Test.YtokpjaodchcheaaRatePlain
import Derived.Test.YtokpjaodchcheaaRecsR
import Derived.Test.YtokpjaodchcheaaRefCounts
namespace Go.Proofs.Ytokpjaodchcheaa
open Go.RowKit Go.Shelf
attribute [local go_sem] Oper.semAt_some

theorem Ints.kept {O : Nat → Prop} {A C : World} {a : Option Addr} {l : List Int} (h : Ints A a l) (hk : Kept O A C) (hn : ∀ g o, a = some ⟨g, o, none⟩ → ¬ O g) : Ints C a l :=
  ⟨h.1, fun hl => by obtain ⟨b, o, ha, hx⟩ := h.2 hl; exact ⟨b, o, ha, fun k hk' => hk.cell (hn b o ha) (hx k hk')⟩⟩
def fitV (m d t n : Int) : Bool := okNC m d t n && fitsB m d t n
def misfit (m d shep : Int) (x : Rc) : Bool := x.s == shep && !fitV m d x.t x.n
def badL (m d shep : Int) (c : List Rc) : List Int := (c.filter (misfit m d shep)).map Rc.i
theorem badL_yes {m d shep : Int} {c : List Rc} {x : Rc} (h : misfit m d shep x = true) : badL m d shep (c ++ [x]) = badL m d shep c ++ [x.i] := by simp [badL, h]
theorem badL_no {m d shep : Int} {c : List Rc} {x : Rc} (h : misfit m d shep x = false) : badL m d shep (c ++ [x]) = badL m d shep c := by simp [badL, h]
theorem badL_len (m d shep : Int) (c : List Rc) : (badL m d shep c).length ≤ c.length := by
  unfold badL; rw [List.length_map]; exact List.length_filter_le _ _
def wrongV (m d : Int) (l : List Rc) (shep known : Int) : List Int × Int :=
  if rateB m d then if (crec l).2 = 0 then (badL m d shep (cnt known l), 0) else ([], (crec l).2) else ([], 1)
theorem wrongV_bad {m d : Int} {l : List Rc} {shep known : Int} (h : rateB m d = false) : wrongV m d l shep known = ([], 1) := by simp [wrongV, h]
theorem wrongV_err {m d : Int} {l : List Rc} {shep known : Int} (h : rateB m d = true) (h2 : ¬ (crec l).2 = 0) : wrongV m d l shep known = ([], (crec l).2) := by simp [wrongV, h, h2]
theorem wrongV_ok {m d : Int} {l : List Rc} {shep known : Int} (h : rateB m d = true) (h2 : (crec l).2 = 0) : wrongV m d l shep known = (badL m d shep (cnt known l), 0) := by simp [wrongV, h, h2]
theorem c_FitsV (m d n c : Int) (w : World) : Calls Try.prog 27 #[.agg #[.int .i64 m, .int .i64 d], .int .i64 n, .int .i64 c] w fun e w' => e = .returned (.tuple #[.bool (fitV m d n c), .int .i64 (errB (okNC m d n c))]) ∧ Below w.heap.size w w' := by
  have h := c_Fits m d n c w
  unfold fitV errB
  cases g : okNC m d n c
  · simpa [g] using h
  · simpa [g] using h
theorem c_rFitsV (m d n c : Int) (w : World) : Calls Try.prog 35 #[.agg #[.int .i64 m, .int .i64 d], .int .i64 n, .int .i64 c] w fun e w' => e = .returned (.tuple #[.bool (fitV m d n c), .int .i64 (errB (okNC m d n c))]) ∧ Below w.heap.size w w' := by
  have h := c_rFits m d n c w
  unfold fitV errB
  cases g : okNC m d n c
  · simpa [g] using h
  · simpa [g] using h

/-- What a call returns that makes a list of integers, beside an error. -/
def GivesInts (r : List Int × Int) (w : World) (e : Ending) (w' : World) : Prop := (∃ b c, e = .returned (.tuple #[.slice b r.1.length c, .int .i64 r.2]) ∧ Ints w' b r.1) ∧ Below w.heap.size w w'

set_option maxRecDepth 100000 in
set_option maxHeartbeats 8000000 in
theorem c_rWrong_bad (m d : Int) (l : List Rc) (a : Option Addr) (cap : Nat) (shep known : Int) (w : World) (_hl : Recs w a l) (h1 : rateB m d = false) :
    Calls Try.prog 48 #[.agg #[.int .i64 m, .int .i64 d], .slice a l.length cap, .int .i64 shep, .int .i64 known] w (GivesInts (wrongV m d l shep known) w) := by
  rw [wrongV_bad h1]
  go_enter Try.func48, Try.ntmps48
  go_upto_region 1 with (fail)
  go_name_world W1 hW1
  have hbn : Below w.heap.size w W1 := by subst hW1; go_grown
  have hb0 := hbn
  clear hbn
  have qmn : W1.cell? ⟨w.heap.size, 0, none⟩ = some (.int .i64 m) := by subst hW1; go_simp
  have qdn : W1.cell? ⟨w.heap.size, 1, none⟩ = some (.int .i64 d) := by subst hW1; go_simp
  clear hW1 
  have qm := qmn
  have qd := qdn
  clear qmn qdn 
  go_wp2_with fail
  refine (via (w0 := W1) (by go_grown) (c_rCheckRate m d _)).mono ?_
  rw [h1, errB_false]
  rintro e W2 ⟨rfl, hc, hf, hz, hB⟩
  have qmn : W2.cell? ⟨w.heap.size, 0, none⟩ = some (.int .i64 m) := (hc _ _ (cell_lt qm)).trans qm
  clear qm
  have qm := qmn
  clear qmn
  have qdn : W2.cell? ⟨w.heap.size, 1, none⟩ = some (.int .i64 d) := (hc _ _ (cell_lt qd)).trans qd
  clear qd
  have qd := qdn
  clear qdn
  have hbn : Below w.heap.size w W2 := bthen hb0 hB
  clear hb0
  have hb0 := hbn
  clear hbn
  have hzW2 : W1.heap.size ≤ W2.heap.size := hz
  clear hc hf hB hz
  go_wp2_with fail
  go_ret2
  exact ⟨⟨none, 0, rfl, ints_nil _ _⟩, by have hbz := hb0.size; go_grown⟩

set_option maxRecDepth 100000 in
set_option maxHeartbeats 8000000 in
theorem c_rWrong_err (m d : Int) (l : List Rc) (a : Option Addr) (cap : Nat) (shep known : Int) (w : World) (hl : Recs w a l) (h1 : rateB m d = true) (h2 : ¬ (crec l).2 = 0) :
    Calls Try.prog 48 #[.agg #[.int .i64 m, .int .i64 d], .slice a l.length cap, .int .i64 shep, .int .i64 known] w (GivesInts (wrongV m d l shep known) w) := by
  rw [wrongV_err h1 h2]
  have h2' : ((crec l).2 == 0) = false := by simpa using h2
  have h2n : ((crec l).2 != 0) = true := by simpa using h2
  have HL := Lib.hid hl
  clear hl h2
  go_enter Try.func48, Try.ntmps48
  go_upto_region 1 with (fail)
  go_name_world W1 hW1
  have hbn : Below w.heap.size w W1 := by subst hW1; go_grown
  have hb0 := hbn
  clear hbn
  have qmn : W1.cell? ⟨w.heap.size, 0, none⟩ = some (.int .i64 m) := by subst hW1; go_simp
  have qdn : W1.cell? ⟨w.heap.size, 1, none⟩ = some (.int .i64 d) := by subst hW1; go_simp
  clear hW1 
  have qm := qmn
  have qd := qdn
  clear qmn qdn 
  go_wp2_with fail
  refine (via (w0 := W1) (by go_grown) (c_rCheckRate m d _)).mono ?_
  rw [h1, errB_true]
  rintro e W2 ⟨rfl, hc, hf, hz, hB⟩
  have qmn : W2.cell? ⟨w.heap.size, 0, none⟩ = some (.int .i64 m) := (hc _ _ (cell_lt qm)).trans qm
  clear qm
  have qm := qmn
  clear qmn
  have qdn : W2.cell? ⟨w.heap.size, 1, none⟩ = some (.int .i64 d) := (hc _ _ (cell_lt qd)).trans qd
  clear qd
  have qd := qdn
  clear qdn
  have hbn : Below w.heap.size w W2 := bthen hb0 hB
  clear hb0
  have hb0 := hbn
  clear hbn
  have hzW2 : W1.heap.size ≤ W2.heap.size := hz
  clear hc hf hB hz
  go_wp2_with fail
  refine (via (w0 := W2) (by go_grown) (c_rCheckRecounts l a cap _ (HL.out.later hb0))).mono ?_
  rintro e W3 ⟨rfl, hc, hf, hz, hB⟩
  have qmn : W3.cell? ⟨w.heap.size, 0, none⟩ = some (.int .i64 m) := (hc _ _ (cell_lt qm)).trans qm
  clear qm
  have qm := qmn
  clear qmn
  have qdn : W3.cell? ⟨w.heap.size, 1, none⟩ = some (.int .i64 d) := (hc _ _ (cell_lt qd)).trans qd
  clear qd
  have qd := qdn
  clear qdn
  have hbn : Below w.heap.size w W3 := bthen hb0 hB
  clear hb0
  have hb0 := hbn
  clear hbn
  have hzW3 : W2.heap.size ≤ W3.heap.size := hz
  clear hc hf hB hz
  go_wp2_with fail
  go_ret2
  exact ⟨⟨none, 0, rfl, ints_nil _ _⟩, by have hbz := hb0.size; go_grown⟩

set_option maxRecDepth 100000 in
set_option maxHeartbeats 8000000 in
theorem c_rWrong_loop (m d : Int) (l : List Rc) (a : Option Addr) (cap : Nat) (shep known : Int) (w : World) (hl : Recs w a l) (h1 : rateB m d = true) (h2 : (crec l).2 = 0) :
    Calls Try.prog 48 #[.agg #[.int .i64 m, .int .i64 d], .slice a l.length cap, .int .i64 shep, .int .i64 known] w (GivesInts (wrongV m d l shep known) w) := by
  have hlen := hl.1
  rw [wrongV_ok h1 h2]
  have hC := fun W (hb : Below w.heap.size w W) => c_rCounting l a cap known W (hl.later hb)
  have hcl := cnt_len2 known l
  generalize cnt known l = c at *
  have HC := Lib.hid hC
  have HL := Lib.hid hl
  have H2 := Lib.hid h2
  obtain ⟨i0, hi0, hz0, hz1, hz2⟩ := info_parts info_int
  clear hl h2 hC
  go_enter Try.func48, Try.ntmps48
  go_upto_region 1 with (fail)
  go_name_world W1 hW1
  have hbn : Below w.heap.size w W1 := by subst hW1; go_grown
  have hb0 := hbn
  clear hbn
  have qmn : W1.cell? ⟨w.heap.size, 0, none⟩ = some (.int .i64 m) := by subst hW1; go_simp
  have qdn : W1.cell? ⟨w.heap.size, 1, none⟩ = some (.int .i64 d) := by subst hW1; go_simp
  clear hW1 
  have qm := qmn
  have qd := qdn
  clear qmn qdn 
  go_wp2_with fail
  refine (via (w0 := W1) (by go_grown) (c_rCheckRate m d _)).mono ?_
  rw [h1, errB_true]
  rintro e W2 ⟨rfl, hc, hf, hz, hB⟩
  have qmn : W2.cell? ⟨w.heap.size, 0, none⟩ = some (.int .i64 m) := (hc _ _ (cell_lt qm)).trans qm
  clear qm
  have qm := qmn
  clear qmn
  have qdn : W2.cell? ⟨w.heap.size, 1, none⟩ = some (.int .i64 d) := (hc _ _ (cell_lt qd)).trans qd
  clear qd
  have qd := qdn
  clear qdn
  have hbn : Below w.heap.size w W2 := bthen hb0 hB
  clear hb0
  have hb0 := hbn
  clear hbn
  have hzW2 : W1.heap.size ≤ W2.heap.size := hz
  clear hc hf hB hz
  go_wp2_with fail
  refine (via (w0 := W2) (by go_grown) (c_rCheckRecounts l a cap _ (HL.out.later hb0))).mono ?_
  rw [H2.out]
  rintro e W3 ⟨rfl, hc, hf, hz, hB⟩
  have qmn : W3.cell? ⟨w.heap.size, 0, none⟩ = some (.int .i64 m) := (hc _ _ (cell_lt qm)).trans qm
  clear qm
  have qm := qmn
  clear qmn
  have qdn : W3.cell? ⟨w.heap.size, 1, none⟩ = some (.int .i64 d) := (hc _ _ (cell_lt qd)).trans qd
  clear qd
  have qd := qdn
  clear qdn
  have hbn : Below w.heap.size w W3 := bthen hb0 hB
  clear hb0
  have hb0 := hbn
  clear hbn
  have hzW3 : W2.heap.size ≤ W3.heap.size := hz
  clear hc hf hB hz
  go_wp2_with fail
  refine (HC.out _ hb0).mono ?_
  rintro e W4 ⟨⟨b1, k1, rfl, hr1, _⟩, hB⟩
  have hc := (bcell hB).1
  have hf := (bcell hB).2
  have qmn : W4.cell? ⟨w.heap.size, 0, none⟩ = some (.int .i64 m) := (hc _ _ (cell_lt qm)).trans qm
  clear qm
  have qm := qmn
  clear qmn
  have qdn : W4.cell? ⟨w.heap.size, 1, none⟩ = some (.int .i64 d) := (hc _ _ (cell_lt qd)).trans qd
  clear qd
  have qd := qdn
  clear qdn
  have hbn := bthen hb0 hB
  clear hb0
  have hb0 := hbn
  clear hbn hc hf hB h1
  have HR := Lib.hid hr1
  clear hr1
  go_wp2
  go_loopw [13, 14] (fun v13 v14 wr => ∃ k : Nat, k ≤ c.length ∧ v14 = .int .i64 k ∧ wr.ownsRow W4.heap.size 3 1 v13 (badL m d shep (c.take k)).length (cellsL intC (badL m d shep (c.take k))) ∧ Below W4.heap.size W4 wr) (fun _ v14 _ => c.length - (intOf v14).toNat)
  case atStart => exact ⟨0, by omega, rfl, own_nil _ _ _ _, Below.refl _ _⟩
  case round =>
    obtain ⟨k, hk, rfl, hown, hbr⟩ := hrel
    have HO := Lib.hid hown
    have HBR := Lib.hid hbr
    have hzr := hbr.size
    have u0 := ((bcell hbr).1 _ _ (cell_lt qm)).trans qm
    have u1 := ((bcell hbr).1 _ _ (cell_lt qd)).trans qd
    clear hown
    by_cases hlt : k < c.length
    · obtain ⟨b, o, rfl, hat⟩ := (HR.out.later hbr).2 (by intro e; rw [e] at hlt; simp at hlt)
      obtain ⟨x1, x2, x3, x4, x5, x6⟩ := hat k hlt
      clear hat x2 x3 hbr qm qd
      have HB0 := Lib.hid hb0
      clear hb0
      have hi1 : ¬ (k : Int) < 0 := by omega
      have hi2 : (k : Int) < (c.length : Int) := by omega
      have hbl := badL_len m d shep (c.take k)
      have htl : (c.take k).length = k := by simp; omega
      have hst := take_rc hlt
      have HST := Lib.hid hst
      clear hst
      obtain ⟨xk, hxk⟩ : ∃ x, rc c k = x := ⟨_, rfl⟩
      rw [hxk] at x1 x4 x5 x6
      have HXK := Lib.hid hxk
      clear hxk
      have hF := fun W => c_rFitsV m d xk.t xk.n W
      have hmis : misfit m d shep xk = ((xk.s == shep) && !fitV m d xk.t xk.n) := rfl
      generalize fitV m d xk.t xk.n = fv at hF hmis
      generalize errB (okNC m d xk.t xk.n) = er at hF
      have HF := Lib.hid hF
      have HMIS := Lib.hid hmis
      clear hF hmis
      have hb0 : Below wr.heap.size wr wr := Below.refl _ _
      go_wp2_with fail
      have ku0 := later_cell u0
      have ku1 := later_cell u1
      have kx1 := later_cell x1
      have kx4 := later_cell x4
      have kx5 := later_cell x5
      have kx6 := later_cell x6
      refine wp_region_later wr (by kernel_rfl) (by kernel_rfl) (Below.refl _ _) ?_
      repeat (go_big_quiet_step (first | (go_at_call 35; with_reducible exact in_region (HF.out _))))
      refine wpQuiet_nil ?_
      rintro ⟨W5, hB⟩
      dsimp only
      have hc := (bcell hB).1
      have hf := (bcell hB).2
      have hz := hB.size
      clear ku0 ku1 kx1 kx4 kx5 kx6
      have u0n : W5.cell? ⟨w.heap.size, 0, none⟩ = some (.int .i64 m) := (hc _ _ (cell_lt u0)).trans u0
      clear u0
      have u0 := u0n
      clear u0n
      have u1n : W5.cell? ⟨w.heap.size, 1, none⟩ = some (.int .i64 d) := (hc _ _ (cell_lt u1)).trans u1
      clear u1
      have u1 := u1n
      clear u1n
      have x1n : W5.cell? ⟨b, o + k * 6, none⟩ = some (.int .i64 xk.i) := (hc _ _ (cell_lt x1)).trans x1
      clear x1
      have x1 := x1n
      clear x1n
      have x4n : W5.cell? ⟨b, o + k * 6 + 3, none⟩ = some (.int .i64 xk.s) := (hc _ _ (cell_lt x4)).trans x4
      clear x4
      have x4 := x4n
      clear x4n
      have x5n : W5.cell? ⟨b, o + k * 6 + 4, none⟩ = some (.int .i64 xk.t) := (hc _ _ (cell_lt x5)).trans x5
      clear x5
      have x5 := x5n
      clear x5n
      have x6n : W5.cell? ⟨b, o + k * 6 + 5, none⟩ = some (.int .i64 xk.n) := (hc _ _ (cell_lt x6)).trans x6
      clear x6
      have x6 := x6n
      clear x6n
      have hbn : Below wr.heap.size wr W5 := bthen hb0 hB
      clear hb0
      have hb0 := hbn
      clear hbn
      have hzW5 : wr.heap.size ≤ W5.heap.size := hz
      clear hc hf hB hz
      clear x5 x6 u0 u1
      by_cases hs : xk.s = shep
      · have hs' : (xk.s == shep) = true := by simpa using hs
        cases fv
        · have hmf : misfit m d shep xk = true := by rw [HMIS.out, hs']; rfl
          clear hs
          have e1 : badL m d shep (c.take (k + 1)) = badL m d shep (c.take k) ++ [xk.i] := by rw [HST.out, HXK.out]; exact badL_yes hmf
          have hown2 := own_below HO.out hb0
          have hzl := hb0.size
          have HE := Lib.hid e1
          have HO2 := Lib.hid hown2
          have HB2 := Lib.hid (bthen HBR.out hb0)
          clear hmf e1 hown2 hb0
          go_wp2_with (at_builtin; refine stuckHere ?_)
          refine unHid ?_
          refine wpList_append_own_at _ rfl _ _ 46 rfl W4.heap.size 3 i0 _ 1 8 Try.underlying46 hi0 hz0 hz1 hz2 rfl (by decide) _ _ _ rfl (HO2.out.alloc _) ⟨W5.heap.size, 0, none⟩ 1 1 [.int .i64 xk.i] rfl rfl (cell_one_new _ _ _) (by simp [Value.oneCell']) (by unfold maxLen; omega) (by omega) (by simp; omega) ?_
          intro v' w1 hown' hgrow _ hat
          have hlt' := HO2.out.lt
          have hbb : Below W4.heap.size W4 w1 := by
            have h1 : Below W4.heap.size W4 (W5.alloc (Obj.cells #[.int .i64 xk.i] 3)) := HB2.out.alloc HB2.out.size _
            exact h1.trans ((kept_of_grown hgrow).below (by have := HB2.out.size; simp; omega) (fun j hj => (hlt' j hj).1))
          have hown2 : w1.ownsRow W4.heap.size 3 1 v' (badL m d shep (c.take (k + 1))).length (cellsL intC (badL m d shep (c.take (k + 1)))) := by
            rw [HE.out, cellsL_snoc, List.length_append]
            exact hown'
          have HB3 := Lib.hid hbb
          have HO3 := Lib.hid hown2
          clear hown' hgrow hat hlt' hbb hown2
          go_wp2
          go_roundw
          case rel => exact ⟨k + 1, by omega, by go_num, HO3.out, HB3.out⟩
          case measure => simp [intOf]; omega
        · have hmf : misfit m d shep xk = false := by rw [HMIS.out, hs']; rfl
          clear hs
          have e1 : badL m d shep (c.take (k + 1)) = badL m d shep (c.take k) := by rw [HST.out, HXK.out]; exact badL_no hmf
          have hown2 := own_below HO.out hb0
          have HE := Lib.hid e1
          have HO2 := Lib.hid hown2
          have HB2 := Lib.hid (bthen HBR.out hb0)
          clear hmf e1 hown2
          go_wp2
          go_roundw
          case rel => exact ⟨k + 1, by omega, by go_num, by rw [HE.out]; exact HO2.out, HB2.out⟩
          case measure => simp [intOf]; omega
      · have hs' : (xk.s == shep) = false := by simpa using hs
        have hmf : misfit m d shep xk = false := by rw [HMIS.out, hs']; rfl
        clear hs
        have e1 : badL m d shep (c.take (k + 1)) = badL m d shep (c.take k) := by rw [HST.out, HXK.out]; exact badL_no hmf
        have hown2 := own_below HO.out hb0
        have HE := Lib.hid e1
        have HO2 := Lib.hid hown2
        have HB2 := Lib.hid (bthen HBR.out hb0)
        clear hmf e1 hown2
        go_wp2
        go_roundw
        case rel => exact ⟨k + 1, by omega, by go_num, by rw [HE.out]; exact HO2.out, HB2.out⟩
        case measure => simp [intOf]; omega
    · obtain rfl : k = c.length := by omega
      have hown := HO.out
      have hbl := badL_len m d shep c
      rw [List.take_length] at hown
      obtain ⟨b, k2, rfl, hi, _⟩ := int_own hown
      have HI := Lib.hid (hi (by omega))
      have HB2 := Lib.hid (bthen hb0 hbr)
      clear hown hi hb0 hbr
      go_wp2
      go_ret2
      exact ⟨⟨_, _, rfl, HI.out⟩, HB2.out⟩

theorem c_rWrong (m d : Int) (l : List Rc) (a : Option Addr) (cap : Nat) (shep known : Int) (w : World) (hl : Recs w a l) :
    Calls Try.prog 48 #[.agg #[.int .i64 m, .int .i64 d], .slice a l.length cap, .int .i64 shep, .int .i64 known] w (GivesInts (wrongV m d l shep known) w) := by
  by_cases h1 : rateB m d = true
  · by_cases h2 : (crec l).2 = 0
    · exact c_rWrong_loop m d l a cap shep known w hl h1 h2
    · exact c_rWrong_err m d l a cap shep known w hl h1 h2
  · exact c_rWrong_bad m d l a cap shep known w hl (by simpa using h1)

/-- Between two rounds of Wrong's loop. -/
structure BI (W5 : World) (B : Nat) (m d shep : Int) (pre : List Rc) (O : Nat → Prop) (A : World) : Prop where
  row : ∃ v, A.ownsRow W5.heap.size 3 1 v (badL m d shep pre).length (cellsL intC (badL m d shep pre)) ∧ Own1 A B 0 v ∧ ∀ g, v.ownBlock = some g → O g
  o1 : O B
  lt : ∀ k, O k → k < A.heap.size
  ge : ∀ k, O k → B ≤ k
  kept : Kept (fun k => k = B) W5 A
theorem BI.abide {W5 : World} {B : Nat} {m d shep : Int} {pre : List Rc} : Abide W5.heap.size (BI W5 B m d shep pre) := by
  intro O A C h hk
  have hn : ∀ {k}, O k → ¬ (W5.heap.size ≤ k ∧ ¬ O k) := fun h x => x.2 h
  obtain ⟨v, h1, h2, h3⟩ := h.row
  exact ⟨⟨v, ownsRow_kept h1 hk (fun g hg => hn (h3 g hg)), h2.kept hk (hn h.o1), h3⟩, h.o1, fun k hx => Nat.lt_of_lt_of_le (h.lt k hx) hk.size, h.ge, h.kept.trans hk fun j hj hx => by omega⟩

set_option maxRecDepth 100000 in
set_option maxHeartbeats 8000000 in
theorem c_Wrong_bad (m d : Int) (l : List Rc) (a : Option Addr) (cap : Nat) (shep known : Int) (w : World) (_hl : Recs w a l) (h1 : rateB m d = false) :
    Calls Try.prog 47 #[.agg #[.int .i64 m, .int .i64 d], .slice a l.length cap, .int .i64 shep, .int .i64 known] w (GivesInts (wrongV m d l shep known) w) := by
  rw [wrongV_bad h1]
  go_enter Try.func47, Try.ntmps47
  go_upto_region 1 with (fail)
  go_name_world W1 hW1
  have hbn : Below w.heap.size w W1 := by subst hW1; go_grown
  have hb0 := hbn
  clear hbn
  have qmn : W1.cell? ⟨w.heap.size, 0, none⟩ = some (.int .i64 m) := by subst hW1; go_simp
  have qdn : W1.cell? ⟨w.heap.size, 1, none⟩ = some (.int .i64 d) := by subst hW1; go_simp
  have qsn : W1.cell? ⟨w.heap.size + 1, 0, none⟩ = some (.int .i64 shep) := by subst hW1; go_simp
  clear hW1 
  have qm := qmn
  have qd := qdn
  have qs := qsn
  clear qmn qdn qsn 
  go_wp2_with fail
  refine (via (w0 := W1) (by go_grown) (c_isRate m d _)).mono ?_
  rw [h1]
  rintro e W2 ⟨rfl, hc, hf, hz, hB⟩
  have qmn : W2.cell? ⟨w.heap.size, 0, none⟩ = some (.int .i64 m) := (hc _ _ (cell_lt qm)).trans qm
  clear qm
  have qm := qmn
  clear qmn
  have qdn : W2.cell? ⟨w.heap.size, 1, none⟩ = some (.int .i64 d) := (hc _ _ (cell_lt qd)).trans qd
  clear qd
  have qd := qdn
  clear qdn
  have qsn : W2.cell? ⟨w.heap.size + 1, 0, none⟩ = some (.int .i64 shep) := (hc _ _ (cell_lt qs)).trans qs
  clear qs
  have qs := qsn
  clear qsn
  have hbn : Below w.heap.size w W2 := bthen hb0 hB
  clear hb0
  have hb0 := hbn
  clear hbn
  have hzW2 : W1.heap.size ≤ W2.heap.size := hz
  clear hc hf hB hz
  go_wp2_with fail
  go_ret2
  exact ⟨⟨none, 0, rfl, ints_nil _ _⟩, by have hbz := hb0.size; go_grown⟩

set_option maxRecDepth 100000 in
set_option maxHeartbeats 8000000 in
theorem c_Wrong_err (m d : Int) (l : List Rc) (a : Option Addr) (cap : Nat) (shep known : Int) (w : World) (hl : Recs w a l) (h1 : rateB m d = true) (h2 : ¬ (crec l).2 = 0) :
    Calls Try.prog 47 #[.agg #[.int .i64 m, .int .i64 d], .slice a l.length cap, .int .i64 shep, .int .i64 known] w (GivesInts (wrongV m d l shep known) w) := by
  rw [wrongV_err h1 h2]
  have h2' : ((crec l).2 == 0) = false := by simpa using h2
  have h2n : ((crec l).2 != 0) = true := by simpa using h2
  have HL := Lib.hid hl
  clear hl h2
  go_enter Try.func47, Try.ntmps47
  go_upto_region 1 with (fail)
  go_name_world W1 hW1
  have hbn : Below w.heap.size w W1 := by subst hW1; go_grown
  have hb0 := hbn
  clear hbn
  have qmn : W1.cell? ⟨w.heap.size, 0, none⟩ = some (.int .i64 m) := by subst hW1; go_simp
  have qdn : W1.cell? ⟨w.heap.size, 1, none⟩ = some (.int .i64 d) := by subst hW1; go_simp
  have qsn : W1.cell? ⟨w.heap.size + 1, 0, none⟩ = some (.int .i64 shep) := by subst hW1; go_simp
  clear hW1 
  have qm := qmn
  have qd := qdn
  have qs := qsn
  clear qmn qdn qsn 
  go_wp2_with fail
  refine (via (w0 := W1) (by go_grown) (c_isRate m d _)).mono ?_
  rw [h1]
  rintro e W2 ⟨rfl, hc, hf, hz, hB⟩
  have qmn : W2.cell? ⟨w.heap.size, 0, none⟩ = some (.int .i64 m) := (hc _ _ (cell_lt qm)).trans qm
  clear qm
  have qm := qmn
  clear qmn
  have qdn : W2.cell? ⟨w.heap.size, 1, none⟩ = some (.int .i64 d) := (hc _ _ (cell_lt qd)).trans qd
  clear qd
  have qd := qdn
  clear qdn
  have qsn : W2.cell? ⟨w.heap.size + 1, 0, none⟩ = some (.int .i64 shep) := (hc _ _ (cell_lt qs)).trans qs
  clear qs
  have qs := qsn
  clear qsn
  have hbn : Below w.heap.size w W2 := bthen hb0 hB
  clear hb0
  have hb0 := hbn
  clear hbn
  have hzW2 : W1.heap.size ≤ W2.heap.size := hz
  clear hc hf hB hz
  go_wp2_with fail
  refine (via (w0 := W2) (by go_grown) (c_CheckRecounts l a cap _ (HL.out.later hb0))).mono ?_
  rintro e W3 ⟨rfl, hc, hf, hz, hB⟩
  have qmn : W3.cell? ⟨w.heap.size, 0, none⟩ = some (.int .i64 m) := (hc _ _ (cell_lt qm)).trans qm
  clear qm
  have qm := qmn
  clear qmn
  have qdn : W3.cell? ⟨w.heap.size, 1, none⟩ = some (.int .i64 d) := (hc _ _ (cell_lt qd)).trans qd
  clear qd
  have qd := qdn
  clear qdn
  have qsn : W3.cell? ⟨w.heap.size + 1, 0, none⟩ = some (.int .i64 shep) := (hc _ _ (cell_lt qs)).trans qs
  clear qs
  have qs := qsn
  clear qsn
  have hbn : Below w.heap.size w W3 := bthen hb0 hB
  clear hb0
  have hb0 := hbn
  clear hbn
  have hzW3 : W2.heap.size ≤ W3.heap.size := hz
  clear hc hf hB hz
  go_wp2_with fail
  go_ret2
  exact ⟨⟨none, 0, rfl, ints_nil _ _⟩, by have hbz := hb0.size; go_grown⟩

set_option maxRecDepth 100000 in
set_option maxHeartbeats 8000000 in
theorem c_Wrong_loop (m d : Int) (l : List Rc) (a : Option Addr) (cap : Nat) (shep known : Int) (w : World) (hl : Recs w a l) (h1 : rateB m d = true) (h2 : (crec l).2 = 0) :
    Calls Try.prog 47 #[.agg #[.int .i64 m, .int .i64 d], .slice a l.length cap, .int .i64 shep, .int .i64 known] w (GivesInts (wrongV m d l shep known) w) := by
  have hlen := hl.1
  rw [wrongV_ok h1 h2]
  have hcl := cnt_len2 known l
  obtain ⟨c, hcc⟩ : ∃ c, cnt known l = c := ⟨_, rfl⟩
  rw [hcc] at hcl
  rw [hcc]
  have HCC := Lib.hid hcc
  clear hcc
  have hbl := hl.block
  have HBL := Lib.hid hbl
  have HL := Lib.hid hl
  have H2 := Lib.hid h2
  obtain ⟨i0, hi0, hz0, hz1, hz2⟩ := info_parts info_int
  clear hl h2 hbl
  refine callsIn_wide.1 (callsIn_of_wp_marks (n := 9) Try.func47 rfl trivial ?_ rfl)
  refine wpIn_wide.2 ?_
  simp only [Try.ntmps47, List.size_toArray, List.length_cons, List.length_nil, Nat.reduceAdd, Nat.reduceSub, Array.replicate_succ, Array.replicate_zero, List.push_toArray, List.append_toArray, List.nil_append, List.cons_append]
  go_upto_region 1 with (fail)
  go_name_world W1 hW1
  have hbn : Below w.heap.size w W1 := by subst hW1; go_grown
  have hb0 := hbn
  clear hbn
  have qmn : W1.cell? ⟨w.heap.size, 0, none⟩ = some (.int .i64 m) := by subst hW1; go_simp
  have qdn : W1.cell? ⟨w.heap.size, 1, none⟩ = some (.int .i64 d) := by subst hW1; go_simp
  have qsn : W1.cell? ⟨w.heap.size + 1, 0, none⟩ = some (.int .i64 shep) := by subst hW1; go_simp
  clear hW1 
  have qm := qmn
  have qd := qdn
  have qs := qsn
  clear qmn qdn qsn 
  go_wp2_with fail
  refine (via (w0 := W1) (by go_grown) (c_isRate m d _)).mono ?_
  rw [h1]
  rintro e W2 ⟨rfl, hc, hf, hz, hB⟩
  have qmn : W2.cell? ⟨w.heap.size, 0, none⟩ = some (.int .i64 m) := (hc _ _ (cell_lt qm)).trans qm
  clear qm
  have qm := qmn
  clear qmn
  have qdn : W2.cell? ⟨w.heap.size, 1, none⟩ = some (.int .i64 d) := (hc _ _ (cell_lt qd)).trans qd
  clear qd
  have qd := qdn
  clear qdn
  have qsn : W2.cell? ⟨w.heap.size + 1, 0, none⟩ = some (.int .i64 shep) := (hc _ _ (cell_lt qs)).trans qs
  clear qs
  have qs := qsn
  clear qsn
  have hbn : Below w.heap.size w W2 := bthen hb0 hB
  clear hb0
  have hb0 := hbn
  clear hbn
  have hzW2 : W1.heap.size ≤ W2.heap.size := hz
  clear hc hf hB hz
  go_wp2_with fail
  refine (via (w0 := W2) (by go_grown) (c_CheckRecounts l a cap _ (HL.out.later hb0))).mono ?_
  rw [H2.out]
  rintro e W3 ⟨rfl, hc, hf, hz, hB⟩
  have qmn : W3.cell? ⟨w.heap.size, 0, none⟩ = some (.int .i64 m) := (hc _ _ (cell_lt qm)).trans qm
  clear qm
  have qm := qmn
  clear qmn
  have qdn : W3.cell? ⟨w.heap.size, 1, none⟩ = some (.int .i64 d) := (hc _ _ (cell_lt qd)).trans qd
  clear qd
  have qd := qdn
  clear qdn
  have qsn : W3.cell? ⟨w.heap.size + 1, 0, none⟩ = some (.int .i64 shep) := (hc _ _ (cell_lt qs)).trans qs
  clear qs
  have qs := qsn
  clear qsn
  have hbn : Below w.heap.size w W3 := bthen hb0 hB
  clear hb0
  have hb0 := hbn
  clear hbn
  have hzW3 : W2.heap.size ≤ W3.heap.size := hz
  clear hc hf hB hz
  go_upto_region 7 with (fail)
  clear h1
  have HZB := Lib.hid (cell_lt qs)
  go_name_world W4 hW4
  have hbz := hb0.size
  have hbn : Below w.heap.size w W4 := by subst hW4; go_grown
  clear hb0 hbz
  have hb0 := hbn
  clear hbn
  have hbk : Below W3.heap.size W3 W4 := by subst hW4; go_grown
  have qmn : W4.cell? ⟨w.heap.size, 0, none⟩ = some (.int .i64 m) := ((bcell hbk).1 _ _ (cell_lt qm)).trans qm
  have qdn : W4.cell? ⟨w.heap.size, 1, none⟩ = some (.int .i64 d) := ((bcell hbk).1 _ _ (cell_lt qd)).trans qd
  have qsn : W4.cell? ⟨w.heap.size + 1, 0, none⟩ = some (.int .i64 shep) := ((bcell hbk).1 _ _ (cell_lt qs)).trans qs
  clear hbk
  have y0n : W4.cell? ⟨W3.heap.size, 0, none⟩ = some (.slice none 0 0) := by subst hW4; go_simp
  have fy0n : W4.frozen? ⟨W3.heap.size, 0, none⟩ = false := by subst hW4; go_simp
  clear hW4 qm qd qs
  have qm := qmn
  have qd := qdn
  have qs := qsn
  have y0 := y0n
  have fy0 := fy0n
  clear qmn qdn qsn y0n fy0n
  have HZ4 := Lib.hid (cell_lt y0)
  go_wp2_with fail
  refine (c_counting _ _ _ _ _).mono ?_
  rintro e W' ⟨rfl, rfl⟩
  go_wp2_with fail
  go_name_world W5 hW5
  have hbz := hb0.size
  have hbn : Below w.heap.size w W5 := by subst hW5; go_grown
  clear hb0 hbz
  have hb0 := hbn
  clear hbn
  have hbk : Below W4.heap.size W4 W5 := by subst hW5; go_grown
  have qmn : W5.cell? ⟨w.heap.size, 0, none⟩ = some (.int .i64 m) := ((bcell hbk).1 _ _ (cell_lt qm)).trans qm
  have qdn : W5.cell? ⟨w.heap.size, 1, none⟩ = some (.int .i64 d) := ((bcell hbk).1 _ _ (cell_lt qd)).trans qd
  have qsn : W5.cell? ⟨w.heap.size + 1, 0, none⟩ = some (.int .i64 shep) := ((bcell hbk).1 _ _ (cell_lt qs)).trans qs
  have y0n : W5.cell? ⟨W3.heap.size, 0, none⟩ = some (.slice none 0 0) := ((bcell hbk).1 _ _ (cell_lt y0)).trans y0
  have fy0n : W5.frozen? ⟨W3.heap.size, 0, none⟩ = false := ((bcell hbk).2 _ _ (cell_lt y0)).trans fy0
  clear hbk
  have v0n : W5.cell? ⟨W4.heap.size, 0, none⟩ = some (.slice a l.length cap) := by subst hW5; go_simp
  have v1n : W5.cell? ⟨W4.heap.size + 1, 0, none⟩ = some (.int .i64 known) := by subst hW5; go_simp
  clear hW5 qm qd qs y0 fy0
  have qm := qmn
  have qd := qdn
  have qs := qsn
  have y0 := y0n
  have fy0 := fy0n
  have v0 := v0n
  have v1 := v1n
  clear qmn qdn qsn y0n v0n v1n fy0n
  have z0 := cell_lt y0
  have z1 := cell_lt v0
  have z2 := cell_lt v1
  have z3 := cell_lt qs
  have zB := HZB.out
  have z5 := HZ4.out
  have hit := iter_counting (W4.heap.size) (W4.heap.size + 1) l a cap known (fun k => k = W4.heap.size + 1 ∨ k < w.heap.size) W5 ?hm1 (.inl rfl) (fun hne b o h => .inr (HBL.out hne b o h)) v0 v1 (HL.out.later hb0)
  rw [HCC.out] at hit
  refine wp_range (encs := fun x : Rc => #[x.v]) (ys := c) (mine := fun k => k = W4.heap.size + 1 ∨ k < w.heap.size) rfl (enters_of Try.func105 (by kernel_rfl) rfl) ?hm hit (fun _ => rfl) (fun k => k = W3.heap.size) ?ho
    (BI W5 (W3.heap.size) m d shep) (fun _ _ _ => False) ?hI ?hIx ?hlt ?h0
    (fun pre x a' O A => ∃ Bx, BI W5 (W3.heap.size) m d shep pre O A ∧ O Bx ∧ BoxRc A Bx x ∧ a' = { tmps := #[.agg #[.int .i64 m, .int .i64 d], .slice a l.length cap, .int .i64 shep, .int .i64 known, .pointer (some ⟨w.heap.size, 0, none⟩), undef, .pointer (some ⟨w.heap.size + 1, 0, none⟩), undef, .slice none 0 0, .int .i64 0, .int .i64 (crec l).1, .int .i64 0, .pointer (some ⟨W3.heap.size, 0, none⟩), .pointer (some ⟨Bx, 0, none⟩), undef, undef, .agg #[.int .i64 m, .int .i64 d], .bool true, .bool false, .tuple #[.int .i64 (crec l).1, .int .i64 0], .slice a l.length cap, .tuple #[.int .i64 (crec l).1, .int .i64 0], .int .i64 (crec l).1, .int .i64 0, .int .i64 0, .bool false, undef, .slice a l.length cap, .int .i64 known, .func (.func 105) #[] #[.pointer (some ⟨W4.heap.size, 0, none⟩), .pointer (some ⟨W4.heap.size + 1, 0, none⟩)], x.v, undef, undef, undef, undef, undef, undef, undef, undef, undef, undef, undef, undef, undef, undef, undef, undef, undef, undef, undef, undef, undef, undef, undef], defers := [] }) ?hM ?assign ?body ?done ?stop
  case hm1 => rintro k (h | h) <;> omega
  case hm => rintro k (h | h) <;> omega
  case ho => rintro k (h | h) rfl <;> omega
  case hI => exact fun pre => BI.abide
  case hIx => exact fun c O A C h hk => h.elim
  case hlt => exact fun pre O A h => h.lt
  case h0 => exact ⟨⟨_, own_nil _ _ _ _, ⟨y0, fy0⟩, fun g hg => by simp [Value.ownBlock] at hg⟩, rfl, by rintro k rfl; omega, by rintro k rfl; omega, Kept.refl _ _⟩
  case hM =>
    rintro pre x a' O A C ⟨Bx, h, hx, hbx, rfl⟩ hk
    exact ⟨Bx, BI.abide O A C h hk, hx, hbx.kept hk (fun y => y.2 hx), rfl⟩
  case assign =>
    rintro lq pre x O A K h hpre hK
    gi_wp2
    have hsz := h.kept.size
    refine hK _ (fun k => O k ∨ k = A.heap.size) _ ?_ ((Kept.refl _ _).alloc _) ⟨A.heap.size, ?_, .inr rfl, ?_, rfl⟩
    · rintro k (h | rfl)
      · exact .inl h
      · exact .inr (Nat.le_refl _)
    · obtain ⟨v, h1, h2, h3⟩ := h.row
      have hk : Kept (fun _ => False) A (A.alloc (Obj.cells #[.int .i64 x.i, .int .i64 x.d, .int .i64 x.k, .int .i64 x.s, .int .i64 x.t, .int .i64 x.n] 43)) := (Kept.refl _ _).alloc _
      refine ⟨⟨v, ownsRow_kept h1 hk (fun _ _ h => h), h2.kept hk (fun h => h), fun g hg => .inl (h3 g hg)⟩, .inl h.o1, ?_, ?_, h.kept.alloc _⟩
      · rintro k (hx | rfl)
        · have := h.lt k hx; simp; omega
        · simp
      · rintro k (hx | rfl)
        · exact h.ge k hx
        · omega
    · exact ⟨by go_simp, by go_simp, by go_simp, by go_simp, by go_simp, by go_simp⟩
  case body =>
    rintro lq pre x a' O A hlq hOl ⟨Bx, H, hx, hbx, rfl⟩ hpre
    obtain ⟨v, hrow, hcv, hog⟩ := H.row
    obtain ⟨hcv1, hcv2⟩ := hcv
    obtain ⟨x1, x2, x3, x4, x5, x6⟩ := hbx
    have em := H.kept.cell (by omega) qm
    have ed := H.kept.cell (by omega) qd
    have es := H.kept.cell (by omega) qs
    have hsz := H.kept.size
    have hlp : (badL m d shep pre).length < c.length := by
      have h1 := badL_len m d shep pre
      have h2 := hpre.length_le
      simp at h2
      omega
    have HH := Lib.hid H
    have HR := Lib.hid hrow
    have HG := Lib.hid hog
    have hF := fun W => c_FitsV m d x.t x.n W
    have hmis : misfit m d shep x = ((x.s == shep) && !fitV m d x.t x.n) := rfl
    generalize fitV m d x.t x.n = fv at hF hmis
    generalize errB (okNC m d x.t x.n) = er at hF
    have HF := Lib.hid hF
    have HMIS := Lib.hid hmis
    clear hF hmis H hrow hog hpre hit y0 fy0 v0 v1 qm qd qs hb0 x2 x3
    have hbase : ∀ g, v.ownBlock = some g → W5.heap.size ≤ g ∧ g < A.heap.size := fun g hg => HR.out.lt g hg
    have HBA := Lib.hid hbase
    have hBn : ¬ v.ownBlock = some (W3.heap.size) := fun e => by have := hbase _ e; omega
    have HBN := Lib.hid hBn
    clear hbase hBn
    gi_wp2_with fail
    refine ⟨trivial, ?_⟩
    gi_at_call 27
    refine (CallsIn.inRound lq (callsIn_wide.2 (HF.out _))).mono ?_
    rintro e A2 ⟨rfl, hA2⟩
    have hc := (bcell hA2).1
    have hf := (bcell hA2).2
    have x1n := (hc _ _ (cell_lt x1)).trans x1
    have x4n := (hc _ _ (cell_lt x4)).trans x4
    have esn := (hc _ _ (cell_lt es)).trans es
    have cvn := (hc _ _ (cell_lt hcv1)).trans hcv1
    have fvn := (hf _ _ (cell_lt hcv1)).trans hcv2
    have hza := hA2.size
    have HA2 := Lib.hid hA2
    clear x1 x4 es hcv1 hcv2 x5 x6 em ed hc hf hA2
    by_cases hs : x.s = shep
    · have hs' : (x.s == shep) = true := by simpa using hs
      cases fv
      · have hmf : misfit m d shep x = true := by rw [HMIS.out, hs']; rfl
        clear hs
        have hrow2 := own_below HR.out HA2.out
        have HR2 := Lib.hid hrow2
        clear hrow2
        gi_wp2_with (gi_at_builtin; refine stuckHere ?_)
        refine unHid ?_
        refine wpListIn_append_own_at _ rfl _ _ 46 rfl W5.heap.size 3 i0 _ 1 8 Try.underlying46 hi0 hz0 hz1 hz2 rfl (by decide) _ _ _ rfl (HR2.out.alloc _) ⟨A2.heap.size, 0, none⟩ 1 1 [.int .i64 x.i] rfl rfl (cell_one_new _ _ _) (by simp [Value.oneCell']) (by unfold maxLen; omega) (by omega) (by simp; omega) ?_
        intro v' w1 hown' hgrow _ hat
        obtain ⟨g', cap', rfl⟩ := own_slice hown'
        have hka : Kept (fun _ => False) A2 (A2.alloc (Obj.cells #[.int .i64 x.i] 3)) := (Kept.refl _ _).alloc _
        have hkg := ((Kept.of_below (O := fun k => k = W3.heap.size ∨ v.ownBlock = some k) HA2.out).trans (hka.wider (O' := fun k => k = W3.heap.size ∨ v.ownBlock = some k) (fun _ _ h => h.elim)) (fun _ _ h => h)).trans (kept_of_grown hgrow) (fun _ _ h => .inr h)
        have q1 := (kept_of_grown hgrow).cell HBN.out (hka.cell (fun h => h) cvn)
        have q2 := ((kept_of_grown hgrow).frozen (cell_lt (hka.cell (fun h => h) cvn)) HBN.out).trans ((hka.frozen (cell_lt cvn) (fun h => h)).trans fvn)
        have hg' := hown'.lt g' rfl
        have hz2' : A2.heap.size < w1.heap.size := by have := hgrow.size; simp at this; omega
        have HKG := Lib.hid hkg
        have HO' := Lib.hid hown'
        have HAT := Lib.hid hat
        have HMF := Lib.hid hmf
        clear hka hkg hown' hgrow hat cvn fvn x1n x4n esn hmf
        gi_wp2
        have h := HH.out
        have hg1 := hg'.1
        have kc : Kept (fun k => k = W3.heap.size) w1 (w1.setCell { block := W3.heap.size, off := 0 } (.slice (some { block := g', off := 0 }) ((badL m d shep pre).length + 1) cap')) :=
          Kept.setCell (p := { block := W3.heap.size, off := 0 }) (Kept.refl (fun k => k = W3.heap.size) w1) (.inl rfl) _
        have kall := HKG.out.trans kc (fun _ _ h => .inl h)
        refine ⟨fun j => O j ∨ j = g', ?_, kall.wider ?_, ⟨.slice (some ⟨g', 0, none⟩) ((badL m d shep pre).length + 1) cap', ?_, ⟨by go_simp, by go_simp⟩, ?_⟩, .inl h.o1, ?_, ?_, h.kept.trans kall ?_⟩
        · rintro j (hj | rfl)
          · exact .inl hj
          · rcases HAT.out with e | e
            · exact .inl (HG.out _ (e ▸ rfl))
            · simp [Value.ownBlock] at e
              right
              omega
        · rintro j _ (rfl | hv)
          · exact h.o1
          · exact HG.out j hv
        · have := ownsRow_kept HO'.out kc (fun g hg e => by simp [Value.ownBlock] at hg; omega)
          rw [badL_yes HMF.out, cellsL_snoc, List.length_append]
          exact this
        · intro g hg
          simp [Value.ownBlock] at hg
          exact .inr hg.symm
        · rintro j (hj | rfl)
          · have := h.lt j hj; simp; omega
          · simp; exact hg'.2
        · rintro j (hj | rfl)
          · exact h.ge j hj
          · omega
        · rintro j hj (rfl | hj2)
          · rfl
          · have := HBA.out j hj2; omega
      · have hmf : misfit m d shep x = false := by rw [HMIS.out, hs']; rfl
        clear hs
        gi_wp2
        have h := HH.out
        have hk2 : Kept O A A2 := Kept.of_below HA2.out
        obtain ⟨v, h1, h2, h3⟩ := h.row
        have hk3 : Kept (fun _ => False) A A2 := Kept.of_below HA2.out
        exact ⟨O, fun k hk => .inl hk, hk2, ⟨v, by rw [badL_no hmf]; exact ownsRow_kept h1 hk3 (fun _ _ h => h), h2.kept hk3 (fun h => h), h3⟩, h.o1, fun k hk => Nat.lt_of_lt_of_le (h.lt k hk) hza, h.ge, h.kept.trans hk3 (fun _ _ h => h.elim)⟩
    · have hs' : (x.s == shep) = false := by simpa using hs
      have hmf : misfit m d shep x = false := by rw [HMIS.out, hs']; rfl
      clear hs
      gi_wp2
      have h := HH.out
      have hk2 : Kept O A A2 := Kept.of_below HA2.out
      obtain ⟨v, h1, h2, h3⟩ := h.row
      have hk3 : Kept (fun _ => False) A A2 := Kept.of_below HA2.out
      exact ⟨O, fun k hk => .inl hk, hk2, ⟨v, by rw [badL_no hmf]; exact ownsRow_kept h1 hk3 (fun _ _ h => h), h2.kept hk3 (fun h => h), h3⟩, h.o1, fun k hk => Nat.lt_of_lt_of_le (h.lt k hk) hza, h.ge, h.kept.trans hk3 (fun _ _ h => h.elim)⟩
  case done =>
    rintro D O A hD hOD H hK
    obtain ⟨v, hrow, hcv, hog⟩ := H.row
    obtain ⟨hcv1, hcv2⟩ := hcv
    have hbl := badL_len m d shep c
    have hne0 : ¬ v.ownBlock = some D := own_ne hrow hK
    obtain ⟨b, k2, rfl, hr, _⟩ := int_own hrow
    have HR := Lib.hid (hr (by omega))
    have HH := Lib.hid H
    have hne : ∀ g o, b = some ⟨g, o, none⟩ → ¬ g = D := fun g o e h => hne0 (by rw [e, h]; rfl)
    have HNE := Lib.hid hne
    have HB := Lib.hid hb0
    clear hne hne0 H hrow hog hr hit y0 fy0 v0 v1 qm qd qs hb0
    go_wp2
    have H := HH.out
    have hbw := HB.out.trans (H.kept.below HB.out.size (by rintro j rfl; omega))
    refine end_collected (v := .tuple #[.slice b (badL m d shep c).length k2, .int .i64 0]) hK ?_ ?_ _ (.inr rfl)
    · intro C2 hk3
      simp [results, Try.results47, go_sem]
    · intro C2 hk3
      exact ⟨⟨b, k2, rfl, HR.out.kept hk3 (fun g o e h => HNE.out g o e h)⟩, hbw.trans (hk3.below hbw.size (by rintro k rfl; have := HB.out.size; omega))⟩
  case stop =>
    rintro D c O A hD hOD h hK
    exact h.elim

theorem c_Wrong (m d : Int) (l : List Rc) (a : Option Addr) (cap : Nat) (shep known : Int) (w : World) (hl : Recs w a l) :
    Calls Try.prog 47 #[.agg #[.int .i64 m, .int .i64 d], .slice a l.length cap, .int .i64 shep, .int .i64 known] w (GivesInts (wrongV m d l shep known) w) := by
  by_cases h1 : rateB m d = true
  · by_cases h2 : (crec l).2 = 0
    · exact c_Wrong_loop m d l a cap shep known w hl h1 h2
    · exact c_Wrong_err m d l a cap shep known w hl h1 h2
  · exact c_Wrong_bad m d l a cap shep known w hl (by simpa using h1)
end Go.Proofs.Ytokpjaodchcheaa
