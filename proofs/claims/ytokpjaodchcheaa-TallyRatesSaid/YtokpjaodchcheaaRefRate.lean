/- This text proves what RateOf of the reference returns, for every rate of the house, list of re-counts, shepherd and day of knowledge. -/
import Derived.Test.YtokpjaodchcheaaCounting
import Derived.Test.YtokpjaodchcheaaRatePlain
import Derived.Test.YtokpjaodchcheaaRecsR
namespace Go.Proofs.Ytokpjaodchcheaa
open Go.RowKit Go.Shelf
attribute [local go_sem] Oper.semAt_some

theorem shep_yes {shep : Int} {c : List Rc} {k : Nat} (hk : k < c.length) (h : (rc c k).s = shep) : ofShep shep (c.take (k + 1)) = ofShep shep (c.take k) ++ [rc c k] := by
  rw [take_rc hk]; exact ofShep_yes h
theorem shep_no {shep : Int} {c : List Rc} {k : Nat} (hk : k < c.length) (h : ¬ (rc c k).s = shep) : ofShep shep (c.take (k + 1)) = ofShep shep (c.take k) := by
  rw [take_rc hk]; exact ofShep_no h
theorem shep_prefix (shep : Int) (c : List Rc) (k : Nat) : ofShep shep (c.take k) <+: ofShep shep c := (List.take_prefix k c).filter _

set_option maxRecDepth 100000 in
set_option maxHeartbeats 8000000 in
theorem c_rRateOf_bad (m d : Int) (l : List Rc) (a : Option Addr) (cap : Nat) (shep known : Int) (w : World) (_hl : Recs w a l) (h1 : rateB m d = false) :
    Calls Try.prog 44 #[.agg #[.int .i64 m, .int .i64 d], .slice a l.length cap, .int .i64 shep, .int .i64 known] w fun e w' => e = .returned (rateVal (rateV m d l shep known)) ∧ Below w.heap.size w w' := by
  rw [rateV_bad h1]

  go_enter Try.func44, Try.ntmps44
  go_upto_region 1 with (fail)
  go_name_world W1 hW1
  have hbn : Below w.heap.size w W1 := by subst hW1; go_grown
  have hb0 := hbn
  clear hbn
  have qmn : W1.cell? ⟨w.heap.size, 0, none⟩ = some (.int .i64 m) := by subst hW1; go_simp
  have qdn : W1.cell? ⟨w.heap.size, 1, none⟩ = some (.int .i64 d) := by subst hW1; go_simp
  have r0n : W1.cell? ⟨w.heap.size + 1, 0, none⟩ = some (.int .i64 0) := by subst hW1; go_simp
  have fr0n : W1.frozen? ⟨w.heap.size + 1, 0, none⟩ = false := by subst hW1; go_simp
  have r1n : W1.cell? ⟨w.heap.size + 1, 1, none⟩ = some (.int .i64 0) := by subst hW1; go_simp
  have fr1n : W1.frozen? ⟨w.heap.size + 1, 1, none⟩ = false := by subst hW1; go_simp
  clear hW1 
  have qm := qmn
  have qd := qdn
  have r0 := r0n
  have fr0 := fr0n
  have r1 := r1n
  have fr1 := fr1n
  clear qmn qdn r0n r1n fr0n fr1n
  go_wp2_with fail
  refine (via (w0 := W1) (by go_grown) (c_rCheckRate m d _)).mono ?_
  rw [h1, errB_false]
  rintro e W2 ⟨rfl, hc, hf, hz, hB⟩
  have qmn : W2.cell? ⟨w.heap.size, 0, none⟩ = some (.int .i64 m) := (hc _ _ (cell_lt qm)).trans qm
  clear qm
  have qm := qmn
  clear qmn
  have qdn : W2.cell? ⟨w.heap.size, 1, none⟩ = some (.int .i64 d) := (hc _ _ (cell_lt qd)).trans qd
  clear qd
  have qd := qdn
  clear qdn
  have fr0n : W2.frozen? ⟨w.heap.size + 1, 0, none⟩ = false := (hf _ _ (cell_lt r0)).trans fr0
  clear fr0
  have fr0 := fr0n
  clear fr0n
  have r0n : W2.cell? ⟨w.heap.size + 1, 0, none⟩ = some (.int .i64 0) := (hc _ _ (cell_lt r0)).trans r0
  clear r0
  have r0 := r0n
  clear r0n
  have fr1n : W2.frozen? ⟨w.heap.size + 1, 1, none⟩ = false := (hf _ _ (cell_lt r1)).trans fr1
  clear fr1
  have fr1 := fr1n
  clear fr1n
  have r1n : W2.cell? ⟨w.heap.size + 1, 1, none⟩ = some (.int .i64 0) := (hc _ _ (cell_lt r1)).trans r1
  clear r1
  have r1 := r1n
  clear r1n
  have hbn : Below w.heap.size w W2 := bthen hb0 hB
  clear hb0
  have hb0 := hbn
  clear hbn
  have hzW2 : W1.heap.size ≤ W2.heap.size := hz
  clear hc hf hB hz
  go_wp2_with fail
  refine bodyPost_ret (v := rateVal (0, 0, 1)) (by simp [results, Try.results44, go_sem, r0, r1]) rfl ⟨rfl, by have hbz := hb0.size; go_grown⟩

set_option maxRecDepth 100000 in
set_option maxHeartbeats 8000000 in
theorem c_rRateOf_err (m d : Int) (l : List Rc) (a : Option Addr) (cap : Nat) (shep known : Int) (w : World) (hl : Recs w a l) (h1 : rateB m d = true) (h2 : ¬ (crec l).2 = 0) :
    Calls Try.prog 44 #[.agg #[.int .i64 m, .int .i64 d], .slice a l.length cap, .int .i64 shep, .int .i64 known] w fun e w' => e = .returned (rateVal (rateV m d l shep known)) ∧ Below w.heap.size w w' := by
  rw [rateV_err h1 h2]
  have h2' : ((crec l).2 == 0) = false := by simpa using h2
  have h2n : ((crec l).2 != 0) = true := by simpa using h2
  have HL := Lib.hid hl
  clear hl h2
  go_enter Try.func44, Try.ntmps44
  go_upto_region 1 with (fail)
  go_name_world W1 hW1
  have hbn : Below w.heap.size w W1 := by subst hW1; go_grown
  have hb0 := hbn
  clear hbn
  have qmn : W1.cell? ⟨w.heap.size, 0, none⟩ = some (.int .i64 m) := by subst hW1; go_simp
  have qdn : W1.cell? ⟨w.heap.size, 1, none⟩ = some (.int .i64 d) := by subst hW1; go_simp
  have r0n : W1.cell? ⟨w.heap.size + 1, 0, none⟩ = some (.int .i64 0) := by subst hW1; go_simp
  have fr0n : W1.frozen? ⟨w.heap.size + 1, 0, none⟩ = false := by subst hW1; go_simp
  have r1n : W1.cell? ⟨w.heap.size + 1, 1, none⟩ = some (.int .i64 0) := by subst hW1; go_simp
  have fr1n : W1.frozen? ⟨w.heap.size + 1, 1, none⟩ = false := by subst hW1; go_simp
  clear hW1 
  have qm := qmn
  have qd := qdn
  have r0 := r0n
  have fr0 := fr0n
  have r1 := r1n
  have fr1 := fr1n
  clear qmn qdn r0n r1n fr0n fr1n
  go_wp2_with fail
  refine (via (w0 := W1) (by go_grown) (c_rCheckRate m d _)).mono ?_
  rw [h1, errB_true]
  rintro e W2 ⟨rfl, hc, hf, hz, hB⟩
  have qmn : W2.cell? ⟨w.heap.size, 0, none⟩ = some (.int .i64 m) := (hc _ _ (cell_lt qm)).trans qm
  clear qm
  have qm := qmn
  clear qmn
  have qdn : W2.cell? ⟨w.heap.size, 1, none⟩ = some (.int .i64 d) := (hc _ _ (cell_lt qd)).trans qd
  clear qd
  have qd := qdn
  clear qdn
  have fr0n : W2.frozen? ⟨w.heap.size + 1, 0, none⟩ = false := (hf _ _ (cell_lt r0)).trans fr0
  clear fr0
  have fr0 := fr0n
  clear fr0n
  have r0n : W2.cell? ⟨w.heap.size + 1, 0, none⟩ = some (.int .i64 0) := (hc _ _ (cell_lt r0)).trans r0
  clear r0
  have r0 := r0n
  clear r0n
  have fr1n : W2.frozen? ⟨w.heap.size + 1, 1, none⟩ = false := (hf _ _ (cell_lt r1)).trans fr1
  clear fr1
  have fr1 := fr1n
  clear fr1n
  have r1n : W2.cell? ⟨w.heap.size + 1, 1, none⟩ = some (.int .i64 0) := (hc _ _ (cell_lt r1)).trans r1
  clear r1
  have r1 := r1n
  clear r1n
  have hbn : Below w.heap.size w W2 := bthen hb0 hB
  clear hb0
  have hb0 := hbn
  clear hbn
  have hzW2 : W1.heap.size ≤ W2.heap.size := hz
  clear hc hf hB hz
  go_wp2_with fail
  refine (via (w0 := W2) (by go_grown) (c_rCheckRecounts l a cap _ (HL.out.later hb0))).mono ?_
  rintro e W3 ⟨rfl, hc, hf, hz, hB⟩
  have qmn : W3.cell? ⟨w.heap.size, 0, none⟩ = some (.int .i64 m) := (hc _ _ (cell_lt qm)).trans qm
  clear qm
  have qm := qmn
  clear qmn
  have qdn : W3.cell? ⟨w.heap.size, 1, none⟩ = some (.int .i64 d) := (hc _ _ (cell_lt qd)).trans qd
  clear qd
  have qd := qdn
  clear qdn
  have fr0n : W3.frozen? ⟨w.heap.size + 1, 0, none⟩ = false := (hf _ _ (cell_lt r0)).trans fr0
  clear fr0
  have fr0 := fr0n
  clear fr0n
  have r0n : W3.cell? ⟨w.heap.size + 1, 0, none⟩ = some (.int .i64 0) := (hc _ _ (cell_lt r0)).trans r0
  clear r0
  have r0 := r0n
  clear r0n
  have fr1n : W3.frozen? ⟨w.heap.size + 1, 1, none⟩ = false := (hf _ _ (cell_lt r1)).trans fr1
  clear fr1
  have fr1 := fr1n
  clear fr1n
  have r1n : W3.cell? ⟨w.heap.size + 1, 1, none⟩ = some (.int .i64 0) := (hc _ _ (cell_lt r1)).trans r1
  clear r1
  have r1 := r1n
  clear r1n
  have hbn : Below w.heap.size w W3 := bthen hb0 hB
  clear hb0
  have hb0 := hbn
  clear hbn
  have hzW3 : W2.heap.size ≤ W3.heap.size := hz
  clear hc hf hB hz
  go_wp2_with fail
  refine bodyPost_ret (v := rateVal (0, 0, (crec l).2)) (by simp [results, Try.results44, go_sem, r0, r1]) rfl ⟨rfl, by have hbz := hb0.size; go_grown⟩

set_option maxRecDepth 100000 in
set_option maxHeartbeats 8000000 in
theorem c_rRateOf_loop (m d : Int) (l : List Rc) (a : Option Addr) (cap : Nat) (shep known : Int) (w : World) (hl : Recs w a l) (h1 : rateB m d = true) (h2 : (crec l).2 = 0) :
    Calls Try.prog 44 #[.agg #[.int .i64 m, .int .i64 d], .slice a l.length cap, .int .i64 shep, .int .i64 known] w fun e w' => e = .returned (rateVal (rateV m d l shep known)) ∧ Below w.heap.size w w' := by
  have HL := Lib.hid hl
  have H1 := Lib.hid h1
  have H2 := Lib.hid h2
  have hlen := hl.1
  clear hl h2
  go_enter Try.func44, Try.ntmps44
  go_upto_region 1 with (fail)
  go_name_world W1 hW1
  have hbn : Below w.heap.size w W1 := by subst hW1; go_grown
  have hb0 := hbn
  clear hbn
  have qmn : W1.cell? ⟨w.heap.size, 0, none⟩ = some (.int .i64 m) := by subst hW1; go_simp
  have qdn : W1.cell? ⟨w.heap.size, 1, none⟩ = some (.int .i64 d) := by subst hW1; go_simp
  have r0n : W1.cell? ⟨w.heap.size + 1, 0, none⟩ = some (.int .i64 0) := by subst hW1; go_simp
  have fr0n : W1.frozen? ⟨w.heap.size + 1, 0, none⟩ = false := by subst hW1; go_simp
  have r1n : W1.cell? ⟨w.heap.size + 1, 1, none⟩ = some (.int .i64 0) := by subst hW1; go_simp
  have fr1n : W1.frozen? ⟨w.heap.size + 1, 1, none⟩ = false := by subst hW1; go_simp
  clear hW1 
  have qm := qmn
  have qd := qdn
  have r0 := r0n
  have fr0 := fr0n
  have r1 := r1n
  have fr1 := fr1n
  clear qmn qdn r0n r1n fr0n fr1n
  go_wp2_with fail
  refine (via (w0 := W1) (by go_grown) (c_rCheckRate m d _)).mono ?_
  rw [h1, errB_true]
  rintro e W2 ⟨rfl, hc, hf, hz, hB⟩
  have qmn : W2.cell? ⟨w.heap.size, 0, none⟩ = some (.int .i64 m) := (hc _ _ (cell_lt qm)).trans qm
  clear qm
  have qm := qmn
  clear qmn
  have qdn : W2.cell? ⟨w.heap.size, 1, none⟩ = some (.int .i64 d) := (hc _ _ (cell_lt qd)).trans qd
  clear qd
  have qd := qdn
  clear qdn
  have fr0n : W2.frozen? ⟨w.heap.size + 1, 0, none⟩ = false := (hf _ _ (cell_lt r0)).trans fr0
  clear fr0
  have fr0 := fr0n
  clear fr0n
  have r0n : W2.cell? ⟨w.heap.size + 1, 0, none⟩ = some (.int .i64 0) := (hc _ _ (cell_lt r0)).trans r0
  clear r0
  have r0 := r0n
  clear r0n
  have fr1n : W2.frozen? ⟨w.heap.size + 1, 1, none⟩ = false := (hf _ _ (cell_lt r1)).trans fr1
  clear fr1
  have fr1 := fr1n
  clear fr1n
  have r1n : W2.cell? ⟨w.heap.size + 1, 1, none⟩ = some (.int .i64 0) := (hc _ _ (cell_lt r1)).trans r1
  clear r1
  have r1 := r1n
  clear r1n
  have hbn : Below w.heap.size w W2 := bthen hb0 hB
  clear hb0
  have hb0 := hbn
  clear hbn
  have hzW2 : W1.heap.size ≤ W2.heap.size := hz
  clear hc hf hB hz
  go_wp2_with fail
  refine (via (w0 := W2) (by go_grown) (c_rCheckRecounts l a cap _ (HL.out.later hb0))).mono ?_
  rw [H2.out]
  rintro e W3 ⟨rfl, hc, hf, hz, hB⟩
  have qmn : W3.cell? ⟨w.heap.size, 0, none⟩ = some (.int .i64 m) := (hc _ _ (cell_lt qm)).trans qm
  clear qm
  have qm := qmn
  clear qmn
  have qdn : W3.cell? ⟨w.heap.size, 1, none⟩ = some (.int .i64 d) := (hc _ _ (cell_lt qd)).trans qd
  clear qd
  have qd := qdn
  clear qdn
  have fr0n : W3.frozen? ⟨w.heap.size + 1, 0, none⟩ = false := (hf _ _ (cell_lt r0)).trans fr0
  clear fr0
  have fr0 := fr0n
  clear fr0n
  have r0n : W3.cell? ⟨w.heap.size + 1, 0, none⟩ = some (.int .i64 0) := (hc _ _ (cell_lt r0)).trans r0
  clear r0
  have r0 := r0n
  clear r0n
  have fr1n : W3.frozen? ⟨w.heap.size + 1, 1, none⟩ = false := (hf _ _ (cell_lt r1)).trans fr1
  clear fr1
  have fr1 := fr1n
  clear fr1n
  have r1n : W3.cell? ⟨w.heap.size + 1, 1, none⟩ = some (.int .i64 0) := (hc _ _ (cell_lt r1)).trans r1
  clear r1
  have r1 := r1n
  clear r1n
  have hbn : Below w.heap.size w W3 := bthen hb0 hB
  clear hb0
  have hb0 := hbn
  clear hbn
  have hzW3 : W2.heap.size ≤ W3.heap.size := hz
  clear hc hf hB hz
  go_upto_region 7 with (fail)
  clear h1
  have HW := Lib.hid (cell_lt r0)
  go_name_world W4 hW4
  have hbz := hb0.size
  have hbn : Below w.heap.size w W4 := by subst hW4; go_grown
  clear hb0 hbz
  have hb0 := hbn
  clear hbn
  have hbk : Below W3.heap.size W3 W4 := by subst hW4; go_grown
  have qmn : W4.cell? ⟨w.heap.size, 0, none⟩ = some (.int .i64 m) := ((bcell hbk).1 _ _ (cell_lt qm)).trans qm
  have qdn : W4.cell? ⟨w.heap.size, 1, none⟩ = some (.int .i64 d) := ((bcell hbk).1 _ _ (cell_lt qd)).trans qd
  have r0n : W4.cell? ⟨w.heap.size + 1, 0, none⟩ = some (.int .i64 0) := ((bcell hbk).1 _ _ (cell_lt r0)).trans r0
  have fr0n : W4.frozen? ⟨w.heap.size + 1, 0, none⟩ = false := ((bcell hbk).2 _ _ (cell_lt r0)).trans fr0
  have r1n : W4.cell? ⟨w.heap.size + 1, 1, none⟩ = some (.int .i64 0) := ((bcell hbk).1 _ _ (cell_lt r1)).trans r1
  have fr1n : W4.frozen? ⟨w.heap.size + 1, 1, none⟩ = false := ((bcell hbk).2 _ _ (cell_lt r1)).trans fr1
  clear hbk
  have o0n : W4.cell? ⟨W3.heap.size, 0, none⟩ = some (.int .i64 m) := by subst hW4; go_simp
  have fo0n : W4.frozen? ⟨W3.heap.size, 0, none⟩ = false := by subst hW4; go_simp
  have o1n : W4.cell? ⟨W3.heap.size, 1, none⟩ = some (.int .i64 d) := by subst hW4; go_simp
  have fo1n : W4.frozen? ⟨W3.heap.size, 1, none⟩ = false := by subst hW4; go_simp
  clear hW4 qm qd r0 r1 fr0 fr1
  have qm := qmn
  have qd := qdn
  have r0 := r0n
  have fr0 := fr0n
  have r1 := r1n
  have fr1 := fr1n
  have o0 := o0n
  have fo0 := fo0n
  have o1 := o1n
  have fo1 := fo1n
  clear qmn qdn r0n r1n o0n o1n fr0n fr1n fo0n fo1n
  go_wp2_with fail
  have hbo : W3.heap.size < W4.heap.size := cell_lt o0
  refine (c_rCounting l a cap known _ (HL.out.later hb0)).mono ?_
  rintro e W5 ⟨⟨b1, k1, rfl, hr1, hn1⟩, hB⟩
  have hc := (bcell hB).1
  have hf := (bcell hB).2
  have hz := hB.size
  have hnb : ∀ g o, b1 = some ⟨g, o, none⟩ → ¬ g = W3.heap.size := fun g o e h => by have := hn1 g o e; omega
  have HNB := Lib.hid hnb
  have hbo2 : W3.heap.size < W5.heap.size := by omega
  clear hnb hn1 hbo
  have qmn : W5.cell? ⟨w.heap.size, 0, none⟩ = some (.int .i64 m) := (hc _ _ (cell_lt qm)).trans qm
  clear qm
  have qm := qmn
  clear qmn
  have qdn : W5.cell? ⟨w.heap.size, 1, none⟩ = some (.int .i64 d) := (hc _ _ (cell_lt qd)).trans qd
  clear qd
  have qd := qdn
  clear qdn
  have fr0n : W5.frozen? ⟨w.heap.size + 1, 0, none⟩ = false := (hf _ _ (cell_lt r0)).trans fr0
  clear fr0
  have fr0 := fr0n
  clear fr0n
  have r0n : W5.cell? ⟨w.heap.size + 1, 0, none⟩ = some (.int .i64 0) := (hc _ _ (cell_lt r0)).trans r0
  clear r0
  have r0 := r0n
  clear r0n
  have fr1n : W5.frozen? ⟨w.heap.size + 1, 1, none⟩ = false := (hf _ _ (cell_lt r1)).trans fr1
  clear fr1
  have fr1 := fr1n
  clear fr1n
  have r1n : W5.cell? ⟨w.heap.size + 1, 1, none⟩ = some (.int .i64 0) := (hc _ _ (cell_lt r1)).trans r1
  clear r1
  have r1 := r1n
  clear r1n
  have fo0n : W5.frozen? ⟨W3.heap.size, 0, none⟩ = false := (hf _ _ (cell_lt o0)).trans fo0
  clear fo0
  have fo0 := fo0n
  clear fo0n
  have o0n : W5.cell? ⟨W3.heap.size, 0, none⟩ = some (.int .i64 m) := (hc _ _ (cell_lt o0)).trans o0
  clear o0
  have o0 := o0n
  clear o0n
  have fo1n : W5.frozen? ⟨W3.heap.size, 1, none⟩ = false := (hf _ _ (cell_lt o1)).trans fo1
  clear fo1
  have fo1 := fo1n
  clear fo1n
  have o1n : W5.cell? ⟨W3.heap.size, 1, none⟩ = some (.int .i64 d) := (hc _ _ (cell_lt o1)).trans o1
  clear o1
  have o1 := o1n
  clear o1n
  have hbn := bthen hb0 hB
  clear hb0
  have hb0 := hbn
  clear hbn hc hf hB hz
  obtain ⟨c, hcc⟩ : ∃ c, cnt known l = c := ⟨_, rfl⟩
  rw [hcc] at hr1
  have hcl := cnt_len2 known l
  rw [hcc] at hcl
  rw [hcc]
  have HCC := Lib.hid hcc
  have HR := Lib.hid hr1
  clear hcc hr1
  have hr1b := cell_lt r0
  have hwo : w.heap.size + 1 < W3.heap.size := HW.out
  go_wp2
  go_loopw [14] (fun v14 wr => ∃ (k : Nat) (p q : Int), k ≤ c.length ∧ v14 = .int .i64 k ∧ rfold m d (ofShep shep (c.take k)) = some (p, q) ∧ Own1 wr (W3.heap.size) 0 (.int .i64 p) ∧ Own1 wr (W3.heap.size) 1 (.int .i64 q) ∧ Kept (fun j => j = W3.heap.size) W5 wr) (fun v14 _ => c.length - (intOf v14).toNat)
  case atStart => exact ⟨0, m, d, by omega, rfl, rfl, ⟨o0, fo0⟩, ⟨o1, fo1⟩, Kept.refl _ _⟩
  case round =>
    obtain ⟨k, p, q, hk, rfl, hp, ho0, ho1, hkp⟩ := hrel
    obtain ⟨u0, fu0⟩ := ho0
    obtain ⟨u1, fu1⟩ := ho1
    have hbw : Below w.heap.size w wr := hb0.trans (hkp.below hb0.size (by rintro j rfl; omega))
    have s0 := hkp.cell (by omega) r0
    have s1 := hkp.cell (by omega) r1
    have fs0 := (hkp.frozen (cell_lt r0) (by omega)).trans fr0
    have fs1 := (hkp.frozen (cell_lt r1) (by omega)).trans fr1
    have hrr : Recs wr b1 c := HR.out.kept hkp (fun g o e => HNB.out g o e)
    have hzz := hkp.size
    have HK := Lib.hid hkp
    have HP := Lib.hid hp
    have HRR := Lib.hid hrr
    have hbo3 : W3.heap.size < wr.heap.size := by omega
    have HB := Lib.hid hbw
    clear hkp hp hrr r0 r1 fr0 fr1 qm qd o0 o1 fo0 fo1 hb0 hzz hbo2 hr1b hbw
    by_cases hlt : k < c.length
    · obtain ⟨b, o, rfl, hat⟩ := HRR.out.2 (by intro e; rw [e] at hlt; simp at hlt)
      obtain ⟨x1, x2, x3, x4, x5, x6⟩ := hat k hlt
      clear hat x1 x2 x3
      have hpre := shep_prefix shep c (k + 1)
      have hi1 : ¬ (k : Int) < 0 := by omega
      have hi2 : (k : Int) < (c.length : Int) := by omega
      have hn3 : ¬ b = W3.heap.size := HNB.out b o rfl
      by_cases hs : (rc c k).s = shep
      · have hst := shep_yes hlt hs
        have hs' : ((rc c k).s == shep) = true := by simpa using hs
        have hsn : ((rc c k).s != shep) = false := by simpa using hs
        rw [hst] at hpre
        have HST := Lib.hid hst
        have HPRE := Lib.hid hpre
        clear hst hpre hs
        obtain ⟨xk, hxk⟩ : ∃ x, rc c k = x := ⟨_, rfl⟩
        rw [hxk] at x4 x5 x6 hs' hsn
        have HXK := Lib.hid hxk
        clear hxk
        have hfi : xk.fine = ((missV xk.t xk.n).2 && (doubV xk.t xk.n).2) := rfl
        have hmi := fun W => c_rMisses xk.t xk.n W
        have hdo := fun W => c_rDoubles xk.t xk.n W
        have hrs : xk.fine = true → rstep (some (p, q)) xk = some (max p (missV xk.t xk.n).1, max q (doubV xk.t xk.n).1) := fun h => by simp [rstep, h]
        have hrn : xk.fine = false → rstep (some (p, q)) xk = none := fun h => by simp [rstep, h]
        generalize missV xk.t xk.n = mv at *
        generalize doubV xk.t xk.n = dv at *
        obtain ⟨m1, m2⟩ := mv
        obtain ⟨d1, d2⟩ := dv
        dsimp only at hfi hrs
        have HMI := Lib.hid hmi
        have HDO := Lib.hid hdo
        have HFI := Lib.hid hfi
        have HRS := Lib.hid hrs
        have HRN := Lib.hid hrn
        clear hmi hdo hfi hrs hrn
        have hb0 : Below wr.heap.size wr wr := Below.refl _ _
        go_wp2_with fail
        have ku0 := later_cell u0
        have ku1 := later_cell u1
        have ks0 := later_cell s0
        have ks1 := later_cell s1
        have kx4 := later_cell x4
        have kx5 := later_cell x5
        have kx6 := later_cell x6
        refine wp_region_later wr (by kernel_rfl) (by kernel_rfl) (Below.refl _ _) ?_
        repeat (go_big_quiet_step (first | (go_at_call 17; with_reducible exact in_region (HMI.out _))))
        refine wpQuiet_nil ?_
        rintro ⟨W6, hB⟩
        dsimp only
        have hc := (bcell hB).1
        have hf := (bcell hB).2
        have hz := hB.size
        clear ku0 ku1 ks0 ks1 kx4 kx5 kx6
        have fu0n : W6.frozen? ⟨W3.heap.size, 0, none⟩ = false := (hf _ _ (cell_lt u0)).trans fu0
        clear fu0
        have fu0 := fu0n
        clear fu0n
        have u0n : W6.cell? ⟨W3.heap.size, 0, none⟩ = some (.int .i64 p) := (hc _ _ (cell_lt u0)).trans u0
        clear u0
        have u0 := u0n
        clear u0n
        have fu1n : W6.frozen? ⟨W3.heap.size, 1, none⟩ = false := (hf _ _ (cell_lt u1)).trans fu1
        clear fu1
        have fu1 := fu1n
        clear fu1n
        have u1n : W6.cell? ⟨W3.heap.size, 1, none⟩ = some (.int .i64 q) := (hc _ _ (cell_lt u1)).trans u1
        clear u1
        have u1 := u1n
        clear u1n
        have fs0n : W6.frozen? ⟨w.heap.size + 1, 0, none⟩ = false := (hf _ _ (cell_lt s0)).trans fs0
        clear fs0
        have fs0 := fs0n
        clear fs0n
        have s0n : W6.cell? ⟨w.heap.size + 1, 0, none⟩ = some (.int .i64 0) := (hc _ _ (cell_lt s0)).trans s0
        clear s0
        have s0 := s0n
        clear s0n
        have fs1n : W6.frozen? ⟨w.heap.size + 1, 1, none⟩ = false := (hf _ _ (cell_lt s1)).trans fs1
        clear fs1
        have fs1 := fs1n
        clear fs1n
        have s1n : W6.cell? ⟨w.heap.size + 1, 1, none⟩ = some (.int .i64 0) := (hc _ _ (cell_lt s1)).trans s1
        clear s1
        have s1 := s1n
        clear s1n
        have x4n : W6.cell? ⟨b, o + k * 6 + 3, none⟩ = some (.int .i64 xk.s) := (hc _ _ (cell_lt x4)).trans x4
        clear x4
        have x4 := x4n
        clear x4n
        have x5n : W6.cell? ⟨b, o + k * 6 + 4, none⟩ = some (.int .i64 xk.t) := (hc _ _ (cell_lt x5)).trans x5
        clear x5
        have x5 := x5n
        clear x5n
        have x6n : W6.cell? ⟨b, o + k * 6 + 5, none⟩ = some (.int .i64 xk.n) := (hc _ _ (cell_lt x6)).trans x6
        clear x6
        have x6 := x6n
        clear x6n
        have hbn : Below wr.heap.size wr W6 := bthen hb0 hB
        clear hb0
        have hb0 := hbn
        clear hbn
        have hzW6 : wr.heap.size ≤ W6.heap.size := hz
        clear hc hf hB hz
        go_wp2_with fail
        have ku0 := later_cell u0
        have ku1 := later_cell u1
        have ks0 := later_cell s0
        have ks1 := later_cell s1
        have kx4 := later_cell x4
        have kx5 := later_cell x5
        have kx6 := later_cell x6
        refine wp_region_later W6 (by kernel_rfl) (by kernel_rfl) (Below.refl _ _) ?_
        repeat (go_big_quiet_step (first | (go_at_call 19; with_reducible exact in_region (HDO.out _))))
        refine wpQuiet_nil ?_
        rintro ⟨W7, hB⟩
        dsimp only
        have hc := (bcell hB).1
        have hf := (bcell hB).2
        have hz := hB.size
        clear ku0 ku1 ks0 ks1 kx4 kx5 kx6
        have fu0n : W7.frozen? ⟨W3.heap.size, 0, none⟩ = false := (hf _ _ (cell_lt u0)).trans fu0
        clear fu0
        have fu0 := fu0n
        clear fu0n
        have u0n : W7.cell? ⟨W3.heap.size, 0, none⟩ = some (.int .i64 p) := (hc _ _ (cell_lt u0)).trans u0
        clear u0
        have u0 := u0n
        clear u0n
        have fu1n : W7.frozen? ⟨W3.heap.size, 1, none⟩ = false := (hf _ _ (cell_lt u1)).trans fu1
        clear fu1
        have fu1 := fu1n
        clear fu1n
        have u1n : W7.cell? ⟨W3.heap.size, 1, none⟩ = some (.int .i64 q) := (hc _ _ (cell_lt u1)).trans u1
        clear u1
        have u1 := u1n
        clear u1n
        have fs0n : W7.frozen? ⟨w.heap.size + 1, 0, none⟩ = false := (hf _ _ (cell_lt s0)).trans fs0
        clear fs0
        have fs0 := fs0n
        clear fs0n
        have s0n : W7.cell? ⟨w.heap.size + 1, 0, none⟩ = some (.int .i64 0) := (hc _ _ (cell_lt s0)).trans s0
        clear s0
        have s0 := s0n
        clear s0n
        have fs1n : W7.frozen? ⟨w.heap.size + 1, 1, none⟩ = false := (hf _ _ (cell_lt s1)).trans fs1
        clear fs1
        have fs1 := fs1n
        clear fs1n
        have s1n : W7.cell? ⟨w.heap.size + 1, 1, none⟩ = some (.int .i64 0) := (hc _ _ (cell_lt s1)).trans s1
        clear s1
        have s1 := s1n
        clear s1n
        have x4n : W7.cell? ⟨b, o + k * 6 + 3, none⟩ = some (.int .i64 xk.s) := (hc _ _ (cell_lt x4)).trans x4
        clear x4
        have x4 := x4n
        clear x4n
        have x5n : W7.cell? ⟨b, o + k * 6 + 4, none⟩ = some (.int .i64 xk.t) := (hc _ _ (cell_lt x5)).trans x5
        clear x5
        have x5 := x5n
        clear x5n
        have x6n : W7.cell? ⟨b, o + k * 6 + 5, none⟩ = some (.int .i64 xk.n) := (hc _ _ (cell_lt x6)).trans x6
        clear x6
        have x6 := x6n
        clear x6n
        have hbn : Below wr.heap.size wr W7 := bthen hb0 hB
        clear hb0
        have hb0 := hbn
        clear hbn
        have hzW7 : W6.heap.size ≤ W7.heap.size := hz
        clear hc hf hB hz
        clear x4 x5 x6
        cases m2
        · have hf2 : xk.fine = false := by rw [HFI.out]; rfl
          have hnn : rfold m d (ofShep shep c) = none := rfold_none HPRE.out (by rw [rfold_snoc, HP.out, HXK.out]; exact HRN.out hf2)
          have hrv : rateV m d l shep known = (0, 0, 40) := rateV_none H1.out H2.out (by rw [HCC.out]; exact hnn)
          have HRV := Lib.hid hrv
          clear hf2 hnn hrv
          go_wp2
          refine bodyPost_ret (v := rateVal (0, 0, 40)) (by simp [results, Try.results44, go_sem, s0, s1]) rfl ⟨by rw [HRV.out], ?_⟩
          have hbw := bthen HB.out hb0
          have hbz := hbw.size
          go_grown
        · cases d2
          · have hf2 : xk.fine = false := by rw [HFI.out]; rfl
            have hnn : rfold m d (ofShep shep c) = none := rfold_none HPRE.out (by rw [rfold_snoc, HP.out, HXK.out]; exact HRN.out hf2)
            have hrv : rateV m d l shep known = (0, 0, 40) := rateV_none H1.out H2.out (by rw [HCC.out]; exact hnn)
            have HRV := Lib.hid hrv
            clear hf2 hnn hrv
            go_wp2
            refine bodyPost_ret (v := rateVal (0, 0, 40)) (by simp [results, Try.results44, go_sem, s0, s1]) rfl ⟨by rw [HRV.out], ?_⟩
            have hbw := bthen HB.out hb0
            have hbz := hbw.size
            go_grown
          · have hf2 : xk.fine = true := by rw [HFI.out]; rfl
            have hnn : rfold m d (ofShep shep (c.take (k + 1))) = some (max p m1, max q d1) := by rw [HST.out, rfold_snoc, HP.out, HXK.out]; exact HRS.out hf2
            have HNN := Lib.hid hnn
            have hk2 := HK.out.trans (Kept.of_below (O := fun _ => False) hb0) (fun _ _ h => h.elim)
            have HK2 := Lib.hid hk2
            clear hf2 hnn hk2
            go_wp2
            go_roundw
            case rel => exact ⟨k + 1, _, _, by omega, by go_num, HNN.out, ⟨by go_simp, by go_simp⟩, ⟨by go_simp, by go_simp⟩, (HK2.out.setCell (p := ⟨_, 0, none⟩) (.inl rfl) _).setCell (p := ⟨_, 1, none⟩) (.inl rfl) _⟩
            case measure => simp [intOf]; omega
      · have hst := shep_no hlt hs
        have hsn : ((rc c k).s != shep) = true := by simpa using hs
        have HST := Lib.hid hst
        clear hst hpre hs
        obtain ⟨xk, hxk⟩ : ∃ x, rc c k = x := ⟨_, rfl⟩
        rw [hxk] at x4 x5 x6 hsn
        clear hxk
        go_wp2
        go_roundw
        case rel => exact ⟨k + 1, p, q, by omega, by go_num, by rw [HST.out]; exact HP.out, ⟨u0, fu0⟩, ⟨u1, fu1⟩, HK.out⟩
        case measure => simp [intOf]; omega
    · obtain rfl : k = c.length := by omega
      have hp := HP.out
      rw [List.take_length] at hp
      have hrv : rateV m d l shep known = (p, q, 0) := rateV_some H1.out H2.out (by rw [HCC.out]; exact hp)
      have HRV := Lib.hid hrv
      clear hp hrv
      go_wp2
      refine bodyPost_ret (v := rateVal (p, q, 0)) (by simp [results, Try.results44, go_sem, s0, s1]) rfl ⟨by rw [HRV.out], ?_⟩
      have hbw := HB.out
      have hbz := hbw.size
      go_grown

theorem c_rRateOf (m d : Int) (l : List Rc) (a : Option Addr) (cap : Nat) (shep known : Int) (w : World) (hl : Recs w a l) :
    Calls Try.prog 44 #[.agg #[.int .i64 m, .int .i64 d], .slice a l.length cap, .int .i64 shep, .int .i64 known] w fun e w' => e = .returned (rateVal (rateV m d l shep known)) ∧ Below w.heap.size w w' := by
  by_cases h1 : rateB m d = true
  · by_cases h2 : (crec l).2 = 0
    · exact c_rRateOf_loop m d l a cap shep known w hl h1 h2
    · exact c_rRateOf_err m d l a cap shep known w hl h1 h2
  · exact c_rRateOf_bad m d l a cap shep known w hl (by simpa using h1)
end Go.Proofs.Ytokpjaodchcheaa
