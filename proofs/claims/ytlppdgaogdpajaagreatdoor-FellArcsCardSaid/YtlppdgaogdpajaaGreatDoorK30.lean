/- This text is a part of the proof: NetOf. -/
import Derived.Test.YtlppdgaogdpajaaGreatDoorK17
set_option maxRecDepth 100000
set_option maxHeartbeats 40000000
namespace Go.Proofs.YtlppdgaogdpajaaGreatDoor
open Go.RowKit Go.Shelf
attribute [local go_sem] Oper.semAt_some
theorem c_NetOf_no (m : Fm) (l : List Rp) (a : Option Addr) (cap : Nat) (known owner : Int) (sort : ByteArray) (w : World) (hm : m.In w) (hl : Rps w a l) (hok : ∀ y ∈ l, RpOk y) (hcap : l.length ≤ cap) (h : (countV m.f l known).2 ≠ 0) :
  Calls Tryz.prog 37 #[m.v, .slice a l.length cap, .int .i64 known, .int .i64 owner, .string sort] w (GivesNt (⟨0, []⟩, (countV m.f l known).2) w) := by
 have hC := fun W (hb : Below w.heap.size w W) => (c_Counting m l a cap known W (hm.later hb) (hl.later hb) hok hcap).mono fun e w' (h : GivesR _ W e w') => (show ∃ v, e = .returned (.tuple #[v, .int .i64 (countV m.f l known).2]) ∧ Below W.heap.size W w' from by obtain ⟨v, h1, _, h3⟩ := h; exact ⟨v, h1, h3⟩)
 generalize (countV m.f l known).2 = E at *
 have he : (E != 0) = true := bne_iff_ne.2 h
 have HC := Lib.hid hC
 clear hC h hm hl hok hcap
 go_enter Tryz.func37, Tryz.ntmps37
 go_upto_region 1 with (fail)
 go_name_world W1 hW1
 have hzW1 : W1.heap.size = w.heap.size + 2 := by subst hW1; simp
 have hb0 : Below w.heap.size w W1 := by subst hW1; go_grown
 obtain ⟨q0, q1, q2, q3⟩ := (show QB m W1 w.heap.size from by subst hW1; and_intros <;> go_simp)
 have r0 : W1.cell? ⟨w.heap.size + 1, 0, none⟩ = some (.int .i64 0) := by subst hW1; go_simp
 have fr0 : W1.frozen? ⟨w.heap.size + 1, 0, none⟩ = false := by subst hW1; go_simp
 have r1 : W1.cell? ⟨w.heap.size + 1, 1, none⟩ = some (.slice none 0 0) := by subst hW1; go_simp
 have fr1 : W1.frozen? ⟨w.heap.size + 1, 1, none⟩ = false := by subst hW1; go_simp
 clear hW1 
 go_wp2_with fail
 refine (HC.out _ hb0).mono ?_
 rintro e W2 ⟨v, rfl, hB⟩
 have zz := cl4 hB q0 q1 q2 q3
 clear q0 q1 q2 q3
 obtain ⟨q0, q1, q2, q3⟩ := zz
 have fr0n := ((bcell hB).2 _ _ (cell_lt r0)).trans fr0
 have r0n := ((bcell hB).1 _ _ (cell_lt r0)).trans r0
 clear r0 fr0
 have r0 := r0n
 have fr0 := fr0n
 clear r0n fr0n
 have fr1n := ((bcell hB).2 _ _ (cell_lt r1)).trans fr1
 have r1n := ((bcell hB).1 _ _ (cell_lt r1)).trans r1
 clear r1 fr1
 have r1 := r1n
 have fr1 := fr1n
 clear r1n fr1n
 have hbn := bthen hb0 hB
 clear hb0 hB
 have hb0 := hbn
 clear hbn
 have zr := cell_lt r0
 go_wp2_with fail
 obtain ⟨C, hC⟩ : ∃ C, ((W2.setCell ⟨w.heap.size + 1, 0, none⟩ (.int .i64 0)).setCell ⟨w.heap.size + 1, 1, none⟩ (.slice none 0 0)) = C := ⟨_, rfl⟩
 have d0 : C.cell? ⟨w.heap.size + 1, 0, none⟩ = some (.int .i64 0) := by subst hC; go_simp
 have d1 : C.cell? ⟨w.heap.size + 1, 1, none⟩ = some (.slice none 0 0) := by subst hC; go_simp
 have hk : Kept (fun k => k = w.heap.size + 1) W2 C := by subst hC; exact Kept.setCell (p := ⟨w.heap.size + 1, 1, none⟩) (Kept.setCell (p := ⟨w.heap.size + 1, 0, none⟩) (Kept.refl (fun k => k = w.heap.size + 1) W2) (.inl rfl) _) (.inl rfl) _
 have hb : Below w.heap.size w C := ((Kept.of_below (O := fun k => w.heap.size ≤ k) hb0).trans hk (fun j _ e => by omega)).below (Nat.le_refl _) (fun _ h => h)
 rw [hC]
 refine bodyPost_ret (v := .tuple #[.agg #[.int .i64 0, .slice none 0 0], .int .i64 E]) (by simp [results, Tryz.results37, go_sem, d0, d1]) rfl ⟨_, rfl, ownA_nil _ _, hb⟩
theorem c_NetOf_own (m : Fm) (l : List Rp) (a : Option Addr) (cap : Nat) (known owner : Int) (sort : ByteArray) (w : World) (hm : m.In w) (hl : Rps w a l) (hok : ∀ y ∈ l, RpOk y) (hcap : l.length ≤ cap) (h : (countV m.f l known).2 = 0) (h1 : rg 1 40 owner = false) :
  Calls Tryz.prog 37 #[m.v, .slice a l.length cap, .int .i64 known, .int .i64 owner, .string sort] w (GivesNt (⟨0, []⟩, 1) w) := by
 have hC := fun W (hb : Below w.heap.size w W) => (c_Counting m l a cap known W (hm.later hb) (hl.later hb) hok hcap).mono fun e w' (h : GivesR _ W e w') => (show ∃ v, e = .returned (.tuple #[v, .int .i64 (countV m.f l known).2]) ∧ Below W.heap.size W w' from by obtain ⟨v, h1, _, h3⟩ := h; exact ⟨v, h1, h3⟩)
 rw [h] at hC
 have HI := Lib.hid (fun W => c_in_b h1 W)
 have HC := Lib.hid hC
 clear hC h hm hl hok hcap h1
 go_enter Tryz.func37, Tryz.ntmps37
 go_upto_region 1 with (fail)
 go_name_world W1 hW1
 have hzW1 : W1.heap.size = w.heap.size + 2 := by subst hW1; simp
 have hb0 : Below w.heap.size w W1 := by subst hW1; go_grown
 obtain ⟨q0, q1, q2, q3⟩ := (show QB m W1 w.heap.size from by subst hW1; and_intros <;> go_simp)
 have r0 : W1.cell? ⟨w.heap.size + 1, 0, none⟩ = some (.int .i64 0) := by subst hW1; go_simp
 have fr0 : W1.frozen? ⟨w.heap.size + 1, 0, none⟩ = false := by subst hW1; go_simp
 have r1 : W1.cell? ⟨w.heap.size + 1, 1, none⟩ = some (.slice none 0 0) := by subst hW1; go_simp
 have fr1 : W1.frozen? ⟨w.heap.size + 1, 1, none⟩ = false := by subst hW1; go_simp
 clear hW1 
 go_wp2_with fail
 refine (HC.out _ hb0).mono ?_
 rintro e W2 ⟨v, rfl, hB⟩
 have zz := cl4 hB q0 q1 q2 q3
 clear q0 q1 q2 q3
 obtain ⟨q0, q1, q2, q3⟩ := zz
 have fr0n := ((bcell hB).2 _ _ (cell_lt r0)).trans fr0
 have r0n := ((bcell hB).1 _ _ (cell_lt r0)).trans r0
 clear r0 fr0
 have r0 := r0n
 have fr0 := fr0n
 clear r0n fr0n
 have fr1n := ((bcell hB).2 _ _ (cell_lt r1)).trans fr1
 have r1n := ((bcell hB).1 _ _ (cell_lt r1)).trans r1
 clear r1 fr1
 have r1 := r1n
 have fr1 := fr1n
 clear r1n fr1n
 have hbn := bthen hb0 hB
 clear hb0 hB
 have hb0 := hbn
 clear hbn
 have zr := cell_lt r0
 go_wp2_with fail
 refine (HI.out _).mono ?_
 rintro e W3 ⟨rfl, rfl⟩
 go_wp2_with fail
 obtain ⟨C, hC⟩ : ∃ C, ((W2.setCell ⟨w.heap.size + 1, 0, none⟩ (.int .i64 0)).setCell ⟨w.heap.size + 1, 1, none⟩ (.slice none 0 0)) = C := ⟨_, rfl⟩
 have d0 : C.cell? ⟨w.heap.size + 1, 0, none⟩ = some (.int .i64 0) := by subst hC; go_simp
 have d1 : C.cell? ⟨w.heap.size + 1, 1, none⟩ = some (.slice none 0 0) := by subst hC; go_simp
 have hk : Kept (fun k => k = w.heap.size + 1) W2 C := by subst hC; exact Kept.setCell (p := ⟨w.heap.size + 1, 1, none⟩) (Kept.setCell (p := ⟨w.heap.size + 1, 0, none⟩) (Kept.refl (fun k => k = w.heap.size + 1) W2) (.inl rfl) _) (.inl rfl) _
 have hb : Below w.heap.size w C := ((Kept.of_below (O := fun k => w.heap.size ≤ k) hb0).trans hk (fun j _ e => by omega)).below (Nat.le_refl _) (fun _ h => h)
 rw [hC]
 refine bodyPost_ret (v := .tuple #[.agg #[.int .i64 0, .slice none 0 0], .int .i64 1]) (by simp [results, Tryz.results37, go_sem, d0, d1]) rfl ⟨_, rfl, ownA_nil _ _, hb⟩
theorem c_NetOf_name (m : Fm) (l : List Rp) (a : Option Addr) (cap : Nat) (known owner : Int) (sort : ByteArray) (w : World) (hm : m.In w) (hl : Rps w a l) (hok : ∀ y ∈ l, RpOk y) (hcap : l.length ≤ cap) (h : (countV m.f l known).2 = 0) (h1 : rg 1 40 owner = true) (h2 : nameB sort = false) :
  Calls Tryz.prog 37 #[m.v, .slice a l.length cap, .int .i64 known, .int .i64 owner, .string sort] w (GivesNt (⟨0, []⟩, 1) w) := by
 have hC := fun W (hb : Below w.heap.size w W) => (c_Counting m l a cap known W (hm.later hb) (hl.later hb) hok hcap).mono fun e w' (h : GivesR _ W e w') => (show ∃ v, e = .returned (.tuple #[v, .int .i64 (countV m.f l known).2]) ∧ Below W.heap.size W w' from by obtain ⟨v, h1, _, h3⟩ := h; exact ⟨v, h1, h3⟩)
 rw [h] at hC
 have HI := Lib.hid (fun W => c_in_b h1 W)
 have HS := Lib.hid (fun W => c_isName_b h2 W)
 have HC := Lib.hid hC
 clear hC h hm hl hok hcap h1 h2
 go_enter Tryz.func37, Tryz.ntmps37
 go_upto_region 1 with (fail)
 go_name_world W1 hW1
 have hzW1 : W1.heap.size = w.heap.size + 2 := by subst hW1; simp
 have hb0 : Below w.heap.size w W1 := by subst hW1; go_grown
 obtain ⟨q0, q1, q2, q3⟩ := (show QB m W1 w.heap.size from by subst hW1; and_intros <;> go_simp)
 have r0 : W1.cell? ⟨w.heap.size + 1, 0, none⟩ = some (.int .i64 0) := by subst hW1; go_simp
 have fr0 : W1.frozen? ⟨w.heap.size + 1, 0, none⟩ = false := by subst hW1; go_simp
 have r1 : W1.cell? ⟨w.heap.size + 1, 1, none⟩ = some (.slice none 0 0) := by subst hW1; go_simp
 have fr1 : W1.frozen? ⟨w.heap.size + 1, 1, none⟩ = false := by subst hW1; go_simp
 clear hW1 
 go_wp2_with fail
 refine (HC.out _ hb0).mono ?_
 rintro e W2 ⟨v, rfl, hB⟩
 have zz := cl4 hB q0 q1 q2 q3
 clear q0 q1 q2 q3
 obtain ⟨q0, q1, q2, q3⟩ := zz
 have fr0n := ((bcell hB).2 _ _ (cell_lt r0)).trans fr0
 have r0n := ((bcell hB).1 _ _ (cell_lt r0)).trans r0
 clear r0 fr0
 have r0 := r0n
 have fr0 := fr0n
 clear r0n fr0n
 have fr1n := ((bcell hB).2 _ _ (cell_lt r1)).trans fr1
 have r1n := ((bcell hB).1 _ _ (cell_lt r1)).trans r1
 clear r1 fr1
 have r1 := r1n
 have fr1 := fr1n
 clear r1n fr1n
 have hbn := bthen hb0 hB
 clear hb0 hB
 have hb0 := hbn
 clear hbn
 have zr := cell_lt r0
 go_wp2_with fail
 refine (HI.out _).mono ?_
 rintro e W3 ⟨rfl, rfl⟩
 go_wp2_with fail
 refine (via (w0 := W2) (by go_grown) (HS.out _)).mono ?_
 rintro e W3 ⟨rfl, hc, hf, hz, hB⟩
 have zz := cy4 hc q0 q1 q2 q3
 clear q0 q1 q2 q3
 obtain ⟨q0, q1, q2, q3⟩ := zz
 replace fr0 := (hf _ _ (cell_lt r0)).trans fr0
 replace r0 := (hc _ _ (cell_lt r0)).trans r0
 replace fr1 := (hf _ _ (cell_lt r1)).trans fr1
 replace r1 := (hc _ _ (cell_lt r1)).trans r1
 replace hb0 : Below w.heap.size w W3 := bthen hb0 hB
 have hzW3 : W2.heap.size ≤ W3.heap.size := hz
 clear hc hf hB hz
 go_wp2_with fail
 obtain ⟨C, hC⟩ : ∃ C, ((W3.setCell ⟨w.heap.size + 1, 0, none⟩ (.int .i64 0)).setCell ⟨w.heap.size + 1, 1, none⟩ (.slice none 0 0)) = C := ⟨_, rfl⟩
 have d0 : C.cell? ⟨w.heap.size + 1, 0, none⟩ = some (.int .i64 0) := by subst hC; go_simp
 have d1 : C.cell? ⟨w.heap.size + 1, 1, none⟩ = some (.slice none 0 0) := by subst hC; go_simp
 have hk : Kept (fun k => k = w.heap.size + 1) W3 C := by subst hC; exact Kept.setCell (p := ⟨w.heap.size + 1, 1, none⟩) (Kept.setCell (p := ⟨w.heap.size + 1, 0, none⟩) (Kept.refl (fun k => k = w.heap.size + 1) W3) (.inl rfl) _) (.inl rfl) _
 have hb : Below w.heap.size w C := ((Kept.of_below (O := fun k => w.heap.size ≤ k) hb0).trans hk (fun j _ e => by omega)).below (Nat.le_refl _) (fun _ h => h)
 rw [hC]
 refine bodyPost_ret (v := .tuple #[.agg #[.int .i64 0, .slice none 0 0], .int .i64 1]) (by simp [results, Tryz.results37, go_sem, d0, d1]) rfl ⟨_, rfl, ownA_nil _ _, hb⟩
theorem c_NetOf_ok (m : Fm) (l : List Rp) (a : Option Addr) (cap : Nat) (known owner : Int) (sort : ByteArray) (w : World) (hm : m.In w) (hl : Rps w a l) (hok : ∀ y ∈ l, RpOk y) (hcap : l.length ≤ cap) (h : (countV m.f l known).2 = 0) (h1 : rg 1 40 owner = true) (h2 : nameB sort = true) :
  Calls Tryz.prog 37 #[m.v, .slice a l.length cap, .int .i64 known, .int .i64 owner, .string sort] w (GivesNt (⟨nodeN m.f 0 (m.f.ticks + 1), (countL l known).foldl (netStep m.f owner sort) (natureV m.f).arcs⟩, 0) w) := by
 have HI := Lib.hid (fun W => c_in_b h1 W)
 have HS := Lib.hid (fun W => c_isName_b h2 W)
 have hcv : countV m.f l known = (countL l known, 0) := by
  unfold countV at h ⊢
  by_cases h2 : (checkV m.f l).2 = 0
  ·rw [if_neg (by omega)]
  ·rw [if_pos h2] at h; exact (h2 h).elim
 have hck := (countV_2' m.f l known).symm.trans h
 have hlg := check_ok hck
 have hcf : checkE m.f = 0 := check_fell hck
 have hr := right_of hcf
 have hfew : (countL l known).length ≤ 300 := Nat.le_trans (List.length_filter_le _ _) hlg.few
 have hjd : ∀ y ∈ countL l known, RpOk y ∧ JOk m.f y ∧ ¬ y.kind = 8 := fun y hy => by
  have hf := List.mem_filter.1 hy
  refine ⟨hok y hf.1, hlg.judged y hf.1, ?_⟩
  have h8 := hf.2
  unfold countsB at h8
  simp only [Bool.and_eq_true, bne_iff_ne, ne_eq] at h8
  exact h8.1.1
 have hC := fun W (hb : Below w.heap.size w W) => (c_Counting m l a cap known W (hm.later hb) (hl.later hb) hok hcap).mono fun e w' (h : GivesR _ W e w') => (show ∃ b c, e = .returned (.tuple #[.slice b (countL l known).length c, .int .i64 0]) ∧ Rps w' b (countL l known) ∧ Below W.heap.size W w' from by
  rw [hcv] at h
  obtain ⟨v, h1, h2, h3⟩ := h
  obtain ⟨b, c, rfl, _, _, hn, _⟩ := Lst.own rpC_len h2
  exact ⟨b, c, h1, hn (by show (countL l known).length ≤ _; omega), h3⟩)
 have hN := fun W (hb : Below w.heap.size w W) => c_nature m W (hm.later hb) hcf
 generalize countL l known = L at *
 have HN := Lib.hid hN
 have HJ := Lib.hid hjd
 have HR := Lib.hid hr
 clear hN hjd hr hcv hlg hck hcf
 have HC := Lib.hid hC
 clear hC h hm hl hok hcap h1 h2
 go_enter Tryz.func37, Tryz.ntmps37
 go_upto_region 1 with (fail)
 go_name_world W1 hW1
 have hzW1 : W1.heap.size = w.heap.size + 2 := by subst hW1; simp
 have hb0 : Below w.heap.size w W1 := by subst hW1; go_grown
 obtain ⟨q0, q1, q2, q3⟩ := (show QB m W1 w.heap.size from by subst hW1; and_intros <;> go_simp)
 have r0 : W1.cell? ⟨w.heap.size + 1, 0, none⟩ = some (.int .i64 0) := by subst hW1; go_simp
 have fr0 : W1.frozen? ⟨w.heap.size + 1, 0, none⟩ = false := by subst hW1; go_simp
 have r1 : W1.cell? ⟨w.heap.size + 1, 1, none⟩ = some (.slice none 0 0) := by subst hW1; go_simp
 have fr1 : W1.frozen? ⟨w.heap.size + 1, 1, none⟩ = false := by subst hW1; go_simp
 clear hW1 
 go_wp2_with fail
 refine (HC.out _ hb0).mono ?_
 rintro e W2 ⟨bl, cl, rfl, hrp, hB⟩
 have HRP := Lib.hid hrp
 have hz2 := hB.size
 have zz := cl4 hB q0 q1 q2 q3
 clear q0 q1 q2 q3
 obtain ⟨q0, q1, q2, q3⟩ := zz
 have fr0n := ((bcell hB).2 _ _ (cell_lt r0)).trans fr0
 have r0n := ((bcell hB).1 _ _ (cell_lt r0)).trans r0
 clear r0 fr0
 have r0 := r0n
 have fr0 := fr0n
 clear r0n fr0n
 have fr1n := ((bcell hB).2 _ _ (cell_lt r1)).trans fr1
 have r1n := ((bcell hB).1 _ _ (cell_lt r1)).trans r1
 clear r1 fr1
 have r1 := r1n
 have fr1 := fr1n
 clear r1n fr1n
 have hbn := bthen hb0 hB
 clear hb0 hB hrp
 have hb0 := hbn
 clear hbn
 have zr := cell_lt r0
 go_wp2_with fail
 refine (HI.out _).mono ?_
 rintro e W3 ⟨rfl, rfl⟩
 go_wp2_with fail
 refine (HS.out _).mono ?_
 rintro e W3 ⟨rfl, hB⟩
 have zz := cl4 hB q0 q1 q2 q3
 clear q0 q1 q2 q3
 obtain ⟨q0, q1, q2, q3⟩ := zz
 have fr0n := ((bcell hB).2 _ _ (cell_lt r0)).trans fr0
 have r0n := ((bcell hB).1 _ _ (cell_lt r0)).trans r0
 clear r0 fr0
 have r0 := r0n
 have fr0 := fr0n
 clear r0n fr0n
 have fr1n := ((bcell hB).2 _ _ (cell_lt r1)).trans fr1
 have r1n := ((bcell hB).1 _ _ (cell_lt r1)).trans r1
 clear r1 fr1
 have r1 := r1n
 have fr1 := fr1n
 clear r1n fr1n
 have hz3 := hB.size
 have HRP3 := Lib.hid (HRP.out.later hB)
 have hbn := bthen hb0 hB
 clear hb0 hB HRP
 have hb0 := hbn
 clear hbn
 go_wp2_with fail
 refine (HN.out _ hb0).mono ?_
 rintro e W4 ⟨v, rfl, ho, hB⟩
 have hcnt := ways_count HR.out.small
 have hal : (natureV m.f).arcs.length = (waysL m.f).length := by rw [ways_ars, List.length_map]
 obtain ⟨n, hn⟩ : ∃ n, (natureV m.f).arcs.length = n := ⟨_, rfl⟩
 have hn0 : 0 < n := by
  have h1 := HR.out.p0
  have h2 := (idx_small HR.out.small (p := 0) (t := 0) (by omega) (by have := HR.out.t1; omega))
  omega
 obtain ⟨g, gc, rfl⟩ : ∃ g gc, v = .slice (some ⟨g, 0, none⟩) n gc := by
  rcases ho.2 with ⟨_, h0⟩ | ⟨g, gc, cur, rfl, _⟩
  ·omega
  ·exact ⟨g, gc, by rw [hn]⟩
 have ho2 : W4.ownsRow W3.heap.size 56 6 (.slice (some ⟨g, 0, none⟩) n gc) n (cellsL arC (natureV m.f).arcs) := by
  have h9 := ho
  unfold OwnA at h9
  rw [hn] at h9
  exact h9
 have hg := ho2.lt g rfl
 have HO := Lib.hid ho2
 have HCNT := Lib.hid (show (n : Int) = countN m.f from by omega)
 have hNn : (natureV m.f).n = nodeN m.f 0 (m.f.ticks + 1) := rfl
 rw [hNn]
 obtain ⟨NN, hNN⟩ : ∃ NN, nodeN m.f 0 (m.f.ticks + 1) = NN := ⟨_, rfl⟩
 rw [hNN]
 have HNN := Lib.hid hNN
 have HNL := Lib.hid hn
 have zz := cl4 hB q0 q1 q2 q3
 clear q0 q1 q2 q3
 obtain ⟨q0, q1, q2, q3⟩ := zz
 have fr0n := ((bcell hB).2 _ _ (cell_lt r0)).trans fr0
 have r0n := ((bcell hB).1 _ _ (cell_lt r0)).trans r0
 clear r0 fr0
 have r0 := r0n
 have fr0 := fr0n
 clear r0n fr0n
 have fr1n := ((bcell hB).2 _ _ (cell_lt r1)).trans fr1
 have r1n := ((bcell hB).1 _ _ (cell_lt r1)).trans r1
 clear r1 fr1
 have r1 := r1n
 have fr1 := fr1n
 clear r1n fr1n
 have hz4 := hB.size
 have HRP4 := Lib.hid (HRP3.out.later hB)
 have hbn := bthen hb0 hB
 clear hb0 hB ho ho2 hNN hn hal hcnt hNn
 have hb0 := hbn
 clear hbn
 go_upto_region 7 with (fail)
 go_name_world W5 hW5
 have hb5 : Below W4.heap.size W4 W5 := by subst hW5; go_grown
 have hz5 : W5.heap.size = W4.heap.size + 1 := by subst hW5; simp
 have n0 : W5.cell? ⟨W4.heap.size, 0, none⟩ = some (.int .i64 NN) := by subst hW5; go_simp
 have n1 : W5.cell? ⟨W4.heap.size, 1, none⟩ = some (.slice (some ⟨g, 0, none⟩) n gc) := by subst hW5; go_simp
 clear hW5
 have zz := cl4 hb5 q0 q1 q2 q3
 clear q0 q1 q2 q3
 obtain ⟨q0, q1, q2, q3⟩ := zz
 have fr0n := ((bcell hb5).2 _ _ (cell_lt r0)).trans fr0
 have r0n := ((bcell hb5).1 _ _ (cell_lt r0)).trans r0
 clear r0 fr0
 have r0 := r0n
 have fr0 := fr0n
 clear r0n fr0n
 have fr1n := ((bcell hb5).2 _ _ (cell_lt r1)).trans fr1
 have r1n := ((bcell hb5).1 _ _ (cell_lt r1)).trans r1
 clear r1 fr1
 have r1 := r1n
 have fr1 := fr1n
 clear r1n fr1n
 have HO5 := Lib.hid (own_below HO.out hb5)
 have HRP5 := Lib.hid (HRP4.out.later hb5)
 have hbn := bthen hb0 hb5
 clear hb0 hb5 HO HRP4
 have hb0 := hbn
 clear hbn
 have HB := Lib.hid hb0
 have hzw := hb0.size
 clear hb0
 have hzq := cell_lt q0
 have hzr := cell_lt r0
 go_wp2
 go_loopw [42] (fun v42 wr => ∃ k : Nat, k ≤ L.length ∧ v42 = .int .i64 k ∧ wr.ownsRow W3.heap.size 56 6 (.slice (some ⟨g, 0, none⟩) n gc) n (cellsL arC ((L.take k).foldl (netStep m.f owner sort) (natureV m.f).arcs)) ∧ Kept (fun q => q = g) W5 wr) (fun v42 _ => L.length - (intOf v42).toNat)
 case atStart => exact ⟨0, by omega, rfl, HO5.out, Kept.refl _ _⟩
 case round =>
  obtain ⟨k, hk, rfl, hrow, hK⟩ := hrel
  have HROW := Lib.hid hrow
  have hzk := hK.size
  have HK := Lib.hid hK
  clear hrow hK HO5
  by_cases hlt : k < L.length
  ·obtain ⟨x, hx⟩ := some_at hlt
   obtain ⟨b, o, rfl, hat⟩ := HRP3.out.at hx
   have hzb := cell_lt (rp_cells hat).1
   obtain ⟨b', o', e, hat⟩ := HRP5.out.at hx
   cases e
   have hat := hat.kept HK.out (by omega)
   obtain ⟨y0, y1, y2, y3, y4, y5, y6, y7, y8, y9⟩ := rp_cells hat
   have zb := cell_lt y0
   have hidx : ¬ ((k : Int) < 0) := by omega
   have hidx2 : (k : Int) < (L.length : Int) := by omega
   obtain ⟨hkd, hjok, h8⟩ := HJ.out x (some_mem hx)
   have hk0 := hkd.k0
   have hk1 := hkd.k1
   have HX := Lib.hid hx
   have HJO := Lib.hid hjok
   clear hat hx hkd hjok
   have skip : netStep m.f owner sort ((L.take k).foldl (netStep m.f owner sort) (natureV m.f).arcs) x = ((L.take k).foldl (netStep m.f owner sort) (natureV m.f).arcs) → Hid (((L.take (k + 1)).foldl (netStep m.f owner sort) (natureV m.f).arcs) = ((L.take k).foldl (netStep m.f owner sort) (natureV m.f).arcs)) := fun h => by
    have := net_step (f := m.f) owner sort HX.out (natureV m.f).arcs
    rw [h] at this
    exact this
   by_cases ho : x.owner = owner
   ·have he : (x.owner != owner) = false := by simp [ho]
    by_cases hs : x.sort = sort
    ·have hse : (x.sort.toList == sort.toList) = true := by simp [hs]
     have hgo := Lib.hid (And.intro ho hs)
     clear skip hs ho
 
     obtain ⟨F, eg, hix, hcall⟩ := arc_fn m x HR.out.small HJO.out h8
     obtain ⟨i0, i1⟩ := idx_lt HR.out.small HJO.out h8
     obtain ⟨j, hj⟩ : ∃ j : Nat, idxN m.f x.kind x.plc x.tick = (j : Int) := ⟨_, (Int.toNat_of_nonneg i0).symm⟩
     have hjn : j < n := by have := HCNT.out; omega
     obtain ⟨A1, hA⟩ : ∃ A1, (L.take k).foldl (netStep m.f owner sort) (natureV m.f).arcs = A1 := ⟨_, rfl⟩
     have hAl : A1.length = n := by rw [← hA, net_len]; exact HNL.out
     obtain ⟨y, hy⟩ := some_at (show j < A1.length by omega)
     have hstep : (L.take (k + 1)).foldl (netStep m.f owner sort) (natureV m.f).arcs = A1.set j (narrow y x) := by
      rw [net_step owner sort HX.out, hA]
      unfold netStep
      rw [if_pos hgo.out, hj, Int.toNat_natCast]
      exact modify_set hy _
     rw [hj] at hcall
     have hix2 : ∀ W, (Instr.index 141 (.agg #[.nilFunc, .func (.func 145) #[] #[], .func (.func 184) #[] #[], .func (.func 184) #[] #[], .func (.func 185) #[] #[], .func (.func 185) #[] #[], .func (.func 185) #[] #[], .func (.func 185) #[] #[]]) (.int .u8 x.kind)).run Tryz.prog W = .ok (.func (.func F) #[] #[]) W := hix
     have HF := Lib.hid hcall
     have HST := Lib.hid hstep
     have hrw := HROW.out
     rw [hA] at hrw
     have HROWA := Lib.hid hrw
     have e0 := HK.out.cell (by omega) q0
     have e1 := HK.out.cell (by omega) q1
     have e2 := HK.out.cell (by omega) q2
     have e3 := HK.out.cell (by omega) q3
     have e4 := HK.out.cell (by omega) n1
     have hj0 : ¬ (j : Int) < 0 := by omega
     have hj1 : (j : Int) < (n : Int) := by omega
     clear hix hcall hstep hrw HROW hA i0 i1 hj
     go_upto_region 11 with (fail)
     go_name_world W6 hW6
     have hb6 : Below wr.heap.size wr W6 := by subst hW6; go_grown
     have hz6 : W6.heap.size = wr.heap.size + 1 := by subst hW6; simp
     
     obtain ⟨x0, x1, x2, x3, x4, x5, x6, x7, x8, x9⟩ := (show RC x W6 wr.heap.size from by subst hW6; and_intros <;> go_simp)
     have e0n := ((bcell hb6).1 _ _ (cell_lt e0)).trans e0
     have e1n := ((bcell hb6).1 _ _ (cell_lt e1)).trans e1
     have e2n := ((bcell hb6).1 _ _ (cell_lt e2)).trans e2
     have e3n := ((bcell hb6).1 _ _ (cell_lt e3)).trans e3
     have e4n := ((bcell hb6).1 _ _ (cell_lt e4)).trans e4
     clear e0 e1 e2 e3 e4
     have e0 := e0n
     clear e0n
     have e1 := e1n
     clear e1n
     have e2 := e2n
     clear e2n
     have e3 := e3n
     clear e3n
     have e4 := e4n
     clear e4n
     have ROW := Lib.hid (own_below HROWA.out hb6)
     have KK := Lib.hid (HK.out.trans (Kept.of_below (O := fun _ => False) hb6) (fun _ _ h => h.elim))
     clear hW6 hb6 HROWA y0 y1 y2 y3 y4 y5 y6 y7 y8 y9 he hse
     refine wp_region_later W6 (by kernel_rfl) (by kernel_rfl) (Below.refl _ _) ?_
     have k0 := later_cell x0
     have k1 := later_cell x1
     have k2 := later_cell x2
     have k3 := later_cell x3
     have k4 := later_cell x4
     have k5 := later_cell x5
     have k6 := later_cell x6
     have k7 := later_cell x7
     have k8 := later_cell x8
     have k9 := later_cell x9
     have j0 := later_cell e0
     have j1 := later_cell e1
     have j2 := later_cell e2
     have j3 := later_cell e3
     have j4 := later_cell e4
     repeat (go_big_quiet_step (first | (go_at_call 125; with_reducible exact in_region (c_arcOf _)) | (with_reducible exact in_region (HF.out _))))
     refine wpQuiet_nil ?_
     rintro ⟨W8, hB⟩
     dsimp only
     have xi := ((bcell hB).1 _ _ (cell_lt x0)).trans x0
     have xl := ((bcell hB).1 _ _ (cell_lt x7)).trans x7
     have xh := ((bcell hB).1 _ _ (cell_lt x8)).trans x8
     have ROWn := Lib.hid (own_below ROW.out hB)
     have KKn := Lib.hid (KK.out.trans (Kept.of_below (O := fun _ => False) hB) (fun _ _ h => h.elim))
     clear hB ROW KK x0 x1 x2 x3 x4 x5 x6 x7 x8 x9 e0 e1 e2 e3 e4 k0 k1 k2 k3 k4 k5 k6 k7 k8 k9 j0 j1 j2 j3 j4
     have ROW := ROWn
     have KK := KKn
     clear ROWn KKn
     go_upto_region 12 with (fail)
     obtain ⟨hz, hfz⟩ := own_arc ROW.out hy
     have z2 : W8.cell? ⟨g, j * 6 + 2, none⟩ = some (.int .i64 y.low) := hz 2 _ rfl
     have k1 := later_cell xl
     have k2 := later_cell z2
     clear hz hfz
     refine wp_region_later W8 (by kernel_rfl) (by kernel_rfl) (Below.refl _ _) ?_
     repeat (go_big_quiet_step (fail))
     refine wpQuiet_nil ?_
     rintro ⟨W9, hB⟩
     dsimp only
     clear k1 k2 z2
     have xin := ((bcell hB).1 _ _ (cell_lt xi)).trans xi
     have xln := ((bcell hB).1 _ _ (cell_lt xl)).trans xl
     have xhn := ((bcell hB).1 _ _ (cell_lt xh)).trans xh
     clear xi xl xh
     have xi := xin
     clear xin
     have xl := xln
     clear xln
     have xh := xhn
     clear xhn
     have ROWn := Lib.hid (own_below ROW.out hB)
     have KKn := Lib.hid (KK.out.trans (Kept.of_below (O := fun _ => False) hB) (fun _ _ h => h.elim))
     clear hB ROW KK
     have ROW := ROWn
     have KK := KKn
     clear ROWn KKn
     by_cases hlow : y.low < x.low
     ·have hd : decide (x.low > y.low) = true := decide_eq_true hlow
      go_upto_region 13 with (fail)
      have hlg := (ROW.out.lt g rfl).2
      have hxg : ¬ wr.heap.size = g := by omega
      refine wp_region_turner 8 W9 (fun V => V.cell? ⟨wr.heap.size, 7, none⟩ = some (.int .i64 x.low) ∧ V.cell? ⟨wr.heap.size, 0, none⟩ = some (.int .i64 x.id)) (fun u V => u = undef ∧ Below (W9.setCell ⟨g, j * 6 + 2, none⟩ (.int .i64 x.low)).heap.size (W9.setCell ⟨g, j * 6 + 2, none⟩ (.int .i64 x.low)) V) (by kernel_rfl) (by kernel_rfl) (by kernel_rfl) (by rfl) (by rfl) (Below.refl _ _) ⟨xl, xi⟩ ?hDG (fun u V V' h hb => ⟨h.1, bthen h.2 hb⟩) (e := ?e20) ?hq ?hmk ?ht
      case hDG =>
       rintro u V ⟨_, hb⟩
       have hs : (W9.setCell ⟨g, j * 6 + 2, none⟩ (.int .i64 x.low)).heap[wr.heap.size]? = W9.heap[wr.heap.size]? := Below.heap_setCell W9 ⟨g, j * 6 + 2, none⟩ _ _ (fun e => hxg e)
       have e1 := (cell_same hs).trans xl
       have e2 := (cell_same hs).trans xi
       exact ⟨((bcell hb).1 _ _ (cell_lt e1)).trans e1, ((bcell hb).1 _ _ (cell_lt e2)).trans e2⟩
      case hq =>
       rintro V ⟨v1, v2⟩
       have k1 := later_cell v1
       have k2 := later_cell v2
       simp only [List.take_succ_cons, List.take_zero]
       repeat (go_big_quiet_step (fail))
       refine wpQuiet_nil ?_
       rfl
      case hmk =>
       intro V hV
       obtain ⟨hz, hfz⟩ := own_arc (own_below ROW.out hV) hy
       have z1 := hz 2 _ rfl
       have z2 := hfz (j * 6 + 2)
       exact ⟨_, _, .inr ⟨by go_simp, rfl⟩, rfl, below_set hV _⟩
      case ht =>
       rintro u W20 ⟨rfl, hB⟩
       simp only [List.drop_succ_cons, List.drop_zero]
       have hs : (W9.setCell ⟨g, j * 6 + 2, none⟩ (.int .i64 x.low)).heap[wr.heap.size]? = W9.heap[wr.heap.size]? := Below.heap_setCell W9 ⟨g, j * 6 + 2, none⟩ _ _ (fun e => hxg e)
       have xin := ((bcell hB).1 _ _ (cell_lt ((cell_same hs).trans xi))).trans ((cell_same hs).trans xi)
       have xln := ((bcell hB).1 _ _ (cell_lt ((cell_same hs).trans xl))).trans ((cell_same hs).trans xl)
       have xhn := ((bcell hB).1 _ _ (cell_lt ((cell_same hs).trans xh))).trans ((cell_same hs).trans xh)
       have hrow1 := own_below (own_arc_set ROW.out (c := 2) (a' := ({ y with low := x.low } : Ar)) hy (by decide) rfl) hB
       obtain ⟨hz, hfz⟩ := own_arc hrow1 (show (_ : List Ar)[j]? = some ({ y with low := x.low } : Ar) by rw [List.getElem?_set, if_pos rfl, if_pos (some_lt hy)])
       have z1 := hz 4 _ rfl
       have z2 := hfz (j * 6 + 4)
       have ROWn := Lib.hid (row_two ROW.out (c := 2) (c' := 4) (a' := ({ y with low := x.low } : Ar)) (a'' := ({ y with low := x.low, lowBy := x.id } : Ar)) (u' := .int .i64 x.id) hy (by decide) (by decide) rfl rfl hB)
       have KKn := Lib.hid (((KK.out.setCell (p := ⟨g, j * 6 + 2, none⟩) (.inl rfl) (.int .i64 x.low)).trans (Kept.of_below (O := fun _ => False) hB) (fun _ _ h => h.elim)).setCell (p := ⟨g, j * 6 + 4, none⟩) (.inl rfl) (.int .i64 x.id))
       obtain ⟨A2, hAN⟩ : ∃ B, A1.set j ({ y with low := x.low, lowBy := x.id } : Ar) = B := ⟨_, rfl⟩
       have hyn : A2[j]? = some ({ y with low := x.low, lowBy := x.id } : Ar) := by rw [← hAN, List.getElem?_set, if_pos rfl, if_pos (some_lt hy)]
       rw [hAN] at ROWn
       have HANA2 := Lib.hid hAN
       clear hrow1 hz hfz hs ROW KK hB xi xl xh hy hAN
       have hy := hyn
       clear hyn
       go_wp2_with fail
       obtain ⟨W21, hW21⟩ : ∃ V, W20.setCell ⟨g, j * 6 + 4, none⟩ (.int .i64 x.id) = V := ⟨_, rfl⟩
       have hsn : ∀ q, q ≠ g → W21.heap[q]? = W20.heap[q]? := fun q hq => by rw [← hW21]; exact Below.heap_setCell W20 ⟨g, j * 6 + 4, none⟩ _ _ hq
       have xi := (cell_same (hsn _ hxg)).trans xin
       have xl := (cell_same (hsn _ hxg)).trans xln
       have xh := (cell_same (hsn _ hxg)).trans xhn
       rw [hW21] at ROWn KKn ⊢
       have ROW := ROWn
       have KK := KKn
       clear hsn xin xln xhn hW21 ROWn KKn z1 z2
       go_upto_region 14 with (fail)
       obtain ⟨hz, hfz⟩ := own_arc ROW.out hy
       have z3 : W21.cell? ⟨g, j * 6 + 3, none⟩ = some (.int .i64 y.high) := hz 3 _ rfl
       have k1 := later_cell xh
       have k2 := later_cell z3
       clear hz hfz
       refine wp_region_later W21 (by kernel_rfl) (by kernel_rfl) (Below.refl _ _) ?_
       repeat (go_big_quiet_step (fail))
       refine wpQuiet_nil ?_
       rintro ⟨W30, hB⟩
       dsimp only
       clear k1 k2 z3
       have xin := ((bcell hB).1 _ _ (cell_lt xi)).trans xi
       have xln := ((bcell hB).1 _ _ (cell_lt xl)).trans xl
       have xhn := ((bcell hB).1 _ _ (cell_lt xh)).trans xh
       clear xi xl xh
       have xi := xin
       clear xin
       have xl := xln
       clear xln
       have xh := xhn
       clear xhn
       have ROWn := Lib.hid (own_below ROW.out hB)
       have KKn := Lib.hid (KK.out.trans (Kept.of_below (O := fun _ => False) hB) (fun _ _ h => h.elim))
       clear hB ROW KK
       have ROW := ROWn
       have KK := KKn
       clear ROWn KKn
       by_cases hhigh : x.high < y.high
       ·have hd2 : decide (x.high < y.high) = true := decide_eq_true hhigh
        go_upto_region 15 with (fail)
        have hlg := (ROW.out.lt g rfl).2
        have hxg : ¬ wr.heap.size = g := by omega
        refine wp_region_turner 8 W30 (fun V => V.cell? ⟨wr.heap.size, 8, none⟩ = some (.int .i64 x.high) ∧ V.cell? ⟨wr.heap.size, 0, none⟩ = some (.int .i64 x.id)) (fun u V => u = undef ∧ Below (W30.setCell ⟨g, j * 6 + 3, none⟩ (.int .i64 x.high)).heap.size (W30.setCell ⟨g, j * 6 + 3, none⟩ (.int .i64 x.high)) V) (by kernel_rfl) (by kernel_rfl) (by kernel_rfl) (by rfl) (by rfl) (Below.refl _ _) ⟨xh, xi⟩ ?hDG (fun u V V' h hb => ⟨h.1, bthen h.2 hb⟩) (e := ?e40) ?hq ?hmk ?ht
        case hDG =>
         rintro u V ⟨_, hb⟩
         have hs : (W30.setCell ⟨g, j * 6 + 3, none⟩ (.int .i64 x.high)).heap[wr.heap.size]? = W30.heap[wr.heap.size]? := Below.heap_setCell W30 ⟨g, j * 6 + 3, none⟩ _ _ (fun e => hxg e)
         have e1 := (cell_same hs).trans xh
         have e2 := (cell_same hs).trans xi
         exact ⟨((bcell hb).1 _ _ (cell_lt e1)).trans e1, ((bcell hb).1 _ _ (cell_lt e2)).trans e2⟩
        case hq =>
         rintro V ⟨v1, v2⟩
         have k1 := later_cell v1
         have k2 := later_cell v2
         simp only [List.take_succ_cons, List.take_zero]
         repeat (go_big_quiet_step (fail))
         refine wpQuiet_nil ?_
         rfl
        case hmk =>
         intro V hV
         obtain ⟨hz, hfz⟩ := own_arc (own_below ROW.out hV) hy
         have z1 := hz 3 _ rfl
         have z2 := hfz (j * 6 + 3)
         exact ⟨_, _, .inr ⟨by go_simp, rfl⟩, rfl, below_set hV _⟩
        case ht =>
         rintro u W40 ⟨rfl, hB⟩
         simp only [List.drop_succ_cons, List.drop_zero]
         have hs : (W30.setCell ⟨g, j * 6 + 3, none⟩ (.int .i64 x.high)).heap[wr.heap.size]? = W30.heap[wr.heap.size]? := Below.heap_setCell W30 ⟨g, j * 6 + 3, none⟩ _ _ (fun e => hxg e)
         have xin := ((bcell hB).1 _ _ (cell_lt ((cell_same hs).trans xi))).trans ((cell_same hs).trans xi)
         have xln := ((bcell hB).1 _ _ (cell_lt ((cell_same hs).trans xl))).trans ((cell_same hs).trans xl)
         have xhn := ((bcell hB).1 _ _ (cell_lt ((cell_same hs).trans xh))).trans ((cell_same hs).trans xh)
         have hrow1 := own_below (own_arc_set ROW.out (c := 3) (a' := ({ y with low := x.low, lowBy := x.id, high := x.high } : Ar)) hy (by decide) rfl) hB
         obtain ⟨hz, hfz⟩ := own_arc hrow1 (show (_ : List Ar)[j]? = some ({ y with low := x.low, lowBy := x.id, high := x.high } : Ar) by rw [List.getElem?_set, if_pos rfl, if_pos (some_lt hy)])
         have z1 := hz 5 _ rfl
         have z2 := hfz (j * 6 + 5)
         have ROWn := Lib.hid (row_two ROW.out (c := 3) (c' := 5) (a' := ({ y with low := x.low, lowBy := x.id, high := x.high } : Ar)) (a'' := ({ y with low := x.low, lowBy := x.id, high := x.high, highBy := x.id } : Ar)) (u' := .int .i64 x.id) hy (by decide) (by decide) rfl rfl hB)
         have KKn := Lib.hid (((KK.out.setCell (p := ⟨g, j * 6 + 3, none⟩) (.inl rfl) (.int .i64 x.high)).trans (Kept.of_below (O := fun _ => False) hB) (fun _ _ h => h.elim)).setCell (p := ⟨g, j * 6 + 5, none⟩) (.inl rfl) (.int .i64 x.id))
         obtain ⟨A3, hAN⟩ : ∃ B, A2.set j ({ y with low := x.low, lowBy := x.id, high := x.high, highBy := x.id } : Ar) = B := ⟨_, rfl⟩
         have hyn : A3[j]? = some ({ y with low := x.low, lowBy := x.id, high := x.high, highBy := x.id } : Ar) := by rw [← hAN, List.getElem?_set, if_pos rfl, if_pos (some_lt hy)]
         rw [hAN] at ROWn
         have HANA3 := Lib.hid hAN
         clear hrow1 hz hfz hs ROW KK hB xi xl xh hy hAN
         have hy := hyn
         clear hyn
         go_wp2_with fail
         obtain ⟨W41, hW41⟩ : ∃ V, W40.setCell ⟨g, j * 6 + 5, none⟩ (.int .i64 x.id) = V := ⟨_, rfl⟩
         have hsn : ∀ q, q ≠ g → W41.heap[q]? = W40.heap[q]? := fun q hq => by rw [← hW41]; exact Below.heap_setCell W40 ⟨g, j * 6 + 5, none⟩ _ _ hq
         have xi := (cell_same (hsn _ hxg)).trans xin
         have xl := (cell_same (hsn _ hxg)).trans xln
         have xh := (cell_same (hsn _ hxg)).trans xhn
         rw [hW41] at ROWn KKn ⊢
         have ROW := ROWn
         have KK := KKn
         clear hsn xin xln xhn hW41 ROWn KKn z1 z2
         have hfin : A1.set j ({ y with low := x.low, lowBy := x.id, high := x.high, highBy := x.id } : Ar) = A3 := by rw [← HANA3.out, ← HANA2.out, List.set_set]
         have HFIN := Lib.hid hfin
         clear hfin
         go_wp2
         go_roundw
         case rel => exact ⟨k + 1, by omega, by go_num, by rw [HST.out, narrow_tt hlow hhigh, HFIN.out]; exact ROW.out, KK.out⟩
         case measure => simp [intOf]; omega
       ·have hd2 : decide (x.high < y.high) = false := decide_eq_false hhigh
        go_wp2
        go_roundw
        case rel => exact ⟨k + 1, by omega, by go_num, by rw [HST.out, narrow_tf hlow hhigh, HANA2.out]; exact ROW.out, KK.out⟩
        case measure => simp [intOf]; omega
     ·have hd : decide (x.low > y.low) = false := decide_eq_false hlow
      go_upto_region 14 with (fail)
      obtain ⟨hz, hfz⟩ := own_arc ROW.out hy
      have z3 : W9.cell? ⟨g, j * 6 + 3, none⟩ = some (.int .i64 y.high) := hz 3 _ rfl
      have k1 := later_cell xh
      have k2 := later_cell z3
      clear hz hfz
      refine wp_region_later W9 (by kernel_rfl) (by kernel_rfl) (Below.refl _ _) ?_
      repeat (go_big_quiet_step (fail))
      refine wpQuiet_nil ?_
      rintro ⟨W30, hB⟩
      dsimp only
      clear k1 k2 z3
      have xin := ((bcell hB).1 _ _ (cell_lt xi)).trans xi
      have xln := ((bcell hB).1 _ _ (cell_lt xl)).trans xl
      have xhn := ((bcell hB).1 _ _ (cell_lt xh)).trans xh
      clear xi xl xh
      have xi := xin
      clear xin
      have xl := xln
      clear xln
      have xh := xhn
      clear xhn
      have ROWn := Lib.hid (own_below ROW.out hB)
      have KKn := Lib.hid (KK.out.trans (Kept.of_below (O := fun _ => False) hB) (fun _ _ h => h.elim))
      clear hB ROW KK
      have ROW := ROWn
      have KK := KKn
      clear ROWn KKn
      by_cases hhigh : x.high < y.high
      ·have hd2 : decide (x.high < y.high) = true := decide_eq_true hhigh
       go_upto_region 15 with (fail)
       have hlg := (ROW.out.lt g rfl).2
       have hxg : ¬ wr.heap.size = g := by omega
       refine wp_region_turner 8 W30 (fun V => V.cell? ⟨wr.heap.size, 8, none⟩ = some (.int .i64 x.high) ∧ V.cell? ⟨wr.heap.size, 0, none⟩ = some (.int .i64 x.id)) (fun u V => u = undef ∧ Below (W30.setCell ⟨g, j * 6 + 3, none⟩ (.int .i64 x.high)).heap.size (W30.setCell ⟨g, j * 6 + 3, none⟩ (.int .i64 x.high)) V) (by kernel_rfl) (by kernel_rfl) (by kernel_rfl) (by rfl) (by rfl) (Below.refl _ _) ⟨xh, xi⟩ ?hDG (fun u V V' h hb => ⟨h.1, bthen h.2 hb⟩) (e := ?e50) ?hq ?hmk ?ht
       case hDG =>
        rintro u V ⟨_, hb⟩
        have hs : (W30.setCell ⟨g, j * 6 + 3, none⟩ (.int .i64 x.high)).heap[wr.heap.size]? = W30.heap[wr.heap.size]? := Below.heap_setCell W30 ⟨g, j * 6 + 3, none⟩ _ _ (fun e => hxg e)
        have e1 := (cell_same hs).trans xh
        have e2 := (cell_same hs).trans xi
        exact ⟨((bcell hb).1 _ _ (cell_lt e1)).trans e1, ((bcell hb).1 _ _ (cell_lt e2)).trans e2⟩
       case hq =>
        rintro V ⟨v1, v2⟩
        have k1 := later_cell v1
        have k2 := later_cell v2
        simp only [List.take_succ_cons, List.take_zero]
        repeat (go_big_quiet_step (fail))
        refine wpQuiet_nil ?_
        rfl
       case hmk =>
        intro V hV
        obtain ⟨hz, hfz⟩ := own_arc (own_below ROW.out hV) hy
        have z1 := hz 3 _ rfl
        have z2 := hfz (j * 6 + 3)
        exact ⟨_, _, .inr ⟨by go_simp, rfl⟩, rfl, below_set hV _⟩
       case ht =>
        rintro u W50 ⟨rfl, hB⟩
        simp only [List.drop_succ_cons, List.drop_zero]
        have hs : (W30.setCell ⟨g, j * 6 + 3, none⟩ (.int .i64 x.high)).heap[wr.heap.size]? = W30.heap[wr.heap.size]? := Below.heap_setCell W30 ⟨g, j * 6 + 3, none⟩ _ _ (fun e => hxg e)
        have xin := ((bcell hB).1 _ _ (cell_lt ((cell_same hs).trans xi))).trans ((cell_same hs).trans xi)
        have xln := ((bcell hB).1 _ _ (cell_lt ((cell_same hs).trans xl))).trans ((cell_same hs).trans xl)
        have xhn := ((bcell hB).1 _ _ (cell_lt ((cell_same hs).trans xh))).trans ((cell_same hs).trans xh)
        have hrow1 := own_below (own_arc_set ROW.out (c := 3) (a' := ({ y with high := x.high } : Ar)) hy (by decide) rfl) hB
        obtain ⟨hz, hfz⟩ := own_arc hrow1 (show (_ : List Ar)[j]? = some ({ y with high := x.high } : Ar) by rw [List.getElem?_set, if_pos rfl, if_pos (some_lt hy)])
        have z1 := hz 5 _ rfl
        have z2 := hfz (j * 6 + 5)
        have ROWn := Lib.hid (row_two ROW.out (c := 3) (c' := 5) (a' := ({ y with high := x.high } : Ar)) (a'' := ({ y with high := x.high, highBy := x.id } : Ar)) (u' := .int .i64 x.id) hy (by decide) (by decide) rfl rfl hB)
        have KKn := Lib.hid (((KK.out.setCell (p := ⟨g, j * 6 + 3, none⟩) (.inl rfl) (.int .i64 x.high)).trans (Kept.of_below (O := fun _ => False) hB) (fun _ _ h => h.elim)).setCell (p := ⟨g, j * 6 + 5, none⟩) (.inl rfl) (.int .i64 x.id))
        obtain ⟨A2, hAN⟩ : ∃ B, A1.set j ({ y with high := x.high, highBy := x.id } : Ar) = B := ⟨_, rfl⟩
        have hyn : A2[j]? = some ({ y with high := x.high, highBy := x.id } : Ar) := by rw [← hAN, List.getElem?_set, if_pos rfl, if_pos (some_lt hy)]
        rw [hAN] at ROWn
        have HANA2 := Lib.hid hAN
        clear hrow1 hz hfz hs ROW KK hB xi xl xh hy hAN
        have hy := hyn
        clear hyn
        go_wp2_with fail
        obtain ⟨W51, hW51⟩ : ∃ V, W50.setCell ⟨g, j * 6 + 5, none⟩ (.int .i64 x.id) = V := ⟨_, rfl⟩
        have hsn : ∀ q, q ≠ g → W51.heap[q]? = W50.heap[q]? := fun q hq => by rw [← hW51]; exact Below.heap_setCell W50 ⟨g, j * 6 + 5, none⟩ _ _ hq
        have xi := (cell_same (hsn _ hxg)).trans xin
        have xl := (cell_same (hsn _ hxg)).trans xln
        have xh := (cell_same (hsn _ hxg)).trans xhn
        rw [hW51] at ROWn KKn ⊢
        have ROW := ROWn
        have KK := KKn
        clear hsn xin xln xhn hW51 ROWn KKn z1 z2
        go_wp2
        go_roundw
        case rel => exact ⟨k + 1, by omega, by go_num, by rw [HST.out, narrow_ft hlow hhigh, HANA2.out]; exact ROW.out, KK.out⟩
        case measure => simp [intOf]; omega
      ·have hd2 : decide (x.high < y.high) = false := decide_eq_false hhigh
       go_wp2
       go_roundw
       case rel => exact ⟨k + 1, by omega, by go_num, by rw [HST.out, narrow_ff hlow hhigh, set_same hy]; exact ROW.out, KK.out⟩
       case measure => simp [intOf]; omega
    ·have hse : (x.sort.toList == sort.toList) = false := beq_eq_false_iff_ne.2 (fun h => hs (tl_inj h))
     have HN := skip (by unfold netStep; rw [if_neg (fun h => hs h.2)])
     clear skip hs ho
     go_wp2
     go_roundw
     case rel => exact ⟨k + 1, by omega, by go_num, by rw [HN.out]; exact HROW.out.alloc _, HK.out.alloc _⟩
     case measure => simp [intOf]; omega
   ·have he : (x.owner != owner) = true := by simp [ho]
    have HN := skip (by unfold netStep; rw [if_neg (fun h => ho h.1)])
    clear skip ho
    go_wp2
    go_roundw
    case rel => exact ⟨k + 1, by omega, by go_num, by rw [HN.out]; exact HROW.out.alloc _, HK.out.alloc _⟩
    case measure => simp [intOf]; omega
  ·obtain rfl : k = L.length := by omega
   have ho := HROW.out
   rw [List.take_length] at ho
   have HO2 := Lib.hid ho
   have e0 := HK.out.cell (by omega) n0
   have e1 := HK.out.cell (by omega) n1
   have e2 := HK.out.cell (by omega) r0
   have e3 := HK.out.cell (by omega) r1
   have e4 := (HK.out.frozen hzr (by omega)).trans fr0
   have e5 := (HK.out.frozen hzr (by omega)).trans fr1
   have ze2 := cell_lt e2
   have ze0 := cell_lt e0
   clear ho HROW
   go_wp2
   obtain ⟨C, hC⟩ : ∃ C, ((wr.setCell ⟨w.heap.size + 1, 0, none⟩ (.int .i64 NN)).setCell ⟨w.heap.size + 1, 1, none⟩ (.slice (some ⟨g, 0, none⟩) n gc)) = C := ⟨_, rfl⟩
   have d0 : C.cell? ⟨w.heap.size + 1, 0, none⟩ = some (.int .i64 NN) := by subst hC; go_simp
   have d1 : C.cell? ⟨w.heap.size + 1, 1, none⟩ = some (.slice (some ⟨g, 0, none⟩) n gc) := by subst hC; go_simp
   have hk2 : Kept (fun q => q = w.heap.size + 1) wr C := by subst hC; exact Kept.setCell (p := ⟨w.heap.size + 1, 1, none⟩) (Kept.setCell (p := ⟨w.heap.size + 1, 0, none⟩) (Kept.refl (fun q => q = w.heap.size + 1) wr) (.inl rfl) _) (.inl rfl) _
   have hbC : Below w.heap.size w C := (((Kept.of_below (O := fun q => w.heap.size ≤ q) HB.out).trans HK.out (fun j _ e => by omega)).trans hk2 (fun j _ e => by omega)).below (Nat.le_refl _) (fun _ h => h)
   rw [hC]
   refine bodyPost_ret (v := .tuple #[.agg #[.int .i64 NN, .slice (some ⟨g, 0, none⟩) n gc], .int .i64 0]) (by simp [results, Tryz.results37, go_sem, d0, d1]) rfl ⟨_, by rw [← HNN.out], ?_, hbC⟩
   have h9 := ownsRow_base (ownsRow_kept HO2.out hk2 (fun q hq e => by simp [Value.ownBlock] at hq; omega)) (show w.heap.size ≤ W3.heap.size by omega)
   unfold OwnA
   rw [net_len, HNL.out]
   exact h9
theorem c_NetOf (m : Fm) (l : List Rp) (a : Option Addr) (cap : Nat) (known owner : Int) (sort : ByteArray) (w : World) (hm : m.In w) (hl : Rps w a l) (hok : ∀ y ∈ l, RpOk y) (hcap : l.length ≤ cap) : Calls Tryz.prog 37 #[m.v, .slice a l.length cap, .int .i64 known, .int .i64 owner, .string sort] w (GivesNt (netV m.f l known owner sort) w) := by
 unfold netV
 by_cases h : (checkV m.f l).2 = 0
 ·rw [if_neg (by omega)]
  have h0 := (countV_2' m.f l known).trans h
  by_cases h1 : rg 1 40 owner = true
  ·by_cases h2 : nameB sort = true
   ·rw [if_neg (by rw [h1, h2]; decide)]; exact c_NetOf_ok m l a cap known owner sort w hm hl hok hcap h0 h1 h2
   ·rw [if_pos (by rw [h1]; simpa using h2)]; exact c_NetOf_name m l a cap known owner sort w hm hl hok hcap h0 h1 (by simpa using h2)
  ·rw [if_pos (by rw [Bool.not_eq_true] at h1; rw [h1]; rfl)]; exact c_NetOf_own m l a cap known owner sort w hm hl hok hcap h0 (by simpa using h1)
 ·rw [if_pos h]
  have h9 := c_NetOf_no m l a cap known owner sort w hm hl hok hcap (by rw [countV_2']; exact h)
  rw [countV_2'] at h9
  exact h9
end Go.Proofs.YtlppdgaogdpajaaGreatDoor
