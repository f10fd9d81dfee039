/- This text proves what Passage of package tally returns, for every rates and tallies. -/
import Derived.Test.YtokpjaodchcheaaPassPlain
import Derived.Test.YtokpjaodchcheaaLists
import Derived.Test.YtokpjaodchcheaaAlloc
namespace Go.Proofs.Ytokpjaodchcheaa
open Go.RowKit Go.Shelf
attribute [local go_sem] Oper.semAt_some

/-- What a call returns that answers for a passage. -/
def GivesP (r : Iv × List Int × Int) (w : World) (e : Ending) (w' : World) : Prop := (∃ b c, e = .returned (.tuple #[r.1.v, .slice b r.2.1.length c, .int .i64 r.2.2]) ∧ Ints w' b r.2.1) ∧ Below w.heap.size w w'
theorem ivs_drop {w W : World} {g o : Nat} {l : List Iv} {n : Nat} (h : Ivs w (some ⟨g, o, none⟩) l) (hn : l.length = n) (h0 : ¬ n = 0) (hb : Below w.heap.size w W) : Ivs W (some ⟨g, o + 3, none⟩) (l.drop 1) := by
  refine ⟨by rw [List.length_drop]; have := h.1; omega, fun hne => ⟨g, o + 3, rfl, fun k hk => ?_⟩⟩
  obtain ⟨g', o', e, hat⟩ := h.2 (by intro e; rw [e] at hn; simp at hn; omega)
  cases e
  rw [List.length_drop] at hk
  have := (hat (k + 1) (by omega)).later hb
  have e1 : o + (k + 1) * 3 = o + 3 + k * 3 := by omega
  have e2 : iv (l.drop 1) k = iv l (k + 1) := by simp [iv]
  rw [e1] at this
  rw [e2]
  exact this
theorem iv_row {w : World} {base : Nat} {v : Value} {l : List Iv} (h : w.ownsRow base 33 3 v l.length (cellsL ivC l)) (hl : l.length ≤ 1000000000000) (h0 : 0 < l.length) :
    ∃ g o cap, v = .slice (some ⟨g, o, none⟩) l.length cap ∧ Ivs w (some ⟨g, o, none⟩) l ∧ l.length ≤ cap ∧ base ≤ g := by
  have hcap : ∃ g cap, v = .slice (some ⟨g, 0, none⟩) l.length cap ∧ l.length ≤ cap := by
    rcases h.2 with ⟨_, e⟩ | ⟨g, cap, cur, e, _, _, h1, _⟩
    · omega
    · exact ⟨g, cap, e, h1⟩
  obtain ⟨b, c, rfl, h1, h2⟩ := iv_own h
  obtain ⟨g, cap, e, hc⟩ := hcap
  cases e
  exact ⟨g, 0, c, rfl, h1 hl, hc, h2 g 0 rfl⟩
theorem ivs_rest {w W : World} {g o : Nat} {l : List Iv} {n cap : Nat} (h : Ivs w (some ⟨g, o, none⟩) l) (hn : l.length = n) (h0 : ¬ n = 0) (hc : l.length ≤ cap) (hb : Below w.heap.size w W) :
    Ivs W (if cap = 1 then some ⟨g, o, none⟩ else some ⟨g, o + 3, none⟩) (l.drop 1) := by
  by_cases e : cap = 1
  · refine ⟨by rw [List.length_drop]; have := h.1; omega, fun hne => absurd ?_ hne⟩
    exact List.eq_nil_of_length_eq_zero (by rw [List.length_drop]; omega)
  · rw [if_neg e]
    exact ivs_drop h hn h0 hb
theorem Ints.nil (w : World) : Ints w none [] := ⟨by simp, fun h => absurd rfl h⟩

set_option maxRecDepth 100000 in
set_option maxHeartbeats 8000000 in
theorem c_Passage_many (R : List Rt) (C : List Ct) (a b : Option Addr) (ca cb : Nat) (w : World) (h : 200 < C.length) (hc : C.length ≤ 1000000000000) :
    Calls Try.prog 51 #[.slice a R.length ca, .slice b C.length cb] w (GivesP (passV R C) w) := by
  have hv : passV R C = (Iv.none, [], 2) := by unfold passV; rw [if_pos h]
  have h' : (200 : Int) < (C.length : Int) := by omega
  rw [hv]
  go_enter Try.func51, Try.ntmps51
  go_upto_region 1 with (fail)
  go_name_world W1 hW1
  have hbn : Below w.heap.size w W1 := by subst hW1; go_grown
  have hb0 := hbn
  clear hbn
  have s0n : W1.cell? ⟨w.heap.size, 0, none⟩ = some (.int .i64 0) := by subst hW1; go_simp
  have fs0n : W1.frozen? ⟨w.heap.size, 0, none⟩ = false := by subst hW1; go_simp
  have s1n : W1.cell? ⟨w.heap.size, 1, none⟩ = some (.int .i64 0) := by subst hW1; go_simp
  have fs1n : W1.frozen? ⟨w.heap.size, 1, none⟩ = false := by subst hW1; go_simp
  have s2n : W1.cell? ⟨w.heap.size, 2, none⟩ = some (.bool false) := by subst hW1; go_simp
  have fs2n : W1.frozen? ⟨w.heap.size, 2, none⟩ = false := by subst hW1; go_simp
  clear hW1 
  have s0 := s0n
  have fs0 := fs0n
  have s1 := s1n
  have fs1 := fs1n
  have s2 := s2n
  have fs2 := fs2n
  clear s0n s1n s2n fs0n fs1n fs2n
  go_wp2
  refine bodyPost_ret (v := .tuple #[Iv.none.v, .slice none 0 0, .int .i64 2]) (by simp [results, Try.results51, go_sem, Iv.none, s0, s1, s2]) rfl ⟨⟨_, _, rfl, Ints.nil _⟩, by have hbz := hb0.size; go_grown⟩

set_option maxRecDepth 100000 in
set_option maxHeartbeats 8000000 in
theorem c_Passage_zero (R : List Rt) (C : List Ct) (a b : Option Addr) (ca cb : Nat) (w : World) (h : C.length = 0) :
    Calls Try.prog 51 #[.slice a R.length ca, .slice b C.length cb] w (GivesP (passV R C) w) := by
  have hv : passV R C = (Iv.none, [], 1) := by unfold passV; rw [if_neg (by omega), if_pos (.inl h)]
  rw [hv, h]
  go_enter Try.func51, Try.ntmps51
  go_upto_region 1 with (fail)
  go_name_world W1 hW1
  have hbn : Below w.heap.size w W1 := by subst hW1; go_grown
  have hb0 := hbn
  clear hbn
  have s0n : W1.cell? ⟨w.heap.size, 0, none⟩ = some (.int .i64 0) := by subst hW1; go_simp
  have fs0n : W1.frozen? ⟨w.heap.size, 0, none⟩ = false := by subst hW1; go_simp
  have s1n : W1.cell? ⟨w.heap.size, 1, none⟩ = some (.int .i64 0) := by subst hW1; go_simp
  have fs1n : W1.frozen? ⟨w.heap.size, 1, none⟩ = false := by subst hW1; go_simp
  have s2n : W1.cell? ⟨w.heap.size, 2, none⟩ = some (.bool false) := by subst hW1; go_simp
  have fs2n : W1.frozen? ⟨w.heap.size, 2, none⟩ = false := by subst hW1; go_simp
  clear hW1 
  have s0 := s0n
  have fs0 := fs0n
  have s1 := s1n
  have fs1 := fs1n
  have s2 := s2n
  have fs2 := fs2n
  clear s0n s1n s2n fs0n fs1n fs2n
  go_wp2
  refine bodyPost_ret (v := .tuple #[Iv.none.v, .slice none 0 0, .int .i64 1]) (by simp [results, Try.results51, go_sem, Iv.none, s0, s1, s2]) rfl ⟨⟨_, _, rfl, Ints.nil _⟩, by have hbz := hb0.size; go_grown⟩

set_option maxRecDepth 100000 in
set_option maxHeartbeats 8000000 in
theorem c_Passage_len (R : List Rt) (C : List Ct) (a b : Option Addr) (ca cb : Nat) (w : World) (h : ¬ 200 < C.length) (h0 : ¬ C.length = 0) (h1 : ¬ R.length = C.length) (hr : R.length ≤ 1000000000000) :
    Calls Try.prog 51 #[.slice a R.length ca, .slice b C.length cb] w (GivesP (passV R C) w) := by
  have hv : passV R C = (Iv.none, [], 1) := by unfold passV; rw [if_neg h, if_pos (.inr h1)]
  have h' : ¬ (200 : Int) < (C.length : Int) := by omega
  have h0' : ((C.length : Int) == 0) = false := beq_eq_false_iff_ne.2 (by omega)
  have h1' : ((R.length : Int) != (C.length : Int)) = true := bne_iff_ne.2 (by omega)
  rw [hv]
  clear hv h h0 h1 hr
  go_enter Try.func51, Try.ntmps51
  go_upto_region 1 with (fail)
  go_name_world W1 hW1
  have hbn : Below w.heap.size w W1 := by subst hW1; go_grown
  have hb0 := hbn
  clear hbn
  have s0n : W1.cell? ⟨w.heap.size, 0, none⟩ = some (.int .i64 0) := by subst hW1; go_simp
  have fs0n : W1.frozen? ⟨w.heap.size, 0, none⟩ = false := by subst hW1; go_simp
  have s1n : W1.cell? ⟨w.heap.size, 1, none⟩ = some (.int .i64 0) := by subst hW1; go_simp
  have fs1n : W1.frozen? ⟨w.heap.size, 1, none⟩ = false := by subst hW1; go_simp
  have s2n : W1.cell? ⟨w.heap.size, 2, none⟩ = some (.bool false) := by subst hW1; go_simp
  have fs2n : W1.frozen? ⟨w.heap.size, 2, none⟩ = false := by subst hW1; go_simp
  clear hW1 
  have s0 := s0n
  have fs0 := fs0n
  have s1 := s1n
  have fs1 := fs1n
  have s2 := s2n
  have fs2 := fs2n
  clear s0n s1n s2n fs0n fs1n fs2n
  go_wp2
  refine bodyPost_ret (v := .tuple #[Iv.none.v, .slice none 0 0, .int .i64 1]) (by simp [results, Try.results51, go_sem, Iv.none, s0, s1, s2]) rfl ⟨⟨_, _, rfl, Ints.nil _⟩, by have hbz := hb0.size; go_grown⟩

set_option maxRecDepth 100000 in
set_option maxHeartbeats 16000000 in
theorem c_Passage_main (R : List Rt) (C : List Ct) (a b : Option Addr) (ca cb : Nat) (w : World) (h : ¬ 200 < C.length) (h0 : ¬ C.length = 0) (h1 : R.length = C.length) (hR : Rts w a R) (hC : Cts w b C) :
    Calls Try.prog 51 #[.slice a C.length ca, .slice b C.length cb] w (GivesP (passV R C) w) := by
  have h' : ¬ (200 : Int) < (C.length : Int) := by omega
  have h0' : ¬ (C.length : Int) = 0 := by omega
  have hv : passV R C = if badP R C then (Iv.none, [], 1) else if (allV (ivsP R C)).some then (allV (ivsP R C), [], 0) else (Iv.none, pairV (ivsP R C) 0, 0) := by
    unfold passV; rw [if_neg h, if_neg (by omega)]
  have HV := Lib.hid hv
  have HR := Lib.hid hR
  have HC := Lib.hid hC
  clear hv hR hC
  obtain ⟨i0, hi0, hz0, hz1, hz2⟩ := info_parts iv_info
  go_enter Try.func51, Try.ntmps51
  go_upto_region 5 with (fail)
  go_name_world W1 hW1
  have hbn : Below w.heap.size w W1 := by subst hW1; go_grown
  have hb0 := hbn
  clear hbn
  have s0n : W1.cell? ⟨w.heap.size, 0, none⟩ = some (.int .i64 0) := by subst hW1; go_simp
  have fs0n : W1.frozen? ⟨w.heap.size, 0, none⟩ = false := by subst hW1; go_simp
  have s1n : W1.cell? ⟨w.heap.size, 1, none⟩ = some (.int .i64 0) := by subst hW1; go_simp
  have fs1n : W1.frozen? ⟨w.heap.size, 1, none⟩ = false := by subst hW1; go_simp
  have s2n : W1.cell? ⟨w.heap.size, 2, none⟩ = some (.bool false) := by subst hW1; go_simp
  have fs2n : W1.frozen? ⟨w.heap.size, 2, none⟩ = false := by subst hW1; go_simp
  clear hW1 
  have s0 := s0n
  have fs0 := fs0n
  have s1 := s1n
  have fs1 := fs1n
  have s2 := s2n
  have fs2 := fs2n
  clear s0n s1n s2n fs0n fs1n fs2n
  go_wp2
  go_loopw [7, 35] (fun v7 v35 wr => ∃ k : Nat, k ≤ C.length ∧ v35 = .int .i64 k ∧ (∀ j, j < k → okP (rt R j) (ct C j) = true) ∧ wr.ownsRow W1.heap.size 33 3 v7 ((ivsP R C).take k).length (cellsL ivC ((ivsP R C).take k)) ∧ Below W1.heap.size W1 wr) (fun _ v35 _ => C.length - (intOf v35).toNat)
  case atStart => exact ⟨0, by omega, rfl, fun j hj => by omega, own_nil _ _ _ _, Below.refl _ _⟩
  case round =>
    obtain ⟨k, hk, rfl, hok, hown, hbr⟩ := hrel
    have hbw := bthen hb0 hbr
    have u0 := ((bcell hbr).1 _ _ (cell_lt s0)).trans s0
    have u1 := ((bcell hbr).1 _ _ (cell_lt s1)).trans s1
    have u2 := ((bcell hbr).1 _ _ (cell_lt s2)).trans s2
    have fu0 := ((bcell hbr).2 _ _ (cell_lt s0)).trans fs0
    have fu1 := ((bcell hbr).2 _ _ (cell_lt s1)).trans fs1
    have fu2 := ((bcell hbr).2 _ _ (cell_lt s2)).trans fs2
    have HBR := Lib.hid hbr
    have HBW := Lib.hid hbw
    have HOK := Lib.hid hok
    have HO := Lib.hid hown
    have hsz := hbr.size
    have hlen := ivsP_len R C
    have htk : ((ivsP R C).take k).length = k := by rw [List.length_take]; omega
    have HTK := Lib.hid htk
    have HLEN := Lib.hid hlen
    clear s0 s1 s2 fs0 fs1 fs2 hok hown hb0 htk hlen
    by_cases hlt : k < C.length
    · obtain ⟨b1, o1, rfl, hat1⟩ := (HR.out.later hbw).2 (by intro e; rw [e] at h1; simp at h1; omega)
      obtain ⟨b2, o2, rfl, hat2⟩ := (HC.out.later hbw).2 (by intro e; rw [e] at hlt; simp at hlt)
      obtain ⟨y0, y1⟩ := hat1 k (by omega)
      obtain ⟨q0, q1, q2, q3, q4⟩ := hat2 k hlt
      clear hat1 hat2 hbw hbr
      have hi1 : ¬ (k : Int) < 0 := by omega
      have hi2 : (k : Int) < (C.length : Int) := by omega
      have hiv : (ivsP R C).take (k + 1) = (ivsP R C).take k ++ [ivP (rt R k) (ct C k)] := by rw [take_iv (by rw [HLEN.out]; exact hlt), ivsP_at hlt]
      have hokk : okP (rt R k) (ct C k) = true → ∀ j, j < k + 1 → okP (rt R j) (ct C j) = true := fun h j hj => by
        by_cases e : j = k
        · subst e; exact h
        · exact HOK.out j (by omega)
      have hbad : okP (rt R k) (ct C k) = false → passV R C = (Iv.none, [], 1) := fun h => by rw [HV.out, badP_at hlt h]; rfl
      have hT := fun W => c_OfCount (rt R k).m (rt R k).d (ct C k).i (ct C k).d (ct C k).s (ct C k).n (ct C k).wo W
      have ho : okP (rt R k) (ct C k) = okTT (rt R k).m (rt R k).d (ct C k).i (ct C k).d (ct C k).s (ct C k).n (ct C k).wo := rfl
      have hx : ivP (rt R k) (ct C k) = fitIv (rt R k).m (rt R k).d (ct C k).n ((ct C k).n + (ct C k).wo) := rfl
      rw [ho] at hokk hbad
      rw [hx] at hiv
      generalize (rt R k).m = m at *
      generalize (rt R k).d = d at *
      generalize (ct C k).i = c0 at *
      generalize (ct C k).d = c1 at *
      generalize (ct C k).s = c2 at *
      generalize (ct C k).n = c3 at *
      generalize (ct C k).wo = c4 at *
      obtain ⟨⟨lo, hi, so⟩, hxx⟩ : ∃ x, fitIv m d c3 (c3 + c4) = x := ⟨_, rfl⟩
      rw [hxx] at hT hiv
      have HIV := Lib.hid hiv
      have HOKK := Lib.hid hokk
      have HBAD := Lib.hid hbad
      clear hiv hokk hbad ho hx hxx
      have hb0 : Below wr.heap.size wr wr := Below.refl _ _
      cases hot : okTT m d c0 c1 c2 c3 c4
      · simp only [hot, Bool.false_eq_true, if_false, Iv.none] at hT
        have HT := Lib.hid hT
        have HB := Lib.hid (HBAD.out hot)
        clear hT
        as_aux_lemma =>
        go_upto_region 9 with (fail)
        go_name_world W2 hW2
        have hbz := hb0.size
        have hbn : Below wr.heap.size wr W2 := by subst hW2; go_grown
        clear hb0 hbz
        have hb0 := hbn
        clear hbn
        have hbk : Below wr.heap.size wr W2 := by subst hW2; go_grown
        have u0n : W2.cell? ⟨w.heap.size, 0, none⟩ = some (.int .i64 0) := ((bcell hbk).1 _ _ (cell_lt u0)).trans u0
        have fu0n : W2.frozen? ⟨w.heap.size, 0, none⟩ = false := ((bcell hbk).2 _ _ (cell_lt u0)).trans fu0
        have u1n : W2.cell? ⟨w.heap.size, 1, none⟩ = some (.int .i64 0) := ((bcell hbk).1 _ _ (cell_lt u1)).trans u1
        have fu1n : W2.frozen? ⟨w.heap.size, 1, none⟩ = false := ((bcell hbk).2 _ _ (cell_lt u1)).trans fu1
        have u2n : W2.cell? ⟨w.heap.size, 2, none⟩ = some (.bool false) := ((bcell hbk).1 _ _ (cell_lt u2)).trans u2
        have fu2n : W2.frozen? ⟨w.heap.size, 2, none⟩ = false := ((bcell hbk).2 _ _ (cell_lt u2)).trans fu2
        have y0n : W2.cell? ⟨b1, o1 + k * 2, none⟩ = some (.int .i64 m) := ((bcell hbk).1 _ _ (cell_lt y0)).trans y0
        have y1n : W2.cell? ⟨b1, o1 + k * 2 + 1, none⟩ = some (.int .i64 d) := ((bcell hbk).1 _ _ (cell_lt y1)).trans y1
        have q0n : W2.cell? ⟨b2, o2 + k * 5, none⟩ = some (.int .i64 c0) := ((bcell hbk).1 _ _ (cell_lt q0)).trans q0
        have q1n : W2.cell? ⟨b2, o2 + k * 5 + 1, none⟩ = some (.int .i64 c1) := ((bcell hbk).1 _ _ (cell_lt q1)).trans q1
        have q2n : W2.cell? ⟨b2, o2 + k * 5 + 2, none⟩ = some (.int .i64 c2) := ((bcell hbk).1 _ _ (cell_lt q2)).trans q2
        have q3n : W2.cell? ⟨b2, o2 + k * 5 + 3, none⟩ = some (.int .i64 c3) := ((bcell hbk).1 _ _ (cell_lt q3)).trans q3
        have q4n : W2.cell? ⟨b2, o2 + k * 5 + 4, none⟩ = some (.int .i64 c4) := ((bcell hbk).1 _ _ (cell_lt q4)).trans q4
        clear hbk
        have p0n : W2.cell? ⟨wr.heap.size, 0, none⟩ = some (.int .i64 c0) := by subst hW2; go_simp
        have p1n : W2.cell? ⟨wr.heap.size, 1, none⟩ = some (.int .i64 c1) := by subst hW2; go_simp
        have p2n : W2.cell? ⟨wr.heap.size, 2, none⟩ = some (.int .i64 c2) := by subst hW2; go_simp
        have p3n : W2.cell? ⟨wr.heap.size, 3, none⟩ = some (.int .i64 c3) := by subst hW2; go_simp
        have p4n : W2.cell? ⟨wr.heap.size, 4, none⟩ = some (.int .i64 c4) := by subst hW2; go_simp
        clear hW2 u0 u1 u2 y0 y1 q0 q1 q2 q3 q4 fu0 fu1 fu2
        have u0 := u0n
        have fu0 := fu0n
        have u1 := u1n
        have fu1 := fu1n
        have u2 := u2n
        have fu2 := fu2n
        have y0 := y0n
        have y1 := y1n
        have q0 := q0n
        have q1 := q1n
        have q2 := q2n
        have q3 := q3n
        have q4 := q4n
        have p0 := p0n
        have p1 := p1n
        have p2 := p2n
        have p3 := p3n
        have p4 := p4n
        clear u0n u1n u2n y0n y1n q0n q1n q2n q3n q4n p0n p1n p2n p3n p4n fu0n fu1n fu2n
        refine wp_region_alloc 9 W2 (.cells #[.int .i64 0, .int .i64 0, .bool false] 33) (by rfl) (by rfl) ⟨by rfl, fun _ _ => by simp [go_sem]⟩ ⟨by rfl, by rfl, _, _, _, by rfl⟩ (by kernel_rfl) (Below.refl _ _) ?_
        intro V3 hB
        have hc := (bcell hB).1
        have hf := (bcell hB).2
        have hz := hB.size
        have fu0n : V3.frozen? ⟨w.heap.size, 0, none⟩ = false := (hf _ _ (cell_lt u0)).trans fu0
        clear fu0
        have fu0 := fu0n
        clear fu0n
        have u0n : V3.cell? ⟨w.heap.size, 0, none⟩ = some (.int .i64 0) := (hc _ _ (cell_lt u0)).trans u0
        clear u0
        have u0 := u0n
        clear u0n
        have fu1n : V3.frozen? ⟨w.heap.size, 1, none⟩ = false := (hf _ _ (cell_lt u1)).trans fu1
        clear fu1
        have fu1 := fu1n
        clear fu1n
        have u1n : V3.cell? ⟨w.heap.size, 1, none⟩ = some (.int .i64 0) := (hc _ _ (cell_lt u1)).trans u1
        clear u1
        have u1 := u1n
        clear u1n
        have fu2n : V3.frozen? ⟨w.heap.size, 2, none⟩ = false := (hf _ _ (cell_lt u2)).trans fu2
        clear fu2
        have fu2 := fu2n
        clear fu2n
        have u2n : V3.cell? ⟨w.heap.size, 2, none⟩ = some (.bool false) := (hc _ _ (cell_lt u2)).trans u2
        clear u2
        have u2 := u2n
        clear u2n
        have y0n : V3.cell? ⟨b1, o1 + k * 2, none⟩ = some (.int .i64 m) := (hc _ _ (cell_lt y0)).trans y0
        clear y0
        have y0 := y0n
        clear y0n
        have y1n : V3.cell? ⟨b1, o1 + k * 2 + 1, none⟩ = some (.int .i64 d) := (hc _ _ (cell_lt y1)).trans y1
        clear y1
        have y1 := y1n
        clear y1n
        have q0n : V3.cell? ⟨b2, o2 + k * 5, none⟩ = some (.int .i64 c0) := (hc _ _ (cell_lt q0)).trans q0
        clear q0
        have q0 := q0n
        clear q0n
        have q1n : V3.cell? ⟨b2, o2 + k * 5 + 1, none⟩ = some (.int .i64 c1) := (hc _ _ (cell_lt q1)).trans q1
        clear q1
        have q1 := q1n
        clear q1n
        have q2n : V3.cell? ⟨b2, o2 + k * 5 + 2, none⟩ = some (.int .i64 c2) := (hc _ _ (cell_lt q2)).trans q2
        clear q2
        have q2 := q2n
        clear q2n
        have q3n : V3.cell? ⟨b2, o2 + k * 5 + 3, none⟩ = some (.int .i64 c3) := (hc _ _ (cell_lt q3)).trans q3
        clear q3
        have q3 := q3n
        clear q3n
        have q4n : V3.cell? ⟨b2, o2 + k * 5 + 4, none⟩ = some (.int .i64 c4) := (hc _ _ (cell_lt q4)).trans q4
        clear q4
        have q4 := q4n
        clear q4n
        have p0n : V3.cell? ⟨wr.heap.size, 0, none⟩ = some (.int .i64 c0) := (hc _ _ (cell_lt p0)).trans p0
        clear p0
        have p0 := p0n
        clear p0n
        have p1n : V3.cell? ⟨wr.heap.size, 1, none⟩ = some (.int .i64 c1) := (hc _ _ (cell_lt p1)).trans p1
        clear p1
        have p1 := p1n
        clear p1n
        have p2n : V3.cell? ⟨wr.heap.size, 2, none⟩ = some (.int .i64 c2) := (hc _ _ (cell_lt p2)).trans p2
        clear p2
        have p2 := p2n
        clear p2n
        have p3n : V3.cell? ⟨wr.heap.size, 3, none⟩ = some (.int .i64 c3) := (hc _ _ (cell_lt p3)).trans p3
        clear p3
        have p3 := p3n
        clear p3n
        have p4n : V3.cell? ⟨wr.heap.size, 4, none⟩ = some (.int .i64 c4) := (hc _ _ (cell_lt p4)).trans p4
        clear p4
        have p4 := p4n
        clear p4n
        have hbn : Below wr.heap.size wr V3 := bthen hb0 hB
        clear hb0
        have hb0 := hbn
        clear hbn
        have hzV3 : W2.heap.size ≤ V3.heap.size := hz
        clear hc hf hB hz
        simp only [List.take_succ_cons, List.take_zero, List.drop_succ_cons, List.drop_zero]
        have ku0 := later_cell u0
        have ku1 := later_cell u1
        have ku2 := later_cell u2
        have ky0 := later_cell y0
        have ky1 := later_cell y1
        have kq0 := later_cell q0
        have kq1 := later_cell q1
        have kq2 := later_cell q2
        have kq3 := later_cell q3
        have kq4 := later_cell q4
        have kp0 := later_cell p0
        have kp1 := later_cell p1
        have kp2 := later_cell p2
        have kp3 := later_cell p3
        have kp4 := later_cell p4
        repeat (go_big_quiet_step (first | (go_at_call 23; with_reducible exact in_region (HT.out _))))
        refine wpQuiet_nil ?_
        clear ku0 ku1 ku2 ky0 ky1 kq0 kq1 kq2 kq3 kq4 kp0 kp1 kp2 kp3 kp4
        intro U3 X3 hA hB2
        have hx : Below V3.heap.size V3 X3 := bthen (hA.alloc hA.size _) hB2
        have hg : V3.heap.size ≤ U3.heap.size := hA.size
        have z0 : X3.cell? ⟨U3.heap.size, 0, none⟩ = some (.int .i64 0) := ((bcell hB2).1 _ _ (by simp)).trans (by go_simp)
        have fz0 : X3.frozen? ⟨U3.heap.size, 0, none⟩ = false := ((bcell hB2).2 _ _ (by simp)).trans (by go_simp)
        have z1 : X3.cell? ⟨U3.heap.size, 1, none⟩ = some (.int .i64 0) := ((bcell hB2).1 _ _ (by simp)).trans (by go_simp)
        have fz1 : X3.frozen? ⟨U3.heap.size, 1, none⟩ = false := ((bcell hB2).2 _ _ (by simp)).trans (by go_simp)
        have z2 : X3.cell? ⟨U3.heap.size, 2, none⟩ = some (.bool false) := ((bcell hB2).1 _ _ (by simp)).trans (by go_simp)
        have fz2 : X3.frozen? ⟨U3.heap.size, 2, none⟩ = false := ((bcell hB2).2 _ _ (by simp)).trans (by go_simp)
        clear hA hB2
        obtain ⟨g3, hgg⟩ : ∃ g, U3.heap.size = g := ⟨_, rfl⟩
        rw [hgg] at hg z0 fz0 z1 fz1 z2 fz2
        rw [hgg]
        clear hgg U3
        go_wp2
        refine ⟨rfl, by go_grown, ?_⟩
        intro Y3 hB hE
        have hc := (bcell hB).1
        have hf := (bcell hB).2
        have hz := hB.size
        have fu0n : Y3.frozen? ⟨w.heap.size, 0, none⟩ = false := (hf _ _ (cell_lt u0)).trans fu0
        clear fu0
        have fu0 := fu0n
        clear fu0n
        have u0n : Y3.cell? ⟨w.heap.size, 0, none⟩ = some (.int .i64 0) := (hc _ _ (cell_lt u0)).trans u0
        clear u0
        have u0 := u0n
        clear u0n
        have fu1n : Y3.frozen? ⟨w.heap.size, 1, none⟩ = false := (hf _ _ (cell_lt u1)).trans fu1
        clear fu1
        have fu1 := fu1n
        clear fu1n
        have u1n : Y3.cell? ⟨w.heap.size, 1, none⟩ = some (.int .i64 0) := (hc _ _ (cell_lt u1)).trans u1
        clear u1
        have u1 := u1n
        clear u1n
        have fu2n : Y3.frozen? ⟨w.heap.size, 2, none⟩ = false := (hf _ _ (cell_lt u2)).trans fu2
        clear fu2
        have fu2 := fu2n
        clear fu2n
        have u2n : Y3.cell? ⟨w.heap.size, 2, none⟩ = some (.bool false) := (hc _ _ (cell_lt u2)).trans u2
        clear u2
        have u2 := u2n
        clear u2n
        have y0n : Y3.cell? ⟨b1, o1 + k * 2, none⟩ = some (.int .i64 m) := (hc _ _ (cell_lt y0)).trans y0
        clear y0
        have y0 := y0n
        clear y0n
        have y1n : Y3.cell? ⟨b1, o1 + k * 2 + 1, none⟩ = some (.int .i64 d) := (hc _ _ (cell_lt y1)).trans y1
        clear y1
        have y1 := y1n
        clear y1n
        have q0n : Y3.cell? ⟨b2, o2 + k * 5, none⟩ = some (.int .i64 c0) := (hc _ _ (cell_lt q0)).trans q0
        clear q0
        have q0 := q0n
        clear q0n
        have q1n : Y3.cell? ⟨b2, o2 + k * 5 + 1, none⟩ = some (.int .i64 c1) := (hc _ _ (cell_lt q1)).trans q1
        clear q1
        have q1 := q1n
        clear q1n
        have q2n : Y3.cell? ⟨b2, o2 + k * 5 + 2, none⟩ = some (.int .i64 c2) := (hc _ _ (cell_lt q2)).trans q2
        clear q2
        have q2 := q2n
        clear q2n
        have q3n : Y3.cell? ⟨b2, o2 + k * 5 + 3, none⟩ = some (.int .i64 c3) := (hc _ _ (cell_lt q3)).trans q3
        clear q3
        have q3 := q3n
        clear q3n
        have q4n : Y3.cell? ⟨b2, o2 + k * 5 + 4, none⟩ = some (.int .i64 c4) := (hc _ _ (cell_lt q4)).trans q4
        clear q4
        have q4 := q4n
        clear q4n
        have p0n : Y3.cell? ⟨wr.heap.size, 0, none⟩ = some (.int .i64 c0) := (hc _ _ (cell_lt p0)).trans p0
        clear p0
        have p0 := p0n
        clear p0n
        have p1n : Y3.cell? ⟨wr.heap.size, 1, none⟩ = some (.int .i64 c1) := (hc _ _ (cell_lt p1)).trans p1
        clear p1
        have p1 := p1n
        clear p1n
        have p2n : Y3.cell? ⟨wr.heap.size, 2, none⟩ = some (.int .i64 c2) := (hc _ _ (cell_lt p2)).trans p2
        clear p2
        have p2 := p2n
        clear p2n
        have p3n : Y3.cell? ⟨wr.heap.size, 3, none⟩ = some (.int .i64 c3) := (hc _ _ (cell_lt p3)).trans p3
        clear p3
        have p3 := p3n
        clear p3n
        have p4n : Y3.cell? ⟨wr.heap.size, 4, none⟩ = some (.int .i64 c4) := (hc _ _ (cell_lt p4)).trans p4
        clear p4
        have p4 := p4n
        clear p4n
        have x0 : Y3.cell? ⟨g3, 0, none⟩ = some (.int .i64 0) := later_of hE (by go_simp)
        have x1 : Y3.cell? ⟨g3, 1, none⟩ = some (.int .i64 0) := later_of hE (by go_simp)
        have x2 : Y3.cell? ⟨g3, 2, none⟩ = some (.bool false) := later_of hE (by go_simp)
        clear z0 fz0 z1 fz1 z2 fz2 hE hx
        have hzY3 : V3.heap.size ≤ Y3.heap.size := hz
        have hgg3 : V3.heap.size ≤ g3 := hg
        have hbn : Below wr.heap.size wr Y3 := bthen hb0 hB
        clear hb0
        have hb0 := hbn
        clear hbn hc hf hB hz hg
        go_wp2
        refine bodyPost_ret (v := .tuple #[Iv.none.v, .slice none 0 0, .int .i64 1]) (by simp [results, Try.results51, go_sem, Iv.none, u0, u1, u2]) rfl ⟨by rw [HB.out]; exact ⟨_, _, rfl, Ints.nil _⟩, ?_⟩
        have hbz := hb0.size
        have hbz2 := HBW.out.size
        have hbn := bthen HBW.out hb0
        clear hb0
        go_grown
      · simp only [hot, if_true] at hT
        have HT := Lib.hid hT
        have H4 := Lib.hid (HOKK.out hot)
        clear hT
        as_aux_lemma =>
        go_upto_region 9 with (fail)
        go_name_world W2 hW2
        have hbz := hb0.size
        have hbn : Below wr.heap.size wr W2 := by subst hW2; go_grown
        clear hb0 hbz
        have hb0 := hbn
        clear hbn
        have hbk : Below wr.heap.size wr W2 := by subst hW2; go_grown
        have u0n : W2.cell? ⟨w.heap.size, 0, none⟩ = some (.int .i64 0) := ((bcell hbk).1 _ _ (cell_lt u0)).trans u0
        have fu0n : W2.frozen? ⟨w.heap.size, 0, none⟩ = false := ((bcell hbk).2 _ _ (cell_lt u0)).trans fu0
        have u1n : W2.cell? ⟨w.heap.size, 1, none⟩ = some (.int .i64 0) := ((bcell hbk).1 _ _ (cell_lt u1)).trans u1
        have fu1n : W2.frozen? ⟨w.heap.size, 1, none⟩ = false := ((bcell hbk).2 _ _ (cell_lt u1)).trans fu1
        have u2n : W2.cell? ⟨w.heap.size, 2, none⟩ = some (.bool false) := ((bcell hbk).1 _ _ (cell_lt u2)).trans u2
        have fu2n : W2.frozen? ⟨w.heap.size, 2, none⟩ = false := ((bcell hbk).2 _ _ (cell_lt u2)).trans fu2
        have y0n : W2.cell? ⟨b1, o1 + k * 2, none⟩ = some (.int .i64 m) := ((bcell hbk).1 _ _ (cell_lt y0)).trans y0
        have y1n : W2.cell? ⟨b1, o1 + k * 2 + 1, none⟩ = some (.int .i64 d) := ((bcell hbk).1 _ _ (cell_lt y1)).trans y1
        have q0n : W2.cell? ⟨b2, o2 + k * 5, none⟩ = some (.int .i64 c0) := ((bcell hbk).1 _ _ (cell_lt q0)).trans q0
        have q1n : W2.cell? ⟨b2, o2 + k * 5 + 1, none⟩ = some (.int .i64 c1) := ((bcell hbk).1 _ _ (cell_lt q1)).trans q1
        have q2n : W2.cell? ⟨b2, o2 + k * 5 + 2, none⟩ = some (.int .i64 c2) := ((bcell hbk).1 _ _ (cell_lt q2)).trans q2
        have q3n : W2.cell? ⟨b2, o2 + k * 5 + 3, none⟩ = some (.int .i64 c3) := ((bcell hbk).1 _ _ (cell_lt q3)).trans q3
        have q4n : W2.cell? ⟨b2, o2 + k * 5 + 4, none⟩ = some (.int .i64 c4) := ((bcell hbk).1 _ _ (cell_lt q4)).trans q4
        clear hbk
        have p0n : W2.cell? ⟨wr.heap.size, 0, none⟩ = some (.int .i64 c0) := by subst hW2; go_simp
        have p1n : W2.cell? ⟨wr.heap.size, 1, none⟩ = some (.int .i64 c1) := by subst hW2; go_simp
        have p2n : W2.cell? ⟨wr.heap.size, 2, none⟩ = some (.int .i64 c2) := by subst hW2; go_simp
        have p3n : W2.cell? ⟨wr.heap.size, 3, none⟩ = some (.int .i64 c3) := by subst hW2; go_simp
        have p4n : W2.cell? ⟨wr.heap.size, 4, none⟩ = some (.int .i64 c4) := by subst hW2; go_simp
        clear hW2 u0 u1 u2 y0 y1 q0 q1 q2 q3 q4 fu0 fu1 fu2
        have u0 := u0n
        have fu0 := fu0n
        have u1 := u1n
        have fu1 := fu1n
        have u2 := u2n
        have fu2 := fu2n
        have y0 := y0n
        have y1 := y1n
        have q0 := q0n
        have q1 := q1n
        have q2 := q2n
        have q3 := q3n
        have q4 := q4n
        have p0 := p0n
        have p1 := p1n
        have p2 := p2n
        have p3 := p3n
        have p4 := p4n
        clear u0n u1n u2n y0n y1n q0n q1n q2n q3n q4n p0n p1n p2n p3n p4n fu0n fu1n fu2n
        refine wp_region_alloc 9 W2 (.cells #[.int .i64 0, .int .i64 0, .bool false] 33) (by rfl) (by rfl) ⟨by rfl, fun _ _ => by simp [go_sem]⟩ ⟨by rfl, by rfl, _, _, _, by rfl⟩ (by kernel_rfl) (Below.refl _ _) ?_
        intro V3 hB
        have hc := (bcell hB).1
        have hf := (bcell hB).2
        have hz := hB.size
        have fu0n : V3.frozen? ⟨w.heap.size, 0, none⟩ = false := (hf _ _ (cell_lt u0)).trans fu0
        clear fu0
        have fu0 := fu0n
        clear fu0n
        have u0n : V3.cell? ⟨w.heap.size, 0, none⟩ = some (.int .i64 0) := (hc _ _ (cell_lt u0)).trans u0
        clear u0
        have u0 := u0n
        clear u0n
        have fu1n : V3.frozen? ⟨w.heap.size, 1, none⟩ = false := (hf _ _ (cell_lt u1)).trans fu1
        clear fu1
        have fu1 := fu1n
        clear fu1n
        have u1n : V3.cell? ⟨w.heap.size, 1, none⟩ = some (.int .i64 0) := (hc _ _ (cell_lt u1)).trans u1
        clear u1
        have u1 := u1n
        clear u1n
        have fu2n : V3.frozen? ⟨w.heap.size, 2, none⟩ = false := (hf _ _ (cell_lt u2)).trans fu2
        clear fu2
        have fu2 := fu2n
        clear fu2n
        have u2n : V3.cell? ⟨w.heap.size, 2, none⟩ = some (.bool false) := (hc _ _ (cell_lt u2)).trans u2
        clear u2
        have u2 := u2n
        clear u2n
        have y0n : V3.cell? ⟨b1, o1 + k * 2, none⟩ = some (.int .i64 m) := (hc _ _ (cell_lt y0)).trans y0
        clear y0
        have y0 := y0n
        clear y0n
        have y1n : V3.cell? ⟨b1, o1 + k * 2 + 1, none⟩ = some (.int .i64 d) := (hc _ _ (cell_lt y1)).trans y1
        clear y1
        have y1 := y1n
        clear y1n
        have q0n : V3.cell? ⟨b2, o2 + k * 5, none⟩ = some (.int .i64 c0) := (hc _ _ (cell_lt q0)).trans q0
        clear q0
        have q0 := q0n
        clear q0n
        have q1n : V3.cell? ⟨b2, o2 + k * 5 + 1, none⟩ = some (.int .i64 c1) := (hc _ _ (cell_lt q1)).trans q1
        clear q1
        have q1 := q1n
        clear q1n
        have q2n : V3.cell? ⟨b2, o2 + k * 5 + 2, none⟩ = some (.int .i64 c2) := (hc _ _ (cell_lt q2)).trans q2
        clear q2
        have q2 := q2n
        clear q2n
        have q3n : V3.cell? ⟨b2, o2 + k * 5 + 3, none⟩ = some (.int .i64 c3) := (hc _ _ (cell_lt q3)).trans q3
        clear q3
        have q3 := q3n
        clear q3n
        have q4n : V3.cell? ⟨b2, o2 + k * 5 + 4, none⟩ = some (.int .i64 c4) := (hc _ _ (cell_lt q4)).trans q4
        clear q4
        have q4 := q4n
        clear q4n
        have p0n : V3.cell? ⟨wr.heap.size, 0, none⟩ = some (.int .i64 c0) := (hc _ _ (cell_lt p0)).trans p0
        clear p0
        have p0 := p0n
        clear p0n
        have p1n : V3.cell? ⟨wr.heap.size, 1, none⟩ = some (.int .i64 c1) := (hc _ _ (cell_lt p1)).trans p1
        clear p1
        have p1 := p1n
        clear p1n
        have p2n : V3.cell? ⟨wr.heap.size, 2, none⟩ = some (.int .i64 c2) := (hc _ _ (cell_lt p2)).trans p2
        clear p2
        have p2 := p2n
        clear p2n
        have p3n : V3.cell? ⟨wr.heap.size, 3, none⟩ = some (.int .i64 c3) := (hc _ _ (cell_lt p3)).trans p3
        clear p3
        have p3 := p3n
        clear p3n
        have p4n : V3.cell? ⟨wr.heap.size, 4, none⟩ = some (.int .i64 c4) := (hc _ _ (cell_lt p4)).trans p4
        clear p4
        have p4 := p4n
        clear p4n
        have hbn : Below wr.heap.size wr V3 := bthen hb0 hB
        clear hb0
        have hb0 := hbn
        clear hbn
        have hzV3 : W2.heap.size ≤ V3.heap.size := hz
        clear hc hf hB hz
        simp only [List.take_succ_cons, List.take_zero, List.drop_succ_cons, List.drop_zero]
        have ku0 := later_cell u0
        have ku1 := later_cell u1
        have ku2 := later_cell u2
        have ky0 := later_cell y0
        have ky1 := later_cell y1
        have kq0 := later_cell q0
        have kq1 := later_cell q1
        have kq2 := later_cell q2
        have kq3 := later_cell q3
        have kq4 := later_cell q4
        have kp0 := later_cell p0
        have kp1 := later_cell p1
        have kp2 := later_cell p2
        have kp3 := later_cell p3
        have kp4 := later_cell p4
        repeat (go_big_quiet_step (first | (go_at_call 23; with_reducible exact in_region (HT.out _))))
        refine wpQuiet_nil ?_
        clear ku0 ku1 ku2 ky0 ky1 kq0 kq1 kq2 kq3 kq4 kp0 kp1 kp2 kp3 kp4
        intro U3 X3 hA hB2
        have hx : Below V3.heap.size V3 X3 := bthen (hA.alloc hA.size _) hB2
        have hg : V3.heap.size ≤ U3.heap.size := hA.size
        have z0 : X3.cell? ⟨U3.heap.size, 0, none⟩ = some (.int .i64 0) := ((bcell hB2).1 _ _ (by simp)).trans (by go_simp)
        have fz0 : X3.frozen? ⟨U3.heap.size, 0, none⟩ = false := ((bcell hB2).2 _ _ (by simp)).trans (by go_simp)
        have z1 : X3.cell? ⟨U3.heap.size, 1, none⟩ = some (.int .i64 0) := ((bcell hB2).1 _ _ (by simp)).trans (by go_simp)
        have fz1 : X3.frozen? ⟨U3.heap.size, 1, none⟩ = false := ((bcell hB2).2 _ _ (by simp)).trans (by go_simp)
        have z2 : X3.cell? ⟨U3.heap.size, 2, none⟩ = some (.bool false) := ((bcell hB2).1 _ _ (by simp)).trans (by go_simp)
        have fz2 : X3.frozen? ⟨U3.heap.size, 2, none⟩ = false := ((bcell hB2).2 _ _ (by simp)).trans (by go_simp)
        clear hA hB2
        obtain ⟨g3, hgg⟩ : ∃ g, U3.heap.size = g := ⟨_, rfl⟩
        rw [hgg] at hg z0 fz0 z1 fz1 z2 fz2
        rw [hgg]
        clear hgg U3
        go_wp2
        refine ⟨rfl, by go_grown, ?_⟩
        intro Y3 hB hE
        have hc := (bcell hB).1
        have hf := (bcell hB).2
        have hz := hB.size
        have fu0n : Y3.frozen? ⟨w.heap.size, 0, none⟩ = false := (hf _ _ (cell_lt u0)).trans fu0
        clear fu0
        have fu0 := fu0n
        clear fu0n
        have u0n : Y3.cell? ⟨w.heap.size, 0, none⟩ = some (.int .i64 0) := (hc _ _ (cell_lt u0)).trans u0
        clear u0
        have u0 := u0n
        clear u0n
        have fu1n : Y3.frozen? ⟨w.heap.size, 1, none⟩ = false := (hf _ _ (cell_lt u1)).trans fu1
        clear fu1
        have fu1 := fu1n
        clear fu1n
        have u1n : Y3.cell? ⟨w.heap.size, 1, none⟩ = some (.int .i64 0) := (hc _ _ (cell_lt u1)).trans u1
        clear u1
        have u1 := u1n
        clear u1n
        have fu2n : Y3.frozen? ⟨w.heap.size, 2, none⟩ = false := (hf _ _ (cell_lt u2)).trans fu2
        clear fu2
        have fu2 := fu2n
        clear fu2n
        have u2n : Y3.cell? ⟨w.heap.size, 2, none⟩ = some (.bool false) := (hc _ _ (cell_lt u2)).trans u2
        clear u2
        have u2 := u2n
        clear u2n
        have y0n : Y3.cell? ⟨b1, o1 + k * 2, none⟩ = some (.int .i64 m) := (hc _ _ (cell_lt y0)).trans y0
        clear y0
        have y0 := y0n
        clear y0n
        have y1n : Y3.cell? ⟨b1, o1 + k * 2 + 1, none⟩ = some (.int .i64 d) := (hc _ _ (cell_lt y1)).trans y1
        clear y1
        have y1 := y1n
        clear y1n
        have q0n : Y3.cell? ⟨b2, o2 + k * 5, none⟩ = some (.int .i64 c0) := (hc _ _ (cell_lt q0)).trans q0
        clear q0
        have q0 := q0n
        clear q0n
        have q1n : Y3.cell? ⟨b2, o2 + k * 5 + 1, none⟩ = some (.int .i64 c1) := (hc _ _ (cell_lt q1)).trans q1
        clear q1
        have q1 := q1n
        clear q1n
        have q2n : Y3.cell? ⟨b2, o2 + k * 5 + 2, none⟩ = some (.int .i64 c2) := (hc _ _ (cell_lt q2)).trans q2
        clear q2
        have q2 := q2n
        clear q2n
        have q3n : Y3.cell? ⟨b2, o2 + k * 5 + 3, none⟩ = some (.int .i64 c3) := (hc _ _ (cell_lt q3)).trans q3
        clear q3
        have q3 := q3n
        clear q3n
        have q4n : Y3.cell? ⟨b2, o2 + k * 5 + 4, none⟩ = some (.int .i64 c4) := (hc _ _ (cell_lt q4)).trans q4
        clear q4
        have q4 := q4n
        clear q4n
        have p0n : Y3.cell? ⟨wr.heap.size, 0, none⟩ = some (.int .i64 c0) := (hc _ _ (cell_lt p0)).trans p0
        clear p0
        have p0 := p0n
        clear p0n
        have p1n : Y3.cell? ⟨wr.heap.size, 1, none⟩ = some (.int .i64 c1) := (hc _ _ (cell_lt p1)).trans p1
        clear p1
        have p1 := p1n
        clear p1n
        have p2n : Y3.cell? ⟨wr.heap.size, 2, none⟩ = some (.int .i64 c2) := (hc _ _ (cell_lt p2)).trans p2
        clear p2
        have p2 := p2n
        clear p2n
        have p3n : Y3.cell? ⟨wr.heap.size, 3, none⟩ = some (.int .i64 c3) := (hc _ _ (cell_lt p3)).trans p3
        clear p3
        have p3 := p3n
        clear p3n
        have p4n : Y3.cell? ⟨wr.heap.size, 4, none⟩ = some (.int .i64 c4) := (hc _ _ (cell_lt p4)).trans p4
        clear p4
        have p4 := p4n
        clear p4n
        have x0 : Y3.cell? ⟨g3, 0, none⟩ = some (.int .i64 lo) := later_of hE (by go_simp)
        have x1 : Y3.cell? ⟨g3, 1, none⟩ = some (.int .i64 hi) := later_of hE (by go_simp)
        have x2 : Y3.cell? ⟨g3, 2, none⟩ = some (.bool so) := later_of hE (by go_simp)
        clear z0 fz0 z1 fz1 z2 fz2 hE hx
        have hzY3 : V3.heap.size ≤ Y3.heap.size := hz
        have hgg3 : V3.heap.size ≤ g3 := hg
        have hbn : Below wr.heap.size wr Y3 := bthen hb0 hB
        clear hb0
        have hb0 := hbn
        clear hbn hc hf hB hz hg
        have hown2 := own_below HO.out hb0
        have hzl := hb0.size
        have hszb := HBR.out.size
        have HO2 := Lib.hid hown2
        have HB2 := Lib.hid (bthen HBR.out hb0)
        have htk := HTK.out
        clear hown2 hb0
        go_wp2_with (at_builtin; refine stuckHere ?_)
        refine unHid ?_
        refine wpList_append_own_at _ rfl _ _ 74 rfl W1.heap.size 33 i0 _ 3 24 Try.underlying74 hi0 hz0 hz1 hz2 rfl (by decide) _ _ _ rfl (HO2.out.alloc _) ⟨Y3.heap.size, 0, none⟩ 1 1 [.int .i64 lo, .int .i64 hi, .bool so] rfl rfl (cells_new _ #[_, _, _] _) (by simp [Value.oneCell']) (by unfold maxLen; omega) (by omega) (by simp; omega) ?_
        intro v' w1 hown' hgrow _ hat
        have hlt' := HO2.out.lt
        have hbb : Below W1.heap.size W1 w1 := by
          have h1 : Below W1.heap.size W1 (Y3.alloc (Obj.cells #[.int .i64 lo, .int .i64 hi, .bool so] 33)) := HB2.out.alloc HB2.out.size _
          exact h1.trans ((kept_of_grown hgrow).below (by have := HB2.out.size; simp; omega) (fun j hj => (hlt' j hj).1))
        have hown2 : w1.ownsRow W1.heap.size 33 3 v' ((ivsP R C).take (k + 1)).length (cellsL ivC ((ivsP R C).take (k + 1))) := by
          rw [HIV.out, cellsL_snoc, List.length_append]
          exact hown'
        have HB3 := Lib.hid hbb
        have HO3 := Lib.hid hown2
        clear hown' hgrow hat hlt' hbb hown2
        go_wp2
        go_roundw
        case rel => exact ⟨k + 1, by omega, by go_num, H4.out, HO3.out, HB3.out⟩
        case measure => simp [intOf]; omega
    · obtain ⟨wp, rfl⟩ : ∃ x : World, x = wr := ⟨_, rfl⟩
      obtain rfl : k = C.length := by omega
      have hown := HO.out
      have hlen := HLEN.out
      have hfine := fine_ivsP R C
      have hbf : badP R C = false := badP_not HOK.out
      have hval : passV R C = if (allV (ivsP R C)).some then (allV (ivsP R C), [], 0) else (Iv.none, pairV (ivsP R C) 0, 0) := by rw [HV.out, hbf]; rfl
      rw [List.take_of_length_le (by omega)] at hown
      have HVAL := Lib.hid hval
      clear hval hbf hlt hbr hbw
      generalize ivsP R C = l at *
      obtain ⟨g, o, cl, rfl, hl, hcl, hg⟩ := iv_row hown (by omega) (by omega)
      have hat : ∀ k, k < l.length → IvAt wp g (o + k * 3) (iv l k) := by
        obtain ⟨g', o', e, hat⟩ := hl.2 (by intro e; rw [e] at hlen; simp at hlen; omega)
        cases e
        exact hat
      obtain ⟨y0, y1, y2⟩ := hat 0 (by omega)
      simp only [Nat.zero_mul, Nat.add_zero] at y0 y1 y2
      have hfa := fine_all hfine (by omega)
      have hj := fun W (hb : Below wp.heap.size wp W) cap => c_joined 85 (enters_of Try.func85 (by kernel_rfl) rfl) meet op_meet (iv l 0) (l.drop 1) (if cl = 1 then some ⟨g, o, none⟩ else some ⟨g, o + 3, none⟩) cap W (ivs_rest hl hlen h0 hcl hb)
      have hav : (l.drop 1).foldl meet (iv l 0) = allV l := rfl
      rw [hav, List.length_drop, hlen] at hj
      dsimp only [Iv.v] at hj
      have HL := Lib.hid hl
      have HF := Lib.hid hfine
      have hb0 : Below wp.heap.size wp wp := Below.refl _ _
      generalize (iv l 0).lo = r0 at *
      generalize (iv l 0).hi = r1 at *
      generalize (iv l 0).some = r2 at *
      obtain ⟨⟨lo, hi, so⟩, hxx⟩ : ∃ x, allV l = x := ⟨_, rfl⟩
      rw [hxx] at hj hfa HVAL
      have HJ := Lib.hid hj
      clear hown hl hat hj hav hxx hfine
      have hi1 : (1 : Int) ≤ (l.length : Int) := by omega
      have hi0 : (0 : Int) < (l.length : Int) := by omega
      as_aux_lemma =>
      go_upto_region 14 with (fail)
      refine wp_region_alloc 6 wp (.cells #[.int .i64 0, .int .i64 0, .bool false] 33) (by rfl) (by rfl) ⟨by rfl, fun _ _ => by simp [go_sem]⟩ ⟨by rfl, by rfl, _, _, _, by rfl⟩ (by kernel_rfl) (Below.refl _ _) ?_
      intro V2 hB
      have hc := (bcell hB).1
      have hf := (bcell hB).2
      have hz := hB.size
      have fu0n : V2.frozen? ⟨w.heap.size, 0, none⟩ = false := (hf _ _ (cell_lt u0)).trans fu0
      clear fu0
      have fu0 := fu0n
      clear fu0n
      have u0n : V2.cell? ⟨w.heap.size, 0, none⟩ = some (.int .i64 0) := (hc _ _ (cell_lt u0)).trans u0
      clear u0
      have u0 := u0n
      clear u0n
      have fu1n : V2.frozen? ⟨w.heap.size, 1, none⟩ = false := (hf _ _ (cell_lt u1)).trans fu1
      clear fu1
      have fu1 := fu1n
      clear fu1n
      have u1n : V2.cell? ⟨w.heap.size, 1, none⟩ = some (.int .i64 0) := (hc _ _ (cell_lt u1)).trans u1
      clear u1
      have u1 := u1n
      clear u1n
      have fu2n : V2.frozen? ⟨w.heap.size, 2, none⟩ = false := (hf _ _ (cell_lt u2)).trans fu2
      clear fu2
      have fu2 := fu2n
      clear fu2n
      have u2n : V2.cell? ⟨w.heap.size, 2, none⟩ = some (.bool false) := (hc _ _ (cell_lt u2)).trans u2
      clear u2
      have u2 := u2n
      clear u2n
      have y0n : V2.cell? ⟨g, o, none⟩ = some (.int .i64 r0) := (hc _ _ (cell_lt y0)).trans y0
      clear y0
      have y0 := y0n
      clear y0n
      have y1n : V2.cell? ⟨g, o + 1, none⟩ = some (.int .i64 r1) := (hc _ _ (cell_lt y1)).trans y1
      clear y1
      have y1 := y1n
      clear y1n
      have y2n : V2.cell? ⟨g, o + 2, none⟩ = some (.bool r2) := (hc _ _ (cell_lt y2)).trans y2
      clear y2
      have y2 := y2n
      clear y2n
      have hbn : Below wp.heap.size wp V2 := bthen hb0 hB
      clear hb0
      have hb0 := hbn
      clear hbn
      have hzV2 : wp.heap.size ≤ V2.heap.size := hz
      clear hc hf hB hz
      simp only [List.take_succ_cons, List.take_zero, List.drop_succ_cons, List.drop_zero]
      have ku0 := later_cell u0
      have ku1 := later_cell u1
      have ku2 := later_cell u2
      have ky0 := later_cell y0
      have ky1 := later_cell y1
      have ky2 := later_cell y2
      repeat (go_big_quiet_step (first | (go_at_call 84; with_reducible exact in_region (HJ.out _ (bthen hb0 (Subtype.property _)) _))))
      refine wpQuiet_nil ?_
      clear ku0 ku1 ku2 ky0 ky1 ky2
      intro U2 X2 hA hB2
      have hx : Below V2.heap.size V2 X2 := bthen (hA.alloc hA.size _) hB2
      have hg : V2.heap.size ≤ U2.heap.size := hA.size
      have z0 : X2.cell? ⟨U2.heap.size, 0, none⟩ = some (.int .i64 0) := ((bcell hB2).1 _ _ (by simp)).trans (by go_simp)
      have fz0 : X2.frozen? ⟨U2.heap.size, 0, none⟩ = false := ((bcell hB2).2 _ _ (by simp)).trans (by go_simp)
      have z1 : X2.cell? ⟨U2.heap.size, 1, none⟩ = some (.int .i64 0) := ((bcell hB2).1 _ _ (by simp)).trans (by go_simp)
      have fz1 : X2.frozen? ⟨U2.heap.size, 1, none⟩ = false := ((bcell hB2).2 _ _ (by simp)).trans (by go_simp)
      have z2 : X2.cell? ⟨U2.heap.size, 2, none⟩ = some (.bool false) := ((bcell hB2).1 _ _ (by simp)).trans (by go_simp)
      have fz2 : X2.frozen? ⟨U2.heap.size, 2, none⟩ = false := ((bcell hB2).2 _ _ (by simp)).trans (by go_simp)
      clear hA hB2
      obtain ⟨g2, hgg⟩ : ∃ g, U2.heap.size = g := ⟨_, rfl⟩
      rw [hgg] at hg z0 fz0 z1 fz1 z2 fz2
      rw [hgg]
      clear hgg U2
      generalize (if cl = 1 then some (⟨g, o, none⟩ : Addr) else some ⟨g, o + 3, none⟩) = A
      go_wp2
      refine ⟨rfl, by go_grown, ?_⟩
      intro Y2 hB hE
      have hc := (bcell hB).1
      have hf := (bcell hB).2
      have hz := hB.size
      have fu0n : Y2.frozen? ⟨w.heap.size, 0, none⟩ = false := (hf _ _ (cell_lt u0)).trans fu0
      clear fu0
      have fu0 := fu0n
      clear fu0n
      have u0n : Y2.cell? ⟨w.heap.size, 0, none⟩ = some (.int .i64 0) := (hc _ _ (cell_lt u0)).trans u0
      clear u0
      have u0 := u0n
      clear u0n
      have fu1n : Y2.frozen? ⟨w.heap.size, 1, none⟩ = false := (hf _ _ (cell_lt u1)).trans fu1
      clear fu1
      have fu1 := fu1n
      clear fu1n
      have u1n : Y2.cell? ⟨w.heap.size, 1, none⟩ = some (.int .i64 0) := (hc _ _ (cell_lt u1)).trans u1
      clear u1
      have u1 := u1n
      clear u1n
      have fu2n : Y2.frozen? ⟨w.heap.size, 2, none⟩ = false := (hf _ _ (cell_lt u2)).trans fu2
      clear fu2
      have fu2 := fu2n
      clear fu2n
      have u2n : Y2.cell? ⟨w.heap.size, 2, none⟩ = some (.bool false) := (hc _ _ (cell_lt u2)).trans u2
      clear u2
      have u2 := u2n
      clear u2n
      have y0n : Y2.cell? ⟨g, o, none⟩ = some (.int .i64 r0) := (hc _ _ (cell_lt y0)).trans y0
      clear y0
      have y0 := y0n
      clear y0n
      have y1n : Y2.cell? ⟨g, o + 1, none⟩ = some (.int .i64 r1) := (hc _ _ (cell_lt y1)).trans y1
      clear y1
      have y1 := y1n
      clear y1n
      have y2n : Y2.cell? ⟨g, o + 2, none⟩ = some (.bool r2) := (hc _ _ (cell_lt y2)).trans y2
      clear y2
      have y2 := y2n
      clear y2n
      have x0 : Y2.cell? ⟨g2, 0, none⟩ = some (.int .i64 lo) := later_of hE (by go_simp)
      have x1 : Y2.cell? ⟨g2, 1, none⟩ = some (.int .i64 hi) := later_of hE (by go_simp)
      have x2 : Y2.cell? ⟨g2, 2, none⟩ = some (.bool so) := later_of hE (by go_simp)
      clear z0 fz0 z1 fz1 z2 fz2 hE hx
      have hzY2 : V2.heap.size ≤ Y2.heap.size := hz
      have hgg2 : V2.heap.size ≤ g2 := hg
      have hbn : Below wp.heap.size wp Y2 := bthen hb0 hB
      clear hb0
      have hb0 := hbn
      clear hbn hc hf hB hz hg
      cases so
      · have hz0 := hfa.2 rfl
        simp only [Iv.none, Iv.mk.injEq, and_true] at hz0
        obtain ⟨rfl, rfl⟩ := hz0
        have HP : Hid (passV R C = (Iv.none, pairV l 0, 0)) := Lib.hid (by rw [HVAL.out]; rfl)
        clear hfa
        go_wp2
        go_loopw [70] (fun v70 wq => ∃ i : Nat, i ≤ C.length ∧ v70 = .int .i64 i ∧ pairV l 0 = pairV (l.drop i) i ∧ Below Y2.heap.size Y2 wq) (fun v70 _ => C.length - (intOf v70).toNat)
        case atStart => exact ⟨0, by omega, rfl, rfl, Below.refl _ _⟩
        case round =>
          obtain ⟨wq, rfl⟩ : ∃ x : World, x = wr := ⟨_, rfl⟩
          obtain ⟨i, hi, rfl, hpv, hbq⟩ := hrel
          have hbw := bthen hb0 hbq
          have HPV := Lib.hid hpv
          have HBQ := Lib.hid hbq
          have HBQW := Lib.hid hbw
          have u0q := ((bcell hbq).1 _ _ (cell_lt u0)).trans u0
          have fu0q := ((bcell hbq).2 _ _ (cell_lt u0)).trans fu0
          have u1q := ((bcell hbq).1 _ _ (cell_lt u1)).trans u1
          have fu1q := ((bcell hbq).2 _ _ (cell_lt u1)).trans fu1
          have u2q := ((bcell hbq).1 _ _ (cell_lt u2)).trans u2
          have fu2q := ((bcell hbq).2 _ _ (cell_lt u2)).trans fu2
          clear u0 u1 u2 y0 y1 y2 x0 x1 x2 fu0 fu1 fu2 hpv hbq hb0
          have u0 := u0q
          have fu0 := fu0q
          clear u0q fu0q
          have u1 := u1q
          have fu1 := fu1q
          clear u1q fu1q
          have u2 := u2q
          have fu2 := fu2q
          clear u2q fu2q
          have hb0 : Below wq.heap.size wq wq := Below.refl _ _
          by_cases hlt2 : i < C.length
          · have hat := (HL.out.later hbw).2 (by intro e; rw [e] at hlen; simp at hlen; omega)
            obtain ⟨g', o', e, hat⟩ := hat
            cases e
            obtain ⟨p0, p1, p2⟩ := hat i (by omega)
            have hst := pairV_step (l := l) (i := i) (by omega)
            have HST := Lib.hid hst
            have hi1 : ¬ (i : Int) < 0 := by omega
            have hi2 : (i : Int) < (l.length : Int) := by omega
            have hi3 : (i : Int) < (C.length : Int) := by omega
            have hat2 := hat
            have HAT := Lib.hid hat
            clear hat hst hat2 hbw
            have hbo := fun y W => c_Both (iv l i) y W
            dsimp only [Iv.v] at hbo
            obtain ⟨pv, hpv⟩ : ∃ x, iv l i = x := ⟨_, rfl⟩
            rw [hpv] at p0 p1 p2 hbo HST
            clear hpv
            obtain ⟨a0, a1, a2⟩ := pv
            dsimp only at p0 p1 p2 hbo
            have HBO := Lib.hid hbo
            clear hbo
            as_aux_lemma =>
            go_upto_region 20 with (fail)
            go_name_world W3 hW3
            have hbz := hb0.size
            have hbn : Below wq.heap.size wq W3 := by subst hW3; go_grown
            clear hb0 hbz
            have hb0 := hbn
            clear hbn
            have hbk : Below wq.heap.size wq W3 := by subst hW3; go_grown
            have u0n : W3.cell? ⟨w.heap.size, 0, none⟩ = some (.int .i64 0) := ((bcell hbk).1 _ _ (cell_lt u0)).trans u0
            have fu0n : W3.frozen? ⟨w.heap.size, 0, none⟩ = false := ((bcell hbk).2 _ _ (cell_lt u0)).trans fu0
            have u1n : W3.cell? ⟨w.heap.size, 1, none⟩ = some (.int .i64 0) := ((bcell hbk).1 _ _ (cell_lt u1)).trans u1
            have fu1n : W3.frozen? ⟨w.heap.size, 1, none⟩ = false := ((bcell hbk).2 _ _ (cell_lt u1)).trans fu1
            have u2n : W3.cell? ⟨w.heap.size, 2, none⟩ = some (.bool false) := ((bcell hbk).1 _ _ (cell_lt u2)).trans u2
            have fu2n : W3.frozen? ⟨w.heap.size, 2, none⟩ = false := ((bcell hbk).2 _ _ (cell_lt u2)).trans fu2
            have p0n : W3.cell? ⟨g, o + i * 3, none⟩ = some (.int .i64 a0) := ((bcell hbk).1 _ _ (cell_lt p0)).trans p0
            have p1n : W3.cell? ⟨g, o + i * 3 + 1, none⟩ = some (.int .i64 a1) := ((bcell hbk).1 _ _ (cell_lt p1)).trans p1
            have p2n : W3.cell? ⟨g, o + i * 3 + 2, none⟩ = some (.bool a2) := ((bcell hbk).1 _ _ (cell_lt p2)).trans p2
            clear hbk
            have m0n : W3.cell? ⟨wq.heap.size, 0, none⟩ = some (.int .i64 a0) := by subst hW3; go_simp
            have m1n : W3.cell? ⟨wq.heap.size, 1, none⟩ = some (.int .i64 a1) := by subst hW3; go_simp
            have m2n : W3.cell? ⟨wq.heap.size, 2, none⟩ = some (.bool a2) := by subst hW3; go_simp
            clear hW3 u0 u1 u2 p0 p1 p2 fu0 fu1 fu2
            have u0 := u0n
            have fu0 := fu0n
            have u1 := u1n
            have fu1 := fu1n
            have u2 := u2n
            have fu2 := fu2n
            have p0 := p0n
            have p1 := p1n
            have p2 := p2n
            have m0 := m0n
            have m1 := m1n
            have m2 := m2n
            clear u0n u1n u2n p0n p1n p2n m0n m1n m2n fu0n fu1n fu2n
            have HBZ := Lib.hid hb0
            go_wp2
            go_loopw [15] (fun v15 wi => ∃ j : Nat, i ≤ j ∧ j ≤ C.length ∧ v15 = .int .i64 j ∧ idxV (meetB ⟨a0, a1, a2⟩) (l.drop i) i = idxV (meetB ⟨a0, a1, a2⟩) (l.drop j) j ∧ Below W3.heap.size W3 wi) (fun v15 _ => C.length - (intOf v15).toNat)
            case atStart => exact ⟨i, by omega, by omega, rfl, rfl, Below.refl _ _⟩
            case round =>
              obtain ⟨wi, rfl⟩ : ∃ x : World, x = wr := ⟨_, rfl⟩
              obtain ⟨j, hij, hj, rfl, hix, hbi⟩ := hrel
              have hbw := bthen HBQW.out (bthen hb0 hbi)
              have HIX := Lib.hid hix
              have HBI := Lib.hid hbi
              have HBIW := Lib.hid hbw
              have u0q := ((bcell hbi).1 _ _ (cell_lt u0)).trans u0
              have fu0q := ((bcell hbi).2 _ _ (cell_lt u0)).trans fu0
              have u1q := ((bcell hbi).1 _ _ (cell_lt u1)).trans u1
              have fu1q := ((bcell hbi).2 _ _ (cell_lt u1)).trans fu1
              have u2q := ((bcell hbi).1 _ _ (cell_lt u2)).trans u2
              have fu2q := ((bcell hbi).2 _ _ (cell_lt u2)).trans fu2
              have p0q := ((bcell hbi).1 _ _ (cell_lt p0)).trans p0
              have p1q := ((bcell hbi).1 _ _ (cell_lt p1)).trans p1
              have p2q := ((bcell hbi).1 _ _ (cell_lt p2)).trans p2
              have m0q := ((bcell hbi).1 _ _ (cell_lt m0)).trans m0
              have m1q := ((bcell hbi).1 _ _ (cell_lt m1)).trans m1
              have m2q := ((bcell hbi).1 _ _ (cell_lt m2)).trans m2
              clear u0 u1 u2 p0 p1 p2 m0 m1 m2 fu0 fu1 fu2 hix hbi hb0
              have u0 := u0q
              clear u0q
              have fu0 := fu0q
              clear fu0q
              have u1 := u1q
              clear u1q
              have fu1 := fu1q
              clear fu1q
              have u2 := u2q
              clear u2q
              have fu2 := fu2q
              clear fu2q
              have p0 := p0q
              clear p0q
              have p1 := p1q
              clear p1q
              have p2 := p2q
              clear p2q
              have m0 := m0q
              clear m0q
              have m1 := m1q
              clear m1q
              have m2 := m2q
              clear m2q
              have hb0 : Below wi.heap.size wi wi := Below.refl _ _
              by_cases hlt3 : j < C.length
              · have hat := (HL.out.later hbw).2 (by intro e; rw [e] at hlen; simp at hlen; omega)
                obtain ⟨g', o', e, hat⟩ := hat
                cases e
                obtain ⟨n0, n1, n2⟩ := hat j (by omega)
                have hjst := idxV_step (meetB ⟨a0, a1, a2⟩) l j (by omega)
                have HJST := Lib.hid hjst
                have hj1 : ¬ (j : Int) < 0 := by omega
                have hj2 : (j : Int) < (l.length : Int) := by omega
                have hj3 : (j : Int) < (C.length : Int) := by omega
                have hbo := HBO.out (iv l j)
                clear hat hjst hbw
                obtain ⟨qv, hqv⟩ : ∃ x, iv l j = x := ⟨_, rfl⟩
                rw [hqv] at n0 n1 n2 hbo HJST
                clear hqv
                obtain ⟨b0, b1, b2⟩ := qv
                dsimp only at n0 n1 n2 hbo
                have hmb : meetB ⟨a0, a1, a2⟩ ⟨b0, b1, b2⟩ = !(bothV ⟨a0, a1, a2⟩ ⟨b0, b1, b2⟩).some := rfl
                have hbn := both_none (x := ⟨a0, a1, a2⟩) (y := ⟨b0, b1, b2⟩)
                obtain ⟨⟨t0, t1, t2⟩, hbv⟩ : ∃ x, bothV ⟨a0, a1, a2⟩ ⟨b0, b1, b2⟩ = x := ⟨_, rfl⟩
                rw [hbv] at hbo hmb hbn
                dsimp only at hbo hmb
                clear hbv
                cases t2
                · have hz1 := hbn rfl
                  simp only [Iv.none, Iv.mk.injEq, and_true] at hz1
                  obtain ⟨rfl, rfl⟩ := hz1
                  have HO1 := Lib.hid hbo
                  have HP2 : Hid (passV R C = (Iv.none, [(i : Int), (j : Int)], 0)) := Lib.hid (by
                    have e : idxV (meetB ⟨a0, a1, a2⟩) (l.drop i) i = (j : Int) := by rw [HIX.out, HJST.out, hmb]; rfl
                    rw [HP.out, HPV.out, HST.out, e, if_pos (by omega)])
                  clear hbn hbo hmb
                  as_aux_lemma =>
                  go_upto_region 23 with (fail)
                  have ku0 := later_cell u0
                  have ku1 := later_cell u1
                  have ku2 := later_cell u2
                  have kp0 := later_cell p0
                  have kp1 := later_cell p1
                  have kp2 := later_cell p2
                  have km0 := later_cell m0
                  have km1 := later_cell m1
                  have km2 := later_cell m2
                  have kn0 := later_cell n0
                  have kn1 := later_cell n1
                  have kn2 := later_cell n2
                  refine wp_region_later wi (by kernel_rfl) (by kernel_rfl) (Below.refl _ _) ?_
                  repeat (go_big_quiet_step (first | (go_at_call 53; with_reducible exact in_region (HO1.out _))))
                  refine wpQuiet_nil ?_
                  rintro ⟨W4, hB⟩
                  dsimp only
                  have hc := (bcell hB).1
                  have hf := (bcell hB).2
                  have hz := hB.size
                  clear ku0 ku1 ku2 kp0 kp1 kp2 km0 km1 km2 kn0 kn1 kn2
                  have fu0n : W4.frozen? ⟨w.heap.size, 0, none⟩ = false := (hf _ _ (cell_lt u0)).trans fu0
                  clear fu0
                  have fu0 := fu0n
                  clear fu0n
                  have u0n : W4.cell? ⟨w.heap.size, 0, none⟩ = some (.int .i64 0) := (hc _ _ (cell_lt u0)).trans u0
                  clear u0
                  have u0 := u0n
                  clear u0n
                  have fu1n : W4.frozen? ⟨w.heap.size, 1, none⟩ = false := (hf _ _ (cell_lt u1)).trans fu1
                  clear fu1
                  have fu1 := fu1n
                  clear fu1n
                  have u1n : W4.cell? ⟨w.heap.size, 1, none⟩ = some (.int .i64 0) := (hc _ _ (cell_lt u1)).trans u1
                  clear u1
                  have u1 := u1n
                  clear u1n
                  have fu2n : W4.frozen? ⟨w.heap.size, 2, none⟩ = false := (hf _ _ (cell_lt u2)).trans fu2
                  clear fu2
                  have fu2 := fu2n
                  clear fu2n
                  have u2n : W4.cell? ⟨w.heap.size, 2, none⟩ = some (.bool false) := (hc _ _ (cell_lt u2)).trans u2
                  clear u2
                  have u2 := u2n
                  clear u2n
                  have p0n : W4.cell? ⟨g, o + i * 3, none⟩ = some (.int .i64 a0) := (hc _ _ (cell_lt p0)).trans p0
                  clear p0
                  have p0 := p0n
                  clear p0n
                  have p1n : W4.cell? ⟨g, o + i * 3 + 1, none⟩ = some (.int .i64 a1) := (hc _ _ (cell_lt p1)).trans p1
                  clear p1
                  have p1 := p1n
                  clear p1n
                  have p2n : W4.cell? ⟨g, o + i * 3 + 2, none⟩ = some (.bool a2) := (hc _ _ (cell_lt p2)).trans p2
                  clear p2
                  have p2 := p2n
                  clear p2n
                  have m0n : W4.cell? ⟨wq.heap.size, 0, none⟩ = some (.int .i64 a0) := (hc _ _ (cell_lt m0)).trans m0
                  clear m0
                  have m0 := m0n
                  clear m0n
                  have m1n : W4.cell? ⟨wq.heap.size, 1, none⟩ = some (.int .i64 a1) := (hc _ _ (cell_lt m1)).trans m1
                  clear m1
                  have m1 := m1n
                  clear m1n
                  have m2n : W4.cell? ⟨wq.heap.size, 2, none⟩ = some (.bool a2) := (hc _ _ (cell_lt m2)).trans m2
                  clear m2
                  have m2 := m2n
                  clear m2n
                  have n0n : W4.cell? ⟨g, o + j * 3, none⟩ = some (.int .i64 b0) := (hc _ _ (cell_lt n0)).trans n0
                  clear n0
                  have n0 := n0n
                  clear n0n
                  have n1n : W4.cell? ⟨g, o + j * 3 + 1, none⟩ = some (.int .i64 b1) := (hc _ _ (cell_lt n1)).trans n1
                  clear n1
                  have n1 := n1n
                  clear n1n
                  have n2n : W4.cell? ⟨g, o + j * 3 + 2, none⟩ = some (.bool b2) := (hc _ _ (cell_lt n2)).trans n2
                  clear n2
                  have n2 := n2n
                  clear n2n
                  have hbn : Below wi.heap.size wi W4 := bthen hb0 hB
                  clear hb0
                  have hb0 := hbn
                  clear hbn
                  have hzW4 : wi.heap.size ≤ W4.heap.size := hz
                  clear hc hf hB hz
                  have hlt9 := cell_lt u0
                  clear h h0 h1 h0' h' hsz hk hlen hcl hg hi0 hzV2 hzY2 hgg2 hi hlt2 hi2 hi3 hi1 hij hj hlt3 hj1 hj2 hj3 hzW4 p0 p1 p2 m0 m1 m2 n0 n1 n2
                  go_wp2
                  refine bodyPost_ret (v := .tuple #[Iv.none.v, .slice (some ⟨W4.heap.size, 0, none⟩) 2 2, .int .i64 0]) (by simp [results, Try.results51, go_sem, Iv.none, u0, u1, u2, hlt9]) rfl ⟨by rw [HP2.out]; exact ⟨_, _, rfl, ints_two (by go_simp) (by go_simp)⟩, ?_⟩
                  have hbz := hb0.size
                  have hbz2 := HBIW.out.size
                  have hbz3 := HBW.out.size
                  have hbn := bthen HBW.out (bthen HBIW.out hb0)
                  clear hb0
                  go_grown
                · have HO1 := Lib.hid hbo
                  have HN := Lib.hid hmb
                  clear hbn hbo hmb
                  as_aux_lemma =>
                  go_upto_region 23 with (fail)
                  have ku0 := later_cell u0
                  have ku1 := later_cell u1
                  have ku2 := later_cell u2
                  have kp0 := later_cell p0
                  have kp1 := later_cell p1
                  have kp2 := later_cell p2
                  have km0 := later_cell m0
                  have km1 := later_cell m1
                  have km2 := later_cell m2
                  have kn0 := later_cell n0
                  have kn1 := later_cell n1
                  have kn2 := later_cell n2
                  refine wp_region_later wi (by kernel_rfl) (by kernel_rfl) (Below.refl _ _) ?_
                  repeat (go_big_quiet_step (first | (go_at_call 53; with_reducible exact in_region (HO1.out _))))
                  refine wpQuiet_nil ?_
                  rintro ⟨W4, hB⟩
                  dsimp only
                  have hc := (bcell hB).1
                  have hf := (bcell hB).2
                  have hz := hB.size
                  clear ku0 ku1 ku2 kp0 kp1 kp2 km0 km1 km2 kn0 kn1 kn2
                  have fu0n : W4.frozen? ⟨w.heap.size, 0, none⟩ = false := (hf _ _ (cell_lt u0)).trans fu0
                  clear fu0
                  have fu0 := fu0n
                  clear fu0n
                  have u0n : W4.cell? ⟨w.heap.size, 0, none⟩ = some (.int .i64 0) := (hc _ _ (cell_lt u0)).trans u0
                  clear u0
                  have u0 := u0n
                  clear u0n
                  have fu1n : W4.frozen? ⟨w.heap.size, 1, none⟩ = false := (hf _ _ (cell_lt u1)).trans fu1
                  clear fu1
                  have fu1 := fu1n
                  clear fu1n
                  have u1n : W4.cell? ⟨w.heap.size, 1, none⟩ = some (.int .i64 0) := (hc _ _ (cell_lt u1)).trans u1
                  clear u1
                  have u1 := u1n
                  clear u1n
                  have fu2n : W4.frozen? ⟨w.heap.size, 2, none⟩ = false := (hf _ _ (cell_lt u2)).trans fu2
                  clear fu2
                  have fu2 := fu2n
                  clear fu2n
                  have u2n : W4.cell? ⟨w.heap.size, 2, none⟩ = some (.bool false) := (hc _ _ (cell_lt u2)).trans u2
                  clear u2
                  have u2 := u2n
                  clear u2n
                  have p0n : W4.cell? ⟨g, o + i * 3, none⟩ = some (.int .i64 a0) := (hc _ _ (cell_lt p0)).trans p0
                  clear p0
                  have p0 := p0n
                  clear p0n
                  have p1n : W4.cell? ⟨g, o + i * 3 + 1, none⟩ = some (.int .i64 a1) := (hc _ _ (cell_lt p1)).trans p1
                  clear p1
                  have p1 := p1n
                  clear p1n
                  have p2n : W4.cell? ⟨g, o + i * 3 + 2, none⟩ = some (.bool a2) := (hc _ _ (cell_lt p2)).trans p2
                  clear p2
                  have p2 := p2n
                  clear p2n
                  have m0n : W4.cell? ⟨wq.heap.size, 0, none⟩ = some (.int .i64 a0) := (hc _ _ (cell_lt m0)).trans m0
                  clear m0
                  have m0 := m0n
                  clear m0n
                  have m1n : W4.cell? ⟨wq.heap.size, 1, none⟩ = some (.int .i64 a1) := (hc _ _ (cell_lt m1)).trans m1
                  clear m1
                  have m1 := m1n
                  clear m1n
                  have m2n : W4.cell? ⟨wq.heap.size, 2, none⟩ = some (.bool a2) := (hc _ _ (cell_lt m2)).trans m2
                  clear m2
                  have m2 := m2n
                  clear m2n
                  have n0n : W4.cell? ⟨g, o + j * 3, none⟩ = some (.int .i64 b0) := (hc _ _ (cell_lt n0)).trans n0
                  clear n0
                  have n0 := n0n
                  clear n0n
                  have n1n : W4.cell? ⟨g, o + j * 3 + 1, none⟩ = some (.int .i64 b1) := (hc _ _ (cell_lt n1)).trans n1
                  clear n1
                  have n1 := n1n
                  clear n1n
                  have n2n : W4.cell? ⟨g, o + j * 3 + 2, none⟩ = some (.bool b2) := (hc _ _ (cell_lt n2)).trans n2
                  clear n2
                  have n2 := n2n
                  clear n2n
                  have hbn : Below wi.heap.size wi W4 := bthen hb0 hB
                  clear hb0
                  have hb0 := hbn
                  clear hbn
                  have hzW4 : wi.heap.size ≤ W4.heap.size := hz
                  clear hc hf hB hz
                  go_wp2
                  go_roundw
                  case rel => exact ⟨j + 1, by omega, by omega, by go_num, by rw [HIX.out, HJST.out, HN.out]; rfl, bthen HBI.out hb0⟩
                  case measure => simp [intOf]; omega
              · obtain rfl : j = C.length := by omega
                have HPN : Hid (pairV l 0 = pairV (l.drop (i + 1)) (i + 1)) := Lib.hid (by
                  rw [HPV.out, HST.out, HIX.out, idxV_end _ _ (by omega), if_neg (by omega)])
                go_wp2
                go_roundw
                case rel => exact ⟨i + 1, by omega, by go_num, HPN.out, bthen HBQ.out (bthen HBZ.out HBI.out)⟩
                case measure => simp [intOf]; omega
          · obtain rfl : i = C.length := by omega
            have HP2 : Hid (passV R C = (Iv.none, [], 0)) := Lib.hid (by rw [HP.out, HPV.out, pairV_end _ (by omega)])
            go_wp2
            refine bodyPost_ret (v := .tuple #[Iv.none.v, .slice none 0 0, .int .i64 0]) (by simp [results, Try.results51, go_sem, Iv.none, u0, u1, u2]) rfl ⟨by rw [HP2.out]; exact ⟨_, _, rfl, Ints.nil _⟩, ?_⟩
            have hbz := hb0.size
            have hbz2 := HBQW.out.size
            have hbz3 := HBW.out.size
            have hbn := bthen HBW.out HBQW.out
            clear hb0
            go_grown
      · have HP : Hid (passV R C = (⟨lo, hi, true⟩, [], 0)) := Lib.hid (by rw [HVAL.out]; rfl)
        go_wp2
        refine bodyPost_ret (v := .tuple #[.agg #[.int .i64 lo, .int .i64 hi, .bool true], .slice none 0 0, .int .i64 0]) (by simp [results, Try.results51, go_sem, u0, u1, u2]) rfl ⟨by rw [HP.out]; exact ⟨_, _, rfl, Ints.nil _⟩, ?_⟩
        have hbz := hb0.size
        have hbz2 := HBW.out.size
        have hbn := bthen HBW.out hb0
        clear hb0
        go_grown

theorem c_Passage (R : List Rt) (C : List Ct) (a b : Option Addr) (ca cb : Nat) (w : World) (hR : Rts w a R) (hC : Cts w b C) :
    Calls Try.prog 51 #[.slice a R.length ca, .slice b C.length cb] w (GivesP (passV R C) w) := by
  by_cases h : 200 < C.length
  · exact c_Passage_many R C a b ca cb w h hC.1
  by_cases h0 : C.length = 0
  · exact c_Passage_zero R C a b ca cb w h0
  by_cases h1 : R.length = C.length
  · have := c_Passage_main R C a b ca cb w h h0 h1 hR hC
    rwa [← h1] at this ⊢
  · exact c_Passage_len R C a b ca cb w h h0 h1 hR.1
end Go.Proofs.Ytokpjaodchcheaa
