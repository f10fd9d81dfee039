/- This text proves plain laws of the rate that re-counts ask: by it none of them is wrong, by a lesser one some is, and the re-counts on which it rests ask it by themselves. No program in sight. -/
import Derived.Test.YtokpjaodchcheaaWhyPlain
import Derived.Test.YtokpjaodchcheaaWrong
namespace Go.Proofs.Ytokpjaodchcheaa

theorem miss_spec {t n : Int} (h : (missV t n).2 = true) : lowN (missV t n).1 t ≤ n ∧ ∀ k : Int, 0 ≤ k → k < (missV t n).1 → ¬ lowN k t ≤ n := by
  have h1 := ft_yes (fun k => decide (lowN k t ≤ n)) 501
  have h2 := fun j => ft_no (fun k => decide (lowN k t ≤ n)) 501 j
  unfold missV askedV askR at *
  by_cases ho : okA t n = true
  · rw [if_pos ho] at *
    by_cases hf : ft (fun k => decide (lowN k t ≤ n)) 501 ≤ 500
    · rw [if_pos hf] at *
      refine ⟨of_decide_eq_true (h1 (by omega)), fun k h0 hk => ?_⟩
      have := h2 k.toNat (by simp only at hk; omega)
      rw [show ((k.toNat : Nat) : Int) = k by omega] at this
      exact of_decide_eq_false this
    · rw [if_neg hf] at h; cases h
  · rw [if_neg ho] at h; cases h
theorem doub_spec {t n : Int} (h : (doubV t n).2 = true) : n ≤ highN (doubV t n).1 t ∧ ∀ k : Int, 0 ≤ k → k < (doubV t n).1 → ¬ n ≤ highN k t := by
  have h1 := ft_yes (fun k => decide (n ≤ highN k t)) 501
  have h2 := fun j => ft_no (fun k => decide (n ≤ highN k t)) 501 j
  unfold doubV askedV askR at *
  by_cases ho : okA t n = true
  · rw [if_pos ho] at *
    by_cases hf : ft (fun k => decide (n ≤ highN k t)) 501 ≤ 500
    · rw [if_pos hf] at *
      refine ⟨of_decide_eq_true (h1 (by omega)), fun k h0 hk => ?_⟩
      have := h2 k.toNat (by simp only at hk; omega)
      rw [show ((k.toNat : Nat) : Int) = k by omega] at this
      exact of_decide_eq_false this
    · rw [if_neg hf] at h; cases h
  · rw [if_neg ho] at h; cases h
theorem low_mono {m m2 n : Int} (hn : 0 ≤ n) (h : m ≤ m2) : lowN m2 n ≤ lowN m n := by
  unfold lowN
  have := Int.mul_le_mul_of_nonneg_left h hn
  omega
theorem high_mono {m m2 n : Int} (hn : 0 ≤ n) (h : m ≤ m2) : highN m n ≤ highN m2 n := by
  unfold highN
  have := Int.mul_le_mul_of_nonneg_left h hn
  omega
theorem ok_range {x : Rc} (h : x.ok = true) : (1 ≤ x.t ∧ x.t ≤ 100000) ∧ (0 ≤ x.n ∧ x.n ≤ 200000) := by
  unfold Rc.ok recountB inR at h
  simp only [Bool.and_eq_true, decide_eq_true_eq] at h
  omega
theorem okNC_of {p q : Int} {x : Rc} (hr : rateB p q = true) (h : x.ok = true) : okNC p q x.t x.n = true := by
  have := ok_range h
  unfold okNC
  rw [hr]
  simp [inR]
  omega

section
variable {m d : Int} {l : List Rc} {shep known ra rb : Int}
theorem in_shep {x : Rc} (hx : x ∈ ofShep shep (cnt known l)) : x ∈ l ∧ x.s = shep ∧ x.k ≤ known := by
  unfold ofShep cnt at hx
  simp only [List.mem_filter, decide_eq_true_eq, beq_iff_eq] at hx
  exact ⟨hx.1.1, hx.2, hx.1.2⟩
theorem fits_all (h : rateV m d l shep known = (ra, rb, 0)) : wrongV ra rb l shep known = ([], 0) := by
  have hr := rateV_rate h
  obtain ⟨_, hc, hf, hp, hq⟩ := rateV_ok h
  have ho := inOrder_iff.1 hc
  rw [wrongV_ok hr hc]
  have : badL ra rb shep (cnt known l) = [] := by
    unfold badL
    rw [List.map_eq_nil_iff, List.filter_eq_nil_iff]
    intro x hx
    unfold misfit
    by_cases hs : x.s = shep
    · have hx2 : x ∈ ofShep shep (cnt known l) := List.mem_filter.2 ⟨hx, by simpa using hs⟩
      have hfx := List.all_eq_true.1 hf x hx2
      unfold Rc.fine at hfx
      obtain ⟨f1, f2⟩ : (missV x.t x.n).2 = true ∧ (doubV x.t x.n).2 = true := by simpa using hfx
      have hok := ho.ok x (in_shep hx2).1
      have hrng := ok_range hok
      have m1 : (missV x.t x.n).1 ≤ ra := by rw [hp]; exact mx_le m _ _ (List.mem_map_of_mem (f := mOf) hx2)
      have d1 : (doubV x.t x.n).1 ≤ rb := by rw [hq]; exact mx_le d _ _ (List.mem_map_of_mem (f := dOf) hx2)
      have g1 := (miss_spec f1).1
      have g2 := (doub_spec f2).1
      have g3 := low_mono (n := x.t) (by omega) m1
      have g4 := high_mono (n := x.t) (by omega) d1
      have : fitV ra rb x.t x.n = true := by
        unfold fitV fitsB
        rw [okNC_of hr hok]
        simp
        omega
      rw [this]
      simp
    · simp [hs]
  rw [this]
theorem wrong_some {p q : Int} {x : Rc} (hr : rateB p q = true) (hc : (crec l).2 = 0) (hx : x ∈ ofShep shep (cnt known l)) (hf : fitV p q x.t x.n = false) : ∃ y t, wrongV p q l shep known = (y :: t, 0) := by
  rw [wrongV_ok hr hc]
  have hm : x.i ∈ badL p q shep (cnt known l) := by
    unfold badL
    refine List.mem_map_of_mem (List.mem_filter.2 ⟨(List.mem_filter.1 hx).1, ?_⟩)
    unfold misfit
    rw [hf]
    simpa using (in_shep hx).2.1
  cases hb : badL p q shep (cnt known l) with
  | nil => rw [hb] at hm; cases hm
  | cons y t => exact ⟨y, t, rfl⟩
theorem less_m (h : rateV m d l shep known = (ra, rb, 0)) (hm : m < ra) : ∃ y t, wrongV (ra - 1) rb l shep known = (y :: t, 0) := by
  have hr := rateV_rate h
  obtain ⟨h1, hc, hf, hp, hq⟩ := rateV_ok h
  obtain ⟨b1, b2⟩ := rateB_iff.1 hr
  obtain ⟨c1, c2⟩ := rateB_iff.1 h1
  have hr2 : rateB (ra - 1) rb = true := rateB_iff.2 ⟨by omega, b2⟩
  rcases mx_mem m ((ofShep shep (cnt known l)).map mOf) with e | e
  · omega
  · rw [← hp] at e
    obtain ⟨x, hx, ex⟩ := List.mem_map.1 e
    refine wrong_some hr2 hc hx ?_
    have hfx := List.all_eq_true.1 hf x hx
    unfold Rc.fine at hfx
    obtain ⟨f1, f2⟩ : (missV x.t x.n).2 = true ∧ (doubV x.t x.n).2 = true := by simpa using hfx
    have g1 := (miss_spec f1).2 (ra - 1) (by omega) (by unfold mOf at ex; omega)
    unfold fitV fitsB
    simp [g1]
theorem less_d (h : rateV m d l shep known = (ra, rb, 0)) (hm : d < rb) : ∃ y t, wrongV ra (rb - 1) l shep known = (y :: t, 0) := by
  have hr := rateV_rate h
  obtain ⟨h1, hc, hf, hp, hq⟩ := rateV_ok h
  obtain ⟨b1, b2⟩ := rateB_iff.1 hr
  obtain ⟨c1, c2⟩ := rateB_iff.1 h1
  have hr2 : rateB ra (rb - 1) = true := rateB_iff.2 ⟨b1, by omega⟩
  rcases mx_mem d ((ofShep shep (cnt known l)).map dOf) with e | e
  · omega
  · rw [← hq] at e
    obtain ⟨x, hx, ex⟩ := List.mem_map.1 e
    refine wrong_some hr2 hc hx ?_
    have hfx := List.all_eq_true.1 hf x hx
    unfold Rc.fine at hfx
    obtain ⟨f1, f2⟩ : (missV x.t x.n).2 = true ∧ (doubV x.t x.n).2 = true := by simpa using hfx
    have g1 := (doub_spec f2).2 (rb - 1) (by omega) (by unfold dOf at ex; omega)
    unfold fitV fitsB
    simp [g1]
theorem house_narrower (h : rateV m d l shep known = (ra, rb, 0)) : narrowB m d ra rb = true := by
  have hr := rateV_rate h
  obtain ⟨h1, _, _, hp, hq⟩ := rateV_ok h
  have e1 : m ≤ ra := by rw [hp]; exact mx_base _ _
  have e2 : d ≤ rb := by rw [hq]; exact mx_base _ _
  unfold narrowB
  rw [h1, hr]
  simp [e1, e2]
end

/-- The re-counts of a list whose numbers are named, once for each naming. -/
def selIn (x : Rc) (ks : List Int) : List Rc := ks.flatMap fun k => if x.i == k then [x] else []
def someL (l : List Rc) (ks : List Int) : List Rc := l.flatMap fun x => selIn x ks
theorem selIn_len (x : Rc) (ks : List Int) : (selIn x ks).length ≤ ks.length := by
  induction ks with
  | nil => simp [selIn]
  | cons k t ih =>
    have e : selIn x (k :: t) = (if x.i == k then [x] else []) ++ selIn x t := by simp [selIn]
    rw [e, List.length_append]
    have : (if x.i == k then [x] else []).length ≤ 1 := by split <;> simp
    simp only [List.length_cons]
    omega
theorem selIn_up {x : Rc} {ks : List Int} (hu : Up ks) : selIn x ks = if x.i ∈ ks then [x] else [] := by
  induction ks with
  | nil => rfl
  | cons k t ih =>
    obtain ⟨h1, h2⟩ := List.pairwise_cons.1 hu
    have e : selIn x (k :: t) = (if x.i == k then [x] else []) ++ selIn x t := by simp [selIn]
    rw [e, ih h2]
    by_cases hk : x.i = k
    · have hn : x.i ∉ t := fun hm => by have := h1 _ hm; omega
      rw [if_neg hn, if_pos (by simp [hk])]
      simp [hk]
    · by_cases ht : x.i ∈ t
      · rw [if_pos ht, if_pos (List.mem_cons.2 (.inr ht))]
        simp [hk]
      · rw [if_neg ht, if_neg (fun h => (List.mem_cons.1 h).elim hk ht)]
        simp [hk]
theorem someL_up {l : List Rc} {ks : List Int} (hu : Up ks) : someL l ks = l.filter fun x => decide (x.i ∈ ks) := by
  induction l with
  | nil => rfl
  | cons x l ih =>
    have e : someL (x :: l) ks = selIn x ks ++ someL l ks := by simp [someL]
    rw [e, ih, selIn_up hu]
    by_cases h : x.i ∈ ks <;> simp [h]
theorem ids_inj {l : List Rc} (h : InOrder l) {x y : Rc} (hx : x ∈ l) (hy : y ∈ l) (e : x.i = y.i) : x = y := by
  have hp := h.ids
  induction l with
  | nil => cases hx
  | cons z l ih =>
    obtain ⟨h1, h2⟩ := List.pairwise_cons.1 hp
    have ho : InOrder l := h.sub (List.sublist_cons_self z l)
    rcases List.mem_cons.1 hx with e1 | hx1
    · rcases List.mem_cons.1 hy with e2 | hy1
      · rw [e1, e2]
      · have := h1 y hy1; rw [e1] at e; omega
    · rcases List.mem_cons.1 hy with e2 | hy1
      · have := h1 x hx1; rw [e2] at e; omega
      · exact ih ho hx1 hy1 h2

theorem two_len (l : List Int) (h : l.length ≤ 2) : (two l).length ≤ 2 := by
  match l, h with
  | [], _ => simp [two]
  | [x], _ => simp [two]
  | [x, y], _ => simp [two]; split <;> simp
/-- The re-counts of Why alone give the same rate. -/
theorem why_alone {m d : Int} {l : List Rc} {shep known ra rb : Int} (h : rateV m d l shep known = (ra, rb, 0)) :
    (whyV m d l shep known).2 = 0 ∧ (whyV m d l shep known).1.length ≤ 2 ∧ (someL l (whyV m d l shep known).1).length = (whyV m d l shep known).1.length ∧ rateV m d (someL l (whyV m d l shep known).1) shep known = (ra, rb, 0) := by
  obtain ⟨h1, hc, hf, hp, hq⟩ := rateV_ok h
  have ho := inOrder_iff.1 hc
  have hoc : InOrder (cnt known l) := ho.sub List.filter_sublist
  have hma : m ≤ ra := by rw [hp]; exact mx_base _ _
  have hdb : d ≤ rb := by rw [hq]; exact mx_base _ _
  have hv : whyV m d l shep known = (two (ids m d ra rb (ofShep shep (cnt known l)) 2), 0) := by
    unfold whyV
    rw [h]
    rfl
  have hbk := why_back (shep := shep) hoc hma hdb
  obtain ⟨one, hone⟩ : ∃ one, oneId (decide (m < ra)) shep (hit pL ra rb) (cnt known l) = one := ⟨_, rfl⟩
  obtain ⟨tw, htw⟩ : ∃ tw, oneId (decide (d < rb)) shep (hit pG ra rb) (cnt known l) = tw := ⟨_, rfl⟩
  rw [hone, htw] at hbk
  have hlen : (two (ids m d ra rb (ofShep shep (cnt known l)) 2)).length ≤ 2 := two_len _ (ids_len _ _ _ _ _ _)
  rw [hv]
  refine ⟨rfl, hlen, ?_⟩
  dsimp only
  rw [← hbk]
  obtain ⟨S, hS⟩ : ∃ S, (cnt known l).filter (fun x => x.i == one || x.i == tw) = S := ⟨_, rfl⟩
  have hbS : backL (cnt known l) one tw = S.map Rc.i := by unfold backL; rw [hS]
  have hsub : S.Sublist (cnt known l) := by rw [← hS]; exact List.filter_sublist
  have hSl : S.Sublist l := hsub.trans List.filter_sublist
  have hoS : InOrder S := ho.sub hSl
  have hup : Up (S.map Rc.i) := by unfold Up; rw [List.pairwise_map]; exact hoS.ids
  have hsome : someL l (S.map Rc.i) = S := by
    rw [someL_up hup]
    have e : S = l.filter fun x => decide (x.k ≤ known) && (x.i == one || x.i == tw) := by
      rw [← hS]
      unfold cnt
      rw [List.filter_filter]
      apply List.filter_congr
      intro x _
      rw [Bool.and_comm]
    have key : l.filter (fun x => decide (x.i ∈ S.map Rc.i)) = l.filter (fun x => decide (x.k ≤ known) && (x.i == one || x.i == tw)) := by
      apply List.filter_congr
      intro x hx
      rw [Bool.eq_iff_iff, decide_eq_true_eq]
      constructor
      · intro hm
        obtain ⟨y, hy, ey⟩ := List.mem_map.1 hm
        obtain rfl := ids_inj ho (hSl.subset hy) hx ey
        rw [e] at hy
        exact (List.mem_filter.1 hy).2
      · intro hq2
        refine List.mem_map_of_mem ?_
        rw [e]
        exact List.mem_filter.2 ⟨hx, hq2⟩
    rw [key, ← e]
  rw [hbS, hsome]
  refine ⟨by simp, ?_⟩
  have hk : cnt known S = S := by
    unfold cnt
    rw [List.filter_eq_self]
    intro x hx
    have := hsub.subset hx
    unfold cnt at this
    exact (List.mem_filter.1 this).2
  have hz : (0 : Int) ∉ l.map Rc.i := by
    intro hm
    obtain ⟨x, hx, e⟩ := List.mem_map.1 hm
    have := ok_pos (ho.ok x hx)
    omega
  have found : ∀ (g : Bool) (p : Rc → Bool) (x : Rc), x ∈ l → x.i = oneId g shep p (cnt known l) → g = true ∧ (ofShep shep (cnt known l)).find? p = some x := by
    intro g p x hx hi
    unfold oneId firstId at hi
    cases g with
    | false => exact absurd (by rw [← show x.i = 0 from hi]; exact List.mem_map_of_mem hx) hz
    | true =>
      simp only [if_true] at hi
      cases hfd : (ofShep shep (cnt known l)).find? p with
      | none => rw [hfd] at hi; exact absurd (by rw [← show x.i = 0 from hi]; exact List.mem_map_of_mem hx) hz
      | some y =>
        rw [hfd] at hi
        have hy := List.mem_of_find?_eq_some hfd
        rw [ids_inj ho hx (in_shep hy).1 hi]
        exact ⟨rfl, rfl⟩
  have hys : ∀ x ∈ S, x ∈ ofShep shep (cnt known l) := by
    intro x hx
    have hq2 : (x.i == one || x.i == tw) = true := by rw [← hS] at hx; exact (List.mem_filter.1 hx).2
    have hxl := hSl.subset hx
    rcases (by simpa using hq2 : x.i = one ∨ x.i = tw) with e | e
    · exact List.mem_of_find?_eq_some (found _ _ x hxl (by rw [hone]; exact e)).2
    · exact List.mem_of_find?_eq_some (found _ _ x hxl (by rw [htw]; exact e)).2
  have hsh : ofShep shep S = S := by
    unfold ofShep
    rw [List.filter_eq_self]
    intro x hx
    simpa using (in_shep (hys x hx)).2.1
  have inS : ∀ x ∈ ofShep shep (cnt known l), (x.i = one ∨ x.i = tw) → x ∈ S := by
    intro x hx he
    rw [← hS]
    refine List.mem_filter.2 ⟨(List.mem_filter.1 hx).1, by simpa using he⟩
  have ea : mx m (S.map mOf) = ra := by
    have hle : mx m (S.map mOf) ≤ ra := by rw [hp]; exact mx_sub (map_sub hys)
    by_cases hlt : m < ra
    · rcases mx_mem m ((ofShep shep (cnt known l)).map mOf) with e | e
      · omega
      · rw [← hp] at e
        obtain ⟨x, hx, ex⟩ := List.mem_map.1 e
        have hhx : hit pL ra rb x = true := by unfold hit pL; simpa [mOf] using ex
        cases hfd : (ofShep shep (cnt known l)).find? (hit pL ra rb) with
        | none => exact absurd hhx (by simpa using List.find?_eq_none.1 hfd x hx)
        | some y =>
          have hy := List.mem_of_find?_eq_some hfd
          have hpy := List.find?_some hfd
          have hy1 : y.i = one := by
            rw [← hone]
            unfold oneId firstId
            rw [decide_eq_true hlt, hfd]
            rfl
          have hyS := inS y hy (.inl hy1)
          have hmy : mOf y = ra := by unfold hit pL at hpy; simpa [mOf] using hpy
          have := mx_le m (S.map mOf) (mOf y) (List.mem_map_of_mem hyS)
          omega
    · have := mx_base m (S.map mOf)
      omega
  have eb : mx d (S.map dOf) = rb := by
    have hle : mx d (S.map dOf) ≤ rb := by rw [hq]; exact mx_sub (map_sub hys)
    by_cases hlt : d < rb
    · rcases mx_mem d ((ofShep shep (cnt known l)).map dOf) with e | e
      · omega
      · rw [← hq] at e
        obtain ⟨x, hx, ex⟩ := List.mem_map.1 e
        have hhx : hit pG ra rb x = true := by unfold hit pG; simpa [dOf] using ex
        cases hfd : (ofShep shep (cnt known l)).find? (hit pG ra rb) with
        | none => exact absurd hhx (by simpa using List.find?_eq_none.1 hfd x hx)
        | some y =>
          have hy := List.mem_of_find?_eq_some hfd
          have hpy := List.find?_some hfd
          have hy1 : y.i = tw := by
            rw [← htw]
            unfold oneId firstId
            rw [decide_eq_true hlt, hfd]
            rfl
          have hyS := inS y hy (.inr hy1)
          have hmy : dOf y = rb := by unfold hit pG at hpy; simpa [dOf] using hpy
          have := mx_le d (S.map dOf) (dOf y) (List.mem_map_of_mem hyS)
          omega
    · have := mx_base d (S.map dOf)
      omega
  refine rateV_some h1 (inOrder_iff.2 hoS) ?_
  rw [hk, hsh, rfold_eq, ea, eb]
  have : S.all Rc.fine = true := List.all_eq_true.2 fun x hx => List.all_eq_true.1 hf x (hys x hx)
  rw [this]
  rfl
end Go.Proofs.Ytokpjaodchcheaa
