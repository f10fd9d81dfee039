/- This text proves plain laws of the rate that re-counts ask: it is the greatest that one of them asks, or the house's; with more re-counts it is never less. No program in sight. -/
import Derived.Test.YtokpjaodchcheaaRate
import Derived.Test.YtokpjaodchcheaaNarrower
namespace Go.Proofs.Ytokpjaodchcheaa

def mx (a : Int) (l : List Int) : Int := l.foldl max a
theorem mx_base (a : Int) (l : List Int) : a ≤ mx a l := by
  induction l generalizing a with
  | nil => exact Int.le_refl _
  | cons x l ih => exact Int.le_trans (by omega) (ih (max a x))
theorem mx_le (a : Int) (l : List Int) : ∀ x ∈ l, x ≤ mx a l := by
  induction l generalizing a with
  | nil => intro x h; cases h
  | cons y l ih =>
    intro x h
    rcases List.mem_cons.1 h with rfl | h
    · exact Int.le_trans (by omega) (mx_base (max a x) l)
    · exact ih (max a y) x h
theorem mx_mem (a : Int) (l : List Int) : mx a l = a ∨ mx a l ∈ l := by
  induction l generalizing a with
  | nil => exact .inl rfl
  | cons y l ih =>
    rcases ih (max a y) with h | h
    · have e : mx a (y :: l) = max a y := h
      rw [e]
      rcases Int.le_total a y with g | g
      · exact .inr (List.mem_cons.2 (.inl (by omega)))
      · exact .inl (by omega)
    · exact .inr (List.mem_cons.2 (.inr h))
theorem mx_sub {a : Int} {l k : List Int} (h : ∀ x ∈ l, x ∈ k) : mx a l ≤ mx a k := by
  rcases mx_mem a l with e | e
  · rw [e]; exact mx_base a k
  · exact mx_le a k _ (h _ e)
theorem mx_bd {a b : Int} {l : List Int} (h : a ≤ b) (hl : ∀ x ∈ l, x ≤ b) : mx a l ≤ b := by
  rcases mx_mem a l with e | e
  · rw [e]; exact h
  · exact hl _ e

def mOf (x : Rc) : Int := (missV x.t x.n).1
def dOf (x : Rc) : Int := (doubV x.t x.n).1
theorem rfold_from (p q : Int) (l : List Rc) : l.foldl rstep (some (p, q)) = if l.all Rc.fine then some (mx p (l.map mOf), mx q (l.map dOf)) else none := by
  induction l generalizing p q with
  | nil => rfl
  | cons x l ih =>
    rw [List.foldl_cons]
    by_cases h : x.fine = true
    · have e : rstep (some (p, q)) x = some (max p (mOf x), max q (dOf x)) := by simp [rstep, h, mOf, dOf]
      rw [e, ih, List.all_cons, h, Bool.true_and]
      rfl
    · have h' : x.fine = false := by simpa using h
      have e : rstep (some (p, q)) x = none := by simp [rstep, h']
      rw [e, rstep_none, List.all_cons, h', Bool.false_and]
      rfl
theorem rfold_eq (m d : Int) (l : List Rc) : rfold m d l = if l.all Rc.fine then some (mx m (l.map mOf), mx d (l.map dOf)) else none := rfold_from m d l

theorem askR_bd (p : Int → Bool) : 0 ≤ (askR p).1 ∧ (askR p).1 ≤ 500 := by
  unfold askR
  split
  · exact ⟨by simp, by simp; omega⟩
  · exact ⟨by simp, by simp⟩
theorem asked_bd (p : Int → Bool) (n c : Int) : 0 ≤ (askedV p n c).1 ∧ (askedV p n c).1 ≤ 500 := by
  unfold askedV
  split
  · exact askR_bd p
  · exact ⟨by simp, by simp⟩
theorem mOf_bd (x : Rc) : 0 ≤ mOf x ∧ mOf x ≤ 500 := asked_bd _ _ _
theorem dOf_bd (x : Rc) : 0 ≤ dOf x ∧ dOf x ≤ 500 := asked_bd _ _ _
theorem mx_rate {a : Int} {l : List Int} (h : 0 ≤ a ∧ a ≤ 500) (hl : ∀ x ∈ l, x ≤ 500) : 0 ≤ mx a l ∧ mx a l ≤ 500 :=
  ⟨Int.le_trans h.1 (mx_base a l), mx_bd h.2 hl⟩

/-- Where RateOf has no error: what it returns. -/
theorem rateV_ok {m d : Int} {l : List Rc} {shep known p q : Int} (h : rateV m d l shep known = (p, q, 0)) :
    rateB m d = true ∧ (crec l).2 = 0 ∧ (ofShep shep (cnt known l)).all Rc.fine = true ∧ p = mx m ((ofShep shep (cnt known l)).map mOf) ∧ q = mx d ((ofShep shep (cnt known l)).map dOf) := by
  unfold rateV at h
  by_cases h1 : rateB m d = true
  · rw [if_pos h1] at h
    by_cases h2 : (crec l).2 = 0
    · rw [if_pos h2, rfold_eq] at h
      by_cases h3 : (ofShep shep (cnt known l)).all Rc.fine = true
      · rw [if_pos h3] at h
        simp only [Prod.mk.injEq] at h
        exact ⟨h1, h2, h3, h.1.symm, h.2.1.symm⟩
      · rw [if_neg h3] at h
        simp at h
    · rw [if_neg h2] at h
      simp only [Prod.mk.injEq] at h
      exact absurd h.2.2 h2
  · rw [if_neg h1] at h
    simp at h
theorem rateV_contrary {m d : Int} {l : List Rc} {shep known p q : Int} (h : rateV m d l shep known = (p, q, 40)) (hc : (crec l).2 ≠ 40) :
    rateB m d = true ∧ (crec l).2 = 0 ∧ (ofShep shep (cnt known l)).all Rc.fine = false ∧ p = 0 ∧ q = 0 := by
  unfold rateV at h
  by_cases h1 : rateB m d = true
  · rw [if_pos h1] at h
    by_cases h2 : (crec l).2 = 0
    · rw [if_pos h2, rfold_eq] at h
      by_cases h3 : (ofShep shep (cnt known l)).all Rc.fine = true
      · rw [if_pos h3] at h
        simp at h
      · rw [if_neg h3] at h
        simp only [Prod.mk.injEq] at h
        exact ⟨h1, h2, by simpa using h3, h.1.symm, h.2.1.symm⟩
    · rw [if_neg h2] at h
      simp only [Prod.mk.injEq] at h
      exact absurd h.2.2 hc
  · rw [if_neg h1] at h
    simp at h
theorem crecF_codes (l : List Rc) : ∀ f k, (crecF l k f).2 = 0 ∨ (crecF l k f).2 = 1 ∨ (crecF l k f).2 = 2 ∨ (crecF l k f).2 = 7 := by
  intro f
  induction f with
  | zero => intro k; exact .inl rfl
  | succ f ih =>
    intro k
    rw [crecF]
    split
    · exact ih (k + 1)
    · show cerr l k = 0 ∨ cerr l k = 1 ∨ cerr l k = 2 ∨ cerr l k = 7
      unfold cerr
      repeat' split
      all_goals simp
theorem crec_codes (l : List Rc) : (crec l).2 ≠ 40 := by
  rcases crecF_codes l l.length 0 with h | h | h | h <;> (unfold crec; rw [h]; decide)
theorem rateV_rate {m d : Int} {l : List Rc} {shep known p q : Int} (h : rateV m d l shep known = (p, q, 0)) : rateB p q = true := by
  obtain ⟨h1, _, _, rfl, rfl⟩ := rateV_ok h
  obtain ⟨hm, hd⟩ := rateB_iff.1 h1
  refine rateB_iff.2 ⟨mx_rate hm fun x hx => ?_, mx_rate hd fun x hx => ?_⟩
  · obtain ⟨y, _, rfl⟩ := List.mem_map.1 hx; exact (mOf_bd y).2
  · obtain ⟨y, _, rfl⟩ := List.mem_map.1 hx; exact (dOf_bd y).2
theorem shep_sub {l : List Rc} {shep known later : Int} (h : known ≤ later) : ∀ x ∈ ofShep shep (cnt known l), x ∈ ofShep shep (cnt later l) := by
  intro x hx
  unfold ofShep cnt at *
  simp only [List.mem_filter, decide_eq_true_eq] at *
  exact ⟨⟨hx.1.1, by omega⟩, hx.2⟩
theorem later_contrary {m d : Int} {l : List Rc} {shep known later p q : Int} (hk : known ≤ later) (h : rateV m d l shep known = (p, q, 40)) : (rateV m d l shep later).2.2 = 40 := by
  obtain ⟨h1, h2, h3, _, _⟩ := rateV_contrary h (crec_codes l)
  have h4 : (ofShep shep (cnt later l)).all Rc.fine = false := by
    rw [List.all_eq_false] at *
    obtain ⟨x, hx, hf⟩ := h3
    exact ⟨x, shep_sub hk x hx, hf⟩
  unfold rateV
  rw [if_pos h1, if_pos h2, rfold_eq, h4]
  rfl
theorem map_sub {f : Rc → Int} {l k : List Rc} (h : ∀ x ∈ l, x ∈ k) : ∀ x ∈ l.map f, x ∈ k.map f := by
  intro x hx
  obtain ⟨y, hy, rfl⟩ := List.mem_map.1 hx
  exact List.mem_map_of_mem (h y hy)
theorem later_narrower {m d : Int} {l : List Rc} {shep known later p q r s : Int} (hk : known ≤ later) (h : rateV m d l shep known = (p, q, 0)) (h' : rateV m d l shep later = (r, s, 0)) : narrowB p q r s = true := by
  have r1 := rateV_rate h
  have r2 := rateV_rate h'
  obtain ⟨_, _, _, rfl, rfl⟩ := rateV_ok h
  obtain ⟨_, _, _, rfl, rfl⟩ := rateV_ok h'
  have e1 := mx_sub (a := m) (map_sub (f := mOf) (shep_sub (l := l) (shep := shep) hk))
  have e2 := mx_sub (a := d) (map_sub (f := dOf) (shep_sub (l := l) (shep := shep) hk))
  unfold narrowB
  rw [r1, r2]
  simp [e1, e2]
theorem none_own {m d : Int} {l : List Rc} {shep known p q : Int} (h : rateV m d l shep known = (p, q, 0)) (hn : l.any (fun x => x.s == shep) = false) : p = m ∧ q = d := by
  obtain ⟨_, _, _, rfl, rfl⟩ := rateV_ok h
  have e : ofShep shep (cnt known l) = [] := by
    unfold ofShep cnt
    rw [List.filter_eq_nil_iff]
    intro x hx
    rw [List.any_eq_false] at hn
    exact hn x (List.mem_filter.1 hx).1
  rw [e]
  exact ⟨rfl, rfl⟩
end Go.Proofs.Ytokpjaodchcheaa
