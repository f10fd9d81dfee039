/- This text proves the plain laws of passages: numbers that fit several tallies, and two tallies that have none in common. -/
import Derived.Test.YtokpjaodchcheaaExact
import Derived.Test.YtokpjaodchcheaaOpen
import Derived.Test.YtokpjaodchcheaaSum
namespace Go.Proofs.Ytokpjaodchcheaa
open Go.RowKit

def ivP (r : Rt) (c : Ct) : Iv := fitIv r.m r.d c.n (c.n + c.wo)
def okP (r : Rt) (c : Ct) : Bool := okTT r.m r.d c.i c.d c.s c.n c.wo
/-- What each tally allows. -/
def ivsP (R : List Rt) (C : List Ct) : List Iv := (List.range C.length).map fun k => ivP (rt R k) (ct C k)
theorem ivsP_len (R : List Rt) (C : List Ct) : (ivsP R C).length = C.length := (List.length_map ..).trans List.length_range
theorem ivsP_at {R : List Rt} {C : List Ct} {k : Nat} (h : k < C.length) : iv (ivsP R C) k = ivP (rt R k) (ct C k) := by
  have e : (ivsP R C)[k]? = some (ivP (rt R k) (ct C k)) := by
    unfold ivsP
    generalize ivP = f
    rw [List.getElem?_map, List.getElem?_range h, Option.map_some]
  unfold iv
  rw [e, Option.getD_some]
def badP (R : List Rt) (C : List Ct) : Bool := (List.range C.length).any fun k => !okP (rt R k) (ct C k)
theorem badP_at {R : List Rt} {C : List Ct} {k : Nat} (h : k < C.length) (hk : okP (rt R k) (ct C k) = false) : badP R C = true :=
  List.any_eq_true.2 ⟨k, List.mem_range.2 h, by rw [hk]; rfl⟩
theorem badP_not {R : List Rt} {C : List Ct} (h : ∀ k, k < C.length → okP (rt R k) (ct C k) = true) : badP R C = false :=
  List.any_eq_false.2 fun k hk => by rw [h k (List.mem_range.1 hk)]; decide
theorem badP_ok {R : List Rt} {C : List Ct} (hb : badP R C = false) {k : Nat} (h : k < C.length) : okP (rt R k) (ct C k) = true := by
  have := List.any_eq_false.1 hb k (List.mem_range.2 h)
  simpa using this
def meetB (x y : Iv) : Bool := noneB (bothV x y)
/-- The first two that have no number in common. -/
def pairV : List Iv → Nat → List Int
  | [], _ => []
  | x :: xs, i => if 0 ≤ idxV (meetB x) (x :: xs) i then [(i : Int), idxV (meetB x) (x :: xs) i] else pairV xs (i + 1)
theorem pairV_step {l : List Iv} {i : Nat} (h : i < l.length) : pairV (l.drop i) i = if 0 ≤ idxV (meetB (iv l i)) (l.drop i) i then [(i : Int), idxV (meetB (iv l i)) (l.drop i) i] else pairV (l.drop (i + 1)) (i + 1) := by
  have e : l.drop i = iv l i :: l.drop (i + 1) := by
    rw [List.drop_eq_getElem_cons h]; simp [iv, h]
  rw [e, pairV]
theorem pairV_end (i : Nat) {l : List Iv} (h : l.length ≤ i) : pairV (l.drop i) i = [] := by rw [List.drop_eq_nil_of_le h, pairV]
theorem idxV_end (p : Iv → Bool) (i : Nat) {l : List Iv} (h : l.length ≤ i) : idxV p (l.drop i) i = -1 := by rw [List.drop_eq_nil_of_le h, idxV]
def allV (l : List Iv) : Iv := (l.drop 1).foldl meet (iv l 0)
def passV (R : List Rt) (C : List Ct) : Iv × List Int × Int :=
  if 200 < C.length then (Iv.none, [], 2) else if C.length = 0 ∨ ¬ R.length = C.length then (Iv.none, [], 1) else if badP R C then (Iv.none, [], 1) else
    if (allV (ivsP R C)).some then (allV (ivsP R C), [], 0) else (Iv.none, pairV (ivsP R C) 0, 0)

/-- None, or within the numbers of a fell. -/
def Fine (x : Iv) : Prop := (x.some = true → 0 ≤ x.lo ∧ x.lo ≤ x.hi ∧ x.hi ≤ 100000) ∧ (x.some = false → x = Iv.none)
theorem fine_none : Fine Iv.none := ⟨fun h => absurd h (by decide), fun _ => rfl⟩
theorem Fine.b {x : Iv} (h : Fine x) : ivB x = true := by
  cases hs : x.some
  · rw [h.2 hs]; rfl
  · have := h.1 hs
    unfold ivB
    rw [hs]
    simp
    omega
theorem fine_meet {x y : Iv} (hx : Fine x) (hy : Fine y) : Fine (meet x y) := by
  unfold meet
  cases h1 : x.some
  · exact fine_none
  cases h2 : y.some
  · exact fine_none
  have a := hx.1 h1
  have b := hy.1 h2
  rw [if_pos (by decide)]
  unfold betw
  split
  · exact fine_none
  · exact ⟨fun _ => ⟨by dsimp only; omega, by dsimp only; omega, by dsimp only; omega⟩, fun h => by cases h⟩
theorem both_meet {x y : Iv} (hx : Fine x) (hy : Fine y) : bothV x y = meet x y := by
  unfold bothV; rw [hx.b, hy.b]; rfl
theorem both_none {x y : Iv} (h : (bothV x y).some = false) : bothV x y = Iv.none := by
  revert h
  unfold bothV
  split
  · unfold meet betw
    split
    · split
      · exact fun _ => rfl
      · exact fun h => by cases h
    · exact fun _ => rfl
  · exact fun _ => rfl
theorem fine_ivP (r : Rt) (c : Ct) : Fine (ivP r c) := ⟨fit_bounds.1, fit_bounds.2⟩
theorem fine_ivsP (R : List Rt) (C : List Ct) : ∀ x ∈ ivsP R C, Fine x := fun x hx => by
  obtain ⟨k, _, rfl⟩ := List.mem_map.1 hx
  exact fine_ivP _ _
theorem fine_fold : ∀ (l : List Iv) (x : Iv), Fine x → (∀ y ∈ l, Fine y) → Fine (l.foldl meet x) ∧ l.foldl bothV x = l.foldl meet x
  | [], x, h, _ => ⟨h, rfl⟩
  | y :: l, x, h, hl => by
    have hy := hl y (by simp)
    have := fine_fold l (meet x y) (fine_meet h hy) fun z hz => hl z (by simp [hz])
    rw [List.foldl_cons, List.foldl_cons, both_meet h hy]
    exact this
theorem fine_iv {l : List Iv} (hl : ∀ y ∈ l, Fine y) {k : Nat} (hk : k < l.length) : Fine (iv l k) := hl _ (iv_mem hk)
theorem fine_all {l : List Iv} (hl : ∀ y ∈ l, Fine y) (hn : 0 < l.length) : Fine (allV l) :=
  (fine_fold _ _ (fine_iv hl hn) fun y hy => hl y (List.mem_of_mem_drop hy)).1
theorem top_meet {x : Iv} (hx : Fine x) : bothV ⟨0, 100000, true⟩ x = x := by
  have ht : Fine ⟨0, 100000, true⟩ := ⟨fun _ => ⟨by decide, by decide, by decide⟩, fun h => by cases h⟩
  rw [both_meet ht hx]
  cases hs : x.some
  · have := hx.2 hs; subst this; rfl
  · obtain ⟨lo, hi, so⟩ := x
    simp only at hs
    subst hs
    have := hx.1 rfl
    dsimp only at this
    unfold meet betw
    simp only [Bool.and_self, if_true]
    rw [if_neg (by omega)]
    have e1 : max 0 lo = lo := by omega
    have e2 : min 100000 hi = hi := by omega
    rw [e1, e2]
/-- The reference's sum of all. -/
theorem fold_all {l : List Iv} (hl : ∀ y ∈ l, Fine y) (hn : 0 < l.length) : l.foldl bothV ⟨0, 100000, true⟩ = allV l := by
  have e : l = iv l 0 :: l.drop 1 := by
    have := List.drop_eq_getElem_cons hn
    simp [iv, hn] at this ⊢
    exact this
  have h0 := fine_iv hl hn
  unfold allV
  conv => lhs; rw [e]
  rw [List.foldl_cons, top_meet h0]
  exact (fine_fold _ _ h0 fun y hy => hl y (List.mem_of_mem_drop hy)).2

theorem in_meet {x y : Iv} (n : Int) : inB (meet x y) n = (inB x n && inB y n) := by
  unfold meet inB
  cases x.some
  · rfl
  cases y.some
  · simp [Iv.none]
  rw [if_pos (by decide)]
  unfold betw
  split
  · simp
    intro _ _ _
    omega
  · rw [Bool.eq_iff_iff]
    simp
    omega
theorem in_fold (n : Int) : ∀ (l : List Iv) (x : Iv), inB (l.foldl meet x) n = (inB x n && l.all (fun y => inB y n))
  | [], x => by simp
  | y :: l, x => by rw [List.foldl_cons, in_fold n l, in_meet, List.all_cons, Bool.and_assoc]
theorem in_all {l : List Iv} (hn : 0 < l.length) (n : Int) : inB (allV l) n = l.all (fun y => inB y n) := by
  have e : l = iv l 0 :: l.drop 1 := by
    have := List.drop_eq_getElem_cons hn
    simp [iv, hn] at this ⊢
    exact this
  unfold allV
  rw [in_fold]
  conv => rhs; rw [e]
  rw [List.all_cons]
theorem in_fine {x : Iv} (h : Fine x) {n : Int} (hn : inB x n = true) : inR 0 100000 n = true := by
  unfold inB at hn
  simp at hn
  have := h.1 hn.1.1
  simp [inR]
  omega
/-- Intervals that meet two by two meet all. -/
theorem all_meet {l : List Iv} (hl : ∀ y ∈ l, Fine y) (hp : ∀ x ∈ l, ∀ y ∈ l, (meet x y).some = true) : ∀ (t : List Iv) (x : Iv), x ∈ l → (∀ y ∈ t, y ∈ l) →
    ∀ acc : Iv, acc.some = true → (∃ a ∈ l, acc.lo = a.lo) → (∃ b ∈ l, acc.hi = b.hi) → (t.foldl meet acc).some = true
  | [], _, _, _, _, h, _, _ => h
  | y :: t, x, hx, ht, acc, h, ⟨a, ha, ea⟩, ⟨b, hb, eb⟩ => by
    have hy := ht y (by simp)
    have both : ∀ {p q : Iv}, p ∈ l → q ∈ l → p.some = true ∧ q.some = true ∧ max p.lo q.lo ≤ min p.hi q.hi := fun {p q} hp1 hq1 => by
      have := hp p hp1 q hq1
      unfold meet at this
      split at this
      · rename_i h2
        simp at h2
        refine ⟨h2.1, h2.2, ?_⟩
        unfold betw at this
        split at this
        · cases this
        · omega
      · cases this
    have hab := both ha hb
    have hay := both ha hy
    have hby := both hb hy
    have hyy := both hy hy
    have hm : meet acc y = ⟨max acc.lo y.lo, min acc.hi y.hi, true⟩ := by
      unfold meet
      rw [h, hyy.1, if_pos (by decide)]
      unfold betw
      rw [if_neg (by omega)]
    rw [List.foldl_cons]
    refine all_meet hl hp t x hx (fun z hz => ht z (by simp [hz])) _ (by rw [hm]) ?_ ?_
    · rw [hm]
      rcases Int.le_total acc.lo y.lo with h1 | h1
      · exact ⟨y, hy, by dsimp only; omega⟩
      · exact ⟨a, ha, by dsimp only; omega⟩
    · rw [hm]
      rcases Int.le_total acc.hi y.hi with h1 | h1
      · exact ⟨b, hb, by dsimp only; omega⟩
      · exact ⟨y, hy, by dsimp only; omega⟩
/-- What the pair says: nothing, if all meet two by two; else two that do not. -/
theorem idxV_found (p : Iv → Bool) (l : List Iv) : ∀ (m i : Nat), i + m = l.length → (idxV p (l.drop i) i = -1 ∧ ∀ j, i ≤ j → j < l.length → p (iv l j) = false) ∨ ∃ j : Nat, i ≤ j ∧ j < l.length ∧ idxV p (l.drop i) i = j ∧ p (iv l j) = true
  | 0, i, h => .inl ⟨idxV_end p i (by omega), fun j _ _ => by omega⟩
  | m + 1, i, h => by
    have hi : i < l.length := by omega
    rw [idxV_step p l i hi]
    cases hq : p (iv l i) with
    | true => exact .inr ⟨i, by omega, hi, by simp, hq⟩
    | false =>
      rcases idxV_found p l m (i + 1) (by omega) with ⟨h1, h2⟩ | ⟨j, h1, h2, h3, h4⟩
      · refine .inl ⟨by simpa using h1, fun j hj hj2 => ?_⟩
        by_cases e : j = i
        · subst e; exact hq
        · exact h2 j (by omega) hj2
      · exact .inr ⟨j, by omega, h2, by simpa using h3, h4⟩
theorem pairV_found (l : List Iv) : ∀ (m i : Nat), i + m = l.length → (pairV (l.drop i) i = [] ∧ ∀ a b, i ≤ a → a ≤ b → b < l.length → meetB (iv l a) (iv l b) = false) ∨
    ∃ a b : Nat, a ≤ b ∧ b < l.length ∧ pairV (l.drop i) i = [(a : Int), (b : Int)] ∧ meetB (iv l a) (iv l b) = true
  | 0, i, h => .inl ⟨pairV_end i (by omega), fun a b _ _ _ => by omega⟩
  | m + 1, i, h => by
    have hi : i < l.length := by omega
    rw [pairV_step hi]
    rcases idxV_found (meetB (iv l i)) l (m + 1) i h with ⟨h1, h2⟩ | ⟨j, h1, h2, h3, h4⟩
    · rw [h1, if_neg (by omega)]
      rcases pairV_found l m (i + 1) (by omega) with ⟨g1, g2⟩ | ⟨a, b, g1, g2, g3, g4⟩
      · refine .inl ⟨g1, fun a b ha hab hb => ?_⟩
        by_cases e : a = i
        · subst e; exact h2 b hab hb
        · exact g2 a b (by omega) hab hb
      · exact .inr ⟨a, b, g1, g2, g3, g4⟩
    · rw [h3, if_pos (by omega)]
      exact .inr ⟨i, j, h1, h2, rfl, h4⟩
theorem meet_comm (x y : Iv) : meet x y = meet y x := by
  unfold meet
  rw [Bool.and_comm, Int.max_comm, Int.min_comm]
/-- If no number fits all, two have none in common. -/
theorem pair_of {l : List Iv} (hl : ∀ y ∈ l, Fine y) (hn : 0 < l.length) (hs : (allV l).some = false) :
    ∃ a b : Nat, a ≤ b ∧ b < l.length ∧ pairV l 0 = [(a : Int), (b : Int)] ∧ (bothV (iv l a) (iv l b)).some = false := by
  rcases pairV_found l l.length 0 (by omega) with ⟨_, h2⟩ | ⟨a, b, h1, h2, h3, h4⟩
  · exfalso
    have hp : ∀ x ∈ l, ∀ y ∈ l, (meet x y).some = true := fun x hx y hy => by
      obtain ⟨a, ha, rfl⟩ := List.mem_iff_getElem.1 hx
      obtain ⟨b, hb, rfl⟩ := List.mem_iff_getElem.1 hy
      have e : ∀ {k : Nat} (hk : k < l.length), iv l k = l[k] := fun hk => by simp [iv, hk]
      have key : ∀ {a b : Nat} (ha : a < l.length) (hb : b < l.length), a ≤ b → (meet l[a] l[b]).some = true := fun {a b} ha hb hab => by
        have := h2 a b (by omega) hab hb
        rw [e ha, e hb] at this
        unfold meetB noneB at this
        rw [both_meet (hl _ (List.getElem_mem ha)) (hl _ (List.getElem_mem hb))] at this
        simpa using this
      rcases Nat.le_total a b with hab | hab
      · exact key ha hb hab
      · rw [meet_comm]; exact key hb ha hab
    have h0 := iv_mem hn
    have hs0 : (iv l 0).some = true := by
      have := hp _ h0 _ h0
      unfold meet at this
      split at this
      · rename_i h2; simp at h2; exact h2
      · cases this
    have := all_meet hl hp (l.drop 1) (iv l 0) h0 (fun y hy => List.mem_of_mem_drop hy) (iv l 0) hs0 ⟨_, h0, rfl⟩ ⟨_, h0, rfl⟩
    unfold allV at hs
    rw [this] at hs
    cases hs
  · refine ⟨a, b, h1, h2, h3, ?_⟩
    unfold meetB noneB at h4
    simpa using h4
theorem passV_len {R : List Rt} {C : List Ct} : (passV R C).2.1.length ≤ 2 := by
  unfold passV
  split
  · simp
  split
  · simp
  split
  · simp
  split
  · simp
  · rcases pairV_found (ivsP R C) (ivsP R C).length 0 (by omega) with ⟨h, _⟩ | ⟨a, b, _, _, h, _⟩
    · rw [List.drop_zero] at h
      simp [h]
    · rw [List.drop_zero] at h
      simp [h]
end Go.Proofs.Ytokpjaodchcheaa
