/- This text proves plain laws of lists of re-counts that are in order: their numbers rise, and the re-counts on which a rate rests are found from the front or from the back alike. No program in sight. -/
import Derived.Test.YtokpjaodchcheaaRatePlain
import Derived.Test.YtokpjaodchcheaaWhy
namespace Go.Proofs.Ytokpjaodchcheaa

theorem crecF_zero {l : List Rc} : ∀ (f k : Nat), (crecF l k f).2 = 0 → ∀ j, k ≤ j → j < k + f → cerr l j = 0 := by
  intro f
  induction f with
  | zero => intro k _ j h1 h2; omega
  | succ f ih =>
    intro k h j h1 h2
    rw [crecF] at h
    by_cases hc : cerr l k = 0
    · rw [if_pos hc] at h
      by_cases hj : j = k
      · rw [hj]; exact hc
      · exact ih (k + 1) h j (by omega) (by omega)
    · rw [if_neg hc] at h
      exact absurd h hc
theorem crec_zero {l : List Rc} (h : (crec l).2 = 0) {j : Nat} (hj : j < l.length) : cerr l j = 0 := crecF_zero l.length 0 h j (by omega) (by omega)
theorem crecF_of {l : List Rc} : ∀ (f k : Nat), (∀ j, k ≤ j → j < k + f → cerr l j = 0) → (crecF l k f).2 = 0 := by
  intro f
  induction f with
  | zero => intro k _; rfl
  | succ f ih =>
    intro k h
    rw [crecF, if_pos (h k (by omega) (by omega))]
    exact ih (k + 1) fun j h1 h2 => h j (by omega) (by omega)
theorem crec_of {l : List Rc} (h : ∀ j, j < l.length → cerr l j = 0) : (crec l).2 = 0 := crecF_of l.length 0 fun j _ hj => h j (by omega)
theorem cerr_iff {l : List Rc} {k : Nat} : cerr l k = 0 ↔ k < 200 ∧ (rc l k).ok = true ∧ (0 < k → (rc l (k - 1)).i < (rc l k).i) ∧ (0 < k → (rc l (k - 1)).k ≤ (rc l k).k) := by
  unfold cerr
  by_cases h1 : 200 ≤ k
  · rw [if_pos h1]; constructor
    · intro h; simp at h
    · intro h; omega
  · rw [if_neg h1]
    by_cases h2 : (rc l k).ok = true
    · by_cases h3 : 0 < k
      · by_cases h4 : (rc l k).i ≤ (rc l (k - 1)).i
        · rw [if_pos (by simp [h3, h4])]
          constructor
          · intro h; simp at h
          · intro h; have := h.2.2.1 h3; omega
        · rw [if_neg (by simp [h2, h4])]
          by_cases h5 : (rc l k).k < (rc l (k - 1)).k
          · rw [if_pos (by simp [h3, h5])]
            constructor
            · intro h; simp at h
            · intro h; have := h.2.2.2 h3; omega
          · rw [if_neg (by simp [h5])]
            exact ⟨fun _ => ⟨by omega, h2, fun _ => by omega, fun _ => by omega⟩, fun _ => rfl⟩
      · rw [if_neg (by simp [h2, h3]), if_neg (by simp [h3])]
        exact ⟨fun _ => ⟨by omega, h2, fun h => absurd h h3, fun h => absurd h h3⟩, fun _ => rfl⟩
    · have h2' : (rc l k).ok = false := by simpa using h2
      rw [if_pos (by simp [h2'])]
      constructor
      · intro h; simp at h
      · intro h; exact absurd h.2.1 h2
theorem rc_get {l : List Rc} {k : Nat} (hk : k < l.length) : l[k] = rc l k := by simp [rc, hk]
/-- In order: valid re-counts, their numbers rise, no day of knowledge falls, at most 200. -/
structure InOrder (l : List Rc) : Prop where
  ok : ∀ x ∈ l, x.ok = true
  ids : l.Pairwise fun x y => x.i < y.i
  days : l.Pairwise fun x y => x.k ≤ y.k
  len : l.length ≤ 200
theorem inOrder_iff {l : List Rc} : (crec l).2 = 0 ↔ InOrder l := by
  constructor
  · intro h
    have hz := fun j (hj : j < l.length) => cerr_iff.1 (crec_zero h hj)
    have step : ∀ d j, j + d < l.length → (0 < d → (rc l j).i < (rc l (j + d)).i) ∧ (rc l j).k ≤ (rc l (j + d)).k := by
      intro d
      induction d with
      | zero => intro j _; exact ⟨fun h => by omega, Int.le_refl _⟩
      | succ d ih =>
        intro j hj
        have h1 := ih j (by omega)
        have h2 := hz (j + (d + 1)) hj
        have e : j + (d + 1) - 1 = j + d := by omega
        have h3 := h2.2.2.1 (by omega)
        have h4 := h2.2.2.2 (by omega)
        rw [e] at h3 h4
        refine ⟨fun _ => ?_, by omega⟩
        by_cases hd : 0 < d
        · have := h1.1 hd; omega
        · obtain rfl : d = 0 := by omega
          exact h3
    refine ⟨fun x hx => ?_, ?_, ?_, ?_⟩
    · obtain ⟨j, hj, rfl⟩ := List.mem_iff_getElem.1 hx
      rw [rc_get hj]; exact (hz j hj).2.1
    · rw [List.pairwise_iff_getElem]
      intro i j hi hj hij
      rw [rc_get hi, rc_get hj]
      have := (step (j - i) i (by omega)).1 (by omega)
      rwa [show i + (j - i) = j by omega] at this
    · rw [List.pairwise_iff_getElem]
      intro i j hi hj hij
      rw [rc_get hi, rc_get hj]
      have := (step (j - i) i (by omega)).2
      rwa [show i + (j - i) = j by omega] at this
    · by_cases hl : l.length ≤ 200
      · exact hl
      · have := (hz 200 (by omega)).1
        omega
  · rintro ⟨h1, h2, h3, h4⟩
    refine crec_of fun j hj => cerr_iff.2 ⟨by omega, ?_, fun h0 => ?_, fun h0 => ?_⟩
    · rw [← rc_get hj]; exact h1 _ (List.getElem_mem hj)
    · rw [← rc_get hj, ← rc_get (show j - 1 < l.length by omega)]
      exact List.pairwise_iff_getElem.1 h2 _ _ _ _ (by omega)
    · rw [← rc_get hj, ← rc_get (show j - 1 < l.length by omega)]
      exact List.pairwise_iff_getElem.1 h3 _ _ _ _ (by omega)
theorem InOrder.sub {l k : List Rc} (h : InOrder l) (hs : k.Sublist l) : InOrder k :=
  ⟨fun x hx => h.ok x (hs.subset hx), h.ids.sublist hs, h.days.sublist hs, Nat.le_trans hs.length_le h.len⟩
theorem ok_pos {x : Rc} (h : x.ok = true) : 1 ≤ x.i := by
  unfold Rc.ok recountB inR at h
  simp only [Bool.and_eq_true, decide_eq_true_eq] at h
  omega

/-- Numbers that rise. -/
def Up (is : List Int) : Prop := is.Pairwise fun x y => x < y
theorem up_none {is : List Int} {p : Int} (h : p ∉ is) : is.filter (fun n => n == p) = [] := by
  rw [List.filter_eq_nil_iff]
  intro x hx
  simp
  rintro rfl
  exact h hx
theorem up_one {is : List Int} {p : Int} (hu : Up is) (h : p ∈ is) : is.filter (fun n => n == p) = [p] := by
  induction is with
  | nil => cases h
  | cons x t ih =>
    obtain ⟨h1, h2⟩ := List.pairwise_cons.1 hu
    by_cases hx : x = p
    · subst hx
      have : x ∉ t := fun hm => by have := h1 x hm; omega
      rw [List.filter_cons_of_pos (by simp), up_none this]
    · rw [List.filter_cons_of_neg (by simpa using hx)]
      exact ih h2 ((List.mem_cons.1 h).resolve_left fun e => hx e.symm)
theorem up_two {is : List Int} {p q : Int} (hu : Up is) (hp : p ∈ is) (hq : q ∈ is) (hpq : p < q) : is.filter (fun n => n == p || n == q) = [p, q] := by
  induction is with
  | nil => cases hp
  | cons x t ih =>
    obtain ⟨h1, h2⟩ := List.pairwise_cons.1 hu
    by_cases hx : x = p
    · subst hx
      have hn : x ∉ t := fun hm => by have := h1 x hm; omega
      have hqt : q ∈ t := (List.mem_cons.1 hq).resolve_left fun e => by omega
      rw [List.filter_cons_of_pos (by simp)]
      have : t.filter (fun n => n == x || n == q) = t.filter (fun n => n == q) := by
        apply List.filter_congr
        intro n hn2
        have : (n == x) = false := by
          simp
          rintro rfl
          exact hn hn2
        rw [this, Bool.false_or]
      rw [this, up_one h2 hqt]
    · have hpt : p ∈ t := (List.mem_cons.1 hp).resolve_left fun e => hx e.symm
      have := h1 p hpt
      have hqt : q ∈ t := (List.mem_cons.1 hq).resolve_left fun e => by omega
      rw [List.filter_cons_of_neg (by simp; omega)]
      exact ih h2 hpt hqt
/-- The number of the first re-count of a shepherd with a property; 0 if there is none. -/
def firstId (shep : Int) (p : Rc → Bool) (c : List Rc) : Int := match (ofShep shep c).find? p with | some x => x.i | none => 0
def oneId (g : Bool) (shep : Int) (p : Rc → Bool) (c : List Rc) : Int := if g then firstId shep p c else 0
def backL (c : List Rc) (one two : Int) : List Int := (c.filter fun x => x.i == one || x.i == two).map Rc.i
theorem backL_eq (c : List Rc) (one two : Int) : backL c one two = (c.map Rc.i).filter fun n => n == one || n == two := by
  unfold backL
  rw [List.filter_map]
  rfl
theorem firstId_mem {shep : Int} {p : Rc → Bool} {c : List Rc} {x : Rc} (h : (ofShep shep c).find? p = some x) : x ∈ c := by
  have := List.mem_of_find?_eq_some h
  unfold ofShep at this
  exact (List.mem_filter.1 this).1
theorem why_back {m d ra rb : Int} {shep : Int} {c : List Rc} (ho : InOrder c) (hm : m ≤ ra) (hd : d ≤ rb) :
    backL c (oneId (decide (m < ra)) shep (hit pL ra rb) c) (oneId (decide (d < rb)) shep (hit pG ra rb) c) = two (ids m d ra rb (ofShep shep c) 2) := by
  have hu : Up (c.map Rc.i) := by unfold Up; rw [List.pairwise_map]; exact ho.ids
  have h0 : (0 : Int) ∉ c.map Rc.i := by
    intro h
    obtain ⟨x, hx, e⟩ := List.mem_map.1 h
    have := ok_pos (ho.ok x hx)
    omega
  rw [backL_eq]
  have side : ∀ (g : Bool) (pf : Int → Int → Int), (g = true ↔ ¬ pf ra rb = pf m d) → (whySide pf m d ra rb (ofShep shep c) = [] ∧ oneId g shep (hit pf ra rb) c = 0) ∨ ∃ x ∈ c.map Rc.i, whySide pf m d ra rb (ofShep shep c) = [x] ∧ oneId g shep (hit pf ra rb) c = x := by
    intro g pf hg
    unfold whySide oneId firstId
    by_cases hq : pf ra rb = pf m d
    · have : g = false := by cases g with | false => rfl | true => exact absurd hq (hg.1 rfl)
      rw [if_pos hq, this]
      exact .inl ⟨rfl, rfl⟩
    · have : g = true := hg.2 hq
      rw [if_neg hq, this, if_pos rfl]
      cases hf : (ofShep shep c).find? (hit pf ra rb) with
      | none => exact .inl ⟨rfl, rfl⟩
      | some x => exact .inr ⟨x.i, List.mem_map_of_mem (firstId_mem hf), rfl, rfl⟩
  have e : ids m d ra rb (ofShep shep c) 2 = whySide pL m d ra rb (ofShep shep c) ++ whySide pG m d ra rb (ofShep shep c) := by simp [ids]
  rw [e]
  have none2 : (c.map Rc.i).filter (fun n => n == 0 || n == 0) = [] := by
    rw [List.filter_eq_nil_iff]
    intro x hx
    simp
    rintro rfl
    exact h0 hx
  have left : ∀ x ∈ c.map Rc.i, (c.map Rc.i).filter (fun n => n == x || n == 0) = [x] := by
    intro x hx
    rw [← up_one hu hx]
    apply List.filter_congr
    intro n hn
    have : (n == 0) = false := by simp; rintro rfl; exact h0 hn
    rw [this, Bool.or_false]
  have right : ∀ x ∈ c.map Rc.i, (c.map Rc.i).filter (fun n => n == 0 || n == x) = [x] := by
    intro x hx
    rw [← up_one hu hx]
    apply List.filter_congr
    intro n hn
    have : (n == 0) = false := by simp; rintro rfl; exact h0 hn
    rw [this, Bool.false_or]
  rcases side (decide (m < ra)) pL (by simp [pL]; omega) with ⟨a1, a2⟩ | ⟨x, hx, a1, a2⟩ <;> rcases side (decide (d < rb)) pG (by simp [pG]; omega) with ⟨b1, b2⟩ | ⟨y, hy, b1, b2⟩ <;> rw [a1, a2, b1, b2]
  · exact none2
  · exact right y hy
  · exact left x hx
  · have e2 : two [x, y] = if x = y then [x] else [min x y, max x y] := rfl
    show _ = two [x, y]
    rw [e2]
    by_cases hxy : x = y
    · subst hxy
      rw [if_pos rfl, ← up_one hu hx]
      apply List.filter_congr
      intro n _
      simp
    · rw [if_neg hxy]
      rcases Int.lt_or_gt_of_ne hxy with hl | hl
      · rw [up_two hu hx hy hl, show min x y = x by omega, show max x y = y by omega]
      · have : (c.map Rc.i).filter (fun n => n == x || n == y) = (c.map Rc.i).filter (fun n => n == y || n == x) := by
          apply List.filter_congr
          intro n _
          rw [Bool.or_comm]
        rw [this, up_two hu hy hx hl, show min x y = y by omega, show max x y = x by omega]
end Go.Proofs.Ytokpjaodchcheaa
