/- This text proves one law of walks: a region that draws its order, in which all operations but the last ones are quiet and the last ones wait for all the others, is walked once. -/
import Derived.Test.YthdenmbfeanioaaGreatDoorBase
namespace Go.Proofs.YthdenmbfeanioaaGreatDoor
open Go.RowKit

section
variable {P : Program} {ops : Array Oper} {md : Region.Mode} {Q : Exit → Act → World → Prop} {C : World → Prop}

/-- All that is listed, but j, is among what operation j waits for. -/
def waitsAll (md : Region.Mode) (ops : Array Oper) (listed : Array Bool) (j : Nat) : Bool :=
  (List.range ops.size).all fun i => i == j || !listed.getD i false || match ops[j]? with
    | some oj => oj.after.any fun e => Region.binds md e && e.on == i
    | none => false
theorem waitsAll_spec {listed : Array Bool} {j i : Nat} {oj : Oper} (hj : ops[j]? = some oj) (h : waitsAll md ops listed j = true) (hi : i < ops.size) (hne : i ≠ j) (hl : listed.getD i false = true) :
    ∃ e ∈ oj.after, Region.binds md e = true ∧ e.on = i := by
  have h1 := List.all_eq_true.1 h i (List.mem_range.2 hi)
  simp only [hj, Bool.or_eq_true, beq_iff_eq, Bool.not_eq_true'] at h1
  rcases h1 with (h1 | h1) | h1
  · exact absurd h1 hne
  · rw [hl] at h1; cases h1
  · obtain ⟨e, he, hb⟩ := Array.any_eq_true'.1 h1
    simp only [Bool.and_eq_true, beq_iff_eq] at hb
    exact ⟨e, he, hb.1, hb.2⟩

/-- From every world of a class, in whatever order from here on. -/
def wpAnyL (P : Program) (md : Region.Mode) (ops : Array Oper) (C : World → Prop) (Q : Exit → Act → World → Prop) : Nat → Array Bool → Act → Prop
  | 0, listed, a => Region.ready md ops listed = [] ∧ ∀ W, C W → Q .normal a W
  | fuel + 1, listed, a => (Region.ready md ops listed = [] → ∀ W, C W → Q .normal a W) ∧
    ∀ j ∈ Region.ready md ops listed, ∃ o, ops[j]? = some o ∧
      ((∃ v, YieldsIn P ops C o v a ∧ wpAnyL P md ops C Q fuel (listed.setIfInBounds j true) (a.put o.dst v)) ∨
       (waitsAll md ops listed j = true ∧ ∀ W, C W → wpOp P ops Q j (wpAny P md ops Q fuel (listed.setIfInBounds j true)) a W))

theorem wpOp_of_yields {j : Nat} {o : Oper} {v : Value} {a : Act} {W : World} {K : Act → World → Prop} (ho : ops[j]? = some o) (hw : C W) (hy : YieldsIn P ops C o v a)
    (h : ∀ W', C W' → K (a.put o.dst v) W') : wpOp P ops Q j K a W :=
  wpOp_of_qOp (C := C) (K := fun a' => a' = a.put o.dst v) hw (fun a' w' hw' e => by subst e; exact h w' hw') (hy.qOp ho rfl)

theorem wpAny_of_L : ∀ (fuel : Nat) (listed : Array Bool) (a : Act) (W : World), C W → wpAnyL P md ops C Q fuel listed a → wpAny P md ops Q fuel listed a W
  | 0, _, _, _, hw, h => ⟨h.1, h.2 _ hw⟩
  | fuel + 1, _, a, W, hw, h => ⟨fun h0 => h.1 h0 _ hw, fun j hj => by
      obtain ⟨o, ho, h1 | ⟨_, h1⟩⟩ := h.2 j hj
      · obtain ⟨v, hy, hk⟩ := h1
        exact wpOp_of_yields ho hw hy fun W' hW' => wpAny_of_L fuel _ _ _ hW' hk
      · exact h1 _ hw⟩

theorem listed_lt {listed : Array Bool} {i : Nat} (h : listed.getD i true = false) : listed.getD i false = false ∧ i < listed.size := by
  rcases Nat.lt_or_ge i listed.size with h' | h'
  · simp [h'] at h ⊢; exact h
  · simp [Array.getElem?_eq_none h'] at h

/-- A quiet operation that may come up now may be taken first, if every other one that has not come up waits for it or is apart from it. -/
theorem wpAnyL_first {i : Nat} {oi : Oper} {v : Value} (hi : ops[i]? = some oi) (hsel : ∀ (j : Nat) (o : Oper) cs b, ops[j]? = some o → o.op ≠ .select cs b) :
    ∀ (fuel : Nat) (listed : Array Bool) (a : Act),
      (∀ j oj, ops[j]? = some oj → j ≠ i → listed.getD j true = false → (∀ e ∈ oj.after, Region.binds md e = true → e.on ≠ i) → oi.apart ops oj = true) →
      i ∈ Region.ready md ops listed → YieldsIn P ops C oi v a →
      wpAnyL P md ops C Q fuel (listed.setIfInBounds i true) (a.put oi.dst v) → wpAnyL P md ops C Q (fuel + 1) listed a := by
  intro fuel
  induction fuel with
  | zero =>
    intro listed a _ hr hy H
    refine ⟨fun h => (by rw [h] at hr; cases hr), fun j hj => ?_⟩
    by_cases hji : j = i
    · subst hji; exact ⟨oi, hi, .inl ⟨v, hy, H⟩⟩
    · have := ready_mono hj hji
      rw [H.1] at this
      cases this
  | succ fuel ih =>
    intro listed a hfree hr hy H
    refine ⟨fun h => (by rw [h] at hr; cases hr), fun j hj => ?_⟩
    by_cases hji : j = i
    · subst hji; exact ⟨oi, hi, .inl ⟨v, hy, H⟩⟩
    obtain ⟨oj, hoj, h1⟩ := H.2 j (ready_mono hj hji)
    obtain ⟨hjun, oj', hoj', hall⟩ := mem_ready.1 hj
    obtain rfl : oj' = oj := Option.some.inj (hoj'.symm.trans hoj)
    have hun := listed_lt (mem_ready.1 hr).1
    have hnot : ∀ e ∈ oj'.after, Region.binds md e = true → e.on ≠ i := fun e he hb heq => by
      have h1 := hall e he hb
      rw [heq, hun.1] at h1
      cases h1
    have hap := hfree j oj' hoj hji hjun hnot
    obtain ⟨p1, p2, p3⟩ := Oper.apart_spec hap
    refine ⟨oj', hoj, ?_⟩
    rcases h1 with ⟨u, hu, hk⟩ | ⟨hw, _⟩
    · refine .inl ⟨u, hu.of_same (execOp_put oj' (fun cs b => hsel j oj' cs b hoj) a oi.dst v p1).symm (wanted_put oj' a oi.dst v p1).symm, ?_⟩
      have hfree' : ∀ k ok, ops[k]? = some ok → k ≠ i → (listed.setIfInBounds j true).getD k true = false →
          (∀ e ∈ ok.after, Region.binds md e = true → e.on ≠ i) → oi.apart ops ok = true := fun k ok hk hki hun' hno => by
        refine hfree k ok hk hki ?_ hno
        by_cases hjk : j = k
        · subst hjk; exact hjun
        · rw [getD_set_ne true hjk] at hun'; exact hun'
      refine ih (listed.setIfInBounds j true) (a.put oj'.dst u) hfree' (ready_mono hr (Ne.symm hji))
        (hy.of_same (execOp_put oi (fun cs b => hsel i oi cs b hi) a oj'.dst u p3) (wanted_put oi a oj'.dst u p3)) ?_
      rw [Array.setIfInBounds_comm _ _ hji, ← Act.put_comm a v u p2]
      exact hk
    · have hii : i < ops.size := (Array.getElem?_eq_some_iff.1 hi).1
      obtain ⟨e, he, hb, heq⟩ := waitsAll_spec hoj hw hii (Ne.symm hji) (by simp [hun.2])
      exact absurd heq (hnot e he hb)

/-- The last operations come up one behind the other. -/
def tailB (md : Region.Mode) (ops : Array Oper) : Nat → Nat → Array Bool → Bool
  | 0, _, listed => (Region.ready md ops listed).isEmpty
  | g + 1, k, listed => decide (Region.ready md ops listed = [k]) && tailB md ops g (k + 1) (listed.setIfInBounds k true)
theorem wpAny_of_tail : ∀ (l : List Oper) (k : Nat) (listed : Array Bool) (a : Act) (w : World), (∀ j, l[j]? = ops[k + j]?) →
    tailB md ops l.length k listed = true → wpList P ops Q l a w → wpAny P md ops Q l.length listed a w
  | [], _, _, _, _, _, hB, h => ⟨by simpa [tailB] using hB, h⟩
  | o :: l, k, listed, a, w, hl, hB, h => by
    have h0 : ops[k]? = some o := by simpa using (hl 0).symm
    simp only [List.length_cons, tailB, Bool.and_eq_true, decide_eq_true_eq] at hB
    refine ⟨fun h1 => (by rw [hB.1] at h1; cases h1), fun i hi => ?_⟩
    rw [hB.1] at hi
    obtain rfl : i = k := by simpa using hi
    have hw : wpOp P ops Q i (wpList P ops Q l) a w := by unfold wpOp; simp only [h0]; exact h
    exact wpOp_mono (fun a' w' h' => wpAny_of_tail l (i + 1) _ a' w' (fun j => by have := hl (j + 1); simpa [Nat.add_assoc, Nat.add_comm 1 j] using this) hB.2 h') hw

/-- First the quiet ones in the text's order, then the last ones. -/
def headB (md : Region.Mode) (ops : Array Oper) (g : Nat) : Nat → Nat → Array Bool → Bool
  | 0, k, listed => waitsAll md ops listed k && tailB md ops g k listed
  | f + 1, k, listed => (Region.ready md ops listed).contains k && Region.free md ops listed k && headB md ops g f (k + 1) (listed.setIfInBounds k true)

theorem wpAnyL_lex (hs : Region.noSelect ops = true) (t : List Oper) (ht : t ≠ []) : ∀ (l : List Oper) (k : Nat) (listed : Array Bool) (a : Act), (∀ j, (l ++ t)[j]? = ops[k + j]?) →
    headB md ops t.length l.length k listed = true → wpQuiet P ops C (fun a' => ∀ W, C W → wpList P ops Q t a' W) l a → wpAnyL P md ops C Q (l ++ t).length listed a
  | [], k, listed, a, hl, hB, h => by
    simp only [List.length_nil, headB, Bool.and_eq_true] at hB
    obtain ⟨o, t', rfl⟩ := List.exists_cons_of_ne_nil ht
    have h0 : ops[k]? = some o := by simpa using (hl 0).symm
    have hB2 := hB.2
    simp only [List.length_cons, tailB, Bool.and_eq_true, decide_eq_true_eq] at hB2
    refine ⟨fun h1 => (by rw [hB2.1] at h1; cases h1), fun j hj => ?_⟩
    rw [hB2.1] at hj
    obtain rfl : j = k := by simpa using hj
    refine ⟨o, h0, .inr ⟨hB.1, fun W hW => ?_⟩⟩
    have hw : wpOp P ops Q j (wpList P ops Q t') a W := by unfold wpOp; simp only [h0]; exact h W hW
    exact wpOp_mono (fun a' w' h' => wpAny_of_tail t' (j + 1) _ a' w' (fun i => by have := hl (i + 1); simpa [Nat.add_assoc, Nat.add_comm 1 i] using this) hB2.2 h') hw
  | o :: l, k, listed, a, hl, hB, h => by
    have h0 : ops[k]? = some o := by simpa using (hl 0).symm
    simp only [List.length_cons, headB, Bool.and_eq_true] at hB
    obtain ⟨⟨hr, hf⟩, hB'⟩ := hB
    have hst : qOp P ops C k (wpQuiet P ops C (fun a' => ∀ W, C W → wpList P ops Q t a' W) l) a := by unfold qOp; simp only [h0]; exact h
    obtain ⟨v, hy, hK⟩ := yieldsIn_of_qOp h0 hst
    exact wpAnyL_first h0 (Region.noSelect_spec hs) (l ++ t).length listed a (Region.free_spec h0 hf) (by simpa using hr) hy
      (wpAnyL_lex hs t ht l (k + 1) _ _ (fun j => by have := hl (j + 1); simpa [Nat.add_assoc, Nat.add_comm 1 j] using this) hB' hK)

/-- A region whose first n operations are quiet and whose last ones wait for all the others. -/
theorem wp_region_tail {id : Nat} {a : Act} {w : World} {l : List Oper} (n : Nat) (w0 : World) (hm : P.follows .mixedOrders = true)
    (hB : (Region.noSelect l.toArray && decide (n < l.length) && headB .any l.toArray (l.length - n) n 0 (Array.replicate l.length false)) = true) (hw : Below w0.heap.size w0 w)
    (h : wpQuiet P l.toArray (fun w' => ∃ x : Later w0, w' = x.1) (fun a' => ∀ x : Later w0, wpList P l.toArray Q (l.drop n) a' x.1) (l.take n) a) : (Code.region id l.toArray true).wp P Q a w := by
  simp only [Bool.and_eq_true, decide_eq_true_eq] at hB
  obtain ⟨⟨hs, hn⟩, hB⟩ := hB
  have htl : (l.take n).length = n := by simp; omega
  refine wp_region_any hm (wpAny_of_L (C := fun w' => ∃ x : Later w0, w' = x.1) _ _ _ _ ⟨⟨_, hw.drew⟩, rfl⟩ ?_)
  have e : (fun a' => ∀ x : Later w0, wpList P l.toArray Q (l.drop n) a' x.1) = (fun a' => ∀ w', (∃ x : Later w0, w' = x.1) → wpList P l.toArray Q (l.drop n) a' w') := by
    funext a'; exact propext ⟨fun h w' ⟨x, hx⟩ => hx ▸ h x, fun h x => h _ ⟨x, rfl⟩⟩
  rw [e] at h
  have := wpAnyL_lex (md := .any) (C := fun w' => ∃ x : Later w0, w' = x.1) (Q := Q) hs (l.drop n) (by simp; omega) (l.take n) 0 (Array.replicate l.length false) a (by simp) (by rw [htl, List.length_drop]; exact hB) h
  simpa using this
end
end Go.Proofs.YthdenmbfeanioaaGreatDoor
