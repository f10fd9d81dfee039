/- This text proves the plain laws of lines of tallies and of re-counts: the program's reading and the reference's agree, and what is written reads back. -/
import Derived.Test.YthdenmbfeanioaaGreatDoorTextPlain
import Derived.Test.YthdenmbfeanioaaGreatDoorOpen
namespace Go.Proofs.YthdenmbfeanioaaGreatDoor
open Go.RowKit

def ctL (c : Ct) : List Int := [c.i, c.d, c.s, c.n, c.wo]
def rcL (x : Rc) : List Int := [x.i, x.k, x.d, x.s, x.t, x.n]
def ctOf (l : List Int) : Ct := ⟨it l 0, it l 1, it l 2, it l 3, it l 4⟩
def rcOf (l : List Int) : Rc := ⟨it l 0, it l 2, it l 1, it l 3, it l 4, it l 5⟩
def ctZ : Ct := ⟨0, 0, 0, 0, 0⟩
def rcZ : Rc := ⟨0, 0, 0, 0, 0, 0⟩
def ctB (c : Ct) : Bool := countB c.i c.d c.s c.n c.wo
def rcB (x : Rc) : Bool := recountB x.i x.d x.k x.s x.t x.n
theorem len5 {l : List Int} (h : l.length = 5) : l = ctL (ctOf l) := by
  match l, h with
  | [a, b, c, d, e], _ => rfl
theorem len6 {l : List Int} (h : l.length = 6) : l = rcL (rcOf l) := by
  match l, h with
  | [a, b, c, d, e, f], _ => rfl
theorem ctOf_L (c : Ct) : ctOf (ctL c) = c := rfl
theorem rcOf_L (x : Rc) : rcOf (rcL x) = x := rfl
theorem nat_ct {c : Ct} (h : ctB c = true) : NatL (ctL c) := by
  obtain ⟨h1, h2, h3, h4, h5⟩ := countB_iff.1 h
  intro n hn
  simp only [ctL, List.mem_cons, List.not_mem_nil, or_false] at hn
  rcases hn with rfl | rfl | rfl | rfl | rfl <;> omega
theorem nat_rc {x : Rc} (h : rcB x = true) : NatL (rcL x) := by
  simp only [rcB, recountB, inR, Bool.and_eq_true, decide_eq_true_eq] at h
  intro n hn
  simp only [rcL, List.mem_cons, List.not_mem_nil, or_false] at hn
  rcases hn with rfl | rfl | rfl | rfl | rfl | rfl <;> omega

/-- What is read of a line that must bear so many numbers, and must be what they are written as. -/
def readsN (s : List UInt8) (many : Nat) : Option (List Int) :=
  match readsV (Lib.split s [32]) with
  | some n => if n.length = many ∧ toldV n = s then some n else none
  | none => none
theorem readsN_some {s : List UInt8} {many : Nat} {n : List Int} (h : readsN s many = some n) : n.length = many ∧ toldV n = s := by
  unfold readsN at h
  split at h
  · split at h
    · rename_i h2
      cases h
      exact h2
    · cases h
  · cases h
theorem readsN_told {n : List Int} (hne : n ≠ []) (h : NatL n) : readsN (toldV n) n.length = some n := by
  unfold readsN
  rw [reads_told hne h]
  exact if_pos ⟨rfl, rfl⟩
/-- What Read returns: the program's. -/
def readC (s : List UInt8) : Ct × Int := match readsN s 5 with
  | some n => if ctB (ctOf n) then (ctOf n, 0) else (ctZ, 4)
  | none => (ctZ, 4)
def readR (s : List UInt8) : Rc × Int := match readsN s 6 with
  | some n => if rcB (rcOf n) then (rcOf n, 0) else (rcZ, 4)
  | none => (rcZ, 4)
/-- The reference's. -/
def rreadC (s : List UInt8) : Ct × Int := if (numbersV s).length = 5 ∧ ctB (ctOf (numbersV s)) = true ∧ toldV (numbersV s) = s then (ctOf (numbersV s), 0) else (ctZ, 4)
def rreadR (s : List UInt8) : Rc × Int := if (numbersV s).length = 6 ∧ rcB (rcOf (numbersV s)) = true ∧ toldV (numbersV s) = s then (rcOf (numbersV s), 0) else (rcZ, 4)
theorem ctL_ne (c : Ct) : ctL c ≠ [] := by simp [ctL]
theorem rcL_ne (x : Rc) : rcL x ≠ [] := by simp [rcL]
theorem readC_told {c : Ct} (h : ctB c = true) : readC (toldV (ctL c)) = (c, 0) := by
  unfold readC
  have := readsN_told (ctL_ne c) (nat_ct h)
  rw [show (ctL c).length = 5 from rfl] at this
  rw [this]
  dsimp only
  rw [ctOf_L, if_pos h]
theorem readR_told {x : Rc} (h : rcB x = true) : readR (toldV (rcL x)) = (x, 0) := by
  unfold readR
  have := readsN_told (rcL_ne x) (nat_rc h)
  rw [show (rcL x).length = 6 from rfl] at this
  rw [this]
  dsimp only
  rw [rcOf_L, if_pos h]
theorem rreadC_told {c : Ct} (h : ctB c = true) : rreadC (toldV (ctL c)) = (c, 0) := by
  unfold rreadC
  rw [numbers_told (ctL_ne c) (nat_ct h), ctOf_L, if_pos ⟨rfl, h, rfl⟩]
theorem rreadR_told {x : Rc} (h : rcB x = true) : rreadR (toldV (rcL x)) = (x, 0) := by
  unfold rreadR
  rw [numbers_told (rcL_ne x) (nat_rc h), rcOf_L, if_pos ⟨rfl, h, rfl⟩]
/-- A line that is read is what its tally is written as. -/
theorem readC_cases (s : List UInt8) : readC s = (ctZ, 4) ∨ ∃ c, ctB c = true ∧ s = toldV (ctL c) ∧ readC s = (c, 0) := by
  cases hr : readsN s 5 with
  | none => exact .inl (by unfold readC; rw [hr])
  | some n =>
    obtain ⟨h1, h2⟩ := readsN_some hr
    cases hb : ctB (ctOf n) with
    | false => exact .inl (by unfold readC; rw [hr]; dsimp only; rw [hb]; rfl)
    | true => exact .inr ⟨ctOf n, hb, by rw [← len5 h1, h2], by unfold readC; rw [hr]; dsimp only; rw [hb]; rfl⟩
theorem readR_cases (s : List UInt8) : readR s = (rcZ, 4) ∨ ∃ x, rcB x = true ∧ s = toldV (rcL x) ∧ readR s = (x, 0) := by
  cases hr : readsN s 6 with
  | none => exact .inl (by unfold readR; rw [hr])
  | some n =>
    obtain ⟨h1, h2⟩ := readsN_some hr
    cases hb : rcB (rcOf n) with
    | false => exact .inl (by unfold readR; rw [hr]; dsimp only; rw [hb]; rfl)
    | true => exact .inr ⟨rcOf n, hb, by rw [← len6 h1, h2], by unfold readR; rw [hr]; dsimp only; rw [hb]; rfl⟩
theorem rreadC_cases (s : List UInt8) : rreadC s = (ctZ, 4) ∨ ∃ c, ctB c = true ∧ s = toldV (ctL c) ∧ rreadC s = (c, 0) := by
  by_cases h : (numbersV s).length = 5 ∧ ctB (ctOf (numbersV s)) = true ∧ toldV (numbersV s) = s
  · exact .inr ⟨_, h.2.1, by rw [← len5 h.1, h.2.2], if_pos h⟩
  · exact .inl (if_neg h)
theorem rreadR_cases (s : List UInt8) : rreadR s = (rcZ, 4) ∨ ∃ x, rcB x = true ∧ s = toldV (rcL x) ∧ rreadR s = (x, 0) := by
  by_cases h : (numbersV s).length = 6 ∧ rcB (rcOf (numbersV s)) = true ∧ toldV (numbersV s) = s
  · exact .inr ⟨_, h.2.1, by rw [← len6 h.1, h.2.2], if_pos h⟩
  · exact .inl (if_neg h)
/-- The two readings agree. -/
theorem read_same (s : List UInt8) : readC s = rreadC s := by
  rcases readC_cases s with h | ⟨c, hb, hs, h⟩
  · rcases rreadC_cases s with k | ⟨c, hb, hs, k⟩
    · rw [h, k]
    · rw [k, hs, readC_told hb]
  · rw [h, hs, rreadC_told hb]
theorem readR_same (s : List UInt8) : readR s = rreadR s := by
  rcases readR_cases s with h | ⟨c, hb, hs, h⟩
  · rcases rreadR_cases s with k | ⟨c, hb, hs, k⟩
    · rw [h, k]
    · rw [k, hs, readR_told hb]
  · rw [h, hs, rreadR_told hb]
end Go.Proofs.YthdenmbfeanioaaGreatDoor
