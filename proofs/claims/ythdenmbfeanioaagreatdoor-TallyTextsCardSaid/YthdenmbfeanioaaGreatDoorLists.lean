/- This text proves general words on lists that a call makes by append: the cells of a list of re-counts, of intervals or of integers in a row of the call's own. -/
import Derived.Test.YthdenmbfeanioaaGreatDoorOpen
import Derived.Test.YthdenmbfeanioaaGreatDoorWhy
namespace Go.Proofs.YthdenmbfeanioaaGreatDoor
open Go.RowKit

theorem cells_new (w : World) (cs : Array Value) (t : TypeId) : ∀ j u, cs.toList[j]? = some u → (w.alloc (.cells cs t)).cell? ((⟨w.heap.size, 0, none⟩ : Addr).add j) = some u := by
  intro j u hj
  have h : ((⟨w.heap.size, 0, none⟩ : Addr).add j) = ⟨w.heap.size, j, none⟩ := by
    unfold Addr.add
    split
    · rename_i e; subst e; rfl
    · simp
  rw [h]
  have hj' : cs[j]? = some u := by simpa using hj
  have hn := World.alloc_heap_new w (.cells cs t)
  unfold World.cell?
  rw [hn]
  exact hj'

section
variable {α : Type} {enc : α → List Value} {n : Nat}
def cellsL (enc : α → List Value) (l : List α) : List Value := l.flatMap enc
theorem cellsL_nil : cellsL enc [] = [] := rfl
theorem cellsL_snoc (l : List α) (x : α) : cellsL enc (l ++ [x]) = cellsL enc l ++ enc x := by simp [cellsL]
theorem cellsL_get (h : ∀ x, (enc x).length = n) (l : List α) (k j : Nat) (hj : j < n) (x : α) (hx : l[k]? = some x) : (cellsL enc l)[k * n + j]? = (enc x)[j]? := by
  induction l generalizing k with
  | nil => simp at hx
  | cons y l ih =>
    cases k with
    | zero =>
      simp only [List.getElem?_cons_zero, Option.some.injEq] at hx
      subst hx
      have : cellsL enc (y :: l) = enc y ++ cellsL enc l := by simp [cellsL]
      rw [this, Nat.zero_mul, Nat.zero_add, List.getElem?_append_left (by rw [h]; exact hj)]
    | succ k =>
      have e : cellsL enc (y :: l) = enc y ++ cellsL enc l := by simp [cellsL]
      have hx' : l[k]? = some x := by simpa using hx
      rw [e, List.getElem?_append_right (by rw [h, Nat.succ_mul]; omega), h, ← ih k hx']
      congr 1
      rw [Nat.succ_mul]
      omega
end

def rcC (x : Rc) : List Value := [.int .i64 x.i, .int .i64 x.d, .int .i64 x.k, .int .i64 x.s, .int .i64 x.t, .int .i64 x.n]
theorem rcC_len (x : Rc) : (rcC x).length = 6 := rfl
theorem rc_info : (Tryz.prog.info? 25).map (fun i => (i.zero, i.size, i.bytes)) = some (some (.agg #[.int .i64 0, .int .i64 0, .int .i64 0, .int .i64 0, .int .i64 0, .int .i64 0]), 6, 48) := by kernel_rfl
/-- The row that a call has made by append reads as the list. -/
theorem rc_own {w : World} {base : Nat} {v : Value} {l : List Rc} (h : w.ownsRow base 25 6 v l.length (cellsL rcC l)) : ∃ b c, v = .slice b l.length c ∧ (l.length ≤ 1000000000000 → Recs w b l) ∧ ∀ g o, b = some ⟨g, o, none⟩ → base ≤ g := by
  rcases h.2 with ⟨rfl, h0⟩ | ⟨g, cap, cur, rfl, hbg, hg, _⟩
  · obtain rfl : l = [] := List.length_eq_zero_iff.1 h0
    exact ⟨none, 0, rfl, fun h => ⟨h, fun e => (e rfl).elim⟩, fun g o h => by cases h⟩
  · refine ⟨_, cap, rfl, fun hb => ⟨hb, fun _ => ⟨g, 0, rfl, fun k hk => ?_⟩⟩, fun g' o h => by cases h; exact hbg⟩
    have hx : l[k]? = some (rc l k) := by simp [rc, hk]
    have hc : ∀ j u, j < 6 → (rcC (rc l k))[j]? = some u → w.cell? ⟨g, 0 + k * 6 + j, none⟩ = some u := fun j u hj hu =>
      add_cell2 ⟨g, 0, none⟩ _ _ _ j w _ rfl (h.cells (g := g) rfl _ _ ((cellsL_get rcC_len l k j hj _ hx).trans hu))
    exact ⟨hc 0 _ (by omega) rfl, hc 1 _ (by omega) rfl, hc 2 _ (by omega) rfl, hc 3 _ (by omega) rfl, hc 4 _ (by omega) rfl, hc 5 _ (by omega) rfl⟩

def ivC (x : Iv) : List Value := [.int .i64 x.lo, .int .i64 x.hi, .bool x.some]
theorem ivC_len (x : Iv) : (ivC x).length = 3 := rfl
theorem iv_info : (Tryz.prog.info? 42).map (fun i => (i.zero, i.size, i.bytes)) = some (some (.agg #[.int .i64 0, .int .i64 0, .bool false]), 3, 24) := by kernel_rfl
/-- The row that a call has made by append reads as the list. -/
theorem iv_own {w : World} {base : Nat} {v : Value} {l : List Iv} (h : w.ownsRow base 42 3 v l.length (cellsL ivC l)) : ∃ b c, v = .slice b l.length c ∧ (l.length ≤ 1000000000000 → Ivs w b l) ∧ ∀ g o, b = some ⟨g, o, none⟩ → base ≤ g := by
  rcases h.2 with ⟨rfl, h0⟩ | ⟨g, cap, cur, rfl, hbg, hg, _⟩
  · obtain rfl : l = [] := List.length_eq_zero_iff.1 h0
    exact ⟨none, 0, rfl, fun h => ⟨h, fun e => (e rfl).elim⟩, fun g o h => by cases h⟩
  · refine ⟨_, cap, rfl, fun hb => ⟨hb, fun _ => ⟨g, 0, rfl, fun k hk => ?_⟩⟩, fun g' o h => by cases h; exact hbg⟩
    have hx : l[k]? = some (iv l k) := by simp [iv, hk]
    have hc : ∀ j u, j < 3 → (ivC (iv l k))[j]? = some u → w.cell? ⟨g, 0 + k * 3 + j, none⟩ = some u := fun j u hj hu =>
      add_cell2 ⟨g, 0, none⟩ _ _ _ j w _ rfl (h.cells (g := g) rfl _ _ ((cellsL_get ivC_len l k j hj _ hx).trans hu))
    exact ⟨hc 0 _ (by omega) rfl, hc 1 _ (by omega) rfl, hc 2 _ (by omega) rfl⟩

def intC (x : Int) : List Value := [.int .i64 x]
theorem intC_len (x : Int) : (intC x).length = 1 := rfl
theorem int_own {w : World} {base : Nat} {v : Value} {l : List Int} (h : w.ownsRow base 3 1 v l.length (cellsL intC l)) : ∃ b c, v = .slice b l.length c ∧ (l.length ≤ 1000000000000 → Ints w b l) ∧ ∀ g o, b = some ⟨g, o, none⟩ → base ≤ g := by
  rcases h.2 with ⟨rfl, h0⟩ | ⟨g, cap, cur, rfl, hbg, hg, _⟩
  · obtain rfl : l = [] := List.length_eq_zero_iff.1 h0
    exact ⟨none, 0, rfl, fun h => ⟨h, fun e => (e rfl).elim⟩, fun g o h => by cases h⟩
  · refine ⟨_, cap, rfl, fun hb => ⟨hb, fun _ => ⟨g, 0, rfl, fun k hk => ?_⟩⟩, fun g' o h => by cases h; exact hbg⟩
    have hx : l[k]? = some (it l k) := by simp [it, hk]
    have := add_cell ⟨g, 0, none⟩ _ _ _ w _ rfl (h.cells (g := g) rfl _ _ ((cellsL_get intC_len l k 0 (by omega) _ hx).trans rfl))
    simpa using this
theorem own_nil (w : World) (base : Nat) (e : TypeId) (size : Nat) : w.ownsRow base e size (.slice none 0 0) 0 [] := ⟨by simp, .inl ⟨rfl, rfl⟩⟩
theorem own_below {w w1 : World} {base : Nat} {e : TypeId} {size n : Nat} {v : Value} {xs : List Value} (h : w.ownsRow base e size v n xs) (hb : Below w.heap.size w w1) : w1.ownsRow base e size v n xs :=
  ownsRow_kept h (Kept.of_below (O := fun _ => False) hb) (fun _ _ h => h)
end Go.Proofs.YthdenmbfeanioaaGreatDoor
