/- This text proves a law of walks for a range over a function, for iterators that themselves range over one. -/
import Derived.Test.YthdenmbfeanioaaGreatDoorRegion
import Derived.RangeFuncNested
import Derived.RangeFuncBound
import Derived.RangeFuncCalls
import Derived.RangeFuncLeaves
import Derived.Shelf.RegionOpen
import Derived.OwnWalkIn
import Derived.TacticsInMore
import Derived.LoopNIn
import Derived.LoopIn
namespace Go.Proofs.YthdenmbfeanioaaGreatDoor
open Go.RowKit

theorem RoundIn.deep {m m' : Nat} {P : Program} {l : Nat} {f : FuncId} {tmps : Array Value} {assign body : Code} {w : World} {R : Ending → World → Prop} (h : RoundIn Fence.wide m P l f tmps assign body w R) : RoundIn Fence.wide m' P l f tmps assign body w R :=
  ⟨h.1, fun c cs _ => h.2 c cs (room_wide _)⟩

theorem RoundIn.deepIn {m m' q : Nat} {P : Program} {l : Nat} {f : FuncId} {tmps : Array Value} {assign body : Code} {w : World} {R : Ending → World → Prop} (h : RoundIn Fence.wide m P l f tmps assign body w R) : RoundIn (Fence.wide.inRound q) m' P l f tmps assign body w R :=
  ⟨h.1, fun c cs _ => h.2 c cs (room_wide _)⟩

/-- From A to C nothing that lay has turned, but blocks of O. -/
structure Kept (O : Nat → Prop) (A C : World) : Prop where
  os : C.os = A.os
  tape : C.tape = A.tape
  output : C.output = A.output
  size : A.heap.size ≤ C.heap.size
  block : ∀ k, k < A.heap.size → ¬ O k → C.heap[k]? = A.heap[k]?
theorem Kept.refl (O : Nat → Prop) (A : World) : Kept O A A := ⟨rfl, rfl, rfl, Nat.le_refl _, fun _ _ _ => rfl⟩
theorem Kept.trans {O O' : Nat → Prop} {A B C : World} (h : Kept O A B) (k : Kept O' B C) (hO : ∀ j, j < A.heap.size → O' j → O j) : Kept O A C :=
  ⟨k.os.trans h.os, k.tape.trans h.tape, k.output.trans h.output, Nat.le_trans h.size k.size, fun j hj hn => (k.block j (Nat.lt_of_lt_of_le hj h.size) (fun x => hn (hO j hj x))).trans (h.block j hj hn)⟩
theorem Kept.wider {O O' : Nat → Prop} {A C : World} (h : Kept O A C) (hO : ∀ j, j < A.heap.size → O j → O' j) : Kept O' A C :=
  ⟨h.os, h.tape, h.output, h.size, fun k hk hn => h.block k hk (fun x => hn (hO k hk x))⟩
theorem Kept.of_below {O : Nat → Prop} {A C : World} (h : Below A.heap.size A C) : Kept O A C :=
  ⟨h.os, h.tape, h.output, h.size, fun k hk _ => h.block k hk⟩
theorem Kept.below {O : Nat → Prop} {n : Nat} {A C : World} (h : Kept O A C) (hn : n ≤ A.heap.size) (hO : ∀ k, O k → n ≤ k) : Below n A C :=
  ⟨h.os, h.tape, h.output, h.size, fun k hk => h.block k (Nat.lt_of_lt_of_le hk hn) (fun x => by have := hO k x; omega)⟩
theorem Kept.alloc {O : Nat → Prop} {A C : World} (h : Kept O A C) (o : Obj) : Kept O A (C.alloc o) :=
  ⟨h.os, h.tape, h.output, Nat.le_trans h.size (by simp), fun k hk hn => (Below.heap_alloc C o k (Nat.lt_of_lt_of_le hk h.size)).trans (h.block k hk hn)⟩
theorem Kept.drew {O : Nat → Prop} {A C : World} (h : Kept O A C) : Kept O A C.drew := ⟨h.os, h.tape, h.output, h.size, h.block⟩
theorem Kept.setCell {O : Nat → Prop} {A C : World} (h : Kept O A C) {p : Addr} (hp : O p.block ∨ A.heap.size ≤ p.block) (v : Value) : Kept O A (C.setCell p v) :=
  ⟨h.os, h.tape, h.output, by simpa [World.setCell] using h.size, fun k hk hn => (Below.heap_setCell C p v k (by
    rintro rfl
    rcases hp with hp | hp
    · exact hn hp
    · omega)).trans (h.block k hk hn)⟩
theorem Kept.put {O : Nat → Prop} {A C : World} (h : Kept O A C) {l : Nat} (hl : O l ∨ A.heap.size ≤ l) (o : Obj) : Kept O A (C.putObj l o) :=
  ⟨h.os, h.tape, h.output, by simpa using h.size, fun k hk hn => (World.putObj_heap_other (by
    rintro rfl
    rcases hl with hl | hl
    · exact hn hl
    · omega)).trans (h.block k hk hn)⟩
theorem Kept.cell {O : Nat → Prop} {A C : World} (h : Kept O A C) {b o : Nat} {v : Value} (hn : ¬ O b) (hc : A.cell? ⟨b, o, none⟩ = some v) : C.cell? ⟨b, o, none⟩ = some v := by
  have := h.block b (cell_lt hc) hn
  simpa [World.cell?, this] using hc
theorem Kept.frozen {O : Nat → Prop} {A C : World} (h : Kept O A C) {b o : Nat} (hb : b < A.heap.size) (hn : ¬ O b) : C.frozen? ⟨b, o, none⟩ = A.frozen? ⟨b, o, none⟩ := by
  have := h.block b hb hn
  simp [World.frozen?, this]

/-- A caller's word that says which blocks are its own: it abides whatever turns blocks that are not, from B on. -/
def Abide (B : Nat) (J : (Nat → Prop) → World → Prop) : Prop :=
  ∀ O A C, J O A → Kept (fun k => B ≤ k ∧ ¬ O k) A C → J O C

/-- What a round comes to. -/
def Round {α : Type} (J : List α → (Nat → Prop) → World → Prop) (Jx : (Nat → Prop) → World → Prop) (xs : List α) (O : Nat → Prop) (A : World) (e : Ending) (C : World) : Prop :=
  ∃ O', (∀ k, O' k → O k ∨ A.heap.size ≤ k) ∧ Kept O A C ∧ ((e = .returned (.bool true) ∧ J xs O' C) ∨ (e = .returned (.bool false) ∧ Jx O' C))

/-- A function value that yields the arguments of ys, in their order, to whatever loop body that leaves the blocks 'mine' alone. -/
def Iter {α : Type} (g : FuncId) (lb : Array Value) (encs : α → Array Value) (ys : List α) (mine : Nat → Prop) (w : World) : Prop :=
  ∀ (l : Nat) (J : List α → (Nat → Prop) → World → Prop) (Jx : (Nat → Prop) → World → Prop) (W : World) (O0 : Nat → Prop), Below w.heap.size w W →
    (∀ pre, Abide W.heap.size (J pre)) → Abide W.heap.size Jx → (∀ pre O A, J pre O A → ∀ k, O k → k < A.heap.size) → (∀ k, mine k → ¬ O0 k) →
    (∀ pre x O A, J pre O A → (pre ++ [x]) <+: ys → YieldAt Fence.wide 0 Tryz.prog l (encs x) A (Round J Jx (pre ++ [x]) O A)) →
    J [] O0 W → Calls Tryz.prog g (#[.func (.yield l) #[] #[]] ++ lb) W fun e W' => (∃ v, e = .returned v) ∧ ∃ O', J ys O' W' ∨ Jx O' W'

/-- How the body of a round is left. -/
def BodyPost {α : Type} (I : List α → (Nat → Prop) → World → Prop) (Ix : Code → (Nat → Prop) → World → Prop) (xs : List α) (O : Nat → Prop) (A : World) : Exit → Act → World → Prop
  | .normal, _, C => ∃ O', (∀ k, O' k → O k ∨ A.heap.size ≤ k) ∧ Kept O A C ∧ I xs O' C
  | .ret, _, C => ∃ O', (∀ k, O' k → O k ∨ A.heap.size ≤ k) ∧ Kept O A C ∧ Ix .ret O' C
  | .exit id, _, C => ∃ O', (∀ k, O' k → O k ∨ A.heap.size ≤ k) ∧ Kept O A C ∧ Ix (.exit id) O' C
  | _, _, _ => False

theorem Abide.put {B : Nat} {J : (Nat → Prop) → World → Prop} (h : Abide B J) {O : Nat → Prop} {A : World} (hj : J O A) {l : Nat} (hl : B ≤ l) (hO : ¬ O l) (o : Obj) : J O (A.putObj l o) :=
  h O A _ hj ((Kept.refl _ _).put (.inl ⟨hl, hO⟩) o)
theorem Abide.alloc {B : Nat} {J : (Nat → Prop) → World → Prop} (h : Abide B J) {O : Nat → Prop} {A : World} (hj : J O A) (o : Obj) : J O (A.alloc o) :=
  h O A _ hj ((Kept.refl _ _).alloc o)

theorem wp_range {α : Type} {gop : Operand} {ps : Array Tmp} {assign body : Code} {Q : Exit → Act → World → Prop} {a : Act} {w : World}
    {gf : Nat} {lb : Array Value} (hg : a.eval gop = .func (.func gf) #[] lb) (eg : Ent gf)
    {encs : α → Array Value} {ys : List α} {mine : Nat → Prop} (hmine : ∀ k, mine k → k < w.heap.size) (hit : Iter gf lb encs ys mine w) (hps : ∀ x, (encs x).size = ps.size)
    (O0 : Nat → Prop) (hO0 : ∀ k, mine k → ¬ O0 k)
    (I : List α → (Nat → Prop) → World → Prop) (Ix : Code → (Nat → Prop) → World → Prop) (hI : ∀ pre, Abide w.heap.size (I pre)) (hIx : ∀ c, Abide w.heap.size (Ix c)) (hlt : ∀ pre O A, I pre O A → ∀ k, O k → k < A.heap.size) (h0 : I [] O0 w)
    (M : List α → α → Act → (Nat → Prop) → World → Prop) (hM : ∀ pre x a', Abide w.heap.size (M pre x a'))
    (hassign : ∀ (l : Nat) (pre : List α) (x : α) (O : Nat → Prop) (W : World) (K : Act → World → Prop), I pre O W → (pre ++ [x]) <+: ys → (∀ a' O' W', (∀ k, O' k → O k ∨ W.heap.size ≤ k) → Kept O W W' → M pre x a' O' W' → K a' W') →
      assign.wpIn (Fence.wide.inRound l) 9 Tryz.prog (Exit.then K (fun _ _ _ => False)) { tmps := (ps.zip (encs x)).foldl (fun t (p, v) => t.setIfInBounds p v) a.tmps, defers := [] } W)
    (hbody : ∀ (l : Nat) (pre : List α) (x : α) (a' : Act) (O : Nat → Prop) (W : World), w.heap.size ≤ l → ¬ O l → M pre x a' O W → (pre ++ [x]) <+: ys →
      body.wpIn (Fence.wide.inRound l) 9 Tryz.prog (BodyPost I Ix (pre ++ [x]) O W) a' W)
    (hdone : ∀ (D : Nat) (O : Nat → Prop) (W : World), w.heap.size ≤ D → ¬ O D → I ys O W → W.heap[D]? = some (.deferred (some [])) → Q .normal { a with defers := { target := .collected D, args := #[] } :: a.defers } W)
    (hstop : ∀ (D : Nat) (c : Code) (O : Nat → Prop) (W : World), w.heap.size ≤ D → ¬ O D → Ix c O W → W.heap[D]? = some (.deferred (some [])) → c.wp Tryz.prog Q { a with defers := { target := .collected D, args := #[] } :: a.defers } W) :
    (Code.rangeFunc gop ps assign body).wp Tryz.prog Q a w := by
  refine (wpIn_wide (n := 9)).1 (wpIn_rangeFunc fun fn hfn => ?_)
  let rec' : LoopState → Option Code → Obj := fun st pe => .loop { state := st, pending := pe, fn, tmps := a.tmps, params := ps, assign, body, defers := w.heap.size }
  -- the two blocks of book-keeping
  let book : Nat → Prop := fun k => k = w.heap.size ∨ k = w.heap.size + 1
  obtain ⟨W1, hW1⟩ : ∃ W1, (w.alloc (.deferred (some []))).alloc (rec' .ready none) = W1 := ⟨_, rfl⟩
  have hz : W1.heap.size = w.heap.size + 2 := by rw [← hW1]; simp
  have hL1 : W1.heap[w.heap.size + 1]? = some (rec' .ready none) := by
    rw [← hW1]; have := World.alloc_heap_new (w.alloc (.deferred (some []))) (rec' .ready none); rwa [World.size_alloc] at this
  have hK1 : W1.heap[w.heap.size]? = some (.deferred (some [])) := by
    rw [← hW1]; exact (Below.heap_alloc _ _ _ (by simp)).trans (World.alloc_heap_new w _)
  have hI1 : I [] O0 W1 := by rw [← hW1]; exact (hI _).alloc ((hI _).alloc h0 _) _
  have hb1 : Below w.heap.size w W1 := by rw [← hW1]; exact ((Below.refl _ _).alloc (Nat.le_refl _) _).alloc (by simp) _
  have hO0lt : ∀ k, O0 k → k < w.heap.size := hlt _ _ _ h0
  refine ⟨w.heap.size + 1, [{ target := .collected w.heap.size, args := #[] }], W1, { target := .fn (.func gf) lb, args := #[.func (.yield (w.heap.size + 1)) #[] #[]] }, W1, gf,
    #[.func (.yield (w.heap.size + 1)) #[] #[]] ++ lb, W1, ?_, ?_, fun _ _ => trivial, ?_, (fun h => by cases h), ?_⟩
  · rw [← hW1]; exact run_enterLoop_outer _ _ _ _ _
  · simp only [resolve, hg]
    simp [go_sem]
  · simp [invoke, go_sem, eg]
  -- J: the caller's word, with the two blocks among what is the loop's own
  refine callsIn_wide.2 ((hit (w.heap.size + 1)
    (fun pre P W => ∃ O, (∀ k, P k ↔ O k ∨ book k) ∧ (∀ k, O k → ¬ book k) ∧ I pre O W ∧ W.heap[w.heap.size + 1]? = some (rec' .ready none) ∧ W.heap[w.heap.size]? = some (.deferred (some [])))
    (fun P W => ∃ O c, (∀ k, P k ↔ O k ∨ book k) ∧ (∀ k, O k → ¬ book k) ∧ Ix c O W ∧ W.heap[w.heap.size + 1]? = some (rec' .done (some c)) ∧ W.heap[w.heap.size]? = some (.deferred (some [])))
    W1 (fun k => O0 k ∨ book k) hb1 ?_ ?_ ?_ ?_ ?_ ⟨O0, fun _ => Iff.rfl, ?_, hI1, hL1, hK1⟩).mono ?_)
  · rintro pre P A C ⟨O, hP, hOb, hi, hl, hk⟩ hkept
    have hw : Kept (fun k => w.heap.size ≤ k ∧ ¬ O k) A C := hkept.wider fun j _ hj => ⟨by omega, fun x => hj.2 ((hP j).2 (.inl x))⟩
    exact ⟨O, hP, hOb, hI _ _ _ _ hi hw, (hkept.block _ (Array.getElem?_eq_some_iff.1 hl).1 (fun x => x.2 ((hP _).2 (.inr (.inr rfl))))).trans hl, (hkept.block _ (Array.getElem?_eq_some_iff.1 hk).1 (fun x => x.2 ((hP _).2 (.inr (.inl rfl))))).trans hk⟩
  · rintro P A C ⟨O, c, hP, hOb, hi, hl, hk⟩ hkept
    have hw : Kept (fun k => w.heap.size ≤ k ∧ ¬ O k) A C := hkept.wider fun j _ hj => ⟨by omega, fun x => hj.2 ((hP j).2 (.inl x))⟩
    exact ⟨O, c, hP, hOb, hIx _ _ _ _ hi hw, (hkept.block _ (Array.getElem?_eq_some_iff.1 hl).1 (fun x => x.2 ((hP _).2 (.inr (.inr rfl))))).trans hl, (hkept.block _ (Array.getElem?_eq_some_iff.1 hk).1 (fun x => x.2 ((hP _).2 (.inr (.inl rfl))))).trans hk⟩
  · rintro pre P A ⟨O, hP, hOb, hi, hl, hk⟩ k hPk
    rcases (hP k).1 hPk with h | rfl | rfl
    · exact hlt _ _ _ hi k h
    · exact (Array.getElem?_eq_some_iff.1 hk).1
    · exact (Array.getElem?_eq_some_iff.1 hl).1
  · intro k hm
    have h1 := hmine k hm
    rintro (h | rfl | rfl)
    · exact hO0 k hm h
    · omega
    · omega
  · -- one round
    rintro pre x P W ⟨O, hP, hOb, hi, hl, hk⟩ hpre
    refine ⟨fn, _, assign, body, run_yield hl (hps x), RoundIn.deep (roundIn_of_wpIn (n := 9) hfn (hassign _ pre x O W _ hi hpre ?_))⟩
    intro a' Oa Wa hOa hka hm
    have hlW : w.heap.size + 1 < W.heap.size := (Array.getElem?_eq_some_iff.1 hl).1
    have hn1 : ¬ O (w.heap.size + 1) := fun x => hOb _ x (.inr rfl)
    have hn0 : ¬ O w.heap.size := fun x => hOb _ x (.inl rfl)
    have hOab : ∀ k, Oa k → ¬ book k := fun k hx hb => by
      rcases hOa k hx with h | h
      · exact hOb k h hb
      · rcases hb with rfl | rfl <;> omega
    have hl' := (hka.block _ hlW hn1).trans hl
    have hk' := (hka.block _ (by omega) hn0).trans hk
    have hlWa : w.heap.size + 1 < Wa.heap.size := (Array.getElem?_eq_some_iff.1 hl').1
    refine ⟨_, run_beginRound hl' rfl, ?_⟩
    have hl2 : (Wa.putObj (w.heap.size + 1) (rec' .busy none)).heap[w.heap.size + 1]? = some (rec' .busy none) := World.putObj_heap_same hlWa
    have hk2 : (Wa.putObj (w.heap.size + 1) (rec' .busy none)).heap[w.heap.size]? = some (.deferred (some [])) := (World.putObj_heap_other (by omega)).trans hk'
    refine wpIn_mono (hbody _ pre x a' Oa _ (by omega) (fun x => hOab _ x (.inr rfl)) ((hM pre x a').put hm (by omega) (fun x => hOab _ x (.inr rfl)) _) hpre) ?_
    have fin : ∀ (jump : Option Code) (O3 : Nat → Prop) (W3 : World), (∀ k, O3 k → Oa k ∨ (Wa.putObj (w.heap.size + 1) (rec' .busy none)).heap.size ≤ k) → Kept Oa (Wa.putObj (w.heap.size + 1) (rec' .busy none)) W3 →
        ∃ W4, (Instr.endRound (w.heap.size + 1) jump).run Tryz.prog W3 = .ok (.bool jump.isNone) W4 ∧ W4 = W3.putObj (w.heap.size + 1) (rec' (if jump.isNone then .ready else .done) jump) ∧ (∀ k, O3 k → ¬ book k) ∧
          W4.heap[w.heap.size + 1]? = some (rec' (if jump.isNone then .ready else .done) jump) ∧ W4.heap[w.heap.size]? = some (.deferred (some [])) ∧ Kept P W W4 ∧ (∀ k, (O3 k ∨ book k) → P k ∨ W.heap.size ≤ k) := by
      intro jump O3 W3 hO3 h3
      have hz2 : (Wa.putObj (w.heap.size + 1) (rec' .busy none)).heap.size = Wa.heap.size := World.putObj_size
      have hl3 := (h3.block _ (by omega) (fun x => hOab _ x (.inr rfl))).trans hl2
      have hk3 := (h3.block _ (by omega) (fun x => hOab _ x (.inl rfl))).trans hk2
      have hsz := hka.size
      refine ⟨_, run_endRound jump hl3, rfl, fun k hx hb => ?_, World.putObj_heap_same (Array.getElem?_eq_some_iff.1 hl3).1, (World.putObj_heap_other (by omega)).trans hk3, ?_, fun k hx => ?_⟩
      · rcases hO3 k hx with h | h
        · exact hOab k h hb
        · rcases hb with rfl | rfl <;> omega
      · have e1 : Kept P W (Wa.putObj (w.heap.size + 1) (rec' .busy none)) := (hka.wider fun j _ hj => (hP j).2 (.inl hj)).put (.inl ((hP _).2 (.inr (.inr rfl)))) _
        exact (e1.trans h3 fun j hj hx => by
          rcases hOa j hx with h | h
          · exact (hP j).2 (.inl h)
          · omega).put (.inl ((hP _).2 (.inr (.inr rfl)))) _
      · rcases hx with h | h
        · rcases hO3 k h with h | h
          · rcases hOa k h with h | h
            · exact .inl ((hP k).2 (.inl h))
            · exact .inr h
          · exact .inr (by omega)
        · exact .inl ((hP k).2 (.inr h))
    have nb : ∀ {O3 : Nat → Prop}, (∀ k, O3 k → ¬ book k) → ¬ O3 (w.heap.size + 1) := fun h x => h _ x (.inr rfl)
    rintro e a3 W3 hp
    cases e with
    | normal =>
      obtain ⟨O3, p1, p2, p3⟩ := hp
      obtain ⟨W4, hr, rfl, qb, q1, q2, q3, q4⟩ := fin none O3 W3 p1 p2
      exact ⟨_, _, hr, fun k => O3 k ∨ book k, q4, q3, .inl ⟨rfl, O3, fun _ => Iff.rfl, qb, (hI _).put p3 (by omega) (nb qb) _, q1, q2⟩⟩
    | ret =>
      obtain ⟨O3, p1, p2, p3⟩ := hp
      obtain ⟨W4, hr, rfl, qb, q1, q2, q3, q4⟩ := fin (some .ret) O3 W3 p1 p2
      exact ⟨_, _, hr, fun k => O3 k ∨ book k, q4, q3, .inr ⟨rfl, O3, .ret, fun _ => Iff.rfl, qb, (hIx _).put p3 (by omega) (nb qb) _, q1, q2⟩⟩
    | exit id =>
      obtain ⟨O3, p1, p2, p3⟩ := hp
      obtain ⟨W4, hr, rfl, qb, q1, q2, q3, q4⟩ := fin (some (.exit id)) O3 W3 p1 p2
      exact ⟨_, _, hr, fun k => O3 k ∨ book k, q4, q3, .inr ⟨rfl, O3, .exit id, fun _ => Iff.rfl, qb, (hIx _).put p3 (by omega) (nb qb) _, q1, q2⟩⟩
    | goto t => exact hp.elim
    | panic ch => exact hp.elim
    | outgrown => exact hp.elim
  · intro k hx hb
    have := hO0lt k hx
    rcases hb with rfl | rfl <;> omega
  · -- behind the iterator
    rintro e W2 ⟨⟨v, rfl⟩, P, (⟨O, hP, hOb, hi, hl, hk⟩ | ⟨O, c, hP, hOb, hi, hl, hk⟩)⟩
    · have hlt2 : w.heap.size + 1 < W2.heap.size := (Array.getElem?_eq_some_iff.1 hl).1
      exact ⟨none, _, run_endLoop hl (by simp), hdone _ O _ (Nat.le_refl _) (fun x => hOb _ x (.inl rfl)) ((hI _).put hi (by omega) (fun x => hOb _ x (.inr rfl)) _) ((World.putObj_heap_other (by omega)).trans hk)⟩
    · have hlt2 : w.heap.size + 1 < W2.heap.size := (Array.getElem?_eq_some_iff.1 hl).1
      exact ⟨some c, _, run_endLoop hl (by simp), (wpIn_wide (n := 9)).2 (hstop _ c O _ (Nat.le_refl _) (fun x => hOb _ x (.inl rfl)) ((hIx c).put hi (by omega) (fun x => hOb _ x (.inr rfl)) _) ((World.putObj_heap_other (by omega)).trans hk))⟩
/-- The end of a function behind its range over a function: no deferred call was collected. -/
theorem end_collected {F : Fence} {n D : Nat} {tmps : Array Value} {fn : Func} {C : World} {post : Ending → World → Prop} {v : Value} (hd : C.heap[D]? = some (.deferred (some [])))
    (hr : ∀ C2, Kept (fun k => k = D) C C2 → (results fn tmps).run Tryz.prog C2 = .ok v C2) (hp : ∀ C2, Kept (fun k => k = D) C C2 → post (.returned v) C2) (e : Exit) (he : e = .normal ∨ e = .ret) :
    bodyPostM F n Tryz.prog fn post e { tmps, defers := [{ target := .collected D, args := #[] }] } C := by
  have hk : Kept (fun k => k = D) C (C.putObj D (.deferred none)) := Kept.put (l := D) (Kept.refl (fun k => k = D) C) (.inl rfl) _
  rcases he with rfl | rfl <;> exact ⟨by simp, .inl ⟨_, _, rfl, run_takeDeferred hd, v, hr _ hk, hp _ hk⟩⟩
end Go.Proofs.YthdenmbfeanioaaGreatDoor
