/- This text is a part of the proof: LoopE, Put, ArcPlain. -/
import Derived.Test.YtlppdgaogdpajaaGreatDoorK12
namespace Go.Proofs.YtlppdgaogdpajaaGreatDoor
open Go.RowKit
def IterE {α : Type} (g : FuncId) (lb : Array Value) (E : Nat → α → World → Array Value → Prop) (ys : List α) (mine : Nat → Prop) (w : World) : Prop :=
 ∀ (l : Nat) (J : List α → (Nat → Prop) → World → Prop) (Jx : (Nat → Prop) → World → Prop) (W : World) (O0 : Nat → Prop), Below w.heap.size w W →
  (∀ pre, Abide W.heap.size (J pre)) → Abide W.heap.size Jx → (∀ pre O A, J pre O A → ∀ k, O k → k < A.heap.size) → (∀ k, mine k → ¬ O0 k) →
  (∀ pre x v O A, J pre O A → (pre ++ [x]) <+: ys → E W.heap.size x A v → YieldAt Fence.wide 0 Tryz.prog l v A (Round J Jx (pre ++ [x]) O A)) →
  J [] O0 W → Calls Tryz.prog g (#[.func (.yield l) #[] #[]] ++ lb) W fun e W' => (∃ v, e = .returned v) ∧ ∃ O', J ys O' W' ∨ Jx O' W'
theorem wp_rangeE {α : Type} {gop : Operand} {ps : Array Tmp} {assign body : Code} {Q : Exit → Act → World → Prop} {a : Act} {w : World}
  {gf : Nat} {lb : Array Value} (hg : a.eval gop = .func (.func gf) #[] lb) (eg : Ent gf)
  {E : Nat → α → World → Array Value → Prop} {ys : List α} {mine : Nat → Prop} (hmine : ∀ k, mine k → k < w.heap.size) (hit : IterE gf lb E ys mine w) (hps : ∀ b x A v, E b x A v → v.size = ps.size)
  (O0 : Nat → Prop) (hO0 : ∀ k, mine k → ¬ O0 k)
  (I : List α → (Nat → Prop) → World → Prop) (Ix : Code → (Nat → Prop) → World → Prop) (hI : ∀ pre, Abide w.heap.size (I pre)) (hIx : ∀ c, Abide w.heap.size (Ix c)) (hlt : ∀ pre O A, I pre O A → ∀ k, O k → k < A.heap.size) (h0 : I [] O0 w)
  (M : List α → α → Act → (Nat → Prop) → World → Prop) (hM : ∀ pre x a' O A l o, w.heap.size ≤ l → l < w.heap.size + 2 → ¬ O l → M pre x a' O A → M pre x a' O (A.putObj l o))
  (hassign : ∀ (l : Nat) (pre : List α) (x : α) (v : Array Value) (O : Nat → Prop) (W : World) (K : Act → World → Prop), I pre O W → (pre ++ [x]) <+: ys → E (w.heap.size + 2) x W v → (∀ a' O' W', (∀ k, O' k → O k ∨ W.heap.size ≤ k) → Kept O W W' → M pre x a' O' W' → K a' W') →
   assign.wpIn (Fence.wide.inRound l) 9 Tryz.prog (Exit.then K (fun _ _ _ => False)) { tmps := (ps.zip v).foldl (fun t (p, v) => t.setIfInBounds p v) a.tmps, defers := [] } W)
  (hbody : ∀ (l : Nat) (pre : List α) (x : α) (a' : Act) (O : Nat → Prop) (W : World), w.heap.size ≤ l → ¬ O l → M pre x a' O W → (pre ++ [x]) <+: ys →
   body.wpIn (Fence.wide.inRound l) 9 Tryz.prog (BodyPost I Ix (pre ++ [x]) O W) a' W)
  (hdone : ∀ (D : Nat) (O : Nat → Prop) (W : World), w.heap.size ≤ D → ¬ O D → I ys O W → W.heap[D]? = some (.deferred (some [])) → Q .normal { a with defers := { target := .collected D, args := #[] } :: a.defers } W)
  (hstop : ∀ (D : Nat) (c : Code) (O : Nat → Prop) (W : World), w.heap.size ≤ D → ¬ O D → Ix c O W → W.heap[D]? = some (.deferred (some [])) → c.wp Tryz.prog Q { a with defers := { target := .collected D, args := #[] } :: a.defers } W) :
  (Code.rangeFunc gop ps assign body).wp Tryz.prog Q a w := by
 refine (wpIn_wide (n := 9)).1 (wpIn_rangeFunc fun fn hfn => ?_)
 let rec' : LoopState → Option Code → Obj := fun st pe => .loop { state := st, pending := pe, fn, tmps := a.tmps, params := ps, assign, body, defers := w.heap.size }
 -- the two blocks of book-keeping
 let book : Nat → Prop := fun k => k = w.heap.size ∨ k = w.heap.size + 1
 obtain ⟨W1, hW1⟩ : ∃ W1, (w.alloc (.deferred (some []))).alloc (rec' .ready none) = W1 := ⟨_, rfl⟩
 have hz : W1.heap.size = w.heap.size + 2 := by rw [← hW1]; simp
 have hL1 : W1.heap[w.heap.size + 1]? = some (rec' .ready none) := by
  rw [← hW1]; have := World.alloc_heap_new (w.alloc (.deferred (some []))) (rec' .ready none); rwa [World.size_alloc] at this
 have hK1 : W1.heap[w.heap.size]? = some (.deferred (some [])) := by
  rw [← hW1]; exact (Below.heap_alloc _ _ _ (by simp)).trans (World.alloc_heap_new w _)
 have hI1 : I [] O0 W1 := by rw [← hW1]; exact (hI _).alloc ((hI _).alloc h0 _) _
 have hb1 : Below w.heap.size w W1 := by rw [← hW1]; exact ((Below.refl _ _).alloc (Nat.le_refl _) _).alloc (by simp) _
 have hO0lt : ∀ k, O0 k → k < w.heap.size := hlt _ _ _ h0
 refine ⟨w.heap.size + 1, [{ target := .collected w.heap.size, args := #[] }], W1, { target := .fn (.func gf) lb, args := #[.func (.yield (w.heap.size + 1)) #[] #[]] }, W1, gf,
  #[.func (.yield (w.heap.size + 1)) #[] #[]] ++ lb, W1, ?_, ?_, fun _ _ => trivial, ?_, (fun h => by cases h), ?_⟩
 ·rw [← hW1]; exact run_enterLoop_outer _ _ _ _ _
 ·simp only [resolve, hg]
  simp [go_sem]
 ·simp [invoke, go_sem, eg]
 -- J: the caller's word, with the two blocks among what is the loop's own
 refine callsIn_wide.2 ((hit (w.heap.size + 1)
  (fun pre P W => ∃ O, (∀ k, P k ↔ O k ∨ book k) ∧ (∀ k, O k → ¬ book k) ∧ I pre O W ∧ W.heap[w.heap.size + 1]? = some (rec' .ready none) ∧ W.heap[w.heap.size]? = some (.deferred (some [])))
  (fun P W => ∃ O c, (∀ k, P k ↔ O k ∨ book k) ∧ (∀ k, O k → ¬ book k) ∧ Ix c O W ∧ W.heap[w.heap.size + 1]? = some (rec' .done (some c)) ∧ W.heap[w.heap.size]? = some (.deferred (some [])))
  W1 (fun k => O0 k ∨ book k) hb1 ?_ ?_ ?_ ?_ ?_ ⟨O0, fun _ => Iff.rfl, ?_, hI1, hL1, hK1⟩).mono ?_)
 ·rintro pre P A C ⟨O, hP, hOb, hi, hl, hk⟩ hkept
  have hw : Kept (fun k => w.heap.size ≤ k ∧ ¬ O k) A C := hkept.wider fun j _ hj => ⟨by omega, fun x => hj.2 ((hP j).2 (.inl x))⟩
  exact ⟨O, hP, hOb, hI _ _ _ _ hi hw, (hkept.block _ (Array.getElem?_eq_some_iff.1 hl).1 (fun x => x.2 ((hP _).2 (.inr (.inr rfl))))).trans hl, (hkept.block _ (Array.getElem?_eq_some_iff.1 hk).1 (fun x => x.2 ((hP _).2 (.inr (.inl rfl))))).trans hk⟩
 ·rintro P A C ⟨O, c, hP, hOb, hi, hl, hk⟩ hkept
  have hw : Kept (fun k => w.heap.size ≤ k ∧ ¬ O k) A C := hkept.wider fun j _ hj => ⟨by omega, fun x => hj.2 ((hP j).2 (.inl x))⟩
  exact ⟨O, c, hP, hOb, hIx _ _ _ _ hi hw, (hkept.block _ (Array.getElem?_eq_some_iff.1 hl).1 (fun x => x.2 ((hP _).2 (.inr (.inr rfl))))).trans hl, (hkept.block _ (Array.getElem?_eq_some_iff.1 hk).1 (fun x => x.2 ((hP _).2 (.inr (.inl rfl))))).trans hk⟩
 ·rintro pre P A ⟨O, hP, hOb, hi, hl, hk⟩ k hPk
  rcases (hP k).1 hPk with h | rfl | rfl
  ·exact hlt _ _ _ hi k h
  ·exact (Array.getElem?_eq_some_iff.1 hk).1
  ·exact (Array.getElem?_eq_some_iff.1 hl).1
 ·intro k hm
  have h1 := hmine k hm
  rintro (h | rfl | rfl)
  ·exact hO0 k hm h
  ·omega
  ·omega
 ·-- one round
  rintro pre x v P W ⟨O, hP, hOb, hi, hl, hk⟩ hpre hE
  rw [hz] at hE
  refine ⟨fn, _, assign, body, run_yield hl (hps _ _ _ _ hE), RoundIn.deep (roundIn_of_wpIn (n := 9) hfn (hassign _ pre x v O W _ hi hpre hE ?_))⟩
  intro a' Oa Wa hOa hka hm
  have hlW : w.heap.size + 1 < W.heap.size := (Array.getElem?_eq_some_iff.1 hl).1
  have hn1 : ¬ O (w.heap.size + 1) := fun x => hOb _ x (.inr rfl)
  have hn0 : ¬ O w.heap.size := fun x => hOb _ x (.inl rfl)
  have hOab : ∀ k, Oa k → ¬ book k := fun k hx hb => by
   rcases hOa k hx with h | h
   ·exact hOb k h hb
   ·rcases hb with rfl | rfl <;> omega
  have hl' := (hka.block _ hlW hn1).trans hl
  have hk' := (hka.block _ (by omega) hn0).trans hk
  have hlWa : w.heap.size + 1 < Wa.heap.size := (Array.getElem?_eq_some_iff.1 hl').1
  refine ⟨_, run_beginRound hl' rfl, ?_⟩
  have hl2 : (Wa.putObj (w.heap.size + 1) (rec' .busy none)).heap[w.heap.size + 1]? = some (rec' .busy none) := World.putObj_heap_same hlWa
  have hk2 : (Wa.putObj (w.heap.size + 1) (rec' .busy none)).heap[w.heap.size]? = some (.deferred (some [])) := (World.putObj_heap_other (by omega)).trans hk'
  refine wpIn_mono (hbody _ pre x a' Oa _ (by omega) (fun x => hOab _ x (.inr rfl)) (hM pre x a' Oa Wa _ _ (by omega) (by omega) (fun x => hOab _ x (.inr rfl)) hm) hpre) ?_
  have fin : ∀ (jump : Option Code) (O3 : Nat → Prop) (W3 : World), (∀ k, O3 k → Oa k ∨ (Wa.putObj (w.heap.size + 1) (rec' .busy none)).heap.size ≤ k) → Kept Oa (Wa.putObj (w.heap.size + 1) (rec' .busy none)) W3 →
    ∃ W4, (Instr.endRound (w.heap.size + 1) jump).run Tryz.prog W3 = .ok (.bool jump.isNone) W4 ∧ W4 = W3.putObj (w.heap.size + 1) (rec' (if jump.isNone then .ready else .done) jump) ∧ (∀ k, O3 k → ¬ book k) ∧
     W4.heap[w.heap.size + 1]? = some (rec' (if jump.isNone then .ready else .done) jump) ∧ W4.heap[w.heap.size]? = some (.deferred (some [])) ∧ Kept P W W4 ∧ (∀ k, (O3 k ∨ book k) → P k ∨ W.heap.size ≤ k) := by
   intro jump O3 W3 hO3 h3
   have hz2 : (Wa.putObj (w.heap.size + 1) (rec' .busy none)).heap.size = Wa.heap.size := World.putObj_size
   have hl3 := (h3.block _ (by omega) (fun x => hOab _ x (.inr rfl))).trans hl2
   have hk3 := (h3.block _ (by omega) (fun x => hOab _ x (.inl rfl))).trans hk2
   have hsz := hka.size
   refine ⟨_, run_endRound jump hl3, rfl, fun k hx hb => ?_, World.putObj_heap_same (Array.getElem?_eq_some_iff.1 hl3).1, (World.putObj_heap_other (by omega)).trans hk3, ?_, fun k hx => ?_⟩
   ·rcases hO3 k hx with h | h
    ·exact hOab k h hb
    ·rcases hb with rfl | rfl <;> omega
   ·have e1 : Kept P W (Wa.putObj (w.heap.size + 1) (rec' .busy none)) := (hka.wider fun j _ hj => (hP j).2 (.inl hj)).put (.inl ((hP _).2 (.inr (.inr rfl)))) _
    exact (e1.trans h3 fun j hj hx => by
     rcases hOa j hx with h | h
     ·exact (hP j).2 (.inl h)
     ·omega).put (.inl ((hP _).2 (.inr (.inr rfl)))) _
   ·rcases hx with h | h
    ·rcases hO3 k h with h | h
     ·rcases hOa k h with h | h
      ·exact .inl ((hP k).2 (.inl h))
      ·exact .inr h
     ·exact .inr (by omega)
    ·exact .inl ((hP k).2 (.inr h))
  have nb : ∀ {O3 : Nat → Prop}, (∀ k, O3 k → ¬ book k) → ¬ O3 (w.heap.size + 1) := fun h x => h _ x (.inr rfl)
  rintro e a3 W3 hp
  cases e with
  | normal =>
   obtain ⟨O3, p1, p2, p3⟩ := hp
   obtain ⟨W4, hr, rfl, qb, q1, q2, q3, q4⟩ := fin none O3 W3 p1 p2
   exact ⟨_, _, hr, fun k => O3 k ∨ book k, q4, q3, .inl ⟨rfl, O3, fun _ => Iff.rfl, qb, (hI _).put p3 (by omega) (nb qb) _, q1, q2⟩⟩
  | ret =>
   obtain ⟨O3, p1, p2, p3⟩ := hp
   obtain ⟨W4, hr, rfl, qb, q1, q2, q3, q4⟩ := fin (some .ret) O3 W3 p1 p2
   exact ⟨_, _, hr, fun k => O3 k ∨ book k, q4, q3, .inr ⟨rfl, O3, .ret, fun _ => Iff.rfl, qb, (hIx _).put p3 (by omega) (nb qb) _, q1, q2⟩⟩
  | exit id =>
   obtain ⟨O3, p1, p2, p3⟩ := hp
   obtain ⟨W4, hr, rfl, qb, q1, q2, q3, q4⟩ := fin (some (.exit id)) O3 W3 p1 p2
   exact ⟨_, _, hr, fun k => O3 k ∨ book k, q4, q3, .inr ⟨rfl, O3, .exit id, fun _ => Iff.rfl, qb, (hIx _).put p3 (by omega) (nb qb) _, q1, q2⟩⟩
  | goto t => exact hp.elim
  | panic ch => exact hp.elim
  | outgrown => exact hp.elim
 ·intro k hx hb
  have := hO0lt k hx
  rcases hb with rfl | rfl <;> omega
 ·-- behind the iterator
  rintro e W2 ⟨⟨v, rfl⟩, P, (⟨O, hP, hOb, hi, hl, hk⟩ | ⟨O, c, hP, hOb, hi, hl, hk⟩)⟩
  ·have hlt2 : w.heap.size + 1 < W2.heap.size := (Array.getElem?_eq_some_iff.1 hl).1
   exact ⟨none, _, run_endLoop hl (by simp), hdone _ O _ (Nat.le_refl _) (fun x => hOb _ x (.inl rfl)) ((hI _).put hi (by omega) (fun x => hOb _ x (.inr rfl)) _) ((World.putObj_heap_other (by omega)).trans hk)⟩
  ·have hlt2 : w.heap.size + 1 < W2.heap.size := (Array.getElem?_eq_some_iff.1 hl).1
   exact ⟨some c, _, run_endLoop hl (by simp), (wpIn_wide (n := 9)).2 (hstop _ c O _ (Nat.le_refl _) (fun x => hOb _ x (.inl rfl)) ((hIx c).put hi (by omega) (fun x => hOb _ x (.inr rfl)) _) ((World.putObj_heap_other (by omega)).trans hk))⟩
end Go.Proofs.YtlppdgaogdpajaaGreatDoor
namespace Go.Proofs.YtlppdgaogdpajaaGreatDoor
open Go.RowKit Go.Shelf
attribute [local go_sem] Oper.semAt_some
def Wy.vAt (y : Wy) (b : Nat) : Value := .agg #[.int .i64 y.arc.src, .int .i64 y.arc.dst, .int .i64 0, .int .i64 y.arc.high, .int .i64 0, .int .i64 0, .slice (some ⟨b, 0, none⟩) 2 2, .int .i64 y.tick]
def WordsAt (A : World) (b : Nat) (y : Wy) : Prop := A.heap[b]? = some (.cells #[.string y.kind, .string y.name] 9 (0, 0))
def EWy (B : Nat) (y : Wy) (A : World) (v : Array Value) : Prop := ∃ b, B ≤ b ∧ v = #[y.vAt b] ∧ WordsAt A b y
theorem cell_same {w w' : World} {b o : Nat} (h : w'.heap[b]? = w.heap[b]?) : w'.cell? ⟨b, o, none⟩ = w.cell? ⟨b, o, none⟩ := by simp [World.cell?, h]
theorem frozen_same {w w' : World} {b o : Nat} (h : w'.heap[b]? = w.heap[b]?) : w'.frozen? ⟨b, o, none⟩ = w.frozen? ⟨b, o, none⟩ := by simp [World.frozen?, h]
structure Rt (J : List Wy → (Nat → Prop) → World → Prop) (Jx : (Nat → Prop) → World → Prop) (lp Bm By : Nat) (X : Nat → Prop) (pre : List Wy) (A : World) : Prop where
 xm : X Bm
 xy : X By
 lt : ∀ k, X k → k < A.heap.size
 fz : A.frozen? ⟨Bm, 0, none⟩ = false
 yl : A.cell? ⟨By, 0, none⟩ = some (.func (.yield lp) #[] #[])
 st : (A.cell? ⟨Bm, 0, none⟩ = some (.bool true) ∧ ∃ O, J pre O A ∧ (∀ k, X k → ¬ O k) ∧ ∀ k, O k → k < A.heap.size) ∨ (A.cell? ⟨Bm, 0, none⟩ = some (.bool false) ∧ ∃ O, Jx O A)
section
variable {J : List Wy → (Nat → Prop) → World → Prop} {Jx : (Nat → Prop) → World → Prop} {lp Bm By B : Nat} {ys : List Wy}
theorem Rt.grow (hJ : ∀ pre, Abide B (J pre)) (hJx : Abide B Jx) {X Y : Nat → Prop} {pre : List Wy} {A A' : World} (h : Rt J Jx lp Bm By X pre A) (hb : Below A.heap.size A A')
  (hY : ∀ k, Y k → X k ∨ (A.heap.size ≤ k ∧ k < A'.heap.size)) (hm : Y Bm) (hy : Y By) : Rt J Jx lp Bm By Y pre A' := by
 have hs := hb.size
 have c := (bcell hb).1 Bm 0 (h.lt _ h.xm)
 refine ⟨hm, hy, fun k hk => ?_, ((bcell hb).2 _ _ (h.lt _ h.xm)).trans h.fz, ((bcell hb).1 _ _ (h.lt _ h.xy)).trans h.yl, ?_⟩
 ·rcases hY k hk with hx | hx
  ·have := h.lt k hx; omega
  ·exact hx.2
 ·rcases h.st with ⟨h1, O, h2, h3, h4⟩ | ⟨h1, O, h2⟩
  ·refine .inl ⟨c.trans h1, O, hJ pre O A A' h2 (Kept.of_below hb), fun k hk hO => ?_, fun k hO => by have := h4 k hO; omega⟩
   rcases hY k hk with hx | hx
   ·exact h3 k hx hO
   ·have := h4 k hO; omega
  ·exact .inr ⟨c.trans h1, O, hJx O A A' h2 (Kept.of_below hb)⟩
set_option maxHeartbeats 1000000 in
theorem c_put (hJ : ∀ pre, Abide B (J pre)) (hJx : Abide B Jx) (hJlt : ∀ pre O A, J pre O A → ∀ k, O k → k < A.heap.size) (hBm : B ≤ Bm) (hne : Bm ≠ By)
  (hY : ∀ pre y v O A, J pre O A → (pre ++ [y]) <+: ys → EWy B y A v → YieldAt Fence.wide 0 Tryz.prog lp v A (Round J Jx (pre ++ [y]) O A))
  {X : Nat → Prop} {pre : List Wy} (y : Wy) {A : World} {b : Nat} (h : Rt J Jx lp Bm By X pre A) (hp : (pre ++ [y]) <+: ys) (hb : B ≤ b) (hbk : WordsAt A b y) :
  Calls Tryz.prog 193 #[.int .i64 y.arc.src, .int .i64 y.arc.dst, .int .i64 y.arc.high, .int .i64 y.tick, .slice (some ⟨b, 0, none⟩) 2 2, .pointer (some ⟨Bm, 0, none⟩), .pointer (some ⟨By, 0, none⟩)] A fun e A' =>
   e = .returned (.tuple #[]) ∧ Rt J Jx lp Bm By X (pre ++ [y]) A' ∧ (∀ k, X k → k ≠ Bm → A'.heap[k]? = A.heap[k]?) ∧ A.heap.size ≤ A'.heap.size := by
 have hmlt := h.lt _ h.xm
 have hylt := h.lt _ h.xy
 have cy := h.yl
 have fm := h.fz
 rcases h.st with ⟨cm, O, hj, hX, hOlt⟩ | ⟨cm, O, hjx⟩
 ·obtain ⟨fn, tmps, assign, body, hy, hR⟩ := hY pre y _ O A hj hp ⟨b, hb, rfl, hbk⟩
  have H := Lib.hid h
  have HX := Lib.hid hX
  have HO := Lib.hid hOlt
  have HR := Lib.hid hR
  unfold Wy.vAt at hy
  clear h hj hX hOlt hbk hR
  refine callsIn_wide.1 (callsIn_of_wp (n := 9) Tryz.func193 rfl trivial ?_ rfl)
  simp only [Tryz.ntmps193, List.size_toArray, List.length_cons, List.length_nil, Nat.reduceAdd, Nat.reduceSub, Array.replicate_succ, Array.replicate_zero, List.push_toArray, List.append_toArray, List.nil_append, List.cons_append]
  gi_wp2
  refine (RoundIn.deep HR.out).mono ?_
  have fin : ∀ (v : Bool) (O' : Nat → Prop) (W3 : World), (∀ k, O' k → O k ∨ A.heap.size ≤ k) → Kept O A W3 → ((v = true ∧ J (pre ++ [y]) O' W3) ∨ (v = false ∧ Jx O' W3)) →
    Rt J Jx lp Bm By X (pre ++ [y]) (W3.setCell ⟨Bm, 0, none⟩ (.bool v)) ∧ (∀ k, X k → k ≠ Bm → (W3.setCell ⟨Bm, 0, none⟩ (.bool v)).heap[k]? = A.heap[k]?) ∧ A.heap.size ≤ (W3.setCell ⟨Bm, 0, none⟩ (.bool v)).heap.size := by
   intro v O' W3 hO' hK hv
   have hm3 := hK.cell (HX.out _ H.out.xm) cm
   have hf3 := (hK.frozen hmlt (HX.out _ H.out.xm)).trans fm
   have hy3 := hK.cell (HX.out _ H.out.xy) cy
   have hs := hK.size
   have hns : (W3.setCell ⟨Bm, 0, none⟩ (.bool v)).heap.size = W3.heap.size := by simp [World.setCell]
   have hnX : ∀ k, X k → ¬ O' k := fun k hk ho => by
    rcases hO' k ho with h1 | h1
    ·exact HX.out k hk h1
    ·have := H.out.lt k hk; omega
   have hset : Kept (fun k => B ≤ k ∧ ¬ O' k) W3 (W3.setCell ⟨Bm, 0, none⟩ (.bool v)) := (Kept.refl _ W3).setCell (.inl ⟨hBm, hnX _ H.out.xm⟩) _
   have hoth : ∀ k, k ≠ Bm → (W3.setCell ⟨Bm, 0, none⟩ (.bool v)).heap[k]? = W3.heap[k]? := fun k hk => Below.heap_setCell W3 ⟨Bm, 0, none⟩ _ k (fun e => hk e)
   refine ⟨⟨H.out.xm, H.out.xy, fun k hk => by have := H.out.lt k hk; omega, ?_, ?_, ?_⟩, fun k hk hkm => (hoth k hkm).trans (hK.block k (H.out.lt k hk) (HX.out k hk)), by omega⟩
   ·go_simp
   ·rw [cell_same (hoth By (Ne.symm hne))]; exact hy3
   ·have hcm : (W3.setCell ⟨Bm, 0, none⟩ (.bool v)).cell? ⟨Bm, 0, none⟩ = some (.bool v) := by go_simp
    rcases hv with ⟨rfl, hj⟩ | ⟨rfl, hj⟩
    ·have hj' := hJ _ O' W3 _ hj hset
     exact .inl ⟨hcm, O', hj', hnX, fun k hk => hJlt _ _ _ hj' k hk⟩
    ·exact .inr ⟨hcm, O', hJx O' W3 _ hj hset⟩
  rintro e W3 ⟨O', hO', hK3, hor⟩
  have hm3 := hK3.cell (HX.out _ H.out.xm) cm
  have hf3 := (hK3.frozen hmlt (HX.out _ H.out.xm)).trans fm
  have hm3lt := cell_lt hm3
  have HF := Lib.hid fin
  rcases hor with ⟨rfl, hJ3⟩ | ⟨rfl, hJx3⟩
  ·have HZ := Lib.hid (HF.out true O' W3 hO' hK3 (.inl ⟨rfl, hJ3⟩))
   clear fin hJ3 hO' hK3
   gi_wp2
   go_end0
   exact ⟨rfl, HZ.out⟩
  ·have HZ := Lib.hid (HF.out false O' W3 hO' hK3 (.inr ⟨rfl, hJx3⟩))
   clear fin hJx3 hO' hK3
   gi_wp2
   go_end0
   exact ⟨rfl, HZ.out⟩
 ·refine callsIn_wide.1 (callsIn_of_wp (n := 9) Tryz.func193 rfl trivial ?_ rfl)
  simp only [Tryz.ntmps193, List.size_toArray, List.length_cons, List.length_nil, Nat.reduceAdd, Nat.reduceSub, Array.replicate_succ, Array.replicate_zero, List.push_toArray, List.append_toArray, List.nil_append, List.cons_append]
  have HJ := Lib.hid hjx
  have H := Lib.hid h
  clear h hjx hbk
  gi_wp2
  go_end0
  refine ⟨rfl, ⟨H.out.xm, H.out.xy, H.out.lt, H.out.fz, H.out.yl, .inr ⟨cm, O, HJ.out⟩⟩, fun _ _ _ => rfl, Nat.le_refl _⟩
end
end Go.Proofs.YtlppdgaogdpajaaGreatDoor
namespace Go.Proofs.YtlppdgaogdpajaaGreatDoor
theorem pre_of {α : Type} {a b c : List α} (h : (a ++ b) <+: c) : a <+: c := (List.prefix_append a b).trans h
theorem take_flat {α β : Type} {L : List α} {g : α → List β} {k : Nat} {x : α} (h : L[k]? = some x) : (L.take (k + 1)).flatMap g = (L.take k).flatMap g ++ g x := by
 rw [List.take_add_one, h]
 simp
theorem flat_pre {α β : Type} {L : List α} {g : α → List β} {k : Nat} {x : α} {q : List β} (h : L[k]? = some x) (hq : q <+: g x) : ((L.take k).flatMap g ++ q) <+: L.flatMap g := by
 have h1 : ((L.take k).flatMap g ++ q) <+: (L.take (k + 1)).flatMap g := by
  rw [take_flat h]
  exact (List.prefix_append_right_inj _).2 hq
 refine h1.trans ?_
 have : L.flatMap g = (L.take (k + 1)).flatMap g ++ (L.drop (k + 1)).flatMap g := by rw [← List.flatMap_append, List.take_append_drop]
 rw [this]
 exact List.prefix_append _ _
theorem map_take {α β : Type} {L : List α} {g : α → β} {k : Nat} {x : α} (h : L[k]? = some x) : (L.map g).take (k + 1) = (L.map g).take k ++ [g x] := by
 rw [List.take_add_one, List.getElem?_map, h]
 rfl
theorem upTo_get {n : Int} {k : Nat} (h : (k : Int) < n) : (upTo n)[k]? = some (k : Int) := by
 unfold upTo
 rw [List.getElem?_map, List.getElem?_range (by omega)]
 rfl
theorem upTo_len (n : Int) : (upTo n).length = n.toNat := by simp [upTo]
theorem num_get {α : Type} {l : List α} {k : Nat} {x : α} (h : l[k]? = some x) : (numbered l)[k]? = some ((k : Int), x) := by
 unfold numbered
 rw [List.getElem?_map, List.getElem?_zipIdx, h]
 simp
theorem num_len {α : Type} (l : List α) : (numbered l).length = l.length := by simp [numbered]
def sLs (f : Fe) : List Wy := (upTo (f.ticks + 1)).flatMap (staysOf f)
def mLs (f : Fe) : List Wy := (upTo f.ticks).flatMap (stepOf f)
theorem ways_eq (f : Fe) : waysL f = sLs f ++ (mLs f ++ (begins f ++ endsOf f)) := rfl
def P1 (f : Fe) (t p : Nat) : List Wy := ((upTo (f.ticks + 1)).take t).flatMap (staysOf f) ++ (staysOf f t).take p
def P2 (f : Fe) (t p : Nat) : List Wy := sLs f ++ (((upTo f.ticks).take t).flatMap (stepOf f) ++ ((numbered f.places).take p).flatMap fun (p, x) => movesAt f t p x.name)
def P3 (f : Fe) (t i : Nat) : List Wy := sLs f ++ (((upTo f.ticks).take t).flatMap (stepOf f) ++ (movesOf f t ++ ((numbered f.gates).take i).flatMap fun (i, g) => passesAt f t i g))
def P4 (f : Fe) (p : Nat) : List Wy := sLs f ++ (mLs f ++ (begins f).take p)
def P5 (f : Fe) (p : Nat) : List Wy := sLs f ++ (mLs f ++ (begins f ++ (endsOf f).take p))
theorem P1_0 (f : Fe) : P1 f 0 0 = [] := by simp [P1]
theorem P1_step {f : Fe} {t p : Nat} {x : Pl} (h : f.places[p]? = some x) : P1 f t (p + 1) = P1 f t p ++ [wyOf (nodeN f p t) (nodeN f p t + 1) 1000 wStay x.name p t] := by
 unfold P1
 rw [List.append_assoc]
 congr 1
 exact map_take (num_get h)
theorem staysOf_len (f : Fe) (t : Int) : (staysOf f t).length = f.places.length := by simp [staysOf, num_len]
theorem P1_next {f : Fe} {t : Nat} (h : (t : Int) < f.ticks + 1) : P1 f t f.places.length = P1 f (t + 1) 0 := by
 unfold P1
 rw [take_flat (upTo_get h), List.take_zero, List.append_nil, List.take_of_length_le (l := staysOf f t) (by rw [staysOf_len]; omega)]
theorem P1_pre {f : Fe} {t : Nat} (h : (t : Int) < f.ticks + 1) (p : Nat) : P1 f t p <+: waysL f := by
 rw [ways_eq]
 exact (flat_pre (upTo_get h) (List.take_prefix _ _)).trans (List.prefix_append _ _)
theorem P2_0 {f : Fe} {t : Nat} (h : (t : Int) = f.ticks + 1) : P1 f t 0 = P2 f 0 0 := by
 unfold P1 P2 sLs
 rw [List.take_of_length_le (by rw [upTo_len]; omega)]
 simp
theorem P2_step {f : Fe} {t p : Nat} {x : Pl} (h : f.places[p]? = some x) : P2 f t (p + 1) = P2 f t p ++ [wyOf (nodeN f p t + 1) (nodeN f p (t + 1)) 1000 wRest x.name p t] ++ [wyOf 0 (nodeN f p (t + 1)) f.yields wBorn x.name p t]
  ++ [wyOf (nodeN f p t + 1) 0 f.yields wDead x.name p t] ++ [wyOf 0 (nodeN f p (t + 1)) f.yields wBought x.name p t] ++ [wyOf (nodeN f p t + 1) 0 f.yields wSold x.name p t] := by
 unfold P2
 rw [take_flat (num_get h)]
 simp only [List.append_assoc]
 rfl
theorem P2_pre {f : Fe} {t : Nat} (h : (t : Int) < f.ticks) (p : Nat) : P2 f t p <+: waysL f := by
 rw [ways_eq]
 refine (List.prefix_append_right_inj _).2 ?_
 refine (flat_pre (upTo_get h) ?_).trans (List.prefix_append _ _)
 unfold stepOf movesOf
 refine List.IsPrefix.trans ?_ (List.prefix_append _ _)
 have : (numbered f.places).flatMap (fun (p, x) => movesAt f t p x.name) = ((numbered f.places).take p).flatMap (fun (p, x) => movesAt f t p x.name) ++ ((numbered f.places).drop p).flatMap (fun (p, x) => movesAt f t p x.name) := by rw [← List.flatMap_append, List.take_append_drop]
 rw [this]
 exact List.prefix_append _ _
theorem P3_0 (f : Fe) (t : Nat) : P2 f t f.places.length = P3 f t 0 := by
 unfold P2 P3 movesOf
 rw [List.take_of_length_le (l := numbered f.places) (by rw [num_len]; omega)]
 simp
theorem P3_step {f : Fe} {t i : Nat} {g : Gt} (h : f.gates[i]? = some g) : P3 f t (i + 1) = P3 f t i ++ [wyOf (nodeN f g.a t + 1) (nodeN f g.b (t + 1)) g.most wPass g.name i t] ++ [wyOf (nodeN f g.b t + 1) (nodeN f g.a (t + 1)) g.most wBack g.name i t] := by
 unfold P3
 rw [take_flat (num_get h)]
 simp only [List.append_assoc]
 rfl
theorem P3_pre {f : Fe} {t : Nat} (h : (t : Int) < f.ticks) (i : Nat) : P3 f t i <+: waysL f := by
 rw [ways_eq]
 refine (List.prefix_append_right_inj _).2 ?_
 refine (flat_pre (upTo_get h) ?_).trans (List.prefix_append _ _)
 unfold stepOf passesOf
 refine (List.prefix_append_right_inj _).2 ?_
 have : (numbered f.gates).flatMap (fun (i, g) => passesAt f t i g) = ((numbered f.gates).take i).flatMap (fun (i, g) => passesAt f t i g) ++ ((numbered f.gates).drop i).flatMap (fun (i, g) => passesAt f t i g) := by rw [← List.flatMap_append, List.take_append_drop]
 rw [this]
 exact List.prefix_append _ _
theorem P3_next {f : Fe} {t : Nat} (h : (t : Int) < f.ticks) : P3 f t f.gates.length = P2 f (t + 1) 0 := by
 unfold P2 P3
 rw [take_flat (upTo_get h), List.take_of_length_le (l := numbered f.gates) (by rw [num_len]; omega)]
 unfold stepOf passesOf
 simp
theorem P4_0 {f : Fe} {t : Nat} (h : (t : Int) = f.ticks) : P2 f t 0 = P4 f 0 := by
 unfold P2 P4 mLs
 rw [List.take_of_length_le (by rw [upTo_len]; omega)]
 simp
theorem P4_step {f : Fe} {p : Nat} {x : Pl} (h : f.places[p]? = some x) : P4 f (p + 1) = P4 f p ++ [wyOf 0 (nodeN f p 0) 1000 wBegin x.name p (-1)] := by
 unfold P4 begins
 rw [map_take (num_get h)]
 simp only [List.append_assoc]
theorem P4_pre (f : Fe) (p : Nat) : P4 f p <+: waysL f := by
 rw [ways_eq]
 refine (List.prefix_append_right_inj _).2 ((List.prefix_append_right_inj _).2 ?_)
 exact (List.take_prefix _ _).trans (List.prefix_append _ _)
theorem P5_0 (f : Fe) : P4 f f.places.length = P5 f 0 := by
 unfold P4 P5
 rw [List.take_of_length_le (by simp [begins, num_len])]
 simp
theorem P5_step {f : Fe} {p : Nat} {x : Pl} (h : f.places[p]? = some x) : P5 f (p + 1) = P5 f p ++ [wyOf (nodeN f p f.ticks + 1) 0 1000 wEnd x.name p (-1)] := by
 unfold P5 endsOf
 rw [map_take (num_get h)]
 simp only [List.append_assoc]
theorem P5_pre (f : Fe) (p : Nat) : P5 f p <+: waysL f := by
 rw [ways_eq]
 refine (List.prefix_append_right_inj _).2 ((List.prefix_append_right_inj _).2 ((List.prefix_append_right_inj _).2 ?_))
 exact List.take_prefix _ _
theorem P5_all (f : Fe) : P5 f f.places.length = waysL f := by
 unfold P5
 rw [ways_eq, List.take_of_length_le (by simp [endsOf, num_len])]
end Go.Proofs.YtlppdgaogdpajaaGreatDoor
