/- This text proves that one walk serves every order of a region that draws its order, inside a round of a range over a function. -/
import Derived.Test.YthdenmbfeanioaaGreatDoorLoop
import Derived.Deep.Quiet
import Derived.OrdersIn
namespace Go.Proofs.YthdenmbfeanioaaGreatDoor
open Go.RowKit Go.Shelf

section
variable {P : Program} {ops : Array Oper} {md : Region.Mode} {C : World → Prop} {lp n : Nat}

def plainOp (o : Oper) : Bool := match o.op with | .defer _ => false | _ => true
theorem plainOp_ne {o : Oper} (h : plainOp o = true) : ∀ c, o.op ≠ .defer c := by
  intro c hc
  simp [plainOp, hc] at h

theorem wpIn_of_quiet_round {o : Oper} {a : Act} {K : Act → Prop} {K' : Act → World → Prop} {Q' : Exit → Act → World → Prop} {w : World} (hd : ∀ c, o.op ≠ .defer c) (hw : C w) (h : ∀ a w', C w' → K a → K' a w')
    (hh : o.quiet P a C K) : o.wpIn (Fence.wide.inRound lp) n P a w K' Q' := by
  obtain ⟨v, h1, h2⟩ := hh
  have h3 := h1 w hw
  unfold Oper.quietAt at h3
  unfold Oper.wpIn
  refine ⟨fun _ _ => trivial, ?_⟩
  rw [show (Fence.wide.inRound lp).round = some lp from rfl, Oper.semAt_some lp _ _ hd]
  generalize (execOp a.eval o).run P w = r at *
  cases r with
  | ok x w' =>
    cases x <;> simp only [Oper.quietUpon] at h3 <;> simp only [Oper.uponIn]
    case value u =>
      obtain ⟨e1, e2⟩ := h3
      rw [e1, e2]
      exact h _ _ hw h2
    case skip =>
      obtain ⟨e1, e2⟩ := h3
      rw [e1, ← e2]
      exact h _ _ hw h2
    case enter f args =>
      obtain ⟨e1, hc⟩ := h3
      rw [e1]
      exact ⟨fun h => (by cases h), (CallsIn.inRound lp (callsIn_wide.2 hc)).mono fun e w'' ⟨he, hw''⟩ => by subst he; exact h _ _ hw'' h2⟩
  | halt x w' => simp only [Oper.quietUpon] at h3

theorem wpOpIn_of_qOp_round {i : Nat} {a : Act} {K : Act → Prop} {K' : Act → World → Prop} {Q' : Exit → Act → World → Prop} {w : World} (hd : ∀ o ∈ ops, ∀ c, o.op ≠ .defer c) (hC : C w) (h : ∀ a w', C w' → K a → K' a w')
    (hh : qOp P ops C i K a) : wpOpIn (Fence.wide.inRound lp) n P ops Q' i K' a w := by
  unfold qOp at hh
  unfold wpOpIn
  split
  · rename_i ho; simp only [ho] at hh; exact h _ _ hC hh
  · rename_i o ho
    simp only [ho] at hh
    split
    · rename_i hw; simp only [hw, if_true] at hh; exact wpIn_of_quiet_round (hd o (Array.mem_of_getElem? ho)) hC h hh
    · rename_i hw; simp only [hw] at hh; exact ⟨fun _ _ => trivial, h _ _ hC hh⟩

theorem wpAnyIn_of_quiet_round {Q : Act → Prop} {Q' : Exit → Act → World → Prop} (hd : ∀ o ∈ ops, ∀ c, o.op ≠ .defer c) (hQ : ∀ a w, C w → Q a → Q' .normal a w) : ∀ (fuel : Nat) (listed : Array Bool) (a : Act) (w : World), C w →
    wpAnyQ P md ops C Q fuel listed a → wpAnyIn (Fence.wide.inRound lp) n P md ops Q' fuel listed a w
  | 0, _, _, _, hw, h => ⟨h.1, hQ _ _ hw h.2⟩
  | fuel + 1, _, _, _, hw, h => ⟨fun h0 => hQ _ _ hw (h.1 h0), fun i hi => wpOpIn_of_qOp_round hd hw (fun a' w' hw' => wpAnyIn_of_quiet_round hd hQ fuel _ a' w' hw') (h.2 i hi)⟩

theorem wpIn_region_quiet_round {id : Nat} {Q : Exit → Act → World → Prop} {a : Act} {w : World} (hd : ∀ o ∈ ops, ∀ c, o.op ≠ .defer c) (hm : P.follows .mixedOrders = true) (hB : Region.lexB .any ops = true) (hC : C { w with drawn := w.drawn + 1 })
    (h : wpQuiet P ops C (fun a' => ∀ w', C w' → Q .normal a' w') ops.toList a) : (Code.region id ops true).wpIn (Fence.wide.inRound lp) n P Q a w := by
  simp only [Region.lexB, Bool.and_eq_true] at hB
  refine wpIn_region_any hm (wpAnyIn_of_quiet_round (Q := fun a' => ∀ w', C w' → Q .normal a' w') hd (fun _ w' hw' h => h w' hw') _ _ _ _ hC ?_)
  have := wpAnyQ_lex (C := C) (md := .any) hB.1 ops.toList 0 (Array.replicate ops.size false) a (by simp) (by simpa using hB.2) h
  simpa using this
end

/-- A region that draws its order, inside a round, whose operations read old cells and call functions that leave all old cells as they are: one walk. -/
theorem wpIn_region_later {P : Program} {id lp n : Nat} {Q : Exit → Act → World → Prop} {a : Act} {w : World} {l : List Oper} (w0 : World) (hd : l.all plainOp = true) (hm : P.follows .mixedOrders = true) (hB : Region.lexB .any l.toArray = true) (hw : Below w0.heap.size w0 w)
    (h : wpQuiet P l.toArray (fun w' => ∃ x : Later w0, w' = x.1) (fun a' => ∀ x : Later w0, Q .normal a' x.1) l a) : (Code.region id l.toArray true).wpIn (Fence.wide.inRound lp) n P Q a w := by
  refine wpIn_region_quiet_round (C := fun w' => ∃ x : Later w0, w' = x.1) (fun o ho => plainOp_ne (List.all_eq_true.1 hd o (by simpa using ho))) hm hB ⟨⟨_, hw.drew⟩, rfl⟩ ?_
  have e : (fun a' => ∀ w', (∃ x : Later w0, w' = x.1) → Q .normal a' w') = (fun a' => ∀ x : Later w0, Q .normal a' x.1) := by
    funext a'; exact propext ⟨fun h x => h _ ⟨x, rfl⟩, fun h w' ⟨x, hx⟩ => hx ▸ h x⟩
  rw [e]; simpa using h

/-- An append's slice lies as it lay where what turns are other blocks. -/
theorem ownsRow_kept {O : Nat → Prop} {A C : World} {base : Nat} {e : TypeId} {size : Nat} {v : Value} {n : Nat} {xs : List Value} (h : A.ownsRow base e size v n xs) (hk : Kept O A C) (hn : ∀ g, v.ownBlock = some g → ¬ O g) : C.ownsRow base e size v n xs := by
  refine ⟨h.1, ?_⟩
  rcases h.2 with hx | ⟨g, cap, cur, rfl, hb, hgg, rest⟩
  · exact .inl hx
  · exact .inr ⟨g, cap, cur, rfl, hb, (hk.block g (Array.getElem?_eq_some_iff.1 hgg).1 (hn g rfl)).trans hgg, rest⟩
theorem kept_of_grown {A C : World} {r : Option Nat} (h : A.grownBy C r) : Kept (fun k => r = some k) A C :=
  ⟨h.os, h.tape, h.output, h.size, fun k hk hn => h.block k hk (fun e => hn e.symm)⟩
/-- The marks that ranges over functions have left on a call's list of deferred calls: none of them holds one. -/
def col (D : Nat) : Deferred := { target := .collected D, args := #[] }
structure Coll (B : Nat) (A : World) (Ds : List Nat) : Prop where
  nodup : Ds.Nodup
  mem : ∀ D ∈ Ds, B ≤ D ∧ A.heap[D]? = some (.deferred (some []))
theorem Coll.kept {B : Nat} {O : Nat → Prop} {A C : World} {Ds : List Nat} (h : Coll B A Ds) (hk : Kept O A C) (hn : ∀ D ∈ Ds, ¬ O D) : Coll B C Ds :=
  ⟨h.nodup, fun D hD => ⟨(h.mem D hD).1, (hk.block D (Array.getElem?_eq_some_iff.1 (h.mem D hD).2).1 (hn D hD)).trans (h.mem D hD).2⟩⟩
theorem Coll.lt {B : Nat} {A : World} {Ds : List Nat} (h : Coll B A Ds) : ∀ D ∈ Ds, D < A.heap.size := fun D hD => (Array.getElem?_eq_some_iff.1 (h.mem D hD).2).1
theorem Coll.cons {B D : Nat} {A : World} {Ds : List Nat} (h : Coll B A Ds) (hB : B ≤ D) (hD : A.heap[D]? = some (.deferred (some []))) (hn : D ∉ Ds) : Coll B A (D :: Ds) :=
  ⟨List.nodup_cons.2 ⟨hn, h.nodup⟩, fun E hE => by
    rcases List.mem_cons.1 hE with rfl | hE
    · exact ⟨hB, hD⟩
    · exact h.mem E hE⟩
theorem leaves_coll {F : Fence} {n B : Nat} {tmps : Array Value} {fn : Func} {post : Ending → World → Prop} {v : Value} : ∀ (Ds : List Nat) (C : World), Coll B C Ds →
    (∀ C2, Kept (fun k => k ∈ Ds) C C2 → (results fn tmps).run Tryz.prog C2 = .ok v C2) → (∀ C2, Kept (fun k => k ∈ Ds) C C2 → post (.returned v) C2) → LeavesInM F n Tryz.prog fn tmps post (Ds.map col) .returning C := by
  intro Ds
  induction Ds with
  | nil => exact fun C _ hr hp => ⟨v, hr C (Kept.refl _ _), hp C (Kept.refl _ _)⟩
  | cons D Ds ih =>
    intro C h hr hp
    have hk : Kept (fun k => k = D) C (C.putObj D (.deferred none)) := Kept.put (l := D) (Kept.refl (fun k => k = D) C) (.inl rfl) _
    have hno : ∀ E ∈ Ds, ¬ E = D := fun E hE e => (List.nodup_cons.1 h.nodup).1 (e ▸ hE)
    have hc : Coll B C Ds := ⟨(List.nodup_cons.1 h.nodup).2, fun E hE => h.mem E (List.mem_cons_of_mem _ hE)⟩
    have hw : ∀ C2, Kept (fun k => k ∈ Ds) (C.putObj D (.deferred none)) C2 → Kept (fun k => k ∈ D :: Ds) C C2 := fun C2 h2 =>
      (hk.wider fun j _ hj => List.mem_cons.2 (.inl hj)).trans h2 fun j _ hj => List.mem_cons.2 (.inr hj)
    exact ⟨by simp, .inl ⟨D, _, rfl, run_takeDeferred (h.mem D List.mem_cons_self).2, ih _ (hc.kept hk hno) (fun C2 h2 => hr C2 (hw C2 h2)) (fun C2 h2 => hp C2 (hw C2 h2))⟩⟩
/-- The end of a function behind its ranges over functions. -/
theorem end_coll {F : Fence} {n B : Nat} {tmps : Array Value} {fn : Func} {C : World} {post : Ending → World → Prop} {v : Value} {Ds : List Nat} (h : Coll B C Ds)
    (hr : ∀ C2, Kept (fun k => k ∈ Ds) C C2 → (results fn tmps).run Tryz.prog C2 = .ok v C2) (hp : ∀ C2, Kept (fun k => k ∈ Ds) C C2 → post (.returned v) C2) (e : Exit) (he : e = .normal ∨ e = .ret) :
    bodyPostM F n Tryz.prog fn post e { tmps, defers := Ds.map col } C := by
  rcases he with rfl | rfl <;> exact leaves_coll Ds C h hr hp
end Go.Proofs.YthdenmbfeanioaaGreatDoor
