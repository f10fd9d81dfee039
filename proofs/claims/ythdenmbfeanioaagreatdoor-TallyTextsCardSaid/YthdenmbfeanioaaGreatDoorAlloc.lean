/- This text proves one law of walks: a region that draws its order, whose first operations are quiet, whose next one makes a new block and whose last ones wait for all the others, is walked once. -/
import Derived.Test.YthdenmbfeanioaaGreatDoorRegion
import Derived.Barred
namespace Go.Proofs.YthdenmbfeanioaaGreatDoor
open Go.RowKit

/-- A caller's frame that hands on at once what it is handed. -/
def handOn : Frame := { fn := 5, tmps := #[], todo := [.extern "" #[]], defers := [], mode := .returning, kind := .normal }
/-- A call answers once: two words on what it returns speak of one value. -/
theorem calls_same {f : FuncId} {args : Array Value} {w : World} {v u : Value} {A B : World → Prop}
    (h : Calls Tryz.prog f args w fun e w' => e = .returned v ∧ A w') (k : Calls Tryz.prog f args w fun e w' => e = .returned u ∧ B w') : v = u := by
  obtain ⟨_, w1, fr1, ⟨rfl, _⟩, ⟨n1, hn1⟩, _, hl1⟩ := h [handOn]
  obtain ⟨_, w2, fr2, ⟨rfl, _⟩, ⟨n2, hn2⟩, _, hl2⟩ := k [handOn]
  have last : ∀ (x : Value) (W : World), (handOn.finish x).leaving Tryz.prog W (.returned x) := fun x W => ⟨rfl, rfl, rfl, Tryz.f5, by kernel_rfl, by simp [results, Tryz.results5, handOn, Frame.finish, go_sem]⟩
  have hi : Tryz.prog.inits.idxOf? 5 = none := by kernel_rfl
  have run : ∀ (n : Nat) (fr : Frame) (x : Value) (W : World), runN Tryz.prog n (lone (Frame.enter Tryz.prog f args .normal) [handOn] w) = .next (lone fr [handOn] W) → fr.leaving Tryz.prog W (.returned x) →
      runN Tryz.prog (n + 2) (lone (Frame.enter Tryz.prog f args .normal) [handOn] w) = .ended (.done x) W := fun n fr x W hn hl => by
    rw [runN_add, hn]
    simp [runN, step_leave_returned hl, step_leave_done (last x W) hi]
  have := runN_same_end (run n1 fr1 v w1 hn1 hl1) (run n2 fr2 u w2 hn2 hl2)
  exact Outcome.done.inj this
theorem quietAt_same {o : Oper} {a : Act} {w : World} {v u : Value} {C D : World → Prop} (h : o.quietAt Tryz.prog a C w v) (k : o.quietAt Tryz.prog a D w u) : v = u := by
  unfold Oper.quietAt at h k
  generalize (execOp a.eval o).run Tryz.prog w = r at h k
  cases r with
  | ok n w' =>
    cases n <;> simp only [Oper.quietUpon] at h k
    case value x => exact h.2.symm.trans k.2
    case skip => exact h.2.trans k.2.symm
    case enter f args => exact calls_same h.2 k.2
  | halt x w' => simp only [Oper.quietUpon] at h

theorem later_of {W W' : World} {b o : Nat} {v : Value} (h : Below W.heap.size W W') (k : W.cell? ⟨b, o, none⟩ = some v) : W'.cell? ⟨b, o, none⟩ = some v := ((bcell h).1 _ _ (cell_lt k)).trans k
theorem later_off {W W' : World} {b o : Nat} {v : Value} (h : Below W.heap.size W W') (k : W.cell? ⟨b, o, none⟩ = some v) (f : W.frozen? ⟨b, o, none⟩ = false) : W'.frozen? ⟨b, o, none⟩ = false := ((bcell h).2 _ _ (cell_lt k)).trans f

section
variable {ops : Array Oper} {md : Region.Mode} {Q : Exit → Act → World → Prop} {w0 : World} {obj : Obj}

abbrev LaterC (w0 : World) : World → Prop := fun w' => ∃ x : Later w0, w' = x.1
/-- One value, in all later worlds, and nothing that lies there is turned. -/
def YieldsR (ops : Array Oper) (w0 : World) (o : Oper) (v : Value) (a : Act) : Prop := ∀ w1, Below w0.heap.size w0 w1 → YieldsIn Tryz.prog ops (LaterC w1) o v a
theorem YieldsR.of_same {o : Oper} {v : Value} {a a' : Act} (hy : YieldsR ops w0 o v a) (he : execOp a'.eval o = execOp a.eval o)
    (hw : Region.wanted o (yielded ops a'.tmps) = Region.wanted o (yielded ops a.tmps)) : YieldsR ops w0 o v a' := fun w1 h => (hy w1 h).of_same he hw

/-- The walk's own word, in all later worlds at once. -/
def wpQR (ops : Array Oper) (w0 : World) (Q : Act → Prop) : List Oper → Act → Prop
  | [], a => Q a
  | o :: rest, a => ∃ v, YieldsR ops w0 o v a ∧ wpQR ops w0 Q rest (a.put o.dst v)
theorem wpQR_of {K : World → Act → Prop} : ∀ (l : List Oper) (a : Act), (∀ w1, Below w0.heap.size w0 w1 → wpQuiet Tryz.prog ops (LaterC w1) (K w1) l a) → wpQR ops w0 (K w0) l a
  | [], a, h => h w0 (Below.refl _ _)
  | o :: rest, a, h => by
    have h0 := h w0 (Below.refl _ _)
    simp only [wpQuiet] at h0
    by_cases hw : Region.wanted o (yielded ops a.tmps) = true
    · rw [if_pos hw] at h0
      obtain ⟨v, hv, _⟩ := h0
      have key : ∀ w1, Below w0.heap.size w0 w1 → (∀ w, LaterC w1 w → o.quietAt Tryz.prog a (LaterC w1) w v) ∧ wpQuiet Tryz.prog ops (LaterC w1) (K w1) rest (a.put o.dst v) := fun w1 hb => by
        have h1 := h w1 hb
        simp only [wpQuiet] at h1
        rw [if_pos hw] at h1
        obtain ⟨u, hu, hk⟩ := h1
        obtain rfl := quietAt_same (hv w1 ⟨⟨w1, hb⟩, rfl⟩) (hu w1 ⟨⟨w1, Below.refl _ _⟩, rfl⟩)
        exact ⟨hu, hk⟩
      exact ⟨v, fun w1 hb => .inl ⟨hw, (key w1 hb).1⟩, wpQR_of rest _ fun w1 hb => (key w1 hb).2⟩
    · refine ⟨undef, fun w1 hb => .inr ⟨by simpa using hw, rfl⟩, wpQR_of rest _ fun w1 hb => ?_⟩
      have h1 := h w1 hb
      simp only [wpQuiet] at h1
      rw [if_neg hw] at h1
      exact h1

/-- The worlds in which the walk may be: all that lay in w0 lies as it lay, and all that lay in Ws. -/
def inS (w0 Ws W : World) : Prop := Below w0.heap.size w0 W ∧ Below Ws.heap.size Ws W
theorem inS.on {Ws W W' : World} (h : inS w0 Ws W) (hb : Below W.heap.size W W') : inS w0 Ws W' := ⟨bthen h.1 hb, bthen h.2 hb⟩
/-- An operation that turns the world, without a call. -/
def Turns (ops : Array Oper) (o : Oper) (a : Act) (W : World) (u : Value) (W' : World) : Prop :=
  Region.wanted o (yielded ops a.tmps) = true ∧ ((execOp a.eval o).run Tryz.prog W = .ok (.value u) W' ∨ (u = undef ∧ (execOp a.eval o).run Tryz.prog W = .ok .skip W'))
theorem Turns.of_same {o : Oper} {u : Value} {a a' : Act} {W W' : World} (hy : Turns ops o a W u W') (he : execOp a'.eval o = execOp a.eval o)
    (hw : Region.wanted o (yielded ops a'.tmps) = Region.wanted o (yielded ops a.tmps)) : Turns ops o a' W u W' := by
  unfold Turns at *
  rw [he, hw]
  exact hy
theorem wpOp_of_turns {j : Nat} {o : Oper} {u : Value} {a : Act} {W W' : World} {K : Act → World → Prop} (ho : ops[j]? = some o) (h : Turns ops o a W u W') (hk : K (a.put o.dst u) W') : wpOp Tryz.prog ops Q j K a W := by
  unfold wpOp
  simp only [ho]
  rw [if_pos h.1]
  refine .inl ?_
  unfold Oper.wp
  rcases h.2 with e | ⟨rfl, e⟩ <;> rw [e] <;> exact hk

variable (ops md Q w0) in
/-- From every world of the class, in whatever order from here on. -/
def wpAnyA : Nat → Array Bool → Act → World → Prop
  | 0, listed, a, Ws => Region.ready md ops listed = [] ∧ ∀ W, inS w0 Ws W → Q .normal a W
  | fuel + 1, listed, a, Ws => (Region.ready md ops listed = [] → ∀ W, inS w0 Ws W → Q .normal a W) ∧
    ∀ j ∈ Region.ready md ops listed, ∃ o, ops[j]? = some o ∧
      ((∃ v, YieldsR ops w0 o v a ∧ wpAnyA fuel (listed.setIfInBounds j true) (a.put o.dst v) Ws) ∨
       (∀ W, inS w0 Ws W → ∃ u W', Turns ops o a W u W' ∧ Below w0.heap.size w0 W' ∧ wpAnyA fuel (listed.setIfInBounds j true) (a.put o.dst u) W') ∨
       (waitsAll md ops listed j = true ∧ ∀ W, inS w0 Ws W → wpOp Tryz.prog ops Q j (wpAny Tryz.prog md ops Q fuel (listed.setIfInBounds j true)) a W))

theorem wpOp_of_yieldsR {j : Nat} {o : Oper} {v : Value} {a : Act} {W : World} {K : Act → World → Prop} (ho : ops[j]? = some o) (hw : Below w0.heap.size w0 W) (hy : YieldsR ops w0 o v a)
    (h : ∀ W', Below W.heap.size W W' → K (a.put o.dst v) W') : wpOp Tryz.prog ops Q j K a W :=
  wpOp_of_yields (C := LaterC W) ho ⟨⟨W, Below.refl _ _⟩, rfl⟩ (hy W hw) fun _ ⟨x, hx⟩ => hx ▸ h x.1 x.2

theorem wpAny_of_A : ∀ (fuel : Nat) (listed : Array Bool) (a : Act) (Ws W : World), inS w0 Ws W →
    wpAnyA ops md Q w0 fuel listed a Ws → wpAny Tryz.prog md ops Q fuel listed a W
  | 0, _, _, _, _, hw, h => ⟨h.1, h.2 _ hw⟩
  | fuel + 1, _, a, Ws, W, hw, h => ⟨fun h0 => h.1 h0 _ hw, fun j hj => by
      obtain ⟨o, ho, h1 | h1 | ⟨_, h1⟩⟩ := h.2 j hj
      · obtain ⟨v, hy, hk⟩ := h1
        exact wpOp_of_yieldsR ho hw.1 hy fun _ hW' => wpAny_of_A fuel _ _ _ _ (hw.on hW') hk
      · obtain ⟨u, W', ht, hb, hk⟩ := h1 W hw
        exact wpOp_of_turns ho ht (wpAny_of_A fuel _ _ _ _ ⟨hb, Below.refl _ _⟩ hk)
      · exact h1 _ hw⟩

/-- A quiet operation that may come up now may be taken first, if every other one that has not come up waits for it or is apart from it. -/
theorem wpAnyA_first {i : Nat} {oi : Oper} {v : Value} (hi : ops[i]? = some oi) (hsel : ∀ (j : Nat) (o : Oper) cs b, ops[j]? = some o → o.op ≠ .select cs b) :
    ∀ (fuel : Nat) (listed : Array Bool) (a : Act) (Ws : World),
      (∀ j oj, ops[j]? = some oj → j ≠ i → listed.getD j true = false → (∀ e ∈ oj.after, Region.binds md e = true → e.on ≠ i) → oi.apart ops oj = true) →
      i ∈ Region.ready md ops listed → YieldsR ops w0 oi v a →
      wpAnyA ops md Q w0 fuel (listed.setIfInBounds i true) (a.put oi.dst v) Ws → wpAnyA ops md Q w0 (fuel + 1) listed a Ws := by
  intro fuel
  induction fuel with
  | zero =>
    intro listed a Ws _ hr hy H
    refine ⟨fun h => (by rw [h] at hr; cases hr), fun j hj => ?_⟩
    by_cases hji : j = i
    · subst hji; exact ⟨oi, hi, .inl ⟨v, hy, H⟩⟩
    · have := ready_mono hj hji
      rw [H.1] at this
      cases this
  | succ fuel ih =>
    intro listed a Ws hfree hr hy H
    refine ⟨fun h => (by rw [h] at hr; cases hr), fun j hj => ?_⟩
    by_cases hji : j = i
    · subst hji; exact ⟨oi, hi, .inl ⟨v, hy, H⟩⟩
    obtain ⟨oj, hoj, h1⟩ := H.2 j (ready_mono hj hji)
    obtain ⟨hjun, oj', hoj', hall⟩ := mem_ready.1 hj
    obtain rfl : oj' = oj := Option.some.inj (hoj'.symm.trans hoj)
    have hun := listed_lt (mem_ready.1 hr).1
    have hnot : ∀ e ∈ oj'.after, Region.binds md e = true → e.on ≠ i := fun e he hb heq => by
      have h1 := hall e he hb
      rw [heq, hun.1] at h1
      cases h1
    have hap := hfree j oj' hoj hji hjun hnot
    obtain ⟨p1, p2, p3⟩ := Oper.apart_spec hap
    have hfree' : ∀ k ok, ops[k]? = some ok → k ≠ i → (listed.setIfInBounds j true).getD k true = false →
        (∀ e ∈ ok.after, Region.binds md e = true → e.on ≠ i) → oi.apart ops ok = true := fun k ok hk hki hun' hno => by
      refine hfree k ok hk hki ?_ hno
      by_cases hjk : j = k
      · subst hjk; exact hjun
      · rw [getD_set_ne true hjk] at hun'; exact hun'
    have back : ∀ (u : Value) (Ws' : World), wpAnyA ops md Q w0 fuel ((listed.setIfInBounds i true).setIfInBounds j true) ((a.put oi.dst v).put oj'.dst u) Ws' →
        wpAnyA ops md Q w0 (fuel + 1) (listed.setIfInBounds j true) (a.put oj'.dst u) Ws' := fun u Ws' hk => by
      refine ih (listed.setIfInBounds j true) (a.put oj'.dst u) Ws' hfree' (ready_mono hr (Ne.symm hji))
        (hy.of_same (execOp_put oi (fun cs b => hsel i oi cs b hi) a oj'.dst u p3) (wanted_put oi a oj'.dst u p3)) ?_
      rw [Array.setIfInBounds_comm _ _ hji, ← Act.put_comm a v u p2]
      exact hk
    have he := (execOp_put oj' (fun cs b => hsel j oj' cs b hoj) a oi.dst v p1).symm
    have hw' := (wanted_put oj' a oi.dst v p1).symm
    refine ⟨oj', hoj, ?_⟩
    rcases h1 with ⟨u, hu, hk⟩ | hk | ⟨hw, _⟩
    · exact .inl ⟨u, hu.of_same he hw', back u Ws hk⟩
    · refine .inr (.inl fun W hW => ?_)
      obtain ⟨u, W', ht, hb, hk'⟩ := hk W hW
      exact ⟨u, W', ht.of_same he hw', hb, back u W' hk'⟩
    · have hii : i < ops.size := (Array.getElem?_eq_some_iff.1 hi).1
      obtain ⟨e, he, hb, heq⟩ := waitsAll_spec hoj hw hii (Ne.symm hji) (by simp [hun.2])
      exact absurd heq (hnot e he hb)

/-- What the operation does that makes the new block, and that the next one stores. -/
def Makes (obj : Obj) (o : Oper) : Prop := o.guard = none ∧ ∀ (a : Act) (W : World), (execOp a.eval o).run Tryz.prog W = .ok (.value (.pointer (some ⟨W.heap.size, 0, none⟩))) (W.alloc obj)
def Stores (o : Oper) : Prop := o.guard = none ∧ o.dst = none ∧ ∃ T p v, o.op = .store T p v
abbrev Only (K : Act → World → Prop) : Exit → Act → World → Prop := fun ex a W => ex = .normal ∧ K a W
theorem store_turns {o : Oper} {a : Act} {W : World} {K : Act → World → Prop} (ho : Stores o) (h : wpList Tryz.prog ops (Only K) [o] a W) : ∃ W', Turns ops o a W undef W' ∧ K (a.put o.dst undef) W' := by
  obtain ⟨hg, _, T, p, v, hop⟩ := ho
  have hw : Region.wanted o (yielded ops a.tmps) = true := by simp [Region.wanted, hg]
  unfold wpList at h
  rw [if_pos hw] at h
  have hr : (execOp a.eval o).run Tryz.prog W = ((Instr.storeAt T (a.eval p) (a.eval v)).run Tryz.prog W).andThen fun _ w' => .ok .skip w' := by
    unfold execOp
    simp [hop]
  rcases h with h | ⟨_, _, _, h, _⟩
  · unfold Oper.wp at h
    rw [hr] at h
    unfold Turns
    rw [hr]
    generalize (Instr.storeAt T (a.eval p) (a.eval v)).run Tryz.prog W = r at h ⊢
    cases r with
    | ok x w' => exact ⟨w', ⟨hw, .inr ⟨rfl, rfl⟩⟩, h.2⟩
    | halt x w' =>
      exfalso
      cases x <;> first | exact h.elim | (obtain ⟨e, _⟩ := h; cases e)
  · cases h

/-- First the quiet ones in the text's order, then the one that makes the block, the one that stores in it, then the last ones. -/
def headA (md : Region.Mode) (ops : Array Oper) (g : Nat) : Nat → Nat → Array Bool → Bool
  | 0, k, listed => decide (Region.ready md ops listed = [k]) && decide (Region.ready md ops (listed.setIfInBounds k true) = [k + 1]) &&
    (let l2 := (listed.setIfInBounds k true).setIfInBounds (k + 1) true
     (g == 0 || waitsAll md ops l2 (k + 2)) && tailB md ops g (k + 2) l2)
  | f + 1, k, listed => (Region.ready md ops listed).contains k && Region.free md ops listed k && headA md ops g f (k + 1) (listed.setIfInBounds k true)

abbrev wpNew (ops : Array Oper) (Q : Exit → Act → World → Prop) (w0 : World) (obj : Obj) (on ost : Oper) (t : List Oper) (a' : Act) : Prop :=
  ∀ W1 W, Below w0.heap.size w0 W1 → Below (W1.alloc obj).heap.size (W1.alloc obj) W →
    wpList Tryz.prog ops (Only fun a'' W' => Below w0.heap.size w0 W' ∧ ∀ W'', Below w0.heap.size w0 W'' → Below W'.heap.size W' W'' → wpList Tryz.prog ops Q t a'' W'') [ost] (a'.put on.dst (.pointer (some ⟨W1.heap.size, 0, none⟩))) W

theorem wpAnyA_lex {on ost : Oper} (hal : Makes obj on) (hst : Stores ost) (hs : Region.noSelect ops = true) (t : List Oper) : ∀ (l : List Oper) (k : Nat) (listed : Array Bool) (a : Act), (∀ j, (l ++ on :: ost :: t)[j]? = ops[k + j]?) →
    headA md ops t.length l.length k listed = true →
    wpQR ops w0 (wpNew ops Q w0 obj on ost t) l a →
    wpAnyA ops md Q w0 (l ++ on :: ost :: t).length listed a w0
  | [], k, listed, a, hl, hB, h => by
    simp only [headA, List.length_nil, Bool.and_eq_true, decide_eq_true_eq] at hB
    obtain ⟨⟨hB0, hB1⟩, hB2, hB3⟩ := hB
    have h0 : ops[k]? = some on := by simpa using (hl 0).symm
    have h1 : ops[k + 1]? = some ost := by simpa using (hl 1).symm
    refine ⟨fun e => (by rw [hB0] at e; cases e), fun j hj => ?_⟩
    rw [hB0] at hj
    obtain rfl : j = k := by simpa using hj
    refine ⟨on, h0, .inr (.inl fun W hW => ⟨_, _, ⟨by simp [Region.wanted, hal.1], .inl (hal.2 a W)⟩, hW.1.alloc hW.1.size obj, ?_⟩)⟩
    refine ⟨fun e => (by rw [hB1] at e; cases e), fun i hi => ?_⟩
    rw [hB1] at hi
    obtain rfl : i = j + 1 := by simpa using hi
    refine ⟨ost, h1, .inr (.inl fun W2 hW2 => ?_)⟩
    obtain ⟨W3, ht, hb, hk⟩ := store_turns hst (h W W2 hW.1 hW2.2)
    refine ⟨_, W3, ht, hb, ?_⟩
    cases t with
    | nil =>
      simp only [List.length_nil, tailB, List.isEmpty_iff] at hB3
      exact ⟨hB3, fun W4 hW4 => hk W4 hW4.1 hW4.2⟩
    | cons o t' =>
      have h2 : ops[j + 2]? = some o := by simpa using (hl 2).symm
      have hB4 := hB3
      simp only [List.length_cons, tailB, Bool.and_eq_true, decide_eq_true_eq] at hB4
      refine ⟨fun e => (by rw [hB4.1] at e; cases e), fun i hi => ?_⟩
      rw [hB4.1] at hi
      obtain rfl : i = j + 2 := by simpa using hi
      refine ⟨o, h2, .inr (.inr ⟨by simpa using hB2, fun W4 hW4 => ?_⟩)⟩
      have hw : wpOp Tryz.prog ops Q (j + 2) (wpList Tryz.prog ops Q t') ((a.put on.dst (.pointer (some ⟨W.heap.size, 0, none⟩))).put ost.dst undef) W4 := by unfold wpOp; simp only [h2]; exact hk W4 hW4.1 hW4.2
      exact wpOp_mono (fun a' w' h' => wpAny_of_tail t' (j + 3) _ a' w' (fun i => by have := hl (i + 3); simpa [Nat.add_assoc, Nat.add_comm 3 i] using this) hB4.2 h') hw
  | o :: l, k, listed, a, hl, hB, h => by
    have h0 : ops[k]? = some o := by simpa using (hl 0).symm
    simp only [List.length_cons, headA, Bool.and_eq_true] at hB
    obtain ⟨⟨hr, hf⟩, hB'⟩ := hB
    obtain ⟨v, hy, hK⟩ := h
    exact wpAnyA_first h0 (Region.noSelect_spec hs) (l ++ on :: ost :: t).length listed a w0 (Region.free_spec h0 hf) (by simpa using hr) hy
      (wpAnyA_lex hal hst hs t l (k + 1) _ _ (fun j => by have := hl (j + 1); simpa [Nat.add_assoc, Nat.add_comm 1 j] using this) hB' hK)

/-- A region whose first n operations are quiet, whose next two make a block and store in it, and whose last ones wait for all the others. -/
theorem wp_region_alloc {id : Nat} {a : Act} {w : World} {l : List Oper} {on ost : Oper} (n : Nat) (w0 : World) (obj : Obj) (hon : l[n]? = some on) (hos : l[n + 1]? = some ost) (hal : Makes obj on) (hst : Stores ost)
    (hB : (Region.noSelect l.toArray && decide (n + 1 < l.length) && headA .any l.toArray (l.length - (n + 2)) n 0 (Array.replicate l.length false)) = true) (hw : Below w0.heap.size w0 w)
    (h : ∀ w1, Below w0.heap.size w0 w1 → wpQuiet Tryz.prog l.toArray (fun w' => ∃ x : Later w1, w' = x.1) (wpNew l.toArray Q w1 obj on ost (l.drop (n + 2))) (l.take n) a) : (Code.region id l.toArray true).wp Tryz.prog Q a w := by
  simp only [Bool.and_eq_true, decide_eq_true_eq] at hB
  obtain ⟨⟨hs, hn⟩, hB⟩ := hB
  have htl : (l.take n).length = n := by simp; omega
  have hdl : (l.drop (n + 2)).length = l.length - (n + 2) := List.length_drop
  have hcut : l.take n ++ on :: ost :: l.drop (n + 2) = l := by
    have h1 : l[n] = on := by rw [List.getElem?_eq_getElem (by omega)] at hon; exact Option.some.inj hon
    have h2 : l[n + 1] = ost := by rw [List.getElem?_eq_getElem (by omega)] at hos; exact Option.some.inj hos
    rw [← h1, ← h2, List.getElem_cons_drop, List.getElem_cons_drop, List.take_append_drop]
  refine wp_region_any (by kernel_rfl) ?_
  have := wpAnyA_lex (md := .any) (Q := Q) (w0 := w0) hal hst hs (l.drop (n + 2)) (l.take n) 0 (Array.replicate l.length false) a
    (by rw [hcut]; simp) (by rw [htl, hdl]; exact hB) (wpQR_of (K := fun w1 => wpNew l.toArray Q w1 obj on ost (l.drop (n + 2))) _ _ h)
  rw [hcut] at this
  have key := wpAny_of_A (md := .any) _ _ _ w0 w.drew ⟨hw.drew, hw.drew⟩ this
  simpa using key
end
end Go.Proofs.YthdenmbfeanioaaGreatDoor
