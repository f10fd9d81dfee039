/- This text is a part of the proof: RegionMaker, ArcsBase, Bfs, AlivePlain. -/
import Derived.Test.YtlppdgaogdpajaaGreatDoorK13
import Derived.Test.YtlppdgaogdpajaaGreatDoorK14
namespace Go.Proofs.YtlppdgaogdpajaaGreatDoor
open Go.RowKit
section
variable {P : Program} {ops : Array Oper} {md : Region.Mode} {Q : Exit → Act → World → Prop} {C : World → Prop} {D : Value → World → Prop} {T : Nat → Array Bool → Nat → Act → World → Prop}
def madeCls (C : World → Prop) (D : Value → World → Prop) : Option Value → World → Prop
 | none => C
 | some u => D u
def MakesIn (P : Program) (ops : Array Oper) (C : World → Prop) (D : Value → World → Prop) (o : Oper) (a : Act) : Prop :=
 Region.wanted o (yielded ops a.tmps) = true ∧ ∀ W, C W → ∃ u W', ((execOp a.eval o).run P W = .ok (.value u) W' ∨ ((execOp a.eval o).run P W = .ok .skip W' ∧ u = undef)) ∧ D u W'
theorem MakesIn.of_same {o : Oper} {a a' : Act} (hy : MakesIn P ops C D o a) (he : execOp a'.eval o = execOp a.eval o)
  (hw : Region.wanted o (yielded ops a'.tmps) = Region.wanted o (yielded ops a.tmps)) : MakesIn P ops C D o a' := by
 unfold MakesIn at *
 rw [he, hw]
 exact hy
def Yields2 (P : Program) (ops : Array Oper) (C : World → Prop) (D : Value → World → Prop) (o : Oper) (v : Value) (a : Act) : Prop :=
 ∀ mv, YieldsIn P ops (madeCls C D mv) o v a
def wpAnyM (P : Program) (md : Region.Mode) (ops : Array Oper) (C : World → Prop) (D : Value → World → Prop) (Q : Exit → Act → World → Prop) (T : Nat → Array Bool → Nat → Act → World → Prop) (m : Nat) : Nat → Array Bool → Option Value → Act → Prop
  | 0, listed, mv, a => Region.ready md ops listed = [] ∧ ∀ W, madeCls C D mv W → Q .normal a W
  | fuel + 1, listed, mv, a => (Region.ready md ops listed = [] → ∀ W, madeCls C D mv W → Q .normal a W) ∧
    ∀ j ∈ Region.ready md ops listed, ∃ o, ops[j]? = some o ∧
      ((j < m ∧ ∃ v, YieldsIn P ops (madeCls C D mv) o v a ∧ wpAnyM P md ops C D Q T m fuel (listed.setIfInBounds j true) mv (a.put o.dst v)) ∨
       (j = m ∧ mv = none ∧ MakesIn P ops C D o a ∧ ∀ u, wpAnyM P md ops C D Q T m fuel (listed.setIfInBounds j true) (some u) (a.put o.dst u)) ∨
       (m < j ∧ ∀ W, madeCls C D mv W → T fuel listed j a W))
theorem wpOp_of_makes {j : Nat} {o : Oper} {a : Act} {W : World} {K : Act → World → Prop} (ho : ops[j]? = some o) (hw : C W) (hy : MakesIn P ops C D o a)
  (h : ∀ u W', D u W' → K (a.put o.dst u) W') : wpOp P ops Q j K a W := by
 obtain ⟨u, W', hr, hd⟩ := hy.2 W hw
 unfold wpOp
 simp only [ho]
 rw [if_pos hy.1]
 refine .inl ?_
 unfold Oper.wp
 rcases hr with hr | ⟨hr, rfl⟩
 ·rw [hr]
  exact h u W' hd
 ·rw [hr]
  exact h undef W' hd
theorem wpAny_of_M {m : Nat} (hT : ∀ fuel listed j a W, T fuel listed j a W → wpOp P ops Q j (wpAny P md ops Q fuel (listed.setIfInBounds j true)) a W) : ∀ (fuel : Nat) (listed : Array Bool) (mv : Option Value) (a : Act) (W : World), madeCls C D mv W → wpAnyM P md ops C D Q T m fuel listed mv a → wpAny P md ops Q fuel listed a W
 | 0, _, _, _, _, hw, h => ⟨h.1, h.2 _ hw⟩
 | fuel + 1, _, mv, a, W, hw, h => ⟨fun h0 => h.1 h0 _ hw, fun j hj => by
   obtain ⟨o, ho, h1 | h1 | ⟨_, h1⟩⟩ := h.2 j hj
   ·obtain ⟨_, v, hy, hk⟩ := h1
    exact wpOp_of_yields ho hw hy fun W' hW' => wpAny_of_M hT fuel _ _ _ _ hW' hk
   ·obtain ⟨_, rfl, hmk, hk⟩ := h1
    exact wpOp_of_makes ho hw hmk fun u W' hW' => wpAny_of_M hT fuel _ (some u) _ _ hW' (hk u)
   ·exact hT _ _ _ _ _ (h1 _ hw)⟩
theorem wpAnyM_first {m i : Nat} {oi : Oper} {v : Value} (hi : ops[i]? = some oi) (hsel : ∀ (j : Nat) (o : Oper) cs b, ops[j]? = some o → o.op ≠ .select cs b)
  (hs : Region.sinkB md ops (m + 1) = true) (hc : Region.chainB md ops (m + 1) = true) (hn : m + 1 < ops.size) (hin : i < m) :
  ∀ (fuel : Nat) (listed : Array Bool) (mv : Option Value) (a : Act), HeadInv md ops (m + 1) listed →
   (∀ j oj, ops[j]? = some oj → j ≠ i → listed.getD j true = false → (∀ e ∈ oj.after, Region.binds md e = true → e.on ≠ i) → oi.apart ops oj = true) →
   i ∈ Region.ready md ops listed → Yields2 P ops C D oi v a →
   wpAnyM P md ops C D Q T m fuel (listed.setIfInBounds i true) mv (a.put oi.dst v) → wpAnyM P md ops C D Q T m (fuel + 1) listed mv a := by
 intro fuel
 induction fuel with
 | zero =>
  intro listed mv a _ _ hr hy H
  refine ⟨fun h => (by rw [h] at hr; cases hr), fun j hj => ?_⟩
  by_cases hji : j = i
  ·subst hji; exact ⟨oi, hi, .inl ⟨hin, v, hy mv, H⟩⟩
  ·have := ready_mono hj hji
   rw [H.1] at this
   cases this
 | succ fuel ih =>
  intro listed mv a inv hfree hr hy H
  refine ⟨fun h => (by rw [h] at hr; cases hr), fun j hj => ?_⟩
  by_cases hji : j = i
  ·subst hji; exact ⟨oi, hi, .inl ⟨hin, v, hy mv, H⟩⟩
  obtain ⟨oj, hoj, h1⟩ := H.2 j (ready_mono hj hji)
  obtain ⟨hjun, oj', hoj', hall⟩ := mem_ready.1 hj
  obtain rfl : oj' = oj := Option.some.inj (hoj'.symm.trans hoj)
  have hun0 := (mem_ready.1 hr).1
  have hun := listed_lt hun0
  have hnot : ∀ e ∈ oj'.after, Region.binds md e = true → e.on ≠ i := fun e he hb heq => by
   have h1 := hall e he hb
   rw [heq, hun.1] at h1
   cases h1
  have hap := hfree j oj' hoj hji hjun hnot
  obtain ⟨p1, p2, p3⟩ := Oper.apart_spec hap
  have hfree' : ∀ k ok, ops[k]? = some ok → k ≠ i → (listed.setIfInBounds j true).getD k true = false →
    (∀ e ∈ ok.after, Region.binds md e = true → e.on ≠ i) → oi.apart ops ok = true := fun k ok hk hki hun' hno => by
   refine hfree k ok hk hki ?_ hno
   by_cases hjk : j = k
   ·subst hjk; exact hjun
   ·rw [getD_set_ne true hjk] at hun'; exact hun'
  have keep : ∀ u, Yields2 P ops C D oi v (a.put oj'.dst u) := fun u mv' => (hy mv').of_same (execOp_put oi (fun cs b => hsel i oi cs b hi) a oj'.dst u p3) (wanted_put oi a oj'.dst u p3)
  rcases h1 with ⟨hjn, u, hu, hk⟩ | ⟨hjm, hmv, hmk, hk⟩ | ⟨hjn, _⟩
  ·refine ⟨oj', hoj, .inl ⟨hjn, u, hu.of_same (execOp_put oj' (fun cs b => hsel j oj' cs b hoj) a oi.dst v p1).symm (wanted_put oj' a oi.dst v p1).symm, ?_⟩⟩
   refine ih (listed.setIfInBounds j true) mv (a.put oj'.dst u) (inv.set hj (by omega)) hfree' (ready_mono hr (Ne.symm hji)) (keep u) ?_
   rw [Array.setIfInBounds_comm _ _ hji, ← Act.put_comm a v u p2]
   exact hk
  ·refine ⟨oj', hoj, .inr (.inl ⟨hjm, hmv, hmk.of_same (execOp_put oj' (fun cs b => hsel j oj' cs b hoj) a oi.dst v p1).symm (wanted_put oj' a oi.dst v p1).symm, fun u => ?_⟩)⟩
   refine ih (listed.setIfInBounds j true) (some u) (a.put oj'.dst u) (inv.set hj (by omega)) hfree' (ready_mono hr (Ne.symm hji)) (keep u) ?_
   rw [Array.setIfInBounds_comm _ _ hji, ← Act.put_comm a v u p2]
   exact hk u
  ·exact absurd hj (tail_waits hs hc hn inv _ i rfl (by omega) hun0 j (by omega))
def headM (md : Region.Mode) (ops : Array Oper) (g : Nat) : Nat → Nat → Array Bool → Bool
 | 0, k, listed => decide (Region.ready md ops listed = [k]) && tailB md ops g (k + 1) (listed.setIfInBounds k true)
 | f + 1, k, listed => (Region.ready md ops listed).contains k && Region.free md ops listed k && headM md ops g f (k + 1) (listed.setIfInBounds k true)
def slotE (e : Act) (o : Oper) : Value := match o.dst with
 | some d => e.tmps.getD d undef
 | none => undef
def chainY (P : Program) (ops : Array Oper) (K : World → Prop) (e : Act) : List Oper → Act → Prop
 | [], a => a = e
 | o :: r, a => YieldsIn P ops K o (slotE e o) a ∧ chainY P ops K e r (a.put o.dst (slotE e o))
def ownSlots (n : Nat) : List Oper → Bool
 | [] => true
 | o :: r => (match o.dst with | some d => decide (d < n) && r.all (fun p => p.dst != some d) | none => false) && ownSlots n r
theorem put_size (a : Act) (d : Option Tmp) (v : Value) : (a.put d v).tmps.size = a.tmps.size := by
 unfold Act.put
 split <;> simp
theorem quiet_frame {K : World → Prop} {e : Act} {d : Tmp} : ∀ (l : List Oper) (a : Act), l.all (fun p => p.dst != some d) = true → wpQuiet P ops K (fun a' => a' = e) l a → e.tmps.getD d undef = a.tmps.getD d undef
 | [], a, _, h => by rw [show a = e from h]
 | o :: l, a, hd, h => by
  simp only [List.all_cons, Bool.and_eq_true, bne_iff_ne, ne_eq] at hd
  have put : ∀ v, (a.put o.dst v).tmps.getD d undef = a.tmps.getD d undef := fun v => by
   unfold Act.put
   split
   ·rename_i d' hd'
    have : d' ≠ d := fun e => hd.1 (by rw [hd', e])
    simp [Array.getD_eq_getD_getElem?, this]
   ·rfl
  unfold wpQuiet at h
  split at h
  ·obtain ⟨v, _, h2⟩ := h
   rw [quiet_frame l _ hd.2 h2, put]
  ·rw [quiet_frame l _ hd.2 h, put]
theorem chain_of {K : World → Prop} {e : Act} : ∀ (l : List Oper) (a : Act), ownSlots a.tmps.size l = true → wpQuiet P ops K (fun a' => a' = e) l a → chainY P ops K e l a
 | [], a, _, h => h
 | o :: l, a, hd, h => by
  simp only [ownSlots, Bool.and_eq_true] at hd
  obtain ⟨hd1, hd2⟩ := hd
  cases hdst : o.dst with
  | none => rw [hdst] at hd1; cases hd1
  | some d =>
   rw [hdst] at hd1
   simp only [Bool.and_eq_true, decide_eq_true_eq] at hd1
   have own : ∀ v, wpQuiet P ops K (fun a' => a' = e) l (a.put o.dst v) → slotE e o = v := fun v h2 => by
    unfold slotE
    rw [hdst]
    have := quiet_frame l _ hd1.2 h2
    dsimp only
    rw [this, hdst]
    unfold Act.put
    simp [Array.getD_eq_getD_getElem?, hd1.1]
   unfold wpQuiet at h
   split at h
   ·rename_i hw
    obtain ⟨v, h1, h2⟩ := h
    have e1 := own v h2
    refine ⟨.inl ⟨hw, by rw [e1]; exact h1⟩, ?_⟩
    rw [e1]
    exact chain_of l _ (by rw [put_size]; exact hd2) h2
   ·rename_i hw
    have e1 := own undef h
    refine ⟨.inr ⟨by simpa using hw, e1⟩, ?_⟩
    rw [e1]
    exact chain_of l _ (by rw [put_size]; exact hd2) h
theorem wpAnyM_lex {m : Nat} (hsel : Region.noSelect ops = true) (hs : Region.sinkB md ops (m + 1) = true) (hc : Region.chainB md ops (m + 1) = true) (hn : m + 1 < ops.size) (t : List Oper) (ht : t ≠ [])
  {om : Oper} (hom : ops[m]? = some om) (htl : ∀ j, t[j]? = ops[m + 1 + j]?) {e : Act} (hmk : MakesIn P ops C D om e) (h : ∀ u W, D u W → ∀ listed, tailB md ops t.length (m + 1) listed = true → T (t.length - 1) listed (m + 1) (e.put om.dst u) W) :
  ∀ (l : List Oper) (k : Nat) (listed : Array Bool) (a : Act), (∀ j o, l[j]? = some o → ops[k + j]? = some o) → k + l.length = m → HeadInv md ops (m + 1) listed →
  headM md ops t.length l.length k listed = true → (∀ mv, chainY P ops (madeCls C D mv) e l a) → wpAnyM P md ops C D Q T m (l.length + 1 + t.length) listed none a
 | [], k, listed, a, hl, hk, inv, hB, hq => by
  have hkn : k = m := by simpa using hk
  subst hkn
  obtain rfl : a = e := hq none
  obtain ⟨o, t', rfl⟩ := List.exists_cons_of_ne_nil ht
  have h0 : ops[k + 1]? = some o := by simpa using (htl 0).symm
  simp only [List.length_nil, headM, Bool.and_eq_true, decide_eq_true_eq] at hB
  obtain ⟨hr, hB2⟩ := hB
  rw [show ([] : List Oper).length + 1 + (o :: t').length = (t'.length + 1) + 1 from by simp; omega]
  refine ⟨fun h1 => (by rw [hr] at h1; cases h1), fun j hj => ?_⟩
  rw [hr] at hj
  have hjk : j = k := by simpa using hj
  subst hjk
  refine ⟨om, hom, .inr (.inl ⟨rfl, rfl, hmk, fun u => ?_⟩)⟩
  have hB3 := hB2
  simp only [List.length_cons, tailB, Bool.and_eq_true, decide_eq_true_eq] at hB3
  refine ⟨fun h1 => (by rw [hB3.1] at h1; cases h1), fun i hi => ?_⟩
  rw [hB3.1] at hi
  have hik : i = j + 1 := by simpa using hi
  subst hik
  exact ⟨o, h0, .inr (.inr ⟨by omega, fun W hW => h u W hW _ hB2⟩)⟩
 | o :: l, k, listed, a, hl, hk, inv, hB, hq => by
  have h0 : ops[k]? = some o := by simpa using hl 0 o (by simp)
  simp only [List.length_cons, headM, Bool.and_eq_true] at hB
  obtain ⟨⟨hr, hf⟩, hB'⟩ := hB
  have hkn : k < m := by simp only [List.length_cons] at hk; omega
  have hr' : k ∈ Region.ready md ops listed := by simpa using hr
  rw [show (o :: l).length + 1 + t.length = (l.length + 1 + t.length) + 1 from by simp; omega]
  exact wpAnyM_first h0 (Region.noSelect_spec hsel) hs hc hn hkn _ listed none a inv (Region.free_spec h0 hf) hr' (fun mv => (hq mv).1)
   (wpAnyM_lex hsel hs hc hn t ht hom htl hmk h l (k + 1) _ _ (fun j p hp => by have := hl (j + 1) p (by simpa using hp); simpa [Nat.add_assoc, Nat.add_comm 1 j] using this) (by simp only [List.length_cons] at hk; omega) (inv.set hr' (by omega)) hB' (fun mv => (hq mv).2))
theorem tail_list {m : Nat} {t : List Oper} (ht : t ≠ []) (htl : ∀ j, t[j]? = ops[m + 1 + j]?) {a : Act} {W : World} {listed : Array Bool} (hB : tailB md ops t.length (m + 1) listed = true) (h : wpList P ops Q t a W) :
  wpOp P ops Q (m + 1) (wpAny P md ops Q (t.length - 1) (listed.setIfInBounds (m + 1) true)) a W := by
 obtain ⟨o, t', rfl⟩ := List.exists_cons_of_ne_nil ht
 have h0 : ops[m + 1]? = some o := by simpa using (htl 0).symm
 simp only [List.length_cons, tailB, Bool.and_eq_true, decide_eq_true_eq] at hB
 have hw : wpOp P ops Q (m + 1) (wpList P ops Q t') a W := by unfold wpOp; simp only [h0]; exact h
 exact wpOp_mono (fun a' w' h' => wpAny_of_tail t' (m + 1 + 1) _ a' w' (fun i => by
   have := htl (i + 1)
   rw [List.getElem?_cons_succ] at this
   rw [this]
   congr 1
   omega) hB.2 h') hw
theorem quiet_later {K K' : World → Prop} {o : Oper} {a : Act} {W : World} {v : Value} (h : o.quietAt P a K W v) (hk : ∀ W', K W' → K' W') : o.quietAt P a K' W v := by
 unfold Oper.quietAt at *
 generalize (execOp a.eval o).run P W = r at *
 cases r with
 | ok n w' =>
  cases n <;> simp only [Oper.quietUpon] at h ⊢
  case value => exact h
  case skip => exact h
  case enter f args => exact ⟨h.1, h.2.mono fun e w'' ⟨he, hw⟩ => ⟨he, hk _ hw⟩⟩
 | halt x w' => simp only [Oper.quietUpon] at h
theorem chain_made {w0 : World} {D : Value → World → Prop} {G : World → Prop} (hG0 : G w0) (hDG : ∀ u W, D u W → G W) (hD : ∀ u W W', D u W → Below W.heap.size W W' → D u W') {e : Act} :
  ∀ (l : List Oper) (a : Act), (∀ W1, G W1 → chainY P ops (fun w' => ∃ x : Later W1, w' = x.1) e l a) → ∀ mv, chainY P ops (madeCls (fun w' => ∃ x : Later w0, w' = x.1) D mv) e l a
 | [], a, h, mv => h w0 hG0
 | o :: l, a, h, mv => by
  refine ⟨?_, chain_made hG0 hDG hD l _ (fun W1 hW1 => (h W1 hW1).2) mv⟩
  cases mv with
  | none => exact (h w0 hG0).1
  | some u =>
   rcases (h w0 hG0).1 with ⟨hw, _⟩ | ⟨hw, hv⟩
   ·refine .inl ⟨hw, fun W hW => ?_⟩
    rcases (h W (hDG u W hW)).1 with ⟨_, hq⟩ | ⟨hw2, _⟩
    ·exact quiet_later (hq W ⟨⟨W, Below.refl _ _⟩, rfl⟩) (fun W' ⟨x, hx⟩ => hD u W W' hW (hx ▸ x.2))
    ·rw [hw] at hw2; cases hw2
   ·exact .inr ⟨hw, hv⟩
theorem wp_region_turner {id : Nat} {a : Act} {w : World} {l : List Oper} (m : Nat) (w0 : World) (G : World → Prop) (D : Value → World → Prop) (hm : P.follows .mixedOrders = true)
  (hB : (Region.noSelect l.toArray && decide (m + 1 < l.length) && Region.sinkB .any l.toArray (m + 1) && Region.chainB .any l.toArray (m + 1) && headM .any l.toArray (l.length - (m + 1)) m 0 (Array.replicate l.length false)) = true)
  (hS : ownSlots a.tmps.size (l.take m) = true) {om : Oper} (hom : l[m]? = some om) (hg : om.guard = none) (hw : Below w0.heap.size w0 w) (hG0 : G w0)
  (hDG : ∀ u W, D u W → G W) (hD : ∀ u W W', D u W → Below W.heap.size W W' → D u W') {e : Act}
  (hq : ∀ W1, G W1 → wpQuiet P l.toArray (fun w' => ∃ x : Later W1, w' = x.1) (fun a' => a' = e) (l.take m) a)
  (hmk : ∀ W, Below w0.heap.size w0 W → ∃ u W', ((execOp e.eval om).run P W = .ok (.value u) W' ∨ ((execOp e.eval om).run P W = .ok .skip W' ∧ u = undef)) ∧ D u W')
  (h : ∀ u W, D u W → wpList P l.toArray Q (l.drop (m + 1)) (e.put om.dst u) W) : (Code.region id l.toArray true).wp P Q a w := by
 simp only [Bool.and_eq_true, decide_eq_true_eq] at hB
 obtain ⟨⟨⟨⟨hsel, hn⟩, hs⟩, hc⟩, hB⟩ := hB
 have htl : (l.take m).length = m := by simp; omega
 have hn' : m + 1 < l.toArray.size := by simpa using hn
 have inv0 : HeadInv .any l.toArray (m + 1) (Array.replicate l.length false) :=
  ⟨by simp, fun j oj _ hl => (by rw [getD_replicate_false] at hl; cases hl), fun t _ ht => getD_in (by simpa using ht) (getD_replicate_false _ _)⟩
 refine wp_region_any hm (wpAny_of_M (C := fun w' => ∃ x : Later w0, w' = x.1) (D := D) (m := m) (T := fun fuel listed j a W => wpOp P l.toArray Q j (wpAny P .any l.toArray Q fuel (listed.setIfInBounds j true)) a W) (fun _ _ _ _ _ h => h) _ _ none _ _ ⟨⟨_, hw.drew⟩, rfl⟩ ?_)
 have := wpAnyM_lex (md := .any) (C := fun w' => ∃ x : Later w0, w' = x.1) (D := D) (Q := Q) (T := fun fuel listed j a W => wpOp P l.toArray Q j (wpAny P .any l.toArray Q fuel (listed.setIfInBounds j true)) a W) hsel hs hc hn' (l.drop (m + 1)) (by simp; omega) (om := om) (by simpa using hom)
  (fun j => by simp [List.getElem?_drop]) (e := e) ⟨by simp [Region.wanted, hg], fun W ⟨x, hx⟩ => hmk W (hx ▸ x.2)⟩ (fun u W hW listed hl => tail_list (by simp; omega) (fun j => by simp [List.getElem?_drop]) hl (h u W hW)) (l.take m) 0 (Array.replicate l.length false) a
  (fun j o ho => by
   rw [List.getElem?_take] at ho
   split at ho
   ·simpa using ho
   ·cases ho) (by omega) inv0 (by rw [htl, List.length_drop]; exact hB)
  (fun mv => chain_made hG0 hDG hD _ _ (fun W1 hW1 => chain_of _ _ hS (hq W1 hW1)) mv)
 rw [htl, List.length_drop, show m + 1 + (l.length - (m + 1)) = l.length from by omega] at this
 simpa using this
theorem wp_region_maker {id : Nat} {a : Act} {w : World} {l : List Oper} (m : Nat) (w0 : World) (D : Value → World → Prop) (hm : P.follows .mixedOrders = true)
  (hB : (Region.noSelect l.toArray && decide (m + 1 < l.length) && Region.sinkB .any l.toArray (m + 1) && Region.chainB .any l.toArray (m + 1) && headM .any l.toArray (l.length - (m + 1)) m 0 (Array.replicate l.length false)) = true)
  (hS : ownSlots a.tmps.size (l.take m) = true) {om : Oper} (hom : l[m]? = some om) (hg : om.guard = none) (hw : Below w0.heap.size w0 w)
  (hD0 : ∀ u W, D u W → Below w0.heap.size w0 W) (hD : ∀ u W W', D u W → Below W.heap.size W W' → D u W') {e : Act}
  (hq : ∀ W1, Below w0.heap.size w0 W1 → wpQuiet P l.toArray (fun w' => ∃ x : Later W1, w' = x.1) (fun a' => a' = e) (l.take m) a)
  (hmk : ∀ W, Below w0.heap.size w0 W → ∃ u W', (execOp e.eval om).run P W = .ok (.value u) W' ∧ D u W')
  (h : ∀ u W, D u W → wpList P l.toArray Q (l.drop (m + 1)) (e.put om.dst u) W) : (Code.region id l.toArray true).wp P Q a w := by
 exact wp_region_turner m w0 (fun W => Below w0.heap.size w0 W) D hm hB hS hom hg hw (Below.refl _ _) hD0 hD hq (fun W hW => by obtain ⟨u, W', h1, h2⟩ := hmk W hW; exact ⟨u, W', .inl h1, h2⟩) h
end
end Go.Proofs.YtlppdgaogdpajaaGreatDoor
namespace Go.Proofs.YtlppdgaogdpajaaGreatDoor
open Go.RowKit Go.Shelf
attribute [local go_sem] Oper.semAt_some
structure Ra (J : List Wy → (Nat → Prop) → World → Prop) (Jx : (Nat → Prop) → World → Prop) (lp Bm By : Nat) (mine : Nat → Prop) (W : World) (X : Nat → Prop) (pre : List Wy) (A : World) : Prop where
 rt : Rt J Jx lp Bm By X pre A
 mx : ∀ k, mine k → X k
 kw : ∀ k, mine k → A.heap[k]? = W.heap[k]?
 sz : W.heap.size ≤ A.heap.size
section
variable {J : List Wy → (Nat → Prop) → World → Prop} {Jx : (Nat → Prop) → World → Prop} {lp Bm By : Nat} {mine : Nat → Prop} {W : World} {ys : List Wy}
theorem Ra.grow (hJ : ∀ pre, Abide W.heap.size (J pre)) (hJx : Abide W.heap.size Jx) {X Y : Nat → Prop} {pre : List Wy} {A A' : World} (h : Ra J Jx lp Bm By mine W X pre A) (hb : Below A.heap.size A A')
  (hY : ∀ k, Y k → X k ∨ (A.heap.size ≤ k ∧ k < A'.heap.size)) (hm : Y Bm) (hy : Y By) (hmi : ∀ k, mine k → Y k) : Ra J Jx lp Bm By mine W Y pre A' :=
 ⟨h.rt.grow hJ hJx hb hY hm hy, hmi, fun k hk => (hb.block k (h.rt.lt k (h.mx k hk))).trans (h.kw k hk), Nat.le_trans h.sz hb.size⟩
theorem Ra.same (hJ : ∀ pre, Abide W.heap.size (J pre)) (hJx : Abide W.heap.size Jx) {X : Nat → Prop} {pre : List Wy} {A A' : World} (h : Ra J Jx lp Bm By mine W X pre A) (hb : Below A.heap.size A A') : Ra J Jx lp Bm By mine W X pre A' :=
 h.grow hJ hJx hb (fun _ hk => .inl hk) h.rt.xm h.rt.xy h.mx
theorem Ra.more (hJ : ∀ pre, Abide W.heap.size (J pre)) (hJx : Abide W.heap.size Jx) {X : Nat → Prop} {pre : List Wy} {A A' : World} (h : Ra J Jx lp Bm By mine W X pre A) (hb : Below A.heap.size A A') (b : Nat) (h1 : A.heap.size ≤ b) (h2 : b < A'.heap.size) :
  Ra J Jx lp Bm By mine W (fun k => X k ∨ k = b) pre A' :=
 h.grow hJ hJx hb (fun _ hk => hk.elim .inl fun e => .inr (by omega)) (.inl h.rt.xm) (.inl h.rt.xy) (fun k hk => .inl (h.mx k hk))
theorem Ra.less (hJ : ∀ pre, Abide W.heap.size (J pre)) (hJx : Abide W.heap.size Jx) {X Y : Nat → Prop} {pre : List Wy} {A : World} (h : Ra J Jx lp Bm By mine W X pre A) (hY : ∀ k, Y k → X k) (hm : Y Bm) (hy : Y By) (hmi : ∀ k, mine k → Y k) : Ra J Jx lp Bm By mine W Y pre A :=
 h.grow hJ hJx (Below.refl _ _) (fun k hk => .inl (hY k hk)) hm hy hmi
theorem ra_put (hJ : ∀ pre, Abide W.heap.size (J pre)) (hJx : Abide W.heap.size Jx) (hJlt : ∀ pre O A, J pre O A → ∀ k, O k → k < A.heap.size) (hBm : W.heap.size ≤ Bm) (hne : Bm ≠ By) (hmlt : ∀ k, mine k → k < W.heap.size)
  (hY : ∀ pre y v O A, J pre O A → (pre ++ [y]) <+: ys → EWy W.heap.size y A v → YieldAt Fence.wide 0 Tryz.prog lp v A (Round J Jx (pre ++ [y]) O A))
  {X : Nat → Prop} {pre : List Wy} (y : Wy) {A : World} {b : Nat} (h : Ra J Jx lp Bm By mine W X pre A) (hp : (pre ++ [y]) <+: ys) (hb : W.heap.size ≤ b) (hbk : WordsAt A b y) :
  Calls Tryz.prog 193 #[.int .i64 y.arc.src, .int .i64 y.arc.dst, .int .i64 y.arc.high, .int .i64 y.tick, .slice (some ⟨b, 0, none⟩) 2 2, .pointer (some ⟨Bm, 0, none⟩), .pointer (some ⟨By, 0, none⟩)] A fun e A' =>
   e = .returned (.tuple #[]) ∧ Ra J Jx lp Bm By mine W X (pre ++ [y]) A' ∧ (∀ k, X k → k ≠ Bm → A'.heap[k]? = A.heap[k]?) ∧ A.heap.size ≤ A'.heap.size :=
 (c_put hJ hJx hJlt hBm hne hY y h.rt hp hb hbk).mono fun e A' ⟨he, h1, h2, h3⟩ =>
  ⟨he, ⟨h1, h.mx, fun k hk => (h2 k (h.mx k hk) (by have := hmlt k hk; omega)).trans (h.kw k hk), Nat.le_trans h.sz h3⟩, h2, h3⟩
end
theorem Lst.same {α : Type} {enc : α → List Value} {n : Nat} {w w1 : World} {a : Option Addr} {l : List α} (h : Lst enc n w a l) (hb : l ≠ [] → ∀ b o, a = some ⟨b, o, none⟩ → w1.heap[b]? = w.heap[b]?) : Lst enc n w1 a l :=
 ⟨h.1, fun hl => by obtain ⟨b, o, ha, hk⟩ := h.2 hl; exact ⟨b, o, ha, fun k x hx j u hu => (cell_same (hb hl b o ha)).trans (hk k x hx j u hu)⟩⟩
theorem CellsAt.same {w w1 : World} {b o : Nat} {vs : List Value} (h : CellsAt w b o vs) (hb : w1.heap[b]? = w.heap[b]?) : CellsAt w1 b o vs :=
 fun j u hj => (cell_same hb).trans (h j u hj)
theorem Ra.shape {J : List Wy → (Nat → Prop) → World → Prop} {Jx : (Nat → Prop) → World → Prop} {lp Bm By : Nat} {mine : Nat → Prop} {W : World} {X : Nat → Prop} {pre : List Wy} {A : World} (h : Ra J Jx lp Bm By mine W X pre A)
  {m : Fm} {Bs : Nat} (hs : mine Bs) (hc : CellsAt W Bs 0 (feC m)) : CellsAt A Bs 0 (feC m) := hc.same (h.kw _ hs)
theorem Ra.mem {J : List Wy → (Nat → Prop) → World → Prop} {Jx : (Nat → Prop) → World → Prop} {lp Bm By : Nat} {mine : Nat → Prop} {W : World} {X : Nat → Prop} {pre : List Wy} {A : World} (h : Ra J Jx lp Bm By mine W X pre A)
  {m : Fm} (hpa : m.f.places ≠ [] → ∀ b o, m.pa = some ⟨b, o, none⟩ → mine b) (hga : m.f.gates ≠ [] → ∀ b o, m.ga = some ⟨b, o, none⟩ → mine b) (hm : m.In W) : m.In A :=
 ⟨hm.pl.same fun hl b o e => h.kw _ (hpa hl b o e), hm.gt.same fun hl b o e => h.kw _ (hga hl b o e)⟩
theorem ends_of {f : Fe} (h : Right f) {g : Gt} (hg : g ∈ f.gates) : (0 ≤ g.a ∧ g.a ≤ (f.places.length : Int) - 1) ∧ 0 ≤ g.b ∧ g.b ≤ (f.places.length : Int) - 1 := by
 have h1 := h.en
 rw [List.any_eq_false] at h1
 have h2 := h1 g hg
 unfold endsBad at h2
 cases ha : rg 0 ((f.places.length : Int) - 1) g.a
 ·rw [ha] at h2; simp at h2
 ·cases hb : rg 0 ((f.places.length : Int) - 1) g.b
  ·rw [hb] at h2; simp at h2
  ·exact ⟨rg_iff.1 ha, rg_iff.1 hb⟩
theorem c_arcs (m : Fm) (w : World) : Calls Tryz.prog 147 #[m.v] w fun e w' =>
  e = .returned (.func (.func 192) #[] #[.pointer (some ⟨w.heap.size, 0, none⟩)]) ∧ w' = w.alloc (.cells #[.int .i64 m.f.ticks, .int .i64 m.f.yields, .slice m.pa m.f.places.length m.pc, .slice m.ga m.f.gates.length m.gc] 144) := by
 have hmf : ∀ (fn : Fn) (first cap : Array Value) (w : World), (Instr.makeFunc fn first cap).run Tryz.prog w = .ok (.func fn first cap) w := fun _ _ _ _ => rfl
 go_enter Tryz.func147, Tryz.ntmps147
 go_wp2
 go_ret
 exact ⟨rfl, rfl⟩
end Go.Proofs.YtlppdgaogdpajaaGreatDoor
namespace Go.Proofs.YtlppdgaogdpajaaGreatDoor
open Go.RowKit
def upd (S : Int → Option Int) (q n : Int) : Int → Option Int := fun t => if t = q then some n else S t
def visit1 (p : Int) (st : (Int → Option Int) × List Int) (q : Int) : (Int → Option Int) × List Int := if (st.1 q).isSome then st else (upd st.1 q ((st.1 p).getD 0 + 1), st.2 ++ [q])
def visits (p : Int) (l : List Int) (st : (Int → Option Int) × List Int) : (Int → Option Int) × List Int := l.foldl (visit1 p) st
def bfs (f : Fe) (dest : Int) : Nat → (Int → Option Int) → List Int → (Int → Option Int)
 | 0, S, _ => S
 | _ + 1, S, [] => S
 | k + 1, S, p :: r => if p = dest then S else bfs f dest k (visits p (besideV f p) (S, r)).1 (visits p (besideV f p) (S, r)).2
def bfs0 (start : Int) : Int → Option Int := upd (fun _ => none) start 0
def waysV (f : Fe) (start dest : Int) : Int × Int :=
 if askedE f [start, dest] ≠ 0 then (0, askedE f [start, dest])
 else match bfs f dest f.places.length (bfs0 start) [start] dest with
  | some n => (n, 0)
  | none => (0, 5)
theorem bfs_nil (f : Fe) (dest : Int) (k : Nat) (S : Int → Option Int) : bfs f dest k S [] = S := by cases k <;> rfl
theorem visits_snoc (p : Int) {l : List Int} {k : Nat} {q : Int} (h : l[k]? = some q) (st : (Int → Option Int) × List Int) : visits p (l.take (k + 1)) st = visit1 p (visits p (l.take k) st) q := by
 unfold visits
 rw [take_some h, List.foldl_append]
 rfl
def unm (P : Nat) (S : Int → Option Int) : Nat := ((List.range P).filter fun (i : Nat) => (S (i : Int)).isNone).length
theorem filter_less {α : Type} {p q : α → Bool} : ∀ {l : List α}, (∀ x ∈ l, q x = true → p x = true) → ∀ {y : α}, y ∈ l → p y = true → q y = false → (l.filter q).length + 1 ≤ (l.filter p).length
 | [], _, _, hy, _, _ => by simp at hy
 | x :: l, h, y, hy, hp, hq => by
  have hsub : ∀ (l : List α), (∀ x ∈ l, q x = true → p x = true) → (l.filter q).length ≤ (l.filter p).length := by
   intro l
   induction l with
   | nil => intro _; simp
   | cons z m ih =>
    intro hh
    have hz := hh z (by simp)
    have hm := ih (fun x hx => hh x (by simp [hx]))
    cases hqz : q z
    ·rw [List.filter_cons_of_neg (by simp [hqz])]
     cases hpz : p z
     ·rw [List.filter_cons_of_neg (by simp [hpz])]; exact hm
     ·rw [List.filter_cons_of_pos hpz, List.length_cons]; omega
    ·rw [List.filter_cons_of_pos hqz, List.filter_cons_of_pos (hz hqz), List.length_cons, List.length_cons]
     omega
  have hl := hsub l (fun x hx => h x (by simp [hx]))
  rcases List.mem_cons.1 hy with rfl | hy
  ·rw [List.filter_cons_of_pos hp, List.filter_cons_of_neg (by simp [hq]), List.length_cons]
   omega
  ·have ih := filter_less (fun x hx => h x (by simp [hx])) hy hp hq
   have hx := h x (by simp)
   cases hqx : q x
   ·rw [List.filter_cons_of_neg (by simp [hqx])]
    cases hpx : p x
    ·rw [List.filter_cons_of_neg (by simp [hpx])]; exact ih
    ·rw [List.filter_cons_of_pos hpx, List.length_cons]; omega
   ·rw [List.filter_cons_of_pos hqx, List.filter_cons_of_pos (hx hqx), List.length_cons, List.length_cons]
    omega
theorem unm_upd {P : Nat} {S : Int → Option Int} {q n : Int} (h : S q = none) (h0 : 0 ≤ q) (h1 : q < P) : unm P (upd S q n) + 1 ≤ unm P S := by
 unfold unm
 refine filter_less (y := q.toNat) (fun i _ hi => ?_) (List.mem_range.2 (by omega)) ?_ ?_
 ·unfold upd at hi
  by_cases e : (i : Int) = q
  ·rw [if_pos e] at hi; simp at hi
  ·rw [if_neg e] at hi; exact hi
 ·rw [Int.toNat_of_nonneg h0, h]; rfl
 ·rw [Int.toNat_of_nonneg h0]
  unfold upd
  rw [if_pos rfl]
  rfl
theorem unm_0 {P : Nat} {q : Int} (h0 : 0 ≤ q) (h1 : q < P) : unm P (bfs0 q) + 1 ≤ P := by
 have h := unm_upd (P := P) (S := fun _ => none) (q := q) (n := 0) rfl h0 h1
 have h2 : unm P (fun _ => none) ≤ P := by
  unfold unm
  refine Nat.le_trans (List.length_filter_le _ _) ?_
  simp
 unfold bfs0
 omega
theorem mem_compact {α : Type} [Inhabited α] [DecidableEq α] {l : List α} {x : α} (h : x ∈ Lib.compact l) : x ∈ l := by
 unfold Lib.compact Lib.compactUpTo at h
 obtain ⟨i, hi, rfl⟩ := List.mem_map.1 h
 have hi2 := List.mem_range.1 (List.mem_filter.1 hi).1
 have : l.toArray[i]! = l[i] := by simp [hi2]
 rw [this]
 exact List.getElem_mem _
theorem beside_in {f : Fe} (h : Right f) {p q : Int} (hq : q ∈ besideV f p) : 0 ≤ q ∧ q ≤ (f.places.length : Int) - 1 := by
 unfold besideV setI at hq
 have h1 := mem_compact hq
 unfold sortI at h1
 have h2 := List.mem_mergeSort.1 h1
 unfold besideL at h2
 obtain ⟨g, hg, he⟩ := List.mem_filterMap.1 h2
 obtain ⟨ha, hb⟩ := ends_of h hg
 by_cases e1 : g.a = p
 ·rw [if_pos e1] at he
  cases he
  exact hb
 ·rw [if_neg e1] at he
  by_cases e2 : g.b = p
  ·rw [if_pos e2] at he
   cases he
   exact ha
  ·rw [if_neg e2] at he; cases he
theorem beside_len {f : Fe} (h : f.gates.length ≤ 12) (p : Int) : (besideV f p).length ≤ 12 := by
 unfold besideV setI
 refine Nat.le_trans (compact_le _) ?_
 unfold sortI
 rw [List.length_mergeSort, ← besK_all]
 exact besK_len f p _ h
structure Srch (P : Nat) (B : Int) (S : Int → Option Int) (row : List Int) : Prop where
 num : ∀ t n, S t = some n → 0 ≤ n ∧ n ≤ B
 inn : ∀ q ∈ row, 0 ≤ q ∧ q < P
 mark : ∀ q ∈ row, (S q).isSome = true
theorem visit_keep {S : Int → Option Int} {row : List Int} {p q t : Int} (h : (S t).isSome = true) : (visit1 p (S, row) q).1 t = S t := by
 unfold visit1
 dsimp only
 by_cases e : (S q).isSome = true
 ·rw [if_pos e]
 ·rw [if_neg e]
  dsimp only
  unfold upd
  rw [if_neg (fun (e2 : t = q) => e (e2 ▸ h))]
theorem Srch.visit {P : Nat} {B : Int} {S : Int → Option Int} {row : List Int} {p q : Int} (h : Srch P (B + 1) S row) (hp : (S p).getD 0 ≤ B ∧ 0 ≤ (S p).getD 0) (hq : 0 ≤ q ∧ q < P) : Srch P (B + 1) (visit1 p (S, row) q).1 (visit1 p (S, row) q).2 := by
 unfold visit1
 dsimp only
 by_cases e : (S q).isSome = true
 ·rw [if_pos e]; exact h
 ·rw [if_neg e]
  refine ⟨fun t n ht => ?_, fun z hz => ?_, fun z hz => ?_⟩
  ·dsimp only at ht
   unfold upd at ht
   by_cases e2 : t = q
   ·rw [if_pos e2] at ht
    cases ht
    omega
   ·rw [if_neg e2] at ht
    exact h.num t n ht
  ·rcases List.mem_append.1 hz with hz | hz
   ·exact h.inn z hz
   ·simp only [List.mem_cons, List.not_mem_nil, or_false] at hz
    subst hz
    exact hq
  ·have hk := fun t (ht : (S t).isSome = true) => visit_keep (row := row) (p := p) (q := q) ht
   unfold visit1 at hk
   dsimp only at hk
   rw [if_neg e] at hk
   rcases List.mem_append.1 hz with hz | hz
   ·rw [hk z (h.mark z hz)]; exact h.mark z hz
   ·simp only [List.mem_cons, List.not_mem_nil, or_false] at hz
    subst hz
    dsimp only
    unfold upd
    rw [if_pos rfl]
    rfl
theorem visit_less {P : Nat} {S : Int → Option Int} {row : List Int} {p q : Int} (hq : 0 ≤ q ∧ q < P) : (visit1 p (S, row) q).2.length + unm P (visit1 p (S, row) q).1 ≤ row.length + unm P S := by
 unfold visit1
 dsimp only
 by_cases e : (S q).isSome = true
 ·rw [if_pos e]; exact Nat.le_refl _
 ·rw [if_neg e]
  have h := unm_upd (P := P) (S := S) (q := q) (n := (S p).getD 0 + 1) (by simpa using e) hq.1 hq.2
  dsimp only
  rw [List.length_append, List.length_singleton]
  omega
theorem Srch.start {P : Nat} {p : Int} (h0 : 0 ≤ p) (h1 : p < P) : Srch P 0 (bfs0 p) [p] := by
 refine ⟨fun t n ht => ?_, fun q hq => ?_, fun q hq => ?_⟩
 ·unfold bfs0 upd at ht
  by_cases e : t = p
  ·rw [if_pos e] at ht; cases ht; omega
  ·rw [if_neg e] at ht; cases ht
 ·simp only [List.mem_cons, List.not_mem_nil, or_false] at hq
  subst hq
  exact ⟨h0, h1⟩
 ·simp only [List.mem_cons, List.not_mem_nil, or_false] at hq
  subst hq
  unfold bfs0 upd
  rw [if_pos rfl]
  rfl
end Go.Proofs.YtlppdgaogdpajaaGreatDoor
namespace Go.Proofs.YtlppdgaogdpajaaGreatDoor
def srcB : ByteArray := ⟨#[102, 101, 108, 108, 32, 50, 32, 53, 48, 10, 104, 101, 97, 102, 32, 104, 105, 103, 104, 10, 104, 101, 97, 102, 32, 108, 111, 119, 10, 102, 111, 108, 100, 32, 121, 97, 114, 100, 10, 103, 97, 116, 101, 32, 103, 97, 112, 32, 104, 105, 103, 104, 32, 108, 111, 119, 32, 50, 48, 10, 103, 97, 116, 101, 32, 108, 97, 110, 101, 32, 108, 111, 119, 32, 121, 97, 114, 100, 32, 49, 48, 48, 48, 10]⟩
def bHigh : ByteArray := ⟨#[104, 105, 103, 104]⟩
def bLow : ByteArray := ⟨#[108, 111, 119]⟩
def bYard : ByteArray := ⟨#[121, 97, 114, 100]⟩
def bGap : ByteArray := ⟨#[103, 97, 112]⟩
def bLane : ByteArray := ⟨#[108, 97, 110, 101]⟩
def bSheep : ByteArray := ⟨#[115, 104, 101, 101, 112]⟩
def lnB0 : ByteArray := ⟨#[49, 32, 48, 32, 112, 97, 115, 115, 32, 55, 32, 115, 104, 101, 101, 112, 32, 103, 97, 112, 32, 48, 32, 53, 32, 57]⟩
def lnB1 : ByteArray := ⟨#[50, 32, 51, 32, 112, 97, 115, 115, 32, 55, 32, 115, 104, 101, 101, 112, 32, 103, 97, 112, 32, 48, 32, 55, 32, 51, 48]⟩
def lnB2 : ByteArray := ⟨#[51, 32, 52, 32, 118, 111, 105, 100, 32, 49]⟩
def f0 : Fe := ⟨2, 50, [⟨bHigh, 1⟩, ⟨bLow, 1⟩, ⟨bYard, 2⟩], [⟨bGap, 0, 1, 20⟩, ⟨bLane, 1, 2, 1000⟩]⟩
def x0 : Rp := ⟨1, 0, 2, 7, bSheep, 0, 0, 5, 9, 0⟩
def x1 : Rp := ⟨2, 3, 2, 7, bSheep, 0, 0, 7, 30, 0⟩
def x2 : Rp := ⟨3, 4, 8, 0, ⟨#[]⟩, 0, 0, 0, 0, 1⟩
def nameB47 : ByteArray := ⟨#[98, 101, 103, 105, 110, 32, 104, 105, 103, 104]⟩
theorem v_right : checkE f0 = 0 := by decide +kernel
theorem v_parse : parseV srcB = (f0, 0, 0) := by decide +kernel
theorem v_print : printV f0 = srcB := by decide +kernel
theorem v_nodes : nodeN f0 0 (f0.ticks + 1) = 19 := by decide +kernel
theorem v_arcs : countN f0 = 53 := by decide +kernel
theorem v_read0 : readV f0 lnB0 = (x0, 0) := by decide +kernel
theorem v_read1 : readV f0 lnB1 = (x1, 0) := by decide +kernel
theorem v_read2 : readV f0 lnB2 = (x2, 0) := by decide +kernel
theorem v_app0 : appendV f0 [] x0 = ([x0], 0) := by decide +kernel
theorem v_app1 : appendV f0 [x0] x1 = ([x0, x1], 0) := by decide +kernel
theorem v_app2 : appendV f0 [x0, x1] x2 = ([x0, x1, x2], 0) := by decide +kernel
theorem v_net3 : (netV f0 [x0, x1, x2] 3 7 bSheep).2 = 0 ∧ (netV f0 [x0, x1, x2] 3 7 bSheep).1.arcs.length = 53 ∧ (netV f0 [x0, x1, x2] 3 7 bSheep).1.arcs[24]? = some ⟨2, 9, 7, 9, 2, 1⟩ := by decide +kernel
theorem v_net4 : (netV f0 [x0, x1, x2] 4 7 bSheep).2 = 0 ∧ (netV f0 [x0, x1, x2] 4 7 bSheep).1.arcs.length = 53 ∧ (netV f0 [x0, x1, x2] 4 7 bSheep).1.arcs[24]? = some ⟨2, 9, 7, 20, 2, 0⟩ := by decide +kernel
theorem v_move : moveV f0 x0 = (24, 0) := by decide +kernel
theorem v_name : nameArcV f0 47 = (nameB47, 0) := by decide +kernel
theorem v_on : (onFellV f0 1).2 = 0 ∧ (onFellV f0 1).1.length = 53 ∧ (onFellV f0 1).1[3]? = some 1 ∧ (onFellV f0 1).1[4]? = some 1 ∧ (onFellV f0 1).1[5]? = some 0 := by decide +kernel
theorem v_b0 : besideV f0 0 = [1] := by
 unfold besideV setI sortI
 rw [show besideL f0 0 = [1] by decide +kernel, List.mergeSort_singleton]
 decide +kernel
theorem v_b1 : besideV f0 1 = [0, 2] := by
 unfold besideV setI sortI
 rw [show besideL f0 1 = [0, 2] by decide +kernel, List.mergeSort_of_pairwise (by decide)]
 decide +kernel
theorem v_ways : waysV f0 0 2 = (2, 0) := by
 unfold waysV
 rw [show askedE f0 [0, 2] = 0 by decide +kernel, if_neg (by decide), show f0.places.length = 3 from rfl]
 simp [bfs, visits, visit1, bfs0, upd, v_b0, v_b1]
end Go.Proofs.YtlppdgaogdpajaaGreatDoor
