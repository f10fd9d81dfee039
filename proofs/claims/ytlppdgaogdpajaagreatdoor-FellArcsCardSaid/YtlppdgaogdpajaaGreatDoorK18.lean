/- This text is a part of the proof: RegionAssert, RegionMakerIn. -/
import Derived.Test.YtlppdgaogdpajaaGreatDoorK15
namespace Go.Proofs.YtlppdgaogdpajaaGreatDoor
open Go.RowKit
structure Stays where
 p : Value → World → Prop
 mono : ∀ v W W', p v W → Below W.heap.size W W' → p v W'
def updV (vs : Nat → Value) (i : Nat) (v : Value) : Nat → Value := fun j => if j = i then v else vs j
def frameV : List Oper → Nat → (Nat → Value) → Act → Act
 | [], _, _, a => a
 | o :: r, k, vs, a => frameV r (k + 1) vs (a.put o.dst (vs k))
theorem put_twice (a : Act) (d : Option Tmp) (u v : Value) : (a.put d u).put d v = a.put d v := by
 cases d with
 | none => rfl
 | some d =>
  unfold Act.put
  simp [Array.setIfInBounds_setIfInBounds]
theorem put_swap (a : Act) {d e : Tmp} (h : d ≠ e) (u v : Value) : (a.put (some d) u).put (some e) v = (a.put (some e) v).put (some d) u := by
 unfold Act.put
 simp only
 rw [Array.setIfInBounds_comm _ _ h]
theorem frameV_swap {d : Tmp} {v : Value} : ∀ (l : List Oper) (k : Nat) (vs : Nat → Value) (a : Act), l.all (fun p => p.dst != some d) = true → (frameV l k vs a).put (some d) v = frameV l k vs (a.put (some d) v)
 | [], _, _, _, _ => rfl
 | o :: l, k, vs, a, h => by
  simp only [List.all_cons, Bool.and_eq_true, bne_iff_ne, ne_eq] at h
  show (frameV l (k + 1) vs (a.put o.dst (vs k))).put (some d) v = frameV l (k + 1) vs ((a.put (some d) v).put o.dst (vs k))
  rw [frameV_swap l (k + 1) vs _ h.2]
  cases ho : o.dst with
  | none => rfl
  | some e => rw [put_swap a (fun e2 => h.1 (by rw [ho, e2])) (vs k) v]
theorem frameV_upd {v : Value} : ∀ (l : List Oper) (k i : Nat) (vs : Nat → Value) (a : Act), i < k → frameV l k (updV vs i v) a = frameV l k vs a
 | [], _, _, _, _, _ => rfl
 | o :: l, k, i, vs, a, h => by
  show frameV l (k + 1) (updV vs i v) (a.put o.dst (updV vs i v k)) = frameV l (k + 1) vs (a.put o.dst (vs k))
  rw [frameV_upd l (k + 1) i vs _ (by omega), show updV vs i v k = vs k from if_neg (by omega)]
theorem frameV_put {v : Value} : ∀ (l : List Oper) (k i n : Nat) (vs : Nat → Value) (a : Act) (o : Oper), ownSlots n l = true → l[i]? = some o → (frameV l k vs a).put o.dst v = frameV l k (updV vs (k + i) v) a
 | [], _, _, _, _, _, _, _, h => by simp at h
 | p :: l, k, 0, n, vs, a, o, hs, h => by
  simp only [List.getElem?_cons_zero, Option.some.injEq] at h
  subst h
  simp only [ownSlots, Bool.and_eq_true] at hs
  show (frameV l (k + 1) vs (a.put p.dst (vs k))).put p.dst v = frameV l (k + 1) (updV vs (k + 0) v) (a.put p.dst (updV vs (k + 0) v k))
  rw [frameV_upd l (k + 1) (k + 0) vs _ (by omega), show updV vs (k + 0) v k = v from if_pos rfl]
  cases hd : p.dst with
  | none => rw [hd] at hs; simp at hs
  | some d =>
   rw [hd] at hs
   simp only [Bool.and_eq_true] at hs
   rw [frameV_swap l (k + 1) vs _ hs.1.2, put_twice]
 | p :: l, k, i + 1, n, vs, a, o, hs, h => by
  simp only [ownSlots, Bool.and_eq_true] at hs
  show (frameV l (k + 1) vs (a.put p.dst (vs k))).put o.dst v = frameV l (k + 1) (updV vs (k + (i + 1)) v) (a.put p.dst (updV vs (k + (i + 1)) v k))
  rw [frameV_put l (k + 1) i n vs _ o hs.2 (by simpa using h), show updV vs (k + (i + 1)) v k = vs k from if_neg (by omega), show k + 1 + i = k + (i + 1) from by omega]
section
variable {P : Program} {Q : Exit → Act → World → Prop} {md : Region.Mode} {ops : Array Oper}
theorem wpAny_of_tail_more : ∀ (l : List Oper) (x k : Nat) (listed : Array Bool) (a : Act) (w : World), (∀ j, l[j]? = ops[k + j]?) →
  tailB md ops l.length k listed = true → wpList P ops Q l a w → wpAny P md ops Q (l.length + x) listed a w
 | [], 0, _, _, _, _, _, hB, h => ⟨by simpa [tailB] using hB, h⟩
 | [], x + 1, _, listed, _, _, _, hB, h => by
  have h0 : Region.ready md ops listed = [] := by simpa [tailB] using hB
  show wpAny P md ops Q (0 + (x + 1)) listed _ _
  rw [Nat.zero_add]
  exact ⟨fun _ => h, fun i hi => by rw [h0] at hi; cases hi⟩
 | o :: l, x, k, listed, a, w, hl, hB, h => by
  have h0 : ops[k]? = some o := by simpa using (hl 0).symm
  simp only [List.length_cons, tailB, Bool.and_eq_true, decide_eq_true_eq] at hB
  rw [show (o :: l).length + x = (l.length + x) + 1 from by simp; omega]
  refine ⟨fun h1 => (by rw [hB.1] at h1; cases h1), fun i hi => ?_⟩
  rw [hB.1] at hi
  obtain rfl : i = k := by simpa using hi
  have hw : wpOp P ops Q i (wpList P ops Q l) a w := by unfold wpOp; simp only [h0]; exact h
  exact wpOp_mono (fun a' w' h' => wpAny_of_tail_more l x (i + 1) _ a' w' (fun j => by have := hl (j + 1); simpa [Nat.add_assoc, Nat.add_comm 1 j] using this) hB.2 h') hw
def lowB (md : Region.Mode) (l : List Oper) (m : Nat) : Bool := (List.range m).all fun i => match l[i]? with
 | some o => o.after.all fun e => !Region.binds md e || decide (e.on < i)
 | none => false
def unl (m : Nat) (listed : Array Bool) : Nat := ((List.range m).filter fun i => !listed.getD i true).length
theorem filter_lessA {α : Type} {p q : α → Bool} : ∀ {l : List α}, (∀ x ∈ l, q x = true → p x = true) → ∀ {y : α}, y ∈ l → p y = true → q y = false → (l.filter q).length + 1 ≤ (l.filter p).length
 | [], _, _, hy, _, _ => by simp at hy
 | x :: l, h, y, hy, hp, hq => by
  have hsub : ∀ (l : List α), (∀ x ∈ l, q x = true → p x = true) → (l.filter q).length ≤ (l.filter p).length := by
   intro l
   induction l with
   | nil => intro _; simp
   | cons z m ih =>
    intro hh
    have hz := hh z (by simp)
    have hm := ih (fun x hx => hh x (by simp [hx]))
    cases hqz : q z
    ·rw [List.filter_cons_of_neg (by simp [hqz])]
     cases hpz : p z
     ·rw [List.filter_cons_of_neg (by simp [hpz])]; exact hm
     ·rw [List.filter_cons_of_pos hpz, List.length_cons]; omega
    ·rw [List.filter_cons_of_pos hqz, List.filter_cons_of_pos (hz hqz), List.length_cons, List.length_cons]
     omega
  have hl := hsub l (fun x hx => h x (by simp [hx]))
  rcases List.mem_cons.1 hy with rfl | hy
  ·rw [List.filter_cons_of_pos hp, List.filter_cons_of_neg (by simp [hq]), List.length_cons]
   omega
  ·have ih := filter_lessA (fun x hx => h x (by simp [hx])) hy hp hq
   have hx := h x (by simp)
   cases hqx : q x
   ·rw [List.filter_cons_of_neg (by simp [hqx])]
    cases hpx : p x
    ·rw [List.filter_cons_of_neg (by simp [hpx])]; exact ih
    ·rw [List.filter_cons_of_pos hpx, List.length_cons]; omega
   ·rw [List.filter_cons_of_pos hqx, List.filter_cons_of_pos (hx hqx), List.length_cons, List.length_cons]
    omega
theorem unl_set {m j : Nat} {listed : Array Bool} (hj : j < m) (hun : listed.getD j true = false) : unl m (listed.setIfInBounds j true) + 1 ≤ unl m listed := by
 unfold unl
 refine filter_lessA (y := j) (fun i _ hi => ?_) (List.mem_range.2 hj) (by simp [hun]) ?_
 ·by_cases e : j = i
  ·subst e
   rw [hun]
   rfl
  ·rw [getD_set_ne true e] at hi
   exact hi
 ·have h2 := (listed_lt hun).2
  simp [h2]
theorem unl_none {m : Nat} {listed : Array Bool} (h : unl m listed = 0) : ∀ i, i < m → listed.getD i true = true := by
 intro i hi
 unfold unl at h
 have h2 := List.length_eq_zero_iff.1 h
 rw [List.filter_eq_nil_iff] at h2
 have h3 := h2 i (List.mem_range.2 hi)
 simpa using h3
def canon (m n : Nat) : Array Bool := (List.replicate m true ++ List.replicate (n - m) false).toArray
theorem canon_of {m n : Nat} {listed : Array Bool} (hs : listed.size = n) (hm : m ≤ n) (h1 : ∀ i, i < m → listed.getD i true = true) (h2 : ∀ t, m ≤ t → t < n → listed.getD t true = false) : listed = canon m n := by
 have get : ∀ i, i < n → listed[i]? = some (decide (i < m)) := fun i hi => by
  have hi2 : i < listed.size := by omega
  rw [Array.getElem?_eq_getElem hi2]
  by_cases e : i < m
  ·have := h1 i e
   simp [hi2] at this
   simp [this, e]
  ·have := h2 i (by omega) hi
   simp [hi2] at this
   simp [this, e]
 apply Array.ext_getElem?
 intro i
 by_cases hi : i < n
 ·rw [get i hi]
  unfold canon
  rw [List.getElem?_toArray]
  by_cases e : i < m
  ·rw [List.getElem?_append_left (by simpa using e), List.getElem?_replicate, if_pos e]
   simp [e]
  ·rw [List.getElem?_append_right (by simp; omega), List.length_replicate, List.getElem?_replicate, if_pos (by omega)]
   simp [e]
 ·have e1 : listed[i]? = none := Array.getElem?_eq_none (by omega)
  have e2 : (canon m n)[i]? = none := by
   unfold canon
   rw [List.getElem?_toArray]
   exact List.getElem?_eq_none (by simp; omega)
  rw [e1, e2]
def sinkP (md : Region.Mode) (ops : Array Oper) (n p : Nat) : Bool :=
 (List.range n).all fun i => decide (i < p) || (List.range (n + 1)).any fun j => decide (i < j) && Region.waitsFor md ops j i
theorem tail_waitsP {md : Region.Mode} {ops : Array Oper} {n p : Nat} {listed : Array Bool} (hs : sinkP md ops n p = true) (hc : Region.chainB md ops n = true) (hn : n < ops.size) (inv : HeadInv md ops n listed) (hp : ∀ i, i < p → listed.getD i true = true) :
  ∀ (d i : Nat), n - i = d → i < n → listed.getD i true = false → ∀ t, n ≤ t → t ∉ Region.ready md ops listed := by
 intro d
 induction d using Nat.strongRecOn with
 | _ d ih =>
  intro i hd hi hun t ht hr
  obtain ⟨_, ot, hot, hall⟩ := mem_ready.1 hr
  have htlt : t < ops.size := (Array.getElem?_eq_some_iff.1 hot).1
  by_cases htn : t = n
  ·subst htn
   have h0 := List.all_eq_true.1 hs i (List.mem_range.2 hi)
   simp only [Bool.or_eq_true, decide_eq_true_eq] at h0
   rcases h0 with h0 | h1
   ·rw [hp i h0] at hun; cases hun
   obtain ⟨j, hj, hj2⟩ := List.any_eq_true.1 h1
   simp only [Bool.and_eq_true, decide_eq_true_eq] at hj2
   obtain ⟨oj, hoj, e, he, hb, hon⟩ := Region.waitsFor_spec hj2.2
   have hjle : j ≤ t := by have := List.mem_range.1 hj; omega
   by_cases hjt : j = t
   ·subst hjt
    have : oj = ot := Option.some.inj (hoj.symm.trans hot)
    subst this
    have h2 := hall e he hb
    rw [hon, getD_both hun] at h2
    cases h2
   ·cases hl : listed.getD j false with
    | true =>
     have h2 := inv.closed j oj hoj hl e he hb
     rw [hon, getD_both hun] at h2
     cases h2
    | false =>
     have hjs : j < listed.size := by rw [inv.size]; omega
     exact ih (t - j) (by omega) j rfl (by omega) (getD_in hjs hl) t (Nat.le_refl _) hr
  ·have h1 := List.all_eq_true.1 hc t (List.mem_range.2 htlt)
   simp only [Bool.or_eq_true, decide_eq_true_eq] at h1
   rcases h1 with h1 | h1
   ·omega
   ·obtain ⟨o', ho', e, he, hb, hon⟩ := Region.waitsFor_spec h1
    have : o' = ot := Option.some.inj (ho'.symm.trans hot)
    subst this
    have h2 := hall e he hb
    rw [hon, getD_both (inv.tail (t - 1) (by omega) (by omega))] at h2
    cases h2
theorem wpAny_assert {l : List Oper} {m p : Nat} {w0 : World} {a0 : Act} {OK : Nat → Stays}
  (hlow : lowB .any l m = true) (hsk : sinkP .any l.toArray m p = true) (hch : Region.chainB .any l.toArray m = true) (hn : m < l.length) (hS : ownSlots a0.tmps.size (l.take m) = true)
  (hstep : ∀ i o, i < m → l[i]? = some o → ∀ vs W, Below w0.heap.size w0 W → (∀ e ∈ o.after, Region.binds .any e = true → (OK e.on).p (vs e.on) W) →
   Region.wanted o (yielded l.toArray (frameV (l.take m) 0 vs a0).tmps) = true ∧ o.wp P (frameV (l.take m) 0 vs a0) W (fun a' W' => ∃ v, a' = (frameV (l.take m) 0 vs a0).put o.dst v ∧ (OK i).p v W' ∧ Below W.heap.size W W') Q)
  (htail : ∀ vs W, Below w0.heap.size w0 W → (∀ j, j < m → (OK j).p (vs j) W) → wpList P l.toArray Q (l.drop m) (frameV (l.take m) 0 vs a0) W)
  (hB : tailB .any l.toArray (l.length - m) m (canon m l.length) = true) :
  ∀ (fuel : Nat) (listed : Array Bool) (vs : Nat → Value) (W : World), unl m listed + (l.length - m) ≤ fuel → HeadInv .any l.toArray m listed → (∀ i, i < p → listed.getD i true = true) → Below w0.heap.size w0 W →
   (∀ j, j < m → listed.getD j false = true → (OK j).p (vs j) W) → wpAny P .any l.toArray Q fuel listed (frameV (l.take m) 0 vs a0) W := by
 intro fuel
 induction fuel with
 | zero => intro listed vs W hf; omega
 | succ fuel ih =>
  intro listed vs W hf inv hpre hW hok
  have hsz : l.toArray.size = l.length := by simp
  by_cases hall : unl m listed = 0
  ·have hdone := unl_none hall
   have hc : listed = canon m l.length := canon_of (by rw [inv.size, hsz]) (by omega) hdone (fun t h1 h2 => inv.tail t h1 (by rw [hsz]; exact h2))
   have hv : ∀ j, j < m → (OK j).p (vs j) W := fun j hj => hok j hj (by
    have h1 := hdone j hj
    have h2 : j < listed.size := by rw [inv.size, hsz]; omega
    simp [h2] at h1 ⊢
    exact h1)
   have ht := htail vs W hW hv
   have := wpAny_of_tail_more (P := P) (Q := Q) (md := .any) (ops := l.toArray) (l.drop m) (fuel + 1 - (l.length - m)) m listed _ W (fun j => by simp [List.getElem?_drop]) (by rw [List.length_drop, hc]; exact hB) ht
   rw [List.length_drop, show l.length - m + (fuel + 1 - (l.length - m)) = fuel + 1 from by omega] at this
   exact this
  ·refine ⟨fun h0 => ?_, fun j hj => ?_⟩
   ·-- the first one that has not come up is ready
    exfalso
    have hex : ∃ i, i < m ∧ listed.getD i true = false := by
     apply Classical.byContradiction
     intro hno
     apply hall
     unfold unl
     rw [List.length_eq_zero_iff, List.filter_eq_nil_iff]
     intro i hi
     have := List.mem_range.1 hi
     cases hg : listed.getD i true
     ·exact (hno ⟨i, this, hg⟩).elim
     ·simp
    obtain ⟨i, ⟨hi, hun⟩, hmin⟩ := exists_least (p := fun i => i < m ∧ listed.getD i true = false) hex
    have hil : i < l.length := by omega
    have hlw := List.all_eq_true.1 hlow i (List.mem_range.2 hi)
    have hri : i ∈ Region.ready .any l.toArray listed := by
     refine mem_ready.2 ⟨hun, l[i], by simp [hil], fun e he hb => ?_⟩
     have hlo : l[i]? = some l[i] := List.getElem?_eq_getElem hil
     rw [hlo] at hlw
     dsimp only at hlw
     have h1 := Array.all_eq_true_iff_forall_mem.1 hlw e he
     simp only [Bool.or_eq_true, Bool.not_eq_true', decide_eq_true_eq] at h1
     rcases h1 with h1 | h1
     ·rw [hb] at h1; cases h1
     ·cases hg : listed.getD e.on true
      ·have := hmin e.on ⟨by omega, hg⟩
       omega
      ·have h2 : e.on < listed.size := by rw [inv.size, hsz]; omega
       simp [h2] at hg ⊢
       exact hg
    rw [h0] at hri
    cases hri
   ·obtain ⟨hun, o, ho, hdeps⟩ := mem_ready.1 hj
    by_cases hjm : j < m
    ·have hlo : l[j]? = some o := by simpa using ho
     have hlw := List.all_eq_true.1 hlow j (List.mem_range.2 hjm)
     rw [hlo] at hlw
     dsimp only at hlw
     obtain ⟨hwant, hwp⟩ := hstep j o hjm hlo vs W hW (fun e he hb => by
      have h1 := Array.all_eq_true_iff_forall_mem.1 hlw e he
      simp only [Bool.or_eq_true, Bool.not_eq_true', decide_eq_true_eq] at h1
      rcases h1 with h1 | h1
      ·rw [hb] at h1; cases h1
      ·exact hok e.on (by omega) (hdeps e he hb))
     unfold wpOp
     simp only [ho]
     rw [if_pos hwant]
     refine .inl (Oper.wp_mono (fun a' W' h => ?_) hwp)
     obtain ⟨v, rfl, hv, hb⟩ := h
     have hfr := frameV_put (v := v) (l.take m) 0 j a0.tmps.size vs a0 o hS (by rw [List.getElem?_take]; rw [if_pos hjm]; exact hlo)
     rw [Nat.zero_add] at hfr
     rw [hfr]
     refine ih _ _ _ (by have := unl_set hjm hun; omega) (inv.set hj hjm) (fun k hk => by
      by_cases e : j = k
      ·subst e; rw [hpre j hk] at hun; cases hun
      ·rw [getD_set_ne true e]; exact hpre k hk) (bthen hW hb) (fun k hk hl => ?_)
     by_cases e : k = j
     ·subst e
      show (OK k).p (updV vs k v k) W'
      rw [show updV vs k v k = v from if_pos rfl]
      exact hv
     ·show (OK k).p (updV vs j v k) W'
      rw [show updV vs j v k = vs k from if_neg e]
      refine (OK k).mono _ _ _ (hok k hk ?_) hb
      rw [getD_set_ne false (Ne.symm e)] at hl
      exact hl
    ·obtain ⟨i, hi, hiun⟩ : ∃ i, i < m ∧ listed.getD i true = false := by
      apply Classical.byContradiction
      intro hno
      apply hall
      unfold unl
      rw [List.length_eq_zero_iff, List.filter_eq_nil_iff]
      intro i hi
      have := List.mem_range.1 hi
      cases hg : listed.getD i true
      ·exact (hno ⟨i, this, hg⟩).elim
      ·simp
     exact absurd hj (tail_waitsP hsk hch (by rw [hsz]; exact hn) inv hpre _ i rfl hi hiun j (by omega))
def Stays.any : Stays := ⟨fun _ _ => True, fun _ _ _ _ _ => trivial⟩
def Stays.val (x : Value) : Stays := ⟨fun v _ => v = x, fun _ _ _ h _ => h⟩
def Stays.ptr (x : Value) : Stays := ⟨fun v W => ∃ b o, v = .pointer (some ⟨b, o, none⟩) ∧ W.cell? ⟨b, o, none⟩ = some x, fun _ _ _ ⟨b, o, e, h⟩ hb => ⟨b, o, e, ((bcell hb).1 _ _ (cell_lt h)).trans h⟩⟩
def depsA (OK : Nat → Stays) (vs : Nat → Value) (W : World) : List Edge → Prop
 | [] => True
 | e :: r => (Region.binds .any e = true → (OK e.on).p (vs e.on) W) ∧ depsA OK vs W r
theorem depsA_of {OK : Nat → Stays} {vs : Nat → Value} {W : World} : ∀ (l : List Edge), (∀ e ∈ l, Region.binds .any e = true → (OK e.on).p (vs e.on) W) → depsA OK vs W l
 | [], _ => trivial
 | e :: r, h => ⟨h e (by simp), depsA_of r fun x hx => h x (by simp [hx])⟩
def allA (OK : Nat → Stays) (vs : Nat → Value) (W : World) : Nat → Nat → Prop
 | _, 0 => True
 | k, c + 1 => (OK k).p (vs k) W ∧ allA OK vs W (k + 1) c
theorem allA_of {OK : Nat → Stays} {vs : Nat → Value} {W : World} : ∀ (c k : Nat), (∀ j, k ≤ j → j < k + c → (OK j).p (vs j) W) → allA OK vs W k c
 | 0, _, _ => trivial
 | c + 1, k, h => ⟨h k (Nat.le_refl _) (by omega), allA_of c (k + 1) fun j h1 h2 => h j (by omega) (by omega)⟩
def stepsA (P : Program) (Q : Exit → Act → World → Prop) (w0 : World) (OK : Nat → Stays) (fr : (Nat → Value) → Act) : List Oper → Nat → Prop
 | [], _ => True
 | o :: r, k => (∀ vs W, Below w0.heap.size w0 W → depsA OK vs W o.after.toList → o.wp P (fr vs) W (fun a' W' => ∃ v, a' = (fr vs).put o.dst v ∧ (OK k).p v W' ∧ Below W.heap.size W W') Q) ∧ stepsA P Q w0 OK fr r (k + 1)
theorem stepsA_at {P : Program} {Q : Exit → Act → World → Prop} {w0 : World} {OK : Nat → Stays} {fr : (Nat → Value) → Act} : ∀ (l : List Oper) (k i : Nat) (o : Oper), stepsA P Q w0 OK fr l k → l[i]? = some o →
  ∀ vs W, Below w0.heap.size w0 W → depsA OK vs W o.after.toList → o.wp P (fr vs) W (fun a' W' => ∃ v, a' = (fr vs).put o.dst v ∧ (OK (k + i)).p v W' ∧ Below W.heap.size W W') Q
 | [], _, _, _, _, h => by simp at h
 | p :: l, k, 0, o, hs, h => by
  simp only [List.getElem?_cons_zero, Option.some.injEq] at h
  subst h
  exact hs.1
 | p :: l, k, i + 1, o, hs, h => by
  have := stepsA_at l (k + 1) i o hs.2 (by simpa using h)
  rw [show k + 1 + i = k + (i + 1) from by omega] at this
  exact this
theorem put_self (a : Act) {d : Tmp} (h : d < a.tmps.size) : a.put (some d) (a.tmps.getD d undef) = a := by
 unfold Act.put
 have e : a.tmps.setIfInBounds d (a.tmps.getD d undef) = a.tmps := by
  apply Array.ext_getElem?
  intro i
  rw [Array.getElem?_setIfInBounds]
  by_cases hi : d = i
  ·subst hi
   rw [if_pos rfl, if_pos h, Array.getElem?_eq_getElem h]
   simp [h]
  ·rw [if_neg hi]
 simp only [e]
theorem frame_self : ∀ (l : List Oper) (k : Nat) (a : Act), ownSlots a.tmps.size l = true → ∃ vs, frameV l k vs a = a
 | [], _, _, _ => ⟨fun _ => undef, rfl⟩
 | o :: l, k, a, h => by
  simp only [ownSlots, Bool.and_eq_true] at h
  cases hd : o.dst with
  | none => rw [hd] at h; simp at h
  | some d =>
   rw [hd] at h
   simp only [Bool.and_eq_true, decide_eq_true_eq] at h
   obtain ⟨vs, hvs⟩ := frame_self l (k + 1) a h.2
   refine ⟨updV vs k (a.tmps.getD d undef), ?_⟩
   show frameV l (k + 1) (updV vs k (a.tmps.getD d undef)) (a.put o.dst (updV vs k (a.tmps.getD d undef) k)) = a
   rw [show updV vs k (a.tmps.getD d undef) k = a.tmps.getD d undef from if_pos rfl, hd, put_self a h.1.1, frameV_upd l (k + 1) k vs a (by omega), hvs]
def lookV : List Oper → Nat → (Nat → Value) → Act → Tmp → Value
 | [], _, _, a, t => a.tmps.getD t undef
 | o :: r, k, vs, a, t => if o.dst = some t then vs k else lookV r (k + 1) vs a t
theorem lookV_put {a : Act} {d : Option Tmp} {v : Value} : ∀ (l : List Oper) (k : Nat) (vs : Nat → Value) (t : Tmp), d ≠ some t → lookV l k vs (a.put d v) t = lookV l k vs a t
 | [], _, _, t, h => by
  show (a.put d v).tmps.getD t undef = a.tmps.getD t undef
  unfold Act.put
  split
  ·rename_i d' 
   have : d' ≠ t := fun e => h (by rw [e])
   simp [Array.getD_eq_getD_getElem?, this]
  ·rfl
 | o :: l, k, vs, t, h => by
  show (if o.dst = some t then vs k else lookV l (k + 1) vs (a.put d v) t) = if o.dst = some t then vs k else lookV l (k + 1) vs a t
  rw [lookV_put l (k + 1) vs t h]
theorem lookV_not {a : Act} : ∀ (l : List Oper) (k : Nat) (vs : Nat → Value) (t : Tmp), l.all (fun p => p.dst != some t) = true → lookV l k vs a t = a.tmps.getD t undef
 | [], _, _, _, _ => rfl
 | o :: l, k, vs, t, h => by
  simp only [List.all_cons, Bool.and_eq_true, bne_iff_ne, ne_eq] at h
  show (if o.dst = some t then vs k else lookV l (k + 1) vs a t) = _
  rw [if_neg h.1, lookV_not l (k + 1) vs t h.2]
theorem frameV_look : ∀ (l : List Oper) (k : Nat) (vs : Nat → Value) (a : Act) (t : Tmp), ownSlots a.tmps.size l = true → (frameV l k vs a).tmps.getD t undef = lookV l k vs a t
 | [], _, _, _, _, _ => rfl
 | o :: l, k, vs, a, t, h => by
  simp only [ownSlots, Bool.and_eq_true] at h
  show (frameV l (k + 1) vs (a.put o.dst (vs k))).tmps.getD t undef = if o.dst = some t then vs k else lookV l (k + 1) vs a t
  rw [frameV_look l (k + 1) vs _ t (by rw [put_size]; exact h.2)]
  cases hd : o.dst with
  | none => rw [hd] at h; simp at h
  | some d =>
   rw [hd] at h
   simp only [Bool.and_eq_true, decide_eq_true_eq] at h
   by_cases e : d = t
   ·subst e
    rw [if_pos rfl, lookV_not l (k + 1) vs d h.1.2]
    unfold Act.put
    simp [Array.getD_eq_getD_getElem?, h.1.1]
   ·rw [if_neg (fun e2 => e (Option.some.inj e2)), lookV_put l (k + 1) vs t (fun e2 => e (Option.some.inj e2))]
theorem frameV_defers : ∀ (l : List Oper) (k : Nat) (vs : Nat → Value) (a : Act), (frameV l k vs a).defers = a.defers
 | [], _, _, _ => rfl
 | o :: l, k, vs, a => by
  show (frameV l (k + 1) vs (a.put o.dst (vs k))).defers = a.defers
  rw [frameV_defers l (k + 1) vs]
  unfold Act.put
  split <;> rfl
theorem wp_region_assert {id : Nat} {a : Act} {w : World} {l : List Oper} (m : Nat) (w0 : World) (OK : Nat → Stays) (hm : P.follows .mixedOrders = true)
  (hB : (lowB .any l m && sinkP .any l.toArray m 0 && Region.chainB .any l.toArray m && decide (m < l.length) && (l.take m).all (fun o => o.guard.isNone) && tailB .any l.toArray (l.length - m) m (canon m l.length)) = true)
  (hS : ownSlots a.tmps.size (l.take m) = true) (hw : Below w0.heap.size w0 w)
  (hstep : ∀ fr : (Nat → Value) → Act, Hid (∀ vs t, (fr vs).tmps[t]?.getD undef = lookV (l.take m) 0 vs a t) → Hid (∀ vs, (fr vs).defers = a.defers) → stepsA P Q w0 OK fr (l.take m) 0)
  (htail : ∀ vs W, Below w0.heap.size w0 W → allA OK vs W 0 m → wpList P l.toArray Q (l.drop m) (frameV (l.take m) 0 vs a) W) : (Code.region id l.toArray true).wp P Q a w := by
 simp only [Bool.and_eq_true, decide_eq_true_eq] at hB
 obtain ⟨⟨⟨⟨⟨hlow, hsk⟩, hch⟩, hn⟩, hgd⟩, ht⟩ := hB
 obtain ⟨vs, hvs⟩ := frame_self (l.take m) 0 a hS
 have inv0 : HeadInv .any l.toArray m (Array.replicate l.length false) :=
  ⟨by simp, fun j oj _ hl => (by rw [getD_replicate_false] at hl; cases hl), fun t _ ht => getD_in (by simpa using ht) (getD_replicate_false _ _)⟩
 refine wp_region_any hm ?_
 have hst := hstep (fun vs => frameV (l.take m) 0 vs a) (Lib.hid (fun vs t => Eq.trans (Array.getD_eq_getD_getElem? ..).symm (frameV_look (l.take m) 0 vs a t hS))) (Lib.hid (fun vs => frameV_defers _ _ _ _))
 have h9 := wpAny_assert (P := P) (Q := Q) (w0 := w0) (a0 := a) (OK := OK) hlow hsk hch hn hS (fun i o hi ho vs W hW hd => ?_) (fun vs W hW hv => htail vs W hW (allA_of m 0 fun j _ hj => hv j (by omega))) ht
  l.length (Array.replicate l.length false) vs { w with drawn := w.drawn + 1 } (by
   have : unl m (Array.replicate l.length false) ≤ m := by
    unfold unl
    exact Nat.le_trans (List.length_filter_le _ _) (by simp)
   omega) inv0 (fun i hi => by omega) hw.drew (fun j _ hl => by rw [getD_replicate_false] at hl; cases hl)
 ·rw [hvs] at h9
  simpa using h9
 ·have hlo : (l.take m)[i]? = some o := by rw [List.getElem?_take, if_pos hi]; exact ho
  have hg : o.guard = none := by
   have := List.all_eq_true.1 hgd o (List.mem_of_getElem? hlo)
   simpa using this
  have h8 := stepsA_at (l.take m) 0 i o hst hlo vs W hW (depsA_of _ fun e he hb => hd e (by simpa using he) hb)
  rw [Nat.zero_add] at h8
  exact ⟨by simp [Region.wanted, hg], h8⟩
theorem wp_region_assert1 {id : Nat} {a : Act} {w : World} {l : List Oper} (m : Nat) (w0 : World) (OK : Nat → Stays) (v0 : Value) (hm : P.follows .mixedOrders = true)
  (hB : (lowB .any l m && sinkP .any l.toArray m 1 && Region.chainB .any l.toArray m && decide (m < l.length) && decide (0 < m) && (l.take m).all (fun o => o.guard.isNone) && tailB .any l.toArray (l.length - m) m (canon m l.length)
   && Region.noSelect l.toArray && Region.free .any l.toArray (Array.replicate l.length false) 0 && (Region.ready .any l.toArray (Array.replicate l.length false)).contains 0) = true)
  (hS : ownSlots a.tmps.size (l.take m) = true) (hw : Below w0.heap.size w0 w)
  (hQ : ∀ c a o w, l[0]? = some o → Q (.panic c) (a.put o.dst v0) w → Q (.panic c) a w)
  (hy : ∀ o, l[0]? = some o → ∀ w, (execOp a.eval o).run P w = .ok (.value v0) w) (h0 : ∀ W, (OK 0).p v0 W)
  (hstep : ∀ fr : (Nat → Value) → Act, Hid (∀ vs t, (fr vs).tmps[t]?.getD undef = lookV (l.take m) 0 vs a t) → Hid (∀ vs, (fr vs).defers = a.defers) → stepsA P Q w0 OK fr (l.take m) 0)
  (htail : ∀ vs W, Below w0.heap.size w0 W → allA OK vs W 0 m → wpList P l.toArray Q (l.drop m) (frameV (l.take m) 0 vs a) W) : (Code.region id l.toArray true).wp P Q a w := by
 simp only [Bool.and_eq_true, decide_eq_true_eq] at hB
 obtain ⟨⟨⟨⟨⟨⟨⟨⟨⟨hlow, hsk⟩, hch⟩, hn⟩, hm0⟩, hgd⟩, ht⟩, hsel⟩, hfree⟩, hrd⟩ := hB
 obtain ⟨vs, hvs⟩ := frame_self (l.take m) 0 a hS
 obtain ⟨o0, ho0⟩ : ∃ o, l[0]? = some o := ⟨l[0], by simp⟩
 have ho0a : l.toArray[0]? = some o0 := by simpa using ho0
 have hlo0 : (l.take m)[0]? = some o0 := by rw [List.getElem?_take, if_pos hm0]; exact ho0
 have hg0 : o0.guard = none := by
  have := List.all_eq_true.1 hgd o0 (List.mem_of_getElem? hlo0)
  simpa using this
 have inv0 : HeadInv .any l.toArray m (Array.replicate l.length false) :=
  ⟨by simp, fun j oj _ hl => (by rw [getD_replicate_false] at hl; cases hl), fun t _ ht => getD_in (by simpa using ht) (getD_replicate_false _ _)⟩
 refine wp_region_any hm ?_
 have hst := hstep (fun vs => frameV (l.take m) 0 vs a) (Lib.hid (fun vs t => Eq.trans (Array.getD_eq_getD_getElem? ..).symm (frameV_look (l.take m) 0 vs a t hS))) (Lib.hid (fun vs => frameV_defers _ _ _ _))
 have hu0 : unl m (Array.replicate l.length false) ≤ m := by
  unfold unl
  exact Nat.le_trans (List.length_filter_le _ _) (by simp)
 have hr0 : 0 ∈ Region.ready .any l.toArray (Array.replicate l.length false) := by simpa using hrd
 have hun0 := (mem_ready.1 hr0).1
 have hu1 := unl_set hm0 hun0
 have hfr := frameV_put (v := v0) (l.take m) 0 0 a.tmps.size vs a o0 hS hlo0
 have h9 := wpAny_assert (P := P) (Q := Q) (w0 := w0) (a0 := a) (OK := OK) (p := 1) hlow hsk hch hn hS (fun i o hi ho vs W hW hd => ?_) (fun vs W hW hv => htail vs W hW (allA_of m 0 fun j _ hj => hv j (by omega))) ht
  (l.length - 1) ((Array.replicate l.length false).setIfInBounds 0 true) (updV vs 0 v0) { w with drawn := w.drawn + 1 } (by omega) (inv0.set hr0 hm0)
  (fun i hi => by
   obtain rfl : i = 0 := by omega
   simp) hw.drew (fun j hj hl => by
   by_cases e : j = 0
   ·subst e
    show (OK 0).p (updV vs 0 v0 0) _
    rw [show updV vs 0 v0 0 = v0 from if_pos rfl]
    exact h0 _
   ·rw [getD_set_ne false (Ne.symm e), getD_replicate_false] at hl
    cases hl)
 ·rw [Nat.zero_add] at hfr
  rw [← hfr, hvs] at h9
  have h10 : wpAny P .any l.toArray Q ((l.length - 1) + 1) (Array.replicate l.length false) a { w with drawn := w.drawn + 1 } :=
   wpAny_take ho0a hsel (by simpa using hfree) (by simpa using hrd) (fun c a w h => hQ c a o0 w ho0 h) (.inl ⟨by simp [Region.wanted, hg0], hy o0 ho0⟩) h9
  rw [show (l.length - 1) + 1 = l.length from by omega] at h10
  simpa using h10
 ·have hlo : (l.take m)[i]? = some o := by rw [List.getElem?_take, if_pos hi]; exact ho
  have hg : o.guard = none := by
   have := List.all_eq_true.1 hgd o (List.mem_of_getElem? hlo)
   simpa using this
  have h8 := stepsA_at (l.take m) 0 i o hst hlo vs W hW (depsA_of _ fun e he hb => hd e (by simpa using he) hb)
  rw [Nat.zero_add] at h8
  exact ⟨by simp [Region.wanted, hg], h8⟩
theorem panic_put {P : Program} {fn : Func} {R : Ending → World → Prop} {c : List PanicEntry} {a : Act} {d : Option Tmp} {v : Value} {w : World} (h : bodyPost P fn R (.panic c) (a.put d v) w) : bodyPost P fn R (.panic c) a w := by
 refine ⟨?_, h.2⟩
 have h1 := h.1
 unfold Act.put at h1
 split at h1 <;> exact h1
theorem step_val {o : Oper} {a : Act} {W W' : World} {K : Act → World → Prop} (v : Value) (h : (execOp a.eval o).run P W = .ok (.value v) W') (hk : K (a.put o.dst v) W') : o.wp P a W K Q := by
 unfold Oper.wp
 rw [h]
 exact hk
theorem sv {o : Oper} {a : Act} {W : World} {K : Act → World → Prop} (v : Value) (h : (execOp a.eval o).run P W = .ok (.value v) W := by simp only [execOp]; go_simp) (hk : K (a.put o.dst v) W := by exact ⟨_, rfl, rfl, Below.refl _ _⟩) : o.wp P a W K Q := step_val v h hk
theorem step_call {o : Oper} {a : Act} {W W' : World} {K : Act → World → Prop} {R : Value → World → Prop} {f : FuncId} {args : Array Value} (h : (execOp a.eval o).run P W = .ok (.enter f args) W') (hc : Calls P f args W' fun e w' => ∃ v, e = .returned v ∧ R v w')
  (hk : ∀ v w', R v w' → K (a.put o.dst v) w') : o.wp P a W K Q := by
 unfold Oper.wp
 rw [h]
 exact hc.mono fun e w' ⟨v, he, hr⟩ => by subst he; exact hk v w' hr
end
end Go.Proofs.YtlppdgaogdpajaaGreatDoor
namespace Go.Proofs.YtlppdgaogdpajaaGreatDoor
open Go.RowKit Go.Shelf
section
variable {P : Program} {ops : Array Oper} {md : Region.Mode} {Q : Exit → Act → World → Prop} {C : World → Prop} {D : Value → World → Prop} {T : Nat → Array Bool → Nat → Act → World → Prop} {lp n : Nat}
theorem wpOpIn_of_yields {j : Nat} {o : Oper} {v : Value} {a : Act} {W : World} {K : Act → World → Prop} (hd : ∀ o ∈ ops, ∀ c, o.op ≠ .defer c) (ho : ops[j]? = some o) (hw : C W) (hy : YieldsIn P ops C o v a)
  (h : ∀ W', C W' → K (a.put o.dst v) W') : wpOpIn (Fence.wide.inRound lp) n P ops Q j K a W :=
 wpOpIn_of_qOp_round (C := C) (K := fun a' => a' = a.put o.dst v) hd hw (fun a' w' hw' e => by subst e; exact h w' hw') (hy.qOp ho rfl)
theorem wpOpIn_of_makes {j : Nat} {o : Oper} {a : Act} {W : World} {K : Act → World → Prop} (hd : ∀ o ∈ ops, ∀ c, o.op ≠ .defer c) (ho : ops[j]? = some o) (hw : C W) (hy : MakesIn P ops C D o a)
  (h : ∀ u W', D u W' → K (a.put o.dst u) W') : wpOpIn (Fence.wide.inRound lp) n P ops Q j K a W := by
 obtain ⟨u, W', hr, hdd⟩ := hy.2 W hw
 unfold wpOpIn
 simp only [ho]
 rw [if_pos hy.1]
 unfold Oper.wpIn
 refine ⟨fun _ _ => trivial, ?_⟩
 rw [show (Fence.wide.inRound lp).round = some lp from rfl, Oper.semAt_some lp _ _ (hd o (Array.mem_of_getElem? ho))]
 rcases hr with hr | ⟨hr, rfl⟩
 ·rw [hr]
  exact h u W' hdd
 ·rw [hr]
  exact h undef W' hdd
theorem wpAnyIn_of_M {m : Nat} (hd : ∀ o ∈ ops, ∀ c, o.op ≠ .defer c) (hT : ∀ fuel listed j a W, T fuel listed j a W → wpOpIn (Fence.wide.inRound lp) n P ops Q j (wpAnyIn (Fence.wide.inRound lp) n P md ops Q fuel (listed.setIfInBounds j true)) a W) :
  ∀ (fuel : Nat) (listed : Array Bool) (mv : Option Value) (a : Act) (W : World), madeCls C D mv W → wpAnyM P md ops C D Q T m fuel listed mv a → wpAnyIn (Fence.wide.inRound lp) n P md ops Q fuel listed a W
 | 0, _, _, _, _, hw, h => ⟨h.1, h.2 _ hw⟩
 | fuel + 1, _, mv, a, W, hw, h => ⟨fun h0 => h.1 h0 _ hw, fun j hj => by
   obtain ⟨o, ho, h1 | h1 | ⟨_, h1⟩⟩ := h.2 j hj
   ·obtain ⟨_, v, hy, hk⟩ := h1
    exact wpOpIn_of_yields hd ho hw hy fun W' hW' => wpAnyIn_of_M hd hT fuel _ _ _ _ hW' hk
   ·obtain ⟨_, rfl, hmk, hk⟩ := h1
    exact wpOpIn_of_makes hd ho hw hmk fun u W' hW' => wpAnyIn_of_M hd hT fuel _ (some u) _ _ hW' (hk u)
   ·exact hT _ _ _ _ _ (h1 _ hw)⟩
theorem wpAnyIn_of_tail {F : Fence} : ∀ (l : List Oper) (k : Nat) (listed : Array Bool) (a : Act) (w : World), (∀ j, l[j]? = ops[k + j]?) →
  tailB md ops l.length k listed = true → wpListIn F n P ops Q l a w → wpAnyIn F n P md ops Q l.length listed a w
 | [], _, _, _, _, _, hB, h => ⟨by simpa [tailB] using hB, h⟩
 | o :: l, k, listed, a, w, hl, hB, h => by
  have h0 : ops[k]? = some o := by simpa using (hl 0).symm
  simp only [List.length_cons, tailB, Bool.and_eq_true, decide_eq_true_eq] at hB
  refine ⟨fun h1 => (by rw [hB.1] at h1; cases h1), fun i hi => ?_⟩
  rw [hB.1] at hi
  obtain rfl : i = k := by simpa using hi
  have hw : wpOpIn F n P ops Q i (wpListIn F n P ops Q l) a w := by unfold wpOpIn; simp only [h0]; exact h
  exact wpOpIn_mono (fun a' w' h' => wpAnyIn_of_tail l (i + 1) _ a' w' (fun j => by have := hl (j + 1); simpa [Nat.add_assoc, Nat.add_comm 1 j] using this) hB.2 h') hw
theorem tail_listIn {F : Fence} {m : Nat} {t : List Oper} (ht : t ≠ []) (htl : ∀ j, t[j]? = ops[m + 1 + j]?) {a : Act} {W : World} {listed : Array Bool} (hB : tailB md ops t.length (m + 1) listed = true) (h : wpListIn F n P ops Q t a W) :
  wpOpIn F n P ops Q (m + 1) (wpAnyIn F n P md ops Q (t.length - 1) (listed.setIfInBounds (m + 1) true)) a W := by
 obtain ⟨o, t', rfl⟩ := List.exists_cons_of_ne_nil ht
 have h0 : ops[m + 1]? = some o := by simpa using (htl 0).symm
 simp only [List.length_cons, tailB, Bool.and_eq_true, decide_eq_true_eq] at hB
 have hw : wpOpIn F n P ops Q (m + 1) (wpListIn F n P ops Q t') a W := by unfold wpOpIn; simp only [h0]; exact h
 exact wpOpIn_mono (fun a' w' h' => wpAnyIn_of_tail t' (m + 1 + 1) _ a' w' (fun i => by
   have := htl (i + 1)
   rw [List.getElem?_cons_succ] at this
   rw [this]
   congr 1
   omega) hB.2 h') hw
theorem wpIn_region_maker {id : Nat} {a : Act} {w : World} {l : List Oper} (m : Nat) (w0 : World) (D : Value → World → Prop) (hdf : l.all plainOp = true) (hm : P.follows .mixedOrders = true)
  (hB : (Region.noSelect l.toArray && decide (m + 1 < l.length) && Region.sinkB .any l.toArray (m + 1) && Region.chainB .any l.toArray (m + 1) && headM .any l.toArray (l.length - (m + 1)) m 0 (Array.replicate l.length false)) = true)
  (hS : ownSlots a.tmps.size (l.take m) = true) {om : Oper} (hom : l[m]? = some om) (hg : om.guard = none) (hw : Below w0.heap.size w0 w)
  (hD0 : ∀ u W, D u W → Below w0.heap.size w0 W) (hD : ∀ u W W', D u W → Below W.heap.size W W' → D u W') {e : Act}
  (hq : ∀ W1, Below w0.heap.size w0 W1 → wpQuiet P l.toArray (fun w' => ∃ x : Later W1, w' = x.1) (fun a' => a' = e) (l.take m) a)
  (hmk : ∀ W, Below w0.heap.size w0 W → ∃ u W', (execOp e.eval om).run P W = .ok (.value u) W' ∧ D u W')
  (h : ∀ u W, D u W → wpListIn (Fence.wide.inRound lp) n P l.toArray Q (l.drop (m + 1)) (e.put om.dst u) W) : (Code.region id l.toArray true).wpIn (Fence.wide.inRound lp) n P Q a w := by
 simp only [Bool.and_eq_true, decide_eq_true_eq] at hB
 obtain ⟨⟨⟨⟨hsel, hn⟩, hs⟩, hc⟩, hB⟩ := hB
 have htl : (l.take m).length = m := by simp; omega
 have hn' : m + 1 < l.toArray.size := by simpa using hn
 have hd : ∀ o ∈ l.toArray, ∀ c, o.op ≠ .defer c := fun o ho => plainOp_ne (List.all_eq_true.1 hdf o (by simpa using ho))
 have inv0 : HeadInv .any l.toArray (m + 1) (Array.replicate l.length false) :=
  ⟨by simp, fun j oj _ hl => (by rw [getD_replicate_false] at hl; cases hl), fun t _ ht => getD_in (by simpa using ht) (getD_replicate_false _ _)⟩
 refine wpIn_region_any hm (wpAnyIn_of_M (C := fun w' => ∃ x : Later w0, w' = x.1) (D := D) (m := m) (T := fun fuel listed j a W => wpOpIn (Fence.wide.inRound lp) n P l.toArray Q j (wpAnyIn (Fence.wide.inRound lp) n P .any l.toArray Q fuel (listed.setIfInBounds j true)) a W) hd (fun _ _ _ _ _ h => h) _ _ none _ _ ⟨⟨_, hw.drew⟩, rfl⟩ ?_)
 have := wpAnyM_lex (md := .any) (C := fun w' => ∃ x : Later w0, w' = x.1) (D := D) (Q := Q) (T := fun fuel listed j a W => wpOpIn (Fence.wide.inRound lp) n P l.toArray Q j (wpAnyIn (Fence.wide.inRound lp) n P .any l.toArray Q fuel (listed.setIfInBounds j true)) a W) hsel hs hc hn' (l.drop (m + 1)) (by simp; omega) (om := om) (by simpa using hom)
  (fun j => by simp [List.getElem?_drop]) (e := e) ⟨by simp [Region.wanted, hg], fun W ⟨x, hx⟩ => by obtain ⟨u, W', h1, h2⟩ := hmk W (hx ▸ x.2); exact ⟨u, W', .inl h1, h2⟩⟩
  (fun u W hW listed hl => tail_listIn (by simp; omega) (fun j => by simp [List.getElem?_drop]) hl (h u W hW)) (l.take m) 0 (Array.replicate l.length false) a
  (fun j o ho => by
   rw [List.getElem?_take] at ho
   split at ho
   ·simpa using ho
   ·cases ho) (by omega) inv0 (by rw [htl, List.length_drop]; exact hB)
  (fun mv => chain_made (G := fun W => Below w0.heap.size w0 W) (Below.refl _ _) hD0 hD _ _ (fun W1 hW1 => chain_of _ _ hS (hq W1 hW1)) mv)
 rw [htl, List.length_drop, show m + 1 + (l.length - (m + 1)) = l.length from by omega] at this
 simpa using this
end
end Go.Proofs.YtlppdgaogdpajaaGreatDoor
