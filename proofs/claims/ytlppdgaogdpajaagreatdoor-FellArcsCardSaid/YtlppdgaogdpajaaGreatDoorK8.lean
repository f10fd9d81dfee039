/- This text is a part of the proof: Tried, RegionSink. -/
import Derived.Test.YtlppdgaogdpajaaGreatDoorK7
import Derived.StillTail
set_option maxRecDepth 100000
set_option maxHeartbeats 4000000
namespace Go.Proofs.YtlppdgaogdpajaaGreatDoor
open Go.RowKit Go.Shelf
attribute [local go_sem] Oper.semAt_some
theorem catch_e (p : Nat) (E x0 : Int) (w : World) (c0 : w.cell? ⟨p, 0, none⟩ = some (.int .i64 x0)) (f0 : w.frozen? ⟨p, 0, none⟩ = false) :
  CallsD Tryz.prog 161 #[.pointer (some ⟨p, 0, none⟩)] (.panicking (givesUp E)) w fun e u' w' =>
   e = .returned (.tuple #[]) ∧ u' = .panicking [{ v := .iface 181 (.agg #[.int .i64 E]), recovered := true }] ∧ w'.cell? ⟨p, 0, none⟩ = some (.int .i64 E) ∧ Kept (fun k => k = p) w w' := by
 have z0 := cell_lt c0
 have hta : ∀ w, (Instr.typeAssert (.iface 181 (.agg #[.int .i64 E])) 20 181 true).run Tryz.prog w = .ok (.tuple #[.agg #[.int .i64 E], .bool true]) w := fun _ => by kernel_rfl
 refine callsD_of_wpS Tryz.func161 rfl fun c₀ cs hu => ?_
 simp only [Tryz.ntmps161, List.size_toArray, List.length_cons, List.length_nil, Nat.reduceAdd, Nat.reduceSub, Array.replicate_succ, Array.replicate_zero, List.push_toArray, List.append_toArray, List.nil_append, List.cons_append]
 apply wpS_seq
 apply wpS_region
 simp [wpOpsS, go_sem, recoverD, hu, Exit.thenS]
 refine wpS_of_wp ?_
 go_wp2
 exact ⟨rfl, _, rfl, _, results_none rfl _ _ _, rfl, rfl, by go_simp, ((Kept.refl (fun k => k = p) w).setCell (p := ⟨p, 0, none⟩) (.inl rfl) _).alloc _⟩
theorem catch_n (p : Nat) (w : World) :
  CallsD Tryz.prog 161 #[.pointer (some ⟨p, 0, none⟩)] .returning w fun e u' w' => e = .returned (.tuple #[]) ∧ u' = .returning ∧ w' = w := by
 refine callsD_of_wpS Tryz.func161 rfl fun c₀ cs hu => ?_
 simp only [Tryz.ntmps161, List.size_toArray, List.length_cons, List.length_nil, Nat.reduceAdd, Nat.reduceSub, Array.replicate_succ, Array.replicate_zero, List.push_toArray, List.append_toArray, List.nil_append, List.cons_append]
 apply wpS_seq
 apply wpS_region
 simp [wpOpsS, go_sem, recoverD, hu, Exit.thenS]
 refine wpS_of_wp ?_
 go_wp2
 cases c₀
 simp_all [bodyPostS, results, Tryz.results161]
theorem c_tried_ok (F : FuncId) (eg : Ent F) (cap : Array Value) (P : World → Prop) (O : Nat → Prop) (w : World)
  (hF : ∀ W, Below w.heap.size w W → Calls Tryz.prog F cap W fun e w' => e = .returned (.tuple #[]) ∧ Kept O W w' ∧ P w') (hO : ∀ k, O k → k < w.heap.size)
  (hP : ∀ W W', Kept (fun k => k = w.heap.size) W W' → P W → P W') :
  Calls Tryz.prog 87 #[.func (.func F) #[] cap] w fun e w' => e = .returned (.int .i64 0) ∧ P w' := by
 have hmf : ∀ (fn : Fn) (first cap : Array Value) (w : World), (Instr.makeFunc fn first cap).run Tryz.prog w = .ok (.func fn first cap) w := fun _ _ _ _ => rfl
 have HF := Lib.hid hF
 have HP := Lib.hid hP
 have HO := Lib.hid hO
 clear hF hP hO
 go_enter_defers Tryz.func87, Tryz.ntmps87
 go_upto_region 1 with (fail)
 go_name_world W1 hW1
 have hb : Below w.heap.size w W1 := by subst hW1; go_grown
 have s0 : W1.cell? ⟨w.heap.size, 0, none⟩ = some (.int .i64 0) := by subst hW1; go_simp
 have f0 : W1.frozen? ⟨w.heap.size, 0, none⟩ = false := by subst hW1; go_simp
 clear hW1
 go_wp2_with fail
 refine (HF.out W1 hb).mono ?_
 rintro e W2 ⟨rfl, hk, hp⟩
 have hno : ¬ O w.heap.size := fun h => Nat.lt_irrefl _ (HO.out _ h)
 have s1 := hk.cell hno s0
 have f1 : W2.frozen? ⟨w.heap.size, 0, none⟩ = false := (hk.frozen (cell_lt s0) hno).trans f0
 have HP2 := Lib.hid hp
 clear hk hp s0 f0 hb
 go_wp2
 refine leaves_cons (f := 161) (args := #[.pointer (some ⟨w.heap.size, 0, none⟩)]) (by simp) (by simp [go_sem]) ?_
 refine (catch_n _ _).mono ?_
 rintro e u' w'' ⟨rfl, rfl, rfl⟩
 have hc : (W2.setCell ⟨w.heap.size, 0, none⟩ (.int .i64 0)).cell? ⟨w.heap.size, 0, none⟩ = some (.int .i64 0) := by go_simp
 refine ⟨.int .i64 0, by simp [results, Tryz.results87, go_sem, hc], rfl, HP.out _ _ ((Kept.refl (fun k => k = w.heap.size) W2).setCell (p := ⟨w.heap.size, 0, none⟩) (.inl rfl) _) HP2.out⟩
theorem c_tried_err (F : FuncId) (eg : Ent F) (cap : Array Value) (P : World → Prop) (O : Nat → Prop) (E : Int) (w : World)
  (hF : ∀ W, Below w.heap.size w W → Calls Tryz.prog F cap W fun e w' => e = .panicked (givesUp E) ∧ Kept O W w' ∧ P w') (hO : ∀ k, O k → k < w.heap.size)
  (hP : ∀ W W', Kept (fun k => k = w.heap.size) W W' → P W → P W') :
  Calls Tryz.prog 87 #[.func (.func F) #[] cap] w fun e w' => e = .returned (.int .i64 E) ∧ P w' := by
 have hmf : ∀ (fn : Fn) (first cap : Array Value) (w : World), (Instr.makeFunc fn first cap).run Tryz.prog w = .ok (.func fn first cap) w := fun _ _ _ _ => rfl
 have HF := Lib.hid hF
 have HP := Lib.hid hP
 have HO := Lib.hid hO
 clear hF hP hO
 go_enter_defers Tryz.func87, Tryz.ntmps87
 go_upto_region 1 with (fail)
 go_name_world W1 hW1
 have hb : Below w.heap.size w W1 := by subst hW1; go_grown
 have s0 : W1.cell? ⟨w.heap.size, 0, none⟩ = some (.int .i64 0) := by subst hW1; go_simp
 have f0 : W1.frozen? ⟨w.heap.size, 0, none⟩ = false := by subst hW1; go_simp
 clear hW1
 go_wp2_with fail
 refine (HF.out W1 hb).mono ?_
 rintro e W2 ⟨rfl, hk, hp⟩
 have hno : ¬ O w.heap.size := fun h => Nat.lt_irrefl _ (HO.out _ h)
 have s1 := hk.cell hno s0
 have f1 : W2.frozen? ⟨w.heap.size, 0, none⟩ = false := (hk.frozen (cell_lt s0) hno).trans f0
 have HP2 := Lib.hid hp
 clear hk hp s0 f0 hb
 go_wp2
 refine leaves_cons (f := 161) (args := #[.pointer (some ⟨w.heap.size, 0, none⟩)]) (by simp) (by simp [go_sem]) ?_
 refine (catch_e _ _ _ _ s1 f1).mono ?_
 rintro e u' w'' ⟨rfl, rfl, hc, hk⟩
 have HP3 := Lib.hid (HP.out _ _ hk HP2.out)
 clear hk
 refine ⟨.int .i64 E, by simp [results, Tryz.results87, go_sem, hc], rfl, HP3.out⟩
end Go.Proofs.YtlppdgaogdpajaaGreatDoor
namespace Go.Proofs.YtlppdgaogdpajaaGreatDoor
open Go.RowKit
section
variable {P : Program} {ops : Array Oper} {md : Region.Mode} {Q : Exit → Act → World → Prop} {C : World → Prop}
def wpAnyS (P : Program) (md : Region.Mode) (ops : Array Oper) (C : World → Prop) (Q : Exit → Act → World → Prop) (n : Nat) : Nat → Array Bool → Act → Prop
  | 0, listed, a => Region.ready md ops listed = [] ∧ ∀ W, C W → Q .normal a W
  | fuel + 1, listed, a => (Region.ready md ops listed = [] → ∀ W, C W → Q .normal a W) ∧
    ∀ j ∈ Region.ready md ops listed, ∃ o, ops[j]? = some o ∧
      ((j < n ∧ ∃ v, YieldsIn P ops C o v a ∧ wpAnyS P md ops C Q n fuel (listed.setIfInBounds j true) (a.put o.dst v)) ∨
       (n ≤ j ∧ ∀ W, C W → wpOp P ops Q j (wpAny P md ops Q fuel (listed.setIfInBounds j true)) a W))
theorem wpAny_of_S {n : Nat} : ∀ (fuel : Nat) (listed : Array Bool) (a : Act) (W : World), C W → wpAnyS P md ops C Q n fuel listed a → wpAny P md ops Q fuel listed a W
 | 0, _, _, _, hw, h => ⟨h.1, h.2 _ hw⟩
 | fuel + 1, _, a, W, hw, h => ⟨fun h0 => h.1 h0 _ hw, fun j hj => by
   obtain ⟨o, ho, h1 | ⟨_, h1⟩⟩ := h.2 j hj
   ·obtain ⟨_, v, hy, hk⟩ := h1
    exact wpOp_of_yields ho hw hy fun W' hW' => wpAny_of_S fuel _ _ _ hW' hk
   ·exact h1 _ hw⟩
theorem wpAnyS_first {n i : Nat} {oi : Oper} {v : Value} (hi : ops[i]? = some oi) (hsel : ∀ (j : Nat) (o : Oper) cs b, ops[j]? = some o → o.op ≠ .select cs b)
  (hs : Region.sinkB md ops n = true) (hc : Region.chainB md ops n = true) (hn : n < ops.size) (hin : i < n) :
  ∀ (fuel : Nat) (listed : Array Bool) (a : Act), HeadInv md ops n listed →
   (∀ j oj, ops[j]? = some oj → j ≠ i → listed.getD j true = false → (∀ e ∈ oj.after, Region.binds md e = true → e.on ≠ i) → oi.apart ops oj = true) →
   i ∈ Region.ready md ops listed → YieldsIn P ops C oi v a →
   wpAnyS P md ops C Q n fuel (listed.setIfInBounds i true) (a.put oi.dst v) → wpAnyS P md ops C Q n (fuel + 1) listed a := by
 intro fuel
 induction fuel with
 | zero =>
  intro listed a _ _ hr hy H
  refine ⟨fun h => (by rw [h] at hr; cases hr), fun j hj => ?_⟩
  by_cases hji : j = i
  ·subst hji; exact ⟨oi, hi, .inl ⟨hin, v, hy, H⟩⟩
  ·have := ready_mono hj hji
   rw [H.1] at this
   cases this
 | succ fuel ih =>
  intro listed a inv hfree hr hy H
  refine ⟨fun h => (by rw [h] at hr; cases hr), fun j hj => ?_⟩
  by_cases hji : j = i
  ·subst hji; exact ⟨oi, hi, .inl ⟨hin, v, hy, H⟩⟩
  obtain ⟨oj, hoj, h1⟩ := H.2 j (ready_mono hj hji)
  obtain ⟨hjun, oj', hoj', hall⟩ := mem_ready.1 hj
  obtain rfl : oj' = oj := Option.some.inj (hoj'.symm.trans hoj)
  have hun0 := (mem_ready.1 hr).1
  have hun := listed_lt hun0
  rcases h1 with ⟨hjn, u, hu, hk⟩ | ⟨hjn, _⟩
  ·have hnot : ∀ e ∈ oj'.after, Region.binds md e = true → e.on ≠ i := fun e he hb heq => by
    have h1 := hall e he hb
    rw [heq, hun.1] at h1
    cases h1
   have hap := hfree j oj' hoj hji hjun hnot
   obtain ⟨p1, p2, p3⟩ := Oper.apart_spec hap
   refine ⟨oj', hoj, .inl ⟨hjn, u, hu.of_same (execOp_put oj' (fun cs b => hsel j oj' cs b hoj) a oi.dst v p1).symm (wanted_put oj' a oi.dst v p1).symm, ?_⟩⟩
   have hfree' : ∀ k ok, ops[k]? = some ok → k ≠ i → (listed.setIfInBounds j true).getD k true = false →
     (∀ e ∈ ok.after, Region.binds md e = true → e.on ≠ i) → oi.apart ops ok = true := fun k ok hk hki hun' hno => by
    refine hfree k ok hk hki ?_ hno
    by_cases hjk : j = k
    ·subst hjk; exact hjun
    ·rw [getD_set_ne true hjk] at hun'; exact hun'
   refine ih (listed.setIfInBounds j true) (a.put oj'.dst u) (inv.set hj hjn) hfree' (ready_mono hr (Ne.symm hji))
    (hy.of_same (execOp_put oi (fun cs b => hsel i oi cs b hi) a oj'.dst u p3) (wanted_put oi a oj'.dst u p3)) ?_
   rw [Array.setIfInBounds_comm _ _ hji, ← Act.put_comm a v u p2]
   exact hk
  ·exact absurd hj (tail_waits hs hc hn inv _ i rfl hin hun0 j hjn)
def headS (md : Region.Mode) (ops : Array Oper) (g : Nat) : Nat → Nat → Array Bool → Bool
 | 0, k, listed => tailB md ops g k listed
 | f + 1, k, listed => (Region.ready md ops listed).contains k && Region.free md ops listed k && headS md ops g f (k + 1) (listed.setIfInBounds k true)
theorem wpAnyS_lex {n : Nat} (hsel : Region.noSelect ops = true) (hs : Region.sinkB md ops n = true) (hc : Region.chainB md ops n = true) (hn : n < ops.size) (t : List Oper) (ht : t ≠ []) :
  ∀ (l : List Oper) (k : Nat) (listed : Array Bool) (a : Act), (∀ j, (l ++ t)[j]? = ops[k + j]?) → k + l.length = n → HeadInv md ops n listed →
  headS md ops t.length l.length k listed = true → wpQuiet P ops C (fun a' => ∀ W, C W → wpList P ops Q t a' W) l a → wpAnyS P md ops C Q n (l ++ t).length listed a
 | [], k, listed, a, hl, hk, _, hB, h => by
  have hkn : k = n := by simpa using hk
  subst hkn
  simp only [List.length_nil, headS] at hB
  obtain ⟨o, t', rfl⟩ := List.exists_cons_of_ne_nil ht
  have h0 : ops[k]? = some o := by simpa using (hl 0).symm
  have hB2 := hB
  simp only [List.length_cons, tailB, Bool.and_eq_true, decide_eq_true_eq] at hB2
  refine ⟨fun h1 => (by rw [hB2.1] at h1; cases h1), fun j hj => ?_⟩
  rw [hB2.1] at hj
  have hjk : j = k := by simpa using hj
  subst hjk
  refine ⟨o, h0, .inr ⟨Nat.le_refl _, fun W hW => ?_⟩⟩
  have hw : wpOp P ops Q j (wpList P ops Q t') a W := by unfold wpOp; simp only [h0]; exact h W hW
  exact wpOp_mono (fun a' w' h' => wpAny_of_tail t' (j + 1) _ a' w' (fun i => by have := hl (i + 1); simpa [Nat.add_assoc, Nat.add_comm 1 i] using this) hB2.2 h') hw
 | o :: l, k, listed, a, hl, hk, inv, hB, h => by
  have h0 : ops[k]? = some o := by simpa using (hl 0).symm
  simp only [List.length_cons, headS, Bool.and_eq_true] at hB
  obtain ⟨⟨hr, hf⟩, hB'⟩ := hB
  have hkn : k < n := by simp only [List.length_cons] at hk; omega
  have hr' : k ∈ Region.ready md ops listed := by simpa using hr
  have hst : qOp P ops C k (wpQuiet P ops C (fun a' => ∀ W, C W → wpList P ops Q t a' W) l) a := by unfold qOp; simp only [h0]; exact h
  obtain ⟨v, hy, hK⟩ := yieldsIn_of_qOp h0 hst
  exact wpAnyS_first h0 (Region.noSelect_spec hsel) hs hc hn hkn (l ++ t).length listed a inv (Region.free_spec h0 hf) hr' hy
   (wpAnyS_lex hsel hs hc hn t ht l (k + 1) _ _ (fun j => by have := hl (j + 1); simpa [Nat.add_assoc, Nat.add_comm 1 j] using this) (by simp only [List.length_cons] at hk; omega) (inv.set hr' hkn) hB' hK)
theorem wp_region_sink {id : Nat} {a : Act} {w : World} {l : List Oper} (n : Nat) (w0 : World) (hm : P.follows .mixedOrders = true)
  (hB : (Region.noSelect l.toArray && decide (n < l.length) && Region.sinkB .any l.toArray n && Region.chainB .any l.toArray n && headS .any l.toArray (l.length - n) n 0 (Array.replicate l.length false)) = true) (hw : Below w0.heap.size w0 w)
  (h : wpQuiet P l.toArray (fun w' => ∃ x : Later w0, w' = x.1) (fun a' => ∀ x : Later w0, wpList P l.toArray Q (l.drop n) a' x.1) (l.take n) a) : (Code.region id l.toArray true).wp P Q a w := by
 simp only [Bool.and_eq_true, decide_eq_true_eq] at hB
 obtain ⟨⟨⟨⟨hsel, hn⟩, hs⟩, hc⟩, hB⟩ := hB
 have htl : (l.take n).length = n := by simp; omega
 refine wp_region_any hm (wpAny_of_S (C := fun w' => ∃ x : Later w0, w' = x.1) (n := n) _ _ _ _ ⟨⟨_, hw.drew⟩, rfl⟩ ?_)
 have e : (fun a' => ∀ x : Later w0, wpList P l.toArray Q (l.drop n) a' x.1) = (fun a' => ∀ w', (∃ x : Later w0, w' = x.1) → wpList P l.toArray Q (l.drop n) a' w') := by
  funext a'; exact propext ⟨fun h w' ⟨x, hx⟩ => hx ▸ h x, fun h x => h _ ⟨x, rfl⟩⟩
 rw [e] at h
 have hn' : n < l.toArray.size := by simpa using hn
 have inv0 : HeadInv .any l.toArray n (Array.replicate l.length false) :=
  ⟨by simp, fun j oj _ hl => (by rw [getD_replicate_false] at hl; cases hl), fun t _ ht => getD_in (by simpa using ht) (getD_replicate_false _ _)⟩
 have := wpAnyS_lex (md := .any) (C := fun w' => ∃ x : Later w0, w' = x.1) (Q := Q) hsel hs hc hn' (l.drop n) (by simp; omega) (l.take n) 0 (Array.replicate l.length false) a (by simp) (by rw [htl]; omega) inv0 (by rw [htl, List.length_drop]; exact hB) h
 simpa using this
end
end Go.Proofs.YtlppdgaogdpajaaGreatDoor
